/- What the law MergeBottom reaches besides, and its walk. -/
import Derived.Test.YthfalpibhcjpgaaMzA
set_option linter.unusedVariables false
set_option linter.unusedSimpArgs false
section
/- The walk of MergeBottom: at the bottom no key's last version says: gone; elsewhere each key's first one stays. -/
namespace Go.Proofs.Ythfalpibhcjpgaa
open Go.RowKit Go.Proofs.YthfalpibhcjpgaaW.PrintWords
set_option linter.unusedVariables false

theorem ldStr {P : Program} (w : World) (ty : TypeId) (hu : P.underlying ty = some .string) (a : Addr) (v : Value) (hc : w.cell? a = some v) : (loadVar ty a).run P w = .ok v w := by
  have hagg : (isAgg ty).run P w = .ok false w := by
    unfold isAgg
    rw [Sem.run_bind, run_underlying hu w]
    simp
  simp [loadVar, Sem.run_bind, hagg, hc]
theorem ldNum {P : Program} (w : World) (ty : TypeId) (k : IntKind) (hu : P.underlying ty = some (.int k)) (a : Addr) (v : Value) (hc : w.cell? a = some v) : (loadVar ty a).run P w = .ok v w := by
  have hagg : (isAgg ty).run P w = .ok false w := by
    unfold isAgg
    rw [Sem.run_bind, run_underlying hu w]
    simp
  simp [loadVar, Sem.run_bind, hagg, hc]
theorem getE_eq (l : List Ent) (i : Nat) (h : i < l.length) : l.getD i zEnt = l[i] := by
  rw [List.getD_eq_getElem?_getD, List.getElem?_eq_getElem h]; rfl
theorem cut_at (l : List Ent) (i : Nat) (h : i < l.length) : l = l.take i ++ l.getD i zEnt :: l.drop (i + 1) := by
  rw [getE_eq l i h, ← List.drop_eq_getElem_cons h, List.take_append_drop]
theorem bot_kind (l : List Ent) (S : List Int) (hz : thinErr l S = 0) (i : Nat) (hi : i < (thn S true l).length) (h : i + 1 < (thn S true l).length → ((thn S true l).getD (i + 1) zEnt).1 ≠ ((thn S true l).getD i zEnt).1) : ((thn S true l).getD i zEnt).2.2.1 = 1 := by
  have ho := (thin_ord l S hz).1
  have hx : (thn S true l).getD i zEnt ∈ thn S true l := by rw [getE_eq _ i hi]; exact List.getElem_mem _
  have hm := ord_all _ (thn_ord S true l ho) _ hx
  rcases hm.2.2.2.2.1 with h1 | h1
  · exact h1
  · refine absurd h1 (thn_bottom S l (ord_pw l ho) _ _ _ (cut_at _ i hi) ?_)
    intro y hy
    rw [List.head?_drop] at hy
    have hi1 : i + 1 < (thn S true l).length := (List.getElem?_eq_some_iff.1 hy).1
    have := h hi1
    rw [List.getD_eq_getElem?_getD, hy] at this
    exact this
theorem first_in (l : List Ent) (S : List Int) (hz : thinErr l S = 0) (i : Nat) (hi : i < l.length) (h : 0 < i → (l.getD (i - 1) zEnt).1 ≠ (l.getD i zEnt).1) : l.getD i zEnt ∈ thn S false l := by
  have ho := (thin_ord l S hz).1
  refine thn_first S l (ord_pw l ho) _ _ _ (cut_at l i hi) ?_
  intro y hy
  by_cases h0 : i = 0
  · subst h0; cases hy
  · have hn : (l.take i).getLast? = some (l.getD (i - 1) zEnt) := by
      rw [List.getLast?_take, if_neg h0, getE_eq l (i - 1) (by omega), List.getElem?_eq_getElem (by omega : i - 1 < l.length)]; rfl
    rw [hn] at hy
    injection hy with hy
    rw [← hy]
    exact h (by omega)
theorem eqb_iff (yk xk yv xv : ByteArray) (yq xq yd xd : Int) : ((yk.toList == xk.toList && (yq == xq && (yd == xd && yv.toList == xv.toList))) = true) = (((yk, yq, yd, yv) : Ent) = (xk, xq, xd, xv)) := by
  apply propext
  simp only [Bool.and_eq_true, beq_iff_eq, Prod.mk.injEq]
  constructor
  · rintro ⟨h1, h2, h3, h4⟩
    exact ⟨bl_inj (of_decide_eq_true (by rw [← same_bl]; exact beq_iff_eq.2 h1)), h2, h3, bl_inj (of_decide_eq_true (by rw [← same_bl]; exact beq_iff_eq.2 h4))⟩
  · rintro ⟨rfl, rfl, rfl, rfl⟩
    exact ⟨rfl, rfl, rfl, rfl⟩
noncomputable def inE (F : List Ent) (x : Ent) : Bool := @decide (x ∈ F) (Classical.propDecidable _)
theorem inE_iff (F : List Ent) (x : Ent) : inE F x = true ↔ x ∈ F := by unfold inE; exact @decide_eq_true_iff _ (Classical.propDecidable _)
theorem in_next (F : List Ent) (k : Nat) (hk : k < F.length) (tk yk tv yv : ByteArray) (tq yq td yd : Int) (ht : F.getD k zEnt = (tk, tq, td, tv)) (b : Bool) (hb : b = inE (F.take k) (yk, yq, yd, yv)) : inE (F.take (k + 1)) (yk, yq, yd, yv) = (b || (tk.toList == yk.toList && (tq == yq && (td == yd && tv.toList == yv.toList)))) := by
  rw [Bool.eq_iff_iff, inE_iff, takeE_next F k hk, List.mem_append, List.mem_singleton, Bool.or_eq_true, eqb_iff, hb, inE_iff, ht]
  exact or_congr Iff.rfl eq_comm
set_option maxRecDepth 100000 in
set_option maxHeartbeats 6400000 in
theorem bottom_walk (A : Option Addr) (c : Nat) (l : List Ent) (B : Option Addr) (d : Nat) (S : List Int) (w : World) (hr : RdE w A c l) (hl : l.length * 48 ≤ 140737488351232) (hs : RdI w B d S) (hl2 : S.length ≤ 140737488351232) :
    Calls Try.prog 5 #[.slice A l.length c, .slice B S.length d] w fun e w' => e = .returned (.bool true) ∧ Below w.heap.size w w' := by
  have hT := fun W (h : RdE W A c l) (h2 : RdI W B d S) => Thin_any A B c d _ _ l S true W rfl rfl h h2 hl hl2
  have hF := fun W (h : RdE W A c l) (h2 : RdI W B d S) => Thin_any A B c d _ _ l S false W rfl rfl h h2 hl hl2
  by_cases hz : thinErr l S = 0
  · simp only [hz, ne_eq, not_true, false_and, false_or, true_and] at hT hF
    have hBK := bot_kind l S hz
    have hFI := first_in l S hz
    have hle := thn_len S true l hz
    have hle2 := thn_len S false l hz
    obtain ⟨T, hTT⟩ : ∃ T, thn S true l = T := ⟨_, rfl⟩
    obtain ⟨F, hFF⟩ : ∃ F, thn S false l = F := ⟨_, rfl⟩
    rw [hTT] at hT hBK hle
    rw [hFF] at hF hFI hle2
    obtain ⟨m, hm⟩ : ∃ m, S.length = m := ⟨_, rfl⟩
    obtain ⟨n, hn⟩ : ∃ n, l.length = n := ⟨_, rfl⟩
    obtain ⟨q, hq⟩ : ∃ q, T.length = q := ⟨_, rfl⟩
    obtain ⟨p, hp⟩ : ∃ p, F.length = p := ⟨_, rfl⟩
    rw [hn] at hl hle hle2
    rw [hq] at hle
    rw [hp] at hle2
    have hn47 : n ≤ 140737488351232 := by omega
    have hq47 : q ≤ 140737488351232 := by omega
    have hp47 : p ≤ 140737488351232 := by omega
    rw [hm, hn] at hT hF ⊢
    have HQ := hide hq
    have HP := hide hp
    have HN := hide hn
    have HBK := hide hBK
    have HFI := hide hFI
    clear hz hle hle2 hTT hFF hm hn hq hp hl hl2 hBK hFI
    go_enter Try.func5, Try.ntmps5
    go_wp2_with (first
      | (go_at_call 7; (with_reducible refine (alive_any _).mono ?_); rintro e w1 ⟨rfl, HB1⟩; have r1 := hr.below HB1; have s1 := hs.below HB1)
      | (go_at_call 8; (with_reducible refine (hT _ r1 s1).mono ?_); rintro e w2 ⟨⟨v2, rfl, O2⟩, HB2⟩; obtain ⟨A2, c2, hv2, r2⟩ := O2.rd; rw [HQ.out] at hv2; subst hv2; have C2 := stq HB1 HB2; have s2 := s1.below HB2; have rl2 := r1.below HB2)
      | (go_at_call 8; (with_reducible refine (hF _ rl2 s2).mono ?_); rintro e w3 ⟨⟨v3, rfl, O3⟩, HB3⟩; obtain ⟨A3, c3, hv3, r3⟩ := O3.rd; rw [HP.out] at hv3; subst hv3; have C3 := stq C2 HB3; have r23 := r2.below HB3; have rl3 := rl2.below HB3)
      | (go_at_call 9; (with_reducible refine (num_any _ _).mono ?_); rintro e w' ⟨rfl, rfl⟩))
    go_loopw [9] (fun iv wr => ∃ i : Nat, i ≤ q ∧ iv = .int .i64 (i : Int) ∧ Below w3.heap.size w3 wr) (fun iv _ => q - (intOf iv).toNat)
    case atStart => exact ⟨0, Nat.zero_le _, rfl, Below.refl _ _⟩
    case round =>
      obtain ⟨i, hi, rfl, HB⟩ := hrel
      by_cases hlt : i < q
      · have hlti : (i : Int) < (q : Int) := Int.ofNat_lt.2 hlt
        obtain ⟨hw1, hw2⟩ := idx_w q i hlt hq47
        have hK := HBK.out i (by rw [HQ.out]; exact hlt)
        rw [HQ.out] at hK
        obtain ⟨ad, e1, x0, -, x2, -⟩ := RdE.at4 (r23.below HB) i (by rw [HQ.out]; exact hlt)
        subst e1
        obtain ⟨y, hy⟩ : ∃ y, T.getD i zEnt = y := ⟨_, rfl⟩
        rw [hy] at x0 x2 hK
        obtain ⟨yk, hyk⟩ : ∃ z, y.1 = z := ⟨_, rfl⟩
        obtain ⟨yd, hyd⟩ : ∃ z, y.2.2.1 = z := ⟨_, rfl⟩
        rw [hyk] at x0 hK
        rw [hyd] at x2 hK
        have Ly : ∀ w', Below wr.heap.size wr w' → (loadVar 9 (ad.add (i * 4))).run Try.prog w' = .ok (.string yk) w' := fun w' hb => ldStr w' 9 Try.underlying9 _ _ ((hb.cell (World.block_lt_of_cell? _ _ x0)).trans x0)
        have Ld : ∀ w', Below wr.heap.size wr w' → (loadVar 3 ⟨(ad.add (i * 4)).block, (ad.add (i * 4)).off + 2, none⟩).run Try.prog w' = .ok (.int .i64 yd) w' := fun w' hb => ldNum w' 3 _ Try.underlying3 _ _ ((hb.cell (World.block_lt_of_cell? _ _ x2)).trans x2)
        obtain ⟨q1, hq1⟩ : ∃ q1, q - 1 = q1 := ⟨_, rfl⟩
        have hkm : wrap64 ((q : Int) - 1) = (q1 : Int) := by unfold wrap64; omega
        have hkm2 : IntKind.i64.wrap ((q : Int) - 1) = (q1 : Int) := by rw [IntKind.wrap_i64]; omega
        clear hy hyk hyd
        by_cases hl1 : i + 1 < q
        · have hiq : ¬ (i : Int) = (q1 : Int) := by omega
          have hiqn : ¬ i = q1 := by omega
          have hiqb : ((i : Int) == (q1 : Int)) = false := beq_eq_false_iff_ne.2 hiq
          obtain ⟨ad', had, u0, -, -, -⟩ := RdE.at4 (r23.below HB) (i + 1) (by rw [HQ.out]; exact hl1)
          injection had with had
          subst had
          have hl1i : ((i + 1 : Nat) : Int) < (q : Int) := Int.ofNat_lt.2 hl1
          obtain ⟨k1, hk1⟩ : ∃ k1, i + 1 = k1 := ⟨_, rfl⟩
          have HK1 := hide hk1
          obtain ⟨tk, htk⟩ : ∃ z, (T.getD (i + 1) zEnt).1 = z := ⟨_, rfl⟩
          rw [htk] at u0 hK
          rw [hk1] at u0 hw1 hw2 hl1i
          have Lt : ∀ w', Below wr.heap.size wr w' → (loadVar 9 (ad.add (k1 * 4))).run Try.prog w' = .ok (.string tk) w' := fun w' hb => ldStr w' 9 Try.underlying9 _ _ ((hb.cell (World.block_lt_of_cell? _ _ u0)).trans u0)
          by_cases hkk : tk = yk
          · have hse : (tk.toList == yk.toList) = true := by rw [hkk]; simp
            clear hq1 hk1 htk hK hkk hl1 x0 x2 u0
            go_wp2
            refine wp_region_below wr.heap.size wr (Below.refl _ _) (by kernel_rfl) (by kernel_rfl) ?_
            repeat (go_big_quiet_step ((intro hb; rfl)))
            refine quiet_loadW (by rfl) 9 _ rfl (ad.add (k1 * 4)) rfl (.string tk) Lt ?_
            simp only [Act.put, List.setIfInBounds_toArray, List.set_cons_zero, List.set_cons_succ]
            repeat (go_big_quiet_step ((intro hb; rfl)))
            refine quiet_loadW (by rfl) 9 _ rfl (ad.add (i * 4)) rfl (.string yk) Ly ?_
            simp only [Act.put, List.setIfInBounds_toArray, List.set_cons_zero, List.set_cons_succ]
            repeat (go_big_quiet_step ((intro hb; rfl)))
            refine wpQuiet_nil ?_
            intro wq HW
            go_wp2
            go_roundw
            case rel => exact ⟨i + 1, hlt, by first | go_num | (rw [HK1.out]; go_num) | (rw [HK1.out]), HB.trans (HW.mono HB.size)⟩
            case measure => first | exact idx_m q i hlt | exact idx_m2 q i hlt | exact idx_m3 q i hlt hw1 | (rw [← HK1.out]; exact idx_m q i hlt)
          · have hse : (tk.toList == yk.toList) = false := by rw [same_bl]; exact decide_eq_false (fun e => hkk (bl_inj e))
            obtain rfl : yd = 1 := hK (fun _ => hkk)
            clear hq1 hk1 htk hK hkk hl1 x0 x2 u0
            go_wp2
            refine wp_region_below wr.heap.size wr (Below.refl _ _) (by kernel_rfl) (by kernel_rfl) ?_
            repeat (go_big_quiet_step ((intro hb; rfl)))
            refine quiet_loadW (by rfl) 9 _ rfl (ad.add (k1 * 4)) rfl (.string tk) Lt ?_
            simp only [Act.put, List.setIfInBounds_toArray, List.set_cons_zero, List.set_cons_succ]
            repeat (go_big_quiet_step ((intro hb; rfl)))
            refine quiet_loadW (by rfl) 9 _ rfl (ad.add (i * 4)) rfl (.string yk) Ly ?_
            simp only [Act.put, List.setIfInBounds_toArray, List.set_cons_zero, List.set_cons_succ]
            repeat (go_big_quiet_step ((intro hb; rfl)))
            refine quiet_loadW (by rfl) 3 _ rfl ⟨(ad.add (i * 4)).block, (ad.add (i * 4)).off + 2, none⟩ rfl (.int .i64 1) Ld ?_
            simp only [Act.put, List.setIfInBounds_toArray, List.set_cons_zero, List.set_cons_succ]
            repeat (go_big_quiet_step ((intro hb; rfl)))
            refine wpQuiet_nil ?_
            intro wq HW
            go_wp2
            go_roundw
            case rel => exact ⟨i + 1, hlt, by first | go_num | (rw [HK1.out]; go_num) | (rw [HK1.out]), HB.trans (HW.mono HB.size)⟩
            case measure => first | exact idx_m q i hlt | exact idx_m2 q i hlt | exact idx_m3 q i hlt hw1 | (rw [← HK1.out]; exact idx_m q i hlt)
        · obtain rfl : i = q1 := by omega
          obtain rfl : yd = 1 := hK (fun h => absurd h hl1)
          clear hq1 hK hl1 x0 x2
          go_wp2
          refine wp_region_below wr.heap.size wr (Below.refl _ _) (by kernel_rfl) (by kernel_rfl) ?_
          repeat (go_big_quiet_step ((intro hb; rfl)))
          refine quiet_loadW (by rfl) 3 _ rfl ⟨(ad.add (i * 4)).block, (ad.add (i * 4)).off + 2, none⟩ rfl (.int .i64 1) Ld ?_
          simp only [Act.put, List.setIfInBounds_toArray, List.set_cons_zero, List.set_cons_succ]
          repeat (go_big_quiet_step ((intro hb; rfl)))
          refine wpQuiet_nil ?_
          intro wq HW
          go_wp2
          go_roundw
          case rel => exact ⟨i + 1, hlt, by go_num, HB.trans (HW.mono HB.size)⟩
          case measure => first | exact idx_m q i hlt | exact idx_m2 q i hlt | exact idx_m3 q i hlt hw1
      · obtain rfl : i = q := Nat.le_antisymm hi (Nat.not_lt.1 hlt)
        have r3 := r3.below HB
        have rl3 := rl3.below HB
        have C3 := stq C3 HB
        clear HBK r23 hlt
        obtain ⟨W0, rfl⟩ : ∃ z : World, z = wr := ⟨wr, rfl⟩
        go_wp2
        go_loopw [10] (fun iv wr => ∃ i : Nat, i ≤ n ∧ iv = .int .i64 (i : Int) ∧ Below W0.heap.size W0 wr) (fun iv _ => n - (intOf iv).toNat)
        case atStart => exact ⟨0, Nat.zero_le _, rfl, Below.refl _ _⟩
        case round =>
          obtain ⟨i, hi, rfl, HB⟩ := hrel
          by_cases hlt : i < n
          · have hlti : (i : Int) < (n : Int) := Int.ofNat_lt.2 hlt
            obtain ⟨hw1, hw2⟩ := idx_w n i hlt hn47
            have hI := HFI.out i (by rw [HN.out]; exact hlt)
            obtain ⟨ad, e1, -⟩ := RdE.at4 (rl3.below HB) i (by rw [HN.out]; exact hlt)
            subst e1
            have hX : ∀ W, Below W0.heap.size W0 W → W.cell? (ad.add (i * 4)) = some (.string (l.getD i zEnt).1) ∧ W.cell? ⟨(ad.add (i * 4)).block, (ad.add (i * 4)).off + 1, none⟩ = some (.int .i64 (l.getD i zEnt).2.1) ∧ W.cell? ⟨(ad.add (i * 4)).block, (ad.add (i * 4)).off + 2, none⟩ = some (.int .i64 (l.getD i zEnt).2.2.1) ∧ W.cell? ⟨(ad.add (i * 4)).block, (ad.add (i * 4)).off + 3, none⟩ = some (.string (l.getD i zEnt).2.2.2) := fun W h => (by
              obtain ⟨ad', e', k0, k1, k2, k3⟩ := RdE.at4 (rl3.below h) i (by rw [HN.out]; exact hlt)
              injection e' with e'
              subst e'
              exact ⟨k0, k1, k2, k3⟩)
            obtain ⟨⟨yk, yq, yd, yv⟩, hy⟩ : ∃ y, l.getD i zEnt = y := ⟨_, rfl⟩
            rw [hy] at hX hI
            simp only at hX hI
            obtain ⟨x0, -, -, -⟩ := hX _ HB
            have HX := hide hX
            have HI := hide hI
            clear hX hI hy
            by_cases h0 : i = 0
            · subst h0
              have hFx := hide (HI.out (fun h => absurd h (Nat.lt_irrefl 0)))
              clear HI
              go_wp2
              refine wp_region_below wr.heap.size wr (Below.refl _ _) (by kernel_rfl) (by kernel_rfl) ?_
              repeat (go_big_quiet_step ((intro hb; rfl)))
              refine wpQuiet_nil ?_
              intro wq HW
              have HBq := HB.trans (HW.mono HB.size)
              clear HW
              go_wp2
              go_loopw [11, 12] (fun bv kv wr2 => ∃ (k : Nat) (bb : Bool), k ≤ p ∧ kv = .int .i64 (k : Int) ∧ bv = .bool bb ∧ bb = inE (F.take k) (yk, yq, yd, yv) ∧ Below wq.heap.size wq wr2) (fun bv kv _ => p - (intOf kv).toNat)
              case atStart => exact ⟨0, false, Nat.zero_le _, rfl, rfl, (Bool.eq_false_iff.2 (fun h => by have := (inE_iff _ _).1 h; simp at this)).symm, Below.refl _ _⟩
              case round =>
                obtain ⟨k, bb, hk, rfl, rfl, hbb, HBk⟩ := hrel
                have HBB := hide hbb
                clear hbb
                by_cases hlk : k < p
                · have hlki : (k : Int) < (p : Int) := Int.ofNat_lt.2 hlk
                  obtain ⟨hv1, hv2⟩ := idx_w p k hlk hp47
                  have HBz := HBq.trans (HBk.mono HBq.size)
                  obtain ⟨ad2, e2, z0, z1, z2, z3⟩ := RdE.at4 (r3.below HBz) k (by rw [HP.out]; exact hlk)
                  subst e2
                  obtain ⟨⟨tk, tq, td, tv⟩, ht⟩ : ∃ y, F.getD k zEnt = y := ⟨_, rfl⟩
                  have HNX := hide (in_next F k (by rw [HP.out]; exact hlk) tk yk tv yv tq yq td yd ht bb HBB.out)
                  rw [ht] at z0 z1 z2 z3
                  simp only at z0 z1 z2 z3
                  obtain ⟨u0, u1, u2, u3⟩ := HX.out _ HBz
                  clear ht
                  rw [Nat.zero_mul, add_zero_] at u0 u1 u2 u3
                  cases bb with
                  | true =>
                    go_wp2
                    refine wp_region_below wr.heap.size wr (Below.refl _ _) (by kernel_rfl) (by kernel_rfl) ?_
                    repeat (go_big_quiet_step ((intro hb; rfl)))
                    refine wpQuiet_nil ?_
                    intro wz HWz
                    go_wp2
                    go_roundw
                    case rel => exact ⟨k + 1, true, hlk, by go_num, rfl, by rw [HNX.out]; rfl, HBk.trans (HWz.mono HBk.size)⟩
                    case measure => first | exact idx_m p k hlk | exact idx_m2 p k hlk | exact idx_m3 p k hlk hv1
                  | false =>
                    have hEq := fun d W => PB.eqA36 d W tk yk tq yq td yd tv yv
                    have hS0 : wr.drew.cell? (ad2.add (k * 4)) = some (.string tk) ∧ wr.drew.cell? ⟨(ad2.add (k * 4)).block, (ad2.add (k * 4)).off + 1, none⟩ = some (.int .i64 tq) ∧ wr.drew.cell? ⟨(ad2.add (k * 4)).block, (ad2.add (k * 4)).off + 2, none⟩ = some (.int .i64 td) ∧ wr.drew.cell? ⟨(ad2.add (k * 4)).block, (ad2.add (k * 4)).off + 3, none⟩ = some (.string tv) ∧ wr.drew.cell? ad = some (.string yk) ∧ wr.drew.cell? ⟨ad.block, ad.off + 1, none⟩ = some (.int .i64 yq) ∧ wr.drew.cell? ⟨ad.block, ad.off + 2, none⟩ = some (.int .i64 yd) ∧ wr.drew.cell? ⟨ad.block, ad.off + 3, none⟩ = some (.string yv) := ⟨z0, z1, z2, z3, u0, u1, u2, u3⟩
                    go_wp2
                    go_region_held3 (fun w' => w'.cell? (ad2.add (k * 4)) = some (.string tk) ∧ w'.cell? ⟨(ad2.add (k * 4)).block, (ad2.add (k * 4)).off + 1, none⟩ = some (.int .i64 tq) ∧ w'.cell? ⟨(ad2.add (k * 4)).block, (ad2.add (k * 4)).off + 2, none⟩ = some (.int .i64 td) ∧ w'.cell? ⟨(ad2.add (k * 4)).block, (ad2.add (k * 4)).off + 3, none⟩ = some (.string tv) ∧ w'.cell? ad = some (.string yk) ∧ w'.cell? ⟨ad.block, ad.off + 1, none⟩ = some (.int .i64 yq) ∧ w'.cell? ⟨ad.block, ad.off + 2, none⟩ = some (.int .i64 yd) ∧ w'.cell? ⟨ad.block, ad.off + 3, none⟩ = some (.string yv)) (first | exact hS0 | assumption) (first | (go_at_call 8))
                    have HWz : Below wr.heap.size wr wr.drew := (Below.refl _ _).drew
                    clear hEq hS0
                    go_wp2
                    go_roundw
                    case rel => exact ⟨k + 1, _, hlk, by go_num, rfl, by rw [HNX.out]; first | rfl | (simp; done), HBk.trans (HWz.mono HBk.size)⟩
                    case measure => first | exact idx_m p k hlk | exact idx_m2 p k hlk | exact idx_m3 p k hlk hv1
                · obtain rfl : k = p := Nat.le_antisymm hk (Nat.not_lt.1 hlk)
                  obtain rfl : bb = true := by rw [HBB.out, List.take_of_length_le (by rw [HP.out]; exact Nat.le_refl _)]; exact (inE_iff _ _).2 hFx.out
                  have HBz := HBq.trans (HBk.mono HBq.size)
                  clear hlk
                  go_wp2
                  go_roundw
                  case rel => exact ⟨0 + 1, hlt, by go_num, HBz⟩
                  case measure => first | exact idx_m n 0 hlt | exact idx_m2 n 0 hlt | exact idx_m3 n 0 hlt hw1
            · obtain ⟨j, rfl⟩ : ∃ j, i = j + 1 := ⟨i - 1, by omega⟩
              obtain ⟨ad', had, u0, -, -, -⟩ := RdE.at4 (rl3.below HB) j (by rw [HN.out]; omega)
              injection had with had
              subst had
              rw [Nat.add_sub_cancel] at HI
              obtain ⟨k1, hk1⟩ : ∃ k1, j + 1 = k1 := ⟨_, rfl⟩
              have HK1 := hide hk1
              obtain ⟨tk, htk⟩ : ∃ z, (l.getD j zEnt).1 = z := ⟨_, rfl⟩
              rw [htk] at u0 HI
              rw [hk1] at HX HI x0 hw1 hw2 hlt hlti hi ⊢
              have hkm : wrap64 ((k1 : Int) - 1) = (j : Int) := by unfold wrap64; omega
              have hkm2 : IntKind.i64.wrap ((k1 : Int) - 1) = (j : Int) := by rw [IntKind.wrap_i64]; omega
              have hk0 : (0 : Int) < (k1 : Int) := by omega
              have hk0n : 0 < k1 := by omega
              have hjn : (j : Int) < (n : Int) := by omega
              have hS1 : wr.drew.cell? (ad.add (j * 4)) = some (.string tk) ∧ wr.drew.cell? (ad.add (k1 * 4)) = some (.string yk) := ⟨u0, x0⟩
              clear hk1 htk h0 x0 u0
              by_cases hkk : tk = yk
              · have hse : (tk.toList == yk.toList) = true := by rw [hkk]; simp
                clear hkk HI
                go_wp2
                go_region_held3 (fun w' => w'.cell? (ad.add (j * 4)) = some (.string tk) ∧ w'.cell? (ad.add (k1 * 4)) = some (.string yk)) (first | exact hS1 | assumption) (first | (go_at_call 8))
                have HBq : Below W0.heap.size W0 wr.drew := HB.drew
                clear hS1
                generalize wr.drew = wq at HBq ⊢
                go_wp2
                go_roundw
                case rel => exact ⟨k1 + 1, hlt, by go_num, HBq⟩
                case measure => first | exact idx_m n k1 hlt | exact idx_m2 n k1 hlt | exact idx_m3 n k1 hlt hw1
              · have hse : (tk.toList == yk.toList) = false := by rw [same_bl]; exact decide_eq_false (fun e => hkk (bl_inj e))
                have hFx := hide (HI.out (fun _ => hkk))
                clear hkk HI
                go_wp2
                go_region_held3 (fun w' => w'.cell? (ad.add (j * 4)) = some (.string tk) ∧ w'.cell? (ad.add (k1 * 4)) = some (.string yk)) (first | exact hS1 | assumption) (first | (go_at_call 8))
                have HBq : Below W0.heap.size W0 wr.drew := HB.drew
                clear hS1
                generalize wr.drew = wq at HBq ⊢
                clear hkm hkm2 hk0 hk0n hjn hse
                go_wp2
                go_loopw [11, 12] (fun bv kv wr2 => ∃ (k : Nat) (bb : Bool), k ≤ p ∧ kv = .int .i64 (k : Int) ∧ bv = .bool bb ∧ bb = inE (F.take k) (yk, yq, yd, yv) ∧ Below wq.heap.size wq wr2) (fun bv kv _ => p - (intOf kv).toNat)
                case atStart => exact ⟨0, false, Nat.zero_le _, rfl, rfl, (Bool.eq_false_iff.2 (fun h => by have := (inE_iff _ _).1 h; simp at this)).symm, Below.refl _ _⟩
                case round =>
                  obtain ⟨k, bb, hk, rfl, rfl, hbb, HBk⟩ := hrel
                  have HBB := hide hbb
                  clear hbb
                  by_cases hlk : k < p
                  · have hlki : (k : Int) < (p : Int) := Int.ofNat_lt.2 hlk
                    obtain ⟨hv1, hv2⟩ := idx_w p k hlk hp47
                    have HBz := HBq.trans (HBk.mono HBq.size)
                    obtain ⟨ad2, e2, z0, z1, z2, z3⟩ := RdE.at4 (r3.below HBz) k (by rw [HP.out]; exact hlk)
                    subst e2
                    obtain ⟨⟨tk, tq, td, tv⟩, ht⟩ : ∃ y, F.getD k zEnt = y := ⟨_, rfl⟩
                    have HNX := hide (in_next F k (by rw [HP.out]; exact hlk) tk yk tv yv tq yq td yd ht bb HBB.out)
                    rw [ht] at z0 z1 z2 z3
                    simp only at z0 z1 z2 z3
                    obtain ⟨u0, u1, u2, u3⟩ := HX.out _ HBz
                    clear ht
                    cases bb with
                    | true =>
                      go_wp2
                      refine wp_region_below wr.heap.size wr (Below.refl _ _) (by kernel_rfl) (by kernel_rfl) ?_
                      repeat (go_big_quiet_step ((intro hb; rfl)))
                      refine wpQuiet_nil ?_
                      intro wz HWz
                      go_wp2
                      go_roundw
                      case rel => exact ⟨k + 1, true, hlk, by go_num, rfl, by rw [HNX.out]; rfl, HBk.trans (HWz.mono HBk.size)⟩
                      case measure => first | exact idx_m p k hlk | exact idx_m2 p k hlk | exact idx_m3 p k hlk hv1
                    | false =>
                      have hEq := fun d W => PB.eqA36 d W tk yk tq yq td yd tv yv
                      have hS0 : wr.drew.cell? (ad2.add (k * 4)) = some (.string tk) ∧ wr.drew.cell? ⟨(ad2.add (k * 4)).block, (ad2.add (k * 4)).off + 1, none⟩ = some (.int .i64 tq) ∧ wr.drew.cell? ⟨(ad2.add (k * 4)).block, (ad2.add (k * 4)).off + 2, none⟩ = some (.int .i64 td) ∧ wr.drew.cell? ⟨(ad2.add (k * 4)).block, (ad2.add (k * 4)).off + 3, none⟩ = some (.string tv) ∧ wr.drew.cell? (ad.add (k1 * 4)) = some (.string yk) ∧ wr.drew.cell? ⟨(ad.add (k1 * 4)).block, (ad.add (k1 * 4)).off + 1, none⟩ = some (.int .i64 yq) ∧ wr.drew.cell? ⟨(ad.add (k1 * 4)).block, (ad.add (k1 * 4)).off + 2, none⟩ = some (.int .i64 yd) ∧ wr.drew.cell? ⟨(ad.add (k1 * 4)).block, (ad.add (k1 * 4)).off + 3, none⟩ = some (.string yv) := ⟨z0, z1, z2, z3, u0, u1, u2, u3⟩
                      go_wp2
                      go_region_held3 (fun w' => w'.cell? (ad2.add (k * 4)) = some (.string tk) ∧ w'.cell? ⟨(ad2.add (k * 4)).block, (ad2.add (k * 4)).off + 1, none⟩ = some (.int .i64 tq) ∧ w'.cell? ⟨(ad2.add (k * 4)).block, (ad2.add (k * 4)).off + 2, none⟩ = some (.int .i64 td) ∧ w'.cell? ⟨(ad2.add (k * 4)).block, (ad2.add (k * 4)).off + 3, none⟩ = some (.string tv) ∧ w'.cell? (ad.add (k1 * 4)) = some (.string yk) ∧ w'.cell? ⟨(ad.add (k1 * 4)).block, (ad.add (k1 * 4)).off + 1, none⟩ = some (.int .i64 yq) ∧ w'.cell? ⟨(ad.add (k1 * 4)).block, (ad.add (k1 * 4)).off + 2, none⟩ = some (.int .i64 yd) ∧ w'.cell? ⟨(ad.add (k1 * 4)).block, (ad.add (k1 * 4)).off + 3, none⟩ = some (.string yv)) (first | exact hS0 | assumption) (first | (go_at_call 8))
                      have HWz : Below wr.heap.size wr wr.drew := (Below.refl _ _).drew
                      clear hEq hS0
                      go_wp2
                      go_roundw
                      case rel => exact ⟨k + 1, _, hlk, by go_num, rfl, by rw [HNX.out]; first | rfl | (simp; done), HBk.trans (HWz.mono HBk.size)⟩
                      case measure => first | exact idx_m p k hlk | exact idx_m2 p k hlk | exact idx_m3 p k hlk hv1
                  · obtain rfl : k = p := Nat.le_antisymm hk (Nat.not_lt.1 hlk)
                    obtain rfl : bb = true := by rw [HBB.out, List.take_of_length_le (by rw [HP.out]; exact Nat.le_refl _)]; exact (inE_iff _ _).2 hFx.out
                    have HBz := HBq.trans (HBk.mono HBq.size)
                    clear hlk
                    go_wp2
                    go_roundw
                    case rel => exact ⟨k1 + 1, hlt, by go_num, HBz⟩
                    case measure => first | exact idx_m n k1 hlt | exact idx_m2 n k1 hlt | exact idx_m3 n k1 hlt hw1
          · obtain rfl : i = n := Nat.le_antisymm hi (Nat.not_lt.1 hlt)
            clear hlt
            go_wp2_with (first | (go_at_call 9; (with_reducible refine (num_any _ _).mono ?_); rintro e w' ⟨rfl, rfl⟩))
            go_ret
            exact ⟨by first | rfl | simp, stq C3 HB⟩
  · simp only [hz, ne_eq, not_false_eq_true, true_and, false_and, or_false] at hT hF
    generalize thinErr l S = z at *
    have hzb : (z == 0) = false := beq_eq_false_iff_ne.2 hz
    generalize S.length = m at *
    generalize l.length = n at *
    go_enter Try.func5, Try.ntmps5
    go_wp2_with (first
      | (go_at_call 7; (with_reducible refine (alive_any _).mono ?_); rintro e w1 ⟨rfl, HB1⟩; have r1 := hr.below HB1; have s1 := hs.below HB1)
      | (go_at_call 8; (with_reducible refine (hT _ r1 s1).mono ?_); rintro e w2 ⟨rfl, HB2⟩; have C2 := stq HB1 HB2; have s2 := s1.below HB2; have rl2 := r1.below HB2)
      | (go_at_call 8; (with_reducible refine (hF _ rl2 s2).mono ?_); rintro e w3 ⟨rfl, HB3⟩; have C3 := stq C2 HB3)
      | (go_at_call 9; (with_reducible refine (num_any _ _).mono ?_); rintro e w' ⟨rfl, rfl⟩))
    go_ret
    exact ⟨by first | rfl | simp, C3⟩
end Go.Proofs.Ythfalpibhcjpgaa
end
