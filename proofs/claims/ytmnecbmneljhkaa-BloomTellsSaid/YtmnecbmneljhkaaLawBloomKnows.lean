/- The walk of BloomKnows. -/
import Derived.Test.YtmnecbmneljhkaaLawBloomOrder
import Derived.StillTailTactics
namespace Go.Proofs.Ytmnecbmneljhkaa
open Go.RowKit Go.Shelf Go.Proofs.YtmnecbmneljhkaaW.PrintWords
set_option linter.unusedVariables false

theorem run_loadVar_two {P : Program} (w : World) (ty : TypeId) (fs : Array Field) (hu : P.underlying ty = some (.struct fs)) (a : Addr) (cs : List Value) (hi : (P.info? ty).map (·.size) = some cs.length)
    (hc : ∀ j v, cs[j]? = some v → w.cell? (a.add j) = some v) : (loadVar ty a).run P w = .ok (.agg cs.toArray) w := by
  have hl := run_loadCells_list (P := P) w a cs hc
  cases hq : P.info? ty with
  | none => simp [hq] at hi
  | some i =>
    have hs : i.size = cs.length := by simpa [hq] using hi
    have hagg : (isAgg ty).run P w = .ok true w := by
      unfold isAgg
      rw [Sem.run_bind, run_underlying hu w]
      simp
    simp [loadVar, Sem.run_bind, hagg, sizeOf, typeInfo, hq, hs, hl]
theorem run_loadFil (w : World) (b : Nat) (K : Int) (s : Value) (h0 : w.cell? ⟨b, 0, none⟩ = some (.int .i64 K)) (h1 : w.cell? ⟨b, 1, none⟩ = some s) : (loadVar 27 ⟨b, 0, none⟩).run Try.prog w = .ok (.agg #[.int .i64 K, s]) w :=
  run_loadVar_two w 27 _ Try.underlying27 ⟨b, 0, none⟩ [.int .i64 K, s] (by kernel_rfl) (fun j v hj => by
    match j, hj with
    | 0, hj => injection hj with hj; subst hj; exact h0
    | 1, hj => injection hj with hj; subst hj; exact h1)
theorem or_u8 (x y : UInt8) : bits .or .u8 (x.toNat : Int) (y.toNat : Int) = ((x ||| y).toNat : Int) := by
  have hx := x.toNat_lt
  have hy := y.toNat_lt
  rw [u8_or_nat x.toNat y.toNat (by omega) (by omega), UInt8.toNat_or]
set_option maxHeartbeats 8000000 in
theorem knows_walk (A : Option Addr) (c : Nat) (ss : List ByteArray) (each : Int) (B : Option Addr) (cb : Nat) (bs : List UInt8) (w : World) (hx : RdS w A c ss) (hss : ∀ s ∈ ss, s.size ≤ 140737488351232) (h0 : (Lit.int .i64 each).wf = true) (hy : RdB w B cb bs) (ly : bs.length ≤ 140737488351232) :
    Calls Try.prog 4 #[.slice A ss.length c, .int .i64 each, .slice B bs.length cb] w fun e w' => e = .returned (.bool true) ∧ Below w.heap.size w w' := by
  obtain ⟨e1, e2⟩ := i64_of each h0
  obtain ⟨j, hj16, hj⟩ := each_norm each e1 e2
  have hm := hx.max
  obtain ⟨k0, hk0⟩ : ∃ k0, Nat.min ss.length 100 = k0 := ⟨_, rfl⟩
  have hk1 : k0 ≤ ss.length := by rw [← hk0]; exact Nat.min_le_left _ _
  have hk2 : k0 ≤ 100 := by rw [← hk0]; exact Nat.min_le_right _ _
  have hsl : ∀ W, (Instr.slice 22 (.slice A ss.length c) none (some (.int .i64 (k0 : Int))) none).run Try.prog W = .ok (.slice A k0 c) W := fun W => slice_hi 22 9 Try.underlying22 (i := _) rfl rfl A ss.length c k0 (Nat.le_trans hk1 hx.1) W
  have hxk := hx.take k0 hk1
  have hks : ∀ s ∈ ss.take k0, s.size ≤ 140737488355328 := fun s hs => Nat.le_trans (hss s (List.mem_of_mem_take hs)) (by decide)
  have hlen : (ss.take k0).length = k0 := by rw [List.length_take]; omega
  obtain ⟨N, hN⟩ : ∃ N, ss.length = N := ⟨_, rfl⟩
  rw [hN] at hsl hk0 hm ⊢
  clear hN hx hss hk1
  generalize ss.take k0 = ks at *
  have hM := fun A c W (h : RdS W A c ks) => Make_any A c ks (1 + (j : Int)) hks W h
  have hok : makeOk (1 + (j : Int)) ks.length := ⟨by omega, by omega, by omega⟩
  have hE : makeE (1 + (j : Int)) ks.length = 0 := by rw [makeE, if_neg (by omega), if_neg (by omega)]
  have hH : ∀ s ∈ ks, ∀ ys, Le (makeX (1 + (j : Int)) ks) ys → ∀ A c W, RdB W A c ys → Calls Try.prog 13 #[fil (makeK (1 + (j : Int)) ks.length) A ys.length c, .string s] W fun e w' => e = .returned (.tuple #[.bool true, .int .i64 0]) ∧ Below W.heap.size W w' := fun s hs ys hle A c W hr => by
    obtain ⟨q1, q2, q3⟩ := has_made (1 + (j : Int)) ks s hs hok ys hle
    have := Has_any (makeK (1 + (j : Int)) ks.length) A c ys s (hks s hs) W hr
    rw [q1, q2] at this
    exact this
  have hXl : (makeX (1 + (j : Int)) ks).length ≤ 140737488355328 := by
    have h1 := Le.refl (makeX (1 + (j : Int)) ks)
    by_cases hk : 0 < ks.length
    · have := (has_made (1 + (j : Int)) ks ks[0] (List.getElem_mem hk) hok _ h1).2.2; omega
    · have hk0 : ks.length = 0 := by omega
      rw [makeX, if_pos hok, setAll_length, List.length_replicate, hk0]
      unfold makeN; omega
  simp only [hE] at hM
  generalize makeK (1 + (j : Int)) ks.length = K at *
  generalize makeX (1 + (j : Int)) ks = X at *
  obtain ⟨n, hn⟩ : ∃ n, X.length = n := ⟨_, rfl⟩
  simp only [hn, hlen] at hM
  have HL := hide hlen
  have HN := hide hn
  obtain ⟨m, hm2⟩ : ∃ m, bs.length = m := ⟨_, rfl⟩
  have HM := hide hm2
  rw [hm2]
  have hC := fun A c W (h : RdB W A c X) => CopyBytes_any A c X W h hXl
  simp only [hn] at hC
  have hmy : m ≤ 140737488351232 := by rw [← hm2]; exact ly
  have hnX : n ≤ 140737488355328 := by rw [← hn]; exact hXl
  clear hn hlen hok hE hks hm2 ly hXl
  unfold fil at *
  have hK0 := hide hk0
  clear hk0
  have hj1 : (j : Int) < 16 := by omega
  go_enter Try.func4, Try.ntmps4
  go_wp2_with (first | (go_at_call 20; refine (alive_any _).mono ?_; rintro e w1 ⟨rfl, HB1⟩; have hx1 := hxk.below HB1; have hy1 := hy.below HB1) | (refine wp_min2 rfl (.tmp 25) (.const (.int .i64 100)) 3 3 rfl .i64 N 100 rfl rfl ?_; rw [hK0.out]) | (go_at_call 11; (with_reducible refine (hM _ _ _ hx1).mono ?_); rintro e w3 ⟨A3, c3, rfl, HO3, HB3⟩; have b3 := below_alloc w3 (.cells #[.int .i64 K, .slice A3 n c3] 27); have X3 := Bx.new w3 K (.slice A3 n c3) 27; replace HO3 := HO3.below b3; have hx3 := (hx1.below HB3).below b3; have hy3 := (hy1.below HB3).below b3; have B0 := ((HB1.trans (HB3.mono HB1.size))).alloc (HB1.trans (HB3.mono HB1.size)).size (.cells #[.int .i64 K, .slice A3 n c3] 27); obtain ⟨p0, p1, p2, p3⟩ := X3.read) | (go_at_call 18; refine (num_any _ _).mono ?_; rintro e w' ⟨rfl, rfl⟩))
  generalize w3.alloc (.cells #[.int .i64 K, .slice A3 n c3] 27) = W3 at *
  have hS0 : Below W3.heap.size W3 W3.drew ∧ W3.drew.cell? ⟨w3.heap.size, 0, none⟩ = some (.int .i64 K) ∧ W3.drew.cell? ⟨w3.heap.size, 1, none⟩ = some (.slice A3 n c3) := ⟨(Below.refl _ _).drew, p0, p1⟩
  have hSk : ∀ W, Below W3.heap.size W3 W → W.cell? ⟨w3.heap.size, 0, none⟩ = some (.int .i64 K) ∧ W.cell? ⟨w3.heap.size, 1, none⟩ = some (.slice A3 n c3) := fun W h => ⟨(h.cell (World.block_lt_of_cell? W3 _ p0)).trans p0, (h.cell (World.block_lt_of_cell? W3 _ p1)).trans p1⟩
  have hC3 := fun W (h : Below W3.heap.size W3 W) => hC A3 c3 W (HO3.rdl.below h)
  clear hM
  go_region_held3 (fun w' => Below W3.heap.size W3 w' ∧ w'.cell? ⟨w3.heap.size, 0, none⟩ = some (.int .i64 K) ∧ w'.cell? ⟨w3.heap.size, 1, none⟩ = some (.slice A3 n c3)) (first | exact hS0 | exact ⟨(Below.refl _ _).drew.alloc (Nat.le_refl _) _, hSk _ ((Below.refl _ _).drew.alloc (Nat.le_refl _) _)⟩ | exact ⟨HBt, hSk _ HBt⟩ | exact ⟨HBt.alloc HBt.size _, hSk _ (HBt.alloc HBt.size _)⟩ | exact ⟨(HBt.setCell (p := ⟨W3.heap.size, 0, none⟩) (Nat.le_refl _) _).setCell (p := ⟨W3.heap.size, 1, none⟩) (Nat.le_refl _) _, hSk _ ((HBt.setCell (p := ⟨W3.heap.size, 0, none⟩) (Nat.le_refl _) _).setCell (p := ⟨W3.heap.size, 1, none⟩) (Nat.le_refl _) _)⟩) (first | (go_at_call 21; refine (hC3 _ (by first | exact (Below.refl _ _).drew | exact ((Below.refl _ _).drew).alloc (Nat.le_refl _) _)).mono ?_; rintro e w4 ⟨v4, rfl, HO4, HB4⟩; (first | (have HBt : Below W3.heap.size W3 w4 := (Below.refl W3.heap.size W3).drew.trans HB4; have k1 : (w4.alloc (.cells #[.int .i64 0, .slice none 0 0] 27)).heap[w4.heap.size]? = some (.cells #[.int .i64 0, .slice none 0 0] 27) := heap_alloc_new w4 _; obtain ⟨k2, k3, k4, k5⟩ := two_read k1) | (have HBt : Below W3.heap.size W3 w4 := ((Below.refl W3.heap.size W3).drew.alloc (Nat.le_refl _) _).trans (HB4.mono (by simp)); have k1 : w4.heap[W3.heap.size]? = some (.cells #[.int .i64 0, .slice none 0 0] 27) := (HB4.block _ (by simp)).trans (heap_alloc_new W3.drew _); obtain ⟨k2, k3, k4, k5⟩ := two_read k1)); obtain ⟨A4, c4, hv4, hr4⟩ := HO4.rd; rw [HN.out] at hv4; subst hv4; clear hr4))
  have g1 := heap_alloc_new w4 (.cells #[Value.int IntKind.i64 K, Value.slice A4 n c4] 27)
  have O9 := HO4.below ((Below.refl _ _).alloc (Nat.le_refl _) (.cells #[Value.int IntKind.i64 K, Value.slice A4 n c4] 27))
  have B9 := HBt.alloc HBt.size (.cells #[Value.int IntKind.i64 K, Value.slice A4 n c4] 27)
  have O10 : OwB _ W3.heap.size _ _ := O9
  have hg : W3.heap.size ≤ w4.heap.size := HBt.size
  have hgo : ∀ k, (Value.slice A4 n c4).ownBlock = some k → k ≠ w4.heap.size := fun k hk => Nat.ne_of_lt (HO4.lt k hk)
  clear k1 k2 k3 k4 k5 HB4 HO4 O9 hS0 HBt
  generalize w4.alloc (.cells #[Value.int IntKind.i64 K, Value.slice A4 n c4] 27) = W9 at *
  generalize w4.heap.size = g at *
  rotate_left
  have g1 := two_cells (u := Value.int IntKind.i64 K) (v := Value.slice A4 n c4) k1
  have HO2 : OwB w4 (W3.heap.size + 1) (.slice A4 n c4) X := by simpa using HO4
  have O10 : OwB ((w4.setCell ⟨W3.heap.size, 0, none⟩ (.int .i64 K)).setCell ⟨W3.heap.size, 1, none⟩ (.slice A4 n c4)) W3.heap.size (.slice A4 n c4) X := by
    refine OwB.lower (base := W3.heap.size + 1) ?_ (by omega)
    exact own_setCell (own_setCell HO2 (p := ⟨W3.heap.size, 0, none⟩) (fun e => by have h := own_base HO2 _ e.symm; change W3.heap.size + 1 ≤ W3.heap.size at h; omega) _) (p := ⟨W3.heap.size, 1, none⟩) (fun e => by have h := own_base HO2 _ e.symm; change W3.heap.size + 1 ≤ W3.heap.size at h; omega) _
  have B9 := (HBt.setCell (p := ⟨W3.heap.size, 0, none⟩) (Nat.le_refl _) (.int .i64 K)).setCell (p := ⟨W3.heap.size, 1, none⟩) (Nat.le_refl _) (.slice A4 n c4)
  obtain ⟨g, hge⟩ : ∃ g, W3.heap.size = g := ⟨_, rfl⟩
  have hg : W3.heap.size ≤ g := by omega
  have hgo : ∀ k, (Value.slice A4 n c4).ownBlock = some k → k ≠ W3.heap.size := fun k hk => by have := HO2.ge k hk; omega
  clear k1 k2 k3 k4 k5 HB4 HO4 hS0 HBt HO2
  rw [hge] at hgo
  generalize (w4.setCell ⟨W3.heap.size, 0, none⟩ (.int .i64 K)).setCell ⟨W3.heap.size, 1, none⟩ (.slice A4 n c4) = W9 at *
  have g2 : W9.heap[g]? = some (.cells #[Value.int IntKind.i64 K, Value.slice A4 n c4] 27) := hge ▸ g1
  clear g1
  have g1 := g2
  clear g2
  rw [hge]
  clear hge
  all_goals (
    have XG : Bx W9 g K (.slice A4 n c4) 27 := g1
    clear g1 hSk hC3 hx1 hy1 hxk hy HB1 HB3 hC p0 p1 p2 p3 hj hsl e1 e2 h0
    have zX := X3.lt
    have hnl : X.length = n := HN.out
    have HNL := hide hnl
    clear hnl
    go_wp2
    go_loopw [10] (fun i wr => ∃ (k : Nat) (ys : List UInt8), k ≤ m ∧ k ≤ n ∧ i = .int .i64 (k : Int) ∧ Le X ys ∧ OwB wr W3.heap.size (.slice A4 n c4) ys ∧ Bx wr g K (.slice A4 n c4) 27 ∧ Below W3.heap.size W3 wr) (fun i wr => m - (intOf i).toNat)
    case atStart => exact ⟨0, X, by omega, by omega, rfl, Le.refl _, O10, XG, B9⟩)
  all_goals (
    obtain ⟨k, ys, hk1, hk2', rfl, hle, HO, XW, HB⟩ := hrel
    have hlen : ys.length = n := by rw [← hle.len]; exact HNL.out
    obtain ⟨p0, p1, p2, p3⟩ := XW.read
    by_cases hkm : k < m <;> by_cases hkn : k < n)
  all_goals first
  | (have hkm' := hkm
     have hkn' := hkn
     have hyw := hy3.below HB
     obtain ⟨bd, rfl, hbc⟩ := hyw.at_ k (by rw [HM.out]; exact hkm)
     obtain ⟨g9, cap, hv, hgb, hgl, hcell, hfr, hset⟩ := HO.set_ k (by omega)
     rw [hlen] at hv
     obtain ⟨rfl, rfl⟩ : A4 = some ⟨g9, 0, none⟩ ∧ c4 = cap := by
       injection hv with h1 _ h3
       exact ⟨h1, h3⟩
     have hne9 : g9 ≠ g := hgo g9 rfl
     obtain ⟨x, hx'⟩ : ∃ x, ys.getD k 0 = x := ⟨_, rfl⟩
     obtain ⟨y, hy'⟩ : ∃ y, bs.getD k 0 = y := ⟨_, rfl⟩
     have hor := or_u8 x y
     have hput := (hset (x ||| y)).1
     have hle2 : Le X (ys.set k (x ||| y)) := by rw [← hx']; exact hle.trans (Le.or_at ys k y)
     rw [hx'] at hcell
     rw [hy'] at hbc
     obtain ⟨z, hz⟩ : ∃ z, (x ||| y).toNat = z := ⟨_, rfl⟩
     rw [hz] at hor hput
     have X9 : Bx (wr.setCell ⟨g9, k, none⟩ (.int .u8 (z : Int))) g K (.slice (some ⟨g9, 0, none⟩) n c4) 27 := (Below.heap_setCell _ _ _ _ (show g ≠ g9 from fun e => hne9 e.symm)).trans XW
     have hB9 := HB.setCell (p := ⟨g9, k, none⟩) hgb (.int .u8 (z : Int))
     have hki : (k : Int) < (n : Int) := by omega
     have hkmi : (k : Int) < (m : Int) := by omega
     have q1 : wr.drew.cell? ⟨g, 1, none⟩ = some (.slice (some ⟨g9, 0, none⟩) n c4) := p1
     have q2 : wr.drew.cell? ⟨g9, k, none⟩ = some (.int .u8 (x.toNat : Int)) := hcell
     have q3 : wr.drew.frozen? ⟨g9, k, none⟩ = false := hfr
     have hfin : OwB (wr.drew.setCell ⟨g9, k, none⟩ (.int .u8 (z : Int))) W3.heap.size (.slice (some ⟨g9, 0, none⟩) n c4) (ys.set k (x ||| y)) ∧ Bx (wr.drew.setCell ⟨g9, k, none⟩ (.int .u8 (z : Int))) g K (.slice (some ⟨g9, 0, none⟩) n c4) 27 ∧ Below W3.heap.size W3 (wr.drew.setCell ⟨g9, k, none⟩ (.int .u8 (z : Int))) := ⟨hput, X9, HB.drew.setCell (p := ⟨g9, k, none⟩) hgb (.int .u8 (z : Int))⟩
     have HF := hide hfin
     have HLE := hide hle2
     have HLEN := hide hlen
     clear hfin hset hput hv hx' hy' hz X9 hB9 hle2 hlen hgl
     go_wp2
     go_still_tail 11, (by kernel_rfl)
     change wpList _ _ _ _ _ wr.drew
     generalize wr.drew = wd at *
     go_wp2
     go_roundw
     case rel => exact ⟨k + 1, _, by omega, by omega, by go_num, HLE.out, HF.out.1, HF.out.2.1, HF.out.2.2⟩
     case measure => simp [intOf]; omega)
  | skip
  all_goals (
    have hkmi : ¬ ((k : Int) < (m : Int) ∧ (k : Int) < (n : Int)) := by omega
    first
    | have hc1 : ¬ (k : Int) < (n : Int) := by omega
    | have hc2 : ¬ (k : Int) < (m : Int) := by omega
    first
    | have hd1 : (k : Int) < (m : Int) := by omega
    | have hd2 : ¬ (k : Int) < (m : Int) := by omega
    clear hkmi
    have HLEN := hide hlen
    have hRX := (HO3.below HB).rdl
    have hRY := HO.rdl
    have XF := X3.below HB
    have hxw := hx3.below HB
    have BB := B0.trans (HB.mono B0.size)
    clear hlen HO p0 p2 p3 hkm hkn
    go_wp2
    go_loopw [11] (fun i wr2 => ∃ k2 : Nat, k2 ≤ k0 ∧ i = .int .i64 (k2 : Int) ∧ Below wr.heap.size wr wr2) (fun i wr2 => k0 - (intOf i).toNat)
    case atStart => exact ⟨0, by omega, rfl, Below.refl _ _⟩)
  all_goals (
    obtain ⟨k2, hk2x, rfl, hB2⟩ := hrel
    by_cases hl : k2 < k0
    · have hkn : k2 < ks.length := by rw [HL.out]; exact hl
      obtain ⟨ad, rfl, hcs⟩ := (hxw.below hB2).at_ k2 hkn
      obtain ⟨s, hs⟩ : ∃ s, ks.getD k2 ByteArray.empty = s := ⟨_, rfl⟩
      have hmem : s ∈ ks := by rw [← hs, List.getD_eq_getElem?_getD, List.getElem?_eq_getElem hkn]; simp
      rw [hs] at hcs
      have XF2 := XF.below hB2
      have XW2 := XW.below hB2
      have hLs : ∀ w', Below wr.heap.size wr w' → (loadVar 9 (ad.add k2)).run Try.prog w' = .ok (.string s) w' := fun w' hb => run_loadVar_str w' 9 Try.underlying9 _ _ ((hb.cell (World.block_lt_of_cell? wr _ hcs)).trans hcs)
      have hLf : ∀ w', Below wr.heap.size wr w' → (loadVar 27 ⟨w3.heap.size, 0, none⟩).run Try.prog w' = .ok (.agg #[.int .i64 K, .slice A3 n c3]) w' := fun w' hb => run_loadFil w' _ _ _ ((XF2.below hb).read).1 ((XF2.below hb).read).2.1
      have hLm : ∀ w', Below wr.heap.size wr w' → (loadVar 27 ⟨g, 0, none⟩).run Try.prog w' = .ok (.agg #[.int .i64 K, .slice A4 n c4]) w' := fun w' hb => run_loadFil w' _ _ _ ((XW2.below hb).read).1 ((XW2.below hb).read).2.1
      have hHF := fun w' (hb : Below wr.heap.size wr w') => hH s hmem X (Le.refl X) A3 c3 w' ((hRX.below hB2).below hb)
      have hHM := fun w' (hb : Below wr.heap.size wr w') => hH s hmem ys hle A4 c4 w' ((hRY.below hB2).below hb)
      simp only [HN.out] at hHF
      simp only [HLEN.out] at hHM
      have hki2 : (k2 : Int) < (k0 : Int) := by omega
      clear hH hs hcs XF XW hxw p1
      go_wp2
      refine wp_region_below wr.heap.size wr (Below.refl _ _) (by kernel_rfl) (by kernel_rfl) ?_
      repeat (go_big_quiet_step ((intro hb; first | rfl | (refine (hHF _ hb).mono ?_; rintro e w7 ⟨rfl, HB7⟩; exact ⟨rfl, hb.trans (HB7.mono hb.size)⟩))))
      refine quiet_load rfl 27 _ rfl ⟨w3.heap.size, 0, none⟩ rfl (.agg #[.int .i64 K, .slice A3 n c3]) hLf ?_
      simp only [Act.put, List.setIfInBounds_toArray, List.set_cons_zero, List.set_cons_succ]
      repeat (go_big_quiet_step ((intro hb; first | rfl | (refine (hHF _ hb).mono ?_; rintro e w7 ⟨rfl, HB7⟩; exact ⟨rfl, hb.trans (HB7.mono hb.size)⟩))))
      refine quiet_load rfl 9 _ rfl (ad.add k2) rfl (.string s) hLs ?_
      simp only [Act.put, List.setIfInBounds_toArray, List.set_cons_zero, List.set_cons_succ]
      repeat (go_big_quiet_step ((intro hb; first | rfl | (refine (hHF _ hb).mono ?_; rintro e w7 ⟨rfl, HB7⟩; exact ⟨rfl, hb.trans (HB7.mono hb.size)⟩))))
      refine wpQuiet_nil ?_
      intro w6 HC6
      go_wp2
      refine wp_region_below wr.heap.size wr HC6 (by kernel_rfl) (by kernel_rfl) ?_
      repeat (go_big_quiet_step ((intro hb; first | rfl | (refine (hHM _ hb).mono ?_; rintro e w7 ⟨rfl, HB7⟩; exact ⟨rfl, hb.trans (HB7.mono hb.size)⟩))))
      refine quiet_load rfl 27 _ rfl ⟨g, 0, none⟩ rfl (.agg #[.int .i64 K, .slice A4 n c4]) hLm ?_
      simp only [Act.put, List.setIfInBounds_toArray, List.set_cons_zero, List.set_cons_succ]
      repeat (go_big_quiet_step ((intro hb; first | rfl | (refine (hHM _ hb).mono ?_; rintro e w7 ⟨rfl, HB7⟩; exact ⟨rfl, hb.trans (HB7.mono hb.size)⟩))))
      refine quiet_load rfl 9 _ rfl (ad.add k2) rfl (.string s) hLs ?_
      simp only [Act.put, List.setIfInBounds_toArray, List.set_cons_zero, List.set_cons_succ]
      repeat (go_big_quiet_step ((intro hb; first | rfl | (refine (hHM _ hb).mono ?_; rintro e w7 ⟨rfl, HB7⟩; exact ⟨rfl, hb.trans (HB7.mono hb.size)⟩))))
      refine wpQuiet_nil ?_
      intro w8 HC8
      go_wp2_with (first | (go_at_call 18; refine (num_any _ _).mono ?_; rintro e w' ⟨rfl, rfl⟩))
      go_roundw
      case rel => exact ⟨k2 + 1, by omega, by go_num, hB2.trans (HC8.mono hB2.size)⟩
      case measure => simp [intOf]; omega
    · obtain rfl : k2 = k0 := by omega
      go_wp2
      go_ret
      exact ⟨rfl, BB.trans (hB2.mono BB.size)⟩)
end Go.Proofs.Ytmnecbmneljhkaa
