/- What the law MergeOrder reaches besides, and its walk. -/
import Derived.Test.YthfalpibhcjpgaaMzA
set_option linter.unusedVariables false
set_option linter.unusedSimpArgs false
section
/- An argument opened: runs. -/
namespace Go.Proofs.Ythfalpibhcjpgaa
open Go.ChangeShapes Go.WideShapes Go.ChangeAt Go.RowKit Go.Proofs.YthfalpibhcjpgaaW.PrintWords
set_option maxRecDepth 100000
set_option linter.unusedVariables false
theorem open_runs {H : Type} {enc : TypeId × Value → H} {W : World} {base : Nat} {v : Value} {x : DataW H} {p : List MemPlace} (hv : Value.okWide Try.prog W .any base 31 v)
    (h : DataW.Trod enc Try.prog W 0 (fun _ => true) true 31 v x p) : ∃ A c ss, v = .slice A ss.length c ∧ ((∀ y ∈ x.weights Try.prog 31, y ≤ 140737488351232) → Runs W A c ss) := by
  have o1 := opens_struct Try.underlying36 (d := kEnt) (by kernel_rfl) (opensF_cons rfl (by kernel_rfl) (opens_string Try.underlying9) (opensF_cons rfl (by kernel_rfl) (opens_int Try.underlying3) (opensF_cons rfl (by kernel_rfl) (opens_int Try.underlying3) (opensF_one rfl (by kernel_rfl) (opens_string Try.underlying9)))))
  have o2 := opens_slice (t := 22) Try.underlying22 (by kernel_rfl) o1
  have o3 := opens_slice (t := 31) Try.underlying31 (by kernel_rfl) o2
  obtain ⟨A, c, ls, hv, hl, hC, hS, hU⟩ := open_slice_of Try.underlying31 o3 hv h
  have key : ∀ j, j < ls.length → ∃ s : Sl, s.2.2 = ls.getD j [] ∧ (∀ ad, A = some ad → W.cell? (ad.add j) = some (eSl s)) ∧ RdE W s.1 s.2.1 s.2.2 := by
    intro j hj
    obtain ⟨ad, e, hx⟩ := hC.2.2 (by omega)
    obtain ⟨cs, k1, ⟨A1, c1, k2, k3, k4⟩, k5⟩ := hx j ls[j] (List.getElem?_eq_getElem hj)
    refine ⟨(A1, c1, ls[j]), ?_, fun ad' e' => ?_, ⟨k3, k4⟩⟩
    · rw [List.getD_eq_getElem?_getD, List.getElem?_eq_getElem hj]; rfl
    · rw [e] at e'
      injection e' with e'
      subst e'
      subst k2
      have := k5 0 _ rfl
      have e2 : j * (Kd.slice 36 kEnt).sz + 0 = j := Nat.mul_one j
      rw [e2] at this
      exact this
  obtain ⟨f, hf⟩ := Go.Deep.choose_lt (α := Sl) (n := ls.length) (p := fun j s => s.2.2 = ls.getD j [] ∧ (∀ ad, A = some ad → W.cell? (ad.add j) = some (eSl s)) ∧ RdE W s.1 s.2.1 s.2.2) key
  have hlen : ((List.range ls.length).map f).length = ls.length := by simp
  refine ⟨A, c, (List.range ls.length).map f, by rw [hlen]; exact hv, fun hB => ?_⟩
  have hS1 := hS 140737488351232 hB
  have eB : Try.prog.bytesOf 22 = 24 := by kernel_rfl
  have eE : Try.prog.bytesOf 36 = 48 := by kernel_rfl
  rw [eB, eE] at hS1
  refine ⟨⟨by rw [hlen]; exact hl, rfl, by rw [hlen]; exact hC.2.1, fun hp => ?_⟩, fun s hs => ?_, fun s hs => ?_, by rw [hlen]; exact hS1.1⟩
  · rw [hlen] at hp
    obtain ⟨ad, e, -⟩ := hC.2.2 hp
    refine ⟨ad, e, fun j q hj => ?_⟩
    obtain ⟨hjl, hjp⟩ := List.getElem?_eq_some_iff.1 hj
    rw [hlen] at hjl
    have hq : q = f j := by rw [← hjp]; simp
    subst hq
    refine ⟨[eSl (f j)], rfl, rfl, fun i u hu => ?_⟩
    have hi : i < 1 := (List.getElem?_eq_some_iff.1 hu).1
    obtain rfl : i = 0 := by omega
    have hu' : eSl (f j) = u := by simpa using hu
    have e2 : j * kSl.sz + 0 = j := Nat.mul_one j
    rw [e2, ← hu']
    exact (hf j hjl).2.1 ad e
  · obtain ⟨i, hi, rfl⟩ := List.mem_map.1 hs
    exact (hf i (List.mem_range.1 hi)).2.2
  · obtain ⟨i, hi, rfl⟩ := List.mem_map.1 hs
    have hi' := List.mem_range.1 hi
    rw [(hf i hi').1]
    exact (hS1.2 _ (getD_mem2 ls [] i hi')).1
end Go.Proofs.Ythfalpibhcjpgaa
end

section
/- The walk of MergeOrder: the order of the runs is of no matter; one after the other is the same. -/
namespace Go.Proofs.Ythfalpibhcjpgaa
open Go.RowKit Go.Proofs.YthfalpibhcjpgaaW.PrintWords
set_option linter.unusedVariables false

theorem conS_rev (ss : List Sl) : conS ss.reverse = (conS ss).reverse := by unfold conS; rw [List.map_reverse]
theorem rev_next (ss : List Sl) (m k m1 j : Nat) (hm : ss.length = m) (hk : k < m) (h1 : m - 1 = m1) (hj : m1 - k = j) : ss.reverse.take (k + 1) = ss.reverse.take k ++ [ss.getD j nilSl] := by
  have hl : k < ss.reverse.length := by rw [List.length_reverse, hm]; exact hk
  rw [List.take_add_one, List.getElem?_eq_getElem hl, List.getElem_reverse, List.getD_eq_getElem?_getD, List.getElem?_eq_getElem (by omega : j < ss.length)]
  have : ss.length - 1 - k = j := by omega
  simp only [this, Option.toList_some, Option.getD_some]
theorem runs_two (W : World) (s t : Sl) (hs : RdE W s.1 s.2.1 s.2.2) (ht : RdE W t.1 t.2.1 t.2.2) (fs : s.2.2.length * 48 ≤ 140737488351232) (ft : t.2.2.length * 48 ≤ 140737488351232) :
    Runs (W.alloc (.cells #[eSl s, eSl t] 22)) (some ⟨W.heap.size, 0, none⟩) 2 [s, t] := by
  have b := below_alloc W (.cells #[eSl s, eSl t] 22)
  refine ⟨(OwS.lit2 W s t).rdl, fun x hx => ?_, fun x hx => ?_, by show 2 * 24 ≤ 140737488351232; decide⟩
  · simp only [List.mem_cons, List.not_mem_nil, or_false] at hx
    rcases hx with rfl | rfl
    · exact hs.below b
    · exact ht.below b
  · simp only [List.mem_cons, List.not_mem_nil, or_false] at hx
    rcases hx with rfl | rfl
    · exact fs
    · exact ft
theorem two_len (R : List (List Ent)) (h : okM R) (k : Nat) (c : List Ent) (hc : MgOf (R.take k) c) : c.length ≤ 65536 := by
  rw [hc.1.length_eq]
  have : R.flatten = (R.take k).flatten ++ (R.drop k).flatten := by rw [← List.flatten_append, List.take_append_drop]
  have h2 := h.2.1
  rw [this, List.length_append] at h2
  omega
set_option maxRecDepth 100000 in
set_option maxHeartbeats 6400000 in
theorem order_walk (A : Option Addr) (c : Nat) (ss : List Sl) (w : World) (hr : Runs w A c ss) :
    Calls Try.prog 4 #[.slice A ss.length c] w fun e w' => e = .returned (.bool true) ∧ Below w.heap.size w w' := by
  obtain ⟨m, hm⟩ : ∃ m, ss.length = m := ⟨_, rfl⟩
  rw [hm]
  have hM := fun W (h : Runs W A c ss) => Merge_any A c m ss W hm h
  have hlen := hr.len
  rw [hm] at hlen
  have hmm : m ≤ 140737488351232 := by omega
  have hfit := con_fit ss hr.fit
  have HFL := hide (fun k => flat_le (conS ss) 2932031007318 hfit k)
  have HFT := hide (fun k (h : k < m) => flat_take (conS ss) k (by rw [conS_len, hm]; exact h))
  have HAT := hide (conS_at ss)
  have HM := hide hm
  have HLN := hide hlen
  have HTK : Hid ((conS ss).take m = conS ss) := hide (List.take_of_length_le (by rw [conS_len, hm]; exact Nat.le_refl _))
  obtain ⟨E, hE⟩ : ∃ E, errM (conS ss) = E := ⟨_, rfl⟩
  rw [hE] at hM
  have HE := hide hE
  clear hm hlen hfit hE
  go_enter Try.func4, Try.ntmps4
  go_wp2_with (first
    | (go_at_call 7; (with_reducible refine (alive_any _).mono ?_); rintro e w1 ⟨rfl, HB1⟩; have r1 := hr.below HB1)
    | (go_at_call 11; (with_reducible refine (hM _ r1).mono ?_); rintro e w2 ⟨v2, rfl, h2, HB2⟩; have C2 := stq HB1 HB2; have r2 := r1.below HB2; have H2 := hide h2; clear h2))
  have HR2 := hide r2
  clear hr r1 r2 hM
  go_loopw [5, 6, 7] (fun bv nv iv wr => ∃ (k : Nat) (z : Int), k ≤ m ∧ iv = .int .i64 (k : Int) ∧ nv = .int .i64 z ∧ (m ≤ 64 → z = (((conS ss).take k).flatten.length : Int)) ∧ OwS wr w2.heap.size bv (ss.reverse.take k) ∧ Below w2.heap.size w2 wr) (fun bv nv iv _ => m - (intOf iv).toNat)
  case atStart => exact ⟨0, 0, Nat.zero_le _, rfl, rfl, fun _ => rfl, by rw [List.take_zero]; exact Ow.zero _ _ _ _, Below.refl _ _⟩
  case round =>
    obtain ⟨k, z, hk, rfl, rfl, hz, HO, HB⟩ := hrel
    have HZ := hide hz
    clear hz
    by_cases hlt : k < m
    · have hlti : (k : Int) < (m : Int) := Int.ofNat_lt.2 hlt
      obtain ⟨hw1, hw2⟩ := idx_w m k hlt hmm
      obtain ⟨m1, hm1⟩ : ∃ m1, m - 1 = m1 := ⟨_, rfl⟩
      obtain ⟨j, hj⟩ : ∃ j, m1 - k = j := ⟨_, rfl⟩
      have hkm : wrap64 ((m : Int) - 1) = (m1 : Int) := by unfold wrap64; omega
      have hkm2 : IntKind.i64.wrap ((m : Int) - 1) = (m1 : Int) := by rw [IntKind.wrap_i64]; omega
      have hjm : wrap64 ((m1 : Int) - (k : Int)) = (j : Int) := by unfold wrap64; omega
      have hjm2 : IntKind.i64.wrap ((m1 : Int) - (k : Int)) = (j : Int) := by rw [IntKind.wrap_i64]; omega
      have hjn : (j : Int) < (m : Int) := by omega
      have HRN := hide (rev_next ss m k m1 j HM.out hlt hm1 hj)
      have hlR : (ss.reverse.take k).length ≤ k := by rw [List.length_take]; exact Nat.min_le_left _ _
      have hbd : ((ss.reverse.take k).length + 1) * 24 ≤ 140737488355328 := by have := HLN.out; omega
      obtain ⟨ad, e1, x0⟩ := (HR2.out.below HB).row.at1 j (by rw [HM.out]; omega)
      subst e1
      have hY : ∀ W, Below w2.heap.size w2 W → W.cell? (ad.add k) = some (.slice (ss.getD k nilSl).1 (ss.getD k nilSl).2.2.length (ss.getD k nilSl).2.1) := fun W h => (by
        obtain ⟨ad', e', y0⟩ := (HR2.out.below h).row.at1 k (by rw [HM.out]; exact hlt)
        injection e' with e'
        subst e'
        exact y0)
      have hq := HR2.out.fit _ (sl_mem ss k (by rw [HM.out]; exact hlt))
      have HFK := hide (HFT.out k hlt)
      rw [HAT.out] at HFK
      obtain ⟨t, ht⟩ : ∃ t, ss.getD k nilSl = t := ⟨_, rfl⟩
      rw [ht] at hY hq HFK
      obtain ⟨q, hql⟩ : ∃ q, t.2.2.length = q := ⟨_, rfl⟩
      rw [hql] at hY hq HFK
      obtain ⟨s, hs⟩ : ∃ s, ss.getD j nilSl = s := ⟨_, rfl⟩
      rw [hs] at x0 HRN
      have hwz := wrap_same z (q : Int)
      have HQ := hide hq
      have HHY := hide hY
      generalize ss.reverse.take k = bs at *
      clear hm1 hj ht hql hs hq hY hlR
      go_wp2_with (first | (at_builtin; refine app_sl (w0 := w2) w2.heap.size rfl (.tmp 27) (.tmp 36) rfl _ bs s rfl rfl HO HB HB.size hbd ?_; intro v1 w3 HO1 HB1' hg hat; have y0 := HHY.out _ HB1'))
      go_roundw
      case rel => exact ⟨k + 1, wrap64 (z + (q : Int)), hlt, by go_num, by first | rfl | rw [hwz], fun h => by rw [HZ.out h, HFK.out]; exact sum_arith m k _ q h hlt (HFL.out k) HQ.out, by rw [HRN.out]; exact HO1, HB1'⟩
      case measure => first | exact idx_m m k hlt | exact idx_m2 m k hlt | exact idx_m3 m k hlt hw1
    · obtain rfl : k = m := Nat.le_antisymm hk (Nat.not_lt.1 hlt)
      obtain ⟨m, rfl⟩ : ∃ m, m = k := ⟨k, rfl⟩
      rw [HTK.out] at HZ
      obtain ⟨W0, rfl⟩ : ∃ z : World, z = wr := ⟨wr, rfl⟩
      rw [List.take_of_length_le (by rw [List.length_reverse, HM.out]; exact Nat.le_refl _)] at HO
      obtain ⟨Ab, cb, hbv, rb⟩ := HO.rd
      replace hbv : _ = Value.slice Ab ss.reverse.length cb := hbv
      rw [List.length_reverse, HM.out] at hbv
      subst hbv
      have r0 := HR2.out.below HB
      have rRv : Runs W0 Ab cb ss.reverse := ⟨rb, fun s hs => r0.each s (List.mem_reverse.1 hs), fun s hs => r0.fit s (List.mem_reverse.1 hs), by rw [List.length_reverse]; exact r0.len⟩
      have hM2 := Merge_any Ab cb m ss.reverse W0 (by rw [List.length_reverse]; exact HM.out) rRv
      obtain ⟨E2, hE2⟩ : ∃ E2, errM (conS ss.reverse) = E2 := ⟨_, rfl⟩
      have hEE : E2 = 0 ↔ E = 0 := by rw [← hE2, conS_rev, errM_rev, HE.out]
      rw [hE2] at hM2
      have HEE := hide hEE
      clear hE2 hEE rb hlt
      have C0 := stq C2 HB
      by_cases hz : E = 0
      · subst hz
        have hok := (errM_zero (conS ss)).1 HE.out
        have hm64 : m ≤ 64 := by have := hok.1; rw [conS_len, HM.out] at this; exact this
        obtain rfl : z = ((conS ss).flatten.length : Int) := HZ.out hm64
        obtain ⟨a, ha, O2⟩ : ∃ a, MgOf (conS ss) a ∧ OwE w2 _ v2 a := (H2.out.resolve_left (fun h => h.1 rfl)).2
        obtain ⟨A2, c2, hv2, r2a⟩ := O2.rd
        have hal : a.length = (conS ss).flatten.length := ha.1.length_eq
        obtain ⟨N, hN⟩ : ∃ N, (conS ss).flatten.length = N := ⟨_, rfl⟩
        rw [hN] at hal ⊢
        have hN65 : N ≤ 65536 := by rw [← hN]; exact hok.2.1
        rw [hal] at hv2
        subst hv2
        have r20 := r2a.below HB
        have hE20 := HEE.out.2 rfl
        subst hE20
        have HOK := hide hok
        have HA := hide ha
        have HAL := hide hal
        clear HZ hok ha hal hN H2 O2 r2a HO
        go_wp2_with (first
          | (go_at_call 11; (with_reducible refine hM2.mono ?_); rintro e w4 ⟨v4, rfl, h4, HB4⟩; obtain ⟨b, hb, O4⟩ : ∃ b, MgOf (conS ss.reverse) b ∧ OwE w4 _ v4 b := (h4.resolve_left (fun h => h.1 rfl)).2; clear h4; rw [conS_rev] at hb; obtain rfl := mg_rev _ _ _ HA.out hb; obtain ⟨A4, c4, hv4, r4⟩ := O4.rd; rw [HAL.out] at hv4; subst hv4; have C4 := stq C0 HB4; have r24 := r20.below HB4; have rr4 := r0.below HB4)
          | (go_at_call 9; (with_reducible refine (num_any _ _).mono ?_); rintro e w' ⟨rfl, rfl⟩))
        have HRR := hide rr4
        clear rr4 r0 rRv hM2 hb O4
        go_loopw [10, 11] (fun cv iv wr => ∃ (k : Nat) (Ac : Option Addr) (cc : Nat) (cl : List Ent), k ≤ m ∧ iv = .int .i64 (k : Int) ∧ cv = .slice Ac cl.length cc ∧ RdE wr Ac cc cl ∧ MgOf ((conS ss).take k) cl ∧ Below w4.heap.size w4 wr) (fun cv iv _ => m - (intOf iv).toNat)
        case atStart => exact ⟨0, none, 0, [], Nat.zero_le _, rfl, rfl, Rd.zero _ _ _ _, mg_zero _, Below.refl _ _⟩
        case round =>
          obtain ⟨k, Ac, cc, cl, hk, rfl, rfl, rC, hmg, HBk⟩ := hrel
          by_cases hlt : k < m
          · have hlti : (k : Int) < (m : Int) := Int.ofNat_lt.2 hlt
            obtain ⟨hw1, hw2⟩ := idx_w m k hlt hmm
            have rw4 := HRR.out.below HBk
            obtain ⟨ad, e1, x0⟩ := rw4.row.at1 k (by rw [HM.out]; exact hlt)
            subst e1
            have hsm := sl_mem ss k (by rw [HM.out]; exact hlt)
            have hsE := rw4.each _ hsm
            have hsf := rw4.fit _ hsm
            have hok2 := okM_two (conS ss) HOK.out k (by rw [conS_len, HM.out]; exact hlt) cl hmg
            have hnext := fun d hd => mg_two (conS ss) k (by rw [conS_len, HM.out]; exact hlt) cl d hmg hd
            have hcl := two_len (conS ss) HOK.out k cl hmg
            rw [HAT.out] at hok2 hnext
            obtain ⟨s, hs⟩ : ∃ s, ss.getD k nilSl = s := ⟨_, rfl⟩
            rw [hs] at x0 hsE hsf hok2 hnext
            have hRu := runs_two wr (Ac, cc, cl) s rC hsE (by show cl.length * 48 ≤ _; omega) hsf
            have hM3 := Merge_any _ 2 2 _ _ rfl hRu
            have he3 : errM (conS [(Ac, cc, cl), s]) = 0 := (errM_zero _).2 hok2
            rw [he3] at hM3
            have b5 := below_alloc wr (.cells #[eSl (Ac, cc, cl), eSl s] 22)
            have C5 := stq HBk b5
            have HNX := hide hnext
            clear hs hsm hsE hsf hok2 hnext hcl hRu he3 hmg rw4
            go_wp2_with (first
              | (go_at_call 11; (refine hM3.mono ?_); rintro e w6 ⟨v6, rfl, h6, HB6⟩; obtain ⟨dl, hd, O6⟩ : ∃ d, MgOf [cl, s.2.2] d ∧ OwE w6 _ v6 d := (h6.resolve_left (fun h => h.1 rfl)).2; obtain ⟨A6, c6, hv6, r6⟩ := O6.rd; subst hv6; have C6 := stq C5 HB6; have HD := hide (HNX.out dl hd); clear h6 hd O6 hM3)
              | (go_at_call 9; (with_reducible refine (num_any _ _).mono ?_); rintro e w' ⟨rfl, rfl⟩))
            go_roundw
            case rel => exact ⟨k + 1, A6, c6, dl, hlt, by go_num, rfl, r6, HD.out, C6⟩
            case measure => first | exact idx_m m k hlt | exact idx_m2 m k hlt | exact idx_m3 m k hlt hw1
          · obtain rfl : k = m := Nat.le_antisymm hk (Nat.not_lt.1 hlt)
            rw [HTK.out] at hmg
            obtain rfl := mg_eq _ _ _ HA.out hmg
            have rA := r24.below HBk
            have rB := r4.below HBk
            have C7 := stq C4 HBk
            have hS1 := fun W (h1 : RdE W A2 c2 a) (h2 : RdE W A4 c4 a) => SameE_any A2 A4 c2 c4 N a W HAL.out h1 h2 (by rw [HAL.out]; omega)
            have hS2 := fun W (h1 : RdE W A2 c2 a) (h2 : RdE W Ac cc a) => SameE_any A2 Ac c2 cc N a W HAL.out h1 h2 (by rw [HAL.out]; omega)
            have hCk := fun W (h1 : RdE W A2 c2 a) => MCheck_any A2 c2 N a W HAL.out h1 (by omega)
            rw [mg_ord _ HOK.out a hmg] at hCk
            rw [HAL.out]
            clear hmg hlt
            go_wp2_with (first
              | (go_at_call 10; (with_reducible refine (hS1 _ rA rB).mono ?_); rintro e w8 ⟨rfl, HB8⟩; have C8 := stq C7 HB8; have rA8 := rA.below HB8; have rC8 := rC.below HB8)
              | (go_at_call 10; (with_reducible refine (hS2 _ rA8 rC8).mono ?_); rintro e w9 ⟨rfl, HB9⟩; have C9 := stq C8 HB9; have rA9 := rA8.below HB9)
              | (go_at_call 12; (with_reducible refine (hCk _ rA9).mono ?_); rintro e w10 ⟨rfl, HB10⟩; have C10 := stq C9 HB10)
              | (go_at_call 9; (with_reducible refine (num_any _ _).mono ?_); rintro e w' ⟨rfl, rfl⟩))
            go_ret
            exact ⟨by first | rfl | simp, C10⟩
      · obtain rfl : v2 = .slice none 0 0 := (H2.out.resolve_right (fun h => hz h.1)).2
        have hz2 : E2 ≠ 0 := fun h => hz (HEE.out.1 h)
        have hzb : (E == 0) = false := beq_eq_false_iff_ne.2 hz
        have hzb2 : (E2 == 0) = false := beq_eq_false_iff_ne.2 hz2
        clear HO
        go_wp2_with (first
          | (go_at_call 11; (with_reducible refine hM2.mono ?_); rintro e w4 ⟨v4, rfl, h4, HB4⟩; obtain rfl : v4 = .slice none 0 0 := (h4.resolve_right (fun h => hz2 h.1)).2; clear h4; have C4 := stq C0 HB4)
          | (go_at_call 9; (with_reducible refine (num_any _ _).mono ?_); rintro e w' ⟨rfl, rfl⟩))
        go_ret
        exact ⟨by first | rfl | (simp; done) | (simp [hzb2]; done) | (simp [hz2]; done) | (simp [hzb2, hz2]; done), C4⟩
end Go.Proofs.Ythfalpibhcjpgaa
end
