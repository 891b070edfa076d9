/- Bloom: the walk of Has. -/
import Derived.Test.YtmnecbmneljhkaaBlJ
import Derived.RangeFuncNested
namespace Go.Proofs.Ytmnecbmneljhkaa
open Go.RowKit Go.Shelf Go.Proofs.YtmnecbmneljhkaaW.PrintWords
set_option linter.unusedVariables false
attribute [local go_sem] Oper.semAt_some

theorem leaves_nil {F : Fence} {n : Nat} {P : Program} {fn : Func} {tmps : Array Value} {R : Ending → World → Prop} {w : World} (v : Value) (h : (results fn tmps).run P w = .ok v w) (hR : R (.returned v) w) : LeavesInM F n P fn tmps R [] .returning w := ⟨v, h, hR⟩
set_option maxRecDepth 100000 in
theorem bit_all : ∀ (n : Fin 256) (r : Fin 8), n.val &&& 2 ^ r.val = n.val / 2 ^ r.val % 2 * 2 ^ r.val := by decide +kernel
theorem bit_and (x : UInt8) (r : Nat) (hr : r < 8) : bits .and .u8 (x.toNat : Int) ((2 ^ r : Nat) : Int) = ((x.toNat / 2 ^ r % 2 * 2 ^ r : Nat) : Int) := by
  have hx := x.toNat_lt
  have h2 : 2 ^ r ≤ 2 ^ 7 := Nat.pow_le_pow_right (by decide) (by omega)
  rw [u8_and_nat x.toNat (2 ^ r) (by omega) (by omega)]
  congr 1
  exact bit_all ⟨x.toNat, by omega⟩ ⟨r, hr⟩
theorem placeL_place (s : ByteArray) (n k : Nat) : placeL (plow (hash s)) (phigh (hash s)) n k = place s (8 * n) k := rfl
set_option maxHeartbeats 1600000 in
theorem Has_any (K : Int) (A : Option Addr) (c : Nat) (xs : List UInt8) (s : ByteArray) (hs : s.size ≤ 140737488355328) (w : World) (hx : RdB w A c xs) :
    Calls Try.prog 13 #[fil K A xs.length c, .string s] w fun e w' => e = .returned (.tuple #[.bool (hasB K xs s), .int .i64 (encE K xs.length)]) ∧ Below w.heap.size w w' := by
  have HM := may_any K A xs.length c
  by_cases hok : okF K xs.length
  · have e1 : encE K xs.length = 0 := by rw [encE, if_pos hok]
    have e2 : hasB K xs s = hasU xs s K.toNat := by rw [hasB, decide_eq_true hok]; rfl
    rw [decide_eq_true hok] at HM
    rw [e1, e2]
    clear e1 e2
    obtain ⟨h1, h2, h3, h4⟩ := hok
    obtain ⟨m, rfl⟩ : ∃ m : Nat, K = (m : Int) := ⟨K.toNat, by omega⟩
    rw [Int.toNat_natCast]
    obtain ⟨z, hz⟩ : ∃ z, hasU xs s m = z := ⟨_, rfl⟩
    have HZ := hide hz
    rw [hz]
    clear hz
    have HP := places_any (m : Int) A xs.length c s hs
    have W0 : ∃ W0, ((w.alloc (.cells #[.int .i64 (m : Int), .slice A xs.length c] 27)).alloc (.cells #[.bool false] 4)).alloc (.cells #[.int .i64 0] 29) = W0 := ⟨_, rfl⟩
    obtain ⟨W0, hW0⟩ := W0
    have z0 : W0.heap.size = w.heap.size + 3 := by rw [← hW0]; simp
    have z1 : Below w.heap.size w W0 := by rw [← hW0]; exact (((Below.refl _ _).alloc (Nat.le_refl _) _).alloc (by simp) _).alloc (by simp; omega) _
    have z2 : W0.heap[w.heap.size]? = some (.cells #[.int .i64 (m : Int), .slice A xs.length c] 27) := by
      rw [← hW0, Below.heap_alloc _ _ _ (by simp; omega), Below.heap_alloc _ _ _ (by simp)]; exact heap_alloc_new w _
    have z3 : W0.heap[w.heap.size + 1]? = some (.cells #[.bool false] 4) := by
      rw [← hW0, Below.heap_alloc _ _ _ (by simp)]
      have := heap_alloc_new (w.alloc (.cells #[.int .i64 (m : Int), .slice A xs.length c] 27)) (.cells #[.bool false] 4)
      rwa [World.size_alloc] at this
    have z4 : W0.heap[w.heap.size + 1 + 1]? = some (.cells #[.int .i64 0] 29) := by
      rw [← hW0]
      have := heap_alloc_new ((w.alloc (.cells #[.int .i64 (m : Int), .slice A xs.length c] 27)).alloc (.cells #[.bool false] 4)) (.cells #[.int .i64 0] 29)
      rwa [World.size_alloc, World.size_alloc] at this
    obtain ⟨b0, b1, b2, b3⟩ := two_read z2
    have b4 := blk_cell z3 0
    have b5 := blk_frozen z3 0
    have b6 := blk_cell z4 0
    have b7 := blk_frozen z4 0
    have hall : ∀ W, Below W0.heap.size W0 W → Below w.heap.size w W ∧ W.heap[w.heap.size]? = some (.cells #[.int .i64 (m : Int), .slice A xs.length c] 27) ∧ W.heap[w.heap.size + 1]? = some (.cells #[.bool false] 4) ∧ W.heap[w.heap.size + 1 + 1]? = some (.cells #[.int .i64 0] 29) ∧ w.heap.size + 3 ≤ W.heap.size := fun W h =>
      ⟨z1.trans (h.mono z1.size), (h.block _ (by omega)).trans z2, (h.block _ (by omega)).trans z3, (h.block _ (by omega)).trans z4, by have := h.size; omega⟩
    have Z0 := hide z0
    clear z0
    unfold fil at *
    refine (callsIn_wide (n := 9)).1 ?_
    refine callsIn_of_wp_marks Try.func13 rfl trivial ?_ rfl
    simp only [Try.ntmps13, List.size_toArray, List.length_cons, List.length_nil, Nat.reduceAdd, Nat.reduceSub, Array.replicate_succ, Array.replicate_zero, List.push_toArray, List.append_toArray, List.nil_append, List.cons_append]
    gi_wp2_with (first | (refine ⟨trivial, ?_⟩; gi_at_call 30; refine (callsIn_wide.2 (HM _)).mono ?_; rintro e w1 ⟨rfl, HB1⟩; obtain ⟨B1, q0, q1, q2, q3⟩ := hall _ HB1; obtain ⟨d0, d1, d2, d3⟩ := two_read q0; have d4 := blk_cell q1 0; have d5 := blk_frozen q1 0; have d6 := blk_cell q2 0; have d7 := blk_frozen q2 0) | (refine ⟨trivial, ?_⟩; gi_at_call 28; refine (callsIn_wide.2 (HP _)).mono ?_; rintro e w2 ⟨g0, hg0, rfl, hsz2, hbx, HB2⟩))
    obtain ⟨c0, hc0⟩ : ∃ c0, w1.heap.size = c0 := ⟨_, rfl⟩
    have hw1s := HB1.size
    have hw2s := HB2.size
    rw [hc0] at hbx HB2 hw2s hg0
    have hc0' : w.heap.size + 3 ≤ c0 := by rw [← hc0]; exact q3
    refine range_iter (gf := 34) (lb := iterF c0 g0) (N := m) (c0 := c0) (g0 := g0) (vals := valsF (plow (hash s)) (phigh (hash s)) xs.length) (by rw [hc0]; rfl) (enters_of Try.func34 (by kernel_rfl) rfl) (fun _ => rfl) (by omega) (by omega) (by omega)
      (iter_any m xs.length c _ _ c0 g0 A w2 hbx (by omega) (by omega) (by omega) (Nat.lt_trans (Nat.mod_lt _ (by decide)) (by decide)) (Nat.lt_trans (phigh_lt _) (by decide)) hg0 (by omega))
      (fun k W => Below w.heap.size w W ∧ W.heap[w.heap.size]? = some (.cells #[.int .i64 (m : Int), .slice A xs.length c] 27) ∧ W.heap[w.heap.size + 1]? = some (.cells #[.bool false] 4) ∧ W.heap[w.heap.size + 1 + 1]? = some (.cells #[.int .i64 0] 29) ∧ hasU xs s k = true)
      (fun k W => Below w.heap.size w W ∧ W.heap[w.heap.size + 1]? = some (.cells #[.bool false] 4) ∧ W.heap[w.heap.size + 1 + 1]? = some (.cells #[.int .i64 0] 29) ∧ hasU xs s m = false)
      (fun k X Y h ⟨i1, i2, i3, i4, i5⟩ => ⟨i1.trans (h.mono (by omega)), (h.block _ (by omega)).trans i2, (h.block _ (by omega)).trans i3, (h.block _ (by omega)).trans i4, i5⟩)
      (fun k X Y h ⟨i1, i3, i4, i5⟩ => ⟨i1.trans (h.mono (by omega)), (h.block _ (by omega)).trans i3, (h.block _ (by omega)).trans i4, i5⟩)
      ⟨B1.trans (HB2.mono (by omega)), (HB2.block _ (by omega)).trans q0, (HB2.block _ (by omega)).trans q1, (HB2.block _ (by omega)).trans q2, rfl⟩
      (fun k => { tmps := #[.agg #[.int .i64 (m : Int), .slice A xs.length c], .string s, .pointer (some ⟨w.heap.size, 0, none⟩), undef, .pointer (some ⟨w.heap.size + 1, 0, none⟩), .pointer (some ⟨w.heap.size + 1 + 1, 0, none⟩), .int .i64 ((placeL (plow (hash s)) (phigh (hash s)) xs.length k / 8 : Nat) : Int), .int .u8 ((2 ^ (placeL (plow (hash s)) (phigh (hash s)) xs.length k % 8) : Nat) : Int), .agg #[.int .i64 (m : Int), .slice A xs.length c], .bool true, .bool false, .agg #[.int .i64 (m : Int), .slice A xs.length c], .string s, .func (.func 34) #[] (iterF c0 g0), .int .i64 ((placeL (plow (hash s)) (phigh (hash s)) xs.length k / 8 : Nat) : Int), .int .u8 ((2 ^ (placeL (plow (hash s)) (phigh (hash s)) xs.length k % 8) : Nat) : Int), undef, undef, undef, undef, undef, undef, undef, undef], defers := [] }) ?assign ?body ?done ?stop
    case assign =>
      intro l k W KK hKK
      rw [hc0]
      unfold valsF
      gi_wp2
      exact hKK
    case body =>
      intro l k W hk
      rintro ⟨i1, i2, i3, i4, i5⟩
      have hpl : placeL (plow (hash s)) (phigh (hash s)) xs.length k < 8 * xs.length := Nat.mod_lt _ (by omega)
      have HNO : Hid (bitN xs (placeL (plow (hash s)) (phigh (hash s)) xs.length k) = 0 → hasU xs s m = false) := hide (hasU_no xs s k m hk)
      have HYES : Hid (¬ bitN xs (placeL (plow (hash s)) (phigh (hash s)) xs.length k) = 0 → hasU xs s (k + 1) = true) := fun h => by
        rw [hasU, i5]
        simp only [Bool.true_and, bne_iff_ne, ne_eq]
        exact h
      obtain ⟨j0, j1, j2, j3⟩ := two_read i2
      have j4 := blk_cell i3 0
      have j5 := blk_frozen i3 0
      have j6 := blk_cell i4 0
      have j7 := blk_frozen i4 0
      have hxW := hx.below i1
      generalize placeL (plow (hash s)) (phigh (hash s)) xs.length k = p at *
      obtain ⟨q, hq⟩ : ∃ q, p / 8 = q := ⟨_, rfl⟩
      obtain ⟨r, hr⟩ : ∃ r, p % 8 = r := ⟨_, rfl⟩
      have hr8 : r < 8 := by rw [← hr]; exact Nat.mod_lt _ (by decide)
      obtain ⟨ad, rfl, hcell⟩ := hxW.at_ q (by omega)
      obtain ⟨x, hxx⟩ : ∃ x, xs.getD q 0 = x := ⟨_, rfl⟩
      have hbn : bitN xs p = x.toNat / 2 ^ r % 2 := by rw [bitN, hq, hr, hxx]
      rw [hbn] at HNO HYES
      rw [hxx] at hcell
      have hand := bit_and x r hr8
      rw [hq, hr]
      have hq1 : q < xs.length := by omega
      have hq2 : (q : Int) < (xs.length : Int) := by omega
      have hpw : 0 < 2 ^ r := Nat.pow_pos (by decide)
      obtain ⟨v, hv⟩ : ∃ v, x.toNat / 2 ^ r % 2 * 2 ^ r = v := ⟨_, rfl⟩
      have hv0 : v = 0 ↔ x.toNat / 2 ^ r % 2 = 0 := by
        rw [← hv]
        constructor
        · intro h
          rcases Nat.mul_eq_zero.1 h with h | h
          · exact h
          · omega
        · intro h; rw [h, Nat.zero_mul]
      have HV := hide hv0
      rw [hv] at hand
      clear hq hr hxx hbn hpl hv hv0 i5
      generalize x.toNat / 2 ^ r % 2 = tt at *
      generalize 2 ^ r = t at *
      have hpast : Past c0 W ((W.setCell ⟨w.heap.size + 1, 0, none⟩ (.bool false)).setCell ⟨w.heap.size + 1 + 1, 0, none⟩ (.int .i64 0)) := (Past.setCell W _ 0 (by omega) _).trans (Past.setCell _ _ 0 (by omega) _)
      have hbel : Below w.heap.size w ((W.setCell ⟨w.heap.size + 1, 0, none⟩ (.bool false)).setCell ⟨w.heap.size + 1 + 1, 0, none⟩ (.int .i64 0)) := (i1.setCell (p := ⟨w.heap.size + 1, 0, none⟩) (Nat.le_succ _) _).setCell (p := ⟨w.heap.size + 1 + 1, 0, none⟩) (show w.heap.size ≤ w.heap.size + 1 + 1 by omega) _
      have hs1 : ((W.setCell ⟨w.heap.size + 1, 0, none⟩ (.bool false)).setCell ⟨w.heap.size + 1 + 1, 0, none⟩ (.int .i64 0)).heap[w.heap.size + 1]? = some (.cells #[.bool false] 4) := (Below.heap_setCell _ _ _ _ (show w.heap.size + 1 ≠ w.heap.size + 1 + 1 by omega)).trans (blk_set i3 0 (.bool false))
      have hs2 : ((W.setCell ⟨w.heap.size + 1, 0, none⟩ (.bool false)).setCell ⟨w.heap.size + 1 + 1, 0, none⟩ (.int .i64 0)).heap[w.heap.size + 1 + 1]? = some (.cells #[.int .i64 0] 29) := blk_set ((Below.heap_setCell W ⟨w.heap.size + 1, 0, none⟩ (.bool false) (w.heap.size + 1 + 1) (show w.heap.size + 1 + 1 ≠ w.heap.size + 1 by omega)).trans i4) 0 (.int .i64 0)
      have HP0 := hide hpast
      have HP1 := hide hbel
      have HP2 := hide hs1
      have HP3 := hide hs2
      clear hpast hbel hs1 hs2
      by_cases h0 : v = 0
      · subst h0
        gi_wp2
        exact ⟨HP0.out, HP1.out, HP2.out, HP3.out, HNO.out (HV.out.1 trivial)⟩
      · have h0i : ¬ (v : Int) = 0 := by omega
        gi_wp2
        exact ⟨Past.refl _ _, i1, i2, i3, i4, HYES.out (fun e => h0 (HV.out.2 e))⟩
    case done =>
      intro W hi hsz hD
      obtain ⟨i1, i2, i3, i4, i5⟩ := hi
      have j4 := blk_cell i3 0
      have j5 := blk_frozen i3 0
      have j6 := blk_cell i4 0
      have j7 := blk_frozen i4 0
      have hb2 : Below w.heap.size w ((W.setCell ⟨w.heap.size + 1, 0, none⟩ (.bool true)).setCell ⟨w.heap.size + 1 + 1, 0, none⟩ (.int .i64 0)) := (i1.setCell (p := ⟨w.heap.size + 1, 0, none⟩) (Nat.le_succ _) _).setCell (p := ⟨w.heap.size + 1 + 1, 0, none⟩) (show w.heap.size ≤ w.heap.size + 1 + 1 by omega) _
      have hs1 : ((W.setCell ⟨w.heap.size + 1, 0, none⟩ (.bool true)).setCell ⟨w.heap.size + 1 + 1, 0, none⟩ (.int .i64 0)).heap[w.heap.size + 1]? = some (.cells #[.bool true] 4) := (Below.heap_setCell _ _ _ _ (show w.heap.size + 1 ≠ w.heap.size + 1 + 1 by omega)).trans (blk_set i3 0 (.bool true))
      have hs2 : ((W.setCell ⟨w.heap.size + 1, 0, none⟩ (.bool true)).setCell ⟨w.heap.size + 1 + 1, 0, none⟩ (.int .i64 0)).heap[w.heap.size + 1 + 1]? = some (.cells #[.int .i64 0] 29) := blk_set ((Below.heap_setCell W ⟨w.heap.size + 1, 0, none⟩ (.bool true) (w.heap.size + 1 + 1) (show w.heap.size + 1 + 1 ≠ w.heap.size + 1 by omega)).trans i4) 0 (.int .i64 0)
      have hD2 : ((W.setCell ⟨w.heap.size + 1, 0, none⟩ (.bool true)).setCell ⟨w.heap.size + 1 + 1, 0, none⟩ (.int .i64 0)).heap[w2.heap.size]? = some (.deferred (some [])) := (Below.heap_setCell _ _ _ _ (show w2.heap.size ≠ w.heap.size + 1 + 1 by omega)).trans ((Below.heap_setCell _ _ _ _ (show w2.heap.size ≠ w.heap.size + 1 by omega)).trans hD)
      have HD := hide hD2
      have HS1 := hide hs1
      have HS2 := hide hs2
      have HB := hide hb2
      clear hD2 hs1 hs2 hb2
      gi_wp2
      refine ⟨by simp, .inl ⟨_, _, rfl, run_takeDeferred HD.out, ?_⟩⟩
      have r0 := blk_cell ((World.putObj_heap_other (o := .deferred none) (show w.heap.size + 1 ≠ w2.heap.size by omega)).trans HS1.out) 0
      have r1 := blk_cell ((World.putObj_heap_other (o := .deferred none) (show w.heap.size + 1 + 1 ≠ w2.heap.size by omega)).trans HS2.out) 0
      have hD3 := (Array.getElem?_eq_some_iff.1 HD.out).1
      refine leaves_nil (.tuple #[.bool true, .int .i64 0]) ?_ ⟨by rw [← HZ.out, i5], HB.out.trans (below_put _ _ _ (by omega) hD3)⟩
      simp [results, Try.results13, go_sem, r0, r1]
    case stop =>
      intro k W hk hi hsz hD
      obtain ⟨i1, i3, i4, i5⟩ := hi
      gi_wp2
      refine ⟨by simp, .inl ⟨_, _, rfl, run_takeDeferred hD, ?_⟩⟩
      have r0 := blk_cell ((World.putObj_heap_other (o := .deferred none) (show w.heap.size + 1 ≠ w2.heap.size by omega)).trans i3) 0
      have r1 := blk_cell ((World.putObj_heap_other (o := .deferred none) (show w.heap.size + 1 + 1 ≠ w2.heap.size by omega)).trans i4) 0
      have hD3 := (Array.getElem?_eq_some_iff.1 hD).1
      refine leaves_nil (.tuple #[.bool false, .int .i64 0]) ?_ ⟨by rw [← HZ.out, i5], i1.trans (below_put _ _ _ (by omega) hD3)⟩
      simp [results, Try.results13, go_sem, r0, r1]
  · have e1 : encE K xs.length = 9 := by rw [encE, if_neg hok]
    have e2 : hasB K xs s = false := by rw [hasB, decide_eq_false hok]; rfl
    rw [decide_eq_false hok] at HM
    rw [e1, e2]
    clear e1 e2
    have HP := places_any K A xs.length c s hs
    have W0 : ∃ W0, ((w.alloc (.cells #[.int .i64 K, .slice A xs.length c] 27)).alloc (.cells #[.bool false] 4)).alloc (.cells #[.int .i64 0] 29) = W0 := ⟨_, rfl⟩
    obtain ⟨W0, hW0⟩ := W0
    have z0 : W0.heap.size = w.heap.size + 3 := by rw [← hW0]; simp
    have z1 : Below w.heap.size w W0 := by rw [← hW0]; exact (((Below.refl _ _).alloc (Nat.le_refl _) _).alloc (by simp) _).alloc (by simp; omega) _
    have z2 : W0.heap[w.heap.size]? = some (.cells #[.int .i64 K, .slice A xs.length c] 27) := by
      rw [← hW0, Below.heap_alloc _ _ _ (by simp; omega), Below.heap_alloc _ _ _ (by simp)]; exact heap_alloc_new w _
    have z3 : W0.heap[w.heap.size + 1]? = some (.cells #[.bool false] 4) := by
      rw [← hW0, Below.heap_alloc _ _ _ (by simp)]
      have := heap_alloc_new (w.alloc (.cells #[.int .i64 K, .slice A xs.length c] 27)) (.cells #[.bool false] 4)
      rwa [World.size_alloc] at this
    have z4 : W0.heap[w.heap.size + 1 + 1]? = some (.cells #[.int .i64 0] 29) := by
      rw [← hW0]
      have := heap_alloc_new ((w.alloc (.cells #[.int .i64 K, .slice A xs.length c] 27)).alloc (.cells #[.bool false] 4)) (.cells #[.int .i64 0] 29)
      rwa [World.size_alloc, World.size_alloc] at this
    obtain ⟨b0, b1, b2, b3⟩ := two_read z2
    have b4 := blk_cell z3 0
    have b5 := blk_frozen z3 0
    have b6 := blk_cell z4 0
    have b7 := blk_frozen z4 0
    have hall : ∀ W, Below W0.heap.size W0 W → Below w.heap.size w W ∧ W.heap[w.heap.size]? = some (.cells #[.int .i64 K, .slice A xs.length c] 27) ∧ W.heap[w.heap.size + 1]? = some (.cells #[.bool false] 4) ∧ W.heap[w.heap.size + 1 + 1]? = some (.cells #[.int .i64 0] 29) ∧ w.heap.size + 3 ≤ W.heap.size := fun W h =>
      ⟨z1.trans (h.mono z1.size), (h.block _ (by omega)).trans z2, (h.block _ (by omega)).trans z3, (h.block _ (by omega)).trans z4, by have := h.size; omega⟩
    have Z0 := hide z0
    clear z0
    unfold fil at *
    refine (callsIn_wide (n := 9)).1 ?_
    refine callsIn_of_wp_marks Try.func13 rfl trivial ?_ rfl
    simp only [Try.ntmps13, List.size_toArray, List.length_cons, List.length_nil, Nat.reduceAdd, Nat.reduceSub, Array.replicate_succ, Array.replicate_zero, List.push_toArray, List.append_toArray, List.nil_append, List.cons_append]
    gi_wp2_with (first | (refine ⟨trivial, ?_⟩; gi_at_call 30; refine (callsIn_wide.2 (HM _)).mono ?_; rintro e w1 ⟨rfl, HB1⟩; obtain ⟨B1, q0, q1, q2, q3⟩ := hall _ HB1; obtain ⟨d0, d1, d2, d3⟩ := two_read q0; have d4 := blk_cell q1 0; have d5 := blk_frozen q1 0; have d6 := blk_cell q2 0; have d7 := blk_frozen q2 0) | (refine ⟨trivial, ?_⟩; gi_at_call 28; refine (callsIn_wide.2 (HP _)).mono ?_; rintro e w2 ⟨g0, hg0, rfl, hsz2, hbx, HB2⟩))
    refine leaves_nil (.tuple #[.bool false, .int .i64 9]) ?_ ⟨rfl, (B1.setCell (p := ⟨w.heap.size + 1, 0, none⟩) (Nat.le_succ _) _).setCell (p := ⟨w.heap.size + 1 + 1, 0, none⟩) (show w.heap.size ≤ w.heap.size + 1 + 1 by omega) _⟩
    have r0 := blk_cell (blk_set q1 0 (.bool false)) 0
    have r1 := blk_cell (blk_set ((Below.heap_setCell w1 ⟨w.heap.size + 1, 0, none⟩ (.bool false) (w.heap.size + 1 + 1) (show w.heap.size + 1 + 1 ≠ w.heap.size + 1 by omega)).trans q2) 0 (.int .i64 9)) 0
    simp [results, Try.results13, go_sem, r0, r1]
end Go.Proofs.Ytmnecbmneljhkaa
