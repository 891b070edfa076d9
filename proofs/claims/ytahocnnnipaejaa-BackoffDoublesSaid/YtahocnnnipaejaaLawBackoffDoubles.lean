/- The walk of BackoffDoubles. -/
import Derived.Test.YtahocnnnipaejaaLawBackoffGrows
namespace Go.Proofs.Ytahocnnnipaejaa
open Go.RowKit Go.Proofs.YtahocnnnipaejaaW.PrintWords
set_option linter.unusedVariables false

set_option maxHeartbeats 400000 in
theorem doubles_walk (b c t k : Int) (w : World) (wb : (Lit.int .i64 b).wf = true) (wc : (Lit.int .i64 c).wf = true) (wt : (Lit.int .i64 t).wf = true) (wk : (Lit.int .i64 k).wf = true) :
    Calls Try.prog 5 #[lim b c t, .int .i64 k] w fun e w' => e = .returned (.bool true) ∧ Below w.heap.size w w' := by
  have hk := i64_of k wk
  have hb := i64_of b wb
  have hc := i64_of c wc
  clear wb wc wt wk
  have hk70 : ∃ j : Nat, j < 70 ∧ (wrap64 (k.tmod 70 + 70)).tmod 70 = (j : Int) := by
    have t1 := Int.tmod_lt_of_pos k (show (0 : Int) < 70 by decide)
    have t2 := Int.lt_tmod_of_pos k (show (0 : Int) < 70 by decide)
    have t3 := Int.tmod_lt_of_pos (k.tmod 70 + 70) (show (0 : Int) < 70 by decide)
    have t4 := Int.tmod_nonneg 70 (a := k.tmod 70 + 70) (by omega)
    exact ⟨((k.tmod 70 + 70).tmod 70).toNat, by omega, by rw [show wrap64 (k.tmod 70 + 70) = k.tmod 70 + 70 by unfold wrap64; omega]; omega⟩
  obtain ⟨j, hj, hw2⟩ := hk70
  have HW := hide hw2
  clear hw2
  have H1 := Delay_any b c t (j : Int)
  rcases del_cases b c t (j : Int) with ⟨hok, h0, e1, e2⟩ | ⟨hno, e1, e2⟩
  · rw [e1, e2] at H1
    clear e1 e2
    have hdf := dl_far hok (j : Int)
    have hdl : dl b c (j : Int) = min c (b * 2 ^ j) := by rw [dl, Int.toNat_natCast]
    obtain ⟨h1, h2, h3, h4, h5, h6⟩ := hok
    by_cases h31 : 31 ≤ j
    · rw [hdf (by omega)] at H1
      have h31i : (31 : Int) ≤ (j : Int) := by omega
      clear hdf hdl
      unfold lim at *
      go_enter Try.func5, Try.ntmps5
      go_wp2_with (first | (go_at_call 8; refine (alive_any _).mono ?_; rintro e w1 ⟨rfl, HB1⟩; obtain ⟨p0, p1, p2, hcB⟩ := boxed HB1) | (go_at_call 9; rw [HW.out]; refine (H1 _).mono ?_; rintro e w2 ⟨rfl, HC2⟩; have HB2 := HB1.trans (HC2.mono HB1.size); obtain ⟨q0, q1, q2, hcB2⟩ := boxed HB2) | (go_at_call 10; refine (num_any _ _).mono ?_; rintro e w' ⟨rfl, rfl⟩))
      have L0 : ∀ w', Below w2.heap.size w2 w' → (loadVar 3 ⟨w.heap.size, 0, none⟩).run Try.prog w' = .ok (.int .i64 b) w' := fun w' hb => run_loadVar_int w' 3 .i64 Try.underlying3 _ _ (boxed (HB2.trans (hb.mono HB2.size))).1
      have L1 : ∀ w', Below w2.heap.size w2 w' → (loadVar 3 ⟨w.heap.size, 1, none⟩).run Try.prog w' = .ok (.int .i64 c) w' := fun w' hb => run_loadVar_int w' 3 .i64 Try.underlying3 _ _ (boxed (HB2.trans (hb.mono HB2.size))).2.1
      refine wp_region_below w2.heap.size w2 (Below.refl _ _) (by kernel_rfl) (by kernel_rfl) ?_
      repeat (go_big_quiet_step ((intro hb; rfl)))
      refine wpQuiet_nil ?_
      intro w3 HC3
      have HB3 := HB2.trans (HC3.mono HB2.size)
      obtain ⟨r0, r1, r2, hcB3⟩ := boxed HB3
      go_wp2
      have M1 : ∀ w', Below w3.heap.size w3 w' → (loadVar 3 ⟨w.heap.size, 1, none⟩).run Try.prog w' = .ok (.int .i64 c) w' := fun w' hb => run_loadVar_int w' 3 .i64 Try.underlying3 _ _ (boxed (HB3.trans (hb.mono HB3.size))).2.1
      refine wp_region_below w3.heap.size w3 (Below.refl _ _) (by kernel_rfl) (by kernel_rfl) ?_
      repeat (go_big_quiet_step ((intro hb; rfl)))
      refine quiet_load (by kernel_rfl) 3 _ rfl ⟨w.heap.size, 1, none⟩ rfl (.int .i64 c) M1 ?_
      simp only [Act.put, List.setIfInBounds_toArray, List.set_cons_zero, List.set_cons_succ]
      repeat (go_big_quiet_step ((intro hb; rfl)))
      refine wpQuiet_nil ?_
      intro w4 HC4
      go_wp2
      go_ret
      exact ⟨by simp, hcB3.trans (HC4.mono hcB3.size)⟩
    · have hmp := mul_pow_le b h1 h2 j (by omega)
      have hpj := pow_le31 j (by omega)
      have hp0 : (0 : Int) < 2 ^ j := Int.pow_pos (by decide)
      have h31i : ¬ (31 : Int) ≤ (j : Int) := by omega
      have hj64 : (j : Int) ≤ 64 := by omega
      have hwr : IntKind.i64.wrap (b * 2 ^ j) = b * 2 ^ j := by rw [IntKind.wrap_i64]; omega
      by_cases hgt : c < b * 2 ^ j
      · have hq : c / 2 ^ j < b := (Int.ediv_lt_iff_lt_mul hp0).2 hgt
        have hd : dl b c (j : Int) = c := by rw [hdl]; omega
        rw [hd] at H1
        clear hdf hdl hd
        unfold lim at *
        go_enter Try.func5, Try.ntmps5
        go_wp2_with (first | (go_at_call 8; refine (alive_any _).mono ?_; rintro e w1 ⟨rfl, HB1⟩; obtain ⟨p0, p1, p2, hcB⟩ := boxed HB1) | (go_at_call 9; rw [HW.out]; refine (H1 _).mono ?_; rintro e w2 ⟨rfl, HC2⟩; have HB2 := HB1.trans (HC2.mono HB1.size); obtain ⟨q0, q1, q2, hcB2⟩ := boxed HB2) | (go_at_call 10; refine (num_any _ _).mono ?_; rintro e w' ⟨rfl, rfl⟩))
        have L0 : ∀ w', Below w2.heap.size w2 w' → (loadVar 3 ⟨w.heap.size, 0, none⟩).run Try.prog w' = .ok (.int .i64 b) w' := fun w' hb => run_loadVar_int w' 3 .i64 Try.underlying3 _ _ (boxed (HB2.trans (hb.mono HB2.size))).1
        have L1 : ∀ w', Below w2.heap.size w2 w' → (loadVar 3 ⟨w.heap.size, 1, none⟩).run Try.prog w' = .ok (.int .i64 c) w' := fun w' hb => run_loadVar_int w' 3 .i64 Try.underlying3 _ _ (boxed (HB2.trans (hb.mono HB2.size))).2.1
        refine wp_region_below w2.heap.size w2 (Below.refl _ _) (by kernel_rfl) (by kernel_rfl) ?_
        repeat (go_big_quiet_step ((intro hb; rfl)))
        simp only [show decide ((31 : Int) ≤ (j : Int)) = false from decide_eq_false (by omega)]
        repeat (go_big_quiet_step ((intro hb; rfl)))
        refine quiet_load (by kernel_rfl) 3 _ rfl ⟨w.heap.size, 0, none⟩ rfl (.int .i64 b) L0 ?_
        simp only [Act.put, List.setIfInBounds_toArray, List.set_cons_zero, List.set_cons_succ]
        repeat (go_big_quiet_step ((intro hb; rfl)))
        refine quiet_load (by kernel_rfl) 3 _ rfl ⟨w.heap.size, 1, none⟩ rfl (.int .i64 c) L1 ?_
        simp only [Act.put, List.setIfInBounds_toArray, List.set_cons_zero, List.set_cons_succ]
        repeat (go_big_quiet_step ((intro hb; rfl)))
        refine wpQuiet_nil ?_
        intro w3 HC3
        have HB3 := HB2.trans (HC3.mono HB2.size)
        obtain ⟨r0, r1, r2, hcB3⟩ := boxed HB3
        go_wp2
        have M1 : ∀ w', Below w3.heap.size w3 w' → (loadVar 3 ⟨w.heap.size, 1, none⟩).run Try.prog w' = .ok (.int .i64 c) w' := fun w' hb => run_loadVar_int w' 3 .i64 Try.underlying3 _ _ (boxed (HB3.trans (hb.mono HB3.size))).2.1
        refine wp_region_below w3.heap.size w3 (Below.refl _ _) (by kernel_rfl) (by kernel_rfl) ?_
        repeat (go_big_quiet_step ((intro hb; rfl)))
        refine quiet_load (by kernel_rfl) 3 _ rfl ⟨w.heap.size, 1, none⟩ rfl (.int .i64 c) M1 ?_
        simp only [Act.put, List.setIfInBounds_toArray, List.set_cons_zero, List.set_cons_succ]
        repeat (go_big_quiet_step ((intro hb; rfl)))
        refine wpQuiet_nil ?_
        intro w4 HC4
        go_wp2
        go_ret
        exact ⟨by simp, hcB3.trans (HC4.mono hcB3.size)⟩
      · have hq : ¬ c / 2 ^ j < b := fun h => hgt ((Int.ediv_lt_iff_lt_mul hp0).1 h)
        have hd : dl b c (j : Int) = b * 2 ^ j := by rw [hdl]; omega
        rw [hd] at H1
        clear hdf hdl hd
        unfold lim at *
        go_enter Try.func5, Try.ntmps5
        go_wp2_with (first | (go_at_call 8; refine (alive_any _).mono ?_; rintro e w1 ⟨rfl, HB1⟩; obtain ⟨p0, p1, p2, hcB⟩ := boxed HB1) | (go_at_call 9; rw [HW.out]; refine (H1 _).mono ?_; rintro e w2 ⟨rfl, HC2⟩; have HB2 := HB1.trans (HC2.mono HB1.size); obtain ⟨q0, q1, q2, hcB2⟩ := boxed HB2) | (go_at_call 10; refine (num_any _ _).mono ?_; rintro e w' ⟨rfl, rfl⟩))
        have L0 : ∀ w', Below w2.heap.size w2 w' → (loadVar 3 ⟨w.heap.size, 0, none⟩).run Try.prog w' = .ok (.int .i64 b) w' := fun w' hb => run_loadVar_int w' 3 .i64 Try.underlying3 _ _ (boxed (HB2.trans (hb.mono HB2.size))).1
        have L1 : ∀ w', Below w2.heap.size w2 w' → (loadVar 3 ⟨w.heap.size, 1, none⟩).run Try.prog w' = .ok (.int .i64 c) w' := fun w' hb => run_loadVar_int w' 3 .i64 Try.underlying3 _ _ (boxed (HB2.trans (hb.mono HB2.size))).2.1
        refine wp_region_below w2.heap.size w2 (Below.refl _ _) (by kernel_rfl) (by kernel_rfl) ?_
        repeat (go_big_quiet_step ((intro hb; rfl)))
        simp only [show decide ((31 : Int) ≤ (j : Int)) = false from decide_eq_false (by omega)]
        repeat (go_big_quiet_step ((intro hb; rfl)))
        refine quiet_load (by kernel_rfl) 3 _ rfl ⟨w.heap.size, 0, none⟩ rfl (.int .i64 b) L0 ?_
        simp only [Act.put, List.setIfInBounds_toArray, List.set_cons_zero, List.set_cons_succ]
        repeat (go_big_quiet_step ((intro hb; rfl)))
        refine quiet_load (by kernel_rfl) 3 _ rfl ⟨w.heap.size, 1, none⟩ rfl (.int .i64 c) L1 ?_
        simp only [Act.put, List.setIfInBounds_toArray, List.set_cons_zero, List.set_cons_succ]
        repeat (go_big_quiet_step ((intro hb; rfl)))
        refine wpQuiet_nil ?_
        intro w3 HC3
        have HB3 := HB2.trans (HC3.mono HB2.size)
        obtain ⟨r0, r1, r2, hcB3⟩ := boxed HB3
        simp only [show decide (c / 2 ^ j < b) = false from decide_eq_false (by omega)]
        go_wp2
        go_ret
        exact ⟨by simp, hcB3⟩
  · rw [e1, e2] at H1
    unfold lim at *
    go_enter Try.func5, Try.ntmps5
    go_wp2_with (first | (go_at_call 8; refine (alive_any _).mono ?_; rintro e w1 ⟨rfl, HB1⟩; obtain ⟨p0, p1, p2, hcB⟩ := boxed HB1) | (go_at_call 9; rw [HW.out]; refine (H1 _).mono ?_; rintro e w2 ⟨rfl, HC2⟩; have HB2 := HB1.trans (HC2.mono HB1.size); obtain ⟨q0, q1, q2, hcB2⟩ := boxed HB2) | (go_at_call 10; refine (num_any _ _).mono ?_; rintro e w' ⟨rfl, rfl⟩))
    go_ret
    exact ⟨rfl, hcB2⟩
end Go.Proofs.Ytahocnnnipaejaa
