/- The walk of BackoffTells. -/
import Derived.Test.YtahocnnnipaejaaBoF
namespace Go.Proofs.Ytahocnnnipaejaa
open Go.RowKit Go.Proofs.YtahocnnnipaejaaW.PrintWords
set_option linter.unusedVariables false

set_option maxHeartbeats 800000 in
theorem tells_walk (b c t now k : Int) (w : World) (wb : (Lit.int .i64 b).wf = true) (wc : (Lit.int .i64 c).wf = true) (wt : (Lit.int .i64 t).wf = true) (wn : (Lit.int .i64 now).wf = true) (wk : (Lit.int .i64 k).wf = true) :
    Calls Try.prog 6 #[lim b c t, .int .i64 now, .int .i64 k] w fun e w' => e = .returned (.bool true) ∧ Below w.heap.size w w' := by
  have hn := i64_of now wn
  have hk := i64_of k wk
  have H1 := Delay_any b c t k
  have H2 := rDelay_any b c t k hk.2
  have H3 := Due_any b c t now k hn
  have H4 := rDue_any b c t now k hk.2 hn
  have H5 := Total_any b c t
  have H6 := rTotal_any b c t
  have H7 := Check_any b c t
  have H8 := rCheck_any b c t
  clear wb wc wt wn wk
  unfold lim at *
  go_enter Try.func6, Try.ntmps6
  go_wp2_with (first | (go_at_call 9; refine (H1 _).mono ?_; rintro e w1 ⟨rfl, HB1⟩; obtain ⟨p0, p1, p2, q0, q1, q2, hcB⟩ := boxed2 HB1; clear H1) | (go_at_call 13; refine (H2 _).mono ?_; rintro e w2 ⟨rfl, HC2⟩; have HB2 := HB1.trans (HC2.mono HB1.size); obtain ⟨p0, p1, p2, q0, q1, q2, hcB⟩ := boxed2 HB2; clear H2) | (go_at_call 14; refine (H3 _).mono ?_; rintro e w3 ⟨rfl, HC3⟩; have HB3 := HB2.trans (HC3.mono HB2.size); obtain ⟨p0, p1, p2, q0, q1, q2, hcB⟩ := boxed2 HB3; clear H3) | (go_at_call 15; refine (H4 _).mono ?_; rintro e w4 ⟨rfl, HC4⟩; have HB4 := HB3.trans (HC4.mono HB3.size); obtain ⟨p0, p1, p2, q0, q1, q2, hcB⟩ := boxed2 HB4; clear H4) | (go_at_call 11; refine (H5 _).mono ?_; rintro e w5 ⟨rfl, HC5⟩; have HB5 := HB4.trans (HC5.mono HB4.size); obtain ⟨p0, p1, p2, q0, q1, q2, hcB⟩ := boxed2 HB5; clear H5) | (go_at_call 16; refine (H6 _).mono ?_; rintro e w6 ⟨rfl, HC6⟩; have HB6 := HB5.trans (HC6.mono HB5.size); obtain ⟨p0, p1, p2, q0, q1, q2, hcB⟩ := boxed2 HB6; clear H6) | (go_at_call 17; refine (H7 _).mono ?_; rintro e w7 ⟨rfl, HC7⟩; have HB7 := HB6.trans (HC7.mono HB6.size); obtain ⟨p0, p1, p2, q0, q1, q2, hcB⟩ := boxed2 HB7; clear H7) | (go_at_call 12; refine (H8 _).mono ?_; rintro e w8 ⟨rfl, HC8⟩; have HB8 := HB7.trans (HC8.mono HB7.size); obtain ⟨p0, p1, p2, q0, q1, q2, hcB⟩ := boxed2 HB8; clear H8) | (go_at_call 10; refine (num_any _ _).mono ?_; rintro e w' ⟨rfl, rfl⟩) | (go_at_call 8; refine (alive_any _).mono ?_; rintro e w9 ⟨rfl, HC9⟩))
  refine wp_region_below w6.heap.size w6 (Below.refl _ _) (by kernel_rfl) (by kernel_rfl) ?_
  repeat (go_big_quiet_step ((intro hb; first | rfl | (refine (num_any _ _).mono ?_; rintro e w7 ⟨rfl, rfl⟩; exact ⟨rfl, hb⟩))))
  refine quiet_load (by kernel_rfl) 28 _ rfl ⟨w.heap.size + 1, 0, none⟩ rfl (.agg #[.int .i64 b, .int .i64 c, .int .i64 t]) (fun w' hb => run_loadVar_lim w' 28 _ Try.underlying28 _ [.int .i64 b, .int .i64 c, .int .i64 t] (by kernel_rfl) ?_) ?_
  · intro j v hj
    obtain ⟨r0, r1, r2, r3, r4, r5, _⟩ := boxed2 (HB6.trans (hb.mono HB6.size))
    match j, hj with
    | 0, hj => injection hj with hj; subst hj; exact r3
    | 1, hj => injection hj with hj; subst hj; exact r4
    | 2, hj => injection hj with hj; subst hj; exact r5
  simp only [Act.put, List.setIfInBounds_toArray, List.set_cons_zero, List.set_cons_succ]
  repeat (go_big_quiet_step ((intro hb; first | rfl | (refine (num_any _ _).mono ?_; rintro e w7 ⟨rfl, rfl⟩; exact ⟨rfl, hb⟩) | (refine (H7 _).mono ?_; rintro e w7 ⟨rfl, HB7⟩; exact ⟨rfl, hb.trans (HB7.mono hb.size)⟩))))
  refine quiet_load (by kernel_rfl) 23 _ rfl ⟨w.heap.size, 0, none⟩ rfl (.agg #[.int .i64 b, .int .i64 c, .int .i64 t]) (fun w' hb => run_loadVar_lim w' 23 _ Try.underlying23 _ [.int .i64 b, .int .i64 c, .int .i64 t] (by kernel_rfl) ?_) ?_
  · intro j v hj
    obtain ⟨r0, r1, r2, r3, r4, r5, _⟩ := boxed2 (HB6.trans (hb.mono HB6.size))
    match j, hj with
    | 0, hj => injection hj with hj; subst hj; exact r0
    | 1, hj => injection hj with hj; subst hj; exact r1
    | 2, hj => injection hj with hj; subst hj; exact r2
  simp only [Act.put, List.setIfInBounds_toArray, List.set_cons_zero, List.set_cons_succ]
  repeat (go_big_quiet_step ((intro hb; first | rfl | (refine (num_any _ _).mono ?_; rintro e w7 ⟨rfl, rfl⟩; exact ⟨rfl, hb⟩) | (refine (H8 _).mono ?_; rintro e w7 ⟨rfl, HB7⟩; exact ⟨rfl, hb.trans (HB7.mono hb.size)⟩) | (refine (alive_any _).mono ?_; rintro e w7 ⟨rfl, HB7⟩; exact ⟨rfl, hb.trans (HB7.mono hb.size)⟩))))
  refine wpQuiet_nil ?_
  intro w8 HB8
  go_wp2
  go_ret
  exact ⟨rfl, hcB.trans (HB8.mono hcB.size)⟩
end Go.Proofs.Ytahocnnnipaejaa
