/- The walk of BackoffLate. -/
import Derived.Test.YtahocnnnipaejaaBoF
namespace Go.Proofs.Ytahocnnnipaejaa
open Go.RowKit Go.Proofs.YtahocnnnipaejaaW.PrintWords
set_option linter.unusedVariables false

set_option maxHeartbeats 800000 in
theorem late_walk (b c t now k : Int) (w : World) (wb : (Lit.int .i64 b).wf = true) (wc : (Lit.int .i64 c).wf = true) (wt : (Lit.int .i64 t).wf = true) (wn : (Lit.int .i64 now).wf = true) (wk : (Lit.int .i64 k).wf = true) :
    Calls Try.prog 7 #[lim b c t, .int .i64 now, .int .i64 k] w fun e w' => e = .returned (.bool true) ∧ Below w.heap.size w w' := by
  have hk := i64_of k wk
  have hnow := i64_of now wn
  clear wb wc wt wk wn
  have H1 := Delay_any b c t k
  have H2 := Due_any b c t now k hnow
  rcases del_cases b c t k with ⟨hok, h0, e1, e2⟩ | ⟨hno, e1, e2⟩
  · rw [e1, e2] at H1
    have hbd := dl_bounds hok k
    obtain ⟨hbd1, hbd2⟩ := hbd
    have hY : 0 ≤ now ∧ now < 32503680000 ∧ now + dl b c k < 32503680000 → dueN b c t now k = now + dl b c k ∧ dueE b c t now k = 0 := fun h => due_yes ⟨hok, h0, h⟩
    have hN : ¬ (0 ≤ now ∧ now < 32503680000 ∧ now + dl b c k < 32503680000) → dueN b c t now k = 0 ∧ dueE b c t now k = 4 := fun h => due_no (fun h2 => h h2.2.2)
    obtain ⟨h1, h2, h3, h4, h5, h6⟩ := hok
    generalize dl b c k = d at *
    generalize dueN b c t now k = dn at *
    generalize dueE b c t now k = de at *
    clear e1 e2
    by_cases hin : 0 ≤ now ∧ now < 32503680000 ∧ now + d < 32503680000
    · obtain ⟨rfl, rfl⟩ := hY hin
      clear hY hN
      obtain ⟨i1, i2, i3⟩ := hin
      unfold lim at *
      go_enter Try.func7, Try.ntmps7
      go_wp2_with (first | (go_at_call 8; refine (alive_any _).mono ?_; rintro e w1 ⟨rfl, HB1⟩; obtain ⟨p0, p1, p2, hcB⟩ := boxed HB1) | (go_at_call 9; refine (H1 _).mono ?_; rintro e w2 ⟨rfl, HC2⟩; have HB2 := HB1.trans (HC2.mono HB1.size); obtain ⟨q0, q1, q2, hcB2⟩ := boxed HB2) | (go_at_call 14; refine (H2 _).mono ?_; rintro e w3 ⟨rfl, HC3⟩; have hcB3 := hcB2.trans (HC3.mono hcB2.size)) | (go_at_call 10; refine (num_any _ _).mono ?_; rintro e w' ⟨rfl, rfl⟩))
      go_ret
      exact ⟨by simp; omega, hcB3⟩
    · obtain ⟨rfl, rfl⟩ := hN hin
      clear hY hN
      unfold lim at *
      go_enter Try.func7, Try.ntmps7
      go_wp2_with (first | (go_at_call 8; refine (alive_any _).mono ?_; rintro e w1 ⟨rfl, HB1⟩; obtain ⟨p0, p1, p2, hcB⟩ := boxed HB1) | (go_at_call 9; refine (H1 _).mono ?_; rintro e w2 ⟨rfl, HC2⟩; have HB2 := HB1.trans (HC2.mono HB1.size); obtain ⟨q0, q1, q2, hcB2⟩ := boxed HB2) | (go_at_call 14; refine (H2 _).mono ?_; rintro e w3 ⟨rfl, HC3⟩; have hcB3 := hcB2.trans (HC3.mono hcB2.size)) | (go_at_call 10; refine (num_any _ _).mono ?_; rintro e w' ⟨rfl, rfl⟩))
      all_goals first | (exfalso; omega) | (go_ret; exact ⟨by simp, hcB3⟩)
  · rw [e1, e2] at H1
    have hN := due_no (b := b) (c := c) (t := t) (now := now) (k := k) (fun h => hno ⟨h.1, h.2.1⟩)
    rw [hN.1, hN.2] at H2
    unfold lim at *
    go_enter Try.func7, Try.ntmps7
    go_wp2_with (first | (go_at_call 8; refine (alive_any _).mono ?_; rintro e w1 ⟨rfl, HB1⟩; obtain ⟨p0, p1, p2, hcB⟩ := boxed HB1) | (go_at_call 9; refine (H1 _).mono ?_; rintro e w2 ⟨rfl, HC2⟩; have HB2 := HB1.trans (HC2.mono HB1.size); obtain ⟨q0, q1, q2, hcB2⟩ := boxed HB2) | (go_at_call 14; refine (H2 _).mono ?_; rintro e w3 ⟨rfl, HC3⟩; have hcB3 := hcB2.trans (HC3.mono hcB2.size)) | (go_at_call 10; refine (num_any _ _).mono ?_; rintro e w' ⟨rfl, rfl⟩))
    go_ret
    exact ⟨by simp, hcB3⟩
end Go.Proofs.Ytahocnnnipaejaa
