/- The walk of BackoffGrows. -/
import Derived.Test.YtahocnnnipaejaaBoF
namespace Go.Proofs.Ytahocnnnipaejaa
open Go.RowKit Go.Proofs.YtahocnnnipaejaaW.PrintWords
set_option linter.unusedVariables false

theorem dl_next {b c t : Int} (h : okL b c t) (k : Int) (h0 : 0 ≤ k) : dl b c k ≤ dl b c (k + 1) ∧ (dl b c (k + 1) = 2 * dl b c k ∨ dl b c (k + 1) = c) := by
  obtain ⟨h1, h2, h3, h4, h5, h6⟩ := h
  have e : (k + 1).toNat = k.toNat + 1 := by omega
  have hp : b * 2 ^ (k.toNat + 1) = 2 * (b * 2 ^ k.toNat) := by rw [Int.pow_succ, ← Int.mul_assoc, Int.mul_comm]
  have hp2 : (0 : Int) < 2 ^ k.toNat := Int.pow_pos (by decide)
  have hm : b * 1 ≤ b * 2 ^ k.toNat := Int.mul_le_mul_of_nonneg_left (by omega) (by omega)
  unfold dl
  rw [e, hp]
  omega
theorem dl_zero {b c t : Int} (h : okL b c t) : dl b c 0 = b := by
  obtain ⟨h1, h2, h3, h4, h5, h6⟩ := h
  unfold dl
  simp
  omega
theorem dl_far {b c t : Int} (h : okL b c t) (k : Int) (h0 : 31 ≤ k) : dl b c k = c := by
  obtain ⟨h1, h2, h3, h4, h5, h6⟩ := h
  have hm := mul_pow_mono b (by omega) 31 k.toNat (by omega)
  unfold dl
  omega
set_option maxHeartbeats 800000 in
theorem grows_walk (b c t k : Int) (w : World) (wb : (Lit.int .i64 b).wf = true) (wc : (Lit.int .i64 c).wf = true) (wt : (Lit.int .i64 t).wf = true) (wk : (Lit.int .i64 k).wf = true) :
    Calls Try.prog 3 #[lim b c t, .int .i64 k] w fun e w' => e = .returned (.bool true) ∧ Below w.heap.size w w' := by
  have hb := i64_of b wb
  have hc := i64_of c wc
  have hk := i64_of k wk
  clear wb wc wt wk
  have H1 := Delay_any b c t k
  rcases del_cases b c t k with ⟨hok, h0, e1, e2⟩ | ⟨hno, e1, e2⟩
  · rw [e1, e2] at H1
    have hbd := dl_bounds hok k
    have hz : k = 0 → dl b c k = b := fun e => by rw [e]; exact dl_zero hok
    have hf : k = 9223372036854775807 → dl b c k = c := fun e => dl_far hok k (by omega)
    have hn := dl_next hok k h0
    have H2 : ∀ (x : Int) (hx : x = k + 1) (w : World), Calls Try.prog 9 #[lim b c t, .int .i64 x] w fun e w' => e = .returned (.tuple #[.int .i64 (dl b c (k + 1)), .int .i64 0]) ∧ Below w.heap.size w w' := fun x hx w => by rw [hx]; exact delay_at b c t (k + 1) _ hok (by omega) rfl w
    obtain ⟨h1, h2, h3, h4, h5, h6⟩ := hok
    have hd2 : dl b c (k + 1) ≤ c := by unfold dl; omega
    generalize dl b c k = d at *
    generalize dl b c (k + 1) = d2 at *
    obtain ⟨hn1, hn2⟩ := hn
    obtain ⟨hbd1, hbd2⟩ := hbd
    have HN := hide hn2
    clear hn2 e1 e2
    unfold lim at *
    by_cases k0 : k = 0
    · have hdb := hz k0
      have HK2 := H2 1 (by omega)
      clear H2
      subst hdb
      subst k0
      clear hz hf
      go_enter Try.func3, Try.ntmps3
      go_wp2_with (first | (go_at_call 8; refine (alive_any _).mono ?_; rintro e w1 ⟨rfl, HB1⟩; obtain ⟨p0, p1, p2, hcB⟩ := boxed HB1) | (go_at_call 9; (with_reducible refine (H1 _).mono ?_); rintro e w2 ⟨rfl, HC2⟩; have HB2 := HB1.trans (HC2.mono HB1.size); obtain ⟨q0, q1, q2, hcB2⟩ := boxed HB2) | (go_at_call 9; (with_reducible refine (HK2 _).mono ?_); rintro e w3 ⟨rfl, HC3⟩; have HB3 := HB2.trans (HC3.mono HB2.size); obtain ⟨r0, r1, r2, hcB3⟩ := boxed HB3) | (go_at_call 10; refine (num_any _ _).mono ?_; rintro e w' ⟨rfl, rfl⟩))
      all_goals have z3 := HN.out
      all_goals go_ret
      all_goals refine ⟨?_, hcB3⟩
      all_goals first | rfl | (simp; omega)
    · by_cases km : k = 9223372036854775807
      · have HK2 := H2 (k + 1) rfl
        have hdc := hf km
        clear hz hf
        subst hdc
        subst km
        go_enter Try.func3, Try.ntmps3
        go_wp2_with (first | (go_at_call 8; refine (alive_any _).mono ?_; rintro e w1 ⟨rfl, HB1⟩; obtain ⟨p0, p1, p2, hcB⟩ := boxed HB1) | (go_at_call 9; (with_reducible refine (H1 _).mono ?_); rintro e w2 ⟨rfl, HC2⟩; have HB2 := HB1.trans (HC2.mono HB1.size); obtain ⟨q0, q1, q2, hcB2⟩ := boxed HB2) | (go_at_call 9; (with_reducible refine (HK2 _).mono ?_); rintro e w3 ⟨rfl, HC3⟩; have HB3 := HB2.trans (HC3.mono HB2.size); obtain ⟨r0, r1, r2, hcB3⟩ := boxed HB3) | (go_at_call 10; refine (num_any _ _).mono ?_; rintro e w' ⟨rfl, rfl⟩))
        go_ret
        exact ⟨by simp, hcB2⟩
      · have HK2 := H2 (k + 1) rfl
        clear H2
        clear hz hf
        go_enter Try.func3, Try.ntmps3
        go_wp2_with (first | (go_at_call 8; refine (alive_any _).mono ?_; rintro e w1 ⟨rfl, HB1⟩; obtain ⟨p0, p1, p2, hcB⟩ := boxed HB1) | (go_at_call 9; (with_reducible refine (H1 _).mono ?_); rintro e w2 ⟨rfl, HC2⟩; have HB2 := HB1.trans (HC2.mono HB1.size); obtain ⟨q0, q1, q2, hcB2⟩ := boxed HB2) | (go_at_call 9; (with_reducible refine (HK2 _).mono ?_); rintro e w3 ⟨rfl, HC3⟩; have HB3 := HB2.trans (HC3.mono HB2.size); obtain ⟨r0, r1, r2, hcB3⟩ := boxed HB3) | (go_at_call 10; refine (num_any _ _).mono ?_; rintro e w' ⟨rfl, rfl⟩))
        all_goals have z3 := HN.out
        all_goals go_ret
        all_goals refine ⟨?_, hcB3⟩
        all_goals first | rfl | (simp; omega)
  · rw [e1, e2] at H1
    unfold lim at *
    go_enter Try.func3, Try.ntmps3
    go_wp2_with (first | (go_at_call 8; refine (alive_any _).mono ?_; rintro e w1 ⟨rfl, HB1⟩; obtain ⟨p0, p1, p2, hcB⟩ := boxed HB1) | (go_at_call 9; refine (H1 _).mono ?_; rintro e w2 ⟨rfl, HC2⟩) | (go_at_call 10; refine (num_any _ _).mono ?_; rintro e w' ⟨rfl, rfl⟩))
    go_ret
    exact ⟨rfl, hcB.trans (HC2.mono hcB.size)⟩
end Go.Proofs.Ytahocnnnipaejaa
