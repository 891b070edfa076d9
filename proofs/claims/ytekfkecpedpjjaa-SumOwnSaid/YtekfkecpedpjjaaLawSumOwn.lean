/- The walk of SumOwn. -/
import Derived.Test.YtekfkecpedpjjaaSumA
import Derived.Test.YtekfkecpedpjjaaSumB
import Derived.Test.YtekfkecpedpjjaaOwn
namespace Go.Proofs.Ytekfkecpedpjjaa
open Go.RowKit Go.Proofs.YtekfkecpedpjjaaW.PrintWords
set_option linter.unusedVariables false

set_option maxHeartbeats 400000 in
theorem own_walk (A : Option Addr) (ca : Nat) (xs : List UInt8) (w : World) (hx : RdB w A ca xs) (lx : xs.length ≤ 140737488351232) :
    Calls Try.prog 8 #[.slice A xs.length ca] w fun e w' => e = .returned (.bool true) ∧ Below w.heap.size w w' := by
  have lx' : xs.length ≤ 140737488355328 := by omega
  have lx4 : xs.length + 4 ≤ 140737488355328 := by omega
  have lg : (guarded xs).length ≤ 140737488355328 := by rw [guarded_length]; omega
  obtain ⟨zs, hz⟩ : ∃ zs, guarded xs = zs := ⟨_, rfl⟩
  have hN := hide (bareNum_guarded xs)
  have hR := hide (bare_guarded xs)
  have hZ := hide hz
  rw [hz] at hN hR lg
  clear hz
  go_enter Try.func8, Try.ntmps8
  go_wp2_with (first | (go_at_call 9; refine (alive_any _).mono ?_; rintro e w1 ⟨rfl, HB1⟩; have hx1 := hx.below HB1) | (go_at_call 11; refine (CopyBytes_any A ca xs w1 hx1 lx').mono ?_; rintro e w2 ⟨v2, rfl, HO2, HB2⟩; obtain ⟨A2, c2, rfl, hr2⟩ := HO2.rd) | (go_at_call 18; refine (Guard_any _ _ xs _ hr2 lx4).mono ?_; rintro e w3 ⟨v3, rfl, HO3, HB3⟩; rw [hZ.out] at HO3; have HO23 := HO2.below HB3; obtain ⟨A3, c3, rfl, hr3⟩ := HO3.rd) | (go_at_call 21; (with_reducible refine (Spoil_any _ _ xs w3 HO23).mono ?_); rintro e w4 ⟨rfl, HO24, HG4⟩; have HO34 := HO3.other HO23 HO2.lt HG4; have HB4 := HO23.grown (HB2.trans (HB3.mono HB2.size)) (by have := HB2.size; have := HB3.size; omega) HG4) | (go_at_call 13; obtain ⟨A5, c5, hv5, hr34⟩ := HO34.rd; obtain ⟨rfl, rfl⟩ : A3 = A5 ∧ c3 = c5 := by {injection hv5 with h1 _ h3; exact ⟨h1, h3⟩}; refine (Bare_all _ _ _ _ hr34 lg).mono ?_; rintro e w5 ⟨v5, rfl, HO5, HB5⟩; rw [hR.out] at HO5; rw [hN.out]; have HO35 := HO34.below HB5) | (go_at_call 21; (with_reducible refine (Spoil_any _ _ _ w5 HO35).mono ?_); rintro e w6 ⟨rfl, HO36, HG6⟩; have HO56 := HO5.other HO35 HO34.lt HG6; have q1 := HB1.size; have q2 := HB2.size; have q4 := HB4.size; have q5 := HB5.size; have HB6 := (HO35.lower (base' := w.heap.size) (by omega)).grown ((HB1.trans (HB4.mono q1)).trans (HB5.mono (by omega))) (by omega) HG6; have hx6 := hx.below HB6; obtain ⟨A7, c7, rfl, hr7⟩ := HO56.rd) | (go_at_call 20; refine (num_any _ _).mono ?_; rintro e w7 ⟨rfl, rfl⟩) | (go_at_call 17; refine (SameBytes_any _ _ _ _ _ _ _ hr7 hx6).mono ?_; rintro e w8 ⟨rfl, rfl⟩))
  go_ret
  exact ⟨rfl, HB6⟩
end Go.Proofs.Ytekfkecpedpjjaa
