/- The walk of SumZero. -/
import Derived.Test.YtekfkecpedpjjaaSumA
import Derived.Test.YtekfkecpedpjjaaSumB
namespace Go.Proofs.Ytekfkecpedpjjaa
open Go.RowKit Go.Proofs.YtekfkecpedpjjaaW.PrintWords
set_option linter.unusedVariables false

set_option maxHeartbeats 400000 in
theorem zero_walk (A : Option Addr) (ca : Nat) (xs : List UInt8) (w : World) (hx : RdB w A ca xs) (lx : xs.length ≤ 140737488351232) :
    Calls Try.prog 6 #[.slice A xs.length ca] w fun e w' => e = .returned (.bool true) ∧ Below w.heap.size w w' := by
  obtain ⟨zs, hz⟩ : ∃ zs, guarded xs = zs := ⟨_, rfl⟩
  have h1 := hide (crc_guarded xs)
  have h2 := bare_guarded xs
  have h3 := hide (bareNum_guarded xs)
  have lz : zs.length = xs.length + 4 := by rw [← hz, guarded_length]
  have lz' : zs.length ≤ 140737488355328 := by omega
  clear lz
  rw [hz] at h1 h2 h3
  go_enter Try.func6, Try.ntmps6
  go_wp2_with (first | (go_at_call 18; refine (Guard_any _ _ _ _ hx (by omega)).mono ?_; rintro e w1 ⟨v1, rfl, HO1, HB1⟩; rw [hz] at HO1; obtain ⟨A1, c1, rfl, hr1⟩ := HO1.rd; have hx1 := hx.below HB1; clear hz lx HO1) | (go_at_call 13; refine (Bare_all _ _ _ _ hr1 lz').mono ?_; rintro e w2 ⟨v2, rfl, HO2, HB2⟩; rw [h2] at HO2; rw [h3.out]; obtain ⟨A2, c2, rfl, hr2⟩ := HO2.rd; have hr12 := hr1.below HB2; have hx2 := hx1.below HB2; clear h2 HO2) | (go_at_call 12; refine (Sum_any _ _ _ _ hr12).mono ?_; rintro e w3 ⟨rfl, rfl⟩; rw [h1.out]) | (go_at_call 20; refine (num_any _ _).mono ?_; rintro e w4 ⟨rfl, rfl⟩) | (go_at_call 17; refine (SameBytes_any _ _ _ _ _ _ _ hr2 hx2).mono ?_; rintro e w5 ⟨rfl, rfl⟩) | (go_at_call 9; refine (alive_any _).mono ?_; rintro e w6 ⟨rfl, HB6⟩))
  go_ret
  exact ⟨rfl, (HB1.trans (HB2.mono HB1.size)).trans (HB6.mono (by have := HB1.size; have := HB2.size; omega))⟩
end Go.Proofs.Ytekfkecpedpjjaa
