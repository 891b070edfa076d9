/- The walk of SumTells. -/
import Derived.Test.YtekfkecpedpjjaaLawSumGoesOn
import Derived.Test.YtekfkecpedpjjaaSumB
namespace Go.Proofs.Ytekfkecpedpjjaa
open Go.RowKit Go.Proofs.YtekfkecpedpjjaaW.PrintWords
set_option linter.unusedVariables false

set_option maxHeartbeats 800000 in
theorem tells_walk (A : Option Addr) (ca : Nat) (xs : List UInt8) (a0 : Int) (B : Option Addr) (cb : Nat) (ys : List UInt8) (w : World) (hx : RdB w A ca xs) (lx : xs.length ≤ 140737488351232) (h0 : (Lit.int .u32 a0).wf = true) (hy : RdB w B cb ys) (ly : ys.length ≤ 140737488351232) :
    Calls Try.prog 5 #[.slice A xs.length ca, .int .u32 a0, .slice B ys.length cb] w fun e w' => e = .returned (.bool true) ∧ Below w.heap.size w w' := by
  obtain ⟨c, rfl⟩ := u32_of a0 h0
  have lx' : xs.length ≤ 140737488355328 := by omega
  have lx4 : xs.length + 4 ≤ 140737488355328 := by omega
  have ly' : ys.length ≤ 140737488355328 := by omega
  clear lx ly
  go_enter Try.func5, Try.ntmps5
  go_wp2_with (first | (go_at_call 11; refine (CopyBytes_any A ca xs w hx lx').mono ?_; rintro e w1 ⟨v1, rfl, HO1, HB1⟩; obtain ⟨A1, c1, rfl, hr1⟩ := HO1.rd; have hx1 := hx.below HB1; have hy1 := hy.below HB1; clear HO1) | (go_at_call 11; refine (CopyBytes_any B cb ys _ hy1 ly').mono ?_; rintro e w2 ⟨v2, rfl, HO2, HB2⟩; obtain ⟨A2, c2, rfl, hr2⟩ := HO2.rd; have hx2 := hx1.below HB2; have hy2 := hy1.below HB2; have hr12 := hr1.below HB2; clear HO2) | (go_at_call 13; refine (Bare_all _ _ ys _ hr2 ly').mono ?_; rintro e w3 ⟨v3, rfl, HO3, HB3⟩; obtain ⟨A3, c3, rfl, hr3⟩ := HO3.rd; have hx3 := hx2.below HB3; have hy3 := hy2.below HB3; have hr13 := hr12.below HB3; have hr23 := hr2.below HB3; clear HO3) | (go_at_call 14; refine (rBare_all _ _ ys _ hy3 ly').mono ?_; rintro e w4 ⟨v4, rfl, HO4, HB4⟩; obtain ⟨A4, c4, rfl, hr4⟩ := HO4.rd; have hx4 := hx3.below HB4; have hy4 := hy3.below HB4; have hr14 := hr13.below HB4; have hr24 := hr23.below HB4; have hr34 := hr3.below HB4; have hx0 : RdB _ A ca xs := hx4; have hy0 : RdB _ B cb ys := hy4; clear HO4) | (go_at_call 12; refine (Sum_any _ _ _ _ hr14).mono ?_; rintro e w' ⟨rfl, rfl⟩) | (go_at_call 15; refine (rSum_any _ _ _ _ hx4).mono ?_; rintro e w' ⟨rfl, rfl⟩) | (go_at_call 10; refine (Extend_any _ _ _ _ _ hr14).mono ?_; rintro e w' ⟨rfl, rfl⟩) | (go_at_call 16; refine (rExtend_any _ _ _ _ _ hx4).mono ?_; rintro e w' ⟨rfl, rfl⟩) | (go_at_call 18; refine (Guard_any _ _ xs _ hr14 lx4).mono ?_; rintro e w5 ⟨v5, rfl, HO5, HB5⟩; obtain ⟨A5, c5, rfl, hr5⟩ := HO5.rd; have hx5 := hx4.below HB5; have hy5 := hy4.below HB5; have hr15 := hr14.below HB5; have hr25 := hr24.below HB5; have hr35 := hr34.below HB5; have hr45 := hr4.below HB5; clear HO5) | (go_at_call 19; refine (rGuard_any _ _ xs _ hx5 lx4).mono ?_; rintro e w6 ⟨v6, rfl, HO6, HB6⟩; obtain ⟨A6, c6, rfl, hr6⟩ := HO6.rd; have hx6 := hx5.below HB6; have hy6 := hy5.below HB6; have hr16 := hr15.below HB6; have hr26 := hr25.below HB6; have hr36 := hr35.below HB6; have hr46 := hr45.below HB6; have hr56 := hr5.below HB6; clear HO6) | (go_at_call 17; refine (SameBytes_any _ _ _ _ _ _ w6 (by assumption) (by assumption)).mono ?_; rintro e w' ⟨rfl, rfl⟩) | (go_at_call 20; refine (num_any _ _).mono ?_; rintro e w' ⟨rfl, rfl⟩) | (go_at_call 9; refine (alive_any _).mono ?_; rintro e w7 ⟨rfl, HB7⟩))
  go_ret
  have s1 := HB1.size
  have s2 := HB2.size
  have s3 := HB3.size
  have s4 := HB4.size
  have s5 := HB5.size
  have s6 := HB6.size
  exact ⟨rfl, (((((HB1.trans (HB2.mono s1)).trans (HB3.mono (by omega))).trans (HB4.mono (by omega))).trans (HB5.mono (by omega))).trans (HB6.mono (by omega))).trans (HB7.mono (by omega))⟩
end Go.Proofs.Ytekfkecpedpjjaa
