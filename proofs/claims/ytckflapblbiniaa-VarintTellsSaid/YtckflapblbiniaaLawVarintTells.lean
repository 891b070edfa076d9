/- The walk of VarintTells. -/
import Derived.Test.YtckflapblbiniaaLawVarintSigns
namespace Go.Proofs.Ytckflapblbiniaa
open Go.RowKit Go.Proofs.YtckflapblbiniaaW.PrintWords
set_option linter.unusedVariables false

set_option maxHeartbeats 1600000 in
theorem tells_walk (n0 : Int) (A : Option Addr) (ca : Nat) (bs : List UInt8) (m : Int) (w : World) (h0 : (Lit.int .u64 n0).wf = true) (hx : RdB w A ca bs) (lx : bs.length ≤ 140737488351232) (h2 : (Lit.int .i64 m).wf = true) :
    Calls Try.prog 6 #[.int .u64 n0, .slice A bs.length ca, .int .i64 m] w fun e w' => e = .returned (.bool true) ∧ Below w.heap.size w w' := by
  obtain ⟨n, rfl, hn⟩ := u64_of n0 h0
  have hm := i64_of m h2
  clear h0 h2
  have lx' : bs.length ≤ 140737488355328 := by omega
  have hS := Size_any n hn
  have hS2 := rSize_any n hn
  have hP := Put_any n hn
  have hP2 := rPut_any n hn
  have hZ := Zig_any m hm
  have hZ2 := rZig_any m hm
  have hG := Zag_any n hn
  have hG2 := rZag_any n hn
  obtain ⟨x, hxx⟩ : ∃ x, put n = x := ⟨_, rfl⟩
  rw [hxx] at hP hP2
  clear hxx
  go_enter Try.func6, Try.ntmps6
  go_wp2_with (first | (go_at_call 12; refine (CopyBytes_any _ _ _ _ hx lx').mono ?_; rintro e w1 ⟨v1, rfl, HO1, HB1⟩; obtain ⟨A1, c1, rfl, hr1⟩ := HO1.rd; have hx1 := hx.below HB1) | (go_at_call 11; refine (Get_any _ _ _ _ hr1).mono ?_; rintro e w2 ⟨rfl, HB2⟩; have hx2 := hx1.below HB2; have hr12 := hr1.below HB2) | (go_at_call 16; refine (rGet_any _ _ _ _ hx2).mono ?_; rintro e w3 ⟨rfl, HB3⟩; have hx3 := hx2.below HB3; have hr13 := hr12.below HB3) | (go_at_call 14; refine (hS _).mono ?_; rintro e w' ⟨rfl, rfl⟩) | (go_at_call 17; refine (hS2 _).mono ?_; rintro e w' ⟨rfl, rfl⟩) | (go_at_call 10; refine (hP _).mono ?_; rintro e w4 ⟨v4, rfl, HO4, HB4⟩; obtain ⟨A4, c4, rfl, hr4⟩ := HO4.rd; have hx4 := hx3.below HB4; have hr14 := hr13.below HB4) | (go_at_call 18; refine (hP2 _).mono ?_; rintro e w5 ⟨v5, rfl, HO5, HB5⟩; obtain ⟨A5, c5, rfl, hr5⟩ := HO5.rd; have hx5 := hx4.below HB5; have hr15 := hr14.below HB5; have hr45 := hr4.below HB5) | (go_at_call 15; (with_reducible refine (SameBytes_any A4 A5 c4 c5 x x w5 hr45 hr5).mono ?_); rintro e w' ⟨rfl, rfl⟩) | (go_at_call 13; refine (num_any _ _).mono ?_; rintro e w' ⟨rfl, rfl⟩) | (go_at_call 19; refine (hZ _).mono ?_; rintro e w' ⟨rfl, rfl⟩) | (go_at_call 20; refine (hZ2 _).mono ?_; rintro e w' ⟨rfl, rfl⟩) | (go_at_call 21; refine (hG _).mono ?_; rintro e w' ⟨rfl, rfl⟩) | (go_at_call 22; refine (hG2 _).mono ?_; rintro e w' ⟨rfl, rfl⟩) | (go_at_call 15; (with_reducible refine (SameBytes_any A1 A c1 ca bs bs _ (by assumption) (by assumption)).mono ?_); rintro e w' ⟨rfl, rfl⟩) | (go_at_call 9; refine (alive_any _).mono ?_; rintro e w6 ⟨rfl, HB6⟩))
  go_ret
  have s1 := HB1.size
  have s2 := HB2.size
  have s3 := HB3.size
  have s4 := HB4.size
  have s5 := HB5.size
  exact ⟨by simp, ((((HB1.trans (HB2.mono s1)).trans (HB3.mono (by omega))).trans (HB4.mono (by omega))).trans (HB5.mono (by omega))).trans (HB6.mono (by omega))⟩
end Go.Proofs.Ytckflapblbiniaa
