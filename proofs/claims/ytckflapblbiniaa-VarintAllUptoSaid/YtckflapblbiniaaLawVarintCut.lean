/- The walk of VarintCut. -/
import Derived.Test.YtckflapblbiniaaLawVarintSigns
namespace Go.Proofs.Ytckflapblbiniaa
open Go.RowKit Go.Proofs.YtckflapblbiniaaW.PrintWords
set_option linter.unusedVariables false

theorem get_cut (n : Nat) (hn : n < 18446744073709551616) (k : Nat) (hk : k < vsize n) : getErr ((put n).take k) = 8 ∧ gN ((put n).take k) = 0 ∧ gK ((put n).take k) = 0 := by
  have he : getErr ((put n).take k) = 8 := by
    cases k with
    | zero => exact getErr_nil
    | succ k =>
      have h0 : oct0 ((put n).take (k + 1)) = head n := rfl
      have ho := (get_put n hn []).2.2
      rw [List.append_nil] at ho
      have h1 : oct0 (put n) = head n := rfl
      rw [h1] at ho
      rw [getErr, h0, ho, if_pos]
      rw [List.length_take, put_length]
      omega
  exact ⟨he, by rw [gN, he]; rfl, by rw [gK, he]; rfl⟩
set_option maxHeartbeats 400000 in
theorem cut_walk (n0 a1 : Int) (w : World) (h0 : (Lit.int .u64 n0).wf = true) (h1 : (Lit.int .i64 a1).wf = true) :
    Calls Try.prog 5 #[.int .u64 n0, .int .i64 a1] w fun e w' => e = .returned (.bool true) ∧ Below w.heap.size w w' := by
  obtain ⟨n, rfl, hn⟩ := u64_of n0 h0
  have hb1 := i64_of a1 h1
  clear h0 h1
  have hp := put_length n
  have hP := Put_any n hn
  have hC := get_cut n hn
  have h1 := vsize_pos n
  have h9 := vsize_le n
  generalize put n = xs at *
  generalize vsize n = s at *
  subst hp
  obtain ⟨m, hm, hmn⟩ : ∃ m : Nat, m < xs.length ∧ (wrap64 (a1.tmod (xs.length : Int) + (xs.length : Int))).tmod (xs.length : Int) = (m : Int) := by
    have hp : 0 < (xs.length : Int) := by omega
    have t1 := Int.tmod_lt_of_pos a1 hp
    have t2 := Int.lt_tmod_of_pos a1 hp
    have hw : wrap64 (a1.tmod (xs.length : Int) + (xs.length : Int)) = a1.tmod (xs.length : Int) + (xs.length : Int) := by
      unfold wrap64
      omega
    rw [hw]
    have t3 := Int.tmod_lt_of_pos (a1.tmod (xs.length : Int) + (xs.length : Int)) hp
    have t4 := Int.tmod_nonneg (xs.length : Int) (a := a1.tmod (xs.length : Int) + (xs.length : Int)) (by omega)
    refine ⟨((a1.tmod (xs.length : Int) + (xs.length : Int)).tmod (xs.length : Int)).toNat, by omega, by omega⟩
  have HM := hide hmn
  obtain ⟨e1, e2, e3⟩ := hC m hm
  have hlm : (xs.take m).length = m := by simp; omega
  have hl1 : ¬ (xs.length : Int) < 1 := by omega
  have hl0 : ¬ (xs.length : Int) = 0 := by omega
  clear hmn hC
  go_enter Try.func5, Try.ntmps5
  go_wp2_with (first | (go_at_call 9; refine (alive_any _).mono ?_; rintro e w1 ⟨rfl, HB1⟩) | (go_at_call 10; refine (hP _).mono ?_; rintro e w2 ⟨v2, rfl, HO2, HB2⟩; obtain ⟨A2, c2, rfl, hr2⟩ := HO2.rd; have hg2 := Get_any _ _ _ _ (hr2.take m (by omega)); rw [hlm, e1, e2, e3] at hg2; have hc2 := hr2.le; have hsl : ∀ W, (Instr.slice 23 (.slice A2 xs.length c2) none (some (.int .i64 ((wrap64 (a1.tmod (xs.length : Int) + (xs.length : Int))).tmod (xs.length : Int)))) none).run Try.prog W = .ok (.slice A2 m c2) W := fun W => (by rw [HM.out]; exact slice_hi 23 5 Try.underlying23 (i := _) rfl rfl A2 xs.length c2 m (by omega) W); clear hlm) | (go_at_call 11; refine hg2.mono ?_; rintro e w3 ⟨rfl, HB3⟩) | (go_at_call 13; refine (num_any _ _).mono ?_; rintro e w' ⟨rfl, rfl⟩))
  go_ret
  exact ⟨rfl, (HB1.trans (HB2.mono HB1.size)).trans (HB3.mono (by have := HB1.size; have := HB2.size; omega))⟩
end Go.Proofs.Ytckflapblbiniaa
