/- Bloom: filters; the walks of may, the reference's check. -/
import Derived.Test.YtmnecbmneljhkaaBlA
import Derived.Test.YtmnecbmneljhkaaOwn
namespace Go.Proofs.Ytmnecbmneljhkaa
open Go.RowKit Go.Proofs.YtmnecbmneljhkaaW.PrintWords
set_option linter.unusedVariables false

/-- a filter as a value -/
def fil (K : Int) (A : Option Addr) (n c : Nat) : Value := .agg #[.int .i64 K, .slice A n c]
def okF (K : Int) (n : Nat) : Prop := 1 ≤ K ∧ K ≤ 8 ∧ 1 ≤ n ∧ n ≤ 8192
instance (K : Int) (n : Nat) : Decidable (okF K n) := by unfold okF; exact inferInstance
theorem may_any (K : Int) (A : Option Addr) (n c : Nat) (w : World) : Calls Try.prog 30 #[fil K A n c] w fun e w' => e = .returned (.bool (decide (okF K n))) ∧ Below w.heap.size w w' := by
  unfold fil
  obtain ⟨z, hz⟩ : ∃ z, decide (okF K n) = z := ⟨_, rfl⟩
  have HZ := hide hz
  rw [hz]
  clear hz
  go_enter Try.func30, Try.ntmps30
  go_wp2
  all_goals (go_ret; refine ⟨?_, (Below.refl _ _).alloc (Nat.le_refl _) _⟩)
  all_goals (rw [← HZ.out]; unfold okF)
  all_goals (refine congrArg Ending.returned (congrArg Value.bool ?_); first | (refine (decide_eq_true ?_).symm; omega) | (refine (decide_eq_false ?_).symm; omega) | (refine decide_eq_decide.2 ?_; omega))
theorem check_any (K : Int) (A : Option Addr) (n c : Nat) (w : World) : Calls Try.prog 31 #[fil K A n c] w fun e w' => e = .returned (.int .i64 (if okF K n then 0 else 9)) ∧ Below w.heap.size w w' := by
  unfold fil
  obtain ⟨z, hz⟩ : ∃ z : Int, (if okF K n then (0 : Int) else 9) = z := ⟨_, rfl⟩
  have HZ := hide hz
  rw [hz]
  clear hz
  go_enter Try.func31, Try.ntmps31
  go_wp2
  all_goals (go_ret; refine ⟨?_, (Below.refl _ _).alloc (Nat.le_refl _) _⟩)
  all_goals (rw [← HZ.out]; first | (rw [if_pos (by unfold okF; omega)]; rfl) | (rw [if_neg (by unfold okF; omega)]; rfl))
theorem num_any (n : Int) (w : World) : Calls Try.prog 18 #[.int .i64 n] w fun e w' => e = .returned (.int .i64 n) ∧ w = w' := by
  go_enter Try.func18, Try.ntmps18
  go_wp2
  go_ret
  exact ⟨rfl, rfl⟩
end Go.Proofs.Ytmnecbmneljhkaa
