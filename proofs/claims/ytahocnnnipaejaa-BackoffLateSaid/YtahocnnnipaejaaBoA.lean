/- Backoff: the plain law, and the walk of Check. -/
import Derived.Test.YtahocnnnipaejaaProg
import Derived.Test.YtahocnnnipaejaaWWords
import Derived.WalkKit
import Derived.WalkSpells
import Derived.WalkLawsBesides
import Derived.KernelRfl
import Derived.Below
import Derived.IntWalk
import Derived.StillTactics
namespace Go.Proofs.Ytahocnnnipaejaa
open Go.RowKit Go.Proofs.YtahocnnnipaejaaW.PrintWords
set_option linter.unusedVariables false

theorem hide {p : Prop} (h : p) : Hid p := h
def okL (b c t : Int) : Prop := 1 ≤ b ∧ b ≤ 1048576 ∧ b ≤ c ∧ c ≤ 1073741824 ∧ 1 ≤ t ∧ t ≤ 16
instance (b c t : Int) : Decidable (okL b c t) := by unfold okL; exact inferInstance
def chk (b c t : Int) : Int := if okL b c t then 0 else 4
theorem chk_ok {b c t : Int} (h : okL b c t) : chk b c t = 0 := by rw [chk, if_pos h]
theorem chk_no {b c t : Int} (h : ¬ okL b c t) : chk b c t = 4 := by rw [chk, if_neg h]
def lim (b c t : Int) : Value := .agg #[.int .i64 b, .int .i64 c, .int .i64 t]
set_option maxHeartbeats 800000 in
theorem Check_any (b c t : Int) (w : World) : Calls Try.prog 17 #[lim b c t] w fun e w' => e = .returned (.int .i64 (chk b c t)) ∧ Below w.heap.size w w' := by
  unfold lim
  obtain ⟨z, hz⟩ : ∃ z, chk b c t = z := ⟨_, rfl⟩
  have HZ := hide hz
  rw [hz]
  clear hz
  go_enter Try.func17, Try.ntmps17
  go_wp2
  all_goals (go_ret; refine ⟨?_, (Below.refl _ _).alloc (Nat.le_refl _) _⟩)
  all_goals (rw [← HZ.out]; first | (rw [chk_ok (by unfold okL; omega)]; rfl) | (rw [chk_no (by unfold okL; omega)]; rfl))
theorem rCheck_any (b c t : Int) (w : World) : Calls Try.prog 12 #[lim b c t] w fun e w' => e = .returned (.int .i64 (chk b c t)) ∧ Below w.heap.size w w' := by
  unfold lim
  obtain ⟨z, hz⟩ : ∃ z, chk b c t = z := ⟨_, rfl⟩
  have HZ := hide hz
  rw [hz]
  clear hz
  go_enter Try.func12, Try.ntmps12
  go_wp2
  all_goals (go_ret; refine ⟨?_, (Below.refl _ _).alloc (Nat.le_refl _) _⟩)
  all_goals (rw [← HZ.out]; first | (rw [chk_ok (by unfold okL; omega)]; rfl) | (rw [chk_no (by unfold okL; omega)]; rfl))
theorem num_any (n : Int) (w : World) : Calls Try.prog 10 #[.int .i64 n] w fun e w' => e = .returned (.int .i64 n) ∧ w = w' := by
  go_enter Try.func10, Try.ntmps10
  go_wp2
  go_ret
  exact ⟨rfl, rfl⟩
end Go.Proofs.Ytahocnnnipaejaa
