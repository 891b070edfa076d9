/- The walk of the page's Copied: octets of its holder's own. -/
import Derived.Test.YtmnecbmneljhkaaBase
namespace Go.Proofs.Ytmnecbmneljhkaa
open Go.RowKit Go.Proofs.YtmnecbmneljhkaaW.PrintWords
set_option maxHeartbeats 400000 in
theorem Copied_any (A : Option Addr) (c : Nat) (xs : List UInt8) (w : World) (hr : RdB w A c xs) (hl : xs.length ≤ 140737488355328) :
    Calls Try.prog 33 #[.slice A xs.length c] w fun e w' => ∃ v, e = .returned v ∧ OwB w' w.heap.size v xs ∧ Below w.heap.size w w' := by
  have hm := hr.max
  go_enter Try.func33, Try.ntmps33
  go_wp2_with (first | (at_builtin; refine app_row (w0 := w) w.heap.size rfl _ _ rfl (.slice .none 0 0) [] xs A c rfl rfl (OwB.zero _ _) hr (Below.refl _ _) (Nat.le_refl _) (by simp; omega) ?_; intro v1 w1 HO1 HB1 hg hat))
  go_ret
  exact ⟨_, rfl, HO1, HB1⟩
end Go.Proofs.Ytmnecbmneljhkaa
