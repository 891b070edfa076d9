/- The walk of bytes.Clone. -/
import Derived.Test.YtaonjbpaeloniaaBase
namespace Go.Proofs.Ytaonjbpaeloniaa
open Go.RowKit Go.Proofs.YtaonjbpaeloniaaW.PrintWords

set_option maxRecDepth 100000 in
set_option maxHeartbeats 400000 in
/-- bytes.Clone: octets of its holder's own -/
theorem Clone_any (A : Option Addr) (c : Nat) (xs : List UInt8) (w : World) (hr : RdB w A c xs) (hl : xs.length ≤ 140737488355328) :
    Calls Try.prog 27 #[.slice A xs.length c] w fun e w' => ∃ v, e = .returned v ∧ OwB w' w.heap.size v xs ∧ Below w.heap.size w w' := by
  have hm := hr.max
  cases A with
  | none =>
    have h0 : xs.length = 0 := by
      rcases Nat.eq_zero_or_pos xs.length with h | h
      · exact h
      · obtain ⟨ad, h, _⟩ := hr.at_ 0 h
        cases h
    obtain rfl : xs = [] := List.eq_nil_of_length_eq_zero h0
    have heq := fun ww => Lib.run_eql_slice_nil (P := Try.prog) ww 22 5 Option.none 0 c 0 0 Try.underlying22
    rw [show Option.none.isNone = true from rfl] at heq
    go_enter Try.func27, Try.ntmps27
    go_wp2
    go_ret
    exact ⟨_, rfl, OwB.zero _ _, Below.refl _ _⟩
  | some ad =>
    have heq := fun ww => Lib.run_eql_slice_nil (P := Try.prog) ww 22 5 (some ad) xs.length c 0 0 Try.underlying22
    rw [show (some ad).isNone = false from rfl] at heq
    have hr1 : ∀ o, RdB (w.alloc o) (some ad) c xs := fun o => hr.below ((Below.refl _ _).alloc (Nat.le_refl _) o)
    go_enter Try.func27, Try.ntmps27
    go_wp2_with (first | (at_builtin; refine app_row (w0 := w) w.heap.size rfl (.tmp 5) (.tmp 6) rfl _ [] xs (some ad) c rfl rfl (OwB.lit0 w) (hr1 _) ((Below.refl _ _).alloc (Nat.le_refl _) _) (by simp) (by simp; omega) ?_; intro v1 w1 HO1 HB1 hg hat))
    go_ret
    exact ⟨_, rfl, HO1, HB1⟩
end Go.Proofs.Ytaonjbpaeloniaa
