/- The walks of num and alive of the checksum's statements. -/
import Derived.Test.YtekfkecpedpjjaaSumW3
import Derived.Test.YtekfkecpedpjjaaSumR
import Derived.Test.YtekfkecpedpjjaaLit
import Derived.Lib.SlBytesConst
namespace Go.Proofs.Ytekfkecpedpjjaa
open Go.RowKit Go.Proofs.YtekfkecpedpjjaaW.PrintWords

theorem num_any (n : Int) (w : World) : Calls Try.prog 20 #[.int .i64 n] w fun e w' => e = .returned (.int .i64 n) ∧ w = w' := by
  go_enter Try.func20, Try.ntmps20
  go_wp2
  go_ret
  exact ⟨rfl, rfl⟩

def digits9 : List UInt8 := [49, 50, 51, 52, 53, 54, 55, 56, 57]
theorem crc_digits : crc ones digits9 = 58124007#32 := by decide +kernel
set_option maxHeartbeats 400000 in
theorem alive_any (w : World) : Calls Try.prog 9 #[] w fun e w' => e = .returned (.bool true) ∧ Below w.heap.size w w' := by
  have kc := fun (C : Array Value) (n c : Nat) => Lib.run_convert_bytes_const (P := Try.prog) w 23 5 C n c Try.underlying23 Try.underlying5
  go_enter Try.func9, Try.ntmps9
  go_wp2_with (first | (go_at_call 12; refine (Sum_any (some ⟨w.heap.size, 0, none⟩) 9 digits9 _ (RdB_lit digits9 w _ _ _ _ rfl rfl (by decide))).mono ?_; rintro e w' ⟨rfl, rfl⟩; rw [crc_digits]) | (go_at_call 18; refine (Guard_any Option.none 0 [] _ (RdB.zero _ _ _) (by simp)).mono ?_; rintro e w1 ⟨v, rfl, HO1, HB1⟩; obtain ⟨A1, c1, rfl, hrd⟩ := HO1.rd; rw [guarded_length]; clear hrd))
  go_ret
  exact ⟨rfl, ((Below.refl _ _).alloc (Nat.le_refl _) _).trans (HB1.mono (by simp))⟩
end Go.Proofs.Ytekfkecpedpjjaa
