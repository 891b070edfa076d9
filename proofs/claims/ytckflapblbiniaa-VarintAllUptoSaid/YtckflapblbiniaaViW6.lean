/- The walk of alive of numbers as octets. -/
import Derived.Test.YtckflapblbiniaaViW5
namespace Go.Proofs.Ytckflapblbiniaa
open Go.RowKit Go.Proofs.YtckflapblbiniaaW.PrintWords
set_option linter.unusedVariables false

theorem get128 : gN [128, 128] = 128 ∧ gK [128, 128] = 2 ∧ getErr [128, 128] = 0 := by decide +kernel
theorem put127 : put 127 = [127] := by decide +kernel
theorem put63 : put 9223372036854775808 = [255, 128, 0, 0, 0, 0, 0, 0, 0] := by decide +kernel
set_option maxHeartbeats 400000 in
theorem alive_any (w : World) : Calls Try.prog 9 #[] w fun e w' => e = .returned (.bool true) ∧ Below w.heap.size w w' := by
  obtain ⟨g1, g2, g3⟩ := get128
  have hB0 : Below w.heap.size w (w.alloc (.cells #[.int .u8 128, .int .u8 128] 5)) := (Below.refl _ _).alloc (Nat.le_refl _) _
  have hG := Get_any (some ⟨w.heap.size, 0, none⟩) 2 [128, 128] _ (RdB_lit [128, 128] w #[.int .u8 128, .int .u8 128] 5 (0, 0) _ rfl rfl (by decide))
  rw [g1, g2, g3] at hG
  have hP1 := Put_any 127 (by decide)
  have hP2 := Put_any 9223372036854775808 (by decide)
  rw [put127] at hP1
  rw [put63] at hP2
  go_enter Try.func9, Try.ntmps9
  go_wp2_with (first | (go_at_call 11; refine hG.mono ?_; rintro e w1 ⟨rfl, HB1⟩) | (go_at_call 13; refine (num_any _ _).mono ?_; rintro e w' ⟨rfl, rfl⟩) | (go_at_call_of 10 (Value.int .u64 127); refine (hP1 _).mono ?_; rintro e w2 ⟨v2, rfl, HO2, HB2⟩; obtain ⟨A2, c2, rfl, hr2⟩ := HO2.rd) | (go_at_call 15; have hS1 := SameBytes_at A2 _ c2 1 1 1 [127] [127] _ rfl rfl (hr2.below ((Below.refl _ _).alloc (Nat.le_refl _) _)) (RdB_lit [127] w2 #[.int .u8 127] 5 (0, 0) _ rfl rfl (by decide)); (with_reducible refine hS1.mono ?_); rintro e w' ⟨rfl, rfl⟩; have HB2' := HB2.alloc HB2.size (.cells #[.int .u8 127] 5)) | (go_at_call_of 10 (Value.int .u64 9223372036854775808); refine (hP2 _).mono ?_; rintro e w3 ⟨v3, rfl, HO3, HB3⟩; obtain ⟨A3, c3, rfl, hr3⟩ := HO3.rd) | (go_at_call 15; have hS1 := SameBytes_at A3 _ c3 9 9 9 [255, 128, 0, 0, 0, 0, 0, 0, 0] [255, 128, 0, 0, 0, 0, 0, 0, 0] _ rfl rfl (hr3.below ((Below.refl _ _).alloc (Nat.le_refl _) _)) (RdB_lit [255, 128, 0, 0, 0, 0, 0, 0, 0] w3 #[.int .u8 255, .int .u8 128, .int .u8 0, .int .u8 0, .int .u8 0, .int .u8 0, .int .u8 0, .int .u8 0, .int .u8 0] 5 (0, 0) _ rfl rfl (by decide)); (with_reducible refine hS1.mono ?_); rintro e w' ⟨rfl, rfl⟩; have HB3' := HB3.alloc HB3.size (.cells #[.int .u8 255, .int .u8 128, .int .u8 0, .int .u8 0, .int .u8 0, .int .u8 0, .int .u8 0, .int .u8 0, .int .u8 0] 5)))
  go_ret
  have s1 : w.heap.size + 1 ≤ w1.heap.size := by have := HB1.size; simpa using this
  have s2 := HB2.size
  have s3 := HB3.size
  refine ⟨rfl, ?_⟩
  have b1 := hB0.trans (HB1.mono (by simp))
  have b2 := b1.trans (HB2.mono (by omega))
  have b3 := b2.alloc (by omega) (.cells #[.int .u8 127] 5)
  have b4 := b3.trans (HB3.mono (by simp; omega))
  have s4 : w2.heap.size + 1 ≤ w3.heap.size := by simpa using s3
  exact b4.alloc (by omega) _
end Go.Proofs.Ytckflapblbiniaa
