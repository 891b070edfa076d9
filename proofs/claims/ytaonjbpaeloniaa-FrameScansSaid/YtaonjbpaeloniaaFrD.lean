/- Frame: the page's example. -/
import Derived.Test.YtaonjbpaeloniaaFrC
import Derived.Test.YtaonjbpaeloniaaFrA
import Derived.Test.YtaonjbpaeloniaaLit
import Derived.Lib.SlBytesConst
namespace Go.Proofs.Ytaonjbpaeloniaa
open Go.RowKit Go.Proofs.YtaonjbpaeloniaaW.PrintWords
set_option linter.unusedVariables false

theorem put_a : putFE 1 1 = 0 ∧ (putFX 1 [97]).length = 7 ∧ (putFX 1 [97]).take 3 = [1, 1, 97] := by decide +kernel
theorem str_a : ((strB [1, 1, 97]).toList == ({ data := #[1, 1, 97] } : ByteArray).toList) = true := by decide +kernel
set_option maxRecDepth 100000 in
set_option maxHeartbeats 800000 in
theorem alive_any (w : World) : Calls Try.prog 8 #[] w fun e w' => e = .returned (.bool true) ∧ Below w.heap.size w w' := by
  obtain ⟨h1, h2, h3⟩ := put_a
  have kc := fun (C : Array Value) (n c : Nat) => Lib.run_convert_bytes_const (P := Try.prog) w 22 5 C n c Try.underlying22 Try.underlying5
  have hP := FPut_any 1 (some ⟨w.heap.size, 0, none⟩) 1 [97] _ (RdB_lit [97] w #[.int .u8 97] 5 (1, 2) _ rfl rfl (by decide)) (by decide)
  have hst := str_a
  rw [show ([97] : List UInt8).length = 1 from rfl, h1] at hP
  have hT : ∀ (A : Option Addr) (c : Nat) (W : World), RdB W A c (putFX 1 [97]) → RdB W A c [1, 1, 97] := fun A c W h => by have := h.take 3 (by rw [h2]; decide); rw [h3] at this; exact this
  have hC := fun A c W (h : RdB W A c (putFX 1 [97])) => (hT A c W h).toStr (P := Try.prog) 22 5 9 Try.underlying22 Try.underlying5 Try.underlying9
  generalize putFX 1 [97] = P at *
  have H2 := hide h2
  clear h2 h1 h3
  unfold fil at hP
  go_enter Try.func8, Try.ntmps8
  go_wp2_with (first | (go_at_call 9; refine hP.mono ?_; rintro e w1 ⟨v1, rfl, HO1, HB1⟩; obtain ⟨A1, c1, hv1, hr1⟩ := HO1.rd; rw [H2.out] at hv1; subst hv1; have hc1 : Sem.run Try.prog (convert 22 9 (.slice A1 3 c1)) w1 = .ok (.string (strB [1, 1, 97])) w1 := hC A1 c1 w1 hr1; have h7 : 7 ≤ c1 := (by have := hr1.1; rw [H2.out] at this; exact this); have h3c : (3 : Int) ≤ (c1 : Int) := (by omega); have h3d : 3 ≤ c1 := (by omega)) | (go_at_call 11; refine (num_any _ _).mono ?_; rintro e w' ⟨rfl, rfl⟩))
  go_ret
  refine ⟨?_, ?_⟩
  · have hb : ((strB [1, 1, 97]).toList == [1, 1, 97]) = true := by decide +kernel
    exact congrArg (fun b => Ending.returned (Value.bool b)) hb
  exact (((Below.refl _ _).alloc (Nat.le_refl _) _).trans (HB1.mono (by simp)))
end Go.Proofs.Ytaonjbpaeloniaa
