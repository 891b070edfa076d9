/- The walk of BloomEmpty. -/
import Derived.Test.YtmnecbmneljhkaaBlO
namespace Go.Proofs.Ytmnecbmneljhkaa
open Go.RowKit Go.Shelf Go.Proofs.YtmnecbmneljhkaaW.PrintWords
set_option linter.unusedVariables false

theorem makeM_le (e : Nat) : 1 ≤ makeM e ∧ makeM e ≤ 8 := by unfold makeM; omega
theorem setU_zero_bit (s : ByteArray) (m : Nat) (hm : 1 ≤ m) : hasU [0] s m = false := by
  refine hasU_no [0] s 0 m (by omega) ?_
  have hp : place s (8 * [(0 : UInt8)].length) 0 < 8 := Nat.mod_lt _ (by decide)
  generalize place s (8 * [(0 : UInt8)].length) 0 = p at *
  unfold bitN
  rw [show p / 8 = 0 by omega]
  simp
theorem i64_of (a : Int) (h : (Lit.int .i64 a).wf = true) : -9223372036854775808 ≤ a ∧ a ≤ 9223372036854775807 := by
  simpa [Lit.wf, IntKind.min, IntKind.max, IntKind.signed, IntKind.bits] using h
set_option maxHeartbeats 800000 in
theorem empty_walk (each : Int) (s : ByteArray) (w : World) (h0 : (Lit.int .i64 each).wf = true) (hs : s.size ≤ 140737488351232) :
    Calls Try.prog 6 #[.int .i64 each, .string s] w fun e w' => e = .returned (.bool true) ∧ Below w.heap.size w w' := by
  obtain ⟨e1, e2⟩ := i64_of each h0
  have HA := alive_any
  have HM := fun W => Make_any none 0 [] each (by simp) W (RdS.zero _ _ _)
  by_cases hok : makeOk each 0
  · obtain ⟨h1, h2, h3⟩ := hok
    have hX : makeX each [] = [0] := by
      rw [makeX, if_pos ⟨h1, h2, h3⟩, setAll]
      have : makeN each.toNat ([] : List ByteArray).length = 1 := by unfold makeN; simp
      rw [this]; rfl
    have hM := makeM_le each.toNat
    obtain ⟨M, hMM⟩ : ∃ M, makeM each.toNat = M := ⟨_, rfl⟩
    rw [hMM] at hM
    have hK : makeK each ([] : List ByteArray).length = (M : Int) := by rw [makeK, if_pos ⟨h1, h2, h3⟩, hMM]
    have hE : makeE each ([] : List ByteArray).length = 0 := by rw [makeE, if_neg (by omega), if_neg (by simp)]
    simp only [hX, hK, hE] at HM
    have HH := fun A c W (hx : RdB W A c [0]) => Has_any (M : Int) A c [0] s (by omega) W hx
    have hokF : okF (M : Int) 1 := ⟨by omega, by omega, by omega, by omega⟩
    have e3 : hasB (M : Int) [0] s = false := by rw [hasB, Int.toNat_natCast, setU_zero_bit s M hM.1, Bool.and_false]
    have e4 : encE (M : Int) ([0] : List UInt8).length = 0 := by rw [encE]; exact if_pos hokF
    simp only [e3, e4] at HH
    simp only [List.length_nil, List.length_singleton] at HM HH
    unfold fil at *
    clear hX hK hE e3 e4 hMM hokF
    go_enter Try.func6, Try.ntmps6
    go_wp2_with (first | (go_at_call 20; refine (HA _).mono ?_; rintro e w0 ⟨rfl, HB0⟩) | (go_at_call 11; refine (HM _).mono ?_; rintro e w1 ⟨A1, c1, rfl, HO1, HB1⟩; obtain ⟨A2, c2, hv2, hr2⟩ := HO1.rd; obtain ⟨rfl, rfl⟩ : A2 = A1 ∧ c2 = c1 := by (injection hv2 with e1 _ e3; exact ⟨e1.symm, e3.symm⟩)) | (go_at_call 13; refine (HH _ _ _ (hr2.below ((Below.refl _ _).alloc (Nat.le_refl _) _))).mono ?_; rintro e w2 ⟨rfl, HB2⟩; obtain ⟨p0, p1, p2⟩ := boxedF HB2) | (go_at_call 18; refine (num_any _ _).mono ?_; rintro e w' ⟨rfl, rfl⟩))
    go_ret
    exact ⟨rfl, (HB0.trans (HB1.mono HB0.size)).trans (p2.mono (HB0.trans (HB1.mono HB0.size)).size)⟩
  · have hX : makeX each [] = [] := by rw [makeX]; exact if_neg hok
    have hK : makeK each ([] : List ByteArray).length = 0 := by rw [makeK]; exact if_neg hok
    have hlo : each < 1 ∨ 16 < each := by unfold makeOk at hok; omega
    have hE : makeE each ([] : List ByteArray).length = 4 := by rw [makeE, if_pos hlo]
    simp only [hX, hK, hE] at HM
    simp only [List.length_nil] at HM
    unfold fil at *
    clear hX hK hE hok
    go_enter Try.func6, Try.ntmps6
    go_wp2_with (first | (go_at_call 20; refine (HA _).mono ?_; rintro e w0 ⟨rfl, HB0⟩) | (go_at_call 11; refine (HM _).mono ?_; rintro e w1 ⟨A1, c1, rfl, HO1, HB1⟩) | (go_at_call 18; refine (num_any _ _).mono ?_; rintro e w' ⟨rfl, rfl⟩))
    all_goals go_ret
    all_goals (
      have hbb := HB0.trans (HB1.mono HB0.size)
      refine ⟨?_, hbb.alloc hbb.size _⟩
      first
      | rfl
      | (have hb : (decide (each < 1) || decide (16 < each)) = true := by (rcases hlo with h | h <;> simp [h])
         exact congrArg (fun b => Ending.returned (Value.bool b)) hb))
end Go.Proofs.Ytmnecbmneljhkaa
