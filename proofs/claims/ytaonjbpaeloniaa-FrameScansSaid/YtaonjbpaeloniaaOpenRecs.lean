/- Arguments opened: a slice of records. -/
import Derived.Test.YtaonjbpaeloniaaOpens
import Derived.Test.YtaonjbpaeloniaaRecs
namespace Go.Proofs.Ytaonjbpaeloniaa
open Go.ChangeShapes Go.WideShapes Go.ChangeAt Go.RowKit Go.Proofs.YtaonjbpaeloniaaW.PrintWords
set_option linter.unusedVariables false
instance : Inhabited UInt8 := ⟨0⟩
theorem open_recs {H : Type} {enc : TypeId × Value → H} {W : World} {base : Nat} {v : Value} {x : DataW H} {p : List MemPlace} (hv : Value.okWide Try.prog W .any base 47 v)
    (h : DataW.Trod enc Try.prog W 0 (fun _ => true) true 47 v x p) : ∃ A c rs, v = .slice A rs.length c ∧ RdR W A c rs ∧ (∀ B, (∀ y ∈ x.weights Try.prog 47, y ≤ B) → ∀ r ∈ rs, (Lit.int .i64 r.1).wf = true ∧ r.2.length ≤ B) := by
  have o1 := opens_struct Try.underlying24 (d := kRec) (by kernel_rfl) (opensF_cons rfl (by kernel_rfl) (opens_int Try.underlying3) (opensF_one rfl (by kernel_rfl) (opens_slice Try.underlying22 (by kernel_rfl) (opens_u8 Try.underlying5))))
  have opens_recs := opens_slice (t := 47) Try.underlying47 (by kernel_rfl) o1
  obtain ⟨A, c, rs, hv, hl, hC, hS, hU⟩ := open_slice_of Try.underlying47 opens_recs hv h
  refine ⟨A, c, rs, hv, ⟨hl, hC⟩, fun B hB r hr => ?_⟩
  obtain ⟨h1, h2, h3⟩ := (hS B hB).2 r hr
  have e : Try.prog.bytesOf 5 = 1 := by kernel_rfl
  rw [e, Nat.mul_one] at h2
  exact ⟨h1, h2⟩
end Go.Proofs.Ytaonjbpaeloniaa
