/- Arguments opened: limits. -/
import Derived.Test.YtahocnnnipaejaaRows
import Derived.Test.YtahocnnnipaejaaBoA
import Derived.ChangeSlices
import Derived.ProofKit
import Derived.OpenShut
import Derived.Deep.Strs
namespace Go.Proofs.Ytahocnnnipaejaa
open Go.ChangeShapes Go.WideShapes Go.ChangeAt Go.RowKit Go.Proofs.YtahocnnnipaejaaW.PrintWords

theorem open_lim {H : Type} {enc : TypeId × Value → H} {W : World} {base : Nat} {v : Value} {d : DataW H} {p : List MemPlace} (hv : Value.okWide Try.prog W .any base 23 v)
    (h : DataW.Trod enc Try.prog W 0 (fun _ => true) true 23 v d p) : ∃ a b c, v = lim a b c ∧ (Lit.int .i64 a).wf = true ∧ (Lit.int .i64 b).wf = true ∧ (Lit.int .i64 c).wf = true := by
  obtain ⟨cs, rfl, hs⟩ := okWide_struct Try.underlying23 hv
  obtain ⟨fuel, hf⟩ := h
  obtain ⟨y0, y1, y2, n, _, hl, h0, h1, h2⟩ := Go.Deep.trod_struct3 Try.underlying23 hf
  obtain ⟨a, ha, _, wa⟩ := DataW.trod_int Try.underlying3 h0
  obtain ⟨b, hb, _, wb⟩ := DataW.trod_int Try.underlying3 h1
  obtain ⟨c, hc, _, wc⟩ := DataW.trod_int Try.underlying3 h2
  refine ⟨a, b, c, ?_, wa, wb, wc⟩
  have h3 : Try.prog.cellsOf 23 = 3 := by kernel_rfl
  have h1' : Try.prog.cellsOf 3 = 1 := by kernel_rfl
  rw [h3] at hs
  have h1'' : Try.prog.cellsOf 3 = 1 := h1'
  have hcs : cs.toList.length = 3 := by simpa using hs
  have hv' : (Value.agg cs).cells.toList = cs.toList := rfl
  rw [hv'] at ha hb hc
  have ea : cs.toList.take 1 = [Value.int .i64 a] := by have := ha; simp only [h1'] at this; exact this
  have eb : (cs.toList.drop 1).take 1 = [Value.int .i64 b] := by have := hb; simp only [h1'] at this; exact this
  have ec : (cs.toList.drop 2).take 1 = [Value.int .i64 c] := by have := hc; simp only [h1'] at this; exact this
  unfold lim
  congr 1
  apply Array.ext'
  match hm : cs.toList, hcs with
  | [x, y, z], _ =>
    rw [hm] at ea eb ec
    simp at ea eb ec
    rw [ea, eb, ec]
end Go.Proofs.Ytahocnnnipaejaa
