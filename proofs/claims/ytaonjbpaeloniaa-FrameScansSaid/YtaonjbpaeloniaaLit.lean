/- Literals: a block just laid that reads as octets. -/
import Derived.Test.YtaonjbpaeloniaaBase
namespace Go.Proofs.Ytaonjbpaeloniaa
open Go.RowKit Go.Proofs.YtaonjbpaeloniaaW.PrintWords
theorem RdB_lit (xs : List UInt8) (W : World) (C : Array Value) (e : TypeId) (fr : Nat × Nat) (n : Nat) (hn : W.heap.size = n) (h : C.toList = xs.map eu8) (hl : xs.length ≤ 9223372036854775807) :
    RdB (W.alloc (.cells C e fr)) (some ⟨n, 0, none⟩) xs.length xs := by
  subst hn
  refine ⟨Nat.le_refl _, rfl, hl, fun _ => ⟨_, rfl, fun j hj => ?_⟩⟩
  have hc : C = (xs.map eu8).toArray := by rw [← h]
  rw [add_plain, World.cell?_alloc_mark, hc]
  simp [List.getElem?_eq_getElem hj, List.getD_eq_getElem?_getD]
end Go.Proofs.Ytaonjbpaeloniaa
