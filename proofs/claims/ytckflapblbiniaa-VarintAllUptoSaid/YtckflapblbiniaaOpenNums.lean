/- Arguments opened: a slice of numbers of 64 bits without a sign. -/
import Derived.Test.YtckflapblbiniaaOpen
import Derived.Test.YtckflapblbiniaaNums
namespace Go.Proofs.Ytckflapblbiniaa
open Go.ChangeShapes Go.WideShapes Go.ChangeAt Go.RowKit Go.Proofs.YtckflapblbiniaaW.PrintWords
set_option linter.unusedVariables false

theorem open_nums {H : Type} {enc : TypeId × Value → H} {W : World} {base : Nat} {v : Value} {d : DataW H} {p : List MemPlace} (hv : Value.okWide Try.prog W .any base 41 v)
    (h : DataW.Trod enc Try.prog W 0 (fun _ => true) true 41 v d p) : ∃ A c xs, v = .slice A xs.length c ∧ RdN W A c xs ∧ xs.length ≤ Rows.uptoBulk d ∧ ∀ z ∈ xs, z < 18446744073709551616 := by
  obtain ⟨a, len, cap, rfl⟩ := okWide_slice Try.underlying41 hv
  obtain ⟨fuel, hf⟩ := h
  rcases open_ints Try.underlying41 Try.underlying22 (by kernel_rfl) hf with ⟨hcs, _⟩ | ⟨x, l, c, zs, hcs, _, hl, hm, hz, hx, hcell, hwz⟩
  · simp [Value.cells] at hcs
    obtain ⟨rfl, rfl, rfl⟩ := hcs
    exact ⟨none, 0, [], rfl, RdN.zero _ _ _, Nat.zero_le _, fun z hz => absurd hz (by simp)⟩
  · simp [Value.cells] at hcs
    obtain ⟨rfl, rfl, rfl⟩ := hcs
    have hz' : zs.length = cap := by simpa using hz
    have hxl : ((zs.take len).map fun n => n.toNat).length = len := by simp; omega
    refine ⟨some x, cap, (zs.take len).map fun n => n.toNat, by rw [hxl], ⟨by rw [hxl]; exact hl, rfl, by rw [hxl]; simp only [maxLen] at hm; omega, fun hp => ⟨x, rfl, fun j hj => ?_⟩⟩, ?_, ?_⟩
    · rw [hxl] at hj
      rw [hcell j (by omega)]
      have hmem : zs.getD j 0 ∈ zs := by
        rw [List.getD_eq_getElem?_getD, List.getElem?_eq_getElem (by omega)]
        simp
      have hw := hwz _ hmem
      simp only [Lit.wf, IntKind.min, IntKind.max, IntKind.signed, IntKind.bits] at hw
      have hb : 0 ≤ zs.getD j 0 ∧ zs.getD j 0 ≤ 18446744073709551615 := by simpa using hw
      have hg : ((zs.take len).map fun n => n.toNat).getD j 0 = (zs.getD j 0).toNat := by
        rw [List.getD_eq_getElem?_getD, List.getElem?_map, List.getElem?_take_of_lt hj, List.getElem?_eq_getElem (by omega), List.getD_eq_getElem?_getD, List.getElem?_eq_getElem (by omega)]
        simp
      rw [hg]
      unfold eu64
      congr 2
      omega
    · obtain ⟨hx, _⟩ := Prod.mk.inj hx
      rw [hxl, hx]
      have h1 := length_le (H := H) (lits .u64 (zs.take len))
      have h2 : (lits (H := H) .u64 (zs.take len)).length = len := by simp [lits]; omega
      simp only [Rows.uptoBulk]
      omega
    · intro z hz3
      obtain ⟨y, hy, rfl⟩ := List.mem_map.1 hz3
      have hw := hwz _ (List.mem_of_mem_take hy)
      simp only [Lit.wf, IntKind.min, IntKind.max, IntKind.signed, IntKind.bits] at hw
      have hb : 0 ≤ y ∧ y ≤ 18446744073709551615 := by simpa using hw
      omega
end Go.Proofs.Ytckflapblbiniaa
