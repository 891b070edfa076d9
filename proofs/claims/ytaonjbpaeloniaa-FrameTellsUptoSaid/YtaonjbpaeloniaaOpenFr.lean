/- Arguments opened: a record. -/
import Derived.Test.YtaonjbpaeloniaaOpen
import Derived.Test.YtaonjbpaeloniaaBoxed
import Derived.ChangeSame
import Derived.Deep.Strs
import Derived.SizedLaws
namespace Go.Proofs.Ytaonjbpaeloniaa
open Go.ChangeShapes Go.WideShapes Go.ChangeAt Go.RowKit Go.Proofs.YtaonjbpaeloniaaW.PrintWords
set_option linter.unusedVariables false

theorem open_bytes_cells {H : Type} {enc : TypeId × Value → H} {W : World} {fuel : Nat} {cs : List Value} {x : DataW H × List MemPlace} (hf : DataW.trod enc Try.prog W 0 (fun _ => true) true fuel 22 cs = some x) :
    ∃ A c xs, cs = [.slice A xs.length c] ∧ RdB W A c xs ∧ (∀ B, (∀ y ∈ x.1.weights Try.prog 22, y ≤ B) → xs.length ≤ B) ∧ xs.length ≤ Rows.uptoBulk x.1 := by
  rcases open_ints Try.underlying22 Try.underlying5 (by kernel_rfl) hf with ⟨hcs, hx⟩ | ⟨ad, len, cap, zs, hcs, _, hl, hm, hz, hx, hcell, hwz⟩
  · exact ⟨none, 0, [], hcs, RdB.zero _ _ _, fun B _ => Nat.zero_le _, Nat.zero_le _⟩
  · have hz' : zs.length = cap := by simpa using hz
    have hxl : ((zs.take len).map fun n => UInt8.ofNat n.toNat).length = len := by simp; omega
    refine ⟨some ad, cap, (zs.take len).map fun n => UInt8.ofNat n.toNat, by rw [hxl]; exact hcs, ⟨by rw [hxl]; exact hl, rfl, by rw [hxl]; simp only [maxLen] at hm; omega, fun hp => ⟨ad, rfl, fun j hj => ?_⟩⟩, ?_, ?_⟩
    · rw [hxl] at hj
      rw [hcell j (by omega)]
      have hmem : zs.getD j 0 ∈ zs := by
        rw [List.getD_eq_getElem?_getD, List.getElem?_eq_getElem (by omega)]
        simp
      have hw := hwz _ hmem
      simp only [Lit.wf, IntKind.min, IntKind.max, IntKind.signed, IntKind.bits] at hw
      have hb : 0 ≤ zs.getD j 0 ∧ zs.getD j 0 ≤ 255 := by simpa using hw
      have hg : ((zs.take len).map fun n => UInt8.ofNat n.toNat).getD j 0 = UInt8.ofNat (zs.getD j 0).toNat := by
        rw [List.getD_eq_getElem?_getD, List.getElem?_map, List.getElem?_take_of_lt hj, List.getElem?_eq_getElem (by omega), List.getD_eq_getElem?_getD, List.getElem?_eq_getElem (by omega)]
        simp
      rw [hg]
      unfold eu8
      congr 2
      simp only [UInt8.toNat_ofNat']
      omega
    · intro B hB
      rw [hx, hxl] at *
      have hb1 : Try.prog.bytesOf 5 = 1 := by kernel_rfl
      simp only [DataW.weights, Try.underlying22, hb1] at hB
      have h1 := hB _ (List.mem_cons_self ..)
      have h2 : (lits (H := H) .u8 (zs.take len)).length = len := by simp [lits]; omega
      rw [h2] at h1
      omega
    · rw [hxl, hx]
      have h1 := length_le (H := H) (lits .u8 (zs.take len))
      have h2 : (lits (H := H) .u8 (zs.take len)).length = len := by simp [lits]; omega
      simp only [Rows.uptoBulk]
      omega

theorem open_rec {H : Type} {enc : TypeId × Value → H} {W : World} {base : Nat} {v : Value} {d : DataW H} {p : List MemPlace} (hv : Value.okWide Try.prog W .any base 24 v)
    (h : DataW.Trod enc Try.prog W 0 (fun _ => true) true 24 v d p) : ∃ K A c xs, v = fil K A xs.length c ∧ (Lit.int .i64 K).wf = true ∧ RdB W A c xs ∧ (∀ B, (∀ x ∈ d.weights Try.prog 24, x ≤ B) → xs.length ≤ B) ∧ xs.length ≤ Rows.uptoBulk d := by
  obtain ⟨cs, rfl, hs⟩ := okWide_struct Try.underlying24 hv
  obtain ⟨fuel, hf⟩ := h
  obtain ⟨y0, y1, n, hx, hl, h0, h1⟩ := trod_struct2 Try.underlying24 hf
  obtain ⟨a, ha, _, wa⟩ := DataW.trod_int Try.underlying3 h0
  obtain ⟨A, c, xs, hb, hr, hB, hU⟩ := open_bytes_cells h1
  refine ⟨a, A, c, xs, ?_, wa, hr, fun B hw => hB B fun y hy => hw y ?_, ?_⟩
  · have h3 : Try.prog.cellsOf 24 = 2 := by kernel_rfl
    have h1' : Try.prog.cellsOf 3 = 1 := by kernel_rfl
    have h2' : Try.prog.cellsOf 22 = 1 := by kernel_rfl
    rw [h3] at hs
    have hcs : cs.toList.length = 2 := by simpa using hs
    have hv' : (Value.agg cs).cells.toList = cs.toList := rfl
    rw [hv'] at ha hb
    have ea : cs.toList.take 1 = [Value.int .i64 a] := by have := ha; simp only [h1'] at this; exact this
    have eb : (cs.toList.drop 1).take 1 = [Value.slice A xs.length c] := by have := hb; simp only [h2'] at this; exact this
    unfold fil
    congr 1
    apply Array.ext'
    match hm : cs.toList, hcs with
    | [x, y], _ =>
      rw [hm] at ea eb
      simp at ea eb
      rw [ea, eb]
  · obtain ⟨hx, _⟩ := Prod.mk.inj hx
    rw [hx]
    simp only [DataW.weights, Try.underlying24]
    exact DataW.weights_mem_each (ts := [3, 22]) (j := 1) rfl rfl y hy
  · obtain ⟨hx, _⟩ := Prod.mk.inj hx
    rw [hx]
    have h2 : Rows.uptoBulk y1.1 ≤ Rows.uptoBulkAll [y0.1, y1.1] := part_le (List.mem_cons_of_mem _ (List.mem_cons_self ..))
    simp only [Rows.uptoBulk]
    omega
end Go.Proofs.Ytaonjbpaeloniaa
