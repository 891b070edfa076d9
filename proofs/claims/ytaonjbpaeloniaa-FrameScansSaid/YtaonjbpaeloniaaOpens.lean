/- Arguments opened, kind by kind: what a datum reads as, how long its slices and strings may be. -/
import Derived.Test.YtaonjbpaeloniaaOpen
import Derived.Test.YtaonjbpaeloniaaSteps
import Derived.Deep.Slices
import Derived.ChangeSame
import Derived.SizedLaws
namespace Go.Proofs.Ytaonjbpaeloniaa
open Go.ChangeShapes Go.WideShapes Go.ChangeAt Go.RowKit Go.Proofs.YtaonjbpaeloniaaW.PrintWords
set_option linter.unusedVariables false

/-- cells of a type read as something of a kind: S is what the bound on sizes says of it, bulk how much it holds -/
def Opens {α : Type} (d : Kd α) (t : TypeId) (S : Nat → α → Prop) (bulk : α → Nat) : Prop :=
  ∀ (H : Type) (enc : TypeId × Value → H) (W : World) (fuel : Nat) (cs : List Value) (x : DataW H × List MemPlace), DataW.trod enc Try.prog W 0 (fun _ => true) true fuel t cs = some x →
    ∃ a, d.K W a cs ∧ (∀ B, (∀ y ∈ x.1.weights Try.prog t, y ≤ B) → S B a) ∧ bulk a ≤ Rows.uptoBulk x.1
theorem opens_int {t : TypeId} {k : IntKind} (ht : Try.prog.underlying t = some (.int k)) : Opens (Kd.int k) t (fun _ a => (Lit.int k a).wf = true) (fun _ => 1) := by
  intro H enc W fuel cs x h
  obtain ⟨a, rfl, rfl, hw⟩ := DataW.trod_int ht h
  exact ⟨a, rfl, fun _ _ => hw, one_le _⟩
theorem opens_bool {t : TypeId} (ht : Try.prog.underlying t = some .bool) : Opens Kd.bool t (fun _ _ => True) (fun _ => 1) := by
  intro H enc W fuel cs x h
  obtain ⟨a, rfl, rfl⟩ := DataW.trod_bool ht h
  exact ⟨a, rfl, fun _ _ => trivial, one_le _⟩
theorem opens_string {t : TypeId} (ht : Try.prog.underlying t = some .string) : Opens Kd.string t (fun B s => s.size ≤ B ∧ s.size ≤ 9223372036854775807) (fun s => s.size + 1) := by
  intro H enc W fuel cs x h
  obtain ⟨s, rfl, rfl, hs⟩ := DataW.trod_string ht h
  have e : s.data.toList.length = s.size := by rw [Array.length_toList]; rfl
  refine ⟨s, rfl, fun B hB => ⟨?_, hs⟩, ?_⟩
  · have := hB s.data.toList.length (by simp [DataW.weights])
    omega
  · show s.size + 1 ≤ Rows.uptoBulk (DataW.lit (Lit.string s.data.toList))
    simp only [Rows.uptoBulk]
    omega
theorem opens_u8 {t : TypeId} (ht : Try.prog.underlying t = some (.int .u8)) : Opens kU8 t (fun _ _ => True) (fun _ => 1) := by
  intro H enc W fuel cs x h
  obtain ⟨a, rfl, rfl, hw⟩ := DataW.trod_int ht h
  simp only [Lit.wf, IntKind.min, IntKind.max, IntKind.signed, IntKind.bits] at hw
  have hb : 0 ≤ a ∧ a ≤ 255 := by simpa using hw
  refine ⟨UInt8.ofNat a.toNat, ?_, fun _ _ => trivial, one_le _⟩
  show [Value.int .u8 a] = [eu8 (UInt8.ofNat a.toNat)]
  unfold eu8
  congr 2
  simp only [UInt8.toNat_ofNat']
  omega
theorem weights_all {H : Type} {e : TypeId} {d : DataW H} : ∀ {l : List (DataW H)}, d ∈ l → ∀ y ∈ d.weights Try.prog e, y ∈ DataW.weightsAll Try.prog e l := by
  intro l hd y hy
  induction l with
  | nil => cases hd
  | cons x r ih =>
    simp only [DataW.weightsAll]
    rcases List.mem_cons.1 hd with rfl | h
    · exact List.mem_append_left _ hy
    · exact List.mem_append_right _ (ih h)
theorem bulk_all {H : Type} {α : Type} {bulk : α → Nat} (D : Nat → DataW H) (A : Nat → α) (n : Nat) (h : ∀ i, i < n → bulk (A i) ≤ Rows.uptoBulk (D i)) : ∀ s, ((((List.range' s (n - s)).map A).map bulk).sum) ≤ Rows.uptoBulkAll ((List.range' s (n - s)).map D) := by
  intro s
  induction hd : n - s generalizing s with
  | zero => simp
  | succ m ih =>
    rw [List.range'_succ]
    simp only [List.map_cons, List.sum_cons, Rows.uptoBulkAll]
    have h1 := h s (by omega)
    have h2 := ih (s + 1) (by omega)
    omega
theorem opens_slice {α : Type} [Inhabited α] {d : Kd α} {t e : TypeId} {S : Nat → α → Prop} {bulk : α → Nat} (ht : Try.prog.underlying t = some (.slice e)) (hc : Try.prog.cellsOf e = d.sz) (he : Opens d e S bulk) :
    Opens (Kd.slice e d) t (fun B xs => xs.length * Try.prog.bytesOf e ≤ B ∧ ∀ x ∈ xs, S B x) (fun xs => (xs.map bulk).sum + 1) := by
  intro H enc W fuel cs x h
  rcases Go.Deep.open_slice ht h with ⟨rfl, rfl⟩ | ⟨a, len, cap, m, n, D, Pl, rfl, hb, hl, hm, hmm, rfl, hx⟩
  · exact ⟨[], ⟨none, 0, rfl, Nat.le_refl _, rfl, Nat.zero_le _, fun hp => absurd hp (by simp)⟩, fun B _ => ⟨by simp, fun x hx => absurd hx (by simp)⟩, by simp [Rows.uptoBulk]⟩
  have hlm : len ≤ m := by rw [hmm]; split <;> omega
  obtain ⟨A, hA⟩ := Go.Deep.choose_lt (α := α) (n := len) (p := fun i y => ∃ cs', W.cells? 0 (a.add (i * Try.prog.cellsOf e)) (Try.prog.cellsOf e) = some cs' ∧ d.K W y cs' ∧ (∀ B, (∀ z ∈ (D i).weights Try.prog e, z ≤ B) → S B y) ∧ bulk y ≤ Rows.uptoBulk (D i)) (fun i hi => by
    obtain ⟨cs', h1, h2⟩ := hx i (by omega)
    obtain ⟨y, k1, k2, k3⟩ := he H enc W n cs' _ h2
    exact ⟨y, cs', h1, k1, k2, k3⟩)
  have hlen : ((List.range len).map A).length = len := by simp
  refine ⟨(List.range len).map A, ⟨some a, cap, by rw [hlen], by rw [hlen]; exact hl, rfl, by rw [hlen]; simp only [maxLen] at hm; omega, fun _ => ⟨a, rfl, fun j p hj => ?_⟩⟩, fun B hB => ⟨?_, fun y hy => ?_⟩, ?_⟩
  · obtain ⟨hjl, hjp⟩ := List.getElem?_eq_some_iff.1 hj
    rw [hlen] at hjl
    have hp : p = A j := by rw [← hjp]; simp
    subst hp
    obtain ⟨cs', h1, h2, _, _⟩ := hA j hjl
    obtain ⟨_, h4, h5⟩ := World.cells?_some h1
    refine ⟨cs', by rw [h4, hc], h2, fun i u hu => ?_⟩
    have hi : i < cs'.length := (List.getElem?_eq_some_iff.1 hu).1
    have h6 := h5 i (by omega)
    rw [Go.Deep.add_add, hc] at h6
    rw [h6, hu]
  · have h1 := hB ((((List.range len).map D).length + ((List.range (m - len)).map fun j => D (len + j)).length) * Try.prog.bytesOf e) (by simp only [DataW.weights, ht]; exact List.mem_cons_self ..)
    rw [List.length_map, List.length_range] at h1 ⊢
    exact Nat.le_trans (Nat.mul_le_mul_right _ (Nat.le_add_right _ _)) h1
  · obtain ⟨i, hi, rfl⟩ := List.mem_map.1 hy
    have hi' := List.mem_range.1 hi
    obtain ⟨cs', _, _, h3, _⟩ := hA i hi'
    refine h3 B fun z hz => hB z ?_
    simp only [DataW.weights, ht]
    exact List.mem_cons_of_mem _ (List.mem_append_left _ (weights_all (List.mem_map.2 ⟨i, hi, rfl⟩) z hz))
  · have := bulk_all (bulk := bulk) D A len (fun i hi => by obtain ⟨_, _, _, _, h⟩ := hA i hi; exact h) 0
    simp only [Nat.sub_zero, ← List.range_eq_range'] at this
    simp only [Rows.uptoBulk]
    omega
/-- fields one behind the other, from an offset on -/
def OpensF {α : Type} (d : Kd α) (fs : List Field) (off : Nat) (S : Nat → α → Prop) (bulk : α → Nat) : Prop :=
  ∀ (H : Type) (enc : TypeId × Value → H) (W : World) (fuel : Nat) (cs : List Value) (xs : List (DataW H × List MemPlace)), xs.length = fs.length → cs.length = off + d.sz →
    (∀ (i : Nat) (f : Field), fs[i]? = some f → DataW.trod enc Try.prog W 0 (fun _ => true) true fuel f.type ((cs.drop f.offset).take (Try.prog.cellsOf f.type)) = xs[i]?) →
    ∃ a, d.K W a (cs.drop off) ∧ (∀ B, (∀ y ∈ DataW.weightsEach Try.prog (fs.map (·.type)) (xs.map (·.1)), y ≤ B) → S B a) ∧ bulk a ≤ Rows.uptoBulkAll (xs.map (·.1))
theorem opensF_one {α : Type} {d : Kd α} {f : Field} {off : Nat} {S : Nat → α → Prop} {bulk : α → Nat} (ho : f.offset = off) (hc : Try.prog.cellsOf f.type = d.sz) (h : Opens d f.type S bulk) : OpensF d [f] off S bulk := by
  intro H enc W fuel cs xs hl hcs hx
  match xs, hl with
  | [x], _ =>
    have h0 := hx 0 f rfl
    rw [ho, hc, List.take_of_length_le (by rw [List.length_drop]; omega)] at h0
    obtain ⟨a, k1, k2, k3⟩ := h H enc W fuel _ x h0
    refine ⟨a, k1, fun B hB => k2 B fun y hy => hB y ?_, ?_⟩
    · simp only [List.map_cons, List.map_nil, DataW.weightsEach]
      exact List.mem_append_left _ hy
    · simp only [List.map_cons, List.map_nil, Rows.uptoBulkAll]
      omega
theorem opensF_cons {α β : Type} {d : Kd α} {d' : Kd β} {f : Field} {fs : List Field} {off : Nat} {S : Nat → α → Prop} {S' : Nat → β → Prop} {bulk : α → Nat} {bulk' : β → Nat} (ho : f.offset = off) (hc : Try.prog.cellsOf f.type = d.sz) (h : Opens d f.type S bulk) (h' : OpensF d' fs (off + d.sz) S' bulk') :
    OpensF (Kd.pair d d') (f :: fs) off (fun B x => S B x.1 ∧ S' B x.2) (fun x => bulk x.1 + bulk' x.2) := by
  intro H enc W fuel cs xs hl hcs hx
  have hcs' : cs.length = off + (d.sz + d'.sz) := hcs
  match xs, hl with
  | x :: r, hl =>
    have h0 := hx 0 f rfl
    rw [ho, hc] at h0
    obtain ⟨a, k1, k2, k3⟩ := h H enc W fuel _ x h0
    obtain ⟨b, m1, m2, m3⟩ := h' H enc W fuel cs r (by simpa using hl) (by omega) (fun i g hg => hx (i + 1) g (by simpa using hg))
    refine ⟨(a, b), ⟨(cs.drop off).take d.sz, cs.drop (off + d.sz), ?_, k1, m1⟩, fun B hB => ⟨k2 B fun y hy => hB y ?_, m2 B fun y hy => hB y ?_⟩, ?_⟩
    · rw [← List.drop_drop, List.take_append_drop]
    · simp only [List.map_cons, DataW.weightsEach]
      exact List.mem_append_left _ hy
    · simp only [List.map_cons, DataW.weightsEach]
      exact List.mem_append_right _ hy
    · simp only [List.map_cons, Rows.uptoBulkAll]
      omega
theorem opens_struct {α : Type} {d : Kd α} {t : TypeId} {fs : Array Field} {S : Nat → α → Prop} {bulk : α → Nat} (ht : Try.prog.underlying t = some (.struct fs)) (hc : Try.prog.cellsOf t = d.sz) (h : OpensF d fs.toList 0 S bulk) : Opens d t S (fun a => bulk a + 1) := by
  intro H enc W fuel cs x hx
  obtain ⟨xs, n, _, rfl, hl, hlen, hf⟩ := DataW.trod_struct ht hx
  obtain ⟨a, k1, k2, k3⟩ := h H enc W n cs xs (by simpa using hlen) (by omega) (fun i f hi => hf i f (by simpa using hi))
  refine ⟨a, k1, fun B hB => k2 B fun y hy => hB y ?_, ?_⟩
  · simp only [DataW.weights, ht]
    exact hy
  · simp only [Rows.uptoBulk]
    omega
/-- an argument that is a slice -/
theorem open_slice_of {α : Type} {d : Kd α} {t e : TypeId} {S : Nat → List α → Prop} {bulk : List α → Nat} (ht : Try.prog.underlying t = some (.slice e)) (ho : Opens (Kd.slice e d) t S bulk) {H : Type} {enc : TypeId × Value → H} {W : World} {base : Nat} {v : Value} {x : DataW H} {p : List MemPlace} (hv : Value.okWide Try.prog W .any base t v)
    (h : DataW.Trod enc Try.prog W 0 (fun _ => true) true t v x p) : ∃ A c xs, v = .slice A xs.length c ∧ xs.length ≤ c ∧ d.C W A xs.length xs ∧ (∀ B, (∀ y ∈ x.weights Try.prog t, y ≤ B) → S B xs) ∧ bulk xs ≤ Rows.uptoBulk x := by
  obtain ⟨a, len, cap, rfl⟩ := okWide_slice ht hv
  obtain ⟨fuel, hf⟩ := h
  obtain ⟨xs, ⟨A, c, hcs, hl, hC⟩, k2, k3⟩ := ho H enc W fuel _ _ hf
  simp only [Value.cells, List.cons.injEq, and_true] at hcs
  exact ⟨A, c, xs, hcs, hl, hC, k2, k3⟩
/-- an argument that is a struct -/
theorem open_struct_of {α : Type} {d : Kd α} {t : TypeId} {fs : Array Field} {S : Nat → α → Prop} {bulk : α → Nat} (ht : Try.prog.underlying t = some (.struct fs)) (ho : Opens d t S bulk) {H : Type} {enc : TypeId × Value → H} {W : World} {base : Nat} {v : Value} {x : DataW H} {p : List MemPlace} (hv : Value.okWide Try.prog W .any base t v)
    (h : DataW.Trod enc Try.prog W 0 (fun _ => true) true t v x p) : ∃ a cs, v = .agg cs ∧ d.K W a cs.toList ∧ (∀ B, (∀ y ∈ x.weights Try.prog t, y ≤ B) → S B a) ∧ bulk a ≤ Rows.uptoBulk x := by
  obtain ⟨cs, rfl, _⟩ := okWide_struct ht hv
  obtain ⟨fuel, hf⟩ := h
  obtain ⟨a, k1, k2, k3⟩ := ho H enc W fuel _ _ hf
  exact ⟨a, cs, rfl, k1, k2, k3⟩
end Go.Proofs.Ytaonjbpaeloniaa
