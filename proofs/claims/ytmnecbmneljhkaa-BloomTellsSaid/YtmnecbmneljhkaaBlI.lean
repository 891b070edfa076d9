/- Bloom: a range over a function whose iterator keeps a cell of its own: the statement, out of the iterator's word and of one round's walk. -/
import Derived.Test.YtmnecbmneljhkaaBlH
import Derived.RangeFuncBound
import Derived.RangeFuncCalls
import Derived.RangeFuncLeaves
import Derived.RangeFuncOwn
import Derived.RangeFuncKeeps
import Derived.Shelf.Abstract
import Derived.OwnWalkIn
import Derived.TacticsInMore
import Derived.LoopNIn
import Derived.LoopIn
namespace Go.Proofs.Ytmnecbmneljhkaa
open Go.RowKit Go.Shelf Go.Proofs.YtmnecbmneljhkaaW.PrintWords
set_option linter.unusedVariables false

/-- blocks from c on lie as they lay -/
structure Past (c : Nat) (A B : World) : Prop where
  size : A.heap.size ≤ B.heap.size
  block : ∀ j, c ≤ j → j < A.heap.size → B.heap[j]? = A.heap[j]?
theorem Past.refl (c : Nat) (A : World) : Past c A A := ⟨Nat.le_refl _, fun _ _ _ => rfl⟩
theorem Past.trans {c : Nat} {A B C : World} (h : Past c A B) (k : Past c B C) : Past c A C := ⟨Nat.le_trans h.size k.size, fun j hj hl => (k.block j hj (Nat.lt_of_lt_of_le hl h.size)).trans (h.block j hj hl)⟩
theorem Past.grown {c : Nat} {A B : World} {row : Option Nat} (hg : A.grownBy B row) (hs : A.heap.size ≤ B.heap.size) (hr : ∀ k, row = some k → k < c) : Past c A B :=
  ⟨hs, fun j hj hl => hg.block j hl (fun e => by have := hr j e.symm; omega)⟩
theorem Past.setCell {c : Nat} (A : World) (b i : Nat) (hb : b < c) (v : Value) : Past c A (A.setCell ⟨b, i, none⟩ v) := by
  exact ⟨by rw [World.size_setCell]; exact Nat.le_refl _, fun j hj hl => Below.heap_setCell A ⟨b, i, none⟩ v j (by show j ≠ b; omega)⟩
theorem below_put {c : Nat} (A : World) (j : Nat) (o : Obj) (hj : c ≤ j) (hl : j < A.heap.size) : Below c A (A.putObj j o) :=
  (Below.refl c A).grown (grownBy_putObj' A j o) (by omega) (fun k e => by cases e; omega)

/-- the iterator's word: N rounds with these values, in order, if each goes on; what lies from c0 on of the caller's world is its own -/
def Iter (P : Program) (gf : Nat) (lb : Array Value) (c0 g0 N : Nat) (vals : Nat → Array Value) (w : World) : Prop :=
  ∀ (n l : Nat) (J Jx : Nat → World → Prop) (W : World), (∀ j, c0 ≤ j → j < w.heap.size → W.heap[j]? = w.heap[j]?) → w.heap.size ≤ W.heap.size →
    (∀ k A v, J k A → J k (A.setCell ⟨g0, 0, none⟩ v)) →
    (∀ k A, k < N → J k A → YieldAt Fence.wide (n - 1) P l (vals k) A fun e B => (e = .returned (.bool true) ∧ J (k + 1) B ∧ (∀ j, c0 ≤ j → j < w.heap.size → B.heap[j]? = A.heap[j]?)) ∨ (e = .returned (.bool false) ∧ Jx k B)) →
    J 0 W → CallsIn Fence.wide n P gf (#[.func (.yield l) #[] #[]] ++ lb) W fun e B => (∃ v, e = .returned v) ∧ (J N B ∨ ∃ k, k < N ∧ Jx k B)

/-- how a round's body may end -/
def roundEnd (c0 : Nat) (I Ix : Nat → World → Prop) (k : Nat) (W : World) : Exit → Act → World → Prop
  | .normal, _, B => Past c0 W B ∧ I (k + 1) B
  | .ret, _, B => Past c0 W B ∧ Ix k B
  | _, _, _ => False

theorem range_iter {n : Nat} {P : Program} {g : Operand} {ps : Array Tmp} {assign body : Code} {Q : Exit → Act → World → Prop} {a : Act} {w : World} {gf : Nat} {lb : Array Value} {N c0 g0 : Nat} {vals : Nat → Array Value}
    (hg : a.eval g = .func (.func gf) #[] lb) (eg : ∀ args w, (callFunc gf args).run P w = .ok (.enter gf args) w) (hps : ∀ k, (vals k).size = ps.size) (hc : c0 ≤ w.heap.size) (hg0 : c0 ≤ g0) (hg1 : g0 < w.heap.size)
    (hit : Iter P gf lb c0 g0 N vals w) (I Ix : Nat → World → Prop) (hI : ∀ k A B, Below c0 A B → I k A → I k B) (hIx : ∀ k A B, Below c0 A B → Ix k A → Ix k B) (h0 : I 0 w) (a₁ : Nat → Act)
    (hassign : ∀ (l k : Nat) (W : World) (K : Act → World → Prop), K (a₁ k) W →
      assign.wpIn (Fence.wide.inRound l) (n - 1 - 1) P (Exit.then K (fun _ _ _ => False)) { tmps := (ps.zip (vals k)).foldl (fun t (p, v) => t.setIfInBounds p v) a.tmps, defers := [] } W)
    (hbody : ∀ (l k : Nat) (W : World), k < N → I k W → body.wpIn (Fence.wide.inRound l) (n - 1 - 1) P (roundEnd c0 I Ix k W) (a₁ k) W)
    (hdone : ∀ (W : World), I N W → w.heap.size ≤ W.heap.size → W.heap[w.heap.size]? = some (.deferred (some [])) → Q .normal { a with defers := { target := .collected w.heap.size, args := #[] } :: a.defers } W)
    (hstop : ∀ (k : Nat) (W : World), k < N → Ix k W → w.heap.size ≤ W.heap.size → W.heap[w.heap.size]? = some (.deferred (some [])) → Code.ret.wpIn Fence.wide n P Q { a with defers := { target := .collected w.heap.size, args := #[] } :: a.defers } W) :
    (Code.rangeFunc g ps assign body).wpIn Fence.wide n P Q a w := by
  refine wpIn_rangeFunc fun fn hfn => ?_
  obtain ⟨D, hD⟩ : ∃ D, w.heap.size = D := ⟨_, rfl⟩
  let rec₀ : LoopState → Option Code → Loop := fun st pe => { state := st, pending := pe, fn := fn, tmps := a.tmps, params := ps, assign := assign, body := body, defers := w.heap.size }
  let W1 : World := (w.alloc (.deferred (some []))).alloc (.loop (rec₀ .ready none))
  have s1 : W1.heap.size = D + 2 := by simp [W1, hD]
  have r1 : W1.heap[D + 1]? = some (.loop (rec₀ .ready none)) := by
    have h := World.alloc_heap_new (w.alloc (.deferred (some []))) (.loop (rec₀ .ready none))
    rw [World.size_alloc, hD] at h
    exact h
  have d1 : W1.heap[D]? = some (.deferred (some [])) := by
    rw [← hD]
    exact (Below.heap_alloc _ _ _ (by simp)).trans (World.alloc_heap_new w _)
  have hb1 : Below D w W1 := ((Below.refl _ _).alloc (by omega) _).alloc (by simp; omega) _
  have hd2 : D = w.heap.size := hD.symm
  refine ⟨D + 1, [{ target := .collected D, args := #[] }], W1, { target := .fn (.func gf) lb, args := #[.func (.yield (D + 1)) #[] #[]] }, W1, gf, #[.func (.yield (D + 1)) #[] #[]] ++ lb, W1, ?_, ?_, fun _ _ => trivial, ?_, fun h => absurd h (by simp [Fence.wide]), ?_⟩
  · subst hD
    exact run_enterLoop_outer _ _ _ _ _
  · simp only [resolve, hg]
    simp [go_sem]
  · simp [invoke, go_sem, eg]
  · refine (hit (n - 1) (D + 1) (fun k A => I k A ∧ A.heap[D + 1]? = some (.loop (rec₀ .ready none)) ∧ A.heap[D]? = some (.deferred (some [])) ∧ D ≤ A.heap.size)
      (fun k A => Ix k A ∧ A.heap[D + 1]? = some (.loop (rec₀ .done (some .ret))) ∧ A.heap[D]? = some (.deferred (some [])) ∧ D ≤ A.heap.size) W1 (fun j _ hj => hb1.block j (by omega)) (by omega) ?_ ?_
      ⟨hI _ _ _ (hb1.mono (by omega)) h0, r1, d1, by omega⟩).mono ?_
    · rintro k A v ⟨hi, hl, hk, hs⟩
      have hp := fun j (hj : g0 ≠ j) => Below.heap_setCell A ⟨g0, 0, none⟩ v j (show j ≠ g0 from fun e => hj e.symm)
      exact ⟨hI _ _ _ ((Below.refl c0 A).setCell (p := ⟨g0, 0, none⟩) hg0 v) hi, (hp _ (by omega)).trans hl, (hp _ (by omega)).trans hk, by rw [World.size_setCell]; exact hs⟩
    · rintro k A hkN ⟨hi, hl, hk, hs⟩
      have hlt : D + 1 < A.heap.size := (Array.getElem?_eq_some_iff.1 hl).1
      refine ⟨fn, _, assign, body, run_yield hl (hps k), roundIn_of_wpIn hfn (hassign _ k A _ ⟨_, run_beginRound hl rfl, ?_⟩)⟩
      have l2 : (A.putObj (D + 1) (.loop (rec₀ .busy none))).heap[D + 1]? = some (.loop (rec₀ .busy none)) := World.putObj_heap_same hlt
      have k2 : (A.putObj (D + 1) (.loop (rec₀ .busy none))).heap[D]? = some (.deferred (some [])) := (World.putObj_heap_other (by omega)).trans hk
      have i2 : I k (A.putObj (D + 1) (.loop (rec₀ .busy none))) := hI _ _ _ (below_put A (D + 1) _ (by omega) hlt) hi
      refine wpIn_mono (hbody _ k _ hkN i2) ?_
      intro e a3 B hp
      have fin : ∀ (jump : Option Code), Past c0 (A.putObj (D + 1) (.loop (rec₀ .busy none))) B →
          (Instr.endRound (D + 1) jump).run P B = .ok (.bool jump.isNone) (B.putObj (D + 1) (.loop (rec₀ (if jump.isNone then .ready else .done) jump))) ∧
          (B.putObj (D + 1) (.loop (rec₀ (if jump.isNone then .ready else .done) jump))).heap[D + 1]? = some (.loop (rec₀ (if jump.isNone then .ready else .done) jump)) ∧
          (B.putObj (D + 1) (.loop (rec₀ (if jump.isNone then .ready else .done) jump))).heap[D]? = some (.deferred (some [])) ∧ Below c0 B (B.putObj (D + 1) (.loop (rec₀ (if jump.isNone then .ready else .done) jump))) ∧
          (∀ j, c0 ≤ j → j < w.heap.size → (B.putObj (D + 1) (.loop (rec₀ (if jump.isNone then .ready else .done) jump))).heap[j]? = A.heap[j]?) ∧ D ≤ (B.putObj (D + 1) (.loop (rec₀ (if jump.isNone then .ready else .done) jump))).heap.size := fun jump hpast => by
        have sz := hpast.size
        rw [World.putObj_size] at sz
        have l3 := (hpast.block (D + 1) (by omega) (by rw [World.putObj_size]; exact hlt)).trans l2
        have k3 := (hpast.block D (by omega) (by rw [World.putObj_size]; omega)).trans k2
        refine ⟨run_endRound jump l3, World.putObj_heap_same (by omega), (World.putObj_heap_other (by omega)).trans k3, below_put B (D + 1) _ (by omega) (by omega), fun j h1 h2 => ?_, by rw [World.putObj_size]; omega⟩
        rw [World.putObj_heap_other (by omega), hpast.block j h1 (by rw [World.putObj_size]; omega), World.putObj_heap_other (by omega)]
      cases e with
      | normal =>
        obtain ⟨hpa, hin⟩ := hp
        obtain ⟨f1, f2, f3, f4, f5, f6⟩ := fin none hpa
        exact ⟨_, _, f1, .inl ⟨rfl, ⟨hI _ _ _ f4 hin, f2, f3, f6⟩, f5⟩⟩
      | ret =>
        obtain ⟨hpa, hin⟩ := hp
        obtain ⟨f1, f2, f3, f4, f5, f6⟩ := fin (some .ret) hpa
        exact ⟨_, _, f1, .inr ⟨rfl, hIx _ _ _ f4 hin, f2, f3, f6⟩⟩
      | exit id => exact hp.elim
      | goto t => exact hp.elim
      | panic ch => exact hp.elim
      | outgrown => exact hp.elim
    · rintro e B ⟨⟨v, rfl⟩, (⟨hi, hl, hk, hs⟩ | ⟨k, hkN, hi, hl, hk, hs⟩)⟩
      · have hlt : D + 1 < B.heap.size := (Array.getElem?_eq_some_iff.1 hl).1
        refine ⟨none, _, run_endLoop hl (by simp [rec₀]), ?_⟩
        subst hD
        exact hdone _ (hI _ _ _ (below_put B _ _ (by omega) hlt) hi) (by rw [World.putObj_size]; exact hs) ((World.putObj_heap_other (by omega)).trans hk)
      · have hlt : D + 1 < B.heap.size := (Array.getElem?_eq_some_iff.1 hl).1
        refine ⟨some .ret, _, run_endLoop hl (by simp [rec₀]), ?_⟩
        subst hD
        exact hstop k _ hkN (hIx _ _ _ (below_put B _ _ (by omega) hlt) hi) (by rw [World.putObj_size]; exact hs) ((World.putObj_heap_other (by omega)).trans hk)
end Go.Proofs.Ytmnecbmneljhkaa
