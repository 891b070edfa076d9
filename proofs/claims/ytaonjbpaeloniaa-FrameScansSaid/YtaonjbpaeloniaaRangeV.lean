/- A range over a function whose iterator hands out memory of its own: the statement, out of the iterator's word and of one round's walk. -/
import Derived.Test.YtaonjbpaeloniaaBase
import Derived.RangeFuncBound
import Derived.RangeFuncCalls
import Derived.RangeFuncLeaves
import Derived.RangeFuncOwn
import Derived.RangeFuncKeeps
import Derived.RangeFuncNested
import Derived.Shelf.Abstract
import Derived.OwnWalkIn
import Derived.TacticsInMore
import Derived.LoopNIn
import Derived.LoopIn
namespace Go.Proofs.Ytaonjbpaeloniaa
open Go.RowKit Go.Shelf Go.Proofs.YtaonjbpaeloniaaW.PrintWords
set_option linter.unusedVariables false

/-- all blocks but the loop's two (D, D + 1) lie as they lay -/
structure Ap (D : Nat) (A B : World) : Prop where
  below : Below D A B
  past : ∀ j, D + 2 ≤ j → j < A.heap.size → B.heap[j]? = A.heap[j]?
theorem Ap.of_below {D : Nat} {A B : World} (h : Below A.heap.size A B) (hD : D ≤ A.heap.size) : Ap D A B := ⟨h.mono hD, fun j _ hl => h.block j hl⟩
theorem Ap.trans {D : Nat} {A B C : World} (h : Ap D A B) (k : Ap D B C) : Ap D A C := ⟨h.below.trans k.below, fun j hj hl => (k.past j hj (Nat.lt_of_lt_of_le hl h.below.size)).trans (h.past j hj hl)⟩
theorem Ap.put {D : Nat} (A : World) (o : Obj) (hl : D + 1 < A.heap.size) : Ap D A (A.putObj (D + 1) o) :=
  ⟨(Below.refl D A).grown (grownBy_putObj' A (D + 1) o) (by omega) (fun k e => by cases e; omega), fun j hj _ => World.putObj_heap_other (by omega)⟩
/-- what stays where the call's own blocks stay -/
theorem Ap.block {D : Nat} {A B : World} (h : Ap D A B) (j : Nat) (hl : j < A.heap.size) (h0 : j ≠ D) (h1 : j ≠ D + 1) : B.heap[j]? = A.heap[j]? := by
  rcases Nat.lt_or_ge j D with h2 | h2
  · exact h.below.block j h2
  · exact h.past j (by omega) hl
/-- the loop's two blocks stay, and the iterator's -/
structure Keeps (own : Nat → Prop) (D : Nat) (A B : World) : Prop where
  size : A.heap.size ≤ B.heap.size
  block : ∀ j, own j ∨ j = D ∨ j = D + 1 → j < D + 2 → B.heap[j]? = A.heap[j]?

/-- the iterator's word: N rounds, in order, if each goes on; V: what round k's values are, made from a bound on; what is 'own' of the caller's world stays -/
def IterV (P : Program) (gf : Nat) (lb : Array Value) (own : Nat → Prop) (N : Nat) (V : Nat → Nat → Array Value → World → Prop) (w : World) : Prop :=
  ∀ (n l : Nat) (J Jx : Nat → World → Prop) (W : World), (∀ j, own j → j < w.heap.size → W.heap[j]? = w.heap[j]?) → w.heap.size ≤ W.heap.size →
    (∀ k A B, Below A.heap.size A B → J k A → J k B) →
    (∀ k b vs A, k < N → W.heap.size ≤ b → V k b vs A → J k A → YieldAt Fence.wide (n - 1) P l vs A fun e B => (e = .returned (.bool true) ∧ J (k + 1) B ∧ (∀ j, own j → j < w.heap.size → B.heap[j]? = A.heap[j]?) ∧ A.heap.size ≤ B.heap.size) ∨ (e = .returned (.bool false) ∧ Jx k B)) →
    J 0 W → CallsIn Fence.wide n P gf (#[.func (.yield l) #[] #[]] ++ lb) W fun e B => (∃ v, e = .returned v) ∧ (J N B ∨ ∃ k, k < N ∧ Jx k B)

/-- how a round's body may end -/
def roundEndV (own : Nat → Prop) (D : Nat) (I Ix : Nat → World → Prop) (k : Nat) (W : World) : Exit → Act → World → Prop
  | .normal, _, B => Keeps own D W B ∧ I (k + 1) B
  | .ret, _, B => Keeps own D W B ∧ Ix k B
  | _, _, _ => False

theorem range_iterV {n : Nat} {P : Program} {g : Operand} {ps : Array Tmp} {assign body : Code} {Q : Exit → Act → World → Prop} {a : Act} {w : World} {gf : Nat} {lb : Array Value} {N D : Nat} {own : Nat → Prop} {V : Nat → Nat → Array Value → World → Prop}
    (hD : w.heap.size = D) (hg : a.eval g = .func (.func gf) #[] lb) (eg : ∀ args w, (callFunc gf args).run P w = .ok (.enter gf args) w) (hps : ∀ k b vs A, V k b vs A → vs.size = ps.size)
    (hit : IterV P gf lb own N V w) (I Ix : Nat → World → Prop) (hI : ∀ k A B, Ap D A B → I k A → I k B) (hIx : ∀ k A B, Ap D A B → Ix k A → Ix k B) (hV : ∀ k b vs A B, D + 2 ≤ b → Ap D A B → V k b vs A → V k b vs B) (h0 : I 0 w)
    (Asg : Nat → Nat → Act → World → Prop) (hAsg : ∀ k b a₁ A B, D + 2 ≤ b → Ap D A B → Asg k b a₁ A → Asg k b a₁ B)
    (hassign : ∀ (l k b : Nat) (vs : Array Value) (W : World) (K : Act → World → Prop), k < N → D + 2 ≤ b → D + 2 ≤ W.heap.size → V k b vs W → (∀ a₁ W₁, Below W.heap.size W W₁ → Asg k b a₁ W₁ → K a₁ W₁) →
      assign.wpIn (Fence.wide.inRound l) (n - 1 - 1) P (Exit.then K (fun _ _ _ => False)) { tmps := (ps.zip vs).foldl (fun t (p, v) => t.setIfInBounds p v) a.tmps, defers := [] } W)
    (hbody : ∀ (l k b : Nat) (a₁ : Act) (W : World), k < N → D + 2 ≤ b → D + 2 ≤ W.heap.size → Asg k b a₁ W → I k W → body.wpIn (Fence.wide.inRound l) (n - 1 - 1) P (roundEndV own D I Ix k W) a₁ W)
    (hdone : ∀ (W : World), I N W → D ≤ W.heap.size → W.heap[D]? = some (.deferred (some [])) → Q .normal { a with defers := { target := .collected D, args := #[] } :: a.defers } W)
    (hstop : ∀ (k : Nat) (W : World), k < N → Ix k W → D ≤ W.heap.size → W.heap[D]? = some (.deferred (some [])) → Code.ret.wpIn Fence.wide n P Q { a with defers := { target := .collected D, args := #[] } :: a.defers } W) :
    (Code.rangeFunc g ps assign body).wpIn Fence.wide n P Q a w := by
  refine wpIn_rangeFunc fun fn hfn => ?_
  let rec₀ : LoopState → Option Code → Loop := fun st pe => { state := st, pending := pe, fn := fn, tmps := a.tmps, params := ps, assign := assign, body := body, defers := w.heap.size }
  let W1 : World := (w.alloc (.deferred (some []))).alloc (.loop (rec₀ .ready none))
  have s1 : W1.heap.size = D + 2 := by simp [W1, hD]
  have r1 : W1.heap[D + 1]? = some (.loop (rec₀ .ready none)) := by
    have h := World.alloc_heap_new (w.alloc (.deferred (some []))) (.loop (rec₀ .ready none))
    rw [World.size_alloc, hD] at h
    exact h
  have d1 : W1.heap[D]? = some (.deferred (some [])) := by
    rw [← hD]
    exact (Below.heap_alloc _ _ _ (by simp)).trans (World.alloc_heap_new w _)
  have hb1 : Below D w W1 := ((Below.refl _ _).alloc (by omega) _).alloc (by simp; omega) _
  have ha1 : Ap D w W1 := ⟨hb1, fun j hj hl => by omega⟩
  refine ⟨D + 1, [{ target := .collected D, args := #[] }], W1, { target := .fn (.func gf) lb, args := #[.func (.yield (D + 1)) #[] #[]] }, W1, gf, #[.func (.yield (D + 1)) #[] #[]] ++ lb, W1, ?_, ?_, fun _ _ => trivial, ?_, fun h => absurd h (by simp [Fence.wide]), ?_⟩
  · subst hD
    exact run_enterLoop_outer _ _ _ _ _
  · simp only [resolve, hg]
    simp [go_sem]
  · simp [invoke, go_sem, eg]
  · refine (hit (n - 1) (D + 1) (fun k A => I k A ∧ A.heap[D + 1]? = some (.loop (rec₀ .ready none)) ∧ A.heap[D]? = some (.deferred (some [])) ∧ D ≤ A.heap.size)
      (fun k A => Ix k A ∧ A.heap[D + 1]? = some (.loop (rec₀ .done (some .ret))) ∧ A.heap[D]? = some (.deferred (some [])) ∧ D ≤ A.heap.size) W1 (fun j _ hj => hb1.block j (by omega)) (by omega) ?_ ?_
      ⟨hI _ _ _ ha1 h0, r1, d1, by omega⟩).mono ?_
    · rintro k A B hAB ⟨hi, hl, hk, hs⟩
      have hlt : D + 1 < A.heap.size := (Array.getElem?_eq_some_iff.1 hl).1
      exact ⟨hI _ _ _ (Ap.of_below hAB hs) hi, (hAB.block _ hlt).trans hl, (hAB.block _ (by omega)).trans hk, Nat.le_trans hs hAB.size⟩
    · rintro k b vs A hkN hb hVk ⟨hi, hl, hk, hs⟩
      have hlt : D + 1 < A.heap.size := (Array.getElem?_eq_some_iff.1 hl).1
      refine ⟨fn, _, assign, body, run_yield hl (hps _ _ _ _ hVk), roundIn_of_wpIn hfn (hassign _ k b vs A _ hkN (by omega) (by omega) hVk fun a₁ W₁ hb₁ hAsg₁ => ?_)⟩
      have l1 : W₁.heap[D + 1]? = some (.loop (rec₀ .ready none)) := (hb₁.block _ hlt).trans hl
      have k1 : W₁.heap[D]? = some (.deferred (some [])) := (hb₁.block _ (by omega)).trans hk
      have hlt1 : D + 1 < W₁.heap.size := Nat.lt_of_lt_of_le hlt hb₁.size
      refine ⟨_, run_beginRound l1 rfl, ?_⟩
      have l2 : (W₁.putObj (D + 1) (.loop (rec₀ .busy none))).heap[D + 1]? = some (.loop (rec₀ .busy none)) := World.putObj_heap_same hlt1
      have k2 : (W₁.putObj (D + 1) (.loop (rec₀ .busy none))).heap[D]? = some (.deferred (some [])) := (World.putObj_heap_other (by omega)).trans k1
      have hp1 : Ap D W₁ (W₁.putObj (D + 1) (.loop (rec₀ .busy none))) := Ap.put W₁ _ hlt1
      have i2 : I k (W₁.putObj (D + 1) (.loop (rec₀ .busy none))) := hI _ _ _ ((Ap.of_below hb₁ hs).trans hp1) hi
      refine wpIn_mono (hbody _ k b a₁ _ hkN (by omega) (by rw [World.putObj_size]; omega) (hAsg _ _ _ _ _ (by omega) hp1 hAsg₁) i2) ?_
      intro e a3 B hp
      have fin : ∀ (jump : Option Code), Keeps own D (W₁.putObj (D + 1) (.loop (rec₀ .busy none))) B →
          (Instr.endRound (D + 1) jump).run P B = .ok (.bool jump.isNone) (B.putObj (D + 1) (.loop (rec₀ (if jump.isNone then .ready else .done) jump))) ∧
          (B.putObj (D + 1) (.loop (rec₀ (if jump.isNone then .ready else .done) jump))).heap[D + 1]? = some (.loop (rec₀ (if jump.isNone then .ready else .done) jump)) ∧
          (B.putObj (D + 1) (.loop (rec₀ (if jump.isNone then .ready else .done) jump))).heap[D]? = some (.deferred (some [])) ∧ Ap D B (B.putObj (D + 1) (.loop (rec₀ (if jump.isNone then .ready else .done) jump))) ∧
          (∀ j, own j → j < w.heap.size → (B.putObj (D + 1) (.loop (rec₀ (if jump.isNone then .ready else .done) jump))).heap[j]? = A.heap[j]?) ∧ D ≤ (B.putObj (D + 1) (.loop (rec₀ (if jump.isNone then .ready else .done) jump))).heap.size ∧
          A.heap.size ≤ (B.putObj (D + 1) (.loop (rec₀ (if jump.isNone then .ready else .done) jump))).heap.size := fun jump hkp => by
        have sz := hkp.size
        rw [World.putObj_size] at sz
        have szb := hb₁.size
        have l3 := (hkp.block (D + 1) (.inr (.inr rfl)) (by omega)).trans l2
        have k3 := (hkp.block D (.inr (.inl rfl)) (by omega)).trans k2
        refine ⟨run_endRound jump l3, World.putObj_heap_same (by omega), (World.putObj_heap_other (by omega)).trans k3, Ap.put B _ (by omega), fun j h1 h2 => ?_, by rw [World.putObj_size]; omega, by rw [World.putObj_size]; omega⟩
        rw [World.putObj_heap_other (by omega), hkp.block j (.inl h1) (by omega), World.putObj_heap_other (by omega), hb₁.block j (by omega)]
      cases e with
      | normal =>
        obtain ⟨hpa, hin⟩ := hp
        obtain ⟨f1, f2, f3, f4, f5, f6, f7⟩ := fin none hpa
        exact ⟨_, _, f1, .inl ⟨rfl, ⟨hI _ _ _ f4 hin, f2, f3, f6⟩, f5, f7⟩⟩
      | ret =>
        obtain ⟨hpa, hin⟩ := hp
        obtain ⟨f1, f2, f3, f4, f5, f6, f7⟩ := fin (some .ret) hpa
        exact ⟨_, _, f1, .inr ⟨rfl, hIx _ _ _ f4 hin, f2, f3, f6⟩⟩
      | exit id => exact hp.elim
      | goto t => exact hp.elim
      | panic ch => exact hp.elim
      | outgrown => exact hp.elim
    · rintro e B ⟨⟨v, rfl⟩, (⟨hi, hl, hk, hs⟩ | ⟨k, hkN, hi, hl, hk, hs⟩)⟩
      · have hlt : D + 1 < B.heap.size := (Array.getElem?_eq_some_iff.1 hl).1
        refine ⟨none, _, run_endLoop hl (by simp [rec₀]), ?_⟩
        exact hdone _ (hI _ _ _ (Ap.put B _ hlt) hi) (by rw [World.putObj_size]; exact hs) ((World.putObj_heap_other (by omega)).trans hk)
      · have hlt : D + 1 < B.heap.size := (Array.getElem?_eq_some_iff.1 hl).1
        refine ⟨some .ret, _, run_endLoop hl (by simp [rec₀]), ?_⟩
        exact hstop k _ hkN (hIx _ _ _ (Ap.put B _ hlt) hi) (by rw [World.putObj_size]; exact hs) ((World.putObj_heap_other (by omega)).trans hk)
end Go.Proofs.Ytaonjbpaeloniaa
