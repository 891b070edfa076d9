/- A struct of a number and a slice, in a variable: its cells read, kept, stored. -/
import Derived.Test.YtaonjbpaeloniaaBase
import Derived.Test.YtaonjbpaeloniaaOwn
namespace Go.Proofs.Ytaonjbpaeloniaa
open Go.RowKit Go.Proofs.YtaonjbpaeloniaaW.PrintWords
set_option linter.unusedVariables false

/-- a number and a slice, as a value -/
def fil (K : Int) (A : Option Addr) (n c : Nat) : Value := .agg #[.int .i64 K, .slice A n c]
/-- a struct that lies in a variable just laid, a call behind -/
theorem boxedF {w w1 : World} {K : Int} {s : Value} {ty : TypeId} (HB : Below (w.alloc (.cells #[.int .i64 K, s] ty)).heap.size (w.alloc (.cells #[.int .i64 K, s] ty)) w1) :
    w1.cell? ⟨w.heap.size, 0, none⟩ = some (.int .i64 K) ∧ w1.cell? ⟨w.heap.size, 1, none⟩ = some s ∧ Below w.heap.size w w1 := by
  have hs : w.heap.size < (w.alloc (.cells #[.int .i64 K, s] ty)).heap.size := by simp
  refine ⟨?_, ?_, ((Below.refl _ _).alloc (Nat.le_refl _) _).trans (HB.mono (by simp))⟩ <;> (rw [HB.cell hs, World.cell?_alloc_mark]; rfl)
/-- two cells of a block just laid, stored -/
theorem two_cells {w : World} {g : Nat} {t : TypeId} {x y u v : Value} (h : w.heap[g]? = some (.cells #[x, y] t (0, 0))) :
    ((w.setCell ⟨g, 0, none⟩ u).setCell ⟨g, 1, none⟩ v).heap[g]? = some (.cells #[u, v] t (0, 0)) := blk_set (blk_set h 0 u) 1 v
theorem two_read {w : World} {g : Nat} {t : TypeId} {x y : Value} (h : w.heap[g]? = some (.cells #[x, y] t (0, 0))) :
    w.cell? ⟨g, 0, none⟩ = some x ∧ w.cell? ⟨g, 1, none⟩ = some y ∧ w.frozen? ⟨g, 0, none⟩ = false ∧ w.frozen? ⟨g, 1, none⟩ = false := ⟨blk_cell h 0, blk_cell h 1, blk_frozen h 0, blk_frozen h 1⟩
/-- a struct in a variable -/
def Bx (w : World) (b : Nat) (K : Int) (s : Value) (ty : TypeId) : Prop := w.heap[b]? = some (.cells #[.int .i64 K, s] ty)
theorem Bx.below {w w1 : World} {b : Nat} {K : Int} {s : Value} {ty : TypeId} (h : Bx w b K s ty) (hb : Below w.heap.size w w1) : Bx w1 b K s ty := (hb.block b (Array.getElem?_eq_some_iff.1 h).1).trans h
theorem Bx.lt {w : World} {b : Nat} {K : Int} {s : Value} {ty : TypeId} (h : Bx w b K s ty) : b < w.heap.size := (Array.getElem?_eq_some_iff.1 h).1
theorem Bx.grown {w w1 : World} {b : Nat} {K : Int} {s : Value} {ty : TypeId} (h : Bx w b K s ty) {row : Option Nat} (hg : w.grownBy w1 row) (hne : ∀ k, row = some k → k < b) : Bx w1 b K s ty :=
  (hg.block b h.lt (fun e => by have := hne b e.symm; omega)).trans h
theorem Bx.new (w : World) (K : Int) (s : Value) (ty : TypeId) : Bx (w.alloc (.cells #[.int .i64 K, s] ty)) w.heap.size K s ty := heap_alloc_new w _
theorem Bx.read {w : World} {b : Nat} {K : Int} {s : Value} {ty : TypeId} (h : Bx w b K s ty) : w.cell? ⟨b, 0, none⟩ = some (.int .i64 K) ∧ w.cell? ⟨b, 1, none⟩ = some s ∧ w.frozen? ⟨b, 0, none⟩ = false ∧ w.frozen? ⟨b, 1, none⟩ = false := two_read h
theorem below_alloc (w : World) (o : Obj) : Below w.heap.size w (w.alloc o) := (Below.refl _ _).alloc (Nat.le_refl _) _
theorem OwB.rdl {w : World} {base : Nat} {A : Option Addr} {n c : Nat} {xs : List UInt8} (h : OwB w base (.slice A n c) xs) : RdB w A c xs := by
  obtain ⟨A', c', hv, hr⟩ := h.rd
  injection hv with h1 _ h3
  subst h1
  subst h3
  exact hr
theorem i64_of (a : Int) (h : (Lit.int .i64 a).wf = true) : -9223372036854775808 ≤ a ∧ a ≤ 9223372036854775807 := by
  simpa [Lit.wf, IntKind.min, IntKind.max, IntKind.signed, IntKind.bits] using h
end Go.Proofs.Ytaonjbpaeloniaa
