/- Bloom: what a filter of keys is; the marks that a function with ranges over functions leaves with. -/
import Derived.Test.YtmnecbmneljhkaaBlK
import Derived.Test.YtmnecbmneljhkaaStr
namespace Go.Proofs.Ytmnecbmneljhkaa
open Go.RowKit Go.Shelf Go.Proofs.YtmnecbmneljhkaaW.PrintWords
set_option linter.unusedVariables false

def setB (xs : List UInt8) (p : Nat) : List UInt8 := xs.set (p / 8) (xs.getD (p / 8) 0 ||| UInt8.ofNat (2 ^ (p % 8)))
/-- the first k places of a key, set -/
def setU (xs : List UInt8) (s : ByteArray) : Nat → List UInt8
  | 0 => xs
  | k + 1 => setB (setU xs s k) (place s (8 * xs.length) k)
def setAll (m : Nat) : List UInt8 → List ByteArray → List UInt8
  | xs, [] => xs
  | xs, s :: r => setAll m (setU xs s m) r
theorem setB_length (xs : List UInt8) (p : Nat) : (setB xs p).length = xs.length := List.length_set
theorem setU_length (xs : List UInt8) (s : ByteArray) (k : Nat) : (setU xs s k).length = xs.length := by
  induction k with
  | zero => rfl
  | succ k ih => rw [setU, setB_length, ih]
theorem setAll_length (m : Nat) (ss : List ByteArray) (xs : List UInt8) : (setAll m xs ss).length = xs.length := by
  induction ss generalizing xs with
  | nil => rfl
  | cons s r ih => rw [setAll, ih, setU_length]
theorem setAll_append (m : Nat) (ss : List ByteArray) (s : ByteArray) (xs : List UInt8) : setAll m xs (ss ++ [s]) = setU (setAll m xs ss) s m := by
  induction ss generalizing xs with
  | nil => rfl
  | cons t r ih => rw [List.cons_append, setAll, ih, setAll]
theorem or_all : ∀ (n : Fin 256) (r : Fin 8), n.val ||| 2 ^ r.val < 256 := by decide +kernel
theorem or_bit (x : UInt8) (r : Nat) (hr : r < 8) : bits .or .u8 (x.toNat : Int) ((2 ^ r : Nat) : Int) = ((x ||| UInt8.ofNat (2 ^ r)).toNat : Int) := by
  have hx := x.toNat_lt
  have h2 : 2 ^ r ≤ 2 ^ 7 := Nat.pow_le_pow_right (by decide) (by omega)
  generalize 2 ^ r = t at *
  rw [u8_or_nat x.toNat t (by omega) (by omega), UInt8.toNat_or]
  congr 2
  rw [UInt8.toNat_ofNat']
  omega
def makeN (each n : Nat) : Nat := max 1 ((n * each + 7) / 8)
def makeM (each : Nat) : Nat := min 8 (max 1 (7 * each / 10))
def makeOk (each : Int) (n : Nat) : Prop := 1 ≤ each ∧ each ≤ 16 ∧ n ≤ 4096
instance (each : Int) (n : Nat) : Decidable (makeOk each n) := by unfold makeOk; exact inferInstance
def makeK (each : Int) (n : Nat) : Int := if makeOk each n then (makeM each.toNat : Int) else 0
def makeX (each : Int) (ss : List ByteArray) : List UInt8 := if makeOk each ss.length then setAll (makeM each.toNat) (List.replicate (makeN each.toNat ss.length) 0) ss else []
def makeE (each : Int) (n : Nat) : Int := if each < 1 ∨ 16 < each then 4 else if 4096 < n then 3 else 0

/-- a function that leaves with marks alone -/
theorem leaves_marks {F : Fence} {n : Nat} {P : Program} {fn : Func} {tmps : Array Value} {R : Ending → World → Prop} {base : Nat} : ∀ (ds : List Nat) (W : World), ds.Nodup → (∀ D ∈ ds, base ≤ D ∧ W.heap[D]? = some (.deferred (some []))) →
    (∀ W', Below base W W' → LeavesInM F n P fn tmps R [] .returning W') → LeavesInM F n P fn tmps R (ds.map fun D => { target := .collected D, args := #[] }) .returning W := by
  intro ds
  induction ds with
  | nil => exact fun W _ _ h => h W (Below.refl _ _)
  | cons D ds ih =>
    intro W hnd hall hend
    have hD := (hall D (List.mem_cons_self ..)).2
    have hlt := (Array.getElem?_eq_some_iff.1 hD).1
    have hbel : Below base W (W.putObj D (.deferred none)) := below_put W D _ (hall D (List.mem_cons_self ..)).1 hlt
    refine ⟨by simp, .inl ⟨D, _, rfl, run_takeDeferred hD, ih _ (List.nodup_cons.1 hnd).2 (fun E hE => ?_) (fun W' h => hend W' (hbel.trans h))⟩⟩
    have hne : E ≠ D := fun e => (List.nodup_cons.1 hnd).1 (e ▸ hE)
    exact ⟨(hall E (List.mem_cons_of_mem _ hE)).1, (World.putObj_heap_other hne).trans (hall E (List.mem_cons_of_mem _ hE)).2⟩
end Go.Proofs.Ytmnecbmneljhkaa
