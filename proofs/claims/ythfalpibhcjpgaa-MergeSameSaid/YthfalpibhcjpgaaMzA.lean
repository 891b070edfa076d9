/- The contracts that the laws of this seat share: octets, sums, numbers, records. -/
import Derived.Test.YthfalpibhcjpgaaProg
import Derived.Test.YthfalpibhcjpgaaWWords
import Derived.WalkKit
import Derived.WalkSpells
import Derived.WalkLawsBesides
import Derived.KernelRfl
import Derived.Deep.QuietTactic
import Derived.BigQuiet
import Derived.Deep.DeepCutAuto
import Derived.Deep.CutBlock
import Derived.Deep.RegionHeld3
import Derived.Lib.ConvBytes
import Derived.Lib.AppendStr
import Derived.Deep.AppendLies
import Derived.IntWalk
import Derived.Test.YthfalpibhcjpgaaRows
import Derived.ChangeSlices
import Derived.ProofKit
import Derived.OpenShut
import Derived.Deep.Slices
import Derived.ChangeSame
import Derived.SizedLaws
import Derived.Laws.BitsAllLaws
import Derived.Sort.Walk0
import Derived.Lib.Strings
import Derived.Test.YthfalpibhcjpgaaPBx
import Derived.Test.YthfalpibhcjpgaaSh_cmp_Compare_int
import Derived.RangeFuncBound
import Derived.RangeFuncCalls
import Derived.RangeFuncLeaves
import Derived.RangeFuncOwn
import Derived.RangeFuncKeeps
import Derived.RangeFuncNested
import Derived.Shelf.Abstract
import Derived.OwnWalkIn
import Derived.TacticsInMore
import Derived.LoopNIn
import Derived.LoopIn
import Derived.StillTailTactics
import Derived.Maps.Own
import Derived.Maps.Views
import Derived.DeepKeys4
import Derived.Lib.SliceRun
set_option linter.unusedVariables false
set_option linter.unusedSimpArgs false
section
/- What the walks of this seat share: bytes as a slice holds them, read and owned; small words. -/
namespace Go.Proofs.Ythfalpibhcjpgaa
open Go.RowKit Go.Proofs.YthfalpibhcjpgaaW.PrintWords

theorem hide {p : Prop} (h : p) : Hid p := h
/-- an octet in memory -/
def eu8 (b : UInt8) : Value := .int .u8 (b.toNat : Int)
theorem eu8_one (b : UInt8) : (eu8 b).oneCell' = true := rfl
theorem info_u8 : (Try.prog.info? 5).map (fun i => (i.zero, i.size, i.bytes)) = some (some (.int .u8 0), 1, 1) := by kernel_rfl

/-- a slice of octets that is read: its address, its capacity -/
def RdB (w : World) (A : Option Addr) (c : Nat) (xs : List UInt8) : Prop := xs.length ≤ c ∧ ReadsOf eu8 0 w A xs.length xs
/-- a row of octets of the call's own -/
def OwB (w : World) (base : Nat) (v : Value) (xs : List UInt8) : Prop := w.ownsRow base 5 1 v xs.length (encs eu8 xs)

theorem RdB.below {w w1 : World} {A : Option Addr} {c : Nat} {xs : List UInt8} (h : RdB w A c xs) (hb : Below w.heap.size w w1) : RdB w1 A c xs := ⟨h.1, h.2.below hb⟩
theorem RdB.le {w : World} {A : Option Addr} {c : Nat} {xs : List UInt8} (h : RdB w A c xs) : xs.length ≤ c := h.1
theorem RdB.max {w : World} {A : Option Addr} {c : Nat} {xs : List UInt8} (h : RdB w A c xs) : xs.length ≤ 9223372036854775807 := h.2.2.1
theorem RdB.at_ {w : World} {A : Option Addr} {c : Nat} {xs : List UInt8} (h : RdB w A c xs) (i : Nat) (hi : i < xs.length) : ∃ ad, A = some ad ∧ w.cell? (ad.add i) = some (.int .u8 ((xs.getD i 0).toNat : Int)) := by
  obtain ⟨ad, e, hc⟩ := h.2.2.2 (by omega)
  exact ⟨ad, e, hc i hi⟩
theorem RdB.zero (w : World) (A : Option Addr) (c : Nat) : RdB w A c [] := ⟨Nat.zero_le _, rfl, Nat.zero_le _, fun h => absurd h (by simp)⟩
theorem OwB.below {w w1 : World} {base : Nat} {v : Value} {xs : List UInt8} (h : OwB w base v xs) (hb : Below w.heap.size w w1) : OwB w1 base v xs := pw_own_below h hb
theorem OwB.lower {w : World} {base base' : Nat} {v : Value} {xs : List UInt8} (h : OwB w base v xs) (hb : base' ≤ base) : OwB w base' v xs := own_weaken h hb
theorem OwB.rd {w : World} {base : Nat} {v : Value} {xs : List UInt8} (h : OwB w base v xs) : ∃ A c, v = .slice A xs.length c ∧ RdB w A c xs := by
  obtain ⟨A, c, hv, hl, hr⟩ := own_reads_of_le (d := (0 : UInt8)) h
  exact ⟨A, c, hv, hl, hr⟩
theorem OwB.zero (w : World) (base : Nat) : OwB w base (.slice none 0 0) [] := own_nil _ _ _ _
theorem RdB.take {w : World} {A : Option Addr} {c : Nat} {xs : List UInt8} (h : RdB w A c xs) (k : Nat) (hk : k ≤ xs.length) : RdB w A c (xs.take k) := by
  have hl : (xs.take k).length = k := by rw [List.length_take]; omega
  refine ⟨by have := h.1; omega, ?_⟩
  rw [hl]
  exact h.2.take_ k hk
/-- the address behind 'xs[k:]' -/
def cutA (A : Option Addr) (c k : Nat) : Option Addr := if c = k then A else A.map (·.add k)
theorem RdB.drop {w : World} {A : Option Addr} {c : Nat} {xs : List UInt8} (h : RdB w A c xs) (k : Nat) (hk : k ≤ xs.length) : RdB w (cutA A c k) (c - k) (xs.drop k) := by
  have hl : (xs.drop k).length = xs.length - k := List.length_drop
  refine ⟨by have := h.1; omega, ?_⟩
  rw [hl]
  exact h.2.drop_ k hk h.1
/-- 'xs[:k]', 'xs[k:]', 'xs[j:k]' of a slice whose elements have one cell -/
theorem slice_hi {P : Program} (t e : TypeId) {i : TypeInfo} (ht : P.underlying t = some (.slice e)) (hi : P.info? e = some i) (hsz : i.size = 1) (A : Option Addr) (n c k : Nat) (hk : k ≤ c) (W : World) :
    (Instr.slice t (.slice A n c) none (some (.int .i64 (k : Int))) none).run P W = .ok (.slice A k c) W := by
  have hel : P.elem t = e := by simp [Program.elem, ht]
  have hu : P.underlying t = some (.slice (P.elem t)) := by rw [hel]; exact ht
  have ha : (A.map fun x => x.add 0) = A := by cases A <;> simp [Addr.add]
  rw [run_slice_h W t A n c hu .i64 (k : Int) (Int.natCast_nonneg _) (by omega), hel]
  simp [sizeOf, typeInfo, hi, hsz, sliced, Result.andThen, ha]
theorem slice_lo {P : Program} (t e : TypeId) {i : TypeInfo} (ht : P.underlying t = some (.slice e)) (hi : P.info? e = some i) (hsz : i.size = 1) (A : Option Addr) (n c k : Nat) (hk : k ≤ n) (W : World) :
    (Instr.slice t (.slice A n c) (some (.int .i64 (k : Int))) none none).run P W = .ok (.slice (cutA A c k) (n - k) (c - k)) W := by
  have hel : P.elem t = e := by simp [Program.elem, ht]
  have hu : P.underlying t = some (.slice (P.elem t)) := by rw [hel]; exact ht
  rw [run_slice_l W t A n c hu .i64 (k : Int) (Int.natCast_nonneg _) (by omega), hel]
  simp [sizeOf, typeInfo, hi, hsz, sliced, Result.andThen, cutA]
theorem slice_lohi {P : Program} (t e : TypeId) {i : TypeInfo} (ht : P.underlying t = some (.slice e)) (hi : P.info? e = some i) (hsz : i.size = 1) (A : Option Addr) (n c j k : Nat) (hj : j ≤ k) (hk : k ≤ c) (W : World) :
    (Instr.slice t (.slice A n c) (some (.int .i64 (j : Int))) (some (.int .i64 (k : Int))) none).run P W = .ok (.slice (cutA A c j) (k - j) (c - j)) W := by
  have hel : P.elem t = e := by simp [Program.elem, ht]
  have hu : P.underlying t = some (.slice (P.elem t)) := by rw [hel]; exact ht
  rw [run_slice_lh W t A n c hu .i64 .i64 (j : Int) (k : Int) (Int.natCast_nonneg _) (by omega) (by omega), hel]
  simp [sizeOf, typeInfo, hi, hsz, sliced, Result.andThen, cutA]

/-! 'string(b)', and its letters -/
def strB (xs : List UInt8) : ByteArray := ⟨xs.toArray⟩
theorem strB_list (xs : List UInt8) : (strB xs).data.toList = xs := by simp [strB]
theorem strOfNums_eu8 (xs : List UInt8) : strOfNums (xs.map fun b => (b.toNat : Int)) = strB xs := by
  simp [strOfNums, strB, List.map_map]
  have : ((fun (n : Int) => UInt8.ofNat n.toNat) ∘ fun (b : UInt8) => (b.toNat : Int)) = id := by
    funext b; simp
  rw [this, List.map_id]
theorem RdB.toStr {w : World} {A : Option Addr} {c : Nat} {xs : List UInt8} (h : RdB w A c xs) {P : Program} (src e dst : TypeId) (hs : P.underlying src = some (.slice e)) (he : P.underlying e = some (.int .u8)) (hd : P.underlying dst = some .string) :
    (convert src dst (.slice A xs.length c)).run P w = .ok (.string (strB xs)) w := by
  rcases Nat.eq_zero_or_pos xs.length with h0 | h0
  · obtain rfl : xs = [] := List.eq_nil_of_length_eq_zero h0
    cases A with
    | none => exact run_convert_bytes_nil w src e hs he 0 c dst hd
    | some ad =>
      show (convert src dst (.slice (some ad) 0 c)).run P w = _
      rw [run_convert_bytes_string w src dst e _ 0 c hs he hd, run_bytesToString w ad 0 c [] (by rfl)]
      rfl
  · obtain ⟨ad, rfl, hc⟩ := h.2.2.2 h0
    rcases ad with ⟨b, off, spot⟩
    cases spot with
    | some s =>
      have := hc 0 h0
      simp [Addr.add, World.cell?] at this
      split at this <;> simp at this
    | none =>
      have := run_convert_bytes_arg w src e hs he b off xs.length c (xs.map fun b => (b.toNat : Int)) (by simp) (fun i hi => by
        have := hc i hi
        have ha : (⟨b, off, none⟩ : Addr).add i = ⟨b, off + i, none⟩ := by unfold Addr.add; split <;> simp_all
        rw [ha] at this
        rw [this]
        simp [eu8, List.getD_eq_getElem?_getD, List.getElem?_eq_getElem hi]) dst hd
      rw [strOfNums_eu8] at this
      exact this

/-! 'append(v, ys...)' of octets, and of one octet -/
theorem OwB.lit0 (w : World) : OwB (w.alloc (.cells #[] 5)) w.heap.size (.slice (some ⟨w.heap.size, 0, none⟩) 0 0) [] := own_lit_of (enc := eu8) w w.heap.size 5 [] (Nat.le_refl _) (by simp)
/-- an operation under a guard that is met goes as if it had none -/
theorem wpList_guarded {P : Program} {ops : Array Oper} {rest : List Oper} {o : Oper} {a : Act} {w : World} {Q : Exit → Act → World → Prop} (hw : Region.wanted o (yielded ops a.tmps) = true)
    (h : wpList P ops Q ({ o with guard := none } :: rest) a w) : wpList P ops Q (o :: rest) a w := by
  unfold wpList at h ⊢
  rw [if_pos (by simp [Region.wanted])] at h
  rw [if_pos hw]
  exact h
section
variable {ops : Array Oper} {rest : List Oper} {o : Oper} {a : Act} {Q : Exit → Act → World → Prop}
end

/-! a region that draws its order, whose operations read what lay there when the call began, and whose callees leave that alone and hand back plain values: one walk in the text's order ('quiet_step', the class 'Below') -/
theorem wp_region_below {P : Program} {id : Nat} {Q : Exit → Act → World → Prop} {a : Act} {w : World} {l : List Oper} (B : Nat) (w0 : World) (hw0 : Below B w0 w) (hm : P.follows .mixedOrders = true) (hB : Region.lexB .any l.toArray = true)
    (h : wpQuiet P l.toArray (fun w' => Below B w0 w') (fun a' => ∀ w', Below B w0 w' → Q .normal a' w') l a) : (Code.region id l.toArray true).wp P Q a w :=
  wp_region_quiet (C := fun w' => Below B w0 w') hm hB hw0.drew (by simpa using h)

/-! arrays: '[4]byte(b)', a whole array read -/
theorem run_arrayAt {P : Program} (w : World) (arr e n : Nat) (hu : P.underlying arr = some (.array n e)) (a : Option Addr) (len c : Nat) (h : n ≤ len) : (Instr.arrayAt arr (.slice a len c)).run P w = .ok (.pointer a) w := by
  have h' : ¬ len < n := by omega
  simp [Instr.arrayAt, run_underlying hu, h']
theorem run_loadVar_arr {P : Program} (w : World) (ty e n : Nat) (hu : P.underlying ty = some (.array n e)) (a : Addr) (cs : List Value) (hi : (P.info? ty).map (·.size) = some cs.length)
    (hc : ∀ j v, cs[j]? = some v → w.cell? (a.add j) = some v) : (loadVar ty a).run P w = .ok (.agg cs.toArray) w := by
  have hl := run_loadCells_list (P := P) w a cs hc
  cases hq : P.info? ty with
  | none => simp [hq] at hi
  | some i =>
    have hs : i.size = cs.length := by simpa [hq] using hi
    have hagg : (isAgg ty).run P w = .ok true w := by
      unfold isAgg
      rw [Sem.run_bind, run_underlying hu w]
      simp
    simp [loadVar, Sem.run_bind, hagg, sizeOf, typeInfo, hq, hs, hl]
/-- an operation of a quiet walk whose run is known in every world of the class -/
theorem quiet_run {P : Program} {ops : Array Oper} {C : World → Prop} {Q : Act → Prop} {o : Oper} {rest : List Oper} {a : Act} (hgd : o.guard = none) (v : Value)
    (h : ∀ w, C w → (execOp a.eval o).run P w = .ok (.value v) w) (hk : wpQuiet P ops C Q rest (a.put o.dst v)) : wpQuiet P ops C Q (o :: rest) a :=
  wpQuiet_step fun K hK => by
    rw [if_pos (by simp [Region.wanted, hgd])]
    exact ⟨v, fun w hw => by unfold Oper.quietAt; rw [h w hw]; exact ⟨rfl, rfl⟩, hK _ hk⟩
/-- a whole variable (an array, a struct) read -/
theorem quiet_load {P : Program} {ops : Array Oper} {C : World → Prop} {Q : Act → Prop} {o : Oper} {rest : List Oper} {a : Act} (hgd : o.guard = none) (ty : TypeId) (x : Operand) (ho : o.op = .load ty x)
    (ad : Addr) (hx : a.eval x = .pointer (some ad)) (v : Value) (h : ∀ w, C w → (loadVar ty ad).run P w = .ok v w) (hk : wpQuiet P ops C Q rest (a.put o.dst v)) : wpQuiet P ops C Q (o :: rest) a :=
  quiet_run hgd v (fun w hw => by
    unfold execOp
    simp only [ho, hx, Instr.loadAt, Instr.sureAddr, Sem.run_bind, Sem.run_pure, Result.andThen_ok, h w hw]) hk
end Go.Proofs.Ythfalpibhcjpgaa
end

section
/- Arguments opened: a slice of octets; the bound of the second form. -/
namespace Go.Proofs.Ythfalpibhcjpgaa
open Go.ChangeShapes Go.WideShapes Go.ChangeAt Go.RowKit Go.Proofs.YthfalpibhcjpgaaW.PrintWords

theorem one_le {H : Type} (d : DataW H) : 1 ≤ Rows.uptoBulk d := by
  cases d with
  | lit l => cases l <;> simp [Rows.uptoBulk]
  | nil => simp [Rows.uptoBulk]
  | ptr d => simp [Rows.uptoBulk]
  | slice elems spare => simp [Rows.uptoBulk]
  | agg parts => simp [Rows.uptoBulk]
  | iface t d => simp [Rows.uptoBulk]
  | map entries => simp [Rows.uptoBulk]
  | held h => simp [Rows.uptoBulk]
theorem part_le {H : Type} {d : DataW H} {l : List (DataW H)} (h : d ∈ l) : Rows.uptoBulk d ≤ Rows.uptoBulkAll l := by
  induction l with
  | nil => cases h
  | cons x r ih =>
    simp only [Rows.uptoBulkAll]
    cases List.mem_cons.1 h with
    | inl e => subst e; omega
    | inr e => have := ih e; omega
theorem length_le {H : Type} (l : List (DataW H)) : l.length ≤ Rows.uptoBulkAll l := by
  induction l with
  | nil => simp [Rows.uptoBulkAll]
  | cons x r ih => have := one_le x; simp only [Rows.uptoBulkAll, List.length_cons]; omega

end Go.Proofs.Ythfalpibhcjpgaa
end

section
/- Octets appended, as a step of a region that draws its order; a cell far from a store. -/
namespace Go.Proofs.Ythfalpibhcjpgaa
open Go.RowKit Go.Proofs.YthfalpibhcjpgaaW.PrintWords
set_option linter.unusedVariables false

theorem rrow_of {w : World} {A : Option Addr} {n : Nat} {xs : List UInt8} (h : ReadsOf eu8 0 w A n xs) : ReadsRow (fun (x : UInt8) cs => cs = [eu8 x]) 1 w A n xs := by
  refine ⟨h.1, h.2.1, fun hn => ?_⟩
  obtain ⟨ad, e, hc⟩ := h.2.2 hn
  refine ⟨ad, e, fun j p hj => ⟨[eu8 p], rfl, rfl, fun i u hu => ?_⟩⟩
  obtain ⟨hl, hp⟩ := List.getElem?_eq_some_iff.1 hj
  have hi : i = 0 := by
    rcases Nat.eq_zero_or_pos i with h0 | h0
    · exact h0
    · rw [List.getElem?_eq_none (by simp; omega)] at hu
      cases hu
  subst hi
  have h1 := hc j (by have := h.1; omega)
  have h2 : u = eu8 p := by simpa using hu.symm
  rw [h2, Nat.mul_one, Nat.add_zero]
  rw [List.getD_eq_getElem?_getD, hj] at h1
  exact h1
/-- the kind of an octet -/
def kU8 : Kd UInt8 := Kd.scalar eu8 eu8_one
section
variable {ops : Array Oper} {o : Oper} {a : Act} {Q : Exit → Act → World → Prop} {K : Act → World → Prop}
end
end Go.Proofs.Ythfalpibhcjpgaa
end

section
/- Arguments opened, kind by kind: what a datum reads as, how long its slices and strings may be. -/
namespace Go.Proofs.Ythfalpibhcjpgaa
open Go.ChangeShapes Go.WideShapes Go.ChangeAt Go.RowKit Go.Proofs.YthfalpibhcjpgaaW.PrintWords
set_option linter.unusedVariables false

/-- cells of a type read as something of a kind: S is what the bound on sizes says of it, bulk how much it holds -/
def Opens {α : Type} (d : Kd α) (t : TypeId) (S : Nat → α → Prop) (bulk : α → Nat) : Prop :=
  ∀ (H : Type) (enc : TypeId × Value → H) (W : World) (fuel : Nat) (cs : List Value) (x : DataW H × List MemPlace), DataW.trod enc Try.prog W 0 (fun _ => true) true fuel t cs = some x →
    ∃ a, d.K W a cs ∧ (∀ B, (∀ y ∈ x.1.weights Try.prog t, y ≤ B) → S B a) ∧ bulk a ≤ Rows.uptoBulk x.1
theorem opens_int {t : TypeId} {k : IntKind} (ht : Try.prog.underlying t = some (.int k)) : Opens (Kd.int k) t (fun _ a => (Lit.int k a).wf = true) (fun _ => 1) := by
  intro H enc W fuel cs x h
  obtain ⟨a, rfl, rfl, hw⟩ := DataW.trod_int ht h
  exact ⟨a, rfl, fun _ _ => hw, one_le _⟩
theorem opens_bool {t : TypeId} (ht : Try.prog.underlying t = some .bool) : Opens Kd.bool t (fun _ _ => True) (fun _ => 1) := by
  intro H enc W fuel cs x h
  obtain ⟨a, rfl, rfl⟩ := DataW.trod_bool ht h
  exact ⟨a, rfl, fun _ _ => trivial, one_le _⟩
theorem opens_string {t : TypeId} (ht : Try.prog.underlying t = some .string) : Opens Kd.string t (fun B s => s.size ≤ B ∧ s.size ≤ 9223372036854775807) (fun s => s.size + 1) := by
  intro H enc W fuel cs x h
  obtain ⟨s, rfl, rfl, hs⟩ := DataW.trod_string ht h
  have e : s.data.toList.length = s.size := by rw [Array.length_toList]; rfl
  refine ⟨s, rfl, fun B hB => ⟨?_, hs⟩, ?_⟩
  · have := hB s.data.toList.length (by simp [DataW.weights])
    omega
  · show s.size + 1 ≤ Rows.uptoBulk (DataW.lit (Lit.string s.data.toList))
    simp only [Rows.uptoBulk]
    omega
theorem opens_u8 {t : TypeId} (ht : Try.prog.underlying t = some (.int .u8)) : Opens kU8 t (fun _ _ => True) (fun _ => 1) := by
  intro H enc W fuel cs x h
  obtain ⟨a, rfl, rfl, hw⟩ := DataW.trod_int ht h
  simp only [Lit.wf, IntKind.min, IntKind.max, IntKind.signed, IntKind.bits] at hw
  have hb : 0 ≤ a ∧ a ≤ 255 := by simpa using hw
  refine ⟨UInt8.ofNat a.toNat, ?_, fun _ _ => trivial, one_le _⟩
  show [Value.int .u8 a] = [eu8 (UInt8.ofNat a.toNat)]
  unfold eu8
  congr 2
  simp only [UInt8.toNat_ofNat']
  omega
theorem weights_all {H : Type} {e : TypeId} {d : DataW H} : ∀ {l : List (DataW H)}, d ∈ l → ∀ y ∈ d.weights Try.prog e, y ∈ DataW.weightsAll Try.prog e l := by
  intro l hd y hy
  induction l with
  | nil => cases hd
  | cons x r ih =>
    simp only [DataW.weightsAll]
    rcases List.mem_cons.1 hd with rfl | h
    · exact List.mem_append_left _ hy
    · exact List.mem_append_right _ (ih h)
theorem bulk_all {H : Type} {α : Type} {bulk : α → Nat} (D : Nat → DataW H) (A : Nat → α) (n : Nat) (h : ∀ i, i < n → bulk (A i) ≤ Rows.uptoBulk (D i)) : ∀ s, ((((List.range' s (n - s)).map A).map bulk).sum) ≤ Rows.uptoBulkAll ((List.range' s (n - s)).map D) := by
  intro s
  induction hd : n - s generalizing s with
  | zero => simp
  | succ m ih =>
    rw [List.range'_succ]
    simp only [List.map_cons, List.sum_cons, Rows.uptoBulkAll]
    have h1 := h s (by omega)
    have h2 := ih (s + 1) (by omega)
    omega
theorem opens_slice {α : Type} [Inhabited α] {d : Kd α} {t e : TypeId} {S : Nat → α → Prop} {bulk : α → Nat} (ht : Try.prog.underlying t = some (.slice e)) (hc : Try.prog.cellsOf e = d.sz) (he : Opens d e S bulk) :
    Opens (Kd.slice e d) t (fun B xs => xs.length * Try.prog.bytesOf e ≤ B ∧ ∀ x ∈ xs, S B x) (fun xs => (xs.map bulk).sum + 1) := by
  intro H enc W fuel cs x h
  rcases Go.Deep.open_slice ht h with ⟨rfl, rfl⟩ | ⟨a, len, cap, m, n, D, Pl, rfl, hb, hl, hm, hmm, rfl, hx⟩
  · exact ⟨[], ⟨none, 0, rfl, Nat.le_refl _, rfl, Nat.zero_le _, fun hp => absurd hp (by simp)⟩, fun B _ => ⟨by simp, fun x hx => absurd hx (by simp)⟩, by simp [Rows.uptoBulk]⟩
  have hlm : len ≤ m := by rw [hmm]; split <;> omega
  obtain ⟨A, hA⟩ := Go.Deep.choose_lt (α := α) (n := len) (p := fun i y => ∃ cs', W.cells? 0 (a.add (i * Try.prog.cellsOf e)) (Try.prog.cellsOf e) = some cs' ∧ d.K W y cs' ∧ (∀ B, (∀ z ∈ (D i).weights Try.prog e, z ≤ B) → S B y) ∧ bulk y ≤ Rows.uptoBulk (D i)) (fun i hi => by
    obtain ⟨cs', h1, h2⟩ := hx i (by omega)
    obtain ⟨y, k1, k2, k3⟩ := he H enc W n cs' _ h2
    exact ⟨y, cs', h1, k1, k2, k3⟩)
  have hlen : ((List.range len).map A).length = len := by simp
  refine ⟨(List.range len).map A, ⟨some a, cap, by rw [hlen], by rw [hlen]; exact hl, rfl, by rw [hlen]; simp only [maxLen] at hm; omega, fun _ => ⟨a, rfl, fun j p hj => ?_⟩⟩, fun B hB => ⟨?_, fun y hy => ?_⟩, ?_⟩
  · obtain ⟨hjl, hjp⟩ := List.getElem?_eq_some_iff.1 hj
    rw [hlen] at hjl
    have hp : p = A j := by rw [← hjp]; simp
    subst hp
    obtain ⟨cs', h1, h2, _, _⟩ := hA j hjl
    obtain ⟨_, h4, h5⟩ := World.cells?_some h1
    refine ⟨cs', by rw [h4, hc], h2, fun i u hu => ?_⟩
    have hi : i < cs'.length := (List.getElem?_eq_some_iff.1 hu).1
    have h6 := h5 i (by omega)
    rw [Go.Deep.add_add, hc] at h6
    rw [h6, hu]
  · have h1 := hB ((((List.range len).map D).length + ((List.range (m - len)).map fun j => D (len + j)).length) * Try.prog.bytesOf e) (by simp only [DataW.weights, ht]; exact List.mem_cons_self ..)
    rw [List.length_map, List.length_range] at h1 ⊢
    exact Nat.le_trans (Nat.mul_le_mul_right _ (Nat.le_add_right _ _)) h1
  · obtain ⟨i, hi, rfl⟩ := List.mem_map.1 hy
    have hi' := List.mem_range.1 hi
    obtain ⟨cs', _, _, h3, _⟩ := hA i hi'
    refine h3 B fun z hz => hB z ?_
    simp only [DataW.weights, ht]
    exact List.mem_cons_of_mem _ (List.mem_append_left _ (weights_all (List.mem_map.2 ⟨i, hi, rfl⟩) z hz))
  · have := bulk_all (bulk := bulk) D A len (fun i hi => by obtain ⟨_, _, _, _, h⟩ := hA i hi; exact h) 0
    simp only [Nat.sub_zero, ← List.range_eq_range'] at this
    simp only [Rows.uptoBulk]
    omega
/-- fields one behind the other, from an offset on -/
def OpensF {α : Type} (d : Kd α) (fs : List Field) (off : Nat) (S : Nat → α → Prop) (bulk : α → Nat) : Prop :=
  ∀ (H : Type) (enc : TypeId × Value → H) (W : World) (fuel : Nat) (cs : List Value) (xs : List (DataW H × List MemPlace)), xs.length = fs.length → cs.length = off + d.sz →
    (∀ (i : Nat) (f : Field), fs[i]? = some f → DataW.trod enc Try.prog W 0 (fun _ => true) true fuel f.type ((cs.drop f.offset).take (Try.prog.cellsOf f.type)) = xs[i]?) →
    ∃ a, d.K W a (cs.drop off) ∧ (∀ B, (∀ y ∈ DataW.weightsEach Try.prog (fs.map (·.type)) (xs.map (·.1)), y ≤ B) → S B a) ∧ bulk a ≤ Rows.uptoBulkAll (xs.map (·.1))
theorem opensF_one {α : Type} {d : Kd α} {f : Field} {off : Nat} {S : Nat → α → Prop} {bulk : α → Nat} (ho : f.offset = off) (hc : Try.prog.cellsOf f.type = d.sz) (h : Opens d f.type S bulk) : OpensF d [f] off S bulk := by
  intro H enc W fuel cs xs hl hcs hx
  match xs, hl with
  | [x], _ =>
    have h0 := hx 0 f rfl
    rw [ho, hc, List.take_of_length_le (by rw [List.length_drop]; omega)] at h0
    obtain ⟨a, k1, k2, k3⟩ := h H enc W fuel _ x h0
    refine ⟨a, k1, fun B hB => k2 B fun y hy => hB y ?_, ?_⟩
    · simp only [List.map_cons, List.map_nil, DataW.weightsEach]
      exact List.mem_append_left _ hy
    · simp only [List.map_cons, List.map_nil, Rows.uptoBulkAll]
      omega
theorem opensF_cons {α β : Type} {d : Kd α} {d' : Kd β} {f : Field} {fs : List Field} {off : Nat} {S : Nat → α → Prop} {S' : Nat → β → Prop} {bulk : α → Nat} {bulk' : β → Nat} (ho : f.offset = off) (hc : Try.prog.cellsOf f.type = d.sz) (h : Opens d f.type S bulk) (h' : OpensF d' fs (off + d.sz) S' bulk') :
    OpensF (Kd.pair d d') (f :: fs) off (fun B x => S B x.1 ∧ S' B x.2) (fun x => bulk x.1 + bulk' x.2) := by
  intro H enc W fuel cs xs hl hcs hx
  have hcs' : cs.length = off + (d.sz + d'.sz) := hcs
  match xs, hl with
  | x :: r, hl =>
    have h0 := hx 0 f rfl
    rw [ho, hc] at h0
    obtain ⟨a, k1, k2, k3⟩ := h H enc W fuel _ x h0
    obtain ⟨b, m1, m2, m3⟩ := h' H enc W fuel cs r (by simpa using hl) (by omega) (fun i g hg => hx (i + 1) g (by simpa using hg))
    refine ⟨(a, b), ⟨(cs.drop off).take d.sz, cs.drop (off + d.sz), ?_, k1, m1⟩, fun B hB => ⟨k2 B fun y hy => hB y ?_, m2 B fun y hy => hB y ?_⟩, ?_⟩
    · rw [← List.drop_drop, List.take_append_drop]
    · simp only [List.map_cons, DataW.weightsEach]
      exact List.mem_append_left _ hy
    · simp only [List.map_cons, DataW.weightsEach]
      exact List.mem_append_right _ hy
    · simp only [List.map_cons, Rows.uptoBulkAll]
      omega
theorem opens_struct {α : Type} {d : Kd α} {t : TypeId} {fs : Array Field} {S : Nat → α → Prop} {bulk : α → Nat} (ht : Try.prog.underlying t = some (.struct fs)) (hc : Try.prog.cellsOf t = d.sz) (h : OpensF d fs.toList 0 S bulk) : Opens d t S (fun a => bulk a + 1) := by
  intro H enc W fuel cs x hx
  obtain ⟨xs, n, _, rfl, hl, hlen, hf⟩ := DataW.trod_struct ht hx
  obtain ⟨a, k1, k2, k3⟩ := h H enc W n cs xs (by simpa using hlen) (by omega) (fun i f hi => hf i f (by simpa using hi))
  refine ⟨a, k1, fun B hB => k2 B fun y hy => hB y ?_, ?_⟩
  · simp only [DataW.weights, ht]
    exact hy
  · simp only [Rows.uptoBulk]
    omega
/-- an argument that is a slice -/
theorem open_slice_of {α : Type} {d : Kd α} {t e : TypeId} {S : Nat → List α → Prop} {bulk : List α → Nat} (ht : Try.prog.underlying t = some (.slice e)) (ho : Opens (Kd.slice e d) t S bulk) {H : Type} {enc : TypeId × Value → H} {W : World} {base : Nat} {v : Value} {x : DataW H} {p : List MemPlace} (hv : Value.okWide Try.prog W .any base t v)
    (h : DataW.Trod enc Try.prog W 0 (fun _ => true) true t v x p) : ∃ A c xs, v = .slice A xs.length c ∧ xs.length ≤ c ∧ d.C W A xs.length xs ∧ (∀ B, (∀ y ∈ x.weights Try.prog t, y ≤ B) → S B xs) ∧ bulk xs ≤ Rows.uptoBulk x := by
  obtain ⟨a, len, cap, rfl⟩ := okWide_slice ht hv
  obtain ⟨fuel, hf⟩ := h
  obtain ⟨xs, ⟨A, c, hcs, hl, hC⟩, k2, k3⟩ := ho H enc W fuel _ _ hf
  simp only [Value.cells, List.cons.injEq, and_true] at hcs
  exact ⟨A, c, xs, hcs, hl, hC, k2, k3⟩
/-- an argument that is a struct -/
theorem open_struct_of {α : Type} {d : Kd α} {t : TypeId} {fs : Array Field} {S : Nat → α → Prop} {bulk : α → Nat} (ht : Try.prog.underlying t = some (.struct fs)) (ho : Opens d t S bulk) {H : Type} {enc : TypeId × Value → H} {W : World} {base : Nat} {v : Value} {x : DataW H} {p : List MemPlace} (hv : Value.okWide Try.prog W .any base t v)
    (h : DataW.Trod enc Try.prog W 0 (fun _ => true) true t v x p) : ∃ a cs, v = .agg cs ∧ d.K W a cs.toList ∧ (∀ B, (∀ y ∈ x.weights Try.prog t, y ≤ B) → S B a) ∧ bulk a ≤ Rows.uptoBulk x := by
  obtain ⟨cs, rfl, _⟩ := okWide_struct ht hv
  obtain ⟨fuel, hf⟩ := h
  obtain ⟨a, k1, k2, k3⟩ := ho H enc W fuel _ _ hf
  exact ⟨a, cs, rfl, k1, k2, k3⟩
end Go.Proofs.Ythfalpibhcjpgaa
end

section
/- Octets of the call's own, set one by one; the least of three lengths; a row that is made. -/
namespace Go.Proofs.Ythfalpibhcjpgaa
open Go.RowKit Go.Proofs.YthfalpibhcjpgaaW.PrintWords

theorem OwB.set_ {W : World} {base : Nat} {v : Value} {xs : List UInt8} (HO : OwB W base v xs) (k : Nat) (hk : k < xs.length) :
    ∃ g cap, v = .slice (some ⟨g, 0, none⟩) xs.length cap ∧ base ≤ g ∧ g < W.heap.size ∧ W.cell? ⟨g, k, none⟩ = some (.int .u8 ((xs.getD k 0).toNat : Int)) ∧ W.frozen? ⟨g, k, none⟩ = false ∧
      ∀ x : UInt8, OwB (W.setCell ⟨g, k, none⟩ (.int .u8 (x.toNat : Int))) base v (xs.set k x) ∧ W.grownBy (W.setCell ⟨g, k, none⟩ (.int .u8 (x.toNat : Int))) (some g) := by
  have HO' := HO
  unfold OwB at HO'
  obtain ⟨g, cap, hv, hgb, hgl⟩ := HO'.form (by omega)
  subst hv
  have hat := own_at_of (d := (0 : UInt8)) HO' k (by omega) (by omega)
  have hkk : ((k : Int)).toNat = k := by omega
  rw [rdOf, hkk] at hat
  refine ⟨g, cap, rfl, hgb, hgl, hat.1, hat.2, fun x => ?_⟩
  have hst := own_store_of HO' k x
  rw [hkk] at hst
  refine ⟨?_, hst.2⟩
  unfold OwB
  rw [List.length_set]
  exact hst.1
/-- what is younger than a row stays as it is when the row is written -/
theorem OwB.other {w w1 : World} {base base' : Nat} {v v' : Value} {xs ys : List UInt8} (h : OwB w base v xs) (_ : OwB w base' v' ys) (hlt : ∀ k, v'.ownBlock = some k → k < base) (hg : w.grownBy w1 v'.ownBlock) : OwB w1 base v xs :=
  own_other h hg (by
    cases hv : v.ownBlock with
    | none => exact .inl rfl
    | some k =>
      refine .inr fun e => ?_
      have h1 := own_base h k hv
      have h2 := hlt k e.symm
      omega)
theorem OwB.lt {w : World} {base : Nat} {v : Value} {xs : List UInt8} (h : OwB w base v xs) (k : Nat) (hk : v.ownBlock = some k) : k < w.heap.size := own_lt h k hk
theorem OwB.ge {w : World} {base : Nat} {v : Value} {xs : List UInt8} (h : OwB w base v xs) (k : Nat) (hk : v.ownBlock = some k) : base ≤ k := own_base h k hk
theorem OwB.grown {w w1 : World} {base : Nat} {v : Value} {xs : List UInt8} {w0 : World} (h : OwB w base v xs) (hB : Below base w0 w) (hs : base ≤ w.heap.size) (hg : w.grownBy w1 v.ownBlock) : Below base w0 w1 := hB.grown hg hs (fun k hk => own_base h k hk)
theorem OwB.made (W : World) (base m : Nat) (hb : base ≤ W.heap.size) (hm : m ≤ 9223372036854775807) :
    OwB (W.alloc (.cells (madeCells #[.int .u8 0] m) 5)) base (.slice (some ⟨W.heap.size, 0, none⟩) m m) (List.replicate m 0) := by
  unfold OwB
  rw [List.length_replicate]
  exact own_made_of (enc := eu8) (d := 0) W base 5 m hb hm
section
variable {P : Program} {ops : Array Oper} {rest : List Oper} {o : Oper} {a : Act} {Q : Exit → Act → World → Prop}
/-- an operation that is no call out of here, and whose run is known -/
theorem wp_known {W W' : World} (hgd : o.guard = none) (v : Value) (h : (execOp a.eval o).run P W = .ok (.value v) W') (hk : wpList P ops Q rest (a.put o.dst v) W') : wpList P ops Q (o :: rest) a W :=
  wpList_plain hgd fun K hK => by
    unfold Oper.wp
    rw [h]
    exact hK _ _ hk
theorem min2_nat (k : IntKind) (m n : Nat) : Builtin.min2 (.int k (m : Int)) (.int k (n : Int)) = (pure (.int k ((Nat.min m n : Nat) : Int)) : Sem Value) := by
  show (pure (.int k (if (n : Int) < (m : Int) then (n : Int) else (m : Int))) : Sem Value) = _
  by_cases h : n < m
  · rw [if_pos (by omega), show Nat.min m n = n from Nat.min_eq_right (by omega)]
  · rw [if_neg (by omega), show Nat.min m n = m from Nat.min_eq_left (by omega)]
theorem wp_min3 {W : World} (hgd : o.guard = none) (x y z : Operand) (t1 t2 t3 : TypeId) (ho : o.op = .call { callee := .builtin .min, args := #[x, y, z], argTypes := #[t1, t2, t3] }) (k : IntKind) (m n l : Nat)
    (hx : a.eval x = .int k (m : Int)) (hy : a.eval y = .int k (n : Int)) (hz : a.eval z = .int k (l : Int)) (hk : wpList P ops Q rest (a.put o.dst (.int k ((Nat.min (Nat.min m n) l : Nat) : Int))) W) : wpList P ops Q (o :: rest) a W :=
  wp_known hgd _ (by
    unfold execOp
    simp only [ho, resolve, invoke, builtin, Sem.run_bind, Sem.run_pure, Result.andThen_ok, List.map_toArray, List.map_cons, List.map_nil, hx, hy, hz, Builtin.min_, List.foldlM_cons, List.foldlM_nil, min2_nat]) hk
theorem wp_min2 {W : World} (hgd : o.guard = none) (x y : Operand) (t1 t2 : TypeId) (ho : o.op = .call { callee := .builtin .min, args := #[x, y], argTypes := #[t1, t2] }) (k : IntKind) (m n : Nat)
    (hx : a.eval x = .int k (m : Int)) (hy : a.eval y = .int k (n : Int)) (hk : wpList P ops Q rest (a.put o.dst (.int k ((Nat.min m n : Nat) : Int))) W) : wpList P ops Q (o :: rest) a W :=
  wp_known hgd _ (by
    unfold execOp
    simp only [ho, resolve, invoke, builtin, Sem.run_bind, Sem.run_pure, Result.andThen_ok, List.map_toArray, List.map_cons, List.map_nil, hx, hy, Builtin.min_, List.foldlM_cons, List.foldlM_nil, min2_nat]) hk
end
theorem xor_u8 (x y : UInt8) : bits .xor .u8 (x.toNat : Int) (y.toNat : Int) = ((x ^^^ y).toNat : Int) := by
  rw [u8_xor_nat _ _ x.toNat_lt y.toNat_lt, UInt8.toNat_xor]
end Go.Proofs.Ythfalpibhcjpgaa
end

section
/- Rows of elements of any kind: read, owned. -/
namespace Go.Proofs.Ythfalpibhcjpgaa
open Go.RowKit Go.Proofs.YthfalpibhcjpgaaW.PrintWords
set_option linter.unusedVariables false

section
variable {α : Type}
/-- a row that is read -/
def Rd (d : Kd α) (w : World) (A : Option Addr) (c : Nat) (xs : List α) : Prop := xs.length ≤ c ∧ d.C w A xs.length xs
theorem Rd.below {d : Kd α} {w w1 : World} {A : Option Addr} {c : Nat} {xs : List α} (h : Rd d w A c xs) (hb : Below w.heap.size w w1) : Rd d w1 A c xs := ⟨h.1, Kd.C_below h.2 hb⟩
theorem Rd.max {d : Kd α} {w : World} {A : Option Addr} {c : Nat} {xs : List α} (h : Rd d w A c xs) : xs.length ≤ 9223372036854775807 := h.2.2.1
theorem Rd.le {d : Kd α} {w : World} {A : Option Addr} {c : Nat} {xs : List α} (h : Rd d w A c xs) : xs.length ≤ c := h.1
theorem Rd.zero (d : Kd α) (w : World) (A : Option Addr) (c : Nat) : Rd d w A c [] := ⟨Nat.zero_le _, rfl, Nat.zero_le _, fun h => absurd h (by simp)⟩
theorem Rd.take {d : Kd α} {w : World} {A : Option Addr} {c : Nat} {xs : List α} (h : Rd d w A c xs) (k : Nat) (hk : k ≤ xs.length) : Rd d w A c (xs.take k) := ⟨by rw [List.length_take]; have := h.1; omega, Kd.C_take h.2 hk⟩
/-- the address behind 'xs[k:]' -/
def cutK (sz : Nat) (A : Option Addr) (c k : Nat) : Option Addr := if c = k then A else A.map (·.add (k * sz))
theorem Rd.drop {d : Kd α} {w : World} {A : Option Addr} {c : Nat} {xs : List α} (h : Rd d w A c xs) (k : Nat) (hk : k ≤ xs.length) : Rd d w (cutK d.sz A c k) (c - k) (xs.drop k) := ⟨by rw [List.length_drop]; have := h.1; omega, Kd.C_drop h.2 hk h.1⟩
theorem Rd.mid {d : Kd α} {w : World} {A : Option Addr} {c : Nat} {xs : List α} (h : Rd d w A c xs) (j k : Nat) (hj : j ≤ k) (hk : k ≤ xs.length) : Rd d w (cutK d.sz A c j) (c - j) ((xs.take k).drop j) := (h.take k hk).drop j (by rw [List.length_take]; omega)
theorem Rd.at_ {d : Kd α} {w : World} {A : Option Addr} {c : Nat} {xs : List α} (h : Rd d w A c xs) (z : α) (i : Nat) (hi : i < xs.length) : ∃ ad cs, A = some ad ∧ d.K w (xs.getD i z) cs ∧ cs.length = d.sz ∧ ∀ j u, cs[j]? = some u → w.cell? (ad.add (i * d.sz + j)) = some u := by
  obtain ⟨ad, cs, e, hl, hk, hc⟩ := Kd.C_get h.2 z (i : Int) (by omega) (by omega)
  simp only [Int.toNat_natCast] at hk hc
  exact ⟨ad, cs, e, hk, hl, hc⟩
/-- a row of the call's own -/
def Ow (d : Kd α) (e : Nat) (w : World) (base : Nat) (v : Value) (xs : List α) : Prop := d.R e w base (fun _ => True) v xs
theorem Ow.below {d : Kd α} {e : Nat} {w w1 : World} {base : Nat} {v : Value} {xs : List α} (h : Ow d e w base v xs) (hb : Below w.heap.size w w1) : Ow d e w1 base v xs := Kd.R_below h hb
theorem Ow.zero (d : Kd α) (e : Nat) (w : World) (base : Nat) : Ow d e w base (.slice none 0 0) [] := Kd.R_nil _ _ _ _ _
theorem Ow.lower {d : Kd α} {e : Nat} {w : World} {base base' : Nat} {v : Value} {xs : List α} (h : Ow d e w base v xs) (hb : base' ≤ base) : Ow d e w base' v xs := Kd.R_lower h hb
theorem Ow.rd {d : Kd α} {e : Nat} {w : World} {base : Nat} {v : Value} {xs : List α} (h : Ow d e w base v xs) : ∃ A c, v = .slice A xs.length c ∧ Rd d w A c xs := by
  obtain ⟨A, c, hv, hl, hC⟩ := Kd.R_reads h
  exact ⟨A, c, hv, hl, hC⟩
theorem Ow.rdl {d : Kd α} {e : Nat} {w : World} {base : Nat} {A : Option Addr} {n c : Nat} {xs : List α} (h : Ow d e w base (.slice A n c) xs) : Rd d w A c xs := by
  obtain ⟨A', c', hv, hr⟩ := h.rd
  injection hv with h1 _ h3
  subst h1
  subst h3
  exact hr
theorem Ow.lt {d : Kd α} {e : Nat} {w : World} {base : Nat} {v : Value} {xs : List α} (h : Ow d e w base v xs) (k : Nat) (hk : v.ownBlock = some k) : k < w.heap.size := by
  obtain ⟨_, inner, ho, _⟩ := h
  exact own_lt ho k hk
theorem Ow.ge {d : Kd α} {e : Nat} {w : World} {base : Nat} {v : Value} {xs : List α} (h : Ow d e w base v xs) (k : Nat) (hk : v.ownBlock = some k) : base ≤ k := by
  obtain ⟨_, inner, ho, _⟩ := h
  exact own_base ho k hk
/-- a row of another element type has been written -/
theorem Ow.over {β : Type} {d : Kd α} {d' : Kd β} {e e' : Nat} {w w1 : World} {base base' : Nat} {v v' : Value} {xs : List α} {ys : List β} (h : Ow d e w base v xs) (h' : Ow d' e' w base' v' ys) (ht : ∀ q, q ∈ e :: d.E → q ≠ e') (hg : w.grownBy w1 v'.ownBlock) : Ow d e w1 base v xs := Kd.R_over' h (Kd.R_typed h') ht hg
theorem Ow.setCell {d : Kd α} {e : Nat} {w : World} {base : Nat} {v : Value} {xs : List α} (h : Ow d e w base v xs) {g t : Nat} {cells : Array Value} (hb : w.heap[g]? = some (.cells cells t (0, 0))) (ht : ∀ q, q ∈ e :: d.E → q ≠ t) (j : Nat) (u : Value) : Ow d e (w.setCell ⟨g, j, none⟩ u) base v xs := Kd.R_set h hb ht j u
theorem one_ne {e e' : Nat} (h : e ≠ e') : ∀ q, q ∈ [e] → q ≠ e' := fun q hq => by rw [List.mem_singleton.1 hq]; exact h
theorem OwB.ow {w : World} {base : Nat} {v : Value} {xs : List UInt8} (h : OwB w base v xs) : Ow kU8 5 w base v xs := Kd.R_of_own h (fun _ _ => trivial)
theorem Ow.owB {w : World} {base : Nat} {v : Value} {xs : List UInt8} (h : Ow kU8 5 w base v xs) : OwB w base v xs := Kd.own_of_R h
theorem Rd.rdB {w : World} {A : Option Addr} {c : Nat} {xs : List UInt8} (h : Rd kU8 w A c xs) : RdB w A c xs := ⟨h.1, Kd.reads_of_C (d := (0 : UInt8)) h.2⟩
theorem RdB.rdk {w : World} {A : Option Addr} {c : Nat} {xs : List UInt8} (h : RdB w A c xs) : Rd kU8 w A c xs := ⟨h.1, Kd.C_of_reads h.2⟩
/-- 'xs[k:]', 'xs[:k]', 'xs[j:k]' of elements of whatever size -/
theorem sliceK_lo {P : Program} (t e : TypeId) {i : TypeInfo} (ht : P.underlying t = some (.slice e)) (hi : P.info? e = some i) (sz : Nat) (hsz : i.size = sz) (A : Option Addr) (n c k : Nat) (hk : k ≤ n) (W : World) :
    (Instr.slice t (.slice A n c) (some (.int .i64 (k : Int))) none none).run P W = .ok (.slice (cutK sz A c k) (n - k) (c - k)) W := by
  subst hsz
  have hel : P.elem t = e := by simp [Program.elem, ht]
  have hu : P.underlying t = some (.slice (P.elem t)) := by rw [hel]; exact ht
  rw [run_slice_l W t A n c hu .i64 (k : Int) (Int.natCast_nonneg _) (by omega), hel]
  simp [sizeOf, typeInfo, hi, sliced, Result.andThen, cutK]
theorem sliceK_lohi {P : Program} (t e : TypeId) {i : TypeInfo} (ht : P.underlying t = some (.slice e)) (hi : P.info? e = some i) (sz : Nat) (hsz : i.size = sz) (A : Option Addr) (n c j k : Nat) (hj : j ≤ k) (hk : k ≤ c) (W : World) :
    (Instr.slice t (.slice A n c) (some (.int .i64 (j : Int))) (some (.int .i64 (k : Int))) none).run P W = .ok (.slice (cutK sz A c j) (k - j) (c - j)) W := by
  subst hsz
  have hel : P.elem t = e := by simp [Program.elem, ht]
  have hu : P.underlying t = some (.slice (P.elem t)) := by rw [hel]; exact ht
  rw [run_slice_lh W t A n c hu .i64 .i64 (j : Int) (k : Int) (Int.natCast_nonneg _) (by omega) (by omega), hel]
  simp [sizeOf, typeInfo, hi, sliced, Result.andThen, cutK]
theorem sliceK_hi {P : Program} (t e : TypeId) {i : TypeInfo} (ht : P.underlying t = some (.slice e)) (hi : P.info? e = some i) (A : Option Addr) (n c k : Nat) (hk : k ≤ c) (W : World) :
    (Instr.slice t (.slice A n c) none (some (.int .i64 (k : Int))) none).run P W = .ok (.slice A k c) W := by
  have hel : P.elem t = e := by simp [Program.elem, ht]
  have hu : P.underlying t = some (.slice (P.elem t)) := by rw [hel]; exact ht
  have ha : (A.map fun x => x.add 0) = A := by cases A <;> simp [Addr.add]
  rw [run_slice_h W t A n c hu .i64 (k : Int) (Int.natCast_nonneg _) (by omega), hel]
  simp [sizeOf, typeInfo, hi, sliced, Result.andThen, ha]
section
variable {P : Program} {ops : Array Oper} {rest : List Oper} {o : Oper} {a : Act} {Q : Exit → Act → World → Prop}
/-- 'append(v, x)': of one element whose cells bear no rows of their own -/
theorem app_ow {w0 W : World} (d : Kd α) (base : Nat) (hgd : o.guard = none) (s x : Operand) (t e : TypeId) (z : Value) (bytes : Nat)
    (ho : o.op = .call { callee := .builtin .append, args := #[s, x], argTypes := #[t, t] })
    (ht : P.underlying t = some (.slice e)) (hinfo : (P.info? e).map (fun i => (i.zero, i.size, i.bytes)) = some (some z, d.sz, bytes)) (hz : z.cells.size = d.sz) (hs0 : 0 < d.sz) (hb0 : 0 < bytes)
    (v : Value) (xs : List α) (p : α) (cs : List Value) (hs : a.eval s = v) (hx : a.eval x = .slice (some ⟨W.heap.size, 0, none⟩) 1 1) (hp : d.M W base (fun _ => False) p cs)
    (HO : Ow d e W base v xs) (HB : Below base w0 W) (hbase : base ≤ W.heap.size) (hl : (xs.length + 1) * bytes ≤ 140737488355328)
    (h : ∀ v1 w1, Ow d e w1 base v1 (xs ++ [p]) → Below base w0 w1 → W.grownBy w1 v.ownBlock → (v1.ownBlock = v.ownBlock ∨ ∃ b, v1.ownBlock = some b ∧ W.heap.size ≤ b) → wpList P ops Q rest (a.put o.dst v1) w1) :
    wpList P ops Q (o :: rest) a (W.alloc (.cells cs.toArray e)) :=
  Kd.R_append (P := P) d base hgd s x t e z bytes ho ht hinfo hz hs0 hb0 v xs p cs (fun _ => True) (fun _ => False) hs hx hp (fun _ h => h.elim) (fun _ _ => trivial) HO HB hbase hl h
/-- 'append(v, ys...)' -/
theorem app_ows {w0 W : World} (d : Kd α) (base : Nat) (hgd : o.guard = none) (s x : Operand) (t e : TypeId) (z : Value) (bytes : Nat)
    (ho : o.op = .call { callee := .builtin .append, args := #[s, x], argTypes := #[t, t] })
    (ht : P.underlying t = some (.slice e)) (hinfo : (P.info? e).map (fun i => (i.zero, i.size, i.bytes)) = some (some z, d.sz, bytes)) (hz : z.cells.size = d.sz) (hs0 : 0 < d.sz) (hb0 : 0 < bytes)
    (v : Value) (xs ys : List α) (A : Option Addr) (c : Nat) (hs : a.eval s = v) (hx : a.eval x = .slice A ys.length c) (hKM : ∀ x cs, d.K W x cs → d.M W base (fun _ => False) x cs)
    (HO : Ow d e W base v xs) (HR : Rd d W A c ys) (HB : Below base w0 W) (hbase : base ≤ W.heap.size) (hl : (xs.length + ys.length) * bytes ≤ 140737488355328)
    (h : ∀ v1 w1, Ow d e w1 base v1 (xs ++ ys) → Below base w0 w1 → W.grownBy w1 v.ownBlock → (v1.ownBlock = v.ownBlock ∨ ∃ b, v1.ownBlock = some b ∧ W.heap.size ≤ b) → wpList P ops Q rest (a.put o.dst v1) w1) :
    wpList P ops Q (o :: rest) a W :=
  Kd.R_append_rows (P := P) d (Rr := d.K W) base hgd s x t e z bytes ho ht hinfo hz hs0 hb0 v xs ys A ys.length c (fun _ => True) (fun _ => False) hs hx HO HR.2 hKM (fun _ h => h.elim) (fun _ _ => trivial) HB hbase hl h
end
end
section
variable {α : Type} {P : Program} {ops : Array Oper} {rest : List Oper} {o : Oper} {a : Act} {Q : Exit → Act → World → Prop}
theorem Ow.len {d : Kd α} {e : Nat} {w : World} {base : Nat} {A : Option Addr} {n c : Nat} {xs : List α} (h : Ow d e w base (.slice A n c) xs) : xs.length = n := by
  obtain ⟨A', c', hv, _⟩ := h.rd
  injection hv with _ h2 _
  exact h2.symm
theorem Ow.head {d : Kd α} {e : Nat} {w : World} {base : Nat} {A : Option Addr} {n c : Nat} {xs : List α} (h : Ow d e w base (.slice A n c) xs) (hn : 0 < n) : ∃ g, A = some ⟨g, 0, none⟩ ∧ base ≤ g ∧ g < w.heap.size := by
  obtain ⟨inner, hown⟩ := Kd.R_own h
  rw [h.len] at hown
  obtain ⟨g, cap, hv, hb, hl⟩ := hown.form hn
  injection hv with ha _ _
  exact ⟨g, ha, hb, hl⟩
/-- 'xs[k] = x': a whole element of the call's own row -/
theorem store_ow (d : Kd α) (z : α) {w0 W : World} (base : Nat) (hN : o.dst = none) (hgd : o.guard = none) (t : TypeId) (p x : Operand) (ho : o.op = .store t p x) (e : TypeId) {g n cap : Nat} (k : Nat) (xs : List α) (x' : α) (u : Value) (seg : List Value)
    (haddr : a.eval p = .pointer (some ⟨g, k * d.sz, none⟩)) (hx : a.eval x = u) (hu : u.cells.toList = seg) (ht : (P.info? t).map (·.size) = some seg.length) (h1 : ∀ q ∈ seg, q.oneCell' = true) (hs : seg.length = d.sz) (hM : d.M W base (fun _ => False) x' seg)
    (HO : Ow d e W base (.slice (some ⟨g, 0, none⟩) n cap) xs) (hk : k < n) (HB : Below base w0 W)
    (h : ∀ w1, Ow d e w1 base (.slice (some ⟨g, 0, none⟩) n cap) (xs.set k x') → Below base w0 w1 → W.grownBy w1 (some g) → wpList P ops Q rest a w1) : wpList P ops Q (o :: rest) a W := by
  obtain ⟨ad, c, hA, hK, hl, hc⟩ := Rd.at_ HO.rdl z k (by rw [HO.len]; exact hk)
  injection hA with hA
  subst hA
  refine Kd.R_store (P := P) d (w0 := w0) base hN hgd t p x ho e (g := g) (n := n) (cap := cap) (k : Int) 0 xs x' u seg c (fun _ => True) (fun _ => False) haddr (by rw [Int.toNat_natCast]; rfl) hx hu ht h1 HO (by omega) (by omega) hl ?_ (by omega) ?_ (fun _ h => h.elim) HB (fun w1 h2 h3 h4 => h w1 ?_ h3 h4)
  · intro j v hj
    rw [Int.toNat_natCast]
    have := hc j v hj
    rw [add_plain] at this
    exact this
  · rw [List.take_zero, List.nil_append, Nat.zero_add, hs, ← hl, List.drop_length, List.append_nil]
    exact hM
  · rw [Int.toNat_natCast] at h2
    exact h2
end
/-- the kind of a number -/
abbrev kInt : Kd Int := Kd.int .i64
abbrev kStr : Kd ByteArray := Kd.string
abbrev kBool : Kd Bool := Kd.bool
theorem info_int : (Try.prog.info? 3).map (fun i => (i.zero, i.size, i.bytes)) = some (some (.int .i64 0), 1, 8) := by kernel_rfl
section
variable {ops : Array Oper} {rest : List Oper} {o : Oper} {a : Act} {Q : Exit → Act → World → Prop}
theorem app_int {w0 W : World} (base : Nat) (hgd : o.guard = none) (s x : Operand)
    (ho : o.op = .call { callee := .builtin .append, args := #[s, x], argTypes := #[23, 23] })
    (v : Value) (xs : List Int) (y : Int) (hs : a.eval s = v) (hx : a.eval x = .slice (some ⟨W.heap.size, 0, none⟩) 1 1)
    (HO : Ow kInt 3 W base v xs) (HB : Below base w0 W) (hbase : base ≤ W.heap.size) (hl : (xs.length + 1) * 8 ≤ 140737488355328)
    (h : ∀ v1 w1, Ow kInt 3 w1 base v1 (xs ++ [y]) → Below base w0 w1 → W.grownBy w1 v.ownBlock → (v1.ownBlock = v.ownBlock ∨ ∃ b, v1.ownBlock = some b ∧ W.heap.size ≤ b) → wpList Try.prog ops Q rest (a.put o.dst v1) w1) :
    wpList Try.prog ops Q (o :: rest) a (W.alloc (.cells #[.int .i64 y] 3)) :=
  app_ow kInt base hgd s x 23 3 _ 8 ho Try.underlying23 info_int rfl (by decide) (by decide) v xs y [.int .i64 y] hs hx rfl HO HB hbase hl h
end
theorem Rd.int_at {w : World} {A : Option Addr} {c : Nat} {xs : List Int} (h : Rd kInt w A c xs) (i : Nat) (hi : i < xs.length) : ∃ ad, A = some ad ∧ w.cell? (ad.add i) = some (.int .i64 (xs.getD i 0)) := by
  obtain ⟨ad, cs, e, hk, _, hc⟩ := h.at_ 0 i hi
  have hk' : cs = [.int .i64 (xs.getD i 0)] := hk
  subst hk'
  have := hc 0 _ rfl
  rw [show kInt.sz = 1 from rfl, Nat.mul_one, Nat.add_zero] at this
  exact ⟨ad, e, this⟩
end Go.Proofs.Ythfalpibhcjpgaa
end

section
/- A struct of a number and a slice, in a variable: its cells read, kept, stored. -/
namespace Go.Proofs.Ythfalpibhcjpgaa
open Go.RowKit Go.Proofs.YthfalpibhcjpgaaW.PrintWords
set_option linter.unusedVariables false

/-- a number and a slice, as a value -/
def fil (K : Int) (A : Option Addr) (n c : Nat) : Value := .agg #[.int .i64 K, .slice A n c]
/-- a struct that lies in a variable just laid, a call behind -/
theorem boxedF {w w1 : World} {K : Int} {s : Value} {ty : TypeId} (HB : Below (w.alloc (.cells #[.int .i64 K, s] ty)).heap.size (w.alloc (.cells #[.int .i64 K, s] ty)) w1) :
    w1.cell? ⟨w.heap.size, 0, none⟩ = some (.int .i64 K) ∧ w1.cell? ⟨w.heap.size, 1, none⟩ = some s ∧ Below w.heap.size w w1 := by
  have hs : w.heap.size < (w.alloc (.cells #[.int .i64 K, s] ty)).heap.size := by simp
  refine ⟨?_, ?_, ((Below.refl _ _).alloc (Nat.le_refl _) _).trans (HB.mono (by simp))⟩ <;> (rw [HB.cell hs, World.cell?_alloc_mark]; rfl)
/-- two cells of a block just laid, stored -/
theorem two_cells {w : World} {g : Nat} {t : TypeId} {x y u v : Value} (h : w.heap[g]? = some (.cells #[x, y] t (0, 0))) :
    ((w.setCell ⟨g, 0, none⟩ u).setCell ⟨g, 1, none⟩ v).heap[g]? = some (.cells #[u, v] t (0, 0)) := blk_set (blk_set h 0 u) 1 v
theorem two_read {w : World} {g : Nat} {t : TypeId} {x y : Value} (h : w.heap[g]? = some (.cells #[x, y] t (0, 0))) :
    w.cell? ⟨g, 0, none⟩ = some x ∧ w.cell? ⟨g, 1, none⟩ = some y ∧ w.frozen? ⟨g, 0, none⟩ = false ∧ w.frozen? ⟨g, 1, none⟩ = false := ⟨blk_cell h 0, blk_cell h 1, blk_frozen h 0, blk_frozen h 1⟩
/-- a struct in a variable -/
def Bx (w : World) (b : Nat) (K : Int) (s : Value) (ty : TypeId) : Prop := w.heap[b]? = some (.cells #[.int .i64 K, s] ty)
theorem Bx.below {w w1 : World} {b : Nat} {K : Int} {s : Value} {ty : TypeId} (h : Bx w b K s ty) (hb : Below w.heap.size w w1) : Bx w1 b K s ty := (hb.block b (Array.getElem?_eq_some_iff.1 h).1).trans h
theorem Bx.lt {w : World} {b : Nat} {K : Int} {s : Value} {ty : TypeId} (h : Bx w b K s ty) : b < w.heap.size := (Array.getElem?_eq_some_iff.1 h).1
theorem Bx.grown {w w1 : World} {b : Nat} {K : Int} {s : Value} {ty : TypeId} (h : Bx w b K s ty) {row : Option Nat} (hg : w.grownBy w1 row) (hne : ∀ k, row = some k → k < b) : Bx w1 b K s ty :=
  (hg.block b h.lt (fun e => by have := hne b e.symm; omega)).trans h
theorem Bx.new (w : World) (K : Int) (s : Value) (ty : TypeId) : Bx (w.alloc (.cells #[.int .i64 K, s] ty)) w.heap.size K s ty := heap_alloc_new w _
theorem Bx.read {w : World} {b : Nat} {K : Int} {s : Value} {ty : TypeId} (h : Bx w b K s ty) : w.cell? ⟨b, 0, none⟩ = some (.int .i64 K) ∧ w.cell? ⟨b, 1, none⟩ = some s ∧ w.frozen? ⟨b, 0, none⟩ = false ∧ w.frozen? ⟨b, 1, none⟩ = false := two_read h
theorem below_alloc (w : World) (o : Obj) : Below w.heap.size w (w.alloc o) := (Below.refl _ _).alloc (Nat.le_refl _) _
theorem OwB.rdl {w : World} {base : Nat} {A : Option Addr} {n c : Nat} {xs : List UInt8} (h : OwB w base (.slice A n c) xs) : RdB w A c xs := by
  obtain ⟨A', c', hv, hr⟩ := h.rd
  injection hv with h1 _ h3
  subst h1
  subst h3
  exact hr
theorem i64_of (a : Int) (h : (Lit.int .i64 a).wf = true) : -9223372036854775808 ≤ a ∧ a ≤ 9223372036854775807 := by
  simpa [Lit.wf, IntKind.min, IntKind.max, IntKind.signed, IntKind.bits] using h
end Go.Proofs.Ythfalpibhcjpgaa
end

section
/- Small words for what the printed functions compute: rounds enough; indices that do not wrap; kinds told over. -/
namespace Go.Proofs.Ythfalpibhcjpgaa
open Go.RowKit Go.Proofs.YthfalpibhcjpgaaW.PrintWords
set_option linter.unusedVariables false

theorem wrap64_succ (i : Nat) (h : i < 9223372036854775807) : wrap64 ((i : Int) + 1) = ((i + 1 : Nat) : Int) := by
  unfold wrap64
  omega
theorem Ev.now' {α : Type} {g : Nat → Option α} {r : α} (h : ∀ k, g (k + 1) = some r) : Ev g r := ⟨1, fun k hk => by obtain ⟨j, rfl⟩ : ∃ j, k = j + 1 := ⟨k - 1, by omega⟩; exact h j⟩
theorem Ev.now2 {α : Type} {g : Nat → Option α} {r : α} (h : ∀ k, g (k + 2) = some r) : Ev g r := ⟨2, fun k hk => by obtain ⟨j, rfl⟩ : ∃ j, k = j + 2 := ⟨k - 2, by omega⟩; exact h j⟩
theorem Ev.now3 {α : Type} {g : Nat → Option α} {r : α} (h : ∀ k, g (k + 3) = some r) : Ev g r := ⟨3, fun k hk => by obtain ⟨j, rfl⟩ : ∃ j, k = j + 3 := ⟨k - 3, by omega⟩; exact h j⟩
theorem Ev.eq_ {α : Type} {g : Nat → Option α} {r r' : α} (h : Ev g r) (e : r = r') : Ev g r' := e ▸ h
/-- a row of another type of elements -/
theorem C_map {α β : Type} {d : Kd α} {d' : Kd β} (hs : d'.sz = d.sz) (g : α → β) {w : World} (hK : ∀ x cs, d.K w x cs → d'.K w (g x) cs) {A : Option Addr} {xs : List α} (h : d.C w A xs.length xs) : d'.C w A (xs.map g).length (xs.map g) := by
  refine ⟨rfl, by rw [List.length_map]; exact h.2.1, fun hp => ?_⟩
  rw [List.length_map] at hp
  obtain ⟨ad, e, hc⟩ := h.2.2 hp
  refine ⟨ad, e, fun j p hj => ?_⟩
  rw [List.getElem?_map, Option.map_eq_some_iff] at hj
  obtain ⟨x, hx, rfl⟩ := hj
  obtain ⟨c, h1, h2, h3⟩ := hc j x hx
  exact ⟨c, by rw [hs]; exact h1, hK _ _ h2, by rw [hs]; exact h3⟩
theorem Rd_map {α β : Type} {d : Kd α} {d' : Kd β} (hs : d'.sz = d.sz) (g : α → β) {w : World} (hK : ∀ x cs, d.K w x cs → d'.K w (g x) cs) {A : Option Addr} {c : Nat} {xs : List α} (h : Rd d w A c xs) : Rd d' w A c (xs.map g) := ⟨by rw [List.length_map]; exact h.1, C_map hs g hK h.2⟩
theorem R_map {α β : Type} {d : Kd α} {d' : Kd β} (hs : d'.sz = d.sz) (g : α → β) (hM : ∀ w base ok x cs, d.M w base ok x cs → d'.M w base ok (g x) cs) {e : Nat} {w : World} {base : Nat} {ok : Nat → Prop} {v : Value} {xs : List α} (h : d.R e w base ok v xs) : d'.R e w base ok v (xs.map g) := by
  obtain ⟨h0, inner, ho, hr⟩ := h
  refine ⟨h0, inner, by rw [List.length_map, hs]; exact ho, by rw [List.length_map, hs]; exact hr.1, fun j p hj => ?_⟩
  rw [List.getElem?_map, Option.map_eq_some_iff] at hj
  obtain ⟨x, hx, rfl⟩ := hj
  rw [hs]
  exact hM _ _ _ _ _ (hr.2 j x hx)
theorem rd_map {α β : Type} (g : α → β) (xs : List α) (z : α) (z' : β) (i : Nat) (h : i < xs.length) : (xs.map g).getD i z' = g (xs.getD i z) := by
  rw [List.getD_eq_getElem?_getD, List.getElem?_map, List.getElem?_eq_getElem h, List.getD_eq_getElem?_getD, List.getElem?_eq_getElem h]
  rfl
theorem drop_get {α : Type} (xs : List α) (z : α) (i : Nat) (h : i < xs.length) : xs.drop i = xs.getD i z :: xs.drop (i + 1) := by
  rw [List.drop_eq_getElem_cons h, List.getD_eq_getElem?_getD, List.getElem?_eq_getElem h]
  rfl
theorem drop_all {α : Type} (xs : List α) : xs.drop xs.length = [] := List.drop_of_length_le (Nat.le_refl _)
theorem toList_eq (s : ByteArray) : s.toList = s.data.toList := by rw [ByteArray.toList_eq]
theorem toList_nil (s : ByteArray) : s.toList = [] ↔ s.size = 0 := by
  rw [toList_eq]
  constructor
  · intro h
    have : s.data.toList.length = 0 := by rw [h]; rfl
    rw [Array.length_toList] at this
    exact this
  · intro h
    apply List.eq_nil_of_length_eq_zero
    rw [Array.length_toList]
    exact h
theorem toList_inj {s t : ByteArray} (h : s.toList = t.toList) : s = t := by
  rw [toList_eq, toList_eq] at h
  apply ByteArray.ext
  apply Array.ext'
  exact h
end Go.Proofs.Ythfalpibhcjpgaa
end

section
/- Strings as lists of octets; compared. -/
namespace Go.Proofs.Ythfalpibhcjpgaa
open Go.RowKit Go.Proofs.YthfalpibhcjpgaaW.PrintWords
set_option linter.unusedVariables false

def bl (s : ByteArray) : List UInt8 := s.data.toList
theorem bl_length (s : ByteArray) : (bl s).length = s.size := by rw [bl, Array.length_toList]; rfl
theorem bl_inj {s t : ByteArray} (h : bl s = bl t) : s = t := by
  apply ByteArray.ext
  apply Array.ext'
  exact h
theorem bl_mk (l : List UInt8) : bl ⟨l.toArray⟩ = l := by simp [bl]
theorem lt_tr {a b c : List UInt8} (h : a < b) (h2 : b < c) : a < c := List.lt_trans h h2
theorem lt_ir (a : List UInt8) : ¬ a < a := List.lt_irrefl a
theorem lt_as {a b : List UInt8} (h : a < b) : ¬ b < a := fun h2 => lt_ir a (lt_tr h h2)
theorem lt_tri (a b : List UInt8) : a < b ∨ a = b ∨ b < a := by
  rcases Decidable.em (a < b) with h | h
  · exact .inl h
  · rcases Decidable.em (b < a) with h2 | h2
    · exact .inr (.inr h2)
    · exact .inr (.inl (List.le_antisymm (List.not_lt.1 h2) (List.not_lt.1 h)))
theorem less_bl (a b : ByteArray) : Op.bytesLess a.toList b.toList = decide (bl a < bl b) := by rw [bytesLess_eq, Lib.toList_data, Lib.toList_data]; rfl
theorem toL_bl (a b : ByteArray) : a.toList = b.toList ↔ bl a = bl b := by rw [Lib.toList_data, Lib.toList_data]; exact Iff.rfl
theorem same_bl (a b : ByteArray) : (a.toList == b.toList) = decide (bl a = bl b) := by
  rw [Lib.toList_data, Lib.toList_data]
  by_cases h : bl a = bl b
  · rw [decide_eq_true h]; exact beq_iff_eq.2 h
  · rw [decide_eq_false h]; exact beq_eq_false_iff_ne.2 h
def cmpS (a b : ByteArray) : Int := if bl a < bl b then -1 else if bl b < bl a then 1 else 0
theorem nanS_any (a : ByteArray) (w : World) : Calls Try.prog 32 #[.string a] w fun e w' => e = .returned (.bool false) ∧ w = w' := by
  have h := same_bl a a
  rw [decide_eq_true rfl] at h
  go_enter Try.func32, Try.ntmps32
  go_wp2
  go_ret
  exact ⟨by simp, rfl⟩
set_option maxRecDepth 100000 in
set_option maxHeartbeats 800000 in
theorem cmpS_any (a b : ByteArray) (w : World) : Calls Try.prog 30 #[.string a, .string b] w fun e w' => e = .returned (.int .i64 (cmpS a b)) ∧ w = w' := by
  have h1 := less_bl a b
  have h2 := same_bl a b
  rcases lt_tri (bl a) (bl b) with h | h | h
  · rw [decide_eq_true h] at h1
    have e : cmpS a b = -1 := by rw [cmpS, if_pos h]
    rw [e]
    clear h2
    go_enter Try.func30, Try.ntmps30
    go_wp2_with (first | (go_at_call 32; refine (nanS_any _ _).mono ?_; rintro e w' ⟨rfl, rfl⟩))
    go_ret
    exact ⟨rfl, rfl⟩
  · rw [decide_eq_false (by rw [h]; exact lt_ir _)] at h1
    rw [decide_eq_true h] at h2
    have e : cmpS a b = 0 := by rw [cmpS, if_neg (by rw [h]; exact lt_ir _), if_neg (by rw [h]; exact lt_ir _)]
    rw [e]
    go_enter Try.func30, Try.ntmps30
    go_wp2_with (first | (go_at_call 32; refine (nanS_any _ _).mono ?_; rintro e w' ⟨rfl, rfl⟩))
    go_ret
    exact ⟨rfl, rfl⟩
  · rw [decide_eq_false (lt_as h)] at h1
    rw [decide_eq_false (fun e => by rw [e] at h; exact lt_ir _ h)] at h2
    have e : cmpS a b = 1 := by rw [cmpS, if_neg (lt_as h), if_pos h]
    rw [e]
    go_enter Try.func30, Try.ntmps30
    go_wp2_with (first | (go_at_call 32; refine (nanS_any _ _).mono ?_; rintro e w' ⟨rfl, rfl⟩))
    go_ret
    exact ⟨rfl, rfl⟩
end Go.Proofs.Ythfalpibhcjpgaa
end

section
/- Rows of versions: read, owned; one version in memory. -/
namespace Go.Proofs.Ythfalpibhcjpgaa
open Go.RowKit Go.Proofs.YthfalpibhcjpgaaW.PrintWords
set_option linter.unusedVariables false

/-- a version: its key, its number, its kind, its value -/
abbrev Ent := ByteArray × Int × Int × ByteArray
def kEnt : Kd Ent := Kd.pair kStr (Kd.pair kInt (Kd.pair kInt kStr))
def zEnt : Ent := (ByteArray.empty, 0, 0, ByteArray.empty)
theorem info_ent : (Try.prog.info? 36).map (fun i => (i.zero, i.size, i.bytes)) = some (some (.agg #[.string ByteArray.empty, .int .i64 0, .int .i64 0, .string ByteArray.empty]), 4, 48) := by kernel_rfl
theorem kEnt_K {w : World} {c : Ent} {cs : List Value} (h : kEnt.K w c cs) : cs = [.string c.1, .int .i64 c.2.1, .int .i64 c.2.2.1, .string c.2.2.2] := by
  obtain ⟨c0, c1, rfl, h0, c2, c3, rfl, h2, c4, c5, rfl, h4, h5⟩ := h
  have h0' : c0 = [.string c.1] := h0
  have h2' : c2 = [.int .i64 c.2.1] := h2
  have h4' : c4 = [.int .i64 c.2.2.1] := h4
  have h5' : c5 = [.string c.2.2.2] := h5
  subst h0'
  subst h2'
  subst h4'
  subst h5'
  rfl
theorem kEnt_mk (w : World) (c : Ent) : kEnt.K w c [.string c.1, .int .i64 c.2.1, .int .i64 c.2.2.1, .string c.2.2.2] := ⟨[.string c.1], _, rfl, rfl, [.int .i64 c.2.1], _, rfl, rfl, [.int .i64 c.2.2.1], [.string c.2.2.2], rfl, rfl, rfl⟩
theorem kEnt_M (w : World) (base : Nat) (ok : Nat → Prop) (c : Ent) : kEnt.M w base ok c [.string c.1, .int .i64 c.2.1, .int .i64 c.2.2.1, .string c.2.2.2] := ⟨[.string c.1], _, rfl, rfl, [.int .i64 c.2.1], _, rfl, rfl, [.int .i64 c.2.2.1], [.string c.2.2.2], rfl, rfl, rfl⟩
theorem kEnt_KM {w : World} {base : Nat} {ok : Nat → Prop} {c : Ent} {cs : List Value} (h : kEnt.K w c cs) : kEnt.M w base ok c cs := by rw [kEnt_K h]; exact kEnt_M _ _ _ _
abbrev RdE := Rd kEnt
abbrev OwE := Ow kEnt 36
theorem RdE.at4 {w : World} {A : Option Addr} {c : Nat} {xs : List Ent} (h : RdE w A c xs) (i : Nat) (hi : i < xs.length) : ∃ ad, A = some ad ∧ w.cell? (ad.add (i * 4)) = some (.string (xs.getD i zEnt).1) ∧ w.cell? ⟨(ad.add (i * 4)).block, (ad.add (i * 4)).off + 1, none⟩ = some (.int .i64 (xs.getD i zEnt).2.1) ∧ w.cell? ⟨(ad.add (i * 4)).block, (ad.add (i * 4)).off + 2, none⟩ = some (.int .i64 (xs.getD i zEnt).2.2.1) ∧ w.cell? ⟨(ad.add (i * 4)).block, (ad.add (i * 4)).off + 3, none⟩ = some (.string (xs.getD i zEnt).2.2.2) := by
  obtain ⟨ad, cs, e, hk, _, hc⟩ := Rd.at_ h zEnt i hi
  have hcs := kEnt_K hk
  subst hcs
  refine ⟨ad, e, hc 0 _ rfl, ?_, ?_, ?_⟩
  · rw [← add_field ad (i * 4) 1 (by decide)]; exact hc 1 _ rfl
  · rw [← add_field ad (i * 4) 2 (by decide)]; exact hc 2 _ rfl
  · rw [← add_field ad (i * 4) 3 (by decide)]; exact hc 3 _ rfl
/-- a version in a variable -/
def Eb (w : World) (g : Nat) (c : Ent) : Prop := w.heap[g]? = some (.cells #[.string c.1, .int .i64 c.2.1, .int .i64 c.2.2.1, .string c.2.2.2] 36 (0, 0))
theorem Eb.new (w : World) (c : Ent) : Eb (w.alloc (.cells #[.string c.1, .int .i64 c.2.1, .int .i64 c.2.2.1, .string c.2.2.2] 36)) w.heap.size c := heap_alloc_new w _
theorem Eb.read {w : World} {g : Nat} {c : Ent} (h : Eb w g c) : w.cell? ⟨g, 0, none⟩ = some (.string c.1) ∧ w.cell? ⟨g, 1, none⟩ = some (.int .i64 c.2.1) ∧ w.cell? ⟨g, 2, none⟩ = some (.int .i64 c.2.2.1) ∧ w.cell? ⟨g, 3, none⟩ = some (.string c.2.2.2) ∧ w.frozen? ⟨g, 0, none⟩ = false ∧ w.frozen? ⟨g, 1, none⟩ = false ∧ w.frozen? ⟨g, 2, none⟩ = false ∧ w.frozen? ⟨g, 3, none⟩ = false :=
  ⟨blk_cell h 0, blk_cell h 1, blk_cell h 2, blk_cell h 3, blk_frozen h 0, blk_frozen h 1, blk_frozen h 2, blk_frozen h 3⟩
theorem Eb.lt {w : World} {g : Nat} {c : Ent} (h : Eb w g c) : g < w.heap.size := blk_lt h
theorem Eb.below {w w1 : World} {g : Nat} {c : Ent} (h : Eb w g c) (hb : Below w.heap.size w w1) : Eb w1 g c := blk_below h hb
theorem Eb.grown {w w1 : World} {g : Nat} {c : Ent} (h : Eb w g c) {row : Option Nat} (hg : w.grownBy w1 row) (hne : some g ≠ row) : Eb w1 g c := blk_grown h hg hne
section
variable {ops : Array Oper} {rest : List Oper} {o : Oper} {a : Act} {Q : Exit → Act → World → Prop}
theorem app_ent {w0 W : World} (base : Nat) (hgd : o.guard = none) (s x : Operand)
    (ho : o.op = .call { callee := .builtin .append, args := #[s, x], argTypes := #[22, 22] })
    (v : Value) (xs : List Ent) (c : Ent) (hs : a.eval s = v) (hx : a.eval x = .slice (some ⟨W.heap.size, 0, none⟩) 1 1)
    (HO : OwE W base v xs) (HB : Below base w0 W) (hbase : base ≤ W.heap.size) (hl : (xs.length + 1) * 48 ≤ 140737488355328)
    (h : ∀ v1 w1, OwE w1 base v1 (xs ++ [c]) → Below base w0 w1 → W.grownBy w1 v.ownBlock → (v1.ownBlock = v.ownBlock ∨ ∃ b, v1.ownBlock = some b ∧ W.heap.size ≤ b) → wpList Try.prog ops Q rest (a.put o.dst v1) w1) :
    wpList Try.prog ops Q (o :: rest) a (W.alloc (.cells #[.string c.1, .int .i64 c.2.1, .int .i64 c.2.2.1, .string c.2.2.2] 36)) :=
  app_ow kEnt base hgd s x 22 36 _ 48 ho Try.underlying22 info_ent rfl (by decide) (by decide) v xs c [.string c.1, .int .i64 c.2.1, .int .i64 c.2.2.1, .string c.2.2.2] hs hx (kEnt_M _ _ _ _) HO HB hbase hl h
theorem app_ents {w0 W : World} (base : Nat) (hgd : o.guard = none) (s x : Operand)
    (ho : o.op = .call { callee := .builtin .append, args := #[s, x], argTypes := #[22, 22] })
    (v : Value) (xs ys : List Ent) (A : Option Addr) (c : Nat) (hs : a.eval s = v) (hx : a.eval x = .slice A ys.length c)
    (HO : OwE W base v xs) (HR : RdE W A c ys) (HB : Below base w0 W) (hbase : base ≤ W.heap.size) (hl : (xs.length + ys.length) * 48 ≤ 140737488355328)
    (h : ∀ v1 w1, OwE w1 base v1 (xs ++ ys) → Below base w0 w1 → W.grownBy w1 v.ownBlock → (v1.ownBlock = v.ownBlock ∨ ∃ b, v1.ownBlock = some b ∧ W.heap.size ≤ b) → wpList Try.prog ops Q rest (a.put o.dst v1) w1) :
    wpList Try.prog ops Q (o :: rest) a W :=
  app_ows kEnt base hgd s x 22 36 _ 48 ho Try.underlying22 info_ent rfl (by decide) (by decide) v xs ys A c hs hx (fun _ _ h => kEnt_KM h) HO HR HB hbase hl h
end
end Go.Proofs.Ythfalpibhcjpgaa
end

section
/- Versions in order, plainly. -/
namespace Go.Proofs.Ythfalpibhcjpgaa
open Go.RowKit Go.Proofs.YthfalpibhcjpgaaW.PrintWords
set_option linter.unusedVariables false

def mayE (x : Ent) : Prop := 1 ≤ x.1.size ∧ x.1.size ≤ 96 ∧ 1 ≤ x.2.1 ∧ x.2.1 ≤ 1099511627776 ∧ (x.2.2.1 = 1 ∨ x.2.2.1 = 2) ∧ x.2.2.2.size ≤ 512 ∧ (x.2.2.1 = 1 ∨ x.2.2.2.size = 0)
instance (x : Ent) : Decidable (mayE x) := by unfold mayE; infer_instance
def befE (x y : Ent) : Prop := bl x.1 < bl y.1 ∨ (bl x.1 = bl y.1 ∧ y.2.1 < x.2.1)
instance (x y : Ent) : Decidable (befE x y) := by unfold befE; infer_instance
/-- may versions be, in order? from a place on -/
def ordL : List Ent → Nat → Nat → Int
  | l, 0, i => 0
  | l, f + 1, i => if ¬ mayE (l.getD i zEnt) then 1 else if 0 < i ∧ ¬ befE (l.getD (i - 1) zEnt) (l.getD i zEnt) then 81 else ordL l f (i + 1)
def ordE (l : List Ent) : Int := ordL l l.length 0
theorem ordL_may (l : List Ent) (f : Nat) : ∀ i, ordL l f i = 0 → ∀ j, i ≤ j → j < i + f → mayE (l.getD j zEnt) ∧ (0 < j → befE (l.getD (j - 1) zEnt) (l.getD j zEnt)) := by
  induction f with
  | zero => intro i _ j h1 h2; omega
  | succ f ih =>
    intro i h j h1 h2
    rw [ordL] at h
    split at h
    · cases h
    · next h3 =>
      split at h
      · cases h
      · next h4 =>
        rcases Nat.lt_or_ge i j with h5 | h5
        · exact ih (i + 1) h j h5 (by omega)
        · obtain rfl : i = j := by omega
          exact ⟨Decidable.not_not.1 h3, fun h0 => Decidable.not_not.1 (fun h6 => h4 ⟨h0, h6⟩)⟩
theorem ordE_may (l : List Ent) (h : ordE l = 0) (j : Nat) (hj : j < l.length) : mayE (l.getD j zEnt) ∧ (0 < j → befE (l.getD (j - 1) zEnt) (l.getD j zEnt)) := ordL_may l l.length 0 h j (Nat.zero_le _) (by omega)
theorem ordL_of (l : List Ent) (f : Nat) : ∀ i, (∀ j, i ≤ j → j < i + f → mayE (l.getD j zEnt) ∧ (0 < j → befE (l.getD (j - 1) zEnt) (l.getD j zEnt))) → ordL l f i = 0 := by
  induction f with
  | zero => intro i _; rfl
  | succ f ih =>
    intro i h
    obtain ⟨h1, h2⟩ := h i (Nat.le_refl _) (by omega)
    rw [ordL, if_neg (fun h => h h1), if_neg (fun h => h.2 (h2 h.1))]
    exact ih (i + 1) fun j h3 h4 => h j (by omega) (by omega)
theorem bef_tr {x y z : Ent} (h : befE x y) (h2 : befE y z) : befE x z := by
  unfold befE at *
  rcases h with h | ⟨h, h'⟩ <;> rcases h2 with h2 | ⟨h2, h2'⟩
  · exact .inl (lt_tr h h2)
  · exact .inl (h2 ▸ h)
  · exact .inl (h.symm ▸ h2)
  · exact .inr ⟨h.trans h2, by omega⟩
theorem bef_ir (x : Ent) : ¬ befE x x := by
  unfold befE
  rintro (h | ⟨_, h⟩)
  · exact lt_ir _ h
  · omega
theorem bef_as {x y : Ent} (h : befE x y) : ¬ befE y x := fun h2 => bef_ir x (bef_tr h h2)
theorem ord_bef (l : List Ent) (h : ordE l = 0) (j : Nat) (hj : j < l.length) : ∀ i, i < j → befE (l.getD i zEnt) (l.getD j zEnt) := by
  induction j with
  | zero => intro i hi; omega
  | succ j ih =>
    intro i hi
    have h1 := (ordE_may l h (j + 1) hj).2 (by omega)
    rw [Nat.add_sub_cancel] at h1
    rcases Nat.lt_or_ge i j with h2 | h2
    · exact bef_tr (ih (by omega) i h2) h1
    · obtain rfl : i = j := by omega
      exact h1
/-- the first version of a key with at most a number -/
def isV (key : ByteArray) (seq : Int) (x : Ent) : Bool := decide (x.1 = key) && decide (x.2.1 ≤ seq)
def firstE (l : List Ent) (key : ByteArray) (seq : Int) : Option Ent := l.find? (isV key seq)
theorem first_at (l : List Ent) (key : ByteArray) (seq : Int) (i : Nat) (hi : i < l.length) (h : isV key seq (l.getD i zEnt) = true) (hb : ∀ k, k < i → isV key seq (l.getD k zEnt) = false) : firstE l key seq = some (l.getD i zEnt) := by
  induction l generalizing i with
  | nil => simp at hi
  | cons x l ih =>
    cases i with
    | zero => rw [List.getD_cons_zero] at h ⊢; rw [firstE, List.find?_cons_of_pos h]
    | succ i =>
      have h0 := hb 0 (by omega)
      rw [List.getD_cons_zero] at h0
      rw [firstE, List.find?_cons_of_neg (by rw [h0]; simp), List.getD_cons_succ]
      exact ih i (by simpa using hi) h (fun k hk => by have := hb (k + 1) (by omega); rwa [List.getD_cons_succ] at this)
theorem first_none (l : List Ent) (key : ByteArray) (seq : Int) (hb : ∀ k, k < l.length → isV key seq (l.getD k zEnt) = false) : firstE l key seq = none := by
  rw [firstE, List.find?_eq_none]
  intro x hx
  obtain ⟨k, hk, rfl⟩ := List.getElem_of_mem hx
  have := hb k hk
  rw [List.getD_eq_getElem?_getD, List.getElem?_eq_getElem hk] at this
  rw [show l[k] = (some l[k]).getD zEnt from rfl, this]
  simp
/-- where a search halts -/
theorem first_bs (l : List Ent) (h : ordE l = 0) (key : ByteArray) (seq : Int) (t : Ent) (ht : t.1 = key) (ht2 : t.2.1 = seq) (i : Nat) (hi : i ≤ l.length) (h1 : ∀ k, k < i → befE (l.getD k zEnt) t) (h2 : i < l.length → ¬ befE (l.getD i zEnt) t) :
    firstE l key seq = if i < l.length ∧ (l.getD i zEnt).1 = key then some (l.getD i zEnt) else none := by
  subst ht ht2
  have hno : ∀ k, k < i → isV t.1 t.2.1 (l.getD k zEnt) = false := by
    intro k hk
    have := h1 k hk
    unfold befE at this
    unfold isV
    rcases this with h3 | ⟨h3, h4⟩
    · have : ¬ (l.getD k zEnt).1 = t.1 := fun e => by rw [e] at h3; exact lt_ir _ h3
      rw [decide_eq_false this, Bool.false_and]
    · have : ¬ (l.getD k zEnt).2.1 ≤ t.2.1 := by omega
      rw [decide_eq_false this, Bool.and_false]
  split
  · next h3 =>
    refine first_at l _ _ i h3.1 ?_ hno
    have := h2 h3.1
    unfold befE at this
    unfold isV
    rw [decide_eq_true h3.2, decide_eq_true, Bool.true_and]
    apply Decidable.not_not.1
    intro h4
    exact this (.inr ⟨by rw [h3.2], by omega⟩)
  · next h3 =>
    refine first_none l _ _ fun k hk => ?_
    rcases Nat.lt_or_ge k i with h4 | h4
    · exact hno k h4
    · have hil : i < l.length := by omega
      have hki : ¬ (l.getD i zEnt).1 = t.1 := fun e => h3 ⟨hil, e⟩
      have hlt : bl t.1 < bl (l.getD i zEnt).1 := by
        have := h2 hil
        unfold befE at this
        rcases lt_tri (bl (l.getD i zEnt).1) (bl t.1) with h5 | h5 | h5
        · exact absurd (.inl h5) this
        · exact absurd (bl_inj h5) hki
        · exact h5
      have hlt2 : bl t.1 < bl (l.getD k zEnt).1 := by
        rcases Nat.lt_or_ge i k with h5 | h5
        · have := ord_bef l h k hk i h5
          unfold befE at this
          rcases this with h6 | ⟨h6, _⟩
          · exact lt_tr hlt h6
          · rw [← h6]; exact hlt
        · obtain rfl : k = i := by omega
          exact hlt
      unfold isV
      have : ¬ (l.getD k zEnt).1 = t.1 := fun e => by rw [e] at hlt2; exact lt_ir _ hlt2
      rw [decide_eq_false this, Bool.false_and]
end Go.Proofs.Ythfalpibhcjpgaa
end

section
/- May a version be: the printed contract, told over. -/
namespace Go.Proofs.Ythfalpibhcjpgaa
open Go.RowKit Go.Proofs.YthfalpibhcjpgaaW.PrintWords
set_option linter.unusedVariables false

abbrev SE := PB.S36
def mkE (c : Ent) : SE := ⟨c.1, c.2.1, c.2.2.1, c.2.2.2⟩
def ofE (s : SE) : Ent := (s.f0, s.f1, s.f2, s.f3)
theorem ofE_mk (l : List Ent) : (l.map mkE).map ofE = l := by rw [List.map_map]; exact List.map_id l
theorem mkE_K {w : World} {c : Ent} {cs : List Value} (h : kEnt.K w c cs) : PB.k36.K w (mkE c) cs := h
theorem RdE.mk {w : World} {A : Option Addr} {c : Nat} {l : List Ent} (h : RdE w A c l) : Rd PB.k36 w A c (l.map mkE) := Rd_map (d := kEnt) (d' := PB.k36) rfl mkE (fun x cs h => mkE_K h) h
theorem OwE.of {w : World} {base : Nat} {v : Value} {l : List SE} (h : PB.k36.R 36 w base (fun _ => True) v l) : OwE w base v (l.map ofE) := R_map (d := PB.k36) (d' := kEnt) rfl ofE (fun _ _ _ _ _ h => h) h
theorem rdE_map (l : List Ent) (i : Nat) (h : i < l.length) : PB.rd_T36 (l.map mkE) (i : Int) = mkE (l.getD i zEnt) := by
  rw [PB.rd_T36, Int.toNat_natCast, rd_map mkE l zEnt _ i h]
theorem eqL_size (s : ByteArray) : (s.toList == ([] : List UInt8)) = decide (s.size = 0) := by
  by_cases h : s.size = 0
  · rw [decide_eq_true h]; exact beq_iff_eq.2 ((toList_nil s).2 h)
  · rw [decide_eq_false h]; exact beq_eq_false_iff_ne.2 (fun e => h ((toList_nil s).1 e))
theorem May_f (x : Ent) : PB.skip_May.f x.1 x.2.1 x.2.2.1 x.2.2.2 = some (decide (mayE x)) := by
  obtain ⟨k, q, d, v⟩ := x
  have hb : (d == 2) = decide (d = 2) := by
    by_cases h : d = 2
    · rw [decide_eq_true h, h]; rfl
    · rw [decide_eq_false h]; exact beq_eq_false_iff_ne.2 h
  simp only [PB.skip_May.f, toList_nil, hb, mayE]
  repeat' split
  all_goals (congr 1; symm; first | (apply decide_eq_true; omega) | (apply decide_eq_false; omega) | (apply decide_eq_decide.2; omega))
theorem May_any (x : Ent) (w : World) : Calls Try.prog 28 #[.agg #[.string x.1, .int .i64 x.2.1, .int .i64 x.2.2.1, .string x.2.2.2]] w fun e w' => e = .returned (.bool (decide (mayE x))) ∧ Below w.heap.size w w' := PB.skip_May.calls _ _ _ _ _ w (May_f x)
theorem sameE_l0 (l : List Ent) (hl : l.length ≤ 9223372036854775806) : ∀ d i, l.length - i = d → i ≤ l.length → Ev (fun k => PB.ticklerplain_SameEntries.l0 k (l.map mkE) (l.map mkE) (i : Int)) true := by
  intro d
  induction d with
  | zero =>
    intro i hd hi
    obtain rfl : i = l.length := by omega
    refine Ev.now' fun k => ?_
    rw [PB.ticklerplain_SameEntries.l0, if_neg (by rw [List.length_map]; omega)]
  | succ d ih =>
    intro i hd hi
    have hlt : i < l.length := by omega
    refine Ev.step (fun k => ?_) (ih (i + 1) (by omega) (by omega))
    rw [PB.ticklerplain_SameEntries.l0, if_pos (by rw [List.length_map]; omega), if_pos (by omega), if_pos (by rw [List.length_map]; omega), if_neg (by simp), wrap64_succ i (by omega)]
theorem SameE_any (A B : Option Addr) (c d n : Nat) (l : List Ent) (w : World) (hn : l.length = n) (hr : RdE w A c l) (hs : RdE w B d l) (hl : l.length ≤ 9223372036854775806) :
    Calls Try.prog 10 #[.slice A n c, .slice B n d] w fun e w' => e = .returned (.bool true) ∧ Below w.heap.size w w' := by
  subst hn
  obtain ⟨k, hk⟩ := (sameE_l0 l hl _ 0 rfl (Nat.zero_le _)).rounds
  have hf : PB.ticklerplain_SameEntries.f k (l.map mkE) (l.map mkE) = some true := by rw [PB.ticklerplain_SameEntries.f, if_pos rfl]; exact hk
  have h := PB.ticklerplain_SameEntries.calls k A c (l.map mkE) B d (l.map mkE) true w hr.mk.2 hr.mk.1 hs.mk.2 hs.mk.1 hf
  rw [List.length_map] at h
  exact h.mono (fun e w' ⟨h1, h2⟩ => ⟨h1, h2.below⟩)
end Go.Proofs.Ythfalpibhcjpgaa
end

section
/- The order of versions, walked. -/
namespace Go.Proofs.Ythfalpibhcjpgaa
open Go.RowKit Go.Proofs.YthfalpibhcjpgaaW.PrintWords
set_option linter.unusedVariables false

/-- the first that is not 0, of two -/
def or2 (p q : Int) : Int := if p ≠ 0 then p else q
set_option maxRecDepth 100000 in
set_option maxHeartbeats 800000 in
theorem Or_any (g : Nat) (p q : Int) (w : World) (h0 : w.cell? ⟨g, 0, none⟩ = some (.int .i64 p)) (h1 : w.cell? ⟨g, 1, none⟩ = some (.int .i64 q)) :
    Calls Try.prog 29 #[.slice (some ⟨g, 0, none⟩) 2 2] w fun e w' => e = .returned (.int .i64 (or2 p q)) ∧ w = w' := by
  go_enter Try.func29, Try.ntmps29
  go_wp2
  go_loopw [8] (fun i wr => wr = w ∧ ∃ j : Nat, j ≤ 2 ∧ i = .int .i64 (j : Int) ∧ (0 < j → p = 0) ∧ (1 < j → q = 0)) (fun i _ => 2 - (intOf i).toNat)
  case atStart => exact ⟨rfl, 0, by omega, rfl, fun h => by omega, fun h => by omega⟩
  case round =>
    obtain ⟨rfl, j, hj, rfl, hp, hq⟩ := hrel
    rcases Nat.lt_trichotomy j 1 with h | h | h
    · obtain rfl : j = 0 := by omega
      clear hp hq hj h
      by_cases hp0 : p = 0
      · subst hp0
        go_wp2
        go_roundw
        case rel => exact ⟨by trivial, 1, by omega, by go_num, by simp, by simp⟩
        case measure => simp [intOf]
      · have hb1 : (p != 0) = true := bne_iff_ne.2 hp0
        have hb2 : (p == 0) = false := beq_eq_false_iff_ne.2 hp0
        go_wp2
        go_ret
        exact ⟨by rw [or2, if_pos hp0]; rfl, rfl⟩
    · subst h
      have hp0 := hp (by omega)
      subst hp0
      clear hp hq hj
      by_cases hq0 : q = 0
      · subst hq0
        go_wp2
        go_roundw
        case rel => exact ⟨by trivial, 2, by omega, by go_num, by simp, by simp⟩
        case measure => simp [intOf]
      · have hb1 : (q != 0) = true := bne_iff_ne.2 hq0
        have hb2 : (q == 0) = false := beq_eq_false_iff_ne.2 hq0
        go_wp2
        go_ret
        exact ⟨by rw [or2, if_neg (by simp)]; rfl, rfl⟩
    · obtain rfl : j = 2 := by omega
      have hp0 := hp (by omega)
      have hq0 := hq (by omega)
      subst hp0 hq0
      clear hp hq hj h
      go_wp2
      go_ret
      exact ⟨rfl, rfl⟩
/-- the order of versions, as a number -/
def ordN (x y : Ent) : Int := or2 (cmpS x.1 y.1) (Lib.compareInt y.2.1 x.2.1)
theorem ordN_neg (x y : Ent) : decide (ordN x y < 0) = decide (befE x y) := by
  unfold ordN or2 cmpS Lib.compareInt befE
  by_cases h1 : bl x.1 < bl y.1
  · rw [if_pos h1]; simp [h1]
  · rw [if_neg h1]
    by_cases h2 : bl y.1 < bl x.1
    · have h3 : ¬ bl x.1 = bl y.1 := fun e => by rw [e] at h2; exact lt_ir _ h2
      rw [if_pos h2]; simp [h1, h3]
    · have h3 : bl x.1 = bl y.1 := by
        rcases lt_tri (bl x.1) (bl y.1) with h | h | h
        · exact absurd h h1
        · exact h
        · exact absurd h h2
      rw [if_neg h2]
      by_cases h4 : y.2.1 < x.2.1
      · rw [if_pos h4]; simp [h3, h4]
      · rw [if_neg h4]
        by_cases h5 : y.2.1 > x.2.1
        · rw [if_pos h5]; simp [h1, h4]
        · rw [if_neg h5]; simp [h1, h4]
abbrev ebv (x : Ent) : Value := .agg #[.string x.1, .int .i64 x.2.1, .int .i64 x.2.2.1, .string x.2.2.2]
abbrev ebo (x : Ent) : Obj := .cells #[.string x.1, .int .i64 x.2.1, .int .i64 x.2.2.1, .string x.2.2.2] 36
set_option maxRecDepth 100000 in
set_option maxHeartbeats 800000 in
theorem order_any (x y : Ent) (w : World) : Calls Try.prog 27 #[ebv x, ebv y] w fun e w' => e = .returned (.int .i64 (ordN x y)) ∧ Below w.heap.size w w' := by
  obtain ⟨k1, q1, d1, v1⟩ := x
  obtain ⟨k2, q2, d2, v2⟩ := y
  have hX := Eb.new w (k1, q1, d1, v1)
  have hX2 := hX.below (below_alloc (w.alloc (ebo (k1, q1, d1, v1))) (ebo (k2, q2, d2, v2)))
  have hY := Eb.new (w.alloc (ebo (k1, q1, d1, v1))) (k2, q2, d2, v2)
  have HB := ((Below.refl w.heap.size w).alloc (Nat.le_refl _) (ebo (k1, q1, d1, v1))).alloc (below_alloc w (ebo (k1, q1, d1, v1))).size (ebo (k2, q2, d2, v2))
  go_enter Try.func27, Try.ntmps27
  go_wp2
  obtain ⟨x0, x1, -, -, -, -, -, -⟩ := hX2.read
  obtain ⟨y0, y1, -, -, -, -, -, -⟩ := hY.read
  generalize hWo : (w.alloc (ebo (k1, q1, d1, v1))).alloc (ebo (k2, q2, d2, v2)) = Wo at *
  have HWo := hide hWo
  clear hWo hX2 hY hX
  have hs1 : (w.alloc (ebo (k1, q1, d1, v1))).heap.size = w.heap.size + 1 := World.size_alloc _ _
  rw [hs1] at y0 y1
  have l0 := World.block_lt_of_cell? _ _ x0
  have l1 := World.block_lt_of_cell? _ _ y0
  have l2 := World.block_lt_of_cell? _ _ x1
  have l3 := World.block_lt_of_cell? _ _ y1
  obtain ⟨p, hp⟩ : ∃ p, cmpS k1 k2 = p := ⟨_, rfl⟩
  obtain ⟨q, hq⟩ : ∃ q, Lib.compareInt q2 q1 = q := ⟨_, rfl⟩
  have C1 := fun W => cmpS_any k1 k2 W
  have C2 := fun W => cmp_Compare_int q2 q1 W
  rw [hp] at C1
  rw [hq] at C2
  have HR : ordN (k1, q1, d1, v1) (k2, q2, d2, v2) = or2 p q := by rw [ordN, hp, hq]
  have HRR := hide HR
  clear HR hp hq
  have hd : Below w.heap.size w Wo.drew := HB.drew
  have bA := below_alloc Wo.drew (.cells #[.int .i64 p, .int .i64 q] 3)
  have r0 : (Wo.drew.alloc (.cells #[.int .i64 p, .int .i64 q] 3)).heap[Wo.drew.heap.size]? = some (.cells #[.int .i64 p, .int .i64 q] 3 (0, 0)) := heap_alloc_new _ _
  have O1 := Or_any Wo.drew.heap.size p q _ (blk_cell r0 0) (blk_cell r0 1)
  have hda := hd.alloc hd.size (.cells #[.int .i64 p, .int .i64 q] 3)
  have hS0 : Wo.drew.cell? ⟨w.heap.size, 0, none⟩ = some (.string k1) ∧ Wo.drew.cell? ⟨w.heap.size, 1, none⟩ = some (.int .i64 q1) ∧ Wo.drew.cell? ⟨w.heap.size + 1, 0, none⟩ = some (.string k2) ∧ Wo.drew.cell? ⟨w.heap.size + 1, 1, none⟩ = some (.int .i64 q2) := ⟨x0, x1, y0, y1⟩
  have hS1 : (Wo.drew.alloc (.cells #[.int .i64 p, .int .i64 q] 3)).cell? ⟨w.heap.size, 0, none⟩ = some (.string k1) ∧ (Wo.drew.alloc (.cells #[.int .i64 p, .int .i64 q] 3)).cell? ⟨w.heap.size, 1, none⟩ = some (.int .i64 q1) ∧ (Wo.drew.alloc (.cells #[.int .i64 p, .int .i64 q] 3)).cell? ⟨w.heap.size + 1, 0, none⟩ = some (.string k2) ∧ (Wo.drew.alloc (.cells #[.int .i64 p, .int .i64 q] 3)).cell? ⟨w.heap.size + 1, 1, none⟩ = some (.int .i64 q2) := ⟨(bA.cell l0).trans x0, (bA.cell l2).trans x1, (bA.cell l1).trans y0, (bA.cell l3).trans y1⟩
  go_region_held3 (fun w' => w'.cell? ⟨w.heap.size, 0, none⟩ = some (.string k1) ∧ w'.cell? ⟨w.heap.size, 1, none⟩ = some (.int .i64 q1) ∧ w'.cell? ⟨w.heap.size + 1, 0, none⟩ = some (.string k2) ∧ w'.cell? ⟨w.heap.size + 1, 1, none⟩ = some (.int .i64 q2)) (first | exact hS0 | exact hS1 | assumption) (first | (go_at_call 30; (with_reducible refine (C1 _).mono ?_); rintro e w' ⟨rfl, rfl⟩) | (go_at_call 31; (with_reducible refine (C2 _).mono ?_); rintro e w' ⟨rfl, rfl⟩) | (go_at_call 29; (refine O1.mono ?_); rintro e w' ⟨rfl, rfl⟩))
  go_wp2
  go_ret
  exact ⟨by rw [HRR.out]; rfl, hda⟩
set_option maxRecDepth 100000 in
set_option maxHeartbeats 800000 in
theorem Before_any (x y : Ent) (w : World) : Calls Try.prog 21 #[ebv x, ebv y] w fun e w' => e = .returned (.bool (decide (befE x y))) ∧ Below w.heap.size w w' := by
  have hX := Eb.new w x
  have bY := below_alloc (w.alloc (ebo x)) (ebo y)
  have hX2 := hX.below bY
  have hY := Eb.new (w.alloc (ebo x)) y
  have HB := ((Below.refl w.heap.size w).alloc (Nat.le_refl _) (ebo x)).alloc (below_alloc w (ebo x)).size (ebo y)
  have hs1 : (w.alloc (ebo x)).heap.size = w.heap.size + 1 := World.size_alloc _ _
  obtain ⟨x0, x1, x2, x3, -, -, -, -⟩ := hX2.read
  obtain ⟨y0, y1, y2, y3, -, -, -, -⟩ := hY.read
  rw [hs1] at y0 y1 y2 y3
  have hO := fun W => order_any x y W
  have hneg := ordN_neg x y
  go_enter Try.func21, Try.ntmps21
  go_wp2_with (first | (go_at_call 27; (with_reducible refine (hO _).mono ?_); rintro e w1 ⟨rfl, HB1⟩))
  go_ret
  exact ⟨by rw [← hneg]; rfl, HB.trans (HB1.mono HB.size)⟩
end Go.Proofs.Ythfalpibhcjpgaa
end

section
/- Block: may versions be, in order: the program's, walked. -/
namespace Go.Proofs.Ythfalpibhcjpgaa
open Go.RowKit Go.Proofs.YthfalpibhcjpgaaW.PrintWords
set_option linter.unusedVariables false

set_option maxRecDepth 100000 in
set_option maxHeartbeats 1600000 in
theorem Ordered_any (A : Option Addr) (c n : Nat) (l : List Ent) (w : World) (hn : l.length = n) (hr : RdE w A c l) (hl : n ≤ 9223372036854775806) :
    Calls Try.prog 22 #[.slice A n c] w fun e w' => e = .returned (.int .i64 (ordE l)) ∧ Below w.heap.size w w' := by
  have HN := hide hn
  obtain ⟨R, hR⟩ : ∃ R, ordE l = R := ⟨_, rfl⟩
  have HR := hide hR
  rw [hR]
  clear hn hR
  go_enter Try.func22, Try.ntmps22
  go_wp2
  go_loopw [7] (fun i wr => ∃ k : Nat, k ≤ n ∧ i = .int .i64 (k : Int) ∧ R = ordL l (n - k) k ∧ Below w.heap.size w wr) (fun i _ => n - (intOf i).toNat)
  case atStart => exact ⟨0, Nat.zero_le _, rfl, by rw [← HR.out, ordE, HN.out]; rfl, Below.refl _ _⟩
  case round =>
    obtain ⟨k, hk, rfl, hres, HB⟩ := hrel
    by_cases hlt : k < n
    · have hlti : (k : Int) < (n : Int) := Int.ofNat_lt.2 hlt
      have hrr := hr.below HB
      obtain ⟨ad, rfl, x0, x1, x2, x3⟩ := RdE.at4 hrr k (by rw [HN.out]; exact hlt)
      rw [show n - k = (n - (k + 1)) + 1 by omega, ordL] at hres
      have hM := fun W => May_any (l.getD k zEnt) W
      obtain ⟨x, hx⟩ : ∃ x, l.getD k zEnt = x := ⟨_, rfl⟩
      rw [hx] at hres x0 x1 x2 x3 hM
      have hE := Eb.new wr x
      obtain ⟨y0, y1, y2, y3, -, -, -, -⟩ := hE.read
      have HB2 := HB.alloc HB.size (.cells #[.string x.1, .int .i64 x.2.1, .int .i64 x.2.2.1, .string x.2.2.2] 36)
      by_cases hm : mayE x
      · rw [if_neg (fun h => h hm)] at hres
        rw [decide_eq_true hm] at hM
        by_cases hk0 : k = 0
        · rw [if_neg (fun h => by omega)] at hres
          have hk0i : ¬ (0 : Int) < (k : Int) := by omega
          have hk0n : ¬ 0 < k := by omega
          have HRES := hide hres
          clear hres hk0
          go_wp2_with (first | (go_at_call 28; (with_reducible refine (hM _).mono ?_); rintro e w1 ⟨rfl, HB1⟩; have hE1 := hE.below HB1; have HB3 := HB2.trans (HB1.mono HB2.size)))
          refine wp_region_below w1.heap.size _ (Below.refl _ _) (by kernel_rfl) (by kernel_rfl) ?_
          repeat (go_big_quiet_step ((intro hb; rfl)))
          refine wpQuiet_nil ?_
          intro w5 HC5
          have HB5 := HB3.trans (HC5.mono HB3.size)
          go_wp2
          go_roundw
          case rel => exact ⟨k + 1, hlt, by go_num, HRES.out, HB5⟩
          case measure => simp [intOf]; omega
        · have hk0' : 0 < k := Nat.pos_of_ne_zero hk0
          have hk1 : wrap64 ((k : Int) - 1) = ((k - 1 : Nat) : Int) := by unfold wrap64; omega
          have hk2 : IntKind.i64.wrap ((k : Int) - 1) = ((k - 1 : Nat) : Int) := by rw [IntKind.wrap_i64]; omega
          have hk0i : (0 : Int) < (k : Int) := by omega
          obtain ⟨j, hj⟩ : ∃ j, k - 1 = j := ⟨_, rfl⟩
          rw [hj] at hk1 hk2 hres
          obtain ⟨ad', e', p0, p1, p2, p3⟩ := RdE.at4 hrr j (by rw [HN.out]; omega)
          cases e'
          obtain ⟨y, hy⟩ : ∃ y, l.getD j zEnt = y := ⟨_, rfl⟩
          rw [hy] at hres p0 p1 p2 p3
          have hBf := fun W => Before_any y x W
          have hjn : (j : Int) < (n : Int) := by omega
          have hjn2 : j < n := by omega
          by_cases hbf : befE y x
          · rw [if_neg (fun h => h.2 hbf)] at hres
            rw [decide_eq_true hbf] at hBf
            have HRES := hide hres
            clear hres hy hj hx
            go_wp2_with (first | (go_at_call 28; (with_reducible refine (hM _).mono ?_); rintro e w1 ⟨rfl, HB1⟩; have hE1 := hE.below HB1; have HB3 := HB2.trans (HB1.mono HB2.size); have bb := (below_alloc wr (.cells #[.string x.1, .int .i64 x.2.1, .int .i64 x.2.2.1, .string x.2.2.2] 36)).trans (HB1.mono (below_alloc wr (.cells #[.string x.1, .int .i64 x.2.1, .int .i64 x.2.2.1, .string x.2.2.2] 36)).size)))
            have t0 := (bb.cell (World.block_lt_of_cell? _ _ p0)).trans p0
            have t1 := (bb.cell (World.block_lt_of_cell? _ _ p1)).trans p1
            have t2 := (bb.cell (World.block_lt_of_cell? _ _ p2)).trans p2
            have t3 := (bb.cell (World.block_lt_of_cell? _ _ p3)).trans p3
            obtain ⟨u0, u1, u2_, u3, -, -, -, -⟩ := hE1.read
            have hd : Below w1.heap.size w1 w1.drew := (Below.refl _ _).drew
            have hSk : ∀ W, Below w1.heap.size w1 W → Below w1.heap.size w1 W ∧ W.cell? (ad.add (j * 4)) = some (.string y.1) ∧ W.cell? ⟨(ad.add (j * 4)).block, (ad.add (j * 4)).off + 1, none⟩ = some (.int .i64 y.2.1) ∧ W.cell? ⟨(ad.add (j * 4)).block, (ad.add (j * 4)).off + 2, none⟩ = some (.int .i64 y.2.2.1) ∧ W.cell? ⟨(ad.add (j * 4)).block, (ad.add (j * 4)).off + 3, none⟩ = some (.string y.2.2.2) ∧ W.cell? ⟨wr.heap.size, 0, none⟩ = some (.string x.1) ∧ W.cell? ⟨wr.heap.size, 1, none⟩ = some (.int .i64 x.2.1) ∧ W.cell? ⟨wr.heap.size, 2, none⟩ = some (.int .i64 x.2.2.1) ∧ W.cell? ⟨wr.heap.size, 3, none⟩ = some (.string x.2.2.2) := fun W h => ⟨h, (h.cell (World.block_lt_of_cell? _ _ t0)).trans t0, (h.cell (World.block_lt_of_cell? _ _ t1)).trans t1, (h.cell (World.block_lt_of_cell? _ _ t2)).trans t2, (h.cell (World.block_lt_of_cell? _ _ t3)).trans t3, (h.cell (World.block_lt_of_cell? _ _ u0)).trans u0, (h.cell (World.block_lt_of_cell? _ _ u1)).trans u1, (h.cell (World.block_lt_of_cell? _ _ u2_)).trans u2_, (h.cell (World.block_lt_of_cell? _ _ u3)).trans u3⟩
            have hS0 := hSk _ hd
            go_region_held3 (fun w' => Below w1.heap.size w1 w' ∧ w'.cell? (ad.add (j * 4)) = some (.string y.1) ∧ w'.cell? ⟨(ad.add (j * 4)).block, (ad.add (j * 4)).off + 1, none⟩ = some (.int .i64 y.2.1) ∧ w'.cell? ⟨(ad.add (j * 4)).block, (ad.add (j * 4)).off + 2, none⟩ = some (.int .i64 y.2.2.1) ∧ w'.cell? ⟨(ad.add (j * 4)).block, (ad.add (j * 4)).off + 3, none⟩ = some (.string y.2.2.2) ∧ w'.cell? ⟨wr.heap.size, 0, none⟩ = some (.string x.1) ∧ w'.cell? ⟨wr.heap.size, 1, none⟩ = some (.int .i64 x.2.1) ∧ w'.cell? ⟨wr.heap.size, 2, none⟩ = some (.int .i64 x.2.2.1) ∧ w'.cell? ⟨wr.heap.size, 3, none⟩ = some (.string x.2.2.2)) (first | exact hS0 | exact hSk _ HBt | assumption) (first | (go_at_call 21; (with_reducible refine (hBf _).mono ?_); rintro e w6 ⟨rfl, HB6'⟩; have HBt := hd.trans (HB6'.mono hd.size); have HB6 := HB3.trans (HBt.mono HB3.size)))
            go_wp2
            go_roundw
            case rel => exact ⟨k + 1, hlt, by go_num, HRES.out, HB6⟩
            case measure => simp [intOf]; omega
          · rw [if_pos ⟨hk0', hbf⟩] at hres
            rw [decide_eq_false hbf] at hBf
            subst hres
            clear hy hj hx
            go_wp2_with (first | (go_at_call 28; (with_reducible refine (hM _).mono ?_); rintro e w1 ⟨rfl, HB1⟩; have hE1 := hE.below HB1; have HB3 := HB2.trans (HB1.mono HB2.size); have bb := (below_alloc wr (.cells #[.string x.1, .int .i64 x.2.1, .int .i64 x.2.2.1, .string x.2.2.2] 36)).trans (HB1.mono (below_alloc wr (.cells #[.string x.1, .int .i64 x.2.1, .int .i64 x.2.2.1, .string x.2.2.2] 36)).size)))
            have t0 := (bb.cell (World.block_lt_of_cell? _ _ p0)).trans p0
            have t1 := (bb.cell (World.block_lt_of_cell? _ _ p1)).trans p1
            have t2 := (bb.cell (World.block_lt_of_cell? _ _ p2)).trans p2
            have t3 := (bb.cell (World.block_lt_of_cell? _ _ p3)).trans p3
            obtain ⟨u0, u1, u2_, u3, -, -, -, -⟩ := hE1.read
            have hd : Below w1.heap.size w1 w1.drew := (Below.refl _ _).drew
            have hSk : ∀ W, Below w1.heap.size w1 W → Below w1.heap.size w1 W ∧ W.cell? (ad.add (j * 4)) = some (.string y.1) ∧ W.cell? ⟨(ad.add (j * 4)).block, (ad.add (j * 4)).off + 1, none⟩ = some (.int .i64 y.2.1) ∧ W.cell? ⟨(ad.add (j * 4)).block, (ad.add (j * 4)).off + 2, none⟩ = some (.int .i64 y.2.2.1) ∧ W.cell? ⟨(ad.add (j * 4)).block, (ad.add (j * 4)).off + 3, none⟩ = some (.string y.2.2.2) ∧ W.cell? ⟨wr.heap.size, 0, none⟩ = some (.string x.1) ∧ W.cell? ⟨wr.heap.size, 1, none⟩ = some (.int .i64 x.2.1) ∧ W.cell? ⟨wr.heap.size, 2, none⟩ = some (.int .i64 x.2.2.1) ∧ W.cell? ⟨wr.heap.size, 3, none⟩ = some (.string x.2.2.2) := fun W h => ⟨h, (h.cell (World.block_lt_of_cell? _ _ t0)).trans t0, (h.cell (World.block_lt_of_cell? _ _ t1)).trans t1, (h.cell (World.block_lt_of_cell? _ _ t2)).trans t2, (h.cell (World.block_lt_of_cell? _ _ t3)).trans t3, (h.cell (World.block_lt_of_cell? _ _ u0)).trans u0, (h.cell (World.block_lt_of_cell? _ _ u1)).trans u1, (h.cell (World.block_lt_of_cell? _ _ u2_)).trans u2_, (h.cell (World.block_lt_of_cell? _ _ u3)).trans u3⟩
            have hS0 := hSk _ hd
            go_region_held3 (fun w' => Below w1.heap.size w1 w' ∧ w'.cell? (ad.add (j * 4)) = some (.string y.1) ∧ w'.cell? ⟨(ad.add (j * 4)).block, (ad.add (j * 4)).off + 1, none⟩ = some (.int .i64 y.2.1) ∧ w'.cell? ⟨(ad.add (j * 4)).block, (ad.add (j * 4)).off + 2, none⟩ = some (.int .i64 y.2.2.1) ∧ w'.cell? ⟨(ad.add (j * 4)).block, (ad.add (j * 4)).off + 3, none⟩ = some (.string y.2.2.2) ∧ w'.cell? ⟨wr.heap.size, 0, none⟩ = some (.string x.1) ∧ w'.cell? ⟨wr.heap.size, 1, none⟩ = some (.int .i64 x.2.1) ∧ w'.cell? ⟨wr.heap.size, 2, none⟩ = some (.int .i64 x.2.2.1) ∧ w'.cell? ⟨wr.heap.size, 3, none⟩ = some (.string x.2.2.2)) (first | exact hS0 | exact hSk _ HBt | assumption) (first | (go_at_call 21; (with_reducible refine (hBf _).mono ?_); rintro e w6 ⟨rfl, HB6'⟩; have HBt := hd.trans (HB6'.mono hd.size); have HB6 := HB3.trans (HBt.mono HB3.size)))
            go_wp2
            go_ret
            exact ⟨rfl, HB6⟩
      · rw [if_pos hm] at hres
        rw [decide_eq_false hm] at hM
        subst hres
        clear hx
        go_wp2_with (first | (go_at_call 28; (with_reducible refine (hM _).mono ?_); rintro e w1 ⟨rfl, HB1⟩; have HB3 := HB2.trans (HB1.mono HB2.size)))
        go_ret
        exact ⟨rfl, HB3⟩
    · obtain rfl : k = n := Nat.le_antisymm hk (Nat.not_lt.1 hlt)
      rw [Nat.sub_self, ordL] at hres
      subst hres
      go_wp2
      go_ret
      exact ⟨rfl, HB⟩
end Go.Proofs.Ythfalpibhcjpgaa
end

section
/- Merge: key by key, thinned, seen; runs merged: plainly. -/
namespace Go.Proofs.Ythfalpibhcjpgaa
set_option linter.unusedVariables false

/-- strictly in order, pair by pair -/
theorem ord_pw (l : List Ent) (h : ordE l = 0) : l.Pairwise befE := by
  rw [List.pairwise_iff_getElem]
  intro i j hi hj hij
  have := ord_bef l h j hj i hij
  rwa [List.getD_eq_getElem?_getD, List.getD_eq_getElem?_getD, List.getElem?_eq_getElem hi, List.getElem?_eq_getElem hj] at this
theorem ord_all (l : List Ent) (h : ordE l = 0) : ∀ x ∈ l, mayE x := by
  intro x hx
  obtain ⟨k, hk, rfl⟩ := List.getElem_of_mem hx
  have := (ordE_may l h k hk).1
  rwa [List.getD_eq_getElem?_getD, List.getElem?_eq_getElem hk] at this
theorem ord_of (l : List Ent) (h1 : ∀ x ∈ l, mayE x) (h2 : l.Pairwise befE) : ordE l = 0 := by
  refine ordL_of l l.length 0 fun j _ hj => ?_
  rw [Nat.zero_add] at hj
  rw [List.pairwise_iff_getElem] at h2
  refine ⟨?_, fun h0 => ?_⟩
  · rw [List.getD_eq_getElem?_getD, List.getElem?_eq_getElem hj]; exact h1 _ (List.getElem_mem _)
  · have := h2 (j - 1) j (by omega) hj (by omega)
    rw [List.getD_eq_getElem?_getD, List.getD_eq_getElem?_getD, List.getElem?_eq_getElem hj, List.getElem?_eq_getElem (by omega : j - 1 < l.length)]; exact this
/-- has a version this key? -/
def isK (k : ByteArray) (x : Ent) : Bool := decide (x.1 = k)
/-- key by key -/
def byK {β : Type} (f : List Ent → List β) : List Ent → List β
  | [] => []
  | x :: t => f (x :: t.takeWhile (isK x.1)) ++ byK f (t.dropWhile (isK x.1))
termination_by l => l.length
decreasing_by
  have := (List.dropWhile_sublist (isK x.1) (l := t)).length_le
  simp only [List.length_cons]; omega
theorem takeW_all {α : Type} (p : α → Bool) (a r : List α) (ha : ∀ x ∈ a, p x = true) (hr : ∀ x ∈ r, p x = false) : (a ++ r).takeWhile p = a ∧ (a ++ r).dropWhile p = r := by
  induction a with
  | nil =>
    cases r with
    | nil => simp
    | cons y r => have := hr y (by simp); simp [this]
  | cons x a ih =>
    have hx := ha x (by simp)
    obtain ⟨h1, h2⟩ := ih (fun y hy => ha y (by simp [hy]))
    simp [hx, h1, h2]
theorem byK_app {β : Type} (f : List Ent → List β) (hf : f [] = []) (k : ByteArray) (g r : List Ent) (hg : ∀ x ∈ g, x.1 = k) (hr : ∀ x ∈ r, x.1 ≠ k) : byK f (g ++ r) = f g ++ byK f r := by
  cases g with
  | nil => rw [hf]; rfl
  | cons x t =>
    have hx := hg x (by simp)
    obtain ⟨h1, h2⟩ := takeW_all (isK x.1) t r (fun y hy => decide_eq_true ((hg y (by simp [hy])).trans hx.symm)) (fun y hy => decide_eq_false (fun e => hr y hy (e.trans hx)))
    rw [List.cons_append, byK, h1, h2]
/-- a list in order begins with one key's versions; behind them that key stands no more -/
theorem grp_cut (x : Ent) (t : List Ent) (h : (x :: t).Pairwise befE) : ∃ g r, t = g ++ r ∧ t.takeWhile (isK x.1) = g ∧ t.dropWhile (isK x.1) = r ∧ (∀ y ∈ g, y.1 = x.1) ∧ (∀ y ∈ r, bl x.1 < bl y.1) := by
  refine ⟨_, _, (List.takeWhile_append_dropWhile (p := isK x.1) (l := t)).symm, rfl, rfl, ?_, ?_⟩
  · intro y hy
    have h1 := List.all_takeWhile (p := isK x.1) (l := t)
    exact of_decide_eq_true (List.all_eq_true.1 h1 y hy)
  · generalize hr : t.dropWhile (isK x.1) = r
    cases r with
    | nil => intro y hy; cases hy
    | cons z r =>
      have hz : isK x.1 z = false := by
        have := List.head?_dropWhile_not (p := isK x.1) (l := t)
        rw [hr] at this
        simpa using this
      have hzk : z.1 ≠ x.1 := of_decide_eq_false hz
      have hsub : (z :: r).Sublist t := hr ▸ List.dropWhile_sublist _
      have hxz : ∀ y ∈ z :: r, befE x y := fun y hy => (List.pairwise_cons.1 h).1 y (hsub.subset hy)
      have hpz := ((List.pairwise_cons.1 h).2.sublist hsub)
      have h0 : bl x.1 < bl z.1 := by
        rcases hxz z (by simp) with h1 | ⟨h1, _⟩
        · exact h1
        · exact absurd (bl_inj h1).symm hzk
      intro y hy
      rcases List.mem_cons.1 hy with rfl | hy
      · exact h0
      · rcases (List.pairwise_cons.1 hpz).1 y hy with h1 | ⟨h1, _⟩
        · exact lt_tr h0 h1
        · rw [← h1]; exact h0
/-- the same, as a rule: what holds of no versions, and of one key's ahead of others', holds -/
theorem grp_ind {C : List Ent → Prop} (h0 : C []) (h1 : ∀ (k : ByteArray) (g r : List Ent), g ≠ [] → (∀ x ∈ g, x.1 = k) → (∀ x ∈ r, bl k < bl x.1) → (g ++ r).Pairwise befE → C r → C (g ++ r)) : ∀ (n : Nat) (l : List Ent), l.length ≤ n → l.Pairwise befE → C l := by
  intro n
  induction n with
  | zero => intro l hl _; rw [List.eq_nil_of_length_eq_zero (by omega : l.length = 0)]; exact h0
  | succ n ih =>
    intro l hl hp
    cases l with
    | nil => exact h0
    | cons x t =>
      obtain ⟨g, r, e, -, -, hg, hr⟩ := grp_cut x t hp
      subst e
      have := h1 x.1 (x :: g) r (by simp) (fun y hy => (List.mem_cons.1 hy).elim (fun e => by rw [e]) (hg y)) hr hp (ih r (by simp at hl; omega) ((List.pairwise_append.1 (List.pairwise_cons.1 hp).2).2.1))
      exact this
theorem key_ne {k : ByteArray} {r : List Ent} (h : ∀ x ∈ r, bl k < bl x.1) : ∀ x ∈ r, x.1 ≠ k := fun x hx e => lt_ir _ (e ▸ h x hx)
/-- does a number see a version? -/
def upto (s : Int) (x : Ent) : Bool := decide (x.2.1 ≤ s)
/-- which version a number sees, of one key's -/
def seesE (g : List Ent) (s : Int) : Option Ent := g.find? (upto s)
/-- does a version stay? -/
def stayE (S : List Int) (g : List Ent) (x : Ent) : Bool := decide (g.head? = some x) || S.any (fun s => decide (seesE g s = some x))
/-- without the last ones that say: gone -/
def trimE (b : Bool) (l : List Ent) : List Ent := if b then (l.reverse.dropWhile (fun x => decide (x.2.2.1 = 2))).reverse else l
def thG (S : List Int) (b : Bool) (g : List Ent) : List Ent := trimE b (g.filter (stayE S g))
/-- versions thinned -/
def thn (S : List Int) (b : Bool) (l : List Ent) : List Ent := byK (thG S b) l
/-- what a number sees -/
def seG (s : Int) (g : List Ent) : List (ByteArray × ByteArray) := match seesE g s with
  | none => []
  | some x => if x.2.2.1 = 2 then [] else [(x.1, x.2.2.2)]
def seen (s : Int) (l : List Ent) : List (ByteArray × ByteArray) := byK (seG s) l
theorem trim_pre (b : Bool) (l : List Ent) : ∃ z, trimE b l ++ z = l ∧ (∀ x ∈ z, x.2.2.1 = 2) := by
  unfold trimE
  cases b with
  | false => exact ⟨[], by simp, by simp⟩
  | true =>
    refine ⟨(l.reverse.takeWhile (fun x => decide (x.2.2.1 = 2))).reverse, ?_, ?_⟩
    · rw [if_pos rfl, ← List.reverse_append, List.takeWhile_append_dropWhile, List.reverse_reverse]
    · intro x hx
      have h1 := List.all_takeWhile (p := fun x : Ent => decide (x.2.2.1 = 2)) (l := l.reverse)
      exact of_decide_eq_true (List.all_eq_true.1 h1 x (List.mem_reverse.1 hx))
theorem trim_sub (b : Bool) (l : List Ent) : (trimE b l).Sublist l := by
  obtain ⟨z, h, _⟩ := trim_pre b l
  have : (trimE b l).Sublist (trimE b l ++ z) := List.sublist_append_left _ _
  rwa [h] at this
theorem trim_last (l u : List Ent) (x : Ent) (h : trimE true l = u ++ [x]) : x.2.2.1 ≠ 2 := by
  unfold trimE at h
  rw [if_pos rfl] at h
  have h2 := congrArg List.reverse h
  rw [List.reverse_reverse, List.reverse_append] at h2
  have := List.head?_dropWhile_not (p := fun x : Ent => decide (x.2.2.1 = 2)) (l := l.reverse)
  rw [h2] at this
  simpa using this
theorem trim_same (b : Bool) (l : List Ent) (h : b = true → ∀ u x, l = u ++ [x] → x.2.2.1 ≠ 2) : trimE b l = l := by
  unfold trimE
  cases b with
  | false => rfl
  | true =>
    rw [if_pos rfl]
    rcases List.eq_nil_or_concat l with e | ⟨u, x, e⟩
    · subst e; rfl
    · have e' : l = u ++ [x] := by rw [e, List.concat_eq_append]
      have hx := h rfl u x e'
      rw [e', List.reverse_append, List.reverse_singleton, List.singleton_append, List.dropWhile_cons_of_neg (by simpa using hx), List.reverse_cons, List.reverse_reverse]
theorem thG_nil (S : List Int) (b : Bool) : thG S b [] = [] := by cases b <;> rfl
theorem thG_sub (S : List Int) (b : Bool) (g : List Ent) : (thG S b g).Sublist g := (trim_sub _ _).trans List.filter_sublist
theorem thn_sub (S : List Int) (b : Bool) : ∀ (l : List Ent), l.Pairwise befE → (thn S b l).Sublist l := by
  intro l hl
  refine grp_ind (C := fun l => (thn S b l).Sublist l) (by unfold thn; rw [byK]; exact List.Sublist.refl _) ?_ l.length l (Nat.le_refl _) hl
  intro k g r _ hg hr _ ih
  unfold thn at ih ⊢
  rw [byK_app _ (thG_nil S b) k g r hg (key_ne hr)]
  exact (thG_sub S b g).append ih
/-- a key's versions thinned, ahead of others' thinned -/
theorem byK_thn {β : Type} (f : List Ent → List β) (hf : f [] = []) (S : List Int) (b : Bool) (k : ByteArray) (g r : List Ent) (hg : ∀ x ∈ g, x.1 = k) (hr : ∀ x ∈ r, bl k < bl x.1) (hp : (g ++ r).Pairwise befE) : byK f (thn S b (g ++ r)) = f (thG S b g) ++ byK f (thn S b r) := by
  have e : thn S b (g ++ r) = thG S b g ++ thn S b r := byK_app _ (thG_nil S b) k g r hg (key_ne hr)
  rw [e]
  exact byK_app f hf k _ _ (fun x hx => hg x ((thG_sub S b g).subset hx)) (fun x hx => key_ne hr x ((thn_sub S b r (List.pairwise_append.1 hp).2.1).subset hx))
theorem find_filter {α : Type} (p q : α → Bool) (g : List α) (x : α) (h : g.find? p = some x) (hq : q x = true) : (g.filter q).find? p = some x := by
  induction g with
  | nil => cases h
  | cons y g ih =>
    by_cases hy : p y = true
    · rw [List.find?_cons_of_pos hy] at h
      cases h
      rw [List.filter_cons_of_pos hq, List.find?_cons_of_pos hy]
    · rw [List.find?_cons_of_neg hy] at h
      by_cases hqy : q y = true
      · rw [List.filter_cons_of_pos hqy, List.find?_cons_of_neg hy]; exact ih h
      · rw [List.filter_cons_of_neg hqy]; exact ih h
theorem find_sub_none {α : Type} (p : α → Bool) (g t : List α) (hs : t.Sublist g) (h : g.find? p = none) : t.find? p = none := by
  rw [List.find?_eq_none] at h ⊢
  exact fun x hx => h x (hs.subset hx)
/-- what a number sees of a key's versions is what it sees of those that stay -/
theorem seG_thG (S : List Int) (b : Bool) (g : List Ent) (s : Int) (h : s ∈ S ∨ ∀ x ∈ g, x.2.1 ≤ s) : seG s (thG S b g) = seG s g := by
  unfold thG
  obtain ⟨z, hz, hz2⟩ := trim_pre b (g.filter (stayE S g))
  generalize hg' : g.filter (stayE S g) = f at *
  have h1 : f.find? (upto s) = g.find? (upto s) := by
    cases hf : g.find? (upto s) with
    | none => rw [← hg']; exact find_sub_none _ _ _ List.filter_sublist hf
    | some x =>
      rw [← hg']
      refine find_filter _ _ _ _ hf ?_
      unfold stayE
      rw [Bool.or_eq_true]
      rcases h with h | h
      · exact .inr (List.any_eq_true.2 ⟨s, h, decide_eq_true hf⟩)
      · left
        refine decide_eq_true ?_
        cases g with
        | nil => cases hf
        | cons y g =>
          rw [List.find?_cons_of_pos (show upto s y = true from decide_eq_true (h y (by simp)))] at hf
          cases hf
          rfl
  have h2 : seesE f s = seesE g s := h1
  have h3 : seG s f = seG s g := by unfold seG; rw [h2]
  rw [← h3]
  generalize trimE b f = t at *
  rw [← hz]
  unfold seG seesE
  rw [List.find?_append]
  cases t.find? (upto s) with
  | some x => rfl
  | none =>
    rw [Option.none_or]
    cases hq : z.find? (upto s) with
    | none => rfl
    | some x => exact (if_pos (hz2 x (List.mem_of_find?_eq_some hq))).symm
/-- THE STAGE'S LAW -/
theorem seen_thn (S : List Int) (b : Bool) (l : List Ent) (hl : l.Pairwise befE) (s : Int) (h : s ∈ S ∨ ∀ x ∈ l, x.2.1 ≤ s) : seen s (thn S b l) = seen s l := by
  unfold seen
  refine grp_ind (C := fun l => (s ∈ S ∨ ∀ x ∈ l, x.2.1 ≤ s) → byK (seG s) (thn S b l) = byK (seG s) l) (fun _ => by rw [thn, byK, byK]) ?_ l.length l (Nat.le_refl _) hl h
  intro k g r _ hg hr hp ih h
  rw [byK_thn (seG s) rfl S b k g r hg hr hp, byK_app (seG s) rfl k g r hg (key_ne hr), ih (h.imp id fun h x hx => h x (by simp [hx])), seG_thG S b g s (h.imp id fun h x hx => h x (by simp [hx]))]
/-- thinned twice -/
theorem thG_twice (S : List Int) (b : Bool) (g : List Ent) : thG S b (thG S b g) = thG S b g := by
  have hlast : ∀ t, (b = true → ∀ u x, t = u ++ [x] → x.2.2.1 ≠ 2) → (∀ x ∈ t, stayE S t x = true) → thG S b t = t := by
    intro t h1 h2
    unfold thG
    rw [List.filter_eq_self.2 h2]
    exact trim_same b t h1
  refine hlast _ ?_ ?_
  · rintro rfl u x hx
    exact trim_last _ u x hx
  · unfold thG
    obtain ⟨z, hz, hz2⟩ := trim_pre b (g.filter (stayE S g))
    generalize hf : g.filter (stayE S g) = f at *
    generalize trimE b f = t at *
    intro x hx
    have hxf : x ∈ f := by rw [← hz]; simp [hx]
    have hst : stayE S g x = true := by rw [← hf] at hxf; exact (List.mem_filter.1 hxf).2
    unfold stayE at hst ⊢
    rw [Bool.or_eq_true] at hst ⊢
    rcases hst with h | h
    · left
      refine decide_eq_true ?_
      have h' := of_decide_eq_true h
      cases g with
      | nil => cases h'
      | cons y g =>
        cases h'
        have : f = x :: g.filter (stayE S (x :: g)) := by rw [← hf, List.filter_cons_of_pos (by unfold stayE; simp)]
        cases t with
        | nil => cases hx
        | cons a t => rw [this] at hz; injection hz with e1 e2; rw [e1]; rfl
    · right
      obtain ⟨s, hs, h2⟩ := List.any_eq_true.1 h
      have h3 : g.find? (upto s) = some x := of_decide_eq_true h2
      have h4 : f.find? (upto s) = some x := by
        rw [← hf]
        exact find_filter _ _ _ _ h3 (by unfold stayE; rw [Bool.or_eq_true]; exact .inr h)
      refine List.any_eq_true.2 ⟨s, hs, decide_eq_true ?_⟩
      unfold seesE
      rw [← hz, List.find?_append] at h4
      cases hq : t.find? (upto s) with
      | some y => rw [hq, Option.some_or] at h4; exact h4
      | none =>
        have := List.find?_eq_none.1 hq x hx
        exact absurd (List.find?_some h3) this
theorem thn_twice (S : List Int) (b : Bool) (l : List Ent) (hl : l.Pairwise befE) : thn S b (thn S b l) = thn S b l := by
  refine grp_ind (C := fun l => thn S b (thn S b l) = thn S b l) (by rw [thn, thn, byK, byK]) ?_ l.length l (Nat.le_refl _) hl
  intro k g r _ hg hr hp ih
  have e : thn S b (g ++ r) = thG S b g ++ thn S b r := byK_app _ (thG_nil S b) k g r hg (key_ne hr)
  have e2 : thn S b (thn S b (g ++ r)) = thG S b (thG S b g) ++ thn S b (thn S b r) := byK_thn (thG S b) (thG_nil S b) S b k g r hg hr hp
  rw [e2, ih, thG_twice, ← e]
theorem thn_pw (S : List Int) (b : Bool) (l : List Ent) (hl : l.Pairwise befE) : (thn S b l).Pairwise befE := hl.sublist (thn_sub S b l hl)
theorem thn_ord (S : List Int) (b : Bool) (l : List Ent) (h : ordE l = 0) : ordE (thn S b l) = 0 :=
  ord_of _ (fun x hx => ord_all l h x ((thn_sub S b l (ord_pw l h)).subset hx)) (thn_pw S b l (ord_pw l h))
/-- at the bottom no key's last version says: gone -/
theorem thn_bottom (S : List Int) (l : List Ent) (hl : l.Pairwise befE) : ∀ u x v, thn S true l = u ++ x :: v → (∀ y ∈ v.head?, y.1 ≠ x.1) → x.2.2.1 ≠ 2 := by
  refine grp_ind (C := fun l => ∀ u x v, thn S true l = u ++ x :: v → (∀ y ∈ v.head?, y.1 ≠ x.1) → x.2.2.1 ≠ 2) ?_ ?_ l.length l (Nat.le_refl _) hl
  · intro u x v h
    rw [thn, byK] at h
    cases u <;> cases h
  · intro k g r _ hg hr hp ih u x v h hv
    have e : thn S true (g ++ r) = thG S true g ++ thn S true r := byK_app _ (thG_nil S true) k g r hg (key_ne hr)
    rw [e] at h
    have hgk : ∀ y ∈ thG S true g, y.1 = k := fun y hy => hg y ((thG_sub S true g).subset hy)
    rcases List.append_eq_append_iff.1 h with ⟨a, h1, h2⟩ | ⟨a, h1, h2⟩
    · -- u = thG ++ a, rest = a ++ x :: v
      exact ih a x v h2 hv
    · -- thG = u ++ a, x :: v = a ++ thn r
      cases a with
      | nil =>
        rw [List.nil_append] at h2
        exact ih [] x v h2.symm hv
      | cons y a =>
        injection h2 with e1 e2
        subst e1
        cases a with
        | nil => exact trim_last _ u x h1
        | cons z a =>
          rw [e2] at hv
          have hz := hv z rfl
          exact absurd ((hgk z (by rw [h1]; simp)).trans (hgk x (by rw [h1]; simp)).symm) hz
/-- elsewhere each key's first version stays -/
theorem thn_first (S : List Int) (l : List Ent) (hl : l.Pairwise befE) : ∀ u x v, l = u ++ x :: v → (∀ y ∈ u.getLast?, y.1 ≠ x.1) → x ∈ thn S false l := by
  refine grp_ind (C := fun l => ∀ u x v, l = u ++ x :: v → (∀ y ∈ u.getLast?, y.1 ≠ x.1) → x ∈ thn S false l) ?_ ?_ l.length l (Nat.le_refl _) hl
  · intro u x v h
    cases u <;> cases h
  · intro k g r hg0 hg hr hp ih u x v h hv
    have e : thn S false (g ++ r) = thG S false g ++ thn S false r := byK_app _ (thG_nil S false) k g r hg (key_ne hr)
    rw [e, List.mem_append]
    rcases List.append_eq_append_iff.1 h with ⟨a, h1, h2⟩ | ⟨a, h1, h2⟩
    · right
      refine ih a x v h2 fun y hy => ?_
      refine hv y ?_
      rw [h1, List.getLast?_append]
      have hy' : a.getLast? = some y := hy
      rw [hy']; rfl
    · cases a with
      | nil =>
        right
        rw [List.nil_append] at h2
        exact ih [] x v h2.symm (fun y hy => by cases hy)
      | cons y a =>
        injection h2 with e1 e2
        subst e1
        left
        rcases List.eq_nil_or_concat u with e3 | ⟨u', z, e3⟩
        · rw [h1, e3]
          unfold thG trimE stayE
          simp
        · have hz := hv z (by rw [e3]; simp)
          exact absurd ((hg z (by rw [h1, e3]; simp)).trans (hg x (by rw [h1]; simp)).symm) hz
end Go.Proofs.Ythfalpibhcjpgaa
end

section
/- Merge: runs merged, plainly. -/
namespace Go.Proofs.Ythfalpibhcjpgaa
set_option linter.unusedVariables false

/-- two versions of one key and number? -/
def sameN (x y : Ent) : Bool := decide (x.1 = y.1) && decide (x.2.1 = y.2.1)
def distE (x y : Ent) : Prop := sameN x y = false
instance (x y : Ent) : Decidable (distE x y) := by unfold distE; infer_instance
theorem dist_symm {x y : Ent} (h : distE x y) : distE y x := by
  unfold distE sameN at *
  rw [Bool.and_eq_false_iff] at h ⊢
  rcases h with h | h
  · exact .inl (decide_eq_false (fun e => of_decide_eq_false h e.symm))
  · exact .inr (decide_eq_false (fun e => of_decide_eq_false h e.symm))
theorem bef_tri (x y : Ent) (h : distE x y) : befE x y ∨ befE y x := by
  unfold distE sameN at h
  rw [Bool.and_eq_false_iff] at h
  unfold befE
  rcases lt_tri (bl x.1) (bl y.1) with h1 | h1 | h1
  · exact .inl (.inl h1)
  · have e := bl_inj h1
    rcases h with h | h
    · exact absurd e (of_decide_eq_false h)
    · have := of_decide_eq_false h
      rcases Int.lt_or_gt_of_ne this with h2 | h2
      · exact .inr (.inr ⟨h1.symm, h2⟩)
      · exact .inl (.inr ⟨h1, h2⟩)
  · exact .inr (.inl h1)
theorem bef_dist {x y : Ent} (h : befE x y) : distE x y := by
  unfold distE sameN
  rw [Bool.and_eq_false_iff]
  rcases h with h | ⟨_, h⟩
  · exact .inl (decide_eq_false (fun e => lt_ir _ (e ▸ h)))
  · exact .inr (decide_eq_false (fun e => by omega))
theorem pw_dist {l : List Ent} (h : l.Pairwise befE) : l.Pairwise distE := h.imp bef_dist
theorem perm_dist {l m : List Ent} (h : l.Perm m) (hl : l.Pairwise distE) : m.Pairwise distE := h.pairwise hl (fun h => dist_symm h)
/-- two lists in order, of the same versions, are one -/
theorem pw_one : ∀ (l m : List Ent), l.Perm m → l.Pairwise befE → m.Pairwise befE → l = m := by
  intro l
  induction l with
  | nil => intro m h _ _; exact (List.nil_perm.1 h).symm
  | cons x l ih =>
    intro m h hl hm
    cases m with
    | nil => exact absurd h.length_eq (by simp)
    | cons y m =>
      have hxy : x = y := by
        apply Decidable.byContradiction
        intro hne
        have hx : x ∈ m := by
          rcases List.mem_cons.1 (h.mem_iff.1 (List.mem_cons_self ..) : x ∈ y :: m) with e | e
          · exact absurd e hne
          · exact e
        have hy : y ∈ l := by
          rcases List.mem_cons.1 (h.mem_iff.2 (List.mem_cons_self ..) : y ∈ x :: l) with e | e
          · exact absurd e.symm hne
          · exact e
        exact bef_as ((List.pairwise_cons.1 hl).1 y hy) ((List.pairwise_cons.1 hm).1 x hx)
      subst hxy
      rw [ih m ((List.perm_cons x).1 h) (List.pairwise_cons.1 hl).2 (List.pairwise_cons.1 hm).2]
/-- runs merged -/
def MgOf (R : List (List Ent)) (a : List Ent) : Prop := a.Perm R.flatten ∧ a.Pairwise befE
/-- may runs be merged? -/
def okM (R : List (List Ent)) : Prop := R.length ≤ 64 ∧ R.flatten.length ≤ 65536 ∧ (∀ r ∈ R, ordE r = 0) ∧ R.flatten.Pairwise distE
/-- the best of the first runs' heads -/
def BestOf (H : List (List Ent)) (i : Nat) (b : Int) : Prop := (b = -1 ∧ ∀ j, j < i → H.getD j [] = []) ∨ ∃ q : Nat, q < i ∧ b = (q : Int) ∧ H.getD q [] ≠ [] ∧ ∀ j, j < i → H.getD j [] ≠ [] → ¬ befE ((H.getD j []).headD zEnt) ((H.getD q []).headD zEnt)
theorem best_skip (H : List (List Ent)) (i : Nat) (b : Int) (h : BestOf H i b) (h0 : H.getD i [] = []) : BestOf H (i + 1) b := by
  rcases h with ⟨rfl, h⟩ | ⟨q, hq, rfl, h1, h2⟩
  · refine .inl ⟨rfl, fun j hj => ?_⟩
    rcases Nat.lt_or_ge j i with h3 | h3
    · exact h j h3
    · obtain rfl : j = i := by omega
      exact h0
  · refine .inr ⟨q, by omega, rfl, h1, fun j hj h3 => ?_⟩
    rcases Nat.lt_or_ge j i with h4 | h4
    · exact h2 j h4 h3
    · obtain rfl : j = i := by omega
      exact absurd h0 h3
theorem best_stay (H : List (List Ent)) (i q : Nat) (h : BestOf H i (q : Int)) (h0 : ¬ befE ((H.getD i []).headD zEnt) ((H.getD q []).headD zEnt)) : BestOf H (i + 1) (q : Int) := by
  rcases h with ⟨h, _⟩ | ⟨q', hq, h, h1, h2⟩
  · omega
  · obtain rfl : q = q' := by omega
    refine .inr ⟨q, by omega, rfl, h1, fun j hj h3 => ?_⟩
    rcases Nat.lt_or_ge j i with h4 | h4
    · exact h2 j h4 h3
    · obtain rfl : j = i := by omega
      exact h0
theorem best_take (H : List (List Ent)) (i : Nat) (b : Int) (h : BestOf H i b) (h1 : H.getD i [] ≠ []) (h0 : ∀ q : Nat, b = (q : Int) → befE ((H.getD i []).headD zEnt) ((H.getD q []).headD zEnt)) : BestOf H (i + 1) (i : Int) := by
  refine .inr ⟨i, by omega, rfl, h1, fun j hj h3 => ?_⟩
  rcases Nat.lt_or_ge j i with h4 | h4
  · rcases h with ⟨_, h⟩ | ⟨q, hq, e, h5, h6⟩
    · exact absurd (h j h4) h3
    · intro h7
      exact h6 j h4 h3 (bef_tr h7 (h0 q e))
  · obtain rfl : j = i := by omega
    exact bef_ir _
theorem best_none (H : List (List Ent)) : BestOf H 0 (-1) := .inl ⟨rfl, fun j hj => by omega⟩
/-- where the merge stands -/
def MgAt (R H : List (List Ent)) (out : List Ent) : Prop := H.length = R.length ∧ (out ++ H.flatten).Perm R.flatten ∧ out.Pairwise befE ∧ (∀ h ∈ H, h.Pairwise befE) ∧ ∀ x ∈ out, ∀ y ∈ H.flatten, befE x y
theorem mg_start (R : List (List Ent)) (h : okM R) : MgAt R R [] :=
  ⟨rfl, List.Perm.refl _, List.Pairwise.nil, fun r hr => ord_pw r (h.2.2.1 r hr), fun x hx => by cases hx⟩
theorem set_perm (H : List (List Ent)) (x : Ent) (t : List Ent) : ∀ q, q < H.length → H.getD q [] = x :: t → H.flatten.Perm (x :: (H.set q t).flatten) := by
  induction H with
  | nil => intro q hq; simp at hq
  | cons h H ih =>
    intro q hq e
    cases q with
    | zero =>
      rw [List.getD_cons_zero] at e
      subst e
      rw [List.set_cons_zero, List.flatten_cons, List.flatten_cons]
      exact List.Perm.refl _
    | succ q =>
      rw [List.getD_cons_succ] at e
      rw [List.set_cons_succ, List.flatten_cons, List.flatten_cons]
      have := ih q (by simpa using hq) e
      exact (this.append_left h).trans List.perm_middle
theorem getD_mem2 {α : Type} (l : List α) (d : α) (j : Nat) (h : j < l.length) : l.getD j d ∈ l := by
  rw [List.getD_eq_getElem?_getD, List.getElem?_eq_getElem h]; exact List.getElem_mem _
theorem mem_flat (H : List (List Ent)) (y : Ent) (h : y ∈ H.flatten) : ∃ j, j < H.length ∧ y ∈ H.getD j [] := by
  obtain ⟨l, hl, hy⟩ := List.mem_flatten.1 h
  obtain ⟨j, hj, rfl⟩ := List.getElem_of_mem hl
  exact ⟨j, hj, by rw [List.getD_eq_getElem?_getD, List.getElem?_eq_getElem hj]; exact hy⟩
theorem mg_step (R H : List (List Ent)) (out : List Ent) (hok : R.flatten.Pairwise distE) (hM : MgAt R H out) (b : Int) (hb : BestOf H H.length b) (hlt : out.length < R.flatten.length) : ∃ q x t, q < H.length ∧ b = ((q : Nat) : Int) ∧ H.getD q [] = x :: t ∧ MgAt R (H.set q t) (out ++ [x]) := by
  obtain ⟨h1, h2, h3, h4, h5⟩ := hM
  have hne : H.flatten ≠ [] := by
    intro e
    rw [e, List.append_nil] at h2
    have := h2.length_eq
    omega
  rcases hb with ⟨_, hall⟩ | ⟨q, hq, hbq, hqn, hmin⟩
  · obtain ⟨y, hy⟩ := List.exists_mem_of_ne_nil _ hne
    obtain ⟨j, hj, hy⟩ := mem_flat H y hy
    rw [hall j hj] at hy
    cases hy
  · obtain ⟨x, t, e⟩ : ∃ x t, H.getD q [] = x :: t := by
      cases hc : H.getD q [] with
      | nil => exact absurd hc hqn
      | cons x t => exact ⟨x, t, rfl⟩
    rw [e, List.headD_cons] at hmin
    have hperm := set_perm H x t q hq e
    have hxt : (x :: t).Pairwise befE := e ▸ h4 _ (getD_mem2 H [] q hq)
    have hdis : (x :: (H.set q t).flatten).Pairwise distE := perm_dist hperm (List.pairwise_append.1 (perm_dist h2.symm hok)).2.1
    have hnb : ∀ y ∈ (H.set q t).flatten, ¬ befE y x := by
      intro y hy
      obtain ⟨j, hj, hy⟩ := mem_flat _ y hy
      rw [List.length_set] at hj
      by_cases hjq : j = q
      · subst hjq
        rw [List.getD_eq_getElem?_getD, List.getElem?_set_self hj] at hy
        exact bef_as ((List.pairwise_cons.1 hxt).1 y hy)
      · rw [List.getD_eq_getElem?_getD, List.getElem?_set_ne (fun h => hjq h.symm), ← List.getD_eq_getElem?_getD] at hy
        cases hc : H.getD j [] with
        | nil => rw [hc] at hy; cases hy
        | cons z s =>
          have h6 := hmin j hj (by rw [hc]; simp)
          rw [hc, List.headD_cons] at h6
          have hzs : (z :: s).Pairwise befE := hc ▸ h4 _ (getD_mem2 H [] j hj)
          rw [hc] at hy
          rcases List.mem_cons.1 hy with rfl | hy
          · exact h6
          · exact fun h7 => h6 (bef_tr ((List.pairwise_cons.1 hzs).1 y hy) h7)
    have hxb : ∀ y ∈ (H.set q t).flatten, befE x y := by
      intro y hy
      rcases bef_tri x y ((List.pairwise_cons.1 hdis).1 y hy) with h | h
      · exact h
      · exact absurd h (hnb y hy)
    refine ⟨q, x, t, hq, hbq, e, by rw [List.length_set]; exact h1, ?_, ?_, ?_, ?_⟩
    · rw [List.append_assoc]
      exact (List.Perm.append_left out hperm.symm).trans h2
    · rw [List.pairwise_append]
      refine ⟨h3, by simp, fun y hy z hz => ?_⟩
      rw [List.mem_singleton.1 hz]
      exact h5 y hy x (hperm.mem_iff.2 (by simp))
    · intro h hh
      rcases List.mem_or_eq_of_mem_set hh with h6 | rfl
      · exact h4 h h6
      · exact (List.pairwise_cons.1 hxt).2
    · intro y hy z hz
      rcases List.mem_append.1 hy with hy | hy
      · exact h5 y hy z (hperm.mem_iff.2 (List.mem_cons_of_mem _ hz))
      · rw [List.mem_singleton.1 hy]
        exact hxb z hz
theorem mg_end (R H : List (List Ent)) (out : List Ent) (hM : MgAt R H out) (hl : out.length = R.flatten.length) : MgOf R out := by
  obtain ⟨h1, h2, h3, h4, h5⟩ := hM
  have h6 := h2.length_eq
  rw [List.length_append] at h6
  have h7 : H.flatten = [] := List.eq_nil_of_length_eq_zero (by omega)
  rw [h7, List.append_nil] at h2
  exact ⟨h2, h3⟩
/-- the law's plain parts -/
theorem rev_flat (R : List (List Ent)) : R.reverse.flatten.Perm R.flatten := (List.reverse_perm R).flatten
theorem okM_rev (R : List (List Ent)) : okM R.reverse ↔ okM R := by
  have hp := rev_flat R
  unfold okM
  rw [List.length_reverse, hp.length_eq]
  have : (∀ r ∈ R.reverse, ordE r = 0) ↔ ∀ r ∈ R, ordE r = 0 := by simp
  rw [this]
  exact ⟨fun ⟨a, b, c, d⟩ => ⟨a, b, c, perm_dist hp d⟩, fun ⟨a, b, c, d⟩ => ⟨a, b, c, perm_dist hp.symm d⟩⟩
theorem mg_rev (R : List (List Ent)) (a b : List Ent) (ha : MgOf R a) (hb : MgOf R.reverse b) : a = b :=
  pw_one a b (ha.1.trans ((rev_flat R).symm.trans hb.1.symm)) ha.2 hb.2
theorem flat_may (R : List (List Ent)) (h : okM R) : ∀ x ∈ R.flatten, mayE x := by
  intro x hx
  obtain ⟨l, hl, hy⟩ := List.mem_flatten.1 hx
  exact ord_all l (h.2.2.1 l hl) x hy
theorem mg_ord (R : List (List Ent)) (h : okM R) (a : List Ent) (ha : MgOf R a) : ordE a = 0 :=
  ord_of a (fun x hx => flat_may R h x (ha.1.mem_iff.1 hx)) ha.2
theorem take_flat (R : List (List Ent)) (k : Nat) (hk : k < R.length) : (R.take (k + 1)).flatten = (R.take k).flatten ++ R.getD k [] := by
  rw [List.take_add_one, List.flatten_append, List.getD_eq_getElem?_getD, List.getElem?_eq_getElem hk]
  simp
theorem okM_two (R : List (List Ent)) (h : okM R) (k : Nat) (hk : k < R.length) (c : List Ent) (hc : MgOf (R.take k) c) : okM [c, R.getD k []] := by
  obtain ⟨h1, h2, h3, h4⟩ := h
  have e : [c, R.getD k []].flatten = c ++ R.getD k [] := by simp
  have hp : (c ++ R.getD k []).Perm (R.take (k + 1)).flatten := by
    rw [take_flat R k hk]
    exact hc.1.append_right _
  have hsub : (R.take (k + 1)).flatten.Sublist R.flatten := by
    have : R.flatten = (R.take (k + 1)).flatten ++ (R.drop (k + 1)).flatten := by rw [← List.flatten_append, List.take_append_drop]
    rw [this]; exact List.sublist_append_left _ _
  unfold okM
  rw [e]
  refine ⟨by simp, ?_, ?_, perm_dist hp.symm (h4.sublist hsub)⟩
  · rw [hp.length_eq]; exact Nat.le_trans hsub.length_le h2
  · intro r hr
    rcases List.mem_cons.1 hr with rfl | hr
    · refine ord_of _ (fun x hx => ?_) hc.2
      obtain ⟨l, hl, hy⟩ := List.mem_flatten.1 (hc.1.mem_iff.1 hx)
      exact ord_all l (h3 l (List.mem_of_mem_take hl)) x hy
    · rw [List.mem_singleton.1 hr]; exact h3 _ (getD_mem2 R [] k hk)
theorem mg_two (R : List (List Ent)) (k : Nat) (hk : k < R.length) (c d : List Ent) (hc : MgOf (R.take k) c) (hd : MgOf [c, R.getD k []] d) : MgOf (R.take (k + 1)) d := by
  refine ⟨hd.1.trans ?_, hd.2⟩
  rw [take_flat R k hk, show [c, R.getD k []].flatten = c ++ R.getD k [] by simp]
  exact hc.1.append_right _
theorem mg_zero (R : List (List Ent)) : MgOf (R.take 0) [] := ⟨by simp, List.Pairwise.nil⟩
theorem mg_eq (R : List (List Ent)) (a b : List Ent) (ha : MgOf R a) (hb : MgOf R b) : a = b := pw_one a b (ha.1.trans hb.1.symm) ha.2 hb.2
/-- the error -/
def errL : List (List Ent) → Int
  | [] => 0
  | r :: R => if ordE r = 0 then errL R else ordE r
def errM (R : List (List Ent)) : Int := if 64 < R.length ∨ 65536 < R.flatten.length then 3 else if errL R ≠ 0 then errL R else if R.flatten.Pairwise distE then 0 else 6
theorem errL_zero (R : List (List Ent)) : errL R = 0 ↔ ∀ r ∈ R, ordE r = 0 := by
  induction R with
  | nil => simp [errL]
  | cons r R ih =>
    rw [errL]
    split
    · next h => rw [ih]; simp [h]
    · next h => simp [h]
theorem errM_zero (R : List (List Ent)) : errM R = 0 ↔ okM R := by
  unfold errM okM
  split
  · next h => constructor
              · intro h2; cases h2
              · rintro ⟨h1, h2, _⟩; omega
  · next h =>
    split
    · next h2 => exact ⟨fun h3 => absurd h3 h2, fun h3 => absurd ((errL_zero R).2 h3.2.2.1) h2⟩
    · next h2 =>
      have h2' := (errL_zero R).1 (Decidable.not_not.1 h2)
      split
      · next h3 => exact ⟨fun _ => ⟨by omega, by omega, h2', h3⟩, fun _ => rfl⟩
      · next h3 => exact ⟨fun h4 => (by cases h4), fun h4 => absurd h4.2.2.2 h3⟩
theorem errM_rev (R : List (List Ent)) : errM R.reverse = 0 ↔ errM R = 0 := by rw [errM_zero, errM_zero, okM_rev]
end Go.Proofs.Ythfalpibhcjpgaa
end

section
/- Merge: which version a number sees: the closure, the search by it; may the snapshots be. -/
namespace Go.Proofs.Ythfalpibhcjpgaa
open Go.RowKit Go.Proofs.YthfalpibhcjpgaaW.PrintWords
set_option linter.unusedVariables false

theorem idx_m (n k : Nat) (h : k < n) : n - (intOf (.int .i64 ((k + 1 : Nat) : Int))).toNat < n - (intOf (.int .i64 (k : Int))).toNat := by
  show n - (k + 1) < n - k
  omega
theorem idx_m2 (n k : Nat) (h : k < n) : n - (intOf (.int .i64 ((k : Int) + 1))).toNat < n - (intOf (.int .i64 (k : Int))).toNat := by
  show n - (k + 1) < n - k
  omega
theorem idx_m3 (n k : Nat) (h : k < n) (hw : wrap64 ((k : Int) + 1) = ((k + 1 : Nat) : Int)) : n - (intOf (.int .i64 (wrap64 ((k : Int) + 1)))).toNat < n - (intOf (.int .i64 (k : Int))).toNat := by
  rw [hw]; exact idx_m n k h
theorem idx_w (n k : Nat) (h : k < n) (hn : n ≤ 140737488351232) : wrap64 ((k : Int) + 1) = ((k + 1 : Nat) : Int) ∧ IntKind.i64.wrap ((k : Int) + 1) = ((k + 1 : Nat) : Int) := ⟨by unfold wrap64; omega, by rw [IntKind.wrap_i64]; omega⟩
theorem stq {X Y Z : World} (h : Below X.heap.size X Y) (k : Below Y.heap.size Y Z) : Below X.heap.size X Z := h.trans (k.mono h.size)
theorem idx_n {α : Type} (z : α) (out : α → Bool) (l : List α) (k : Nat) (h : ∀ j, j < k → out (l.getD j z) = false) (hk : out (l.getD k z) = false) : ∀ j, j < k + 1 → out (l.getD j z) = false := by
  intro j hj
  rcases Nat.lt_or_ge j k with h2 | h2
  · exact h j h2
  · obtain rfl : j = k := by omega
    exact hk
/-- the place of the first version that a number sees, or -1 -/
def seeI (s : Int) (l : List Ent) : Int := if l.findIdx (upto s) < l.length then ((l.findIdx (upto s) : Nat) : Int) else -1
theorem seeI_none (s : Int) (l : List Ent) (h : ∀ k, k < l.length → upto s (l.getD k zEnt) = false) : seeI s l = -1 := by
  rw [seeI, if_neg]
  intro h2
  have h3 := List.findIdx_getElem (w := h2)
  have h4 := h _ h2
  rw [List.getD_eq_getElem?_getD, List.getElem?_eq_getElem h2, Option.getD_some, h3] at h4
  cases h4
theorem seeI_some (s : Int) (l : List Ent) (i : Nat) (hi : i < l.length) (h : ∀ k, k < i → upto s (l.getD k zEnt) = false) (h1 : upto s (l.getD i zEnt) = true) : seeI s l = (i : Int) := by
  have e : l.findIdx (upto s) = i := by
    rw [List.findIdx_eq hi]
    refine ⟨?_, fun j hj => ?_⟩
    · rw [List.getD_eq_getElem?_getD, List.getElem?_eq_getElem hi] at h1; exact h1
    · have := h j hj
      rwa [List.getD_eq_getElem?_getD, List.getElem?_eq_getElem (by omega), Option.getD_some] at this
  rw [seeI, e, if_pos hi]
set_option maxRecDepth 100000 in
set_option maxHeartbeats 800000 in
theorem see_any (s : Int) (b1 : Nat) (x : Ent) (w : World) (h1 : w.cell? ⟨b1, 0, none⟩ = some (.int .i64 s)) :
    Calls Try.prog 26 #[ebv x, .pointer (some ⟨b1, 0, none⟩)] w fun e w' => e = .returned (.bool (upto s x)) ∧ Below w.heap.size w w' := by
  have hX := Eb.new w x
  have bX := below_alloc w (ebo x)
  obtain ⟨x0, x1, x2, x3, -, -, -, -⟩ := hX.read
  have c1 := (bX.cell (World.block_lt_of_cell? _ _ h1)).trans h1
  rw [upto]
  clear h1 hX
  go_enter Try.func26, Try.ntmps26
  go_wp2
  go_ret
  exact ⟨rfl, bX⟩
set_option maxRecDepth 100000 in
set_option maxHeartbeats 1600000 in
theorem IdxE_any (s : Int) (P1 : Value) (A : Option Addr) (c n : Nat) (l : List Ent) (w : World) (hn : l.length = n) (hr : RdE w A c l) (hl : n ≤ 140737488351232)
    (hcl : ∀ W x, Below w.heap.size w W → Calls Try.prog 26 #[ebv x, P1] W fun e W' => e = .returned (.bool (upto s x)) ∧ Below W.heap.size W W') :
    Calls Try.prog 25 #[.slice A n c, .func (.func 26) #[] #[P1]] w fun e w' => e = .returned (.int .i64 (seeI s l)) ∧ Below w.heap.size w w' := by
  have HN := hide hn
  clear hn
  go_enter Try.func25, Try.ntmps25
  go_wp2
  go_loopw [8] (fun iv wr => ∃ k : Nat, k ≤ n ∧ iv = .int .i64 (k : Int) ∧ (∀ j, j < k → upto s (l.getD j zEnt) = false) ∧ Below w.heap.size w wr) (fun iv _ => n - (intOf iv).toNat)
  case atStart => exact ⟨0, Nat.zero_le _, rfl, fun j h => absurd h (Nat.not_lt_zero _), Below.refl _ _⟩
  case round =>
    obtain ⟨k, hk, rfl, hlo, HB⟩ := hrel
    have HLO := hide hlo
    clear hlo
    by_cases hlt : k < n
    · have hlti : (k : Int) < (n : Int) := Int.ofNat_lt.2 hlt
      obtain ⟨hw1, hw2⟩ := idx_w n k hlt hl
      obtain ⟨ad, rfl, x0, x1, x2, x3⟩ := RdE.at4 (hr.below HB) k (by rw [HN.out]; exact hlt)
      obtain ⟨y, hy⟩ : ∃ y, l.getD k zEnt = y := ⟨_, rfl⟩
      have HY := hide hy
      rw [hy] at x0 x1 x2 x3
      have hC := hcl wr y HB
      obtain ⟨b, hb⟩ : ∃ b, upto s y = b := ⟨_, rfl⟩
      rw [hb] at hC
      have HBB := hide hb
      clear hb hy hcl hr
      cases b
      · go_wp2_with (first | (go_at_call 26; (with_reducible refine hC.mono ?_); rintro e w6 ⟨rfl, HB6⟩))
        go_roundw
        case rel => exact ⟨k + 1, hlt, by go_num, idx_n zEnt (upto s) l k HLO.out (by rw [HY.out]; exact HBB.out), stq HB HB6⟩
        case measure => first | exact idx_m n k hlt | exact idx_m2 n k hlt | exact idx_m3 n k hlt hw1
      · go_wp2_with (first | (go_at_call 26; (with_reducible refine hC.mono ?_); rintro e w6 ⟨rfl, HB6⟩))
        go_ret
        exact ⟨by rw [seeI_some s l k (by rw [HN.out]; exact hlt) HLO.out (by rw [HY.out]; exact HBB.out)]; rfl, stq HB HB6⟩
    · obtain rfl : k = n := Nat.le_antisymm hk (Nat.not_lt.1 hlt)
      clear hcl hr
      go_wp2
      go_ret
      exact ⟨by rw [seeI_none s l (fun j hj => HLO.out j (by rw [← HN.out]; exact hj))]; rfl, HB⟩
set_option maxRecDepth 100000 in
set_option maxHeartbeats 800000 in
theorem sees_any (s : Int) (A : Option Addr) (c n : Nat) (l : List Ent) (w : World) (hn : l.length = n) (hr : RdE w A c l) (hl : n ≤ 140737488351232) :
    Calls Try.prog 19 #[.slice A n c, .int .i64 s] w fun e w' => e = .returned (.int .i64 (seeI s l)) ∧ Below w.heap.size w w' := by
  have b1 := below_alloc w (.cells #[.int .i64 s] 3)
  have c1 := blk_cell (heap_alloc_new w (.cells #[.int .i64 s] 3)) 0
  have hI := IdxE_any s (.pointer (some ⟨w.heap.size, 0, none⟩)) A c n l _ hn (hr.below b1) hl (fun W x hB => see_any s w.heap.size x W ((hB.cell (World.block_lt_of_cell? _ _ c1)).trans c1))
  clear hr hn
  go_enter Try.func19, Try.ntmps19
  go_wp2_with (first | (go_at_call 25; (with_reducible refine hI.mono ?_); rintro e w6 ⟨rfl, HB6⟩))
  go_ret
  exact ⟨rfl, stq b1 HB6⟩
/-- a snapshot that may not be -/
def outS (n : Int) : Bool := decide (n < 0) || decide (1099511627776 < n)
set_option maxRecDepth 100000 in
set_option maxHeartbeats 800000 in
theorem outS_any (n : Int) (w : World) : Calls Try.prog 17 #[.int .i64 n] w fun e w' => e = .returned (.bool (outS n)) ∧ w = w' := by
  rw [outS]
  by_cases h1 : n < 0
  · rw [decide_eq_true h1]
    go_enter Try.func17, Try.ntmps17
    go_wp2
    go_ret
    exact ⟨rfl, rfl⟩
  · rw [decide_eq_false h1]
    go_enter Try.func17, Try.ntmps17
    go_wp2
    go_ret
    exact ⟨by first | rfl | simp, rfl⟩
abbrev RdI := Rd kInt
set_option maxRecDepth 100000 in
set_option maxHeartbeats 1600000 in
theorem IdxI_any (A : Option Addr) (c n : Nat) (l : List Int) (w : World) (hn : l.length = n) (hr : RdI w A c l) (hl : n ≤ 140737488351232) :
    Calls Try.prog 23 #[.slice A n c, .func (.func 17) #[] #[]] w fun e w' => ∃ r, e = .returned (.int .i64 r) ∧ ((0 ≤ r ∧ l.any outS = true) ∨ (r = -1 ∧ l.any outS = false)) ∧ w = w' := by
  have HN := hide hn
  clear hn
  go_enter Try.func23, Try.ntmps23
  go_wp2
  go_loopw [8] (fun iv wr => ∃ k : Nat, k ≤ n ∧ iv = .int .i64 (k : Int) ∧ (∀ j, j < k → outS (l.getD j 0) = false) ∧ wr = w) (fun iv _ => n - (intOf iv).toNat)
  case atStart => exact ⟨0, Nat.zero_le _, rfl, fun j h => absurd h (Nat.not_lt_zero _), rfl⟩
  case round =>
    obtain ⟨k, hk, rfl, hlo, rfl⟩ := hrel
    have HLO := hide hlo
    clear hlo
    by_cases hlt : k < n
    · have hlti : (k : Int) < (n : Int) := Int.ofNat_lt.2 hlt
      obtain ⟨hw1, hw2⟩ := idx_w n k hlt hl
      obtain ⟨ad, rfl, x0⟩ := Rd.int_at hr k (by rw [HN.out]; exact hlt)
      obtain ⟨y, hy⟩ : ∃ y, l.getD k 0 = y := ⟨_, rfl⟩
      have HY := hide hy
      rw [hy] at x0
      have hC := fun W => outS_any y W
      obtain ⟨b, hb⟩ : ∃ b, outS y = b := ⟨_, rfl⟩
      rw [hb] at hC
      have HBB := hide hb
      clear hb hy hr
      cases b
      · go_wp2_with (first | (go_at_call 17; (with_reducible refine (hC _).mono ?_); rintro e w6 ⟨rfl, rfl⟩))
        go_roundw
        case rel => exact ⟨k + 1, hlt, by go_num, idx_n 0 outS l k HLO.out (by rw [HY.out]; exact HBB.out), by first | rfl | trivial⟩
        case measure => first | exact idx_m n k hlt | exact idx_m2 n k hlt | exact idx_m3 n k hlt hw1
      · go_wp2_with (first | (go_at_call 17; (with_reducible refine (hC _).mono ?_); rintro e w6 ⟨rfl, rfl⟩))
        go_ret
        exact ⟨_, rfl, .inl ⟨Int.natCast_nonneg _, List.any_eq_true.2 ⟨y, by rw [← HY.out, List.getD_eq_getElem?_getD, List.getElem?_eq_getElem (by rw [HN.out]; exact hlt)]; exact List.getElem_mem _, HBB.out⟩⟩, rfl⟩
    · obtain rfl : k = n := Nat.le_antisymm hk (Nat.not_lt.1 hlt)
      clear hr
      go_wp2
      go_ret
      refine ⟨_, rfl, .inr ⟨rfl, ?_⟩, rfl⟩
      rw [List.any_eq_false]
      intro y hy
      obtain ⟨j, hj, rfl⟩ := List.getElem_of_mem hy
      have := HLO.out j (by rw [← HN.out]; exact hj)
      rw [List.getD_eq_getElem?_getD, List.getElem?_eq_getElem hj, Option.getD_some] at this
      rw [this]; decide
set_option maxRecDepth 100000 in
set_option maxHeartbeats 800000 in
theorem CntI_any (A : Option Addr) (c n : Nat) (l : List Int) (w : World) (hn : l.length = n) (hr : RdI w A c l) (hl : n ≤ 140737488351232) :
    Calls Try.prog 16 #[.slice A n c, .func (.func 17) #[] #[]] w fun e w' => e = .returned (.bool (l.any outS)) ∧ w = w' := by
  have hI := IdxI_any A c n l w hn hr hl
  clear hr hn
  go_enter Try.func16, Try.ntmps16
  go_wp2_with (first | (go_at_call 23; (with_reducible refine hI.mono ?_); rintro e w6 ⟨r, rfl, hr, rfl⟩))
  go_ret
  refine ⟨?_, rfl⟩
  rcases hr with ⟨h1, h2⟩ | ⟨h1, h2⟩
  · rw [h2, show decide (0 ≤ r) = true from decide_eq_true h1]; rfl
  · rw [h2, h1]; rfl
end Go.Proofs.Ythfalpibhcjpgaa
end

section
/- Arguments opened: versions, numbers. -/
namespace Go.Proofs.Ythfalpibhcjpgaa
open Go.ChangeShapes Go.WideShapes Go.ChangeAt Go.RowKit Go.Proofs.YthfalpibhcjpgaaW.PrintWords
set_option maxRecDepth 100000
set_option linter.unusedVariables false
instance : Inhabited Ent := ⟨zEnt⟩
theorem open_ents {H : Type} {enc : TypeId × Value → H} {W : World} {base : Nat} {v : Value} {x : DataW H} {p : List MemPlace} (hv : Value.okWide Try.prog W .any base 22 v)
    (h : DataW.Trod enc Try.prog W 0 (fun _ => true) true 22 v x p) : ∃ A c l, v = .slice A l.length c ∧ RdE W A c l ∧ (∀ B, (∀ y ∈ x.weights Try.prog 22, y ≤ B) → l.length * 48 ≤ B) := by
  have o1 := opens_struct Try.underlying36 (d := kEnt) (by kernel_rfl) (opensF_cons rfl (by kernel_rfl) (opens_string Try.underlying9) (opensF_cons rfl (by kernel_rfl) (opens_int Try.underlying3) (opensF_cons rfl (by kernel_rfl) (opens_int Try.underlying3) (opensF_one rfl (by kernel_rfl) (opens_string Try.underlying9)))))
  have o2 := opens_slice (t := 22) Try.underlying22 (by kernel_rfl) o1
  obtain ⟨A, c, l, hv, hl, hC, hS, hU⟩ := open_slice_of Try.underlying22 o2 hv h
  refine ⟨A, c, l, hv, ⟨hl, hC⟩, fun B hB => ?_⟩
  have h1 := (hS B hB).1
  have e : Try.prog.bytesOf 36 = 48 := by kernel_rfl
  rw [e] at h1
  exact h1
theorem open_ints {H : Type} {enc : TypeId × Value → H} {W : World} {base : Nat} {v : Value} {x : DataW H} {p : List MemPlace} (hv : Value.okWide Try.prog W .any base 23 v)
    (h : DataW.Trod enc Try.prog W 0 (fun _ => true) true 23 v x p) : ∃ A c l, v = .slice A l.length c ∧ RdI W A c l ∧ (∀ B, (∀ y ∈ x.weights Try.prog 23, y ≤ B) → l.length ≤ B) := by
  have o2 := opens_slice (t := 23) Try.underlying23 (by kernel_rfl) (opens_int Try.underlying3)
  obtain ⟨A, c, l, hv, hl, hC, hS, hU⟩ := open_slice_of Try.underlying23 o2 hv h
  refine ⟨A, c, l, hv, ⟨hl, hC⟩, fun B hB => ?_⟩
  have h1 := (hS B hB).1
  have e : Try.prog.bytesOf 3 = 8 := by kernel_rfl
  rw [e] at h1
  omega
end Go.Proofs.Ythfalpibhcjpgaa
end

section
/- A range over a function whose iterator writes into a variable of its own: the statement, out of the iterator's word and of one round's walk. -/
namespace Go.Proofs.Ythfalpibhcjpgaa
open Go.RowKit Go.Shelf Go.Proofs.YthfalpibhcjpgaaW.PrintWords
set_option linter.unusedVariables false

/-- all blocks but the loop's two (D, D + 1) and one more lie as they lay -/
structure Ac (c0 D : Nat) (A B : World) : Prop where
  base : Below 0 A B
  block : ∀ j, j ≠ D → j ≠ D + 1 → j ≠ c0 → j < A.heap.size → B.heap[j]? = A.heap[j]?
theorem Ac.size {c0 D : Nat} {A B : World} (h : Ac c0 D A B) : A.heap.size ≤ B.heap.size := h.base.size
theorem Ac.below {c0 D b : Nat} {A B : World} (h : Ac c0 D A B) (h1 : b ≤ D) (h2 : b ≤ c0) (h3 : b ≤ A.heap.size) : Below b A B := ⟨h.base.os, h.base.tape, h.base.output, h.base.size, fun j hj => h.block j (by omega) (by omega) (by omega) (by omega)⟩
theorem Ac.of_below {c0 D : Nat} {A B : World} (h : Below A.heap.size A B) : Ac c0 D A B := ⟨h.mono (Nat.zero_le _), fun j _ _ _ hl => h.block j hl⟩
theorem Ac.trans {c0 D : Nat} {A B C : World} (h : Ac c0 D A B) (k : Ac c0 D B C) : Ac c0 D A C := ⟨h.base.trans k.base, fun j h0 h1 h2 hl => (k.block j h0 h1 h2 (Nat.lt_of_lt_of_le hl h.size)).trans (h.block j h0 h1 h2 hl)⟩
theorem Ac.put {c0 D : Nat} (A : World) (o : Obj) (hl : D + 1 < A.heap.size) : Ac c0 D A (A.putObj (D + 1) o) := ⟨((Below.refl D A).grown (grownBy_putObj' A (D + 1) o) (by omega) (fun k e => by cases e; omega)).mono (Nat.zero_le _), fun j _ h1 _ _ => World.putObj_heap_other h1⟩
/-- .. and all others but the iterator's own -/
structure Aw (c0 : Nat) (A B : World) : Prop where
  base : Below 0 A B
  block : ∀ j, j ≠ c0 → j < A.heap.size → B.heap[j]? = A.heap[j]?
theorem Aw.size {c0 : Nat} {A B : World} (h : Aw c0 A B) : A.heap.size ≤ B.heap.size := h.base.size
theorem Aw.ac {c0 D : Nat} {A B : World} (h : Aw c0 A B) : Ac c0 D A B := ⟨h.base, fun j _ _ h2 hl => h.block j h2 hl⟩
theorem Aw.of_below {c0 : Nat} {A B : World} (h : Below A.heap.size A B) : Aw c0 A B := ⟨h.mono (Nat.zero_le _), fun j _ hl => h.block j hl⟩
theorem Aw.set {c0 : Nat} (B : World) (v : Value) : Aw c0 B (B.setCell ⟨c0, 0, none⟩ v) := ⟨(Below.refl 0 B).setCell (p := ⟨c0, 0, none⟩) (Nat.zero_le _) _, fun j hj _ => Below.heap_setCell B ⟨c0, 0, none⟩ _ j hj⟩
/-- the loop's two blocks stay, and the iterator's -/
structure Keeps (own : Nat → Prop) (D : Nat) (A B : World) : Prop where
  size : A.heap.size ≤ B.heap.size
  block : ∀ j, own j ∨ j = D ∨ j = D + 1 → j < D + 2 → B.heap[j]? = A.heap[j]?

/-- the iterator's word: from place to place, in order, if each round goes on; what is 'own' of the caller's world the rounds leave alone; c0 the iterator's variable -/
def IterG (P : Program) (gf : Nat) (lb : Array Value) (own : Nat → Prop) (c0 m : Nat) (next : Nat → Nat) (V : Nat → Array Value → World → Prop) (w : World) : Prop :=
  ∀ (n l : Nat) (J Jx : Nat → World → Prop) (W : World), (∀ j, own j → j < w.heap.size → W.heap[j]? = w.heap[j]?) → w.heap.size ≤ W.heap.size →
    (∀ k A B, Aw c0 A B → J k A → J k B) →
    (∀ k vs A, k < m → W.heap.size ≤ A.heap.size → V k vs A → J k A → YieldAt Fence.wide (n - 1) P l vs A fun e B => (e = .returned (.bool true) ∧ J (next k) B ∧ (∀ j, own j → j < w.heap.size → B.heap[j]? = A.heap[j]?) ∧ A.heap.size ≤ B.heap.size) ∨ (e = .returned (.bool false) ∧ Jx k B)) →
    J 0 W → CallsIn Fence.wide n P gf (#[.func (.yield l) #[] #[]] ++ lb) W fun e B => (∃ v, e = .returned v) ∧ (J m B ∨ ∃ k, k < m ∧ Jx k B)

/-- how a round's body may end -/
def roundEndG (own : Nat → Prop) (D : Nat) (next : Nat → Nat) (I : Nat → World → Prop) (k : Nat) (W : World) : Exit → Act → World → Prop
  | .normal, _, B => Keeps own D W B ∧ I (next k) B
  | _, _, _ => False

theorem range_iterG {n : Nat} {P : Program} {g : Operand} {ps : Array Tmp} {assign body : Code} {Q : Exit → Act → World → Prop} {a : Act} {w : World} {gf : Nat} {lb : Array Value} {c0 m D : Nat} {next : Nat → Nat} {own : Nat → Prop} {V : Nat → Array Value → World → Prop}
    (hD : w.heap.size = D) (hc0 : c0 < D) (hg : a.eval g = .func (.func gf) #[] lb) (eg : ∀ args w, (callFunc gf args).run P w = .ok (.enter gf args) w) (hps : ∀ k vs W, V k vs W → vs.size = ps.size)
    (hit : IterG P gf lb own c0 m next V w) (I : Nat → World → Prop) (hI : ∀ k A B, Ac c0 D A B → I k A → I k B) (h0 : I 0 w)
    (hround : ∀ (l k : Nat) (vs : Array Value) (W : World), k < m → D + 2 ≤ W.heap.size → V k vs W → I k W →
      assign.wpIn (Fence.wide.inRound l) (n - 1 - 1) P (Exit.then (fun a₁ W₁ => Below W.heap.size W W₁ ∧ ∀ W₂, Ac c0 D W₁ W₂ → I k W₂ → body.wpIn (Fence.wide.inRound l) (n - 1 - 1) P (roundEndG own D next I k W₂) a₁ W₂) (fun _ _ _ => False)) { tmps := (ps.zip vs).foldl (fun t (p, v) => t.setIfInBounds p v) a.tmps, defers := [] } W)
    (hdone : ∀ (W : World), I m W → D ≤ W.heap.size → W.heap[D]? = some (.deferred (some [])) → Q .normal { a with defers := { target := .collected D, args := #[] } :: a.defers } W) :
    (Code.rangeFunc g ps assign body).wpIn Fence.wide n P Q a w := by
  refine wpIn_rangeFunc fun fn hfn => ?_
  let rec₀ : LoopState → Option Code → Loop := fun st pe => { state := st, pending := pe, fn := fn, tmps := a.tmps, params := ps, assign := assign, body := body, defers := w.heap.size }
  let W1 : World := (w.alloc (.deferred (some []))).alloc (.loop (rec₀ .ready none))
  have s1 : W1.heap.size = D + 2 := by simp [W1, hD]
  have r1 : W1.heap[D + 1]? = some (.loop (rec₀ .ready none)) := by
    have h := World.alloc_heap_new (w.alloc (.deferred (some []))) (.loop (rec₀ .ready none))
    rw [World.size_alloc, hD] at h
    exact h
  have d1 : W1.heap[D]? = some (.deferred (some [])) := by
    rw [← hD]
    exact (Below.heap_alloc _ _ _ (by simp)).trans (World.alloc_heap_new w _)
  have hb1 : Below D w W1 := ((Below.refl _ _).alloc (by omega) _).alloc (by simp; omega) _
  have ha1 : Ac c0 D w W1 := ⟨hb1.mono (Nat.zero_le _), fun j _ _ _ hl => hb1.block j (by omega)⟩
  refine ⟨D + 1, [{ target := .collected D, args := #[] }], W1, { target := .fn (.func gf) lb, args := #[.func (.yield (D + 1)) #[] #[]] }, W1, gf, #[.func (.yield (D + 1)) #[] #[]] ++ lb, W1, ?_, ?_, fun _ _ => trivial, ?_, fun h => absurd h (by simp [Fence.wide]), ?_⟩
  · subst hD
    exact run_enterLoop_outer _ _ _ _ _
  · simp only [resolve, hg]
    simp [go_sem]
  · simp [invoke, go_sem, eg]
  · refine (hit (n - 1) (D + 1) (fun k A => I k A ∧ A.heap[D + 1]? = some (.loop (rec₀ .ready none)) ∧ A.heap[D]? = some (.deferred (some [])) ∧ D ≤ A.heap.size)
      (fun k A => False) W1 (fun j _ hj => hb1.block j (by omega)) (by omega) ?_ ?_
      ⟨hI _ _ _ ha1 h0, r1, d1, by omega⟩).mono ?_
    · rintro k A B hAB ⟨hi, hl, hk, hs⟩
      have hlt : D + 1 < A.heap.size := (Array.getElem?_eq_some_iff.1 hl).1
      exact ⟨hI _ _ _ hAB.ac hi, (hAB.block _ (by omega) hlt).trans hl, (hAB.block _ (by omega) (by omega)).trans hk, Nat.le_trans hs hAB.size⟩
    · rintro k vs A hkN hAs hVk ⟨hi, hl, hk, hs⟩
      have hlt : D + 1 < A.heap.size := (Array.getElem?_eq_some_iff.1 hl).1
      refine ⟨fn, _, assign, body, run_yield hl (hps _ _ _ hVk), roundIn_of_wpIn hfn (wpIn_mono (hround _ k vs A hkN (by omega) hVk hi) ?_)⟩
      intro e a₁ W₁ he
      cases e with
      | normal => ?_
      | ret => exact he.elim
      | exit id => exact he.elim
      | goto t => exact he.elim
      | panic ch => exact he.elim
      | outgrown => exact he.elim
      obtain ⟨hb₁, hbody⟩ := he
      have l1 : W₁.heap[D + 1]? = some (.loop (rec₀ .ready none)) := (hb₁.block _ hlt).trans hl
      have k1 : W₁.heap[D]? = some (.deferred (some [])) := (hb₁.block _ (by omega)).trans hk
      have hlt1 : D + 1 < W₁.heap.size := Nat.lt_of_lt_of_le hlt hb₁.size
      refine ⟨_, run_beginRound l1 rfl, ?_⟩
      have l2 : (W₁.putObj (D + 1) (.loop (rec₀ .busy none))).heap[D + 1]? = some (.loop (rec₀ .busy none)) := World.putObj_heap_same hlt1
      have k2 : (W₁.putObj (D + 1) (.loop (rec₀ .busy none))).heap[D]? = some (.deferred (some [])) := (World.putObj_heap_other (by omega)).trans k1
      have hp1 : Ac c0 D W₁ (W₁.putObj (D + 1) (.loop (rec₀ .busy none))) := Ac.put W₁ _ hlt1
      have i2 : I k (W₁.putObj (D + 1) (.loop (rec₀ .busy none))) := hI _ _ _ ((Ac.of_below hb₁).trans hp1) hi
      refine wpIn_mono (hbody _ hp1 i2) ?_
      intro e a3 B hp
      have fin : ∀ (jump : Option Code), Keeps own D (W₁.putObj (D + 1) (.loop (rec₀ .busy none))) B →
          (Instr.endRound (D + 1) jump).run P B = .ok (.bool jump.isNone) (B.putObj (D + 1) (.loop (rec₀ (if jump.isNone then .ready else .done) jump))) ∧
          (B.putObj (D + 1) (.loop (rec₀ (if jump.isNone then .ready else .done) jump))).heap[D + 1]? = some (.loop (rec₀ (if jump.isNone then .ready else .done) jump)) ∧
          (B.putObj (D + 1) (.loop (rec₀ (if jump.isNone then .ready else .done) jump))).heap[D]? = some (.deferred (some [])) ∧ Ac c0 D B (B.putObj (D + 1) (.loop (rec₀ (if jump.isNone then .ready else .done) jump))) ∧
          (∀ j, own j → j < w.heap.size → (B.putObj (D + 1) (.loop (rec₀ (if jump.isNone then .ready else .done) jump))).heap[j]? = A.heap[j]?) ∧ D ≤ (B.putObj (D + 1) (.loop (rec₀ (if jump.isNone then .ready else .done) jump))).heap.size ∧
          A.heap.size ≤ (B.putObj (D + 1) (.loop (rec₀ (if jump.isNone then .ready else .done) jump))).heap.size := fun jump hkp => by
        have sz := hkp.size
        rw [World.putObj_size] at sz
        have szb := hb₁.size
        have l3 := (hkp.block (D + 1) (.inr (.inr rfl)) (by omega)).trans l2
        have k3 := (hkp.block D (.inr (.inl rfl)) (by omega)).trans k2
        refine ⟨run_endRound jump l3, World.putObj_heap_same (by omega), (World.putObj_heap_other (by omega)).trans k3, Ac.put B _ (by omega), fun j h1 h2 => ?_, by rw [World.putObj_size]; omega, by rw [World.putObj_size]; omega⟩
        rw [World.putObj_heap_other (by omega), hkp.block j (.inl h1) (by omega), World.putObj_heap_other (by omega), hb₁.block j (by omega)]
      cases e with
      | normal =>
        obtain ⟨hpa, hin⟩ := hp
        obtain ⟨f1, f2, f3, f4, f5, f6, f7⟩ := fin none hpa
        exact ⟨_, _, f1, .inl ⟨rfl, ⟨hI _ _ _ f4 hin, f2, f3, f6⟩, f5, f7⟩⟩
      | ret => exact hp.elim
      | exit id => exact hp.elim
      | goto t => exact hp.elim
      | panic ch => exact hp.elim
      | outgrown => exact hp.elim
    · rintro e B ⟨⟨v, rfl⟩, (⟨hi, hl, hk, hs⟩ | ⟨k, hkN, hi⟩)⟩
      · have hlt : D + 1 < B.heap.size := (Array.getElem?_eq_some_iff.1 hl).1
        refine ⟨none, _, run_endLoop hl (by simp [rec₀]), ?_⟩
        exact hdone _ (hI _ _ _ (Ac.put B _ hlt) hi) (by rw [World.putObj_size]; exact hs) ((World.putObj_heap_other (by omega)).trans hk)
      · exact hi.elim
end Go.Proofs.Ythfalpibhcjpgaa
end

section
/- Merge: the versions of each key: where they begin; the maker of the iterator, the iterator. -/
namespace Go.Proofs.Ythfalpibhcjpgaa
open Go.RowKit Go.Shelf Go.Proofs.YthfalpibhcjpgaaW.PrintWords
set_option linter.unusedVariables false

/-- how many of the first versions have the first one's key -/
def runK : List Ent → Nat
  | [] => 0
  | x :: t => (t.takeWhile (isK x.1)).length + 1
theorem run_cut (x : Ent) (t : List Ent) : (x :: t).take (runK (x :: t)) = x :: t.takeWhile (isK x.1) ∧ (x :: t).drop (runK (x :: t)) = t.dropWhile (isK x.1) := by
  have h := List.takeWhile_append_dropWhile (p := isK x.1) (l := t)
  have h1 : t.take (t.takeWhile (isK x.1)).length = t.takeWhile (isK x.1) := by
    conv => lhs; rw [← h]
    rw [List.take_left']
    rw [h]
  have h2 : t.drop (t.takeWhile (isK x.1)).length = t.dropWhile (isK x.1) := by
    conv => lhs; rw [← h]
    rw [List.drop_left']
    rw [h]
  rw [runK, List.take_succ_cons, List.drop_succ_cons, h1, h2]
  exact ⟨rfl, rfl⟩
theorem run_le (l : List Ent) : runK l ≤ l.length := by
  cases l with
  | nil => exact Nat.le_refl _
  | cons x t =>
    have := (List.takeWhile_sublist (isK x.1) (l := t)).length_le
    rw [runK, List.length_cons]; omega
theorem run_pos (l : List Ent) (h : l ≠ []) : 1 ≤ runK l := by
  cases l with
  | nil => exact absurd rfl h
  | cons x t => rw [runK]; omega
theorem byK_cut {β : Type} (f : List Ent → List β) (l : List Ent) (h : l ≠ []) : byK f l = f (l.take (runK l)) ++ byK f (l.drop (runK l)) := by
  cases l with
  | nil => exact absurd rfl h
  | cons x t =>
    obtain ⟨h1, h2⟩ := run_cut x t
    rw [h1, h2, byK]
theorem run_at (l : List Ent) (n : Nat) (h1 : 1 ≤ n) (hn : n ≤ l.length) (h : ∀ j, j < n → (l.getD j zEnt).1 = (l.getD 0 zEnt).1) (he : n < l.length → (l.getD n zEnt).1 ≠ (l.getD 0 zEnt).1) : runK l = n := by
  cases l with
  | nil => simp at hn; omega
  | cons x t =>
    rw [List.getD_cons_zero] at h he
    obtain ⟨m, rfl⟩ : ∃ m, n = m + 1 := ⟨n - 1, by omega⟩
    rw [List.length_cons] at hn he
    have e : t.takeWhile (isK x.1) = t.take m := by
      have hs : t = t.take m ++ t.drop m := (List.take_append_drop m t).symm
      conv => lhs; rw [hs]
      have hall : ∀ y ∈ t.take m, isK x.1 y = true := by
        intro y hy
        obtain ⟨j, hj, rfl⟩ := List.getElem_of_mem hy
        rw [List.length_take] at hj
        have := h (j + 1) (by omega)
        rw [List.getD_cons_succ, List.getD_eq_getElem?_getD, List.getElem?_eq_getElem (by omega), Option.getD_some] at this
        rw [List.getElem_take]
        exact decide_eq_true this
      rw [List.takeWhile_append_of_pos hall]
      have : (t.drop m).takeWhile (isK x.1) = [] := by
        cases hd : t.drop m with
        | nil => rfl
        | cons y r =>
          have hml : m < t.length := by
            apply Decidable.byContradiction
            intro h3
            rw [List.drop_eq_nil_of_le (by omega)] at hd
            cases hd
          have h4 := he (by omega)
          rw [List.getD_cons_succ, List.getD_eq_getElem?_getD, List.getElem?_eq_getElem hml, Option.getD_some] at h4
          rw [List.drop_eq_getElem_cons hml] at hd
          injection hd with e1 e2
          rw [List.takeWhile_cons_of_neg]
          rw [← e1]
          simpa [isK] using h4
      rw [this, List.append_nil]
    rw [runK, e, List.length_take]
    omega
/-- where the next key's versions begin -/
def nextK (l : List Ent) (p : Nat) : Nat := p + runK (l.drop p)
theorem next_le (l : List Ent) (p : Nat) (h : p < l.length) : p < nextK l p ∧ nextK l p ≤ l.length := by
  have h1 := run_le (l.drop p)
  rw [List.length_drop] at h1
  have h2 := run_pos (l.drop p) (fun e => by have := congrArg List.length e; rw [List.length_drop, List.length_nil] at this; omega)
  unfold nextK
  omega
theorem byK_next {β : Type} (f : List Ent → List β) (l : List Ent) (p : Nat) (h : p < l.length) : byK f (l.drop p) = f ((l.drop p).take (runK (l.drop p))) ++ byK f (l.drop (nextK l p)) := by
  rw [byK_cut f (l.drop p) (fun e => by have := congrArg List.length e; rw [List.length_drop, List.length_nil] at this; omega), List.drop_drop]
  rfl
theorem byK_end {β : Type} (f : List Ent → List β) (l : List Ent) : byK f (l.drop l.length) = [] := by
  rw [List.drop_length, byK]
theorem add_zero_ (a : Addr) : a.add 0 = a := by cases a; simp [Addr.add]
theorem wide_fn (n : Nat) : Fence.wide.fn n := trivial
theorem wide_depth (d : Nat) : Fence.wide.depth.isSome = true → 1 ≤ d := fun h => absurd h (by simp [Fence.wide])
/-- versions in a variable -/
def Bs (w : World) (b : Nat) (v : Value) (ty : TypeId) : Prop := w.heap[b]? = some (.cells #[v] ty)
theorem byKey_any (A : Option Addr) (n c : Nat) (w : World) :
    Calls Try.prog 18 #[.slice A n c] w fun e w' => e = .returned (.func (.func 24) #[] #[.pointer (some ⟨w.heap.size, 0, none⟩)]) ∧ w'.heap.size = w.heap.size + 1 ∧ Bs w' w.heap.size (.slice A n c) 22 ∧ Below w.heap.size w w' := by
  go_enter Try.func18, Try.ntmps18
  go_wp2
  go_ret
  exact ⟨rfl, by simp, heap_alloc_new w _, (Below.refl _ _).alloc (Nat.le_refl _) _⟩
theorem RdE.same {w W : World} {A : Option Addr} {c : Nat} {xs : List Ent} (h : RdE w A c xs) (hs : ∀ ad, A = some ad → 0 < xs.length → W.heap[ad.block]? = w.heap[ad.block]?) : RdE W A c xs := by
  refine ⟨h.1, h.2.1, h.2.2.1, fun hp => ?_⟩
  obtain ⟨ad, e, hc⟩ := h.2.2.2 hp
  refine ⟨ad, e, fun j x hx => ?_⟩
  obtain ⟨cs, h1, h2, h3⟩ := hc j x hx
  have hcs := kEnt_K h2
  refine ⟨cs, h1, by rw [hcs]; exact kEnt_mk _ _, fun i u hu => (World.cell?_of_block ?_).trans (h3 i u hu)⟩
  have hb : (ad.add (j * kEnt.sz + i)).block = ad.block := by unfold Addr.add; split <;> rfl
  rw [hb]
  exact hs ad e hp
end Go.Proofs.Ythfalpibhcjpgaa
end

section
/- Merge: the iterator over the versions of each key, walked. -/
namespace Go.Proofs.Ythfalpibhcjpgaa
open Go.RowKit Go.Shelf Go.Proofs.YthfalpibhcjpgaaW.PrintWords
set_option linter.unusedVariables false

theorem ldSl (W : World) (a : Addr) (A : Option Addr) (n c : Nat) (h0 : W.cell? a = some (.slice A n c)) : (loadVar 22 a).run Try.prog W = .ok (.slice A n c) W := by
  have hu := Try.underlying22
  first
  | (simp [go_sem, h0]; done)
  | (simp [go_sem, hu, h0]; done)
theorem quiet_loadW {P : Program} {ops : Array Oper} {C : World → Prop} {Q : Act → Prop} {o : Oper} {rest : List Oper} {a : Act} (hw : Region.wanted o (yielded ops a.tmps) = true) (ty : TypeId) (x : Operand) (ho : o.op = .load ty x)
    (ad : Addr) (hx : a.eval x = .pointer (some ad)) (v : Value) (h : ∀ w, C w → (loadVar ty ad).run P w = .ok v w) (hk : wpQuiet P ops C Q rest (a.put o.dst v)) : wpQuiet P ops C Q (o :: rest) a :=
  wpQuiet_step fun K hK => by
    rw [if_pos hw]
    refine ⟨v, fun w hC => ?_, hK _ hk⟩
    have hr : (execOp a.eval o).run P w = .ok (.value v) w := by
      unfold execOp
      simp only [ho, hx, Instr.loadAt, Instr.sureAddr, Sem.run_bind, Sem.run_pure, Result.andThen_ok, h w hC]
    unfold Oper.quietAt
    rw [hr]
    exact ⟨rfl, rfl⟩
/-- how long the row in a variable is -/
def lenC (b : Nat) (w : World) : Nat := match w.cell? ⟨b, 0, none⟩ with
  | some (.slice _ n _) => n
  | _ => 0
theorem lenC_of {w : World} {b n c : Nat} {A : Option Addr} {ty : TypeId} (h : Bs w b (.slice A n c) ty) : lenC b w = n := by
  unfold lenC
  rw [blk_cell h 0]
  rfl
/-- what a round hands out -/
def valsK (A : Option Addr) (l : List Ent) (p : Nat) (vs : Array Value) (W : World) : Prop :=
  ∃ Ax cx, vs = #[.slice Ax (runK (l.drop p)) cx] ∧ RdE W Ax cx ((l.drop p).take (runK (l.drop p))) ∧ ∀ ad, Ax = some ad → ∃ a0, A = some a0 ∧ ad.block = a0.block
theorem same_next (G : List Ent) (q : Nat) (h : ∀ j, j < q → (G.getD j zEnt).1 = (G.getD 0 zEnt).1) (hq : (G.getD q zEnt).1 = (G.getD 0 zEnt).1) : ∀ j, j < q + 1 → (G.getD j zEnt).1 = (G.getD 0 zEnt).1 := by
  intro j hj
  rcases Nat.lt_or_ge j q with h2 | h2
  · exact h j h2
  · obtain rfl : j = q := by omega
    exact hq
theorem cut_block {sz : Nat} {A : Option Addr} {c k : Nat} {ad : Addr} (h : cutK sz A c k = some ad) : ∃ a0, A = some a0 ∧ ad.block = a0.block := by
  unfold cutK at h
  split at h
  · exact ⟨ad, h, rfl⟩
  · cases A with
    | none => cases h
    | some a =>
      refine ⟨a, rfl, ?_⟩
      have e : a.add (k * sz) = ad := by simpa using h
      rw [← e]
      unfold Addr.add
      split <;> rfl
set_option maxRecDepth 100000 in
set_option maxHeartbeats 3200000 in
theorem iterK_any (A : Option Addr) (c : Nat) (l : List Ent) (c0 : Nat) (own : Nat → Prop) (w : World) (hbox : Bs w c0 (.slice A l.length c) 22) (hx : RdE w A c l) (hl : l.length ≤ 140737488351232) (ho0 : own c0) (hoA : ∀ ad, A = some ad → 0 < l.length → ad.block < w.heap.size ∧ own ad.block ∧ ad.block ≠ c0) :
    IterG Try.prog 24 #[.pointer (some ⟨c0, 0, none⟩)] own c0 l.length (nextK l) (valsK A l) w := by
  intro d y J Jx W hW hsz hJ hR h0
  have hc0 : c0 < w.heap.size := (Array.getElem?_eq_some_iff.1 hbox).1
  obtain ⟨m, hm⟩ : ∃ m, l.length = m := ⟨_, rfl⟩
  have HM := hide hm
  have hle := hx.le
  rw [hm] at hle hl hbox hR
  clear hm
  have hbW : Bs W c0 (.slice A m c) 22 := (hW c0 ho0 hc0).trans hbox
  have hxW : RdE W A c l := RdE.same hx (fun ad e h => hW _ (hoA ad e h).2.1 (hoA ad e h).1)
  refine callsIn_of_wp Try.func24 rfl trivial ?_ rfl
  simp only [Try.ntmps24, List.size_toArray, List.length_cons, List.length_nil, Nat.reduceAdd, Nat.reduceSub, Array.replicate_succ, Array.replicate_zero, List.push_toArray, List.append_toArray, List.nil_append, List.cons_append]
  gi_wp2
  gi_loopw [3] (fun _ wr => ∃ (p : Nat) (Ax : Option Addr) (cx : Nat), p ≤ m ∧ J p wr ∧ Bs wr c0 (.slice Ax (m - p) cx) 22 ∧ RdE wr Ax cx (l.drop p) ∧ (∀ ad, Ax = some ad → ∃ a0, A = some a0 ∧ ad.block = a0.block) ∧ (∀ j, own j → j ≠ c0 → j < w.heap.size → wr.heap[j]? = w.heap[j]?) ∧ W.heap.size ≤ wr.heap.size) (fun _ wr => lenC c0 wr)
  case atStart => exact ⟨0, A, c, Nat.zero_le _, h0, hbW, hxW, fun ad e => ⟨ad, e, rfl⟩, fun j h1 _ h2 => hW j h1 h2, Nat.le_refl _⟩
  case round =>
    obtain ⟨p, A', c', hp, hJk, hb, hxr, hblk, hown, hsW⟩ := hrel
    by_cases hlt : p < m
    · obtain ⟨r, hr⟩ : ∃ r, m - p = r := ⟨_, rfl⟩
      have hRp := fun vs B => hR p vs B hlt
      unfold valsK at hRp
      have hnx : nextK l p = p + runK (l.drop p) := rfl
      have hxe : ∀ q, q ≤ (l.drop p).length → (l.drop p).drop q = l.drop (p + q) := fun q _ => List.drop_drop ..
      have hGl : (l.drop p).length = r := by rw [List.length_drop, HM.out, hr]
      generalize l.drop p = G at *
      rw [hr] at hb
      have hr0 : 0 < r := by omega
      have HRC : Hid (r ≤ c') := hide (by have := hxr.le; rw [hGl] at this; exact this)
      have hr0i : (0 : Int) < (r : Int) := by omega
      have hrm : r ≤ m := by omega
      have q0 : wr.cell? ⟨c0, 0, none⟩ = some (.slice A' r c') := blk_cell hb 0
      have q1 : wr.frozen? ⟨c0, 0, none⟩ = false := blk_frozen hb 0
      have HGL := hide hGl
      have hrl : r ≤ 140737488355328 := by omega
      have HRP := hide hRp
      have HJ := hide hJ
      have HR := hide hr
      have HNX := hide hnx
      have HXE := hide hxe
      have HBL := hide hblk
      have HOW := hide hown
      clear hGl hRp hR hJ hr hW hx h0 hbW hxW hbox hnx hxe hblk hown
      gi_wp2
      refine wpIn_wide.2 ?_
      obtain ⟨wo, rfl⟩ : ∃ z : World, z = wr := ⟨wr, rfl⟩
      go_loopw [3] (fun iv wr => ∃ q : Nat, 1 ≤ q ∧ q ≤ r ∧ iv = .int .i64 (q : Int) ∧ (∀ j, j < q → (G.getD j zEnt).1 = (G.getD 0 zEnt).1) ∧ Below wo.heap.size wo wr) (fun iv _ => r - (intOf iv).toNat)
      case atStart => exact ⟨1, Nat.le_refl _, hr0, rfl, fun j hj => (by obtain rfl : j = 0 := by omega
                                                                         rfl), Below.refl _ _⟩
      case round =>
        obtain ⟨q, hq1, hqr, rfl, hsame, HB⟩ := hrel
        have hb2 : Bs wr c0 (.slice A' r c') 22 := blk_below hb HB
        have p0 : wr.cell? ⟨c0, 0, none⟩ = some (.slice A' r c') := blk_cell hb2 0
        have HSM := hide hsame
        clear hsame
        by_cases hlq : q < r
        · have hlqi : (q : Int) < (r : Int) := Int.ofNat_lt.2 hlq
          obtain ⟨hw1, hw2⟩ := idx_w r q hlq (by omega)
          obtain ⟨ad, e1, x0, -, -, -⟩ := RdE.at4 (hxr.below HB) q (by rw [HGL.out]; exact hlq)
          obtain ⟨ad', e2, y0, -, -, -⟩ := RdE.at4 (hxr.below HB) 0 (by rw [HGL.out]; exact hr0)
          rw [e1] at e2
          injection e2 with e2
          subst e2
          rw [Nat.zero_mul, add_zero_] at y0
          obtain ⟨k1, hk1⟩ : ∃ k, (G.getD q zEnt).1 = k := ⟨_, rfl⟩
          obtain ⟨k0, hk0⟩ : ∃ k, (G.getD 0 zEnt).1 = k := ⟨_, rfl⟩
          rw [hk1] at x0
          rw [hk0] at y0
          have HK1 := hide hk1
          have HK0 := hide hk0
          have e0 := same_bl k1 k0
          subst e1
          clear hk1 hk0
          by_cases hk : k1 = k0
          · rw [decide_eq_true (by rw [hk])] at e0
            have HKK := hide hk
            clear hk
            go_wp2
            go_still (by kernel_rfl)
            change Exit.then _ _ _ _ wr.drew
            go_wp2
            go_roundw
            case rel => exact ⟨q + 1, by omega, by omega, by go_num, same_next G q HSM.out (by rw [HK1.out, HK0.out, HKK.out]), HB.drew⟩
            case measure => first | exact idx_m r q hlq | exact idx_m2 r q hlq | exact idx_m3 r q hlq hw1
          · have hrun : runK G = q := run_at G q hq1 (by rw [HGL.out]; exact hqr) HSM.out (fun _ => by rw [HK1.out, HK0.out]; exact hk)
            rw [decide_eq_false (fun e => hk (bl_inj e))] at e0
            clear hk
            go_wp2
            go_still (by kernel_rfl)
            change Exit.then _ _ _ _ wr.drew
            go_wp2
            have HBd : Below wo.heap.size wo wr.drew := HB.drew
            have hbd : Bs wr.drew c0 (.slice (some ad) r c') 22 := blk_below hb HBd
            have d0 : wr.drew.cell? ⟨c0, 0, none⟩ = some (.slice (some ad) r c') := blk_cell hbd 0
            have hxd := hxr.below HBd
            have hJd := HJ.out p wo wr.drew (Aw.of_below HBd) hJk
            have hsd : W.heap.size ≤ wr.drew.heap.size := Nat.le_trans hsW HBd.size
            have hqc : q ≤ c' := Nat.le_trans hqr HRC.out
            have hsl := fun W => sliceK_hi (P := Try.prog) 22 36 Try.underlying22 (i := _) rfl (some ad) r c' q hqc W
            obtain ⟨fn, tmps, assign, body, hy, hRd⟩ := HRP.out #[.slice (some ad) q c'] wr.drew hsd ⟨(some ad), c', by rw [hrun], by rw [hrun]; exact hxd.take q (by rw [HGL.out]; exact hqr), HBL.out⟩ hJd
            have HRUN := hide hrun
            clear hrun hsl
            gi_wp2
            refine ⟨fun h => absurd h (by simp [Fence.wide]), hRd.mono ?_⟩
            rintro e B (⟨rfl, hJB, hkB, hsB⟩ | ⟨rfl, hJx⟩)
            · have hbB : Bs B c0 (.slice (some ad) r c') 22 := (hkB c0 ho0 hc0).trans hbd
              have b0 : B.cell? ⟨c0, 0, none⟩ = some (.slice (some ad) r c') := blk_cell hbB 0
              have b1 : B.frozen? ⟨c0, 0, none⟩ = false := blk_frozen hbB 0
              have hxB : RdE B (some ad) c' G := RdE.same hxd (fun ad e h => (by obtain ⟨a0, ha0, hba⟩ := HBL.out ad e; rw [hba]; exact hkB _ (hoA a0 ha0 (by rw [HM.out]; exact Nat.lt_of_le_of_lt (Nat.zero_le _) hlt)).2.1 (hoA a0 ha0 (by rw [HM.out]; exact Nat.lt_of_le_of_lt (Nat.zero_le _) hlt)).1))
              have hsl2 := fun W => sliceK_lo (P := Try.prog) 22 36 Try.underlying22 (i := _) rfl 4 rfl (some ad) r c' q hqr W
              have HKB := hide hkB
              have HJB := hide hJB
              obtain ⟨A2, hA2⟩ : ∃ A2, cutK 4 (some ad) c' q = A2 := ⟨_, rfl⟩
              obtain ⟨r2, hr2⟩ : ∃ r2, r - q = r2 := ⟨_, rfl⟩
              obtain ⟨c2, hc2⟩ : ∃ c2, c' - q = c2 := ⟨_, rfl⟩
              rw [hA2, hr2, hc2] at hsl2
              have hsetB : Bs (B.setCell ⟨c0, 0, none⟩ (.slice A2 r2 c2)) c0 (.slice A2 r2 c2) 22 := blk_set hbB 0 (.slice A2 r2 c2)
              have hxS : RdE (B.setCell ⟨c0, 0, none⟩ (.slice A2 r2 c2)) (some ad) c' G := RdE.same hxB (fun ad e h => (by obtain ⟨a0, ha0, hba⟩ := HBL.out ad e; rw [hba]; exact Below.heap_setCell B ⟨c0, 0, none⟩ _ _ (hoA a0 ha0 (by rw [HM.out]; exact Nat.lt_of_le_of_lt (Nat.zero_le _) hlt)).2.2))
              have hxD := hxS.drop q (by rw [HGL.out]; exact hqr)
              rw [HXE.out q (by rw [HGL.out]; exact hqr), show cutK kEnt.sz (some ad) c' q = A2 from hA2, hc2, show p + q = nextK l p by rw [HNX.out, HRUN.out]] at hxD
              have hnle := (next_le l p (by rw [HM.out]; exact hlt)).2
              rw [HM.out] at hnle
              have hmr : m - nextK l p = r2 := by rw [HNX.out, HRUN.out, ← hr2, ← HR.out, Nat.sub_sub]
              have hblk2 : ∀ ad, A2 = some ad → ∃ a0, A = some a0 ∧ ad.block = a0.block := fun ad e => (by obtain ⟨a1, e1, h1⟩ := cut_block (hA2.trans e); obtain ⟨a0, e0, h0⟩ := HBL.out a1 e1; exact ⟨a0, e0, h1.trans h0⟩)
              have hlt2 : r2 < r := by rw [← hr2]; exact Nat.sub_lt hr0 (Nat.lt_of_lt_of_le Nat.zero_lt_one hq1)
              have HMR := hide hmr
              have HB2 := hide hblk2
              have hszB : B.heap.size ≤ (B.setCell ⟨c0, 0, none⟩ (.slice A2 r2 c2)).heap.size := ((Below.refl 0 B).setCell (p := ⟨c0, 0, none⟩) (Nat.zero_le _) _).size
              clear hmr hblk2 hA2 hr2 hc2 hkB hJB d0 hJd hxd hxS hxB
              gi_wp2
              go_roundw
              case rel => exact ⟨nextK l p, A2, c2, hnle, HJ.out _ B _ (Aw.set B _) HJB.out, by rw [HMR.out]; exact hsetB, hxD, HB2.out, fun j hj hne hl => ((Below.heap_setCell B ⟨c0, 0, none⟩ _ j hne).trans (HKB.out j hj hl)).trans ((HBd.block j (Nat.lt_of_lt_of_le hl (Nat.le_trans hsz hsW))).trans (HOW.out j hj hne hl)), Nat.le_trans (Nat.le_trans hsd hsB) hszB⟩
              case measure => (rw [lenC_of hsetB, lenC_of hb]; exact hlt2)
            · gi_wp2
              refine bodyPost_ret (results_none rfl _ _ _) rfl ?_
              exact ⟨⟨_, rfl⟩, .inr ⟨p, by rw [HM.out]; exact hlt, hJx⟩⟩
        · obtain rfl : q = r := Nat.le_antisymm hqr (Nat.not_lt.1 hlq)
          have hrun : runK G = q := run_at G q hq1 (by rw [HGL.out]; exact Nat.le_refl _) HSM.out (fun h => by rw [HGL.out] at h; exact absurd h hlq)
          have Fsl : ∀ w', Below wr.heap.size wr w' → (loadVar 22 ⟨c0, 0, none⟩).run Try.prog w' = .ok (.slice A' q c') w' := fun w' hb => ldSl w' _ _ _ _ ((hb.cell (World.block_lt_of_cell? _ _ p0)).trans p0)
          go_wp2
          refine wp_region_below wr.heap.size _ (Below.refl _ _) (by kernel_rfl) (by kernel_rfl) ?_
          go_big_quiet_step ((intro hb; rfl))
          refine quiet_loadW (by rfl) 22 _ rfl ⟨c0, 0, none⟩ rfl (.slice A' q c') Fsl ?_
          simp only [Act.put, List.setIfInBounds_toArray, List.set_cons_zero, List.set_cons_succ]
          go_big_quiet_step ((intro hb; rfl))
          go_big_quiet_step ((intro hb; rfl))
          try simp only [Int.lt_irrefl, decide_false]
          repeat (go_big_quiet_step ((intro hb; rfl)))
          refine wpQuiet_nil ?_
          intro w5 HC5
          clear Fsl
          go_wp2
          have HBd : Below wo.heap.size wo w5 := HB.trans (HC5.mono HB.size)
          have hbd : Bs w5 c0 (.slice A' q c') 22 := blk_below hb HBd
          have d0 : w5.cell? ⟨c0, 0, none⟩ = some (.slice A' q c') := blk_cell hbd 0
          have hxd := hxr.below HBd
          have hJd := HJ.out p wo w5 (Aw.of_below HBd) hJk
          have hsd : W.heap.size ≤ w5.heap.size := Nat.le_trans hsW HBd.size
          have hqc : q ≤ c' := Nat.le_trans hqr HRC.out
          have hsl := fun W => sliceK_hi (P := Try.prog) 22 36 Try.underlying22 (i := _) rfl A' q c' q hqc W
          obtain ⟨fn, tmps, assign, body, hy, hRd⟩ := HRP.out #[.slice A' q c'] w5 hsd ⟨A', c', by rw [hrun], by rw [hrun]; exact hxd.take q (by rw [HGL.out]; exact hqr), HBL.out⟩ hJd
          have HRUN := hide hrun
          clear hrun hsl
          gi_wp2
          refine ⟨fun h => absurd h (by simp [Fence.wide]), hRd.mono ?_⟩
          rintro e B (⟨rfl, hJB, hkB, hsB⟩ | ⟨rfl, hJx⟩)
          · have hbB : Bs B c0 (.slice A' q c') 22 := (hkB c0 ho0 hc0).trans hbd
            have b0 : B.cell? ⟨c0, 0, none⟩ = some (.slice A' q c') := blk_cell hbB 0
            have b1 : B.frozen? ⟨c0, 0, none⟩ = false := blk_frozen hbB 0
            have hxB : RdE B A' c' G := RdE.same hxd (fun ad e h => (by obtain ⟨a0, ha0, hba⟩ := HBL.out ad e; rw [hba]; exact hkB _ (hoA a0 ha0 (by rw [HM.out]; exact Nat.lt_of_le_of_lt (Nat.zero_le _) hlt)).2.1 (hoA a0 ha0 (by rw [HM.out]; exact Nat.lt_of_le_of_lt (Nat.zero_le _) hlt)).1))
            have hsl2 := fun W => sliceK_lo (P := Try.prog) 22 36 Try.underlying22 (i := _) rfl 4 rfl A' q c' q hqr W
            have HKB := hide hkB
            have HJB := hide hJB
            obtain ⟨A2, hA2⟩ : ∃ A2, cutK 4 A' c' q = A2 := ⟨_, rfl⟩
            obtain ⟨r2, hr2⟩ : ∃ r2, q - q = r2 := ⟨_, rfl⟩
            obtain ⟨c2, hc2⟩ : ∃ c2, c' - q = c2 := ⟨_, rfl⟩
            rw [hA2, hr2, hc2] at hsl2
            have hsetB : Bs (B.setCell ⟨c0, 0, none⟩ (.slice A2 r2 c2)) c0 (.slice A2 r2 c2) 22 := blk_set hbB 0 (.slice A2 r2 c2)
            have hxS : RdE (B.setCell ⟨c0, 0, none⟩ (.slice A2 r2 c2)) A' c' G := RdE.same hxB (fun ad e h => (by obtain ⟨a0, ha0, hba⟩ := HBL.out ad e; rw [hba]; exact Below.heap_setCell B ⟨c0, 0, none⟩ _ _ (hoA a0 ha0 (by rw [HM.out]; exact Nat.lt_of_le_of_lt (Nat.zero_le _) hlt)).2.2))
            have hxD := hxS.drop q (by rw [HGL.out]; exact hqr)
            rw [HXE.out q (by rw [HGL.out]; exact hqr), show cutK kEnt.sz A' c' q = A2 from hA2, hc2, show p + q = nextK l p by rw [HNX.out, HRUN.out]] at hxD
            have hnle := (next_le l p (by rw [HM.out]; exact hlt)).2
            rw [HM.out] at hnle
            have hmr : m - nextK l p = r2 := by rw [HNX.out, HRUN.out, ← hr2, ← HR.out, Nat.sub_sub]
            have hblk2 : ∀ ad, A2 = some ad → ∃ a0, A = some a0 ∧ ad.block = a0.block := fun ad e => (by obtain ⟨a1, e1, h1⟩ := cut_block (hA2.trans e); obtain ⟨a0, e0, h0⟩ := HBL.out a1 e1; exact ⟨a0, e0, h1.trans h0⟩)
            have hlt2 : r2 < q := by rw [← hr2]; exact Nat.sub_lt hr0 (Nat.lt_of_lt_of_le Nat.zero_lt_one hq1)
            have HMR := hide hmr
            have HB2 := hide hblk2
            have hszB : B.heap.size ≤ (B.setCell ⟨c0, 0, none⟩ (.slice A2 r2 c2)).heap.size := ((Below.refl 0 B).setCell (p := ⟨c0, 0, none⟩) (Nat.zero_le _) _).size
            clear hmr hblk2 hA2 hr2 hc2 hkB hJB d0 hJd hxd hxS hxB
            gi_wp2
            go_roundw
            case rel => exact ⟨nextK l p, A2, c2, hnle, HJ.out _ B _ (Aw.set B _) HJB.out, by rw [HMR.out]; exact hsetB, hxD, HB2.out, fun j hj hne hl => ((Below.heap_setCell B ⟨c0, 0, none⟩ _ j hne).trans (HKB.out j hj hl)).trans ((HBd.block j (Nat.lt_of_lt_of_le hl (Nat.le_trans hsz hsW))).trans (HOW.out j hj hne hl)), Nat.le_trans (Nat.le_trans hsd hsB) hszB⟩
            case measure => (rw [lenC_of hsetB, lenC_of hb]; exact hlt2)
          · gi_wp2
            refine bodyPost_ret (results_none rfl _ _ _) rfl ?_
            exact ⟨⟨_, rfl⟩, .inr ⟨p, by rw [HM.out]; exact hlt, hJx⟩⟩
    · obtain rfl : p = m := Nat.le_antisymm hp (Nat.not_lt.1 hlt)
      rw [Nat.sub_self] at hb
      have q0 : wr.cell? ⟨c0, 0, none⟩ = some (.slice A' 0 c') := blk_cell hb 0
      have HJK := hide hJk
      clear hJ hR hW hown hblk hxr hbox hx h0 hbW hxW
      gi_wp2
      refine bodyPost_end (results_none rfl _ _ _) rfl ?_
      exact ⟨⟨_, rfl⟩, .inl (by rw [HM.out]; exact HJK.out)⟩
end Go.Proofs.Ythfalpibhcjpgaa
end

section
/- A set of numbers in a map of the call's own. -/
namespace Go.Proofs.Ythfalpibhcjpgaa
open Go.RowKit Go.Maps Go.Proofs.YthfalpibhcjpgaaW.PrintWords
set_option linter.unusedVariables false

/-- a number that fits -/
def fitI (x : Int) : Prop := (Lit.int .i64 x).wf = true
/-- block b is a map whose numbers with 'true' are those of S -/
def SeenM (w : World) (b n : Nat) (S : Int → Bool) : Prop := ∃ D : DataW Unit, w.ownsMap Try.prog 3 (plainElem Try.prog 4) b n D ∧ IsMap D ∧ ∀ x : Int, fitI x → D.atKey (.int .i64 x) (.lit (.bool false)) = .lit (.bool (S x))
theorem SeenM.made (w : World) : SeenM (w.alloc (.map #[] 0)) w.heap.size 0 (fun _ => false) :=
  ⟨.map [], World.ownsMap_made w _ _ _, ⟨[], rfl⟩, fun x _ => rfl⟩
theorem SeenM.lt {w : World} {b n : Nat} {S : Int → Bool} (h : SeenM w b n S) : b < w.heap.size := by
  obtain ⟨D, h1, _⟩ := h
  exact h1.lt
theorem SeenM.block {w w1 : World} {b n : Nat} {S : Int → Bool} (h : SeenM w b n S) (hb : w1.heap[b]? = w.heap[b]?) : SeenM w1 b n S := by
  obtain ⟨D, ⟨es, cl, h1, h2⟩, h3⟩ := h
  exact ⟨D, ⟨es, cl, hb.trans h1, h2⟩, h3⟩
theorem SeenM.below {w w1 : World} {b n : Nat} {S : Int → Bool} (h : SeenM w b n S) (hb : Below w.heap.size w w1) : SeenM w1 b n S := h.block (hb.block b h.lt)
theorem SeenM.look {w : World} {b n : Nat} {S : Int → Bool} (h : SeenM w b n S) (x : Int) (hx : fitI x) : (Instr.lookup 47 (.map (some b)) (.int .i64 x) false).run Try.prog w = .ok (.bool (S x)) w := by
  obtain ⟨D, h1, _, h3⟩ := h
  have hz : (zeroValue 4).run Try.prog w = .ok (.bool false) w := by kernel_rfl
  obtain ⟨v, ps, hrun, hv⟩ := h1.lookup (int_keyed Try.underlying3) Try.underlying47 hz (plainElem_bool Try.underlying4 false) (keyOf_int_mk Try.underlying3 hx)
  rw [h3 x hx] at hv
  unfold plainElem at hv
  rw [Try.underlying4] at hv
  cases v <;> simp at hv
  obtain ⟨rfl, _⟩ := hv
  exact hrun
theorem IsMap.put {D : DataW Unit} (h : IsMap D) (k : Lit) (d : DataW Unit) : IsMap (D.put k d) := by
  obtain ⟨es, rfl⟩ := h
  exact ⟨_, rfl⟩
theorem isKey_int (x : Int) : WideAt.IsKeyLit (.int .i64 x) := by
  first | exact .int _ _ | exact rfl | trivial | decide | simp [WideAt.IsKeyLit]
theorem SeenM.upd {w : World} {b n : Nat} {S : Int → Bool} (h : SeenM w b n S) (z : Int) (hz : fitI z) (hn : n < maxLen) :
    ∃ w', (Instr.mapUpdate 47 (.map (some b)) (.int .i64 z) (.bool true)).run Try.prog w = .ok () w' ∧ SeenM w' b (n + 1) (fun y => decide (y = z) || S y) ∧ w.grownBy w' (some b) := by
  obtain ⟨D, h1, h2, h3⟩ := h
  obtain ⟨w', r0, r1, r2⟩ := h1.update (int_keyed Try.underlying3) Try.underlying47 hn (keyOf_int_mk Try.underlying3 hz) (plainElem_bool Try.underlying4 true)
  refine ⟨w', r0, ⟨_, r1, h2.put _ _, fun y hy => ?_⟩, r2⟩
  by_cases e : y = z
  · subst e
    rw [atKey_put_same h2 (isKey_int y)]
    simp
  · rw [atKey_put_other (fun h => e (by injection h)), h3 y hy]
    simp [e]
theorem SeenM.mono {w : World} {b n n' : Nat} {S : Int → Bool} (h : SeenM w b n S) (hn : n ≤ n') : SeenM w b n' S := by
  obtain ⟨D, h1, h2⟩ := h
  exact ⟨D, h1.mono hn, h2⟩
end Go.Proofs.Ythfalpibhcjpgaa
end

section
/- Merge: which versions stay, by their places; a row of the call's own cut short; what a round keeps. -/
namespace Go.Proofs.Ythfalpibhcjpgaa
open Go.RowKit Go.Proofs.YthfalpibhcjpgaaW.PrintWords
set_option linter.unusedVariables false

theorem Reps.cut {α : Type} {R : α → List Value → Prop} {size : Nat} {ps : List α} {cs : List Value} (h : Reps R size ps cs) (k : Nat) (hk : k ≤ ps.length) : Reps R size (ps.take k) (cs.take (k * size)) := by
  obtain ⟨h1, h2⟩ := h
  have hks : k * size ≤ ps.length * size := Nat.mul_le_mul_right _ hk
  refine ⟨by rw [List.length_take, List.length_take, h1, Nat.min_eq_left hk, Nat.min_eq_left hks], fun j p hj => ?_⟩
  have hjk : j < k := by
    apply Decidable.byContradiction
    intro h3
    rw [List.getElem?_eq_none (by rw [List.length_take]; omega)] at hj
    cases hj
  rw [List.getElem?_take_of_lt hjk] at hj
  have h3 := h2 j p hj
  have hle : j * size + size ≤ k * size := by rw [← Nat.succ_mul]; exact Nat.mul_le_mul_right _ hjk
  rw [List.drop_take, List.take_take, Nat.min_eq_left (by omega)]
  exact h3
theorem Ow.cut {α : Type} {d : Kd α} {e : Nat} {w : World} {base : Nat} {A : Option Addr} {n c : Nat} {xs : List α} (h : Ow d e w base (.slice A n c) xs) (k : Nat) (hk : k ≤ n) : Ow d e w base (.slice A k c) (xs.take k) := by
  have hl := h.len
  obtain ⟨h0, inner, ⟨h1, h2⟩, hr⟩ := h
  have hkl : k ≤ xs.length := by omega
  have hlk : (xs.take k).length = k := by rw [List.length_take]; omega
  have eo : (Value.slice A k c).ownBlock = (Value.slice A n c).ownBlock := by cases A <;> rfl
  refine ⟨fun q hq => trivial, inner.take (k * d.sz), ⟨?_, ?_⟩, by rw [eo]; exact Reps.cut hr k hkl⟩
  · rw [List.length_take, h1, hlk, Nat.min_eq_left (Nat.mul_le_mul_right _ hkl)]
  · rw [hlk]
    rcases h2 with ⟨h2, h3⟩ | ⟨g, cap, cur, h2, h3, h4, h5, h6, h7, h8⟩
    · injection h2 with e1 e2 e3
      subst e1 e2 e3
      obtain rfl : k = 0 := by omega
      exact .inl ⟨rfl, rfl⟩
    · injection h2 with e1 e2 e3
      subst e1 e3
      refine .inr ⟨g, c, cur, rfl, h3, h4, by omega, h6, h7, ?_⟩
      rw [← h8, List.take_take, Nat.min_eq_left (Nat.mul_le_mul_right _ hkl)]
/-- which places stay -/
def stF (S : List Int) (G : List Ent) : Nat → Int → Bool
  | 0 => fun y => decide (y = 0) || (fun _ => false) y
  | j + 1 => fun y => decide (y = seeI (S.getD j 0) G) || stF S G j y
/-- those of the first k that stay -/
def kpF (st : Int → Bool) (G : List Ent) : Nat → List Ent
  | 0 => []
  | k + 1 => kpF st G k ++ (if st (k : Int) = true then [G.getD k zEnt] else [])
theorem stF_iff (S : List Int) (G : List Ent) (m : Nat) (y : Int) : stF S G m y = true ↔ y = 0 ∨ ∃ j, j < m ∧ y = seeI (S.getD j 0) G := by
  induction m with
  | zero => simp [stF]
  | succ m ih =>
    rw [stF, Bool.or_eq_true, ih, decide_eq_true_eq]
    constructor
    · rintro (h | h | ⟨j, h1, h2⟩)
      · exact .inr ⟨m, by omega, h⟩
      · exact .inl h
      · exact .inr ⟨j, by omega, h2⟩
    · rintro (h | ⟨j, h1, h2⟩)
      · exact .inr (.inl h)
      · rcases Nat.lt_or_ge j m with h3 | h3
        · exact .inr (.inr ⟨j, h3, h2⟩)
        · obtain rfl : j = m := by omega
          exact .inl h2
theorem pw_ne (G : List Ent) (h : G.Pairwise befE) (i j : Nat) (hi : i < G.length) (hj : j < G.length) (e : G[i] = G[j]) : i = j := by
  rw [List.pairwise_iff_getElem] at h
  rcases Nat.lt_trichotomy i j with h1 | h1 | h1
  · have := h i j hi hj h1; rw [e] at this; exact absurd this (bef_ir _)
  · exact h1
  · have := h j i hj hi h1; rw [e] at this; exact absurd this (bef_ir _)
theorem see_iff (G : List Ent) (h : G.Pairwise befE) (s : Int) (i : Nat) (hi : i < G.length) : ((i : Int) = seeI s G) ↔ seesE G s = some G[i] := by
  unfold seesE
  rw [List.find?_eq_some_iff_getElem]
  constructor
  · intro e
    rw [seeI] at e
    split at e
    · next h1 =>
      have e2 : G.findIdx (upto s) = i := by omega
      rw [List.findIdx_eq hi] at e2
      exact ⟨e2.1, i, hi, rfl, fun j hj => by rw [e2.2 j hj]; rfl⟩
    · omega
  · rintro ⟨h1, j, hj, h2, h3⟩
    obtain rfl := pw_ne G h j i hj hi h2
    refine (seeI_some s G j hj (fun k hk => ?_) ?_).symm
    · have := h3 k hk
      rw [List.getD_eq_getElem?_getD, List.getElem?_eq_getElem (by omega), Option.getD_some]
      simpa using this
    · rw [List.getD_eq_getElem?_getD, List.getElem?_eq_getElem hj]; exact h1
theorem st_stay (S : List Int) (G : List Ent) (h : G.Pairwise befE) (i : Nat) (hi : i < G.length) : stF S G S.length (i : Int) = stayE S G G[i] := by
  rw [Bool.eq_iff_iff, stF_iff]
  unfold stayE
  rw [Bool.or_eq_true, decide_eq_true_eq, List.any_eq_true]
  constructor
  · rintro (h1 | ⟨j, hj, h1⟩)
    · left
      obtain rfl : i = 0 := by omega
      cases G with
      | nil => simp at hi
      | cons x t => rfl
    · right
      refine ⟨S.getD j 0, getD_mem2 S 0 j hj, decide_eq_true ((see_iff G h _ i hi).1 h1)⟩
  · rintro (h1 | ⟨s, hs, h1⟩)
    · left
      cases G with
      | nil => simp at hi
      | cons x t =>
        have e : x = (x :: t)[i] := by injection h1
        have := pw_ne (x :: t) h 0 i (by simp) hi e
        omega
    · right
      obtain ⟨j, hj, rfl⟩ := List.getElem_of_mem hs
      refine ⟨j, hj, ?_⟩
      rw [List.getD_eq_getElem?_getD, List.getElem?_eq_getElem hj, Option.getD_some]
      exact (see_iff G h _ i hi).2 (of_decide_eq_true h1)
theorem takeE_next (l : List Ent) (k : Nat) (h : k < l.length) : l.take (k + 1) = l.take k ++ [l.getD k zEnt] := by
  rw [List.take_add_one, List.getElem?_eq_getElem h, List.getD_eq_getElem?_getD, List.getElem?_eq_getElem h]
  rfl
theorem kp_filter (S : List Int) (G : List Ent) (h : G.Pairwise befE) : ∀ k, k ≤ G.length → kpF (stF S G S.length) G k = (G.take k).filter (stayE S G) := by
  intro k
  induction k with
  | zero => intro _; rfl
  | succ k ih =>
    intro hk
    have hlt : k < G.length := by omega
    rw [kpF, ih (by omega), takeE_next G k hlt, List.filter_append, st_stay S G h k hlt]
    congr 1
    have e : G.getD k zEnt = G[k] := by rw [List.getD_eq_getElem?_getD, List.getElem?_eq_getElem hlt]; rfl
    rw [e]
    by_cases h1 : stayE S G G[k] = true
    · rw [if_pos h1, List.filter_cons_of_pos h1]; rfl
    · rw [if_neg h1, List.filter_cons_of_neg h1]; rfl
theorem kp_all (S : List Int) (G : List Ent) (h : G.Pairwise befE) : kpF (stF S G S.length) G G.length = G.filter (stayE S G) := by
  rw [kp_filter S G h G.length (Nat.le_refl _), List.take_length]
theorem kp_len (st : Int → Bool) (G : List Ent) (k : Nat) : (kpF st G k).length ≤ k := by
  induction k with
  | zero => exact Nat.le_refl _
  | succ k ih =>
    rw [kpF, List.length_append]
    split <;> simp <;> omega
theorem trim_drop (u : List Ent) (x : Ent) (h : x.2.2.1 = 2) : trimE true (u ++ [x]) = trimE true u := by
  unfold trimE
  rw [if_pos rfl, if_pos rfl, List.reverse_append, List.reverse_singleton, List.singleton_append, List.dropWhile_cons_of_pos (by simpa using h)]
/-- all blocks below E but g lie as they lay -/
structure Kz (g E : Nat) (A B : World) : Prop where
  base : Below 0 A B
  block : ∀ j, j < E → j ≠ g → B.heap[j]? = A.heap[j]?
theorem Kz.refl (g E : Nat) (A : World) : Kz g E A A := ⟨Below.refl _ _, fun _ _ _ => rfl⟩
theorem Kz.size {g E : Nat} {A B : World} (h : Kz g E A B) : A.heap.size ≤ B.heap.size := h.base.size
theorem Kz.step {g E : Nat} {A B C : World} (h : Kz g E A B) (hb : Below E B C) : Kz g E A C := ⟨h.base.trans (hb.mono (Nat.zero_le _)), fun j h1 h2 => (hb.block j h1).trans (h.block j h1 h2)⟩
theorem Kz.all {g E : Nat} {A B C : World} (h : Kz g E A B) (hE : E ≤ B.heap.size) (hb : Below B.heap.size B C) : Kz g E A C := h.step (hb.mono hE)
theorem Kz.set {g E : Nat} {A B : World} (h : Kz g E A B) (j : Nat) (v : Value) : Kz g E A (B.setCell ⟨g, j, none⟩ v) := ⟨h.base.trans ((Below.refl 0 B).setCell (p := ⟨g, j, none⟩) (Nat.zero_le _) v), fun i h1 h2 => (Below.heap_setCell B ⟨g, j, none⟩ v i h2).trans (h.block i h1 h2)⟩
theorem Kz.below {g E : Nat} {A B : World} (h : Kz g E A B) (hg : g ≤ E) : Below g A B := ⟨h.base.os, h.base.tape, h.base.output, h.base.size, fun j hj => h.block j (by omega) (by omega)⟩
theorem SeenM.grown {w w1 : World} {b n : Nat} {S : Int → Bool} (h : SeenM w b n S) {row : Option Nat} (hg : w.grownBy w1 row) (hne : some b ≠ row) : SeenM w1 b n S := h.block (hg.block b h.lt hne)
theorem SeenM.apart {w : World} {b n : Nat} {S : Int → Bool} (h : SeenM w b n S) {base : Nat} {v : Value} {xs : List Ent} (HO : OwE w base v xs) : some b ≠ v.ownBlock := by
  intro e
  obtain ⟨inner, ho⟩ := Kd.R_own HO
  obtain ⟨cells, h1⟩ := own_typed ho b e.symm
  obtain ⟨D, ⟨es, cl, h2, _⟩, _⟩ := h
  rw [h1] at h2
  cases h2
end Go.Proofs.Ythfalpibhcjpgaa
end

section
/- An element of any kind appended, inside a fence. -/
namespace Go.Proofs.Ythfalpibhcjpgaa
open Go.RowKit Go.Shelf Go.Proofs.YthfalpibhcjpgaaW.PrintWords
set_option linter.unusedVariables false

section
variable {F : Fence} {D : Nat} {P : Program} {ops : Array Oper} {rest : List Oper} {o : Oper} {a : Act} {Q : Exit → Act → World → Prop} {α : Type}
/-- what 'append(v, x)' comes to -/
theorem R_append_run (d : Kd α) {w0 W : World} (base : Nat) (s x : Operand) (t e : TypeId) (z : Value) (bytes : Nat)
    (ho : o.op = .call { callee := .builtin .append, args := #[s, x], argTypes := #[t, t] })
    (ht : P.underlying t = some (.slice e)) (hinfo : (P.info? e).map (fun i => (i.zero, i.size, i.bytes)) = some (some z, d.sz, bytes)) (hz : z.cells.size = d.sz) (hs0 : 0 < d.sz) (hb0 : 0 < bytes)
    (v : Value) (xs : List α) (p : α) (cs : List Value) (ok okp : Nat → Prop) (hs : a.eval s = v) (hx : a.eval x = .slice (some ⟨W.heap.size, 0, none⟩) 1 1) (hp : d.M W base okp p cs) (hokp : ∀ k, okp k → ok k ∧ some k ≠ v.ownBlock) (hfresh : ∀ k, W.heap.size ≤ k → ok k)
    (HO : d.R e W base ok v xs) (HB : Below base w0 W) (hbase : base ≤ W.heap.size) (hl : (xs.length + 1) * bytes ≤ 140737488355328) :
    ∃ v1 w1, (execOp a.eval o).run P (W.alloc (.cells cs.toArray e)) = .ok (.value v1) w1 ∧ d.R e w1 base ok v1 (xs ++ [p]) ∧ Below base w0 w1 ∧ W.grownBy w1 v.ownBlock := by
  obtain ⟨h0, inner, hown, hr⟩ := HO
  obtain ⟨i0, hi, hzz⟩ := Option.map_eq_some_iff.1 hinfo
  simp only [Prod.mk.injEq] at hzz
  obtain ⟨hz0, hz1, hz2⟩ := hzz
  have hcs := d.K_len (d.K_of_M hp)
  have hlen : xs.length + 1 ≤ 140737488355328 := Nat.le_trans (Nat.le_mul_of_pos_right _ hb0) hl
  obtain ⟨v1, w1, hr1, hown1, hg, _, hat⟩ := run_append_own_at (P := P) (W.alloc (.cells cs.toArray e)) base t o.type e i0 z d.sz bytes ht hi hz0 hz1 hz2 hz hs0 v xs.length inner (hown.alloc _) ⟨W.heap.size, 0, none⟩ 1 1 cs (by rw [hcs]; simp)
    (by simpa using World.news_of_block (cs := cs.toArray) (t := e) (fr := (0, 0)) (heap_alloc_new W (.cells cs.toArray e))) (d.K_one (d.K_of_M hp)) (by simp only [maxLen]; omega) hl (by simp; omega)
  have hg' : W.grownBy w1 v.ownBlock := World.grownBy.trans (World.grownBy_alloc W _ _) hg
  refine ⟨v1, w1, ?_, Kd.R_appended h0 hr hp hokp hfresh hown1 hg' ?_, (HB.alloc hbase _).grown hg (by simp; omega) (own_base hown), hg'⟩
  · unfold execOp
    simp only [ho, resolve, invoke, builtin, Sem.run_bind, Sem.run_pure, Result.andThen_ok, List.map_toArray, List.map_cons, List.map_nil, hs, hx, hr1]
  · rcases hat with hat | hat
    · exact .inl hat
    · exact .inr ⟨_, hat, by simp⟩
theorem R_append_in (d : Kd α) {w0 W : World} (base : Nat) (hgd : o.guard = none) (s x : Operand) (t e : TypeId) (z : Value) (bytes : Nat)
    (ho : o.op = .call { callee := .builtin .append, args := #[s, x], argTypes := #[t, t] })
    (ht : P.underlying t = some (.slice e)) (hinfo : (P.info? e).map (fun i => (i.zero, i.size, i.bytes)) = some (some z, d.sz, bytes)) (hz : z.cells.size = d.sz) (hs0 : 0 < d.sz) (hb0 : 0 < bytes)
    (v : Value) (xs : List α) (p : α) (cs : List Value) (ok okp : Nat → Prop) (hs : a.eval s = v) (hx : a.eval x = .slice (some ⟨W.heap.size, 0, none⟩) 1 1) (hp : d.M W base okp p cs) (hokp : ∀ k, okp k → ok k ∧ some k ≠ v.ownBlock) (hfresh : ∀ k, W.heap.size ≤ k → ok k)
    (HO : d.R e W base ok v xs) (HB : Below base w0 W) (hbase : base ≤ W.heap.size) (hl : (xs.length + 1) * bytes ≤ 140737488355328)
    (h : ∀ v1 w1, d.R e w1 base ok v1 (xs ++ [p]) → Below base w0 w1 → W.grownBy w1 v.ownBlock → wpListIn F D P ops Q rest (a.put o.dst v1) w1) :
    wpListIn F D P ops Q (o :: rest) a (W.alloc (.cells cs.toArray e)) := by
  obtain ⟨v1, w1, e1, e2, e3, e4⟩ := R_append_run (P := P) (o := o) (a := a) d base s x t e z bytes ho ht hinfo hz hs0 hb0 v xs p cs ok okp hs hx hp hokp hfresh HO HB hbase hl
  refine wpListIn_plain hgd fun K hK' => ?_
  unfold Oper.wpIn
  refine ⟨?_, ?_⟩
  · simp [Oper.about, ho, resolve, Target.leads, Sem.run_pure]
  · rw [Oper.semAt_plain F _ _ (by rw [ho]; intro c hc'; cases hc')]
    rw [e1]
    exact hK' _ _ (h v1 w1 e2 e3 e4)
end
end Go.Proofs.Ythfalpibhcjpgaa
end

section
/- Merge: thinned, walked. -/
namespace Go.Proofs.Ythfalpibhcjpgaa
open Go.RowKit Go.Shelf Go.Proofs.YthfalpibhcjpgaaW.PrintWords
set_option linter.unusedVariables false

theorem MCheck_any (A : Option Addr) (c n : Nat) (l : List Ent) (w : World) (hn : l.length = n) (hr : RdE w A c l) (hl : n ≤ 9223372036854775806) :
    Calls Try.prog 12 #[.slice A n c] w fun e w' => e = .returned (.int .i64 (ordE l)) ∧ Below w.heap.size w w' := by
  have hO := fun W (h : RdE W A c l) => Ordered_any A c n l W hn h hl
  clear hn
  go_enter Try.func12, Try.ntmps12
  go_wp2_with (first | (go_at_call 22; (with_reducible refine (hO _ hr).mono ?_); rintro e w1 ⟨rfl, HB1⟩))
  go_ret
  exact ⟨rfl, HB1⟩
theorem tbox (w : World) (B : Option Addr) (m d : Nat) (b : Bool) : Below w.heap.size w ((w.alloc (.cells #[.slice B m d] 23)).alloc (.cells #[.bool b] 4)) ∧ Bs ((w.alloc (.cells #[.slice B m d] 23)).alloc (.cells #[.bool b] 4)) w.heap.size (.slice B m d) 23 ∧ Bs ((w.alloc (.cells #[.slice B m d] 23)).alloc (.cells #[.bool b] 4)) (w.heap.size + 1) (.bool b) 4 := by
  have b1 := below_alloc w (.cells #[.slice B m d] 23)
  have b2 := below_alloc (w.alloc (.cells #[.slice B m d] 23)) (.cells #[.bool b] 4)
  have h1 : Bs (w.alloc (.cells #[.slice B m d] 23)) w.heap.size (.slice B m d) 23 := heap_alloc_new w _
  have s1 : (w.alloc (.cells #[.slice B m d] 23)).heap.size = w.heap.size + 1 := World.size_alloc _ _
  have P := heap_alloc_new (w.alloc (.cells #[.slice B m d] 23)) (.cells #[.bool b] 4)
  rw [s1] at P
  exact ⟨stq b1 b2, blk_below h1 b2, P⟩
theorem leaves_nil {F : Fence} {n : Nat} {P : Program} {fn : Func} {tmps : Array Value} {R : Ending → World → Prop} {w : World} (v : Value) (h : (results fn tmps).run P w = .ok v w) (hR : R (.returned v) w) : LeavesInM F n P fn tmps R [] .returning w := ⟨v, h, hR⟩
/-- what Thin says: the error -/
def thinErr (l : List Ent) (S : List Int) : Int := if ordE l ≠ 0 then ordE l else if 16 < S.length then 3 else if S.any outS = true then 4 else 0
set_option maxRecDepth 100000 in
set_option maxHeartbeats 1600000 in
theorem Thin_bad (A B : Option Addr) (c d n m : Nat) (l : List Ent) (S : List Int) (b : Bool) (w : World) (hn : l.length = n) (hm : S.length = m) (hr : RdE w A c l) (hs : RdI w B d S) (hl : n ≤ 140737488351232) (hl2 : m ≤ 140737488351232) (hbad : thinErr l S ≠ 0) :
    Calls Try.prog 8 #[.slice A n c, .slice B m d, .bool b] w fun e w' => e = .returned (.tuple #[.slice none 0 0, .int .i64 (thinErr l S)]) ∧ Below w.heap.size w w' := by
  obtain ⟨B0, s0, b0⟩ := tbox w B m d b
  have hC := fun W (h : RdE W A c l) => MCheck_any A c n l W hn h (by omega)
  have hI := fun W (h : RdI W B d S) => CntI_any B d m S W hm h hl2
  have q0 : ((w.alloc (.cells #[.slice B m d] 23)).alloc (.cells #[.bool b] 4)).cell? ⟨w.heap.size, 0, none⟩ = some (.slice B m d) := blk_cell s0 0
  have r0 := hr.below B0
  have i0 := hs.below B0
  unfold thinErr at hbad ⊢
  rw [hm] at hbad ⊢
  refine (callsIn_wide (n := 9)).1 ?_
  by_cases h1 : ordE l = 0
  · rw [h1] at hC
    rw [if_neg (fun h => h h1)] at hbad ⊢
    by_cases h2 : 16 < m
    · rw [if_pos h2]
      have h2i : (16 : Int) < (m : Int) := by omega
      clear hn hm hr hs h1 hbad hI
      refine callsIn_of_wp_marks Try.func8 rfl trivial ?_ rfl
      simp only [Try.ntmps8, List.size_toArray, List.length_cons, List.length_nil, Nat.reduceAdd, Nat.reduceSub, Array.replicate_succ, Array.replicate_zero, List.push_toArray, List.append_toArray, List.nil_append, List.cons_append]
      gi_wp2_with (first | (refine ⟨trivial, ?_⟩; gi_at_call 12; refine (callsIn_wide.2 (hC _ r0)).mono ?_; rintro e w1 ⟨rfl, HB1⟩; have q1 := (HB1.cell (World.block_lt_of_cell? _ _ q0)).trans q0))
      refine leaves_nil (.tuple #[.slice none 0 0, .int .i64 3]) ?_ ⟨rfl, stq B0 HB1⟩
      simp [results, Try.results8, go_sem]
    · rw [if_neg h2] at hbad ⊢
      have h2i : ¬ (16 : Int) < (m : Int) := by omega
      by_cases h3 : S.any outS = true
      · rw [if_pos h3]
        rw [h3] at hI
        clear hn hm hr hs h1 hbad h3
        refine callsIn_of_wp_marks Try.func8 rfl trivial ?_ rfl
        simp only [Try.ntmps8, List.size_toArray, List.length_cons, List.length_nil, Nat.reduceAdd, Nat.reduceSub, Array.replicate_succ, Array.replicate_zero, List.push_toArray, List.append_toArray, List.nil_append, List.cons_append]
        gi_wp2_with (first | (refine ⟨trivial, ?_⟩; gi_at_call 12; refine (callsIn_wide.2 (hC _ r0)).mono ?_; rintro e w1 ⟨rfl, HB1⟩; have q1 := (HB1.cell (World.block_lt_of_cell? _ _ q0)).trans q0; have i1 := i0.below HB1) | (refine ⟨trivial, ?_⟩; gi_at_call 16; refine (callsIn_wide.2 (hI _ i1)).mono ?_; rintro e w' ⟨rfl, rfl⟩))
        refine leaves_nil (.tuple #[.slice none 0 0, .int .i64 4]) ?_ ⟨rfl, stq B0 HB1⟩
        simp [results, Try.results8, go_sem]
      · rw [if_neg h3] at hbad
        exact absurd rfl hbad
  · rw [if_pos h1]
    have hz : ordE l ≠ 0 := h1
    generalize ordE l = z at *
    have hzb : (z == 0) = false := beq_eq_false_iff_ne.2 hz
    clear hn hm hr hs hbad hI h1
    refine callsIn_of_wp_marks Try.func8 rfl trivial ?_ rfl
    simp only [Try.ntmps8, List.size_toArray, List.length_cons, List.length_nil, Nat.reduceAdd, Nat.reduceSub, Array.replicate_succ, Array.replicate_zero, List.push_toArray, List.append_toArray, List.nil_append, List.cons_append]
    gi_wp2_with (first | (refine ⟨trivial, ?_⟩; gi_at_call 12; refine (callsIn_wide.2 (hC _ r0)).mono ?_; rintro e w1 ⟨rfl, HB1⟩; have q1 := (HB1.cell (World.block_lt_of_cell? _ _ q0)).trans q0; have i1 := i0.below HB1))
    refine leaves_nil (.tuple #[.slice none 0 0, .int .i64 z]) ?_ ⟨rfl, stq B0 HB1⟩
    simp [results, Try.results8, go_sem]
end Go.Proofs.Ythfalpibhcjpgaa
end

section
/- Merge: Thin's walk. -/
namespace Go.Proofs.Ythfalpibhcjpgaa
open Go.RowKit Go.Shelf Go.Proofs.YthfalpibhcjpgaaW.PrintWords
set_option linter.unusedVariables false
attribute [local go_sem] Oper.semAt_some

theorem maxLen_big : 140737488351232 < maxLen := by decide
theorem see_fit (s : Int) (G : List Ent) (h : G.length ≤ 140737488351232) : fitI (seeI s G) := by
  have h2 : -1 ≤ seeI s G ∧ seeI s G ≤ 140737488351232 := by
    unfold seeI
    split <;> omega
  generalize seeI s G = z at *
  have e : wrap64 z = z := by unfold wrap64; omega
  rw [← e]
  exact wrap64_wf z
theorem wf_nat (i : Nat) (h : i ≤ 140737488351232) : fitI (i : Int) := by
  have e : wrap64 (i : Int) = (i : Int) := by unfold wrap64; omega
  show (Lit.int .i64 (i : Int)).wf = true
  rw [← e]
  exact wrap64_wf (i : Int)
theorem fit_arith (k0 kp i p q n : Nat) (hkp : kp ≤ i) (hi : i < q) (h2 : k0 ≤ p) (h4 : p + q ≤ n) (hn : n * 48 ≤ 140737488351232) : (k0 + kp + 1) * 48 ≤ 140737488355328 := by omega
theorem lt5 (g : Nat) : g + 1 ≠ g ∧ g + 2 ≠ g ∧ g + 2 + 1 ≠ g := by omega
theorem lt6 (a g : Nat) (h : a + 1 + 1 ≤ g) : a + 1 < g + 4 ∧ a + 1 ≠ g := by omega
theorem w4ne (g s : Nat) (h : g + 4 ≤ s) : s ≠ g := by omega
theorem last_get (a : List Ent) (x : Ent) : (a ++ [x]).getD a.length zEnt = x := by
  rw [List.getD_eq_getElem?_getD, List.getElem?_append_right (Nat.le_refl _), Nat.sub_self]; rfl
theorem kv_fit {w : World} {A : Option Addr} {c : Nat} {xs : List Ent} (h : RdE w A c xs) : xs.length ≤ 9223372036854775807 := h.max
theorem last_w (k0 k2 kv ul : Nat) (h1 : k2 + 1 = kv) (h2 : k0 + ul = k2) (h3 : kv ≤ 9223372036854775807) : wrap64 ((kv : Int) - 1) = (k2 : Int) ∧ IntKind.i64.wrap ((kv : Int) - 1) = (k2 : Int) ∧ (k0 : Int) < (kv : Int) ∧ k2 ≤ kv ∧ k2 < kv ∧ (k2 : Int) < (kv : Int) := by
  refine ⟨by unfold wrap64; omega, by rw [IntKind.wrap_i64]; omega, by omega, by omega, by omega, by omega⟩
theorem lt4s (g : Nat) : g < g + 4 := by omega
theorem lt4 (j g : Nat) (h : j < g) : j < g + 4 ∧ j ≠ g := by omega
theorem Ow.keep {α : Type} {d : Kd α} {e : Nat} {A B : World} {base : Nat} {v : Value} {xs : List α} (h : Ow d e A base v xs) (hs : ∀ j, base ≤ j → j < A.heap.size → B.heap[j]? = A.heap[j]?) : Ow d e B base v xs := by
  obtain ⟨h0, inner, hown, hr⟩ := h
  exact ⟨h0, inner, own_move hown (fun k hk => hs k (own_base hown k hk) (own_lt hown k hk)), hr.imp_ (fun p cs hp => d.M_mono (fun k hk => hk.1) (d.M_move (fun k hk => hs k hk.2.1 hk.2.2.1) (d.M_bound hp)))⟩
set_option maxRecDepth 100000 in
set_option maxHeartbeats 12800000 in
theorem Thin_ok (A B : Option Addr) (c d n m : Nat) (l : List Ent) (S : List Int) (b : Bool) (w : World) (hn : l.length = n) (hm : S.length = m) (hr : RdE w A c l) (hs : RdI w B d S) (hl : n * 48 ≤ 140737488351232) (hok : thinErr l S = 0) :
    Calls Try.prog 8 #[.slice A n c, .slice B m d, .bool b] w fun e w' => ∃ v, e = .returned (.tuple #[v, .int .i64 0]) ∧ OwE w' w.heap.size v (thn S b l) ∧ Below w.heap.size w w' := by
  obtain ⟨B0, s0, b0⟩ := tbox w B m d b
  have ho : ordE l = 0 := by
    unfold thinErr at hok
    split at hok
    · next h => exact absurd hok h
    · next h => exact Decidable.not_not.1 h
  have h16 : m ≤ 16 := by
    unfold thinErr at hok
    rw [if_neg (fun h => h ho)] at hok
    split at hok
    · cases hok
    · next h => omega
  have hno : S.any outS = false := by
    unfold thinErr at hok
    rw [if_neg (fun h => h ho), if_neg (by omega)] at hok
    split at hok
    · cases hok
    · next h => exact Bool.eq_false_iff.2 h
  have hC := fun W (h : RdE W A c l) => MCheck_any A c n l W hn h (by omega)
  have hI := fun W (h : RdI W B d S) => CntI_any B d m S W hm h (by omega)
  rw [ho] at hC
  rw [hno] at hI
  have q0 : ((w.alloc (.cells #[.slice B m d] 23)).alloc (.cells #[.bool b] 4)).cell? ⟨w.heap.size, 0, none⟩ = some (.slice B m d) := blk_cell s0 0
  have r0 := hr.below B0
  have i0 := hs.below B0
  have h16i : ¬ (16 : Int) < (m : Int) := by omega
  have HPW := hide (ord_pw l ho)
  have HN := hide hn
  have HM := hide hm
  have HR0 := hide hr
  have HS0 := hide hs
  have hl2 : n ≤ 140737488351232 := by omega
  have z0 : ((w.alloc (.cells #[.slice B m d] 23)).alloc (.cells #[.bool b] 4)).heap.size = w.heap.size + 1 + 1 := by rw [World.size_alloc, World.size_alloc]
  clear hn hm hr hs hok ho hno
  refine (callsIn_wide (n := 9)).1 ?_
  refine callsIn_of_wp_marks Try.func8 rfl trivial ?_ rfl
  simp only [Try.ntmps8, List.size_toArray, List.length_cons, List.length_nil, Nat.reduceAdd, Nat.reduceSub, Array.replicate_succ, Array.replicate_zero, List.push_toArray, List.append_toArray, List.nil_append, List.cons_append]
  gi_wp2_with (first | (refine ⟨trivial, ?_⟩; gi_at_call 12; refine (callsIn_wide.2 (hC _ r0)).mono ?_; rintro e w1 ⟨rfl, HB1⟩; have q1 := (HB1.cell (World.block_lt_of_cell? _ _ q0)).trans q0; have i1 := i0.below HB1) | (refine ⟨trivial, ?_⟩; gi_at_call 16; refine (callsIn_wide.2 (hI _ i1)).mono ?_; rintro e w' ⟨rfl, rfl⟩) | (refine ⟨trivial, ?_⟩; gi_at_call 18; refine (callsIn_wide.2 (byKey_any A n c (w1.alloc (.cells #[.slice none 0 0] 22)))).mono ?_; rintro e w2 ⟨rfl, hs2, hbx, HB2⟩))
  obtain ⟨g9, hg9⟩ : ∃ g, w1.heap.size = g := ⟨_, rfl⟩
  simp only [World.size_alloc, hg9] at hs2 hbx HB2 ⊢
  have hB1 := HB1.size
  rw [z0, hg9] at hB1
  have q9 : w2.heap[g9]? = some (.cells #[.slice none 0 0] 22) := by
    rw [HB2.block g9 (by omega), ← hg9]; exact heap_alloc_new w1 _
  have B2 : Below g9 w1 w2 := ((Below.refl g9 w1).alloc (by omega) _).trans (HB2.mono (by omega))
  have e0 : Bs w1 w.heap.size (.slice B m d) 23 := blk_below s0 HB1
  have e1 : Bs w1 (w.heap.size + 1) (.bool b) 4 := blk_below b0 HB1
  have hx2 : RdE w2 A c l := (r0.below HB1).below (by rw [hg9]; exact B2)
  have hAb : ∀ ad, A = some ad → 0 < l.length → ad.block < w.heap.size := fun ad e h => by
    obtain ⟨ad', e', hc, -, -, -⟩ := RdE.at4 HR0.out 0 h
    rw [e] at e'
    injection e' with e'
    subst e'
    have h1 := World.block_lt_of_cell? w _ hc
    rw [Nat.zero_mul, add_zero_] at h1
    exact h1
  have B1w : Below w.heap.size w w1 := stq B0 HB1
  obtain ⟨T, hT⟩ : ∃ T, thn S b l = T := ⟨_, rfl⟩
  have HT := hide hT
  have HL := hide (And.intro hl hl2)
  have HQ := hide (And.intro hB1 (And.intro hs2 (And.intro e0 (And.intro e1 (And.intro hAb B1w)))))
  clear hT hC hI q0 r0 i0 s0 b0 B0 HB1 q1 i1 hg9
  refine range_iterG (c0 := g9 + 1) (D := g9 + 2) (m := l.length) (gf := 24) (lb := #[.pointer (some ⟨g9 + 1, 0, none⟩)]) (next := nextK l) (own := fun j => j = g9 + 1 ∨ ∃ a0, A = some a0 ∧ j = a0.block) (V := valsK A l) (by rw [hs2]) (by omega) rfl (enters_of Try.func24 (by kernel_rfl) rfl) (fun k vs W ⟨Ax, cx, e, _⟩ => by rw [e]; rfl)
    (iterK_any A c l (g9 + 1) _ w2 (by rw [HN.out]; exact hbx) hx2 (by rw [HN.out]; exact hl2) (.inl rfl) (fun ad e h => ⟨by have := hAb ad e h; omega, .inr ⟨ad, e, rfl⟩, by have := hAb ad e h; omega⟩))
    (fun p W => Below g9 w1 W ∧ g9 + 2 ≤ W.heap.size ∧ ∃ v out, W.heap[g9]? = some (.cells #[v] 22) ∧ OwE W (g9 + 4) v out ∧ out ++ thn S b (l.drop p) = T ∧ out.length ≤ p)
    (fun p X Y h ⟨i1, i2, v, out, i3, i4, i5, i6⟩ => ⟨i1.trans (h.below (by omega) (by omega) (by omega)), Nat.le_trans i2 h.size, v, out, (h.block g9 (by omega) (by omega) (by omega) (by omega)).trans i3, Ow.keep i4 (fun j h1 h2 => h.block j (by omega) (by omega) (by omega) h2), i5, i6⟩)
    ⟨B2, by omega, _, [], q9, Ow.zero _ _ _ _, by rw [List.drop_zero]; exact HT.out, Nat.zero_le _⟩ ?round ?done
  case round =>
    intro l1 p vs W hp hDW hV hI
    obtain ⟨Ax, cx, rfl, hx, hblk⟩ := hV
    gi_wp2
    refine ⟨Below.refl _ _, fun W2 hAc hI2 => ?_⟩
    obtain ⟨hB1, hs2, e0, e1, hAb, B1w⟩ := HQ.out
    have hxW : RdE W2 Ax cx ((l.drop p).take (runK (l.drop p))) := RdE.same hx (fun ad e h => by
      obtain ⟨a0, ha, hb⟩ := hblk ad e
      have hb2 := hAb a0 ha (by omega)
      rw [hb]
      exact hAc.block _ (by omega) (by omega) (by omega) (by omega))
    obtain ⟨i1, i2, v, out, i3, i4, i5, i6⟩ := hI2
    have hsz := hAc.size
    have hcut := byK_next (thG S b) l p hp
    have hnl := next_le l p hp
    have hnx : nextK l p = p + runK (l.drop p) := rfl
    have hGp := ((HPW.out.sublist (List.drop_sublist p l)).sublist (List.take_sublist (runK (l.drop p)) _))
    have hGl : ((l.drop p).take (runK (l.drop p))).length = runK (l.drop p) := by rw [List.length_take]; have := run_le (l.drop p); omega
    generalize (l.drop p).take (runK (l.drop p)) = G at *
    generalize runK (l.drop p) = q at *
    rw [thn, hcut, ← List.append_assoc] at i5
    have hqn : q ≤ n := by rw [← HN.out]; omega
    obtain ⟨Wm, hrun, hSM, hgr⟩ := (SeenM.made W2).upd 0 (show fitI 0 from rfl) (by decide)
    have BWm : Below W2.heap.size W2 Wm := (below_alloc W2 (.map #[] 0)).trans (((Below.refl W2.heap.size (W2.alloc (.map #[] 0))).grown hgr (by rw [World.size_alloc]; omega) (fun k e => by injection e with e; omega)))
    have hSM0 : SeenM Wm W2.heap.size 1 (stF S G 0) := hSM
    have f0 : Bs W2 w.heap.size (.slice B m d) 23 := (i1.block _ (by omega)).trans e0
    have f1 : Bs W2 (w.heap.size + 1) (.bool b) 4 := (i1.block _ (by omega)).trans e1
    have f0m : Bs Wm w.heap.size (.slice B m d) 23 := blk_below f0 BWm
    have r0 : Wm.cell? ⟨w.heap.size, 0, none⟩ = some (.slice B m d) := blk_cell f0m 0
    have HH := hide (And.intro i5 (And.intro i6 (And.intro hnx (And.intro hnl (And.intro hGp (And.intro hqn hGl))))))
    have HP := hide hp
    have HGR : Hid (∀ Z, (∀ j, j < g9 → Z.heap[j]? = W2.heap[j]?) → RdE Z Ax cx G) := hide (fun Z h => RdE.same hxW (fun ad e h0 => by
      obtain ⟨a0, ha, hb⟩ := hblk ad e
      have hb2 := hAb a0 ha (by omega)
      rw [hb]
      exact h _ (by omega)))
    have HNB : Hid (∀ a0, A = some a0 → a0.block ≠ g9) := hide (fun a0 ha e => by have := hAb a0 ha (by omega); omega)
    clear hcut hx hblk hI i5 i6 hSM hgr hnx hnl hGp hqn hGl hAc hp
    obtain ⟨Ao, co, hv, -⟩ := i4.rd
    obtain ⟨k0, hk0⟩ : ∃ k, out.length = k := ⟨_, rfl⟩
    rw [hk0] at hv
    subst hv
    have HK0 := hide hk0
    have hW4 : g9 + 4 ≤ W2.heap.size := Nat.le_trans hDW hsz
    clear hk0
    have hmm := @run_makeMap Try.prog
    gi_wp2
    gi_loopw [34] (fun iv wr => ∃ j : Nat, j ≤ m ∧ iv = .int .i64 (j : Int) ∧ SeenM wr W2.heap.size (j + 1) (stF S G j) ∧ Below W2.heap.size W2 wr) (fun iv _ => m - (intOf iv).toNat)
    case atStart => exact ⟨0, Nat.zero_le _, rfl, hSM0, BWm⟩
    case round =>
      obtain ⟨j, hj, rfl, hSj, HBj⟩ := hrel
      by_cases hlt : j < m
      · have hlti : (j : Int) < (m : Int) := Int.ofNat_lt.2 hlt
        obtain ⟨hw1, hw2⟩ := idx_w m j hlt (by omega)
        have isj : RdI wr B d S := HS0.out.below ((B1w.trans (i1.mono (by omega))).trans (HBj.mono (by omega)))
        obtain ⟨ad, e', x0⟩ := Rd.int_at isj j (by rw [HM.out]; exact hlt)
        subst e'
        obtain ⟨y, hy⟩ : ∃ y, S.getD j 0 = y := ⟨_, rfl⟩
        rw [hy] at x0
        have hSee := sees_any y Ax cx q G wr HH.out.2.2.2.2.2.2 (hxW.below HBj) (by have := HH.out.2.2.2.2.2.1; omega)
        have hfit := see_fit y G (by rw [HH.out.2.2.2.2.2.2]; have := HH.out.2.2.2.2.2.1; omega)
        have hst : stF S G (j + 1) = fun z => decide (z = seeI y G) || stF S G j z := by rw [← hy]; rfl
        have HST := hide hst
        generalize stF S G j = Sj at *
        obtain ⟨r, hr⟩ : ∃ r, seeI y G = r := ⟨_, rfl⟩
        rw [hr] at hSee hfit HST
        clear hy hr hst isj
        gi_wp2_with (first | (refine ⟨trivial, ?_⟩; gi_at_call 19; refine (CallsIn.inRound l1 (callsIn_wide.2 hSee)).mono ?_; rintro e w6 ⟨rfl, HB6⟩; obtain ⟨w7, hrun7, hS7, hg7⟩ := (hSj.below HB6).upd r hfit (by have := maxLen_big; omega); have HB7 : Below W2.heap.size W2 w7 := (HBj.trans (HB6.mono HBj.size)).grown hg7 (Nat.le_trans HBj.size HB6.size) (fun k e => by injection e with e; omega)))
        go_roundw
        case rel => exact ⟨j + 1, hlt, by go_num, by rw [HST.out]; exact hS7, HB7⟩
        case measure => first | exact idx_m m j hlt | exact idx_m2 m j hlt | exact idx_m3 m j hlt hw1
      · obtain rfl : j = m := Nat.le_antisymm hj (Nat.not_lt.1 hlt)
        obtain ⟨W3, rfl⟩ : ∃ z : World, z = wr := ⟨wr, rfl⟩
        have l3 : W3.heap[g9]? = some (.cells #[.slice Ao k0 co] 22) := (HBj.block g9 (by omega)).trans i3
        have y3 : W3.cell? ⟨g9, 0, none⟩ = some (.slice Ao k0 co) := blk_cell l3 0
        have O3 : OwE W3 (g9 + 4) (.slice Ao k0 co) out := i4.below HBj
        have K3 : Kz g9 (g9 + 4) W2 W3 := (Kz.refl _ _ _).all hW4 HBj
        clear hrun BWm hSM0 f0m r0 i3 i4
        gi_wp2
        gi_loopw [47] (fun iv wr => ∃ (i : Nat) (v : Value), i ≤ q ∧ iv = .int .i64 (i : Int) ∧ wr.heap[g9]? = some (.cells #[v] 22) ∧ OwE wr (g9 + 4) v (out ++ kpF (stF S G j) G i) ∧ Kz g9 (g9 + 4) W2 wr ∧ SeenM wr W2.heap.size (j + 1) (stF S G j)) (fun iv _ => q - (intOf iv).toNat)
        case atStart => exact ⟨0, _, Nat.zero_le _, rfl, l3, by rw [kpF, List.append_nil]; exact O3, K3, hSj⟩
        case round =>
          obtain ⟨i, v, hi, rfl, lv, HO, HK, hSi⟩ := hrel
          have hkl := kp_len (stF S G j) G i
          by_cases hlt : i < q
          · have hlti : (i : Int) < (q : Int) := Int.ofNat_lt.2 hlt
            obtain ⟨hw1, hw2⟩ := idx_w q i hlt (by have := HH.out.2.2.2.2.2.1; omega)
            obtain ⟨ad, e', x0, x1, x2, x3⟩ := RdE.at4 (HGR.out wr (fun j hj => HK.block j (lt4 j g9 hj).1 (lt4 j g9 hj).2)) i (by rw [HH.out.2.2.2.2.2.2]; exact hlt)
            subst e'
            have hfits : ((out ++ kpF (stF S G j) G i).length + 1) * 48 ≤ 140737488355328 := by
              rw [List.length_append, HK0.out]
              obtain ⟨-, h2, h3, ⟨-, h4⟩, -, -, -⟩ := HH.out
              rw [HN.out, h3] at h4
              rw [HK0.out] at h2
              exact fit_arith _ _ i p q n hkl hlt h2 h4 HL.out.1
            have HKP : Hid (kpF (stF S G j) G (i + 1) = kpF (stF S G j) G i ++ (if stF S G j (i : Int) = true then [G.getD i zEnt] else [])) := hide rfl
            obtain ⟨x, hx⟩ : ∃ x, G.getD i zEnt = x := ⟨_, rfl⟩
            rw [hx] at x0 x1 x2 x3 HKP
            have hE := Eb.new wr x
            have bE := below_alloc wr (ebo x)
            obtain ⟨y0, y1, y2, y3', -, -, -, -⟩ := hE.read
            have hSe := hSi.below bE
            have hlk := SeenM.look hSe (i : Int) (wf_nat i (Nat.le_trans (Nat.le_of_lt hlt) (Nat.le_trans HH.out.2.2.2.2.2.1 hl2)))
            have lve := (bE.block g9 (blk_lt lv)).trans lv
            have HOe := HO.below bE
            obtain ⟨Av, cv, hv, -⟩ := HO.rd
            obtain ⟨kv, hkv⟩ : ∃ kv, (out ++ kpF (stF S G j) G i).length = kv := ⟨_, rfl⟩
            rw [hkv] at hv
            subst hv
            have c0 : (wr.alloc (ebo x)).cell? ⟨g9, 0, none⟩ = some (.slice Av kv cv) := blk_cell lve 0
            have c1 : (wr.alloc (ebo x)).frozen? ⟨g9, 0, none⟩ = false := blk_frozen lve 0
            have HKe := HK.all (Nat.le_trans hW4 HK.size) bE
            obtain ⟨st, hst⟩ : ∃ st, stF S G j (i : Int) = st := ⟨_, rfl⟩
            rw [hst] at hlk HKP
            have hFIT := hide hfits
            generalize kpF (stF S G j) G i = kp at *
            clear hx hkv hst hfits HO HK hSi lv hkl
            cases st
            · gi_wp2
              go_roundw
              case rel => exact ⟨i + 1, _, hlt, by go_num, lve, by rw [HKP.out, if_neg (by decide), List.append_nil]; exact HOe, HKe, hSe⟩
              case measure => first | exact idx_m q i hlt | exact idx_m2 q i hlt | exact idx_m3 q i hlt hw1
            · gi_wp2_with (first | (gi_at_builtin; refine R_append_in kEnt (w0 := wr.alloc (ebo x)) (W := wr.alloc (ebo x)) (g9 + 4) rfl (.tmp 55) (.tmp 57) 22 36 (.agg #[.string ByteArray.empty, .int .i64 0, .int .i64 0, .string ByteArray.empty]) 48 rfl Try.underlying22 info_ent rfl (by decide) (by decide) (.slice Av kv cv) (out ++ kp) x [.string x.1, .int .i64 x.2.1, .int .i64 x.2.2.1, .string x.2.2.2] (fun _ => True) (fun _ => False) rfl (by rw [World.size_alloc]; rfl) (kEnt_M _ _ _ _) (fun _ h => h.elim) (fun _ _ => trivial) HOe (Below.refl _ _) (Nat.le_trans hW4 HKe.size) hFIT.out ?_; intro v5 w5 HO5 HB5 hg5; have lv5 := (HB5.block g9 (lt4s g9)).trans lve; obtain ⟨A5, c5, hv5, -⟩ := Ow.rd HO5; obtain ⟨k5, hk5⟩ : ∃ k, (out ++ kp ++ [x]).length = k := ⟨_, rfl⟩; rw [hk5] at hv5; subst hv5; have d0 : w5.cell? ⟨g9, 0, none⟩ = some (.slice Av kv cv) := blk_cell lv5 0; have d1 : w5.frozen? ⟨g9, 0, none⟩ = false := blk_frozen lv5 0; have HK5 := HKe.step HB5; have hS5 := hSe.grown hg5 (hSe.apart HOe)))
              go_roundw
              case rel => exact ⟨i + 1, _, hlt, by go_num, blk_set lv5 0 _, by rw [HKP.out, if_pos rfl, ← List.append_assoc]; exact Ow.setCell HO5 lv5 (by decide) 0 _, HK5.set 0 _, hS5.block (Below.heap_setCell w5 ⟨g9, 0, none⟩ _ _ (w4ne g9 _ hW4))⟩
              case measure => first | exact idx_m q i hlt | exact idx_m2 q i hlt | exact idx_m3 q i hlt hw1
          · obtain rfl : i = q := Nat.le_antisymm hi (Nat.not_lt.1 hlt)
            obtain ⟨W5, rfl⟩ : ∃ z : World, z = wr := ⟨wr, rfl⟩
            have hkp : kpF (stF S G j) G i = G.filter (stayE S G) := by
              have h1 := kp_all S G HH.out.2.2.2.2.1
              rw [HM.out, HH.out.2.2.2.2.2.2] at h1
              exact h1
            rw [hkp] at HO hkl
            have hth : thG S b G = trimE b (G.filter (stayE S G)) := rfl
            obtain ⟨KP, hKP⟩ : ∃ KP, G.filter (stayE S G) = KP := ⟨_, rfl⟩
            rw [hKP] at HO hkl hth
            have HTH := hide hth
            have e1b : Bs W5 (w.heap.size + 1) (.bool b) 4 := (HK.block _ (lt6 _ g9 HQ.out.1).1 (lt6 _ g9 HQ.out.1).2).trans f1
            clear hkp hKP hth hSi O3 K3 l3 y3 hSj HBj
            gi_wp2
            gi_loopw [60] (fun _ wr => ∃ (K' : List Ent) (v : Value), wr.heap[g9]? = some (.cells #[v] 22) ∧ OwE wr (g9 + 4) v (out ++ K') ∧ trimE b K' = trimE b KP ∧ Kz g9 (g9 + 4) W2 wr ∧ K'.length ≤ i) (fun _ wr => lenC g9 wr)
            case atStart => exact ⟨KP, v, lv, HO, rfl, HK, hkl⟩
            case round =>
              obtain ⟨K', v, lv, HO, htr, HK, hKl⟩ := hrel
              have e1c : Bs wr (w.heap.size + 1) (.bool b) 4 := (HK.block _ (lt6 _ g9 HQ.out.1).1 (lt6 _ g9 HQ.out.1).2).trans f1
              have r1 : wr.cell? ⟨w.heap.size + 1, 0, none⟩ = some (.bool b) := blk_cell e1c 0
              obtain ⟨Av, cv, hv, rv⟩ := HO.rd
              obtain ⟨kv, hkv⟩ : ∃ kv, (out ++ K').length = kv := ⟨_, rfl⟩
              have hkv2 : k0 + K'.length = kv := by rw [← hkv, List.length_append, HK0.out]
              rw [hkv] at hv
              subst hv
              have c0 : wr.cell? ⟨g9, 0, none⟩ = some (.slice Av kv cv) := blk_cell lv 0
              have c1 : wr.frozen? ⟨g9, 0, none⟩ = false := blk_frozen lv 0
              have HKV := hide hkv
              have HKV2 := hide hkv2
              have HTR := hide htr
              clear hkv hkv2 htr
              cases b with
              | false =>
                have hfin : K' = thG S false G := HTR.out.trans HTH.out.symm
                gi_wp2
                refine ⟨⟨HK.size, fun j0 hj0 hlt0 => HK.block j0 hlt0 ?_⟩, i1.trans (HK.below (Nat.le_of_lt (lt4s g9))), Nat.le_trans i2 HK.size, _, out ++ K', lv, HO, ?_, ?_⟩
                · rcases hj0 with (rfl | ⟨a0, ha, rfl⟩) | rfl | rfl
                  · exact (lt5 g9).1
                  · exact HNB.out a0 ha
                  · exact (lt5 g9).2.1
                  · exact (lt5 g9).2.2
                · have h5 := HH.out.1
                  rw [hfin]
                  exact h5
                · obtain ⟨-, h2, h3, -, -, -, -⟩ := HH.out
                  rw [List.length_append, h3]
                  exact Nat.add_le_add h2 hKl
              | true =>
                rcases List.eq_nil_or_concat K' with hK0 | ⟨u, x, hKx⟩
                · subst hK0
                  have hfin : [] = thG S true G := by rw [HTH.out, ← HTR.out]; rfl
                  have hkk : kv = k0 := HKV2.out.symm
                  subst hkk
                  gi_wp2
                  refine ⟨⟨HK.size, fun j0 hj0 hlt0 => HK.block j0 hlt0 ?_⟩, i1.trans (HK.below (Nat.le_of_lt (lt4s g9))), Nat.le_trans i2 HK.size, _, out ++ [], lv, HO, ?_, ?_⟩
                  · rcases hj0 with (rfl | ⟨a0, ha, rfl⟩) | rfl | rfl
                    · exact (lt5 g9).1
                    · exact HNB.out a0 ha
                    · exact (lt5 g9).2.1
                    · exact (lt5 g9).2.2
                  · have h5 := HH.out.1
                    rw [hfin]
                    exact h5
                  · obtain ⟨-, h2, h3, -, -, -, -⟩ := HH.out
                    rw [List.length_append, h3]
                    exact Nat.add_le_add h2 hKl
                · rw [List.concat_eq_append] at hKx
                  subst hKx
                  have hul : u.length + 1 = (u ++ [x]).length := by rw [List.length_append, List.length_singleton]
                  have hk1 : k0 + u.length + 1 = kv := by rw [← HKV2.out, ← hul]; rfl
                  obtain ⟨k2, hk2⟩ : ∃ k2, k0 + u.length = k2 := ⟨_, rfl⟩
                  rw [hk2] at hk1
                  have hix := last_get (out ++ u) x
                  rw [List.append_assoc, List.length_append, HK0.out, hk2] at hix
                  obtain ⟨ad', ea, -, -, x2, -⟩ := RdE.at4 rv k2 (by rw [HKV.out, ← hk1]; exact Nat.lt_succ_self _)
                  rw [hix] at x2
                  subst ea
                  obtain ⟨g1, g2, g3, g4, g5⟩ := last_w k0 k2 kv u.length hk1 hk2 (Nat.le_trans (Nat.le_trans (by rw [HKV.out]; exact Nat.le_refl _) (kv_fit rv)) (Nat.le_refl _))
                  by_cases hx2 : x.2.2.1 = 2
                  · have hxb : (x.2.2.1 == 2) = true := beq_iff_eq.2 hx2
                    have hkc : k2 ≤ cv := Nat.le_trans g4 (by have h := rv.le; rw [HKV.out] at h; exact h)
                    have hsl := fun W => sliceK_hi (P := Try.prog) 22 36 Try.underlying22 (i := _) rfl (some ad') kv cv k2 hkc W
                    have O' := Ow.cut HO k2 g4
                    have etk : (out ++ (u ++ [x])).take k2 = out ++ u := by
                      rw [← List.append_assoc, List.take_append_of_le_length (by rw [List.length_append, HK0.out, hk2]; exact Nat.le_refl _), List.take_of_length_le (by rw [List.length_append, HK0.out, hk2]; exact Nat.le_refl _)]
                    rw [etk] at O'
                    have HX2 := hide hx2
                    have HUL : Hid (u.length ≤ i) := hide (Nat.le_trans (by rw [← hul]; exact Nat.le_succ _) hKl)
                    have hlc := lenC_of lv
                    have HLC := hide hlc
                    have hset : Bs (wr.setCell ⟨g9, 0, none⟩ (.slice (some ad') k2 cv)) g9 (.slice (some ad') k2 cv) 22 := blk_set lv 0 _
                    have HLS := hide (lenC_of hset)
                    clear hlc etk hul hkc rv hx2 hKl hix hk1 hk2
                    gi_wp2
                    go_roundw
                    case rel => exact ⟨u, _, hset, Ow.setCell O' lv (by decide) 0 _, (trim_drop u x HX2.out).symm.trans HTR.out, HK.set 0 _, HUL.out⟩
                    case measure => (rw [HLS.out, HLC.out]; exact g5.1)
                  · have hxb : (x.2.2.1 == 2) = false := beq_eq_false_iff_ne.2 hx2
                    have hfin : u ++ [x] = thG S true G := by
                      rw [HTH.out, ← HTR.out]
                      refine (trim_same true _ fun _ u' x' e => ?_).symm
                      have h1 := List.append_inj_right' e rfl
                      injection h1 with h1
                      rw [← h1]; exact hx2
                    clear hul rv hix hk1 hk2 hx2
                    gi_wp2
                    refine ⟨⟨HK.size, fun j0 hj0 hlt0 => HK.block j0 hlt0 ?_⟩, i1.trans (HK.below (Nat.le_of_lt (lt4s g9))), Nat.le_trans i2 HK.size, _, out ++ (u ++ [x]), lv, HO, ?_, ?_⟩
                    · rcases hj0 with (rfl | ⟨a0, ha, rfl⟩) | rfl | rfl
                      · exact (lt5 g9).1
                      · exact HNB.out a0 ha
                      · exact (lt5 g9).2.1
                      · exact (lt5 g9).2.2
                    · have h5 := HH.out.1
                      rw [hfin]
                      exact h5
                    · obtain ⟨-, h2, h3, -, -, -, -⟩ := HH.out
                      rw [List.length_append, h3]
                      exact Nat.add_le_add h2 hKl
  case done =>
    intro W hI hsz hD
    obtain ⟨hB1, hs2, e0, e1, hAb, B1w⟩ := HQ.out
    obtain ⟨i1, i2, v, out, i3, i4, i5, i6⟩ := hI
    rw [show thn S b (l.drop l.length) = [] from byK_end (thG S b) l, List.append_nil] at i5
    subst i5
    obtain ⟨Av, cv, hv, -⟩ := i4.rd
    obtain ⟨kv, hkv⟩ : ∃ kv, out.length = kv := ⟨_, rfl⟩
    rw [hkv] at hv
    subst hv
    have c0 : W.cell? ⟨g9, 0, none⟩ = some (.slice Av kv cv) := blk_cell i3 0
    clear hkv
    gi_wp2
    refine ⟨by simp, .inl ⟨_, _, rfl, run_takeDeferred hD, ?_⟩⟩
    have hD3 := (Array.getElem?_eq_some_iff.1 hD).1
    refine leaves_nil (.tuple #[.slice Av kv cv, .int .i64 0]) ?_ ⟨.slice Av kv cv, rfl, ?_, ?_⟩
    · simp [results, Try.results8, go_sem]
    · rw [HT.out]
      exact (Ow.keep i4 (fun j h1 h2 => World.putObj_heap_other (by omega))).lower (by omega)
    · exact (B1w.trans (i1.mono (by omega))).trans ((Below.refl w.heap.size W).grown (grownBy_putObj' W (g9 + 2) _) (by omega) (fun k e => by cases e; omega))
end Go.Proofs.Ythfalpibhcjpgaa
end

section
/- A set of names (a key and a number) in a map of the call's own. -/
namespace Go.Proofs.Ythfalpibhcjpgaa
open Go.RowKit Go.Maps Go.Proofs.YthfalpibhcjpgaaW.PrintWords Go.WideMaps
set_option linter.unusedVariables false

theorem laidOutN : laidOutB Try.prog = true := by kernel_rfl
theorem rowN : (51 : TypeId) < Try.prog.types.size := of_decide_eq_true (by kernel_rfl)
theorem wideN : (match Try.prog.underlying 51 with | some (.array _ _) | some (.struct _) => true | _ => false) = true := by rw [Try.underlying51]
theorem lawN : KeyLaw Try.prog 51 := deep_law_laid laidOutN (m := 2) (by omega) rowN (by kernel_rfl) wideN
theorem keyedN : Keyed Try.prog 51 := Keyed.of_law lawN
abbrev Nam := ByteArray × Int
abbrev namV (x : Nam) : Value := .agg #[.string x.1, .int .i64 x.2]
def fitN (x : Nam) : Prop := x.1.size ≤ maxLen ∧ fitI x.2
theorem keyOfN (x : Nam) (h : fitN x) : keyOf Try.prog 51 (namV x) = some (.string (keyBytes [.string x.1.data.toList, .int .i64 x.2])) := by
  have hkt : Try.prog.keyType 51 = true := by kernel_rfl
  obtain ⟨m, hsz⟩ : ∃ m, Try.prog.types.size = m + 1 := ⟨Try.prog.types.size - 1, (Nat.succ_pred_eq_of_pos (Nat.lt_of_le_of_lt (Nat.zero_le _) rowN)).symm⟩
  obtain ⟨h1, h2⟩ := h
  have hw : (Lit.int .i64 x.2).wf = true := h2
  unfold keyOf
  simp only [Try.underlying51]
  have hc : Try.prog.cellsOf 51 = 2 := by kernel_rfl
  have c1 : Try.prog.cellsOf 9 = 1 := by kernel_rfl
  have c2 : Try.prog.cellsOf 3 = 1 := by kernel_rfl
  rw [if_pos (by simp [hkt, Value.formed, Try.underlying51, hc]), hsz]
  unfold Program.keyLits
  simp only [Try.underlying51, Value.cells]
  rw [if_pos (by refine ⟨by rw [hc]; rfl, by kernel_rfl⟩)]
  simp only [List.mapM_cons, List.mapM_nil, c1, c2]
  simp [Program.keyLits, Try.underlying9, Try.underlying3, h1, hw]
def litN (x : Nam) : Lit := .string (keyBytes [.string x.1.data.toList, .int .i64 x.2])
theorem litN_inj {x y : Nam} (hx : fitN x) (hy : fitN y) (h : litN x = litN y) : x = y := by
  have h1 := keyOfN x hx
  have h2 := keyOfN y hy
  rw [show Lit.string (keyBytes [.string x.1.data.toList, .int .i64 x.2]) = litN y from h] at h1
  have h3 := keyedN.inj h1 h2
  obtain ⟨a, b⟩ := x
  obtain ⟨c, d⟩ := y
  simp [namV] at h3
  exact Prod.ext h3.1 h3.2
theorem isKey_str (l : List UInt8) : WideAt.IsKeyLit (.string l) := by
  first | exact .string _ | exact rfl | trivial | decide | simp [WideAt.IsKeyLit]
/-- block b is a map whose names with 'true' are those of S -/
def SeenN (w : World) (b n : Nat) (S : Nam → Bool) : Prop := ∃ D : DataW Unit, w.ownsMap Try.prog 51 (plainElem Try.prog 4) b n D ∧ IsMap D ∧ ∀ x : Nam, fitN x → D.atKey (litN x) (.lit (.bool false)) = .lit (.bool (S x))
theorem SeenN.made (w : World) : SeenN (w.alloc (.map #[] 0)) w.heap.size 0 (fun _ => false) :=
  ⟨.map [], World.ownsMap_made w _ _ _, ⟨[], rfl⟩, fun x _ => rfl⟩
theorem SeenN.lt {w : World} {b n : Nat} {S : Nam → Bool} (h : SeenN w b n S) : b < w.heap.size := by
  obtain ⟨D, h1, _⟩ := h
  exact h1.lt
theorem SeenN.block {w w1 : World} {b n : Nat} {S : Nam → Bool} (h : SeenN w b n S) (hb : w1.heap[b]? = w.heap[b]?) : SeenN w1 b n S := by
  obtain ⟨D, ⟨es, cl, h1, h2⟩, h3⟩ := h
  exact ⟨D, ⟨es, cl, hb.trans h1, h2⟩, h3⟩
theorem SeenN.below {w w1 : World} {b n : Nat} {S : Nam → Bool} (h : SeenN w b n S) (hb : Below w.heap.size w w1) : SeenN w1 b n S := h.block (hb.block b h.lt)
theorem SeenN.look {w : World} {b n : Nat} {S : Nam → Bool} (h : SeenN w b n S) (x : Nam) (hx : fitN x) : (Instr.lookup 49 (.map (some b)) (namV x) false).run Try.prog w = .ok (.bool (S x)) w := by
  obtain ⟨D, h1, _, h3⟩ := h
  have hz : (zeroValue 4).run Try.prog w = .ok (.bool false) w := by kernel_rfl
  obtain ⟨v, ps, hrun, hv⟩ := h1.lookup keyedN Try.underlying49 hz (plainElem_bool Try.underlying4 false) (keyOfN x hx)
  have h4 := h3 x hx
  unfold litN at h4
  rw [h4] at hv
  unfold plainElem at hv
  rw [Try.underlying4] at hv
  cases v <;> simp at hv
  obtain ⟨rfl, _⟩ := hv
  exact hrun
theorem SeenN.upd {w : World} {b n : Nat} {S : Nam → Bool} (h : SeenN w b n S) (z : Nam) (hz : fitN z) (hn : n < maxLen) :
    ∃ w', (Instr.mapUpdate 49 (.map (some b)) (namV z) (.bool true)).run Try.prog w = .ok () w' ∧ SeenN w' b (n + 1) (fun y => decide (y = z) || S y) ∧ w.grownBy w' (some b) := by
  obtain ⟨D, h1, h2, h3⟩ := h
  obtain ⟨w', r0, r1, r2⟩ := h1.update keyedN Try.underlying49 hn (keyOfN z hz) (plainElem_bool Try.underlying4 true)
  refine ⟨w', r0, ⟨_, r1, h2.put _ _, fun y hy => ?_⟩, r2⟩
  by_cases e : y = z
  · subst e
    unfold litN
    rw [atKey_put_same h2 (isKey_str _)]
    simp
  · unfold litN
    rw [atKey_put_other (fun h => e (litN_inj hy hz (by unfold litN; first | exact h | exact h.symm)))]
    have h4 := h3 y hy
    unfold litN at h4
    rw [h4]
    simp [e]
theorem SeenN.grown {w w1 : World} {b n : Nat} {S : Nam → Bool} (h : SeenN w b n S) {row : Option Nat} (hg : w.grownBy w1 row) (hne : some b ≠ row) : SeenN w1 b n S := h.block (hg.block b h.lt hne)
end Go.Proofs.Ythfalpibhcjpgaa
end

section
/- Merge: rows of runs; cloned; how many versions they hold; doubles told. -/
namespace Go.Proofs.Ythfalpibhcjpgaa
open Go.RowKit Go.Proofs.YthfalpibhcjpgaaW.PrintWords
set_option linter.unusedVariables false

/-- a run that is handed over: address, capacity, versions -/
abbrev Sl := Option Addr × Nat × List Ent
def eSl (s : Sl) : Value := .slice s.1 s.2.2.length s.2.1
def nilSl : Sl := (none, 0, [])
def kSl : Kd Sl := Kd.scalar eSl (fun _ => rfl)
abbrev RdS := Rd kSl
abbrev OwS := Ow kSl 22
theorem info_sl : (Try.prog.info? 22).map (fun i => (i.zero, i.size, i.bytes)) = some (some (.slice none 0 0), 1, 24) := by kernel_rfl
theorem RdS.at1 {w : World} {A : Option Addr} {c : Nat} {ss : List Sl} (h : RdS w A c ss) (i : Nat) (hi : i < ss.length) : ∃ ad, A = some ad ∧ w.cell? (ad.add i) = some (.slice (ss.getD i nilSl).1 (ss.getD i nilSl).2.2.length (ss.getD i nilSl).2.1) := by
  obtain ⟨ad, cs, e, hk, _, hc⟩ := Rd.at_ h nilSl i hi
  have hk' : cs = [eSl (ss.getD i nilSl)] := hk
  subst hk'
  have := hc 0 _ rfl
  rw [show i * kSl.sz = i from Nat.mul_one i] at this
  exact ⟨ad, e, this⟩
section
variable {ops : Array Oper} {rest : List Oper} {o : Oper} {a : Act} {Q : Exit → Act → World → Prop}
theorem app_sls {w0 W : World} (base : Nat) (hgd : o.guard = none) (s x : Operand)
    (ho : o.op = .call { callee := .builtin .append, args := #[s, x], argTypes := #[31, 31] })
    (v : Value) (xs ys : List Sl) (A : Option Addr) (c : Nat) (hs : a.eval s = v) (hx : a.eval x = .slice A ys.length c)
    (HO : OwS W base v xs) (HR : RdS W A c ys) (HB : Below base w0 W) (hbase : base ≤ W.heap.size) (hl : (xs.length + ys.length) * 24 ≤ 140737488355328)
    (h : ∀ v1 w1, OwS w1 base v1 (xs ++ ys) → Below base w0 w1 → W.grownBy w1 v.ownBlock → (v1.ownBlock = v.ownBlock ∨ ∃ b, v1.ownBlock = some b ∧ W.heap.size ≤ b) → wpList Try.prog ops Q rest (a.put o.dst v1) w1) :
    wpList Try.prog ops Q (o :: rest) a W :=
  app_ows kSl base hgd s x 31 22 _ 24 ho Try.underlying31 info_sl rfl (by decide) (by decide) v xs ys A c hs hx (fun _ _ h => h) HO HR HB hbase hl h
theorem app_sl {w0 W : World} (base : Nat) (hgd : o.guard = none) (s x : Operand)
    (ho : o.op = .call { callee := .builtin .append, args := #[s, x], argTypes := #[31, 31] })
    (v : Value) (xs : List Sl) (c : Sl) (hs : a.eval s = v) (hx : a.eval x = .slice (some ⟨W.heap.size, 0, none⟩) 1 1)
    (HO : OwS W base v xs) (HB : Below base w0 W) (hbase : base ≤ W.heap.size) (hl : (xs.length + 1) * 24 ≤ 140737488355328)
    (h : ∀ v1 w1, OwS w1 base v1 (xs ++ [c]) → Below base w0 w1 → W.grownBy w1 v.ownBlock → (v1.ownBlock = v.ownBlock ∨ ∃ b, v1.ownBlock = some b ∧ W.heap.size ≤ b) → wpList Try.prog ops Q rest (a.put o.dst v1) w1) :
    wpList Try.prog ops Q (o :: rest) a (W.alloc (.cells #[.slice c.1 c.2.2.length c.2.1] 22)) :=
  app_ow kSl base hgd s x 31 22 _ 24 ho Try.underlying31 info_sl rfl (by decide) (by decide) v xs c [.slice c.1 c.2.2.length c.2.1] hs hx rfl HO HB hbase hl h
end
theorem OwS.lit0 (w : World) : OwS (w.alloc (.cells #[] 22)) w.heap.size (.slice (some ⟨w.heap.size, 0, none⟩) 0 0) [] :=
  ⟨fun _ _ => trivial, [], ⟨rfl, .inr ⟨w.heap.size, 0, #[], rfl, Nat.le_refl _, heap_alloc_new _ _, Nat.le_refl _, Nat.zero_le _, rfl, rfl⟩⟩, Reps.none _ _⟩
set_option maxRecDepth 100000 in
set_option maxHeartbeats 800000 in
theorem CloneS_any (A : Option Addr) (c n : Nat) (ss : List Sl) (w : World) (hn : ss.length = n) (hr : RdS w A c ss) (hl : ss.length * 24 ≤ 140737488351232) :
    Calls Try.prog 20 #[.slice A n c] w fun e w' => ∃ v, e = .returned v ∧ OwS w' w.heap.size v ss ∧ Below w.heap.size w w' := by
  subst hn
  cases A with
  | none =>
    have h0 : ss.length = 0 := by
      rcases Nat.eq_zero_or_pos ss.length with h | h
      · exact h
      · obtain ⟨ad, h, _⟩ := hr.at1 0 h
        cases h
    obtain rfl : ss = [] := List.eq_nil_of_length_eq_zero h0
    have heq := fun ww => Lib.run_eql_slice_nil (P := Try.prog) ww 31 22 Option.none 0 c 0 0 Try.underlying31
    rw [show Option.none.isNone = true from rfl] at heq
    go_enter Try.func20, Try.ntmps20
    go_wp2
    go_ret
    exact ⟨_, rfl, Ow.zero _ _ _ _, Below.refl _ _⟩
  | some ad =>
    have heq := fun ww => Lib.run_eql_slice_nil (P := Try.prog) ww 31 22 (some ad) ss.length c 0 0 Try.underlying31
    rw [show (some ad).isNone = false from rfl] at heq
    have hr1 : ∀ o, RdS (w.alloc o) (some ad) c ss := fun o => hr.below ((Below.refl _ _).alloc (Nat.le_refl _) o)
    go_enter Try.func20, Try.ntmps20
    go_wp2_with (first | (at_builtin; refine app_sls (w0 := w) w.heap.size rfl (.tmp 5) (.tmp 6) rfl _ [] ss (some ad) c rfl rfl (OwS.lit0 w) (hr1 _) ((Below.refl _ _).alloc (Nat.le_refl _) _) (by simp) (by simp; omega) ?_; intro v1 w1 HO1 HB1 hg hat))
    go_ret
    exact ⟨_, rfl, HO1, HB1⟩
/-- what the runs hold -/
def conS (ss : List Sl) : List (List Ent) := ss.map (fun s => s.2.2)
theorem conS_len (ss : List Sl) : (conS ss).length = ss.length := List.length_map ..
theorem conS_at (ss : List Sl) (k : Nat) : (conS ss).getD k [] = (ss.getD k nilSl).2.2 := by
  rw [conS, List.getD_eq_getElem?_getD, List.getElem?_map, List.getD_eq_getElem?_getD]
  cases ss[k]? <;> rfl
/-- the names that stand in a list -/
def inN (l : List Ent) (y : Nam) : Bool := l.any (fun x => decide ((x.1, x.2.1) = y))
theorem inN_snoc (l : List Ent) (x : Ent) (y : Nam) : inN (l ++ [x]) y = (decide (y = (x.1, x.2.1)) || inN l y) := by
  unfold inN
  rw [List.any_append, Bool.or_comm, List.any_cons, List.any_nil, Bool.or_false]
  congr 1
  by_cases h : (x.1, x.2.1) = y
  · rw [decide_eq_true h, decide_eq_true h.symm]
  · rw [decide_eq_false h, decide_eq_false (fun e => h e.symm)]
theorem sameN_iff (x y : Ent) : sameN x y = decide ((x.1, x.2.1) = (y.1, y.2.1)) := by
  unfold sameN
  by_cases h : (x.1, x.2.1) = (y.1, y.2.1)
  · injection h with h1 h2
    rw [decide_eq_true h1, decide_eq_true h2, h1, h2, decide_eq_true rfl]; rfl
  · rw [decide_eq_false h]
    by_cases h1 : x.1 = y.1
    · by_cases h2 : x.2.1 = y.2.1
      · rw [h1, h2] at h; exact absurd rfl h
      · rw [decide_eq_false h2, Bool.and_false]
    · rw [decide_eq_false h1, Bool.false_and]
theorem twice_snoc (l : List Ent) (x : Ent) : (!decide ((l ++ [x]).Pairwise distE)) = ((!decide (l.Pairwise distE)) || inN l (x.1, x.2.1)) := by
  have h1 : (l ++ [x]).Pairwise distE ↔ l.Pairwise distE ∧ inN l (x.1, x.2.1) = false := by
    rw [List.pairwise_append]
    constructor
    · rintro ⟨h1, _, h3⟩
      refine ⟨h1, ?_⟩
      unfold inN
      rw [List.any_eq_false]
      intro y hy
      have := h3 y hy x (by simp)
      unfold distE at this
      rw [sameN_iff] at this
      rw [this]; decide
    · rintro ⟨h1, h2⟩
      refine ⟨h1, by simp, fun y hy z hz => ?_⟩
      rw [List.mem_singleton.1 hz]
      unfold inN at h2
      rw [List.any_eq_false] at h2
      have := h2 y hy
      unfold distE
      rw [sameN_iff]
      simpa using this
  by_cases h2 : l.Pairwise distE
  · rw [decide_eq_true h2]
    cases h3 : inN l (x.1, x.2.1) with
    | true => rw [decide_eq_false (fun h => by have := (h1.1 h).2; rw [h3] at this; cases this)]; rfl
    | false => rw [decide_eq_true (h1.2 ⟨h2, h3⟩)]; rfl
  · rw [decide_eq_false h2, decide_eq_false (fun h => h2 (h1.1 h).1)]; rfl
theorem errL_drop (R : List (List Ent)) (k : Nat) (h : k < R.length) : errL (R.drop k) = if ordE (R.getD k []) = 0 then errL (R.drop (k + 1)) else ordE (R.getD k []) := by
  have e : R.drop k = R.getD k [] :: R.drop (k + 1) := by
    rw [List.getD_eq_getElem?_getD, List.getElem?_eq_getElem h]; exact List.drop_eq_getElem_cons h
  rw [e, errL]
theorem flat_take (R : List (List Ent)) (k : Nat) (h : k < R.length) : (R.take (k + 1)).flatten.length = (R.take k).flatten.length + (R.getD k []).length := by
  rw [take_flat R k h, List.length_append]
theorem flat_le (R : List (List Ent)) (B : Nat) (h : ∀ r ∈ R, r.length ≤ B) : ∀ k, (R.take k).flatten.length ≤ k * B := by
  intro k
  induction k with
  | zero => simp
  | succ k ih =>
    rcases Nat.lt_or_ge k R.length with h1 | h1
    · rw [flat_take R k h1, Nat.succ_mul]
      have := h _ (getD_mem2 R [] k h1)
      omega
    · rw [List.take_of_length_le (by omega), ← List.take_of_length_le (i := k) h1]
      have : k * B ≤ (k + 1) * B := Nat.mul_le_mul_right _ (Nat.le_succ _)
      omega
theorem nam_fit (x : Ent) (h : mayE x) : fitN (x.1, x.2.1) := by
  obtain ⟨h1, h2, h3, h4, -⟩ := h
  refine ⟨?_, ?_⟩
  · have : (96 : Nat) ≤ maxLen := by decide
    exact Nat.le_trans h2 this
  · have e : wrap64 x.2.1 = x.2.1 := by unfold wrap64; omega
    show (Lit.int .i64 x.2.1).wf = true
    rw [← e]
    exact wrap64_wf x.2.1
end Go.Proofs.Ythfalpibhcjpgaa
end

section
/- Merge: runs merged, walked. -/
namespace Go.Proofs.Ythfalpibhcjpgaa
open Go.RowKit Go.Proofs.YthfalpibhcjpgaaW.PrintWords
set_option linter.unusedVariables false

/-- what is known of runs that come in -/
structure Runs (w : World) (A : Option Addr) (c : Nat) (ss : List Sl) : Prop where
  row : RdS w A c ss
  each : ∀ s ∈ ss, RdE w s.1 s.2.1 s.2.2
  fit : ∀ s ∈ ss, s.2.2.length * 48 ≤ 140737488351232
  len : ss.length * 24 ≤ 140737488351232
theorem Runs.below {w w1 : World} {A : Option Addr} {c : Nat} {ss : List Sl} (h : Runs w A c ss) (hb : Below w.heap.size w w1) : Runs w1 A c ss := ⟨h.row.below hb, fun s hs => (h.each s hs).below hb, h.fit, h.len⟩
theorem sl_mem (ss : List Sl) (k : Nat) (h : k < ss.length) : ss.getD k nilSl ∈ ss := by
  rw [List.getD_eq_getElem?_getD, List.getElem?_eq_getElem h]; exact List.getElem_mem _
theorem sum_arith (m k t q : Nat) (hm : m ≤ 64) (hk : k < m) (ht : t ≤ k * 2932031007318) (hq : q * 48 ≤ 140737488351232) : wrap64 ((t : Int) + (q : Int)) = ((t + q : Nat) : Int) := by
  have : k * 2932031007318 ≤ 64 * 2932031007318 := Nat.mul_le_mul_right _ (by omega)
  unfold wrap64; omega
theorem wrap_same (z q : Int) : IntKind.i64.wrap (z + q) = wrap64 (z + q) := by rw [IntKind.wrap_i64]; unfold wrap64; omega
theorem con_fit (ss : List Sl) (h : ∀ s ∈ ss, s.2.2.length * 48 ≤ 140737488351232) : ∀ r ∈ conS ss, r.length ≤ 2932031007318 := by
  intro r hr
  obtain ⟨s, hs, rfl⟩ := List.mem_map.1 hr
  have := h s hs
  omega
set_option maxRecDepth 100000 in
set_option maxHeartbeats 6400000 in
theorem Merge_any (A : Option Addr) (c m : Nat) (ss : List Sl) (w : World) (hm : ss.length = m) (hr : Runs w A c ss) :
    Calls Try.prog 11 #[.slice A m c] w fun e w' => ∃ v, e = .returned (.tuple #[v, .int .i64 (errM (conS ss))]) ∧ ((errM (conS ss) ≠ 0 ∧ v = .slice none 0 0) ∨ (errM (conS ss) = 0 ∧ ∃ a, MgOf (conS ss) a ∧ OwE w' w.heap.size v a)) ∧ Below w.heap.size w w' := by
  have HM := hide hm
  have hfit := con_fit ss hr.fit
  have HFL := hide (fun k => flat_le (conS ss) 2932031007318 hfit k)
  have HFT := hide (fun k (h : k < m) => flat_take (conS ss) k (by rw [conS_len, hm]; exact h))
  have HAT := hide (conS_at ss)
  have hmm64 : m ≤ 140737488351232 := by have := hr.len; omega
  have HLEN : Hid (errM (conS ss) = if 64 < m ∨ 65536 < (conS ss).flatten.length then 3 else if errL (conS ss) ≠ 0 then errL (conS ss) else if (conS ss).flatten.Pairwise distE then 0 else 6) := hide (by rw [errM, conS_len, hm])
  have HTK : Hid ((conS ss).take m = conS ss) := hide (List.take_of_length_le (by rw [conS_len, hm]; exact Nat.le_refl _))
  have HSS := hide hr
  clear hm hfit hr
  go_enter Try.func11, Try.ntmps11
  go_wp2
  go_loopw [4, 22] (fun nv iv wr => ∃ (k : Nat) (z : Int), k ≤ m ∧ iv = .int .i64 (k : Int) ∧ nv = .int .i64 z ∧ (m ≤ 64 → z = (((conS ss).take k).flatten.length : Int)) ∧ wr = w) (fun nv iv _ => m - (intOf iv).toNat)
  case atStart => exact ⟨0, 0, Nat.zero_le _, rfl, rfl, fun _ => rfl, rfl⟩
  case round =>
    obtain ⟨k, z, hk, rfl, rfl, hz, rfl⟩ := hrel
    have HZ := hide hz
    clear hz
    by_cases hlt : k < m
    · have hlti : (k : Int) < (m : Int) := Int.ofNat_lt.2 hlt
      obtain ⟨hw1, hw2⟩ := idx_w m k hlt hmm64
      obtain ⟨ad, e1, x0⟩ := HSS.out.row.at1 k (by rw [HM.out]; exact hlt)
      subst e1
      have hq := HSS.out.fit _ (sl_mem ss k (by rw [HM.out]; exact hlt))
      have HFK := hide (HFT.out k hlt)
      rw [HAT.out] at HFK
      obtain ⟨s, hs⟩ : ∃ s, ss.getD k nilSl = s := ⟨_, rfl⟩
      rw [hs] at x0 hq HFK
      obtain ⟨q, hql⟩ : ∃ q, s.2.2.length = q := ⟨_, rfl⟩
      rw [hql] at x0 hq HFK
      have hwz := wrap_same z (q : Int)
      have HQ := hide hq
      clear hs hql hq
      go_wp2
      go_roundw
      case rel => exact ⟨k + 1, wrap64 (z + (q : Int)), hlt, by go_num, by first | rfl | rw [hwz], fun h => by rw [HZ.out h, HFK.out]; exact sum_arith m k _ q h hlt (HFL.out k) HQ.out, by first | rfl | trivial⟩
      case measure => first | exact idx_m m k hlt | exact idx_m2 m k hlt | exact idx_m3 m k hlt hw1
    · obtain rfl : k = m := Nat.le_antisymm hk (Nat.not_lt.1 hlt)
      rw [HTK.out] at HZ
      by_cases h64 : 64 < k
      · have h64i : (64 : Int) < (k : Int) := by omega
        have HE : Hid (errM (conS ss) = 3) := hide (by rw [HLEN.out, if_pos (.inl h64)])
        go_wp2
        go_ret2
        exact ⟨_, by rw [HE.out]; rfl, .inl ⟨by rw [HE.out]; decide, rfl⟩, Below.refl _ _⟩
      · have h64i : ¬ (64 : Int) < (k : Int) := by omega
        have hz := HZ.out (by omega)
        obtain ⟨N, hN⟩ : ∃ N, (conS ss).flatten.length = N := ⟨_, rfl⟩
        rw [hN] at hz HLEN
        subst hz
        have HNN := hide hN
        clear hN
        by_cases h65 : 65536 < N
        · have h65i : (65536 : Int) < (N : Int) := by omega
          have HE : Hid (errM (conS ss) = 3) := hide (by rw [HLEN.out, if_pos (.inr h65)])
          go_wp2
          go_ret2
          exact ⟨_, by rw [HE.out]; rfl, .inl ⟨by rw [HE.out]; decide, rfl⟩, Below.refl _ _⟩
        · have h65i : ¬ (65536 : Int) < (N : Int) := by omega
          have HE : Hid (errM (conS ss) = if errL (conS ss) ≠ 0 then errL (conS ss) else if (conS ss).flatten.Pairwise distE then 0 else 6) := hide (by rw [HLEN.out, if_neg (by omega)])
          have hmm := @run_makeMap Try.prog
          obtain ⟨W0, rfl⟩ : ∃ z : World, z = wr := ⟨wr, rfl⟩
          have hm64 : k ≤ 64 := Nat.not_lt.1 h64
          have hN65 : N ≤ 65536 := Nat.not_lt.1 h65
          obtain ⟨m, rfl⟩ : ∃ m, m = k := ⟨k, rfl⟩
          have hS0 := SeenN.made W0
          have b0 := below_alloc W0 (.map #[] 0)
          clear HLEN HZ h64 h65 HFL hlt
          go_wp2
          go_loopw [8, 41] (fun tv iv wr => ∃ (k : Nat) (tw : Bool) (S : Nam → Bool) (nn : Nat), k ≤ m ∧ iv = .int .i64 (k : Int) ∧ tv = .bool tw ∧ tw = (!decide (((conS ss).take k).flatten.Pairwise distE)) ∧ SeenN wr W0.heap.size nn S ∧ nn = ((conS ss).take k).flatten.length ∧ (∀ y, S y = inN ((conS ss).take k).flatten y) ∧ errL (conS ss) = errL ((conS ss).drop k) ∧ Below W0.heap.size W0 wr) (fun tv iv _ => m - (intOf iv).toNat)
          case atStart => exact ⟨0, false, _, 0, Nat.zero_le _, rfl, rfl, by simp, hS0, rfl, fun y => rfl, rfl, b0⟩
          case round =>
            obtain ⟨k, tw, S, nn, hk, rfl, rfl, htw, hS, hnn, hSy, hel, HB⟩ := hrel
            have HTW := hide htw
            have HSY := hide hSy
            have HEL := hide hel
            have HNL := hide hnn
            clear htw hSy hel hnn
            by_cases hlt : k < m
            · have hlti : (k : Int) < (m : Int) := Int.ofNat_lt.2 hlt
              obtain ⟨hw1, hw2⟩ := idx_w m k hlt hmm64
              have hRW := HSS.out.below HB
              obtain ⟨ad, e1, x0⟩ := hRW.row.at1 k (by rw [HM.out]; exact hlt)
              subst e1
              have hsm := sl_mem ss k (by rw [HM.out]; exact hlt)
              have hsE := HSS.out.each _ hsm
              have hsf := HSS.out.fit _ hsm
              have HEL2 := hide (HEL.out.trans (errL_drop (conS ss) k (by rw [conS_len, HM.out]; exact hlt)))
              have HTF := hide (take_flat (conS ss) k (by rw [conS_len, HM.out]; exact hlt))
              have HLF := hide (HFT.out k hlt)
              rw [HAT.out] at HEL2 HTF HLF
              obtain ⟨⟨sA, sc, r⟩, hs⟩ : ∃ s, ss.getD k nilSl = s := ⟨_, rfl⟩
              rw [hs] at x0 hsE hsf HEL2 HTF HLF
              simp only at x0 hsE hsf HEL2 HTF HLF
              obtain ⟨q, hq⟩ : ∃ q, r.length = q := ⟨_, rfl⟩
              rw [hq] at x0 hsf HLF
              have hq47 : q ≤ 140737488351232 := by omega
              have hCk := MCheck_any sA sc q r wr hq (hsE.below HB) (by omega)
              have HQ := hide hq
              have HSE := hide hsE
              have HW1 := hide hw1
              have HW2 := hide hw2
              clear hq hs hsE hw1 hw2 hsm hRW hsf
              by_cases ho : ordE r = 0
              · rw [ho] at hCk
                have HO := hide ho
                have HPL : Hid (((conS ss).take k).flatten.length + q ≤ N) := hide (by
                  rw [← HLF.out, ← HNN.out]
                  have h1 : (conS ss).flatten = ((conS ss).take (k + 1)).flatten ++ ((conS ss).drop (k + 1)).flatten := by rw [← List.flatten_append, List.take_append_drop]
                  rw [h1, List.length_append]
                  exact Nat.le_add_right _ _)
                generalize ((conS ss).take k).flatten = P at *
                clear ho
                go_wp2_with (first | (go_at_call 12; (with_reducible refine hCk.mono ?_); rintro e w2 ⟨rfl, HB2⟩; have HB3 := HB.trans (HB2.mono HB.size); have hS2 := hS.below HB2))
                go_loopw [8, 52] (fun tv iv wr => ∃ (j : Nat) (tw : Bool) (S : Nam → Bool) (nn : Nat), j ≤ q ∧ iv = .int .i64 (j : Int) ∧ tv = .bool tw ∧ tw = (!decide ((P ++ r.take j).Pairwise distE)) ∧ SeenN wr W0.heap.size nn S ∧ nn = P.length + j ∧ (∀ y, S y = inN (P ++ r.take j) y) ∧ Below W0.heap.size W0 wr) (fun tv iv _ => q - (intOf iv).toNat)
                case atStart => exact ⟨0, tw, S, nn, Nat.zero_le _, rfl, rfl, by rw [List.take_zero, List.append_nil]; exact HTW.out, hS2, HNL.out, fun y => by rw [List.take_zero, List.append_nil]; exact HSY.out y, HB3⟩
                case round =>
                  obtain ⟨j, tw', S', nn', hj, rfl, rfl, htw', hS', hnn', hSy', HBj⟩ := hrel
                  have HTW' := hide htw'
                  have HSY' := hide hSy'
                  have HNN' := hide hnn'
                  clear htw' hSy' hnn'
                  by_cases hlj : j < q
                  · have hlji : (j : Int) < (q : Int) := Int.ofNat_lt.2 hlj
                    obtain ⟨hw1, hw2⟩ := idx_w q j hlj hq47
                    obtain ⟨ad2, e2, x0', x1, x2, x3⟩ := RdE.at4 (HSE.out.below HBj) j (by rw [HQ.out]; exact hlj)
                    subst e2
                    have hmay := (ordE_may r HO.out j (by rw [HQ.out]; exact hlj)).1
                    have htk := takeE_next r j (by rw [HQ.out]; exact hlj)
                    obtain ⟨x, hx⟩ : ∃ x, r.getD j zEnt = x := ⟨_, rfl⟩
                    rw [hx] at x0' x1 x2 x3 hmay htk
                    have hfn := nam_fit x hmay
                    have hE := Eb.new wr x
                    have bE := below_alloc wr (ebo x)
                    have bN := below_alloc (wr.alloc (ebo x)) (.cells #[.string x.1, .int .i64 x.2.1] 51)
                    have hE2 := hE.below bN
                    have hNb := heap_alloc_new (wr.alloc (ebo x)) (.cells #[.string x.1, .int .i64 x.2.1] 51)
                    rw [World.size_alloc] at hNb
                    have bA := stq bE bN
                    have hSA := hS'.below bA
                    have hlk := hSA.look (x.1, x.2.1) hfn
                    obtain ⟨w7, hrun, hS7, hg7⟩ := hSA.upd (x.1, x.2.1) hfn (Nat.lt_of_le_of_lt (by rw [HNN'.out]; exact Nat.le_trans (Nat.add_le_add_left hj _) (Nat.le_trans HPL.out hN65)) (by decide))
                    have HB7 : Below W0.heap.size W0 w7 := (HBj.trans (bA.mono HBj.size)).grown hg7 (Nat.le_trans HBj.size bA.size) (fun k e => by injection e with e; exact Nat.le_of_eq e)
                    simp only [namV] at hlk hrun
                    obtain ⟨y0, y1, y2, y3, -, -, -, -⟩ := hE.read
                    obtain ⟨y0', y1', -, -, -, -, -, -⟩ := hE2.read
                    have n0 := blk_cell hNb 0
                    have n1 := blk_cell hNb 1
                    have n0' : ((wr.alloc (ebo x)).alloc (.cells #[.string x.1, .int .i64 x.2.1] 51)).cell? ⟨wr.heap.size + 1, 0, none⟩ = some (.string x.1) := n0
                    have n1' : ((wr.alloc (ebo x)).alloc (.cells #[.string x.1, .int .i64 x.2.1] 51)).cell? ⟨wr.heap.size + 1, 1, none⟩ = some (.int .i64 x.2.1) := n1
                    have HTK2 := hide htk
                    obtain ⟨sb, hsb⟩ : ∃ sb, S' (x.1, x.2.1) = sb := ⟨_, rfl⟩
                    have htw2 : (!decide ((P ++ r.take (j + 1)).Pairwise distE)) = (tw' || sb) := by
                      rw [htk, ← List.append_assoc, twice_snoc, ← HTW'.out, ← HSY'.out, hsb]
                    have hsy2 : ∀ y, (decide (y = (x.1, x.2.1)) || S' y) = inN (P ++ r.take (j + 1)) y := fun y => by
                      rw [htk, ← List.append_assoc, inN_snoc, HSY'.out]
                    rw [hsb] at hlk
                    have HTW2 := hide htw2
                    have HSY2 := hide hsy2
                    clear hx hmay htk hfn hE hE2 hNb hSA hS' hsb htw2 hsy2 n0 n1
                    cases tw'
                    · go_wp2
                      go_roundw
                      case rel => exact ⟨j + 1, sb, _, nn' + 1, hlj, by go_num, rfl, by rw [HTW2.out]; rfl, hS7, by rw [HNN'.out]; rfl, HSY2.out, HB7⟩
                      case measure => first | exact idx_m q j hlj | exact idx_m2 q j hlj | exact idx_m3 q j hlj hw1
                    · go_wp2
                      go_roundw
                      case rel => exact ⟨j + 1, true, _, nn' + 1, hlj, by go_num, rfl, by rw [HTW2.out]; rfl, hS7, by rw [HNN'.out]; rfl, HSY2.out, HB7⟩
                      case measure => first | exact idx_m q j hlj | exact idx_m2 q j hlj | exact idx_m3 q j hlj hw1
                  · obtain rfl : j = q := Nat.le_antisymm hj (Nat.not_lt.1 hlj)
                    have hrt : r.take j = r := List.take_of_length_le (by rw [HQ.out]; exact Nat.le_refl _)
                    rw [hrt, ← HTF.out] at HTW' HSY'
                    have HEL3 : Hid (errL (conS ss) = errL ((conS ss).drop (k + 1))) := hide (by rw [HEL2.out, if_pos HO.out])
                    have hw1 := HW1.out
                    have hw2 := HW2.out
                    have HNN3 : Hid (nn' = ((conS ss).take (k + 1)).flatten.length) := hide (by rw [HNN'.out, HLF.out])
                    clear hrt
                    go_wp2
                    go_roundw
                    case rel => exact ⟨k + 1, tw', S', nn', hlt, by go_num, rfl, HTW'.out, hS', HNN3.out, HSY'.out, HEL3.out, HBj⟩
                    case measure => first | exact idx_m m k hlt | exact idx_m2 m k hlt | exact idx_m3 m k hlt hw1
              · have HE4 : Hid (errM (conS ss) = ordE r) := hide (by rw [HE.out, HEL2.out, if_neg ho, if_pos ho])
                have hz : ordE r ≠ 0 := ho
                generalize ordE r = z at *
                have hzb : (z == 0) = false := beq_eq_false_iff_ne.2 hz
                clear ho
                go_wp2_with (first | (go_at_call 12; (with_reducible refine hCk.mono ?_); rintro e w2 ⟨rfl, HB2⟩; have HB3 := HB.trans (HB2.mono HB.size)))
                go_ret2
                exact ⟨_, by rw [HE4.out]; rfl, .inl ⟨by rw [HE4.out]; exact hz, rfl⟩, HB3⟩
            · obtain rfl : k = m := Nat.le_antisymm hk (Nat.not_lt.1 hlt)
              obtain ⟨m', rfl⟩ : ∃ m', m' = k := ⟨k, rfl⟩
              obtain ⟨W1, rfl⟩ : ∃ z : World, z = wr := ⟨wr, rfl⟩
              rw [HTK.out] at HTW
              have hel0 : errL (conS ss) = 0 := by
                rw [HEL.out, List.drop_of_length_le (by rw [conS_len, HM.out]; exact Nat.le_refl _)]; rfl
              have HE5 : Hid (errM (conS ss) = if (conS ss).flatten.Pairwise distE then 0 else 6) := hide (by rw [HE.out, if_neg (fun h => h hel0)])
              clear hel0 hS HSY HEL HNL
              cases tw with
              | true =>
                have HE6 : Hid (errM (conS ss) = 6) := hide (by
                  rw [HE5.out, if_neg]
                  intro h
                  have := HTW.out
                  rw [decide_eq_true h] at this
                  cases this)
                go_wp2
                go_ret2
                exact ⟨_, by rw [HE6.out]; rfl, .inl ⟨by rw [HE6.out]; decide, rfl⟩, HB⟩
              | false =>
                have HE6 : Hid (errM (conS ss) = 0) := hide (by
                  rw [HE5.out, if_pos]
                  apply Decidable.byContradiction
                  intro h
                  have := HTW.out
                  rw [decide_eq_false h] at this
                  cases this)
                have hok : okM (conS ss) := (errM_zero _).1 HE6.out
                have hCl := CloneS_any A c m' ss W1 HM.out (HSS.out.below HB).row HSS.out.len
                go_wp2_with (first | (go_at_call 20; (with_reducible refine hCl.mono ?_); rintro e w5 ⟨v5, rfl, O5, HB5⟩; obtain ⟨A5, c5, hv5, -⟩ := Ow.rd O5; rw [HM.out] at hv5; subst hv5))
                have CB5 := HB.trans (HB5.mono HB.size)
                have hst := mg_start (conS ss) hok
                have HPD := hide hok.2.2.2
                have hcl : (conS ss).length = m' := by rw [conS_len]; exact HM.out
                go_wp2
                go_loopw [16, 75] (fun ov iv wr => ∃ (i : Nat) (v : Value) (H : List Sl) (out : List Ent), i ≤ N ∧ iv = .int .i64 (i : Int) ∧ ov = v ∧ out.length = i ∧ OwE wr W1.heap.size v out ∧ OwS wr W1.heap.size (.slice A5 m' c5) H ∧ H.length = m' ∧ MgAt (conS ss) (conS H) out ∧ (∀ s ∈ H, RdE W0 s.1 s.2.1 s.2.2) ∧ Below W1.heap.size W1 wr) (fun ov iv _ => N - (intOf iv).toNat)
                case atStart => exact ⟨0, _, ss, [], Nat.zero_le _, rfl, rfl, rfl, Ow.zero _ _ _ _, O5, HM.out, hst, HSS.out.each, HB5⟩
                case round =>
                  obtain ⟨i, v, H, out, hi, rfl, rfl, hol, HO, HS, hHl, hMg, hEa, HBi⟩ := hrel
                  have HOL := hide hol
                  have HHL := hide hHl
                  have HMG := hide hMg
                  have HEA := hide hEa
                  clear hol hHl hMg hEa
                  by_cases hltN : i < N
                  · have hlti : (i : Int) < (N : Int) := Int.ofNat_lt.2 hltN
                    obtain ⟨hw1, hw2⟩ := idx_w N i hltN (by omega)
                    have HW1 := hide hw1
                    have HW2 := hide hw2
                    obtain ⟨W2, rfl⟩ : ∃ z : World, z = wr := ⟨wr, rfl⟩
                    clear hw1 hw2
                    go_wp2
                    go_loopw [17, 79] (fun bv iv wr => ∃ (j : Nat) (bz : Int), j ≤ m' ∧ iv = .int .i64 (j : Int) ∧ bv = .int .i64 bz ∧ BestOf (conS H) j bz ∧ Below W2.heap.size W2 wr) (fun bv iv _ => m' - (intOf iv).toNat)
                    case atStart => exact ⟨0, -1, Nat.zero_le _, rfl, rfl, best_none _, Below.refl _ _⟩
                    case round =>
                      obtain ⟨j, bz, hj, rfl, rfl, hbest, HBj⟩ := hrel
                      have HBS := hide hbest
                      clear hbest
                      by_cases hlj : j < m'
                      · have hlji : (j : Int) < (m' : Int) := Int.ofNat_lt.2 hlj
                        obtain ⟨hw1, hw2⟩ := idx_w m' j hlj hmm64
                        have HSj := HS.below HBj
                        obtain ⟨ad5, e5, x0⟩ := RdS.at1 HSj.rdl j (by rw [HHL.out]; exact hlj)
                        have hcj := conS_at H j
                        have hEj := HEA.out _ (sl_mem H j (by rw [HHL.out]; exact hlj))
                        obtain ⟨⟨sA, sc, r⟩, hs⟩ : ∃ s, H.getD j nilSl = s := ⟨_, rfl⟩
                        rw [hs] at x0 hcj hEj
                        simp only at x0 hcj hEj
                        have HCJ := hide hcj
                        clear hs hcj
                        subst e5
                        cases r with
                        | nil =>
                          have x0 : wr.cell? (ad5.add j) = some (.slice sA 0 sc) := x0
                          go_wp2
                          refine wp_region_below wr.heap.size _ (Below.refl _ _) (by kernel_rfl) (by kernel_rfl) ?_
                          repeat (go_big_quiet_step ((intro hb; rfl)))
                          refine wpQuiet_nil ?_
                          intro w6 HC6
                          have HB6 := HBj.trans (HC6.mono HBj.size)
                          go_wp2
                          go_roundw
                          case rel => exact ⟨j + 1, bz, hlj, by go_num, rfl, best_skip _ j bz HBS.out HCJ.out, HB6⟩
                          case measure => first | exact idx_m m' j hlj | exact idx_m2 m' j hlj | exact idx_m3 m' j hlj hw1
                        | cons x t =>
                          have hcne : (conS H).getD j [] ≠ [] := by rw [HCJ.out]; simp
                          have hhd : ((conS H).getD j []).headD zEnt = x := by rw [HCJ.out]; rfl
                          obtain ⟨q, hq⟩ : ∃ q, (x :: t).length = q := ⟨_, rfl⟩
                          have hq0 : 0 < q := by rw [← hq]; exact Nat.succ_pos _
                          rw [hq] at x0
                          have hq0i : (0 : Int) < (q : Int) := by omega
                          have HQ := hide hq
                          have HNE := hide hcne
                          clear hq hcne
                          rcases HBS.out with ⟨rfl, -⟩ | ⟨q0, hq0j, rfl, hbne, -⟩
                          · go_wp2
                            refine wp_region_below wr.heap.size _ (Below.refl _ _) (by kernel_rfl) (by kernel_rfl) ?_
                            repeat (go_big_quiet_step ((intro hb; rfl)))
                            refine wpQuiet_nil ?_
                            intro w6 HC6
                            have HB6 := HBj.trans (HC6.mono HBj.size)
                            go_wp2
                            go_roundw
                            case rel => exact ⟨j + 1, (j : Int), hlj, by go_num, rfl, best_take _ j (-1) HBS.out HNE.out (fun q e => absurd e (by omega)), HB6⟩
                            case measure => first | exact idx_m m' j hlj | exact idx_m2 m' j hlj | exact idx_m3 m' j hlj hw1
                          · have hq0m : q0 < m' := Nat.lt_trans hq0j hlj
                            have hq0mi : (q0 : Int) < (m' : Int) := by omega
                            have hq0n : ¬ (q0 : Int) < 0 := by omega
                            obtain ⟨ad5', e5, x5⟩ := RdS.at1 HSj.rdl q0 (by rw [HHL.out]; exact hq0m)
                            injection e5 with e5
                            subst e5
                            have hcq := conS_at H q0
                            have hEb := HEA.out _ (sl_mem H q0 (by rw [HHL.out]; exact hq0m))
                            obtain ⟨⟨bA, bc, r2⟩, hs⟩ : ∃ s, H.getD q0 nilSl = s := ⟨_, rfl⟩
                            rw [hs] at x5 hcq hEb
                            simp only at x5 hcq hEb
                            rw [hcq] at hbne
                            cases r2 with
                            | nil => exact absurd rfl hbne
                            | cons y u =>
                              have hhq : ((conS H).getD q0 []).headD zEnt = y := by rw [hcq]; rfl
                              have B0r : Below W0.heap.size W0 wr := HB.trans ((HBi.trans (HBj.mono HBi.size)).mono HB.size)
                              obtain ⟨adx, ex, p0, p1, p2, p3⟩ := RdE.at4 (hEj.below B0r) 0 (Nat.succ_pos _)
                              obtain ⟨ady, ey, r0, r1, r2, r3⟩ := RdE.at4 (hEb.below B0r) 0 (Nat.succ_pos _)
                              rw [Nat.zero_mul, add_zero_] at p0 p1 p2 p3 r0 r1 r2 r3
                              rw [List.getD_cons_zero] at p0 p1 p2 p3 r0 r1 r2 r3
                              subst ex
                              subst ey
                              obtain ⟨qb, hqb⟩ : ∃ q, (y :: u).length = q := ⟨_, rfl⟩
                              have hqb0 : 0 < qb := by rw [← hqb]; exact Nat.succ_pos _
                              have hqb0i : (0 : Int) < (qb : Int) := by omega
                              rw [hqb] at x5
                              have hBf := fun W => Before_any x y W
                              have hd : Below wr.heap.size wr wr.drew := (Below.refl _ _).drew
                              have hSk : ∀ W, Below wr.heap.size wr W → Below wr.heap.size wr W ∧ W.cell? (ad5.add q0) = some (.slice (some ady) qb bc) ∧ W.cell? adx = some (.string x.1) ∧ W.cell? ⟨adx.block, adx.off + 1, none⟩ = some (.int .i64 x.2.1) ∧ W.cell? ⟨adx.block, adx.off + 2, none⟩ = some (.int .i64 x.2.2.1) ∧ W.cell? ⟨adx.block, adx.off + 3, none⟩ = some (.string x.2.2.2) ∧ W.cell? ady = some (.string y.1) ∧ W.cell? ⟨ady.block, ady.off + 1, none⟩ = some (.int .i64 y.2.1) ∧ W.cell? ⟨ady.block, ady.off + 2, none⟩ = some (.int .i64 y.2.2.1) ∧ W.cell? ⟨ady.block, ady.off + 3, none⟩ = some (.string y.2.2.2) := fun W h => ⟨h, (h.cell (World.block_lt_of_cell? _ _ x5)).trans x5, (h.cell (World.block_lt_of_cell? _ _ p0)).trans p0, (h.cell (World.block_lt_of_cell? _ _ p1)).trans p1, (h.cell (World.block_lt_of_cell? _ _ p2)).trans p2, (h.cell (World.block_lt_of_cell? _ _ p3)).trans p3, (h.cell (World.block_lt_of_cell? _ _ r0)).trans r0, (h.cell (World.block_lt_of_cell? _ _ r1)).trans r1, (h.cell (World.block_lt_of_cell? _ _ r2)).trans r2, (h.cell (World.block_lt_of_cell? _ _ r3)).trans r3⟩
                              have hS0 := hSk _ hd
                              have HHD := hide hhd
                              have HHQ := hide hhq
                              clear hs hcq hbne hqb hhd hhq
                              by_cases hbf : befE x y
                              · rw [decide_eq_true hbf] at hBf
                                have HBT : Hid (BestOf (conS H) (j + 1) (j : Int)) := hide (best_take _ j _ HBS.out HNE.out (fun q e => (by obtain rfl : q0 = q := Int.ofNat.inj e; rw [HHD.out, HHQ.out]; exact hbf)))
                                clear hbf
                                go_wp2
                                go_region_held3 (fun w' => Below wr.heap.size wr w' ∧ w'.cell? (ad5.add q0) = some (.slice (some ady) qb bc) ∧ w'.cell? adx = some (.string x.1) ∧ w'.cell? ⟨adx.block, adx.off + 1, none⟩ = some (.int .i64 x.2.1) ∧ w'.cell? ⟨adx.block, adx.off + 2, none⟩ = some (.int .i64 x.2.2.1) ∧ w'.cell? ⟨adx.block, adx.off + 3, none⟩ = some (.string x.2.2.2) ∧ w'.cell? ady = some (.string y.1) ∧ w'.cell? ⟨ady.block, ady.off + 1, none⟩ = some (.int .i64 y.2.1) ∧ w'.cell? ⟨ady.block, ady.off + 2, none⟩ = some (.int .i64 y.2.2.1) ∧ w'.cell? ⟨ady.block, ady.off + 3, none⟩ = some (.string y.2.2.2)) (first | exact hS0 | exact hSk _ HBt | assumption) (first | (go_at_call 21; (with_reducible refine (hBf _).mono ?_); rintro e w6 ⟨rfl, HB6'⟩; have HBt := hd.trans (HB6'.mono hd.size); have HB6 := HBj.trans (HBt.mono HBj.size)))
                                go_wp2
                                go_roundw
                                case rel => exact ⟨j + 1, (j : Int), hlj, by go_num, rfl, HBT.out, HB6⟩
                                case measure => first | exact idx_m m' j hlj | exact idx_m2 m' j hlj | exact idx_m3 m' j hlj hw1
                              · rw [decide_eq_false hbf] at hBf
                                have HBT : Hid (BestOf (conS H) (j + 1) (q0 : Int)) := hide (best_stay _ j q0 HBS.out (by rw [HHD.out, HHQ.out]; exact hbf))
                                clear hbf
                                go_wp2
                                go_region_held3 (fun w' => Below wr.heap.size wr w' ∧ w'.cell? (ad5.add q0) = some (.slice (some ady) qb bc) ∧ w'.cell? adx = some (.string x.1) ∧ w'.cell? ⟨adx.block, adx.off + 1, none⟩ = some (.int .i64 x.2.1) ∧ w'.cell? ⟨adx.block, adx.off + 2, none⟩ = some (.int .i64 x.2.2.1) ∧ w'.cell? ⟨adx.block, adx.off + 3, none⟩ = some (.string x.2.2.2) ∧ w'.cell? ady = some (.string y.1) ∧ w'.cell? ⟨ady.block, ady.off + 1, none⟩ = some (.int .i64 y.2.1) ∧ w'.cell? ⟨ady.block, ady.off + 2, none⟩ = some (.int .i64 y.2.2.1) ∧ w'.cell? ⟨ady.block, ady.off + 3, none⟩ = some (.string y.2.2.2)) (first | exact hS0 | exact hSk _ HBt | assumption) (first | (go_at_call 21; (with_reducible refine (hBf _).mono ?_); rintro e w6 ⟨rfl, HB6'⟩; have HBt := hd.trans (HB6'.mono hd.size); have HB6 := HBj.trans (HBt.mono HBj.size)))
                                go_wp2
                                go_roundw
                                case rel => exact ⟨j + 1, (q0 : Int), hlj, by go_num, rfl, HBT.out, HB6⟩
                                case measure => first | exact idx_m m' j hlj | exact idx_m2 m' j hlj | exact idx_m3 m' j hlj hw1
                      · obtain rfl : j = m' := Nat.le_antisymm hj (Nat.not_lt.1 hlj)
                        obtain ⟨W3, rfl⟩ : ∃ z : World, z = wr := ⟨wr, rfl⟩
                        have hb : BestOf (conS H) (conS H).length bz := by rw [conS_len, HHL.out]; exact HBS.out
                        obtain ⟨q, x, t, hqm, rfl, hcq, hMg2⟩ := mg_step (conS ss) (conS H) out HPD.out HMG.out bz hb (by rw [HOL.out, HNN.out]; exact hltN)
                        rw [conS_len, HHL.out] at hqm
                        have hqmi : (q : Int) < (j : Int) := Int.ofNat_lt.2 hqm
                        have HS3 := HS.below HBj
                        have HO3 := HO.below HBj
                        obtain ⟨g, eg, hg1, hg2⟩ := Ow.head HS3 (Nat.lt_of_le_of_lt (Nat.zero_le _) hqm)
                        subst eg
                        obtain ⟨ad5, e5, x0⟩ := RdS.at1 HS3.rdl q (by rw [HHL.out]; exact hqm)
                        injection e5 with e5
                        subst e5
                        have hE := HEA.out _ (sl_mem H q (by rw [HHL.out]; exact hqm))
                        rw [conS_at] at hcq
                        obtain ⟨⟨sA, sc, r⟩, hs⟩ : ∃ s, H.getD q nilSl = s := ⟨_, rfl⟩
                        have HGS := hide hs
                        rw [hs] at x0 hE hcq
                        simp only at x0 hE hcq
                        subst hcq
                        simp only [add_plain] at x0
                        have B0r : Below W0.heap.size W0 W3 := HB.trans ((HBi.trans (HBj.mono HBi.size)).mono HB.size)
                        obtain ⟨adx, ex, p0, p1, p2, p3⟩ := RdE.at4 (hE.below B0r) 0 (Nat.succ_pos _)
                        rw [Nat.zero_mul, add_zero_] at p0 p1 p2 p3
                        rw [List.getD_cons_zero] at p0 p1 p2 p3
                        subst ex
                        have hEd := hE.drop 1 (Nat.succ_le_succ (Nat.zero_le _))
                        rw [List.drop_one, List.tail_cons] at hEd
                        obtain ⟨lt, hlt2⟩ : ∃ lt, t.length = lt := ⟨_, rfl⟩
                        rw [List.length_cons, hlt2] at x0
                        have hl1 : (0 : Int) < ((lt + 1 : Nat) : Int) := by omega
                        have hl1n : 0 < lt + 1 := Nat.succ_pos _
                        have hsl := fun W => sliceK_lo (P := Try.prog) 22 36 Try.underlying22 (i := _) rfl 4 rfl (some adx) (lt + 1) sc 1 (Nat.succ_le_succ (Nat.zero_le _)) W
                        rw [Nat.add_sub_cancel] at hsl
                        have hEd : RdE W0 (cutK 4 (some adx) sc 1) (sc - 1) t := hEd
                        obtain ⟨lq, hlq⟩ : ∃ lq, lt + 1 = lq := ⟨_, rfl⟩
                        rw [hlq] at x0 hl1 hl1n hsl
                        have HLQ : Hid ((x :: t).length = lq) := hide (by rw [List.length_cons, hlt2, hlq])
                        obtain ⟨A', hA'⟩ : ∃ A', cutK 4 (some adx) sc 1 = A' := ⟨_, rfl⟩
                        obtain ⟨c', hc'⟩ : ∃ c', sc - 1 = c' := ⟨_, rfl⟩
                        rw [hA', hc'] at hEd hsl
                        have hsl : ∀ W, (Instr.slice 22 (.slice (some adx) lq sc) (some (.int .i64 1)) none none).run Try.prog W = .ok (.slice A' lt c') W := hsl
                        obtain ⟨Av, cv, hv, -⟩ := HO3.rd
                        rw [HOL.out] at hv
                        subst hv
                        have hfit : (out.length + 1) * 48 ≤ 140737488355328 := by rw [HOL.out]; omega
                        have HMG2 := hide hMg2
                        have HED := hide hEd
                        have HLT := hide hlt2
                        have hs2 : W1.heap.size ≤ W3.heap.size := (HBi.trans (HBj.mono HBi.size)).size
                        have hw1 := HW1.out
                        have hw2 := HW2.out
                        clear hMg2 hEd hlt2 hA' hc' hlq hs hb hE HO HS
                        go_wp2_with (first
                          | (at_builtin; refine app_ent (w0 := W3) W1.heap.size rfl (.tmp 105) (.tmp 112) rfl (.slice Av i cv) out x rfl rfl HO3 (Below.refl _ _) hs2 hfit ?_; intro v1 w7 HO7 HB7 hg7 hat; have HS7 := Ow.over HS3 HO3 (by decide) hg7; obtain ⟨ad7, e7, x7⟩ := RdS.at1 HS7.rdl q (by rw [HHL.out]; exact hqm); injection e7 with e7; subst e7; rw [HGS.out, add_plain] at x7; simp only at x7; rw [HLQ.out] at x7)
                          | (refine store_ow (P := Try.prog) kSl nilSl (w0 := w7) W1.heap.size rfl rfl 22 (.tmp 121) (.tmp 120) rfl 22 (g := g) (n := j) (cap := c5) q H (A', c', t) (.slice A' lt c') [.slice A' lt c'] (by rw [show q * kSl.sz = q from Nat.mul_one q]; rfl) (by rfl) rfl rfl (by intro u hu; rw [List.mem_singleton.1 hu]; rfl) rfl (by rw [← HLT.out]; rfl) HS7 hqm (Below.refl _ _) ?_; intro w8 HS8 HB8 hg8))
                        have HO8 := Ow.over HO7 HS7 (by decide) hg8
                        have hcs : conS (H.set q (A', c', t)) = (conS H).set q t := by rw [conS, conS, List.map_set]
                        have B8 := (((HBi.trans (HBj.mono HBi.size)).trans HB7).trans HB8)
                        clear hg8 hg7 hat HS7 HO7 x7 HS3 HO3 p0 p1 p2 p3
                        go_roundw
                        case rel => exact ⟨i + 1, v1, H.set q (A', c', t), out ++ [x], hltN, by go_num, rfl, by rw [List.length_append, HOL.out]; rfl, HO8, HS8, by rw [List.length_set]; exact HHL.out, by rw [hcs]; exact HMG2.out, fun s hs => (List.mem_or_eq_of_mem_set hs).elim (HEA.out s) (fun e => by rw [e]; exact HED.out), B8⟩
                        case measure => first | exact idx_m N i hltN | exact idx_m2 N i hltN | exact idx_m3 N i hltN hw1
                  · obtain rfl : i = N := Nat.le_antisymm hi (Nat.not_lt.1 hltN)
                    have hend := mg_end (conS ss) (conS H) out HMG.out (by rw [HOL.out, HNN.out])
                    have HEND := hide hend
                    clear hend
                    go_wp2
                    go_ret2
                    exact ⟨_, by rw [HE6.out]; rfl, .inr ⟨HE6.out, out, HEND.out, HO.lower HB.size⟩, HB.trans (HBi.mono HB.size)⟩
end Go.Proofs.Ythfalpibhcjpgaa
end

section
/- Merge: Thin in one sentence; the page's example. -/
namespace Go.Proofs.Ythfalpibhcjpgaa
open Go.RowKit Go.Proofs.YthfalpibhcjpgaaW.PrintWords
set_option linter.unusedVariables false

theorem num_any (n : Int) (w : World) : Calls Try.prog 9 #[.int .i64 n] w fun e w' => e = .returned (.int .i64 n) ∧ w = w' := by
  go_enter Try.func9, Try.ntmps9
  go_wp2
  go_ret
  exact ⟨rfl, rfl⟩
theorem Thin_any (A B : Option Addr) (c d n m : Nat) (l : List Ent) (S : List Int) (b : Bool) (w : World) (hn : l.length = n) (hm : S.length = m) (hr : RdE w A c l) (hs : RdI w B d S) (hl : n * 48 ≤ 140737488351232) (hl2 : m ≤ 140737488351232) :
    Calls Try.prog 8 #[.slice A n c, .slice B m d, .bool b] w fun e w' => ((thinErr l S ≠ 0 ∧ e = .returned (.tuple #[.slice none 0 0, .int .i64 (thinErr l S)])) ∨ (thinErr l S = 0 ∧ ∃ v, e = .returned (.tuple #[v, .int .i64 0]) ∧ OwE w' w.heap.size v (thn S b l))) ∧ Below w.heap.size w w' := by
  by_cases h : thinErr l S = 0
  · refine (Thin_ok A B c d n m l S b w hn hm hr hs hl h).mono ?_
    rintro e w' ⟨v, rfl, hO, hB⟩
    exact ⟨.inr ⟨h, v, rfl, hO⟩, hB⟩
  · refine (Thin_bad A B c d n m l S b w hn hm hr hs (by omega) hl2 h).mono ?_
    rintro e w' ⟨rfl, hB⟩
    exact ⟨.inl ⟨h, rfl⟩, hB⟩
theorem thin_ord (l : List Ent) (S : List Int) (h : thinErr l S = 0) : ordE l = 0 ∧ S.length ≤ 16 := by
  unfold thinErr at h
  split at h
  · next h1 => exact absurd h h1
  · next h1 =>
    split at h
    · cases h
    · exact ⟨Decidable.not_not.1 h1, by omega⟩
theorem thin_again (l : List Ent) (S : List Int) (b : Bool) (h : thinErr l S = 0) : thinErr (thn S b l) S = 0 := by
  have ho := (thin_ord l S h).1
  have h2 := thn_ord S b l ho
  unfold thinErr at h ⊢
  rw [if_neg (fun h => h ho)] at h
  rw [if_neg (fun h => h h2)]
  exact h
theorem thn_len (S : List Int) (b : Bool) (l : List Ent) (h : thinErr l S = 0) : (thn S b l).length ≤ l.length := (thn_sub S b l (ord_pw l (thin_ord l S h).1)).length_le
/-- rows of versions written out -/
theorem OwE.lit1 (w : World) (x : Ent) : OwE (w.alloc (.cells #[.string x.1, .int .i64 x.2.1, .int .i64 x.2.2.1, .string x.2.2.2] 36)) w.heap.size (.slice (some ⟨w.heap.size, 0, none⟩) 1 1) [x] :=
  ⟨fun _ _ => trivial, OwnRow.lit (inner := [.string x.1, .int .i64 x.2.1, .int .i64 x.2.2.1, .string x.2.2.2]) (ps := [x]) w w.heap.size (Reps.snoc (ps := []) (cs := []) (Reps.none _ _) (kEnt_M _ _ _ x) rfl) (Nat.le_refl _) (by simp)⟩
theorem OwE.lit2 (w : World) (x y : Ent) : OwE (w.alloc (.cells #[.string x.1, .int .i64 x.2.1, .int .i64 x.2.2.1, .string x.2.2.2, .string y.1, .int .i64 y.2.1, .int .i64 y.2.2.1, .string y.2.2.2] 36)) w.heap.size (.slice (some ⟨w.heap.size, 0, none⟩) 2 2) [x, y] :=
  ⟨fun _ _ => trivial, OwnRow.lit (inner := [.string x.1, .int .i64 x.2.1, .int .i64 x.2.2.1, .string x.2.2.2, .string y.1, .int .i64 y.2.1, .int .i64 y.2.2.1, .string y.2.2.2]) (ps := [x, y]) w w.heap.size (Reps.snoc (ps := [x]) (Reps.snoc (ps := []) (cs := []) (Reps.none _ _) (kEnt_M _ _ _ x) rfl) (kEnt_M _ _ _ y) rfl) (Nat.le_refl _) (by simp)⟩
theorem OwS.lit2 (w : World) (s t : Sl) : OwS (w.alloc (.cells #[eSl s, eSl t] 22)) w.heap.size (.slice (some ⟨w.heap.size, 0, none⟩) 2 2) [s, t] :=
  ⟨fun _ _ => trivial, OwnRow.lit (inner := [eSl s, eSl t]) (ps := [s, t]) w w.heap.size (Reps.snoc (ps := [s]) (cs := [eSl s]) (c := [eSl t]) (p := t) (Reps.snoc (ps := []) (cs := []) (c := [eSl s]) (p := s) (Reps.none _ _) rfl rfl) rfl rfl) (Nat.le_refl _) (by simp)⟩
/-! the page's example -/
def exA : Ent := (⟨#[97]⟩, 3, 2, ⟨#[]⟩)
def exB : Ent := (⟨#[97]⟩, 1, 1, ⟨#[120]⟩)
def exC : Ent := (⟨#[98]⟩, 1, 1, ⟨#[]⟩)
def exD : Ent := (⟨#[97]⟩, 2, 1, ⟨#[]⟩)
theorem ex_err : thinErr [exA, exB] [] = 0 := by decide
theorem ex_thn : thn [] true [exA, exB] = [] := by
  have h := byK_app (thG [] true) (thG_nil [] true) ⟨#[97]⟩ [exA, exB] [] (by intro x hx; simp only [List.mem_cons, List.not_mem_nil, or_false] at hx; rcases hx with rfl | rfl <;> rfl) (by simp)
  rw [List.append_nil] at h
  rw [thn, h, byK, List.append_nil]
  decide
theorem ex_errM : errM [[exC], [exD]] = 0 := by decide
theorem ex_mg (a : List Ent) (h : MgOf [[exC], [exD]] a) : a = [exD, exC] := by
  refine pw_one a [exD, exC] (h.1.trans ?_) h.2 (by decide)
  exact List.Perm.swap _ _ _
theorem ex_runs (w2 : World) : ∃ W5 : World, W5 = (((w2.alloc (.cells #[.string ⟨#[98]⟩, .int .i64 1, .int .i64 1, .string ⟨#[]⟩] 36)).alloc (.cells #[.string ⟨#[97]⟩, .int .i64 2, .int .i64 1, .string ⟨#[]⟩] 36)).alloc (.cells #[.slice (some ⟨w2.heap.size, 0, none⟩) 1 1, .slice (some ⟨w2.heap.size + 1, 0, none⟩) 1 1] 22)) ∧
    Runs W5 (some ⟨w2.heap.size + 1 + 1, 0, none⟩) 2 [(some ⟨w2.heap.size, 0, none⟩, 1, [exC]), (some ⟨w2.heap.size + 1, 0, none⟩, 1, [exD])] ∧ Below w2.heap.size w2 W5 := by
  refine ⟨_, rfl, ?_, ?_⟩
  · have OC := OwE.lit1 w2 exC
    have OD := OwE.lit1 (w2.alloc (.cells #[.string exC.1, .int .i64 exC.2.1, .int .i64 exC.2.2.1, .string exC.2.2.2] 36)) exD
    have bD := below_alloc (w2.alloc (.cells #[.string exC.1, .int .i64 exC.2.1, .int .i64 exC.2.2.1, .string exC.2.2.2] 36)) (.cells #[.string exD.1, .int .i64 exD.2.1, .int .i64 exD.2.2.1, .string exD.2.2.2] 36)
    have OS := OwS.lit2 ((w2.alloc (.cells #[.string exC.1, .int .i64 exC.2.1, .int .i64 exC.2.2.1, .string exC.2.2.2] 36)).alloc (.cells #[.string exD.1, .int .i64 exD.2.1, .int .i64 exD.2.2.1, .string exD.2.2.2] 36)) (some ⟨w2.heap.size, 0, none⟩, 1, [exC]) (some ⟨w2.heap.size + 1, 0, none⟩, 1, [exD])
    have bS := below_alloc ((w2.alloc (.cells #[.string exC.1, .int .i64 exC.2.1, .int .i64 exC.2.2.1, .string exC.2.2.2] 36)).alloc (.cells #[.string exD.1, .int .i64 exD.2.1, .int .i64 exD.2.2.1, .string exD.2.2.2] 36)) (.cells #[eSl (some ⟨w2.heap.size, 0, none⟩, 1, [exC]), eSl (some ⟨w2.heap.size + 1, 0, none⟩, 1, [exD])] 22)
    have rC := (OC.rdl.below bD).below bS
    have rD := OD.rdl.below bS
    have rS := OS.rdl
    simp only [World.size_alloc] at rD rS
    refine ⟨rS, fun s hs => ?_, fun s hs => ?_, by show 2 * 24 ≤ 140737488351232; decide⟩
    · simp only [List.mem_cons, List.not_mem_nil, or_false] at hs
      rcases hs with rfl | rfl
      · exact rC
      · exact rD
    · simp only [List.mem_cons, List.not_mem_nil, or_false] at hs
      rcases hs with rfl | rfl
      · show 1 * 48 ≤ 140737488351232; decide
      · show 1 * 48 ≤ 140737488351232; decide
  · exact stq (stq (below_alloc _ _) (below_alloc _ _)) (below_alloc _ _)
set_option maxRecDepth 100000 in
set_option maxHeartbeats 3200000 in
theorem alive_any (w : World) : Calls Try.prog 7 #[] w fun e w' => e = .returned (.bool true) ∧ Below w.heap.size w w' := by
  have O1 := OwE.lit2 w exA exB
  have b1 := below_alloc w (.cells #[.string exA.1, .int .i64 exA.2.1, .int .i64 exA.2.2.1, .string exA.2.2.2, .string exB.1, .int .i64 exB.2.1, .int .i64 exB.2.2.1, .string exB.2.2.2] 36)
  have hT := Thin_any (some ⟨w.heap.size, 0, none⟩) none 2 0 2 0 [exA, exB] [] true _ rfl rfl O1.rdl (Rd.zero _ _ _ _) (by decide) (by decide)
  rw [ex_thn] at hT
  simp only [ex_err, ne_eq, not_true, false_and, false_or, true_and] at hT
  have hM := fun w2 => (ex_runs w2)
  clear O1
  go_enter Try.func7, Try.ntmps7
  go_wp2_with (first
    | (go_at_call 8; (refine hT.mono ?_); rintro e w2 ⟨⟨v2, rfl, O2⟩, HB2⟩; obtain ⟨A2, c2, hv2, -⟩ := O2.rd; replace hv2 : v2 = .slice A2 0 c2 := hv2; subst hv2; have C2 := stq b1 HB2; obtain ⟨W5, hW5, hRu, B5⟩ := ex_runs w2; have hMg := Merge_any _ 2 2 _ W5 rfl hRu; subst hW5; have C5 := stq C2 B5)
    | (go_at_call 11; (refine hMg.mono ?_); rintro e w6 ⟨v6, rfl, h6, HB6⟩; have he : errM (conS [(some (⟨w2.heap.size, 0, none⟩ : Addr), 1, [exC]), (some (⟨w2.heap.size + 1, 0, none⟩ : Addr), 1, [exD])]) = 0 := ex_errM; obtain ⟨a, ha, O6⟩ : ∃ a, MgOf [[exC], [exD]] a ∧ OwE w6 _ v6 a := (h6.resolve_left (fun h => h.1 he)).2; rw [he]; obtain rfl := ex_mg a ha; obtain ⟨A6, c6, hv6, r6⟩ := O6.rd; replace hv6 : v6 = .slice A6 2 c6 := hv6; subst hv6; obtain ⟨ad6, e6, x0, -, -, -⟩ := RdE.at4 r6 0 (by decide); subst e6; rw [Nat.zero_mul, add_zero_] at x0; have x0 : w6.cell? ad6 = some (.string ⟨#[97]⟩) := x0; have C6 := stq C5 HB6; clear h6 he ha O6 r6)
    | (go_at_call 9; (with_reducible refine (num_any _ _).mono ?_); rintro e w' ⟨rfl, rfl⟩))
  go_ret
  exact ⟨by first | rfl | (simp; done) | (simp [exD]; done) | (simp; rfl) | (simp; decide), C6⟩
end Go.Proofs.Ythfalpibhcjpgaa
end
