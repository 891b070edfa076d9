/- The contracts that the laws of this seat share: octets, sums, numbers, records. -/
import Derived.Test.YtbhhnlgpbhbcmaaProg
import Derived.Test.YtbhhnlgpbhbcmaaWWords
import Derived.WalkKit
import Derived.WalkSpells
import Derived.WalkLawsBesides
import Derived.KernelRfl
import Derived.Deep.QuietTactic
import Derived.BigQuiet
import Derived.Deep.DeepCutAuto
import Derived.Deep.CutBlock
import Derived.Deep.RegionHeld3
import Derived.Lib.ConvBytes
import Derived.Lib.AppendStr
import Derived.Deep.AppendLies
import Derived.IntWalk
import Derived.Test.YtbhhnlgpbhbcmaaRows
import Derived.ChangeSlices
import Derived.ProofKit
import Derived.OpenShut
import Derived.Deep.Slices
import Derived.ChangeSame
import Derived.SizedLaws
import Derived.Laws.BitsAllLaws
import Derived.Sort.Walk0
import Derived.Lib.Strings
import Derived.Test.YtbhhnlgpbhbcmaaSh_cmp_Compare_int
import Derived.Maps.Own
import Derived.Maps.Views
import Derived.Lib.SliceRun
import Derived.Lib.AppendZeros
set_option linter.unusedVariables false
set_option linter.unusedSimpArgs false
section
/- What the walks of this seat share: bytes as a slice holds them, read and owned; small words. -/
namespace Go.Proofs.Ytbhhnlgpbhbcmaa
open Go.RowKit Go.Proofs.YtbhhnlgpbhbcmaaW.PrintWords

theorem hide {p : Prop} (h : p) : Hid p := h
/-- an octet in memory -/
def eu8 (b : UInt8) : Value := .int .u8 (b.toNat : Int)
theorem eu8_one (b : UInt8) : (eu8 b).oneCell' = true := rfl
theorem info_u8 : (Try.prog.info? 5).map (fun i => (i.zero, i.size, i.bytes)) = some (some (.int .u8 0), 1, 1) := by kernel_rfl

/-- a slice of octets that is read: its address, its capacity -/
def RdB (w : World) (A : Option Addr) (c : Nat) (xs : List UInt8) : Prop := xs.length ≤ c ∧ ReadsOf eu8 0 w A xs.length xs
/-- a row of octets of the call's own -/
def OwB (w : World) (base : Nat) (v : Value) (xs : List UInt8) : Prop := w.ownsRow base 5 1 v xs.length (encs eu8 xs)

theorem RdB.below {w w1 : World} {A : Option Addr} {c : Nat} {xs : List UInt8} (h : RdB w A c xs) (hb : Below w.heap.size w w1) : RdB w1 A c xs := ⟨h.1, h.2.below hb⟩
theorem RdB.le {w : World} {A : Option Addr} {c : Nat} {xs : List UInt8} (h : RdB w A c xs) : xs.length ≤ c := h.1
theorem RdB.max {w : World} {A : Option Addr} {c : Nat} {xs : List UInt8} (h : RdB w A c xs) : xs.length ≤ 9223372036854775807 := h.2.2.1
theorem RdB.at_ {w : World} {A : Option Addr} {c : Nat} {xs : List UInt8} (h : RdB w A c xs) (i : Nat) (hi : i < xs.length) : ∃ ad, A = some ad ∧ w.cell? (ad.add i) = some (.int .u8 ((xs.getD i 0).toNat : Int)) := by
  obtain ⟨ad, e, hc⟩ := h.2.2.2 (by omega)
  exact ⟨ad, e, hc i hi⟩
theorem RdB.zero (w : World) (A : Option Addr) (c : Nat) : RdB w A c [] := ⟨Nat.zero_le _, rfl, Nat.zero_le _, fun h => absurd h (by simp)⟩
theorem OwB.below {w w1 : World} {base : Nat} {v : Value} {xs : List UInt8} (h : OwB w base v xs) (hb : Below w.heap.size w w1) : OwB w1 base v xs := pw_own_below h hb
theorem OwB.lower {w : World} {base base' : Nat} {v : Value} {xs : List UInt8} (h : OwB w base v xs) (hb : base' ≤ base) : OwB w base' v xs := own_weaken h hb
theorem OwB.rd {w : World} {base : Nat} {v : Value} {xs : List UInt8} (h : OwB w base v xs) : ∃ A c, v = .slice A xs.length c ∧ RdB w A c xs := by
  obtain ⟨A, c, hv, hl, hr⟩ := own_reads_of_le (d := (0 : UInt8)) h
  exact ⟨A, c, hv, hl, hr⟩
theorem OwB.zero (w : World) (base : Nat) : OwB w base (.slice none 0 0) [] := own_nil _ _ _ _
theorem RdB.take {w : World} {A : Option Addr} {c : Nat} {xs : List UInt8} (h : RdB w A c xs) (k : Nat) (hk : k ≤ xs.length) : RdB w A c (xs.take k) := by
  have hl : (xs.take k).length = k := by rw [List.length_take]; omega
  refine ⟨by have := h.1; omega, ?_⟩
  rw [hl]
  exact h.2.take_ k hk
/-- the address behind 'xs[k:]' -/
def cutA (A : Option Addr) (c k : Nat) : Option Addr := if c = k then A else A.map (·.add k)
theorem RdB.drop {w : World} {A : Option Addr} {c : Nat} {xs : List UInt8} (h : RdB w A c xs) (k : Nat) (hk : k ≤ xs.length) : RdB w (cutA A c k) (c - k) (xs.drop k) := by
  have hl : (xs.drop k).length = xs.length - k := List.length_drop
  refine ⟨by have := h.1; omega, ?_⟩
  rw [hl]
  exact h.2.drop_ k hk h.1
/-- 'xs[:k]', 'xs[k:]', 'xs[j:k]' of a slice whose elements have one cell -/
theorem slice_hi {P : Program} (t e : TypeId) {i : TypeInfo} (ht : P.underlying t = some (.slice e)) (hi : P.info? e = some i) (hsz : i.size = 1) (A : Option Addr) (n c k : Nat) (hk : k ≤ c) (W : World) :
    (Instr.slice t (.slice A n c) none (some (.int .i64 (k : Int))) none).run P W = .ok (.slice A k c) W := by
  have hel : P.elem t = e := by simp [Program.elem, ht]
  have hu : P.underlying t = some (.slice (P.elem t)) := by rw [hel]; exact ht
  have ha : (A.map fun x => x.add 0) = A := by cases A <;> simp [Addr.add]
  rw [run_slice_h W t A n c hu .i64 (k : Int) (Int.natCast_nonneg _) (by omega), hel]
  simp [sizeOf, typeInfo, hi, hsz, sliced, Result.andThen, ha]
theorem slice_lo {P : Program} (t e : TypeId) {i : TypeInfo} (ht : P.underlying t = some (.slice e)) (hi : P.info? e = some i) (hsz : i.size = 1) (A : Option Addr) (n c k : Nat) (hk : k ≤ n) (W : World) :
    (Instr.slice t (.slice A n c) (some (.int .i64 (k : Int))) none none).run P W = .ok (.slice (cutA A c k) (n - k) (c - k)) W := by
  have hel : P.elem t = e := by simp [Program.elem, ht]
  have hu : P.underlying t = some (.slice (P.elem t)) := by rw [hel]; exact ht
  rw [run_slice_l W t A n c hu .i64 (k : Int) (Int.natCast_nonneg _) (by omega), hel]
  simp [sizeOf, typeInfo, hi, hsz, sliced, Result.andThen, cutA]
theorem slice_lohi {P : Program} (t e : TypeId) {i : TypeInfo} (ht : P.underlying t = some (.slice e)) (hi : P.info? e = some i) (hsz : i.size = 1) (A : Option Addr) (n c j k : Nat) (hj : j ≤ k) (hk : k ≤ c) (W : World) :
    (Instr.slice t (.slice A n c) (some (.int .i64 (j : Int))) (some (.int .i64 (k : Int))) none).run P W = .ok (.slice (cutA A c j) (k - j) (c - j)) W := by
  have hel : P.elem t = e := by simp [Program.elem, ht]
  have hu : P.underlying t = some (.slice (P.elem t)) := by rw [hel]; exact ht
  rw [run_slice_lh W t A n c hu .i64 .i64 (j : Int) (k : Int) (Int.natCast_nonneg _) (by omega) (by omega), hel]
  simp [sizeOf, typeInfo, hi, hsz, sliced, Result.andThen, cutA]

/-! 'string(b)', and its letters -/
def strB (xs : List UInt8) : ByteArray := ⟨xs.toArray⟩
theorem strB_list (xs : List UInt8) : (strB xs).data.toList = xs := by simp [strB]
theorem strOfNums_eu8 (xs : List UInt8) : strOfNums (xs.map fun b => (b.toNat : Int)) = strB xs := by
  simp [strOfNums, strB, List.map_map]
  have : ((fun (n : Int) => UInt8.ofNat n.toNat) ∘ fun (b : UInt8) => (b.toNat : Int)) = id := by
    funext b; simp
  rw [this, List.map_id]
theorem RdB.toStr {w : World} {A : Option Addr} {c : Nat} {xs : List UInt8} (h : RdB w A c xs) {P : Program} (src e dst : TypeId) (hs : P.underlying src = some (.slice e)) (he : P.underlying e = some (.int .u8)) (hd : P.underlying dst = some .string) :
    (convert src dst (.slice A xs.length c)).run P w = .ok (.string (strB xs)) w := by
  rcases Nat.eq_zero_or_pos xs.length with h0 | h0
  · obtain rfl : xs = [] := List.eq_nil_of_length_eq_zero h0
    cases A with
    | none => exact run_convert_bytes_nil w src e hs he 0 c dst hd
    | some ad =>
      show (convert src dst (.slice (some ad) 0 c)).run P w = _
      rw [run_convert_bytes_string w src dst e _ 0 c hs he hd, run_bytesToString w ad 0 c [] (by rfl)]
      rfl
  · obtain ⟨ad, rfl, hc⟩ := h.2.2.2 h0
    rcases ad with ⟨b, off, spot⟩
    cases spot with
    | some s =>
      have := hc 0 h0
      simp [Addr.add, World.cell?] at this
      split at this <;> simp at this
    | none =>
      have := run_convert_bytes_arg w src e hs he b off xs.length c (xs.map fun b => (b.toNat : Int)) (by simp) (fun i hi => by
        have := hc i hi
        have ha : (⟨b, off, none⟩ : Addr).add i = ⟨b, off + i, none⟩ := by unfold Addr.add; split <;> simp_all
        rw [ha] at this
        rw [this]
        simp [eu8, List.getD_eq_getElem?_getD, List.getElem?_eq_getElem hi]) dst hd
      rw [strOfNums_eu8] at this
      exact this

/-! 'append(v, ys...)' of octets, and of one octet -/
theorem OwB.lit0 (w : World) : OwB (w.alloc (.cells #[] 5)) w.heap.size (.slice (some ⟨w.heap.size, 0, none⟩) 0 0) [] := own_lit_of (enc := eu8) w w.heap.size 5 [] (Nat.le_refl _) (by simp)
/-- an operation under a guard that is met goes as if it had none -/
theorem wpList_guarded {P : Program} {ops : Array Oper} {rest : List Oper} {o : Oper} {a : Act} {w : World} {Q : Exit → Act → World → Prop} (hw : Region.wanted o (yielded ops a.tmps) = true)
    (h : wpList P ops Q ({ o with guard := none } :: rest) a w) : wpList P ops Q (o :: rest) a w := by
  unfold wpList at h ⊢
  rw [if_pos (by simp [Region.wanted])] at h
  rw [if_pos hw]
  exact h
section
variable {ops : Array Oper} {rest : List Oper} {o : Oper} {a : Act} {Q : Exit → Act → World → Prop}
end

/-! a region that draws its order, whose operations read what lay there when the call began, and whose callees leave that alone and hand back plain values: one walk in the text's order ('quiet_step', the class 'Below') -/
theorem wp_region_below {P : Program} {id : Nat} {Q : Exit → Act → World → Prop} {a : Act} {w : World} {l : List Oper} (B : Nat) (w0 : World) (hw0 : Below B w0 w) (hm : P.follows .mixedOrders = true) (hB : Region.lexB .any l.toArray = true)
    (h : wpQuiet P l.toArray (fun w' => Below B w0 w') (fun a' => ∀ w', Below B w0 w' → Q .normal a' w') l a) : (Code.region id l.toArray true).wp P Q a w :=
  wp_region_quiet (C := fun w' => Below B w0 w') hm hB hw0.drew (by simpa using h)

/-! arrays: '[4]byte(b)', a whole array read -/
theorem run_arrayAt {P : Program} (w : World) (arr e n : Nat) (hu : P.underlying arr = some (.array n e)) (a : Option Addr) (len c : Nat) (h : n ≤ len) : (Instr.arrayAt arr (.slice a len c)).run P w = .ok (.pointer a) w := by
  have h' : ¬ len < n := by omega
  simp [Instr.arrayAt, run_underlying hu, h']
theorem run_loadVar_arr {P : Program} (w : World) (ty e n : Nat) (hu : P.underlying ty = some (.array n e)) (a : Addr) (cs : List Value) (hi : (P.info? ty).map (·.size) = some cs.length)
    (hc : ∀ j v, cs[j]? = some v → w.cell? (a.add j) = some v) : (loadVar ty a).run P w = .ok (.agg cs.toArray) w := by
  have hl := run_loadCells_list (P := P) w a cs hc
  cases hq : P.info? ty with
  | none => simp [hq] at hi
  | some i =>
    have hs : i.size = cs.length := by simpa [hq] using hi
    have hagg : (isAgg ty).run P w = .ok true w := by
      unfold isAgg
      rw [Sem.run_bind, run_underlying hu w]
      simp
    simp [loadVar, Sem.run_bind, hagg, sizeOf, typeInfo, hq, hs, hl]
/-- an operation of a quiet walk whose run is known in every world of the class -/
theorem quiet_run {P : Program} {ops : Array Oper} {C : World → Prop} {Q : Act → Prop} {o : Oper} {rest : List Oper} {a : Act} (hgd : o.guard = none) (v : Value)
    (h : ∀ w, C w → (execOp a.eval o).run P w = .ok (.value v) w) (hk : wpQuiet P ops C Q rest (a.put o.dst v)) : wpQuiet P ops C Q (o :: rest) a :=
  wpQuiet_step fun K hK => by
    rw [if_pos (by simp [Region.wanted, hgd])]
    exact ⟨v, fun w hw => by unfold Oper.quietAt; rw [h w hw]; exact ⟨rfl, rfl⟩, hK _ hk⟩
/-- a whole variable (an array, a struct) read -/
theorem quiet_load {P : Program} {ops : Array Oper} {C : World → Prop} {Q : Act → Prop} {o : Oper} {rest : List Oper} {a : Act} (hgd : o.guard = none) (ty : TypeId) (x : Operand) (ho : o.op = .load ty x)
    (ad : Addr) (hx : a.eval x = .pointer (some ad)) (v : Value) (h : ∀ w, C w → (loadVar ty ad).run P w = .ok v w) (hk : wpQuiet P ops C Q rest (a.put o.dst v)) : wpQuiet P ops C Q (o :: rest) a :=
  quiet_run hgd v (fun w hw => by
    unfold execOp
    simp only [ho, hx, Instr.loadAt, Instr.sureAddr, Sem.run_bind, Sem.run_pure, Result.andThen_ok, h w hw]) hk
end Go.Proofs.Ytbhhnlgpbhbcmaa
end

section
/- Arguments opened: a slice of octets; the bound of the second form. -/
namespace Go.Proofs.Ytbhhnlgpbhbcmaa
open Go.ChangeShapes Go.WideShapes Go.ChangeAt Go.RowKit Go.Proofs.YtbhhnlgpbhbcmaaW.PrintWords

theorem one_le {H : Type} (d : DataW H) : 1 ≤ Rows.uptoBulk d := by
  cases d with
  | lit l => cases l <;> simp [Rows.uptoBulk]
  | nil => simp [Rows.uptoBulk]
  | ptr d => simp [Rows.uptoBulk]
  | slice elems spare => simp [Rows.uptoBulk]
  | agg parts => simp [Rows.uptoBulk]
  | iface t d => simp [Rows.uptoBulk]
  | map entries => simp [Rows.uptoBulk]
  | held h => simp [Rows.uptoBulk]
theorem part_le {H : Type} {d : DataW H} {l : List (DataW H)} (h : d ∈ l) : Rows.uptoBulk d ≤ Rows.uptoBulkAll l := by
  induction l with
  | nil => cases h
  | cons x r ih =>
    simp only [Rows.uptoBulkAll]
    cases List.mem_cons.1 h with
    | inl e => subst e; omega
    | inr e => have := ih e; omega
theorem length_le {H : Type} (l : List (DataW H)) : l.length ≤ Rows.uptoBulkAll l := by
  induction l with
  | nil => simp [Rows.uptoBulkAll]
  | cons x r ih => have := one_le x; simp only [Rows.uptoBulkAll, List.length_cons]; omega

end Go.Proofs.Ytbhhnlgpbhbcmaa
end

section
/- Octets appended, as a step of a region that draws its order; a cell far from a store. -/
namespace Go.Proofs.Ytbhhnlgpbhbcmaa
open Go.RowKit Go.Proofs.YtbhhnlgpbhbcmaaW.PrintWords
set_option linter.unusedVariables false

theorem rrow_of {w : World} {A : Option Addr} {n : Nat} {xs : List UInt8} (h : ReadsOf eu8 0 w A n xs) : ReadsRow (fun (x : UInt8) cs => cs = [eu8 x]) 1 w A n xs := by
  refine ⟨h.1, h.2.1, fun hn => ?_⟩
  obtain ⟨ad, e, hc⟩ := h.2.2 hn
  refine ⟨ad, e, fun j p hj => ⟨[eu8 p], rfl, rfl, fun i u hu => ?_⟩⟩
  obtain ⟨hl, hp⟩ := List.getElem?_eq_some_iff.1 hj
  have hi : i = 0 := by
    rcases Nat.eq_zero_or_pos i with h0 | h0
    · exact h0
    · rw [List.getElem?_eq_none (by simp; omega)] at hu
      cases hu
  subst hi
  have h1 := hc j (by have := h.1; omega)
  have h2 : u = eu8 p := by simpa using hu.symm
  rw [h2, Nat.mul_one, Nat.add_zero]
  rw [List.getD_eq_getElem?_getD, hj] at h1
  exact h1
/-- the kind of an octet -/
def kU8 : Kd UInt8 := Kd.scalar eu8 eu8_one
section
variable {ops : Array Oper} {o : Oper} {a : Act} {Q : Exit → Act → World → Prop} {K : Act → World → Prop}
end
end Go.Proofs.Ytbhhnlgpbhbcmaa
end

section
/- Arguments opened, kind by kind: what a datum reads as, how long its slices and strings may be. -/
namespace Go.Proofs.Ytbhhnlgpbhbcmaa
open Go.ChangeShapes Go.WideShapes Go.ChangeAt Go.RowKit Go.Proofs.YtbhhnlgpbhbcmaaW.PrintWords
set_option linter.unusedVariables false

/-- cells of a type read as something of a kind: S is what the bound on sizes says of it, bulk how much it holds -/
def Opens {α : Type} (d : Kd α) (t : TypeId) (S : Nat → α → Prop) (bulk : α → Nat) : Prop :=
  ∀ (H : Type) (enc : TypeId × Value → H) (W : World) (fuel : Nat) (cs : List Value) (x : DataW H × List MemPlace), DataW.trod enc Try.prog W 0 (fun _ => true) true fuel t cs = some x →
    ∃ a, d.K W a cs ∧ (∀ B, (∀ y ∈ x.1.weights Try.prog t, y ≤ B) → S B a) ∧ bulk a ≤ Rows.uptoBulk x.1
theorem opens_int {t : TypeId} {k : IntKind} (ht : Try.prog.underlying t = some (.int k)) : Opens (Kd.int k) t (fun _ a => (Lit.int k a).wf = true) (fun _ => 1) := by
  intro H enc W fuel cs x h
  obtain ⟨a, rfl, rfl, hw⟩ := DataW.trod_int ht h
  exact ⟨a, rfl, fun _ _ => hw, one_le _⟩
theorem opens_bool {t : TypeId} (ht : Try.prog.underlying t = some .bool) : Opens Kd.bool t (fun _ _ => True) (fun _ => 1) := by
  intro H enc W fuel cs x h
  obtain ⟨a, rfl, rfl⟩ := DataW.trod_bool ht h
  exact ⟨a, rfl, fun _ _ => trivial, one_le _⟩
theorem opens_string {t : TypeId} (ht : Try.prog.underlying t = some .string) : Opens Kd.string t (fun B s => s.size ≤ B ∧ s.size ≤ 9223372036854775807) (fun s => s.size + 1) := by
  intro H enc W fuel cs x h
  obtain ⟨s, rfl, rfl, hs⟩ := DataW.trod_string ht h
  have e : s.data.toList.length = s.size := by rw [Array.length_toList]; rfl
  refine ⟨s, rfl, fun B hB => ⟨?_, hs⟩, ?_⟩
  · have := hB s.data.toList.length (by simp [DataW.weights])
    omega
  · show s.size + 1 ≤ Rows.uptoBulk (DataW.lit (Lit.string s.data.toList))
    simp only [Rows.uptoBulk]
    omega
theorem opens_u8 {t : TypeId} (ht : Try.prog.underlying t = some (.int .u8)) : Opens kU8 t (fun _ _ => True) (fun _ => 1) := by
  intro H enc W fuel cs x h
  obtain ⟨a, rfl, rfl, hw⟩ := DataW.trod_int ht h
  simp only [Lit.wf, IntKind.min, IntKind.max, IntKind.signed, IntKind.bits] at hw
  have hb : 0 ≤ a ∧ a ≤ 255 := by simpa using hw
  refine ⟨UInt8.ofNat a.toNat, ?_, fun _ _ => trivial, one_le _⟩
  show [Value.int .u8 a] = [eu8 (UInt8.ofNat a.toNat)]
  unfold eu8
  congr 2
  simp only [UInt8.toNat_ofNat']
  omega
theorem weights_all {H : Type} {e : TypeId} {d : DataW H} : ∀ {l : List (DataW H)}, d ∈ l → ∀ y ∈ d.weights Try.prog e, y ∈ DataW.weightsAll Try.prog e l := by
  intro l hd y hy
  induction l with
  | nil => cases hd
  | cons x r ih =>
    simp only [DataW.weightsAll]
    rcases List.mem_cons.1 hd with rfl | h
    · exact List.mem_append_left _ hy
    · exact List.mem_append_right _ (ih h)
theorem bulk_all {H : Type} {α : Type} {bulk : α → Nat} (D : Nat → DataW H) (A : Nat → α) (n : Nat) (h : ∀ i, i < n → bulk (A i) ≤ Rows.uptoBulk (D i)) : ∀ s, ((((List.range' s (n - s)).map A).map bulk).sum) ≤ Rows.uptoBulkAll ((List.range' s (n - s)).map D) := by
  intro s
  induction hd : n - s generalizing s with
  | zero => simp
  | succ m ih =>
    rw [List.range'_succ]
    simp only [List.map_cons, List.sum_cons, Rows.uptoBulkAll]
    have h1 := h s (by omega)
    have h2 := ih (s + 1) (by omega)
    omega
theorem opens_slice {α : Type} [Inhabited α] {d : Kd α} {t e : TypeId} {S : Nat → α → Prop} {bulk : α → Nat} (ht : Try.prog.underlying t = some (.slice e)) (hc : Try.prog.cellsOf e = d.sz) (he : Opens d e S bulk) :
    Opens (Kd.slice e d) t (fun B xs => xs.length * Try.prog.bytesOf e ≤ B ∧ ∀ x ∈ xs, S B x) (fun xs => (xs.map bulk).sum + 1) := by
  intro H enc W fuel cs x h
  rcases Go.Deep.open_slice ht h with ⟨rfl, rfl⟩ | ⟨a, len, cap, m, n, D, Pl, rfl, hb, hl, hm, hmm, rfl, hx⟩
  · exact ⟨[], ⟨none, 0, rfl, Nat.le_refl _, rfl, Nat.zero_le _, fun hp => absurd hp (by simp)⟩, fun B _ => ⟨by simp, fun x hx => absurd hx (by simp)⟩, by simp [Rows.uptoBulk]⟩
  have hlm : len ≤ m := by rw [hmm]; split <;> omega
  obtain ⟨A, hA⟩ := Go.Deep.choose_lt (α := α) (n := len) (p := fun i y => ∃ cs', W.cells? 0 (a.add (i * Try.prog.cellsOf e)) (Try.prog.cellsOf e) = some cs' ∧ d.K W y cs' ∧ (∀ B, (∀ z ∈ (D i).weights Try.prog e, z ≤ B) → S B y) ∧ bulk y ≤ Rows.uptoBulk (D i)) (fun i hi => by
    obtain ⟨cs', h1, h2⟩ := hx i (by omega)
    obtain ⟨y, k1, k2, k3⟩ := he H enc W n cs' _ h2
    exact ⟨y, cs', h1, k1, k2, k3⟩)
  have hlen : ((List.range len).map A).length = len := by simp
  refine ⟨(List.range len).map A, ⟨some a, cap, by rw [hlen], by rw [hlen]; exact hl, rfl, by rw [hlen]; simp only [maxLen] at hm; omega, fun _ => ⟨a, rfl, fun j p hj => ?_⟩⟩, fun B hB => ⟨?_, fun y hy => ?_⟩, ?_⟩
  · obtain ⟨hjl, hjp⟩ := List.getElem?_eq_some_iff.1 hj
    rw [hlen] at hjl
    have hp : p = A j := by rw [← hjp]; simp
    subst hp
    obtain ⟨cs', h1, h2, _, _⟩ := hA j hjl
    obtain ⟨_, h4, h5⟩ := World.cells?_some h1
    refine ⟨cs', by rw [h4, hc], h2, fun i u hu => ?_⟩
    have hi : i < cs'.length := (List.getElem?_eq_some_iff.1 hu).1
    have h6 := h5 i (by omega)
    rw [Go.Deep.add_add, hc] at h6
    rw [h6, hu]
  · have h1 := hB ((((List.range len).map D).length + ((List.range (m - len)).map fun j => D (len + j)).length) * Try.prog.bytesOf e) (by simp only [DataW.weights, ht]; exact List.mem_cons_self ..)
    rw [List.length_map, List.length_range] at h1 ⊢
    exact Nat.le_trans (Nat.mul_le_mul_right _ (Nat.le_add_right _ _)) h1
  · obtain ⟨i, hi, rfl⟩ := List.mem_map.1 hy
    have hi' := List.mem_range.1 hi
    obtain ⟨cs', _, _, h3, _⟩ := hA i hi'
    refine h3 B fun z hz => hB z ?_
    simp only [DataW.weights, ht]
    exact List.mem_cons_of_mem _ (List.mem_append_left _ (weights_all (List.mem_map.2 ⟨i, hi, rfl⟩) z hz))
  · have := bulk_all (bulk := bulk) D A len (fun i hi => by obtain ⟨_, _, _, _, h⟩ := hA i hi; exact h) 0
    simp only [Nat.sub_zero, ← List.range_eq_range'] at this
    simp only [Rows.uptoBulk]
    omega
/-- fields one behind the other, from an offset on -/
def OpensF {α : Type} (d : Kd α) (fs : List Field) (off : Nat) (S : Nat → α → Prop) (bulk : α → Nat) : Prop :=
  ∀ (H : Type) (enc : TypeId × Value → H) (W : World) (fuel : Nat) (cs : List Value) (xs : List (DataW H × List MemPlace)), xs.length = fs.length → cs.length = off + d.sz →
    (∀ (i : Nat) (f : Field), fs[i]? = some f → DataW.trod enc Try.prog W 0 (fun _ => true) true fuel f.type ((cs.drop f.offset).take (Try.prog.cellsOf f.type)) = xs[i]?) →
    ∃ a, d.K W a (cs.drop off) ∧ (∀ B, (∀ y ∈ DataW.weightsEach Try.prog (fs.map (·.type)) (xs.map (·.1)), y ≤ B) → S B a) ∧ bulk a ≤ Rows.uptoBulkAll (xs.map (·.1))
theorem opensF_one {α : Type} {d : Kd α} {f : Field} {off : Nat} {S : Nat → α → Prop} {bulk : α → Nat} (ho : f.offset = off) (hc : Try.prog.cellsOf f.type = d.sz) (h : Opens d f.type S bulk) : OpensF d [f] off S bulk := by
  intro H enc W fuel cs xs hl hcs hx
  match xs, hl with
  | [x], _ =>
    have h0 := hx 0 f rfl
    rw [ho, hc, List.take_of_length_le (by rw [List.length_drop]; omega)] at h0
    obtain ⟨a, k1, k2, k3⟩ := h H enc W fuel _ x h0
    refine ⟨a, k1, fun B hB => k2 B fun y hy => hB y ?_, ?_⟩
    · simp only [List.map_cons, List.map_nil, DataW.weightsEach]
      exact List.mem_append_left _ hy
    · simp only [List.map_cons, List.map_nil, Rows.uptoBulkAll]
      omega
theorem opensF_cons {α β : Type} {d : Kd α} {d' : Kd β} {f : Field} {fs : List Field} {off : Nat} {S : Nat → α → Prop} {S' : Nat → β → Prop} {bulk : α → Nat} {bulk' : β → Nat} (ho : f.offset = off) (hc : Try.prog.cellsOf f.type = d.sz) (h : Opens d f.type S bulk) (h' : OpensF d' fs (off + d.sz) S' bulk') :
    OpensF (Kd.pair d d') (f :: fs) off (fun B x => S B x.1 ∧ S' B x.2) (fun x => bulk x.1 + bulk' x.2) := by
  intro H enc W fuel cs xs hl hcs hx
  have hcs' : cs.length = off + (d.sz + d'.sz) := hcs
  match xs, hl with
  | x :: r, hl =>
    have h0 := hx 0 f rfl
    rw [ho, hc] at h0
    obtain ⟨a, k1, k2, k3⟩ := h H enc W fuel _ x h0
    obtain ⟨b, m1, m2, m3⟩ := h' H enc W fuel cs r (by simpa using hl) (by omega) (fun i g hg => hx (i + 1) g (by simpa using hg))
    refine ⟨(a, b), ⟨(cs.drop off).take d.sz, cs.drop (off + d.sz), ?_, k1, m1⟩, fun B hB => ⟨k2 B fun y hy => hB y ?_, m2 B fun y hy => hB y ?_⟩, ?_⟩
    · rw [← List.drop_drop, List.take_append_drop]
    · simp only [List.map_cons, DataW.weightsEach]
      exact List.mem_append_left _ hy
    · simp only [List.map_cons, DataW.weightsEach]
      exact List.mem_append_right _ hy
    · simp only [List.map_cons, Rows.uptoBulkAll]
      omega
theorem opens_struct {α : Type} {d : Kd α} {t : TypeId} {fs : Array Field} {S : Nat → α → Prop} {bulk : α → Nat} (ht : Try.prog.underlying t = some (.struct fs)) (hc : Try.prog.cellsOf t = d.sz) (h : OpensF d fs.toList 0 S bulk) : Opens d t S (fun a => bulk a + 1) := by
  intro H enc W fuel cs x hx
  obtain ⟨xs, n, _, rfl, hl, hlen, hf⟩ := DataW.trod_struct ht hx
  obtain ⟨a, k1, k2, k3⟩ := h H enc W n cs xs (by simpa using hlen) (by omega) (fun i f hi => hf i f (by simpa using hi))
  refine ⟨a, k1, fun B hB => k2 B fun y hy => hB y ?_, ?_⟩
  · simp only [DataW.weights, ht]
    exact hy
  · simp only [Rows.uptoBulk]
    omega
/-- an argument that is a slice -/
theorem open_slice_of {α : Type} {d : Kd α} {t e : TypeId} {S : Nat → List α → Prop} {bulk : List α → Nat} (ht : Try.prog.underlying t = some (.slice e)) (ho : Opens (Kd.slice e d) t S bulk) {H : Type} {enc : TypeId × Value → H} {W : World} {base : Nat} {v : Value} {x : DataW H} {p : List MemPlace} (hv : Value.okWide Try.prog W .any base t v)
    (h : DataW.Trod enc Try.prog W 0 (fun _ => true) true t v x p) : ∃ A c xs, v = .slice A xs.length c ∧ xs.length ≤ c ∧ d.C W A xs.length xs ∧ (∀ B, (∀ y ∈ x.weights Try.prog t, y ≤ B) → S B xs) ∧ bulk xs ≤ Rows.uptoBulk x := by
  obtain ⟨a, len, cap, rfl⟩ := okWide_slice ht hv
  obtain ⟨fuel, hf⟩ := h
  obtain ⟨xs, ⟨A, c, hcs, hl, hC⟩, k2, k3⟩ := ho H enc W fuel _ _ hf
  simp only [Value.cells, List.cons.injEq, and_true] at hcs
  exact ⟨A, c, xs, hcs, hl, hC, k2, k3⟩
/-- an argument that is a struct -/
theorem open_struct_of {α : Type} {d : Kd α} {t : TypeId} {fs : Array Field} {S : Nat → α → Prop} {bulk : α → Nat} (ht : Try.prog.underlying t = some (.struct fs)) (ho : Opens d t S bulk) {H : Type} {enc : TypeId × Value → H} {W : World} {base : Nat} {v : Value} {x : DataW H} {p : List MemPlace} (hv : Value.okWide Try.prog W .any base t v)
    (h : DataW.Trod enc Try.prog W 0 (fun _ => true) true t v x p) : ∃ a cs, v = .agg cs ∧ d.K W a cs.toList ∧ (∀ B, (∀ y ∈ x.weights Try.prog t, y ≤ B) → S B a) ∧ bulk a ≤ Rows.uptoBulk x := by
  obtain ⟨cs, rfl, _⟩ := okWide_struct ht hv
  obtain ⟨fuel, hf⟩ := h
  obtain ⟨a, k1, k2, k3⟩ := ho H enc W fuel _ _ hf
  exact ⟨a, cs, rfl, k1, k2, k3⟩
end Go.Proofs.Ytbhhnlgpbhbcmaa
end

section
/- Octets of the call's own, set one by one; the least of three lengths; a row that is made. -/
namespace Go.Proofs.Ytbhhnlgpbhbcmaa
open Go.RowKit Go.Proofs.YtbhhnlgpbhbcmaaW.PrintWords

theorem OwB.set_ {W : World} {base : Nat} {v : Value} {xs : List UInt8} (HO : OwB W base v xs) (k : Nat) (hk : k < xs.length) :
    ∃ g cap, v = .slice (some ⟨g, 0, none⟩) xs.length cap ∧ base ≤ g ∧ g < W.heap.size ∧ W.cell? ⟨g, k, none⟩ = some (.int .u8 ((xs.getD k 0).toNat : Int)) ∧ W.frozen? ⟨g, k, none⟩ = false ∧
      ∀ x : UInt8, OwB (W.setCell ⟨g, k, none⟩ (.int .u8 (x.toNat : Int))) base v (xs.set k x) ∧ W.grownBy (W.setCell ⟨g, k, none⟩ (.int .u8 (x.toNat : Int))) (some g) := by
  have HO' := HO
  unfold OwB at HO'
  obtain ⟨g, cap, hv, hgb, hgl⟩ := HO'.form (by omega)
  subst hv
  have hat := own_at_of (d := (0 : UInt8)) HO' k (by omega) (by omega)
  have hkk : ((k : Int)).toNat = k := by omega
  rw [rdOf, hkk] at hat
  refine ⟨g, cap, rfl, hgb, hgl, hat.1, hat.2, fun x => ?_⟩
  have hst := own_store_of HO' k x
  rw [hkk] at hst
  refine ⟨?_, hst.2⟩
  unfold OwB
  rw [List.length_set]
  exact hst.1
/-- what is younger than a row stays as it is when the row is written -/
theorem OwB.other {w w1 : World} {base base' : Nat} {v v' : Value} {xs ys : List UInt8} (h : OwB w base v xs) (_ : OwB w base' v' ys) (hlt : ∀ k, v'.ownBlock = some k → k < base) (hg : w.grownBy w1 v'.ownBlock) : OwB w1 base v xs :=
  own_other h hg (by
    cases hv : v.ownBlock with
    | none => exact .inl rfl
    | some k =>
      refine .inr fun e => ?_
      have h1 := own_base h k hv
      have h2 := hlt k e.symm
      omega)
theorem OwB.lt {w : World} {base : Nat} {v : Value} {xs : List UInt8} (h : OwB w base v xs) (k : Nat) (hk : v.ownBlock = some k) : k < w.heap.size := own_lt h k hk
theorem OwB.ge {w : World} {base : Nat} {v : Value} {xs : List UInt8} (h : OwB w base v xs) (k : Nat) (hk : v.ownBlock = some k) : base ≤ k := own_base h k hk
theorem OwB.grown {w w1 : World} {base : Nat} {v : Value} {xs : List UInt8} {w0 : World} (h : OwB w base v xs) (hB : Below base w0 w) (hs : base ≤ w.heap.size) (hg : w.grownBy w1 v.ownBlock) : Below base w0 w1 := hB.grown hg hs (fun k hk => own_base h k hk)
theorem OwB.made (W : World) (base m : Nat) (hb : base ≤ W.heap.size) (hm : m ≤ 9223372036854775807) :
    OwB (W.alloc (.cells (madeCells #[.int .u8 0] m) 5)) base (.slice (some ⟨W.heap.size, 0, none⟩) m m) (List.replicate m 0) := by
  unfold OwB
  rw [List.length_replicate]
  exact own_made_of (enc := eu8) (d := 0) W base 5 m hb hm
section
variable {P : Program} {ops : Array Oper} {rest : List Oper} {o : Oper} {a : Act} {Q : Exit → Act → World → Prop}
/-- an operation that is no call out of here, and whose run is known -/
theorem wp_known {W W' : World} (hgd : o.guard = none) (v : Value) (h : (execOp a.eval o).run P W = .ok (.value v) W') (hk : wpList P ops Q rest (a.put o.dst v) W') : wpList P ops Q (o :: rest) a W :=
  wpList_plain hgd fun K hK => by
    unfold Oper.wp
    rw [h]
    exact hK _ _ hk
theorem min2_nat (k : IntKind) (m n : Nat) : Builtin.min2 (.int k (m : Int)) (.int k (n : Int)) = (pure (.int k ((Nat.min m n : Nat) : Int)) : Sem Value) := by
  show (pure (.int k (if (n : Int) < (m : Int) then (n : Int) else (m : Int))) : Sem Value) = _
  by_cases h : n < m
  · rw [if_pos (by omega), show Nat.min m n = n from Nat.min_eq_right (by omega)]
  · rw [if_neg (by omega), show Nat.min m n = m from Nat.min_eq_left (by omega)]
theorem wp_min3 {W : World} (hgd : o.guard = none) (x y z : Operand) (t1 t2 t3 : TypeId) (ho : o.op = .call { callee := .builtin .min, args := #[x, y, z], argTypes := #[t1, t2, t3] }) (k : IntKind) (m n l : Nat)
    (hx : a.eval x = .int k (m : Int)) (hy : a.eval y = .int k (n : Int)) (hz : a.eval z = .int k (l : Int)) (hk : wpList P ops Q rest (a.put o.dst (.int k ((Nat.min (Nat.min m n) l : Nat) : Int))) W) : wpList P ops Q (o :: rest) a W :=
  wp_known hgd _ (by
    unfold execOp
    simp only [ho, resolve, invoke, builtin, Sem.run_bind, Sem.run_pure, Result.andThen_ok, List.map_toArray, List.map_cons, List.map_nil, hx, hy, hz, Builtin.min_, List.foldlM_cons, List.foldlM_nil, min2_nat]) hk
theorem wp_min2 {W : World} (hgd : o.guard = none) (x y : Operand) (t1 t2 : TypeId) (ho : o.op = .call { callee := .builtin .min, args := #[x, y], argTypes := #[t1, t2] }) (k : IntKind) (m n : Nat)
    (hx : a.eval x = .int k (m : Int)) (hy : a.eval y = .int k (n : Int)) (hk : wpList P ops Q rest (a.put o.dst (.int k ((Nat.min m n : Nat) : Int))) W) : wpList P ops Q (o :: rest) a W :=
  wp_known hgd _ (by
    unfold execOp
    simp only [ho, resolve, invoke, builtin, Sem.run_bind, Sem.run_pure, Result.andThen_ok, List.map_toArray, List.map_cons, List.map_nil, hx, hy, Builtin.min_, List.foldlM_cons, List.foldlM_nil, min2_nat]) hk
end
theorem xor_u8 (x y : UInt8) : bits .xor .u8 (x.toNat : Int) (y.toNat : Int) = ((x ^^^ y).toNat : Int) := by
  rw [u8_xor_nat _ _ x.toNat_lt y.toNat_lt, UInt8.toNat_xor]
end Go.Proofs.Ytbhhnlgpbhbcmaa
end

section
/- Rows of elements of any kind: read, owned. -/
namespace Go.Proofs.Ytbhhnlgpbhbcmaa
open Go.RowKit Go.Proofs.YtbhhnlgpbhbcmaaW.PrintWords
set_option linter.unusedVariables false

section
variable {α : Type}
/-- a row that is read -/
def Rd (d : Kd α) (w : World) (A : Option Addr) (c : Nat) (xs : List α) : Prop := xs.length ≤ c ∧ d.C w A xs.length xs
theorem Rd.below {d : Kd α} {w w1 : World} {A : Option Addr} {c : Nat} {xs : List α} (h : Rd d w A c xs) (hb : Below w.heap.size w w1) : Rd d w1 A c xs := ⟨h.1, Kd.C_below h.2 hb⟩
theorem Rd.max {d : Kd α} {w : World} {A : Option Addr} {c : Nat} {xs : List α} (h : Rd d w A c xs) : xs.length ≤ 9223372036854775807 := h.2.2.1
theorem Rd.le {d : Kd α} {w : World} {A : Option Addr} {c : Nat} {xs : List α} (h : Rd d w A c xs) : xs.length ≤ c := h.1
theorem Rd.zero (d : Kd α) (w : World) (A : Option Addr) (c : Nat) : Rd d w A c [] := ⟨Nat.zero_le _, rfl, Nat.zero_le _, fun h => absurd h (by simp)⟩
theorem Rd.take {d : Kd α} {w : World} {A : Option Addr} {c : Nat} {xs : List α} (h : Rd d w A c xs) (k : Nat) (hk : k ≤ xs.length) : Rd d w A c (xs.take k) := ⟨by rw [List.length_take]; have := h.1; omega, Kd.C_take h.2 hk⟩
/-- the address behind 'xs[k:]' -/
def cutK (sz : Nat) (A : Option Addr) (c k : Nat) : Option Addr := if c = k then A else A.map (·.add (k * sz))
theorem Rd.drop {d : Kd α} {w : World} {A : Option Addr} {c : Nat} {xs : List α} (h : Rd d w A c xs) (k : Nat) (hk : k ≤ xs.length) : Rd d w (cutK d.sz A c k) (c - k) (xs.drop k) := ⟨by rw [List.length_drop]; have := h.1; omega, Kd.C_drop h.2 hk h.1⟩
theorem Rd.mid {d : Kd α} {w : World} {A : Option Addr} {c : Nat} {xs : List α} (h : Rd d w A c xs) (j k : Nat) (hj : j ≤ k) (hk : k ≤ xs.length) : Rd d w (cutK d.sz A c j) (c - j) ((xs.take k).drop j) := (h.take k hk).drop j (by rw [List.length_take]; omega)
theorem Rd.at_ {d : Kd α} {w : World} {A : Option Addr} {c : Nat} {xs : List α} (h : Rd d w A c xs) (z : α) (i : Nat) (hi : i < xs.length) : ∃ ad cs, A = some ad ∧ d.K w (xs.getD i z) cs ∧ cs.length = d.sz ∧ ∀ j u, cs[j]? = some u → w.cell? (ad.add (i * d.sz + j)) = some u := by
  obtain ⟨ad, cs, e, hl, hk, hc⟩ := Kd.C_get h.2 z (i : Int) (by omega) (by omega)
  simp only [Int.toNat_natCast] at hk hc
  exact ⟨ad, cs, e, hk, hl, hc⟩
/-- a row of the call's own -/
def Ow (d : Kd α) (e : Nat) (w : World) (base : Nat) (v : Value) (xs : List α) : Prop := d.R e w base (fun _ => True) v xs
theorem Ow.below {d : Kd α} {e : Nat} {w w1 : World} {base : Nat} {v : Value} {xs : List α} (h : Ow d e w base v xs) (hb : Below w.heap.size w w1) : Ow d e w1 base v xs := Kd.R_below h hb
theorem Ow.zero (d : Kd α) (e : Nat) (w : World) (base : Nat) : Ow d e w base (.slice none 0 0) [] := Kd.R_nil _ _ _ _ _
theorem Ow.lower {d : Kd α} {e : Nat} {w : World} {base base' : Nat} {v : Value} {xs : List α} (h : Ow d e w base v xs) (hb : base' ≤ base) : Ow d e w base' v xs := Kd.R_lower h hb
theorem Ow.rd {d : Kd α} {e : Nat} {w : World} {base : Nat} {v : Value} {xs : List α} (h : Ow d e w base v xs) : ∃ A c, v = .slice A xs.length c ∧ Rd d w A c xs := by
  obtain ⟨A, c, hv, hl, hC⟩ := Kd.R_reads h
  exact ⟨A, c, hv, hl, hC⟩
theorem Ow.rdl {d : Kd α} {e : Nat} {w : World} {base : Nat} {A : Option Addr} {n c : Nat} {xs : List α} (h : Ow d e w base (.slice A n c) xs) : Rd d w A c xs := by
  obtain ⟨A', c', hv, hr⟩ := h.rd
  injection hv with h1 _ h3
  subst h1
  subst h3
  exact hr
theorem Ow.lt {d : Kd α} {e : Nat} {w : World} {base : Nat} {v : Value} {xs : List α} (h : Ow d e w base v xs) (k : Nat) (hk : v.ownBlock = some k) : k < w.heap.size := by
  obtain ⟨_, inner, ho, _⟩ := h
  exact own_lt ho k hk
theorem Ow.ge {d : Kd α} {e : Nat} {w : World} {base : Nat} {v : Value} {xs : List α} (h : Ow d e w base v xs) (k : Nat) (hk : v.ownBlock = some k) : base ≤ k := by
  obtain ⟨_, inner, ho, _⟩ := h
  exact own_base ho k hk
/-- a row of another element type has been written -/
theorem Ow.over {β : Type} {d : Kd α} {d' : Kd β} {e e' : Nat} {w w1 : World} {base base' : Nat} {v v' : Value} {xs : List α} {ys : List β} (h : Ow d e w base v xs) (h' : Ow d' e' w base' v' ys) (ht : ∀ q, q ∈ e :: d.E → q ≠ e') (hg : w.grownBy w1 v'.ownBlock) : Ow d e w1 base v xs := Kd.R_over' h (Kd.R_typed h') ht hg
theorem Ow.setCell {d : Kd α} {e : Nat} {w : World} {base : Nat} {v : Value} {xs : List α} (h : Ow d e w base v xs) {g t : Nat} {cells : Array Value} (hb : w.heap[g]? = some (.cells cells t (0, 0))) (ht : ∀ q, q ∈ e :: d.E → q ≠ t) (j : Nat) (u : Value) : Ow d e (w.setCell ⟨g, j, none⟩ u) base v xs := Kd.R_set h hb ht j u
theorem one_ne {e e' : Nat} (h : e ≠ e') : ∀ q, q ∈ [e] → q ≠ e' := fun q hq => by rw [List.mem_singleton.1 hq]; exact h
theorem OwB.ow {w : World} {base : Nat} {v : Value} {xs : List UInt8} (h : OwB w base v xs) : Ow kU8 5 w base v xs := Kd.R_of_own h (fun _ _ => trivial)
theorem Ow.owB {w : World} {base : Nat} {v : Value} {xs : List UInt8} (h : Ow kU8 5 w base v xs) : OwB w base v xs := Kd.own_of_R h
theorem Rd.rdB {w : World} {A : Option Addr} {c : Nat} {xs : List UInt8} (h : Rd kU8 w A c xs) : RdB w A c xs := ⟨h.1, Kd.reads_of_C (d := (0 : UInt8)) h.2⟩
theorem RdB.rdk {w : World} {A : Option Addr} {c : Nat} {xs : List UInt8} (h : RdB w A c xs) : Rd kU8 w A c xs := ⟨h.1, Kd.C_of_reads h.2⟩
/-- 'xs[k:]', 'xs[:k]', 'xs[j:k]' of elements of whatever size -/
theorem sliceK_lo {P : Program} (t e : TypeId) {i : TypeInfo} (ht : P.underlying t = some (.slice e)) (hi : P.info? e = some i) (sz : Nat) (hsz : i.size = sz) (A : Option Addr) (n c k : Nat) (hk : k ≤ n) (W : World) :
    (Instr.slice t (.slice A n c) (some (.int .i64 (k : Int))) none none).run P W = .ok (.slice (cutK sz A c k) (n - k) (c - k)) W := by
  subst hsz
  have hel : P.elem t = e := by simp [Program.elem, ht]
  have hu : P.underlying t = some (.slice (P.elem t)) := by rw [hel]; exact ht
  rw [run_slice_l W t A n c hu .i64 (k : Int) (Int.natCast_nonneg _) (by omega), hel]
  simp [sizeOf, typeInfo, hi, sliced, Result.andThen, cutK]
theorem sliceK_lohi {P : Program} (t e : TypeId) {i : TypeInfo} (ht : P.underlying t = some (.slice e)) (hi : P.info? e = some i) (sz : Nat) (hsz : i.size = sz) (A : Option Addr) (n c j k : Nat) (hj : j ≤ k) (hk : k ≤ c) (W : World) :
    (Instr.slice t (.slice A n c) (some (.int .i64 (j : Int))) (some (.int .i64 (k : Int))) none).run P W = .ok (.slice (cutK sz A c j) (k - j) (c - j)) W := by
  subst hsz
  have hel : P.elem t = e := by simp [Program.elem, ht]
  have hu : P.underlying t = some (.slice (P.elem t)) := by rw [hel]; exact ht
  rw [run_slice_lh W t A n c hu .i64 .i64 (j : Int) (k : Int) (Int.natCast_nonneg _) (by omega) (by omega), hel]
  simp [sizeOf, typeInfo, hi, sliced, Result.andThen, cutK]
theorem sliceK_hi {P : Program} (t e : TypeId) {i : TypeInfo} (ht : P.underlying t = some (.slice e)) (hi : P.info? e = some i) (A : Option Addr) (n c k : Nat) (hk : k ≤ c) (W : World) :
    (Instr.slice t (.slice A n c) none (some (.int .i64 (k : Int))) none).run P W = .ok (.slice A k c) W := by
  have hel : P.elem t = e := by simp [Program.elem, ht]
  have hu : P.underlying t = some (.slice (P.elem t)) := by rw [hel]; exact ht
  have ha : (A.map fun x => x.add 0) = A := by cases A <;> simp [Addr.add]
  rw [run_slice_h W t A n c hu .i64 (k : Int) (Int.natCast_nonneg _) (by omega), hel]
  simp [sizeOf, typeInfo, hi, sliced, Result.andThen, ha]
section
variable {P : Program} {ops : Array Oper} {rest : List Oper} {o : Oper} {a : Act} {Q : Exit → Act → World → Prop}
/-- 'append(v, x)': of one element whose cells bear no rows of their own -/
theorem app_ow {w0 W : World} (d : Kd α) (base : Nat) (hgd : o.guard = none) (s x : Operand) (t e : TypeId) (z : Value) (bytes : Nat)
    (ho : o.op = .call { callee := .builtin .append, args := #[s, x], argTypes := #[t, t] })
    (ht : P.underlying t = some (.slice e)) (hinfo : (P.info? e).map (fun i => (i.zero, i.size, i.bytes)) = some (some z, d.sz, bytes)) (hz : z.cells.size = d.sz) (hs0 : 0 < d.sz) (hb0 : 0 < bytes)
    (v : Value) (xs : List α) (p : α) (cs : List Value) (hs : a.eval s = v) (hx : a.eval x = .slice (some ⟨W.heap.size, 0, none⟩) 1 1) (hp : d.M W base (fun _ => False) p cs)
    (HO : Ow d e W base v xs) (HB : Below base w0 W) (hbase : base ≤ W.heap.size) (hl : (xs.length + 1) * bytes ≤ 140737488355328)
    (h : ∀ v1 w1, Ow d e w1 base v1 (xs ++ [p]) → Below base w0 w1 → W.grownBy w1 v.ownBlock → (v1.ownBlock = v.ownBlock ∨ ∃ b, v1.ownBlock = some b ∧ W.heap.size ≤ b) → wpList P ops Q rest (a.put o.dst v1) w1) :
    wpList P ops Q (o :: rest) a (W.alloc (.cells cs.toArray e)) :=
  Kd.R_append (P := P) d base hgd s x t e z bytes ho ht hinfo hz hs0 hb0 v xs p cs (fun _ => True) (fun _ => False) hs hx hp (fun _ h => h.elim) (fun _ _ => trivial) HO HB hbase hl h
/-- 'append(v, ys...)' -/
theorem app_ows {w0 W : World} (d : Kd α) (base : Nat) (hgd : o.guard = none) (s x : Operand) (t e : TypeId) (z : Value) (bytes : Nat)
    (ho : o.op = .call { callee := .builtin .append, args := #[s, x], argTypes := #[t, t] })
    (ht : P.underlying t = some (.slice e)) (hinfo : (P.info? e).map (fun i => (i.zero, i.size, i.bytes)) = some (some z, d.sz, bytes)) (hz : z.cells.size = d.sz) (hs0 : 0 < d.sz) (hb0 : 0 < bytes)
    (v : Value) (xs ys : List α) (A : Option Addr) (c : Nat) (hs : a.eval s = v) (hx : a.eval x = .slice A ys.length c) (hKM : ∀ x cs, d.K W x cs → d.M W base (fun _ => False) x cs)
    (HO : Ow d e W base v xs) (HR : Rd d W A c ys) (HB : Below base w0 W) (hbase : base ≤ W.heap.size) (hl : (xs.length + ys.length) * bytes ≤ 140737488355328)
    (h : ∀ v1 w1, Ow d e w1 base v1 (xs ++ ys) → Below base w0 w1 → W.grownBy w1 v.ownBlock → (v1.ownBlock = v.ownBlock ∨ ∃ b, v1.ownBlock = some b ∧ W.heap.size ≤ b) → wpList P ops Q rest (a.put o.dst v1) w1) :
    wpList P ops Q (o :: rest) a W :=
  Kd.R_append_rows (P := P) d (Rr := d.K W) base hgd s x t e z bytes ho ht hinfo hz hs0 hb0 v xs ys A ys.length c (fun _ => True) (fun _ => False) hs hx HO HR.2 hKM (fun _ h => h.elim) (fun _ _ => trivial) HB hbase hl h
end
end
section
variable {α : Type} {P : Program} {ops : Array Oper} {rest : List Oper} {o : Oper} {a : Act} {Q : Exit → Act → World → Prop}
theorem Ow.len {d : Kd α} {e : Nat} {w : World} {base : Nat} {A : Option Addr} {n c : Nat} {xs : List α} (h : Ow d e w base (.slice A n c) xs) : xs.length = n := by
  obtain ⟨A', c', hv, _⟩ := h.rd
  injection hv with _ h2 _
  exact h2.symm
theorem Ow.head {d : Kd α} {e : Nat} {w : World} {base : Nat} {A : Option Addr} {n c : Nat} {xs : List α} (h : Ow d e w base (.slice A n c) xs) (hn : 0 < n) : ∃ g, A = some ⟨g, 0, none⟩ ∧ base ≤ g ∧ g < w.heap.size := by
  obtain ⟨inner, hown⟩ := Kd.R_own h
  rw [h.len] at hown
  obtain ⟨g, cap, hv, hb, hl⟩ := hown.form hn
  injection hv with ha _ _
  exact ⟨g, ha, hb, hl⟩
/-- 'xs[k] = x': a whole element of the call's own row -/
theorem store_ow (d : Kd α) (z : α) {w0 W : World} (base : Nat) (hN : o.dst = none) (hgd : o.guard = none) (t : TypeId) (p x : Operand) (ho : o.op = .store t p x) (e : TypeId) {g n cap : Nat} (k : Nat) (xs : List α) (x' : α) (u : Value) (seg : List Value)
    (haddr : a.eval p = .pointer (some ⟨g, k * d.sz, none⟩)) (hx : a.eval x = u) (hu : u.cells.toList = seg) (ht : (P.info? t).map (·.size) = some seg.length) (h1 : ∀ q ∈ seg, q.oneCell' = true) (hs : seg.length = d.sz) (hM : d.M W base (fun _ => False) x' seg)
    (HO : Ow d e W base (.slice (some ⟨g, 0, none⟩) n cap) xs) (hk : k < n) (HB : Below base w0 W)
    (h : ∀ w1, Ow d e w1 base (.slice (some ⟨g, 0, none⟩) n cap) (xs.set k x') → Below base w0 w1 → W.grownBy w1 (some g) → wpList P ops Q rest a w1) : wpList P ops Q (o :: rest) a W := by
  obtain ⟨ad, c, hA, hK, hl, hc⟩ := Rd.at_ HO.rdl z k (by rw [HO.len]; exact hk)
  injection hA with hA
  subst hA
  refine Kd.R_store (P := P) d (w0 := w0) base hN hgd t p x ho e (g := g) (n := n) (cap := cap) (k : Int) 0 xs x' u seg c (fun _ => True) (fun _ => False) haddr (by rw [Int.toNat_natCast]; rfl) hx hu ht h1 HO (by omega) (by omega) hl ?_ (by omega) ?_ (fun _ h => h.elim) HB (fun w1 h2 h3 h4 => h w1 ?_ h3 h4)
  · intro j v hj
    rw [Int.toNat_natCast]
    have := hc j v hj
    rw [add_plain] at this
    exact this
  · rw [List.take_zero, List.nil_append, Nat.zero_add, hs, ← hl, List.drop_length, List.append_nil]
    exact hM
  · rw [Int.toNat_natCast] at h2
    exact h2
end
/-- the kind of a number -/
abbrev kInt : Kd Int := Kd.int .i64
abbrev kStr : Kd ByteArray := Kd.string
abbrev kBool : Kd Bool := Kd.bool
theorem info_int : (Try.prog.info? 3).map (fun i => (i.zero, i.size, i.bytes)) = some (some (.int .i64 0), 1, 8) := by kernel_rfl
section
variable {ops : Array Oper} {rest : List Oper} {o : Oper} {a : Act} {Q : Exit → Act → World → Prop}
theorem app_int {w0 W : World} (base : Nat) (hgd : o.guard = none) (s x : Operand)
    (ho : o.op = .call { callee := .builtin .append, args := #[s, x], argTypes := #[26, 26] })
    (v : Value) (xs : List Int) (y : Int) (hs : a.eval s = v) (hx : a.eval x = .slice (some ⟨W.heap.size, 0, none⟩) 1 1)
    (HO : Ow kInt 3 W base v xs) (HB : Below base w0 W) (hbase : base ≤ W.heap.size) (hl : (xs.length + 1) * 8 ≤ 140737488355328)
    (h : ∀ v1 w1, Ow kInt 3 w1 base v1 (xs ++ [y]) → Below base w0 w1 → W.grownBy w1 v.ownBlock → (v1.ownBlock = v.ownBlock ∨ ∃ b, v1.ownBlock = some b ∧ W.heap.size ≤ b) → wpList Try.prog ops Q rest (a.put o.dst v1) w1) :
    wpList Try.prog ops Q (o :: rest) a (W.alloc (.cells #[.int .i64 y] 3)) :=
  app_ow kInt base hgd s x 26 3 _ 8 ho Try.underlying26 info_int rfl (by decide) (by decide) v xs y [.int .i64 y] hs hx rfl HO HB hbase hl h
end
theorem Rd.int_at {w : World} {A : Option Addr} {c : Nat} {xs : List Int} (h : Rd kInt w A c xs) (i : Nat) (hi : i < xs.length) : ∃ ad, A = some ad ∧ w.cell? (ad.add i) = some (.int .i64 (xs.getD i 0)) := by
  obtain ⟨ad, cs, e, hk, _, hc⟩ := h.at_ 0 i hi
  have hk' : cs = [.int .i64 (xs.getD i 0)] := hk
  subst hk'
  have := hc 0 _ rfl
  rw [show kInt.sz = 1 from rfl, Nat.mul_one, Nat.add_zero] at this
  exact ⟨ad, e, this⟩
end Go.Proofs.Ytbhhnlgpbhbcmaa
end

section
/- A struct of a number and a slice, in a variable: its cells read, kept, stored. -/
namespace Go.Proofs.Ytbhhnlgpbhbcmaa
open Go.RowKit Go.Proofs.YtbhhnlgpbhbcmaaW.PrintWords
set_option linter.unusedVariables false

/-- a number and a slice, as a value -/
def fil (K : Int) (A : Option Addr) (n c : Nat) : Value := .agg #[.int .i64 K, .slice A n c]
/-- a struct that lies in a variable just laid, a call behind -/
theorem boxedF {w w1 : World} {K : Int} {s : Value} {ty : TypeId} (HB : Below (w.alloc (.cells #[.int .i64 K, s] ty)).heap.size (w.alloc (.cells #[.int .i64 K, s] ty)) w1) :
    w1.cell? ⟨w.heap.size, 0, none⟩ = some (.int .i64 K) ∧ w1.cell? ⟨w.heap.size, 1, none⟩ = some s ∧ Below w.heap.size w w1 := by
  have hs : w.heap.size < (w.alloc (.cells #[.int .i64 K, s] ty)).heap.size := by simp
  refine ⟨?_, ?_, ((Below.refl _ _).alloc (Nat.le_refl _) _).trans (HB.mono (by simp))⟩ <;> (rw [HB.cell hs, World.cell?_alloc_mark]; rfl)
/-- two cells of a block just laid, stored -/
theorem two_cells {w : World} {g : Nat} {t : TypeId} {x y u v : Value} (h : w.heap[g]? = some (.cells #[x, y] t (0, 0))) :
    ((w.setCell ⟨g, 0, none⟩ u).setCell ⟨g, 1, none⟩ v).heap[g]? = some (.cells #[u, v] t (0, 0)) := blk_set (blk_set h 0 u) 1 v
theorem two_read {w : World} {g : Nat} {t : TypeId} {x y : Value} (h : w.heap[g]? = some (.cells #[x, y] t (0, 0))) :
    w.cell? ⟨g, 0, none⟩ = some x ∧ w.cell? ⟨g, 1, none⟩ = some y ∧ w.frozen? ⟨g, 0, none⟩ = false ∧ w.frozen? ⟨g, 1, none⟩ = false := ⟨blk_cell h 0, blk_cell h 1, blk_frozen h 0, blk_frozen h 1⟩
/-- a struct in a variable -/
def Bx (w : World) (b : Nat) (K : Int) (s : Value) (ty : TypeId) : Prop := w.heap[b]? = some (.cells #[.int .i64 K, s] ty)
theorem Bx.below {w w1 : World} {b : Nat} {K : Int} {s : Value} {ty : TypeId} (h : Bx w b K s ty) (hb : Below w.heap.size w w1) : Bx w1 b K s ty := (hb.block b (Array.getElem?_eq_some_iff.1 h).1).trans h
theorem Bx.lt {w : World} {b : Nat} {K : Int} {s : Value} {ty : TypeId} (h : Bx w b K s ty) : b < w.heap.size := (Array.getElem?_eq_some_iff.1 h).1
theorem Bx.grown {w w1 : World} {b : Nat} {K : Int} {s : Value} {ty : TypeId} (h : Bx w b K s ty) {row : Option Nat} (hg : w.grownBy w1 row) (hne : ∀ k, row = some k → k < b) : Bx w1 b K s ty :=
  (hg.block b h.lt (fun e => by have := hne b e.symm; omega)).trans h
theorem Bx.new (w : World) (K : Int) (s : Value) (ty : TypeId) : Bx (w.alloc (.cells #[.int .i64 K, s] ty)) w.heap.size K s ty := heap_alloc_new w _
theorem Bx.read {w : World} {b : Nat} {K : Int} {s : Value} {ty : TypeId} (h : Bx w b K s ty) : w.cell? ⟨b, 0, none⟩ = some (.int .i64 K) ∧ w.cell? ⟨b, 1, none⟩ = some s ∧ w.frozen? ⟨b, 0, none⟩ = false ∧ w.frozen? ⟨b, 1, none⟩ = false := two_read h
theorem below_alloc (w : World) (o : Obj) : Below w.heap.size w (w.alloc o) := (Below.refl _ _).alloc (Nat.le_refl _) _
theorem OwB.rdl {w : World} {base : Nat} {A : Option Addr} {n c : Nat} {xs : List UInt8} (h : OwB w base (.slice A n c) xs) : RdB w A c xs := by
  obtain ⟨A', c', hv, hr⟩ := h.rd
  injection hv with h1 _ h3
  subst h1
  subst h3
  exact hr
theorem i64_of (a : Int) (h : (Lit.int .i64 a).wf = true) : -9223372036854775808 ≤ a ∧ a ≤ 9223372036854775807 := by
  simpa [Lit.wf, IntKind.min, IntKind.max, IntKind.signed, IntKind.bits] using h
end Go.Proofs.Ytbhhnlgpbhbcmaa
end

section
/- Small words for what the printed functions compute: rounds enough; indices that do not wrap; kinds told over. -/
namespace Go.Proofs.Ytbhhnlgpbhbcmaa
open Go.RowKit Go.Proofs.YtbhhnlgpbhbcmaaW.PrintWords
set_option linter.unusedVariables false

theorem wrap64_succ (i : Nat) (h : i < 9223372036854775807) : wrap64 ((i : Int) + 1) = ((i + 1 : Nat) : Int) := by
  unfold wrap64
  omega
theorem Ev.now' {α : Type} {g : Nat → Option α} {r : α} (h : ∀ k, g (k + 1) = some r) : Ev g r := ⟨1, fun k hk => by obtain ⟨j, rfl⟩ : ∃ j, k = j + 1 := ⟨k - 1, by omega⟩; exact h j⟩
theorem Ev.now2 {α : Type} {g : Nat → Option α} {r : α} (h : ∀ k, g (k + 2) = some r) : Ev g r := ⟨2, fun k hk => by obtain ⟨j, rfl⟩ : ∃ j, k = j + 2 := ⟨k - 2, by omega⟩; exact h j⟩
theorem Ev.now3 {α : Type} {g : Nat → Option α} {r : α} (h : ∀ k, g (k + 3) = some r) : Ev g r := ⟨3, fun k hk => by obtain ⟨j, rfl⟩ : ∃ j, k = j + 3 := ⟨k - 3, by omega⟩; exact h j⟩
theorem Ev.eq_ {α : Type} {g : Nat → Option α} {r r' : α} (h : Ev g r) (e : r = r') : Ev g r' := e ▸ h
/-- a row of another type of elements -/
theorem C_map {α β : Type} {d : Kd α} {d' : Kd β} (hs : d'.sz = d.sz) (g : α → β) {w : World} (hK : ∀ x cs, d.K w x cs → d'.K w (g x) cs) {A : Option Addr} {xs : List α} (h : d.C w A xs.length xs) : d'.C w A (xs.map g).length (xs.map g) := by
  refine ⟨rfl, by rw [List.length_map]; exact h.2.1, fun hp => ?_⟩
  rw [List.length_map] at hp
  obtain ⟨ad, e, hc⟩ := h.2.2 hp
  refine ⟨ad, e, fun j p hj => ?_⟩
  rw [List.getElem?_map, Option.map_eq_some_iff] at hj
  obtain ⟨x, hx, rfl⟩ := hj
  obtain ⟨c, h1, h2, h3⟩ := hc j x hx
  exact ⟨c, by rw [hs]; exact h1, hK _ _ h2, by rw [hs]; exact h3⟩
theorem Rd_map {α β : Type} {d : Kd α} {d' : Kd β} (hs : d'.sz = d.sz) (g : α → β) {w : World} (hK : ∀ x cs, d.K w x cs → d'.K w (g x) cs) {A : Option Addr} {c : Nat} {xs : List α} (h : Rd d w A c xs) : Rd d' w A c (xs.map g) := ⟨by rw [List.length_map]; exact h.1, C_map hs g hK h.2⟩
theorem R_map {α β : Type} {d : Kd α} {d' : Kd β} (hs : d'.sz = d.sz) (g : α → β) (hM : ∀ w base ok x cs, d.M w base ok x cs → d'.M w base ok (g x) cs) {e : Nat} {w : World} {base : Nat} {ok : Nat → Prop} {v : Value} {xs : List α} (h : d.R e w base ok v xs) : d'.R e w base ok v (xs.map g) := by
  obtain ⟨h0, inner, ho, hr⟩ := h
  refine ⟨h0, inner, by rw [List.length_map, hs]; exact ho, by rw [List.length_map, hs]; exact hr.1, fun j p hj => ?_⟩
  rw [List.getElem?_map, Option.map_eq_some_iff] at hj
  obtain ⟨x, hx, rfl⟩ := hj
  rw [hs]
  exact hM _ _ _ _ _ (hr.2 j x hx)
theorem rd_map {α β : Type} (g : α → β) (xs : List α) (z : α) (z' : β) (i : Nat) (h : i < xs.length) : (xs.map g).getD i z' = g (xs.getD i z) := by
  rw [List.getD_eq_getElem?_getD, List.getElem?_map, List.getElem?_eq_getElem h, List.getD_eq_getElem?_getD, List.getElem?_eq_getElem h]
  rfl
theorem drop_get {α : Type} (xs : List α) (z : α) (i : Nat) (h : i < xs.length) : xs.drop i = xs.getD i z :: xs.drop (i + 1) := by
  rw [List.drop_eq_getElem_cons h, List.getD_eq_getElem?_getD, List.getElem?_eq_getElem h]
  rfl
theorem drop_all {α : Type} (xs : List α) : xs.drop xs.length = [] := List.drop_of_length_le (Nat.le_refl _)
theorem toList_eq (s : ByteArray) : s.toList = s.data.toList := by rw [ByteArray.toList_eq]
theorem toList_nil (s : ByteArray) : s.toList = [] ↔ s.size = 0 := by
  rw [toList_eq]
  constructor
  · intro h
    have : s.data.toList.length = 0 := by rw [h]; rfl
    rw [Array.length_toList] at this
    exact this
  · intro h
    apply List.eq_nil_of_length_eq_zero
    rw [Array.length_toList]
    exact h
theorem toList_inj {s t : ByteArray} (h : s.toList = t.toList) : s = t := by
  rw [toList_eq, toList_eq] at h
  apply ByteArray.ext
  apply Array.ext'
  exact h
end Go.Proofs.Ytbhhnlgpbhbcmaa
end

section
/- Strings as lists of octets; compared. -/
namespace Go.Proofs.Ytbhhnlgpbhbcmaa
open Go.RowKit Go.Proofs.YtbhhnlgpbhbcmaaW.PrintWords
set_option linter.unusedVariables false

def bl (s : ByteArray) : List UInt8 := s.data.toList
theorem bl_length (s : ByteArray) : (bl s).length = s.size := by rw [bl, Array.length_toList]; rfl
theorem bl_inj {s t : ByteArray} (h : bl s = bl t) : s = t := by
  apply ByteArray.ext
  apply Array.ext'
  exact h
theorem bl_mk (l : List UInt8) : bl ⟨l.toArray⟩ = l := by simp [bl]
theorem lt_tr {a b c : List UInt8} (h : a < b) (h2 : b < c) : a < c := List.lt_trans h h2
theorem lt_ir (a : List UInt8) : ¬ a < a := List.lt_irrefl a
theorem lt_as {a b : List UInt8} (h : a < b) : ¬ b < a := fun h2 => lt_ir a (lt_tr h h2)
theorem lt_tri (a b : List UInt8) : a < b ∨ a = b ∨ b < a := by
  rcases Decidable.em (a < b) with h | h
  · exact .inl h
  · rcases Decidable.em (b < a) with h2 | h2
    · exact .inr (.inr h2)
    · exact .inr (.inl (List.le_antisymm (List.not_lt.1 h2) (List.not_lt.1 h)))
theorem less_bl (a b : ByteArray) : Op.bytesLess a.toList b.toList = decide (bl a < bl b) := by rw [bytesLess_eq, Lib.toList_data, Lib.toList_data]; rfl
theorem toL_bl (a b : ByteArray) : a.toList = b.toList ↔ bl a = bl b := by rw [Lib.toList_data, Lib.toList_data]; exact Iff.rfl
theorem same_bl (a b : ByteArray) : (a.toList == b.toList) = decide (bl a = bl b) := by
  rw [Lib.toList_data, Lib.toList_data]
  by_cases h : bl a = bl b
  · rw [decide_eq_true h]; exact beq_iff_eq.2 h
  · rw [decide_eq_false h]; exact beq_eq_false_iff_ne.2 h
def cmpS (a b : ByteArray) : Int := if bl a < bl b then -1 else if bl b < bl a then 1 else 0
theorem nanS_any (a : ByteArray) (w : World) : Calls Try.prog 56 #[.string a] w fun e w' => e = .returned (.bool false) ∧ w = w' := by
  have h := same_bl a a
  rw [decide_eq_true rfl] at h
  go_enter Try.func56, Try.ntmps56
  go_wp2
  go_ret
  exact ⟨by simp, rfl⟩
set_option maxRecDepth 100000 in
set_option maxHeartbeats 800000 in
theorem cmpS_any (a b : ByteArray) (w : World) : Calls Try.prog 55 #[.string a, .string b] w fun e w' => e = .returned (.int .i64 (cmpS a b)) ∧ w = w' := by
  have h1 := less_bl a b
  have h2 := same_bl a b
  rcases lt_tri (bl a) (bl b) with h | h | h
  · rw [decide_eq_true h] at h1
    have e : cmpS a b = -1 := by rw [cmpS, if_pos h]
    rw [e]
    clear h2
    go_enter Try.func55, Try.ntmps55
    go_wp2_with (first | (go_at_call 56; refine (nanS_any _ _).mono ?_; rintro e w' ⟨rfl, rfl⟩))
    go_ret
    exact ⟨rfl, rfl⟩
  · rw [decide_eq_false (by rw [h]; exact lt_ir _)] at h1
    rw [decide_eq_true h] at h2
    have e : cmpS a b = 0 := by rw [cmpS, if_neg (by rw [h]; exact lt_ir _), if_neg (by rw [h]; exact lt_ir _)]
    rw [e]
    go_enter Try.func55, Try.ntmps55
    go_wp2_with (first | (go_at_call 56; refine (nanS_any _ _).mono ?_; rintro e w' ⟨rfl, rfl⟩))
    go_ret
    exact ⟨rfl, rfl⟩
  · rw [decide_eq_false (lt_as h)] at h1
    rw [decide_eq_false (fun e => by rw [e] at h; exact lt_ir _ h)] at h2
    have e : cmpS a b = 1 := by rw [cmpS, if_neg (lt_as h), if_pos h]
    rw [e]
    go_enter Try.func55, Try.ntmps55
    go_wp2_with (first | (go_at_call 56; refine (nanS_any _ _).mono ?_; rintro e w' ⟨rfl, rfl⟩))
    go_ret
    exact ⟨rfl, rfl⟩
end Go.Proofs.Ytbhhnlgpbhbcmaa
end

section
/- Rows of tables' data: read, owned; one in memory. -/
namespace Go.Proofs.Ytbhhnlgpbhbcmaa
open Go.RowKit Go.Proofs.YtbhhnlgpbhbcmaaW.PrintWords
set_option linter.unusedVariables false

/-- what is known of a table: its number, level, count, lowest and highest key -/
abbrev Met := Int × Int × Int × ByteArray × ByteArray
def kMet : Kd Met := Kd.pair kInt (Kd.pair kInt (Kd.pair kInt (Kd.pair kStr kStr)))
def zMet : Met := (0, 0, 0, ByteArray.empty, ByteArray.empty)
theorem info_met : (Try.prog.info? 55).map (fun i => (i.zero, i.size, i.bytes)) = some (some (.agg #[.int .i64 0, .int .i64 0, .int .i64 0, .string ByteArray.empty, .string ByteArray.empty]), 5, 56) := by kernel_rfl
theorem kMet_K {w : World} {c : Met} {cs : List Value} (h : kMet.K w c cs) : cs = [.int .i64 c.1, .int .i64 c.2.1, .int .i64 c.2.2.1, .string c.2.2.2.1, .string c.2.2.2.2] := by
  obtain ⟨c0, c1, rfl, h0, c2, c3, rfl, h2, c4, c5, rfl, h4, c6, c7, rfl, h6, h7⟩ := h
  have h0' : c0 = [.int .i64 c.1] := h0
  have h2' : c2 = [.int .i64 c.2.1] := h2
  have h4' : c4 = [.int .i64 c.2.2.1] := h4
  have h6' : c6 = [.string c.2.2.2.1] := h6
  have h7' : c7 = [.string c.2.2.2.2] := h7
  subst h0'
  subst h2'
  subst h4'
  subst h6'
  subst h7'
  rfl
theorem kMet_mk (w : World) (c : Met) : kMet.K w c [.int .i64 c.1, .int .i64 c.2.1, .int .i64 c.2.2.1, .string c.2.2.2.1, .string c.2.2.2.2] := ⟨[.int .i64 c.1], _, rfl, rfl, [.int .i64 c.2.1], _, rfl, rfl, [.int .i64 c.2.2.1], _, rfl, rfl, [.string c.2.2.2.1], [.string c.2.2.2.2], rfl, rfl, rfl⟩
theorem kMet_M (w : World) (base : Nat) (ok : Nat → Prop) (c : Met) : kMet.M w base ok c [.int .i64 c.1, .int .i64 c.2.1, .int .i64 c.2.2.1, .string c.2.2.2.1, .string c.2.2.2.2] := ⟨[.int .i64 c.1], _, rfl, rfl, [.int .i64 c.2.1], _, rfl, rfl, [.int .i64 c.2.2.1], _, rfl, rfl, [.string c.2.2.2.1], [.string c.2.2.2.2], rfl, rfl, rfl⟩
theorem kMet_KM {w : World} {base : Nat} {ok : Nat → Prop} {c : Met} {cs : List Value} (h : kMet.K w c cs) : kMet.M w base ok c cs := by rw [kMet_K h]; exact kMet_M _ _ _ _
abbrev RdM := Rd kMet
abbrev OwM := Ow kMet 55
theorem RdM.at5 {w : World} {A : Option Addr} {c : Nat} {xs : List Met} (h : RdM w A c xs) (i : Nat) (hi : i < xs.length) : ∃ ad, A = some ad ∧ w.cell? (ad.add (i * 5)) = some (.int .i64 (xs.getD i zMet).1) ∧ w.cell? ⟨(ad.add (i * 5)).block, (ad.add (i * 5)).off + 1, none⟩ = some (.int .i64 (xs.getD i zMet).2.1) ∧ w.cell? ⟨(ad.add (i * 5)).block, (ad.add (i * 5)).off + 2, none⟩ = some (.int .i64 (xs.getD i zMet).2.2.1) ∧ w.cell? ⟨(ad.add (i * 5)).block, (ad.add (i * 5)).off + 3, none⟩ = some (.string (xs.getD i zMet).2.2.2.1) ∧ w.cell? ⟨(ad.add (i * 5)).block, (ad.add (i * 5)).off + 4, none⟩ = some (.string (xs.getD i zMet).2.2.2.2) := by
  obtain ⟨ad, cs, e, hk, _, hc⟩ := Rd.at_ h zMet i hi
  have hcs := kMet_K hk
  subst hcs
  refine ⟨ad, e, hc 0 _ rfl, ?_, ?_, ?_, ?_⟩
  · rw [← add_field ad (i * 5) 1 (by decide)]; exact hc 1 _ rfl
  · rw [← add_field ad (i * 5) 2 (by decide)]; exact hc 2 _ rfl
  · rw [← add_field ad (i * 5) 3 (by decide)]; exact hc 3 _ rfl
  · rw [← add_field ad (i * 5) 4 (by decide)]; exact hc 4 _ rfl
abbrev mbv (x : Met) : Value := .agg #[.int .i64 x.1, .int .i64 x.2.1, .int .i64 x.2.2.1, .string x.2.2.2.1, .string x.2.2.2.2]
abbrev mbo (x : Met) : Obj := .cells #[.int .i64 x.1, .int .i64 x.2.1, .int .i64 x.2.2.1, .string x.2.2.2.1, .string x.2.2.2.2] 55
/-- one that lies in a variable -/
def Mb (w : World) (g : Nat) (c : Met) : Prop := w.heap[g]? = some (.cells #[.int .i64 c.1, .int .i64 c.2.1, .int .i64 c.2.2.1, .string c.2.2.2.1, .string c.2.2.2.2] 55 (0, 0))
theorem Mb.new (w : World) (c : Met) : Mb (w.alloc (mbo c)) w.heap.size c := heap_alloc_new w _
theorem Mb.read {w : World} {g : Nat} {c : Met} (h : Mb w g c) : w.cell? ⟨g, 0, none⟩ = some (.int .i64 c.1) ∧ w.cell? ⟨g, 1, none⟩ = some (.int .i64 c.2.1) ∧ w.cell? ⟨g, 2, none⟩ = some (.int .i64 c.2.2.1) ∧ w.cell? ⟨g, 3, none⟩ = some (.string c.2.2.2.1) ∧ w.cell? ⟨g, 4, none⟩ = some (.string c.2.2.2.2) :=
  ⟨blk_cell h 0, blk_cell h 1, blk_cell h 2, blk_cell h 3, blk_cell h 4⟩
theorem Mb.lt {w : World} {g : Nat} {c : Met} (h : Mb w g c) : g < w.heap.size := blk_lt h
theorem Mb.below {w w1 : World} {g : Nat} {c : Met} (h : Mb w g c) (hb : Below w.heap.size w w1) : Mb w1 g c := blk_below h hb
theorem Mb.grown {w w1 : World} {g : Nat} {c : Met} (h : Mb w g c) {row : Option Nat} (hg : w.grownBy w1 row) (hne : some g ≠ row) : Mb w1 g c := blk_grown h hg hne
theorem stq {X Y Z : World} (h : Below X.heap.size X Y) (k : Below Y.heap.size Y Z) : Below X.heap.size X Z := h.trans (k.mono h.size)
section
variable {ops : Array Oper} {rest : List Oper} {o : Oper} {a : Act} {Q : Exit → Act → World → Prop} {K : Act → World → Prop}
theorem app_met {w0 W : World} (base : Nat) (hgd : o.guard = none) (s x : Operand)
    (ho : o.op = .call { callee := .builtin .append, args := #[s, x], argTypes := #[32, 32] })
    (v : Value) (xs : List Met) (c : Met) (hs : a.eval s = v) (hx : a.eval x = .slice (some ⟨W.heap.size, 0, none⟩) 1 1)
    (HO : OwM W base v xs) (HB : Below base w0 W) (hbase : base ≤ W.heap.size) (hl : (xs.length + 1) * 56 ≤ 140737488355328)
    (h : ∀ v1 w1, OwM w1 base v1 (xs ++ [c]) → Below base w0 w1 → W.grownBy w1 v.ownBlock → (v1.ownBlock = v.ownBlock ∨ ∃ b, v1.ownBlock = some b ∧ W.heap.size ≤ b) → wpList Try.prog ops Q rest (a.put o.dst v1) w1) :
    wpList Try.prog ops Q (o :: rest) a (W.alloc (mbo c)) :=
  app_ow kMet base hgd s x 32 55 _ 56 ho Try.underlying32 info_met rfl (by decide) (by decide) v xs c [.int .i64 c.1, .int .i64 c.2.1, .int .i64 c.2.2.1, .string c.2.2.2.1, .string c.2.2.2.2] hs hx (kMet_M _ _ _ _) HO HB hbase hl h
theorem app_mets {w0 W : World} (base : Nat) (hgd : o.guard = none) (s x : Operand)
    (ho : o.op = .call { callee := .builtin .append, args := #[s, x], argTypes := #[32, 32] })
    (v : Value) (xs ys : List Met) (A : Option Addr) (c : Nat) (hs : a.eval s = v) (hx : a.eval x = .slice A ys.length c)
    (HO : OwM W base v xs) (HR : RdM W A c ys) (HB : Below base w0 W) (hbase : base ≤ W.heap.size) (hl : (xs.length + ys.length) * 56 ≤ 140737488355328)
    (h : ∀ v1 w1, OwM w1 base v1 (xs ++ ys) → Below base w0 w1 → W.grownBy w1 v.ownBlock → (v1.ownBlock = v.ownBlock ∨ ∃ b, v1.ownBlock = some b ∧ W.heap.size ≤ b) → wpList Try.prog ops Q rest (a.put o.dst v1) w1) :
    wpList Try.prog ops Q (o :: rest) a W :=
  app_ows kMet base hgd s x 32 55 _ 56 ho Try.underlying32 info_met rfl (by decide) (by decide) v xs ys A c hs hx (fun _ _ h => kMet_KM h) HO HR HB hbase hl h
end
end Go.Proofs.Ytbhhnlgpbhbcmaa
end

section
/- Tables' data: may one be, which comes first. -/
namespace Go.Proofs.Ytbhhnlgpbhbcmaa
open Go.RowKit Go.Proofs.YtbhhnlgpbhbcmaaW.PrintWords
set_option linter.unusedVariables false

def wI (n lo hi : Int) : Bool := decide (lo ≤ n) && decide (n ≤ hi)
def keyM (s : ByteArray) : Bool := !decide (bl s = []) && decide (s.size ≤ 96)
def leB (s t : ByteArray) : Bool := !decide (bl t < bl s)
def mayM (x : Met) : Bool := wI x.1 1 2147483647 && wI x.2.1 0 3 && wI x.2.2.1 1 4096 && keyM x.2.2.2.1 && keyM x.2.2.2.2 && leB x.2.2.2.1 x.2.2.2.2
theorem within_any (n lo hi : Int) (w : World) : Calls Try.prog 46 #[.int .i64 n, .int .i64 lo, .int .i64 hi] w fun e w' => e = .returned (.bool (wI n lo hi)) ∧ w = w' := by
  rw [wI]
  by_cases h1 : lo ≤ n
  · by_cases h2 : n ≤ hi
    · rw [decide_eq_true h1, decide_eq_true h2]
      go_enter Try.func46, Try.ntmps46
      go_wp2
      go_ret
      exact ⟨rfl, rfl⟩
    · rw [decide_eq_true h1, decide_eq_false h2]
      have h3 : hi < n := Int.not_le.1 h2
      go_enter Try.func46, Try.ntmps46
      go_wp2
      go_ret
      exact ⟨rfl, rfl⟩
  · rw [decide_eq_false h1]
    have h3 : n < lo := Int.not_le.1 h1
    go_enter Try.func46, Try.ntmps46
    go_wp2
    go_ret
    exact ⟨rfl, rfl⟩
theorem key_any (s : ByteArray) (w : World) : Calls Try.prog 54 #[.string s] w fun e w' => e = .returned (.bool (keyM s)) ∧ w = w' := by
  have hd : bl s = s.toList := (Lib.toList_data s).symm
  rw [keyM]
  by_cases l3 : s.toList = []
  · rw [decide_eq_true (hd.trans l3)]
    go_enter Try.func54, Try.ntmps54
    go_wp2
    go_ret
    exact ⟨rfl, rfl⟩
  · have l4 : s.toList.isEmpty = false := by simpa using l3
    rw [decide_eq_false (fun h => l3 (hd.symm.trans h))]
    by_cases h5 : s.size ≤ 96
    · have h6 : (s.size : Int) ≤ 96 := by omega
      rw [decide_eq_true h5]
      go_enter Try.func54, Try.ntmps54
      go_wp2
      go_ret
      exact ⟨rfl, rfl⟩
    · have h6 : ¬ (s.size : Int) ≤ 96 := by omega
      have h7 : ¬ s.size ≤ 96 := h5
      have h8 : 96 < s.size := by omega
      have h9 : (96 : Int) < (s.size : Int) := by omega
      rw [decide_eq_false h5]
      go_enter Try.func54, Try.ntmps54
      go_wp2
      go_ret
      exact ⟨rfl, rfl⟩
set_option maxRecDepth 100000 in
set_option maxHeartbeats 1600000 in
theorem may_any (x : Met) (w : World) : Calls Try.prog 47 #[mbv x] w fun e w' => e = .returned (.bool (mayM x)) ∧ Below w.heap.size w w' := by
  obtain ⟨id, lev, cnt, lo, hi⟩ := x
  have hX := Mb.new w (id, lev, cnt, lo, hi)
  have bX := below_alloc w (mbo (id, lev, cnt, lo, hi))
  obtain ⟨x0, x1, x2, x3, x4⟩ := hX.read
  have hW1 := fun W => within_any id 1 2147483647 W
  have hW2 := fun W => within_any lev 0 3 W
  have hW3 := fun W => within_any cnt 1 4096 W
  have hK1 := fun W => key_any lo W
  have hK2 := fun W => key_any hi W
  have l1 := less_bl lo hi
  have l2 := same_bl lo hi
  rw [mayM]
  clear hX
  generalize wI id 1 2147483647 = b1 at *
  cases b1
  · clear l1 l2
    go_enter Try.func47, Try.ntmps47
    go_wp2_with (first | (go_at_call 46; (first | (with_reducible refine (hW1 _).mono ?_) | (with_reducible refine (hW2 _).mono ?_) | (with_reducible refine (hW3 _).mono ?_)); rintro e w' ⟨rfl, rfl⟩) | (go_at_call 54; (first | (with_reducible refine (hK1 _).mono ?_) | (with_reducible refine (hK2 _).mono ?_)); rintro e w' ⟨rfl, rfl⟩))
    go_ret
    exact ⟨by first | rfl | simp, bX⟩
  · generalize wI lev 0 3 = b2 at *
    cases b2
    · clear l1 l2
      go_enter Try.func47, Try.ntmps47
      go_wp2_with (first | (go_at_call 46; (first | (with_reducible refine (hW1 _).mono ?_) | (with_reducible refine (hW2 _).mono ?_) | (with_reducible refine (hW3 _).mono ?_)); rintro e w' ⟨rfl, rfl⟩) | (go_at_call 54; (first | (with_reducible refine (hK1 _).mono ?_) | (with_reducible refine (hK2 _).mono ?_)); rintro e w' ⟨rfl, rfl⟩))
      go_ret
      exact ⟨by first | rfl | simp, bX⟩
    · generalize wI cnt 1 4096 = b3 at *
      cases b3
      · clear l1 l2
        go_enter Try.func47, Try.ntmps47
        go_wp2_with (first | (go_at_call 46; (first | (with_reducible refine (hW1 _).mono ?_) | (with_reducible refine (hW2 _).mono ?_) | (with_reducible refine (hW3 _).mono ?_)); rintro e w' ⟨rfl, rfl⟩) | (go_at_call 54; (first | (with_reducible refine (hK1 _).mono ?_) | (with_reducible refine (hK2 _).mono ?_)); rintro e w' ⟨rfl, rfl⟩))
        go_ret
        exact ⟨by first | rfl | simp, bX⟩
      · generalize keyM lo = b4 at *
        cases b4
        · clear l1 l2
          go_enter Try.func47, Try.ntmps47
          go_wp2_with (first | (go_at_call 46; (first | (with_reducible refine (hW1 _).mono ?_) | (with_reducible refine (hW2 _).mono ?_) | (with_reducible refine (hW3 _).mono ?_)); rintro e w' ⟨rfl, rfl⟩) | (go_at_call 54; (first | (with_reducible refine (hK1 _).mono ?_) | (with_reducible refine (hK2 _).mono ?_)); rintro e w' ⟨rfl, rfl⟩))
          go_ret
          exact ⟨by first | rfl | simp, bX⟩
        · generalize keyM hi = b5 at *
          cases b5
          · clear l1 l2
            go_enter Try.func47, Try.ntmps47
            go_wp2_with (first | (go_at_call 46; (first | (with_reducible refine (hW1 _).mono ?_) | (with_reducible refine (hW2 _).mono ?_) | (with_reducible refine (hW3 _).mono ?_)); rintro e w' ⟨rfl, rfl⟩) | (go_at_call 54; (first | (with_reducible refine (hK1 _).mono ?_) | (with_reducible refine (hK2 _).mono ?_)); rintro e w' ⟨rfl, rfl⟩))
            go_ret
            exact ⟨by first | rfl | simp, bX⟩
          · rcases lt_tri (bl lo) (bl hi) with h | h | h
            · rw [decide_eq_true h] at l1
              rw [show leB lo hi = true by rw [leB, decide_eq_false (lt_as h)]; rfl]
              clear l2 h
              go_enter Try.func47, Try.ntmps47
              go_wp2_with (first | (go_at_call 46; (first | (with_reducible refine (hW1 _).mono ?_) | (with_reducible refine (hW2 _).mono ?_) | (with_reducible refine (hW3 _).mono ?_)); rintro e w' ⟨rfl, rfl⟩) | (go_at_call 54; (first | (with_reducible refine (hK1 _).mono ?_) | (with_reducible refine (hK2 _).mono ?_)); rintro e w' ⟨rfl, rfl⟩))
              go_ret
              exact ⟨by first | rfl | simp, bX⟩
            · rw [decide_eq_false (by rw [h]; exact lt_ir _)] at l1
              rw [decide_eq_true h] at l2
              rw [show leB lo hi = true by rw [leB, h, decide_eq_false (lt_ir _)]; rfl]
              clear h
              go_enter Try.func47, Try.ntmps47
              go_wp2_with (first | (go_at_call 46; (first | (with_reducible refine (hW1 _).mono ?_) | (with_reducible refine (hW2 _).mono ?_) | (with_reducible refine (hW3 _).mono ?_)); rintro e w' ⟨rfl, rfl⟩) | (go_at_call 54; (first | (with_reducible refine (hK1 _).mono ?_) | (with_reducible refine (hK2 _).mono ?_)); rintro e w' ⟨rfl, rfl⟩))
              go_ret
              exact ⟨by first | rfl | simp, bX⟩
            · rw [decide_eq_false (lt_as h)] at l1
              rw [decide_eq_false (fun e => by rw [e] at h; exact lt_ir _ h)] at l2
              rw [show leB lo hi = false by rw [leB, decide_eq_true h]; rfl]
              clear h
              go_enter Try.func47, Try.ntmps47
              go_wp2_with (first | (go_at_call 46; (first | (with_reducible refine (hW1 _).mono ?_) | (with_reducible refine (hW2 _).mono ?_) | (with_reducible refine (hW3 _).mono ?_)); rintro e w' ⟨rfl, rfl⟩) | (go_at_call 54; (first | (with_reducible refine (hK1 _).mono ?_) | (with_reducible refine (hK2 _).mono ?_)); rintro e w' ⟨rfl, rfl⟩))
              go_ret
              exact ⟨by first | rfl | simp, bX⟩
end Go.Proofs.Ytbhhnlgpbhbcmaa
end

section
/- Tables' data: the order. -/
namespace Go.Proofs.Ytbhhnlgpbhbcmaa
open Go.RowKit Go.Proofs.YtbhhnlgpbhbcmaaW.PrintWords
set_option linter.unusedVariables false

def befM (x y : Met) : Prop := x.2.1 < y.2.1 ∨ (x.2.1 = y.2.1 ∧ ((x.2.1 = 0 ∧ y.1 < x.1) ∨ (x.2.1 ≠ 0 ∧ bl x.2.2.2.1 < bl y.2.2.2.1)))
instance (x y : Met) : Decidable (befM x y) := by unfold befM; infer_instance
def ordM (x y : Met) : Int := if Lib.compareInt x.2.1 y.2.1 ≠ 0 then Lib.compareInt x.2.1 y.2.1 else if x.2.1 = 0 then Lib.compareInt y.1 x.1 else cmpS x.2.2.2.1 y.2.2.2.1
theorem cmpI_lt {a b : Int} (h : a < b) : Lib.compareInt a b = -1 := by simp [Lib.compareInt, h]
theorem cmpI_eq (a : Int) : Lib.compareInt a a = 0 := by simp [Lib.compareInt]
theorem cmpI_gt {a b : Int} (h : b < a) : Lib.compareInt a b = 1 := by
  have h1 : ¬ a < b := by omega
  simp [Lib.compareInt, h1, h]
theorem cmpI_neg (a b : Int) : decide (Lib.compareInt a b < 0) = decide (a < b) := by
  rcases Int.lt_trichotomy a b with h | h | h
  · rw [cmpI_lt h, decide_eq_true h]; rfl
  · rw [h, cmpI_eq]; exact (decide_eq_false (Int.lt_irrefl _)).symm
  · rw [cmpI_gt h]; exact (decide_eq_false (by omega)).symm
theorem cmpS_neg (a b : ByteArray) : decide (cmpS a b < 0) = decide (bl a < bl b) := by
  rw [cmpS]
  by_cases h : bl a < bl b
  · rw [if_pos h, decide_eq_true h]; rfl
  · rw [if_neg h, decide_eq_false h]
    split <;> rfl
theorem ordM_neg (x y : Met) : decide (ordM x y < 0) = decide (befM x y) := by
  rw [ordM]
  rcases Int.lt_trichotomy x.2.1 y.2.1 with h | h | h
  · rw [cmpI_lt h, if_pos (by decide), decide_eq_true (show befM x y from .inl h)]; rfl
  · rw [h, cmpI_eq, if_neg (by decide)]
    by_cases h0 : y.2.1 = 0
    · rw [if_pos h0, cmpI_neg]
      refine decide_eq_decide.2 ⟨fun h1 => .inr ⟨h, .inl ⟨h.trans h0, h1⟩⟩, fun h1 => ?_⟩
      rcases h1 with h1 | ⟨_, ⟨_, h1⟩ | ⟨h1, _⟩⟩
      · omega
      · exact h1
      · exact absurd (h.trans h0) h1
    · rw [if_neg h0, cmpS_neg]
      refine decide_eq_decide.2 ⟨fun h1 => .inr ⟨h, .inr ⟨by rw [h]; exact h0, h1⟩⟩, fun h1 => ?_⟩
      rcases h1 with h1 | ⟨_, ⟨h1, _⟩ | ⟨_, h1⟩⟩
      · omega
      · exact absurd (h.symm.trans h1) h0
      · exact h1
  · rw [cmpI_gt h, if_pos (by decide)]
    exact (decide_eq_false (by rintro (h1 | ⟨h1, _⟩) <;> omega)).symm
set_option maxRecDepth 100000 in
set_option maxHeartbeats 1600000 in
theorem order_any (x y : Met) (w : World) : Calls Try.prog 48 #[mbv x, mbv y] w fun e w' => e = .returned (.int .i64 (ordM x y)) ∧ Below w.heap.size w w' := by
  obtain ⟨i1, v1, c1, lo1, hi1⟩ := x
  obtain ⟨i2, v2, c2, lo2, hi2⟩ := y
  have hX := Mb.new w (i1, v1, c1, lo1, hi1)
  have bY := below_alloc (w.alloc (mbo (i1, v1, c1, lo1, hi1))) (mbo (i2, v2, c2, lo2, hi2))
  have hX2 := hX.below bY
  have hY := Mb.new (w.alloc (mbo (i1, v1, c1, lo1, hi1))) (i2, v2, c2, lo2, hi2)
  have HB := stq (below_alloc w (mbo (i1, v1, c1, lo1, hi1))) bY
  have hs1 : (w.alloc (mbo (i1, v1, c1, lo1, hi1))).heap.size = w.heap.size + 1 := World.size_alloc _ _
  obtain ⟨x0, x1, x2, x3, x4⟩ := hX2.read
  obtain ⟨y0, y1, y2, y3, y4⟩ := hY.read
  rw [hs1] at y0 y1 y2 y3 y4
  have hC1 := fun W => cmp_Compare_int v1 v2 W
  have hC2 := fun W => cmp_Compare_int i2 i1 W
  have hC3 := fun W => cmpS_any lo1 lo2 W
  have hO : ordM (i1, v1, c1, lo1, hi1) (i2, v2, c2, lo2, hi2) = if Lib.compareInt v1 v2 ≠ 0 then Lib.compareInt v1 v2 else if v1 = 0 then Lib.compareInt i2 i1 else cmpS lo1 lo2 := rfl
  rw [hO]
  clear hX hY hX2 hO bY hs1
  generalize Lib.compareInt v1 v2 = p at *
  generalize Lib.compareInt i2 i1 = q at *
  generalize cmpS lo1 lo2 = r at *
  by_cases hp : p = 0
  · subst hp
    rw [if_neg (by decide)]
    by_cases h0 : v1 = 0
    · subst h0
      rw [if_pos rfl]
      go_enter Try.func48, Try.ntmps48
      go_wp2_with (first | (go_at_call 25; (first | (with_reducible refine (hC1 _).mono ?_) | (with_reducible refine (hC2 _).mono ?_)); rintro e w' ⟨rfl, rfl⟩) | (go_at_call 55; (with_reducible refine (hC3 _).mono ?_); rintro e w' ⟨rfl, rfl⟩))
      go_ret
      exact ⟨rfl, HB⟩
    · rw [if_neg h0]
      have h0b : (v1 == 0) = false := beq_eq_false_iff_ne.2 h0
      go_enter Try.func48, Try.ntmps48
      go_wp2_with (first | (go_at_call 25; (first | (with_reducible refine (hC1 _).mono ?_) | (with_reducible refine (hC2 _).mono ?_)); rintro e w' ⟨rfl, rfl⟩) | (go_at_call 55; (with_reducible refine (hC3 _).mono ?_); rintro e w' ⟨rfl, rfl⟩))
      go_ret
      exact ⟨rfl, HB⟩
  · rw [if_pos hp]
    have h0b : (p == 0) = false := beq_eq_false_iff_ne.2 hp
    go_enter Try.func48, Try.ntmps48
    go_wp2_with (first | (go_at_call 25; (first | (with_reducible refine (hC1 _).mono ?_) | (with_reducible refine (hC2 _).mono ?_)); rintro e w' ⟨rfl, rfl⟩) | (go_at_call 55; (with_reducible refine (hC3 _).mono ?_); rintro e w' ⟨rfl, rfl⟩))
    go_ret
    exact ⟨rfl, HB⟩
end Go.Proofs.Ytbhhnlgpbhbcmaa
end

section
/- A set of numbers in a map of the call's own. -/
namespace Go.Proofs.Ytbhhnlgpbhbcmaa
open Go.RowKit Go.Maps Go.Proofs.YtbhhnlgpbhbcmaaW.PrintWords
set_option linter.unusedVariables false

/-- a number that fits -/
def fitI (x : Int) : Prop := (Lit.int .i64 x).wf = true
/-- block b is a map whose numbers with 'true' are those of S -/
def SeenM (w : World) (b n : Nat) (S : Int → Bool) : Prop := ∃ D : DataW Unit, w.ownsMap Try.prog 3 (plainElem Try.prog 4) b n D ∧ IsMap D ∧ ∀ x : Int, fitI x → D.atKey (.int .i64 x) (.lit (.bool false)) = .lit (.bool (S x))
theorem SeenM.made (w : World) : SeenM (w.alloc (.map #[] 0)) w.heap.size 0 (fun _ => false) :=
  ⟨.map [], World.ownsMap_made w _ _ _, ⟨[], rfl⟩, fun x _ => rfl⟩
theorem SeenM.lt {w : World} {b n : Nat} {S : Int → Bool} (h : SeenM w b n S) : b < w.heap.size := by
  obtain ⟨D, h1, _⟩ := h
  exact h1.lt
theorem SeenM.block {w w1 : World} {b n : Nat} {S : Int → Bool} (h : SeenM w b n S) (hb : w1.heap[b]? = w.heap[b]?) : SeenM w1 b n S := by
  obtain ⟨D, ⟨es, cl, h1, h2⟩, h3⟩ := h
  exact ⟨D, ⟨es, cl, hb.trans h1, h2⟩, h3⟩
theorem SeenM.below {w w1 : World} {b n : Nat} {S : Int → Bool} (h : SeenM w b n S) (hb : Below w.heap.size w w1) : SeenM w1 b n S := h.block (hb.block b h.lt)
theorem SeenM.look {w : World} {b n : Nat} {S : Int → Bool} (h : SeenM w b n S) (x : Int) (hx : fitI x) : (Instr.lookup 82 (.map (some b)) (.int .i64 x) false).run Try.prog w = .ok (.bool (S x)) w := by
  obtain ⟨D, h1, _, h3⟩ := h
  have hz : (zeroValue 4).run Try.prog w = .ok (.bool false) w := by kernel_rfl
  obtain ⟨v, ps, hrun, hv⟩ := h1.lookup (int_keyed Try.underlying3) Try.underlying82 hz (plainElem_bool Try.underlying4 false) (keyOf_int_mk Try.underlying3 hx)
  rw [h3 x hx] at hv
  unfold plainElem at hv
  rw [Try.underlying4] at hv
  cases v <;> simp at hv
  obtain ⟨rfl, _⟩ := hv
  exact hrun
theorem IsMap.put {D : DataW Unit} (h : IsMap D) (k : Lit) (d : DataW Unit) : IsMap (D.put k d) := by
  obtain ⟨es, rfl⟩ := h
  exact ⟨_, rfl⟩
theorem isKey_int (x : Int) : WideAt.IsKeyLit (.int .i64 x) := by
  first | exact .int _ _ | exact rfl | trivial | decide | simp [WideAt.IsKeyLit]
theorem SeenM.store {w : World} {ops : Array Oper} {rest : List Oper} {o : Oper} {a : Act} {Q : Exit → Act → World → Prop} {b n : Nat} {S : Int → Bool} (h : SeenM w b n S) (hg : o.guard = none) (m x v : Operand) (hop : o.op = Op.mapUpdate 82 m x v)
    (hm : a.eval m = .map (some b)) (z : Int) (hz : fitI z) (hx : a.eval x = .int .i64 z) (hv : a.eval v = .bool true) (hn : n < maxLen)
    (hK : ∀ w', SeenM w' b (n + 1) (fun y => decide (y = z) || S y) → w.grownBy w' (some b) → wpList Try.prog ops Q rest (a.put o.dst undef) w') : wpList Try.prog ops Q (o :: rest) a w := by
  obtain ⟨D, h1, h2, h3⟩ := h
  refine wpList_mapUpdate_own w hg m x v 82 hop 3 4 (int_keyed Try.underlying3) Try.underlying82 _ b n D hm h1 hn _ _ (.int .i64 z) hx hv (keyOf_int_mk Try.underlying3 hz) (.lit (.bool true)) [] (plainElem_bool Try.underlying4 true) ?_
  intro w' r1 r2
  refine hK w' ⟨_, r1, h2.put _ _, fun y hy => ?_⟩ r2
  by_cases e : y = z
  · subst e
    rw [atKey_put_same h2 (isKey_int y)]
    simp
  · rw [atKey_put_other (fun h => e (by injection h)), h3 y hy]
    simp [e]
end Go.Proofs.Ytbhhnlgpbhbcmaa
end

section
/- Tables' data: Check, walked. -/
namespace Go.Proofs.Ytbhhnlgpbhbcmaa
open Go.RowKit Go.Maps Go.Proofs.YtbhhnlgpbhbcmaaW.PrintWords
set_option linter.unusedVariables false

def seenB (l : List Met) : Nat → Int → Bool
  | 0, _ => false
  | k + 1, x => decide (x = (l.getD k zMet).1) || seenB l k x
def nextM (x y : Met) : Bool := decide (befM x y) && (decide (y.2.1 = 0) || (decide (¬ y.2.1 = x.2.1) || decide (bl x.2.2.2.2 < bl y.2.2.2.1)))
def goodM (nx : Int) (l : List Met) (k : Nat) : Bool := mayM (l.getD k zMet) && (decide ((l.getD k zMet).1 < nx) && (!seenB l k (l.getD k zMet).1 && (decide (k = 0) || nextM (l.getD (k - 1) zMet) (l.getD k zMet))))
def okM (nx : Int) (l : List Met) (ok0 : Bool) : Nat → Bool
  | 0 => ok0
  | k + 1 => okM nx l ok0 k && goodM nx l k
def vokM (n : Nat) (seq nx : Int) : Bool := decide (n ≤ 256) && (wI nx 1 2147483647 && wI seq 0 1099511627776)
def chkM (l : List Met) (seq nx : Int) : Int := if okM nx l (vokM l.length seq nx) l.length = true then 0 else 9
theorem okM_false (nx : Int) (l : List Met) (k : Nat) : okM nx l false k = false := by
  induction k with
  | zero => rfl
  | succ k ih => rw [okM, ih]; rfl
theorem chk_bad (l : List Met) (seq nx : Int) (h : vokM l.length seq nx = false) : chkM l seq nx = 9 := by rw [chkM, h, okM_false]; rfl
theorem idx_m (n k : Nat) (h : k < n) : n - (intOf (.int .i64 ((k + 1 : Nat) : Int))).toNat < n - (intOf (.int .i64 (k : Int))).toNat := by
  show n - (k + 1) < n - k
  omega
theorem idx_m2 (n k : Nat) (h : k < n) : n - (intOf (.int .i64 ((k : Int) + 1))).toNat < n - (intOf (.int .i64 (k : Int))).toNat := by
  show n - (k + 1) < n - k
  omega
theorem idx_m3 (n k : Nat) (h : k < n) (hw : wrap64 ((k : Int) + 1) = ((k + 1 : Nat) : Int)) : n - (intOf (.int .i64 (wrap64 ((k : Int) + 1)))).toNat < n - (intOf (.int .i64 (k : Int))).toNat := by
  rw [hw]; exact idx_m n k h
theorem idx_w (n k : Nat) (h : k < n) (hn : n ≤ 140737488351232) : wrap64 ((k : Int) + 1) = ((k + 1 : Nat) : Int) ∧ IntKind.i64.wrap ((k : Int) + 1) = ((k + 1 : Nat) : Int) := ⟨by unfold wrap64; omega, by rw [IntKind.wrap_i64]; omega⟩
theorem pred_w (k n : Nat) (h0 : 0 < k) (h : k < n) (hn : n ≤ 140737488351232) : ∃ p : Nat, k - 1 = p ∧ wrap64 ((k : Int) - 1) = (p : Int) ∧ IntKind.i64.wrap ((k : Int) - 1) = (p : Int) ∧ (p : Int) < (n : Int) ∧ p < n := by
  refine ⟨k - 1, rfl, ?_, ?_, by omega, by omega⟩
  · unfold wrap64; omega
  · rw [IntKind.wrap_i64]; omega
theorem fit_at (l : List Met) (hf : ∀ x ∈ l, fitI x.1) (k : Nat) (hk : k < l.length) : fitI (l.getD k zMet).1 := by
  rw [List.getD_eq_getElem?_getD, List.getElem?_eq_getElem hk]
  exact hf _ (List.getElem_mem hk)
/-- the version in its variable -/
def Tb (W : World) (g : Nat) (A : Option Addr) (n c : Nat) (seq nx : Int) : Prop := W.heap[g]? = some (.cells #[.slice A n c, .int .i64 seq, .int .i64 nx] 34 (0, 0))
theorem Tb.read {W : World} {g : Nat} {A : Option Addr} {n c : Nat} {seq nx : Int} (h : Tb W g A n c seq nx) : W.cell? ⟨g, 0, none⟩ = some (.slice A n c) ∧ W.cell? ⟨g, 1, none⟩ = some (.int .i64 seq) ∧ W.cell? ⟨g, 2, none⟩ = some (.int .i64 nx) := ⟨blk_cell h 0, blk_cell h 1, blk_cell h 2⟩
theorem Tb.below {W W' : World} {g : Nat} {A : Option Addr} {n c : Nat} {seq nx : Int} (h : Tb W g A n c seq nx) (hb : Below W.heap.size W W') : Tb W' g A n c seq nx := blk_below h hb
theorem Tb.grown {W W' : World} {g b : Nat} {A : Option Addr} {n c : Nat} {seq nx : Int} (h : Tb W g A n c seq nx) (hg : W.grownBy W' (some b)) (hne : g ≠ b) : Tb W' g A n c seq nx := blk_grown h hg (fun e => hne (by injection e))
set_option maxRecDepth 100000 in
set_option maxHeartbeats 6400000 in
theorem check_any (A : Option Addr) (c n : Nat) (seq nx : Int) (l : List Met) (w : World) (hn : l.length = n) (hr : RdM w A c l) (hf : ∀ x ∈ l, fitI x.1) (hl : n ≤ 140737488351232) :
    Calls Try.prog 33 #[.agg #[.slice A n c, .int .i64 seq, .int .i64 nx]] w fun e w' => e = .returned (.int .i64 (chkM l seq nx)) ∧ Below w.heap.size w w' := by
  have HN := hide hn
  have hFT := fun k (hk : k < n) => fit_at l hf k (by rw [hn]; exact hk)
  have T0 : Tb (w.alloc (.cells #[.slice A n c, .int .i64 seq, .int .i64 nx] 34)) w.heap.size A n c seq nx := heap_alloc_new w _
  have b0 := below_alloc w (.cells #[.slice A n c, .int .i64 seq, .int .i64 nx] 34)
  have s0 : (w.alloc (.cells #[.slice A n c, .int .i64 seq, .int .i64 nx] 34)).heap.size = w.heap.size + 1 := World.size_alloc _ _
  have SM := SeenM.made (w.alloc (.cells #[.slice A n c, .int .i64 seq, .int .i64 nx] 34))
  have bM := below_alloc (w.alloc (.cells #[.slice A n c, .int .i64 seq, .int .i64 nx] 34)) (.map #[] 0)
  have TM := T0.below bM
  have BM := stq b0 bM
  rw [s0] at SM
  obtain ⟨t0, t1, t2⟩ := T0.read
  obtain ⟨tm0, tm1, tm2⟩ := TM.read
  have hmm := @run_makeMap Try.prog
  have hW1 := fun W => within_any nx 1 2147483647 W
  have hW2 := fun W => within_any seq 0 1099511627776 W
  have HCB := hide (chk_bad l seq nx)
  have HCH : Hid (chkM l seq nx = if okM nx l (vokM l.length seq nx) l.length = true then 0 else 9) := hide rfl
  have HVK : Hid (vokM n seq nx = (decide (n ≤ 256) && (wI nx 1 2147483647 && wI seq 0 1099511627776))) := hide rfl
  obtain ⟨z, hz⟩ : ∃ z, chkM l seq nx = z := ⟨_, rfl⟩
  rw [hz]
  have HZ := hide hz
  clear hz hn hf b0 bM T0
  by_cases hn2 : n ≤ 256
  · have hn2i : (n : Int) ≤ 256 := by omega
    rw [decide_eq_true hn2] at HVK
    obtain ⟨c1, hc1⟩ : ∃ b, wI nx 1 2147483647 = b := ⟨_, rfl⟩
    obtain ⟨c2, hc2⟩ : ∃ b, wI seq 0 1099511627776 = b := ⟨_, rfl⟩
    rw [hc1] at HVK hW1
    rw [hc2] at HVK hW2
    clear hc1 hc2
    cases c1
    · have VK : vokM n seq nx = false := HVK.out
      have VKH := hide VK
      clear VK
      go_enter Try.func33, Try.ntmps33
      go_wp2_with (first | (go_at_call 46; (first | (with_reducible refine (hW1 _).mono ?_) | (with_reducible refine (hW2 _).mono ?_)); rintro e w' ⟨rfl, rfl⟩))
      go_loopw [3, 26] (fun ov iv wr => ∃ (k : Nat) (okv : Bool), k ≤ n ∧ iv = .int .i64 (k : Int) ∧ ov = .bool okv ∧ okM nx l false k = okv ∧ SeenM wr (w.heap.size + 1) k (seenB l k) ∧ Tb wr w.heap.size A n c seq nx ∧ Below w.heap.size w wr) (fun ov iv _ => n - (intOf iv).toNat)
      case atStart => exact ⟨0, _, Nat.zero_le _, rfl, rfl, rfl, SM, TM, BM⟩
      case round =>
        obtain ⟨k, okv, hk, rfl, rfl, hok, HS, HT, HB⟩ := hrel
        have HOK := hide hok
        clear hok
        by_cases hlt : k < n
        · have hlti : (k : Int) < (n : Int) := Int.ofNat_lt.2 hlt
          obtain ⟨hw1, hw2⟩ := idx_w n k hlt hl
          have hfy := hFT k hlt
          have HSN : Hid (seenB l (k + 1) = fun q => decide (q = (l.getD k zMet).1) || seenB l k q) := hide rfl
          have hnm : k < maxLen := by unfold maxLen; omega
          have hsB := HS.lt
          have hneT : w.heap.size ≠ w.heap.size + 1 := by omega
          obtain ⟨ad, rfl, x0, x1, x2, x3, x4⟩ := RdM.at5 (hr.below HB) k (by rw [HN.out]; exact hlt)
          have HG : Hid (goodM nx l k = (mayM (l.getD k zMet) && (decide ((l.getD k zMet).1 < nx) && (!seenB l k (l.getD k zMet).1 && (decide (k = 0) || nextM (l.getD (k - 1) zMet) (l.getD k zMet)))))) := hide rfl
          obtain ⟨y, hy⟩ : ∃ y, l.getD k zMet = y := ⟨_, rfl⟩
          rw [hy] at x0 x1 x2 x3 x4 hfy HSN HG
          have HY := hide hy
          have hMay := fun W => may_any y W
          obtain ⟨b1, hb1⟩ : ∃ b, mayM y = b := ⟨_, rfl⟩
          obtain ⟨s, hs⟩ : ∃ s, seenB l k y.1 = s := ⟨_, rfl⟩
          rw [hb1] at hMay
          have HB1 := hide hb1
          have HSV := hide hs
          have M1 := Mb.new wr y
          have b1w := below_alloc wr (mbo y)
          have S1 := HS.below b1w
          have T1 := HT.below b1w
          have C1 := stq HB b1w
          have hneB : wr.heap.size ≠ w.heap.size + 1 := fun e => by rw [← e] at hsB; exact absurd hsB (Nat.lt_irrefl _)
          obtain ⟨m10, m11, m12, m13, m14⟩ := M1.read
          obtain ⟨t10, t11, t12⟩ := T1.read
          obtain ⟨tr0, tr1, tr2⟩ := HT.read
          clear hy hb1 hs hFT HS HT HB
          cases okv
          case true => exact absurd (HOK.out.symm.trans (okM_false nx l k)) (by decide)
          by_cases hk0 : k = 0
          · have hkz : ¬ (0 : Int) < (k : Int) := by omega
            have hkz2 : ¬ 0 < k := by omega
            have HOKN : Hid (okM nx l false (k + 1) = false) := hide (by rw [okM, HOK.out, HG.out]; first | rfl | simp)
            clear hk0
            go_wp2_with (first | (at_mapUpdate; refine SeenM.store S1 rfl _ _ _ rfl rfl y.1 hfy rfl rfl hnm ?_; intro w7 S7 G7; have M7 := M1.grown G7 (fun e => hneB (by injection e)); have T7 := T1.grown G7 hneT; have C7 := C1.grown G7 C1.size (fun j hj => by cases hj; exact Nat.le_succ _); have r7 := hr.below C7; obtain ⟨m70, m71, m72, m73, m74⟩ := M7.read; obtain ⟨t70, t71, t72⟩ := T7.read))
            go_roundw
            case rel => exact ⟨k + 1, _, hlt, by go_num, rfl, HOKN.out, by rw [HSN.out]; exact S7, T7, C7⟩
            case measure => first | exact idx_m n k hlt | exact idx_m2 n k hlt | exact idx_m3 n k hlt hw1
          · have hk1 : 0 < k := Nat.pos_of_ne_zero hk0
            have hk1i : (0 : Int) < (k : Int) := by omega
            obtain ⟨p, hp, hp1, hp2, hp3, hp4⟩ := pred_w k n hk1 hlt hl
            obtain ⟨x, hx⟩ : ∃ x, l.getD p zMet = x := ⟨_, rfl⟩
            have HX := hide hx
            rw [hp, hx] at HG
            clear hx hp
            have HOKN : Hid (okM nx l false (k + 1) = false) := hide (by rw [okM, HOK.out, HG.out]; first | rfl | simp)
            go_wp2_with (first | (at_mapUpdate; refine SeenM.store S1 rfl _ _ _ rfl rfl y.1 hfy rfl rfl hnm ?_; intro w7 S7 G7; have M7 := M1.grown G7 (fun e => hneB (by injection e)); have T7 := T1.grown G7 hneT; have C7 := C1.grown G7 C1.size (fun j hj => by cases hj; exact Nat.le_succ _); have r7 := hr.below C7; obtain ⟨m70, m71, m72, m73, m74⟩ := M7.read; obtain ⟨t70, t71, t72⟩ := T7.read; obtain ⟨ad7, had7, p70, p71, p72, p73, p74⟩ := RdM.at5 r7 p (by rw [HN.out]; exact hp4); injection had7 with had7; subst had7; rw [HX.out] at p70 p71 p72 p73 p74; have b8 := below_alloc w7 (mbo x); have M8 := M7.below b8; have X8 := Mb.new w7 x; have S8 := S7.below b8; have T8 := T7.below b8; have C8 := stq C7 b8; obtain ⟨m80, m81, m82, m83, m84⟩ := M8.read; obtain ⟨x80, x81, x82, x83, x84⟩ := X8.read))
            go_roundw
            case rel => exact ⟨k + 1, _, hlt, by go_num, rfl, HOKN.out, by rw [HSN.out]; exact S8, T8, C8⟩
            case measure => first | exact idx_m n k hlt | exact idx_m2 n k hlt | exact idx_m3 n k hlt hw1
        · obtain rfl : k = n := Nat.le_antisymm hk (Nat.not_lt.1 hlt)
          clear hFT hr
          cases okv
          · go_wp2
            go_ret
            exact ⟨by rw [← HZ.out, HCB.out (by rw [HN.out]; exact VKH.out)]; rfl, HB⟩
          · exact absurd (HOK.out.symm.trans (okM_false nx l k)) (by decide)
    · cases c2
      · have VK : vokM n seq nx = false := HVK.out
        have VKH := hide VK
        clear VK
        go_enter Try.func33, Try.ntmps33
        go_wp2_with (first | (go_at_call 46; (first | (with_reducible refine (hW1 _).mono ?_) | (with_reducible refine (hW2 _).mono ?_)); rintro e w' ⟨rfl, rfl⟩))
        go_loopw [3, 26] (fun ov iv wr => ∃ (k : Nat) (okv : Bool), k ≤ n ∧ iv = .int .i64 (k : Int) ∧ ov = .bool okv ∧ okM nx l false k = okv ∧ SeenM wr (w.heap.size + 1) k (seenB l k) ∧ Tb wr w.heap.size A n c seq nx ∧ Below w.heap.size w wr) (fun ov iv _ => n - (intOf iv).toNat)
        case atStart => exact ⟨0, _, Nat.zero_le _, rfl, rfl, rfl, SM, TM, BM⟩
        case round =>
          obtain ⟨k, okv, hk, rfl, rfl, hok, HS, HT, HB⟩ := hrel
          have HOK := hide hok
          clear hok
          by_cases hlt : k < n
          · have hlti : (k : Int) < (n : Int) := Int.ofNat_lt.2 hlt
            obtain ⟨hw1, hw2⟩ := idx_w n k hlt hl
            have hfy := hFT k hlt
            have HSN : Hid (seenB l (k + 1) = fun q => decide (q = (l.getD k zMet).1) || seenB l k q) := hide rfl
            have hnm : k < maxLen := by unfold maxLen; omega
            have hsB := HS.lt
            have hneT : w.heap.size ≠ w.heap.size + 1 := by omega
            obtain ⟨ad, rfl, x0, x1, x2, x3, x4⟩ := RdM.at5 (hr.below HB) k (by rw [HN.out]; exact hlt)
            have HG : Hid (goodM nx l k = (mayM (l.getD k zMet) && (decide ((l.getD k zMet).1 < nx) && (!seenB l k (l.getD k zMet).1 && (decide (k = 0) || nextM (l.getD (k - 1) zMet) (l.getD k zMet)))))) := hide rfl
            obtain ⟨y, hy⟩ : ∃ y, l.getD k zMet = y := ⟨_, rfl⟩
            rw [hy] at x0 x1 x2 x3 x4 hfy HSN HG
            have HY := hide hy
            have hMay := fun W => may_any y W
            obtain ⟨b1, hb1⟩ : ∃ b, mayM y = b := ⟨_, rfl⟩
            obtain ⟨s, hs⟩ : ∃ s, seenB l k y.1 = s := ⟨_, rfl⟩
            rw [hb1] at hMay
            have HB1 := hide hb1
            have HSV := hide hs
            have M1 := Mb.new wr y
            have b1w := below_alloc wr (mbo y)
            have S1 := HS.below b1w
            have T1 := HT.below b1w
            have C1 := stq HB b1w
            have hneB : wr.heap.size ≠ w.heap.size + 1 := fun e => by rw [← e] at hsB; exact absurd hsB (Nat.lt_irrefl _)
            obtain ⟨m10, m11, m12, m13, m14⟩ := M1.read
            obtain ⟨t10, t11, t12⟩ := T1.read
            obtain ⟨tr0, tr1, tr2⟩ := HT.read
            clear hy hb1 hs hFT HS HT HB
            cases okv
            case true => exact absurd (HOK.out.symm.trans (okM_false nx l k)) (by decide)
            by_cases hk0 : k = 0
            · have hkz : ¬ (0 : Int) < (k : Int) := by omega
              have hkz2 : ¬ 0 < k := by omega
              have HOKN : Hid (okM nx l false (k + 1) = false) := hide (by rw [okM, HOK.out, HG.out]; first | rfl | simp)
              clear hk0
              go_wp2_with (first | (at_mapUpdate; refine SeenM.store S1 rfl _ _ _ rfl rfl y.1 hfy rfl rfl hnm ?_; intro w7 S7 G7; have M7 := M1.grown G7 (fun e => hneB (by injection e)); have T7 := T1.grown G7 hneT; have C7 := C1.grown G7 C1.size (fun j hj => by cases hj; exact Nat.le_succ _); have r7 := hr.below C7; obtain ⟨m70, m71, m72, m73, m74⟩ := M7.read; obtain ⟨t70, t71, t72⟩ := T7.read))
              go_roundw
              case rel => exact ⟨k + 1, _, hlt, by go_num, rfl, HOKN.out, by rw [HSN.out]; exact S7, T7, C7⟩
              case measure => first | exact idx_m n k hlt | exact idx_m2 n k hlt | exact idx_m3 n k hlt hw1
            · have hk1 : 0 < k := Nat.pos_of_ne_zero hk0
              have hk1i : (0 : Int) < (k : Int) := by omega
              obtain ⟨p, hp, hp1, hp2, hp3, hp4⟩ := pred_w k n hk1 hlt hl
              obtain ⟨x, hx⟩ : ∃ x, l.getD p zMet = x := ⟨_, rfl⟩
              have HX := hide hx
              rw [hp, hx] at HG
              clear hx hp
              have HOKN : Hid (okM nx l false (k + 1) = false) := hide (by rw [okM, HOK.out, HG.out]; first | rfl | simp)
              go_wp2_with (first | (at_mapUpdate; refine SeenM.store S1 rfl _ _ _ rfl rfl y.1 hfy rfl rfl hnm ?_; intro w7 S7 G7; have M7 := M1.grown G7 (fun e => hneB (by injection e)); have T7 := T1.grown G7 hneT; have C7 := C1.grown G7 C1.size (fun j hj => by cases hj; exact Nat.le_succ _); have r7 := hr.below C7; obtain ⟨m70, m71, m72, m73, m74⟩ := M7.read; obtain ⟨t70, t71, t72⟩ := T7.read; obtain ⟨ad7, had7, p70, p71, p72, p73, p74⟩ := RdM.at5 r7 p (by rw [HN.out]; exact hp4); injection had7 with had7; subst had7; rw [HX.out] at p70 p71 p72 p73 p74; have b8 := below_alloc w7 (mbo x); have M8 := M7.below b8; have X8 := Mb.new w7 x; have S8 := S7.below b8; have T8 := T7.below b8; have C8 := stq C7 b8; obtain ⟨m80, m81, m82, m83, m84⟩ := M8.read; obtain ⟨x80, x81, x82, x83, x84⟩ := X8.read))
              go_roundw
              case rel => exact ⟨k + 1, _, hlt, by go_num, rfl, HOKN.out, by rw [HSN.out]; exact S8, T8, C8⟩
              case measure => first | exact idx_m n k hlt | exact idx_m2 n k hlt | exact idx_m3 n k hlt hw1
          · obtain rfl : k = n := Nat.le_antisymm hk (Nat.not_lt.1 hlt)
            clear hFT hr
            cases okv
            · go_wp2
              go_ret
              exact ⟨by rw [← HZ.out, HCB.out (by rw [HN.out]; exact VKH.out)]; rfl, HB⟩
            · exact absurd (HOK.out.symm.trans (okM_false nx l k)) (by decide)
      · have VK : vokM n seq nx = true := HVK.out
        have VKH := hide VK
        clear VK
        go_enter Try.func33, Try.ntmps33
        go_wp2_with (first | (go_at_call 46; (first | (with_reducible refine (hW1 _).mono ?_) | (with_reducible refine (hW2 _).mono ?_)); rintro e w' ⟨rfl, rfl⟩))
        go_loopw [3, 26] (fun ov iv wr => ∃ (k : Nat) (okv : Bool), k ≤ n ∧ iv = .int .i64 (k : Int) ∧ ov = .bool okv ∧ okM nx l true k = okv ∧ SeenM wr (w.heap.size + 1) k (seenB l k) ∧ Tb wr w.heap.size A n c seq nx ∧ Below w.heap.size w wr) (fun ov iv _ => n - (intOf iv).toNat)
        case atStart => exact ⟨0, _, Nat.zero_le _, rfl, rfl, rfl, SM, TM, BM⟩
        case round =>
          obtain ⟨k, okv, hk, rfl, rfl, hok, HS, HT, HB⟩ := hrel
          have HOK := hide hok
          clear hok
          by_cases hlt : k < n
          · have hlti : (k : Int) < (n : Int) := Int.ofNat_lt.2 hlt
            obtain ⟨hw1, hw2⟩ := idx_w n k hlt hl
            have hfy := hFT k hlt
            have HSN : Hid (seenB l (k + 1) = fun q => decide (q = (l.getD k zMet).1) || seenB l k q) := hide rfl
            have hnm : k < maxLen := by unfold maxLen; omega
            have hsB := HS.lt
            have hneT : w.heap.size ≠ w.heap.size + 1 := by omega
            obtain ⟨ad, rfl, x0, x1, x2, x3, x4⟩ := RdM.at5 (hr.below HB) k (by rw [HN.out]; exact hlt)
            have HG : Hid (goodM nx l k = (mayM (l.getD k zMet) && (decide ((l.getD k zMet).1 < nx) && (!seenB l k (l.getD k zMet).1 && (decide (k = 0) || nextM (l.getD (k - 1) zMet) (l.getD k zMet)))))) := hide rfl
            obtain ⟨y, hy⟩ : ∃ y, l.getD k zMet = y := ⟨_, rfl⟩
            rw [hy] at x0 x1 x2 x3 x4 hfy HSN HG
            have HY := hide hy
            have hMay := fun W => may_any y W
            obtain ⟨b1, hb1⟩ : ∃ b, mayM y = b := ⟨_, rfl⟩
            obtain ⟨s, hs⟩ : ∃ s, seenB l k y.1 = s := ⟨_, rfl⟩
            rw [hb1] at hMay
            have HB1 := hide hb1
            have HSV := hide hs
            have M1 := Mb.new wr y
            have b1w := below_alloc wr (mbo y)
            have S1 := HS.below b1w
            have T1 := HT.below b1w
            have C1 := stq HB b1w
            have hneB : wr.heap.size ≠ w.heap.size + 1 := fun e => by rw [← e] at hsB; exact absurd hsB (Nat.lt_irrefl _)
            obtain ⟨m10, m11, m12, m13, m14⟩ := M1.read
            obtain ⟨t10, t11, t12⟩ := T1.read
            obtain ⟨tr0, tr1, tr2⟩ := HT.read
            clear hy hb1 hs hFT HS HT HB
            cases okv
            · by_cases hk0 : k = 0
              · have hkz : ¬ (0 : Int) < (k : Int) := by omega
                have hkz2 : ¬ 0 < k := by omega
                have HOKN : Hid (okM nx l true (k + 1) = false) := hide (by rw [okM, HOK.out, HG.out]; first | rfl | simp)
                clear hk0
                go_wp2_with (first | (at_mapUpdate; refine SeenM.store S1 rfl _ _ _ rfl rfl y.1 hfy rfl rfl hnm ?_; intro w7 S7 G7; have M7 := M1.grown G7 (fun e => hneB (by injection e)); have T7 := T1.grown G7 hneT; have C7 := C1.grown G7 C1.size (fun j hj => by cases hj; exact Nat.le_succ _); have r7 := hr.below C7; obtain ⟨m70, m71, m72, m73, m74⟩ := M7.read; obtain ⟨t70, t71, t72⟩ := T7.read))
                go_roundw
                case rel => exact ⟨k + 1, _, hlt, by go_num, rfl, HOKN.out, by rw [HSN.out]; exact S7, T7, C7⟩
                case measure => first | exact idx_m n k hlt | exact idx_m2 n k hlt | exact idx_m3 n k hlt hw1
              · have hk1 : 0 < k := Nat.pos_of_ne_zero hk0
                have hk1i : (0 : Int) < (k : Int) := by omega
                obtain ⟨p, hp, hp1, hp2, hp3, hp4⟩ := pred_w k n hk1 hlt hl
                obtain ⟨x, hx⟩ : ∃ x, l.getD p zMet = x := ⟨_, rfl⟩
                have HX := hide hx
                rw [hp, hx] at HG
                clear hx hp
                have HOKN : Hid (okM nx l true (k + 1) = false) := hide (by rw [okM, HOK.out, HG.out]; first | rfl | simp)
                go_wp2_with (first | (at_mapUpdate; refine SeenM.store S1 rfl _ _ _ rfl rfl y.1 hfy rfl rfl hnm ?_; intro w7 S7 G7; have M7 := M1.grown G7 (fun e => hneB (by injection e)); have T7 := T1.grown G7 hneT; have C7 := C1.grown G7 C1.size (fun j hj => by cases hj; exact Nat.le_succ _); have r7 := hr.below C7; obtain ⟨m70, m71, m72, m73, m74⟩ := M7.read; obtain ⟨t70, t71, t72⟩ := T7.read; obtain ⟨ad7, had7, p70, p71, p72, p73, p74⟩ := RdM.at5 r7 p (by rw [HN.out]; exact hp4); injection had7 with had7; subst had7; rw [HX.out] at p70 p71 p72 p73 p74; have b8 := below_alloc w7 (mbo x); have M8 := M7.below b8; have X8 := Mb.new w7 x; have S8 := S7.below b8; have T8 := T7.below b8; have C8 := stq C7 b8; obtain ⟨m80, m81, m82, m83, m84⟩ := M8.read; obtain ⟨x80, x81, x82, x83, x84⟩ := X8.read))
                go_roundw
                case rel => exact ⟨k + 1, _, hlt, by go_num, rfl, HOKN.out, by rw [HSN.out]; exact S8, T8, C8⟩
                case measure => first | exact idx_m n k hlt | exact idx_m2 n k hlt | exact idx_m3 n k hlt hw1
            · cases b1
              · by_cases hk0 : k = 0
                · have hkz : ¬ (0 : Int) < (k : Int) := by omega
                  have hkz2 : ¬ 0 < k := by omega
                  have HOKN : Hid (okM nx l true (k + 1) = false) := hide (by rw [okM, HOK.out, HG.out, HB1.out]; first | rfl | simp)
                  clear hk0
                  go_wp2_with (first | (go_at_call 47; (with_reducible refine (hMay _).mono ?_); rintro e w6 ⟨rfl, HB6⟩; have S6 := S1.below HB6; have M6 := M1.below HB6; have T6 := T1.below HB6; have C6 := stq C1 HB6; have r6 := hr.below C6; obtain ⟨m60, m61, m62, m63, m64⟩ := M6.read; obtain ⟨t60, t61, t62⟩ := T6.read; have hlk := S6.look y.1 hfy; rw [HSV.out] at hlk) | (at_mapUpdate; refine SeenM.store S6 rfl _ _ _ rfl rfl y.1 hfy rfl rfl hnm ?_; intro w7 S7 G7; have M7 := M6.grown G7 (fun e => hneB (by injection e)); have T7 := T6.grown G7 hneT; have C7 := C6.grown G7 C6.size (fun j hj => by cases hj; exact Nat.le_succ _); have r7 := hr.below C7; obtain ⟨m70, m71, m72, m73, m74⟩ := M7.read; obtain ⟨t70, t71, t72⟩ := T7.read))
                  go_roundw
                  case rel => exact ⟨k + 1, _, hlt, by go_num, rfl, HOKN.out, by rw [HSN.out]; exact S7, T7, C7⟩
                  case measure => first | exact idx_m n k hlt | exact idx_m2 n k hlt | exact idx_m3 n k hlt hw1
                · have hk1 : 0 < k := Nat.pos_of_ne_zero hk0
                  have hk1i : (0 : Int) < (k : Int) := by omega
                  obtain ⟨p, hp, hp1, hp2, hp3, hp4⟩ := pred_w k n hk1 hlt hl
                  obtain ⟨x, hx⟩ : ∃ x, l.getD p zMet = x := ⟨_, rfl⟩
                  have HX := hide hx
                  rw [hp, hx] at HG
                  clear hx hp
                  have HOKN : Hid (okM nx l true (k + 1) = false) := hide (by rw [okM, HOK.out, HG.out, HB1.out]; first | rfl | simp)
                  go_wp2_with (first | (go_at_call 47; (with_reducible refine (hMay _).mono ?_); rintro e w6 ⟨rfl, HB6⟩; have S6 := S1.below HB6; have M6 := M1.below HB6; have T6 := T1.below HB6; have C6 := stq C1 HB6; have r6 := hr.below C6; obtain ⟨m60, m61, m62, m63, m64⟩ := M6.read; obtain ⟨t60, t61, t62⟩ := T6.read; have hlk := S6.look y.1 hfy; rw [HSV.out] at hlk) | (at_mapUpdate; refine SeenM.store S6 rfl _ _ _ rfl rfl y.1 hfy rfl rfl hnm ?_; intro w7 S7 G7; have M7 := M6.grown G7 (fun e => hneB (by injection e)); have T7 := T6.grown G7 hneT; have C7 := C6.grown G7 C6.size (fun j hj => by cases hj; exact Nat.le_succ _); have r7 := hr.below C7; obtain ⟨m70, m71, m72, m73, m74⟩ := M7.read; obtain ⟨t70, t71, t72⟩ := T7.read; obtain ⟨ad7, had7, p70, p71, p72, p73, p74⟩ := RdM.at5 r7 p (by rw [HN.out]; exact hp4); injection had7 with had7; subst had7; rw [HX.out] at p70 p71 p72 p73 p74; have b8 := below_alloc w7 (mbo x); have M8 := M7.below b8; have X8 := Mb.new w7 x; have S8 := S7.below b8; have T8 := T7.below b8; have C8 := stq C7 b8; obtain ⟨m80, m81, m82, m83, m84⟩ := M8.read; obtain ⟨x80, x81, x82, x83, x84⟩ := X8.read))
                  go_roundw
                  case rel => exact ⟨k + 1, _, hlt, by go_num, rfl, HOKN.out, by rw [HSN.out]; exact S8, T8, C8⟩
                  case measure => first | exact idx_m n k hlt | exact idx_m2 n k hlt | exact idx_m3 n k hlt hw1
              · by_cases hb2 : y.1 < nx
                · cases s
                  · by_cases hk0 : k = 0
                    · have hkz : ¬ (0 : Int) < (k : Int) := by omega
                      have hkz2 : ¬ 0 < k := by omega
                      have HOKN : Hid (okM nx l true (k + 1) = true) := hide (by rw [okM, HOK.out, HG.out, HB1.out, decide_eq_true hb2, HSV.out, decide_eq_true hk0]; first | rfl | simp)
                      clear hk0
                      go_wp2_with (first | (go_at_call 47; (with_reducible refine (hMay _).mono ?_); rintro e w6 ⟨rfl, HB6⟩; have S6 := S1.below HB6; have M6 := M1.below HB6; have T6 := T1.below HB6; have C6 := stq C1 HB6; have r6 := hr.below C6; obtain ⟨m60, m61, m62, m63, m64⟩ := M6.read; obtain ⟨t60, t61, t62⟩ := T6.read; have hlk := S6.look y.1 hfy; rw [HSV.out] at hlk) | (at_mapUpdate; refine SeenM.store S6 rfl _ _ _ rfl rfl y.1 hfy rfl rfl hnm ?_; intro w7 S7 G7; have M7 := M6.grown G7 (fun e => hneB (by injection e)); have T7 := T6.grown G7 hneT; have C7 := C6.grown G7 C6.size (fun j hj => by cases hj; exact Nat.le_succ _); have r7 := hr.below C7; obtain ⟨m70, m71, m72, m73, m74⟩ := M7.read; obtain ⟨t70, t71, t72⟩ := T7.read))
                      go_roundw
                      case rel => exact ⟨k + 1, _, hlt, by go_num, rfl, HOKN.out, by rw [HSN.out]; exact S7, T7, C7⟩
                      case measure => first | exact idx_m n k hlt | exact idx_m2 n k hlt | exact idx_m3 n k hlt hw1
                    · have hk1 : 0 < k := Nat.pos_of_ne_zero hk0
                      have hk1i : (0 : Int) < (k : Int) := by omega
                      obtain ⟨p, hp, hp1, hp2, hp3, hp4⟩ := pred_w k n hk1 hlt hl
                      obtain ⟨x, hx⟩ : ∃ x, l.getD p zMet = x := ⟨_, rfl⟩
                      have HX := hide hx
                      rw [hp, hx] at HG
                      clear hx hp
                      have hOrd := fun W => order_any x y W
                      have hneg := ordM_neg x y
                      obtain ⟨o, ho⟩ : ∃ o, ordM x y = o := ⟨_, rfl⟩
                      rw [ho] at hOrd hneg
                      clear ho
                      have HNX : Hid (nextM x y = (decide (befM x y) && (decide (y.2.1 = 0) || (decide (¬ y.2.1 = x.2.1) || decide (bl x.2.2.2.2 < bl y.2.2.2.1))))) := hide rfl
                      have hk0d : decide (k = 0) = false := decide_eq_false hk0
                      have HGG : Hid (okM nx l true (k + 1) = nextM x y) := hide (by rw [okM, HOK.out, HG.out, HB1.out, HSV.out, decide_eq_true hb2, hk0d]; rfl)
                      clear hk0d HG
                      by_cases ho0 : o < 0
                      · rw [decide_eq_true ho0] at hneg
                        rw [← hneg] at HNX
                        clear hneg
                        by_cases hl0 : y.2.1 = 0
                        · have HOKN : Hid (okM nx l true (k + 1) = true) := hide (by rw [HGG.out, HNX.out, decide_eq_true hl0]; rfl)
                          have hl0b : (y.2.1 == 0) = true := beq_iff_eq.2 hl0
                          clear hl0
                          go_wp2_with (first | (go_at_call 47; (with_reducible refine (hMay _).mono ?_); rintro e w6 ⟨rfl, HB6⟩; have S6 := S1.below HB6; have M6 := M1.below HB6; have T6 := T1.below HB6; have C6 := stq C1 HB6; have r6 := hr.below C6; obtain ⟨m60, m61, m62, m63, m64⟩ := M6.read; obtain ⟨t60, t61, t62⟩ := T6.read; have hlk := S6.look y.1 hfy; rw [HSV.out] at hlk) | (at_mapUpdate; refine SeenM.store S6 rfl _ _ _ rfl rfl y.1 hfy rfl rfl hnm ?_; intro w7 S7 G7; have M7 := M6.grown G7 (fun e => hneB (by injection e)); have T7 := T6.grown G7 hneT; have C7 := C6.grown G7 C6.size (fun j hj => by cases hj; exact Nat.le_succ _); have r7 := hr.below C7; obtain ⟨m70, m71, m72, m73, m74⟩ := M7.read; obtain ⟨t70, t71, t72⟩ := T7.read; obtain ⟨ad7, had7, p70, p71, p72, p73, p74⟩ := RdM.at5 r7 p (by rw [HN.out]; exact hp4); injection had7 with had7; subst had7; rw [HX.out] at p70 p71 p72 p73 p74; have b8 := below_alloc w7 (mbo x); have M8 := M7.below b8; have X8 := Mb.new w7 x; have S8 := S7.below b8; have T8 := T7.below b8; have C8 := stq C7 b8; obtain ⟨m80, m81, m82, m83, m84⟩ := M8.read; obtain ⟨x80, x81, x82, x83, x84⟩ := X8.read) | (go_at_call 48; (with_reducible refine (hOrd _).mono ?_); rintro e w9 ⟨rfl, HB9⟩; have M9 := M8.below HB9; have X9 := X8.below HB9; have S9 := S8.below HB9; have T9 := T8.below HB9; have C9 := stq C8 HB9; obtain ⟨m90, m91, m92, m93, m94⟩ := M9.read; obtain ⟨x90, x91, x92, x93, x94⟩ := X9.read))
                          go_roundw
                          case rel => exact ⟨k + 1, _, hlt, by go_num, rfl, HOKN.out, by rw [HSN.out]; exact S9, T9, C9⟩
                          case measure => first | exact idx_m n k hlt | exact idx_m2 n k hlt | exact idx_m3 n k hlt hw1
                        · have hl0b : (y.2.1 == 0) = false := beq_eq_false_iff_ne.2 hl0
                          by_cases hll : y.2.1 = x.2.1
                          · have hllb : (y.2.1 == x.2.1) = true := beq_iff_eq.2 hll
                            have hless := less_bl x.2.2.2.2 y.2.2.2.1
                            obtain ⟨q, hq⟩ : ∃ q, decide (bl x.2.2.2.2 < bl y.2.2.2.1) = q := ⟨_, rfl⟩
                            rw [hq] at hless
                            have HOKN : Hid (okM nx l true (k + 1) = q) := hide (by rw [HGG.out, HNX.out, decide_eq_false hl0, decide_eq_false (fun h => h hll), hq]; rfl)
                            clear hq hll
                            go_wp2_with (first | (go_at_call 47; (with_reducible refine (hMay _).mono ?_); rintro e w6 ⟨rfl, HB6⟩; have S6 := S1.below HB6; have M6 := M1.below HB6; have T6 := T1.below HB6; have C6 := stq C1 HB6; have r6 := hr.below C6; obtain ⟨m60, m61, m62, m63, m64⟩ := M6.read; obtain ⟨t60, t61, t62⟩ := T6.read; have hlk := S6.look y.1 hfy; rw [HSV.out] at hlk) | (at_mapUpdate; refine SeenM.store S6 rfl _ _ _ rfl rfl y.1 hfy rfl rfl hnm ?_; intro w7 S7 G7; have M7 := M6.grown G7 (fun e => hneB (by injection e)); have T7 := T6.grown G7 hneT; have C7 := C6.grown G7 C6.size (fun j hj => by cases hj; exact Nat.le_succ _); have r7 := hr.below C7; obtain ⟨m70, m71, m72, m73, m74⟩ := M7.read; obtain ⟨t70, t71, t72⟩ := T7.read; obtain ⟨ad7, had7, p70, p71, p72, p73, p74⟩ := RdM.at5 r7 p (by rw [HN.out]; exact hp4); injection had7 with had7; subst had7; rw [HX.out] at p70 p71 p72 p73 p74; have b8 := below_alloc w7 (mbo x); have M8 := M7.below b8; have X8 := Mb.new w7 x; have S8 := S7.below b8; have T8 := T7.below b8; have C8 := stq C7 b8; obtain ⟨m80, m81, m82, m83, m84⟩ := M8.read; obtain ⟨x80, x81, x82, x83, x84⟩ := X8.read) | (go_at_call 48; (with_reducible refine (hOrd _).mono ?_); rintro e w9 ⟨rfl, HB9⟩; have M9 := M8.below HB9; have X9 := X8.below HB9; have S9 := S8.below HB9; have T9 := T8.below HB9; have C9 := stq C8 HB9; obtain ⟨m90, m91, m92, m93, m94⟩ := M9.read; obtain ⟨x90, x91, x92, x93, x94⟩ := X9.read))
                            all_goals (try exact absurd (beq_iff_eq.1 hllb) (by assumption))
                            go_roundw
                            case rel => exact ⟨k + 1, _, hlt, by go_num, rfl, HOKN.out, by rw [HSN.out]; exact S9, T9, C9⟩
                            case measure => first | exact idx_m n k hlt | exact idx_m2 n k hlt | exact idx_m3 n k hlt hw1
                          · have hllb : (y.2.1 == x.2.1) = false := beq_eq_false_iff_ne.2 hll
                            have HOKN : Hid (okM nx l true (k + 1) = true) := hide (by rw [HGG.out, HNX.out, decide_eq_false hl0, decide_eq_true hll]; rfl)
                            go_wp2_with (first | (go_at_call 47; (with_reducible refine (hMay _).mono ?_); rintro e w6 ⟨rfl, HB6⟩; have S6 := S1.below HB6; have M6 := M1.below HB6; have T6 := T1.below HB6; have C6 := stq C1 HB6; have r6 := hr.below C6; obtain ⟨m60, m61, m62, m63, m64⟩ := M6.read; obtain ⟨t60, t61, t62⟩ := T6.read; have hlk := S6.look y.1 hfy; rw [HSV.out] at hlk) | (at_mapUpdate; refine SeenM.store S6 rfl _ _ _ rfl rfl y.1 hfy rfl rfl hnm ?_; intro w7 S7 G7; have M7 := M6.grown G7 (fun e => hneB (by injection e)); have T7 := T6.grown G7 hneT; have C7 := C6.grown G7 C6.size (fun j hj => by cases hj; exact Nat.le_succ _); have r7 := hr.below C7; obtain ⟨m70, m71, m72, m73, m74⟩ := M7.read; obtain ⟨t70, t71, t72⟩ := T7.read; obtain ⟨ad7, had7, p70, p71, p72, p73, p74⟩ := RdM.at5 r7 p (by rw [HN.out]; exact hp4); injection had7 with had7; subst had7; rw [HX.out] at p70 p71 p72 p73 p74; have b8 := below_alloc w7 (mbo x); have M8 := M7.below b8; have X8 := Mb.new w7 x; have S8 := S7.below b8; have T8 := T7.below b8; have C8 := stq C7 b8; obtain ⟨m80, m81, m82, m83, m84⟩ := M8.read; obtain ⟨x80, x81, x82, x83, x84⟩ := X8.read) | (go_at_call 48; (with_reducible refine (hOrd _).mono ?_); rintro e w9 ⟨rfl, HB9⟩; have M9 := M8.below HB9; have X9 := X8.below HB9; have S9 := S8.below HB9; have T9 := T8.below HB9; have C9 := stq C8 HB9; obtain ⟨m90, m91, m92, m93, m94⟩ := M9.read; obtain ⟨x90, x91, x92, x93, x94⟩ := X9.read))
                            go_roundw
                            case rel => exact ⟨k + 1, _, hlt, by go_num, rfl, HOKN.out, by rw [HSN.out]; exact S9, T9, C9⟩
                            case measure => first | exact idx_m n k hlt | exact idx_m2 n k hlt | exact idx_m3 n k hlt hw1
                      · rw [decide_eq_false ho0] at hneg
                        rw [← hneg] at HNX
                        clear hneg
                        have HOKN : Hid (okM nx l true (k + 1) = false) := hide (by rw [HGG.out, HNX.out]; rfl)
                        go_wp2_with (first | (go_at_call 47; (with_reducible refine (hMay _).mono ?_); rintro e w6 ⟨rfl, HB6⟩; have S6 := S1.below HB6; have M6 := M1.below HB6; have T6 := T1.below HB6; have C6 := stq C1 HB6; have r6 := hr.below C6; obtain ⟨m60, m61, m62, m63, m64⟩ := M6.read; obtain ⟨t60, t61, t62⟩ := T6.read; have hlk := S6.look y.1 hfy; rw [HSV.out] at hlk) | (at_mapUpdate; refine SeenM.store S6 rfl _ _ _ rfl rfl y.1 hfy rfl rfl hnm ?_; intro w7 S7 G7; have M7 := M6.grown G7 (fun e => hneB (by injection e)); have T7 := T6.grown G7 hneT; have C7 := C6.grown G7 C6.size (fun j hj => by cases hj; exact Nat.le_succ _); have r7 := hr.below C7; obtain ⟨m70, m71, m72, m73, m74⟩ := M7.read; obtain ⟨t70, t71, t72⟩ := T7.read; obtain ⟨ad7, had7, p70, p71, p72, p73, p74⟩ := RdM.at5 r7 p (by rw [HN.out]; exact hp4); injection had7 with had7; subst had7; rw [HX.out] at p70 p71 p72 p73 p74; have b8 := below_alloc w7 (mbo x); have M8 := M7.below b8; have X8 := Mb.new w7 x; have S8 := S7.below b8; have T8 := T7.below b8; have C8 := stq C7 b8; obtain ⟨m80, m81, m82, m83, m84⟩ := M8.read; obtain ⟨x80, x81, x82, x83, x84⟩ := X8.read) | (go_at_call 48; (with_reducible refine (hOrd _).mono ?_); rintro e w9 ⟨rfl, HB9⟩; have M9 := M8.below HB9; have X9 := X8.below HB9; have S9 := S8.below HB9; have T9 := T8.below HB9; have C9 := stq C8 HB9; obtain ⟨m90, m91, m92, m93, m94⟩ := M9.read; obtain ⟨x90, x91, x92, x93, x94⟩ := X9.read))
                        go_roundw
                        case rel => exact ⟨k + 1, _, hlt, by go_num, rfl, HOKN.out, by rw [HSN.out]; exact S9, T9, C9⟩
                        case measure => first | exact idx_m n k hlt | exact idx_m2 n k hlt | exact idx_m3 n k hlt hw1
                  · by_cases hk0 : k = 0
                    · have hkz : ¬ (0 : Int) < (k : Int) := by omega
                      have hkz2 : ¬ 0 < k := by omega
                      have HOKN : Hid (okM nx l true (k + 1) = false) := hide (by rw [okM, HOK.out, HG.out, HB1.out, decide_eq_true hb2, HSV.out]; first | rfl | simp)
                      clear hk0
                      go_wp2_with (first | (go_at_call 47; (with_reducible refine (hMay _).mono ?_); rintro e w6 ⟨rfl, HB6⟩; have S6 := S1.below HB6; have M6 := M1.below HB6; have T6 := T1.below HB6; have C6 := stq C1 HB6; have r6 := hr.below C6; obtain ⟨m60, m61, m62, m63, m64⟩ := M6.read; obtain ⟨t60, t61, t62⟩ := T6.read; have hlk := S6.look y.1 hfy; rw [HSV.out] at hlk) | (at_mapUpdate; refine SeenM.store S6 rfl _ _ _ rfl rfl y.1 hfy rfl rfl hnm ?_; intro w7 S7 G7; have M7 := M6.grown G7 (fun e => hneB (by injection e)); have T7 := T6.grown G7 hneT; have C7 := C6.grown G7 C6.size (fun j hj => by cases hj; exact Nat.le_succ _); have r7 := hr.below C7; obtain ⟨m70, m71, m72, m73, m74⟩ := M7.read; obtain ⟨t70, t71, t72⟩ := T7.read))
                      go_roundw
                      case rel => exact ⟨k + 1, _, hlt, by go_num, rfl, HOKN.out, by rw [HSN.out]; exact S7, T7, C7⟩
                      case measure => first | exact idx_m n k hlt | exact idx_m2 n k hlt | exact idx_m3 n k hlt hw1
                    · have hk1 : 0 < k := Nat.pos_of_ne_zero hk0
                      have hk1i : (0 : Int) < (k : Int) := by omega
                      obtain ⟨p, hp, hp1, hp2, hp3, hp4⟩ := pred_w k n hk1 hlt hl
                      obtain ⟨x, hx⟩ : ∃ x, l.getD p zMet = x := ⟨_, rfl⟩
                      have HX := hide hx
                      rw [hp, hx] at HG
                      clear hx hp
                      have HOKN : Hid (okM nx l true (k + 1) = false) := hide (by rw [okM, HOK.out, HG.out, HB1.out, decide_eq_true hb2, HSV.out]; first | rfl | simp)
                      go_wp2_with (first | (go_at_call 47; (with_reducible refine (hMay _).mono ?_); rintro e w6 ⟨rfl, HB6⟩; have S6 := S1.below HB6; have M6 := M1.below HB6; have T6 := T1.below HB6; have C6 := stq C1 HB6; have r6 := hr.below C6; obtain ⟨m60, m61, m62, m63, m64⟩ := M6.read; obtain ⟨t60, t61, t62⟩ := T6.read; have hlk := S6.look y.1 hfy; rw [HSV.out] at hlk) | (at_mapUpdate; refine SeenM.store S6 rfl _ _ _ rfl rfl y.1 hfy rfl rfl hnm ?_; intro w7 S7 G7; have M7 := M6.grown G7 (fun e => hneB (by injection e)); have T7 := T6.grown G7 hneT; have C7 := C6.grown G7 C6.size (fun j hj => by cases hj; exact Nat.le_succ _); have r7 := hr.below C7; obtain ⟨m70, m71, m72, m73, m74⟩ := M7.read; obtain ⟨t70, t71, t72⟩ := T7.read; obtain ⟨ad7, had7, p70, p71, p72, p73, p74⟩ := RdM.at5 r7 p (by rw [HN.out]; exact hp4); injection had7 with had7; subst had7; rw [HX.out] at p70 p71 p72 p73 p74; have b8 := below_alloc w7 (mbo x); have M8 := M7.below b8; have X8 := Mb.new w7 x; have S8 := S7.below b8; have T8 := T7.below b8; have C8 := stq C7 b8; obtain ⟨m80, m81, m82, m83, m84⟩ := M8.read; obtain ⟨x80, x81, x82, x83, x84⟩ := X8.read))
                      go_roundw
                      case rel => exact ⟨k + 1, _, hlt, by go_num, rfl, HOKN.out, by rw [HSN.out]; exact S8, T8, C8⟩
                      case measure => first | exact idx_m n k hlt | exact idx_m2 n k hlt | exact idx_m3 n k hlt hw1
                · by_cases hk0 : k = 0
                  · have hkz : ¬ (0 : Int) < (k : Int) := by omega
                    have hkz2 : ¬ 0 < k := by omega
                    have HOKN : Hid (okM nx l true (k + 1) = false) := hide (by rw [okM, HOK.out, HG.out, HB1.out, decide_eq_false hb2]; first | rfl | simp)
                    clear hk0
                    go_wp2_with (first | (go_at_call 47; (with_reducible refine (hMay _).mono ?_); rintro e w6 ⟨rfl, HB6⟩; have S6 := S1.below HB6; have M6 := M1.below HB6; have T6 := T1.below HB6; have C6 := stq C1 HB6; have r6 := hr.below C6; obtain ⟨m60, m61, m62, m63, m64⟩ := M6.read; obtain ⟨t60, t61, t62⟩ := T6.read; have hlk := S6.look y.1 hfy; rw [HSV.out] at hlk) | (at_mapUpdate; refine SeenM.store S6 rfl _ _ _ rfl rfl y.1 hfy rfl rfl hnm ?_; intro w7 S7 G7; have M7 := M6.grown G7 (fun e => hneB (by injection e)); have T7 := T6.grown G7 hneT; have C7 := C6.grown G7 C6.size (fun j hj => by cases hj; exact Nat.le_succ _); have r7 := hr.below C7; obtain ⟨m70, m71, m72, m73, m74⟩ := M7.read; obtain ⟨t70, t71, t72⟩ := T7.read))
                    go_roundw
                    case rel => exact ⟨k + 1, _, hlt, by go_num, rfl, HOKN.out, by rw [HSN.out]; exact S7, T7, C7⟩
                    case measure => first | exact idx_m n k hlt | exact idx_m2 n k hlt | exact idx_m3 n k hlt hw1
                  · have hk1 : 0 < k := Nat.pos_of_ne_zero hk0
                    have hk1i : (0 : Int) < (k : Int) := by omega
                    obtain ⟨p, hp, hp1, hp2, hp3, hp4⟩ := pred_w k n hk1 hlt hl
                    obtain ⟨x, hx⟩ : ∃ x, l.getD p zMet = x := ⟨_, rfl⟩
                    have HX := hide hx
                    rw [hp, hx] at HG
                    clear hx hp
                    have HOKN : Hid (okM nx l true (k + 1) = false) := hide (by rw [okM, HOK.out, HG.out, HB1.out, decide_eq_false hb2]; first | rfl | simp)
                    go_wp2_with (first | (go_at_call 47; (with_reducible refine (hMay _).mono ?_); rintro e w6 ⟨rfl, HB6⟩; have S6 := S1.below HB6; have M6 := M1.below HB6; have T6 := T1.below HB6; have C6 := stq C1 HB6; have r6 := hr.below C6; obtain ⟨m60, m61, m62, m63, m64⟩ := M6.read; obtain ⟨t60, t61, t62⟩ := T6.read; have hlk := S6.look y.1 hfy; rw [HSV.out] at hlk) | (at_mapUpdate; refine SeenM.store S6 rfl _ _ _ rfl rfl y.1 hfy rfl rfl hnm ?_; intro w7 S7 G7; have M7 := M6.grown G7 (fun e => hneB (by injection e)); have T7 := T6.grown G7 hneT; have C7 := C6.grown G7 C6.size (fun j hj => by cases hj; exact Nat.le_succ _); have r7 := hr.below C7; obtain ⟨m70, m71, m72, m73, m74⟩ := M7.read; obtain ⟨t70, t71, t72⟩ := T7.read; obtain ⟨ad7, had7, p70, p71, p72, p73, p74⟩ := RdM.at5 r7 p (by rw [HN.out]; exact hp4); injection had7 with had7; subst had7; rw [HX.out] at p70 p71 p72 p73 p74; have b8 := below_alloc w7 (mbo x); have M8 := M7.below b8; have X8 := Mb.new w7 x; have S8 := S7.below b8; have T8 := T7.below b8; have C8 := stq C7 b8; obtain ⟨m80, m81, m82, m83, m84⟩ := M8.read; obtain ⟨x80, x81, x82, x83, x84⟩ := X8.read))
                    go_roundw
                    case rel => exact ⟨k + 1, _, hlt, by go_num, rfl, HOKN.out, by rw [HSN.out]; exact S8, T8, C8⟩
                    case measure => first | exact idx_m n k hlt | exact idx_m2 n k hlt | exact idx_m3 n k hlt hw1
          · obtain rfl : k = n := Nat.le_antisymm hk (Nat.not_lt.1 hlt)
            clear hFT hr
            cases okv
            · go_wp2
              go_ret
              exact ⟨by rw [← HZ.out, HCH.out, HN.out, VKH.out, HOK.out]; rfl, HB⟩
            · go_wp2
              go_ret
              exact ⟨by rw [← HZ.out, HCH.out, HN.out, VKH.out, HOK.out]; rfl, HB⟩
  · have hn2i : ¬ (n : Int) ≤ 256 := by omega
    have hn3i : (256 : Int) < (n : Int) := by omega
    rw [decide_eq_false hn2] at HVK
    have VK : vokM n seq nx = false := HVK.out
    have VKH := hide VK
    clear VK
    go_enter Try.func33, Try.ntmps33
    go_wp2_with (first | (go_at_call 46; (first | (with_reducible refine (hW1 _).mono ?_) | (with_reducible refine (hW2 _).mono ?_)); rintro e w' ⟨rfl, rfl⟩))
    go_loopw [3, 26] (fun ov iv wr => ∃ (k : Nat) (okv : Bool), k ≤ n ∧ iv = .int .i64 (k : Int) ∧ ov = .bool okv ∧ okM nx l false k = okv ∧ SeenM wr (w.heap.size + 1) k (seenB l k) ∧ Tb wr w.heap.size A n c seq nx ∧ Below w.heap.size w wr) (fun ov iv _ => n - (intOf iv).toNat)
    case atStart => exact ⟨0, _, Nat.zero_le _, rfl, rfl, rfl, SM, TM, BM⟩
    case round =>
      obtain ⟨k, okv, hk, rfl, rfl, hok, HS, HT, HB⟩ := hrel
      have HOK := hide hok
      clear hok
      by_cases hlt : k < n
      · have hlti : (k : Int) < (n : Int) := Int.ofNat_lt.2 hlt
        obtain ⟨hw1, hw2⟩ := idx_w n k hlt hl
        have hfy := hFT k hlt
        have HSN : Hid (seenB l (k + 1) = fun q => decide (q = (l.getD k zMet).1) || seenB l k q) := hide rfl
        have hnm : k < maxLen := by unfold maxLen; omega
        have hsB := HS.lt
        have hneT : w.heap.size ≠ w.heap.size + 1 := by omega
        obtain ⟨ad, rfl, x0, x1, x2, x3, x4⟩ := RdM.at5 (hr.below HB) k (by rw [HN.out]; exact hlt)
        have HG : Hid (goodM nx l k = (mayM (l.getD k zMet) && (decide ((l.getD k zMet).1 < nx) && (!seenB l k (l.getD k zMet).1 && (decide (k = 0) || nextM (l.getD (k - 1) zMet) (l.getD k zMet)))))) := hide rfl
        obtain ⟨y, hy⟩ : ∃ y, l.getD k zMet = y := ⟨_, rfl⟩
        rw [hy] at x0 x1 x2 x3 x4 hfy HSN HG
        have HY := hide hy
        have hMay := fun W => may_any y W
        obtain ⟨b1, hb1⟩ : ∃ b, mayM y = b := ⟨_, rfl⟩
        obtain ⟨s, hs⟩ : ∃ s, seenB l k y.1 = s := ⟨_, rfl⟩
        rw [hb1] at hMay
        have HB1 := hide hb1
        have HSV := hide hs
        have M1 := Mb.new wr y
        have b1w := below_alloc wr (mbo y)
        have S1 := HS.below b1w
        have T1 := HT.below b1w
        have C1 := stq HB b1w
        have hneB : wr.heap.size ≠ w.heap.size + 1 := fun e => by rw [← e] at hsB; exact absurd hsB (Nat.lt_irrefl _)
        obtain ⟨m10, m11, m12, m13, m14⟩ := M1.read
        obtain ⟨t10, t11, t12⟩ := T1.read
        obtain ⟨tr0, tr1, tr2⟩ := HT.read
        clear hy hb1 hs hFT HS HT HB
        cases okv
        case true => exact absurd (HOK.out.symm.trans (okM_false nx l k)) (by decide)
        by_cases hk0 : k = 0
        · have hkz : ¬ (0 : Int) < (k : Int) := by omega
          have hkz2 : ¬ 0 < k := by omega
          have HOKN : Hid (okM nx l false (k + 1) = false) := hide (by rw [okM, HOK.out, HG.out]; first | rfl | simp)
          clear hk0
          go_wp2_with (first | (at_mapUpdate; refine SeenM.store S1 rfl _ _ _ rfl rfl y.1 hfy rfl rfl hnm ?_; intro w7 S7 G7; have M7 := M1.grown G7 (fun e => hneB (by injection e)); have T7 := T1.grown G7 hneT; have C7 := C1.grown G7 C1.size (fun j hj => by cases hj; exact Nat.le_succ _); have r7 := hr.below C7; obtain ⟨m70, m71, m72, m73, m74⟩ := M7.read; obtain ⟨t70, t71, t72⟩ := T7.read))
          go_roundw
          case rel => exact ⟨k + 1, _, hlt, by go_num, rfl, HOKN.out, by rw [HSN.out]; exact S7, T7, C7⟩
          case measure => first | exact idx_m n k hlt | exact idx_m2 n k hlt | exact idx_m3 n k hlt hw1
        · have hk1 : 0 < k := Nat.pos_of_ne_zero hk0
          have hk1i : (0 : Int) < (k : Int) := by omega
          obtain ⟨p, hp, hp1, hp2, hp3, hp4⟩ := pred_w k n hk1 hlt hl
          obtain ⟨x, hx⟩ : ∃ x, l.getD p zMet = x := ⟨_, rfl⟩
          have HX := hide hx
          rw [hp, hx] at HG
          clear hx hp
          have HOKN : Hid (okM nx l false (k + 1) = false) := hide (by rw [okM, HOK.out, HG.out]; first | rfl | simp)
          go_wp2_with (first | (at_mapUpdate; refine SeenM.store S1 rfl _ _ _ rfl rfl y.1 hfy rfl rfl hnm ?_; intro w7 S7 G7; have M7 := M1.grown G7 (fun e => hneB (by injection e)); have T7 := T1.grown G7 hneT; have C7 := C1.grown G7 C1.size (fun j hj => by cases hj; exact Nat.le_succ _); have r7 := hr.below C7; obtain ⟨m70, m71, m72, m73, m74⟩ := M7.read; obtain ⟨t70, t71, t72⟩ := T7.read; obtain ⟨ad7, had7, p70, p71, p72, p73, p74⟩ := RdM.at5 r7 p (by rw [HN.out]; exact hp4); injection had7 with had7; subst had7; rw [HX.out] at p70 p71 p72 p73 p74; have b8 := below_alloc w7 (mbo x); have M8 := M7.below b8; have X8 := Mb.new w7 x; have S8 := S7.below b8; have T8 := T7.below b8; have C8 := stq C7 b8; obtain ⟨m80, m81, m82, m83, m84⟩ := M8.read; obtain ⟨x80, x81, x82, x83, x84⟩ := X8.read))
          go_roundw
          case rel => exact ⟨k + 1, _, hlt, by go_num, rfl, HOKN.out, by rw [HSN.out]; exact S8, T8, C8⟩
          case measure => first | exact idx_m n k hlt | exact idx_m2 n k hlt | exact idx_m3 n k hlt hw1
      · obtain rfl : k = n := Nat.le_antisymm hk (Nat.not_lt.1 hlt)
        clear hFT hr
        cases okv
        · go_wp2
          go_ret
          exact ⟨by rw [← HZ.out, HCB.out (by rw [HN.out]; exact VKH.out)]; rfl, HB⟩
        · exact absurd (HOK.out.symm.trans (okM_false nx l k)) (by decide)
end Go.Proofs.Ytbhhnlgpbhbcmaa
end

section
/- Tables' data: cloned; what DeleteFunc does, plainly; a row's tail cleared. -/
namespace Go.Proofs.Ytbhhnlgpbhbcmaa
open Go.RowKit Go.Proofs.YtbhhnlgpbhbcmaaW.PrintWords
set_option linter.unusedVariables false

theorem OwM.lit0 (w : World) : OwM (w.alloc (.cells #[] 55)) w.heap.size (.slice (some ⟨w.heap.size, 0, none⟩) 0 0) [] :=
  ⟨fun _ _ => trivial, [], ⟨rfl, .inr ⟨w.heap.size, 0, #[], rfl, Nat.le_refl _, heap_alloc_new _ _, Nat.le_refl _, Nat.zero_le _, rfl, rfl⟩⟩, Reps.none _ _⟩
set_option maxRecDepth 100000 in
set_option maxHeartbeats 800000 in
theorem CloneM_any (A : Option Addr) (c n : Nat) (l : List Met) (w : World) (hn : l.length = n) (hr : RdM w A c l) (hl : l.length * 56 ≤ 140737488351232) :
    Calls Try.prog 51 #[.slice A n c] w fun e w' => ∃ v, e = .returned v ∧ OwM w' w.heap.size v l ∧ Below w.heap.size w w' := by
  subst hn
  cases A with
  | none =>
    have h0 : l.length = 0 := by
      rcases Nat.eq_zero_or_pos l.length with h | h
      · exact h
      · obtain ⟨ad, cs, h, _⟩ := hr.at_ zMet 0 h
        cases h
    obtain rfl : l = [] := List.eq_nil_of_length_eq_zero h0
    have heq := fun ww => Lib.run_eql_slice_nil (P := Try.prog) ww 32 55 Option.none 0 c 0 0 Try.underlying32
    rw [show Option.none.isNone = true from rfl] at heq
    go_enter Try.func51, Try.ntmps51
    go_wp2
    go_ret
    exact ⟨_, rfl, Ow.zero _ _ _ _, Below.refl _ _⟩
  | some ad =>
    have heq := fun ww => Lib.run_eql_slice_nil (P := Try.prog) ww 32 55 (some ad) l.length c 0 0 Try.underlying32
    rw [show (some ad).isNone = false from rfl] at heq
    have hr1 : ∀ o, RdM (w.alloc o) (some ad) c l := fun o => hr.below ((Below.refl _ _).alloc (Nat.le_refl _) o)
    go_enter Try.func51, Try.ntmps51
    go_wp2_with (first | (at_builtin; refine app_mets (w0 := w) w.heap.size rfl (.tmp 5) (.tmp 6) rfl _ [] l (some ad) c rfl rfl (OwM.lit0 w) (hr1 _) ((Below.refl _ _).alloc (Nat.le_refl _) _) (by simp) (by simp; omega) ?_; intro v1 w1 HO1 HB1 hg hat))
    go_ret
    exact ⟨_, rfl, HO1, HB1⟩
/-- behind j versions i are kept, ahead of them in the row; the rest of the row is as it was -/
def DelI (out : Met → Bool) (l m : List Met) (i j : Nat) : Prop := m.length = l.length ∧ i < j ∧ j ≤ l.length ∧ m.take i = (l.take j).filter (fun x => !out x) ∧ m.drop j = l.drop j
theorem take_next (l : List Met) (k : Nat) (h : k < l.length) : l.take (k + 1) = l.take k ++ [l.getD k zMet] := by
  rw [List.take_add_one, List.getElem?_eq_getElem h, List.getD_eq_getElem?_getD, List.getElem?_eq_getElem h]
  rfl
theorem filter_keep_all (out : Met → Bool) (l : List Met) (i : Nat) (hi : i ≤ l.length) (h : ∀ k, k < i → out (l.getD k zMet) = false) : (l.take i).filter (fun x => !out x) = l.take i := by
  refine List.filter_eq_self.2 fun a ha => ?_
  obtain ⟨k, hk, rfl⟩ := List.mem_iff_getElem.1 ha
  rw [List.length_take] at hk
  have hk2 : k < i := by omega
  have h2 := h k hk2
  rw [List.getD_eq_getElem?_getD, List.getElem?_eq_getElem (by omega)] at h2
  rw [List.getElem_take]
  simpa using h2
theorem DelI.start (out : Met → Bool) (l : List Met) (i : Nat) (hi : i < l.length) (h : ∀ k, k < i → out (l.getD k zMet) = false) (ho : out (l.getD i zMet) = true) : DelI out l l i (i + 1) := by
  refine ⟨rfl, Nat.lt_succ_self _, hi, ?_, rfl⟩
  rw [take_next l i hi, List.filter_append, filter_keep_all out l i (Nat.le_of_lt hi) h, List.filter_cons_of_neg (by rw [ho]; decide), List.filter_nil, List.append_nil]
theorem drop_tail (m l : List Met) (j : Nat) (h : m.drop j = l.drop j) : m.drop (j + 1) = l.drop (j + 1) := by
  rw [← List.drop_drop, ← List.drop_drop, h]
theorem DelI.out_ {out : Met → Bool} {l m : List Met} {i j : Nat} (h : DelI out l m i j) (hj : j < l.length) (ho : out (l.getD j zMet) = true) : DelI out l m i (j + 1) := by
  obtain ⟨h1, h2, h3, h4, h5⟩ := h
  refine ⟨h1, by omega, hj, ?_, drop_tail m l j h5⟩
  rw [take_next l j hj, List.filter_append, ← h4, List.filter_cons_of_neg (by rw [ho]; decide), List.filter_nil, List.append_nil]
theorem DelI.keep {out : Met → Bool} {l m : List Met} {i j : Nat} (h : DelI out l m i j) (hj : j < l.length) (ho : out (l.getD j zMet) = false) : DelI out l (m.set i (l.getD j zMet)) (i + 1) (j + 1) := by
  obtain ⟨h1, h2, h3, h4, h5⟩ := h
  refine ⟨by rw [List.length_set, h1], by omega, hj, ?_, ?_⟩
  · have hi : i < (m.set i (l.getD j zMet)).length := by rw [List.length_set]; omega
    rw [take_next _ i hi, take_next l j hj, List.filter_append, ← h4, List.filter_cons_of_pos (by rw [ho]; rfl), List.filter_nil, List.take_set_of_le (Nat.le_refl _)]
    rw [List.getD_eq_getElem?_getD, List.getElem?_eq_getElem hi, List.getElem_set_self]
    rfl
  · rw [List.drop_set_of_lt (by omega)]
    exact drop_tail m l j h5
theorem DelI.at_ {out : Met → Bool} {l m : List Met} {i j : Nat} (h : DelI out l m i j) (hj : j < l.length) : m.getD j zMet = l.getD j zMet := by
  have h5 := congrArg (fun x => x[0]?) h.2.2.2.2
  simp only [List.getElem?_drop, Nat.add_zero] at h5
  rw [List.getD_eq_getElem?_getD, List.getD_eq_getElem?_getD, h5]
theorem DelI.end_ {out : Met → Bool} {l m : List Met} {i : Nat} (h : DelI out l m i l.length) : m.take i = l.filter (fun x => !out x) ∧ (l.filter (fun x => !out x)).length = i := by
  obtain ⟨h1, h2, h3, h4, h5⟩ := h
  rw [List.take_length] at h4
  refine ⟨h4, ?_⟩
  rw [← h4, List.length_take]
  omega
theorem below_setC {B : Nat} {a : World} (b : Nat) (hb : B ≤ b) : ∀ (vs : List Value) (o : Nat) (w : World), Below B a w → Below B a (w.setCells b o vs)
  | [], _, _, h => h
  | v :: r, o, w, h => below_setC b hb r (o + 1) _ (h.setCell (p := ⟨b, o, none⟩) hb v)
theorem setC_block (g t : Nat) : ∀ (vs : List Value) (o : Nat) (cur : Array Value) (w : World), w.heap[g]? = some (.cells cur t (0, 0)) → ∃ cur2 : Array Value, (w.setCells g o vs).heap[g]? = some (.cells cur2 t (0, 0)) ∧ cur2.size = cur.size ∧ cur2.toList.take o = cur.toList.take o
  | [], _, cur, _, h => ⟨cur, h, rfl, rfl⟩
  | v :: r, o, cur, w, h => by
    obtain ⟨c2, h1, h2, h3⟩ := setC_block g t r (o + 1) _ _ (blk_set h o v)
    refine ⟨c2, h1, by rw [h2, Array.size_setIfInBounds], ?_⟩
    have h4 := congrArg (List.take o) h3
    rw [List.take_take, List.take_take, Nat.min_eq_left (Nat.le_succ o), Array.toList_setIfInBounds, List.take_set_of_le (Nat.le_refl _)] at h4
    exact h4
/-- 'clear' of a row's tail: what is ahead of it is as it was -/
theorem clear_tail {w0 W : World} {base g n c i : Nat} {m : List Met} (HO : OwM W base (.slice (some ⟨g, 0, none⟩) n c) m) (hm : m.length = n) (hi : i < n) (hb : base ≤ g) (HB : Below base w0 W) :
    ∃ W', (∀ ty, (Builtin.clear_ #[32] ty #[.slice (some ⟨g, i * 5, none⟩) (n - i) (c - i)]).run Try.prog W = .ok (.tuple #[]) W') ∧ Below base w0 W' ∧ OwM W' base (.slice (some ⟨g, 0, none⟩) i c) (m.take i) := by
  obtain ⟨-, inner, ⟨hlen, hown⟩, -⟩ := id HO
  obtain ⟨hv, -⟩ | ⟨g', cap, cur, hv, hg, hh, hnc, hmx, hcs, -⟩ := hown
  · cases hv
  injection hv with ha _ hc
  injection ha with ha
  injection ha with ha
  subst ha
  subst hc
  rw [hm] at hnc
  obtain ⟨zs, hzs⟩ : ∃ zs, (Builtin.zeroCells (Value.agg #[.int .i64 0, .int .i64 0, .int .i64 0, .string ⟨#[]⟩, .string ⟨#[]⟩]).cells (n - i)).toList = zs := ⟨_, rfl⟩
  have hzl : zs.length = (n - i) * 5 := by rw [← hzs]; simp [Builtin.zeroCells, Value.cells]
  have hz1 : ∀ v ∈ zs, v.oneCell' = true := by
    intro v hv
    rw [← hzs] at hv
    simp only [Builtin.zeroCells, Value.cells, Array.toList_map, List.mem_map] at hv
    obtain ⟨q, -, rfl⟩ := hv
    have : q % 5 < 5 := Nat.mod_lt _ (by decide)
    show (#[Value.int .i64 0, .int .i64 0, .int .i64 0, .string ⟨#[]⟩, .string ⟨#[]⟩][q % 5]!).oneCell' = true
    generalize q % 5 = q5 at *
    match q5, this with
    | 0, _ => rfl
    | 1, _ => rfl
    | 2, _ => rfl
    | 3, _ => rfl
    | 4, _ => rfl
    | q + 5, h => omega
  have hst := run_storeCells_cells (P := Try.prog) g (i * 5) zs 0 W
    (by intro j hj; rw [blk_cell hh, Nat.add_zero, Array.getElem?_eq_getElem (by rw [hcs, show kMet.sz = 5 from rfl]; omega)]; rfl)
    (by intro j hj; exact blk_frozen hh _) hz1
  rw [Nat.add_zero] at hst
  refine ⟨W.setCells g (i * 5) zs, fun ty => ?_, below_setC g hb zs _ W HB, ?_⟩
  · obtain ⟨k, hk⟩ : ∃ k, n - i = k + 1 := ⟨n - i - 1, by omega⟩
    rw [hk] at hzs ⊢
    simp [Builtin.clear_, run_underlying Try.underlying32]
    rw [hzs, hst]
    rfl
  · have HT : OwM W base (.slice (some ⟨g, 0, none⟩) i c) (m.take i) := Kd.R_take HO (by omega)
    obtain ⟨cur2, hc1, hc2, hc3⟩ := setC_block g 55 zs (i * 5) cur W hh
    obtain ⟨-, inn, ⟨il, iown⟩, irep⟩ := id HT
    obtain ⟨iv, -⟩ | ⟨g2, cap2, cur3, iv, ig, ih, inc, imx, ics, itk⟩ := iown
    · cases iv
    injection iv with ja _ jc
    injection ja with ja
    injection ja with ja
    subst ja
    subst jc
    rw [hh] at ih
    injection ih with ih
    injection ih with ih
    subst ih
    refine ⟨fun _ _ => trivial, inn, ⟨il, .inr ⟨g, c, cur2, by rw [show i = (m.take i).length by rw [List.length_take]; omega]; rw [List.length_take, List.length_take]; congr 1; omega, ig, hc1, inc, imx, by rw [hc2]; exact ics, ?_⟩⟩, irep.imp_ (fun p cs h => by have h2 := kMet.K_of_M h; rw [kMet_K h2]; exact kMet_M _ _ _ _)⟩
    rw [← itk]
    have e : (m.take i).length * kMet.sz = i * 5 := by rw [List.length_take, show kMet.sz = 5 from rfl]; congr 1; omega
    rw [e]
    exact hc3
end Go.Proofs.Ytbhhnlgpbhbcmaa
end

section
/- IndexFunc and DeleteFunc by tickler/edit.At$1, walked. -/
namespace Go.Proofs.Ytbhhnlgpbhbcmaa
open Go.RowKit Go.Proofs.YtbhhnlgpbhbcmaaW.PrintWords
set_option linter.unusedVariables false

theorem idx_nat (out : Met → Bool) (l : List Met) (k : Nat) (h : ∀ j, j < k → out (l.getD j zMet) = false) (hk : out (l.getD k zMet) = false) : ∀ j, j < k + 1 → out (l.getD j zMet) = false := by
  intro j hj
  rcases Nat.lt_or_ge j k with h2 | h2
  · exact h j h2
  · obtain rfl : j = k := by omega
    exact hk
set_option maxRecDepth 100000 in
set_option maxHeartbeats 1600000 in
theorem Idx_at (out : Met → Bool) (P1 : Value) (A : Option Addr) (c n : Nat) (l : List Met) (w : World) (hn : l.length = n) (hr : RdM w A c l) (hl : n ≤ 140737488351232)
    (hcl : ∀ W x, Below w.heap.size w W → Calls Try.prog 52 #[mbv x, P1] W fun e W' => e = .returned (.bool (out x)) ∧ Below W.heap.size W W') :
    Calls Try.prog 53 #[.slice A n c, .func (.func 52) #[] #[P1]] w fun e w' => ((e = .returned (.int .i64 (-1)) ∧ ∀ k, k < n → out (l.getD k zMet) = false) ∨ ∃ i : Nat, e = .returned (.int .i64 (i : Int)) ∧ i < n ∧ (∀ k, k < i → out (l.getD k zMet) = false) ∧ out (l.getD i zMet) = true) ∧ Below w.heap.size w w' := by
  have HN := hide hn
  clear hn
  go_enter Try.func53, Try.ntmps53
  go_wp2
  go_loopw [8] (fun iv wr => ∃ k : Nat, k ≤ n ∧ iv = .int .i64 (k : Int) ∧ (∀ j, j < k → out (l.getD j zMet) = false) ∧ Below w.heap.size w wr) (fun iv _ => n - (intOf iv).toNat)
  case atStart => exact ⟨0, Nat.zero_le _, rfl, fun j h => absurd h (Nat.not_lt_zero _), Below.refl _ _⟩
  case round =>
    obtain ⟨k, hk, rfl, hlo, HB⟩ := hrel
    have HLO := hide hlo
    clear hlo
    by_cases hlt : k < n
    · have hlti : (k : Int) < (n : Int) := Int.ofNat_lt.2 hlt
      obtain ⟨hw1, hw2⟩ := idx_w n k hlt hl
      obtain ⟨ad, rfl, x0, x1, x2, x3, x4⟩ := RdM.at5 (hr.below HB) k (by rw [HN.out]; exact hlt)
      obtain ⟨y, hy⟩ : ∃ y, l.getD k zMet = y := ⟨_, rfl⟩
      have HY := hide hy
      rw [hy] at x0 x1 x2 x3 x4
      have hC := hcl wr y HB
      obtain ⟨b, hb⟩ : ∃ b, out y = b := ⟨_, rfl⟩
      rw [hb] at hC
      have HBB := hide hb
      clear hb hy hcl hr
      cases b
      · go_wp2_with (first | (go_at_call 52; (with_reducible refine hC.mono ?_); rintro e w6 ⟨rfl, HB6⟩))
        go_roundw
        case rel => exact ⟨k + 1, hlt, by go_num, idx_nat out l k HLO.out (by rw [HY.out]; exact HBB.out), stq HB HB6⟩
        case measure => first | exact idx_m n k hlt | exact idx_m2 n k hlt | exact idx_m3 n k hlt hw1
      · go_wp2_with (first | (go_at_call 52; (with_reducible refine hC.mono ?_); rintro e w6 ⟨rfl, HB6⟩))
        go_ret
        exact ⟨.inr ⟨k, rfl, hlt, HLO.out, by rw [HY.out]; exact HBB.out⟩, stq HB HB6⟩
    · obtain rfl : k = n := Nat.le_antisymm hk (Nat.not_lt.1 hlt)
      clear hcl hr
      go_wp2
      go_ret
      exact ⟨.inl ⟨rfl, HLO.out⟩, HB⟩
set_option maxRecDepth 100000 in
set_option maxHeartbeats 3200000 in
theorem Del_at (out : Met → Bool) (P1 : Value) (A : Option Addr) (c n base : Nat) (l : List Met) (w0 w : World) (hn : l.length = n) (HO : OwM w base (.slice A n c) l) (HB : Below base w0 w) (hs : base ≤ w.heap.size) (hl : n ≤ 140737488351232)
    (hcl : ∀ W x, Below base w0 W → base ≤ W.heap.size → Calls Try.prog 52 #[mbv x, P1] W fun e W' => e = .returned (.bool (out x)) ∧ Below W.heap.size W W') :
    Calls Try.prog 41 #[.slice A n c, .func (.func 52) #[] #[P1]] w fun e w' => ∃ A' m' c', e = .returned (.slice A' m' c') ∧ (l.filter (fun x => !out x)).length = m' ∧ OwM w' base (.slice A' m' c') (l.filter (fun x => !out x)) ∧ Below base w0 w' := by
  have hI := Idx_at out P1 A c n l w hn HO.rdl hl (fun W x h => hcl W x (HB.trans (h.mono hs)) (Nat.le_trans hs h.size))
  have HN := hide hn
  have HALL := hide (filter_keep_all out l)
  have HST := hide (DelI.start out l)
  have HOW := HO
  clear hn
  go_enter Try.func41, Try.ntmps41
  go_wp2_with (first | (go_at_call 53; (with_reducible refine hI.mono ?_); rintro e w1 ⟨he, HB1⟩; rcases he with ⟨rfl, hall⟩ | ⟨i, rfl, hi, hlo, hoi⟩))
  · have e1 : l.filter (fun x => !out x) = l := by
      have h := HALL.out n (Nat.le_of_eq HN.out.symm) hall
      rw [← HN.out, List.take_length] at h
      exact h
    clear hall
    go_wp2
    go_ret
    rw [e1]
    exact ⟨A, n, c, rfl, HN.out, HOW.below HB1, HB.trans (HB1.mono hs)⟩
  · have hD0 := HST.out i (by rw [HN.out]; exact hi) hlo hoi
    have HD0 := hide hD0
    have h1i : ¬ (i : Int) = -1 := by omega
    have h1b : ((i : Int) == -1) = false := beq_eq_false_iff_ne.2 h1i
    have hii : (i : Int) < (n : Int) := Int.ofNat_lt.2 hi
    obtain ⟨hw1, hw2⟩ := idx_w n i hi hl
    obtain ⟨g, rfl, hgb, hgl⟩ := HO.head (Nat.lt_of_le_of_lt (Nat.zero_le _) hi)
    have HO1 := HO.below HB1
    have HB2 := HB.trans (HB1.mono hs)
    have hs1 := Nat.le_trans hs HB1.size
    clear hD0 hlo hoi HOW HO hI HB
    go_wp2
    simp only [h1b]
    go_loopw [5, 6] (fun iv jv wr => ∃ (p q : Nat) (m : List Met), DelI out l m p q ∧ iv = .int .i64 (p : Int) ∧ jv = .int .i64 (q : Int) ∧ OwM wr base (.slice (some ⟨g, 0, none⟩) n c) m ∧ Below base w0 wr ∧ base ≤ wr.heap.size) (fun iv jv _ => n - (intOf jv).toNat)
    case atStart => exact ⟨i, i + 1, l, HD0.out, rfl, by go_num, HO1, HB2, hs1⟩
    case round =>
      obtain ⟨p, q, m, hD, rfl, rfl, HOr, HBr, hsr⟩ := hrel
      have hmn : m.length = n := by rw [hD.1]; exact HN.out
      have hpq := hD.2.1
      have hqn : q ≤ n := by have := hD.2.2.1; rw [HN.out] at this; exact this
      have HD := hide hD
      clear hD
      by_cases hlt : q < n
      · have hlti : (q : Int) < (n : Int) := Int.ofNat_lt.2 hlt
        have hpn : p < n := Nat.lt_trans hpq hlt
        have hpni : (p : Int) < (n : Int) := Int.ofNat_lt.2 hpn
        obtain ⟨hw3, hw4⟩ := idx_w n q hlt hl
        obtain ⟨hw5, hw6⟩ := idx_w n p hpn hl
        obtain ⟨ad, had, x0, x1, x2, x3, x4⟩ := RdM.at5 HOr.rdl q (by rw [hmn]; exact hlt)
        injection had with had
        subst had
        rw [HD.out.at_ (by rw [HN.out]; exact hlt)] at x0 x1 x2 x3 x4
        simp only [add_plain] at x0 x1 x2 x3 x4
        obtain ⟨y, hy⟩ : ∃ y, l.getD q zMet = y := ⟨_, rfl⟩
        have HY := hide hy
        rw [hy] at x0 x1 x2 x3 x4
        have bA := below_alloc wr (mbo y)
        have hE := Mb.new wr y
        have hC := hcl (wr.alloc (mbo y)) y (HBr.alloc hsr (mbo y)) (Nat.le_trans hsr bA.size)
        obtain ⟨b, hb⟩ : ∃ b, out y = b := ⟨_, rfl⟩
        rw [hb] at hC
        have HBB := hide hb
        have HMN := hide hmn
        obtain ⟨e0, e1, e2, e3, e4⟩ := hE.read
        clear hb hy hmn hcl
        cases b
        · go_wp2_with (first | (go_at_call 52; (with_reducible refine hC.mono ?_); rintro e w6 ⟨rfl, HB6⟩; have HBt := stq bA HB6; have HO6 := HOr.below HBt; have HB7 := HBr.trans (HBt.mono hsr); have hs7 := Nat.le_trans hsr HBt.size; obtain ⟨f0, f1, f2, f3, f4⟩ := (hE.below HB6).read; have HONE : Hid (∀ u ∈ [Value.int .i64 y.1, .int .i64 y.2.1, .int .i64 y.2.2.1, .string y.2.2.2.1, .string y.2.2.2.2], u.oneCell' = true) := hide (by intro u hu; simp only [List.mem_cons, List.not_mem_nil, or_false] at hu; rcases hu with rfl | rfl | rfl | rfl | rfl <;> rfl)) | (refine store_ow (P := Try.prog) kMet zMet (w0 := w0) base rfl rfl 55 (.tmp 33) (.tmp 32) rfl 55 (g := g) (n := n) (cap := c) p m y (.agg #[.int .i64 y.1, .int .i64 y.2.1, .int .i64 y.2.2.1, .string y.2.2.2.1, .string y.2.2.2.2]) [.int .i64 y.1, .int .i64 y.2.1, .int .i64 y.2.2.1, .string y.2.2.2.1, .string y.2.2.2.2] (by rfl) (by rfl) rfl rfl HONE.out rfl (kMet_M _ _ _ y) HO6 hpn HB7 ?_; intro w10 HOl2 HB10 HG10))
          have hs10 : base ≤ w10.heap.size := Nat.le_trans hs7 HG10.size
          go_roundw
          case rel => exact ⟨p + 1, q + 1, _, (by have := HD.out.keep (by rw [HN.out]; exact hlt) (by rw [HY.out]; exact HBB.out); rw [HY.out] at this; exact this), by go_num, by go_num, HOl2, HB10, hs10⟩
          case measure => first | exact idx_m n q hlt | exact idx_m2 n q hlt | exact idx_m3 n q hlt hw3
        · go_wp2_with (first | (go_at_call 52; (with_reducible refine hC.mono ?_); rintro e w6 ⟨rfl, HB6⟩; have HBt := stq bA HB6; have HO6 := HOr.below HBt; have HB7 := HBr.trans (HBt.mono hsr); have hs7 := Nat.le_trans hsr HBt.size))
          go_roundw
          case rel => exact ⟨p, q + 1, m, HD.out.out_ (by rw [HN.out]; exact hlt) (by rw [HY.out]; exact HBB.out), by go_num, by go_num, HO6, HB7, hs7⟩
          case measure => first | exact idx_m n q hlt | exact idx_m2 n q hlt | exact idx_m3 n q hlt hw3
      · obtain rfl : q = n := Nat.le_antisymm hqn (Nat.not_lt.1 hlt)
        have hqc : q ≤ c := by have := HOr.rdl.1; rw [hmn] at this; exact this
        obtain ⟨W', hrun, HB9, HR9⟩ := clear_tail HOr hmn hpq hgb HBr
        have hsl := fun W => sliceK_lo (P := Try.prog) 32 55 Try.underlying32 (i := _) rfl 5 rfl (some ⟨g, 0, none⟩) q c p (Nat.le_of_lt hpq) W
        have hcut : cutK 5 (some (⟨g, 0, none⟩ : Addr)) c p = some ⟨g, p * 5, none⟩ := by rw [cutK, if_neg (by omega)]; show some ((⟨g, 0, none⟩ : Addr).add (p * 5)) = _; rw [add_plain]
        rw [hcut] at hsl
        have hsl2 := fun W => sliceK_hi (P := Try.prog) 32 55 Try.underlying32 (i := _) rfl (some ⟨g, 0, none⟩) q c p (by omega) W
        have hDn := HD.out
        rw [← HN.out] at hDn
        obtain ⟨r1, r2⟩ := hDn.end_
        clear hDn
        have R1 := hide r1
        have R2 := hide r2
        clear r1 r2 hcut hcl HD0
        go_wp2
        go_ret
        rw [← R1.out]
        exact ⟨_, p, c, rfl, by rw [R1.out]; exact R2.out, HR9, HB9⟩
end Go.Proofs.Ytbhhnlgpbhbcmaa
end

section
/- IndexFunc and DeleteFunc by (tickler/pick.span).touched$1, walked. -/
namespace Go.Proofs.Ytbhhnlgpbhbcmaa
open Go.RowKit Go.Proofs.YtbhhnlgpbhbcmaaW.PrintWords
set_option linter.unusedVariables false

theorem idx_nto (out : Met → Bool) (l : List Met) (k : Nat) (h : ∀ j, j < k → out (l.getD j zMet) = false) (hk : out (l.getD k zMet) = false) : ∀ j, j < k + 1 → out (l.getD j zMet) = false := by
  intro j hj
  rcases Nat.lt_or_ge j k with h2 | h2
  · exact h j h2
  · obtain rfl : j = k := by omega
    exact hk
set_option maxRecDepth 100000 in
set_option maxHeartbeats 1600000 in
theorem Idx_to (out : Met → Bool) (P1 : Value) (A : Option Addr) (c n : Nat) (l : List Met) (w : World) (hn : l.length = n) (hr : RdM w A c l) (hl : n ≤ 140737488351232)
    (hcl : ∀ W x, Below w.heap.size w W → Calls Try.prog 42 #[mbv x, P1] W fun e W' => e = .returned (.bool (out x)) ∧ Below W.heap.size W W') :
    Calls Try.prog 53 #[.slice A n c, .func (.func 42) #[] #[P1]] w fun e w' => ((e = .returned (.int .i64 (-1)) ∧ ∀ k, k < n → out (l.getD k zMet) = false) ∨ ∃ i : Nat, e = .returned (.int .i64 (i : Int)) ∧ i < n ∧ (∀ k, k < i → out (l.getD k zMet) = false) ∧ out (l.getD i zMet) = true) ∧ Below w.heap.size w w' := by
  have HN := hide hn
  clear hn
  go_enter Try.func53, Try.ntmps53
  go_wp2
  go_loopw [8] (fun iv wr => ∃ k : Nat, k ≤ n ∧ iv = .int .i64 (k : Int) ∧ (∀ j, j < k → out (l.getD j zMet) = false) ∧ Below w.heap.size w wr) (fun iv _ => n - (intOf iv).toNat)
  case atStart => exact ⟨0, Nat.zero_le _, rfl, fun j h => absurd h (Nat.not_lt_zero _), Below.refl _ _⟩
  case round =>
    obtain ⟨k, hk, rfl, hlo, HB⟩ := hrel
    have HLO := hide hlo
    clear hlo
    by_cases hlt : k < n
    · have hlti : (k : Int) < (n : Int) := Int.ofNat_lt.2 hlt
      obtain ⟨hw1, hw2⟩ := idx_w n k hlt hl
      obtain ⟨ad, rfl, x0, x1, x2, x3, x4⟩ := RdM.at5 (hr.below HB) k (by rw [HN.out]; exact hlt)
      obtain ⟨y, hy⟩ : ∃ y, l.getD k zMet = y := ⟨_, rfl⟩
      have HY := hide hy
      rw [hy] at x0 x1 x2 x3 x4
      have hC := hcl wr y HB
      obtain ⟨b, hb⟩ : ∃ b, out y = b := ⟨_, rfl⟩
      rw [hb] at hC
      have HBB := hide hb
      clear hb hy hcl hr
      cases b
      · go_wp2_with (first | (go_at_call 42; (with_reducible refine hC.mono ?_); rintro e w6 ⟨rfl, HB6⟩))
        go_roundw
        case rel => exact ⟨k + 1, hlt, by go_num, idx_nto out l k HLO.out (by rw [HY.out]; exact HBB.out), stq HB HB6⟩
        case measure => first | exact idx_m n k hlt | exact idx_m2 n k hlt | exact idx_m3 n k hlt hw1
      · go_wp2_with (first | (go_at_call 42; (with_reducible refine hC.mono ?_); rintro e w6 ⟨rfl, HB6⟩))
        go_ret
        exact ⟨.inr ⟨k, rfl, hlt, HLO.out, by rw [HY.out]; exact HBB.out⟩, stq HB HB6⟩
    · obtain rfl : k = n := Nat.le_antisymm hk (Nat.not_lt.1 hlt)
      clear hcl hr
      go_wp2
      go_ret
      exact ⟨.inl ⟨rfl, HLO.out⟩, HB⟩
set_option maxRecDepth 100000 in
set_option maxHeartbeats 3200000 in
theorem Del_to (out : Met → Bool) (P1 : Value) (A : Option Addr) (c n base : Nat) (l : List Met) (w0 w : World) (hn : l.length = n) (HO : OwM w base (.slice A n c) l) (HB : Below base w0 w) (hs : base ≤ w.heap.size) (hl : n ≤ 140737488351232)
    (hcl : ∀ W x, Below base w0 W → base ≤ W.heap.size → Calls Try.prog 42 #[mbv x, P1] W fun e W' => e = .returned (.bool (out x)) ∧ Below W.heap.size W W') :
    Calls Try.prog 41 #[.slice A n c, .func (.func 42) #[] #[P1]] w fun e w' => ∃ A' m' c', e = .returned (.slice A' m' c') ∧ (l.filter (fun x => !out x)).length = m' ∧ OwM w' base (.slice A' m' c') (l.filter (fun x => !out x)) ∧ Below base w0 w' := by
  have hI := Idx_to out P1 A c n l w hn HO.rdl hl (fun W x h => hcl W x (HB.trans (h.mono hs)) (Nat.le_trans hs h.size))
  have HN := hide hn
  have HALL := hide (filter_keep_all out l)
  have HST := hide (DelI.start out l)
  have HOW := HO
  clear hn
  go_enter Try.func41, Try.ntmps41
  go_wp2_with (first | (go_at_call 53; (with_reducible refine hI.mono ?_); rintro e w1 ⟨he, HB1⟩; rcases he with ⟨rfl, hall⟩ | ⟨i, rfl, hi, hlo, hoi⟩))
  · have e1 : l.filter (fun x => !out x) = l := by
      have h := HALL.out n (Nat.le_of_eq HN.out.symm) hall
      rw [← HN.out, List.take_length] at h
      exact h
    clear hall
    go_wp2
    go_ret
    rw [e1]
    exact ⟨A, n, c, rfl, HN.out, HOW.below HB1, HB.trans (HB1.mono hs)⟩
  · have hD0 := HST.out i (by rw [HN.out]; exact hi) hlo hoi
    have HD0 := hide hD0
    have h1i : ¬ (i : Int) = -1 := by omega
    have h1b : ((i : Int) == -1) = false := beq_eq_false_iff_ne.2 h1i
    have hii : (i : Int) < (n : Int) := Int.ofNat_lt.2 hi
    obtain ⟨hw1, hw2⟩ := idx_w n i hi hl
    obtain ⟨g, rfl, hgb, hgl⟩ := HO.head (Nat.lt_of_le_of_lt (Nat.zero_le _) hi)
    have HO1 := HO.below HB1
    have HB2 := HB.trans (HB1.mono hs)
    have hs1 := Nat.le_trans hs HB1.size
    clear hD0 hlo hoi HOW HO hI HB
    go_wp2
    simp only [h1b]
    go_loopw [5, 6] (fun iv jv wr => ∃ (p q : Nat) (m : List Met), DelI out l m p q ∧ iv = .int .i64 (p : Int) ∧ jv = .int .i64 (q : Int) ∧ OwM wr base (.slice (some ⟨g, 0, none⟩) n c) m ∧ Below base w0 wr ∧ base ≤ wr.heap.size) (fun iv jv _ => n - (intOf jv).toNat)
    case atStart => exact ⟨i, i + 1, l, HD0.out, rfl, by go_num, HO1, HB2, hs1⟩
    case round =>
      obtain ⟨p, q, m, hD, rfl, rfl, HOr, HBr, hsr⟩ := hrel
      have hmn : m.length = n := by rw [hD.1]; exact HN.out
      have hpq := hD.2.1
      have hqn : q ≤ n := by have := hD.2.2.1; rw [HN.out] at this; exact this
      have HD := hide hD
      clear hD
      by_cases hlt : q < n
      · have hlti : (q : Int) < (n : Int) := Int.ofNat_lt.2 hlt
        have hpn : p < n := Nat.lt_trans hpq hlt
        have hpni : (p : Int) < (n : Int) := Int.ofNat_lt.2 hpn
        obtain ⟨hw3, hw4⟩ := idx_w n q hlt hl
        obtain ⟨hw5, hw6⟩ := idx_w n p hpn hl
        obtain ⟨ad, had, x0, x1, x2, x3, x4⟩ := RdM.at5 HOr.rdl q (by rw [hmn]; exact hlt)
        injection had with had
        subst had
        rw [HD.out.at_ (by rw [HN.out]; exact hlt)] at x0 x1 x2 x3 x4
        simp only [add_plain] at x0 x1 x2 x3 x4
        obtain ⟨y, hy⟩ : ∃ y, l.getD q zMet = y := ⟨_, rfl⟩
        have HY := hide hy
        rw [hy] at x0 x1 x2 x3 x4
        have bA := below_alloc wr (mbo y)
        have hE := Mb.new wr y
        have hC := hcl (wr.alloc (mbo y)) y (HBr.alloc hsr (mbo y)) (Nat.le_trans hsr bA.size)
        obtain ⟨b, hb⟩ : ∃ b, out y = b := ⟨_, rfl⟩
        rw [hb] at hC
        have HBB := hide hb
        have HMN := hide hmn
        obtain ⟨e0, e1, e2, e3, e4⟩ := hE.read
        clear hb hy hmn hcl
        cases b
        · go_wp2_with (first | (go_at_call 42; (with_reducible refine hC.mono ?_); rintro e w6 ⟨rfl, HB6⟩; have HBt := stq bA HB6; have HO6 := HOr.below HBt; have HB7 := HBr.trans (HBt.mono hsr); have hs7 := Nat.le_trans hsr HBt.size; obtain ⟨f0, f1, f2, f3, f4⟩ := (hE.below HB6).read; have HONE : Hid (∀ u ∈ [Value.int .i64 y.1, .int .i64 y.2.1, .int .i64 y.2.2.1, .string y.2.2.2.1, .string y.2.2.2.2], u.oneCell' = true) := hide (by intro u hu; simp only [List.mem_cons, List.not_mem_nil, or_false] at hu; rcases hu with rfl | rfl | rfl | rfl | rfl <;> rfl)) | (refine store_ow (P := Try.prog) kMet zMet (w0 := w0) base rfl rfl 55 (.tmp 33) (.tmp 32) rfl 55 (g := g) (n := n) (cap := c) p m y (.agg #[.int .i64 y.1, .int .i64 y.2.1, .int .i64 y.2.2.1, .string y.2.2.2.1, .string y.2.2.2.2]) [.int .i64 y.1, .int .i64 y.2.1, .int .i64 y.2.2.1, .string y.2.2.2.1, .string y.2.2.2.2] (by rfl) (by rfl) rfl rfl HONE.out rfl (kMet_M _ _ _ y) HO6 hpn HB7 ?_; intro w10 HOl2 HB10 HG10))
          have hs10 : base ≤ w10.heap.size := Nat.le_trans hs7 HG10.size
          go_roundw
          case rel => exact ⟨p + 1, q + 1, _, (by have := HD.out.keep (by rw [HN.out]; exact hlt) (by rw [HY.out]; exact HBB.out); rw [HY.out] at this; exact this), by go_num, by go_num, HOl2, HB10, hs10⟩
          case measure => first | exact idx_m n q hlt | exact idx_m2 n q hlt | exact idx_m3 n q hlt hw3
        · go_wp2_with (first | (go_at_call 42; (with_reducible refine hC.mono ?_); rintro e w6 ⟨rfl, HB6⟩; have HBt := stq bA HB6; have HO6 := HOr.below HBt; have HB7 := HBr.trans (HBt.mono hsr); have hs7 := Nat.le_trans hsr HBt.size))
          go_roundw
          case rel => exact ⟨p, q + 1, m, HD.out.out_ (by rw [HN.out]; exact hlt) (by rw [HY.out]; exact HBB.out), by go_num, by go_num, HO6, HB7, hs7⟩
          case measure => first | exact idx_m n q hlt | exact idx_m2 n q hlt | exact idx_m3 n q hlt hw3
      · obtain rfl : q = n := Nat.le_antisymm hqn (Nat.not_lt.1 hlt)
        have hqc : q ≤ c := by have := HOr.rdl.1; rw [hmn] at this; exact this
        obtain ⟨W', hrun, HB9, HR9⟩ := clear_tail HOr hmn hpq hgb HBr
        have hsl := fun W => sliceK_lo (P := Try.prog) 32 55 Try.underlying32 (i := _) rfl 5 rfl (some ⟨g, 0, none⟩) q c p (Nat.le_of_lt hpq) W
        have hcut : cutK 5 (some (⟨g, 0, none⟩ : Addr)) c p = some ⟨g, p * 5, none⟩ := by rw [cutK, if_neg (by omega)]; show some ((⟨g, 0, none⟩ : Addr).add (p * 5)) = _; rw [add_plain]
        rw [hcut] at hsl
        have hsl2 := fun W => sliceK_hi (P := Try.prog) 32 55 Try.underlying32 (i := _) rfl (some ⟨g, 0, none⟩) q c p (by omega) W
        have hDn := HD.out
        rw [← HN.out] at hDn
        obtain ⟨r1, r2⟩ := hDn.end_
        clear hDn
        have R1 := hide r1
        have R2 := hide r2
        clear r1 r2 hcut hcl HD0
        go_wp2
        go_ret
        rw [← R1.out]
        exact ⟨_, p, c, rfl, by rw [R1.out]; exact R2.out, HR9, HB9⟩
end Go.Proofs.Ytbhhnlgpbhbcmaa
end

section
/- Spans of keys: what touches one, what one is with another table; the closures. -/
namespace Go.Proofs.Ytbhhnlgpbhbcmaa
open Go.RowKit Go.Proofs.YtbhhnlgpbhbcmaaW.PrintWords
set_option linter.unusedVariables false

theorem le_or (s t : ByteArray) : (Op.bytesLess s.toList t.toList || (s.toList == t.toList)) = leB s t := by
  rw [less_bl, same_bl, leB]
  rcases lt_tri (bl s) (bl t) with h | h | h
  · rw [decide_eq_true h, decide_eq_false (lt_as h)]; rfl
  · rw [h, decide_eq_false (lt_ir _), decide_eq_true rfl]; rfl
  · rw [decide_eq_false (lt_as h), decide_eq_false (fun e => by rw [e] at h; exact lt_ir _ h), decide_eq_true h]; rfl
def minS (s t : ByteArray) : ByteArray := if leB s t = true then s else t
def maxS (s t : ByteArray) : ByteArray := if leB t s = true then s else t
theorem run_minS (s t : ByteArray) : ∀ tys ty W, (Builtin.min_ tys ty #[.string s, .string t]).run Try.prog W = .ok (.string (minS s t)) W := by
  intro tys ty W
  have e0 : Builtin.min_ tys ty #[.string s, .string t] = Builtin.min2 (.string s) (.string t) := by simp [Builtin.min_]
  have e1 : Builtin.min2 (.string s) (.string t) = (pure (.string (if (Op.bytesLess s.toList t.toList || (s.toList == t.toList)) = true then s else t)) : Sem Value) := by simp [Builtin.min2, Op.stringOp, asBool]
  rw [e0, e1, le_or]
  rfl
theorem run_maxS (s t : ByteArray) : ∀ tys ty W, (Builtin.max_ tys ty #[.string s, .string t]).run Try.prog W = .ok (.string (maxS s t)) W := by
  intro tys ty W
  have e0 : Builtin.max_ tys ty #[.string s, .string t] = Builtin.max2 (.string s) (.string t) := by simp [Builtin.max_]
  have e1 : Builtin.max2 (.string s) (.string t) = (pure (.string (if (!Op.bytesLess s.toList t.toList) = true then s else t)) : Sem Value) := by simp [Builtin.max2, Op.stringOp, asBool]
  rw [e0, e1, less_bl]
  rfl
def touchM (a b : ByteArray) (x : Met) : Bool := leB a b && (leB x.2.2.2.1 b && leB a x.2.2.2.2)
abbrev spv (a b : ByteArray) : Value := .agg #[.string a, .string b]
theorem spbox (w : World) (a b : ByteArray) (x : Met) : Below w.heap.size w ((w.alloc (.cells #[.string a, .string b] 61)).alloc (mbo x)) ∧ ((w.alloc (.cells #[.string a, .string b] 61)).alloc (mbo x)).cell? ⟨w.heap.size, 0, none⟩ = some (.string a) ∧ ((w.alloc (.cells #[.string a, .string b] 61)).alloc (mbo x)).cell? ⟨w.heap.size, 1, none⟩ = some (.string b) ∧ Mb ((w.alloc (.cells #[.string a, .string b] 61)).alloc (mbo x)) (w.heap.size + 1) x := by
  have b1 := below_alloc w (.cells #[.string a, .string b] 61)
  have b2 := below_alloc (w.alloc (.cells #[.string a, .string b] 61)) (mbo x)
  have h1 := heap_alloc_new w (.cells #[.string a, .string b] 61)
  have h2 := (b2.block _ (blk_lt h1)).trans h1
  have s1 : (w.alloc (.cells #[.string a, .string b] 61)).heap.size = w.heap.size + 1 := World.size_alloc _ _
  have M := Mb.new (w.alloc (.cells #[.string a, .string b] 61)) x
  rw [s1] at M
  exact ⟨stq b1 b2, blk_cell h2 0, blk_cell h2 1, M⟩
set_option maxRecDepth 100000 in
set_option maxHeartbeats 1600000 in
theorem touches_any (a b : ByteArray) (x : Met) (w : World) : Calls Try.prog 43 #[spv a b, mbv x] w fun e w' => e = .returned (.bool (touchM a b x)) ∧ Below w.heap.size w w' := by
  obtain ⟨HB, p0, p1, hM⟩ := spbox w a b x
  obtain ⟨id, lev, cnt, lo, hi⟩ := x
  obtain ⟨x0, x1, x2, x3, x4⟩ := hM.read
  have l1 := le_or a b
  have l2 := le_or lo b
  have l3 := le_or a hi
  rw [show touchM a b (id, lev, cnt, lo, hi) = (leB a b && (leB lo b && leB a hi)) from rfl]
  generalize leB a b = p at *
  generalize leB lo b = q at *
  generalize leB a hi = r at *
  clear hM
  cases p
  · clear l2 l3
    go_enter Try.func43, Try.ntmps43
    go_wp2
    go_ret
    exact ⟨by first | rfl | simp, HB⟩
  · cases q
    · clear l3
      go_enter Try.func43, Try.ntmps43
      go_wp2
      go_ret
      exact ⟨by first | rfl | simp, HB⟩
    · go_enter Try.func43, Try.ntmps43
      go_wp2
      go_ret
      exact ⟨by first | rfl | simp, HB⟩
set_option maxRecDepth 100000 in
set_option maxHeartbeats 1600000 in
theorem with_any (a b : ByteArray) (x : Met) (w : World) : Calls Try.prog 26 #[spv a b, mbv x] w fun e w' => e = .returned (spv (minS a x.2.2.2.1) (maxS b x.2.2.2.2)) ∧ Below w.heap.size w w' := by
  obtain ⟨HB, p0, p1, hM⟩ := spbox w a b x
  obtain ⟨id, lev, cnt, lo, hi⟩ := x
  have hmin := run_minS a lo
  have hmax := run_maxS b hi
  have s2 : ((w.alloc (.cells #[.string a, .string b] 61)).alloc (mbo (id, lev, cnt, lo, hi))).heap.size = w.heap.size + 1 + 1 := by rw [World.size_alloc, World.size_alloc]
  have HB3 := stq HB (below_alloc ((w.alloc (.cells #[.string a, .string b] 61)).alloc (mbo (id, lev, cnt, lo, hi))) (.cells #[.string ⟨#[]⟩, .string ⟨#[]⟩] 61))
  have b3 := below_alloc ((w.alloc (.cells #[.string a, .string b] 61)).alloc (mbo (id, lev, cnt, lo, hi))) (.cells #[.string ⟨#[]⟩, .string ⟨#[]⟩] 61)
  have q0 := (b3.cell (World.block_lt_of_cell? _ _ p0)).trans p0
  have q1 := (b3.cell (World.block_lt_of_cell? _ _ p1)).trans p1
  have hM3 := hM.below b3
  have G := heap_alloc_new ((w.alloc (.cells #[.string a, .string b] 61)).alloc (mbo (id, lev, cnt, lo, hi))) (.cells #[.string ⟨#[]⟩, .string ⟨#[]⟩] 61)
  obtain ⟨x0, x1, x2, x3, x4⟩ := hM3.read
  show Calls _ _ _ _ fun e w' => e = .returned (spv (minS a lo) (maxS b hi)) ∧ _
  generalize minS a lo = u at *
  generalize maxS b hi = v at *
  clear hM hM3 p0 p1
  go_enter Try.func26, Try.ntmps26
  go_wp2
  have hF := heap_alloc_new ((w.alloc (.cells #[.string a, .string b] 61)).alloc (mbo (id, lev, cnt, lo, hi))) (.cells #[.string u, .string v] 61)
  have HBF := stq HB (below_alloc ((w.alloc (.cells #[.string a, .string b] 61)).alloc (mbo (id, lev, cnt, lo, hi))) (.cells #[.string u, .string v] 61))
  rw [s2] at hF
  exact bodyPost_ret (v := spv u v) (results_cell_row Try.results26 _ _ (w.heap.size + 1 + 1) _ _ _ _ rfl hF Try.underlying61 rfl rfl) rfl ⟨rfl, HBF⟩
theorem at1_any (lv : Int) (b1 : Nat) (x : Met) (w : World) (h1 : w.cell? ⟨b1, 0, none⟩ = some (.int .i64 lv)) : Calls Try.prog 52 #[mbv x, .pointer (some ⟨b1, 0, none⟩)] w fun e w' => e = .returned (.bool (!decide (x.2.1 = lv))) ∧ Below w.heap.size w w' := by
  obtain ⟨id, lev, cnt, lo, hi⟩ := x
  have hX := Mb.new w (id, lev, cnt, lo, hi)
  have bX := below_alloc w (mbo (id, lev, cnt, lo, hi))
  obtain ⟨x0, x1, x2, x3, x4⟩ := hX.read
  have c1 := (bX.cell (World.block_lt_of_cell? _ _ h1)).trans h1
  show Calls _ _ _ _ fun e w' => e = .returned (.bool (!decide (lev = lv))) ∧ _
  clear h1 hX
  by_cases h : lev = lv
  · subst h
    rw [decide_eq_true rfl]
    go_enter Try.func52, Try.ntmps52
    go_wp2
    go_ret
    exact ⟨by first | rfl | simp, bX⟩
  · have hb : (lev == lv) = false := beq_eq_false_iff_ne.2 h
    rw [decide_eq_false h]
    go_enter Try.func52, Try.ntmps52
    go_wp2
    go_ret
    exact ⟨by first | rfl | simp [h] | simp, bX⟩
set_option maxRecDepth 100000 in
set_option maxHeartbeats 1600000 in
theorem to1_any (a b : ByteArray) (b1 : Nat) (x : Met) (w : World) (h1 : w.cell? ⟨b1, 0, none⟩ = some (.string a)) (h2 : w.cell? ⟨b1, 1, none⟩ = some (.string b)) : Calls Try.prog 42 #[mbv x, .pointer (some ⟨b1, 0, none⟩)] w fun e w' => e = .returned (.bool (!touchM a b x)) ∧ Below w.heap.size w w' := by
  have hX := Mb.new w x
  have bX := below_alloc w (mbo x)
  obtain ⟨x0, x1, x2, x3, x4⟩ := hX.read
  have c1 := (bX.cell (World.block_lt_of_cell? _ _ h1)).trans h1
  have c2 := (bX.cell (World.block_lt_of_cell? _ _ h2)).trans h2
  have hT := fun W => touches_any a b x W
  generalize touchM a b x = r at *
  clear h1 h2 hX
  go_enter Try.func42, Try.ntmps42
  go_wp2_with (first | (go_at_call 43; (with_reducible refine (hT _).mono ?_); rintro e w6 ⟨rfl, HB6⟩))
  go_ret
  exact ⟨by first | rfl | simp, stq bX HB6⟩
end Go.Proofs.Ytbhhnlgpbhbcmaa
end

section
/- Tables of a level; what a span touches; their numbers. -/
namespace Go.Proofs.Ytbhhnlgpbhbcmaa
open Go.RowKit Go.Proofs.YtbhhnlgpbhbcmaaW.PrintWords
set_option linter.unusedVariables false

def atM (lv : Int) (l : List Met) : List Met := l.filter (fun x => decide (x.2.1 = lv))
def toM (a b : ByteArray) (l : List Met) : List Met := l.filter (fun x => touchM a b x)
theorem atM_eq (lv : Int) (l : List Met) : l.filter (fun x => !(!decide (x.2.1 = lv))) = atM lv l := by simp only [Bool.not_not]; rfl
theorem toM_eq (a b : ByteArray) (l : List Met) : l.filter (fun x => !(!touchM a b x)) = toM a b l := by simp only [Bool.not_not]; rfl
theorem atM_len (lv : Int) (l : List Met) : (atM lv l).length ≤ l.length := List.length_filter_le _ _
theorem toM_len (a b : ByteArray) (l : List Met) : (toM a b l).length ≤ l.length := List.length_filter_le _ _
abbrev verV (A : Option Addr) (n c : Nat) (seq nx : Int) : Value := .agg #[.slice A n c, .int .i64 seq, .int .i64 nx]
abbrev verO (A : Option Addr) (n c : Nat) (seq nx : Int) : Obj := .cells #[.slice A n c, .int .i64 seq, .int .i64 nx] 34
theorem box2 (w : World) (A : Option Addr) (n c : Nat) (seq nx lv : Int) : Below w.heap.size w ((w.alloc (verO A n c seq nx)).alloc (.cells #[.int .i64 lv] 3)) ∧ Tb ((w.alloc (verO A n c seq nx)).alloc (.cells #[.int .i64 lv] 3)) w.heap.size A n c seq nx ∧ ((w.alloc (verO A n c seq nx)).alloc (.cells #[.int .i64 lv] 3)).cell? ⟨w.heap.size + 1, 0, none⟩ = some (.int .i64 lv) := by
  have b1 := below_alloc w (verO A n c seq nx)
  have b2 := below_alloc (w.alloc (verO A n c seq nx)) (.cells #[.int .i64 lv] 3)
  have h1 : Tb (w.alloc (verO A n c seq nx)) w.heap.size A n c seq nx := heap_alloc_new w (verO A n c seq nx)
  have h2 := heap_alloc_new (w.alloc (verO A n c seq nx)) (.cells #[.int .i64 lv] 3)
  have s1 : (w.alloc (verO A n c seq nx)).heap.size = w.heap.size + 1 := World.size_alloc _ _
  rw [s1] at h2
  exact ⟨stq b1 b2, h1.below b2, blk_cell h2 0⟩
set_option maxRecDepth 100000 in
set_option maxHeartbeats 3200000 in
theorem At_any (A : Option Addr) (c n : Nat) (seq nx lv : Int) (l : List Met) (w : World) (hn : l.length = n) (hr : RdM w A c l) (hf : ∀ x ∈ l, fitI x.1) (hl : l.length * 56 ≤ 140737488351232) :
    Calls Try.prog 39 #[verV A n c seq nx, .int .i64 lv] w fun e w' => ((chkM l seq nx ≠ 0 ∧ e = .returned (.tuple #[.slice none 0 0, .int .i64 (chkM l seq nx)])) ∨ (chkM l seq nx = 0 ∧ ∃ A' m' c', e = .returned (.tuple #[.slice A' m' c', .int .i64 0]) ∧ (atM lv l).length = m' ∧ OwM w' w.heap.size (.slice A' m' c') (atM lv l))) ∧ Below w.heap.size w w' := by
  obtain ⟨B2, T2, k2⟩ := box2 w A n c seq nx lv
  have hn48 : n ≤ 140737488351232 := by omega
  have hCk := fun W (h : RdM W A c l) => check_any A c n seq nx l W hn h hf hn48
  have hCl := fun W (h : RdM W A c l) => CloneM_any A c n l W hn h hl
  have hDl := fun (P1 : Value) (A : Option Addr) (c base : Nat) (w0 w : World) => Del_at (fun x => !decide (x.2.1 = lv)) P1 A c n base l w0 w hn
  simp only [atM_eq] at hDl
  have hOu := fun b1 x W h1 => at1_any lv b1 x W h1
  have HN := hide hn
  have rr := hr.below B2
  obtain ⟨t0, t1, t2⟩ := T2.read
  by_cases hz : chkM l seq nx = 0
  · rw [hz] at hCk ⊢
    clear hz hr hn hf
    go_enter Try.func39, Try.ntmps39
    go_wp2_with (first | (go_at_call 33; (with_reducible refine (hCk _ rr).mono ?_); rintro e w1 ⟨rfl, HB1⟩; have r1 := rr.below HB1; have C1 := stq B2 HB1; have T1 := T2.below HB1; obtain ⟨t10, t11, t12⟩ := T1.read; have k11 := (HB1.cell (World.block_lt_of_cell? _ _ k2)).trans k2) | (go_at_call 51; (with_reducible refine (hCl _ r1).mono ?_); rintro e w2 ⟨v2, rfl, O2, HB2⟩; obtain ⟨A2, c2, hv2, r2⟩ := O2.rd; rw [HN.out] at hv2; subst hv2; have hcl2 : ∀ W x, Below w1.heap.size w1 W → w1.heap.size ≤ W.heap.size → _ := (fun W x h _ => hOu _ x W ((h.cell (World.block_lt_of_cell? _ _ k11)).trans k11))) | (go_at_call 41; refine (hDl _ A2 c2 w1.heap.size w1 w2 O2 HB2 HB2.size hn48 hcl2).mono ?_; rintro e w3 ⟨A3, m3, c3, rfl, hm3, O3, HB3⟩))
    go_ret2
    exact ⟨.inr ⟨by first | rfl | trivial, A3, m3, c3, rfl, hm3, O3.lower C1.size⟩, C1.trans (HB3.mono C1.size)⟩
  · generalize chkM l seq nx = z at *
    have hzb : (z == 0) = false := beq_eq_false_iff_ne.2 hz
    clear hr hn hf
    go_enter Try.func39, Try.ntmps39
    go_wp2_with (first | (go_at_call 33; (with_reducible refine (hCk _ rr).mono ?_); rintro e w1 ⟨rfl, HB1⟩; have C1 := stq B2 HB1))
    go_ret2
    exact ⟨.inl ⟨hz, rfl⟩, C1⟩
set_option maxRecDepth 100000 in
set_option maxHeartbeats 1600000 in
theorem PAt_any (A : Option Addr) (c n : Nat) (seq nx lv : Int) (l : List Met) (w : World) (hn : l.length = n) (hr : RdM w A c l) (hf : ∀ x ∈ l, fitI x.1) (hl : l.length * 56 ≤ 140737488351232) (hz : chkM l seq nx = 0) :
    Calls Try.prog 22 #[verV A n c seq nx, .int .i64 lv] w fun e w' => ∃ A' m' c', e = .returned (.slice A' m' c') ∧ (atM lv l).length = m' ∧ OwM w' w.heap.size (.slice A' m' c') (atM lv l) ∧ Below w.heap.size w w' := by
  have b1 := below_alloc w (verO A n c seq nx)
  have T1 : Tb (w.alloc (verO A n c seq nx)) w.heap.size A n c seq nx := heap_alloc_new w (verO A n c seq nx)
  obtain ⟨t0, t1, t2⟩ := T1.read
  have hA := fun W (h : RdM W A c l) => At_any A c n seq nx lv l W hn h hf hl
  simp only [hz, ne_eq, not_true, false_and, false_or, true_and] at hA
  have rr := hr.below b1
  clear hz hr hn hf
  go_enter Try.func22, Try.ntmps22
  go_wp2_with (first | (go_at_call 39; (with_reducible refine (hA _ rr).mono ?_); rintro e w2 ⟨⟨A2, m2, c2, rfl, hm2, O2⟩, HB2⟩))
  go_ret
  exact ⟨A2, m2, c2, rfl, hm2, O2.lower b1.size, stq b1 HB2⟩
theorem sbox2 (w : World) (a b : ByteArray) (A : Option Addr) (n c : Nat) (seq nx : Int) : Below w.heap.size w ((w.alloc (.cells #[.string a, .string b] 61)).alloc (verO A n c seq nx)) ∧ ((w.alloc (.cells #[.string a, .string b] 61)).alloc (verO A n c seq nx)).cell? ⟨w.heap.size, 0, none⟩ = some (.string a) ∧ ((w.alloc (.cells #[.string a, .string b] 61)).alloc (verO A n c seq nx)).cell? ⟨w.heap.size, 1, none⟩ = some (.string b) ∧ Tb ((w.alloc (.cells #[.string a, .string b] 61)).alloc (verO A n c seq nx)) (w.heap.size + 1) A n c seq nx := by
  have b1 := below_alloc w (.cells #[.string a, .string b] 61)
  have b2 := below_alloc (w.alloc (.cells #[.string a, .string b] 61)) (verO A n c seq nx)
  have h1 := heap_alloc_new w (.cells #[.string a, .string b] 61)
  have h2 := (b2.block _ (blk_lt h1)).trans h1
  have s1 : (w.alloc (.cells #[.string a, .string b] 61)).heap.size = w.heap.size + 1 := World.size_alloc _ _
  have M : Tb ((w.alloc (.cells #[.string a, .string b] 61)).alloc (verO A n c seq nx)) (w.alloc (.cells #[.string a, .string b] 61)).heap.size A n c seq nx := heap_alloc_new _ (verO A n c seq nx)
  rw [s1] at M
  exact ⟨stq b1 b2, blk_cell h2 0, blk_cell h2 1, M⟩
set_option maxRecDepth 100000 in
set_option maxHeartbeats 1600000 in
theorem touched_any (a b : ByteArray) (A : Option Addr) (c n : Nat) (seq nx lv : Int) (l : List Met) (w : World) (hn : l.length = n) (hr : RdM w A c l) (hf : ∀ x ∈ l, fitI x.1) (hl : l.length * 56 ≤ 140737488351232) (hz : chkM l seq nx = 0) :
    Calls Try.prog 27 #[spv a b, verV A n c seq nx, .int .i64 lv] w fun e w' => ∃ A' m' c', e = .returned (.slice A' m' c') ∧ (toM a b (atM lv l)).length = m' ∧ OwM w' w.heap.size (.slice A' m' c') (toM a b (atM lv l)) ∧ Below w.heap.size w w' := by
  obtain ⟨B2, p0, p1, T2⟩ := sbox2 w a b A n c seq nx
  obtain ⟨t0, t1, t2⟩ := T2.read
  have hA := fun W (h : RdM W A c l) => PAt_any A c n seq nx lv l W hn h hf hl hz
  have hla := atM_len lv l
  have hDl := fun (P1 : Value) (A : Option Addr) (c n base : Nat) (w0 w : World) => Del_to (fun x => !touchM a b x) P1 A c n base (atM lv l) w0 w
  simp only [toM_eq] at hDl
  have hOu := fun b1 x W h1 h2 => to1_any a b b1 x W h1 h2
  have rr := hr.below B2
  have hcl2 : ∀ W x, Below ((w.alloc (.cells #[.string a, .string b] 61)).alloc (verO A n c seq nx)).heap.size ((w.alloc (.cells #[.string a, .string b] 61)).alloc (verO A n c seq nx)) W → ((w.alloc (.cells #[.string a, .string b] 61)).alloc (verO A n c seq nx)).heap.size ≤ W.heap.size → Calls Try.prog 42 #[mbv x, .pointer (some ⟨w.heap.size, 0, none⟩)] W fun e W' => e = .returned (.bool (!touchM a b x)) ∧ Below W.heap.size W W' :=
    fun W x h _ => hOu _ x W ((h.cell (World.block_lt_of_cell? _ _ p0)).trans p0) ((h.cell (World.block_lt_of_cell? _ _ p1)).trans p1)
  have hab : (atM lv l).length ≤ 140737488351232 := by omega
  clear hz hr hn hf hOu hla
  go_enter Try.func27, Try.ntmps27
  go_wp2_with (first | (go_at_call 22; (with_reducible refine (hA _ rr).mono ?_); rintro e w2 ⟨A2, m2, c2, rfl, hm2, O2, HB2⟩; have hmb : m2 ≤ 140737488351232 := by rw [← hm2]; exact hab) | (go_at_call 41; refine (hDl _ A2 c2 m2 _ _ w2 hm2 O2 HB2 HB2.size hmb hcl2).mono ?_; rintro e w3 ⟨A3, m3, c3, rfl, hm3, O3, HB3⟩))
  go_ret
  exact ⟨A3, m3, c3, rfl, hm3, O3.lower B2.size, B2.trans (HB3.mono B2.size)⟩
abbrev OwI := Ow kInt 3
def idsM (l : List Met) : List Int := l.map (fun x => x.1)
theorem ids_next (l : List Met) (k : Nat) (h : k < l.length) : idsM (l.take (k + 1)) = idsM (l.take k) ++ [(l.getD k zMet).1] := by
  rw [take_next l k h, idsM, List.map_append]; rfl
set_option maxRecDepth 100000 in
set_option maxHeartbeats 1600000 in
theorem ids_any (A : Option Addr) (c n : Nat) (l : List Met) (w : World) (hn : l.length = n) (hr : RdM w A c l) (hl : n ≤ 1000000) :
    Calls Try.prog 29 #[.slice A n c] w fun e w' => ∃ v, e = .returned v ∧ OwI w' w.heap.size v (idsM l) ∧ Below w.heap.size w w' := by
  have HN := hide hn
  clear hn
  go_enter Try.func29, Try.ntmps29
  go_wp2
  go_loopw [3, 8] (fun v iv wr => ∃ k : Nat, k ≤ n ∧ iv = .int .i64 (k : Int) ∧ OwI wr w.heap.size v (idsM (l.take k)) ∧ Below w.heap.size w wr) (fun v iv _ => n - (intOf iv).toNat)
  case atStart => exact ⟨0, Nat.zero_le _, rfl, Ow.zero _ _ _ _, Below.refl _ _⟩
  case round =>
    obtain ⟨k, hk, rfl, HO, HB⟩ := hrel
    by_cases hlt : k < n
    · have hlti : (k : Int) < (n : Int) := Int.ofNat_lt.2 hlt
      obtain ⟨hw1, hw2⟩ := idx_w n k hlt (by omega)
      obtain ⟨ad, rfl, x0, x1, x2, x3, x4⟩ := RdM.at5 (hr.below HB) k (by rw [HN.out]; exact hlt)
      have HNX := hide (ids_next l k (by rw [HN.out]; exact hlt))
      obtain ⟨y, hy⟩ : ∃ y, l.getD k zMet = y := ⟨_, rfl⟩
      rw [hy] at x0 x1 x2 x3 x4 HNX
      have b1 := below_alloc wr (mbo y)
      have M1 := Mb.new wr y
      obtain ⟨m0, m1, m2, m3, m4⟩ := M1.read
      have HO1 := HO.below b1
      have HB1 := stq HB b1
      have hb1 : w.heap.size ≤ (wr.alloc (mbo y)).heap.size := HB1.size
      have hlen : ((idsM (l.take k)).length + 1) * 8 ≤ 140737488355328 := by rw [idsM, List.length_map, List.length_take]; omega
      have hsz : (wr.alloc (mbo y)).heap.size = wr.heap.size + 1 := World.size_alloc _ _
      have HSZ := hide hsz
      clear hsz
      generalize idsM (l.take k) = xs at *
      clear hy HO
      go_wp2_with (first | (at_builtin; refine app_int (w0 := w) w.heap.size rfl (.tmp 12) (.tmp 15) rfl u3 xs y.1 rfl (by rw [HSZ.out]; rfl) HO1 HB1 hb1 hlen ?_; intro v1 w1 HO2 HB2 hg hat))
      go_roundw
      case rel => exact ⟨k + 1, hlt, by go_num, by rw [HNX.out]; exact HO2, HB2⟩
      case measure => first | exact idx_m n k hlt | exact idx_m2 n k hlt | exact idx_m3 n k hlt hw1
    · obtain rfl : k = n := Nat.le_antisymm hk (Nat.not_lt.1 hlt)
      rw [← HN.out, List.take_length] at HO
      go_wp2
      go_ret
      exact ⟨_, rfl, HO, HB⟩
end Go.Proofs.Ytbhhnlgpbhbcmaa
end

section
/- Which levels are full; what a span touches. -/
namespace Go.Proofs.Ytbhhnlgpbhbcmaa
open Go.RowKit Go.Proofs.YtbhhnlgpbhbcmaaW.PrintWords
set_option linter.unusedVariables false

theorem okM_good (nx : Int) (l : List Met) (ok0 : Bool) (k : Nat) (h : okM nx l ok0 k = true) : ok0 = true ∧ ∀ j, j < k → goodM nx l j = true := by
  induction k with
  | zero => exact ⟨h, fun j hj => absurd hj (Nat.not_lt_zero _)⟩
  | succ k ih =>
    rw [okM, Bool.and_eq_true] at h
    obtain ⟨h1, h2⟩ := ih h.1
    refine ⟨h1, fun j hj => ?_⟩
    rcases Nat.lt_or_ge j k with h3 | h3
    · exact h2 j h3
    · obtain rfl : j = k := by omega
      exact h.2
theorem chk_facts (l : List Met) (seq nx : Int) (h : chkM l seq nx = 0) : l.length ≤ 256 ∧ ∀ j, j < l.length → goodM nx l j = true := by
  rw [chkM] at h
  have h1 : okM nx l (vokM l.length seq nx) l.length = true := by
    by_cases h2 : okM nx l (vokM l.length seq nx) l.length = true
    · exact h2
    · rw [if_neg h2] at h; exact absurd h (by decide)
  obtain ⟨h2, h3⟩ := okM_good nx l _ _ h1
  rw [vokM, Bool.and_eq_true] at h2
  exact ⟨of_decide_eq_true h2.1, h3⟩
theorem chk_may (l : List Met) (seq nx : Int) (h : chkM l seq nx = 0) (x : Met) (hx : x ∈ l) : mayM x = true := by
  obtain ⟨k, hk, rfl⟩ := List.mem_iff_getElem.1 hx
  have h2 := (chk_facts l seq nx h).2 k hk
  rw [goodM, Bool.and_eq_true, List.getD_eq_getElem?_getD, List.getElem?_eq_getElem hk] at h2
  exact h2.1
theorem may_cnt (x : Met) (h : mayM x = true) : 0 ≤ x.2.2.1 ∧ x.2.2.1 ≤ 4096 := by
  simp only [mayM, wI, Bool.and_eq_true, decide_eq_true_eq] at h
  omega
def sumC : List Met → Int
  | [] => 0
  | x :: l => x.2.2.1 + sumC l
theorem sumC_app (l m : List Met) : sumC (l ++ m) = sumC l + sumC m := by
  induction l with
  | nil => simp [sumC]
  | cons x l ih => rw [List.cons_append, sumC, sumC, ih]; omega
theorem sumC_next (l : List Met) (k : Nat) (h : k < l.length) : sumC (l.take (k + 1)) = sumC (l.take k) + (l.getD k zMet).2.2.1 := by
  rw [take_next l k h, sumC_app]; simp [sumC]
theorem sumC_bd (l : List Met) (h : ∀ x ∈ l, 0 ≤ x.2.2.1 ∧ x.2.2.1 ≤ 4096) : 0 ≤ sumC l ∧ sumC l ≤ 4096 * (l.length : Int) := by
  induction l with
  | nil => simp [sumC]
  | cons x l ih =>
    have h1 := ih (fun y hy => h y (List.mem_cons_of_mem _ hy))
    have h2 := h x (List.mem_cons_self ..)
    rw [sumC, List.length_cons]
    omega
theorem sum_w (l : List Met) (k : Nat) (h : ∀ x ∈ l, 0 ≤ x.2.2.1 ∧ x.2.2.1 ≤ 4096) (hk : k < l.length) (hl : l.length ≤ 256) : wrap64 (sumC (l.take k) + (l.getD k zMet).2.2.1) = sumC (l.take (k + 1)) ∧ IntKind.i64.wrap (sumC (l.take k) + (l.getD k zMet).2.2.1) = sumC (l.take (k + 1)) := by
  have h1 := sumC_bd (l.take (k + 1)) (fun x hx => h x (List.mem_of_mem_take hx))
  rw [List.length_take] at h1
  rw [sumC_next l k hk] at h1 ⊢
  refine ⟨?_, ?_⟩
  · unfold wrap64; omega
  · rw [IntKind.wrap_i64]; omega
def fullM (lv : Nat) (l : List Met) : Bool := match lv with
  | 0 => decide (4 ≤ (atM 0 l).length)
  | 1 => decide (128 < sumC (atM 1 l))
  | _ => decide (512 < sumC (atM 2 l))
set_option maxRecDepth 100000 in
set_option maxHeartbeats 1600000 in
theorem full0_any (A : Option Addr) (c n : Nat) (seq nx : Int) (l : List Met) (w : World) (hn : l.length = n) (hr : RdM w A c l) (hf : ∀ x ∈ l, fitI x.1) (hl : l.length * 56 ≤ 140737488351232) (hz : chkM l seq nx = 0) :
    Calls Try.prog 34 #[verV A n c seq nx, .int .i64 0] w fun e w' => e = .returned (.bool (fullM 0 l)) ∧ Below w.heap.size w w' := by
  have b1 := below_alloc w (verO A n c seq nx)
  have T1 : Tb (w.alloc (verO A n c seq nx)) w.heap.size A n c seq nx := heap_alloc_new w (verO A n c seq nx)
  obtain ⟨t0, t1, t2⟩ := T1.read
  have hA := fun W (h : RdM W A c l) => PAt_any A c n seq nx 0 l W hn h hf hl hz
  have rr := hr.below b1
  rw [show fullM 0 l = decide (4 ≤ (atM 0 l).length) from rfl]
  obtain ⟨m, hm⟩ : ∃ m, (atM 0 l).length = m := ⟨_, rfl⟩
  rw [hm]
  have HM := hide hm
  clear hm hr hz hf hn
  by_cases h4 : 4 ≤ m
  · have h4i : (4 : Int) ≤ (m : Int) := by omega
    rw [decide_eq_true h4]
    go_enter Try.func34, Try.ntmps34
    go_wp2_with (first | (go_at_call 22; (with_reducible refine (hA _ rr).mono ?_); rintro e w2 ⟨A2, m2, c2, rfl, hm2, O2, HB2⟩; rw [HM.out] at hm2; subst hm2))
    go_ret
    exact ⟨by first | rfl | (simp; done) | (simp; omega), stq b1 HB2⟩
  · have h4i : ¬ (4 : Int) ≤ (m : Int) := by omega
    have h4j : (m : Int) < (4 : Int) := by omega
    rw [decide_eq_false h4]
    go_enter Try.func34, Try.ntmps34
    go_wp2_with (first | (go_at_call 22; (with_reducible refine (hA _ rr).mono ?_); rintro e w2 ⟨A2, m2, c2, rfl, hm2, O2, HB2⟩; rw [HM.out] at hm2; subst hm2))
    go_ret
    exact ⟨by first | rfl | (simp; done) | (simp; omega), stq b1 HB2⟩
set_option maxRecDepth 100000 in
set_option maxHeartbeats 1600000 in
theorem full1_any (A : Option Addr) (c n : Nat) (seq nx : Int) (l : List Met) (w : World) (hn : l.length = n) (hr : RdM w A c l) (hf : ∀ x ∈ l, fitI x.1) (hl : l.length * 56 ≤ 140737488351232) (hz : chkM l seq nx = 0) :
    Calls Try.prog 34 #[verV A n c seq nx, .int .i64 1] w fun e w' => e = .returned (.bool (fullM 1 l)) ∧ Below w.heap.size w w' := by
  have b1 := below_alloc w (verO A n c seq nx)
  have T1 : Tb (w.alloc (verO A n c seq nx)) w.heap.size A n c seq nx := heap_alloc_new w (verO A n c seq nx)
  obtain ⟨t0, t1, t2⟩ := T1.read
  have hA := fun W (h : RdM W A c l) => PAt_any A c n seq nx 1 l W hn h hf hl hz
  have rr := hr.below b1
  have hcn : ∀ x ∈ atM 1 l, 0 ≤ x.2.2.1 ∧ x.2.2.1 ≤ 4096 := fun x hx => may_cnt x (chk_may l seq nx hz x (List.mem_filter.1 hx).1)
  have hml : (atM 1 l).length ≤ 256 := Nat.le_trans (atM_len _ _) (chk_facts l seq nx hz).1
  rw [show fullM 1 l = decide (128 < sumC (atM 1 l)) from rfl]
  generalize atM 1 l = L at *
  obtain ⟨m, hm⟩ : ∃ m, L.length = m := ⟨_, rfl⟩
  have HM := hide hm
  have HCN := hide hcn
  obtain ⟨S, hS⟩ : ∃ S, sumC L = S := ⟨_, rfl⟩
  rw [hS]
  have HSS := hide hS
  rw [hm] at hml
  clear hm hr hz hf hn hcn hS
  go_enter Try.func34, Try.ntmps34
  go_wp2_with (first | (go_at_call 22; (with_reducible refine (hA _ rr).mono ?_); rintro e w2 ⟨A2, m2, c2, rfl, hm2, O2, HB2⟩; rw [HM.out] at hm2; subst hm2; have C2 := stq b1 HB2; have r2 := O2.rdl))
  go_loopw [6, 19] (fun sv iv wr => ∃ k : Nat, k ≤ m ∧ iv = .int .i64 (k : Int) ∧ sv = .int .i64 (sumC (L.take k)) ∧ Below w2.heap.size w2 wr) (fun sv iv _ => m - (intOf iv).toNat)
  case atStart => exact ⟨0, Nat.zero_le _, rfl, rfl, Below.refl _ _⟩
  case round =>
    obtain ⟨k, hk, rfl, rfl, HB⟩ := hrel
    by_cases hlt : k < m
    · have hlti : (k : Int) < (m : Int) := Int.ofNat_lt.2 hlt
      obtain ⟨hw1, hw2⟩ := idx_w m k hlt (by omega)
      obtain ⟨ad, rfl, x0, x1, x2, x3, x4⟩ := RdM.at5 (r2.below HB) k (by rw [HM.out]; exact hlt)
      obtain ⟨hw3, hw4⟩ := sum_w L k HCN.out (by rw [HM.out]; exact hlt) (by rw [HM.out]; exact hml)
      obtain ⟨y, hy⟩ : ∃ y, L.getD k zMet = y := ⟨_, rfl⟩
      rw [hy] at x0 x1 x2 x3 x4 hw3 hw4
      generalize sumC (L.take k) = s1 at *
      obtain ⟨s2, hs2⟩ : ∃ s2, sumC (L.take (k + 1)) = s2 := ⟨_, rfl⟩
      rw [hs2] at hw3 hw4
      have HS2 := hide hs2
      have b2 := below_alloc wr (mbo y)
      have M1 := Mb.new wr y
      obtain ⟨m0, m1, m2, m3, m4⟩ := M1.read
      clear hy hs2
      go_wp2
      go_roundw
      case rel => exact ⟨k + 1, hlt, by go_num, by rw [HS2.out], stq HB b2⟩
      case measure => first | exact idx_m m k hlt | exact idx_m2 m k hlt | exact idx_m3 m k hlt hw1
    · obtain rfl : k = m := Nat.le_antisymm hk (Nat.not_lt.1 hlt)
      have hS2 : sumC (L.take k) = S := by rw [← HM.out, List.take_length]; exact HSS.out
      rw [hS2]
      clear hS2
      by_cases hb : 128 < S
      · go_wp2
        go_ret
        exact ⟨by first | (rw [decide_eq_true hb]; rfl) | (rw [decide_eq_false hb]; rfl) | (simp [hb]; done) | (simp; omega), C2.trans (HB.mono C2.size)⟩
      · have hb2 : S ≤ 128 := Int.not_lt.1 hb
        go_wp2
        go_ret
        exact ⟨by first | (rw [decide_eq_true hb]; rfl) | (rw [decide_eq_false hb]; rfl) | (simp [hb]; done) | (simp; omega), C2.trans (HB.mono C2.size)⟩
set_option maxRecDepth 100000 in
set_option maxHeartbeats 1600000 in
theorem full2_any (A : Option Addr) (c n : Nat) (seq nx : Int) (l : List Met) (w : World) (hn : l.length = n) (hr : RdM w A c l) (hf : ∀ x ∈ l, fitI x.1) (hl : l.length * 56 ≤ 140737488351232) (hz : chkM l seq nx = 0) :
    Calls Try.prog 34 #[verV A n c seq nx, .int .i64 2] w fun e w' => e = .returned (.bool (fullM 2 l)) ∧ Below w.heap.size w w' := by
  have b1 := below_alloc w (verO A n c seq nx)
  have T1 : Tb (w.alloc (verO A n c seq nx)) w.heap.size A n c seq nx := heap_alloc_new w (verO A n c seq nx)
  obtain ⟨t0, t1, t2⟩ := T1.read
  have hA := fun W (h : RdM W A c l) => PAt_any A c n seq nx 2 l W hn h hf hl hz
  have rr := hr.below b1
  have hcn : ∀ x ∈ atM 2 l, 0 ≤ x.2.2.1 ∧ x.2.2.1 ≤ 4096 := fun x hx => may_cnt x (chk_may l seq nx hz x (List.mem_filter.1 hx).1)
  have hml : (atM 2 l).length ≤ 256 := Nat.le_trans (atM_len _ _) (chk_facts l seq nx hz).1
  rw [show fullM 2 l = decide (512 < sumC (atM 2 l)) from rfl]
  generalize atM 2 l = L at *
  obtain ⟨m, hm⟩ : ∃ m, L.length = m := ⟨_, rfl⟩
  have HM := hide hm
  have HCN := hide hcn
  obtain ⟨S, hS⟩ : ∃ S, sumC L = S := ⟨_, rfl⟩
  rw [hS]
  have HSS := hide hS
  rw [hm] at hml
  clear hm hr hz hf hn hcn hS
  go_enter Try.func34, Try.ntmps34
  go_wp2_with (first | (go_at_call 22; (with_reducible refine (hA _ rr).mono ?_); rintro e w2 ⟨A2, m2, c2, rfl, hm2, O2, HB2⟩; rw [HM.out] at hm2; subst hm2; have C2 := stq b1 HB2; have r2 := O2.rdl))
  go_loopw [6, 19] (fun sv iv wr => ∃ k : Nat, k ≤ m ∧ iv = .int .i64 (k : Int) ∧ sv = .int .i64 (sumC (L.take k)) ∧ Below w2.heap.size w2 wr) (fun sv iv _ => m - (intOf iv).toNat)
  case atStart => exact ⟨0, Nat.zero_le _, rfl, rfl, Below.refl _ _⟩
  case round =>
    obtain ⟨k, hk, rfl, rfl, HB⟩ := hrel
    by_cases hlt : k < m
    · have hlti : (k : Int) < (m : Int) := Int.ofNat_lt.2 hlt
      obtain ⟨hw1, hw2⟩ := idx_w m k hlt (by omega)
      obtain ⟨ad, rfl, x0, x1, x2, x3, x4⟩ := RdM.at5 (r2.below HB) k (by rw [HM.out]; exact hlt)
      obtain ⟨hw3, hw4⟩ := sum_w L k HCN.out (by rw [HM.out]; exact hlt) (by rw [HM.out]; exact hml)
      obtain ⟨y, hy⟩ : ∃ y, L.getD k zMet = y := ⟨_, rfl⟩
      rw [hy] at x0 x1 x2 x3 x4 hw3 hw4
      generalize sumC (L.take k) = s1 at *
      obtain ⟨s2, hs2⟩ : ∃ s2, sumC (L.take (k + 1)) = s2 := ⟨_, rfl⟩
      rw [hs2] at hw3 hw4
      have HS2 := hide hs2
      have b2 := below_alloc wr (mbo y)
      have M1 := Mb.new wr y
      obtain ⟨m0, m1, m2, m3, m4⟩ := M1.read
      clear hy hs2
      go_wp2
      go_roundw
      case rel => exact ⟨k + 1, hlt, by go_num, by rw [HS2.out], stq HB b2⟩
      case measure => first | exact idx_m m k hlt | exact idx_m2 m k hlt | exact idx_m3 m k hlt hw1
    · obtain rfl : k = m := Nat.le_antisymm hk (Nat.not_lt.1 hlt)
      have hS2 : sumC (L.take k) = S := by rw [← HM.out, List.take_length]; exact HSS.out
      rw [hS2]
      clear hS2
      by_cases hb : 512 < S
      · go_wp2
        go_ret
        exact ⟨by first | (rw [decide_eq_true hb]; rfl) | (rw [decide_eq_false hb]; rfl) | (simp [hb]; done) | (simp; omega), C2.trans (HB.mono C2.size)⟩
      · have hb2 : S ≤ 512 := Int.not_lt.1 hb
        go_wp2
        go_ret
        exact ⟨by first | (rw [decide_eq_true hb]; rfl) | (rw [decide_eq_false hb]; rfl) | (simp [hb]; done) | (simp; omega), C2.trans (HB.mono C2.size)⟩
set_option maxRecDepth 100000 in
set_option maxHeartbeats 1600000 in
theorem Touch_any (a b : ByteArray) (A : Option Addr) (c n : Nat) (seq nx lv : Int) (l : List Met) (w : World) (hn : l.length = n) (hr : RdM w A c l) (hf : ∀ x ∈ l, fitI x.1) (hl : l.length * 56 ≤ 140737488351232) :
    Calls Try.prog 17 #[verV A n c seq nx, .int .i64 lv, .string a, .string b] w fun e w' => ((chkM l seq nx ≠ 0 ∧ e = .returned (.tuple #[.slice none 0 0, .int .i64 (chkM l seq nx)])) ∨ (chkM l seq nx = 0 ∧ ∃ v, e = .returned (.tuple #[v, .int .i64 0]) ∧ OwI w' w.heap.size v (idsM (toM a b (atM lv l))))) ∧ Below w.heap.size w w' := by
  have b1 := below_alloc w (verO A n c seq nx)
  have T1 : Tb (w.alloc (verO A n c seq nx)) w.heap.size A n c seq nx := heap_alloc_new w (verO A n c seq nx)
  obtain ⟨t0, t1, t2⟩ := T1.read
  have hn48 : n ≤ 140737488351232 := by omega
  have hCk := fun W (h : RdM W A c l) => check_any A c n seq nx l W hn h hf hn48
  have rr := hr.below b1
  by_cases hz : chkM l seq nx = 0
  · have hTo := fun W (h : RdM W A c l) => touched_any a b A c n seq nx lv l W hn h hf hl hz
    have hle : (toM a b (atM lv l)).length ≤ 1000000 := Nat.le_trans (toM_len _ _ _) (Nat.le_trans (atM_len _ _) (Nat.le_trans (chk_facts l seq nx hz).1 (by decide)))
    have hId := fun A c m W (hm : (toM a b (atM lv l)).length = m) (h : RdM W A c (toM a b (atM lv l))) => ids_any A c m (toM a b (atM lv l)) W hm h (by rw [← hm]; exact hle)
    rw [hz] at hCk ⊢
    clear hz hr hn hf hle
    go_enter Try.func17, Try.ntmps17
    go_wp2_with (first | (go_at_call 33; (with_reducible refine (hCk _ rr).mono ?_); rintro e w1 ⟨rfl, HB1⟩; have r1 := rr.below HB1; have C1 := stq b1 HB1; have T2 := T1.below HB1; obtain ⟨t10, t11, t12⟩ := T2.read) | (go_at_call 27; (with_reducible refine (hTo _ r1).mono ?_); rintro e w2 ⟨A2, m2, c2, rfl, hm2, O2, HB2⟩; have C2 := stq C1 HB2) | (go_at_call 29; (with_reducible refine (hId _ _ _ _ hm2 O2.rdl).mono ?_); rintro e w3 ⟨v3, rfl, O3, HB3⟩; have C3 := stq C2 HB3))
    go_ret2
    exact ⟨.inr ⟨by first | rfl | trivial, v3, rfl, O3.lower C2.size⟩, C3⟩
  · generalize chkM l seq nx = z at *
    have hzb : (z == 0) = false := beq_eq_false_iff_ne.2 hz
    clear hr hn hf
    go_enter Try.func17, Try.ntmps17
    go_wp2_with (first | (go_at_call 33; (with_reducible refine (hCk _ rr).mono ?_); rintro e w1 ⟨rfl, HB1⟩; have C1 := stq b1 HB1))
    go_ret2
    exact ⟨.inl ⟨hz, rfl⟩, C1⟩
end Go.Proofs.Ytbhhnlgpbhbcmaa
end

section
/- Which levels are full: Full. -/
namespace Go.Proofs.Ytbhhnlgpbhbcmaa
open Go.RowKit Go.Proofs.YtbhhnlgpbhbcmaaW.PrintWords
set_option linter.unusedVariables false

def fullsK (l : List Met) : Nat → List Int
  | 0 => []
  | k + 1 => fullsK l k ++ (if fullM k l = true then [(k : Int)] else [])
theorem fullsK_len (l : List Met) (k : Nat) : (fullsK l k).length ≤ k := by
  induction k with
  | zero => exact Nat.le_refl _
  | succ k ih =>
    rw [fullsK, List.length_append]
    have : (if fullM k l = true then [(k : Int)] else []).length ≤ 1 := by split <;> simp
    omega
theorem full_any (k : Nat) (hk : k < 3) (A : Option Addr) (c n : Nat) (seq nx : Int) (l : List Met) (w : World) (hn : l.length = n) (hr : RdM w A c l) (hf : ∀ x ∈ l, fitI x.1) (hl : l.length * 56 ≤ 140737488351232) (hz : chkM l seq nx = 0) :
    Calls Try.prog 34 #[verV A n c seq nx, .int .i64 (k : Int)] w fun e w' => e = .returned (.bool (fullM k l)) ∧ Below w.heap.size w w' := by
  match k, hk with
  | 0, _ => exact full0_any A c n seq nx l w hn hr hf hl hz
  | 1, _ => exact full1_any A c n seq nx l w hn hr hf hl hz
  | 2, _ => exact full2_any A c n seq nx l w hn hr hf hl hz
set_option maxRecDepth 100000 in
set_option maxHeartbeats 3200000 in
theorem Full_any (A : Option Addr) (c n : Nat) (seq nx : Int) (l : List Met) (w : World) (hn : l.length = n) (hr : RdM w A c l) (hf : ∀ x ∈ l, fitI x.1) (hl : l.length * 56 ≤ 140737488351232) :
    Calls Try.prog 14 #[verV A n c seq nx] w fun e w' => ((chkM l seq nx ≠ 0 ∧ e = .returned (.tuple #[.slice none 0 0, .int .i64 (chkM l seq nx)])) ∨ (chkM l seq nx = 0 ∧ ∃ v, e = .returned (.tuple #[v, .int .i64 0]) ∧ OwI w' w.heap.size v (fullsK l 3))) ∧ Below w.heap.size w w' := by
  have b1 := below_alloc w (verO A n c seq nx)
  have T1 : Tb (w.alloc (verO A n c seq nx)) w.heap.size A n c seq nx := heap_alloc_new w (verO A n c seq nx)
  obtain ⟨t0, t1, t2⟩ := T1.read
  have hn48 : n ≤ 140737488351232 := by omega
  have hCk := fun W (h : RdM W A c l) => check_any A c n seq nx l W hn h hf hn48
  have rr := hr.below b1
  by_cases hz : chkM l seq nx = 0
  · have hFu := fun k (hk : k < 3) W (h : RdM W A c l) => full_any k hk A c n seq nx l W hn h hf hl hz
    rw [hz] at hCk ⊢
    clear hz hr hn hf
    go_enter Try.func14, Try.ntmps14
    go_wp2_with (first | (go_at_call 33; (with_reducible refine (hCk _ rr).mono ?_); rintro e w1 ⟨rfl, HB1⟩; have r1 := rr.below HB1; have C1 := stq b1 HB1; have T2 := T1.below HB1; obtain ⟨t10, t11, t12⟩ := T2.read))
    go_loopw [5, 12] (fun v iv wr => ∃ k : Nat, k ≤ 3 ∧ iv = .int .i64 (k : Int) ∧ OwI wr w1.heap.size v (fullsK l k) ∧ Below w1.heap.size w1 wr) (fun v iv _ => 3 - (intOf iv).toNat)
    case atStart => exact ⟨0, Nat.zero_le _, rfl, Ow.zero _ _ _ _, Below.refl _ _⟩
    case round =>
      obtain ⟨k, hk, rfl, HO, HB⟩ := hrel
      by_cases hlt : k < 3
      · have hlti : (k : Int) < 3 := by omega
        obtain ⟨hw1, hw2⟩ := idx_w 3 k hlt (by decide)
        have T3 := T2.below HB
        obtain ⟨t30, t31, t32⟩ := T3.read
        have hC := hFu k hlt wr (r1.below HB)
        have hlen : ((fullsK l k).length + 1) * 8 ≤ 140737488355328 := by have := fullsK_len l k; omega
        have HNX : Hid (fullsK l (k + 1) = fullsK l k ++ (if fullM k l = true then [(k : Int)] else [])) := hide rfl
        obtain ⟨b, hb⟩ : ∃ b, fullM k l = b := ⟨_, rfl⟩
        rw [hb] at hC HNX
        generalize fullsK l k = xs at *
        clear hb hFu t30 t31 t32
        obtain ⟨t30, t31, t32⟩ := T3.read
        cases b
        · go_wp2_with (first | (go_at_call 34; (with_reducible refine hC.mono ?_); rintro e w6 ⟨rfl, HB6⟩))
          go_roundw
          case rel => exact ⟨k + 1, hlt, by go_num, by rw [HNX.out, if_neg (by decide), List.append_nil]; exact HO.below HB6, stq HB HB6⟩
          case measure => first | exact idx_m 3 k hlt | exact idx_m2 3 k hlt | exact idx_m3 3 k hlt hw1
        · go_wp2_with (first | (go_at_call 34; (with_reducible refine hC.mono ?_); rintro e w6 ⟨rfl, HB6⟩; have HO6 := HO.below HB6; have C6 := stq HB HB6) | (at_builtin; refine app_int (w0 := w1) w1.heap.size rfl (.tmp 18) (.tmp 20) rfl u5 xs (k : Int) rfl rfl HO6 C6 C6.size hlen ?_; intro v1 w7 HO7 HB7 hg hat))
          go_roundw
          case rel => exact ⟨k + 1, hlt, by go_num, by rw [HNX.out, if_pos trivial]; exact HO7, HB7⟩
          case measure => first | exact idx_m 3 k hlt | exact idx_m2 3 k hlt | exact idx_m3 3 k hlt hw1
      · obtain rfl : k = 3 := by omega
        go_wp2
        go_ret2
        exact ⟨.inr ⟨by first | rfl | trivial, _, rfl, HO.lower C1.size⟩, C1.trans (HB.mono C1.size)⟩
  · generalize chkM l seq nx = z at *
    have hzb : (z == 0) = false := beq_eq_false_iff_ne.2 hz
    clear hr hn hf
    go_enter Try.func14, Try.ntmps14
    go_wp2_with (first | (go_at_call 33; (with_reducible refine (hCk _ rr).mono ?_); rintro e w1 ⟨rfl, HB1⟩; have C1 := stq b1 HB1))
    go_ret2
    exact ⟨.inl ⟨hz, rfl⟩, C1⟩
end Go.Proofs.Ytbhhnlgpbhbcmaa
end

section
/- The walks of slices.Grow (of nil) and slices.Concat. -/
namespace Go.Proofs.Ytbhhnlgpbhbcmaa
open Go.RowKit Go.Proofs.YtbhhnlgpbhbcmaaW.PrintWords

abbrev RdI := Rd kInt
section
variable {ops : Array Oper} {rest : List Oper} {o : Oper} {a : Act} {Q : Exit → Act → World → Prop}
theorem app_ints {w0 W : World} (base : Nat) (hgd : o.guard = none) (s x : Operand)
    (ho : o.op = .call { callee := .builtin .append, args := #[s, x], argTypes := #[26, 26] })
    (v : Value) (xs ys : List Int) (A : Option Addr) (c : Nat) (hs : a.eval s = v) (hx : a.eval x = .slice A ys.length c)
    (HO : OwI W base v xs) (HR : RdI W A c ys) (HB : Below base w0 W) (hbase : base ≤ W.heap.size) (hl : xs.length + ys.length ≤ 17592186044416)
    (h : ∀ v1 w1, OwI w1 base v1 (xs ++ ys) → Below base w0 w1 → W.grownBy w1 v.ownBlock → (v1.ownBlock = v.ownBlock ∨ ∃ b, v1.ownBlock = some b ∧ W.heap.size ≤ b) → wpList Try.prog ops Q rest (a.put o.dst v1) w1) :
    wpList Try.prog ops Q (o :: rest) a W :=
  app_ows kInt base hgd s x 26 3 _ 8 ho Try.underlying26 info_int rfl (by decide) (by decide) v xs ys A c hs hx (fun _ _ h => h) HO HR HB hbase (by omega) h
end
set_option maxRecDepth 100000 in
set_option maxHeartbeats 400000 in
/-- slices.Grow of nil: nothing, with room -/
theorem Grow_nil (n : Nat) (w : World) (hn : n ≤ 17592186044416) :
    Calls Try.prog 44 #[.slice none 0 0, .int .i64 (n : Int)] w fun e w' => ∃ v, e = .returned v ∧ OwI w' w.heap.size v [] ∧ Below w.heap.size w w' := by
  obtain ⟨i0, hi, hz0, hz1, hz2⟩ := info_parts info_int
  rcases Nat.eq_zero_or_pos n with rfl | h0
  · go_enter Try.func44, Try.ntmps44
    go_wp2
    go_ret
    exact ⟨_, rfl, Ow.zero _ _ _ _, Below.refl _ _⟩
  · have hrun := Lib.run_append_nil_zeros (P := Try.prog) w 26 3 26 3 i0 (.int .i64 0) .i64 .i64 Try.underlying26 Try.underlying3 hi hz0 n h0 (by omega) (by omega) (by rw [hz2]; omega)
    have hge := grownCap_ge w n 0 3
    have hcm : grownCap w n 0 3 ≤ maxLen := grownCap_le_maxLen w n 0 3 (by simp only [maxLen]; omega)
    obtain ⟨cap, hcap⟩ : ∃ cap, grownCap w n 0 3 = cap := ⟨_, rfl⟩
    rw [hcap] at hrun hge hcm
    have hsl := fun ww => slice_hi (P := Try.prog) 26 3 Try.underlying26 hi hz1 (some ⟨w.heap.size, 0, none⟩) n cap 0 (Nat.zero_le _) ww
    go_enter Try.func44, Try.ntmps44
    go_wp2_with (first | (at_builtin; refine Lib.wpList_append_run _ rfl (.tmp 20) (.tmp 21) _ _ rfl _ _ rfl rfl _ _ hrun ?_))
    go_ret
    have hh : (w.alloc (.cells (Builtin.zeroCells #[Value.int IntKind.i64 0] n ++ Builtin.zeroCells #[Value.int IntKind.i64 0] (cap - n)) 3)).drew.heap[w.heap.size]? = some (.cells (Builtin.zeroCells #[Value.int IntKind.i64 0] n ++ Builtin.zeroCells #[Value.int IntKind.i64 0] (cap - n)) 3 (0, 0)) := heap_alloc_new w _
    exact ⟨_, rfl, ⟨fun _ _ => trivial, [], ⟨rfl, .inr ⟨w.heap.size, cap, _, rfl, Nat.le_refl _, hh, Nat.zero_le _, hcm, by rw [show kInt.sz = 1 from rfl]; simp [size_zeroCells]; omega, rfl⟩⟩, Reps.none _ _⟩, ((Below.refl _ _).alloc (Nat.le_refl _) _).drew⟩

/-! slices.Concat: of slices of numbers, however many -/
/-- a slice that is handed over: address, capacity, octets -/
abbrev SlB := Option Addr × Nat × List Int
def eSl (s : SlB) : Value := .slice s.1 s.2.2.length s.2.1
def total (ss : List SlB) : Nat := (ss.map fun s => s.2.2.length).sum
def joined (ss : List SlB) : List Int := ss.flatMap fun s => s.2.2
theorem joined_length (ss : List SlB) : (joined ss).length = total ss := by simp [joined, total, List.length_flatMap]
def nilSl : SlB := (none, 0, [])
theorem total_snoc (ss : List SlB) (k : Nat) (h : k < ss.length) : total (ss.take (k + 1)) = total (ss.take k) + (ss.getD k nilSl).2.2.length := by
  rw [List.take_succ_eq_append_getElem h, total, total, List.map_append, List.sum_append]
  simp [List.getD_eq_getElem?_getD, List.getElem?_eq_getElem h]
theorem joined_snoc (ss : List SlB) (k : Nat) (h : k < ss.length) : joined (ss.take (k + 1)) = joined (ss.take k) ++ (ss.getD k nilSl).2.2 := by
  rw [List.take_succ_eq_append_getElem h, joined, joined, List.flatMap_append]
  simp [List.getD_eq_getElem?_getD, List.getElem?_eq_getElem h]
theorem total_le (ss : List SlB) (k : Nat) : total (ss.take k) ≤ total ss := by
  have : total ss = total (ss.take k) + total (ss.drop k) := by
    rw [total, total, total, ← List.sum_append, ← List.map_append, List.take_append_drop]
  omega
theorem getD_mem (ss : List SlB) (k : Nat) (h : k < ss.length) : ss.getD k nilSl ∈ ss := by
  rw [List.getD_eq_getElem?_getD, List.getElem?_eq_getElem h]
  simp
set_option maxRecDepth 100000 in
set_option maxHeartbeats 400000 in
theorem Concat_any (A : Option Addr) (c : Nat) (ss : List SlB) (w : World) (hr : ReadsOf eSl nilSl w A ss.length ss) (hs : ∀ s ∈ ss, RdI w s.1 s.2.1 s.2.2) (ht : total ss ≤ 17592186044416) :
    Calls Try.prog 28 #[.slice A ss.length c] w fun e w' => ∃ v, e = .returned v ∧ OwI w' w.heap.size v (joined ss) ∧ Below w.heap.size w w' := by
  have hm := hr.2.1
  go_enter Try.func28, Try.ntmps28
  go_wp2
  go_loop [3, 11] (fun t i => ∃ k : Nat, k ≤ ss.length ∧ i = .int .i64 k ∧ t = .int .i64 (total (ss.take k))) (fun _ i => ss.length - (intOf i).toNat)
  case atStart => exact ⟨0, by omega, rfl, rfl⟩
  case round =>
    obtain ⟨k, hk, rfl, rfl⟩ := hrel
    have hb := total_le ss k
    by_cases hlt : k < ss.length
    · obtain ⟨ad, rfl, hc⟩ := hr.2.2 (by omega)
      have hcell := hc k hlt
      have HS := hide (total_snoc ss k hlt)
      have hb1 := total_le ss (k + 1)
      rw [HS.out] at hb1
      obtain ⟨⟨A1, c1, x1⟩, hx⟩ : ∃ x, ss.getD k nilSl = x := ⟨_, rfl⟩
      rw [hx] at hcell HS hb1
      clear hx hc
      unfold eSl at hcell
      simp only at hcell HS hb1
      go_wp2
      go_round
      case rel => exact ⟨k + 1, by omega, by go_num, by rw [HS.out]; go_num⟩
      case measure => simp [intOf]; omega
    · obtain rfl : k = ss.length := by omega
      rw [List.take_length] at hb ⊢
      go_wp2_with (first | (go_at_call 44; refine (Grow_nil _ _ (by omega)).mono ?_; rintro e w1 ⟨v1, rfl, HO1, HB1⟩))
      go_loopw [6, 27] (fun t i wr => ∃ k : Nat, k ≤ ss.length ∧ i = .int .i64 k ∧ OwI wr w.heap.size t (joined (ss.take k)) ∧ Below w.heap.size w wr) (fun _ i _ => ss.length - (intOf i).toNat)
      case atStart => exact ⟨0, by omega, rfl, HO1, HB1⟩
      case round =>
        obtain ⟨k, hk, rfl, HO, HB⟩ := hrel
        have hb := total_le ss k
        by_cases hlt : k < ss.length
        · have hrr := hr.below ⟨HB.os, HB.tape, HB.output, HB.size, HB.block⟩
          obtain ⟨ad, rfl, hc⟩ := hrr.2.2 (by omega)
          have hcell := hc k hlt
          have HS := hide (joined_snoc ss k hlt)
          have HT := hide (total_snoc ss k hlt)
          have hb1 := total_le ss (k + 1)
          rw [HT.out] at hb1
          have HR := (hs _ (getD_mem ss k hlt)).below HB
          obtain ⟨⟨A1, c1, x1⟩, hx⟩ : ∃ x, ss.getD k nilSl = x := ⟨_, rfl⟩
          rw [hx] at hcell HS hb1 HR
          clear hx hc HT
          unfold eSl at hcell
          simp only at hcell HS hb1 HR
          have hjl := joined_length (ss.take k)
          go_wp2_with (first | (at_builtin; refine app_ints (w0 := w) w.heap.size rfl (.tmp 31) (.tmp 32) rfl _ (joined (ss.take k)) x1 A1 c1 rfl rfl HO HR HB HB.size (by omega) ?_; intro v1 w1 HO1 HB1 hg hat))
          go_roundw
          case rel => exact ⟨k + 1, by omega, by go_num, by rw [HS.out]; exact HO1, HB1⟩
          case measure => simp [intOf]; omega
        · obtain rfl : k = ss.length := by omega
          rw [List.take_length] at HO
          go_wp2
          go_ret
          exact ⟨_, rfl, HO, HB⟩

/-- of two, laid out for the call -/
theorem Concat_two (A1 A2 : Option Addr) (c1 c2 n1 n2 n : Nat) (x1 x2 : List Int) (W : World) (hn : W.heap.size = n) (h1 : RdI W A1 c1 x1) (h2 : RdI W A2 c2 x2) (l1 : x1.length = n1) (l2 : x2.length = n2) (ht : x1.length + x2.length ≤ 17592186044416) :
    Calls Try.prog 28 #[.slice (some ⟨n, 0, none⟩) 2 2] (W.alloc (.cells #[.slice A1 n1 c1, .slice A2 n2 c2] 26)) fun e w' => ∃ v, e = .returned v ∧ OwI w' W.heap.size v (x1 ++ x2) ∧ Below W.heap.size W w' := by
  subst hn
  subst l1
  subst l2
  have hb : Below W.heap.size W (W.alloc (.cells #[.slice A1 x1.length c1, .slice A2 x2.length c2] 26)) := (Below.refl _ _).alloc (Nat.le_refl _) _
  refine (Concat_any (some ⟨W.heap.size, 0, none⟩) 2 [(A1, c1, x1), (A2, c2, x2)] _ ⟨rfl, by simp, fun _ => ⟨_, rfl, fun j hj => ?_⟩⟩ ?_ (by simpa [total] using ht)).mono ?_
  · rw [add_plain, World.cell?_alloc_mark]
    have : j = 0 ∨ j = 1 := by simp at hj; omega
    rcases this with rfl | rfl <;> rfl
  · intro s hs
    simp only [List.mem_cons, List.not_mem_nil, or_false] at hs
    rcases hs with rfl | rfl
    · exact h1.below hb
    · exact h2.below hb
  · rintro e w' ⟨v, rfl, HO, HB⟩
    exact ⟨v, rfl, by simpa [joined] using HO.lower (by simp), hb.trans (HB.mono (by simp))⟩
end Go.Proofs.Ytbhhnlgpbhbcmaa
end

section
/- What is merged next, where the first level is full. -/
namespace Go.Proofs.Ytbhhnlgpbhbcmaa
open Go.RowKit Go.Proofs.YtbhhnlgpbhbcmaaW.PrintWords
set_option linter.unusedVariables false

def spM (s : ByteArray × ByteArray) (L : List Met) : ByteArray × ByteArray := L.foldl (fun s m => (minS s.1 m.2.2.2.1, maxS s.2 m.2.2.2.2)) s
theorem spM_next (s : ByteArray × ByteArray) (L : List Met) (k : Nat) (h : k < L.length) : spM s (L.take (k + 1)) = (minS (spM s (L.take k)).1 (L.getD k zMet).2.2.2.1, maxS (spM s (L.take k)).2 (L.getD k zMet).2.2.2.2) := by
  rw [take_next L k h, spM, List.foldl_append]; rfl
def botK (s : ByteArray × ByteArray) (l : List Met) : Nat → Bool
  | 0 => true
  | j + 1 => botK s l j && decide ((toM s.1 s.2 (atM ((j : Int) + 2) l)).length = 0)
def topS (L : List Met) : ByteArray × ByteArray := spM ((L.getD 0 zMet).2.2.2.1, (L.getD 0 zMet).2.2.2.2) L
def belowM (l L : List Met) : List Met := toM (topS L).1 (topS L).2 (atM 1 l)
def inpM (l L : List Met) : List Int := idsM L ++ idsM (belowM l L)
def botM (l L : List Met) : Bool := botK (spM (topS L) (belowM l L)) l 2
theorem ids_len (l : List Met) : (idsM l).length = l.length := List.length_map ..
/-- a span in a variable -/
def Sp (W : World) (g : Nat) (s : ByteArray × ByteArray) : Prop := W.heap[g]? = some (.cells #[.string s.1, .string s.2] 61 (0, 0))
theorem Sp.read {W : World} {g : Nat} {s : ByteArray × ByteArray} (h : Sp W g s) : W.cell? ⟨g, 0, none⟩ = some (.string s.1) ∧ W.cell? ⟨g, 1, none⟩ = some (.string s.2) ∧ W.frozen? ⟨g, 0, none⟩ = false ∧ W.frozen? ⟨g, 1, none⟩ = false := ⟨blk_cell h 0, blk_cell h 1, blk_frozen h 0, blk_frozen h 1⟩
theorem Sp.below {W W' : World} {g : Nat} {s : ByteArray × ByteArray} (h : Sp W g s) (hb : Below W.heap.size W W') : Sp W' g s := blk_below h hb
theorem Sp.set {W : World} {g : Nat} {s : ByteArray × ByteArray} (h : Sp W g s) (a b : ByteArray) : Sp ((W.setCell ⟨g, 0, none⟩ (.string a)).setCell ⟨g, 1, none⟩ (.string b)) g (a, b) := blk_set (blk_set h 0 (.string a)) 1 (.string b)
/-- a plan in a variable -/
def Pl (W : World) (g : Nat) (lv : Int) (v : Value) (b : Bool) : Prop := W.heap[g]? = some (.cells #[.int .i64 lv, v, .bool b] 28 (0, 0))
theorem Pl.read {W : World} {g : Nat} {lv : Int} {v : Value} {b : Bool} (h : Pl W g lv v b) : W.cell? ⟨g, 0, none⟩ = some (.int .i64 lv) ∧ W.cell? ⟨g, 1, none⟩ = some v ∧ W.cell? ⟨g, 2, none⟩ = some (.bool b) ∧ W.frozen? ⟨g, 0, none⟩ = false ∧ W.frozen? ⟨g, 1, none⟩ = false ∧ W.frozen? ⟨g, 2, none⟩ = false := ⟨blk_cell h 0, blk_cell h 1, blk_cell h 2, blk_frozen h 0, blk_frozen h 1, blk_frozen h 2⟩
theorem Pl.below {W W' : World} {g : Nat} {lv : Int} {v : Value} {b : Bool} (h : Pl W g lv v b) (hb : Below W.heap.size W W') : Pl W' g lv v b := blk_below h hb
theorem Pl.bot {W : World} {g : Nat} {lv : Int} {v : Value} {b : Bool} (h : Pl W g lv v b) (b2 : Bool) : Pl (W.setCell ⟨g, 2, none⟩ (.bool b2)) g lv v b2 := blk_set h 2 (.bool b2)
theorem Tb.far {W : World} {g : Nat} {A : Option Addr} {n c : Nat} {seq nx : Int} (h : Tb W g A n c seq nx) {b j : Nat} (hne : g ≠ b) (v : Value) : Tb (W.setCell ⟨b, j, none⟩ v) g A n c seq nx := blk_far h (p := ⟨b, j, none⟩) hne v
theorem Pl.far {W : World} {g : Nat} {lv : Int} {v : Value} {b : Bool} (h : Pl W g lv v b) {b2 j : Nat} (hne : g ≠ b2) (u : Value) : Pl (W.setCell ⟨b2, j, none⟩ u) g lv v b := blk_far h (p := ⟨b2, j, none⟩) hne u
theorem Sp.far {W : World} {g : Nat} {s : ByteArray × ByteArray} (h : Sp W g s) {b2 j : Nat} (hne : g ≠ b2) (u : Value) : Sp (W.setCell ⟨b2, j, none⟩ u) g s := blk_far h (p := ⟨b2, j, none⟩) hne u
theorem full0_len (l : List Met) (h : fullM 0 l = true) : 4 ≤ (atM 0 l).length := of_decide_eq_true h
theorem fulls_head (l : List Met) (h : fullM 0 l = true) : ∃ t, fullsK l 3 = 0 :: t := by
  refine ⟨(if fullM 1 l = true then [((1 : Nat) : Int)] else []) ++ (if fullM 2 l = true then [((2 : Nat) : Int)] else []), ?_⟩
  rw [fullsK, fullsK, fullsK, fullsK, if_pos h]
  rfl
theorem cbox (w : World) (A : Option Addr) (n c : Nat) (seq nx : Int) : Below w.heap.size w ((w.alloc (verO A n c seq nx)).alloc (.cells #[.int .i64 0, .slice none 0 0, .bool false] 28)) ∧ Tb ((w.alloc (verO A n c seq nx)).alloc (.cells #[.int .i64 0, .slice none 0 0, .bool false] 28)) w.heap.size A n c seq nx ∧ Pl ((w.alloc (verO A n c seq nx)).alloc (.cells #[.int .i64 0, .slice none 0 0, .bool false] 28)) (w.heap.size + 1) 0 (.slice none 0 0) false := by
  have b1 := below_alloc w (verO A n c seq nx)
  have b2 := below_alloc (w.alloc (verO A n c seq nx)) (.cells #[.int .i64 0, .slice none 0 0, .bool false] 28)
  have h1 : Tb (w.alloc (verO A n c seq nx)) w.heap.size A n c seq nx := heap_alloc_new w (verO A n c seq nx)
  have h2 : Pl ((w.alloc (verO A n c seq nx)).alloc (.cells #[.int .i64 0, .slice none 0 0, .bool false] 28)) (w.alloc (verO A n c seq nx)).heap.size 0 (.slice none 0 0) false := heap_alloc_new _ _
  have s1 : (w.alloc (verO A n c seq nx)).heap.size = w.heap.size + 1 := World.size_alloc _ _
  rw [s1] at h2
  exact ⟨stq b1 b2, h1.below b2, h2⟩
theorem add_zero_ (a : Addr) : a.add 0 = a := by cases a; simp [Addr.add]
set_option maxRecDepth 100000 in
set_option maxHeartbeats 6400000 in
theorem Choose0_any (A : Option Addr) (c n : Nat) (seq nx : Int) (l : List Met) (w : World) (hn : l.length = n) (hr : RdM w A c l) (hf : ∀ x ∈ l, fitI x.1) (hl : l.length * 56 ≤ 140737488351232) (hz : chkM l seq nx = 0) (h0 : fullM 0 l = true) :
    Calls Try.prog 9 #[verV A n c seq nx] w fun e w' => ∃ v, e = .returned (.tuple #[.agg #[.int .i64 0, v, .bool (botM l (atM 0 l))], .bool true, .int .i64 0]) ∧ OwI w' w.heap.size v (inpM l (atM 0 l)) ∧ Below w.heap.size w w' := by
  obtain ⟨B0, T0, P0⟩ := cbox w A n c seq nx
  obtain ⟨t0, t1, t2⟩ := T0.read
  have hFl := fun W (h : RdM W A c l) => Full_any A c n seq nx l W hn h hf hl
  simp only [hz, ne_eq, not_true, false_and, false_or, true_and] at hFl
  have hPA := fun W (h : RdM W A c l) => PAt_any A c n seq nx 0 l W hn h hf hl hz
  have hTo := fun a b lv W (h : RdM W A c l) => touched_any a b A c n seq nx lv l W hn h hf hl hz
  have hWi := fun a b x W => with_any a b x W
  have h4 := full0_len l h0
  have h256 := (chk_facts l seq nx hz).1
  have hLl := Nat.le_trans (atM_len 0 l) h256
  obtain ⟨tl, htl⟩ := fulls_head l h0
  have hfl := fullsK_len l 3
  have HBOT : Hid (botM l (atM 0 l) = botK (spM (topS (atM 0 l)) (belowM l (atM 0 l))) l 2) := hide rfl
  have HINP : Hid (inpM l (atM 0 l) = idsM (atM 0 l) ++ idsM (belowM l (atM 0 l))) := hide rfl
  have HBEL : Hid (belowM l (atM 0 l) = toM (topS (atM 0 l)).1 (topS (atM 0 l)).2 (atM 1 l)) := hide rfl
  have HTOP : Hid (topS (atM 0 l) = spM (((atM 0 l).getD 0 zMet).2.2.2.1, ((atM 0 l).getD 0 zMet).2.2.2.2) (atM 0 l)) := hide rfl
  have hb256 : (belowM l (atM 0 l)).length ≤ 256 := Nat.le_trans (toM_len _ _ _) (Nat.le_trans (atM_len _ _) h256)
  rw [htl] at hFl hfl
  generalize inpM l (atM 0 l) = INP at *
  generalize botM l (atM 0 l) = BOT at *
  generalize belowM l (atM 0 l) = BEL at *
  generalize topS (atM 0 l) = TOP at *
  generalize atM 0 l = L at *
  obtain ⟨m, hm⟩ : ∃ m, L.length = m := ⟨_, rfl⟩
  obtain ⟨mb, hmb⟩ : ∃ m, BEL.length = m := ⟨_, rfl⟩
  have hId := fun A c W (h : RdM W A c L) => ids_any A c m L W hm h (by omega)
  have hIdB := fun A c W (h : RdM W A c BEL) => ids_any A c mb BEL W hmb h (by omega)
  rw [hm] at h4 hLl
  rw [hmb] at hb256
  have HM := hide hm
  have HMB := hide hmb
  have r0 := hr.below B0
  have h4i : (0 : Int) < (m : Int) := by omega
  have h4n : 0 < m := by omega
  clear hn hf hl hz h0 hr htl hm hmb h256
  go_enter Try.func9, Try.ntmps9
  go_wp2_with (first | (go_at_call 14; (with_reducible refine (hFl _ r0).mono ?_); rintro e w1 ⟨⟨v1, rfl, O1⟩, HB1⟩; obtain ⟨A1, c1, hv1, ri1⟩ := O1.rd; rw [List.length_cons] at hv1 hfl; obtain ⟨ad1, hA1, y1⟩ := ri1.int_at 0 (Nat.succ_pos _); subst hA1; obtain ⟨z1, hz1⟩ : ∃ z, tl.length + 1 = z := ⟨_, rfl⟩; rw [hz1] at hv1 hfl; subst hv1; have hz1i : (0 : Int) < (z1 : Int) := (by omega); have hz1n : 0 < z1 := (by omega); have hz1e : ((z1 : Int) == 0) = false := beq_eq_false_iff_ne.2 (by omega); have hz1f : ¬ (z1 : Int) = 0 := (by omega); have hz1g : ¬ z1 = 0 := (by omega); have C1 := stq B0 HB1; have T1 := T0.below HB1; have P1 := P0.below HB1; have r1 := r0.below HB1; obtain ⟨t10, t11, t12⟩ := T1.read; have y1 : w1.cell? (ad1.add 0) = some (.int .i64 0) := y1; have y1b : w1.cell? ad1 = some (.int .i64 0) := (by have := y1; rw [add_zero_] at this; exact this); clear hz1) | (go_at_call 22; (with_reducible refine (hPA _ r1).mono ?_); rintro e w2 ⟨A2, m2, c2, rfl, hm2, O2, HB2⟩; rw [HM.out] at hm2; subst hm2; have C2 := stq C1 HB2; have T2 := T1.below HB2; have P2 := P1.below HB2; have r2 := r1.below HB2))
  obtain ⟨ad2, hA2, -, -, -, a3, a4⟩ := RdM.at5 O2.rdl 0 (by rw [HM.out]; exact h4n)
  subst hA2
  rw [Nat.zero_mul, add_zero_] at a3 a4
  obtain ⟨lo0, hlo0⟩ : ∃ x, (L.getD 0 zMet).2.2.2.1 = x := ⟨_, rfl⟩
  obtain ⟨hi0, hhi0⟩ : ∃ x, (L.getD 0 zMet).2.2.2.2 = x := ⟨_, rfl⟩
  rw [hlo0, hhi0] at HTOP
  rw [hlo0] at a3
  rw [hhi0] at a4
  clear hlo0 hhi0
  have hd : Below w2.heap.size w2 w2.drew := (Below.refl _ _).drew
  have hSk : ∀ Y, Below w2.heap.size w2 Y → Below w2.heap.size w2 Y ∧ Y.cell? ⟨ad2.block, ad2.off + 3, none⟩ = some (.string lo0) ∧ Y.cell? ⟨ad2.block, ad2.off + 4, none⟩ = some (.string hi0) := fun Y h => ⟨h, (h.cell (World.block_lt_of_cell? _ _ a3)).trans a3, (h.cell (World.block_lt_of_cell? _ _ a4)).trans a4⟩
  have hS0 := hSk _ hd
  go_region_held3 (fun Y => Below w2.heap.size w2 Y ∧ Y.cell? ⟨ad2.block, ad2.off + 3, none⟩ = some (.string lo0) ∧ Y.cell? ⟨ad2.block, ad2.off + 4, none⟩ = some (.string hi0)) (first | exact hS0 | assumption | (have hh := ‹Below w2.heap.size w2 _ ∧ _ ∧ _›; exact hSk _ (hh.1.alloc hh.1.size _)) | exact hSk _ (hd.alloc hd.size _)) (fail)
  have Sp3 : Sp (w2.alloc (.cells #[.string lo0, .string hi0] 61)).drew w2.heap.size (lo0, hi0) := heap_alloc_new w2 (.cells #[.string lo0, .string hi0] 61)
  have B23 : Below w2.heap.size w2 (w2.alloc (.cells #[.string lo0, .string hi0] 61)).drew := (below_alloc w2 _).drew
  have rL2 := O2.rdl
  clear hSk hS0 hd a3 a4 y1 y1b O1 ri1 hFl hPA t0 t1 t2 t10 t11 t12
  generalize (w2.alloc (.cells #[.string lo0, .string hi0] 61)).drew = w3 at *
  go_wp2
  go_loopw [53] (fun iv wr => ∃ k : Nat, k ≤ m ∧ iv = .int .i64 (k : Int) ∧ Sp wr w2.heap.size (spM (lo0, hi0) (L.take k)) ∧ Below w2.heap.size w2 wr) (fun iv _ => m - (intOf iv).toNat)
  case atStart => exact ⟨0, Nat.zero_le _, rfl, Sp3, B23⟩
  case round =>
    obtain ⟨k, hk, rfl, HSp, HB⟩ := hrel
    by_cases hlt : k < m
    · have hlti : (k : Int) < (m : Int) := Int.ofNat_lt.2 hlt
      obtain ⟨hw1, hw2⟩ := idx_w m k hlt (by omega)
      obtain ⟨ad, had, x0, x1, x2, x3, x4⟩ := RdM.at5 (rL2.below HB) k (by rw [HM.out]; exact hlt)
      injection had with had
      subst had
      have HNX := hide (spM_next (lo0, hi0) L k (by rw [HM.out]; exact hlt))
      obtain ⟨y, hy⟩ : ∃ y, L.getD k zMet = y := ⟨_, rfl⟩
      rw [hy] at x0 x1 x2 x3 x4 HNX
      obtain ⟨⟨p, q⟩, hpq⟩ : ∃ s, spM (lo0, hi0) (L.take k) = s := ⟨_, rfl⟩
      rw [hpq] at HSp HNX
      have b1 := below_alloc wr (mbo y)
      have M1 := Mb.new wr y
      have S1 := HSp.below b1
      obtain ⟨m0, m1, m2', m3, m4⟩ := M1.read
      obtain ⟨s0, s1, s2, s3⟩ := S1.read
      simp only at s0 s1
      have hW := fun W => hWi p q y W
      clear hy hpq
      go_wp2_with (first | (go_at_call 26; (with_reducible refine (hW _).mono ?_); rintro e w6 ⟨rfl, HB6⟩; have S6 := S1.below HB6; have C6 := stq HB (stq b1 HB6); obtain ⟨s60, s61, s62, s63⟩ := S6.read))
      go_roundw
      case rel => exact ⟨k + 1, hlt, by go_num, by rw [HNX.out]; exact S6.set _ _, (C6.setCell (p := ⟨w2.heap.size, 0, none⟩) (Nat.le_refl _) _).setCell (p := ⟨w2.heap.size, 1, none⟩) (Nat.le_refl _) _⟩
      case measure => first | exact idx_m m k hlt | exact idx_m2 m k hlt | exact idx_m3 m k hlt hw1
    · obtain rfl : k = m := Nat.le_antisymm hk (Nat.not_lt.1 hlt)
      obtain ⟨wo, rfl⟩ : ∃ z : World, z = wr := ⟨wr, rfl⟩
      rw [← HM.out, List.take_length, ← HTOP.out] at HSp
      obtain ⟨⟨p, q⟩, hpq⟩ : ∃ s, TOP = s := ⟨_, rfl⟩
      have HPQ := hide hpq
      rw [hpq] at HSp HBEL
      have T4 := T2.below HB
      obtain ⟨t40, t41, t42⟩ := T4.read
      obtain ⟨s0, s1, s2, s3⟩ := HSp.read
      simp only at s0 s1
      have hT := fun W h => hTo p q 1 W h
      rw [show toM p q (atM 1 l) = BEL from HBEL.out.symm] at hT
      have r4 := r2.below HB
      clear hpq
      go_wp2_with (first | (go_at_call 27; (with_reducible refine (hT _ r4).mono ?_); rintro e w4 ⟨A4, m4, c4, rfl, hm4, O4, HB4⟩; rw [HMB.out] at hm4; subst hm4; have S4 := HSp.below HB4; have C4 := stq HB HB4))
      go_loopw [68] (fun iv wr => ∃ k : Nat, k ≤ mb ∧ iv = .int .i64 (k : Int) ∧ Sp wr w2.heap.size (spM (p, q) (BEL.take k)) ∧ OwM wr wo.heap.size (.slice A4 mb c4) BEL ∧ Below w2.heap.size w2 wr) (fun iv _ => mb - (intOf iv).toNat)
      case atStart => exact ⟨0, Nat.zero_le _, rfl, S4, O4, C4⟩
      case round =>
        obtain ⟨j, hj, rfl, HSq, HO4, HB⟩ := hrel
        by_cases hlt : j < mb
        · have hlti : (j : Int) < (mb : Int) := Int.ofNat_lt.2 hlt
          obtain ⟨hw1, hw2⟩ := idx_w mb j hlt (by omega)
          obtain ⟨ad, hA4, x0, x1, x2, x3, x4⟩ := RdM.at5 HO4.rdl j (by rw [HMB.out]; exact hlt)
          subst hA4
          have HNX := hide (spM_next (p, q) BEL j (by rw [HMB.out]; exact hlt))
          obtain ⟨y, hy⟩ : ∃ y, BEL.getD j zMet = y := ⟨_, rfl⟩
          rw [hy] at x0 x1 x2 x3 x4 HNX
          obtain ⟨⟨u, v⟩, huv⟩ : ∃ s, spM (p, q) (BEL.take j) = s := ⟨_, rfl⟩
          rw [huv] at HSq HNX
          have b1 := below_alloc wr (mbo y)
          have M1 := Mb.new wr y
          have S1 := HSq.below b1
          have HO41 := HO4.below b1
          obtain ⟨m0, m1, m2', m3, m4⟩ := M1.read
          obtain ⟨s0', s1', s2', s3'⟩ := S1.read
          simp only at s0' s1'
          have hW := fun W => hWi u v y W
          clear hy huv
          go_wp2_with (first | (go_at_call 26; (with_reducible refine (hW _).mono ?_); rintro e w6 ⟨rfl, HB6⟩; have S6 := S1.below HB6; have O6 := HO41.below HB6; have C6 := stq HB (stq b1 HB6); obtain ⟨s60, s61, s62, s63⟩ := S6.read))
          have O62 := Ow.setCell (Ow.setCell O6 S6 (by decide) 0 (.string (minS u y.2.2.2.1))) (blk_set S6 0 (.string (minS u y.2.2.2.1))) (by decide) 1 (.string (maxS v y.2.2.2.2))
          go_roundw
          case rel => exact ⟨j + 1, hlt, by go_num, by rw [HNX.out]; exact S6.set _ _, O62, (C6.setCell (p := ⟨w2.heap.size, 0, none⟩) (Nat.le_refl _) _).setCell (p := ⟨w2.heap.size, 1, none⟩) (Nat.le_refl _) _⟩
          case measure => first | exact idx_m mb j hlt | exact idx_m2 mb j hlt | exact idx_m3 mb j hlt hw1
        · obtain rfl : j = mb := Nat.le_antisymm hj (Nat.not_lt.1 hlt)
          obtain ⟨wp, rfl⟩ : ∃ z : World, z = wr := ⟨wr, rfl⟩
          rw [← HMB.out, List.take_length] at HSq
          obtain ⟨⟨u, v⟩, huv⟩ : ∃ s, spM (p, q) BEL = s := ⟨_, rfl⟩
          rw [huv] at HSq
          rw [HPQ.out, huv] at HBOT
          clear huv s0 s1 s2 s3 t40 t41 t42 S4 C4 O4
          have rLp := rL2.below HB
          have T5 := T2.below HB
          have P5 := P2.below HB
          have r5 := r2.below HB
          have hsum : (idsM L).length + (idsM BEL).length ≤ 17592186044416 := by rw [ids_len, ids_len, HM.out, HMB.out]; omega
          have HSUM := hide hsum
          clear hsum
          go_wp2_with (first | (go_at_call 29; (with_reducible refine (hId _ _ _ rLp).mono ?_); rintro e w5 ⟨v5, rfl, O5, HB5⟩; obtain ⟨A5, c5, hv5, ri5⟩ := O5.rd; rw [ids_len, HM.out] at hv5; subst hv5; have HO5 := HO4.below HB5; have S5 := HSq.below HB5; have C5 := stq HB HB5) | (go_at_call 29; (with_reducible refine (hIdB _ _ _ HO5.rdl).mono ?_); rintro e w6 ⟨v6, rfl, O6, HB6⟩; obtain ⟨A6, c6, hv6, ri6⟩ := O6.rd; rw [ids_len, HMB.out] at hv6; subst hv6; have ri56 := ri5.below HB6; have S6 := S5.below HB6; have C6 := stq C5 HB6; have hCt := Concat_two A5 A6 c5 c6 k j w6.heap.size (idsM L) (idsM BEL) w6 rfl ri56 ri6 (by rw [ids_len]; exact HM.out) (by rw [ids_len]; exact HMB.out) HSUM.out; rw [← HINP.out] at hCt) | (go_at_call 28; (with_reducible refine hCt.mono ?_); rintro e w7 ⟨v7, rfl, O7, HB7⟩; have S7 := S6.below HB7; have C7 := stq C6 HB7; have hg9 := C7.size; have b8 := below_alloc w7 (.cells #[.int .i64 0, v7, .bool true] 28); have P8 : Pl (w7.alloc (.cells #[.int .i64 0, v7, .bool true] 28)) w7.heap.size 0 v7 true := heap_alloc_new w7 (.cells #[.int .i64 0, v7, .bool true] 28); have S8 := S7.below b8; have O8 := O7.below b8; have C8 := stq C7 b8; obtain ⟨A7, c7, hv7, -⟩ := O7.rd; subst hv7))
          clear hCt
          go_loopw [16] (fun iv wr => ∃ i : Nat, i ≤ 2 ∧ iv = .int .i64 ((i + 2 : Nat) : Int) ∧ Pl wr w7.heap.size 0 (.slice A7 INP.length c7) (botK (u, v) l i) ∧ Sp wr w2.heap.size (u, v) ∧ OwI wr w6.heap.size (.slice A7 INP.length c7) INP ∧ Below w2.heap.size w2 wr) (fun iv _ => 4 - (intOf iv).toNat)
          case atStart => exact ⟨0, by decide, rfl, P8, S8, O8, C8⟩
          case round =>
            obtain ⟨i, hi, rfl, HPl, HSq2, HO7, HB⟩ := hrel
            have T6 := T2.below HB
            have rr := r2.below HB
            have P6 := P2.below HB
            obtain ⟨t60, t61, t62⟩ := T6.read
            obtain ⟨s0, s1, s2, s3⟩ := HSq2.read
            simp only at s0 s1
            have hgp : w7.heap.size ≠ w2.heap.size := blk_ne HPl HSq2 (by decide)
            by_cases hlt : i < 2
            · have hi2 : i = 0 ∨ i = 1 := by omega
              rcases hi2 with rfl | rfl
              · have hT := fun W h => hTo u v 2 W h
                have HBN : Hid (botK (u, v) l (0 + 1) = (botK (u, v) l 0 && decide ((toM u v (atM 2 l)).length = 0))) := hide rfl
                obtain ⟨K8, hK8⟩ : ∃ K, (toM u v (atM 2 l)).length = K := ⟨_, rfl⟩
                have HK8 := hide hK8
                rw [hK8] at HBN
                obtain ⟨b, hb⟩ : ∃ b, botK (u, v) l 0 = b := ⟨_, rfl⟩
                rw [hb] at HPl HBN
                clear hK8 hb
                obtain ⟨p0', p1', p2', p3', p4', p5'⟩ := HPl.read
                cases b
                · have HBF : Hid (botK (u, v) l (0 + 1) = false) := hide (by rw [HBN.out]; rfl)
                  go_wp2
                  go_roundw
                  case rel => exact ⟨0 + 1, by decide, by go_num, by rw [HBF.out]; exact HPl.bot false, HSq2.far hgp.symm _, Ow.setCell HO7 HPl (by decide) 2 (.bool false), HB.setCell (p := ⟨w7.heap.size, 2, none⟩) hg9 _⟩
                  case measure => simp [intOf]
                · by_cases hk0 : K8 = 0
                  · have HBF : Hid (botK (u, v) l (0 + 1) = true) := hide (by rw [HBN.out, decide_eq_true hk0]; rfl)
                    have hk0i : ((K8 : Int) == 0) = true := beq_iff_eq.2 (by omega)
                    go_wp2_with (first | (go_at_call 27; (with_reducible refine (hT _ rr).mono ?_); rintro e w8 ⟨A8, m8, c8, rfl, hm8, O8', HB8⟩; rw [HK8.out] at hm8; subst hm8; have HPl8 := HPl.below HB8; have HSq8 := HSq2.below HB8; have HO8 := HO7.below HB8; have C8' := stq HB HB8; obtain ⟨q0', q1', q2', q3', q4', q5'⟩ := HPl8.read))
                    go_roundw
                    case rel => exact ⟨0 + 1, by decide, by go_num, by rw [HBF.out]; exact HPl8.bot true, HSq8.far hgp.symm _, Ow.setCell HO8 HPl8 (by decide) 2 (.bool true), C8'.setCell (p := ⟨w7.heap.size, 2, none⟩) hg9 _⟩
                    case measure => simp [intOf]
                  · have HBF : Hid (botK (u, v) l (0 + 1) = false) := hide (by rw [HBN.out, decide_eq_false hk0]; rfl)
                    have hk0i : ((K8 : Int) == 0) = false := beq_eq_false_iff_ne.2 (by omega)
                    go_wp2_with (first | (go_at_call 27; (with_reducible refine (hT _ rr).mono ?_); rintro e w8 ⟨A8, m8, c8, rfl, hm8, O8', HB8⟩; rw [HK8.out] at hm8; subst hm8; have HPl8 := HPl.below HB8; have HSq8 := HSq2.below HB8; have HO8 := HO7.below HB8; have C8' := stq HB HB8; obtain ⟨q0', q1', q2', q3', q4', q5'⟩ := HPl8.read))
                    go_roundw
                    case rel => exact ⟨0 + 1, by decide, by go_num, by rw [HBF.out]; exact HPl8.bot false, HSq8.far hgp.symm _, Ow.setCell HO8 HPl8 (by decide) 2 (.bool false), C8'.setCell (p := ⟨w7.heap.size, 2, none⟩) hg9 _⟩
                    case measure => simp [intOf]
              · have hT := fun W h => hTo u v 3 W h
                have HBN : Hid (botK (u, v) l (1 + 1) = (botK (u, v) l 1 && decide ((toM u v (atM 3 l)).length = 0))) := hide rfl
                obtain ⟨K8, hK8⟩ : ∃ K, (toM u v (atM 3 l)).length = K := ⟨_, rfl⟩
                have HK8 := hide hK8
                rw [hK8] at HBN
                obtain ⟨b, hb⟩ : ∃ b, botK (u, v) l 1 = b := ⟨_, rfl⟩
                rw [hb] at HPl HBN
                clear hK8 hb
                obtain ⟨p0', p1', p2', p3', p4', p5'⟩ := HPl.read
                cases b
                · have HBF : Hid (botK (u, v) l (1 + 1) = false) := hide (by rw [HBN.out]; rfl)
                  go_wp2
                  go_roundw
                  case rel => exact ⟨1 + 1, by decide, by go_num, by rw [HBF.out]; exact HPl.bot false, HSq2.far hgp.symm _, Ow.setCell HO7 HPl (by decide) 2 (.bool false), HB.setCell (p := ⟨w7.heap.size, 2, none⟩) hg9 _⟩
                  case measure => simp [intOf]
                · by_cases hk0 : K8 = 0
                  · have HBF : Hid (botK (u, v) l (1 + 1) = true) := hide (by rw [HBN.out, decide_eq_true hk0]; rfl)
                    have hk0i : ((K8 : Int) == 0) = true := beq_iff_eq.2 (by omega)
                    go_wp2_with (first | (go_at_call 27; (with_reducible refine (hT _ rr).mono ?_); rintro e w8 ⟨A8, m8, c8, rfl, hm8, O8', HB8⟩; rw [HK8.out] at hm8; subst hm8; have HPl8 := HPl.below HB8; have HSq8 := HSq2.below HB8; have HO8 := HO7.below HB8; have C8' := stq HB HB8; obtain ⟨q0', q1', q2', q3', q4', q5'⟩ := HPl8.read))
                    go_roundw
                    case rel => exact ⟨1 + 1, by decide, by go_num, by rw [HBF.out]; exact HPl8.bot true, HSq8.far hgp.symm _, Ow.setCell HO8 HPl8 (by decide) 2 (.bool true), C8'.setCell (p := ⟨w7.heap.size, 2, none⟩) hg9 _⟩
                    case measure => simp [intOf]
                  · have HBF : Hid (botK (u, v) l (1 + 1) = false) := hide (by rw [HBN.out, decide_eq_false hk0]; rfl)
                    have hk0i : ((K8 : Int) == 0) = false := beq_eq_false_iff_ne.2 (by omega)
                    go_wp2_with (first | (go_at_call 27; (with_reducible refine (hT _ rr).mono ?_); rintro e w8 ⟨A8, m8, c8, rfl, hm8, O8', HB8⟩; rw [HK8.out] at hm8; subst hm8; have HPl8 := HPl.below HB8; have HSq8 := HSq2.below HB8; have HO8 := HO7.below HB8; have C8' := stq HB HB8; obtain ⟨q0', q1', q2', q3', q4', q5'⟩ := HPl8.read))
                    go_roundw
                    case rel => exact ⟨1 + 1, by decide, by go_num, by rw [HBF.out]; exact HPl8.bot false, HSq8.far hgp.symm _, Ow.setCell HO8 HPl8 (by decide) 2 (.bool false), C8'.setCell (p := ⟨w7.heap.size, 2, none⟩) hg9 _⟩
                    case measure => simp [intOf]
            · obtain rfl : i = 2 := by omega
              rw [← HBOT.out] at HPl
              obtain ⟨p0', p1', p2', p3', p4', p5'⟩ := HPl.read
              obtain ⟨e0', e1', e2', e3', e4', e5'⟩ := P6.read
              go_wp2
              have hF1 := blk_set P6 0 (.int .i64 0)
              have hF2 := blk_set hF1 1 (.slice A7 INP.length c7)
              have hF := blk_set hF2 2 (.bool BOT)
              have OF := Ow.setCell (Ow.setCell (Ow.setCell HO7 P6 (by decide) 0 (.int .i64 0)) hF1 (by decide) 1 (.slice A7 INP.length c7)) hF2 (by decide) 2 (.bool BOT)
              have C9 := C2.trans (HB.mono C2.size)
              have hle : w.heap.size ≤ w.heap.size + 1 := Nat.le_succ _
              have C10 := ((C9.setCell (p := ⟨w.heap.size + 1, 0, none⟩) hle (.int .i64 0)).setCell (p := ⟨w.heap.size + 1, 1, none⟩) hle (.slice A7 INP.length c7)).setCell (p := ⟨w.heap.size + 1, 2, none⟩) hle (.bool BOT)
              exact bodyPost_ret (v := .tuple #[.agg #[.int .i64 0, .slice A7 INP.length c7, .bool BOT], .bool true, .int .i64 0]) (results_ctt Try.results9 _ _ (w.heap.size + 1) _ _ _ _ rfl hF Try.underlying28 rfl rfl) rfl ⟨_, rfl, OF.lower (Nat.le_trans C2.size C6.size), C10⟩
end Go.Proofs.Ytbhhnlgpbhbcmaa
end

section
/- What the statements share: numbers of errors, is a number in a list, a version for the program. -/
namespace Go.Proofs.Ytbhhnlgpbhbcmaa
open Go.RowKit Go.Proofs.YtbhhnlgpbhbcmaaW.PrintWords
set_option linter.unusedVariables false

theorem num_any (n : Int) (w : World) : Calls Try.prog 11 #[.int .i64 n] w fun e w' => e = .returned (.int .i64 n) ∧ w = w' := by
  go_enter Try.func11, Try.ntmps11
  go_wp2
  go_ret
  exact ⟨rfl, rfl⟩
def inL (l : List Int) (z : Int) : Bool := decide (z ∈ l)
theorem inL_at (l : List Int) (z : Int) (k : Nat) (hk : k < l.length) (h : l.getD k 0 = z) : inL l z = true := by
  rw [List.getD_eq_getElem?_getD, List.getElem?_eq_getElem hk] at h
  exact decide_eq_true (h ▸ List.getElem_mem hk)
theorem inL_not (l : List Int) (z : Int) (h : ∀ k, k < l.length → ¬ l.getD k 0 = z) : inL l z = false := by
  refine decide_eq_false fun hm => ?_
  obtain ⟨k, hk, e⟩ := List.mem_iff_getElem.1 hm
  exact h k hk (by rw [List.getD_eq_getElem?_getD, List.getElem?_eq_getElem hk]; exact e)
theorem in_next (l : List Int) (z : Int) (k : Nat) (h : ∀ j, j < k → ¬ l.getD j 0 = z) (hk : ¬ l.getD k 0 = z) : ∀ j, j < k + 1 → ¬ l.getD j 0 = z := by
  intro j hj
  rcases Nat.lt_or_ge j k with h2 | h2
  · exact h j h2
  · obtain rfl : j = k := by omega
    exact hk
set_option maxRecDepth 100000 in
set_option maxHeartbeats 1600000 in
theorem in_any (A : Option Addr) (c n : Nat) (l : List Int) (z : Int) (w : World) (hn : l.length = n) (hr : RdI w A c l) (hl : n ≤ 140737488351232) :
    Calls Try.prog 13 #[.slice A n c, .int .i64 z] w fun e w' => e = .returned (.bool (inL l z)) ∧ w = w' := by
  have HN := hide hn
  have H1 := hide (inL_at l z)
  have H2 := hide (inL_not l z)
  generalize inL l z = b at *
  clear hn
  go_enter Try.func13, Try.ntmps13
  go_wp2
  go_loopw [5] (fun iv wr => ∃ k : Nat, k ≤ n ∧ iv = .int .i64 (k : Int) ∧ (∀ j, j < k → ¬ l.getD j 0 = z) ∧ wr = w) (fun iv _ => n - (intOf iv).toNat)
  case atStart => exact ⟨0, Nat.zero_le _, rfl, fun j h => absurd h (Nat.not_lt_zero _), rfl⟩
  case round =>
    obtain ⟨k, hk, rfl, hlo, rfl⟩ := hrel
    have HLO := hide hlo
    clear hlo
    by_cases hlt : k < n
    · have hlti : (k : Int) < (n : Int) := Int.ofNat_lt.2 hlt
      obtain ⟨hw1, hw2⟩ := idx_w n k hlt hl
      obtain ⟨ad, rfl, x0⟩ := Rd.int_at hr k (by rw [HN.out]; exact hlt)
      obtain ⟨y, hy⟩ : ∃ y, l.getD k 0 = y := ⟨_, rfl⟩
      rw [hy] at x0
      have HY := hide hy
      clear hy hr
      by_cases hyz : y = z
      · have hyb : (y == z) = true := beq_iff_eq.2 hyz
        have HB : Hid (b = true) := hide (H1.out k (by rw [HN.out]; exact hlt) (by rw [HY.out]; exact hyz))
        subst hyz
        go_wp2
        go_ret
        exact ⟨by rw [HB.out]; rfl, rfl⟩
      · have hyb : (y == z) = false := beq_eq_false_iff_ne.2 hyz
        have HYZ := hide hyz
        go_wp2
        go_roundw
        case rel => exact ⟨k + 1, hlt, by go_num, in_next l z k HLO.out (by rw [HY.out]; exact HYZ.out), by first | rfl | trivial⟩
        case measure => first | exact idx_m n k hlt | exact idx_m2 n k hlt | exact idx_m3 n k hlt hw1
    · obtain rfl : k = n := Nat.le_antisymm hk (Nat.not_lt.1 hlt)
      have HB : Hid (b = false) := hide (H2.out (fun j hj => HLO.out j (by rw [HN.out] at hj; exact hj)))
      clear hr
      go_wp2
      go_ret
      exact ⟨by rw [HB.out]; rfl, rfl⟩
theorem metas_next (l : List Met) (k : Nat) (h : k < l.length) : l.take (k + 1) = l.take k ++ [l.getD k zMet] := take_next l k h
set_option maxRecDepth 100000 in
set_option maxHeartbeats 1600000 in
theorem OfMetas_any (A : Option Addr) (c n : Nat) (l : List Met) (w : World) (hn : l.length = n) (hr : RdM w A c l) (hl : l.length * 56 ≤ 140737488351232) :
    Calls Try.prog 30 #[.slice A n c] w fun e w' => ∃ v, e = .returned v ∧ OwM w' w.heap.size v l ∧ Below w.heap.size w w' := by
  have HN := hide hn
  have hn2 : n * 56 ≤ 140737488351232 := by rw [← hn]; exact hl
  clear hn hl
  go_enter Try.func30, Try.ntmps30
  go_wp2
  go_loopw [3, 4] (fun v iv wr => ∃ k : Nat, k ≤ n ∧ iv = .int .i64 (k : Int) ∧ OwM wr w.heap.size v (l.take k) ∧ Below w.heap.size w wr) (fun v iv _ => n - (intOf iv).toNat)
  case atStart => exact ⟨0, Nat.zero_le _, rfl, Ow.zero _ _ _ _, Below.refl _ _⟩
  case round =>
    obtain ⟨k, hk, rfl, HO, HB⟩ := hrel
    by_cases hlt : k < n
    · have hlti : (k : Int) < (n : Int) := Int.ofNat_lt.2 hlt
      obtain ⟨hw1, hw2⟩ := idx_w n k hlt (by omega)
      obtain ⟨ad, rfl, x0, x1, x2, x3, x4⟩ := RdM.at5 (hr.below HB) k (by rw [HN.out]; exact hlt)
      have HNX := hide (metas_next l k (by rw [HN.out]; exact hlt))
      obtain ⟨y, hy⟩ : ∃ y, l.getD k zMet = y := ⟨_, rfl⟩
      rw [hy] at x0 x1 x2 x3 x4 HNX
      have hlen : ((l.take k).length + 1) * 56 ≤ 140737488355328 := by rw [List.length_take]; omega
      generalize l.take k = xs at *
      clear hy
      go_wp2_with (first | (at_builtin; refine app_met (w0 := w) w.heap.size rfl (.tmp 11) (.tmp 16) rfl u3 xs y rfl rfl HO HB HB.size hlen ?_; intro v1 w1 HO2 HB2 hg hat))
      go_roundw
      case rel => exact ⟨k + 1, hlt, by go_num, by rw [HNX.out]; exact HO2, HB2⟩
      case measure => first | exact idx_m n k hlt | exact idx_m2 n k hlt | exact idx_m3 n k hlt hw1
    · obtain rfl : k = n := Nat.le_antisymm hk (Nat.not_lt.1 hlt)
      rw [← HN.out, List.take_length] at HO
      go_wp2
      go_ret
      exact ⟨_, rfl, HO, HB⟩
set_option maxRecDepth 100000 in
set_option maxHeartbeats 1600000 in
theorem Of_any (A : Option Addr) (c n : Nat) (seq nx : Int) (l : List Met) (w : World) (hn : l.length = n) (hr : RdM w A c l) (hl : l.length * 56 ≤ 140737488351232) :
    Calls Try.prog 10 #[verV A n c seq nx] w fun e w' => ∃ A' c', e = .returned (verV A' n c' seq nx) ∧ OwM w' w.heap.size (.slice A' n c') l ∧ Below w.heap.size w w' := by
  have HN := hide hn
  have hM := fun W (h : RdM W A c l) => OfMetas_any A c n l W hn h hl
  clear hn
  go_enter Try.func10, Try.ntmps10
  go_wp2
  obtain ⟨W2, hW2⟩ : ∃ W2, (w.alloc (.cells #[.slice A n c, .int .i64 seq, .int .i64 nx] 24)).alloc (.cells #[.slice none 0 0, .int .i64 0, .int .i64 0] 34) = W2 := ⟨_, rfl⟩
  have hs1 : (w.alloc (.cells #[.slice A n c, .int .i64 seq, .int .i64 nx] 24)).heap.size = w.heap.size + 1 := by simp
  have hs2 : W2.heap.size = w.heap.size + 2 := by rw [← hW2]; simp
  have hb2 : Below w.heap.size w W2 := by rw [← hW2]; exact ((Below.refl _ _).alloc (Nat.le_refl _) _).alloc (by simp) _
  have c0 : W2.heap[w.heap.size]? = some (.cells #[.slice A n c, .int .i64 seq, .int .i64 nx] 24) := by
    rw [← hW2, Below.heap_alloc _ _ _ (by simp)]; exact heap_alloc_new w _
  have c1 : W2.heap[w.heap.size + 1]? = some (.cells #[.slice none 0 0, .int .i64 0, .int .i64 0] 34) := by
    rw [← hW2]; have := heap_alloc_new (w.alloc (.cells #[.slice A n c, .int .i64 seq, .int .i64 nx] 24)) (.cells #[.slice none 0 0, .int .i64 0, .int .i64 0] 34); rw [hs1] at this; exact this
  rw [hW2]
  clear hW2 hs1
  have e0 : W2.cell? ⟨w.heap.size, 0, none⟩ = some (.slice A n c) := blk_cell c0 0
  have e1 : W2.cell? ⟨w.heap.size, 1, none⟩ = some (.int .i64 seq) := blk_cell c0 1
  have e2 : W2.cell? ⟨w.heap.size, 2, none⟩ = some (.int .i64 nx) := blk_cell c0 2
  have hxd : RdM W2.drew A c l := hr.below hb2.drew
  go_region_with (first | (go_at_call 30; refine (hM _ hxd).mono ?_; rintro e w1 ⟨v1, rfl, HO1, HB10⟩; have HB1 := (Below.refl W2.heap.size W2).drew.trans HB10; have g0 : w1.cell? ⟨w.heap.size, 1, none⟩ = some (.int .i64 seq) := (HB1.cell (by rw [hs2]; show w.heap.size < _; omega)).trans e1; have g00 : w1.cell? ⟨w.heap.size, 2, none⟩ = some (.int .i64 nx) := (HB1.cell (by rw [hs2]; show w.heap.size < _; omega)).trans e2; have g1 : w1.heap[w.heap.size + 1]? = some (.cells #[.slice none 0 0, .int .i64 0, .int .i64 0] 34) := (HB1.block _ (by omega)).trans c1; have g2 := blk_cell g1 0; have g3 := blk_cell g1 1; have g33 := blk_cell g1 2; have g4 := blk_frozen g1 0; have g5 := blk_frozen g1 1; have g6 := blk_frozen g1 2; obtain ⟨A1, k1, hv1, hr1⟩ := HO1.rd; rw [HN.out] at hv1; subst hv1))
  all_goals go_wp2
  all_goals (
    have h1 := blk_set g1 0 (.slice A1 n k1)
    have h2 := blk_set h1 1 (.int .i64 seq)
    have h3 := blk_set h2 2 (.int .i64 nx)
    have HO3 := Ow.setCell (Ow.setCell (Ow.setCell HO1 g1 (by decide) 0 (.slice A1 n k1)) h1 (by decide) 1 (.int .i64 seq)) h2 (by decide) 2 (.int .i64 nx)
    have hle : w.heap.size ≤ w.heap.size + 1 := Nat.le_succ _
    have HB3 := (((hb2.trans (HB1.mono (by omega))).setCell (p := ⟨w.heap.size + 1, 0, none⟩) hle (.slice A1 n k1)).setCell (p := ⟨w.heap.size + 1, 1, none⟩) hle (.int .i64 seq)).setCell (p := ⟨w.heap.size + 1, 2, none⟩) hle (.int .i64 nx)
    exact bodyPost_ret (v := verV A1 n k1 seq nx) (results_cell_row Try.results10 _ _ (w.heap.size + 1) _ _ _ _ rfl h3 Try.underlying34 rfl rfl) rfl ⟨A1, k1, rfl, HO3.lower (by show w.heap.size ≤ W2.heap.size; omega), HB3⟩)
end Go.Proofs.Ytbhhnlgpbhbcmaa
end

section
/- The page's example. -/
namespace Go.Proofs.Ytbhhnlgpbhbcmaa
open Go.RowKit Go.Proofs.YtbhhnlgpbhbcmaaW.PrintWords
set_option linter.unusedVariables false

def exM (k : Nat) : Met := ((4 - k : Nat), 0, 1, ⟨#[97]⟩, ⟨#[98]⟩)
def exL : Nat → List Met
  | 0 => []
  | k + 1 => exL k ++ [exM k]
theorem exL_fit : ∀ x ∈ exL 4, fitI x.1 := by
  intro x hx
  have h : x = exM 0 ∨ x = exM 1 ∨ x = exM 2 ∨ x = exM 3 := by simpa [exL] using hx
  rcases h with rfl | rfl | rfl | rfl <;> (unfold fitI; decide)
theorem exL_chk : chkM (exL 4) 0 9 = 0 := by decide
theorem exL_full : fullM 0 (exL 4) = true := by decide
theorem exL_at : atM 0 (exL 4) = exL 4 := by decide
theorem exL_below : belowM (exL 4) (exL 4) = [] := by decide
theorem exL_bot : botM (exL 4) (exL 4) = true := by decide
theorem exL_inp : (inpM (exL 4) (exL 4)).length = 4 := by decide
theorem al_w (k : Nat) (h : k < 4) : ∃ d : Nat, 4 - k = d + 1 ∧ 4 - (k + 1) = d ∧ wrap64 ((d : Int) + 1 - 1) = (d : Int) ∧ IntKind.i64.wrap ((d : Int) + 1 - 1) = (d : Int) ∧ IntKind.i64.wrap (d : Int) = (d : Int) := by
  refine ⟨3 - k, by omega, by omega, ?_, ?_, ?_⟩
  · unfold wrap64; omega
  · rw [IntKind.wrap_i64]; omega
  · rw [IntKind.wrap_i64]; omega
theorem exL_len (k : Nat) : (exL k).length = k := by
  induction k with
  | zero => rfl
  | succ k ih => rw [exL, List.length_append, ih]; rfl
def Tv (W : World) (g : Nat) (v : Value) : Prop := W.heap[g]? = some (.cells #[v, .int .i64 0, .int .i64 9] 34 (0, 0))
theorem Tv.read {W : World} {g : Nat} {v : Value} (h : Tv W g v) : W.cell? ⟨g, 0, none⟩ = some v ∧ W.cell? ⟨g, 1, none⟩ = some (.int .i64 0) ∧ W.cell? ⟨g, 2, none⟩ = some (.int .i64 9) ∧ W.frozen? ⟨g, 0, none⟩ = false := ⟨blk_cell h 0, blk_cell h 1, blk_cell h 2, blk_frozen h 0⟩
theorem Tv.set {W : World} {g : Nat} {v : Value} (h : Tv W g v) (u : Value) : Tv (W.setCell ⟨g, 0, none⟩ u) g u := blk_set h 0 u
set_option maxRecDepth 100000 in
set_option maxHeartbeats 3200000 in
theorem alive_any (w : World) : Calls Try.prog 8 #[] w fun e w' => e = .returned (.bool true) ∧ Below w.heap.size w w' := by
  have b1 := below_alloc w (.cells #[.slice none 0 0, .int .i64 0, .int .i64 9] 34)
  have T1 : Tv (w.alloc (.cells #[.slice none 0 0, .int .i64 0, .int .i64 9] 34)) w.heap.size (.slice none 0 0) := heap_alloc_new w (.cells #[.slice none 0 0, .int .i64 0, .int .i64 9] 34)
  have hCh := fun A c W (h : RdM W A c (exL 4)) => Choose0_any A c 4 0 9 (exL 4) W (exL_len 4) h exL_fit (by rw [exL_len]; decide) exL_chk exL_full
  rw [exL_at] at hCh
  rw [exL_bot] at hCh
  have hI := exL_inp
  generalize inpM (exL 4) (exL 4) = INP at *
  have HI := hide hI
  clear hI
  go_enter Try.func8, Try.ntmps8
  go_wp2
  go_loopw [2] (fun iv wr => ∃ (k : Nat) (v : Value), k ≤ 4 ∧ iv = .int .i64 ((4 - k : Nat) : Int) ∧ Tv wr w.heap.size v ∧ OwM wr w.heap.size v (exL k) ∧ Below w.heap.size w wr) (fun iv _ => (intOf iv).toNat)
  case atStart => exact ⟨0, _, Nat.zero_le _, rfl, T1, Ow.zero _ _ _ _, b1⟩
  case round =>
    obtain ⟨k, v, hk, rfl, HT, HO, HB⟩ := hrel
    by_cases hlt : k < 4
    · obtain ⟨d, hd1, hd2, hd3, hd4, hd5⟩ := al_w k hlt
      have HX : Hid (exL (k + 1) = exL k ++ [exM k]) := hide rfl
      have HM : Hid (exM k = ((d : Int) + 1, 0, 1, ⟨#[97]⟩, ⟨#[98]⟩)) := hide (by rw [exM, hd1]; rfl)
      have hlen : ((exL k).length + 1) * 56 ≤ 140737488355328 := by rw [exL_len]; omega
      obtain ⟨t0, t1, t2, t3⟩ := HT.read
      have hpos : (0 : Int) < (d : Int) + 1 := by omega
      have HD2 := hide hd2
      rw [hd1]
      generalize exL k = xs at *
      clear hd1 hd2
      go_wp2_with (first | (at_builtin; refine app_met (w0 := w) w.heap.size rfl (.tmp 12) (.tmp 15) rfl v xs ((d : Int) + 1, 0, 1, ⟨#[97]⟩, ⟨#[98]⟩) rfl rfl HO HB HB.size hlen ?_; intro v1 w1 HO2 HB2 hg hat; obtain ⟨A1, c1, hv1, -⟩ := HO2.rd; obtain ⟨z1, hz1⟩ : ∃ z, (xs ++ [((d : Int) + 1, 0, 1, ⟨#[97]⟩, ⟨#[98]⟩)] : List Met).length = z := ⟨_, rfl⟩; rw [hz1] at hv1; clear hz1; subst hv1; have HT2 : Tv w1 w.heap.size v := blk_grown HT hg (Kd.R_ne HO HT (by decide)); obtain ⟨u0, u1, u2, u3⟩ := HT2.read))
      have HO3 := Ow.setCell HO2 HT2 (by decide) 0 (.slice A1 z1 c1)
      go_roundw
      case rel => exact ⟨k + 1, .slice A1 z1 c1, hlt, by rw [HD2.out], HT2.set _, by rw [HX.out, HM.out]; exact HO3, HB2.setCell (p := ⟨w.heap.size, 0, none⟩) (Nat.le_refl _) _⟩
      case measure => simp [intOf]
    · obtain rfl : k = 4 := by omega
      obtain ⟨A4, c4, rfl, r4⟩ := HO.rd
      rw [exL_len] at HT
      obtain ⟨t0, t1, t2, t3⟩ := HT.read
      go_wp2_with (first | (go_at_call 9; (with_reducible refine (hCh _ _ _ r4).mono ?_); rintro e w5 ⟨v5, rfl, O5, HB5⟩; have C5 := stq HB HB5; obtain ⟨A5, c5, hv5, -⟩ := O5.rd; rw [HI.out] at hv5; subst hv5; have b6 := below_alloc w5 (.cells #[.int .i64 0, .slice A5 4 c5, .bool true] 28); have P6 : Pl (w5.alloc (.cells #[.int .i64 0, .slice A5 4 c5, .bool true] 28)) w5.heap.size 0 (.slice A5 4 c5) true := heap_alloc_new w5 (.cells #[.int .i64 0, .slice A5 4 c5, .bool true] 28); obtain ⟨p0, p1, p2, p3, p4, p5⟩ := P6.read) | (go_at_call 11; refine (num_any _ _).mono ?_; rintro e w' ⟨rfl, rfl⟩))
      go_ret
      exact ⟨by first | rfl | simp, stq C5 b6⟩
end Go.Proofs.Ytbhhnlgpbhbcmaa
end

section
/- Arguments opened: a version of tables. -/
namespace Go.Proofs.Ytbhhnlgpbhbcmaa
open Go.ChangeShapes Go.WideShapes Go.ChangeAt Go.RowKit Go.Proofs.YtbhhnlgpbhbcmaaW.PrintWords
set_option maxRecDepth 100000
set_option linter.unusedVariables false
instance : Inhabited Met := ⟨zMet⟩
theorem bound_of (l : List Nat) : ∃ B, ∀ z ∈ l, z ≤ B := by
  induction l with
  | nil => exact ⟨0, fun z hz => by cases hz⟩
  | cons a l ih =>
    obtain ⟨B, hB⟩ := ih
    refine ⟨max a B, fun z hz => ?_⟩
    rcases List.mem_cons.1 hz with rfl | h
    · exact Nat.le_max_left _ _
    · exact Nat.le_trans (hB z h) (Nat.le_max_right _ _)
theorem open_ver {H : Type} {enc : TypeId × Value → H} {W : World} {base : Nat} {v : Value} {x : DataW H} {p : List MemPlace} (hv : Value.okWide Try.prog W .any base 24 v)
    (h : DataW.Trod enc Try.prog W 0 (fun _ => true) true 24 v x p) : ∃ A c l seq nx, v = .agg #[.slice A l.length c, .int .i64 seq, .int .i64 nx] ∧ RdM W A c l ∧ (∀ x ∈ l, fitI x.1) ∧ (∀ B, (∀ z ∈ x.weights Try.prog 24, z ≤ B) → l.length * 56 ≤ B) := by
  have o1 := opens_struct Try.underlying39 (d := kMet) (by kernel_rfl) (opensF_cons rfl (by kernel_rfl) (opens_int Try.underlying3) (opensF_cons rfl (by kernel_rfl) (opens_int Try.underlying3) (opensF_cons rfl (by kernel_rfl) (opens_int Try.underlying3) (opensF_cons rfl (by kernel_rfl) (opens_string Try.underlying9) (opensF_one rfl (by kernel_rfl) (opens_string Try.underlying9))))))
  have o2 := opens_slice (t := 22) Try.underlying22 (by kernel_rfl) o1
  have o5 := opens_struct Try.underlying24 (d := Kd.pair (Kd.slice 39 kMet) (Kd.pair kInt kInt)) (by kernel_rfl) (opensF_cons rfl (by kernel_rfl) o2 (opensF_cons rfl (by kernel_rfl) (opens_int Try.underlying3) (opensF_one rfl (by kernel_rfl) (opens_int Try.underlying3))))
  obtain ⟨a, cs, rfl, hK, hS, hU⟩ := open_struct_of Try.underlying24 o5 hv h
  obtain ⟨l, seq, nx⟩ := a
  obtain ⟨c0, c1, hcs, h0, c2, c3, rfl, h1, h2⟩ := hK
  obtain ⟨A, c, rfl, hl, hC⟩ := h0
  have h1' : c2 = [.int .i64 seq] := h1
  have h2' : c3 = [.int .i64 nx] := h2
  subst h1'
  subst h2'
  have hcs2 : cs = #[.slice A l.length c, .int .i64 seq, .int .i64 nx] := Array.toList_inj.1 hcs
  obtain ⟨B0, hB0⟩ := bound_of (x.weights Try.prog 24)
  refine ⟨A, c, l, seq, nx, by rw [hcs2], ⟨hl, hC⟩, fun y hy => ((hS B0 hB0).1.2 y hy).1, fun B hB => ?_⟩
  have h3 := hS B hB
  have e1 : Try.prog.bytesOf 39 = 56 := by kernel_rfl
  have h4 := h3.1.1
  rw [e1] at h4
  exact h4
end Go.Proofs.Ytbhhnlgpbhbcmaa
end
