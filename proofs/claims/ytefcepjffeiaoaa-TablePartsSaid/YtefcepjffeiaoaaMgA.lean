/- The contracts that the laws of this seat share: octets, sums, numbers, records. -/
import Derived.Test.YtefcepjffeiaoaaProg
import Derived.Test.YtefcepjffeiaoaaQWWords
import Derived.WalkKit
import Derived.WalkSpells
import Derived.WalkLawsBesides
import Derived.KernelRfl
import Derived.Deep.QuietTactic
import Derived.BigQuiet
import Derived.Deep.DeepCutAuto
import Derived.Deep.CutBlock
import Derived.Deep.RegionHeld3
import Derived.Lib.ConvBytes
import Derived.Lib.AppendStr
import Derived.Deep.AppendLies
import Derived.IntWalk
import Derived.Test.YtefcepjffeiaoaaRows
import Derived.ChangeSlices
import Derived.ProofKit
import Derived.OpenShut
import Derived.Deep.Slices
import Derived.ChangeSame
import Derived.SizedLaws
import Derived.Laws.BitsAllLaws
import Derived.Laws.BitsLemmas
import Derived.Below
import Derived.Lib.AppendZeros
import Derived.Lib.BitFns
import Derived.Lib.ItoaNum
import Derived.StillTailTactics
import Derived.Test.YtefcepjffeiaoaaQShmathbitsLen64
import Derived.Test.YtefcepjffeiaoaaQShmathbitsLeadingZeros8
import Derived.Sort.Walk0
import Derived.Test.YtefcepjffeiaoaaQPBx
import Derived.Test.YtefcepjffeiaoaaQShcmpCompareint
set_option linter.unusedVariables false
set_option linter.unusedSimpArgs false
section
/- What the walks of this seat share: bytes as a slice holds them, read and owned; small words. -/
namespace Go.Proofs.Ytefcepjffeiaoaa
open Go.RowKit Go.Proofs.YtefcepjffeiaoaaW.PrintWords

theorem hide {p : Prop} (h : p) : Hid p := h
/-- an octet in memory -/
def eu8 (b : UInt8) : Value := .int .u8 (b.toNat : Int)
theorem eu8_one (b : UInt8) : (eu8 b).oneCell' = true := rfl
theorem info_u8 : (Try.prog.info? 5).map (fun i => (i.zero, i.size, i.bytes)) = some (some (.int .u8 0), 1, 1) := by kernel_rfl

/-- a slice of octets that is read: its address, its capacity -/
def RdB (w : World) (A : Option Addr) (c : Nat) (xs : List UInt8) : Prop := xs.length ≤ c ∧ ReadsOf eu8 0 w A xs.length xs
/-- a row of octets of the call's own -/
def OwB (w : World) (base : Nat) (v : Value) (xs : List UInt8) : Prop := w.ownsRow base 5 1 v xs.length (encs eu8 xs)

theorem RdB.below {w w1 : World} {A : Option Addr} {c : Nat} {xs : List UInt8} (h : RdB w A c xs) (hb : Below w.heap.size w w1) : RdB w1 A c xs := ⟨h.1, h.2.below hb⟩
theorem RdB.le {w : World} {A : Option Addr} {c : Nat} {xs : List UInt8} (h : RdB w A c xs) : xs.length ≤ c := h.1
theorem RdB.max {w : World} {A : Option Addr} {c : Nat} {xs : List UInt8} (h : RdB w A c xs) : xs.length ≤ 9223372036854775807 := h.2.2.1
theorem RdB.at_ {w : World} {A : Option Addr} {c : Nat} {xs : List UInt8} (h : RdB w A c xs) (i : Nat) (hi : i < xs.length) : ∃ ad, A = some ad ∧ w.cell? (ad.add i) = some (.int .u8 ((xs.getD i 0).toNat : Int)) := by
  obtain ⟨ad, e, hc⟩ := h.2.2.2 (by omega)
  exact ⟨ad, e, hc i hi⟩
theorem RdB.zero (w : World) (A : Option Addr) (c : Nat) : RdB w A c [] := ⟨Nat.zero_le _, rfl, Nat.zero_le _, fun h => absurd h (by simp)⟩
theorem OwB.below {w w1 : World} {base : Nat} {v : Value} {xs : List UInt8} (h : OwB w base v xs) (hb : Below w.heap.size w w1) : OwB w1 base v xs := pw_own_below h hb
theorem OwB.lower {w : World} {base base' : Nat} {v : Value} {xs : List UInt8} (h : OwB w base v xs) (hb : base' ≤ base) : OwB w base' v xs := own_weaken h hb
theorem OwB.rd {w : World} {base : Nat} {v : Value} {xs : List UInt8} (h : OwB w base v xs) : ∃ A c, v = .slice A xs.length c ∧ RdB w A c xs := by
  obtain ⟨A, c, hv, hl, hr⟩ := own_reads_of_le (d := (0 : UInt8)) h
  exact ⟨A, c, hv, hl, hr⟩
theorem OwB.zero (w : World) (base : Nat) : OwB w base (.slice none 0 0) [] := own_nil _ _ _ _
theorem RdB.take {w : World} {A : Option Addr} {c : Nat} {xs : List UInt8} (h : RdB w A c xs) (k : Nat) (hk : k ≤ xs.length) : RdB w A c (xs.take k) := by
  have hl : (xs.take k).length = k := by rw [List.length_take]; omega
  refine ⟨by have := h.1; omega, ?_⟩
  rw [hl]
  exact h.2.take_ k hk
/-- the address behind 'xs[k:]' -/
def cutA (A : Option Addr) (c k : Nat) : Option Addr := if c = k then A else A.map (·.add k)
theorem RdB.drop {w : World} {A : Option Addr} {c : Nat} {xs : List UInt8} (h : RdB w A c xs) (k : Nat) (hk : k ≤ xs.length) : RdB w (cutA A c k) (c - k) (xs.drop k) := by
  have hl : (xs.drop k).length = xs.length - k := List.length_drop
  refine ⟨by have := h.1; omega, ?_⟩
  rw [hl]
  exact h.2.drop_ k hk h.1
/-- 'xs[:k]', 'xs[k:]', 'xs[j:k]' of a slice whose elements have one cell -/
theorem slice_hi {P : Program} (t e : TypeId) {i : TypeInfo} (ht : P.underlying t = some (.slice e)) (hi : P.info? e = some i) (hsz : i.size = 1) (A : Option Addr) (n c k : Nat) (hk : k ≤ c) (W : World) :
    (Instr.slice t (.slice A n c) none (some (.int .i64 (k : Int))) none).run P W = .ok (.slice A k c) W := by
  have hel : P.elem t = e := by simp [Program.elem, ht]
  have hu : P.underlying t = some (.slice (P.elem t)) := by rw [hel]; exact ht
  have ha : (A.map fun x => x.add 0) = A := by cases A <;> simp [Addr.add]
  rw [run_slice_h W t A n c hu .i64 (k : Int) (Int.natCast_nonneg _) (by omega), hel]
  simp [sizeOf, typeInfo, hi, hsz, sliced, Result.andThen, ha]
theorem slice_lo {P : Program} (t e : TypeId) {i : TypeInfo} (ht : P.underlying t = some (.slice e)) (hi : P.info? e = some i) (hsz : i.size = 1) (A : Option Addr) (n c k : Nat) (hk : k ≤ n) (W : World) :
    (Instr.slice t (.slice A n c) (some (.int .i64 (k : Int))) none none).run P W = .ok (.slice (cutA A c k) (n - k) (c - k)) W := by
  have hel : P.elem t = e := by simp [Program.elem, ht]
  have hu : P.underlying t = some (.slice (P.elem t)) := by rw [hel]; exact ht
  rw [run_slice_l W t A n c hu .i64 (k : Int) (Int.natCast_nonneg _) (by omega), hel]
  simp [sizeOf, typeInfo, hi, hsz, sliced, Result.andThen, cutA]
theorem slice_lohi {P : Program} (t e : TypeId) {i : TypeInfo} (ht : P.underlying t = some (.slice e)) (hi : P.info? e = some i) (hsz : i.size = 1) (A : Option Addr) (n c j k : Nat) (hj : j ≤ k) (hk : k ≤ c) (W : World) :
    (Instr.slice t (.slice A n c) (some (.int .i64 (j : Int))) (some (.int .i64 (k : Int))) none).run P W = .ok (.slice (cutA A c j) (k - j) (c - j)) W := by
  have hel : P.elem t = e := by simp [Program.elem, ht]
  have hu : P.underlying t = some (.slice (P.elem t)) := by rw [hel]; exact ht
  rw [run_slice_lh W t A n c hu .i64 .i64 (j : Int) (k : Int) (Int.natCast_nonneg _) (by omega) (by omega), hel]
  simp [sizeOf, typeInfo, hi, hsz, sliced, Result.andThen, cutA]

/-! 'string(b)', and its letters -/
def strB (xs : List UInt8) : ByteArray := ⟨xs.toArray⟩
theorem strOfNums_eu8 (xs : List UInt8) : strOfNums (xs.map fun b => (b.toNat : Int)) = strB xs := by
  simp [strOfNums, strB, List.map_map]
  have : ((fun (n : Int) => UInt8.ofNat n.toNat) ∘ fun (b : UInt8) => (b.toNat : Int)) = id := by
    funext b; simp
  rw [this, List.map_id]
theorem RdB.toStr {w : World} {A : Option Addr} {c : Nat} {xs : List UInt8} (h : RdB w A c xs) {P : Program} (src e dst : TypeId) (hs : P.underlying src = some (.slice e)) (he : P.underlying e = some (.int .u8)) (hd : P.underlying dst = some .string) :
    (convert src dst (.slice A xs.length c)).run P w = .ok (.string (strB xs)) w := by
  rcases Nat.eq_zero_or_pos xs.length with h0 | h0
  · obtain rfl : xs = [] := List.eq_nil_of_length_eq_zero h0
    cases A with
    | none => exact run_convert_bytes_nil w src e hs he 0 c dst hd
    | some ad =>
      show (convert src dst (.slice (some ad) 0 c)).run P w = _
      rw [run_convert_bytes_string w src dst e _ 0 c hs he hd, run_bytesToString w ad 0 c [] (by rfl)]
      rfl
  · obtain ⟨ad, rfl, hc⟩ := h.2.2.2 h0
    rcases ad with ⟨b, off, spot⟩
    cases spot with
    | some s =>
      have := hc 0 h0
      simp [Addr.add, World.cell?] at this
      split at this <;> simp at this
    | none =>
      have := run_convert_bytes_arg w src e hs he b off xs.length c (xs.map fun b => (b.toNat : Int)) (by simp) (fun i hi => by
        have := hc i hi
        have ha : (⟨b, off, none⟩ : Addr).add i = ⟨b, off + i, none⟩ := by unfold Addr.add; split <;> simp_all
        rw [ha] at this
        rw [this]
        simp [eu8, List.getD_eq_getElem?_getD, List.getElem?_eq_getElem hi]) dst hd
      rw [strOfNums_eu8] at this
      exact this

/-! 'append(v, ys...)' of octets, and of one octet -/
theorem OwB.lit0 (w : World) : OwB (w.alloc (.cells #[] 5)) w.heap.size (.slice (some ⟨w.heap.size, 0, none⟩) 0 0) [] := own_lit_of (enc := eu8) w w.heap.size 5 [] (Nat.le_refl _) (by simp)
section
variable {ops : Array Oper} {rest : List Oper} {o : Oper} {a : Act} {Q : Exit → Act → World → Prop}
theorem app_row {w0 W : World} (base : Nat) (hgd : o.guard = none) (s x : Operand)
    (ho : o.op = .call { callee := .builtin .append, args := #[s, x], argTypes := #[23, 23] })
    (v : Value) (xs ys : List UInt8) (A : Option Addr) (c : Nat) (hs : a.eval s = v) (hx : a.eval x = .slice A ys.length c)
    (HO : OwB W base v xs) (HR : RdB W A c ys) (HB : Below base w0 W) (hbase : base ≤ W.heap.size) (hl : xs.length + ys.length ≤ 140737488355328)
    (h : ∀ v1 w1, OwB w1 base v1 (xs ++ ys) → Below base w0 w1 → W.grownBy w1 v.ownBlock → (v1.ownBlock = v.ownBlock ∨ ∃ b, v1.ownBlock = some b ∧ W.heap.size ≤ b) → wpList Try.prog ops Q rest (a.put o.dst v1) w1) :
    wpList Try.prog ops Q (o :: rest) a W :=
  print_append_row_of eu8 0 base hgd s x 23 5 (.int .u8 0) 1 ho Try.underlying23 info_u8 rfl (by decide) eu8_one v xs ys A ys.length c hs hx HO HR.2 HB hbase (by omega) h
end

/-! a region that draws its order, whose operations read what lay there when the call began, and whose callees leave that alone and hand back plain values: one walk in the text's order ('quiet_step', the class 'Below') -/
theorem wp_region_below {P : Program} {id : Nat} {Q : Exit → Act → World → Prop} {a : Act} {w : World} {l : List Oper} (B : Nat) (w0 : World) (hw0 : Below B w0 w) (hm : P.follows .mixedOrders = true) (hB : Region.lexB .any l.toArray = true)
    (h : wpQuiet P l.toArray (fun w' => Below B w0 w') (fun a' => ∀ w', Below B w0 w' → Q .normal a' w') l a) : (Code.region id l.toArray true).wp P Q a w :=
  wp_region_quiet (C := fun w' => Below B w0 w') hm hB hw0.drew (by simpa using h)

/-! arrays: '[4]byte(b)', a whole array read -/
theorem run_arrayAt {P : Program} (w : World) (arr e n : Nat) (hu : P.underlying arr = some (.array n e)) (a : Option Addr) (len c : Nat) (h : n ≤ len) : (Instr.arrayAt arr (.slice a len c)).run P w = .ok (.pointer a) w := by
  have h' : ¬ len < n := by omega
  simp [Instr.arrayAt, run_underlying hu, h']
theorem run_loadVar_arr {P : Program} (w : World) (ty e n : Nat) (hu : P.underlying ty = some (.array n e)) (a : Addr) (cs : List Value) (hi : (P.info? ty).map (·.size) = some cs.length)
    (hc : ∀ j v, cs[j]? = some v → w.cell? (a.add j) = some v) : (loadVar ty a).run P w = .ok (.agg cs.toArray) w := by
  have hl := run_loadCells_list (P := P) w a cs hc
  cases hq : P.info? ty with
  | none => simp [hq] at hi
  | some i =>
    have hs : i.size = cs.length := by simpa [hq] using hi
    have hagg : (isAgg ty).run P w = .ok true w := by
      unfold isAgg
      rw [Sem.run_bind, run_underlying hu w]
      simp
    simp [loadVar, Sem.run_bind, hagg, sizeOf, typeInfo, hq, hs, hl]
/-- an operation of a quiet walk whose run is known in every world of the class -/
theorem quiet_run {P : Program} {ops : Array Oper} {C : World → Prop} {Q : Act → Prop} {o : Oper} {rest : List Oper} {a : Act} (hgd : o.guard = none) (v : Value)
    (h : ∀ w, C w → (execOp a.eval o).run P w = .ok (.value v) w) (hk : wpQuiet P ops C Q rest (a.put o.dst v)) : wpQuiet P ops C Q (o :: rest) a :=
  wpQuiet_step fun K hK => by
    rw [if_pos (by simp [Region.wanted, hgd])]
    exact ⟨v, fun w hw => by unfold Oper.quietAt; rw [h w hw]; exact ⟨rfl, rfl⟩, hK _ hk⟩
/-- a whole variable (an array, a struct) read -/
theorem quiet_load {P : Program} {ops : Array Oper} {C : World → Prop} {Q : Act → Prop} {o : Oper} {rest : List Oper} {a : Act} (hgd : o.guard = none) (ty : TypeId) (x : Operand) (ho : o.op = .load ty x)
    (ad : Addr) (hx : a.eval x = .pointer (some ad)) (v : Value) (h : ∀ w, C w → (loadVar ty ad).run P w = .ok v w) (hk : wpQuiet P ops C Q rest (a.put o.dst v)) : wpQuiet P ops C Q (o :: rest) a :=
  quiet_run hgd v (fun w hw => by
    unfold execOp
    simp only [ho, hx, Instr.loadAt, Instr.sureAddr, Sem.run_bind, Sem.run_pure, Result.andThen_ok, h w hw]) hk
end Go.Proofs.Ytefcepjffeiaoaa
end

section
/- Arguments opened: a slice of octets; the bound of the second form. -/
namespace Go.Proofs.Ytefcepjffeiaoaa
open Go.ChangeShapes Go.WideShapes Go.ChangeAt Go.RowKit Go.Proofs.YtefcepjffeiaoaaW.PrintWords
set_option maxRecDepth 100000

theorem one_le {H : Type} (d : DataW H) : 1 ≤ Rows.uptoBulk d := by
  cases d with
  | lit l => cases l <;> simp [Rows.uptoBulk]
  | nil => simp [Rows.uptoBulk]
  | ptr d => simp [Rows.uptoBulk]
  | slice elems spare => simp [Rows.uptoBulk]
  | agg parts => simp [Rows.uptoBulk]
  | iface t d => simp [Rows.uptoBulk]
  | map entries => simp [Rows.uptoBulk]
  | held h => simp [Rows.uptoBulk]
end Go.Proofs.Ytefcepjffeiaoaa
end

section
/- Octets appended, as a step of a region that draws its order; a cell far from a store. -/
namespace Go.Proofs.Ytefcepjffeiaoaa
open Go.RowKit Go.Proofs.YtefcepjffeiaoaaW.PrintWords
set_option linter.unusedVariables false

theorem rrow_of {w : World} {A : Option Addr} {n : Nat} {xs : List UInt8} (h : ReadsOf eu8 0 w A n xs) : ReadsRow (fun (x : UInt8) cs => cs = [eu8 x]) 1 w A n xs := by
  refine ⟨h.1, h.2.1, fun hn => ?_⟩
  obtain ⟨ad, e, hc⟩ := h.2.2 hn
  refine ⟨ad, e, fun j p hj => ⟨[eu8 p], rfl, rfl, fun i u hu => ?_⟩⟩
  obtain ⟨hl, hp⟩ := List.getElem?_eq_some_iff.1 hj
  have hi : i = 0 := by
    rcases Nat.eq_zero_or_pos i with h0 | h0
    · exact h0
    · rw [List.getElem?_eq_none (by simp; omega)] at hu
      cases hu
  subst hi
  have h1 := hc j (by have := h.1; omega)
  have h2 : u = eu8 p := by simpa using hu.symm
  rw [h2, Nat.mul_one, Nat.add_zero]
  rw [List.getD_eq_getElem?_getD, hj] at h1
  exact h1
/-- the kind of an octet -/
def kU8 : Kd UInt8 := Kd.scalar eu8 eu8_one
section
variable {ops : Array Oper} {o : Oper} {a : Act} {Q : Exit → Act → World → Prop} {K : Act → World → Prop}
end
end Go.Proofs.Ytefcepjffeiaoaa
end

section
/- Arguments opened, kind by kind: what a datum reads as, how long its slices and strings may be. -/
namespace Go.Proofs.Ytefcepjffeiaoaa
open Go.ChangeShapes Go.WideShapes Go.ChangeAt Go.RowKit Go.Proofs.YtefcepjffeiaoaaW.PrintWords
set_option maxRecDepth 100000
set_option linter.unusedVariables false

/-- cells of a type read as something of a kind: S is what the bound on sizes says of it, bulk how much it holds -/
def Opens {α : Type} (d : Kd α) (t : TypeId) (S : Nat → α → Prop) (bulk : α → Nat) : Prop :=
  ∀ (H : Type) (enc : TypeId × Value → H) (W : World) (fuel : Nat) (cs : List Value) (x : DataW H × List MemPlace), DataW.trod enc Try.prog W 0 (fun _ => true) true fuel t cs = some x →
    ∃ a, d.K W a cs ∧ (∀ B, (∀ y ∈ x.1.weights Try.prog t, y ≤ B) → S B a) ∧ bulk a ≤ Rows.uptoBulk x.1
theorem opens_int {t : TypeId} {k : IntKind} (ht : Try.prog.underlying t = some (.int k)) : Opens (Kd.int k) t (fun _ a => (Lit.int k a).wf = true) (fun _ => 1) := by
  intro H enc W fuel cs x h
  obtain ⟨a, rfl, rfl, hw⟩ := DataW.trod_int ht h
  exact ⟨a, rfl, fun _ _ => hw, one_le _⟩
theorem opens_string {t : TypeId} (ht : Try.prog.underlying t = some .string) : Opens Kd.string t (fun B s => s.size ≤ B ∧ s.size ≤ 9223372036854775807) (fun s => s.size + 1) := by
  intro H enc W fuel cs x h
  obtain ⟨s, rfl, rfl, hs⟩ := DataW.trod_string ht h
  have e : s.data.toList.length = s.size := by rw [Array.length_toList]; rfl
  refine ⟨s, rfl, fun B hB => ⟨?_, hs⟩, ?_⟩
  · have := hB s.data.toList.length (by simp [DataW.weights])
    omega
  · show s.size + 1 ≤ Rows.uptoBulk (DataW.lit (Lit.string s.data.toList))
    simp only [Rows.uptoBulk]
    omega
theorem opens_u8 {t : TypeId} (ht : Try.prog.underlying t = some (.int .u8)) : Opens kU8 t (fun _ _ => True) (fun _ => 1) := by
  intro H enc W fuel cs x h
  obtain ⟨a, rfl, rfl, hw⟩ := DataW.trod_int ht h
  simp only [Lit.wf, IntKind.min, IntKind.max, IntKind.signed, IntKind.bits] at hw
  have hb : 0 ≤ a ∧ a ≤ 255 := by simpa using hw
  refine ⟨UInt8.ofNat a.toNat, ?_, fun _ _ => trivial, one_le _⟩
  show [Value.int .u8 a] = [eu8 (UInt8.ofNat a.toNat)]
  unfold eu8
  congr 2
  simp only [UInt8.toNat_ofNat']
  omega
theorem weights_all {H : Type} {e : TypeId} {d : DataW H} : ∀ {l : List (DataW H)}, d ∈ l → ∀ y ∈ d.weights Try.prog e, y ∈ DataW.weightsAll Try.prog e l := by
  intro l hd y hy
  induction l with
  | nil => cases hd
  | cons x r ih =>
    simp only [DataW.weightsAll]
    rcases List.mem_cons.1 hd with rfl | h
    · exact List.mem_append_left _ hy
    · exact List.mem_append_right _ (ih h)
theorem bulk_all {H : Type} {α : Type} {bulk : α → Nat} (D : Nat → DataW H) (A : Nat → α) (n : Nat) (h : ∀ i, i < n → bulk (A i) ≤ Rows.uptoBulk (D i)) : ∀ s, ((((List.range' s (n - s)).map A).map bulk).sum) ≤ Rows.uptoBulkAll ((List.range' s (n - s)).map D) := by
  intro s
  induction hd : n - s generalizing s with
  | zero => simp
  | succ m ih =>
    rw [List.range'_succ]
    simp only [List.map_cons, List.sum_cons, Rows.uptoBulkAll]
    have h1 := h s (by omega)
    have h2 := ih (s + 1) (by omega)
    omega
theorem opens_slice {α : Type} [Inhabited α] {d : Kd α} {t e : TypeId} {S : Nat → α → Prop} {bulk : α → Nat} (ht : Try.prog.underlying t = some (.slice e)) (hc : Try.prog.cellsOf e = d.sz) (he : Opens d e S bulk) :
    Opens (Kd.slice e d) t (fun B xs => xs.length * Try.prog.bytesOf e ≤ B ∧ ∀ x ∈ xs, S B x) (fun xs => (xs.map bulk).sum + 1) := by
  intro H enc W fuel cs x h
  rcases Go.Deep.open_slice ht h with ⟨rfl, rfl⟩ | ⟨a, len, cap, m, n, D, Pl, rfl, hb, hl, hm, hmm, rfl, hx⟩
  · exact ⟨[], ⟨none, 0, rfl, Nat.le_refl _, rfl, Nat.zero_le _, fun hp => absurd hp (by simp)⟩, fun B _ => ⟨by simp, fun x hx => absurd hx (by simp)⟩, by simp [Rows.uptoBulk]⟩
  have hlm : len ≤ m := by rw [hmm]; split <;> omega
  obtain ⟨A, hA⟩ := Go.Deep.choose_lt (α := α) (n := len) (p := fun i y => ∃ cs', W.cells? 0 (a.add (i * Try.prog.cellsOf e)) (Try.prog.cellsOf e) = some cs' ∧ d.K W y cs' ∧ (∀ B, (∀ z ∈ (D i).weights Try.prog e, z ≤ B) → S B y) ∧ bulk y ≤ Rows.uptoBulk (D i)) (fun i hi => by
    obtain ⟨cs', h1, h2⟩ := hx i (by omega)
    obtain ⟨y, k1, k2, k3⟩ := he H enc W n cs' _ h2
    exact ⟨y, cs', h1, k1, k2, k3⟩)
  have hlen : ((List.range len).map A).length = len := by simp
  refine ⟨(List.range len).map A, ⟨some a, cap, by rw [hlen], by rw [hlen]; exact hl, rfl, by rw [hlen]; simp only [maxLen] at hm; omega, fun _ => ⟨a, rfl, fun j p hj => ?_⟩⟩, fun B hB => ⟨?_, fun y hy => ?_⟩, ?_⟩
  · obtain ⟨hjl, hjp⟩ := List.getElem?_eq_some_iff.1 hj
    rw [hlen] at hjl
    have hp : p = A j := by rw [← hjp]; simp
    subst hp
    obtain ⟨cs', h1, h2, _, _⟩ := hA j hjl
    obtain ⟨_, h4, h5⟩ := World.cells?_some h1
    refine ⟨cs', by rw [h4, hc], h2, fun i u hu => ?_⟩
    have hi : i < cs'.length := (List.getElem?_eq_some_iff.1 hu).1
    have h6 := h5 i (by omega)
    rw [Go.Deep.add_add, hc] at h6
    rw [h6, hu]
  · have h1 := hB ((((List.range len).map D).length + ((List.range (m - len)).map fun j => D (len + j)).length) * Try.prog.bytesOf e) (by simp only [DataW.weights, ht]; exact List.mem_cons_self ..)
    rw [List.length_map, List.length_range] at h1 ⊢
    exact Nat.le_trans (Nat.mul_le_mul_right _ (Nat.le_add_right _ _)) h1
  · obtain ⟨i, hi, rfl⟩ := List.mem_map.1 hy
    have hi' := List.mem_range.1 hi
    obtain ⟨cs', _, _, h3, _⟩ := hA i hi'
    refine h3 B fun z hz => hB z ?_
    simp only [DataW.weights, ht]
    exact List.mem_cons_of_mem _ (List.mem_append_left _ (weights_all (List.mem_map.2 ⟨i, hi, rfl⟩) z hz))
  · have := bulk_all (bulk := bulk) D A len (fun i hi => by obtain ⟨_, _, _, _, h⟩ := hA i hi; exact h) 0
    simp only [Nat.sub_zero, ← List.range_eq_range'] at this
    simp only [Rows.uptoBulk]
    omega
/-- fields one behind the other, from an offset on -/
def OpensF {α : Type} (d : Kd α) (fs : List Field) (off : Nat) (S : Nat → α → Prop) (bulk : α → Nat) : Prop :=
  ∀ (H : Type) (enc : TypeId × Value → H) (W : World) (fuel : Nat) (cs : List Value) (xs : List (DataW H × List MemPlace)), xs.length = fs.length → cs.length = off + d.sz →
    (∀ (i : Nat) (f : Field), fs[i]? = some f → DataW.trod enc Try.prog W 0 (fun _ => true) true fuel f.type ((cs.drop f.offset).take (Try.prog.cellsOf f.type)) = xs[i]?) →
    ∃ a, d.K W a (cs.drop off) ∧ (∀ B, (∀ y ∈ DataW.weightsEach Try.prog (fs.map (·.type)) (xs.map (·.1)), y ≤ B) → S B a) ∧ bulk a ≤ Rows.uptoBulkAll (xs.map (·.1))
theorem opensF_one {α : Type} {d : Kd α} {f : Field} {off : Nat} {S : Nat → α → Prop} {bulk : α → Nat} (ho : f.offset = off) (hc : Try.prog.cellsOf f.type = d.sz) (h : Opens d f.type S bulk) : OpensF d [f] off S bulk := by
  intro H enc W fuel cs xs hl hcs hx
  match xs, hl with
  | [x], _ =>
    have h0 := hx 0 f rfl
    rw [ho, hc, List.take_of_length_le (by rw [List.length_drop]; omega)] at h0
    obtain ⟨a, k1, k2, k3⟩ := h H enc W fuel _ x h0
    refine ⟨a, k1, fun B hB => k2 B fun y hy => hB y ?_, ?_⟩
    · simp only [List.map_cons, List.map_nil, DataW.weightsEach]
      exact List.mem_append_left _ hy
    · simp only [List.map_cons, List.map_nil, Rows.uptoBulkAll]
      omega
theorem opensF_cons {α β : Type} {d : Kd α} {d' : Kd β} {f : Field} {fs : List Field} {off : Nat} {S : Nat → α → Prop} {S' : Nat → β → Prop} {bulk : α → Nat} {bulk' : β → Nat} (ho : f.offset = off) (hc : Try.prog.cellsOf f.type = d.sz) (h : Opens d f.type S bulk) (h' : OpensF d' fs (off + d.sz) S' bulk') :
    OpensF (Kd.pair d d') (f :: fs) off (fun B x => S B x.1 ∧ S' B x.2) (fun x => bulk x.1 + bulk' x.2) := by
  intro H enc W fuel cs xs hl hcs hx
  have hcs' : cs.length = off + (d.sz + d'.sz) := hcs
  match xs, hl with
  | x :: r, hl =>
    have h0 := hx 0 f rfl
    rw [ho, hc] at h0
    obtain ⟨a, k1, k2, k3⟩ := h H enc W fuel _ x h0
    obtain ⟨b, m1, m2, m3⟩ := h' H enc W fuel cs r (by simpa using hl) (by omega) (fun i g hg => hx (i + 1) g (by simpa using hg))
    refine ⟨(a, b), ⟨(cs.drop off).take d.sz, cs.drop (off + d.sz), ?_, k1, m1⟩, fun B hB => ⟨k2 B fun y hy => hB y ?_, m2 B fun y hy => hB y ?_⟩, ?_⟩
    · rw [← List.drop_drop, List.take_append_drop]
    · simp only [List.map_cons, DataW.weightsEach]
      exact List.mem_append_left _ hy
    · simp only [List.map_cons, DataW.weightsEach]
      exact List.mem_append_right _ hy
    · simp only [List.map_cons, Rows.uptoBulkAll]
      omega
theorem opens_struct {α : Type} {d : Kd α} {t : TypeId} {fs : Array Field} {S : Nat → α → Prop} {bulk : α → Nat} (ht : Try.prog.underlying t = some (.struct fs)) (hc : Try.prog.cellsOf t = d.sz) (h : OpensF d fs.toList 0 S bulk) : Opens d t S (fun a => bulk a + 1) := by
  intro H enc W fuel cs x hx
  obtain ⟨xs, n, _, rfl, hl, hlen, hf⟩ := DataW.trod_struct ht hx
  obtain ⟨a, k1, k2, k3⟩ := h H enc W n cs xs (by simpa using hlen) (by omega) (fun i f hi => hf i f (by simpa using hi))
  refine ⟨a, k1, fun B hB => k2 B fun y hy => hB y ?_, ?_⟩
  · simp only [DataW.weights, ht]
    exact hy
  · simp only [Rows.uptoBulk]
    omega
/-- an argument that is a slice -/
theorem open_slice_of {α : Type} {d : Kd α} {t e : TypeId} {S : Nat → List α → Prop} {bulk : List α → Nat} (ht : Try.prog.underlying t = some (.slice e)) (ho : Opens (Kd.slice e d) t S bulk) {H : Type} {enc : TypeId × Value → H} {W : World} {base : Nat} {v : Value} {x : DataW H} {p : List MemPlace} (hv : Value.okWide Try.prog W .any base t v)
    (h : DataW.Trod enc Try.prog W 0 (fun _ => true) true t v x p) : ∃ A c xs, v = .slice A xs.length c ∧ xs.length ≤ c ∧ d.C W A xs.length xs ∧ (∀ B, (∀ y ∈ x.weights Try.prog t, y ≤ B) → S B xs) ∧ bulk xs ≤ Rows.uptoBulk x := by
  obtain ⟨a, len, cap, rfl⟩ := okWide_slice ht hv
  obtain ⟨fuel, hf⟩ := h
  obtain ⟨xs, ⟨A, c, hcs, hl, hC⟩, k2, k3⟩ := ho H enc W fuel _ _ hf
  simp only [Value.cells, List.cons.injEq, and_true] at hcs
  exact ⟨A, c, xs, hcs, hl, hC, k2, k3⟩
/-- an argument that is a struct -/
theorem open_struct_of {α : Type} {d : Kd α} {t : TypeId} {fs : Array Field} {S : Nat → α → Prop} {bulk : α → Nat} (ht : Try.prog.underlying t = some (.struct fs)) (ho : Opens d t S bulk) {H : Type} {enc : TypeId × Value → H} {W : World} {base : Nat} {v : Value} {x : DataW H} {p : List MemPlace} (hv : Value.okWide Try.prog W .any base t v)
    (h : DataW.Trod enc Try.prog W 0 (fun _ => true) true t v x p) : ∃ a cs, v = .agg cs ∧ d.K W a cs.toList ∧ (∀ B, (∀ y ∈ x.weights Try.prog t, y ≤ B) → S B a) ∧ bulk a ≤ Rows.uptoBulk x := by
  obtain ⟨cs, rfl, _⟩ := okWide_struct ht hv
  obtain ⟨fuel, hf⟩ := h
  obtain ⟨a, k1, k2, k3⟩ := ho H enc W fuel _ _ hf
  exact ⟨a, cs, rfl, k1, k2, k3⟩
end Go.Proofs.Ytefcepjffeiaoaa
end

section
/- Octets of the call's own, set one by one; the least of three lengths; a row that is made. -/
namespace Go.Proofs.Ytefcepjffeiaoaa
open Go.RowKit Go.Proofs.YtefcepjffeiaoaaW.PrintWords

theorem OwB.set_ {W : World} {base : Nat} {v : Value} {xs : List UInt8} (HO : OwB W base v xs) (k : Nat) (hk : k < xs.length) :
    ∃ g cap, v = .slice (some ⟨g, 0, none⟩) xs.length cap ∧ base ≤ g ∧ g < W.heap.size ∧ W.cell? ⟨g, k, none⟩ = some (.int .u8 ((xs.getD k 0).toNat : Int)) ∧ W.frozen? ⟨g, k, none⟩ = false ∧
      ∀ x : UInt8, OwB (W.setCell ⟨g, k, none⟩ (.int .u8 (x.toNat : Int))) base v (xs.set k x) ∧ W.grownBy (W.setCell ⟨g, k, none⟩ (.int .u8 (x.toNat : Int))) (some g) := by
  have HO' := HO
  unfold OwB at HO'
  obtain ⟨g, cap, hv, hgb, hgl⟩ := HO'.form (by omega)
  subst hv
  have hat := own_at_of (d := (0 : UInt8)) HO' k (by omega) (by omega)
  have hkk : ((k : Int)).toNat = k := by omega
  rw [rdOf, hkk] at hat
  refine ⟨g, cap, rfl, hgb, hgl, hat.1, hat.2, fun x => ?_⟩
  have hst := own_store_of HO' k x
  rw [hkk] at hst
  refine ⟨?_, hst.2⟩
  unfold OwB
  rw [List.length_set]
  exact hst.1
theorem OwB.lt {w : World} {base : Nat} {v : Value} {xs : List UInt8} (h : OwB w base v xs) (k : Nat) (hk : v.ownBlock = some k) : k < w.heap.size := own_lt h k hk
theorem OwB.ge {w : World} {base : Nat} {v : Value} {xs : List UInt8} (h : OwB w base v xs) (k : Nat) (hk : v.ownBlock = some k) : base ≤ k := own_base h k hk
theorem OwB.grown {w w1 : World} {base : Nat} {v : Value} {xs : List UInt8} {w0 : World} (h : OwB w base v xs) (hB : Below base w0 w) (hs : base ≤ w.heap.size) (hg : w.grownBy w1 v.ownBlock) : Below base w0 w1 := hB.grown hg hs (fun k hk => own_base h k hk)
theorem OwB.made (W : World) (base m : Nat) (hb : base ≤ W.heap.size) (hm : m ≤ 9223372036854775807) :
    OwB (W.alloc (.cells (madeCells #[.int .u8 0] m) 5)) base (.slice (some ⟨W.heap.size, 0, none⟩) m m) (List.replicate m 0) := by
  unfold OwB
  rw [List.length_replicate]
  exact own_made_of (enc := eu8) (d := 0) W base 5 m hb hm
theorem make_bytes (m : Nat) (hn : m ≤ 281474976710656) (W : World) : (Instr.makeSlice 23 (.int .i64 (m : Int)) (.int .i64 (m : Int))).run Try.prog W = .ok (.slice (some ⟨W.heap.size, 0, none⟩) m m) (W.alloc (.cells (madeCells #[.int .u8 0] m) 5)) :=
  print_make_of 23 5 (.int .u8 0) 1 Try.underlying23 info_u8 rfl (by decide) m (by omega) W
section
variable {P : Program} {ops : Array Oper} {rest : List Oper} {o : Oper} {a : Act} {Q : Exit → Act → World → Prop}
theorem min2_nat (k : IntKind) (m n : Nat) : Builtin.min2 (.int k (m : Int)) (.int k (n : Int)) = (pure (.int k ((Nat.min m n : Nat) : Int)) : Sem Value) := by
  show (pure (.int k (if (n : Int) < (m : Int) then (n : Int) else (m : Int))) : Sem Value) = _
  by_cases h : n < m
  · rw [if_pos (by omega), show Nat.min m n = n from Nat.min_eq_right (by omega)]
  · rw [if_neg (by omega), show Nat.min m n = m from Nat.min_eq_left (by omega)]
end
end Go.Proofs.Ytefcepjffeiaoaa
end

section
/- Rows of elements of any kind: read, owned. -/
namespace Go.Proofs.Ytefcepjffeiaoaa
open Go.RowKit Go.Proofs.YtefcepjffeiaoaaW.PrintWords
set_option linter.unusedVariables false

section
variable {α : Type}
/-- a row that is read -/
def Rd (d : Kd α) (w : World) (A : Option Addr) (c : Nat) (xs : List α) : Prop := xs.length ≤ c ∧ d.C w A xs.length xs
theorem Rd.below {d : Kd α} {w w1 : World} {A : Option Addr} {c : Nat} {xs : List α} (h : Rd d w A c xs) (hb : Below w.heap.size w w1) : Rd d w1 A c xs := ⟨h.1, Kd.C_below h.2 hb⟩
theorem Rd.max {d : Kd α} {w : World} {A : Option Addr} {c : Nat} {xs : List α} (h : Rd d w A c xs) : xs.length ≤ 9223372036854775807 := h.2.2.1
theorem Rd.le {d : Kd α} {w : World} {A : Option Addr} {c : Nat} {xs : List α} (h : Rd d w A c xs) : xs.length ≤ c := h.1
theorem Rd.zero (d : Kd α) (w : World) (A : Option Addr) (c : Nat) : Rd d w A c [] := ⟨Nat.zero_le _, rfl, Nat.zero_le _, fun h => absurd h (by simp)⟩
theorem Rd.take {d : Kd α} {w : World} {A : Option Addr} {c : Nat} {xs : List α} (h : Rd d w A c xs) (k : Nat) (hk : k ≤ xs.length) : Rd d w A c (xs.take k) := ⟨by rw [List.length_take]; have := h.1; omega, Kd.C_take h.2 hk⟩
/-- the address behind 'xs[k:]' -/
def cutK (sz : Nat) (A : Option Addr) (c k : Nat) : Option Addr := if c = k then A else A.map (·.add (k * sz))
theorem Rd.drop {d : Kd α} {w : World} {A : Option Addr} {c : Nat} {xs : List α} (h : Rd d w A c xs) (k : Nat) (hk : k ≤ xs.length) : Rd d w (cutK d.sz A c k) (c - k) (xs.drop k) := ⟨by rw [List.length_drop]; have := h.1; omega, Kd.C_drop h.2 hk h.1⟩
theorem Rd.mid {d : Kd α} {w : World} {A : Option Addr} {c : Nat} {xs : List α} (h : Rd d w A c xs) (j k : Nat) (hj : j ≤ k) (hk : k ≤ xs.length) : Rd d w (cutK d.sz A c j) (c - j) ((xs.take k).drop j) := (h.take k hk).drop j (by rw [List.length_take]; omega)
theorem Rd.at_ {d : Kd α} {w : World} {A : Option Addr} {c : Nat} {xs : List α} (h : Rd d w A c xs) (z : α) (i : Nat) (hi : i < xs.length) : ∃ ad cs, A = some ad ∧ d.K w (xs.getD i z) cs ∧ cs.length = d.sz ∧ ∀ j u, cs[j]? = some u → w.cell? (ad.add (i * d.sz + j)) = some u := by
  obtain ⟨ad, cs, e, hl, hk, hc⟩ := Kd.C_get h.2 z (i : Int) (by omega) (by omega)
  simp only [Int.toNat_natCast] at hk hc
  exact ⟨ad, cs, e, hk, hl, hc⟩
/-- a row of the call's own -/
def Ow (d : Kd α) (e : Nat) (w : World) (base : Nat) (v : Value) (xs : List α) : Prop := d.R e w base (fun _ => True) v xs
theorem Ow.below {d : Kd α} {e : Nat} {w w1 : World} {base : Nat} {v : Value} {xs : List α} (h : Ow d e w base v xs) (hb : Below w.heap.size w w1) : Ow d e w1 base v xs := Kd.R_below h hb
theorem Ow.zero (d : Kd α) (e : Nat) (w : World) (base : Nat) : Ow d e w base (.slice none 0 0) [] := Kd.R_nil _ _ _ _ _
theorem Ow.lower {d : Kd α} {e : Nat} {w : World} {base base' : Nat} {v : Value} {xs : List α} (h : Ow d e w base v xs) (hb : base' ≤ base) : Ow d e w base' v xs := Kd.R_lower h hb
theorem Ow.rd {d : Kd α} {e : Nat} {w : World} {base : Nat} {v : Value} {xs : List α} (h : Ow d e w base v xs) : ∃ A c, v = .slice A xs.length c ∧ Rd d w A c xs := by
  obtain ⟨A, c, hv, hl, hC⟩ := Kd.R_reads h
  exact ⟨A, c, hv, hl, hC⟩
theorem Ow.rdl {d : Kd α} {e : Nat} {w : World} {base : Nat} {A : Option Addr} {n c : Nat} {xs : List α} (h : Ow d e w base (.slice A n c) xs) : Rd d w A c xs := by
  obtain ⟨A', c', hv, hr⟩ := h.rd
  injection hv with h1 _ h3
  subst h1
  subst h3
  exact hr
theorem Ow.lt {d : Kd α} {e : Nat} {w : World} {base : Nat} {v : Value} {xs : List α} (h : Ow d e w base v xs) (k : Nat) (hk : v.ownBlock = some k) : k < w.heap.size := by
  obtain ⟨_, inner, ho, _⟩ := h
  exact own_lt ho k hk
theorem Ow.ge {d : Kd α} {e : Nat} {w : World} {base : Nat} {v : Value} {xs : List α} (h : Ow d e w base v xs) (k : Nat) (hk : v.ownBlock = some k) : base ≤ k := by
  obtain ⟨_, inner, ho, _⟩ := h
  exact own_base ho k hk
/-- a row of another element type has been written -/
theorem Ow.over {β : Type} {d : Kd α} {d' : Kd β} {e e' : Nat} {w w1 : World} {base base' : Nat} {v v' : Value} {xs : List α} {ys : List β} (h : Ow d e w base v xs) (h' : Ow d' e' w base' v' ys) (ht : ∀ q, q ∈ e :: d.E → q ≠ e') (hg : w.grownBy w1 v'.ownBlock) : Ow d e w1 base v xs := Kd.R_over' h (Kd.R_typed h') ht hg
theorem Ow.setCell {d : Kd α} {e : Nat} {w : World} {base : Nat} {v : Value} {xs : List α} (h : Ow d e w base v xs) {g t : Nat} {cells : Array Value} (hb : w.heap[g]? = some (.cells cells t (0, 0))) (ht : ∀ q, q ∈ e :: d.E → q ≠ t) (j : Nat) (u : Value) : Ow d e (w.setCell ⟨g, j, none⟩ u) base v xs := Kd.R_set h hb ht j u
theorem one_ne {e e' : Nat} (h : e ≠ e') : ∀ q, q ∈ [e] → q ≠ e' := fun q hq => by rw [List.mem_singleton.1 hq]; exact h
theorem Rd.rdB {w : World} {A : Option Addr} {c : Nat} {xs : List UInt8} (h : Rd kU8 w A c xs) : RdB w A c xs := ⟨h.1, Kd.reads_of_C (d := (0 : UInt8)) h.2⟩
theorem RdB.rdk {w : World} {A : Option Addr} {c : Nat} {xs : List UInt8} (h : RdB w A c xs) : Rd kU8 w A c xs := ⟨h.1, Kd.C_of_reads h.2⟩
/-- 'xs[k:]', 'xs[:k]', 'xs[j:k]' of elements of whatever size -/
theorem sliceK_lo {P : Program} (t e : TypeId) {i : TypeInfo} (ht : P.underlying t = some (.slice e)) (hi : P.info? e = some i) (sz : Nat) (hsz : i.size = sz) (A : Option Addr) (n c k : Nat) (hk : k ≤ n) (W : World) :
    (Instr.slice t (.slice A n c) (some (.int .i64 (k : Int))) none none).run P W = .ok (.slice (cutK sz A c k) (n - k) (c - k)) W := by
  subst hsz
  have hel : P.elem t = e := by simp [Program.elem, ht]
  have hu : P.underlying t = some (.slice (P.elem t)) := by rw [hel]; exact ht
  rw [run_slice_l W t A n c hu .i64 (k : Int) (Int.natCast_nonneg _) (by omega), hel]
  simp [sizeOf, typeInfo, hi, sliced, Result.andThen, cutK]
theorem sliceK_hi {P : Program} (t e : TypeId) {i : TypeInfo} (ht : P.underlying t = some (.slice e)) (hi : P.info? e = some i) (A : Option Addr) (n c k : Nat) (hk : k ≤ c) (W : World) :
    (Instr.slice t (.slice A n c) none (some (.int .i64 (k : Int))) none).run P W = .ok (.slice A k c) W := by
  have hel : P.elem t = e := by simp [Program.elem, ht]
  have hu : P.underlying t = some (.slice (P.elem t)) := by rw [hel]; exact ht
  have ha : (A.map fun x => x.add 0) = A := by cases A <;> simp [Addr.add]
  rw [run_slice_h W t A n c hu .i64 (k : Int) (Int.natCast_nonneg _) (by omega), hel]
  simp [sizeOf, typeInfo, hi, sliced, Result.andThen, ha]
section
variable {P : Program} {ops : Array Oper} {rest : List Oper} {o : Oper} {a : Act} {Q : Exit → Act → World → Prop}
/-- 'append(v, x)': of one element whose cells bear no rows of their own -/
theorem app_ow {w0 W : World} (d : Kd α) (base : Nat) (hgd : o.guard = none) (s x : Operand) (t e : TypeId) (z : Value) (bytes : Nat)
    (ho : o.op = .call { callee := .builtin .append, args := #[s, x], argTypes := #[t, t] })
    (ht : P.underlying t = some (.slice e)) (hinfo : (P.info? e).map (fun i => (i.zero, i.size, i.bytes)) = some (some z, d.sz, bytes)) (hz : z.cells.size = d.sz) (hs0 : 0 < d.sz) (hb0 : 0 < bytes)
    (v : Value) (xs : List α) (p : α) (cs : List Value) (hs : a.eval s = v) (hx : a.eval x = .slice (some ⟨W.heap.size, 0, none⟩) 1 1) (hp : d.M W base (fun _ => False) p cs)
    (HO : Ow d e W base v xs) (HB : Below base w0 W) (hbase : base ≤ W.heap.size) (hl : (xs.length + 1) * bytes ≤ 140737488355328)
    (h : ∀ v1 w1, Ow d e w1 base v1 (xs ++ [p]) → Below base w0 w1 → W.grownBy w1 v.ownBlock → (v1.ownBlock = v.ownBlock ∨ ∃ b, v1.ownBlock = some b ∧ W.heap.size ≤ b) → wpList P ops Q rest (a.put o.dst v1) w1) :
    wpList P ops Q (o :: rest) a (W.alloc (.cells cs.toArray e)) :=
  Kd.R_append (P := P) d base hgd s x t e z bytes ho ht hinfo hz hs0 hb0 v xs p cs (fun _ => True) (fun _ => False) hs hx hp (fun _ h => h.elim) (fun _ _ => trivial) HO HB hbase hl h
/-- 'append(v, ys...)' -/
theorem app_ows {w0 W : World} (d : Kd α) (base : Nat) (hgd : o.guard = none) (s x : Operand) (t e : TypeId) (z : Value) (bytes : Nat)
    (ho : o.op = .call { callee := .builtin .append, args := #[s, x], argTypes := #[t, t] })
    (ht : P.underlying t = some (.slice e)) (hinfo : (P.info? e).map (fun i => (i.zero, i.size, i.bytes)) = some (some z, d.sz, bytes)) (hz : z.cells.size = d.sz) (hs0 : 0 < d.sz) (hb0 : 0 < bytes)
    (v : Value) (xs ys : List α) (A : Option Addr) (c : Nat) (hs : a.eval s = v) (hx : a.eval x = .slice A ys.length c) (hKM : ∀ x cs, d.K W x cs → d.M W base (fun _ => False) x cs)
    (HO : Ow d e W base v xs) (HR : Rd d W A c ys) (HB : Below base w0 W) (hbase : base ≤ W.heap.size) (hl : (xs.length + ys.length) * bytes ≤ 140737488355328)
    (h : ∀ v1 w1, Ow d e w1 base v1 (xs ++ ys) → Below base w0 w1 → W.grownBy w1 v.ownBlock → (v1.ownBlock = v.ownBlock ∨ ∃ b, v1.ownBlock = some b ∧ W.heap.size ≤ b) → wpList P ops Q rest (a.put o.dst v1) w1) :
    wpList P ops Q (o :: rest) a W :=
  Kd.R_append_rows (P := P) d (Rr := d.K W) base hgd s x t e z bytes ho ht hinfo hz hs0 hb0 v xs ys A ys.length c (fun _ => True) (fun _ => False) hs hx HO HR.2 hKM (fun _ h => h.elim) (fun _ _ => trivial) HB hbase hl h
end
end
section
variable {α : Type} {P : Program} {ops : Array Oper} {rest : List Oper} {o : Oper} {a : Act} {Q : Exit → Act → World → Prop}
theorem Ow.len {d : Kd α} {e : Nat} {w : World} {base : Nat} {A : Option Addr} {n c : Nat} {xs : List α} (h : Ow d e w base (.slice A n c) xs) : xs.length = n := by
  obtain ⟨A', c', hv, _⟩ := h.rd
  injection hv with _ h2 _
  exact h2.symm
theorem Ow.head {d : Kd α} {e : Nat} {w : World} {base : Nat} {A : Option Addr} {n c : Nat} {xs : List α} (h : Ow d e w base (.slice A n c) xs) (hn : 0 < n) : ∃ g, A = some ⟨g, 0, none⟩ ∧ base ≤ g ∧ g < w.heap.size := by
  obtain ⟨inner, hown⟩ := Kd.R_own h
  rw [h.len] at hown
  obtain ⟨g, cap, hv, hb, hl⟩ := hown.form hn
  injection hv with ha _ _
  exact ⟨g, ha, hb, hl⟩
/-- 'xs[k] = x': a whole element of the call's own row -/
theorem store_ow (d : Kd α) (z : α) {w0 W : World} (base : Nat) (hN : o.dst = none) (hgd : o.guard = none) (t : TypeId) (p x : Operand) (ho : o.op = .store t p x) (e : TypeId) {g n cap : Nat} (k : Nat) (xs : List α) (x' : α) (u : Value) (seg : List Value)
    (haddr : a.eval p = .pointer (some ⟨g, k * d.sz, none⟩)) (hx : a.eval x = u) (hu : u.cells.toList = seg) (ht : (P.info? t).map (·.size) = some seg.length) (h1 : ∀ q ∈ seg, q.oneCell' = true) (hs : seg.length = d.sz) (hM : d.M W base (fun _ => False) x' seg)
    (HO : Ow d e W base (.slice (some ⟨g, 0, none⟩) n cap) xs) (hk : k < n) (HB : Below base w0 W)
    (h : ∀ w1, Ow d e w1 base (.slice (some ⟨g, 0, none⟩) n cap) (xs.set k x') → Below base w0 w1 → W.grownBy w1 (some g) → wpList P ops Q rest a w1) : wpList P ops Q (o :: rest) a W := by
  obtain ⟨ad, c, hA, hK, hl, hc⟩ := Rd.at_ HO.rdl z k (by rw [HO.len]; exact hk)
  injection hA with hA
  subst hA
  refine Kd.R_store (P := P) d (w0 := w0) base hN hgd t p x ho e (g := g) (n := n) (cap := cap) (k : Int) 0 xs x' u seg c (fun _ => True) (fun _ => False) haddr (by rw [Int.toNat_natCast]; rfl) hx hu ht h1 HO (by omega) (by omega) hl ?_ (by omega) ?_ (fun _ h => h.elim) HB (fun w1 h2 h3 h4 => h w1 ?_ h3 h4)
  · intro j v hj
    rw [Int.toNat_natCast]
    have := hc j v hj
    rw [add_plain] at this
    exact this
  · rw [List.take_zero, List.nil_append, Nat.zero_add, hs, ← hl, List.drop_length, List.append_nil]
    exact hM
  · rw [Int.toNat_natCast] at h2
    exact h2
end
/-- the kind of a number -/
abbrev kInt : Kd Int := Kd.int .i64
abbrev kStr : Kd ByteArray := Kd.string
theorem info_int : (Try.prog.info? 3).map (fun i => (i.zero, i.size, i.bytes)) = some (some (.int .i64 0), 1, 8) := by kernel_rfl
section
variable {ops : Array Oper} {rest : List Oper} {o : Oper} {a : Act} {Q : Exit → Act → World → Prop}
end
theorem Rd.int_at {w : World} {A : Option Addr} {c : Nat} {xs : List Int} (h : Rd kInt w A c xs) (i : Nat) (hi : i < xs.length) : ∃ ad, A = some ad ∧ w.cell? (ad.add i) = some (.int .i64 (xs.getD i 0)) := by
  obtain ⟨ad, cs, e, hk, _, hc⟩ := h.at_ 0 i hi
  have hk' : cs = [.int .i64 (xs.getD i 0)] := hk
  subst hk'
  have := hc 0 _ rfl
  rw [show kInt.sz = 1 from rfl, Nat.mul_one, Nat.add_zero] at this
  exact ⟨ad, e, this⟩
end Go.Proofs.Ytefcepjffeiaoaa
end

section
/- Rows of versions: read, owned; one version in memory. -/
namespace Go.Proofs.Ytefcepjffeiaoaa
open Go.RowKit Go.Proofs.YtefcepjffeiaoaaW.PrintWords
set_option linter.unusedVariables false

/-- a version: its key, its number, its kind, its value -/
abbrev Ent := ByteArray × Int × Int × ByteArray
def kEnt : Kd Ent := Kd.pair kStr (Kd.pair kInt (Kd.pair kInt kStr))
def zEnt : Ent := (ByteArray.empty, 0, 0, ByteArray.empty)
theorem info_ent : (Try.prog.info? 43).map (fun i => (i.zero, i.size, i.bytes)) = some (some (.agg #[.string ByteArray.empty, .int .i64 0, .int .i64 0, .string ByteArray.empty]), 4, 48) := by kernel_rfl
theorem kEnt_K {w : World} {c : Ent} {cs : List Value} (h : kEnt.K w c cs) : cs = [.string c.1, .int .i64 c.2.1, .int .i64 c.2.2.1, .string c.2.2.2] := by
  obtain ⟨c0, c1, rfl, h0, c2, c3, rfl, h2, c4, c5, rfl, h4, h5⟩ := h
  have h0' : c0 = [.string c.1] := h0
  have h2' : c2 = [.int .i64 c.2.1] := h2
  have h4' : c4 = [.int .i64 c.2.2.1] := h4
  have h5' : c5 = [.string c.2.2.2] := h5
  subst h0'
  subst h2'
  subst h4'
  subst h5'
  rfl
theorem kEnt_mk (w : World) (c : Ent) : kEnt.K w c [.string c.1, .int .i64 c.2.1, .int .i64 c.2.2.1, .string c.2.2.2] := ⟨[.string c.1], _, rfl, rfl, [.int .i64 c.2.1], _, rfl, rfl, [.int .i64 c.2.2.1], [.string c.2.2.2], rfl, rfl, rfl⟩
theorem kEnt_M (w : World) (base : Nat) (ok : Nat → Prop) (c : Ent) : kEnt.M w base ok c [.string c.1, .int .i64 c.2.1, .int .i64 c.2.2.1, .string c.2.2.2] := ⟨[.string c.1], _, rfl, rfl, [.int .i64 c.2.1], _, rfl, rfl, [.int .i64 c.2.2.1], [.string c.2.2.2], rfl, rfl, rfl⟩
theorem kEnt_KM {w : World} {base : Nat} {ok : Nat → Prop} {c : Ent} {cs : List Value} (h : kEnt.K w c cs) : kEnt.M w base ok c cs := by rw [kEnt_K h]; exact kEnt_M _ _ _ _
abbrev RdE := Rd kEnt
abbrev OwE := Ow kEnt 43
theorem RdE.at4 {w : World} {A : Option Addr} {c : Nat} {xs : List Ent} (h : RdE w A c xs) (i : Nat) (hi : i < xs.length) : ∃ ad, A = some ad ∧ w.cell? (ad.add (i * 4)) = some (.string (xs.getD i zEnt).1) ∧ w.cell? ⟨(ad.add (i * 4)).block, (ad.add (i * 4)).off + 1, none⟩ = some (.int .i64 (xs.getD i zEnt).2.1) ∧ w.cell? ⟨(ad.add (i * 4)).block, (ad.add (i * 4)).off + 2, none⟩ = some (.int .i64 (xs.getD i zEnt).2.2.1) ∧ w.cell? ⟨(ad.add (i * 4)).block, (ad.add (i * 4)).off + 3, none⟩ = some (.string (xs.getD i zEnt).2.2.2) := by
  obtain ⟨ad, cs, e, hk, _, hc⟩ := Rd.at_ h zEnt i hi
  have hcs := kEnt_K hk
  subst hcs
  refine ⟨ad, e, hc 0 _ rfl, ?_, ?_, ?_⟩
  · rw [← add_field ad (i * 4) 1 (by decide)]; exact hc 1 _ rfl
  · rw [← add_field ad (i * 4) 2 (by decide)]; exact hc 2 _ rfl
  · rw [← add_field ad (i * 4) 3 (by decide)]; exact hc 3 _ rfl
/-- a version in a variable -/
def Eb (w : World) (g : Nat) (c : Ent) : Prop := w.heap[g]? = some (.cells #[.string c.1, .int .i64 c.2.1, .int .i64 c.2.2.1, .string c.2.2.2] 43 (0, 0))
theorem Eb.new (w : World) (c : Ent) : Eb (w.alloc (.cells #[.string c.1, .int .i64 c.2.1, .int .i64 c.2.2.1, .string c.2.2.2] 43)) w.heap.size c := heap_alloc_new w _
theorem Eb.read {w : World} {g : Nat} {c : Ent} (h : Eb w g c) : w.cell? ⟨g, 0, none⟩ = some (.string c.1) ∧ w.cell? ⟨g, 1, none⟩ = some (.int .i64 c.2.1) ∧ w.cell? ⟨g, 2, none⟩ = some (.int .i64 c.2.2.1) ∧ w.cell? ⟨g, 3, none⟩ = some (.string c.2.2.2) ∧ w.frozen? ⟨g, 0, none⟩ = false ∧ w.frozen? ⟨g, 1, none⟩ = false ∧ w.frozen? ⟨g, 2, none⟩ = false ∧ w.frozen? ⟨g, 3, none⟩ = false :=
  ⟨blk_cell h 0, blk_cell h 1, blk_cell h 2, blk_cell h 3, blk_frozen h 0, blk_frozen h 1, blk_frozen h 2, blk_frozen h 3⟩
theorem Eb.lt {w : World} {g : Nat} {c : Ent} (h : Eb w g c) : g < w.heap.size := blk_lt h
theorem Eb.below {w w1 : World} {g : Nat} {c : Ent} (h : Eb w g c) (hb : Below w.heap.size w w1) : Eb w1 g c := blk_below h hb
theorem Eb.grown {w w1 : World} {g : Nat} {c : Ent} (h : Eb w g c) {row : Option Nat} (hg : w.grownBy w1 row) (hne : some g ≠ row) : Eb w1 g c := blk_grown h hg hne
section
variable {ops : Array Oper} {rest : List Oper} {o : Oper} {a : Act} {Q : Exit → Act → World → Prop}
theorem app_ent {w0 W : World} (base : Nat) (hgd : o.guard = none) (s x : Operand)
    (ho : o.op = .call { callee := .builtin .append, args := #[s, x], argTypes := #[22, 22] })
    (v : Value) (xs : List Ent) (c : Ent) (hs : a.eval s = v) (hx : a.eval x = .slice (some ⟨W.heap.size, 0, none⟩) 1 1)
    (HO : OwE W base v xs) (HB : Below base w0 W) (hbase : base ≤ W.heap.size) (hl : (xs.length + 1) * 48 ≤ 140737488355328)
    (h : ∀ v1 w1, OwE w1 base v1 (xs ++ [c]) → Below base w0 w1 → W.grownBy w1 v.ownBlock → (v1.ownBlock = v.ownBlock ∨ ∃ b, v1.ownBlock = some b ∧ W.heap.size ≤ b) → wpList Try.prog ops Q rest (a.put o.dst v1) w1) :
    wpList Try.prog ops Q (o :: rest) a (W.alloc (.cells #[.string c.1, .int .i64 c.2.1, .int .i64 c.2.2.1, .string c.2.2.2] 43)) :=
  app_ow kEnt base hgd s x 22 43 _ 48 ho Try.underlying22 info_ent rfl (by decide) (by decide) v xs c [.string c.1, .int .i64 c.2.1, .int .i64 c.2.2.1, .string c.2.2.2] hs hx (kEnt_M _ _ _ _) HO HB hbase hl h
theorem app_ents {w0 W : World} (base : Nat) (hgd : o.guard = none) (s x : Operand)
    (ho : o.op = .call { callee := .builtin .append, args := #[s, x], argTypes := #[22, 22] })
    (v : Value) (xs ys : List Ent) (A : Option Addr) (c : Nat) (hs : a.eval s = v) (hx : a.eval x = .slice A ys.length c)
    (HO : OwE W base v xs) (HR : RdE W A c ys) (HB : Below base w0 W) (hbase : base ≤ W.heap.size) (hl : (xs.length + ys.length) * 48 ≤ 140737488355328)
    (h : ∀ v1 w1, OwE w1 base v1 (xs ++ ys) → Below base w0 w1 → W.grownBy w1 v.ownBlock → (v1.ownBlock = v.ownBlock ∨ ∃ b, v1.ownBlock = some b ∧ W.heap.size ≤ b) → wpList Try.prog ops Q rest (a.put o.dst v1) w1) :
    wpList Try.prog ops Q (o :: rest) a W :=
  app_ows kEnt base hgd s x 22 43 _ 48 ho Try.underlying22 info_ent rfl (by decide) (by decide) v xs ys A c hs hx (fun _ _ h => kEnt_KM h) HO HR HB hbase hl h
end
end Go.Proofs.Ytefcepjffeiaoaa
end

section
/- A struct of a number and a slice, in a variable: its cells read, kept, stored. -/
namespace Go.Proofs.Ytefcepjffeiaoaa
open Go.RowKit Go.Proofs.YtefcepjffeiaoaaW.PrintWords
set_option linter.unusedVariables false

/-- a number and a slice, as a value -/
def fil (K : Int) (A : Option Addr) (n c : Nat) : Value := .agg #[.int .i64 K, .slice A n c]
/-- a struct that lies in a variable just laid, a call behind -/
theorem boxedF {w w1 : World} {K : Int} {s : Value} {ty : TypeId} (HB : Below (w.alloc (.cells #[.int .i64 K, s] ty)).heap.size (w.alloc (.cells #[.int .i64 K, s] ty)) w1) :
    w1.cell? ⟨w.heap.size, 0, none⟩ = some (.int .i64 K) ∧ w1.cell? ⟨w.heap.size, 1, none⟩ = some s ∧ Below w.heap.size w w1 := by
  have hs : w.heap.size < (w.alloc (.cells #[.int .i64 K, s] ty)).heap.size := by simp
  refine ⟨?_, ?_, ((Below.refl _ _).alloc (Nat.le_refl _) _).trans (HB.mono (by simp))⟩ <;> (rw [HB.cell hs, World.cell?_alloc_mark]; rfl)
/-- two cells of a block just laid, stored -/
theorem two_cells {w : World} {g : Nat} {t : TypeId} {x y u v : Value} (h : w.heap[g]? = some (.cells #[x, y] t (0, 0))) :
    ((w.setCell ⟨g, 0, none⟩ u).setCell ⟨g, 1, none⟩ v).heap[g]? = some (.cells #[u, v] t (0, 0)) := blk_set (blk_set h 0 u) 1 v
theorem two_read {w : World} {g : Nat} {t : TypeId} {x y : Value} (h : w.heap[g]? = some (.cells #[x, y] t (0, 0))) :
    w.cell? ⟨g, 0, none⟩ = some x ∧ w.cell? ⟨g, 1, none⟩ = some y ∧ w.frozen? ⟨g, 0, none⟩ = false ∧ w.frozen? ⟨g, 1, none⟩ = false := ⟨blk_cell h 0, blk_cell h 1, blk_frozen h 0, blk_frozen h 1⟩
/-- a struct in a variable -/
def Bx (w : World) (b : Nat) (K : Int) (s : Value) (ty : TypeId) : Prop := w.heap[b]? = some (.cells #[.int .i64 K, s] ty)
theorem Bx.below {w w1 : World} {b : Nat} {K : Int} {s : Value} {ty : TypeId} (h : Bx w b K s ty) (hb : Below w.heap.size w w1) : Bx w1 b K s ty := (hb.block b (Array.getElem?_eq_some_iff.1 h).1).trans h
theorem Bx.lt {w : World} {b : Nat} {K : Int} {s : Value} {ty : TypeId} (h : Bx w b K s ty) : b < w.heap.size := (Array.getElem?_eq_some_iff.1 h).1
theorem Bx.grown {w w1 : World} {b : Nat} {K : Int} {s : Value} {ty : TypeId} (h : Bx w b K s ty) {row : Option Nat} (hg : w.grownBy w1 row) (hne : ∀ k, row = some k → k < b) : Bx w1 b K s ty :=
  (hg.block b h.lt (fun e => by have := hne b e.symm; omega)).trans h
theorem Bx.new (w : World) (K : Int) (s : Value) (ty : TypeId) : Bx (w.alloc (.cells #[.int .i64 K, s] ty)) w.heap.size K s ty := heap_alloc_new w _
theorem Bx.read {w : World} {b : Nat} {K : Int} {s : Value} {ty : TypeId} (h : Bx w b K s ty) : w.cell? ⟨b, 0, none⟩ = some (.int .i64 K) ∧ w.cell? ⟨b, 1, none⟩ = some s ∧ w.frozen? ⟨b, 0, none⟩ = false ∧ w.frozen? ⟨b, 1, none⟩ = false := two_read h
theorem below_alloc (w : World) (o : Obj) : Below w.heap.size w (w.alloc o) := (Below.refl _ _).alloc (Nat.le_refl _) _
theorem OwB.rdl {w : World} {base : Nat} {A : Option Addr} {n c : Nat} {xs : List UInt8} (h : OwB w base (.slice A n c) xs) : RdB w A c xs := by
  obtain ⟨A', c', hv, hr⟩ := h.rd
  injection hv with h1 _ h3
  subst h1
  subst h3
  exact hr
theorem i64_of (a : Int) (h : (Lit.int .i64 a).wf = true) : -9223372036854775808 ≤ a ∧ a ≤ 9223372036854775807 := by
  simpa [Lit.wf, IntKind.min, IntKind.max, IntKind.signed, IntKind.bits] using h
end Go.Proofs.Ytefcepjffeiaoaa
end

section
/- The walks of what the statements share on octets: SameBytes, CopyBytes, Spoil. -/
namespace Go.Proofs.Ytefcepjffeiaoaa
open Go.RowKit Go.Proofs.YtefcepjffeiaoaaW.PrintWords

theorem not_u8 (x : UInt8) : bits .xor .u8 (if IntKind.u8.signed = true then -1 else IntKind.u8.max) (x.toNat : Int) = ((~~~x).toNat : Int) := by
  have h : (if IntKind.u8.signed = true then -1 else IntKind.u8.max) = ((255 : Nat) : Int) := by decide
  rw [h, u8_xor_nat _ _ (by decide) x.toNat_lt]
  have : ∀ y : Fin 256, 255 ^^^ y.val = 255 - y.val := by decide +kernel
  have h2 := this ⟨x.toNat, x.toNat_lt⟩
  simp only at h2
  rw [h2]
  congr 1
  simp
end Go.Proofs.Ytefcepjffeiaoaa
end

section
/- The walk of bytes.Clone. -/
namespace Go.Proofs.Ytefcepjffeiaoaa
open Go.RowKit Go.Proofs.YtefcepjffeiaoaaW.PrintWords

set_option maxRecDepth 100000 in
set_option maxHeartbeats 400000 in
/-- bytes.Clone: octets of its holder's own -/
theorem Clone_any (A : Option Addr) (c : Nat) (xs : List UInt8) (w : World) (hr : RdB w A c xs) (hl : xs.length ≤ 140737488355328) :
    Calls Try.prog 69 #[.slice A xs.length c] w fun e w' => ∃ v, e = .returned v ∧ OwB w' w.heap.size v xs ∧ Below w.heap.size w w' := by
  have hm := hr.max
  cases A with
  | none =>
    have h0 : xs.length = 0 := by
      rcases Nat.eq_zero_or_pos xs.length with h | h
      · exact h
      · obtain ⟨ad, h, _⟩ := hr.at_ 0 h
        cases h
    obtain rfl : xs = [] := List.eq_nil_of_length_eq_zero h0
    have heq := fun ww => Lib.run_eql_slice_nil (P := Try.prog) ww 23 5 Option.none 0 c 0 0 Try.underlying23
    rw [show Option.none.isNone = true from rfl] at heq
    go_enter Try.func69, Try.ntmps69
    go_wp2
    go_ret
    exact ⟨_, rfl, OwB.zero _ _, Below.refl _ _⟩
  | some ad =>
    have heq := fun ww => Lib.run_eql_slice_nil (P := Try.prog) ww 23 5 (some ad) xs.length c 0 0 Try.underlying23
    rw [show (some ad).isNone = false from rfl] at heq
    have hr1 : ∀ o, RdB (w.alloc o) (some ad) c xs := fun o => hr.below ((Below.refl _ _).alloc (Nat.le_refl _) o)
    go_enter Try.func69, Try.ntmps69
    go_wp2_with (first | (at_builtin; refine app_row (w0 := w) w.heap.size rfl (.tmp 5) (.tmp 6) rfl _ [] xs (some ad) c rfl rfl (OwB.lit0 w) (hr1 _) ((Below.refl _ _).alloc (Nat.le_refl _) _) (by simp) (by simp; omega) ?_; intro v1 w1 HO1 HB1 hg hat))
    go_ret
    exact ⟨_, rfl, HO1, HB1⟩
end Go.Proofs.Ytefcepjffeiaoaa
end

section
/- Literals: a block just laid that reads as octets. -/
namespace Go.Proofs.Ytefcepjffeiaoaa
open Go.RowKit Go.Proofs.YtefcepjffeiaoaaW.PrintWords
theorem RdB_lit (xs : List UInt8) (W : World) (C : Array Value) (e : TypeId) (fr : Nat × Nat) (n : Nat) (hn : W.heap.size = n) (h : C.toList = xs.map eu8) (hl : xs.length ≤ 9223372036854775807) :
    RdB (W.alloc (.cells C e fr)) (some ⟨n, 0, none⟩) xs.length xs := by
  subst hn
  refine ⟨Nat.le_refl _, rfl, hl, fun _ => ⟨_, rfl, fun j hj => ?_⟩⟩
  have hc : C = (xs.map eu8).toArray := by rw [← h]
  rw [add_plain, World.cell?_alloc_mark, hc]
  simp [List.getElem?_eq_getElem hj, List.getD_eq_getElem?_getD]
end Go.Proofs.Ytefcepjffeiaoaa
end

section
/- The plain theory of a checksum register of 32 bits: it is linear, it is one-to-one, and up to 32 bits in a row that are turned are told. -/
namespace Tk

abbrev R := BitVec 32
def poly : R := 0x04c11db7#32
/-- one bit through the register -/
def bit1 (c : R) : R := (c <<< 1) ^^^ (if c.msb then poly else 0#32)
def bits : Nat → R → R
  | 0, c => c
  | n + 1, c => bit1 (bits n c)
/-- one octet -/
def oct (c : R) (b : R) : R := bits 8 (c ^^^ (b <<< 24))
def ext (c : R) (l : List R) : R := l.foldl oct c

theorem ext_append (c : R) (a b : List R) : ext c (a ++ b) = ext (ext c a) b := by simp [ext]
/-- the four octets of a register, the highest first -/
def four (c : R) : List R := [c >>> 24, (c >>> 16) &&& 0xff#32, (c >>> 8) &&& 0xff#32, c &&& 0xff#32]
/-! bit by bit -/
def top (b : Bool) : R := if b then 0x80000000#32 else 0#32
/-- a register that holds bits, the first one on top -/
def val : List Bool → R
  | [] => 0#32
  | b :: l => top b ^^^ (val l >>> 1)
end Tk
end

section
/- Plain facts of the checksum: the register in the machine's numbers. -/
namespace Go.Proofs.Ytefcepjffeiaoaa
open Go.RowKit

def bv (x : UInt8) : BitVec 32 := BitVec.ofNat 32 x.toNat
def crc (c : BitVec 32) (xs : List UInt8) : BitVec 32 := Tk.ext c (xs.map bv)
def ones : BitVec 32 := 0xffffffff#32
def four (c : BitVec 32) : List UInt8 := [UInt8.ofNat (c.toNat / 16777216), UInt8.ofNat (c.toNat / 65536), UInt8.ofNat (c.toNat / 256), UInt8.ofNat c.toNat]
/-- what is guarded -/
def guarded (xs : List UInt8) : List UInt8 := xs ++ four (crc ones xs)
theorem guarded_length (xs : List UInt8) : (guarded xs).length = xs.length + 4 := by simp [guarded, four]
theorem crc_append (c : BitVec 32) (a b : List UInt8) : crc c (a ++ b) = crc (crc c a) b := by simp [crc, Tk.ext_append]
theorem crc_snoc (c : BitVec 32) (xs : List UInt8) (k : Nat) (h : k < xs.length) : crc c (xs.take (k + 1)) = Tk.oct (crc c (xs.take k)) (bv (xs.getD k 0)) := by
  rw [List.take_succ_eq_append_getElem h, crc_append]
  simp [crc, Tk.ext, List.getD_eq_getElem?_getD, List.getElem?_eq_getElem h]
theorem xor_u32 (a b : BitVec 32) : bits .xor .u32 (a.toNat : Int) (b.toNat : Int) = ((a ^^^ b).toNat : Int) := by
  rw [u32_xor_nat _ _ a.isLt b.isLt, BitVec.toNat_xor]
theorem dbl_u32 (c : BitVec 32) : (c.toNat : Int) * (2 : Int) % (4294967296 : Int) = ((c <<< 1).toNat : Int) := by
  rw [BitVec.toNat_shiftLeft, Nat.shiftLeft_eq]; omega
theorem msb_iff (c : BitVec 32) : c.msb = decide (2147483648 ≤ c.toNat) := by rw [BitVec.msb_eq_decide]
theorem bit1_int (c : BitVec 32) : bits .xor .u32 ((c.toNat : Int) * 2 % 4294967296) (bits .and .u32 79764919 (-((c.toNat : Int) / 2147483648) % 4294967296)) = ((Tk.bit1 c).toNat : Int) := by
  have hc := c.isLt
  unfold Tk.bit1
  rw [dbl_u32, msb_iff]
  by_cases h : 2147483648 ≤ c.toNat
  · have e : -((c.toNat : Int) / (2147483648 : Int)) % (4294967296 : Int) = 4294967295 := by omega
    have e2 : bits .and .u32 79764919 4294967295 = ((Tk.poly).toNat : Int) := by decide
    rw [e, e2, xor_u32]; simp [h]
  · have e : -((c.toNat : Int) / (2147483648 : Int)) % (4294967296 : Int) = 0 := by omega
    have e2 : bits .and .u32 79764919 0 = ((0#32).toNat : Int) := by decide
    rw [e, e2, xor_u32]; simp [h]
theorem put_int (c : BitVec 32) (x : UInt8) : bits .xor .u32 (c.toNat : Int) ((x.toNat : Int) % 4294967296 * 16777216 % 4294967296) = ((c ^^^ (bv x <<< 24)).toNat : Int) := by
  have hx := x.toNat_lt
  have e : (x.toNat : Int) % (4294967296 : Int) * (16777216 : Int) % (4294967296 : Int) = ((bv x <<< 24).toNat : Int) := by
    rw [BitVec.toNat_shiftLeft, Nat.shiftLeft_eq]
    simp only [bv, BitVec.toNat_ofNat]
    omega
  rw [e, xor_u32]
end Go.Proofs.Ytefcepjffeiaoaa
end

section
/- The walks of the checksum's functions: step, Extend, Sum; the reference's Extend, Sum. -/
namespace Go.Proofs.Ytefcepjffeiaoaa
open Go.RowKit Go.Proofs.YtefcepjffeiaoaaW.PrintWords

set_option maxRecDepth 100000 in
set_option maxHeartbeats 400000 in
theorem step_any (c0 : BitVec 32) (w : World) :
    Calls Try.prog 108 #[.int .u32 (c0.toNat : Int)] w fun e w' => e = .returned (.int .u32 ((Tk.bits 8 c0).toNat : Int)) ∧ w = w' := by
  go_enter Try.func108, Try.ntmps108
  go_wp2
  go_loop [0, 3] (fun c i => ∃ k : Nat, k ≤ 8 ∧ i = .int .i64 k ∧ c = .int .u32 ((Tk.bits k c0).toNat : Int)) (fun _ i => 8 - (intOf i).toNat)
  case atStart => exact ⟨0, by omega, rfl, rfl⟩
  case round =>
    obtain ⟨k, hk, rfl, rfl⟩ := hrel
    have hb := (Tk.bits k c0).isLt
    have HS := hide (bit1_int (Tk.bits k c0))
    by_cases hlt : k < 8
    · go_wp2
      go_round
      case rel => exact ⟨k + 1, by omega, by go_num, by rw [HS.out]; rfl⟩
      case measure => simp [intOf]; omega
    · go_wp2
      go_ret
      obtain rfl : k = 8 := by omega
      exact ⟨rfl, rfl⟩

set_option maxRecDepth 100000 in
set_option maxHeartbeats 400000 in
theorem Extend_any (c0 : BitVec 32) (A : Option Addr) (c : Nat) (xs : List UInt8) (w : World) (hr : RdB w A c xs) :
    Calls Try.prog 99 #[.int .u32 (c0.toNat : Int), .slice A xs.length c] w fun e w' => e = .returned (.int .u32 ((crc c0 xs).toNat : Int)) ∧ w = w' := by
  have hm := hr.max
  go_enter Try.func99, Try.ntmps99
  go_wp2
  go_loop [0, 9] (fun c i => ∃ k : Nat, k ≤ xs.length ∧ i = .int .i64 k ∧ c = .int .u32 ((crc c0 (xs.take k)).toNat : Int)) (fun _ i => xs.length - (intOf i).toNat)
  case atStart => exact ⟨0, by omega, rfl, rfl⟩
  case round =>
    obtain ⟨k, hk, rfl, rfl⟩ := hrel
    by_cases hlt : k < xs.length
    · obtain ⟨ad, rfl, hcell⟩ := hr.at_ k hlt
      have HS := hide (crc_snoc c0 xs k hlt)
      have HP := hide (put_int (crc c0 (xs.take k)) (xs.getD k 0))
      obtain ⟨x, hx⟩ : ∃ x, xs.getD k 0 = x := ⟨_, rfl⟩
      rw [hx] at hcell HS HP
      clear hx
      go_wp2_with (first | (go_at_call 108; rw [HP.out]; refine (step_any _ _).mono ?_; rintro e w' ⟨rfl, rfl⟩))
      go_round
      case rel => exact ⟨k + 1, by omega, by go_num, by rw [HS.out]; rfl⟩
      case measure => simp [intOf]; omega
    · go_wp2
      go_ret
      obtain rfl : k = xs.length := by omega
      exact ⟨by simp, rfl⟩

theorem Sum_any (A : Option Addr) (c : Nat) (xs : List UInt8) (w : World) (hr : RdB w A c xs) :
    Calls Try.prog 73 #[.slice A xs.length c] w fun e w' => e = .returned (.int .u32 ((crc ones xs).toNat : Int)) ∧ w = w' := by
  go_enter Try.func73, Try.ntmps73
  go_wp2_with (first | (go_at_call 99; refine (Extend_any ones _ _ _ _ hr).mono ?_; rintro e w' ⟨rfl, rfl⟩))
  go_ret
  exact ⟨rfl, rfl⟩
end Go.Proofs.Ytefcepjffeiaoaa
end

section
/- The walks of slices.Grow (of nil) and slices.Concat. -/
namespace Go.Proofs.Ytefcepjffeiaoaa
open Go.RowKit Go.Proofs.YtefcepjffeiaoaaW.PrintWords

set_option maxRecDepth 100000 in
set_option maxHeartbeats 400000 in
/-- slices.Grow of nil: nothing, with room -/
theorem Grow_nil (n : Nat) (w : World) (hn : n ≤ 281474976710656) :
    Calls Try.prog 67 #[.slice none 0 0, .int .i64 (n : Int)] w fun e w' => ∃ v, e = .returned v ∧ OwB w' w.heap.size v [] ∧ Below w.heap.size w w' := by
  obtain ⟨i0, hi, hz0, hz1, hz2⟩ := info_parts info_u8
  rcases Nat.eq_zero_or_pos n with rfl | h0
  · go_enter Try.func67, Try.ntmps67
    go_wp2
    go_ret
    exact ⟨_, rfl, OwB.zero _ _, Below.refl _ _⟩
  · have hrun := Lib.run_append_nil_zeros (P := Try.prog) w 23 3 23 5 i0 (.int .u8 0) .i64 .i64 Try.underlying23 Try.underlying3 hi hz0 n h0 (by omega) (by omega) (by rw [hz2]; omega)
    have hge := grownCap_ge w n 0 5
    have hcm : grownCap w n 0 5 ≤ maxLen := grownCap_le_maxLen w n 0 5 (by simp only [maxLen]; omega)
    obtain ⟨cap, hcap⟩ : ∃ cap, grownCap w n 0 5 = cap := ⟨_, rfl⟩
    rw [hcap] at hrun hge hcm
    have hsl := fun ww => slice_hi (P := Try.prog) 23 5 Try.underlying23 hi hz1 (some ⟨w.heap.size, 0, none⟩) n cap 0 (Nat.zero_le _) ww
    go_enter Try.func67, Try.ntmps67
    go_wp2_with (first | (at_builtin; refine Lib.wpList_append_run _ rfl (.tmp 20) (.tmp 21) _ _ rfl _ _ rfl rfl _ _ hrun ?_))
    go_ret
    have hh : (w.alloc (.cells (Builtin.zeroCells #[Value.int IntKind.u8 0] n ++ Builtin.zeroCells #[Value.int IntKind.u8 0] (cap - n)) 5)).drew.heap[w.heap.size]? = some (.cells (Builtin.zeroCells #[Value.int IntKind.u8 0] n ++ Builtin.zeroCells #[Value.int IntKind.u8 0] (cap - n)) 5 (0, 0)) := heap_alloc_new w _
    exact ⟨_, rfl, ⟨rfl, .inr ⟨w.heap.size, cap, _, rfl, Nat.le_refl _, hh, Nat.zero_le _, hcm, by simp [size_zeroCells]; omega, rfl⟩⟩, ((Below.refl _ _).alloc (Nat.le_refl _) _).drew⟩

/-! slices.Concat: of slices of octets, however many -/
/-- a slice that is handed over: address, capacity, octets -/
abbrev SlB := Option Addr × Nat × List UInt8
def eSl (s : SlB) : Value := .slice s.1 s.2.2.length s.2.1
def total (ss : List SlB) : Nat := (ss.map fun s => s.2.2.length).sum
def joined (ss : List SlB) : List UInt8 := ss.flatMap fun s => s.2.2
theorem joined_length (ss : List SlB) : (joined ss).length = total ss := by simp [joined, total, List.length_flatMap]
def nilSl : SlB := (none, 0, [])
theorem total_snoc (ss : List SlB) (k : Nat) (h : k < ss.length) : total (ss.take (k + 1)) = total (ss.take k) + (ss.getD k nilSl).2.2.length := by
  rw [List.take_succ_eq_append_getElem h, total, total, List.map_append, List.sum_append]
  simp [List.getD_eq_getElem?_getD, List.getElem?_eq_getElem h]
theorem joined_snoc (ss : List SlB) (k : Nat) (h : k < ss.length) : joined (ss.take (k + 1)) = joined (ss.take k) ++ (ss.getD k nilSl).2.2 := by
  rw [List.take_succ_eq_append_getElem h, joined, joined, List.flatMap_append]
  simp [List.getD_eq_getElem?_getD, List.getElem?_eq_getElem h]
theorem total_le (ss : List SlB) (k : Nat) : total (ss.take k) ≤ total ss := by
  have : total ss = total (ss.take k) + total (ss.drop k) := by
    rw [total, total, total, ← List.sum_append, ← List.map_append, List.take_append_drop]
  omega
theorem getD_mem (ss : List SlB) (k : Nat) (h : k < ss.length) : ss.getD k nilSl ∈ ss := by
  rw [List.getD_eq_getElem?_getD, List.getElem?_eq_getElem h]
  simp
set_option maxRecDepth 100000 in
set_option maxHeartbeats 400000 in
theorem Concat_any (A : Option Addr) (c : Nat) (ss : List SlB) (w : World) (hr : ReadsOf eSl nilSl w A ss.length ss) (hs : ∀ s ∈ ss, RdB w s.1 s.2.1 s.2.2) (ht : total ss ≤ 140737488355328) :
    Calls Try.prog 29 #[.slice A ss.length c] w fun e w' => ∃ v, e = .returned v ∧ OwB w' w.heap.size v (joined ss) ∧ Below w.heap.size w w' := by
  have hm := hr.2.1
  go_enter Try.func29, Try.ntmps29
  go_wp2
  go_loop [3, 11] (fun t i => ∃ k : Nat, k ≤ ss.length ∧ i = .int .i64 k ∧ t = .int .i64 (total (ss.take k))) (fun _ i => ss.length - (intOf i).toNat)
  case atStart => exact ⟨0, by omega, rfl, rfl⟩
  case round =>
    obtain ⟨k, hk, rfl, rfl⟩ := hrel
    have hb := total_le ss k
    by_cases hlt : k < ss.length
    · obtain ⟨ad, rfl, hc⟩ := hr.2.2 (by omega)
      have hcell := hc k hlt
      have HS := hide (total_snoc ss k hlt)
      have hb1 := total_le ss (k + 1)
      rw [HS.out] at hb1
      obtain ⟨⟨A1, c1, x1⟩, hx⟩ : ∃ x, ss.getD k nilSl = x := ⟨_, rfl⟩
      rw [hx] at hcell HS hb1
      clear hx hc
      unfold eSl at hcell
      simp only at hcell HS hb1
      go_wp2
      go_round
      case rel => exact ⟨k + 1, by omega, by go_num, by rw [HS.out]; go_num⟩
      case measure => simp [intOf]; omega
    · obtain rfl : k = ss.length := by omega
      rw [List.take_length] at hb ⊢
      go_wp2_with (first | (go_at_call 67; refine (Grow_nil _ _ (by omega)).mono ?_; rintro e w1 ⟨v1, rfl, HO1, HB1⟩))
      go_loopw [6, 27] (fun t i wr => ∃ k : Nat, k ≤ ss.length ∧ i = .int .i64 k ∧ OwB wr w.heap.size t (joined (ss.take k)) ∧ Below w.heap.size w wr) (fun _ i _ => ss.length - (intOf i).toNat)
      case atStart => exact ⟨0, by omega, rfl, HO1, HB1⟩
      case round =>
        obtain ⟨k, hk, rfl, HO, HB⟩ := hrel
        have hb := total_le ss k
        by_cases hlt : k < ss.length
        · have hrr := hr.below ⟨HB.os, HB.tape, HB.output, HB.size, HB.block⟩
          obtain ⟨ad, rfl, hc⟩ := hrr.2.2 (by omega)
          have hcell := hc k hlt
          have HS := hide (joined_snoc ss k hlt)
          have HT := hide (total_snoc ss k hlt)
          have hb1 := total_le ss (k + 1)
          rw [HT.out] at hb1
          have HR := (hs _ (getD_mem ss k hlt)).below HB
          obtain ⟨⟨A1, c1, x1⟩, hx⟩ : ∃ x, ss.getD k nilSl = x := ⟨_, rfl⟩
          rw [hx] at hcell HS hb1 HR
          clear hx hc HT
          unfold eSl at hcell
          simp only at hcell HS hb1 HR
          have hjl := joined_length (ss.take k)
          go_wp2_with (first | (at_builtin; refine app_row (w0 := w) w.heap.size rfl (.tmp 31) (.tmp 32) rfl _ (joined (ss.take k)) x1 A1 c1 rfl rfl HO HR HB HB.size (by omega) ?_; intro v1 w1 HO1 HB1 hg hat))
          go_roundw
          case rel => exact ⟨k + 1, by omega, by go_num, by rw [HS.out]; exact HO1, HB1⟩
          case measure => simp [intOf]; omega
        · obtain rfl : k = ss.length := by omega
          rw [List.take_length] at HO
          go_wp2
          go_ret
          exact ⟨_, rfl, HO, HB⟩

/-- of two, laid out for the call -/
theorem Concat_two (A1 A2 : Option Addr) (c1 c2 n1 n2 n : Nat) (x1 x2 : List UInt8) (W : World) (hn : W.heap.size = n) (h1 : RdB W A1 c1 x1) (h2 : RdB W A2 c2 x2) (l1 : x1.length = n1) (l2 : x2.length = n2) (ht : x1.length + x2.length ≤ 140737488355328) :
    Calls Try.prog 29 #[.slice (some ⟨n, 0, none⟩) 2 2] (W.alloc (.cells #[.slice A1 n1 c1, .slice A2 n2 c2] 23)) fun e w' => ∃ v, e = .returned v ∧ OwB w' W.heap.size v (x1 ++ x2) ∧ Below W.heap.size W w' := by
  subst hn
  subst l1
  subst l2
  have hb : Below W.heap.size W (W.alloc (.cells #[.slice A1 x1.length c1, .slice A2 x2.length c2] 23)) := (Below.refl _ _).alloc (Nat.le_refl _) _
  refine (Concat_any (some ⟨W.heap.size, 0, none⟩) 2 [(A1, c1, x1), (A2, c2, x2)] _ ⟨rfl, by simp, fun _ => ⟨_, rfl, fun j hj => ?_⟩⟩ ?_ (by simpa [total] using ht)).mono ?_
  · rw [add_plain, World.cell?_alloc_mark]
    have : j = 0 ∨ j = 1 := by simp at hj; omega
    rcases this with rfl | rfl <;> rfl
  · intro s hs
    simp only [List.mem_cons, List.not_mem_nil, or_false] at hs
    rcases hs with rfl | rfl
    · exact h1.below hb
    · exact h2.below hb
  · rintro e w' ⟨v, rfl, HO, HB⟩
    exact ⟨v, rfl, by simpa [joined] using HO.lower (by simp), hb.trans (HB.mono (by simp))⟩
end Go.Proofs.Ytefcepjffeiaoaa
end

section
/- The walks of the checksum's functions: octets, and what the library does for it: Clone, Grow, Concat; Guard, Bare. -/
namespace Go.Proofs.Ytefcepjffeiaoaa
open Go.RowKit Go.Proofs.YtefcepjffeiaoaaW.PrintWords

/-- a sum's octets, an array, as the walk spells it -/
def fourC (c : BitVec 32) : Array Value := #[.int .u8 ((c.toNat : Int) / 16777216), .int .u8 ((c.toNat : Int) / 65536 % 256), .int .u8 ((c.toNat : Int) / 256 % 256), .int .u8 ((c.toNat : Int) % 256)]

set_option maxRecDepth 100000 in
set_option maxHeartbeats 400000 in
theorem octets_any (c : BitVec 32) (w : World) :
    Calls Try.prog 72 #[.int .u32 (c.toNat : Int)] w fun e w' => e = .returned (.agg (fourC c)) ∧ Below w.heap.size w w' := by
  have hc := c.isLt
  go_enter Try.func72, Try.ntmps72
  go_wp2
  refine bodyPost_ret (v := .agg (fourC c)) ?_ rfl ⟨rfl, (Below.refl _ _).alloc (Nat.le_refl _) _⟩
  simp [results, Try.results72, go_sem, fourC]
end Go.Proofs.Ytefcepjffeiaoaa
end

section
/- The walks of Guard and Bare. -/
namespace Go.Proofs.Ytefcepjffeiaoaa
open Go.RowKit Go.Proofs.YtefcepjffeiaoaaW.PrintWords

theorem four_cells (c : BitVec 32) (w : World) : RdB (w.alloc (.cells (fourC c) 107)) (some ⟨w.heap.size, 0, none⟩) 4 (four c) := by
  have hc := c.isLt
  refine ⟨Nat.le_refl _, rfl, by simp [four], fun _ => ⟨_, rfl, fun j hj => ?_⟩⟩
  have hj' : j = 0 ∨ j = 1 ∨ j = 2 ∨ j = 3 := by simp [four] at hj; omega
  rw [add_plain, World.cell?_alloc_mark]
  rcases hj' with rfl | rfl | rfl | rfl <;> simp [fourC, four, eu8]
  omega

set_option maxRecDepth 100000 in
set_option maxHeartbeats 400000 in
theorem Guard_any (A : Option Addr) (c : Nat) (xs : List UInt8) (w : World) (hr : RdB w A c xs) (hl : xs.length + 4 ≤ 140737488355328) :
    Calls Try.prog 36 #[.slice A xs.length c] w fun e w' => ∃ v, e = .returned v ∧ OwB w' w.heap.size v (guarded xs) ∧ Below w.heap.size w w' := by
  have hm := hr.max
  go_enter Try.func36, Try.ntmps36
  go_wp2_with (first | (go_at_call 73; refine (Sum_any _ _ _ _ hr).mono ?_; rintro e w' ⟨rfl, rfl⟩) | (go_at_call 72; refine (octets_any _ _).mono ?_; rintro e w1 ⟨rfl, HB1⟩; unfold fourC) | (go_at_call 29; refine (Concat_two A _ c 4 xs.length 4 _ xs (four (crc ones xs)) _ (by simp) (hr.below (HB1.alloc HB1.size _)) (four_cells _ w1) rfl rfl (by simp [four]; omega)).mono ?_; rintro e w2 ⟨v, rfl, HO2, HB2⟩))
  go_ret
  exact ⟨_, rfl, HO2.lower (by have := HB1.size; simp; omega), (HB1.alloc HB1.size _).trans (HB2.mono (by have := HB1.size; simp; omega))⟩

/-- the last four octets, as an array -/
theorem last_four (ad : Addr) (c : Nat) (ys : List UInt8) (t0 t1 t2 t3 : UInt8) (w : World) (hr : RdB w (some ad) c (ys ++ [t0, t1, t2, t3])) (w' : World) (hb : Below w.heap.size w w') :
    (loadVar 107 (ad.add ys.length)).run Try.prog w' = .ok (.agg #[.int .u8 (t0.toNat : Int), .int .u8 (t1.toNat : Int), .int .u8 (t2.toNat : Int), .int .u8 (t3.toNat : Int)]) w' := by
  refine run_loadVar_arr w' 107 5 4 Try.underlying107 (ad.add ys.length) [.int .u8 (t0.toNat : Int), .int .u8 (t1.toNat : Int), .int .u8 (t2.toNat : Int), .int .u8 (t3.toNat : Int)] (by kernel_rfl) ?_
  intro j v hj
  obtain ⟨ad', e, hc⟩ := (hr.below hb).2.2.2 (by simp)
  injection e with e
  subst e
  have hj4 : j < 4 := by
    rcases Nat.lt_or_ge j 4 with h | h
    · exact h
    · rw [List.getElem?_eq_none (by simpa using h)] at hj
      cases hj
  have ha : (ad.add ys.length).add j = ad.add (ys.length + j) := by
    unfold Addr.add
    by_cases h1 : ys.length = 0 <;> by_cases h2 : j = 0 <;> simp [h1, h2, Nat.add_assoc]
  rw [ha, hc (ys.length + j) (by simp; omega), ← hj]
  have hj' : j = 0 ∨ j = 1 ∨ j = 2 ∨ j = 3 := by omega
  rcases hj' with rfl | rfl | rfl | rfl <;> simp [List.getD_eq_getElem?_getD, eu8]

/-- arrays of four octets compared -/
theorem run_equalIn_four (d : Nat) (x0 x1 x2 x3 y0 y1 y2 y3 : Int) (w : World) :
    (Op.equalIn (d + 2) 107 (.agg #[.int .u8 x0, .int .u8 x1, .int .u8 x2, .int .u8 x3]) (.agg #[.int .u8 y0, .int .u8 y1, .int .u8 y2, .int .u8 y3])).run Try.prog w = .ok (x0 == y0 && (x1 == y1 && (x2 == y2 && x3 == y3))) w := by
  obtain ⟨i0, hi, hz0, hz1, hz2⟩ := info_parts info_u8
  have p0 : ∀ (a b c d : Int) ww, (part 5 #[.int .u8 a, .int .u8 b, .int .u8 c, .int .u8 d] 0).run Try.prog ww = .ok (.int .u8 a) ww := fun a b c d ww => by kernel_rfl
  have p1 : ∀ (a b c d : Int) ww, (part 5 #[.int .u8 a, .int .u8 b, .int .u8 c, .int .u8 d] 1).run Try.prog ww = .ok (.int .u8 b) ww := fun a b c d ww => by kernel_rfl
  have p2 : ∀ (a b c d : Int) ww, (part 5 #[.int .u8 a, .int .u8 b, .int .u8 c, .int .u8 d] 2).run Try.prog ww = .ok (.int .u8 c) ww := fun a b c d ww => by kernel_rfl
  have p3 : ∀ (a b c d : Int) ww, (part 5 #[.int .u8 a, .int .u8 b, .int .u8 c, .int .u8 d] 3).run Try.prog ww = .ok (.int .u8 d) ww := fun a b c d ww => by kernel_rfl
  have q : ∀ (a b : Int) (ww : World), (Op.equalIn (d + 1) 5 (.int .u8 a) (.int .u8 b)).run Try.prog ww = .ok (a == b) ww := fun a b ww => run_equalIn_int ww d 5 .u8 .u8 a b Try.underlying5
  unfold Op.equalIn
  simp only [Sem.run_bind, run_underlying Try.underlying107, sizeOf, typeInfo, Std.Legacy.Range.forIn_eq_forIn_range']
  simp [Sem.run_bind, hi, hz1, List.range', p0, p1, p2, p3, q]
  by_cases e0 : x0 = y0 <;> by_cases e1 : x1 = y1 <;> by_cases e2 : x2 = y2 <;> by_cases e3 : x3 = y3 <;> simp [e0, e1, e2, e3]
theorem four_iff (c : BitVec 32) (t0 t1 t2 t3 : UInt8) : ((t0.toNat : Int) == (c.toNat : Int) / 16777216 && ((t1.toNat : Int) == (c.toNat : Int) / 65536 % 256 && ((t2.toNat : Int) == (c.toNat : Int) / 256 % 256 && (t3.toNat : Int) == (c.toNat : Int) % 256))) = decide ([t0, t1, t2, t3] = four c) := by
  have hc := c.isLt
  have e : ∀ (t : UInt8) (n : Nat), t = UInt8.ofNat n ↔ t.toNat = n % 256 := fun t n => by
    rw [← UInt8.toNat_inj]; simp
  rw [Bool.eq_iff_iff]
  simp only [Bool.and_eq_true, beq_iff_eq, decide_eq_true_eq, four, List.cons.injEq, and_true, e]
  omega

set_option maxRecDepth 100000 in
set_option maxHeartbeats 400000 in
/-- too short -/
theorem Bare_short (A : Option Addr) (c : Nat) (xs : List UInt8) (w : World) (h4 : xs.length < 4) :
    Calls Try.prog 46 #[.slice A xs.length c] w fun e w' => e = .returned (.tuple #[.slice none 0 0, .int .i64 8]) ∧ w = w' := by
  have h : (xs.length : Int) - 4 < 0 := by omega
  go_enter Try.func46, Try.ntmps46
  go_wp2
  go_ret2
  exact ⟨rfl, rfl⟩

set_option maxRecDepth 100000 in
set_option maxHeartbeats 400000 in
theorem Bare_any (A : Option Addr) (c : Nat) (ys : List UInt8) (t0 t1 t2 t3 : UInt8) (w : World) (hr : RdB w A c (ys ++ [t0, t1, t2, t3])) (hl : ys.length + 4 ≤ 140737488355328) :
    Calls Try.prog 46 #[.slice A (ys.length + 4) c] w fun e w' =>
      ([t0, t1, t2, t3] = four (crc ones ys) → ∃ v, e = .returned (.tuple #[v, .int .i64 0]) ∧ OwB w' w.heap.size v ys) ∧
      (¬ [t0, t1, t2, t3] = four (crc ones ys) → e = .returned (.tuple #[.slice none 0 0, .int .i64 21])) ∧ Below w.heap.size w w' := by
  obtain ⟨i0, hi, hz0, hz1, hz2⟩ := info_parts info_u8
  obtain ⟨ad, rfl, _⟩ := hr.at_ 0 (by simp)
  have hle : ys.length + 4 ≤ c := by simpa using hr.le
  have hcn : ¬ c = ys.length := by omega
  have hrt : RdB w (some ad) c ys := by simpa using hr.take ys.length (by simp)
  have hld := last_four ad c ys t0 t1 t2 t3 w hr
  have harr := fun ww => run_arrayAt (P := Try.prog) ww 107 5 4 Try.underlying107 (some (ad.add ys.length)) 4 (c - ys.length) (by omega)
  have hsl := fun ww => slice_hi (P := Try.prog) 23 5 Try.underlying23 hi hz1 (some ad) (ys.length + 4) c ys.length (by omega) ww
  have heq := fun ww => run_equalIn_four 9998 t0.toNat t1.toNat t2.toNat t3.toNat ((crc ones ys).toNat / 16777216) ((crc ones ys).toNat / 65536 % 256) ((crc ones ys).toNat / 256 % 256) ((crc ones ys).toNat % 256) ww
  rw [four_iff] at heq
  have heq' : ∀ ww, (Op.equalIn 10000 107 (.agg #[.int .u8 (t0.toNat : Int), .int .u8 (t1.toNat : Int), .int .u8 (t2.toNat : Int), .int .u8 (t3.toNat : Int)]) (.agg (fourC (crc ones ys)))).run Try.prog ww = .ok (decide ([t0, t1, t2, t3] = four (crc ones ys))) ww := heq
  clear heq hr
  by_cases hf : [t0, t1, t2, t3] = four (crc ones ys)
  · rw [decide_eq_true hf] at heq'
    have HF := hide hf
    clear hf
    go_enter Try.func46, Try.ntmps46
    go_wp2
    refine wp_region_below w.heap.size w (Below.refl _ _) (by kernel_rfl) (by kernel_rfl) ?_
    repeat (go_big_quiet_step ((intro hb; rfl)))
    refine quiet_load rfl 107 _ rfl _ rfl _ hld ?_
    clear hld
    simp only [Act.put, List.setIfInBounds_toArray, List.set_cons_zero, List.set_cons_succ]
    repeat (go_big_quiet_step ((intro hb; first | rfl | (refine (Sum_any _ _ _ _ (hrt.below hb)).mono ?_; rintro e w1 ⟨rfl, rfl⟩; exact ⟨rfl, hb⟩) | (refine (octets_any _ _).mono ?_; rintro e w1 ⟨rfl, HB1⟩; exact ⟨rfl, hb.trans (HB1.mono hb.size)⟩) | (simp only [heq', Result.andThen]; exact ⟨rfl, rfl⟩))))
    refine wpQuiet_nil ?_
    intro w1 HB1
    go_wp2_with (first | (go_at_call 69; refine (Clone_any _ _ _ _ (hrt.below HB1) (by omega)).mono ?_; rintro e w2 ⟨v, rfl, HO2, HB2⟩))
    go_ret2
    exact ⟨fun _ => ⟨_, rfl, HO2.lower HB1.size⟩, fun h => absurd HF.out h, HB1.trans (HB2.mono HB1.size)⟩
  · rw [decide_eq_false hf] at heq'
    have HF := hide hf
    clear hf
    go_enter Try.func46, Try.ntmps46
    go_wp2
    refine wp_region_below w.heap.size w (Below.refl _ _) (by kernel_rfl) (by kernel_rfl) ?_
    repeat (go_big_quiet_step ((intro hb; rfl)))
    refine quiet_load rfl 107 _ rfl _ rfl _ hld ?_
    clear hld
    simp only [Act.put, List.setIfInBounds_toArray, List.set_cons_zero, List.set_cons_succ]
    repeat (go_big_quiet_step ((intro hb; first | rfl | (refine (Sum_any _ _ _ _ (hrt.below hb)).mono ?_; rintro e w1 ⟨rfl, rfl⟩; exact ⟨rfl, hb⟩) | (refine (octets_any _ _).mono ?_; rintro e w1 ⟨rfl, HB1⟩; exact ⟨rfl, hb.trans (HB1.mono hb.size)⟩) | (simp only [heq', Result.andThen]; exact ⟨rfl, rfl⟩))))
    refine wpQuiet_nil ?_
    intro w1 HB1
    go_wp2
    go_ret2
    exact ⟨fun h => absurd h HF.out, fun _ => rfl, HB1⟩
end Go.Proofs.Ytefcepjffeiaoaa
end

section
/- The walks of the page's checksum: Extend, Sum, Copied, Guard, Bare. -/
namespace Go.Proofs.Ytefcepjffeiaoaa
open Go.RowKit Go.Proofs.YtefcepjffeiaoaaW.PrintWords

theorem guarded_iff (ys : List UInt8) (t0 t1 t2 t3 : UInt8) : guarded ys = ys ++ [t0, t1, t2, t3] ↔ [t0, t1, t2, t3] = four (crc ones ys) := by
  unfold guarded
  rw [List.append_cancel_left_eq]
  exact eq_comm

end Go.Proofs.Ytefcepjffeiaoaa
end

section
/- Bare and the reference's Bare in one form. -/
namespace Go.Proofs.Ytefcepjffeiaoaa
open Go.RowKit Go.Proofs.YtefcepjffeiaoaaW.PrintWords

/-- what is bared, and the number that is answered -/
def bare (zs : List UInt8) : List UInt8 := if 4 ≤ zs.length ∧ guarded (zs.take (zs.length - 4)) = zs then zs.take (zs.length - 4) else []
def bareNum (zs : List UInt8) : Int := if zs.length < 4 then 8 else if guarded (zs.take (zs.length - 4)) = zs then 0 else 21
theorem take_guarded (xs : List UInt8) : (guarded xs).take ((guarded xs).length - 4) = xs := by
  rw [guarded_length, Nat.add_sub_cancel]
  simp [guarded]
theorem bare_guarded (xs : List UInt8) : bare (guarded xs) = xs := by
  unfold bare
  rw [take_guarded, if_pos ⟨by rw [guarded_length]; omega, rfl⟩]
theorem bareNum_guarded (xs : List UInt8) : bareNum (guarded xs) = 0 := by
  unfold bareNum
  rw [take_guarded, if_neg (by rw [guarded_length]; omega), if_pos rfl]
theorem cut_four (zs : List UInt8) (h : 4 ≤ zs.length) : ∃ t0 t1 t2 t3, zs = zs.take (zs.length - 4) ++ [t0, t1, t2, t3] := by
  have hl : (zs.drop (zs.length - 4)).length = 4 := by rw [List.length_drop]; omega
  match hd : zs.drop (zs.length - 4), hl with
  | [t0, t1, t2, t3], _ => exact ⟨t0, t1, t2, t3, by rw [← hd, List.take_append_drop]⟩
theorem Bare_all (A : Option Addr) (c : Nat) (zs : List UInt8) (w : World) (hr : RdB w A c zs) (hl : zs.length ≤ 140737488355328) :
    Calls Try.prog 46 #[.slice A zs.length c] w fun e w' => ∃ v, e = .returned (.tuple #[v, .int .i64 (bareNum zs)]) ∧ OwB w' w.heap.size v (bare zs) ∧ Below w.heap.size w w' := by
  by_cases h4 : zs.length < 4
  · refine (Bare_short A c zs w h4).mono ?_
    rintro e w' ⟨rfl, rfl⟩
    refine ⟨_, by rw [bareNum, if_pos h4], ?_, Below.refl _ _⟩
    rw [bare, if_neg (by omega)]
    exact OwB.zero _ _
  · obtain ⟨t0, t1, t2, t3, hz⟩ := cut_four zs (by omega)
    have hbn : bareNum zs = if guarded (zs.take (zs.length - 4)) = zs then 0 else 21 := by rw [bareNum, if_neg h4]
    have hbr : bare zs = if guarded (zs.take (zs.length - 4)) = zs then zs.take (zs.length - 4) else [] := by rw [bare]; simp [show 4 ≤ zs.length by omega]
    have hlen : (zs.take (zs.length - 4)).length + 4 = zs.length := by simp; omega
    rw [hbn, hbr]
    generalize zs.take (zs.length - 4) = ys at *
    subst hz
    rw [← hlen]
    refine (Bare_any A c ys t0 t1 t2 t3 w hr (by omega)).mono ?_
    rintro e w' ⟨h1, h2, HB⟩
    by_cases hg : guarded ys = ys ++ [t0, t1, t2, t3]
    · rw [if_pos hg, if_pos hg]
      obtain ⟨v, rfl, HO⟩ := h1 ((guarded_iff _ _ _ _ _).1 hg)
      exact ⟨v, rfl, HO, HB⟩
    · rw [if_neg hg, if_neg hg]
      exact ⟨_, h2 (fun e => hg ((guarded_iff _ _ _ _ _).2 e)), OwB.zero _ _, HB⟩
end Go.Proofs.Ytefcepjffeiaoaa
end

section
/- The plain law of numbers as octets. -/
namespace Go.Proofs.Ytefcepjffeiaoaa
open Go

def vsize (n : Nat) : Nat := if n < 128 then 1 else if n < 16384 then 2 else if n < 2097152 then 3 else if n < 268435456 then 4 else if n < 34359738368 then 5 else if n < 4398046511104 then 6 else if n < 562949953421312 then 7 else if n < 72057594037927936 then 8 else 9
theorem vsize_pos (n : Nat) : 1 ≤ vsize n := by unfold vsize; repeat' split <;> try omega
theorem vsize_le (n : Nat) : vsize n ≤ 9 := by unfold vsize; repeat' split <;> try omega
theorem bitLen_iff (x k : Nat) (hk : k ≤ 64) (hx : x < 2 ^ 64) : Lib.bitLen x ≤ k ↔ x < 2 ^ k := by
  constructor
  · intro h
    by_cases h0 : x = 0
    · subst h0; exact Nat.two_pow_pos k
    · have hb := Lib.bitLenAux_bounds 64 x hx h0
      exact Nat.lt_of_lt_of_le hb.2.2 (Nat.pow_le_pow_right (by omega) h)
  · exact fun h => Lib.bitLen_le x k hk h
theorem vsize_bits (n : Nat) (hn : n < 18446744073709551616) : vsize n = Nat.min 9 (Nat.max 1 ((Lib.bitLen n + 6) / 7)) := by
  have h := fun k hk => bitLen_iff n k hk hn
  have h7 := h 7 (by omega); have h14 := h 14 (by omega); have h21 := h 21 (by omega); have h28 := h 28 (by omega)
  have h35 := h 35 (by omega); have h42 := h 42 (by omega); have h49 := h 49 (by omega); have h56 := h 56 (by omega)
  have h64 := h 64 (by omega)
  simp only [Nat.reducePow] at h7 h14 h21 h28 h35 h42 h49 h56 h64
  have e1 : Nat.max 1 ((Lib.bitLen n + 6) / 7) = max 1 ((Lib.bitLen n + 6) / 7) := rfl
  have e2 : ∀ x, Nat.min 9 x = min 9 x := fun _ => rfl
  rw [e1, e2]
  unfold vsize
  repeat' split <;> try omega
/-- the lower j octets of n, the highest first -/
def be : Nat → Nat → List UInt8
  | 0, _ => []
  | j + 1, n => UInt8.ofNat (n / 256 ^ j) :: be j n
theorem be_length (j n : Nat) : (be j n).length = j := by induction j <;> simp [be, *]
def num8 (h : Nat) (l : List UInt8) : Nat := l.foldl (fun n x => n * 256 + x.toNat) h
theorem num8_append (h : Nat) (a b : List UInt8) : num8 h (a ++ b) = num8 (num8 h a) b := by simp [num8]
theorem num8_cons (h : Nat) (x : UInt8) (l : List UInt8) : num8 h (x :: l) = num8 (h * 256 + x.toNat) l := rfl
theorem num8_be (j n : Nat) : num8 (n / 256 ^ j) (be j n) = n := by
  induction j with
  | zero => simp [be, num8]
  | succ j ih =>
    rw [be, num8_cons]
    have : n / 256 ^ (j + 1) * 256 + (UInt8.ofNat (n / 256 ^ j)).toNat = n / 256 ^ j := by
      rw [Nat.pow_succ, ← Nat.div_div_eq_div_mul]
      simp only [UInt8.toNat_ofNat']
      omega
    rw [this, ih]
theorem num8_split (h : Nat) (l : List UInt8) : num8 h l = h * 256 ^ l.length + num8 0 l ∧ num8 0 l < 256 ^ l.length := by
  induction l generalizing h with
  | nil => simp [num8]
  | cons x l ih =>
    have hx := x.toNat_lt
    have h1 := ih (h * 256 + x.toNat)
    have h2 := ih (0 * 256 + x.toNat)
    rw [num8_cons, num8_cons, h1.1, h2.1, List.length_cons, Nat.pow_succ]
    have h3 := h1.2
    constructor
    · rw [Nat.add_mul, Nat.mul_assoc, Nat.mul_comm 256, Nat.zero_mul, Nat.zero_add, Nat.add_assoc]
    · rw [Nat.zero_mul, Nat.zero_add]
      have : x.toNat * 256 ^ l.length ≤ 255 * 256 ^ l.length := Nat.mul_le_mul_right _ (by omega)
      have e : 256 ^ l.length * 256 = 255 * 256 ^ l.length + 256 ^ l.length := by rw [Nat.mul_comm]; omega
      omega
theorem num8_div (h : Nat) (l : List UInt8) : num8 h l / 256 ^ l.length = h := by
  have := num8_split h l
  rw [this.1, Nat.add_comm, Nat.add_mul_div_right _ _ (Nat.pow_pos (by omega)), Nat.div_eq_of_lt this.2, Nat.zero_add]
theorem be_num8 (h : Nat) (l : List UInt8) : be l.length (num8 h l) = l := by
  induction l generalizing h with
  | nil => rfl
  | cons x l ih =>
    rw [List.length_cons, be, num8_cons, ih, num8_div]
    congr 1
    apply UInt8.toNat_inj.1
    have hx := x.toNat_lt
    simp only [UInt8.toNat_ofNat']
    omega
/-- how many ones an octet begins with; the ones that tell how many octets follow; what an octet holds beside them -/
def ones8 (b : UInt8) : Nat := 8 - Lib.bitLen (255 - b.toNat)
def lead (k : Nat) : UInt8 := ~~~ (UInt8.ofNat (255 / 2 ^ (k - 1)))
def mask8 (k : Nat) : UInt8 := UInt8.ofNat (255 / 2 ^ k)
def room (k : Nat) : Nat := if k = 9 then 1 else 2 ^ (8 - k)
def head (n : Nat) : UInt8 := UInt8.ofNat (n / 256 ^ (vsize n - 1)) ||| lead (vsize n)
def put (n : Nat) : List UInt8 := head n :: be (vsize n - 1) n
theorem put_length (n : Nat) : (put n).length = vsize n := by
  have := vsize_pos n
  rw [put, List.length_cons, be_length]
  omega
theorem ones8_le (b : UInt8) : ones8 b ≤ 8 := by unfold ones8; omega
theorem back8 (b : UInt8) : (b &&& mask8 (ones8 b + 1)) ||| lead (ones8 b + 1) = b ∧ (b &&& mask8 (ones8 b + 1)).toNat < room (ones8 b + 1) := by
  have h : ∀ n : Fin 256, ((UInt8.ofNat n.val) &&& mask8 (ones8 (UInt8.ofNat n.val) + 1)) ||| lead (ones8 (UInt8.ofNat n.val) + 1) = UInt8.ofNat n.val ∧ ((UInt8.ofNat n.val) &&& mask8 (ones8 (UInt8.ofNat n.val) + 1)).toNat < room (ones8 (UInt8.ofNat n.val) + 1) := by decide +kernel
  have := h ⟨b.toNat, b.toNat_lt⟩
  simpa using this
theorem forth8 (k x : Nat) (h1 : 1 ≤ k) (h9 : k ≤ 9) (hx : x < room k) : ones8 (UInt8.ofNat x ||| lead k) + 1 = k ∧ (UInt8.ofNat x ||| lead k) &&& mask8 k = UInt8.ofNat x ∧ (UInt8.ofNat x).toNat = x := by
  have h : ∀ k : Fin 10, ∀ x : Fin 128, 1 ≤ k.val → x.val < room k.val → ones8 (UInt8.ofNat x.val ||| lead k.val) + 1 = k.val ∧ (UInt8.ofNat x.val ||| lead k.val) &&& mask8 k.val = UInt8.ofNat x.val ∧ (UInt8.ofNat x.val).toNat = x.val := by decide +kernel
  have hr : ∀ k : Fin 10, 1 ≤ k.val → room k.val ≤ 128 := by decide
  have := hr ⟨k, by omega⟩ h1
  simp only at this
  exact h ⟨k, by omega⟩ ⟨x, by omega⟩ h1 hx
theorem room_size (n : Nat) (hn : n < 18446744073709551616) : n / 256 ^ (vsize n - 1) < room (vsize n) := by
  unfold vsize
  repeat' split
  all_goals (simp [room]; omega)
theorem size_room (k n : Nat) (h1 : 1 ≤ k) (h9 : k ≤ 9) (h : n / 256 ^ (k - 1) < room k) : vsize n ≤ k := by
  have hk : k = 1 ∨ k = 2 ∨ k = 3 ∨ k = 4 ∨ k = 5 ∨ k = 6 ∨ k = 7 ∨ k = 8 ∨ k = 9 := by omega
  rcases hk with rfl | rfl | rfl | rfl | rfl | rfl | rfl | rfl | rfl <;> simp [room] at h <;> unfold vsize <;> repeat' split <;> try omega
def oct0 : List UInt8 → UInt8
  | [] => 0
  | x :: _ => x
/-- what octets tell: the number and how many octets it has; else the error's number -/
def getNum (b : List UInt8) : Nat := num8 ((oct0 b &&& mask8 (ones8 (oct0 b) + 1)).toNat) ((b.take (ones8 (oct0 b) + 1)).drop 1)
def getErr (b : List UInt8) : Nat := if b.length < ones8 (oct0 b) + 1 then 8 else if vsize (getNum b) = ones8 (oct0 b) + 1 then 0 else 4
theorem getErr_nil : getErr [] = 8 := by decide
theorem get_put (n : Nat) (hn : n < 18446744073709551616) (more : List UInt8) : getErr (put n ++ more) = 0 ∧ getNum (put n ++ more) = n ∧ ones8 (oct0 (put n ++ more)) + 1 = vsize n := by
  have h1 := vsize_pos n
  have hf := forth8 (vsize n) (n / 256 ^ (vsize n - 1)) h1 (vsize_le n) (room_size n hn)
  have hh : oct0 (put n ++ more) = head n := rfl
  have ho : ones8 (head n) + 1 = vsize n := hf.1
  have hg : getNum (put n ++ more) = n := by
    unfold getNum
    rw [hh, ho, List.take_append_of_le_length (by rw [put_length]; omega), List.take_of_length_le (by rw [put_length]; omega)]
    show num8 (head n &&& mask8 (vsize n)).toNat (be (vsize n - 1) n) = n
    rw [show head n &&& mask8 (vsize n) = UInt8.ofNat (n / 256 ^ (vsize n - 1)) from hf.2.1, hf.2.2, num8_be]
  refine ⟨?_, hg, by rw [hh, ho]⟩
  unfold getErr
  rw [hh, ho, hg, if_neg (by rw [List.length_append, put_length]; omega), if_pos rfl]
theorem put_get (b : List UInt8) (h : getErr b = 0) : put (getNum b) = b.take (ones8 (oct0 b) + 1) ∧ ones8 (oct0 b) + 1 ≤ b.length ∧ vsize (getNum b) = ones8 (oct0 b) + 1 := by
  have hl : ¬ b.length < ones8 (oct0 b) + 1 := fun hc => by rw [getErr, if_pos hc] at h; omega
  have hv : vsize (getNum b) = ones8 (oct0 b) + 1 := by
    apply Classical.byContradiction
    intro hc
    rw [getErr, if_neg hl, if_neg hc] at h
    omega
  refine ⟨?_, by omega, hv⟩
  match b, hl, hv with
  | [], hl, _ => exact absurd (by simp) hl
  | b0 :: l, hl, hv =>
    have hb := back8 b0
    simp only [oct0] at hv hl ⊢
    rw [put, head, hv]
    have e : (getNum (b0 :: l)) = num8 (b0 &&& mask8 (ones8 b0 + 1)).toNat (l.take (ones8 b0)) := rfl
    have hlen : (l.take (ones8 b0)).length = ones8 b0 := by simp at hl ⊢; omega
    rw [e, List.take_succ_cons]
    have hd := num8_div (b0 &&& mask8 (ones8 b0 + 1)).toNat (l.take (ones8 b0))
    have hbe := be_num8 (b0 &&& mask8 (ones8 b0 + 1)).toNat (l.take (ones8 b0))
    rw [hlen] at hd hbe
    rw [Nat.add_sub_cancel, hd, hbe]
    congr 1
    rw [UInt8.ofNat_toNat]
    exact hb.1
theorem getNum_room (b : List UInt8) (hl : ones8 (oct0 b) + 1 ≤ b.length) : vsize (getNum b) ≤ ones8 (oct0 b) + 1 := by
  have hb := back8 (oct0 b)
  have h8 := ones8_le (oct0 b)
  refine size_room _ _ (by omega) (by omega) ?_
  have hlen : ((b.take (ones8 (oct0 b) + 1)).drop 1).length = ones8 (oct0 b) + 1 - 1 := by simp; omega
  have hd := num8_div (oct0 b &&& mask8 (ones8 (oct0 b) + 1)).toNat ((b.take (ones8 (oct0 b) + 1)).drop 1)
  rw [hlen] at hd
  rw [getNum, hd]
  exact hb.2
end Go.Proofs.Ytefcepjffeiaoaa
end

section
/- The walks of Size and Put of numbers as octets, and the reference's. -/
namespace Go.Proofs.Ytefcepjffeiaoaa
open Go.RowKit Go.Proofs.YtefcepjffeiaoaaW.PrintWords
set_option linter.unusedVariables false

theorem Size_any (n : Nat) (hn : n < 18446744073709551616) (w : World) : Calls Try.prog 68 #[.int .u64 (n : Int)] w fun e w' => e = .returned (.int .i64 (vsize n : Int)) ∧ w = w' := by
  have hv := hide (vsize_bits n hn)
  have hb : Lib.bitLen n ≤ 64 := Lib.bitLen_le n 64 (by omega) hn
  have hL := bits_Len64 (n : Int) w (by omega) (by omega)
  rw [Int.toNat_natCast] at hL
  generalize Lib.bitLen n = b at *
  go_enter Try.func68, Try.ntmps68
  go_wp2_with (first | (go_at_call 98; refine hL.mono ?_; rintro e w' ⟨rfl, rfl⟩))
  all_goals (go_ret; refine ⟨congrArg Ending.returned (congrArg (Value.int .i64) ?_), rfl⟩; rw [hv.out])
  have e1 : ∀ x y, Nat.min x y = min x y := fun _ _ => rfl
  have e2 : ∀ x y, Nat.max x y = max x y := fun _ _ => rfl
  rw [e1, e2]
  omega

theorem be_set (k n : Nat) (hk : k < 9) : (List.replicate (9 - k) (0 : UInt8) ++ be k n).set (8 - k) (UInt8.ofNat (n / 256 ^ k)) = List.replicate (9 - (k + 1)) 0 ++ be (k + 1) n := by
  rw [show 9 - k = (9 - (k + 1)) + 1 by omega, List.replicate_succ', List.append_assoc, List.set_append_right _ _ (by simp)]
  simp only [List.length_replicate, show 8 - k - (9 - (k + 1)) = 0 by omega, List.singleton_append, List.set_cons_zero]
  rfl
def cells8 (xs : List UInt8) : Array Value := (xs.map eu8).toArray
theorem cells8_set (xs : List UInt8) (i : Nat) (x : UInt8) : (cells8 xs).setIfInBounds i (.int .u8 (x.toNat : Int)) = cells8 (xs.set i x) := by
  apply Array.ext'
  simp [cells8, List.map_set, eu8]
theorem cells8_get (xs : List UInt8) (i : Nat) (h : i < xs.length) : (cells8 xs)[i]? = some (.int .u8 ((xs.getD i 0).toNat : Int)) := by
  simp [cells8, List.getElem?_map, List.getElem?_eq_getElem h, List.getD_eq_getElem?_getD, eu8]
theorem shr_byte (n k : Nat) : (n : Int) / 2 ^ (8 * k) % 256 = ((UInt8.ofNat (n / 256 ^ k)).toNat : Int) := by
  have e : (2 : Int) ^ (8 * k) = ((256 ^ k : Nat) : Int) := by rw [Int.pow_mul]; simp
  rw [e, UInt8.toNat_ofNat']
  omega
theorem lead_int (k : Nat) (h1 : 1 ≤ k) (h9 : k ≤ 9) (j : Nat) (hj : j + 1 = k) : bits .xor .u8 (if IntKind.u8.signed = true then -1 else IntKind.u8.max) ((255 : Int) / 2 ^ j) = ((lead k).toNat : Int) := by
  have hk : ∀ j : Fin 9, ((255 : Int) / 2 ^ j.val) = ((UInt8.ofNat (255 / 2 ^ j.val)).toNat : Int) := by decide +kernel
  subst hj
  rw [hk ⟨j, by omega⟩, not_u8]
  rfl
theorem or_u8 (x y : UInt8) : bits .or .u8 (x.toNat : Int) (y.toNat : Int) = ((x ||| y).toNat : Int) := by
  rw [u8_or_nat _ _ x.toNat_lt y.toNat_lt, UInt8.toNat_or]
theorem and_u8 (x y : UInt8) : bits .and .u8 (x.toNat : Int) (y.toNat : Int) = ((x &&& y).toNat : Int) := by
  rw [u8_and_nat _ _ x.toNat_lt y.toNat_lt, UInt8.toNat_and]
theorem be_drop (n : Nat) (j i : Nat) : (be (i + j) n).drop i = be j n := by
  induction i with
  | zero => simp
  | succ i ih => rw [show i + 1 + j = (i + j) + 1 by omega, be, List.drop_succ_cons, ih]
/-- octets of a block, from a place on -/
theorem RdB.blk {w : World} {g : Nat} {t : TypeId} {xs : List UInt8} (h : w.heap[g]? = some (.cells (cells8 xs) t (0, 0))) (i : Nat) (hi : i ≤ xs.length) (hm : xs.length ≤ 9223372036854775807) : RdB w (some ⟨g, i, none⟩) (xs.length - i) (xs.drop i) := by
  refine ⟨by simp, rfl, by simp; omega, fun _ => ⟨_, rfl, fun j hj => ?_⟩⟩
  have e : (⟨g, i, none⟩ : Addr).add j = ⟨g, i + j, none⟩ := by unfold Addr.add; split <;> simp_all
  simp only [List.length_drop] at hj
  rw [e, blk_cell h, cells8_get _ _ (by omega)]
  simp [eu8, List.getD_eq_getElem?_getD]
theorem slice_nine (g m : Nat) (h1 : 1 ≤ m) (h9 : m ≤ 9) (W : World) : (Instr.sliceAt 102 (.pointer (some ⟨g, 0, none⟩)) (some (.int .i64 (9 - (m : Int)))) none none).run Try.prog W = .ok (.slice (some ⟨g, 9 - m, none⟩) m m) W := by
  obtain ⟨i0, hi, hz0, hz1, hz2⟩ := info_parts info_u8
  have hel : Try.prog.elem 102 = 5 := by kernel_rfl
  have har : Try.prog.arrayLen 102 = 9 := by kernel_rfl
  have hl : (9 - (m : Int)).toNat = 9 - m := by omega
  rw [run_sliceAt_array_l W 102 ⟨g, 0, none⟩ (by rw [hel, har]; exact Try.underlying102) .i64 _ (by omega) (by rw [har]; omega), hel, har, hl]
  simp [sizeOf, typeInfo, hi, hz1, slicedAt, Result.andThen]
  rw [if_neg (by omega), add_plain]
  exact ⟨rfl, by omega⟩
set_option maxRecDepth 100000 in
set_option maxHeartbeats 400000 in
theorem Put_any (n : Nat) (hn : n < 18446744073709551616) (w : World) : Calls Try.prog 30 #[.int .u64 (n : Int)] w fun e w' => ∃ v, e = .returned v ∧ OwB w' w.heap.size v (put n) ∧ Below w.heap.size w w' := by
  go_enter Try.func30, Try.ntmps30
  go_wp2
  go_loopw [7] (fun i wr => ∃ k : Nat, k ≤ 9 ∧ i = .int .i64 k ∧ wr.heap[w.heap.size]? = some (.cells (cells8 (List.replicate (9 - k) 0 ++ be k n)) 102 (0, 0)) ∧ Below w.heap.size w wr) (fun i _ => 9 - (intOf i).toNat)
  case atStart => exact ⟨0, by omega, rfl, heap_alloc_new w _, (Below.refl _ _).alloc (Nat.le_refl _) _⟩
  case round =>
    obtain ⟨k, hk, rfl, hblk, HB⟩ := hrel
    by_cases hlt : k < 9
    · have hfr := blk_frozen hblk (8 - k)
      have hcl := blk_cell hblk (8 - k)
      have hnew := blk_set hblk (8 - k) (.int .u8 ((UInt8.ofNat (n / 256 ^ k)).toNat : Int))
      rw [cells8_set, be_set k n hlt] at hnew
      rw [cells8_get _ _ (by simp [be_length]; omega)] at hcl
      have hh := hide hnew
      clear hnew
      go_wp2
      go_roundw
      have HV := shr_byte n k
      case rel => exact ⟨k + 1, by omega, by go_num, by rw [HV]; exact hh.out, by rw [HV]; exact HB.setCell (Nat.le_refl _) _⟩
      case measure => simp [intOf]; omega
    · obtain rfl : k = 9 := by omega
      obtain ⟨j, hmv⟩ : ∃ j, vsize n = j + 1 := ⟨vsize n - 1, by have := vsize_pos n; omega⟩
      obtain ⟨m, hj⟩ : ∃ m, j + 1 = m := ⟨_, rfl⟩
      rw [hj] at hmv
      have h1 := vsize_pos n
      have h9 := vsize_le n
      have hS := Size_any n hn
      rw [hmv] at h1 h9 hS
      have hrd := RdB.blk hblk (9 - m) (by simp [be_length]) (by simp [be_length])
      have hdr : (List.replicate (9 - 9) (0 : UInt8) ++ be 9 n).drop (9 - m) = be m n := by
        have := be_drop n m (9 - m)
        rw [show 9 - m + m = 9 by omega] at this
        simpa using this
      rw [hdr, show (List.replicate (9 - 9) (0 : UInt8) ++ be 9 n).length - (9 - m) = m by simp [be_length]; omega] at hrd
      have hlb : (be m n).length = m := be_length m n
      have hC := Clone_any _ _ _ wr hrd (by omega)
      rw [hlb] at hC
      have hsl := slice_nine w.heap.size m h1 h9
      go_wp2_with (first | (go_at_call 68; refine (hS _).mono ?_; rintro e w2 ⟨rfl, rfl⟩) | (go_at_call 69; refine hC.mono ?_; rintro e w3 ⟨v3, rfl, HO3, HB3⟩))
      have hl0 : 0 < (be m n).length := by omega
      have HBd : Below w.heap.size w w3.drew := (HB.trans (HB3.mono HB.size)).drew
      have HOd : OwB w3.drew wr.heap.size v3 (be m n) := HO3.below (Below.refl _ _).drew
      obtain ⟨g, cap, rfl, hgb, hgl, hcell, hfr, hset⟩ := HOd.set_ 0 hl0
      obtain ⟨HS, HG⟩ := hset (head n)
      have hb0 : (be m n).getD 0 0 = UInt8.ofNat (n / 256 ^ j) := by subst hj; rfl
      rw [hb0] at hcell
      have hput : (be m n).set 0 (head n) = put n := by rw [put, hmv]; subst hj; rfl
      rw [hput] at HS
      have hHS := hide HS
      have hHG := hide HG
      have hcd : w3.cell? ⟨g, 0, none⟩ = some (.int .u8 ((UInt8.ofNat (n / 256 ^ j)).toNat : Int)) := hcell
      have HX : Hid (bits .or .u8 ((UInt8.ofNat (n / 256 ^ j)).toNat : Int) (bits .xor .u8 IntKind.u8.max ((255 : Int) / 2 ^ j)) = ((head n).toNat : Int)) := by
        have hli : bits .xor .u8 IntKind.u8.max ((255 : Int) / 2 ^ j) = ((lead m).toNat : Int) := lead_int m h1 h9 j hj
        rw [hli, or_u8, head, hmv, show m - 1 = j by omega]; rfl
      rw [hlb]
      generalize UInt8.ofNat (n / 256 ^ j) = x at *
      clear HS HG hset hput hl0 hmv hdr hrd hblk hC hsl hS hb0 HO3 HOd
      have hm0 : 0 < m := by omega
      have hmj : (m : Int) - 1 = (j : Int) := by omega
      have hwj : IntKind.i64.wrap (j : Int) = (j : Int) := by rw [IntKind.wrap_i64]; omega
      have hj8 : (j : Int) ≤ 8 := by omega
      have hj64 : (j : Int) ≤ 64 := by omega
      go_still_tail 9, (by kernel_rfl)
      change wpList _ _ _ _ _ w3.drew
      generalize w3.drew = wd at *
      go_wp2
      go_ret
      exact ⟨_, rfl, by rw [HX.out]; simpa [hlb] using hHS.out.lower HB.size, by rw [HX.out]; exact HBd.setCell (Nat.le_trans HB.size hgb) _⟩
end Go.Proofs.Ytefcepjffeiaoaa
end

section
/- The walks of the reference's Size and Put of numbers as octets. -/
namespace Go.Proofs.Ytefcepjffeiaoaa
open Go.RowKit Go.Proofs.YtefcepjffeiaoaaW.PrintWords
set_option linter.unusedVariables false

end Go.Proofs.Ytefcepjffeiaoaa
end

section
/- The walks of Get of numbers as octets, and the reference's. -/
namespace Go.Proofs.Ytefcepjffeiaoaa
open Go.RowKit Go.Proofs.YtefcepjffeiaoaaW.PrintWords
set_option linter.unusedVariables false

def gN (b : List UInt8) : Nat := if getErr b = 0 then getNum b else 0
def gK (b : List UInt8) : Nat := if getErr b = 0 then ones8 (oct0 b) + 1 else 0
theorem or_low (a : Nat) (x : UInt8) (h : a * 256 + x.toNat < 18446744073709551616) : bits .or .u64 ((a : Int) * 256) (x.toNat : Int) = ((a * 256 + x.toNat : Nat) : Int) := by
  have hx := x.toNat_lt
  have e : (a : Int) * 256 = ((a * 256 : Nat) : Int) := by omega
  have h1 : a * 256 < 18446744073709551616 := Nat.lt_of_le_of_lt (Nat.le_add_right _ _) h
  have h2 : x.toNat < 18446744073709551616 := Nat.lt_of_lt_of_le hx (by decide)
  rw [e, u64_or_nat (a * 256) x.toNat h1 h2]
  congr 1
  have := Nat.shiftLeft_add_eq_or_of_lt (i := 8) (b := x.toNat) (by omega) a
  rw [Nat.shiftLeft_eq] at this
  exact this.symm
theorem room_pow (k i : Nat) (h1 : 1 ≤ k) (h9 : k ≤ 9) (hi : i ≤ k - 1) : room k * 256 ^ i ≤ 18446744073709551616 := by
  have h : ∀ k : Fin 10, ∀ i : Fin 10, 1 ≤ k.val → i.val ≤ k.val - 1 → room k.val * 256 ^ i.val ≤ 18446744073709551616 := by decide
  exact h ⟨k, by omega⟩ ⟨i, by omega⟩ h1 hi
theorem num8_lt (h r : Nat) (l : List UInt8) (hr : h < r) : num8 h l < r * 256 ^ l.length := by
  have hs := num8_split h l
  have h2 : (h + 1) * 256 ^ l.length ≤ r * 256 ^ l.length := Nat.mul_le_mul_right _ hr
  rw [Nat.add_mul, Nat.one_mul] at h2
  omega
theorem ones_not (b : UInt8) (w : World) : Calls Try.prog 109 #[.int .u8 ((~~~b).toNat : Int)] w fun e w' => e = .returned (.int .i64 (ones8 b : Int)) ∧ w = w' := by
  refine (bits_LeadingZeros8 ((~~~b).toNat : Int) w (by omega) (by have := (~~~b).toNat_lt; omega)).mono ?_
  rintro e w' ⟨rfl, rfl⟩
  refine ⟨?_, rfl⟩
  have hh : ∀ c : Fin 256, (8 - (Lib.bitLen (((~~~(UInt8.ofNat c.val)).toNat : Int)).toNat : Int)) = (ones8 (UInt8.ofNat c.val) : Int) := by decide +kernel
  have := hh ⟨b.toNat, b.toNat_lt⟩
  simp only [UInt8.ofNat_toNat] at this
  rw [this]
theorem mask_int (b : UInt8) (k : Nat) (h1 : 1 ≤ k) (h9 : k ≤ 9) : bits .and .u8 (b.toNat : Int) ((255 : Int) / 2 ^ k) = ((b &&& mask8 k).toNat : Int) := by
  have hk : ∀ j : Fin 10, ((255 : Int) / 2 ^ j.val) = ((mask8 j.val).toNat : Int) := by decide +kernel
  rw [hk ⟨k, by omega⟩, and_u8]
set_option maxRecDepth 100000 in
set_option maxHeartbeats 800000 in
theorem Get_any (A : Option Addr) (c : Nat) (b : List UInt8) (w : World) (hr : RdB w A c b) :
    Calls Try.prog 102 #[.slice A b.length c] w fun e w' => e = .returned (.tuple #[.int .u64 (gN b : Int), .int .i64 (gK b : Int), .int .i64 (getErr b : Int)]) ∧ Below w.heap.size w w' := by
  cases b with
  | nil =>
    have e1 : gN [] = 0 := by decide
    have e2 : gK [] = 0 := by decide
    rw [e1, e2, getErr_nil]
    go_enter Try.func102, Try.ntmps102
    go_wp2
    go_ret3
    exact ⟨rfl, Below.refl _ _⟩
  | cons b0 l =>
    have hk9 : ones8 b0 + 1 ≤ 9 := by have := ones8_le b0; omega
    obtain ⟨ad, rfl, hcell⟩ := hr.at_ 0 (by simp)
    have hne : ¬ (b0 :: l).length = 0 := by simp
    obtain ⟨b, hb⟩ : ∃ b, b0 :: l = b := ⟨_, rfl⟩
    have ho : oct0 b = b0 := by rw [← hb]; rfl
    have hg0 : b.getD 0 0 = b0 := by rw [← hb]; rfl
    rw [hb] at hr hcell hne ⊢
    rw [hg0] at hcell
    obtain ⟨j, hj⟩ : ∃ j, ones8 b0 = j := ⟨_, rfl⟩
    have hO := ones_not b0
    rw [hj] at hO hk9
    have hz : ad.add 0 = ad := by cases ad; simp [Addr.add]
    rw [hz] at hcell
    have hN := hide (not_u8 b0)
    have HO0 := hide ho
    clear hz ho hb hg0
    by_cases hs : b.length < j + 1
    · have e0 : getErr b = 8 := by rw [getErr, HO0.out, hj, if_pos hs]
      have e1 : gN b = 0 := by rw [gN, e0]; rfl
      have e2 : gK b = 0 := by rw [gK, e0]; rfl
      rw [e0, e1, e2]
      clear e0 e1 e2 hj
      have hsi : (b.length : Int) < 1 + (j : Int) := by omega
      go_enter Try.func102, Try.ntmps102
      go_wp2_with (first | (go_at_call 109; rw [hN.out]; refine (hO _).mono ?_; rintro e w' ⟨rfl, rfl⟩))
      go_ret3
      exact ⟨rfl, Below.refl _ _⟩
    · have hlen : ((b.take (j + 1)).drop 1).length = j := by simp; omega
      have hbk := back8 b0
      have hrj := (hr.take (j + 1) (by omega)).drop 1 (by simp; omega)
      have hgn : getNum b = num8 ((b0 &&& mask8 (j + 1)).toNat) ((b.take (j + 1)).drop 1) := by rw [getNum, HO0.out, hj]
      obtain ⟨t, ht⟩ : ∃ t, (b.take (j + 1)).drop 1 = t := ⟨_, rfl⟩
      rw [ht] at hlen hrj hgn
      rw [hj] at hbk
      have hgE : getErr b = if vsize (getNum b) = j + 1 then 0 else 4 := by rw [getErr, HO0.out, hj, if_neg hs]
      have hsz := getNum_room b (by rw [HO0.out, hj]; omega)
      rw [HO0.out, hj] at hsz
      have hM := hide (mask_int b0 (j + 1) (by omega) hk9)
      obtain ⟨h0, hh0⟩ : ∃ h0, (b0 &&& mask8 (j + 1)).toNat = h0 := ⟨_, rfl⟩
      have hroom := hbk.2
      rw [hh0] at hgn hroom
      have hh0' : h0 < 256 := by rw [← hh0]; exact UInt8.toNat_lt _
      have hM1 : bits .and .u8 (b0.toNat : Int) ((255 : Int) / 2 ^ min (1 + j) 8) = (h0 : Int) := by
        have hm : (255 : Int) / 2 ^ min (1 + j) 8 = (255 : Int) / 2 ^ (j + 1) := by
          have hd : ∀ j : Fin 9, (255 : Int) / 2 ^ min (1 + j.val) 8 = (255 : Int) / 2 ^ (j.val + 1) := by decide
          exact hd ⟨j, by omega⟩
        rw [hm, hM.out, hh0]
      have hwr : IntKind.u64.wrap (h0 : Int) = (h0 : Int) := by rw [IntKind.wrap_u64]; omega
      have hbnd : ∀ i, i ≤ j → num8 h0 (t.take i) < 18446744073709551616 := fun i hi => by
        have h1 := num8_lt h0 _ (t.take i) hroom
        have h2 := room_pow (j + 1) i (by omega) hk9 (by omega)
        have h3 : (t.take i).length = i := by simp; omega
        rw [h3] at h1
        exact Nat.lt_of_lt_of_le h1 h2
      have hK : gN b = (if vsize (getNum b) = j + 1 then getNum b else 0) ∧ gK b = (if vsize (getNum b) = j + 1 then j + 1 else 0) := by
        constructor
        · rw [gN, hgE]; by_cases h : vsize (getNum b) = j + 1 <;> simp [h]
        · rw [gK, hgE, HO0.out, hj]; by_cases h : vsize (getNum b) = j + 1 <;> simp [h]
      have hgl : getNum b < 18446744073709551616 := by have := hbnd j (Nat.le_refl _); rwa [List.take_of_length_le (by omega), ← hgn] at this
      obtain ⟨g, hg⟩ : ∃ g, getNum b = g := ⟨_, rfl⟩
      rw [hg] at hgn hsz hgl hK hgE
      have HV : Hid (vsize g = j + 1 → gN b = g ∧ gK b = j + 1 ∧ getErr b = 0) := fun h => by rw [hK.1, hK.2, hgE, if_pos h, if_pos h, if_pos h]; exact ⟨rfl, rfl, rfl⟩
      have HW : Hid (¬ vsize g = j + 1 → gN b = 0 ∧ gK b = 0 ∧ getErr b = 4) := fun h => by rw [hK.1, hK.2, hgE, if_neg h, if_neg h, if_neg h]; exact ⟨rfl, rfl, rfl⟩
      generalize gN b = N0 at *
      generalize gK b = K0 at *
      generalize getErr b = E0 at *
      have hsl : ∀ W, (Instr.slice 23 (.slice (some ad) b.length c) (some (.int .i64 1)) (some (.int .i64 (1 + (j : Int)))) none).run Try.prog W = .ok (.slice (cutA (some ad) c 1) j (c - 1)) W := fun W => by
        have h := slice_lohi 23 5 Try.underlying23 (i := _) rfl rfl (some ad) b.length c 1 (j + 1) (by omega) (by have := hr.le; omega) W
        rw [show ((j + 1 : Nat) : Int) = 1 + (j : Int) by omega, Nat.add_sub_cancel] at h
        exact h
      have hsi : ¬ (b.length : Int) < 1 + (j : Int) := by omega
      have hj9 : (j : Int) ≤ 8 := by omega
      have hj64 : 1 + (j : Int) ≤ 64 := by omega
      have hj10 : 0 ≤ 1 + (j : Int) := by omega
      have hpos : 0 < b.length := by omega
      have hjt : (1 + (j : Int)).toNat = 1 + j := by omega
      have HGN := hide hgn
      have HLEN := hide hlen
      have hS := Size_any g hgl
      generalize cutA (some ad) c 1 = C at *
      clear hK hgE hgn hh0 hM hbk hj ht hlen HO0 hg
      go_enter Try.func102, Try.ntmps102
      go_wp2_with (first | (go_at_call 109; rw [hN.out]; refine (hO _).mono ?_; rintro e w' ⟨rfl, rfl⟩))
      refine wp_region_still_lit (by kernel_rfl) (by kernel_rfl) ?_
      repeat still_step
      refine wpStill_nil ?_
      change Exit.then _ _ _ _ w.drew
      have hrj2 : RdB w.drew C (c - 1) t := hrj.below (Below.refl _ _).drew
      go_wp2
      have HBd : Below w.heap.size w w.drew := (Below.refl _ _).drew
      generalize w.drew = wd at *
      generalize decide ((b.length : Int) < 1 + (j : Int)) = b21
      generalize (255 : Int) / 2 ^ min (1 + j) 8 = x26
      go_loop [6, 33] (fun n i => ∃ k : Nat, k ≤ j ∧ i = .int .i64 (k : Int) ∧ n = .int .u64 ((num8 h0 (t.take k) : Nat) : Int)) (fun _ i => j - (intOf i).toNat)
      case atStart => exact ⟨0, by omega, rfl, rfl⟩
      case round =>
        obtain ⟨k, hk, rfl, rfl⟩ := hrel
        by_cases hlt : k < j
        · obtain ⟨ad2, rfl, hc2⟩ := hrj2.at_ k (by rw [HLEN.out]; exact hlt)
          have hb1 := hbnd (k + 1) (by omega)
          have hstep : num8 h0 (t.take (k + 1)) = num8 h0 (t.take k) * 256 + (t.getD k 0).toNat := by
            have hlk : k < t.length := by rw [HLEN.out]; exact hlt
            rw [List.take_succ_eq_append_getElem hlk, num8_append]
            simp [num8, List.getD_eq_getElem?_getD, List.getElem?_eq_getElem hlk]
          rw [hstep] at hb1
          have HST := hide hstep
          obtain ⟨x, hx⟩ : ∃ x, t.getD k 0 = x := ⟨_, rfl⟩
          obtain ⟨n, hn⟩ : ∃ n, num8 h0 (t.take k) = n := ⟨_, rfl⟩
          rw [hn] at hb1 HST ⊢
          rw [hx] at hb1 hc2 HST
          have HOR := hide (or_low n x hb1)
          clear hstep hx hn
          go_wp2
          go_round
          case rel => exact ⟨k + 1, by omega, by go_num, by rw [HOR.out, HST.out]⟩
          case measure => simp [intOf]; omega
        · obtain rfl : k = j := by omega
          have hfin : num8 h0 (t.take k) = g := by rw [HGN.out, List.take_of_length_le (by rw [HLEN.out]; omega)]
          rw [hfin]
          clear hfin HGN HLEN hsl hbnd
          by_cases hv : vsize g = k + 1
          · have hvi : (vsize g : Int) = 1 + (k : Int) := by omega
            obtain ⟨rfl, rfl, rfl⟩ := HV.out hv
            clear hv hsz
            go_wp2_with (first | (go_at_call 68; refine (hS _).mono ?_; rintro e w' ⟨rfl, rfl⟩))
            go_ret3
            exact ⟨by simp; omega, HBd⟩
          · have hvi : ¬ (vsize g : Int) = 1 + (k : Int) := by omega
            obtain ⟨rfl, rfl, rfl⟩ := HW.out hv
            clear hv hsz
            go_wp2_with (first | (go_at_call 68; refine (hS _).mono ?_; rintro e w' ⟨rfl, rfl⟩))
            go_ret3
            exact ⟨rfl, HBd⟩
end Go.Proofs.Ytefcepjffeiaoaa
end

section
/- The walk of the reference's Get of numbers as octets. -/
namespace Go.Proofs.Ytefcepjffeiaoaa
open Go.RowKit Go.Proofs.YtefcepjffeiaoaaW.PrintWords
set_option linter.unusedVariables false

end Go.Proofs.Ytefcepjffeiaoaa
end

section
/- Frame: records as octets, plainly. -/
namespace Go.Proofs.Ytefcepjffeiaoaa
set_option linter.unusedVariables false

def putFE (K : Int) (n : Nat) : Int := if K < 0 ∨ 255 < K then 22 else if 65536 < n then 5 else 0
def bodyF (K : Int) (d : List UInt8) : List UInt8 := put d.length ++ UInt8.ofNat K.toNat :: d
def putFX (K : Int) (d : List UInt8) : List UInt8 := if putFE K d.length = 0 then guarded (bodyF K d) else []
theorem putFE_ok (K : Int) (n : Nat) (h : putFE K n = 0) : 0 ≤ K ∧ K ≤ 255 ∧ n ≤ 65536 := by
  unfold putFE at h
  split at h
  · omega
  · split at h <;> omega
theorem bodyF_length (K : Int) (d : List UInt8) : (bodyF K d).length = vsize d.length + 1 + d.length := by
  rw [bodyF, List.length_append, put_length, List.length_cons]; omega
def fgE (b : List UInt8) : Int := if getErr b ≠ 0 then (getErr b : Int) else if 65536 < gN b then 5 else if b.length < gK b + 1 + gN b + 4 then 8 else bareNum (b.take (gK b + 1 + gN b + 4))
def fgS (b : List UInt8) : Nat := if fgE b = 0 then gK b + 1 + gN b + 4 else 0
def fgK (b : List UInt8) : Int := if fgE b = 0 then ((b.getD (gK b) 0).toNat : Int) else 0
def fgX (b : List UInt8) : List UInt8 := if fgE b = 0 then (b.take (gK b + 1 + gN b)).drop (gK b + 1) else []
theorem get_put2 (n : Nat) (hn : n < 18446744073709551616) (r : List UInt8) : getErr (put n ++ r) = 0 ∧ gN (put n ++ r) = n ∧ gK (put n ++ r) = vsize n := by
  obtain ⟨h1, h2, h3⟩ := get_put n hn r
  exact ⟨h1, by rw [gN, if_pos h1, h2], by rw [gK, if_pos h1, h3]⟩
/-- a record that is read back -/
theorem get_frame (K : Int) (d more : List UInt8) (h : putFE K d.length = 0) : fgE (putFX K d ++ more) = 0 ∧ fgK (putFX K d ++ more) = K ∧ fgX (putFX K d ++ more) = d ∧ fgS (putFX K d ++ more) = (putFX K d).length := by
  obtain ⟨h1, h2, h3⟩ := putFE_ok K d.length h
  have e : putFX K d = guarded (bodyF K d) := by rw [putFX, if_pos h]
  have hlen : (guarded (bodyF K d)).length = vsize d.length + 1 + d.length + 4 := by rw [guarded_length, bodyF_length]
  rw [e]
  have hsplit : guarded (bodyF K d) ++ more = put d.length ++ (UInt8.ofNat K.toNat :: d ++ four (crc ones (bodyF K d)) ++ more) := by
    rw [guarded, bodyF]; simp
  obtain ⟨g1, g2, g3⟩ := get_put2 d.length (by omega) (UInt8.ofNat K.toNat :: d ++ four (crc ones (bodyF K d)) ++ more)
  rw [← hsplit] at g1 g2 g3
  have htake : (guarded (bodyF K d) ++ more).take (vsize d.length + 1 + d.length + 4) = guarded (bodyF K d) := by rw [← hlen, List.take_left]
  have hE : fgE (guarded (bodyF K d) ++ more) = 0 := by
    rw [fgE, if_neg (fun h => h g1), g2, g3, if_neg (by omega), if_neg (by rw [List.length_append, hlen]; omega), htake, bareNum_guarded]
  refine ⟨hE, ?_, ?_, ?_⟩
  · rw [fgK, if_pos hE, g3, hsplit, List.getD_eq_getElem?_getD, List.getElem?_append_right (by rw [put_length]; omega), put_length]
    simp
    omega
  · rw [fgX, if_pos hE, g2, g3, hsplit, ← put_length, List.append_assoc, List.cons_append]
    have e2 : put d.length ++ UInt8.ofNat K.toNat :: (d ++ (four (crc ones (bodyF K d)) ++ more)) = (put d.length ++ UInt8.ofNat K.toNat :: d) ++ (four (crc ones (bodyF K d)) ++ more) := by simp
    rw [e2]
    have hl2 : (put d.length ++ UInt8.ofNat K.toNat :: d).length = (put d.length).length + 1 + d.length := by simp; omega
    rw [← hl2, List.take_left]
    have e3 : put d.length ++ UInt8.ofNat K.toNat :: d = (put d.length ++ [UInt8.ofNat K.toNat]) ++ d := by simp
    rw [e3]
    have hl3 : (put d.length ++ [UInt8.ofNat K.toNat]).length = (put d.length).length + 1 := by simp
    rw [← hl3, List.drop_left]
  · rw [fgS, if_pos hE, g2, g3, hlen]
end Go.Proofs.Ytefcepjffeiaoaa
end

section
/- Frame: octets scanned, plainly. -/
namespace Go.Proofs.Ytefcepjffeiaoaa
set_option linter.unusedVariables false

end Go.Proofs.Ytefcepjffeiaoaa
end

section
/- Frame: records one behind the other, scanned; and cut off, plainly. -/
namespace Go.Proofs.Ytefcepjffeiaoaa
set_option linter.unusedVariables false

end Go.Proofs.Ytefcepjffeiaoaa
end

section
/- Wal: batches as octets, plainly. -/
namespace Go.Proofs.Ytefcepjffeiaoaa
set_option linter.unusedVariables false

def bl (s : ByteArray) : List UInt8 := s.data.toList
theorem bl_length (s : ByteArray) : (bl s).length = s.size := by rw [bl, Array.length_toList]; rfl
theorem bl_inj {s t : ByteArray} (h : bl s = bl t) : s = t := by
  apply ByteArray.ext
  apply Array.ext'
  exact h
theorem bl_mk (l : List UInt8) : bl ⟨l.toArray⟩ = l := by simp [bl]
end Go.Proofs.Ytefcepjffeiaoaa
end

section
/- Wal: octets as a batch, plainly: what is read, what is left; or an error. -/
namespace Go.Proofs.Ytefcepjffeiaoaa
set_option linter.unusedVariables false

abbrev Rdr (α : Type) := Except Int (α × List UInt8)
def rdNum (most : Nat) (code : Int) (b : List UInt8) : Rdr Nat := if getErr b ≠ 0 then .error (getErr b : Int) else if most < gN b then .error code else .ok (gN b, b.drop (gK b))
def rdTake (n : Nat) (b : List UInt8) : Rdr (List UInt8) := if b.length < n then .error 8 else .ok (b.take n, b.drop n)
theorem rdNum_err (most : Nat) (code : Int) (b : List UInt8) (e : Int) (h : rdNum most code b = .error e) : (e = getErr b ∧ getErr b ≠ 0) ∨ (getErr b = 0 ∧ most < gN b ∧ e = code) := by
  unfold rdNum at h
  split at h
  · next h1 => injection h with h; exact .inl ⟨h.symm, h1⟩
  · next h1 =>
    split at h
    · next h2 => injection h with h; exact .inr ⟨by simpa using h1, h2, h.symm⟩
    · cases h
theorem rdNum_ok (most : Nat) (code : Int) (b : List UInt8) (n : Nat) (r : List UInt8) (h : rdNum most code b = .ok (n, r)) : getErr b = 0 ∧ gN b ≤ most ∧ n = gN b ∧ r = b.drop (gK b) := by
  unfold rdNum at h
  split at h
  · cases h
  · next h1 =>
    split at h
    · cases h
    · next h2 =>
      injection h with h
      injection h with h3 h4
      exact ⟨by simpa using h1, by omega, h3.symm, h4.symm⟩
theorem gK_le (b : List UInt8) (h : getErr b = 0) : gK b ≤ b.length ∧ 1 ≤ gK b ∧ put (gN b) ++ b.drop (gK b) = b := by
  obtain ⟨p1, p2, p3⟩ := put_get b h
  have e1 : gK b = ones8 (oct0 b) + 1 := by rw [gK, if_pos h]
  have e2 : gN b = getNum b := by rw [gN, if_pos h]
  rw [e1, e2, p1, List.take_append_drop]
  exact ⟨p2, by omega, rfl⟩
/-- what was written is read -/
theorem rdNum_put (most n : Nat) (code : Int) (h : n ≤ most) (hn : n < 18446744073709551616) (r : List UInt8) : rdNum most code (put n ++ r) = .ok (n, r) := by
  obtain ⟨g1, g2, g3⟩ := get_put2 n hn r
  rw [rdNum, if_neg (by rw [g1]; simp), g2, if_neg (by omega), g3, ← put_length, List.drop_left]
end Go.Proofs.Ytefcepjffeiaoaa
end

section
/- A text's octets appended; worlds that grew, one behind the other. -/
namespace Go.Proofs.Ytefcepjffeiaoaa
open Go.RowKit Go.Proofs.YtefcepjffeiaoaaW.PrintWords
set_option linter.unusedVariables false

theorem nums_eu8 (xs : List UInt8) : nums .u8 (xs.map fun b => (b.toNat : Int)) = encs eu8 xs := by
  simp only [nums, encs, List.map_map]
  rfl
theorem bytesOf_bl (s : ByteArray) : bytesOf s = (bl s).map fun b => (b.toNat : Int) := rfl
section
variable {ops : Array Oper} {rest : List Oper} {o : Oper} {a : Act} {Q : Exit → Act → World → Prop}
theorem app_str {w0 W : World} (base : Nat) (hgd : o.guard = none) (s x : Operand)
    (ho : o.op = .call { callee := .builtin .append, args := #[s, x], argTypes := #[23, 9] })
    (v : Value) (xs : List UInt8) (y : ByteArray) (hs : a.eval s = v) (hx : a.eval x = .string y)
    (HO : OwB W base v xs) (HB : Below base w0 W) (hbase : base ≤ W.heap.size) (hl : xs.length + y.size ≤ 140737488355328)
    (h : ∀ v1 w1, OwB w1 base v1 (xs ++ bl y) → Below base w0 w1 → W.grownBy w1 v.ownBlock → wpList Try.prog ops Q rest (a.put o.dst v1) w1) :
    wpList Try.prog ops Q (o :: rest) a W := by
  refine print_append_str (w0 := w0) base hgd s x 23 9 5 ho Try.underlying23 Try.underlying9 info_u8 v (xs.map fun b => (b.toNat : Int)) y hs hx ?_ HB hbase (by rw [List.length_map]; exact hl) ?_
  · rw [nums_eu8, List.length_map]
    exact HO
  · intro v1 w1 h1 h2 h3
    refine h v1 w1 ?_ h2 h3
    rw [bytesOf_bl, ← List.map_append, nums_eu8, List.length_map] at h1
    exact h1
end
end Go.Proofs.Ytefcepjffeiaoaa
end

section
/- Block: versions as octets, plainly. -/
namespace Go.Proofs.Ytefcepjffeiaoaa
set_option linter.unusedVariables false

def mayE (x : Ent) : Prop := 1 ≤ x.1.size ∧ x.1.size ≤ 96 ∧ 1 ≤ x.2.1 ∧ x.2.1 ≤ 1099511627776 ∧ (x.2.2.1 = 1 ∨ x.2.2.1 = 2) ∧ x.2.2.2.size ≤ 512 ∧ (x.2.2.1 = 1 ∨ x.2.2.2.size = 0)
instance (x : Ent) : Decidable (mayE x) := by unfold mayE; infer_instance
def befE (x y : Ent) : Prop := bl x.1 < bl y.1 ∨ (bl x.1 = bl y.1 ∧ y.2.1 < x.2.1)
instance (x y : Ent) : Decidable (befE x y) := by unfold befE; infer_instance
/-- may versions be, in order? from a place on -/
def ordL : List Ent → Nat → Nat → Int
  | l, 0, i => 0
  | l, f + 1, i => if ¬ mayE (l.getD i zEnt) then 1 else if 0 < i ∧ ¬ befE (l.getD (i - 1) zEnt) (l.getD i zEnt) then 81 else ordL l f (i + 1)
def ordE (l : List Ent) : Int := ordL l l.length 0
def chkE (l : List Ent) : Int := if l.length < 1 ∨ 64 < l.length then 3 else ordE l
/-- how much two texts have in common at their beginning -/
def comm : List UInt8 → List UInt8 → Nat
  | x :: a, y :: b => if x = y then comm a b + 1 else 0
  | _, _ => 0
/-- how much of the key ahead stays -/
def keepE (l : List Ent) (k : Nat) : Nat := if k % 4 = 0 then 0 else comm (bl (l.getD (k - 1) zEnt).1) (bl (l.getD k zEnt).1)
/-- a version's octets -/
def entB (n : Nat) (x : Ent) : List UInt8 := put n ++ put (x.1.size - n) ++ put x.2.1.toNat ++ put x.2.2.2.size ++ [UInt8.ofNat x.2.2.1.toNat] ++ (bl x.1).drop n ++ bl x.2.2.2
def entsB (l : List Ent) : Nat → List UInt8
  | 0 => []
  | k + 1 => entsB l k ++ entB (keepE l k) (l.getD k zEnt)
def tailB (l : List Ent) : Nat → List UInt8
  | 0 => []
  | k + 1 => if k % 4 = 0 then tailB l k ++ [UInt8.ofNat ((entsB l k).length / 256), UInt8.ofNat (entsB l k).length] else tailB l k
def blkB (l : List Ent) : List UInt8 := entsB l l.length ++ tailB l l.length ++ [UInt8.ofNat ((tailB l l.length).length / 2)]
def blkX (l : List Ent) : List UInt8 := if chkE l = 0 then guarded (blkB l) else []
/-- a version out of octets, behind a key -/
def rdEnt (key : List UInt8) (b : List UInt8) : Rdr Ent := match rdNum 65536 21 b with
  | .error e => .error e
  | .ok (n, r1) => match rdNum 65536 21 r1 with
    | .error e => .error e
    | .ok (k, r2) => match rdNum 1099511627776 21 r2 with
      | .error e => .error e
      | .ok (q, r3) => match rdNum 65536 21 r3 with
        | .error e => .error e
        | .ok (v, r4) => match rdTake 1 r4 with
          | .error e => .error e
          | .ok (kd, r5) => match rdTake k r5 with
            | .error e => .error e
            | .ok (rest, r6) => match rdTake v r6 with
              | .error e => .error e
              | .ok (val, r7) => if key.length < n then .error 21 else .ok ((⟨(key.take n ++ rest).toArray⟩, (q : Int), ((kd.getD 0 0).toNat : Int), ⟨val.toArray⟩), r7)
/-- so many at most -/
def rdEs : Nat → List UInt8 → List UInt8 → Option (List Ent)
  | 0, _, _ => some []
  | f + 1, key, b => if b = [] then some [] else match rdEnt key b with
    | .error _ => none
    | .ok (x, r) => (rdEs f (bl x.1) r).map (x :: ·)
def toldE (b : List UInt8) : List Ent := if b.length < 1 then [] else if b.length - 1 < 2 * (b.getD (b.length - 1) 0).toNat then [] else (rdEs 65 [] (b.take (b.length - 1 - 2 * (b.getD (b.length - 1) 0).toNat))).getD []
/-- octets as versions: the error, the versions -/
def unE (b : List UInt8) : Int := if bareNum b ≠ 0 then bareNum b else if chkE (toldE (bare b)) = 0 ∧ blkX (toldE (bare b)) = b then 0 else 21
def unL (b : List UInt8) : List Ent := if unE b = 0 then toldE (bare b) else []
theorem comm_le (a b : List UInt8) : comm a b ≤ a.length ∧ comm a b ≤ b.length ∧ a.take (comm a b) = b.take (comm a b) := by
  induction a generalizing b with
  | nil => simp [comm]
  | cons x a ih =>
    cases b with
    | nil => simp [comm]
    | cons y b =>
      rw [comm]
      split
      · next h =>
        obtain ⟨h1, h2, h3⟩ := ih b
        subst h
        exact ⟨by simp; exact h1, by simp; exact h2, by simp [h3]⟩
      · simp
theorem keepE_le (l : List Ent) (k : Nat) : keepE l k ≤ (l.getD k zEnt).1.size ∧ keepE l k ≤ (l.getD (k - 1) zEnt).1.size ∧ (bl (l.getD (k - 1) zEnt).1).take (keepE l k) = (bl (l.getD k zEnt).1).take (keepE l k) := by
  unfold keepE
  split
  · simp
  · obtain ⟨h1, h2, h3⟩ := comm_le (bl (l.getD (k - 1) zEnt).1) (bl (l.getD k zEnt).1)
    rw [bl_length] at h1 h2
    exact ⟨h2, h1, h3⟩
theorem ordL_may (l : List Ent) (f : Nat) : ∀ i, ordL l f i = 0 → ∀ j, i ≤ j → j < i + f → mayE (l.getD j zEnt) ∧ (0 < j → befE (l.getD (j - 1) zEnt) (l.getD j zEnt)) := by
  induction f with
  | zero => intro i _ j h1 h2; omega
  | succ f ih =>
    intro i h j h1 h2
    rw [ordL] at h
    split at h
    · cases h
    · next h3 =>
      split at h
      · cases h
      · next h4 =>
        rcases Nat.lt_or_ge i j with h5 | h5
        · exact ih (i + 1) h j h5 (by omega)
        · obtain rfl : i = j := by omega
          exact ⟨Decidable.not_not.1 h3, fun h0 => Decidable.not_not.1 (fun h6 => h4 ⟨h0, h6⟩)⟩
theorem ordE_may (l : List Ent) (h : ordE l = 0) (j : Nat) (hj : j < l.length) : mayE (l.getD j zEnt) ∧ (0 < j → befE (l.getD (j - 1) zEnt) (l.getD j zEnt)) := ordL_may l l.length 0 h j (Nat.zero_le _) (by omega)
theorem ordL_of (l : List Ent) (f : Nat) : ∀ i, (∀ j, i ≤ j → j < i + f → mayE (l.getD j zEnt) ∧ (0 < j → befE (l.getD (j - 1) zEnt) (l.getD j zEnt))) → ordL l f i = 0 := by
  induction f with
  | zero => intro i _; rfl
  | succ f ih =>
    intro i h
    obtain ⟨h1, h2⟩ := h i (Nat.le_refl _) (by omega)
    rw [ordL, if_neg (fun h => h h1), if_neg (fun h => h.2 (h2 h.1))]
    exact ih (i + 1) fun j h3 h4 => h j (by omega) (by omega)
theorem chkE_ok (l : List Ent) (h : chkE l = 0) : 1 ≤ l.length ∧ l.length ≤ 64 ∧ ordE l = 0 := by
  unfold chkE at h
  split at h
  · cases h
  · exact ⟨by omega, by omega, h⟩
/-- the rest of the versions' octets -/
def entsS (l : List Ent) : Nat → Nat → List UInt8
  | 0, _ => []
  | n + 1, k => entB (keepE l k) (l.getD k zEnt) ++ entsS l n (k + 1)
theorem entsB_add (l : List Ent) (n : Nat) : ∀ k, entsB l (k + n) = entsB l k ++ entsS l n k := by
  induction n with
  | zero => intro k; simp [entsS]
  | succ n ih =>
    intro k
    have := ih (k + 1)
    rw [show k + (n + 1) = k + 1 + n by omega, this, entsB, entsS, List.append_assoc]
theorem rdTake_app (n : Nat) (a r : List UInt8) (h : a.length = n) : rdTake n (a ++ r) = .ok (a, r) := by
  subst h
  rw [rdTake, if_neg (by rw [List.length_append]; omega), List.take_left, List.drop_left]
theorem rdEnt_enc (key : List UInt8) (n : Nat) (x : Ent) (r : List UInt8) (h : mayE x) (h1 : n ≤ x.1.size) (h2 : n ≤ key.length) (h3 : key.take n = (bl x.1).take n) : rdEnt key (entB n x ++ r) = .ok (x, r) := by
  obtain ⟨m1, m2, m3, m4, m5, m6, m7⟩ := h
  have e1 := rdNum_put 65536 n 21 (by omega) (by omega)
  have e2 := rdNum_put 65536 (x.1.size - n) 21 (by omega) (by omega)
  have e3 := rdNum_put 1099511627776 x.2.1.toNat 21 (by omega) (by omega)
  have e4 := rdNum_put 65536 x.2.2.2.size 21 (by omega) (by omega)
  have hk : ((UInt8.ofNat x.2.2.1.toNat).toNat : Int) = x.2.2.1 := by rcases m5 with h | h <;> rw [h] <;> rfl
  have hq : ((x.2.1.toNat : Nat) : Int) = x.2.1 := by omega
  have t1 := fun r => rdTake_app 1 [UInt8.ofNat x.2.2.1.toNat] r rfl
  have t2 := fun r => rdTake_app (x.1.size - n) ((bl x.1).drop n) r (by rw [List.length_drop, bl_length])
  have t3 := fun r => rdTake_app x.2.2.2.size (bl x.2.2.2) r (bl_length _)
  unfold rdEnt entB
  simp only [List.append_assoc]
  rw [e1]
  simp only
  rw [e2]
  simp only
  rw [e3]
  simp only
  rw [e4]
  simp only
  rw [t1]
  simp only
  rw [t2]
  simp only
  rw [t3]
  simp only
  rw [if_neg (by omega), h3, List.take_append_drop]
  simp only [List.getD_cons_zero, hk, hq]
  obtain ⟨k, q, kd, v⟩ := x
  rfl
theorem entB_ne (n : Nat) (x : Ent) : entB n x ≠ [] := by
  intro h
  have := congrArg List.length h
  simp [entB] at this
theorem rdEs_enc (l : List Ent) (h : ordE l = 0) (n : Nat) : ∀ (f k : Nat) (key : List UInt8), k + n = l.length → n < f → (k % 4 ≠ 0 → key = bl (l.getD (k - 1) zEnt).1) → rdEs f key (entsS l n k) = some (l.drop k) := by
  induction n with
  | zero =>
    intro f k key hk hf _
    cases f with
    | zero => omega
    | succ f => simp [rdEs, entsS]; omega
  | succ n ih =>
    intro f k key hk hf hkey
    cases f with
    | zero => omega
    | succ f =>
      obtain ⟨h1, h2⟩ := ordE_may l h k (by omega)
      obtain ⟨k1, k2, k3⟩ := keepE_le l k
      have hr : rdEnt key (entB (keepE l k) (l.getD k zEnt) ++ entsS l n (k + 1)) = .ok (l.getD k zEnt, entsS l n (k + 1)) := by
        by_cases h4 : k % 4 = 0
        · have hz : keepE l k = 0 := by rw [keepE, if_pos h4]
          exact rdEnt_enc _ _ _ _ h1 k1 (by rw [hz]; exact Nat.zero_le _) (by rw [hz]; rfl)
        · rw [hkey h4]
          exact rdEnt_enc _ _ _ _ h1 k1 (by rw [bl_length]; exact k2) k3
      rw [entsS, rdEs, if_neg (by intro h; exact entB_ne _ _ (List.append_eq_nil_iff.1 h).1), hr]
      simp only
      rw [ih f (k + 1) _ (by omega) (by omega) (fun _ => by rw [Nat.add_sub_cancel])]
      have hlt : k < l.length := by omega
      rw [List.drop_eq_getElem_cons hlt, Option.map_some, List.getD_eq_getElem?_getD, List.getElem?_eq_getElem hlt]
      rfl
theorem tailB_length (l : List Ent) (k : Nat) : (tailB l k).length = 2 * ((k + 3) / 4) := by
  induction k with
  | zero => rfl
  | succ k ih =>
    rw [tailB]
    split
    · rw [List.length_append, ih]; simp; omega
    · rw [ih]; omega
theorem toldE_blk (l : List Ent) (h : chkE l = 0) : toldE (blkB l) = l := by
  obtain ⟨h1, h2, h3⟩ := chkE_ok l h
  have ht := tailB_length l l.length
  have hlen : (blkB l).length = (entsB l l.length).length + (tailB l l.length).length + 1 := by simp [blkB]; omega
  have hlast : (blkB l).getD ((blkB l).length - 1) 0 = UInt8.ofNat ((tailB l l.length).length / 2) := by
    rw [hlen, Nat.add_sub_cancel, blkB, List.getD_eq_getElem?_getD, List.getElem?_append_right (by rw [List.length_append]; exact Nat.le_refl _), List.length_append, Nat.sub_self]
    rfl
  have hnum : (UInt8.ofNat ((tailB l l.length).length / 2)).toNat = (tailB l l.length).length / 2 := by
    rw [UInt8.toNat_ofNat']; omega
  rw [toldE, if_neg (by omega), hlast, hnum, if_neg (by omega)]
  have he : (blkB l).length - 1 - 2 * ((tailB l l.length).length / 2) = (entsB l l.length).length := by omega
  rw [he, blkB, List.append_assoc, List.take_left]
  have hB := entsB_add l l.length 0
  rw [Nat.zero_add] at hB
  rw [hB, entsB, List.nil_append, rdEs_enc l h3 l.length 65 0 [] (by omega) (by omega) (fun h => absurd rfl h)]
  simp
theorem un_blk (l : List Ent) (h : chkE l = 0) : unE (blkX l) = 0 ∧ unL (blkX l) = l := by
  have e : blkX l = guarded (blkB l) := by rw [blkX, if_pos h]
  have h1 : bareNum (blkX l) = 0 := by rw [e]; exact bareNum_guarded _
  have h2 : bare (blkX l) = blkB l := by rw [e]; exact bare_guarded _
  have h3 : unE (blkX l) = 0 := by
    rw [unE, if_neg (by rw [h1]; simp), h2, toldE_blk l h, if_pos ⟨h, rfl⟩]
  exact ⟨h3, by rw [unL, if_pos h3, h2, toldE_blk l h]⟩
theorem un_ok (b : List UInt8) (h : unE b = 0) : chkE (unL b) = 0 ∧ blkX (unL b) = b := by
  have h' := h
  rw [unE] at h'
  split at h'
  · next h1 => exact absurd h' h1
  · split at h'
    · next h2 => rw [unL, if_pos h]; exact h2
    · cases h'
end Go.Proofs.Ytefcepjffeiaoaa
end

section
/- Block: the first version of a key with at most a number. -/
namespace Go.Proofs.Ytefcepjffeiaoaa
set_option linter.unusedVariables false

theorem lt_tr {a b c : List UInt8} (h : a < b) (h2 : b < c) : a < c := List.lt_trans h h2
theorem lt_ir (a : List UInt8) : ¬ a < a := List.lt_irrefl a
theorem lt_as {a b : List UInt8} (h : a < b) : ¬ b < a := fun h2 => lt_ir a (lt_tr h h2)
theorem lt_tri (a b : List UInt8) : a < b ∨ a = b ∨ b < a := by
  rcases Decidable.em (a < b) with h | h
  · exact .inl h
  · rcases Decidable.em (b < a) with h2 | h2
    · exact .inr (.inr h2)
    · exact .inr (.inl (List.le_antisymm (List.not_lt.1 h2) (List.not_lt.1 h)))
theorem bef_tr {x y z : Ent} (h : befE x y) (h2 : befE y z) : befE x z := by
  unfold befE at *
  rcases h with h | ⟨h, h'⟩ <;> rcases h2 with h2 | ⟨h2, h2'⟩
  · exact .inl (lt_tr h h2)
  · exact .inl (h2 ▸ h)
  · exact .inl (h.symm ▸ h2)
  · exact .inr ⟨h.trans h2, by omega⟩
theorem ord_bef (l : List Ent) (h : ordE l = 0) (j : Nat) (hj : j < l.length) : ∀ i, i < j → befE (l.getD i zEnt) (l.getD j zEnt) := by
  induction j with
  | zero => intro i hi; omega
  | succ j ih =>
    intro i hi
    have h1 := (ordE_may l h (j + 1) hj).2 (by omega)
    rw [Nat.add_sub_cancel] at h1
    rcases Nat.lt_or_ge i j with h2 | h2
    · exact bef_tr (ih (by omega) i h2) h1
    · obtain rfl : i = j := by omega
      exact h1
/-- the first version of a key with at most a number -/
def isV (key : ByteArray) (seq : Int) (x : Ent) : Bool := decide (x.1 = key) && decide (x.2.1 ≤ seq)
def firstE (l : List Ent) (key : ByteArray) (seq : Int) : Option Ent := l.find? (isV key seq)
theorem first_at (l : List Ent) (key : ByteArray) (seq : Int) (i : Nat) (hi : i < l.length) (h : isV key seq (l.getD i zEnt) = true) (hb : ∀ k, k < i → isV key seq (l.getD k zEnt) = false) : firstE l key seq = some (l.getD i zEnt) := by
  induction l generalizing i with
  | nil => simp at hi
  | cons x l ih =>
    cases i with
    | zero => rw [List.getD_cons_zero] at h ⊢; rw [firstE, List.find?_cons_of_pos h]
    | succ i =>
      have h0 := hb 0 (by omega)
      rw [List.getD_cons_zero] at h0
      rw [firstE, List.find?_cons_of_neg (by rw [h0]; simp), List.getD_cons_succ]
      exact ih i (by simpa using hi) h (fun k hk => by have := hb (k + 1) (by omega); rwa [List.getD_cons_succ] at this)
theorem first_none (l : List Ent) (key : ByteArray) (seq : Int) (hb : ∀ k, k < l.length → isV key seq (l.getD k zEnt) = false) : firstE l key seq = none := by
  rw [firstE, List.find?_eq_none]
  intro x hx
  obtain ⟨k, hk, rfl⟩ := List.getElem_of_mem hx
  have := hb k hk
  rw [List.getD_eq_getElem?_getD, List.getElem?_eq_getElem hk] at this
  rw [show l[k] = (some l[k]).getD zEnt from rfl, this]
  simp
/-- where a search halts -/
theorem first_bs (l : List Ent) (h : ordE l = 0) (key : ByteArray) (seq : Int) (t : Ent) (ht : t.1 = key) (ht2 : t.2.1 = seq) (i : Nat) (hi : i ≤ l.length) (h1 : ∀ k, k < i → befE (l.getD k zEnt) t) (h2 : i < l.length → ¬ befE (l.getD i zEnt) t) :
    firstE l key seq = if i < l.length ∧ (l.getD i zEnt).1 = key then some (l.getD i zEnt) else none := by
  subst ht ht2
  have hno : ∀ k, k < i → isV t.1 t.2.1 (l.getD k zEnt) = false := by
    intro k hk
    have := h1 k hk
    unfold befE at this
    unfold isV
    rcases this with h3 | ⟨h3, h4⟩
    · have : ¬ (l.getD k zEnt).1 = t.1 := fun e => by rw [e] at h3; exact lt_ir _ h3
      rw [decide_eq_false this, Bool.false_and]
    · have : ¬ (l.getD k zEnt).2.1 ≤ t.2.1 := by omega
      rw [decide_eq_false this, Bool.and_false]
  split
  · next h3 =>
    refine first_at l _ _ i h3.1 ?_ hno
    have := h2 h3.1
    unfold befE at this
    unfold isV
    rw [decide_eq_true h3.2, decide_eq_true, Bool.true_and]
    apply Decidable.not_not.1
    intro h4
    exact this (.inr ⟨by rw [h3.2], by omega⟩)
  · next h3 =>
    refine first_none l _ _ fun k hk => ?_
    rcases Nat.lt_or_ge k i with h4 | h4
    · exact hno k h4
    · have hil : i < l.length := by omega
      have hki : ¬ (l.getD i zEnt).1 = t.1 := fun e => h3 ⟨hil, e⟩
      have hlt : bl t.1 < bl (l.getD i zEnt).1 := by
        have := h2 hil
        unfold befE at this
        rcases lt_tri (bl (l.getD i zEnt).1) (bl t.1) with h5 | h5 | h5
        · exact absurd (.inl h5) this
        · exact absurd (bl_inj h5) hki
        · exact h5
      have hlt2 : bl t.1 < bl (l.getD k zEnt).1 := by
        rcases Nat.lt_or_ge i k with h5 | h5
        · have := ord_bef l h k hk i h5
          unfold befE at this
          rcases this with h6 | ⟨h6, _⟩
          · exact lt_tr hlt h6
          · rw [← h6]; exact hlt
        · obtain rfl : k = i := by omega
          exact hlt
      unfold isV
      have : ¬ (l.getD k zEnt).1 = t.1 := fun e => by rw [e] at hlt2; exact lt_ir _ hlt2
      rw [decide_eq_false this, Bool.false_and]
/-- what is found is one of them, and none of the others is nearer -/
theorem first_some (l : List Ent) (key : ByteArray) (seq : Int) (x : Ent) (h : firstE l key seq = some x) : x ∈ l ∧ x.1 = key ∧ x.2.1 ≤ seq := by
  have h1 := List.mem_of_find?_eq_some h
  have h2 := List.find?_some h
  unfold isV at h2
  rw [Bool.and_eq_true, decide_eq_true_eq, decide_eq_true_eq] at h2
  exact ⟨h1, h2⟩
end Go.Proofs.Ytefcepjffeiaoaa
end

section
/- Block: rot, and what a common beginning saves, plainly. -/
namespace Go.Proofs.Ytefcepjffeiaoaa
set_option linter.unusedVariables false

theorem entB_length (n : Nat) (x : Ent) (h : mayE x) (h1 : n ≤ x.1.size) : (entB n x).length = vsize n + vsize (x.1.size - n) + vsize x.2.1.toNat + vsize x.2.2.2.size + 1 + (x.1.size - n) + x.2.2.2.size := by
  simp only [entB, List.length_append, put_length, List.length_drop, bl_length, List.length_singleton]
theorem entB_le (n : Nat) (x : Ent) (h : mayE x) (h1 : n ≤ x.1.size) : (entB n x).length ≤ 649 := by
  have v1 := vsize_le n
  have v2 := vsize_le (x.1.size - n)
  have v3 := vsize_le x.2.1.toNat
  have v4 := vsize_le x.2.2.2.size
  obtain ⟨m1, m2, m3, m4, m5, m6, m7⟩ := h
  rw [entB_length n x ⟨m1, m2, m3, m4, m5, m6, m7⟩ h1]
  omega
theorem entsB_length (l : List Ent) (h : ordE l = 0) (k : Nat) (hk : k ≤ l.length) : (entsB l k).length ≤ 649 * k := by
  induction k with
  | zero => simp [entsB]
  | succ k ih =>
    have := ih (by omega)
    have h2 := entB_le (keepE l k) (l.getD k zEnt) (ordE_may l h k (by omega)).1 (keepE_le l k).1
    rw [entsB, List.length_append]
    omega
end Go.Proofs.Ytefcepjffeiaoaa
end

section
/- Blocks that turn alone; octets that are read whatever was made since. -/
namespace Go.Proofs.Ytefcepjffeiaoaa
open Go.RowKit Go.Proofs.YtefcepjffeiaoaaW.PrintWords
set_option linter.unusedVariables false

/-- octets that are read whatever was made since -/
def St (w0 : World) (A : Option Addr) (c : Nat) (b : List UInt8) : Prop := ∀ W, Below w0.heap.size w0 W → RdB W A c b
theorem St.of {w : World} {A : Option Addr} {c : Nat} {b : List UInt8} (h : RdB w A c b) : St w A c b := fun W hb => h.below hb
theorem St.drop {w0 : World} {A : Option Addr} {c : Nat} {b : List UInt8} (h : St w0 A c b) (k : Nat) (hk : k ≤ b.length) : St w0 (cutA A c k) (c - k) (b.drop k) := fun W hb => (h W hb).drop k hk
/-- one block, and what is new, is all that has turned -/
def Gb (g : Nat) (w0 W W' : World) : Prop := W.grownBy W' (some g) ∧ (∀ B, B ≤ g → B ≤ W.heap.size → Below B W W')
theorem Gb.of_below {g : Nat} {w0 W W' : World} (h : Below W.heap.size W W') : Gb g w0 W W' := ⟨grown_of_below h _, fun B _ h2 => h.mono h2⟩
theorem Gb.refl (g : Nat) (w0 W : World) : Gb g w0 W W := Gb.of_below (Below.refl _ _)
theorem Gb.trans {g : Nat} {w0 W W1 W2 : World} (h : Gb g w0 W W1) (k : Gb g w0 W1 W2) : Gb g w0 W W2 := ⟨World.grownBy.trans h.1 k.1, fun B h1 h2 => (h.2 B h1 h2).trans (k.2 B h1 (Nat.le_trans h2 h.1.size))⟩
theorem Gb.set_ {g : Nat} {w0 W W1 : World} (h : Gb g w0 W W1) (j : Nat) (v : Value) : Gb g w0 W (W1.setCell ⟨g, j, none⟩ v) :=
  ⟨⟨h.1.os, h.1.tape, h.1.output, by simpa [World.setCell] using h.1.size, fun i hi hne => (Below.heap_setCell W1 ⟨g, j, none⟩ v i (fun e => hne (by rw [e]))).trans (h.1.block i hi hne)⟩, fun B h1 h2 => (h.2 B h1 h2).setCell (p := ⟨g, j, none⟩) h1 v⟩
end Go.Proofs.Ytefcepjffeiaoaa
end

section
/- Block: the walks of the reference's reader: Num, Take. -/
namespace Go.Proofs.Ytefcepjffeiaoaa
open Go.RowKit Go.Proofs.YtefcepjffeiaoaaW.PrintWords
set_option linter.unusedVariables false

/-- a reader's block: what it goes over, how far it is, its error -/
def Rs (g : Nat) (A : Option Addr) (c n p : Nat) (e : Int) (W : World) : Prop := W.heap[g]? = some (.cells #[.slice A n c, .int .i64 (p : Int), .int .i64 e] 147 (0, 0))
theorem Rs.read {g : Nat} {A : Option Addr} {c n p : Nat} {e : Int} {W : World} (h : Rs g A c n p e W) : W.cell? ⟨g, 0, none⟩ = some (.slice A n c) ∧ W.cell? ⟨g, 1, none⟩ = some (.int .i64 (p : Int)) ∧ W.cell? ⟨g, 2, none⟩ = some (.int .i64 e) ∧ W.frozen? ⟨g, 0, none⟩ = false ∧ W.frozen? ⟨g, 1, none⟩ = false ∧ W.frozen? ⟨g, 2, none⟩ = false := ⟨blk_cell h 0, blk_cell h 1, blk_cell h 2, blk_frozen h 0, blk_frozen h 1, blk_frozen h 2⟩
theorem Rs.below {g : Nat} {A : Option Addr} {c n p : Nat} {e : Int} {W W' : World} (h : Rs g A c n p e W) (hb : Below W.heap.size W W') : Rs g A c n p e W' := blk_below h hb
theorem Rs.far {g : Nat} {A : Option Addr} {c n p : Nat} {e : Int} {W : World} (h : Rs g A c n p e W) {b j : Nat} (hne : g ≠ b) (v : Value) : Rs g A c n p e (W.setCell ⟨b, j, none⟩ v) := blk_far h (p := ⟨b, j, none⟩) hne v
theorem Rs.lt {g : Nat} {A : Option Addr} {c n p : Nat} {e : Int} {W : World} (h : Rs g A c n p e W) : g < W.heap.size := blk_lt h

end Go.Proofs.Ytefcepjffeiaoaa
end

section
/- Block: the walks of the cursor: number, take. -/
namespace Go.Proofs.Ytefcepjffeiaoaa
open Go.RowKit Go.Proofs.YtefcepjffeiaoaaW.PrintWords
set_option linter.unusedVariables false

/-- a cursor: what is left, the key ahead, is all well so far -/
def Cu (w0 : World) (g : Nat) (b : List UInt8) (key : ByteArray) (ok : Bool) (W : World) : Prop := ∃ A c, W.heap[g]? = some (.cells #[.slice A b.length c, .string key, .bool ok] 143 (0, 0)) ∧ St w0 A c b
theorem Cu.below {w0 : World} {g : Nat} {b : List UInt8} {key : ByteArray} {ok : Bool} {W W' : World} (h : Cu w0 g b key ok W) (hb : Below W.heap.size W W') : Cu w0 g b key ok W' := by
  obtain ⟨A, c, h1, h2⟩ := h
  exact ⟨A, c, blk_below h1 hb, h2⟩
theorem Cu.lt {w0 : World} {g : Nat} {b : List UInt8} {key : ByteArray} {ok : Bool} {W : World} (h : Cu w0 g b key ok W) : g < W.heap.size := by
  obtain ⟨A, c, h1, h2⟩ := h
  exact blk_lt h1
theorem Cu.far {w0 : World} {g : Nat} {b : List UInt8} {key : ByteArray} {ok : Bool} {W : World} (h : Cu w0 g b key ok W) {q j : Nat} (hne : g ≠ q) (v : Value) : Cu w0 g b key ok (W.setCell ⟨q, j, none⟩ v) := by
  obtain ⟨A, c, h1, h2⟩ := h
  exact ⟨A, c, blk_far h1 (p := ⟨q, j, none⟩) hne v, h2⟩
/-- a number, plainly -/
def cNum (most : Nat) (b : List UInt8) (ok : Bool) : Nat × List UInt8 × Bool := if ok = true then (match rdNum most 21 b with
  | .ok (n, r) => (n, r, true)
  | .error _ => (0, b, false)) else (0, b, false)
def cTake (n : Nat) (b : List UInt8) (ok : Bool) : List UInt8 × List UInt8 × Bool := if ok = true ∧ n ≤ b.length then (b.take n, b.drop n, true) else ([], b, false)
theorem cNum_le (most : Nat) (b : List UInt8) (ok : Bool) : (cNum most b ok).1 ≤ most := by
  unfold cNum
  split
  · split
    · next n r h => exact (rdNum_ok _ _ _ _ _ h).2.2.1 ▸ (rdNum_ok _ _ _ _ _ h).2.1
    · exact Nat.zero_le _
  · exact Nat.zero_le _
set_option maxRecDepth 100000 in
set_option maxHeartbeats 800000 in
theorem number_any (w0 : World) (g most : Nat) (mi : Int) (hmi0 : mi = (most : Int)) (b : List UInt8) (key : ByteArray) (ok : Bool) (w : World) (hs : Cu w0 g b key ok w) (hB : Below w0.heap.size w0 w) (hm : most ≤ 1099511627776) :
    Calls Try.prog 114 #[.pointer (some ⟨g, 0, none⟩), .int .u64 mi] w fun e w' => e = .returned (.int .i64 ((cNum most b ok).1 : Int)) ∧ Cu w0 g (cNum most b ok).2.1 key (cNum most b ok).2.2 w' ∧ Gb g w0 w w' := by
  subst hmi0
  have hs0 := hs
  obtain ⟨A, c, h1, h2⟩ := hs
  have hx := h2 w hB
  have hG := Get_any A c b w hx
  have hlt := blk_lt h1
  have hmi : (most : Int) ≤ 1099511627776 := by omega
  cases ok with
  | false =>
    have e0 : cNum most b false = (0, b, false) := rfl
    rw [e0]
    obtain ⟨m, hm2⟩ : ∃ m, b.length = m := ⟨_, rfl⟩
    have HM := hide hm2
    rw [hm2] at hG h1
    have f0 := blk_cell h1 0
    have f1 := blk_cell h1 1
    have f2 := blk_cell h1 2
    have f3 := blk_frozen h1 2
    generalize (getErr b : Int) = e0 at *
    generalize gK b = k at *
    generalize gN b = n at *
    clear hm2
    go_enter Try.func114, Try.ntmps114
    go_wp2_with (first | (go_at_call 102; (with_reducible refine hG.mono ?_); rintro e w1 ⟨rfl, HB1⟩; have h11 := blk_below h1 HB1; have f10 := blk_cell h11 0; have f11 := blk_cell h11 1; have f12 := blk_cell h11 2; have f13 := blk_frozen h11 2))
    go_ret
    refine ⟨rfl, ⟨A, c, ?_, h2⟩, (Gb.of_below HB1).set_ 2 _⟩
    rw [HM.out]
    exact blk_set h11 2 _
  | true =>
    cases hr : rdNum most 21 b with
    | ok p =>
      obtain ⟨n, r⟩ := p
      have e0 : cNum most b true = (n, r, true) := by rw [cNum, if_pos rfl, hr]
      rw [e0]
      obtain ⟨g1, g2, g3, g4⟩ := rdNum_ok _ _ _ _ _ hr
      obtain ⟨k1, k2, k3⟩ := gK_le b g1
      rw [← g3] at hG g2
      have hle := hx.le
      have hSt := h2.drop (gK b) k1
      rw [← g4] at hSt
      have hrl : r.length = b.length - gK b := by rw [g4, List.length_drop]
      rw [g1] at hG
      have hsl := fun W => slice_lo 23 5 Try.underlying23 (i := _) rfl rfl A b.length c (gK b) k1 W
      generalize gK b = k at *
      obtain ⟨m, hm2⟩ : ∃ m, b.length = m := ⟨_, rfl⟩
      rw [hm2] at hG hsl h1 k1 hle hrl
      have HRL := hide hrl
      have f0 := blk_cell h1 0
      have f1 := blk_cell h1 1
      have f2 := blk_cell h1 2
      have hn : (n : Int) ≤ 1099511627776 := by omega
      have hnm : (n : Int) ≤ (most : Int) := by omega
      have hnm2 : n ≤ most := g2
      clear hr g1 g3 g4 hm2 hrl e0 hs0
      go_enter Try.func114, Try.ntmps114
      go_wp2_with (first | (go_at_call 102; (with_reducible refine hG.mono ?_); rintro e w1 ⟨rfl, HB1⟩; have h11 := blk_below h1 HB1; have f10 := blk_cell h11 0; have f11 := blk_cell h11 1; have f12 := blk_cell h11 2; have f13 := blk_frozen h11 2; have f14 := blk_frozen h11 0))
      go_ret
      refine ⟨rfl, ⟨cutA A c k, c - k, ?_, hSt⟩, ((Gb.of_below HB1).set_ 2 _).set_ 0 _⟩
      rw [HRL.out]
      exact blk_set (blk_set h11 2 _) 0 _
    | error z =>
      have e0 : cNum most b true = (0, b, false) := by rw [cNum, if_pos rfl, hr]
      rw [e0]
      obtain ⟨m, hm2⟩ : ∃ m, b.length = m := ⟨_, rfl⟩
      have HM := hide hm2
      rw [hm2] at hG h1
      have f0 := blk_cell h1 0
      have f1 := blk_cell h1 1
      have f2 := blk_cell h1 2
      have f3 := blk_frozen h1 2
      rcases rdNum_err _ _ _ _ hr with ⟨rfl, h3⟩ | ⟨h3, h4, rfl⟩
      · have h3i : ¬ (getErr b : Int) = 0 := by omega
        generalize getErr b = e0 at *
        generalize gK b = k at *
        generalize gN b = n at *
        clear hr hm2 hs0
        go_enter Try.func114, Try.ntmps114
        go_wp2_with (first | (go_at_call 102; (with_reducible refine hG.mono ?_); rintro e w1 ⟨rfl, HB1⟩; have h11 := blk_below h1 HB1; have f10 := blk_cell h11 0; have f11 := blk_cell h11 1; have f12 := blk_cell h11 2; have f13 := blk_frozen h11 2))
        go_ret
        refine ⟨rfl, ⟨A, c, ?_, h2⟩, (Gb.of_below HB1).set_ 2 _⟩
        rw [HM.out]
        exact blk_set h11 2 _
      · rw [h3] at hG
        have h4i : ¬ (gN b : Int) ≤ (most : Int) := by omega
        have h4n : ¬ gN b ≤ most := by omega
        generalize gK b = k at *
        generalize gN b = n at *
        clear hr hm2 h3 h4 hs0
        go_enter Try.func114, Try.ntmps114
        go_wp2_with (first | (go_at_call 102; (with_reducible refine hG.mono ?_); rintro e w1 ⟨rfl, HB1⟩; have h11 := blk_below h1 HB1; have f10 := blk_cell h11 0; have f11 := blk_cell h11 1; have f12 := blk_cell h11 2; have f13 := blk_frozen h11 2))
        go_ret
        refine ⟨rfl, ⟨A, c, ?_, h2⟩, (Gb.of_below HB1).set_ 2 _⟩
        rw [HM.out]
        exact blk_set h11 2 _
set_option maxRecDepth 100000 in
set_option maxHeartbeats 800000 in
theorem take_any (w0 : World) (g n : Nat) (ni : Int) (hni0 : ni = (n : Int)) (b : List UInt8) (key : ByteArray) (ok : Bool) (w : World) (hs : Cu w0 g b key ok w) (hB : Below w0.heap.size w0 w) (hg : w0.heap.size ≤ g) (hn : n ≤ 1099511627776) :
    Calls Try.prog 115 #[.pointer (some ⟨g, 0, none⟩), .int .i64 ni] w fun e w' => e = .returned (.string (strB (cTake n b ok).1)) ∧ Cu w0 g (cTake n b ok).2.1 key (cTake n b ok).2.2 w' ∧ Gb g w0 w w' := by
  subst hni0
  obtain ⟨A, c, h1, h2⟩ := hs
  have hx := h2 w hB
  by_cases ho : ok = true ∧ n ≤ b.length
  · obtain ⟨rfl, hnb⟩ := ho
    have e0 : cTake n b true = (b.take n, b.drop n, true) := by rw [cTake, if_pos ⟨rfl, hnb⟩]
    rw [e0]
    have hle := hx.le
    have hmx := hx.max
    have hSt := h2.drop n hnb
    have hx2 : RdB (w.setCell ⟨g, 2, none⟩ (.bool true)) A c (b.take n) := (h2 _ (hB.setCell (p := ⟨g, 2, none⟩) hg _)).take n hnb
    have hCv := hx2.toStr (P := Try.prog) 23 5 9 Try.underlying23 Try.underlying5 Try.underlying9
    have hsl := fun W => slice_lo 23 5 Try.underlying23 (i := _) rfl rfl A b.length c n hnb W
    have hsh := fun W => slice_hi 23 5 Try.underlying23 (i := _) rfl rfl A b.length c n (by omega) W
    have hrl : (b.drop n).length = b.length - n := List.length_drop
    have htl : (b.take n).length = n := by rw [List.length_take]; omega
    obtain ⟨m, hm2⟩ : ∃ m, b.length = m := ⟨_, rfl⟩
    rw [hm2] at hsl hsh h1 hnb hle hrl hmx
    have HRL := hide hrl
    have f0 := blk_cell h1 0
    have f1 := blk_cell h1 1
    have f2 := blk_cell h1 2
    have f3 := blk_frozen h1 2
    have f4 := blk_frozen h1 0
    have hni : (n : Int) ≤ (m : Int) := by omega
    rw [htl] at hCv
    clear hm2 hrl htl e0
    go_enter Try.func115, Try.ntmps115
    go_wp2
    go_ret
    refine ⟨rfl, ⟨cutA A c n, c - n, ?_, hSt⟩, ((Gb.refl g w0 w).set_ 2 _).set_ 0 _⟩
    rw [HRL.out]
    exact blk_set (blk_set h1 2 _) 0 _
  · have e0 : cTake n b ok = ([], b, false) := by rw [cTake, if_neg ho]
    rw [e0]
    have e1 : strB [] = ByteArray.empty := rfl
    rw [e1]
    obtain ⟨m, hm2⟩ : ∃ m, b.length = m := ⟨_, rfl⟩
    have HM := hide hm2
    rw [hm2] at h1 ho
    have f0 := blk_cell h1 0
    have f1 := blk_cell h1 1
    have f2 := blk_cell h1 2
    have f3 := blk_frozen h1 2
    clear hm2 e0 e1
    cases ok with
    | false =>
      clear ho
      go_enter Try.func115, Try.ntmps115
      go_wp2
      go_ret
      refine ⟨rfl, ⟨A, c, ?_, h2⟩, (Gb.refl g w0 w).set_ 2 _⟩
      rw [HM.out]
      exact blk_set h1 2 _
    | true =>
      have hnn : ¬ n ≤ m := fun h => ho ⟨rfl, h⟩
      have hni : ¬ (n : Int) ≤ (m : Int) := by omega
      clear ho
      go_enter Try.func115, Try.ntmps115
      go_wp2
      go_ret
      refine ⟨rfl, ⟨A, c, ?_, h2⟩, (Gb.refl g w0 w).set_ 2 _⟩
      rw [HM.out]
      exact blk_set h1 2 _
end Go.Proofs.Ytefcepjffeiaoaa
end

section
/- Block: the walk of the cursor's entry. -/
namespace Go.Proofs.Ytefcepjffeiaoaa
open Go.RowKit Go.Proofs.YtefcepjffeiaoaaW.PrintWords
set_option linter.unusedVariables false

theorem Gb.new_ {g : Nat} {w0 W W1 : World} (h : Gb g w0 W W1) {b : Nat} (hb : W.heap.size ≤ b) (j : Nat) (v : Value) : Gb g w0 W (W1.setCell ⟨b, j, none⟩ v) :=
  ⟨⟨h.1.os, h.1.tape, h.1.output, by simpa [World.setCell] using h.1.size, fun i hi hne => (Below.heap_setCell W1 ⟨b, j, none⟩ v i (fun e => by have : i = b := e; omega)).trans (h.1.block i hi hne)⟩, fun B h1 h2 => (h.2 B h1 h2).setCell (p := ⟨b, j, none⟩) (Nat.le_trans h2 hb) v⟩
theorem cNum_off (most : Nat) (b : List UInt8) : cNum most b false = (0, b, false) := rfl
theorem cTake_off (n : Nat) (b : List UInt8) : cTake n b false = ([], b, false) := rfl
theorem cNum_on (most : Nat) (b : List UInt8) (n : Nat) (r : List UInt8) (h : cNum most b true = (n, r, true)) : rdNum most 21 b = .ok (n, r) := by
  unfold cNum at h
  rw [if_pos rfl] at h
  cases hr : rdNum most 21 b with
  | ok p => rw [hr] at h; obtain ⟨a, c⟩ := p; simp only [Prod.mk.injEq, and_true] at h; rw [h.1, h.2]
  | error z => rw [hr] at h; simp at h
theorem cNum_err (most : Nat) (b : List UInt8) (n : Nat) (r : List UInt8) (h : cNum most b true = (n, r, false)) : ∃ z, rdNum most 21 b = .error z := by
  unfold cNum at h
  rw [if_pos rfl] at h
  cases hr : rdNum most 21 b with
  | ok p => rw [hr] at h; obtain ⟨a, c⟩ := p; simp at h
  | error z => exact ⟨z, rfl⟩
theorem cTake_on (n : Nat) (b s r : List UInt8) (h : cTake n b true = (s, r, true)) : rdTake n b = .ok (s, r) ∧ s.length = n := by
  unfold cTake at h
  split at h
  · next h1 =>
    simp only [Prod.mk.injEq, and_true] at h
    obtain ⟨rfl, rfl⟩ := h
    exact ⟨by rw [rdTake, if_neg (by omega)], by rw [List.length_take]; omega⟩
  · simp at h
theorem cTake_err (n : Nat) (b s r : List UInt8) (h : cTake n b true = (s, r, false)) : ∃ z, rdTake n b = .error z := by
  unfold cTake at h
  split at h
  · simp at h
  · next h1 =>
    have : b.length < n := by
      rcases Nat.lt_or_ge b.length n with h2 | h2
      · exact h2
      · exact absurd ⟨rfl, h2⟩ h1
    exact ⟨8, by rw [rdTake, if_pos this]⟩
/-- the whole way, plainly -/
theorem ent_chain (key b b1 b2 b3 b4 b5 b6 b7 kd rest val : List UInt8) (n k q v : Nat) (o1 o2 o3 o4 o5 o6 o7 : Bool) (h1 : cNum 65536 b true = (n, b1, o1)) (h2 : cNum 65536 b1 o1 = (k, b2, o2)) (h3 : cNum 1099511627776 b2 o2 = (q, b3, o3)) (h4 : cNum 65536 b3 o3 = (v, b4, o4))
    (h5 : cTake 1 b4 o4 = (kd, b5, o5)) (h6 : cTake k b5 o5 = (rest, b6, o6)) (h7 : cTake v b6 o6 = (val, b7, o7)) :
    (o7 = true ∧ n ≤ key.length → kd.length = 1 ∧ rdEnt key b = .ok ((⟨(key.take n ++ rest).toArray⟩, (q : Int), ((kd.getD 0 0).toNat : Int), ⟨val.toArray⟩), b7)) ∧ (¬ (o7 = true ∧ n ≤ key.length) → ∃ z, rdEnt key b = .error z) := by
  cases o1 with
  | false =>
    obtain ⟨z, e⟩ := cNum_err _ _ _ _ h1
    rw [cNum_off] at h2; simp only [Prod.mk.injEq] at h2; obtain ⟨rfl, rfl, rfl⟩ := h2
    rw [cNum_off] at h3; simp only [Prod.mk.injEq] at h3; obtain ⟨rfl, rfl, rfl⟩ := h3
    rw [cNum_off] at h4; simp only [Prod.mk.injEq] at h4; obtain ⟨rfl, rfl, rfl⟩ := h4
    rw [cTake_off] at h5; simp only [Prod.mk.injEq] at h5; obtain ⟨rfl, rfl, rfl⟩ := h5
    rw [cTake_off] at h6; simp only [Prod.mk.injEq] at h6; obtain ⟨rfl, rfl, rfl⟩ := h6
    rw [cTake_off] at h7; simp only [Prod.mk.injEq] at h7; obtain ⟨rfl, rfl, rfl⟩ := h7
    exact ⟨fun h => absurd h.1 (by simp), fun _ => ⟨z, by rw [rdEnt, e]⟩⟩
  | true =>
  have e1 := cNum_on _ _ _ _ h1
  cases o2 with
  | false =>
    obtain ⟨z, e⟩ := cNum_err _ _ _ _ h2
    rw [cNum_off] at h3; simp only [Prod.mk.injEq] at h3; obtain ⟨rfl, rfl, rfl⟩ := h3
    rw [cNum_off] at h4; simp only [Prod.mk.injEq] at h4; obtain ⟨rfl, rfl, rfl⟩ := h4
    rw [cTake_off] at h5; simp only [Prod.mk.injEq] at h5; obtain ⟨rfl, rfl, rfl⟩ := h5
    rw [cTake_off] at h6; simp only [Prod.mk.injEq] at h6; obtain ⟨rfl, rfl, rfl⟩ := h6
    rw [cTake_off] at h7; simp only [Prod.mk.injEq] at h7; obtain ⟨rfl, rfl, rfl⟩ := h7
    exact ⟨fun h => absurd h.1 (by simp), fun _ => ⟨z, by rw [rdEnt, e1]; simp only; rw [e]⟩⟩
  | true =>
  have e2 := cNum_on _ _ _ _ h2
  cases o3 with
  | false =>
    obtain ⟨z, e⟩ := cNum_err _ _ _ _ h3
    rw [cNum_off] at h4; simp only [Prod.mk.injEq] at h4; obtain ⟨rfl, rfl, rfl⟩ := h4
    rw [cTake_off] at h5; simp only [Prod.mk.injEq] at h5; obtain ⟨rfl, rfl, rfl⟩ := h5
    rw [cTake_off] at h6; simp only [Prod.mk.injEq] at h6; obtain ⟨rfl, rfl, rfl⟩ := h6
    rw [cTake_off] at h7; simp only [Prod.mk.injEq] at h7; obtain ⟨rfl, rfl, rfl⟩ := h7
    exact ⟨fun h => absurd h.1 (by simp), fun _ => ⟨z, by rw [rdEnt, e1]; simp only; rw [e2]; simp only; rw [e]⟩⟩
  | true =>
  have e3 := cNum_on _ _ _ _ h3
  cases o4 with
  | false =>
    obtain ⟨z, e⟩ := cNum_err _ _ _ _ h4
    rw [cTake_off] at h5; simp only [Prod.mk.injEq] at h5; obtain ⟨rfl, rfl, rfl⟩ := h5
    rw [cTake_off] at h6; simp only [Prod.mk.injEq] at h6; obtain ⟨rfl, rfl, rfl⟩ := h6
    rw [cTake_off] at h7; simp only [Prod.mk.injEq] at h7; obtain ⟨rfl, rfl, rfl⟩ := h7
    exact ⟨fun h => absurd h.1 (by simp), fun _ => ⟨z, by rw [rdEnt, e1]; simp only; rw [e2]; simp only; rw [e3]; simp only; rw [e]⟩⟩
  | true =>
  have e4 := cNum_on _ _ _ _ h4
  cases o5 with
  | false =>
    obtain ⟨z, e⟩ := cTake_err _ _ _ _ h5
    rw [cTake_off] at h6; simp only [Prod.mk.injEq] at h6; obtain ⟨rfl, rfl, rfl⟩ := h6
    rw [cTake_off] at h7; simp only [Prod.mk.injEq] at h7; obtain ⟨rfl, rfl, rfl⟩ := h7
    exact ⟨fun h => absurd h.1 (by simp), fun _ => ⟨z, by rw [rdEnt, e1]; simp only; rw [e2]; simp only; rw [e3]; simp only; rw [e4]; simp only; rw [e]⟩⟩
  | true =>
  obtain ⟨e5, l5⟩ := cTake_on _ _ _ _ h5
  cases o6 with
  | false =>
    obtain ⟨z, e⟩ := cTake_err _ _ _ _ h6
    rw [cTake_off] at h7; simp only [Prod.mk.injEq] at h7; obtain ⟨rfl, rfl, rfl⟩ := h7
    exact ⟨fun h => absurd h.1 (by simp), fun _ => ⟨z, by rw [rdEnt, e1]; simp only; rw [e2]; simp only; rw [e3]; simp only; rw [e4]; simp only; rw [e5]; simp only; rw [e]⟩⟩
  | true =>
  obtain ⟨e6, l6⟩ := cTake_on _ _ _ _ h6
  cases o7 with
  | false =>
    obtain ⟨z, e⟩ := cTake_err _ _ _ _ h7
    exact ⟨fun h => absurd h.1 (by simp), fun _ => ⟨z, by rw [rdEnt, e1]; simp only; rw [e2]; simp only; rw [e3]; simp only; rw [e4]; simp only; rw [e5]; simp only; rw [e6]; simp only; rw [e]⟩⟩
  | true =>
  obtain ⟨e7, l7⟩ := cTake_on _ _ _ _ h7
  refine ⟨fun h => ⟨l5, ?_⟩, fun h => ⟨21, ?_⟩⟩
  · rw [rdEnt, e1]; simp only; rw [e2]; simp only; rw [e3]; simp only; rw [e4]; simp only; rw [e5]; simp only; rw [e6]; simp only; rw [e7]; simp only; rw [if_neg (by omega)]
  · rw [rdEnt, e1]; simp only; rw [e2]; simp only; rw [e3]; simp only; rw [e4]; simp only; rw [e5]; simp only; rw [e6]; simp only; rw [e7]; simp only
    rw [if_pos (by rcases Nat.lt_or_ge key.length n with h2 | h2; exact h2; exact absurd ⟨rfl, h2⟩ h)]
end Go.Proofs.Ytefcepjffeiaoaa
end

section
/- Block: the walk of the cursor's entry. -/
namespace Go.Proofs.Ytefcepjffeiaoaa
open Go.RowKit Go.Proofs.YtefcepjffeiaoaaW.PrintWords
set_option linter.unusedVariables false

abbrev eb (s : ByteArray) (q k : Int) (v : ByteArray) : Obj := .cells #[.string s, .int .i64 q, .int .i64 k, .string v] 43 (0, 0)
theorem eb_read {w : World} {g : Nat} {s : ByteArray} {q k : Int} {v : ByteArray} (h : w.heap[g]? = some (eb s q k v)) : w.cell? ⟨g, 0, none⟩ = some (.string s) ∧ w.cell? ⟨g, 1, none⟩ = some (.int .i64 q) ∧ w.cell? ⟨g, 2, none⟩ = some (.int .i64 k) ∧ w.cell? ⟨g, 3, none⟩ = some (.string v) ∧ w.frozen? ⟨g, 0, none⟩ = false ∧ w.frozen? ⟨g, 1, none⟩ = false ∧ w.frozen? ⟨g, 2, none⟩ = false ∧ w.frozen? ⟨g, 3, none⟩ = false :=
  ⟨blk_cell h 0, blk_cell h 1, blk_cell h 2, blk_cell h 3, blk_frozen h 0, blk_frozen h 1, blk_frozen h 2, blk_frozen h 3⟩
theorem strB_size (l : List UInt8) : (strB l).size = l.length := by simp [strB, ByteArray.size]
theorem cTake_le (n : Nat) (b : List UInt8) (ok : Bool) : (cTake n b ok).1.length ≤ n := by
  unfold cTake
  split
  · simp only [List.length_take]; omega
  · exact Nat.zero_le _
theorem ext_key (key : ByteArray) (n : Nat) (rest : List UInt8) : key.extract 0 n ++ strB rest = ⟨((bl key).take n ++ rest).toArray⟩ := by
  apply bl_inj
  rw [bl_mk]
  simp [bl, strB]
theorem one_pos (u : UInt8) : 0 < (⟨#[u]⟩ : ByteArray).size := Nat.zero_lt_one
abbrev kOf (u : UInt8) : Int := wrap64 (((⟨#[u]⟩ : ByteArray)[0]'(one_pos u)).toNat : Int)
theorem kind_key (u : UInt8) : kOf u = (u.toNat : Int) := by
  have : (⟨#[u]⟩ : ByteArray)[0]'(one_pos u) = u := rfl
  unfold kOf
  rw [this]
  have := u.toNat_lt
  unfold wrap64
  omega
set_option maxRecDepth 100000 in
set_option maxHeartbeats 1600000 in
theorem entry_any (w0 : World) (g : Nat) (b : List UInt8) (key : ByteArray) (w : World) (hs : Cu w0 g b key true w) (hB : Below w0.heap.size w0 w) (hg : w0.heap.size ≤ g) (hk : key.size ≤ 140737488355328) :
    Calls Try.prog 110 #[.pointer (some ⟨g, 0, none⟩)] w fun e w' => ∃ x : Ent, e = .returned (.agg #[.string x.1, .int .i64 x.2.1, .int .i64 x.2.2.1, .string x.2.2.2]) ∧ Gb g w0 w w' ∧
      (∀ y r, rdEnt (bl key) b = .ok (y, r) → x = y ∧ Cu w0 g r y.1 true w') ∧ (∀ z, rdEnt (bl key) b = .error z → ∃ b', Cu w0 g b' key false w') := by
  rcases h1 : cNum 65536 b true with ⟨n, b1, o1⟩
  rcases h2 : cNum 65536 b1 o1 with ⟨k, b2, o2⟩
  rcases h3 : cNum 1099511627776 b2 o2 with ⟨q, b3, o3⟩
  rcases h4 : cNum 65536 b3 o3 with ⟨v, b4, o4⟩
  rcases h5 : cTake 1 b4 o4 with ⟨kd, b5, o5⟩
  rcases h6 : cTake k b5 o5 with ⟨rest, b6, o6⟩
  rcases h7 : cTake v b6 o6 with ⟨val, b7, o7⟩
  have hch := ent_chain (bl key) b b1 b2 b3 b4 b5 b6 b7 kd rest val n k q v o1 o2 o3 o4 o5 o6 o7 h1 h2 h3 h4 h5 h6 h7
  have n1 := cNum_le 65536 b true
  have n2 := cNum_le 65536 b1 o1
  have n4 := cNum_le 65536 b3 o3
  have N1 := fun W hs hB => number_any w0 g 65536 65536 rfl b key true W hs hB (by decide)
  have N2 := fun W hs hB => number_any w0 g 65536 65536 rfl b1 key o1 W hs hB (by decide)
  have N3 := fun W hs hB => number_any w0 g 1099511627776 1099511627776 rfl b2 key o2 W hs hB (by decide)
  have N4 := fun W hs hB => number_any w0 g 65536 65536 rfl b3 key o3 W hs hB (by decide)
  have T5 := fun W hs hB => take_any w0 g 1 1 rfl b4 key o4 W hs hB hg (by decide)
  rw [h1] at n1 N1
  rw [h2] at n2 N2
  rw [h3] at N3
  rw [h4] at n4 N4
  rw [h5] at T5
  simp only at n1 n2 n4 N1 N2 N3 N4 T5
  have T6 := fun W hs hB => take_any w0 g k (k : Int) rfl b5 key o5 W hs hB hg (by omega)
  have T7 := fun W hs hB => take_any w0 g v (v : Int) rfl b6 key o6 W hs hB hg (by omega)
  rw [h6] at T6
  rw [h7] at T7
  simp only at T6 T7
  rw [bl_length] at hch
  have HCH := hide hch
  have n6 := cTake_le k b5 o5
  rw [h6] at n6
  simp only at n6
  have hne3 : w.heap.size ≠ g := by have := hs.lt; omega
  have hgl := hs.lt
  have hA := below_alloc w (eb ⟨#[]⟩ 0 0 ⟨#[]⟩)
  have hs0 := hs.below hA
  have hE0 : (w.alloc (eb ⟨#[]⟩ 0 0 ⟨#[]⟩)).heap[w.heap.size]? = some (eb ⟨#[]⟩ 0 0 ⟨#[]⟩) := heap_alloc_new w _
  have B0 := hB.alloc hB.size (eb ⟨#[]⟩ 0 0 ⟨#[]⟩)
  have G0 : Gb g w0 w (w.alloc (eb ⟨#[]⟩ 0 0 ⟨#[]⟩)) := Gb.of_below hA
  have hne : (some w.heap.size : Option Nat) ≠ some g := fun e => by injection e with e; omega
  have hne2 : g ≠ w.heap.size := by omega
  have hBs := hB.size
  clear h1 h2 h3 h4 h5 h6 h7 hch
  by_cases hok : o7 = true ∧ n ≤ key.size
  · obtain ⟨hkd, hrd⟩ := HCH.out.1 hok
    obtain ⟨rfl, hnk⟩ := hok
    obtain ⟨u, rfl⟩ : ∃ u, kd = [u] := by
      match kd, hkd with
      | [u], _ => exact ⟨u, rfl⟩
    have HRD := hide hrd
    have hnki : (n : Int) ≤ (key.size : Int) := by omega
    have hu : strB [u] = ⟨#[u]⟩ := rfl
    have hrs : ¬ 9223372036854775807 < n + (strB rest).size := by rw [strB_size]; omega
    rw [hu] at T5
    clear hrd hkd hu HCH
    go_enter Try.func110, Try.ntmps110
    go_wp2_with (first | (go_at_call 114; first | ((with_reducible refine (N1 _ hs0 B0).mono ?_); rintro e w1 ⟨rfl, hs1, g1⟩; have hE1 := blk_grown hE0 g1.1 hne; have B1 := B0.trans (g1.2 _ hg B0.size); have G1 := G0.trans g1) | ((with_reducible refine (N2 _ hs1 B1).mono ?_); rintro e w2 ⟨rfl, hs2, g2⟩; have hE2 := blk_grown hE1 g2.1 hne; have B2 := B1.trans (g2.2 _ hg B1.size); have G2 := G1.trans g2) | ((with_reducible refine (N3 _ hs2 B2).mono ?_); rintro e w3 ⟨rfl, hs3, g3⟩; have hE3 := blk_grown hE2 g3.1 hne; have B3 := B2.trans (g3.2 _ hg B2.size); have G3 := G2.trans g3; have f31 := blk_frozen hE3 1; have f32 := blk_cell hE3 1) | ((with_reducible refine (N4 _ (hs3.far hne2 _) (B3.setCell (p := ⟨w.heap.size, 1, none⟩) hBs _)).mono ?_); rintro e w4 ⟨rfl, hs4, g4⟩; have hE4 : w4.heap[w.heap.size]? = some (eb ⟨#[]⟩ (q : Int) 0 ⟨#[]⟩) := blk_grown (blk_set hE3 1 (.int .i64 (q : Int))) g4.1 hne; have B4 := (B3.setCell (p := ⟨w.heap.size, 1, none⟩) hBs (.int .i64 (q : Int))).trans (g4.2 _ hg (B3.setCell (p := ⟨w.heap.size, 1, none⟩) hBs (.int .i64 (q : Int))).size); have G4 := (G3.new_ (Nat.le_refl _) 1 (.int .i64 (q : Int))).trans g4)) | (go_at_call 115; first | ((with_reducible refine (T5 _ hs4 B4).mono ?_); rintro e w5 ⟨rfl, hs5, g5⟩; have hE5 := blk_grown hE4 g5.1 hne; have B5 := B4.trans (g5.2 _ hg B4.size); have G5 := G4.trans g5) | ((with_reducible refine (T6 _ hs5 B5).mono ?_); rintro e w6 ⟨rfl, hs6, g6⟩; have hE6 := blk_grown hE5 g6.1 hne; have B6 := B5.trans (g6.2 _ hg B5.size); have G6 := G5.trans g6) | ((with_reducible refine (T7 _ hs6 B6).mono ?_); rintro e w7 ⟨rfl, hs7, g7⟩; have hE7 := blk_grown hE6 g7.1 hne; have B7 := B6.trans (g7.2 _ hg B6.size); have G7 := G6.trans g7; obtain ⟨e0, e1, e2, e3, y0, y1, y2, y3⟩ := eb_read hE7; obtain ⟨A7, c7, hc7, hst7⟩ := hs7; have z0 := blk_cell hc7 0; have z1 := blk_cell hc7 1; have z2 := blk_cell hc7 2; have z3 := blk_frozen hc7 1; have z4 := blk_frozen hc7 2)))
    have hF := blk_set (blk_set (blk_set (blk_set (blk_set (blk_far (p := ⟨g, 1, none⟩) (blk_set (blk_far (p := ⟨g, 2, none⟩) (blk_set hE7 3 (.string (strB val))) hne3 (.bool true)) 2 (.int .i64 (kOf u))) hne3 (.string (key.extract 0 n ++ strB rest))) 0 (.string (key.extract 0 n ++ strB rest))) 0 (.string (key.extract 0 n ++ strB rest))) 1 (.int .i64 (q : Int))) 2 (.int .i64 (kOf u))) 3 (.string (strB val))
    refine bodyPost_ret (v := .agg #[.string (key.extract 0 n ++ strB rest), .int .i64 (q : Int), .int .i64 (kOf u), .string (strB val)]) (results_cell_row Try.results110 _ _ w.heap.size _ _ _ _ rfl hF Try.underlying43 rfl rfl) rfl ⟨(key.extract 0 n ++ strB rest, (q : Int), kOf u, strB val), rfl, ?_, fun y r h => ?_, fun z' h => (by rw [HRD.out] at h; cases h)⟩
    · exact (((((((((G7.new_ (Nat.le_refl _) _ _).set_ _ _).new_ (Nat.le_refl _) _ _).set_ _ _).new_ (Nat.le_refl _) _ _).new_ (Nat.le_refl _) _ _).new_ (Nat.le_refl _) _ _).new_ (Nat.le_refl _) _ _).new_ (Nat.le_refl _) _ _)
    · rw [HRD.out] at h
      injection h with h
      injection h with ha hb
      subst ha hb
      rw [← ext_key key n rest]
      refine ⟨by rw [kind_key]; rfl, A7, c7, ?_, hst7⟩
      exact blk_far (p := ⟨w.heap.size, 3, none⟩) (blk_far (p := ⟨w.heap.size, 2, none⟩) (blk_far (p := ⟨w.heap.size, 1, none⟩) (blk_far (p := ⟨w.heap.size, 0, none⟩) (blk_far (p := ⟨w.heap.size, 0, none⟩) (blk_set (blk_far (p := ⟨w.heap.size, 2, none⟩) (blk_set (blk_far (p := ⟨w.heap.size, 3, none⟩) hc7 hne2 _) 2 _) hne2 _) 1 _) hne2 _) hne2 _) hne2 _) hne2 _) hne2 _
  · obtain ⟨z, hz⟩ := HCH.out.2 hok
    have HZ := hide hz
    clear hz HCH
    cases o7 with
    | false =>
      clear hok
      go_enter Try.func110, Try.ntmps110
      go_wp2_with (first | (go_at_call 114; first | ((with_reducible refine (N1 _ hs0 B0).mono ?_); rintro e w1 ⟨rfl, hs1, g1⟩; have hE1 := blk_grown hE0 g1.1 hne; have B1 := B0.trans (g1.2 _ hg B0.size); have G1 := G0.trans g1) | ((with_reducible refine (N2 _ hs1 B1).mono ?_); rintro e w2 ⟨rfl, hs2, g2⟩; have hE2 := blk_grown hE1 g2.1 hne; have B2 := B1.trans (g2.2 _ hg B1.size); have G2 := G1.trans g2) | ((with_reducible refine (N3 _ hs2 B2).mono ?_); rintro e w3 ⟨rfl, hs3, g3⟩; have hE3 := blk_grown hE2 g3.1 hne; have B3 := B2.trans (g3.2 _ hg B2.size); have G3 := G2.trans g3; have f31 := blk_frozen hE3 1; have f32 := blk_cell hE3 1) | ((with_reducible refine (N4 _ (hs3.far hne2 _) (B3.setCell (p := ⟨w.heap.size, 1, none⟩) hBs _)).mono ?_); rintro e w4 ⟨rfl, hs4, g4⟩; have hE4 : w4.heap[w.heap.size]? = some (eb ⟨#[]⟩ (q : Int) 0 ⟨#[]⟩) := blk_grown (blk_set hE3 1 (.int .i64 (q : Int))) g4.1 hne; have B4 := (B3.setCell (p := ⟨w.heap.size, 1, none⟩) hBs (.int .i64 (q : Int))).trans (g4.2 _ hg (B3.setCell (p := ⟨w.heap.size, 1, none⟩) hBs (.int .i64 (q : Int))).size); have G4 := (G3.new_ (Nat.le_refl _) 1 (.int .i64 (q : Int))).trans g4)) | (go_at_call 115; first | ((with_reducible refine (T5 _ hs4 B4).mono ?_); rintro e w5 ⟨rfl, hs5, g5⟩; have hE5 := blk_grown hE4 g5.1 hne; have B5 := B4.trans (g5.2 _ hg B4.size); have G5 := G4.trans g5) | ((with_reducible refine (T6 _ hs5 B5).mono ?_); rintro e w6 ⟨rfl, hs6, g6⟩; have hE6 := blk_grown hE5 g6.1 hne; have B6 := B5.trans (g6.2 _ hg B5.size); have G6 := G5.trans g6) | ((with_reducible refine (T7 _ hs6 B6).mono ?_); rintro e w7 ⟨rfl, hs7, g7⟩; have hE7 := blk_grown hE6 g7.1 hne; have B7 := B6.trans (g7.2 _ hg B6.size); have G7 := G6.trans g7; obtain ⟨e0, e1, e2, e3, y0, y1, y2, y3⟩ := eb_read hE7; obtain ⟨A7, c7, hc7, hst7⟩ := hs7; have z0 := blk_cell hc7 0; have z1 := blk_cell hc7 1; have z2 := blk_cell hc7 2; have z3 := blk_frozen hc7 1; have z4 := blk_frozen hc7 2)))
      have hF := blk_set (blk_set (blk_set (blk_set (blk_far (p := ⟨g, 2, none⟩) (blk_set hE7 3 (.string (strB val))) hne3 (.bool false)) 0 (.string ⟨#[]⟩)) 1 (.int .i64 (q : Int))) 2 (.int .i64 0)) 3 (.string (strB val))
      refine bodyPost_ret (v := .agg #[.string ⟨#[]⟩, .int .i64 (q : Int), .int .i64 0, .string (strB val)]) (results_cell_row Try.results110 _ _ w.heap.size _ _ _ _ rfl hF Try.underlying43 rfl rfl) rfl ⟨(⟨#[]⟩, (q : Int), 0, strB val), rfl, ?_, fun y r h => (by rw [HZ.out] at h; cases h), fun z' _ => ⟨b7, A7, c7, ?_, hst7⟩⟩
      · exact ((((((G7.new_ (Nat.le_refl _) _ _).set_ _ _).new_ (Nat.le_refl _) _ _).new_ (Nat.le_refl _) _ _).new_ (Nat.le_refl _) _ _).new_ (Nat.le_refl _) _ _)
      · exact blk_far (p := ⟨w.heap.size, 3, none⟩) (blk_far (p := ⟨w.heap.size, 2, none⟩) (blk_far (p := ⟨w.heap.size, 1, none⟩) (blk_far (p := ⟨w.heap.size, 0, none⟩) (blk_set (blk_far (p := ⟨w.heap.size, 3, none⟩) hc7 hne2 _) 2 _) hne2 _) hne2 _) hne2 _) hne2 _
    | true =>
      have hnk : ¬ n ≤ key.size := fun h => hok ⟨rfl, h⟩
      have hnki : ¬ (n : Int) ≤ (key.size : Int) := by omega
      clear hok
      go_enter Try.func110, Try.ntmps110
      go_wp2_with (first | (go_at_call 114; first | ((with_reducible refine (N1 _ hs0 B0).mono ?_); rintro e w1 ⟨rfl, hs1, g1⟩; have hE1 := blk_grown hE0 g1.1 hne; have B1 := B0.trans (g1.2 _ hg B0.size); have G1 := G0.trans g1) | ((with_reducible refine (N2 _ hs1 B1).mono ?_); rintro e w2 ⟨rfl, hs2, g2⟩; have hE2 := blk_grown hE1 g2.1 hne; have B2 := B1.trans (g2.2 _ hg B1.size); have G2 := G1.trans g2) | ((with_reducible refine (N3 _ hs2 B2).mono ?_); rintro e w3 ⟨rfl, hs3, g3⟩; have hE3 := blk_grown hE2 g3.1 hne; have B3 := B2.trans (g3.2 _ hg B2.size); have G3 := G2.trans g3; have f31 := blk_frozen hE3 1; have f32 := blk_cell hE3 1) | ((with_reducible refine (N4 _ (hs3.far hne2 _) (B3.setCell (p := ⟨w.heap.size, 1, none⟩) hBs _)).mono ?_); rintro e w4 ⟨rfl, hs4, g4⟩; have hE4 : w4.heap[w.heap.size]? = some (eb ⟨#[]⟩ (q : Int) 0 ⟨#[]⟩) := blk_grown (blk_set hE3 1 (.int .i64 (q : Int))) g4.1 hne; have B4 := (B3.setCell (p := ⟨w.heap.size, 1, none⟩) hBs (.int .i64 (q : Int))).trans (g4.2 _ hg (B3.setCell (p := ⟨w.heap.size, 1, none⟩) hBs (.int .i64 (q : Int))).size); have G4 := (G3.new_ (Nat.le_refl _) 1 (.int .i64 (q : Int))).trans g4)) | (go_at_call 115; first | ((with_reducible refine (T5 _ hs4 B4).mono ?_); rintro e w5 ⟨rfl, hs5, g5⟩; have hE5 := blk_grown hE4 g5.1 hne; have B5 := B4.trans (g5.2 _ hg B4.size); have G5 := G4.trans g5) | ((with_reducible refine (T6 _ hs5 B5).mono ?_); rintro e w6 ⟨rfl, hs6, g6⟩; have hE6 := blk_grown hE5 g6.1 hne; have B6 := B5.trans (g6.2 _ hg B5.size); have G6 := G5.trans g6) | ((with_reducible refine (T7 _ hs6 B6).mono ?_); rintro e w7 ⟨rfl, hs7, g7⟩; have hE7 := blk_grown hE6 g7.1 hne; have B7 := B6.trans (g7.2 _ hg B6.size); have G7 := G6.trans g7; obtain ⟨e0, e1, e2, e3, y0, y1, y2, y3⟩ := eb_read hE7; obtain ⟨A7, c7, hc7, hst7⟩ := hs7; have z0 := blk_cell hc7 0; have z1 := blk_cell hc7 1; have z2 := blk_cell hc7 2; have z3 := blk_frozen hc7 1; have z4 := blk_frozen hc7 2)))
      have hF := blk_set (blk_set (blk_set (blk_set (blk_far (p := ⟨g, 2, none⟩) (blk_set hE7 3 (.string (strB val))) hne3 (.bool false)) 0 (.string ⟨#[]⟩)) 1 (.int .i64 (q : Int))) 2 (.int .i64 0)) 3 (.string (strB val))
      refine bodyPost_ret (v := .agg #[.string ⟨#[]⟩, .int .i64 (q : Int), .int .i64 0, .string (strB val)]) (results_cell_row Try.results110 _ _ w.heap.size _ _ _ _ rfl hF Try.underlying43 rfl rfl) rfl ⟨(⟨#[]⟩, (q : Int), 0, strB val), rfl, ?_, fun y r h => (by rw [HZ.out] at h; cases h), fun z' _ => ⟨b7, A7, c7, ?_, hst7⟩⟩
      · exact ((((((G7.new_ (Nat.le_refl _) _ _).set_ _ _).new_ (Nat.le_refl _) _ _).new_ (Nat.le_refl _) _ _).new_ (Nat.le_refl _) _ _).new_ (Nat.le_refl _) _ _)
      · exact blk_far (p := ⟨w.heap.size, 3, none⟩) (blk_far (p := ⟨w.heap.size, 2, none⟩) (blk_far (p := ⟨w.heap.size, 1, none⟩) (blk_far (p := ⟨w.heap.size, 0, none⟩) (blk_set (blk_far (p := ⟨w.heap.size, 3, none⟩) hc7 hne2 _) 2 _) hne2 _) hne2 _) hne2 _) hne2 _
end Go.Proofs.Ytefcepjffeiaoaa
end

section
/- Block: the walk of told. -/
namespace Go.Proofs.Ytefcepjffeiaoaa
open Go.RowKit Go.Proofs.YtefcepjffeiaoaaW.PrintWords
set_option linter.unusedVariables false

theorem rdEnt_size (key b : List UInt8) (x : Ent) (r : List UInt8) (h : rdEnt key b = .ok (x, r)) : x.1.size ≤ key.length + 65536 := by
  unfold rdEnt at h
  split at h
  · cases h
  · split at h
    · cases h
    · next k r2 h2 =>
      have hk := (rdNum_ok _ _ _ _ _ h2).2.2.1 ▸ (rdNum_ok _ _ _ _ _ h2).2.1
      split at h
      · cases h
      · split at h
        · cases h
        · split at h
          · cases h
          · split at h
            · cases h
            · next rest r6 h6 =>
              have hr : rest.length ≤ k := by
                unfold rdTake at h6
                split at h6
                · cases h6
                · injection h6 with h6
                  injection h6 with h7 h8
                  subst h7
                  rw [List.length_take]; omega
              split at h
              · cases h
              · split at h
                · cases h
                · injection h with h
                  injection h with h9 h10
                  subst h9
                  show (⟨_⟩ : ByteArray).size ≤ _
                  rw [← bl_length, bl_mk, List.length_append, List.length_take]
                  omega
theorem rdEs_step (f : Nat) (key bb r : List UInt8) (x : Ent) (pre : List Ent) (hb : bb ≠ []) (h : rdEnt key bb = .ok (x, r)) : (rdEs (f + 1) key bb).map (pre ++ ·) = (rdEs f (bl x.1) r).map ((pre ++ [x]) ++ ·) := by
  rw [rdEs, if_neg hb, h]
  simp only [Option.map_map]
  congr 1
  funext l
  simp
theorem Cu.grown {w0 : World} {g : Nat} {b : List UInt8} {key : ByteArray} {ok : Bool} {W W' : World} (h : Cu w0 g b key ok W) {row : Option Nat} (hg : W.grownBy W' row) (hne : some g ≠ row) : Cu w0 g b key ok W' := by
  obtain ⟨A, c, h1, h2⟩ := h
  exact ⟨A, c, blk_grown h1 hg hne, h2⟩
theorem OwE.gb {g : Nat} {w w1 w0 : World} {base : Nat} {v : Value} {xs : List Ent} (h : OwE w base v xs) {b : List UInt8} {key : ByteArray} {ok : Bool} (hb : Cu w0 g b key ok w) {w2 : World} (hg : Gb g w2 w w1) : OwE w1 base v xs := by
  obtain ⟨A, c, h1, _⟩ := hb
  exact Kd.R_mono (Kd.R_grown (Kd.R_types h h1 (one_ne (by decide))) hg.1 (fun k hk e => hk.2 (by injection e))) (fun _ _ => trivial)
def lenOf : Value → Nat
  | .slice _ n _ => n
  | _ => 0
set_option maxRecDepth 100000 in
set_option maxHeartbeats 1600000 in
theorem told_any (A : Option Addr) (c : Nat) (b : List UInt8) (w : World) (hx : RdB w A c b) (hl : b.length ≤ 140737488355328) :
    Calls Try.prog 103 #[.slice A b.length c] w fun e w' => ∃ v, e = .returned v ∧ OwE w' w.heap.size v (toldE b) ∧ Below w.heap.size w w' := by
  have hle := hx.le
  cases hm : b.length with
  | zero =>
    have ht : toldE b = [] := by rw [toldE, if_pos (by omega)]
    rw [ht]
    clear hle hx ht
    go_enter Try.func103, Try.ntmps103
    go_wp2
    go_ret
    exact ⟨_, rfl, Ow.zero _ _ _ _, Below.refl _ _⟩
  | succ m1 =>
    obtain ⟨ad, rfl, hc⟩ := hx.at_ m1 (by omega)
    obtain ⟨u, hu⟩ : ∃ u, b.getD m1 0 = u := ⟨_, rfl⟩
    obtain ⟨m, hmm⟩ : ∃ m, m1 + 1 = m := ⟨_, rfl⟩
    have hu8 := u.toNat_lt
    have e1 : wrap64 ((m : Int) - 1) = (m1 : Int) := by unfold wrap64; omega
    obtain ⟨x2, hx2⟩ : ∃ x2 : Nat, 2 * u.toNat = x2 := ⟨_, rfl⟩
    have e3 : wrap64 (u.toNat : Int) = (u.toNat : Int) := by unfold wrap64; omega
    have hmi : (m1 : Int) < (m : Int) := by omega
    have hm1 : m1 < m := by omega
    have hm0 : ¬ m = 0 := by omega
    have hm0i : ¬ (m : Int) = 0 := by omega
    have hmb : ((m : Int) == 0) = false := beq_eq_false_iff_ne.2 hm0i
    have htold : toldE b = if m1 < x2 then [] else (rdEs 65 [] (b.take (m1 - x2))).getD [] := by
      rw [toldE, if_neg (by omega), hm, Nat.add_sub_cancel, hu, hx2]
    rw [hu] at hc
    by_cases hn : m1 < x2
    · rw [if_pos hn] at htold
      rw [htold]
      have e4 : wrap64 ((m1 : Int) - 2 * (u.toNat : Int)) = -(((x2 - m1 : Nat) : Int)) := by unfold wrap64; omega
      obtain ⟨d, hd⟩ : ∃ d, x2 - m1 = d := ⟨_, rfl⟩
      rw [hd] at e4
      have e5 : -(d : Int) < 0 := by omega
      have e6 : 0 < d := by omega
      clear hd
      rw [hmm]
      clear htold hx hu hx2 hm hle hl
      go_enter Try.func103, Try.ntmps103
      go_wp2
      go_ret
      exact ⟨_, rfl, Ow.zero _ _ _ _, Below.refl _ _⟩
    · rw [if_neg hn] at htold
      obtain ⟨E, hE⟩ : ∃ E : Nat, m1 - x2 = E := ⟨_, rfl⟩
      rw [hE] at htold
      have e4 : wrap64 ((m1 : Int) - 2 * (u.toNat : Int)) = (E : Int) := by unfold wrap64; omega
      have hEm : E ≤ b.length := by omega
      have htk := hx.take E hEm
      have htl : (b.take E).length = E := by rw [List.length_take]; omega
      have hsh := fun W => slice_hi 23 5 Try.underlying23 (i := _) rfl rfl (some ad) m c E (by omega) W
      have hEl : E ≤ 140737488355328 := by omega
      rw [hmm]
      generalize b.take E = B0 at *
      have HT := hide htold
      rw [htold]
      generalize hres : rdEs 65 [] B0 = res at *
      have HR := hide hres
      have B1 := below_alloc w (.cells #[.slice (some ad) E c, .string ⟨#[]⟩, .bool true] 143)
      have hCu0 : Cu w w.heap.size B0 ⟨#[]⟩ true (w.alloc (.cells #[.slice (some ad) E c, .string ⟨#[]⟩, .bool true] 143)) := ⟨some ad, c, by rw [htl]; exact heap_alloc_new w _, St.of htk⟩
      clear htold hx hu hx2 hm hle hl hn hEm hres htl hE
      go_enter Try.func103, Try.ntmps103
      go_wp2
      simp only [e1, e4, hmb]
      go_loopw [5] (fun l wr => ∃ (f : Nat) (key : ByteArray) (bb : List UInt8) (pre : List Ent), pre.length + f = 65 ∧ res = (rdEs f (bl key) bb).map (pre ++ ·) ∧ Cu w w.heap.size bb key true wr ∧ key.size ≤ 65536 * pre.length ∧ OwE wr (w.heap.size + 1) l pre ∧ Below w.heap.size w wr) (fun l _ => 66 - lenOf l)
      case atStart => exact ⟨65, ⟨#[]⟩, B0, [], by simp, by rw [← HR.out]; simp [bl], hCu0, Nat.zero_le _, Ow.zero _ _ _ _, B1⟩
      case round =>
        obtain ⟨f, key, bb, pre, hpf, hres, hCu, hks, HO, HB⟩ := hrel
        obtain ⟨Ao, co, hvo, hro⟩ := HO.rd
        subst hvo
        have hCu' := hCu
        obtain ⟨A2, c2, hc2, hst2⟩ := hCu'
        have z0 := blk_cell hc2 0
        obtain ⟨nb, hnb⟩ : ∃ nb, bb.length = nb := ⟨_, rfl⟩
        obtain ⟨pl, hpl⟩ : ∃ pl, pre.length = pl := ⟨_, rfl⟩
        rw [hnb] at z0
        rw [hpl] at hpf hks HO ⊢
        by_cases hb : bb = []
        · have hnb0 : nb = 0 := by rw [← hnb, hb]; rfl
          have hend : res.getD [] = pre := by
            rw [hres, hb]
            cases f <;> simp [rdEs]
          subst hnb0
          clear hres hnb hb hks hpf HR HT
          go_wp2
          go_ret
          exact ⟨_, rfl, by first | exact HO.lower (Nat.le_succ _) | (rw [hend]; exact HO.lower (Nat.le_succ _)), HB⟩
        · have hnb0 : ¬ nb = 0 := fun e => hb (List.eq_nil_of_length_eq_zero (by omega))
          have hnb1 : 0 < nb := by omega
          have hnbi : (0 : Int) < (nb : Int) := by omega
          cases f with
          | zero =>
            have hpl65 : ¬ pl ≤ 64 := by omega
            have hpl65i : ¬ (pl : Int) ≤ 64 := by omega
            have hend : res.getD [] = pre := by rw [hres]; simp [rdEs]
            clear hres hnb hb hks hpf HR HT
            go_wp2
            go_ret
            exact ⟨_, rfl, by first | exact HO.lower (Nat.le_succ _) | (rw [hend]; exact HO.lower (Nat.le_succ _)), HB⟩
          | succ f =>
            have hpl65 : pl ≤ 64 := by omega
            have hpl65i : (pl : Int) ≤ 64 := by omega
            have hEn := entry_any w w.heap.size bb key wr hCu HB (Nat.le_refl _) (by omega)
            have hgl := hCu.lt
            cases hrd : rdEnt (bl key) bb with
            | error z =>
              have hend : res.getD [] = [] := by rw [hres, rdEs, if_neg hb, hrd]; rfl
              clear hres hnb hb hks hpf HR HT hc2 hst2
              have HRD := hide hrd
              clear hrd
              go_wp2_with (first | (go_at_call 110; (with_reducible refine hEn.mono ?_); rintro e w1 ⟨x, rfl, G1, hok, herr⟩; obtain ⟨b', hCu1⟩ := herr _ HRD.out; have HB1 := HB.trans (G1.2 _ (Nat.le_refl _) HB.size); have hCu2 := hCu1.below (below_alloc w1 (.cells #[.string x.1, .int .i64 x.2.1, .int .i64 x.2.2.1, .string x.2.2.2] 43)); obtain ⟨A3, c3, hc3, hst3⟩ := hCu2; have z3 := blk_cell hc3 2; clear hok herr))
              go_ret
              exact ⟨_, rfl, by rw [hend]; exact Ow.zero _ _ _ _, HB1.alloc HB1.size _⟩
            | ok p =>
              obtain ⟨y, r⟩ := p
              have hsz := rdEnt_size _ _ _ _ hrd
              rw [bl_length] at hsz
              have hst := rdEs_step f (bl key) bb r y pre hb hrd
              have HRES := hide (hres.trans hst)
              have HPL := hide hpl
              have HRD := hide hrd
              have hsz2 : y.1.size ≤ 65536 * (pl + 1) := by omega
              have hf2 : pl + 1 + f = 65 := by omega
              have HS := hide hsz2
              have HF := hide hf2
              have hapl : (pre.length + 1) * 48 ≤ 140737488355328 := by omega
              have HAP := hide hapl
              clear hres hnb hb hks hpf HR HT hc2 hst2 hrd hsz hst hsz2 hf2 hpl hapl hro
              go_wp2_with (first | (go_at_call 110; (with_reducible refine hEn.mono ?_); rintro e w1 ⟨x, rfl, G1, hok, herr⟩; obtain ⟨rfl, hCu1⟩ := hok _ _ HRD.out; have HB1 := HB.trans (G1.2 _ (Nat.le_refl _) HB.size); have bA := below_alloc w1 (.cells #[.string x.1, .int .i64 x.2.1, .int .i64 x.2.2.1, .string x.2.2.2] 43); have hCu2 := hCu1.below bA; obtain ⟨A3, c3, hc3, hst3⟩ := id hCu2; have z3 := blk_cell hc3 2; have HO1 := (OwE.gb HO hCu G1).below bA; have HB2 := HB1.alloc HB1.size (.cells #[.string x.1, .int .i64 x.2.1, .int .i64 x.2.2.1, .string x.2.2.2] 43); obtain ⟨y0, y1, y2, y3, y4, y5, y6, y7⟩ := (Eb.new w1 x).read; have hlt1 := hCu1.lt; clear hok herr) | (at_builtin; refine app_ent (w0 := w1.alloc (.cells #[.string x.1, .int .i64 x.2.1, .int .i64 x.2.2.1, .string x.2.2.2] 43)) (W := w1.alloc (.cells #[.string x.1, .int .i64 x.2.1, .int .i64 x.2.2.1, .string x.2.2.2] 43)) (w.heap.size + 1) rfl (.tmp 47) (.tmp 49) rfl _ pre x (by rfl) (by simp [Act.eval, Array.getD]) HO1 (Below.refl _ _) hCu2.lt HAP.out ?_; intro v5 w5 HO5 HB5 hg5 hat5))
              go_roundw
              case rel => exact ⟨f, x.1, r, pre ++ [x], by rw [List.length_append, List.length_singleton, HPL.out]; exact HF.out, HRES.out, hCu2.grown hg5 (fun e => absurd (HO1.ge _ e.symm) (Nat.not_succ_le_self _)), by rw [List.length_append, List.length_singleton, HPL.out]; exact HS.out, HO5, HB2.trans (HB5.mono (Nat.le_succ _))⟩
              case measure =>
                obtain ⟨A6, c6, hv6, _⟩ := HO5.rd
                rw [hv6, List.length_append, List.length_singleton, HPL.out]
                simp [lenOf]; omega
end Go.Proofs.Ytefcepjffeiaoaa
end

section
/- Block: the reference's reader in one form. -/
namespace Go.Proofs.Ytefcepjffeiaoaa
open Go.RowKit Go.Proofs.YtefcepjffeiaoaaW.PrintWords
set_option linter.unusedVariables false

/-- a reader: what is left, is all well so far -/
def RsS (g : Nat) (A : Option Addr) (c n : Nat) (x b : List UInt8) (ok : Bool) (W : World) : Prop := ∃ p e, p ≤ n ∧ Rs g A c n p e W ∧ (ok = true → e = 0 ∧ x.drop p = b) ∧ (ok = false → e ≠ 0)
theorem RsS.below {g : Nat} {A : Option Addr} {c n : Nat} {x b : List UInt8} {ok : Bool} {W W' : World} (h : RsS g A c n x b ok W) (hb : Below W.heap.size W W') : RsS g A c n x b ok W' := by
  obtain ⟨p, e, h1, h2, h3, h4⟩ := h
  exact ⟨p, e, h1, h2.below hb, h3, h4⟩
theorem RsS.grown {g : Nat} {A : Option Addr} {c n : Nat} {x b : List UInt8} {ok : Bool} {W W' : World} (h : RsS g A c n x b ok W) {row : Option Nat} (hg : W.grownBy W' row) (hne : some g ≠ row) : RsS g A c n x b ok W' := by
  obtain ⟨p, e, h1, h2, h3, h4⟩ := h
  exact ⟨p, e, h1, blk_grown h2 hg hne, h3, h4⟩
theorem RsS.lt {g : Nat} {A : Option Addr} {c n : Nat} {x b : List UInt8} {ok : Bool} {W : World} (h : RsS g A c n x b ok W) : g < W.heap.size := by
  obtain ⟨p, e, h1, h2, h3, h4⟩ := h
  exact h2.lt
section
variable {ops : Array Oper} {o : Oper} {a : Act} {Q : Exit → Act → World → Prop} {K : Act → World → Prop}
end
end Go.Proofs.Ytefcepjffeiaoaa
end

section
/- Block: the walk of the reference's told. -/
namespace Go.Proofs.Ytefcepjffeiaoaa
open Go.RowKit Go.Proofs.YtefcepjffeiaoaaW.PrintWords
set_option linter.unusedVariables false

theorem Ow.rs {α : Type} {d : Kd α} {e g : Nat} {w w1 w2 : World} {base : Nat} {v : Value} {xs : List α} (h : Ow d e w base v xs) {A : Option Addr} {c n : Nat} {x b : List UInt8} {ok : Bool} (hs : RsS g A c n x b ok w) (ht : ∀ q, q ∈ e :: d.E → q ≠ 147) (hg : Gb g w2 w w1) : Ow d e w1 base v xs := by
  obtain ⟨p, e', h1, h2, h3, h4⟩ := hs
  exact Kd.R_mono (Kd.R_grown (Kd.R_types h h2 ht) hg.1 (fun k hk e => hk.2 (by injection e))) (fun _ _ => trivial)
theorem wrap_u8 (u : UInt8) : wrap64 (u.toNat : Int) = (u.toNat : Int) := by have := u.toNat_lt; unfold wrap64; omega
end Go.Proofs.Ytefcepjffeiaoaa
end

section
/- Small words for what the printed functions compute: rounds enough; indices that do not wrap; kinds told over. -/
namespace Go.Proofs.Ytefcepjffeiaoaa
open Go.RowKit Go.Proofs.YtefcepjffeiaoaaW.PrintWords
set_option linter.unusedVariables false

theorem wrap64_succ (i : Nat) (h : i < 9223372036854775807) : wrap64 ((i : Int) + 1) = ((i + 1 : Nat) : Int) := by
  unfold wrap64
  omega
theorem Ev.now' {α : Type} {g : Nat → Option α} {r : α} (h : ∀ k, g (k + 1) = some r) : Ev g r := ⟨1, fun k hk => by obtain ⟨j, rfl⟩ : ∃ j, k = j + 1 := ⟨k - 1, by omega⟩; exact h j⟩
/-- a row of another type of elements -/
theorem C_map {α β : Type} {d : Kd α} {d' : Kd β} (hs : d'.sz = d.sz) (g : α → β) {w : World} (hK : ∀ x cs, d.K w x cs → d'.K w (g x) cs) {A : Option Addr} {xs : List α} (h : d.C w A xs.length xs) : d'.C w A (xs.map g).length (xs.map g) := by
  refine ⟨rfl, by rw [List.length_map]; exact h.2.1, fun hp => ?_⟩
  rw [List.length_map] at hp
  obtain ⟨ad, e, hc⟩ := h.2.2 hp
  refine ⟨ad, e, fun j p hj => ?_⟩
  rw [List.getElem?_map, Option.map_eq_some_iff] at hj
  obtain ⟨x, hx, rfl⟩ := hj
  obtain ⟨c, h1, h2, h3⟩ := hc j x hx
  exact ⟨c, by rw [hs]; exact h1, hK _ _ h2, by rw [hs]; exact h3⟩
theorem Rd_map {α β : Type} {d : Kd α} {d' : Kd β} (hs : d'.sz = d.sz) (g : α → β) {w : World} (hK : ∀ x cs, d.K w x cs → d'.K w (g x) cs) {A : Option Addr} {c : Nat} {xs : List α} (h : Rd d w A c xs) : Rd d' w A c (xs.map g) := ⟨by rw [List.length_map]; exact h.1, C_map hs g hK h.2⟩
theorem R_map {α β : Type} {d : Kd α} {d' : Kd β} (hs : d'.sz = d.sz) (g : α → β) (hM : ∀ w base ok x cs, d.M w base ok x cs → d'.M w base ok (g x) cs) {e : Nat} {w : World} {base : Nat} {ok : Nat → Prop} {v : Value} {xs : List α} (h : d.R e w base ok v xs) : d'.R e w base ok v (xs.map g) := by
  obtain ⟨h0, inner, ho, hr⟩ := h
  refine ⟨h0, inner, by rw [List.length_map, hs]; exact ho, by rw [List.length_map, hs]; exact hr.1, fun j p hj => ?_⟩
  rw [List.getElem?_map, Option.map_eq_some_iff] at hj
  obtain ⟨x, hx, rfl⟩ := hj
  rw [hs]
  exact hM _ _ _ _ _ (hr.2 j x hx)
theorem drop_get {α : Type} (xs : List α) (z : α) (i : Nat) (h : i < xs.length) : xs.drop i = xs.getD i z :: xs.drop (i + 1) := by
  rw [List.drop_eq_getElem_cons h, List.getD_eq_getElem?_getD, List.getElem?_eq_getElem h]
  rfl
theorem toList_eq (s : ByteArray) : s.toList = s.data.toList := by rw [ByteArray.toList_eq]
theorem toList_nil (s : ByteArray) : s.toList = [] ↔ s.size = 0 := by
  rw [toList_eq]
  constructor
  · intro h
    have : s.data.toList.length = 0 := by rw [h]; rfl
    rw [Array.length_toList] at this
    exact this
  · intro h
    apply List.eq_nil_of_length_eq_zero
    rw [Array.length_toList]
    exact h
theorem toList_inj {s t : ByteArray} (h : s.toList = t.toList) : s = t := by
  rw [toList_eq, toList_eq] at h
  apply ByteArray.ext
  apply Array.ext'
  exact h
end Go.Proofs.Ytefcepjffeiaoaa
end

section
/- Block: may versions be, in order; versions copied and compared: the printed contracts, told over. -/
namespace Go.Proofs.Ytefcepjffeiaoaa
open Go.RowKit Go.Proofs.YtefcepjffeiaoaaW.PrintWords
set_option linter.unusedVariables false

abbrev SE := PB.S43
def mkE (c : Ent) : SE := ⟨c.1, c.2.1, c.2.2.1, c.2.2.2⟩
def ofE (s : SE) : Ent := (s.f0, s.f1, s.f2, s.f3)
theorem ofE_mk (l : List Ent) : (l.map mkE).map ofE = l := by rw [List.map_map]; exact List.map_id l
theorem mkE_K {w : World} {c : Ent} {cs : List Value} (h : kEnt.K w c cs) : PB.k43.K w (mkE c) cs := h
theorem RdE.mk {w : World} {A : Option Addr} {c : Nat} {l : List Ent} (h : RdE w A c l) : Rd PB.k43 w A c (l.map mkE) := Rd_map (d := kEnt) (d' := PB.k43) rfl mkE (fun x cs h => mkE_K h) h
theorem OwE.of {w : World} {base : Nat} {v : Value} {l : List SE} (h : PB.k43.R 43 w base (fun _ => True) v l) : OwE w base v (l.map ofE) := R_map (d := PB.k43) (d' := kEnt) rfl ofE (fun _ _ _ _ _ h => h) h
theorem May_f (x : Ent) : PB.skip_May.f x.1 x.2.1 x.2.2.1 x.2.2.2 = some (decide (mayE x)) := by
  obtain ⟨k, q, d, v⟩ := x
  have hb : (d == 2) = decide (d = 2) := by
    by_cases h : d = 2
    · rw [decide_eq_true h, h]; rfl
    · rw [decide_eq_false h]; exact beq_eq_false_iff_ne.2 h
  simp only [PB.skip_May.f, toList_nil, hb, mayE]
  repeat' split
  all_goals (congr 1; symm; first | (apply decide_eq_true; omega) | (apply decide_eq_false; omega) | (apply decide_eq_decide.2; omega))
theorem less_bl (a b : ByteArray) : Op.bytesLess a.toList b.toList = decide (bl a < bl b) := by rw [bytesLess_eq, Lib.toList_data, Lib.toList_data]; rfl
theorem May_any (x : Ent) (w : World) : Calls Try.prog 62 #[.agg #[.string x.1, .int .i64 x.2.1, .int .i64 x.2.2.1, .string x.2.2.2]] w fun e w' => e = .returned (.bool (decide (mayE x))) ∧ Below w.heap.size w w' := PB.skip_May.calls _ _ _ _ _ w (May_f x)
theorem sameE_l0 (l : List Ent) (hl : l.length ≤ 9223372036854775806) : ∀ d i, l.length - i = d → i ≤ l.length → Ev (fun k => PB.ticklerplain_SameEntries.l0 k (l.map mkE) (l.map mkE) (i : Int)) true := by
  intro d
  induction d with
  | zero =>
    intro i hd hi
    obtain rfl : i = l.length := by omega
    refine Ev.now' fun k => ?_
    rw [PB.ticklerplain_SameEntries.l0, if_neg (by rw [List.length_map]; omega)]
  | succ d ih =>
    intro i hd hi
    have hlt : i < l.length := by omega
    refine Ev.step (fun k => ?_) (ih (i + 1) (by omega) (by omega))
    rw [PB.ticklerplain_SameEntries.l0, if_pos (by rw [List.length_map]; omega), if_pos (by omega), if_pos (by rw [List.length_map]; omega), if_neg (by simp), wrap64_succ i (by omega)]
theorem SameE_any (A B : Option Addr) (c d n : Nat) (l : List Ent) (w : World) (hn : l.length = n) (hr : RdE w A c l) (hs : RdE w B d l) (hl : l.length ≤ 9223372036854775806) :
    Calls Try.prog 20 #[.slice A n c, .slice B n d] w fun e w' => e = .returned (.bool true) ∧ Below w.heap.size w w' := by
  subst hn
  obtain ⟨k, hk⟩ := (sameE_l0 l hl _ 0 rfl (Nat.zero_le _)).rounds
  have hf : PB.ticklerplain_SameEntries.f k (l.map mkE) (l.map mkE) = some true := by rw [PB.ticklerplain_SameEntries.f, if_pos rfl]; exact hk
  have h := PB.ticklerplain_SameEntries.calls k A c (l.map mkE) B d (l.map mkE) true w hr.mk.2 hr.mk.1 hs.mk.2 hs.mk.1 hf
  rw [List.length_map] at h
  exact h.mono (fun e w' ⟨h1, h2⟩ => ⟨h1, h2.below⟩)
theorem CopyE_any (A : Option Addr) (c n : Nat) (l : List Ent) (w : World) (hn : l.length = n) (hr : RdE w A c l) (hl : l.length * 48 ≤ 140737488351232) :
    Calls Try.prog 9 #[.slice A n c] w fun e w' => ∃ v, e = .returned v ∧ OwE w' w.heap.size v l ∧ Below w.heap.size w w' := by
  subst hn
  have hf : PB.ticklerplain_CopyEntries.f (l.map mkE) = some (l.map mkE) := by rw [PB.ticklerplain_CopyEntries.f, if_pos (by rw [List.length_map, List.length_nil]; omega)]; rfl
  have h := PB.ticklerplain_CopyEntries.calls A c (l.map mkE) (l.map mkE) w hr.mk.2 hr.mk.1 hf
  rw [List.length_map] at h
  refine h.mono ?_
  rintro e w' ⟨v, rfl, HR, HB⟩
  have := OwE.of HR
  rw [ofE_mk] at this
  exact ⟨v, rfl, this, HB⟩
def resE : Option Ent → Ent × Bool
  | some x => (x, true)
  | none => ((⟨#[]⟩, 0, 0, ⟨#[]⟩), false)
end Go.Proofs.Ytefcepjffeiaoaa
end

section
/- Block: the order of versions, walked. -/
namespace Go.Proofs.Ytefcepjffeiaoaa
open Go.RowKit Go.Proofs.YtefcepjffeiaoaaW.PrintWords
set_option linter.unusedVariables false

theorem same_bl (a b : ByteArray) : (a.toList == b.toList) = decide (bl a = bl b) := by
  rw [Lib.toList_data, Lib.toList_data]
  by_cases h : bl a = bl b
  · rw [decide_eq_true h]; exact beq_iff_eq.2 h
  · rw [decide_eq_false h]; exact beq_eq_false_iff_ne.2 h
def cmpS (a b : ByteArray) : Int := if bl a < bl b then -1 else if bl b < bl a then 1 else 0
theorem nanS_any (a : ByteArray) (w : World) : Calls Try.prog 106 #[.string a] w fun e w' => e = .returned (.bool false) ∧ w = w' := by
  have h := same_bl a a
  rw [decide_eq_true rfl] at h
  go_enter Try.func106, Try.ntmps106
  go_wp2
  go_ret
  exact ⟨by simp, rfl⟩
set_option maxRecDepth 100000 in
set_option maxHeartbeats 800000 in
theorem cmpS_any (a b : ByteArray) (w : World) : Calls Try.prog 92 #[.string a, .string b] w fun e w' => e = .returned (.int .i64 (cmpS a b)) ∧ w = w' := by
  have h1 := less_bl a b
  have h2 := same_bl a b
  rcases lt_tri (bl a) (bl b) with h | h | h
  · rw [decide_eq_true h] at h1
    have e : cmpS a b = -1 := by rw [cmpS, if_pos h]
    rw [e]
    clear h2
    go_enter Try.func92, Try.ntmps92
    go_wp2_with (first | (go_at_call 106; refine (nanS_any _ _).mono ?_; rintro e w' ⟨rfl, rfl⟩))
    go_ret
    exact ⟨rfl, rfl⟩
  · rw [decide_eq_false (by rw [h]; exact lt_ir _)] at h1
    rw [decide_eq_true h] at h2
    have e : cmpS a b = 0 := by rw [cmpS, if_neg (by rw [h]; exact lt_ir _), if_neg (by rw [h]; exact lt_ir _)]
    rw [e]
    go_enter Try.func92, Try.ntmps92
    go_wp2_with (first | (go_at_call 106; refine (nanS_any _ _).mono ?_; rintro e w' ⟨rfl, rfl⟩))
    go_ret
    exact ⟨rfl, rfl⟩
  · rw [decide_eq_false (lt_as h)] at h1
    rw [decide_eq_false (fun e => by rw [e] at h; exact lt_ir _ h)] at h2
    have e : cmpS a b = 1 := by rw [cmpS, if_neg (lt_as h), if_pos h]
    rw [e]
    go_enter Try.func92, Try.ntmps92
    go_wp2_with (first | (go_at_call 106; refine (nanS_any _ _).mono ?_; rintro e w' ⟨rfl, rfl⟩))
    go_ret
    exact ⟨rfl, rfl⟩
/-- the first that is not 0, of two -/
def or2 (p q : Int) : Int := if p ≠ 0 then p else q
set_option maxRecDepth 100000 in
set_option maxHeartbeats 800000 in
theorem Or_any (g : Nat) (p q : Int) (w : World) (h0 : w.cell? ⟨g, 0, none⟩ = some (.int .i64 p)) (h1 : w.cell? ⟨g, 1, none⟩ = some (.int .i64 q)) :
    Calls Try.prog 91 #[.slice (some ⟨g, 0, none⟩) 2 2] w fun e w' => e = .returned (.int .i64 (or2 p q)) ∧ w = w' := by
  go_enter Try.func91, Try.ntmps91
  go_wp2
  go_loopw [8] (fun i wr => wr = w ∧ ∃ j : Nat, j ≤ 2 ∧ i = .int .i64 (j : Int) ∧ (0 < j → p = 0) ∧ (1 < j → q = 0)) (fun i _ => 2 - (intOf i).toNat)
  case atStart => exact ⟨rfl, 0, by omega, rfl, fun h => by omega, fun h => by omega⟩
  case round =>
    obtain ⟨rfl, j, hj, rfl, hp, hq⟩ := hrel
    rcases Nat.lt_trichotomy j 1 with h | h | h
    · obtain rfl : j = 0 := by omega
      clear hp hq hj h
      by_cases hp0 : p = 0
      · subst hp0
        go_wp2
        go_roundw
        case rel => exact ⟨by trivial, 1, by omega, by go_num, by simp, by simp⟩
        case measure => simp [intOf]
      · have hb1 : (p != 0) = true := bne_iff_ne.2 hp0
        have hb2 : (p == 0) = false := beq_eq_false_iff_ne.2 hp0
        go_wp2
        go_ret
        exact ⟨by rw [or2, if_pos hp0]; rfl, rfl⟩
    · subst h
      have hp0 := hp (by omega)
      subst hp0
      clear hp hq hj
      by_cases hq0 : q = 0
      · subst hq0
        go_wp2
        go_roundw
        case rel => exact ⟨by trivial, 2, by omega, by go_num, by simp, by simp⟩
        case measure => simp [intOf]
      · have hb1 : (q != 0) = true := bne_iff_ne.2 hq0
        have hb2 : (q == 0) = false := beq_eq_false_iff_ne.2 hq0
        go_wp2
        go_ret
        exact ⟨by rw [or2, if_neg (by simp)]; rfl, rfl⟩
    · obtain rfl : j = 2 := by omega
      have hp0 := hp (by omega)
      have hq0 := hq (by omega)
      subst hp0 hq0
      clear hp hq hj h
      go_wp2
      go_ret
      exact ⟨rfl, rfl⟩
/-- the order of versions, as a number -/
def ordN (x y : Ent) : Int := or2 (cmpS x.1 y.1) (Lib.compareInt y.2.1 x.2.1)
theorem ordN_neg (x y : Ent) : decide (ordN x y < 0) = decide (befE x y) := by
  unfold ordN or2 cmpS Lib.compareInt befE
  by_cases h1 : bl x.1 < bl y.1
  · rw [if_pos h1]; simp [h1]
  · rw [if_neg h1]
    by_cases h2 : bl y.1 < bl x.1
    · have h3 : ¬ bl x.1 = bl y.1 := fun e => by rw [e] at h2; exact lt_ir _ h2
      rw [if_pos h2]; simp [h1, h3]
    · have h3 : bl x.1 = bl y.1 := by
        rcases lt_tri (bl x.1) (bl y.1) with h | h | h
        · exact absurd h h1
        · exact h
        · exact absurd h h2
      rw [if_neg h2]
      by_cases h4 : y.2.1 < x.2.1
      · rw [if_pos h4]; simp [h3, h4]
      · rw [if_neg h4]
        by_cases h5 : y.2.1 > x.2.1
        · rw [if_pos h5]; simp [h1, h4]
        · rw [if_neg h5]; simp [h1, h4]
abbrev ebv (x : Ent) : Value := .agg #[.string x.1, .int .i64 x.2.1, .int .i64 x.2.2.1, .string x.2.2.2]
abbrev ebo (x : Ent) : Obj := .cells #[.string x.1, .int .i64 x.2.1, .int .i64 x.2.2.1, .string x.2.2.2] 43
set_option maxRecDepth 100000 in
set_option maxHeartbeats 800000 in
theorem order_any (x y : Ent) (w : World) : Calls Try.prog 97 #[ebv x, ebv y] w fun e w' => e = .returned (.int .i64 (ordN x y)) ∧ Below w.heap.size w w' := by
  obtain ⟨k1, q1, d1, v1⟩ := x
  obtain ⟨k2, q2, d2, v2⟩ := y
  have hX := Eb.new w (k1, q1, d1, v1)
  have hX2 := hX.below (below_alloc (w.alloc (ebo (k1, q1, d1, v1))) (ebo (k2, q2, d2, v2)))
  have hY := Eb.new (w.alloc (ebo (k1, q1, d1, v1))) (k2, q2, d2, v2)
  have HB := ((Below.refl w.heap.size w).alloc (Nat.le_refl _) (ebo (k1, q1, d1, v1))).alloc (below_alloc w (ebo (k1, q1, d1, v1))).size (ebo (k2, q2, d2, v2))
  go_enter Try.func97, Try.ntmps97
  go_wp2
  obtain ⟨x0, x1, -, -, -, -, -, -⟩ := hX2.read
  obtain ⟨y0, y1, -, -, -, -, -, -⟩ := hY.read
  generalize hWo : (w.alloc (ebo (k1, q1, d1, v1))).alloc (ebo (k2, q2, d2, v2)) = Wo at *
  have HWo := hide hWo
  clear hWo hX2 hY hX
  have hs1 : (w.alloc (ebo (k1, q1, d1, v1))).heap.size = w.heap.size + 1 := World.size_alloc _ _
  rw [hs1] at y0 y1
  have l0 := World.block_lt_of_cell? _ _ x0
  have l1 := World.block_lt_of_cell? _ _ y0
  have l2 := World.block_lt_of_cell? _ _ x1
  have l3 := World.block_lt_of_cell? _ _ y1
  obtain ⟨p, hp⟩ : ∃ p, cmpS k1 k2 = p := ⟨_, rfl⟩
  obtain ⟨q, hq⟩ : ∃ q, Lib.compareInt q2 q1 = q := ⟨_, rfl⟩
  have C1 := fun W => cmpS_any k1 k2 W
  have C2 := fun W => cmp_Compare_int q2 q1 W
  rw [hp] at C1
  rw [hq] at C2
  have HR : ordN (k1, q1, d1, v1) (k2, q2, d2, v2) = or2 p q := by rw [ordN, hp, hq]
  have HRR := hide HR
  clear HR hp hq
  have hd : Below w.heap.size w Wo.drew := HB.drew
  have bA := below_alloc Wo.drew (.cells #[.int .i64 p, .int .i64 q] 3)
  have r0 : (Wo.drew.alloc (.cells #[.int .i64 p, .int .i64 q] 3)).heap[Wo.drew.heap.size]? = some (.cells #[.int .i64 p, .int .i64 q] 3 (0, 0)) := heap_alloc_new _ _
  have O1 := Or_any Wo.drew.heap.size p q _ (blk_cell r0 0) (blk_cell r0 1)
  have hda := hd.alloc hd.size (.cells #[.int .i64 p, .int .i64 q] 3)
  have hS0 : Wo.drew.cell? ⟨w.heap.size, 0, none⟩ = some (.string k1) ∧ Wo.drew.cell? ⟨w.heap.size, 1, none⟩ = some (.int .i64 q1) ∧ Wo.drew.cell? ⟨w.heap.size + 1, 0, none⟩ = some (.string k2) ∧ Wo.drew.cell? ⟨w.heap.size + 1, 1, none⟩ = some (.int .i64 q2) := ⟨x0, x1, y0, y1⟩
  have hS1 : (Wo.drew.alloc (.cells #[.int .i64 p, .int .i64 q] 3)).cell? ⟨w.heap.size, 0, none⟩ = some (.string k1) ∧ (Wo.drew.alloc (.cells #[.int .i64 p, .int .i64 q] 3)).cell? ⟨w.heap.size, 1, none⟩ = some (.int .i64 q1) ∧ (Wo.drew.alloc (.cells #[.int .i64 p, .int .i64 q] 3)).cell? ⟨w.heap.size + 1, 0, none⟩ = some (.string k2) ∧ (Wo.drew.alloc (.cells #[.int .i64 p, .int .i64 q] 3)).cell? ⟨w.heap.size + 1, 1, none⟩ = some (.int .i64 q2) := ⟨(bA.cell l0).trans x0, (bA.cell l2).trans x1, (bA.cell l1).trans y0, (bA.cell l3).trans y1⟩
  go_region_held3 (fun w' => w'.cell? ⟨w.heap.size, 0, none⟩ = some (.string k1) ∧ w'.cell? ⟨w.heap.size, 1, none⟩ = some (.int .i64 q1) ∧ w'.cell? ⟨w.heap.size + 1, 0, none⟩ = some (.string k2) ∧ w'.cell? ⟨w.heap.size + 1, 1, none⟩ = some (.int .i64 q2)) (first | exact hS0 | exact hS1 | assumption) (first | (go_at_call 92; (with_reducible refine (C1 _).mono ?_); rintro e w' ⟨rfl, rfl⟩) | (go_at_call 93; (with_reducible refine (C2 _).mono ?_); rintro e w' ⟨rfl, rfl⟩) | (go_at_call 91; (refine O1.mono ?_); rintro e w' ⟨rfl, rfl⟩))
  go_wp2
  go_ret
  exact ⟨by rw [HRR.out]; rfl, hda⟩
set_option maxRecDepth 100000 in
set_option maxHeartbeats 800000 in
theorem Before_any (x y : Ent) (w : World) : Calls Try.prog 63 #[ebv x, ebv y] w fun e w' => e = .returned (.bool (decide (befE x y))) ∧ Below w.heap.size w w' := by
  have hX := Eb.new w x
  have bY := below_alloc (w.alloc (ebo x)) (ebo y)
  have hX2 := hX.below bY
  have hY := Eb.new (w.alloc (ebo x)) y
  have HB := ((Below.refl w.heap.size w).alloc (Nat.le_refl _) (ebo x)).alloc (below_alloc w (ebo x)).size (ebo y)
  have hs1 : (w.alloc (ebo x)).heap.size = w.heap.size + 1 := World.size_alloc _ _
  obtain ⟨x0, x1, x2, x3, -, -, -, -⟩ := hX2.read
  obtain ⟨y0, y1, y2, y3, -, -, -, -⟩ := hY.read
  rw [hs1] at y0 y1 y2 y3
  have hO := fun W => order_any x y W
  have hneg := ordN_neg x y
  go_enter Try.func63, Try.ntmps63
  go_wp2_with (first | (go_at_call 97; (with_reducible refine (hO _).mono ?_); rintro e w1 ⟨rfl, HB1⟩))
  go_ret
  exact ⟨by rw [← hneg]; rfl, HB.trans (HB1.mono HB.size)⟩
end Go.Proofs.Ytefcepjffeiaoaa
end

section
/- Block: may versions be, in order: the program's, walked. -/
namespace Go.Proofs.Ytefcepjffeiaoaa
open Go.RowKit Go.Proofs.YtefcepjffeiaoaaW.PrintWords
set_option linter.unusedVariables false

set_option maxRecDepth 100000 in
set_option maxHeartbeats 1600000 in
theorem Ordered_any (A : Option Addr) (c n : Nat) (l : List Ent) (w : World) (hn : l.length = n) (hr : RdE w A c l) (hl : n ≤ 9223372036854775806) :
    Calls Try.prog 26 #[.slice A n c] w fun e w' => e = .returned (.int .i64 (ordE l)) ∧ Below w.heap.size w w' := by
  have HN := hide hn
  obtain ⟨R, hR⟩ : ∃ R, ordE l = R := ⟨_, rfl⟩
  have HR := hide hR
  rw [hR]
  clear hn hR
  go_enter Try.func26, Try.ntmps26
  go_wp2
  go_loopw [7] (fun i wr => ∃ k : Nat, k ≤ n ∧ i = .int .i64 (k : Int) ∧ R = ordL l (n - k) k ∧ Below w.heap.size w wr) (fun i _ => n - (intOf i).toNat)
  case atStart => exact ⟨0, Nat.zero_le _, rfl, by rw [← HR.out, ordE, HN.out]; rfl, Below.refl _ _⟩
  case round =>
    obtain ⟨k, hk, rfl, hres, HB⟩ := hrel
    by_cases hlt : k < n
    · have hlti : (k : Int) < (n : Int) := Int.ofNat_lt.2 hlt
      have hrr := hr.below HB
      obtain ⟨ad, rfl, x0, x1, x2, x3⟩ := RdE.at4 hrr k (by rw [HN.out]; exact hlt)
      rw [show n - k = (n - (k + 1)) + 1 by omega, ordL] at hres
      have hM := fun W => May_any (l.getD k zEnt) W
      obtain ⟨x, hx⟩ : ∃ x, l.getD k zEnt = x := ⟨_, rfl⟩
      rw [hx] at hres x0 x1 x2 x3 hM
      have hE := Eb.new wr x
      obtain ⟨y0, y1, y2, y3, -, -, -, -⟩ := hE.read
      have HB2 := HB.alloc HB.size (.cells #[.string x.1, .int .i64 x.2.1, .int .i64 x.2.2.1, .string x.2.2.2] 43)
      by_cases hm : mayE x
      · rw [if_neg (fun h => h hm)] at hres
        rw [decide_eq_true hm] at hM
        by_cases hk0 : k = 0
        · rw [if_neg (fun h => by omega)] at hres
          have hk0i : ¬ (0 : Int) < (k : Int) := by omega
          have hk0n : ¬ 0 < k := by omega
          have HRES := hide hres
          clear hres hk0
          go_wp2_with (first | (go_at_call 62; (with_reducible refine (hM _).mono ?_); rintro e w1 ⟨rfl, HB1⟩; have hE1 := hE.below HB1; have HB3 := HB2.trans (HB1.mono HB2.size)))
          refine wp_region_below w1.heap.size _ (Below.refl _ _) (by kernel_rfl) (by kernel_rfl) ?_
          repeat (go_big_quiet_step ((intro hb; rfl)))
          refine wpQuiet_nil ?_
          intro w5 HC5
          have HB5 := HB3.trans (HC5.mono HB3.size)
          go_wp2
          go_roundw
          case rel => exact ⟨k + 1, hlt, by go_num, HRES.out, HB5⟩
          case measure => simp [intOf]; omega
        · have hk0' : 0 < k := Nat.pos_of_ne_zero hk0
          have hk1 : wrap64 ((k : Int) - 1) = ((k - 1 : Nat) : Int) := by unfold wrap64; omega
          have hk2 : IntKind.i64.wrap ((k : Int) - 1) = ((k - 1 : Nat) : Int) := by rw [IntKind.wrap_i64]; omega
          have hk0i : (0 : Int) < (k : Int) := by omega
          obtain ⟨j, hj⟩ : ∃ j, k - 1 = j := ⟨_, rfl⟩
          rw [hj] at hk1 hk2 hres
          obtain ⟨ad', e', p0, p1, p2, p3⟩ := RdE.at4 hrr j (by rw [HN.out]; omega)
          cases e'
          obtain ⟨y, hy⟩ : ∃ y, l.getD j zEnt = y := ⟨_, rfl⟩
          rw [hy] at hres p0 p1 p2 p3
          have hBf := fun W => Before_any y x W
          have hjn : (j : Int) < (n : Int) := by omega
          have hjn2 : j < n := by omega
          by_cases hbf : befE y x
          · rw [if_neg (fun h => h.2 hbf)] at hres
            rw [decide_eq_true hbf] at hBf
            have HRES := hide hres
            clear hres hy hj hx
            go_wp2_with (first | (go_at_call 62; (with_reducible refine (hM _).mono ?_); rintro e w1 ⟨rfl, HB1⟩; have hE1 := hE.below HB1; have HB3 := HB2.trans (HB1.mono HB2.size); have bb := (below_alloc wr (.cells #[.string x.1, .int .i64 x.2.1, .int .i64 x.2.2.1, .string x.2.2.2] 43)).trans (HB1.mono (below_alloc wr (.cells #[.string x.1, .int .i64 x.2.1, .int .i64 x.2.2.1, .string x.2.2.2] 43)).size)))
            have t0 := (bb.cell (World.block_lt_of_cell? _ _ p0)).trans p0
            have t1 := (bb.cell (World.block_lt_of_cell? _ _ p1)).trans p1
            have t2 := (bb.cell (World.block_lt_of_cell? _ _ p2)).trans p2
            have t3 := (bb.cell (World.block_lt_of_cell? _ _ p3)).trans p3
            obtain ⟨u0, u1, u2_, u3, -, -, -, -⟩ := hE1.read
            have hd : Below w1.heap.size w1 w1.drew := (Below.refl _ _).drew
            have hSk : ∀ W, Below w1.heap.size w1 W → Below w1.heap.size w1 W ∧ W.cell? (ad.add (j * 4)) = some (.string y.1) ∧ W.cell? ⟨(ad.add (j * 4)).block, (ad.add (j * 4)).off + 1, none⟩ = some (.int .i64 y.2.1) ∧ W.cell? ⟨(ad.add (j * 4)).block, (ad.add (j * 4)).off + 2, none⟩ = some (.int .i64 y.2.2.1) ∧ W.cell? ⟨(ad.add (j * 4)).block, (ad.add (j * 4)).off + 3, none⟩ = some (.string y.2.2.2) ∧ W.cell? ⟨wr.heap.size, 0, none⟩ = some (.string x.1) ∧ W.cell? ⟨wr.heap.size, 1, none⟩ = some (.int .i64 x.2.1) ∧ W.cell? ⟨wr.heap.size, 2, none⟩ = some (.int .i64 x.2.2.1) ∧ W.cell? ⟨wr.heap.size, 3, none⟩ = some (.string x.2.2.2) := fun W h => ⟨h, (h.cell (World.block_lt_of_cell? _ _ t0)).trans t0, (h.cell (World.block_lt_of_cell? _ _ t1)).trans t1, (h.cell (World.block_lt_of_cell? _ _ t2)).trans t2, (h.cell (World.block_lt_of_cell? _ _ t3)).trans t3, (h.cell (World.block_lt_of_cell? _ _ u0)).trans u0, (h.cell (World.block_lt_of_cell? _ _ u1)).trans u1, (h.cell (World.block_lt_of_cell? _ _ u2_)).trans u2_, (h.cell (World.block_lt_of_cell? _ _ u3)).trans u3⟩
            have hS0 := hSk _ hd
            go_region_held3 (fun w' => Below w1.heap.size w1 w' ∧ w'.cell? (ad.add (j * 4)) = some (.string y.1) ∧ w'.cell? ⟨(ad.add (j * 4)).block, (ad.add (j * 4)).off + 1, none⟩ = some (.int .i64 y.2.1) ∧ w'.cell? ⟨(ad.add (j * 4)).block, (ad.add (j * 4)).off + 2, none⟩ = some (.int .i64 y.2.2.1) ∧ w'.cell? ⟨(ad.add (j * 4)).block, (ad.add (j * 4)).off + 3, none⟩ = some (.string y.2.2.2) ∧ w'.cell? ⟨wr.heap.size, 0, none⟩ = some (.string x.1) ∧ w'.cell? ⟨wr.heap.size, 1, none⟩ = some (.int .i64 x.2.1) ∧ w'.cell? ⟨wr.heap.size, 2, none⟩ = some (.int .i64 x.2.2.1) ∧ w'.cell? ⟨wr.heap.size, 3, none⟩ = some (.string x.2.2.2)) (first | exact hS0 | exact hSk _ HBt | assumption) (first | (go_at_call 63; (with_reducible refine (hBf _).mono ?_); rintro e w6 ⟨rfl, HB6'⟩; have HBt := hd.trans (HB6'.mono hd.size); have HB6 := HB3.trans (HBt.mono HB3.size)))
            go_wp2
            go_roundw
            case rel => exact ⟨k + 1, hlt, by go_num, HRES.out, HB6⟩
            case measure => simp [intOf]; omega
          · rw [if_pos ⟨hk0', hbf⟩] at hres
            rw [decide_eq_false hbf] at hBf
            subst hres
            clear hy hj hx
            go_wp2_with (first | (go_at_call 62; (with_reducible refine (hM _).mono ?_); rintro e w1 ⟨rfl, HB1⟩; have hE1 := hE.below HB1; have HB3 := HB2.trans (HB1.mono HB2.size); have bb := (below_alloc wr (.cells #[.string x.1, .int .i64 x.2.1, .int .i64 x.2.2.1, .string x.2.2.2] 43)).trans (HB1.mono (below_alloc wr (.cells #[.string x.1, .int .i64 x.2.1, .int .i64 x.2.2.1, .string x.2.2.2] 43)).size)))
            have t0 := (bb.cell (World.block_lt_of_cell? _ _ p0)).trans p0
            have t1 := (bb.cell (World.block_lt_of_cell? _ _ p1)).trans p1
            have t2 := (bb.cell (World.block_lt_of_cell? _ _ p2)).trans p2
            have t3 := (bb.cell (World.block_lt_of_cell? _ _ p3)).trans p3
            obtain ⟨u0, u1, u2_, u3, -, -, -, -⟩ := hE1.read
            have hd : Below w1.heap.size w1 w1.drew := (Below.refl _ _).drew
            have hSk : ∀ W, Below w1.heap.size w1 W → Below w1.heap.size w1 W ∧ W.cell? (ad.add (j * 4)) = some (.string y.1) ∧ W.cell? ⟨(ad.add (j * 4)).block, (ad.add (j * 4)).off + 1, none⟩ = some (.int .i64 y.2.1) ∧ W.cell? ⟨(ad.add (j * 4)).block, (ad.add (j * 4)).off + 2, none⟩ = some (.int .i64 y.2.2.1) ∧ W.cell? ⟨(ad.add (j * 4)).block, (ad.add (j * 4)).off + 3, none⟩ = some (.string y.2.2.2) ∧ W.cell? ⟨wr.heap.size, 0, none⟩ = some (.string x.1) ∧ W.cell? ⟨wr.heap.size, 1, none⟩ = some (.int .i64 x.2.1) ∧ W.cell? ⟨wr.heap.size, 2, none⟩ = some (.int .i64 x.2.2.1) ∧ W.cell? ⟨wr.heap.size, 3, none⟩ = some (.string x.2.2.2) := fun W h => ⟨h, (h.cell (World.block_lt_of_cell? _ _ t0)).trans t0, (h.cell (World.block_lt_of_cell? _ _ t1)).trans t1, (h.cell (World.block_lt_of_cell? _ _ t2)).trans t2, (h.cell (World.block_lt_of_cell? _ _ t3)).trans t3, (h.cell (World.block_lt_of_cell? _ _ u0)).trans u0, (h.cell (World.block_lt_of_cell? _ _ u1)).trans u1, (h.cell (World.block_lt_of_cell? _ _ u2_)).trans u2_, (h.cell (World.block_lt_of_cell? _ _ u3)).trans u3⟩
            have hS0 := hSk _ hd
            go_region_held3 (fun w' => Below w1.heap.size w1 w' ∧ w'.cell? (ad.add (j * 4)) = some (.string y.1) ∧ w'.cell? ⟨(ad.add (j * 4)).block, (ad.add (j * 4)).off + 1, none⟩ = some (.int .i64 y.2.1) ∧ w'.cell? ⟨(ad.add (j * 4)).block, (ad.add (j * 4)).off + 2, none⟩ = some (.int .i64 y.2.2.1) ∧ w'.cell? ⟨(ad.add (j * 4)).block, (ad.add (j * 4)).off + 3, none⟩ = some (.string y.2.2.2) ∧ w'.cell? ⟨wr.heap.size, 0, none⟩ = some (.string x.1) ∧ w'.cell? ⟨wr.heap.size, 1, none⟩ = some (.int .i64 x.2.1) ∧ w'.cell? ⟨wr.heap.size, 2, none⟩ = some (.int .i64 x.2.2.1) ∧ w'.cell? ⟨wr.heap.size, 3, none⟩ = some (.string x.2.2.2)) (first | exact hS0 | exact hSk _ HBt | assumption) (first | (go_at_call 63; (with_reducible refine (hBf _).mono ?_); rintro e w6 ⟨rfl, HB6'⟩; have HBt := hd.trans (HB6'.mono hd.size); have HB6 := HB3.trans (HBt.mono HB3.size)))
            go_wp2
            go_ret
            exact ⟨rfl, HB6⟩
      · rw [if_pos hm] at hres
        rw [decide_eq_false hm] at hM
        subst hres
        clear hx
        go_wp2_with (first | (go_at_call 62; (with_reducible refine (hM _).mono ?_); rintro e w1 ⟨rfl, HB1⟩; have HB3 := HB2.trans (HB1.mono HB2.size)))
        go_ret
        exact ⟨rfl, HB3⟩
    · obtain rfl : k = n := Nat.le_antisymm hk (Nat.not_lt.1 hlt)
      rw [Nat.sub_self, ordL] at hres
      subst hres
      go_wp2
      go_ret
      exact ⟨rfl, HB⟩
theorem Check_any (A : Option Addr) (c n : Nat) (l : List Ent) (w : World) (hn : l.length = n) (hr : RdE w A c l) (hl : n ≤ 9223372036854775806) :
    Calls Try.prog 65 #[.slice A n c] w fun e w' => e = .returned (.int .i64 (chkE l)) ∧ Below w.heap.size w w' := by
  have hO := fun W (h : RdE W A c l) => Ordered_any A c n l W hn h hl
  have hz : chkE l = if n < 1 ∨ 64 < n then 3 else ordE l := by rw [chkE, hn]
  rw [hz]
  clear hz hn
  by_cases h1 : n < 1
  · rw [if_pos (.inl h1)]
    have h1i : (n : Int) < 1 := by omega
    go_enter Try.func65, Try.ntmps65
    go_wp2
    go_ret
    exact ⟨rfl, Below.refl _ _⟩
  · have h1i : ¬ (n : Int) < 1 := by omega
    by_cases h2 : 64 < n
    · rw [if_pos (.inr h2)]
      have h2i : 64 < (n : Int) := by omega
      go_enter Try.func65, Try.ntmps65
      go_wp2
      go_ret
      exact ⟨rfl, Below.refl _ _⟩
    · rw [if_neg (by omega)]
      have h2i : ¬ 64 < (n : Int) := by omega
      generalize ordE l = z at *
      go_enter Try.func65, Try.ntmps65
      go_wp2_with (first | (go_at_call 26; (with_reducible refine (hO _ hr).mono ?_); rintro e w1 ⟨rfl, HB1⟩))
      go_ret
      exact ⟨rfl, HB1⟩
end Go.Proofs.Ytefcepjffeiaoaa
end

section
/- Block: how much two keys have in common, walked. -/
namespace Go.Proofs.Ytefcepjffeiaoaa
open Go.RowKit Go.Proofs.YtefcepjffeiaoaaW.PrintWords
set_option linter.unusedVariables false

theorem bl_at (s : ByteArray) (i : Nat) (h : i < s.size) : (bl s).getD i 0 = s[i]'h := by
  have hl : i < (bl s).length := by rw [bl_length]; exact h
  rw [List.getD_eq_getElem?_getD, List.getElem?_eq_getElem hl]
  rfl
set_option maxRecDepth 100000 in
set_option maxHeartbeats 1600000 in
theorem common_any (a b : ByteArray) (w : World) (ha : a.size ≤ 9223372036854775806) (hb : b.size ≤ 9223372036854775806) :
    Calls Try.prog 66 #[.string a, .string b] w fun e w' => e = .returned (.int .i64 ((comm (bl a) (bl b) : Nat) : Int)) ∧ Below w.heap.size w w' := by
  obtain ⟨R, hR⟩ : ∃ R, comm (bl a) (bl b) = R := ⟨_, rfl⟩
  have HR := hide hR
  rw [hR]
  clear hR
  obtain ⟨M, hM⟩ : ∃ M, min a.size b.size = M := ⟨_, rfl⟩
  have hMi : min (a.size : Int) (b.size : Int) = (M : Int) := by omega
  have HM := hide hM
  clear hM
  go_enter Try.func66, Try.ntmps66
  go_wp2
  go_loopw [5] (fun i wr => ∃ j : Nat, j ≤ M ∧ i = .int .i64 (j : Int) ∧ R = j + comm ((bl a).drop j) ((bl b).drop j) ∧ Below w.heap.size w wr) (fun i _ => M - (intOf i).toNat)
  case atStart => exact ⟨0, Nat.zero_le _, rfl, by rw [← HR.out, List.drop_zero, List.drop_zero, Nat.zero_add], Below.refl _ _⟩
  case round =>
    obtain ⟨j, hj, rfl, hres, HB⟩ := hrel
    by_cases hlt : j < M
    · have hlti : (j : Int) < (M : Int) := Int.ofNat_lt.2 hlt
      have h1 : j < a.size := by have := HM.out; omega
      have h2 : j < b.size := by have := HM.out; omega
      have h1i : (j : Int) < (a.size : Int) := Int.ofNat_lt.2 h1
      have h2i : (j : Int) < (b.size : Int) := Int.ofNat_lt.2 h2
      have e1 := drop_get (bl a) 0 j (by rw [bl_length]; exact h1)
      have e2 := drop_get (bl b) 0 j (by rw [bl_length]; exact h2)
      rw [e1, e2, comm, bl_at a j h1, bl_at b j h2] at hres
      clear e1 e2
      by_cases hab : a[j]'h1 = b[j]'h2
      · have hq : (((a[j]'h1).toNat : Int) == ((b[j]'h2).toNat : Int)) = true := by rw [hab]; simp
        rw [if_pos hab] at hres
        have hres2 : R = (j + 1) + comm ((bl a).drop (j + 1)) ((bl b).drop (j + 1)) := by rw [hres]; omega
        have HRES := hide hres2
        clear hres hres2 hab
        go_wp2
        go_region_held3 (fun w' => Below w.heap.size w w') (first | exact HB.drew | assumption) (first | (go_at_call 77))
        all_goals go_wp2
        all_goals go_roundw
        all_goals first | exact ⟨j + 1, hlt, by go_num, HRES.out, HB.drew⟩ | (simp [intOf]; omega)
      · have hq : (((a[j]'h1).toNat : Int) == ((b[j]'h2).toNat : Int)) = false := beq_eq_false_iff_ne.2 (fun e => hab (UInt8.toNat_inj.1 (Int.ofNat_inj.1 e)))
        rw [if_neg hab, Nat.add_zero] at hres
        subst hres
        clear hab
        go_wp2
        go_region_held3 (fun w' => Below w.heap.size w w') (first | exact HB.drew | assumption) (first | (go_at_call 77))
        all_goals go_wp2
        all_goals go_ret
        all_goals exact ⟨rfl, HB.drew⟩
    · obtain rfl : j = M := Nat.le_antisymm hj (Nat.not_lt.1 hlt)
      have hres2 : R = j := by
        have hm := HM.out
        rw [hres]
        have : comm ((bl a).drop j) ((bl b).drop j) = 0 := by
          rcases Nat.le_total a.size b.size with h | h
          · have : (bl a).drop j = [] := List.drop_eq_nil_iff.2 (by rw [bl_length]; omega)
            rw [this]; rfl
          · have : (bl b).drop j = [] := List.drop_eq_nil_iff.2 (by rw [bl_length]; omega)
            rw [this]; cases (bl a).drop j <;> rfl
        rw [this, Nat.add_zero]
      clear hres
      subst hres2
      go_wp2
      refine wp_region_below w.heap.size w HB (by kernel_rfl) (by kernel_rfl) ?_
      repeat (go_big_quiet_step ((intro hb; rfl)))
      refine wpQuiet_nil ?_
      intro w5 HC5
      go_wp2
      go_ret
      exact ⟨rfl, HC5⟩
end Go.Proofs.Ytefcepjffeiaoaa
end

section
/- Block: octets and texts appended, and where the row then lies; rows apart. -/
namespace Go.Proofs.Ytefcepjffeiaoaa
open Go.RowKit Go.Proofs.YtefcepjffeiaoaaW.PrintWords
set_option linter.unusedVariables false

/-- two rows that do not share their block -/
def Dis (v v' : Value) : Prop := ∀ k, v.ownBlock = some k → v'.ownBlock ≠ some k
theorem Dis.nil (v' : Value) : Dis (.slice none 0 0) v' := fun k h => by cases h
theorem Dis.symm {v v' : Value} (h : Dis v v') : Dis v' v := fun k h1 h2 => h k h2 h1
theorem Dis.step {W : World} {base : Nat} {v v1 vt : Value} {xs : List UInt8} (D : Dis v vt) (hat : v1.ownBlock = v.ownBlock ∨ ∃ b, v1.ownBlock = some b ∧ W.heap.size ≤ b) (h : OwB W base vt xs) : Dis v1 vt := by
  intro k hk h2
  rcases hat with e | ⟨b, e, hb⟩
  · exact D k (e ▸ hk) h2
  · have := h.lt k h2
    rw [e] at hk
    injection hk with hk
    omega
theorem OwB.apart {w w1 : World} {base : Nat} {v vt : Value} {xs : List UInt8} (h : OwB w base vt xs) (D : Dis v vt) (hg : w.grownBy w1 v.ownBlock) : OwB w1 base vt xs :=
  own_other h hg (by
    cases hv : vt.ownBlock with
    | none => exact .inl rfl
    | some k => exact .inr fun e => D k e.symm hv)
theorem str_hat {P : Program} (w : World) (base : Nat) (t u ty e : TypeId) (i : TypeInfo) (ht : P.underlying t = some (.slice e)) (hu : P.underlying u = some .string) (hi : P.info? e = some i) (hz : i.zero = some (.int .u8 0))
    (hsize : i.size = 1) (hby : i.bytes = 1) (v : Value) (n : Nat) (xs : List Value) (hown : w.ownsRow base e 1 v n xs) (s : ByteArray) (h63 : n + s.size ≤ maxLen) (hbytes : n + s.size ≤ 140737488355328)
    (v' : Value) (w' : World) (hr : (Builtin.append_ #[t, u] ty #[v, .string s]).run P w = .ok v' w') : v'.ownBlock = v.ownBlock ∨ ∃ b, v'.ownBlock = some b ∧ w.heap.size ≤ b := by
  have hsmall : n + s.size ≤ 9223372036854775807 := by simp only [maxLen] at h63; omega
  have hxl : xs.length = n := by simpa using hown.1
  rcases hown.2 with ⟨rfl, rfl⟩ | ⟨g, cap, cur, rfl, hbg, hg, hnc, hcm, hcs, htake⟩
  · by_cases hm : s.size = 0
    · have hf := Lib.run_firstCells_string (P := P) w 1 s
      rw [hm] at hf
      simp [Builtin.append_, run_underlying ht, run_underlying hu, sizeOf, typeInfo, hi, hsize, Builtin.lenOf, hm, hf] at hr
      rw [← hr.1]
      exact .inl rfl
    · have h2 := run_append_nil_string (P := P) w t u ty e i (.int .u8 0) ht hu hi hz s (by omega) (by omega) (by rw [hby]; omega)
      rw [h2] at hr
      injection hr with h3 h4
      rw [← h3]
      exact .inr ⟨w.heap.size, rfl, Nat.le_refl _⟩
  · by_cases hroom : n + s.size ≤ cap
    · have hcs' : cur.size = cap := by simpa using hcs
      have h2 := Lib.run_append_room_string (P := P) w t u ty e i ht hu hi hsize g n cap cur hg s hroom (by omega)
      rw [h2] at hr
      injection hr with h3 h4
      rw [← h3]
      exact .inl rfl
    · have holds : ∀ j u, xs[j]? = some u → w.cell? ((⟨g, 0, none⟩ : Addr).add j) = some u := hown.cells (g := g) rfl
      have h2 := Lib.run_append_grow_string (P := P) w t u ty e i (.int .u8 0) ht hu hi hz ⟨g, 0, none⟩ n cap xs (by rw [hsize]; simpa using hxl) holds s (by omega) (by omega) (by rw [hby]; exact growslice_fits (by omega) (by omega))
      rw [h2] at hr
      injection hr with h3 h4
      rw [← h3]
      exact .inr ⟨w.heap.size, rfl, Nat.le_refl _⟩
set_option maxRecDepth 100000 in
/-- a text appended: the run -/
theorem str_run {w0 W : World} (base : Nat) (ty : TypeId) (v : Value) (xs : List UInt8) (y : ByteArray) (HO : OwB W base v xs) (HB : Below base w0 W) (hbase : base ≤ W.heap.size) (hl : xs.length + y.size ≤ 140737488355328) :
    ∃ v1 w1, (Builtin.append_ #[23, 9] ty #[v, .string y]).run Try.prog W = .ok v1 w1 ∧ OwB w1 base v1 (xs ++ bl y) ∧ Below base w0 w1 ∧ W.grownBy w1 v.ownBlock ∧ (v1.ownBlock = v.ownBlock ∨ ∃ b, v1.ownBlock = some b ∧ W.heap.size ≤ b) := by
  obtain ⟨i0, hi, hzz⟩ := Option.map_eq_some_iff.1 info_u8
  simp only [Prod.mk.injEq] at hzz
  obtain ⟨hz0, hz1, hz2⟩ := hzz
  have HO' : W.ownsRow base 5 1 v xs.length (nums .u8 (xs.map fun b => (b.toNat : Int))) := by rw [nums_eu8]; exact HO
  obtain ⟨v1, w1, hr, h2, h3, -⟩ := Lib.run_append_own_string (P := Try.prog) W base 23 9 ty 5 i0 Try.underlying23 Try.underlying9 hi hz0 hz1 hz2 v xs.length _ HO' y (by simp only [maxLen]; omega) hl hbase
  have hat := str_hat (P := Try.prog) W base 23 9 ty 5 i0 Try.underlying23 Try.underlying9 hi hz0 hz1 hz2 v xs.length _ HO' y (by simp only [maxLen]; omega) hl v1 w1 hr
  refine ⟨v1, w1, hr, ?_, HB.grown h3 hbase (own_base HO), h3, hat⟩
  have hl2 : (xs ++ bl y).length = xs.length + y.size := by rw [List.length_append, bl_length]
  have hc : nums .u8 (xs.map fun b => (b.toNat : Int)) ++ Lib.strCells y = nums .u8 ((xs ++ bl y).map fun b => (b.toNat : Int)) := by
    rw [List.map_append, nums_append]
    congr 1
    simp [nums, bl, Lib.strCells]
  rw [hc, ← hl2] at h2
  rw [nums_eu8] at h2
  exact h2
section
variable {ops : Array Oper} {rest : List Oper} {o : Oper} {a : Act} {Q : Exit → Act → World → Prop} {K : Act → World → Prop}
theorem step_strH {w0 W : World} (base : Nat) (hw : Region.wanted o (yielded ops a.tmps) = true) (s x : Operand)
    (ho : o.op = .call { callee := .builtin .append, args := #[s, x], argTypes := #[23, 9] })
    (v : Value) (xs : List UInt8) (y : ByteArray) (hs : a.eval s = v) (hx : a.eval x = .string y)
    (HO : OwB W base v xs) (HB : Below base w0 W) (hbase : base ≤ W.heap.size) (hl : xs.length + y.size ≤ 140737488355328)
    (h : ∀ v1 w1, OwB w1 base v1 (xs ++ bl y) → Below base w0 w1 → W.grownBy w1 v.ownBlock → (v1.ownBlock = v.ownBlock ∨ ∃ b, v1.ownBlock = some b ∧ W.heap.size ≤ b) → K (a.put o.dst v1) w1) :
    if Region.wanted o (yielded ops a.tmps) = true then Oper.wp Try.prog o a W K Q else K (a.put o.dst undef) W := by
  rw [if_pos hw]
  obtain ⟨v1, w1, hr, h1, h2, h3, h4⟩ := str_run (w0 := w0) base o.type v xs y HO HB hbase hl
  unfold Oper.wp execOp
  simp only [ho, resolve, invoke, builtin, Sem.run_bind, Sem.run_pure, Result.andThen_ok, List.map_toArray, List.map_cons, List.map_nil, hs, hx, hr]
  exact h v1 w1 h1 h2 h3 h4
theorem step_rowH {w0 W : World} (base : Nat) (hw : Region.wanted o (yielded ops a.tmps) = true) (s x : Operand)
    (ho : o.op = .call { callee := .builtin .append, args := #[s, x], argTypes := #[23, 23] })
    (v : Value) (xs ys : List UInt8) (A : Option Addr) (c : Nat) (hs : a.eval s = v) (hx : a.eval x = .slice A ys.length c)
    (HO : OwB W base v xs) (HR : RdB W A c ys) (HB : Below base w0 W) (hbase : base ≤ W.heap.size) (hl : xs.length + ys.length ≤ 140737488355328)
    (h : ∀ v1 w1, OwB w1 base v1 (xs ++ ys) → Below base w0 w1 → W.grownBy w1 v.ownBlock → (v1.ownBlock = v.ownBlock ∨ ∃ b, v1.ownBlock = some b ∧ W.heap.size ≤ b) → K (a.put o.dst v1) w1) :
    if Region.wanted o (yielded ops a.tmps) = true then Oper.wp Try.prog o a W K Q else K (a.put o.dst undef) W :=
  Kd.R_append_rows_step kU8 (Rr := fun (x : UInt8) cs => cs = [eu8 x]) base hw s x 23 5 (.int .u8 0) 1 ho Try.underlying23 info_u8 rfl (by decide) (by decide) v xs ys A ys.length c (fun _ => True) (fun _ => False) hs hx
    (Kd.R_of_own HO (fun _ _ => trivial)) (rrow_of HR.2) (fun _ _ h => h) (fun _ h => h.elim) (fun _ _ => trivial) HB hbase (by omega) (fun v1 w1 h1 h2 h3 h4 => h v1 w1 (Kd.own_of_R h1) h2 h3 h4)
end
end Go.Proofs.Ytefcepjffeiaoaa
end

section
/- Block: three texts of octets put together. -/
namespace Go.Proofs.Ytefcepjffeiaoaa
open Go.RowKit Go.Proofs.YtefcepjffeiaoaaW.PrintWords
set_option linter.unusedVariables false

/-- of three, laid out for the call -/
theorem Concat_three (A1 A2 A3 : Option Addr) (c1 c2 c3 n1 n2 n3 n : Nat) (x1 x2 x3 : List UInt8) (W : World) (hn : W.heap.size = n) (h1 : RdB W A1 c1 x1) (h2 : RdB W A2 c2 x2) (h3 : RdB W A3 c3 x3) (l1 : x1.length = n1) (l2 : x2.length = n2) (l3 : x3.length = n3) (ht : x1.length + x2.length + x3.length ≤ 140737488355328) :
    Calls Try.prog 29 #[.slice (some ⟨n, 0, none⟩) 3 3] (W.alloc (.cells #[.slice A1 n1 c1, .slice A2 n2 c2, .slice A3 n3 c3] 23)) fun e w' => ∃ v, e = .returned v ∧ OwB w' W.heap.size v (x1 ++ (x2 ++ x3)) ∧ Below W.heap.size W w' := by
  subst hn
  subst l1
  subst l2
  subst l3
  have hb : Below W.heap.size W (W.alloc (.cells #[.slice A1 x1.length c1, .slice A2 x2.length c2, .slice A3 x3.length c3] 23)) := (Below.refl _ _).alloc (Nat.le_refl _) _
  refine (Concat_any (some ⟨W.heap.size, 0, none⟩) 3 [(A1, c1, x1), (A2, c2, x2), (A3, c3, x3)] _ ⟨rfl, by simp, fun _ => ⟨_, rfl, fun j hj => ?_⟩⟩ ?_ (by simp [total]; omega)).mono ?_
  · rw [add_plain, World.cell?_alloc_mark]
    have : j = 0 ∨ j = 1 ∨ j = 2 := by simp at hj; omega
    rcases this with rfl | rfl | rfl <;> rfl
  · intro s hs
    simp only [List.mem_cons, List.not_mem_nil, or_false] at hs
    rcases hs with rfl | rfl | rfl
    · exact h1.below hb
    · exact h2.below hb
    · exact h3.below hb
  · rintro e w' ⟨v, rfl, HO, HB⟩
    exact ⟨v, rfl, by simpa [joined] using HO.lower (by simp), hb.trans (HB.mono (by simp))⟩
end Go.Proofs.Ytefcepjffeiaoaa
end

section
/- Block: the walk of Encode. -/
namespace Go.Proofs.Ytefcepjffeiaoaa
open Go.RowKit Go.Proofs.YtefcepjffeiaoaaW.PrintWords
set_option linter.unusedVariables false

theorem keep_last (l : List Ent) (k : Nat) (s : ByteArray) (h : k % 4 ≠ 0 → s = (l.getD (k - 1) zEnt).1) (hk : k % 4 ≠ 0) : comm (bl s) (bl (l.getD k zEnt).1) = keepE l k := by rw [keepE, if_neg hk, h hk]
theorem keep_zero (l : List Ent) (k : Nat) (hk : k % 4 = 0) : comm (bl ⟨#[]⟩) (bl (l.getD k zEnt).1) = keepE l k := by rw [keepE, if_pos hk]; rfl
theorem rem4 (k : Nat) : (k : Int).tmod 4 = ((k % 4 : Nat) : Int) := by rw [Int.tmod_eq_emod_of_nonneg (by omega)]; omega
/-- a version that may be, in natural numbers -/
theorem may_nat (y : Ent) (h : mayE y) : ∃ (xk xv : ByteArray) (qn : Nat) (kd : UInt8), y = (xk, (qn : Int), (kd.toNat : Int), xv) ∧ xk.size ≤ 96 ∧ xv.size ≤ 512 ∧ qn ≤ 1099511627776 := by
  obtain ⟨k, q, d, v⟩ := y
  obtain ⟨h1, h2, h3, h4, h5, h6, h7⟩ := h
  simp only at h1 h2 h3 h4 h5 h6 h7
  refine ⟨k, v, q.toNat, UInt8.ofNat d.toNat, ?_, h2, h6, by omega⟩
  have e1 : ((q.toNat : Nat) : Int) = q := by omega
  have e2 : ((UInt8.ofNat d.toNat).toNat : Int) = d := by rcases h5 with h | h <;> rw [h] <;> rfl
  rw [e1, e2]
/-- the numbers ahead of a version -/
def preE (q sq qn vn : Nat) : Nat → List UInt8
  | 0 => []
  | 1 => put q
  | 2 => put q ++ put sq
  | 3 => put q ++ put sq ++ put qn
  | _ => put q ++ put sq ++ put qn ++ put vn
theorem preE_le (q sq qn vn m : Nat) : (preE q sq qn vn m).length ≤ 36 := by
  have h1 := vsize_le q
  have h2 := vsize_le sq
  have h3 := vsize_le qn
  have h4 := vsize_le vn
  unfold preE
  split <;> simp only [List.length_append, put_length, List.length_nil] <;> omega
theorem wrap_u8n (t : UInt8) : IntKind.u8.wrap (t.toNat : Int) = (t.toNat : Int) := by have := t.toNat_lt; rw [IntKind.wrap_u8]; omega
theorem u8_hi (lb : Nat) (h : lb ≤ 65535) : (lb : Int) / 256 = ((UInt8.ofNat (lb / 256)).toNat : Int) := by rw [UInt8.toNat_ofNat']; omega
theorem u8_lo (lb : Nat) : (lb : Int) % 256 = ((UInt8.ofNat lb).toNat : Int) := by rw [UInt8.toNat_ofNat']; omega
theorem Eb.aside {w w1 : World} {g : Nat} {x : Ent} (h : Eb w g x) {base : Nat} {v : Value} {xs : List UInt8} (HO : OwB w base v xs) (hg : w.grownBy w1 v.ownBlock) : Eb w1 g x := h.grown hg (own_ne HO h (by decide))
theorem ext_drop (s : ByteArray) (q : Nat) : bl (s.extract q s.size) = (bl s).drop q := by
  simp [bl]
  rw [List.take_of_length_le]
  rw [List.length_drop, Array.length_toList]
  exact Nat.le_refl _
theorem idx4 (a b c d : Value) (W : World) : (Instr.index 100 (.agg #[a, b, c, d]) (.int .i64 0)).run Try.prog W = .ok a W ∧ (Instr.index 100 (.agg #[a, b, c, d]) (.int .i64 1)).run Try.prog W = .ok b W ∧ (Instr.index 100 (.agg #[a, b, c, d]) (.int .i64 2)).run Try.prog W = .ok c W ∧ (Instr.index 100 (.agg #[a, b, c, d]) (.int .i64 3)).run Try.prog W = .ok d W := by
  have hs : (Try.prog.info? 3).map (·.size) = some 1 := by kernel_rfl
  obtain ⟨i0, hi, h1⟩ := Option.map_eq_some_iff.1 hs
  refine ⟨?_, ?_, ?_, ?_⟩ <;> simp [Instr.index, run_underlying Try.underlying100, asIntOf, go_sem, sizeOf, typeInfo, hi, h1]
set_option maxRecDepth 100000 in
set_option maxHeartbeats 6400000 in
theorem Encode_any (A : Option Addr) (c n : Nat) (l : List Ent) (w : World) (hn : l.length = n) (hr : RdE w A c l) (hl : n ≤ 9223372036854775806) :
    Calls Try.prog 28 #[.slice A n c] w fun e w' => ∃ v, e = .returned (.tuple #[v, .int .i64 (chkE l)]) ∧ OwB w' w.heap.size v (blkX l) ∧ Below w.heap.size w w' := by
  have hC := Check_any A c n l w hn hr hl
  by_cases hz : chkE l = 0
  · obtain ⟨hn1, hn2, ho⟩ := chkE_ok l hz
    rw [hz] at hC
    have hX : blkX l = guarded (blkB l) := by rw [blkX, if_pos hz]
    rw [hz, hX]
    have HX := hide hX
    rw [hn] at hn1 hn2
    have HN := hide hn
    have HO_ := hide ho
    clear hz hX hn ho
    go_enter Try.func28, Try.ntmps28
    go_wp2_with (first | (go_at_call 65; (with_reducible refine hC.mono ?_); rintro e w1 ⟨rfl, HB1⟩))
    clear hC
    go_loopw [20, 5, 6, 7] (fun i vb vt la wr => ∃ (k : Nat) (s : ByteArray), k ≤ n ∧ i = .int .i64 (k : Int) ∧ OwB wr w.heap.size vb (entsB l k) ∧ OwB wr w.heap.size vt (tailB l k) ∧ Dis vb vt ∧ la = .string s ∧ (k % 4 ≠ 0 → s = (l.getD (k - 1) zEnt).1) ∧ s.size ≤ 96 ∧ Below w.heap.size w wr) (fun i _ _ _ _ => n - (intOf i).toNat)
    case atStart => exact ⟨0, ⟨#[]⟩, Nat.zero_le _, rfl, OwB.zero _ _, OwB.zero _ _, Dis.nil _, rfl, fun h => absurd rfl h, Nat.zero_le _, HB1⟩
    case round =>
      obtain ⟨k, s, hk, rfl, HOb, HOt, HD, rfl, hs, hsz, HB⟩ := hrel
      obtain ⟨wo, rfl⟩ : ∃ z : World, z = wr := ⟨wr, rfl⟩
      obtain ⟨Ab, cb, hvb, hrb⟩ := HOb.rd
      subst hvb
      obtain ⟨At, ct, hvt, hrt⟩ := HOt.rd
      subst hvt
      by_cases hlt : k < n
      · have hlti : (k : Int) < (n : Int) := Int.ofNat_lt.2 hlt
        obtain ⟨ad, rfl, x0, x1, x2, x3⟩ := RdE.at4 (hr.below HB) k (by rw [HN.out]; exact hlt)
        obtain ⟨hm, -⟩ := ordE_may l HO_.out k (by rw [HN.out]; exact hlt)
        have hkl := keep_last l k s hs
        have hkz := keep_zero l k
        obtain ⟨kp1, kp2, kp3⟩ := keepE_le l k
        have htl : tailB l (k + 1) = if k % 4 = 0 then tailB l k ++ [UInt8.ofNat ((entsB l k).length / 256), UInt8.ofNat (entsB l k).length] else tailB l k := rfl
        have hel : entsB l (k + 1) = entsB l k ++ entB (keepE l k) (l.getD k zEnt) := rfl
        have hlb := entsB_length l HO_.out k (by rw [HN.out]; exact hk)
        have hltl := tailB_length l k
        obtain ⟨xk, xv, qn, kd, hx, hxk, hxv, hqn⟩ := may_nat _ hm
        have HXK := hide hx
        rw [hx] at hm hkl hkz kp1 x0 x1 x2 x3 hel
        simp only at hm hkl hkz kp1 x0 x1 x2 x3 hel
        obtain ⟨q, hq⟩ : ∃ q, keepE l k = q := ⟨_, rfl⟩
        rw [hq] at kp1 hkl hkz hel
        obtain ⟨lb, hlbe⟩ : ∃ lb, (entsB l k).length = lb := ⟨_, rfl⟩
        obtain ⟨lt, hlte⟩ : ∃ lt, (tailB l k).length = lt := ⟨_, rfl⟩
        obtain ⟨xs, hxs⟩ : ∃ xs, xk.size = xs := ⟨_, rfl⟩
        obtain ⟨vn, hvn⟩ : ∃ vn, xv.size = vn := ⟨_, rfl⟩
        obtain ⟨sq, hsq⟩ : ∃ sq, xs - q = sq := ⟨_, rfl⟩
        rw [hxs] at kp1 hxk
        rw [hvn] at hxv
        have hsqi : (xs : Int) - (q : Int) = (sq : Int) := by omega
        have hlb2 : lb ≤ 41536 := by omega
        have hlt2 : lt ≤ 64 := by omega
        have u1 := u8_hi lb (by omega)
        have u2_ := u8_lo lb
        obtain ⟨t1, ht1⟩ : ∃ t1, UInt8.ofNat (lb / 256) = t1 := ⟨_, rfl⟩
        obtain ⟨t2, ht2⟩ : ∃ t2, UInt8.ofNat lb = t2 := ⟨_, rfl⟩
        rw [hlbe, ht1, ht2] at htl
        rw [ht1] at u1
        rw [ht2] at u2_
        have wt1 := wrap_u8n t1
        have wt2 := wrap_u8n t2
        have wkd := wrap_u8n kd
        generalize entsB l k = Bk at *
        generalize tailB l k = Tk at *
        have HEL := hide hel
        have HTL := hide htl
        have hE9 : Eb _ wo.heap.size (xk, (qn : Int), (kd.toNat : Int), xv) := Eb.new wo (xk, (qn : Int), (kd.toNat : Int), xv)
        have bA := below_alloc wo (.cells #[.string xk, .int .i64 (qn : Int), .int .i64 (kd.toNat : Int), .string xv] 43)
        have HBa := HB.trans (bA.mono HB.size)
        have HOb1 := HOb.below bA
        have HOt1 := HOt.below bA
        have HKL := hide hkl
        have HKZ := hide hkz
        have HLB := hide hlbe
        have HLT := hide hlte
        have hP := fun (N : Nat) (h : N ≤ 1099511627776) W => Put_any N (Nat.lt_of_le_of_lt h (by decide)) W
        have HXS := hide hxs
        have HVN := hide hvn
        have HSQ := hide hsq
        rw [hlbe] at HOb HOb1 HD ⊢
        rw [hlte] at HOt HOt1 HD ⊢
        clear hel htl hs kp2 kp3 hq hkl hkz hm hx hlb hltl hlbe hlte hrb hrt ht1 ht2 HOb HOt
        by_cases h4 : k % 4 = 0
        · have r4 : (k : Int).tmod 4 = 0 := by rw [rem4, h4]; rfl
          have hkz := HKZ.out h4
          have hcm := fun W => common_any ⟨#[]⟩ xk W (by decide) (by rw [HXS.out]; omega)
          have htl := HTL.out
          rw [if_pos h4] at htl
          have HTZ := hide htl
          rw [hkz] at hcm
          clear hkz htl h4
          have bT := below_alloc (wo.alloc (.cells #[.string xk, .int .i64 (qn : Int), .int .i64 (kd.toNat : Int), .string xv] 43)) (.cells #[.int .u8 (t1.toNat : Int), .int .u8 (t2.toNat : Int)] 5)
          obtain ⟨ltt, hltt⟩ : ∃ ltt, (Tk ++ [t1, t2]).length = ltt := ⟨_, rfl⟩
          have HLTT := hide hltt
          clear hltt
          have HOt2 := HOt1.below bT
          have HOb2 := HOb1.below bT
          have hE2 := hE9.below bT
          have HBt := HBa.alloc HBa.size (.cells #[.int .u8 (t1.toNat : Int), .int .u8 (t2.toNat : Int)] 5)
          go_wp2_with (first | (at_builtin; refine app_row (w0 := w) (W := ((wo.alloc (.cells #[.string xk, .int .i64 (qn : Int), .int .i64 (kd.toNat : Int), .string xv] 43)).alloc (.cells #[.int .u8 (t1.toNat : Int), .int .u8 (t2.toNat : Int)] 5))) w.heap.size rfl (.tmp 28) (.tmp 36) rfl (.slice At lt ct) Tk [t1, t2] (some ⟨wo.heap.size + 1, 0, none⟩) 2 (by rfl) (by rfl) HOt2 (RdB_lit [t1, t2] _ #[.int .u8 (t1.toNat : Int), .int .u8 (t2.toNat : Int)] 5 (0, 0) _ (World.size_alloc _ _) rfl (by show 2 ≤ 9223372036854775807; decide)) HBt HBt.size (by rw [HLT.out]; show lt + 2 ≤ _; omega) ?_; intro vt1 wt HOt3 HBt3 hgt hatt; obtain ⟨At1, ct1, hvt1, -⟩ := HOt3.rd; rw [HLTT.out] at hvt1; subst hvt1; have HOb3 := HOb2.apart HD.symm hgt; have HD3 := (Dis.step HD.symm hatt HOb2).symm; have hE3 := hE2.aside HOt2 hgt; obtain ⟨y80, y81, y82, y83, -, -, -, -⟩ := hE3.read) | (go_at_call 66; (with_reducible refine (hcm _).mono ?_); rintro e w2 ⟨rfl, HB2⟩; have HObZ := HOb3.below HB2; have HOtZ := HOt3.below HB2; have HDZ := HD3; have hEZ := hE3.below HB2; have HBZ := HBt3.trans (HB2.mono HBt3.size); obtain ⟨y90, y91, y92, y93, -, -, -, -⟩ := hEZ.read))
          go_loopw [54, 5] (fun iv vb wi => ∃ m : Nat, m ≤ 4 ∧ iv = .int .i64 (m : Int) ∧ OwB wi w.heap.size vb (Bk ++ preE q sq qn vn m) ∧ OwB wi w.heap.size (.slice At1 ltt ct1) (Tk ++ [t1, t2]) ∧ Dis vb (.slice At1 ltt ct1) ∧ Eb wi wo.heap.size (xk, (qn : Int), (kd.toNat : Int), xv) ∧ Below w.heap.size w wi) (fun iv _ _ => 4 - (intOf iv).toNat)
          case atStart => exact ⟨0, by decide, rfl, by rw [show Bk ++ preE q sq qn vn 0 = Bk from List.append_nil _]; exact HObZ, HOtZ, HDZ, hEZ, HBZ⟩
          case round =>
            obtain ⟨m, hm4, rfl, HObi, HOti, HDi, hEi, HBi⟩ := hrel
            obtain ⟨Ai, ci, hvi, -⟩ := HObi.rd
            subst hvi
            have hpl := preE_le q sq qn vn m
            obtain ⟨li, hli⟩ : ∃ li, (Bk ++ preE q sq qn vn m).length = li := ⟨_, rfl⟩
            have hli2 : li ≤ 41572 := by rw [← hli, List.length_append, HLB.out]; omega
            have HLI := hide hli
            rw [hli] at HObi HDi ⊢
            clear hli hpl HObZ HOtZ HDZ hEZ HBZ
            rcases (show m = 0 ∨ m = 1 ∨ m = 2 ∨ m = 3 ∨ m = 4 by omega) with rfl | rfl | rfl | rfl | rfl
            · have hix := fun a b c d W => (idx4 a b c d W).1
              have hPm := hP q (by omega)
              have hu64 : IntKind.u64.wrap (q : Int) = (q : Int) := by rw [IntKind.wrap_u64]; omega
              have hvs := vsize_le q
              go_wp2_with (first | (go_at_call 30; (with_reducible refine (hPm _).mono ?_); rintro e w5 ⟨v5, rfl, HO5, HB5⟩; obtain ⟨A5, c5, hv5, hr5⟩ := HO5.rd; subst hv5; have HB6 := HBi.trans (HB5.mono HBi.size)) | (at_builtin; refine app_row (w0 := w) (W := w5) w.heap.size rfl (.tmp 57) (.tmp 60) rfl (.slice Ai li ci) (Bk ++ preE q sq qn vn 0) (put q) A5 c5 (by rfl) (by rfl) (HObi.below HB5) hr5 HB6 HB6.size (by rw [HLI.out, put_length]; omega) ?_; intro v7 w7 HO7 HB7 hg7 hat7))
              go_roundw
              case rel => exact ⟨1, by decide, by go_num, by rw [List.append_assoc] at HO7; exact HO7, (HOti.below HB5).apart HDi hg7, Dis.step HDi hat7 (HOti.below HB5), (hEi.below HB5).aside (HObi.below HB5) hg7, HB7⟩
              case measure => simp [intOf]
            · have hix := fun a b c d W => (idx4 a b c d W).2.1
              have hPm := hP sq (by omega)
              have hu64 : IntKind.u64.wrap (sq : Int) = (sq : Int) := by rw [IntKind.wrap_u64]; omega
              have hvs := vsize_le sq
              go_wp2_with (first | (go_at_call 30; (with_reducible refine (hPm _).mono ?_); rintro e w5 ⟨v5, rfl, HO5, HB5⟩; obtain ⟨A5, c5, hv5, hr5⟩ := HO5.rd; subst hv5; have HB6 := HBi.trans (HB5.mono HBi.size)) | (at_builtin; refine app_row (w0 := w) (W := w5) w.heap.size rfl (.tmp 57) (.tmp 60) rfl (.slice Ai li ci) (Bk ++ preE q sq qn vn 1) (put sq) A5 c5 (by rfl) (by rfl) (HObi.below HB5) hr5 HB6 HB6.size (by rw [HLI.out, put_length]; omega) ?_; intro v7 w7 HO7 HB7 hg7 hat7))
              go_roundw
              case rel => exact ⟨2, by decide, by go_num, by rw [List.append_assoc] at HO7; exact HO7, (HOti.below HB5).apart HDi hg7, Dis.step HDi hat7 (HOti.below HB5), (hEi.below HB5).aside (HObi.below HB5) hg7, HB7⟩
              case measure => simp [intOf]
            · have hix := fun a b c d W => (idx4 a b c d W).2.2.1
              have hPm := hP qn (hqn)
              have hu64 : IntKind.u64.wrap (qn : Int) = (qn : Int) := by rw [IntKind.wrap_u64]; omega
              have hvs := vsize_le qn
              go_wp2_with (first | (go_at_call 30; (with_reducible refine (hPm _).mono ?_); rintro e w5 ⟨v5, rfl, HO5, HB5⟩; obtain ⟨A5, c5, hv5, hr5⟩ := HO5.rd; subst hv5; have HB6 := HBi.trans (HB5.mono HBi.size)) | (at_builtin; refine app_row (w0 := w) (W := w5) w.heap.size rfl (.tmp 57) (.tmp 60) rfl (.slice Ai li ci) (Bk ++ preE q sq qn vn 2) (put qn) A5 c5 (by rfl) (by rfl) (HObi.below HB5) hr5 HB6 HB6.size (by rw [HLI.out, put_length]; omega) ?_; intro v7 w7 HO7 HB7 hg7 hat7))
              go_roundw
              case rel => exact ⟨3, by decide, by go_num, by rw [List.append_assoc] at HO7; exact HO7, (HOti.below HB5).apart HDi hg7, Dis.step HDi hat7 (HOti.below HB5), (hEi.below HB5).aside (HObi.below HB5) hg7, HB7⟩
              case measure => simp [intOf]
            · have hix := fun a b c d W => (idx4 a b c d W).2.2.2
              have hPm := hP vn (by omega)
              have hu64 : IntKind.u64.wrap (vn : Int) = (vn : Int) := by rw [IntKind.wrap_u64]; omega
              have hvs := vsize_le vn
              go_wp2_with (first | (go_at_call 30; (with_reducible refine (hPm _).mono ?_); rintro e w5 ⟨v5, rfl, HO5, HB5⟩; obtain ⟨A5, c5, hv5, hr5⟩ := HO5.rd; subst hv5; have HB6 := HBi.trans (HB5.mono HBi.size)) | (at_builtin; refine app_row (w0 := w) (W := w5) w.heap.size rfl (.tmp 57) (.tmp 60) rfl (.slice Ai li ci) (Bk ++ preE q sq qn vn 3) (put vn) A5 c5 (by rfl) (by rfl) (HObi.below HB5) hr5 HB6 HB6.size (by rw [HLI.out, put_length]; omega) ?_; intro v7 w7 HO7 HB7 hg7 hat7))
              go_roundw
              case rel => exact ⟨4, by decide, by go_num, by rw [List.append_assoc] at HO7; exact HO7, (HOti.below HB5).apart HDi hg7, Dis.step HDi hat7 (HOti.below HB5), (hEi.below HB5).aside (HObi.below HB5) hg7, HB7⟩
              case measure => simp [intOf]
            · have hE0 := hEi
              obtain ⟨y0, y1, y2, y3, -, -, -, -⟩ := hE0.read
              go_wp2
              have hlk : li + 1 + xs + vn ≤ 140737488355328 := by omega
              have hqs : (q : Int) ≤ (xs : Int) := by omega
              have hSl : bl (xk.extract q xs) = (bl xk).drop q := by rw [← HXS.out]; exact ext_drop xk q
              have hSls : (xk.extract q xs).size ≤ xs := by rw [← bl_length, hSl, List.length_drop, bl_length, HXS.out]; omega
              have HSL := hide hSl
              have HSS := hide hSls
              clear hSl hSls
              have dOb : OwB wr.drew w.heap.size (.slice Ai li ci) (Bk ++ preE q sq qn vn 4) := HObi
              have dOt : OwB wr.drew w.heap.size (.slice At1 ltt ct1) (Tk ++ [t1, t2]) := HOti
              have dE : Eb wr.drew wo.heap.size (xk, (qn : Int), (kd.toNat : Int), xv) := hEi
              have dB := HBi.drew
              have bK := below_alloc wr.drew (.cells #[.int .u8 (kd.toNat : Int)] 5)
              have dOb1 := dOb.below bK
              have dOt1 := dOt.below bK
              have dE1 := dE.below bK
              have dB1 := dB.alloc dB.size (.cells #[.int .u8 (kd.toNat : Int)] 5)
              have hS0 : wr.drew.cell? ⟨wo.heap.size, 0, none⟩ = some (.string xk) ∧ wr.drew.cell? ⟨wo.heap.size, 2, none⟩ = some (.int .i64 (kd.toNat : Int)) ∧ wr.drew.cell? ⟨wo.heap.size, 3, none⟩ = some (.string xv) := ⟨y0, y2, y3⟩
              have hS1 : (wr.drew.alloc (.cells #[.int .u8 (kd.toNat : Int)] 5)).cell? ⟨wo.heap.size, 0, none⟩ = some (.string xk) ∧ (wr.drew.alloc (.cells #[.int .u8 (kd.toNat : Int)] 5)).cell? ⟨wo.heap.size, 2, none⟩ = some (.int .i64 (kd.toNat : Int)) ∧ (wr.drew.alloc (.cells #[.int .u8 (kd.toNat : Int)] 5)).cell? ⟨wo.heap.size, 3, none⟩ = some (.string xv) := ⟨dE1.read.1, dE1.read.2.2.1, dE1.read.2.2.2.1⟩
              go_region_held3 (fun w' => w'.cell? ⟨wo.heap.size, 0, none⟩ = some (.string xk) ∧ w'.cell? ⟨wo.heap.size, 2, none⟩ = some (.int .i64 (kd.toNat : Int)) ∧ w'.cell? ⟨wo.heap.size, 3, none⟩ = some (.string xv)) (first | exact hS0 | exact hS1 | exact hS2 | exact hS3 | exact hS4 | assumption) (first | ((refine step_rowH (w0 := w) (W := wr.drew.alloc (.cells #[.int .u8 (kd.toNat : Int)] 5)) w.heap.size (by rfl) (.tmp 63) (.tmp 67) rfl (.slice Ai li ci) (Bk ++ preE q sq qn vn 4) [kd] (some ⟨wr.drew.heap.size, 0, none⟩) 1 (by rfl) (by rfl) dOb1 (RdB_lit [kd] _ #[.int .u8 (kd.toNat : Int)] 5 (0, 0) _ rfl rfl (by show 1 ≤ 9223372036854775807; decide)) dB1 dB1.size (by rw [HLI.out]; show li + 1 ≤ _; omega) ?_); intro v6 w6 HO6 HB6 hg6 hat6; have dOt2 := dOt1.apart HDi hg6; have D6 := Dis.step HDi hat6 dOt1; have dE2 := dE1.aside dOb1 hg6; have hS2 : w6.cell? ⟨wo.heap.size, 0, none⟩ = some (.string xk) ∧ w6.cell? ⟨wo.heap.size, 2, none⟩ = some (.int .i64 (kd.toNat : Int)) ∧ w6.cell? ⟨wo.heap.size, 3, none⟩ = some (.string xv) := ⟨dE2.read.1, dE2.read.2.2.1, dE2.read.2.2.2.1⟩) | ((refine step_strH (w0 := w) (W := w6) w.heap.size (by rfl) (.tmp 68) (.tmp 72) rfl v6 (Bk ++ preE q sq qn vn 4 ++ [kd]) (xk.extract q xs) (by rfl) (by rfl) HO6 HB6 HB6.size (by rw [List.length_append, HLI.out]; have := HSS.out; show li + 1 + _ ≤ _; omega) ?_); intro v7 w7 HO7 HB7 hg7 hat7; have dOt3 := dOt2.apart D6 hg7; have D7 := Dis.step D6 hat7 dOt2; have dE3 := dE2.aside HO6 hg7; have hS3 : w7.cell? ⟨wo.heap.size, 0, none⟩ = some (.string xk) ∧ w7.cell? ⟨wo.heap.size, 2, none⟩ = some (.int .i64 (kd.toNat : Int)) ∧ w7.cell? ⟨wo.heap.size, 3, none⟩ = some (.string xv) := ⟨dE3.read.1, dE3.read.2.2.1, dE3.read.2.2.2.1⟩) | ((refine step_strH (w0 := w) (W := w7) w.heap.size (by rfl) (.tmp 73) (.tmp 75) rfl v7 (Bk ++ preE q sq qn vn 4 ++ [kd] ++ bl (xk.extract q xs)) xv (by rfl) (by rfl) HO7 HB7 HB7.size (by rw [List.length_append, List.length_append, HLI.out, bl_length]; have := HSS.out; show li + 1 + _ + _ ≤ _; omega) ?_); intro v8 w8 HO8 HB8 hg8 hat8; have dOt4 := dOt3.apart D7 hg8; have D8 := Dis.step D7 hat8 dOt3; have dE4 := dE3.aside HO7 hg8; have hS4 : w8.cell? ⟨wo.heap.size, 0, none⟩ = some (.string xk) ∧ w8.cell? ⟨wo.heap.size, 2, none⟩ = some (.int .i64 (kd.toNat : Int)) ∧ w8.cell? ⟨wo.heap.size, 3, none⟩ = some (.string xv) := ⟨dE4.read.1, dE4.read.2.2.1, dE4.read.2.2.2.1⟩))
              go_wp2
              go_roundw
              case rel =>
                refine ⟨k + 1, xk, hlt, by go_num, ?_, ?_, D8, rfl, fun _ => ?_, by rw [HXS.out]; exact hxk, HB8⟩
                · rw [HEL.out]
                  have e : entB q (xk, (qn : Int), (kd.toNat : Int), xv) = preE q sq qn vn 4 ++ [kd] ++ bl (xk.extract q xs) ++ bl xv := by
                    rw [HSL.out]
                    unfold entB preE
                    simp only [HXS.out, HVN.out, HSQ.out, Int.toNat_natCast, UInt8.ofNat_toNat]
                  rw [e]
                  simpa only [List.append_assoc] using HO8
                · rw [HTZ.out]; exact dOt4
                · rw [Nat.add_sub_cancel, HXK.out]
              case measure => simp [intOf]; omega
        · have h4p := rem4 k
          obtain ⟨rr, hrr⟩ : ∃ rr, k % 4 = rr := ⟨_, rfl⟩
          rw [hrr] at h4p
          have h4i : ¬ (rr : Int) = 0 := by omega
          have h4n : ¬ rr = 0 := by omega
          have hkl := HKL.out h4
          have hcm := fun W => common_any s xk W (by omega) (by rw [HXS.out]; omega)
          have htl := HTL.out
          rw [if_neg h4] at htl
          have HTZ := hide htl
          rw [hkl] at hcm
          clear hkl htl h4 hrr
          obtain ⟨y90, y91, y92, y93, -, -, -, -⟩ := hE9.read
          go_wp2_with (first | (go_at_call 66; (with_reducible refine (hcm _).mono ?_); rintro e w2 ⟨rfl, HB2⟩; have HObZ := HOb1.below HB2; have HOtZ := HOt1.below HB2; have HDZ := HD; have hEZ := hE9.below HB2; have HBZ := HBa.trans (HB2.mono HBa.size); obtain ⟨y90, y91, y92, y93, -, -, -, -⟩ := hEZ.read))
          go_loopw [54, 5] (fun iv vb wi => ∃ m : Nat, m ≤ 4 ∧ iv = .int .i64 (m : Int) ∧ OwB wi w.heap.size vb (Bk ++ preE q sq qn vn m) ∧ OwB wi w.heap.size (.slice At lt ct) Tk ∧ Dis vb (.slice At lt ct) ∧ Eb wi wo.heap.size (xk, (qn : Int), (kd.toNat : Int), xv) ∧ Below w.heap.size w wi) (fun iv _ _ => 4 - (intOf iv).toNat)
          case atStart => exact ⟨0, by decide, rfl, by rw [show Bk ++ preE q sq qn vn 0 = Bk from List.append_nil _]; exact HObZ, HOtZ, HDZ, hEZ, HBZ⟩
          case round =>
            obtain ⟨m, hm4, rfl, HObi, HOti, HDi, hEi, HBi⟩ := hrel
            obtain ⟨Ai, ci, hvi, -⟩ := HObi.rd
            subst hvi
            have hpl := preE_le q sq qn vn m
            obtain ⟨li, hli⟩ : ∃ li, (Bk ++ preE q sq qn vn m).length = li := ⟨_, rfl⟩
            have hli2 : li ≤ 41572 := by rw [← hli, List.length_append, HLB.out]; omega
            have HLI := hide hli
            rw [hli] at HObi HDi ⊢
            clear hli hpl HObZ HOtZ HDZ hEZ HBZ
            rcases (show m = 0 ∨ m = 1 ∨ m = 2 ∨ m = 3 ∨ m = 4 by omega) with rfl | rfl | rfl | rfl | rfl
            · have hix := fun a b c d W => (idx4 a b c d W).1
              have hPm := hP q (by omega)
              have hu64 : IntKind.u64.wrap (q : Int) = (q : Int) := by rw [IntKind.wrap_u64]; omega
              have hvs := vsize_le q
              go_wp2_with (first | (go_at_call 30; (with_reducible refine (hPm _).mono ?_); rintro e w5 ⟨v5, rfl, HO5, HB5⟩; obtain ⟨A5, c5, hv5, hr5⟩ := HO5.rd; subst hv5; have HB6 := HBi.trans (HB5.mono HBi.size)) | (at_builtin; refine app_row (w0 := w) (W := w5) w.heap.size rfl (.tmp 57) (.tmp 60) rfl (.slice Ai li ci) (Bk ++ preE q sq qn vn 0) (put q) A5 c5 (by rfl) (by rfl) (HObi.below HB5) hr5 HB6 HB6.size (by rw [HLI.out, put_length]; omega) ?_; intro v7 w7 HO7 HB7 hg7 hat7))
              go_roundw
              case rel => exact ⟨1, by decide, by go_num, by rw [List.append_assoc] at HO7; exact HO7, (HOti.below HB5).apart HDi hg7, Dis.step HDi hat7 (HOti.below HB5), (hEi.below HB5).aside (HObi.below HB5) hg7, HB7⟩
              case measure => simp [intOf]
            · have hix := fun a b c d W => (idx4 a b c d W).2.1
              have hPm := hP sq (by omega)
              have hu64 : IntKind.u64.wrap (sq : Int) = (sq : Int) := by rw [IntKind.wrap_u64]; omega
              have hvs := vsize_le sq
              go_wp2_with (first | (go_at_call 30; (with_reducible refine (hPm _).mono ?_); rintro e w5 ⟨v5, rfl, HO5, HB5⟩; obtain ⟨A5, c5, hv5, hr5⟩ := HO5.rd; subst hv5; have HB6 := HBi.trans (HB5.mono HBi.size)) | (at_builtin; refine app_row (w0 := w) (W := w5) w.heap.size rfl (.tmp 57) (.tmp 60) rfl (.slice Ai li ci) (Bk ++ preE q sq qn vn 1) (put sq) A5 c5 (by rfl) (by rfl) (HObi.below HB5) hr5 HB6 HB6.size (by rw [HLI.out, put_length]; omega) ?_; intro v7 w7 HO7 HB7 hg7 hat7))
              go_roundw
              case rel => exact ⟨2, by decide, by go_num, by rw [List.append_assoc] at HO7; exact HO7, (HOti.below HB5).apart HDi hg7, Dis.step HDi hat7 (HOti.below HB5), (hEi.below HB5).aside (HObi.below HB5) hg7, HB7⟩
              case measure => simp [intOf]
            · have hix := fun a b c d W => (idx4 a b c d W).2.2.1
              have hPm := hP qn (hqn)
              have hu64 : IntKind.u64.wrap (qn : Int) = (qn : Int) := by rw [IntKind.wrap_u64]; omega
              have hvs := vsize_le qn
              go_wp2_with (first | (go_at_call 30; (with_reducible refine (hPm _).mono ?_); rintro e w5 ⟨v5, rfl, HO5, HB5⟩; obtain ⟨A5, c5, hv5, hr5⟩ := HO5.rd; subst hv5; have HB6 := HBi.trans (HB5.mono HBi.size)) | (at_builtin; refine app_row (w0 := w) (W := w5) w.heap.size rfl (.tmp 57) (.tmp 60) rfl (.slice Ai li ci) (Bk ++ preE q sq qn vn 2) (put qn) A5 c5 (by rfl) (by rfl) (HObi.below HB5) hr5 HB6 HB6.size (by rw [HLI.out, put_length]; omega) ?_; intro v7 w7 HO7 HB7 hg7 hat7))
              go_roundw
              case rel => exact ⟨3, by decide, by go_num, by rw [List.append_assoc] at HO7; exact HO7, (HOti.below HB5).apart HDi hg7, Dis.step HDi hat7 (HOti.below HB5), (hEi.below HB5).aside (HObi.below HB5) hg7, HB7⟩
              case measure => simp [intOf]
            · have hix := fun a b c d W => (idx4 a b c d W).2.2.2
              have hPm := hP vn (by omega)
              have hu64 : IntKind.u64.wrap (vn : Int) = (vn : Int) := by rw [IntKind.wrap_u64]; omega
              have hvs := vsize_le vn
              go_wp2_with (first | (go_at_call 30; (with_reducible refine (hPm _).mono ?_); rintro e w5 ⟨v5, rfl, HO5, HB5⟩; obtain ⟨A5, c5, hv5, hr5⟩ := HO5.rd; subst hv5; have HB6 := HBi.trans (HB5.mono HBi.size)) | (at_builtin; refine app_row (w0 := w) (W := w5) w.heap.size rfl (.tmp 57) (.tmp 60) rfl (.slice Ai li ci) (Bk ++ preE q sq qn vn 3) (put vn) A5 c5 (by rfl) (by rfl) (HObi.below HB5) hr5 HB6 HB6.size (by rw [HLI.out, put_length]; omega) ?_; intro v7 w7 HO7 HB7 hg7 hat7))
              go_roundw
              case rel => exact ⟨4, by decide, by go_num, by rw [List.append_assoc] at HO7; exact HO7, (HOti.below HB5).apart HDi hg7, Dis.step HDi hat7 (HOti.below HB5), (hEi.below HB5).aside (HObi.below HB5) hg7, HB7⟩
              case measure => simp [intOf]
            · have hE0 := hEi
              obtain ⟨y0, y1, y2, y3, -, -, -, -⟩ := hE0.read
              go_wp2
              have hlk : li + 1 + xs + vn ≤ 140737488355328 := by omega
              have hqs : (q : Int) ≤ (xs : Int) := by omega
              have hSl : bl (xk.extract q xs) = (bl xk).drop q := by rw [← HXS.out]; exact ext_drop xk q
              have hSls : (xk.extract q xs).size ≤ xs := by rw [← bl_length, hSl, List.length_drop, bl_length, HXS.out]; omega
              have HSL := hide hSl
              have HSS := hide hSls
              clear hSl hSls
              have dOb : OwB wr.drew w.heap.size (.slice Ai li ci) (Bk ++ preE q sq qn vn 4) := HObi
              have dOt : OwB wr.drew w.heap.size (.slice At lt ct) Tk := HOti
              have dE : Eb wr.drew wo.heap.size (xk, (qn : Int), (kd.toNat : Int), xv) := hEi
              have dB := HBi.drew
              have bK := below_alloc wr.drew (.cells #[.int .u8 (kd.toNat : Int)] 5)
              have dOb1 := dOb.below bK
              have dOt1 := dOt.below bK
              have dE1 := dE.below bK
              have dB1 := dB.alloc dB.size (.cells #[.int .u8 (kd.toNat : Int)] 5)
              have hS0 : wr.drew.cell? ⟨wo.heap.size, 0, none⟩ = some (.string xk) ∧ wr.drew.cell? ⟨wo.heap.size, 2, none⟩ = some (.int .i64 (kd.toNat : Int)) ∧ wr.drew.cell? ⟨wo.heap.size, 3, none⟩ = some (.string xv) := ⟨y0, y2, y3⟩
              have hS1 : (wr.drew.alloc (.cells #[.int .u8 (kd.toNat : Int)] 5)).cell? ⟨wo.heap.size, 0, none⟩ = some (.string xk) ∧ (wr.drew.alloc (.cells #[.int .u8 (kd.toNat : Int)] 5)).cell? ⟨wo.heap.size, 2, none⟩ = some (.int .i64 (kd.toNat : Int)) ∧ (wr.drew.alloc (.cells #[.int .u8 (kd.toNat : Int)] 5)).cell? ⟨wo.heap.size, 3, none⟩ = some (.string xv) := ⟨dE1.read.1, dE1.read.2.2.1, dE1.read.2.2.2.1⟩
              go_region_held3 (fun w' => w'.cell? ⟨wo.heap.size, 0, none⟩ = some (.string xk) ∧ w'.cell? ⟨wo.heap.size, 2, none⟩ = some (.int .i64 (kd.toNat : Int)) ∧ w'.cell? ⟨wo.heap.size, 3, none⟩ = some (.string xv)) (first | exact hS0 | exact hS1 | exact hS2 | exact hS3 | exact hS4 | assumption) (first | ((refine step_rowH (w0 := w) (W := wr.drew.alloc (.cells #[.int .u8 (kd.toNat : Int)] 5)) w.heap.size (by rfl) (.tmp 63) (.tmp 67) rfl (.slice Ai li ci) (Bk ++ preE q sq qn vn 4) [kd] (some ⟨wr.drew.heap.size, 0, none⟩) 1 (by rfl) (by rfl) dOb1 (RdB_lit [kd] _ #[.int .u8 (kd.toNat : Int)] 5 (0, 0) _ rfl rfl (by show 1 ≤ 9223372036854775807; decide)) dB1 dB1.size (by rw [HLI.out]; show li + 1 ≤ _; omega) ?_); intro v6 w6 HO6 HB6 hg6 hat6; have dOt2 := dOt1.apart HDi hg6; have D6 := Dis.step HDi hat6 dOt1; have dE2 := dE1.aside dOb1 hg6; have hS2 : w6.cell? ⟨wo.heap.size, 0, none⟩ = some (.string xk) ∧ w6.cell? ⟨wo.heap.size, 2, none⟩ = some (.int .i64 (kd.toNat : Int)) ∧ w6.cell? ⟨wo.heap.size, 3, none⟩ = some (.string xv) := ⟨dE2.read.1, dE2.read.2.2.1, dE2.read.2.2.2.1⟩) | ((refine step_strH (w0 := w) (W := w6) w.heap.size (by rfl) (.tmp 68) (.tmp 72) rfl v6 (Bk ++ preE q sq qn vn 4 ++ [kd]) (xk.extract q xs) (by rfl) (by rfl) HO6 HB6 HB6.size (by rw [List.length_append, HLI.out]; have := HSS.out; show li + 1 + _ ≤ _; omega) ?_); intro v7 w7 HO7 HB7 hg7 hat7; have dOt3 := dOt2.apart D6 hg7; have D7 := Dis.step D6 hat7 dOt2; have dE3 := dE2.aside HO6 hg7; have hS3 : w7.cell? ⟨wo.heap.size, 0, none⟩ = some (.string xk) ∧ w7.cell? ⟨wo.heap.size, 2, none⟩ = some (.int .i64 (kd.toNat : Int)) ∧ w7.cell? ⟨wo.heap.size, 3, none⟩ = some (.string xv) := ⟨dE3.read.1, dE3.read.2.2.1, dE3.read.2.2.2.1⟩) | ((refine step_strH (w0 := w) (W := w7) w.heap.size (by rfl) (.tmp 73) (.tmp 75) rfl v7 (Bk ++ preE q sq qn vn 4 ++ [kd] ++ bl (xk.extract q xs)) xv (by rfl) (by rfl) HO7 HB7 HB7.size (by rw [List.length_append, List.length_append, HLI.out, bl_length]; have := HSS.out; show li + 1 + _ + _ ≤ _; omega) ?_); intro v8 w8 HO8 HB8 hg8 hat8; have dOt4 := dOt3.apart D7 hg8; have D8 := Dis.step D7 hat8 dOt3; have dE4 := dE3.aside HO7 hg8; have hS4 : w8.cell? ⟨wo.heap.size, 0, none⟩ = some (.string xk) ∧ w8.cell? ⟨wo.heap.size, 2, none⟩ = some (.int .i64 (kd.toNat : Int)) ∧ w8.cell? ⟨wo.heap.size, 3, none⟩ = some (.string xv) := ⟨dE4.read.1, dE4.read.2.2.1, dE4.read.2.2.2.1⟩))
              go_wp2
              go_roundw
              case rel =>
                refine ⟨k + 1, xk, hlt, by go_num, ?_, ?_, D8, rfl, fun _ => ?_, by rw [HXS.out]; exact hxk, HB8⟩
                · rw [HEL.out]
                  have e : entB q (xk, (qn : Int), (kd.toNat : Int), xv) = preE q sq qn vn 4 ++ [kd] ++ bl (xk.extract q xs) ++ bl xv := by
                    rw [HSL.out]
                    unfold entB preE
                    simp only [HXS.out, HVN.out, HSQ.out, Int.toNat_natCast, UInt8.ofNat_toNat]
                  rw [e]
                  simpa only [List.append_assoc] using HO8
                · rw [HTZ.out]; exact dOt4
                · rw [Nat.add_sub_cancel, HXK.out]
              case measure => simp [intOf]; omega
      · obtain rfl : k = n := Nat.le_antisymm hk (Nat.not_lt.1 hlt)
        have hlb := entsB_length l HO_.out k (by rw [HN.out]; exact Nat.le_refl _)
        have hltl := tailB_length l k
        have hlk := HN.out
        have hbk : blkB l = entsB l k ++ (tailB l k ++ [UInt8.ofNat ((tailB l k).length / 2)]) := by rw [blkB, hlk, List.append_assoc]
        obtain ⟨lb, hlbe⟩ : ∃ lb, (entsB l k).length = lb := ⟨_, rfl⟩
        obtain ⟨lt, hlte⟩ : ∃ lt, (tailB l k).length = lt := ⟨_, rfl⟩
        rw [hlte] at hbk hltl
        rw [hlbe] at hlb
        have hlt2 : lt ≤ 64 := by omega
        have hlb2 : lb ≤ 41536 := by omega
        have hd2 : (lt : Int) / 2 = ((UInt8.ofNat (lt / 2)).toNat : Int) := by rw [UInt8.toNat_ofNat']; omega
        have hd3 : (lt : Int).tdiv 2 = ((UInt8.ofNat (lt / 2)).toNat : Int) := by rw [UInt8.toNat_ofNat', Int.tdiv_eq_ediv_of_nonneg (by omega)]; omega
        obtain ⟨t, ht⟩ : ∃ t, UInt8.ofNat (lt / 2) = t := ⟨_, rfl⟩
        rw [ht] at hd2 hd3 hbk
        have wt := wrap_u8n t
        generalize entsB l k = Bk at *
        generalize tailB l k = Tk at *
        have HBK := hide hbk
        have HLB := hide hlbe
        have HLT := hide hlte
        have bK := below_alloc wo (.cells #[.int .u8 (t.toNat : Int)] 5)
        have HOb1 := HOb.below bK
        have HOt1 := HOt.below bK
        have HB1' := HB.alloc HB.size (.cells #[.int .u8 (t.toNat : Int)] 5)
        have hC3 := Concat_three Ab At (some ⟨wo.heap.size, 0, none⟩) cb ct 1 lb lt 1 (wo.heap.size + 1) Bk Tk [t] (wo.alloc (.cells #[.int .u8 (t.toNat : Int)] 5)) (World.size_alloc _ _) HOb1.rdl HOt1.rdl (RdB_lit [t] wo #[.int .u8 (t.toNat : Int)] 5 (0, 0) _ rfl rfl (by show 1 ≤ 9223372036854775807; decide)) hlbe hlte rfl (by rw [hlbe, hlte]; show lb + lt + 1 ≤ _; omega)
        have hlen : (Bk ++ (Tk ++ [t])).length = lb + lt + 1 := by rw [List.length_append, List.length_append, hlbe, hlte]; show lb + (lt + 1) = _; omega
        rw [← hbk] at hC3 hlen
        have hGd := fun A c W (h : RdB W A c (blkB l)) => Guard_any A c (blkB l) W h (by omega)
        have HLEN := hide hlen
        rw [hlbe] at HOb HOb1 ⊢
        rw [hlte] at HOt HOt1 ⊢
        clear hlb hltl hbk hlbe hlte ht hs hlen hlk hrb hrt
        go_wp2_with (first | (go_at_call 29; (refine hC3.mono ?_); rintro e w3 ⟨v3, rfl, HO3, HB3⟩; obtain ⟨A3, c3, hv3, hr3⟩ := HO3.rd; subst hv3; have HB4 := HB1'.trans (HB3.mono HB1'.size)) | (go_at_call 36; (refine (hGd _ _ _ hr3).mono ?_); rintro e w5 ⟨v5, rfl, HO5, HB5⟩))
        go_ret2
        exact ⟨_, rfl, HO5.lower HB4.size, HB4.trans (HB5.mono HB4.size)⟩
  · have hX : blkX l = [] := by rw [blkX, if_neg hz]
    rw [hX]
    generalize chkE l = z at *
    go_enter Try.func28, Try.ntmps28
    go_wp2_with (first | (go_at_call 65; (with_reducible refine hC.mono ?_); rintro e w1 ⟨rfl, HB1⟩))
    go_ret2
    exact ⟨_, rfl, OwB.zero _ _, HB1⟩
end Go.Proofs.Ytefcepjffeiaoaa
end

section
/- Block: the walk of the reference's Encode. -/
namespace Go.Proofs.Ytefcepjffeiaoaa
open Go.RowKit Go.Proofs.YtefcepjffeiaoaaW.PrintWords
set_option linter.unusedVariables false

theorem RdE.cells {w : World} {ad : Addr} {c : Nat} {xs : List Ent} (h : RdE w (some ad) c xs) (i : Nat) (hi : i < xs.length) {x : Ent} (hx : xs.getD i zEnt = x) : w.cell? (ad.add (i * 4)) = some (.string x.1) ∧ w.cell? ⟨(ad.add (i * 4)).block, (ad.add (i * 4)).off + 1, none⟩ = some (.int .i64 x.2.1) ∧ w.cell? ⟨(ad.add (i * 4)).block, (ad.add (i * 4)).off + 2, none⟩ = some (.int .i64 x.2.2.1) ∧ w.cell? ⟨(ad.add (i * 4)).block, (ad.add (i * 4)).off + 3, none⟩ = some (.string x.2.2.2) := by
  obtain ⟨ad', e, h0, h1, h2, h3⟩ := RdE.at4 h i hi
  cases e
  rw [hx] at h0 h1 h2 h3
  exact ⟨h0, h1, h2, h3⟩
/-- four numbers in a row -/
def Nb (w : World) (g : Nat) (a b c d : Int) : Prop := w.heap[g]? = some (.cells #[.int .i64 a, .int .i64 b, .int .i64 c, .int .i64 d] 3 (0, 0))
theorem Nb.below {w w1 : World} {g : Nat} {a b c d : Int} (h : Nb w g a b c d) (hb : Below w.heap.size w w1) : Nb w1 g a b c d := blk_below h hb
theorem Nb.aside {w w1 : World} {g : Nat} {a b c d : Int} (h : Nb w g a b c d) {base : Nat} {v : Value} {xs : List UInt8} (HO : OwB w base v xs) (hg : w.grownBy w1 v.ownBlock) : Nb w1 g a b c d := blk_grown h hg (own_ne HO h (by decide))
theorem Nb.read {w : World} {g : Nat} {a b c d : Int} (h : Nb w g a b c d) : w.cell? ⟨g, 0, none⟩ = some (.int .i64 a) ∧ w.cell? ⟨g, 1, none⟩ = some (.int .i64 b) ∧ w.cell? ⟨g, 2, none⟩ = some (.int .i64 c) ∧ w.cell? ⟨g, 3, none⟩ = some (.int .i64 d) := ⟨blk_cell h 0, blk_cell h 1, blk_cell h 2, blk_cell h 3⟩
end Go.Proofs.Ytefcepjffeiaoaa
end

section
/- Block: the walks of both Decodes. -/
namespace Go.Proofs.Ytefcepjffeiaoaa
open Go.RowKit Go.Proofs.YtefcepjffeiaoaaW.PrintWords
set_option linter.unusedVariables false

theorem rdEs_len (f : Nat) : ∀ (key b : List UInt8) (l : List Ent), rdEs f key b = some l → l.length ≤ f := by
  induction f with
  | zero => intro key b l h; rw [rdEs] at h; injection h with h; subst h; simp
  | succ f ih =>
    intro key b l h
    rw [rdEs] at h
    split at h
    · injection h with h; subst h; simp
    · split at h
      · cases h
      · next x r _ =>
        rw [Option.map_eq_some_iff] at h
        obtain ⟨l', h1, rfl⟩ := h
        have := ih _ _ _ h1
        rw [List.length_cons]; omega
theorem toldE_len (b : List UInt8) : (toldE b).length ≤ 65 := by
  unfold toldE
  split
  · simp
  · split
    · simp
    · cases h : rdEs 65 [] (b.take (b.length - 1 - 2 * (b.getD (b.length - 1) 0).toNat)) with
      | none => simp
      | some l => exact rdEs_len _ _ _ _ h
theorem bare_le (b : List UInt8) : (bare b).length ≤ b.length := by
  unfold bare
  split
  · rw [List.length_take]; omega
  · simp
theorem strB_same (xs ys : List UInt8) : ((strB xs).toList == (strB ys).toList) = decide (xs = ys) := by
  rw [same_bl]
  by_cases h : xs = ys
  · rw [decide_eq_true h, decide_eq_true (by rw [h])]
  · rw [decide_eq_false h, decide_eq_false (fun e => h (by simpa [bl, strB] using e))]
set_option maxRecDepth 100000 in
set_option maxHeartbeats 800000 in
theorem Equal_any (A B : Option Addr) (c d n m : Nat) (xs ys : List UInt8) (w : World) (hn : xs.length = n) (hm : ys.length = m) (hx : RdB w A c xs) (hy : RdB w B d ys) :
    Calls Try.prog 50 #[.slice A n c, .slice B m d] w fun e w' => e = .returned (.bool (decide (xs = ys))) ∧ Below w.heap.size w w' := by
  subst hn
  subst hm
  have c1 := hx.toStr (P := Try.prog) 23 5 9 Try.underlying23 Try.underlying5 Try.underlying9
  have c2 := hy.toStr (P := Try.prog) 23 5 9 Try.underlying23 Try.underlying5 Try.underlying9
  have hs := strB_same xs ys
  go_enter Try.func50, Try.ntmps50
  go_wp2
  go_ret
  exact ⟨rfl, Below.refl _ _⟩
set_option maxRecDepth 100000 in
set_option maxHeartbeats 1600000 in
theorem Decode_any (A : Option Addr) (c n : Nat) (b : List UInt8) (w : World) (hn : b.length = n) (hx : RdB w A c b) (hl : n ≤ 140737488355328) :
    Calls Try.prog 85 #[.slice A n c] w fun e w' => ∃ v, e = .returned (.tuple #[v, .int .i64 (unE b)]) ∧ OwE w' w.heap.size v (unL b) ∧ Below w.heap.size w w' := by
  subst hn
  have hB := Bare_all A c b w hx hl
  have hun : unE b = if bareNum b ≠ 0 then bareNum b else if chkE (toldE (bare b)) = 0 ∧ blkX (toldE (bare b)) = b then 0 else 21 := rfl
  have hul : unL b = if unE b = 0 then toldE (bare b) else [] := rfl
  have hbl := bare_le b
  have hT := fun A c W (h : RdB W A c (bare b)) => told_any A c (bare b) W h (Nat.le_trans hbl hl)
  have htl := toldE_len (bare b)
  have hE := fun A c W (h : RdE W A c (toldE (bare b))) => Encode_any A c _ (toldE (bare b)) W rfl h (by omega)
  obtain ⟨n, hn⟩ : ∃ n, b.length = n := ⟨_, rfl⟩
  have HN := hide hn
  rw [hn] at hB hl ⊢
  by_cases h0 : bareNum b = 0
  · rw [if_neg (fun h => h h0)] at hun
    rw [h0] at hB
    generalize bare b = x at *
    generalize toldE x = L at *
    obtain ⟨nx, hnx⟩ : ∃ nx, x.length = nx := ⟨_, rfl⟩
    obtain ⟨nL, hnL⟩ : ∃ nL, L.length = nL := ⟨_, rfl⟩
    have HNX := hide hnx
    have HNL := hide hnL
    rw [hnx] at hT
    rw [hnL] at hE
    clear hn h0 hnx hnL htl hbl
    by_cases h1 : chkE L = 0
    · rw [h1] at hE
      by_cases h2 : blkX L = b
      · rw [if_pos ⟨h1, h2⟩] at hun
        rw [hun, if_pos rfl] at hul
        rw [hun, hul]
        have hQ := fun A B c d W (h : RdB W A c b) (h' : RdB W B d b) => Equal_any A B c d n n b b W HN.out HN.out h h'
        simp only [decide_true] at hQ
        rw [h2] at hE
        clear hun hul h1 h2
        go_enter Try.func85, Try.ntmps85
        go_wp2_with (first | (go_at_call 46; (with_reducible refine hB.mono ?_); rintro e w1 ⟨v1, rfl, HO1, HB1⟩; obtain ⟨A1, c1, hv1, hr1⟩ := HO1.rd; rw [HNX.out] at hv1; subst hv1) | (go_at_call 103; (with_reducible refine (hT _ _ _ hr1).mono ?_); rintro e w2 ⟨v2, rfl, HO2, HB2⟩; obtain ⟨A2, c2, hv2, hr2⟩ := HO2.rd; rw [HNL.out] at hv2; subst hv2; have HC2 := HB1.trans (HB2.mono HB1.size)) | (go_at_call 28; (with_reducible refine (hE _ _ _ hr2).mono ?_); rintro e w3 ⟨v3, rfl, HO3, HB3⟩; obtain ⟨A3, c3, hv3, hr3⟩ := HO3.rd; rw [HN.out] at hv3; subst hv3; have HC3 := HC2.trans (HB3.mono HC2.size)) | (go_at_call 50; (with_reducible refine (hQ _ _ _ _ _ hr3 (hx.below HC3)).mono ?_); rintro e w4 ⟨rfl, HB4⟩; have HC4 := HC3.trans (HB4.mono HC3.size)))
        go_ret2
        exact ⟨_, rfl, ((HO2.lower HB1.size).below HB3).below HB4, HC4⟩
      · rw [if_neg (fun h => h2 h.2)] at hun
        rw [hun, if_neg (by decide)] at hul
        rw [hun, hul]
        generalize blkX L = y at *
        obtain ⟨ny, hny⟩ : ∃ ny, y.length = ny := ⟨_, rfl⟩
        have HNY := hide hny
        have hQ := fun A B c d W (h : RdB W A c y) (h' : RdB W B d b) => Equal_any A B c d ny n y b W HNY.out HN.out h h'
        simp only [h2, decide_false] at hQ
        clear hun hul h1 h2 hny
        go_enter Try.func85, Try.ntmps85
        go_wp2_with (first | (go_at_call 46; (with_reducible refine hB.mono ?_); rintro e w1 ⟨v1, rfl, HO1, HB1⟩; obtain ⟨A1, c1, hv1, hr1⟩ := HO1.rd; rw [HNX.out] at hv1; subst hv1) | (go_at_call 103; (with_reducible refine (hT _ _ _ hr1).mono ?_); rintro e w2 ⟨v2, rfl, HO2, HB2⟩; obtain ⟨A2, c2, hv2, hr2⟩ := HO2.rd; rw [HNL.out] at hv2; subst hv2; have HC2 := HB1.trans (HB2.mono HB1.size)) | (go_at_call 28; (with_reducible refine (hE _ _ _ hr2).mono ?_); rintro e w3 ⟨v3, rfl, HO3, HB3⟩; obtain ⟨A3, c3, hv3, hr3⟩ := HO3.rd; rw [HNY.out] at hv3; subst hv3; have HC3 := HC2.trans (HB3.mono HC2.size)) | (go_at_call 50; (with_reducible refine (hQ _ _ _ _ _ hr3 (hx.below HC3)).mono ?_); rintro e w4 ⟨rfl, HB4⟩; have HC4 := HC3.trans (HB4.mono HC3.size)))
        go_ret2
        exact ⟨_, rfl, Ow.zero _ _ _ _, HC4⟩
    · rw [if_neg (fun h => h1 h.1)] at hun
      rw [hun, if_neg (by decide)] at hul
      rw [hun, hul]
      generalize blkX L = y at *
      generalize chkE L = z at *
      clear hun hul
      go_enter Try.func85, Try.ntmps85
      go_wp2_with (first | (go_at_call 46; (with_reducible refine hB.mono ?_); rintro e w1 ⟨v1, rfl, HO1, HB1⟩; obtain ⟨A1, c1, hv1, hr1⟩ := HO1.rd; rw [HNX.out] at hv1; subst hv1) | (go_at_call 103; (with_reducible refine (hT _ _ _ hr1).mono ?_); rintro e w2 ⟨v2, rfl, HO2, HB2⟩; obtain ⟨A2, c2, hv2, hr2⟩ := HO2.rd; rw [HNL.out] at hv2; subst hv2; have HC2 := HB1.trans (HB2.mono HB1.size)) | (go_at_call 28; (with_reducible refine (hE _ _ _ hr2).mono ?_); rintro e w3 ⟨v3, rfl, HO3, HB3⟩; have HC3 := HC2.trans (HB3.mono HC2.size)))
      go_ret2
      exact ⟨_, rfl, Ow.zero _ _ _ _, HC3⟩
  · rw [if_pos h0] at hun
    rw [hun] at hul
    rw [if_neg h0] at hul
    rw [hun, hul]
    generalize bareNum b = z at *
    clear hun hul hn hT hE htl hbl
    go_enter Try.func85, Try.ntmps85
    go_wp2_with (first | (go_at_call 46; (with_reducible refine hB.mono ?_); rintro e w1 ⟨v1, rfl, HO1, HB1⟩))
    go_ret2
    exact ⟨_, rfl, Ow.zero _ _ _ _, HB1⟩
end Go.Proofs.Ytefcepjffeiaoaa
end

section
/- Block: the walk of the reference's Decode. -/
namespace Go.Proofs.Ytefcepjffeiaoaa
open Go.RowKit Go.Proofs.YtefcepjffeiaoaaW.PrintWords
set_option linter.unusedVariables false

end Go.Proofs.Ytefcepjffeiaoaa
end
