/- The contracts that the laws of this seat share: octets, sums, numbers, records. -/
import Derived.Test.YtefcepjffeiaoaaProg
import Derived.Test.YtefcepjffeiaoaaQWWords
import Derived.WalkKit
import Derived.WalkSpells
import Derived.WalkLawsBesides
import Derived.KernelRfl
import Derived.Deep.QuietTactic
import Derived.BigQuiet
import Derived.Deep.DeepCutAuto
import Derived.Deep.CutBlock
import Derived.Deep.RegionHeld3
import Derived.Lib.ConvBytes
import Derived.Lib.AppendStr
import Derived.Deep.AppendLies
import Derived.IntWalk
import Derived.Test.YtefcepjffeiaoaaRows
import Derived.ChangeSlices
import Derived.ProofKit
import Derived.OpenShut
import Derived.Deep.Slices
import Derived.ChangeSame
import Derived.SizedLaws
import Derived.Laws.BitsAllLaws
import Derived.Laws.BitsLemmas
import Derived.Below
import Derived.Lib.AppendZeros
import Derived.Lib.BitFns
import Derived.Lib.ItoaNum
import Derived.StillTailTactics
import Derived.Test.YtefcepjffeiaoaaQShmathbitsLen64
import Derived.Test.YtefcepjffeiaoaaQShmathbitsLeadingZeros8
import Derived.Sort.Walk0
set_option linter.unusedVariables false
set_option linter.unusedSimpArgs false
section
/- What the walks of this seat share: bytes as a slice holds them, read and owned; small words. -/
namespace Go.Proofs.Ytefcepjffeiaoaa
open Go.RowKit Go.Proofs.YtefcepjffeiaoaaW.PrintWords

theorem hide {p : Prop} (h : p) : Hid p := h
/-- an octet in memory -/
def eu8 (b : UInt8) : Value := .int .u8 (b.toNat : Int)
theorem eu8_one (b : UInt8) : (eu8 b).oneCell' = true := rfl
theorem info_u8 : (Try.prog.info? 5).map (fun i => (i.zero, i.size, i.bytes)) = some (some (.int .u8 0), 1, 1) := by kernel_rfl

/-- a slice of octets that is read: its address, its capacity -/
def RdB (w : World) (A : Option Addr) (c : Nat) (xs : List UInt8) : Prop := xs.length ≤ c ∧ ReadsOf eu8 0 w A xs.length xs
/-- a row of octets of the call's own -/
def OwB (w : World) (base : Nat) (v : Value) (xs : List UInt8) : Prop := w.ownsRow base 5 1 v xs.length (encs eu8 xs)

theorem RdB.below {w w1 : World} {A : Option Addr} {c : Nat} {xs : List UInt8} (h : RdB w A c xs) (hb : Below w.heap.size w w1) : RdB w1 A c xs := ⟨h.1, h.2.below hb⟩
theorem RdB.le {w : World} {A : Option Addr} {c : Nat} {xs : List UInt8} (h : RdB w A c xs) : xs.length ≤ c := h.1
theorem RdB.max {w : World} {A : Option Addr} {c : Nat} {xs : List UInt8} (h : RdB w A c xs) : xs.length ≤ 9223372036854775807 := h.2.2.1
theorem RdB.at_ {w : World} {A : Option Addr} {c : Nat} {xs : List UInt8} (h : RdB w A c xs) (i : Nat) (hi : i < xs.length) : ∃ ad, A = some ad ∧ w.cell? (ad.add i) = some (.int .u8 ((xs.getD i 0).toNat : Int)) := by
  obtain ⟨ad, e, hc⟩ := h.2.2.2 (by omega)
  exact ⟨ad, e, hc i hi⟩
theorem RdB.zero (w : World) (A : Option Addr) (c : Nat) : RdB w A c [] := ⟨Nat.zero_le _, rfl, Nat.zero_le _, fun h => absurd h (by simp)⟩
theorem OwB.below {w w1 : World} {base : Nat} {v : Value} {xs : List UInt8} (h : OwB w base v xs) (hb : Below w.heap.size w w1) : OwB w1 base v xs := pw_own_below h hb
theorem OwB.lower {w : World} {base base' : Nat} {v : Value} {xs : List UInt8} (h : OwB w base v xs) (hb : base' ≤ base) : OwB w base' v xs := own_weaken h hb
theorem OwB.rd {w : World} {base : Nat} {v : Value} {xs : List UInt8} (h : OwB w base v xs) : ∃ A c, v = .slice A xs.length c ∧ RdB w A c xs := by
  obtain ⟨A, c, hv, hl, hr⟩ := own_reads_of_le (d := (0 : UInt8)) h
  exact ⟨A, c, hv, hl, hr⟩
theorem OwB.zero (w : World) (base : Nat) : OwB w base (.slice none 0 0) [] := own_nil _ _ _ _
theorem RdB.take {w : World} {A : Option Addr} {c : Nat} {xs : List UInt8} (h : RdB w A c xs) (k : Nat) (hk : k ≤ xs.length) : RdB w A c (xs.take k) := by
  have hl : (xs.take k).length = k := by rw [List.length_take]; omega
  refine ⟨by have := h.1; omega, ?_⟩
  rw [hl]
  exact h.2.take_ k hk
/-- the address behind 'xs[k:]' -/
def cutA (A : Option Addr) (c k : Nat) : Option Addr := if c = k then A else A.map (·.add k)
theorem RdB.drop {w : World} {A : Option Addr} {c : Nat} {xs : List UInt8} (h : RdB w A c xs) (k : Nat) (hk : k ≤ xs.length) : RdB w (cutA A c k) (c - k) (xs.drop k) := by
  have hl : (xs.drop k).length = xs.length - k := List.length_drop
  refine ⟨by have := h.1; omega, ?_⟩
  rw [hl]
  exact h.2.drop_ k hk h.1
/-- 'xs[:k]', 'xs[k:]', 'xs[j:k]' of a slice whose elements have one cell -/
theorem slice_hi {P : Program} (t e : TypeId) {i : TypeInfo} (ht : P.underlying t = some (.slice e)) (hi : P.info? e = some i) (hsz : i.size = 1) (A : Option Addr) (n c k : Nat) (hk : k ≤ c) (W : World) :
    (Instr.slice t (.slice A n c) none (some (.int .i64 (k : Int))) none).run P W = .ok (.slice A k c) W := by
  have hel : P.elem t = e := by simp [Program.elem, ht]
  have hu : P.underlying t = some (.slice (P.elem t)) := by rw [hel]; exact ht
  have ha : (A.map fun x => x.add 0) = A := by cases A <;> simp [Addr.add]
  rw [run_slice_h W t A n c hu .i64 (k : Int) (Int.natCast_nonneg _) (by omega), hel]
  simp [sizeOf, typeInfo, hi, hsz, sliced, Result.andThen, ha]
theorem slice_lo {P : Program} (t e : TypeId) {i : TypeInfo} (ht : P.underlying t = some (.slice e)) (hi : P.info? e = some i) (hsz : i.size = 1) (A : Option Addr) (n c k : Nat) (hk : k ≤ n) (W : World) :
    (Instr.slice t (.slice A n c) (some (.int .i64 (k : Int))) none none).run P W = .ok (.slice (cutA A c k) (n - k) (c - k)) W := by
  have hel : P.elem t = e := by simp [Program.elem, ht]
  have hu : P.underlying t = some (.slice (P.elem t)) := by rw [hel]; exact ht
  rw [run_slice_l W t A n c hu .i64 (k : Int) (Int.natCast_nonneg _) (by omega), hel]
  simp [sizeOf, typeInfo, hi, hsz, sliced, Result.andThen, cutA]
theorem slice_lohi {P : Program} (t e : TypeId) {i : TypeInfo} (ht : P.underlying t = some (.slice e)) (hi : P.info? e = some i) (hsz : i.size = 1) (A : Option Addr) (n c j k : Nat) (hj : j ≤ k) (hk : k ≤ c) (W : World) :
    (Instr.slice t (.slice A n c) (some (.int .i64 (j : Int))) (some (.int .i64 (k : Int))) none).run P W = .ok (.slice (cutA A c j) (k - j) (c - j)) W := by
  have hel : P.elem t = e := by simp [Program.elem, ht]
  have hu : P.underlying t = some (.slice (P.elem t)) := by rw [hel]; exact ht
  rw [run_slice_lh W t A n c hu .i64 .i64 (j : Int) (k : Int) (Int.natCast_nonneg _) (by omega) (by omega), hel]
  simp [sizeOf, typeInfo, hi, hsz, sliced, Result.andThen, cutA]

/-! 'string(b)', and its letters -/
def strB (xs : List UInt8) : ByteArray := ⟨xs.toArray⟩
theorem strOfNums_eu8 (xs : List UInt8) : strOfNums (xs.map fun b => (b.toNat : Int)) = strB xs := by
  simp [strOfNums, strB, List.map_map]
  have : ((fun (n : Int) => UInt8.ofNat n.toNat) ∘ fun (b : UInt8) => (b.toNat : Int)) = id := by
    funext b; simp
  rw [this, List.map_id]
theorem RdB.toStr {w : World} {A : Option Addr} {c : Nat} {xs : List UInt8} (h : RdB w A c xs) {P : Program} (src e dst : TypeId) (hs : P.underlying src = some (.slice e)) (he : P.underlying e = some (.int .u8)) (hd : P.underlying dst = some .string) :
    (convert src dst (.slice A xs.length c)).run P w = .ok (.string (strB xs)) w := by
  rcases Nat.eq_zero_or_pos xs.length with h0 | h0
  · obtain rfl : xs = [] := List.eq_nil_of_length_eq_zero h0
    cases A with
    | none => exact run_convert_bytes_nil w src e hs he 0 c dst hd
    | some ad =>
      show (convert src dst (.slice (some ad) 0 c)).run P w = _
      rw [run_convert_bytes_string w src dst e _ 0 c hs he hd, run_bytesToString w ad 0 c [] (by rfl)]
      rfl
  · obtain ⟨ad, rfl, hc⟩ := h.2.2.2 h0
    rcases ad with ⟨b, off, spot⟩
    cases spot with
    | some s =>
      have := hc 0 h0
      simp [Addr.add, World.cell?] at this
      split at this <;> simp at this
    | none =>
      have := run_convert_bytes_arg w src e hs he b off xs.length c (xs.map fun b => (b.toNat : Int)) (by simp) (fun i hi => by
        have := hc i hi
        have ha : (⟨b, off, none⟩ : Addr).add i = ⟨b, off + i, none⟩ := by unfold Addr.add; split <;> simp_all
        rw [ha] at this
        rw [this]
        simp [eu8, List.getD_eq_getElem?_getD, List.getElem?_eq_getElem hi]) dst hd
      rw [strOfNums_eu8] at this
      exact this

/-! 'append(v, ys...)' of octets, and of one octet -/
theorem OwB.lit0 (w : World) : OwB (w.alloc (.cells #[] 5)) w.heap.size (.slice (some ⟨w.heap.size, 0, none⟩) 0 0) [] := own_lit_of (enc := eu8) w w.heap.size 5 [] (Nat.le_refl _) (by simp)
section
variable {ops : Array Oper} {rest : List Oper} {o : Oper} {a : Act} {Q : Exit → Act → World → Prop}
theorem app_row {w0 W : World} (base : Nat) (hgd : o.guard = none) (s x : Operand)
    (ho : o.op = .call { callee := .builtin .append, args := #[s, x], argTypes := #[23, 23] })
    (v : Value) (xs ys : List UInt8) (A : Option Addr) (c : Nat) (hs : a.eval s = v) (hx : a.eval x = .slice A ys.length c)
    (HO : OwB W base v xs) (HR : RdB W A c ys) (HB : Below base w0 W) (hbase : base ≤ W.heap.size) (hl : xs.length + ys.length ≤ 140737488355328)
    (h : ∀ v1 w1, OwB w1 base v1 (xs ++ ys) → Below base w0 w1 → W.grownBy w1 v.ownBlock → (v1.ownBlock = v.ownBlock ∨ ∃ b, v1.ownBlock = some b ∧ W.heap.size ≤ b) → wpList Try.prog ops Q rest (a.put o.dst v1) w1) :
    wpList Try.prog ops Q (o :: rest) a W :=
  print_append_row_of eu8 0 base hgd s x 23 5 (.int .u8 0) 1 ho Try.underlying23 info_u8 rfl (by decide) eu8_one v xs ys A ys.length c hs hx HO HR.2 HB hbase (by omega) h
end

/-! a region that draws its order, whose operations read what lay there when the call began, and whose callees leave that alone and hand back plain values: one walk in the text's order ('quiet_step', the class 'Below') -/
theorem wp_region_below {P : Program} {id : Nat} {Q : Exit → Act → World → Prop} {a : Act} {w : World} {l : List Oper} (B : Nat) (w0 : World) (hw0 : Below B w0 w) (hm : P.follows .mixedOrders = true) (hB : Region.lexB .any l.toArray = true)
    (h : wpQuiet P l.toArray (fun w' => Below B w0 w') (fun a' => ∀ w', Below B w0 w' → Q .normal a' w') l a) : (Code.region id l.toArray true).wp P Q a w :=
  wp_region_quiet (C := fun w' => Below B w0 w') hm hB hw0.drew (by simpa using h)

/-! arrays: '[4]byte(b)', a whole array read -/
theorem run_arrayAt {P : Program} (w : World) (arr e n : Nat) (hu : P.underlying arr = some (.array n e)) (a : Option Addr) (len c : Nat) (h : n ≤ len) : (Instr.arrayAt arr (.slice a len c)).run P w = .ok (.pointer a) w := by
  have h' : ¬ len < n := by omega
  simp [Instr.arrayAt, run_underlying hu, h']
theorem run_loadVar_arr {P : Program} (w : World) (ty e n : Nat) (hu : P.underlying ty = some (.array n e)) (a : Addr) (cs : List Value) (hi : (P.info? ty).map (·.size) = some cs.length)
    (hc : ∀ j v, cs[j]? = some v → w.cell? (a.add j) = some v) : (loadVar ty a).run P w = .ok (.agg cs.toArray) w := by
  have hl := run_loadCells_list (P := P) w a cs hc
  cases hq : P.info? ty with
  | none => simp [hq] at hi
  | some i =>
    have hs : i.size = cs.length := by simpa [hq] using hi
    have hagg : (isAgg ty).run P w = .ok true w := by
      unfold isAgg
      rw [Sem.run_bind, run_underlying hu w]
      simp
    simp [loadVar, Sem.run_bind, hagg, sizeOf, typeInfo, hq, hs, hl]
/-- an operation of a quiet walk whose run is known in every world of the class -/
theorem quiet_run {P : Program} {ops : Array Oper} {C : World → Prop} {Q : Act → Prop} {o : Oper} {rest : List Oper} {a : Act} (hgd : o.guard = none) (v : Value)
    (h : ∀ w, C w → (execOp a.eval o).run P w = .ok (.value v) w) (hk : wpQuiet P ops C Q rest (a.put o.dst v)) : wpQuiet P ops C Q (o :: rest) a :=
  wpQuiet_step fun K hK => by
    rw [if_pos (by simp [Region.wanted, hgd])]
    exact ⟨v, fun w hw => by unfold Oper.quietAt; rw [h w hw]; exact ⟨rfl, rfl⟩, hK _ hk⟩
/-- a whole variable (an array, a struct) read -/
theorem quiet_load {P : Program} {ops : Array Oper} {C : World → Prop} {Q : Act → Prop} {o : Oper} {rest : List Oper} {a : Act} (hgd : o.guard = none) (ty : TypeId) (x : Operand) (ho : o.op = .load ty x)
    (ad : Addr) (hx : a.eval x = .pointer (some ad)) (v : Value) (h : ∀ w, C w → (loadVar ty ad).run P w = .ok v w) (hk : wpQuiet P ops C Q rest (a.put o.dst v)) : wpQuiet P ops C Q (o :: rest) a :=
  quiet_run hgd v (fun w hw => by
    unfold execOp
    simp only [ho, hx, Instr.loadAt, Instr.sureAddr, Sem.run_bind, Sem.run_pure, Result.andThen_ok, h w hw]) hk
end Go.Proofs.Ytefcepjffeiaoaa
end

section
/- Arguments opened: a slice of octets; the bound of the second form. -/
namespace Go.Proofs.Ytefcepjffeiaoaa
open Go.ChangeShapes Go.WideShapes Go.ChangeAt Go.RowKit Go.Proofs.YtefcepjffeiaoaaW.PrintWords
set_option maxRecDepth 100000

theorem one_le {H : Type} (d : DataW H) : 1 ≤ Rows.uptoBulk d := by
  cases d with
  | lit l => cases l <;> simp [Rows.uptoBulk]
  | nil => simp [Rows.uptoBulk]
  | ptr d => simp [Rows.uptoBulk]
  | slice elems spare => simp [Rows.uptoBulk]
  | agg parts => simp [Rows.uptoBulk]
  | iface t d => simp [Rows.uptoBulk]
  | map entries => simp [Rows.uptoBulk]
  | held h => simp [Rows.uptoBulk]
theorem length_le {H : Type} (l : List (DataW H)) : l.length ≤ Rows.uptoBulkAll l := by
  induction l with
  | nil => simp [Rows.uptoBulkAll]
  | cons x r ih => have := one_le x; simp only [Rows.uptoBulkAll, List.length_cons]; omega

set_option maxRecDepth 100000 in
theorem open_bytes {H : Type} {enc : TypeId × Value → H} {W : World} {base : Nat} {v : Value} {d : DataW H} {p : List MemPlace} (hv : Value.okWide Try.prog W .any base 23 v)
    (h : DataW.Trod enc Try.prog W 0 (fun _ => true) true 23 v d p) : ∃ A c xs, v = .slice A xs.length c ∧ RdB W A c xs ∧ xs.length ≤ Rows.uptoBulk d := by
  obtain ⟨a, len, cap, rfl⟩ := okWide_slice Try.underlying23 hv
  obtain ⟨fuel, hf⟩ := h
  rcases open_ints Try.underlying23 Try.underlying5 (by kernel_rfl) hf with ⟨hcs, _⟩ | ⟨x, l, c, zs, hcs, _, hl, hm, hz, hx, hcell, hwz⟩
  · simp [Value.cells] at hcs
    obtain ⟨rfl, rfl, rfl⟩ := hcs
    exact ⟨none, 0, [], rfl, RdB.zero _ _ _, Nat.zero_le _⟩
  · simp [Value.cells] at hcs
    obtain ⟨rfl, rfl, rfl⟩ := hcs
    have hz' : zs.length = cap := by simpa using hz
    have hxl : ((zs.take len).map fun n => UInt8.ofNat n.toNat).length = len := by simp; omega
    refine ⟨some x, cap, (zs.take len).map fun n => UInt8.ofNat n.toNat, by rw [hxl], ⟨by rw [hxl]; exact hl, rfl, by rw [hxl]; simp only [maxLen] at hm; omega, fun hp => ⟨x, rfl, fun j hj => ?_⟩⟩, ?_⟩
    · rw [hxl] at hj
      rw [hcell j (by omega)]
      have hmem : zs.getD j 0 ∈ zs := by
        rw [List.getD_eq_getElem?_getD, List.getElem?_eq_getElem (by omega)]
        simp
      have hw := hwz _ hmem
      simp only [Lit.wf, IntKind.min, IntKind.max, IntKind.signed, IntKind.bits] at hw
      have hb : 0 ≤ zs.getD j 0 ∧ zs.getD j 0 ≤ 255 := by simpa using hw
      have hg : ((zs.take len).map fun n => UInt8.ofNat n.toNat).getD j 0 = UInt8.ofNat (zs.getD j 0).toNat := by
        rw [List.getD_eq_getElem?_getD, List.getElem?_map, List.getElem?_take_of_lt hj, List.getElem?_eq_getElem (by omega), List.getD_eq_getElem?_getD, List.getElem?_eq_getElem (by omega)]
        simp
      rw [hg]
      unfold eu8
      congr 2
      simp only [UInt8.toNat_ofNat']
      omega
    · obtain ⟨hx, _⟩ := Prod.mk.inj hx
      rw [hxl, hx]
      have h1 := length_le (H := H) (lits .u8 (zs.take len))
      have h2 : (lits (H := H) .u8 (zs.take len)).length = len := by simp [lits]; omega
      simp only [Rows.uptoBulk]
      omega
end Go.Proofs.Ytefcepjffeiaoaa
end

section
/- Octets appended, as a step of a region that draws its order; a cell far from a store. -/
namespace Go.Proofs.Ytefcepjffeiaoaa
open Go.RowKit Go.Proofs.YtefcepjffeiaoaaW.PrintWords
set_option linter.unusedVariables false

theorem rrow_of {w : World} {A : Option Addr} {n : Nat} {xs : List UInt8} (h : ReadsOf eu8 0 w A n xs) : ReadsRow (fun (x : UInt8) cs => cs = [eu8 x]) 1 w A n xs := by
  refine ⟨h.1, h.2.1, fun hn => ?_⟩
  obtain ⟨ad, e, hc⟩ := h.2.2 hn
  refine ⟨ad, e, fun j p hj => ⟨[eu8 p], rfl, rfl, fun i u hu => ?_⟩⟩
  obtain ⟨hl, hp⟩ := List.getElem?_eq_some_iff.1 hj
  have hi : i = 0 := by
    rcases Nat.eq_zero_or_pos i with h0 | h0
    · exact h0
    · rw [List.getElem?_eq_none (by simp; omega)] at hu
      cases hu
  subst hi
  have h1 := hc j (by have := h.1; omega)
  have h2 : u = eu8 p := by simpa using hu.symm
  rw [h2, Nat.mul_one, Nat.add_zero]
  rw [List.getD_eq_getElem?_getD, hj] at h1
  exact h1
/-- the kind of an octet -/
def kU8 : Kd UInt8 := Kd.scalar eu8 eu8_one
section
variable {ops : Array Oper} {o : Oper} {a : Act} {Q : Exit → Act → World → Prop} {K : Act → World → Prop}
theorem step_row {w0 W : World} (base : Nat) (hw : Region.wanted o (yielded ops a.tmps) = true) (s x : Operand)
    (ho : o.op = .call { callee := .builtin .append, args := #[s, x], argTypes := #[23, 23] })
    (v : Value) (xs ys : List UInt8) (A : Option Addr) (c : Nat) (hs : a.eval s = v) (hx : a.eval x = .slice A ys.length c)
    (HO : OwB W base v xs) (HR : RdB W A c ys) (HB : Below base w0 W) (hbase : base ≤ W.heap.size) (hl : xs.length + ys.length ≤ 140737488355328)
    (h : ∀ v1 w1, OwB w1 base v1 (xs ++ ys) → Below base w0 w1 → W.grownBy w1 v.ownBlock → K (a.put o.dst v1) w1) :
    if Region.wanted o (yielded ops a.tmps) = true then Oper.wp Try.prog o a W K Q else K (a.put o.dst undef) W :=
  Kd.R_append_rows_step kU8 (Rr := fun (x : UInt8) cs => cs = [eu8 x]) base hw s x 23 5 (.int .u8 0) 1 ho Try.underlying23 info_u8 rfl (by decide) (by decide) v xs ys A ys.length c (fun _ => True) (fun _ => False) hs hx
    (Kd.R_of_own HO (fun _ _ => trivial)) (rrow_of HR.2) (fun _ _ h => h) (fun _ h => h.elim) (fun _ _ => trivial) HB hbase (by omega) (fun v1 w1 h1 h2 h3 _ => h v1 w1 (Kd.own_of_R h1) h2 h3)
end
end Go.Proofs.Ytefcepjffeiaoaa
end

section
/- Arguments opened, kind by kind: what a datum reads as, how long its slices and strings may be. -/
namespace Go.Proofs.Ytefcepjffeiaoaa
open Go.ChangeShapes Go.WideShapes Go.ChangeAt Go.RowKit Go.Proofs.YtefcepjffeiaoaaW.PrintWords
set_option maxRecDepth 100000
set_option linter.unusedVariables false

/-- cells of a type read as something of a kind: S is what the bound on sizes says of it, bulk how much it holds -/
def Opens {α : Type} (d : Kd α) (t : TypeId) (S : Nat → α → Prop) (bulk : α → Nat) : Prop :=
  ∀ (H : Type) (enc : TypeId × Value → H) (W : World) (fuel : Nat) (cs : List Value) (x : DataW H × List MemPlace), DataW.trod enc Try.prog W 0 (fun _ => true) true fuel t cs = some x →
    ∃ a, d.K W a cs ∧ (∀ B, (∀ y ∈ x.1.weights Try.prog t, y ≤ B) → S B a) ∧ bulk a ≤ Rows.uptoBulk x.1
theorem opens_int {t : TypeId} {k : IntKind} (ht : Try.prog.underlying t = some (.int k)) : Opens (Kd.int k) t (fun _ a => (Lit.int k a).wf = true) (fun _ => 1) := by
  intro H enc W fuel cs x h
  obtain ⟨a, rfl, rfl, hw⟩ := DataW.trod_int ht h
  exact ⟨a, rfl, fun _ _ => hw, one_le _⟩
theorem opens_string {t : TypeId} (ht : Try.prog.underlying t = some .string) : Opens Kd.string t (fun B s => s.size ≤ B ∧ s.size ≤ 9223372036854775807) (fun s => s.size + 1) := by
  intro H enc W fuel cs x h
  obtain ⟨s, rfl, rfl, hs⟩ := DataW.trod_string ht h
  have e : s.data.toList.length = s.size := by rw [Array.length_toList]; rfl
  refine ⟨s, rfl, fun B hB => ⟨?_, hs⟩, ?_⟩
  · have := hB s.data.toList.length (by simp [DataW.weights])
    omega
  · show s.size + 1 ≤ Rows.uptoBulk (DataW.lit (Lit.string s.data.toList))
    simp only [Rows.uptoBulk]
    omega
theorem weights_all {H : Type} {e : TypeId} {d : DataW H} : ∀ {l : List (DataW H)}, d ∈ l → ∀ y ∈ d.weights Try.prog e, y ∈ DataW.weightsAll Try.prog e l := by
  intro l hd y hy
  induction l with
  | nil => cases hd
  | cons x r ih =>
    simp only [DataW.weightsAll]
    rcases List.mem_cons.1 hd with rfl | h
    · exact List.mem_append_left _ hy
    · exact List.mem_append_right _ (ih h)
theorem bulk_all {H : Type} {α : Type} {bulk : α → Nat} (D : Nat → DataW H) (A : Nat → α) (n : Nat) (h : ∀ i, i < n → bulk (A i) ≤ Rows.uptoBulk (D i)) : ∀ s, ((((List.range' s (n - s)).map A).map bulk).sum) ≤ Rows.uptoBulkAll ((List.range' s (n - s)).map D) := by
  intro s
  induction hd : n - s generalizing s with
  | zero => simp
  | succ m ih =>
    rw [List.range'_succ]
    simp only [List.map_cons, List.sum_cons, Rows.uptoBulkAll]
    have h1 := h s (by omega)
    have h2 := ih (s + 1) (by omega)
    omega
theorem opens_slice {α : Type} [Inhabited α] {d : Kd α} {t e : TypeId} {S : Nat → α → Prop} {bulk : α → Nat} (ht : Try.prog.underlying t = some (.slice e)) (hc : Try.prog.cellsOf e = d.sz) (he : Opens d e S bulk) :
    Opens (Kd.slice e d) t (fun B xs => xs.length * Try.prog.bytesOf e ≤ B ∧ ∀ x ∈ xs, S B x) (fun xs => (xs.map bulk).sum + 1) := by
  intro H enc W fuel cs x h
  rcases Go.Deep.open_slice ht h with ⟨rfl, rfl⟩ | ⟨a, len, cap, m, n, D, Pl, rfl, hb, hl, hm, hmm, rfl, hx⟩
  · exact ⟨[], ⟨none, 0, rfl, Nat.le_refl _, rfl, Nat.zero_le _, fun hp => absurd hp (by simp)⟩, fun B _ => ⟨by simp, fun x hx => absurd hx (by simp)⟩, by simp [Rows.uptoBulk]⟩
  have hlm : len ≤ m := by rw [hmm]; split <;> omega
  obtain ⟨A, hA⟩ := Go.Deep.choose_lt (α := α) (n := len) (p := fun i y => ∃ cs', W.cells? 0 (a.add (i * Try.prog.cellsOf e)) (Try.prog.cellsOf e) = some cs' ∧ d.K W y cs' ∧ (∀ B, (∀ z ∈ (D i).weights Try.prog e, z ≤ B) → S B y) ∧ bulk y ≤ Rows.uptoBulk (D i)) (fun i hi => by
    obtain ⟨cs', h1, h2⟩ := hx i (by omega)
    obtain ⟨y, k1, k2, k3⟩ := he H enc W n cs' _ h2
    exact ⟨y, cs', h1, k1, k2, k3⟩)
  have hlen : ((List.range len).map A).length = len := by simp
  refine ⟨(List.range len).map A, ⟨some a, cap, by rw [hlen], by rw [hlen]; exact hl, rfl, by rw [hlen]; simp only [maxLen] at hm; omega, fun _ => ⟨a, rfl, fun j p hj => ?_⟩⟩, fun B hB => ⟨?_, fun y hy => ?_⟩, ?_⟩
  · obtain ⟨hjl, hjp⟩ := List.getElem?_eq_some_iff.1 hj
    rw [hlen] at hjl
    have hp : p = A j := by rw [← hjp]; simp
    subst hp
    obtain ⟨cs', h1, h2, _, _⟩ := hA j hjl
    obtain ⟨_, h4, h5⟩ := World.cells?_some h1
    refine ⟨cs', by rw [h4, hc], h2, fun i u hu => ?_⟩
    have hi : i < cs'.length := (List.getElem?_eq_some_iff.1 hu).1
    have h6 := h5 i (by omega)
    rw [Go.Deep.add_add, hc] at h6
    rw [h6, hu]
  · have h1 := hB ((((List.range len).map D).length + ((List.range (m - len)).map fun j => D (len + j)).length) * Try.prog.bytesOf e) (by simp only [DataW.weights, ht]; exact List.mem_cons_self ..)
    rw [List.length_map, List.length_range] at h1 ⊢
    exact Nat.le_trans (Nat.mul_le_mul_right _ (Nat.le_add_right _ _)) h1
  · obtain ⟨i, hi, rfl⟩ := List.mem_map.1 hy
    have hi' := List.mem_range.1 hi
    obtain ⟨cs', _, _, h3, _⟩ := hA i hi'
    refine h3 B fun z hz => hB z ?_
    simp only [DataW.weights, ht]
    exact List.mem_cons_of_mem _ (List.mem_append_left _ (weights_all (List.mem_map.2 ⟨i, hi, rfl⟩) z hz))
  · have := bulk_all (bulk := bulk) D A len (fun i hi => by obtain ⟨_, _, _, _, h⟩ := hA i hi; exact h) 0
    simp only [Nat.sub_zero, ← List.range_eq_range'] at this
    simp only [Rows.uptoBulk]
    omega
/-- fields one behind the other, from an offset on -/
def OpensF {α : Type} (d : Kd α) (fs : List Field) (off : Nat) (S : Nat → α → Prop) (bulk : α → Nat) : Prop :=
  ∀ (H : Type) (enc : TypeId × Value → H) (W : World) (fuel : Nat) (cs : List Value) (xs : List (DataW H × List MemPlace)), xs.length = fs.length → cs.length = off + d.sz →
    (∀ (i : Nat) (f : Field), fs[i]? = some f → DataW.trod enc Try.prog W 0 (fun _ => true) true fuel f.type ((cs.drop f.offset).take (Try.prog.cellsOf f.type)) = xs[i]?) →
    ∃ a, d.K W a (cs.drop off) ∧ (∀ B, (∀ y ∈ DataW.weightsEach Try.prog (fs.map (·.type)) (xs.map (·.1)), y ≤ B) → S B a) ∧ bulk a ≤ Rows.uptoBulkAll (xs.map (·.1))
theorem opensF_one {α : Type} {d : Kd α} {f : Field} {off : Nat} {S : Nat → α → Prop} {bulk : α → Nat} (ho : f.offset = off) (hc : Try.prog.cellsOf f.type = d.sz) (h : Opens d f.type S bulk) : OpensF d [f] off S bulk := by
  intro H enc W fuel cs xs hl hcs hx
  match xs, hl with
  | [x], _ =>
    have h0 := hx 0 f rfl
    rw [ho, hc, List.take_of_length_le (by rw [List.length_drop]; omega)] at h0
    obtain ⟨a, k1, k2, k3⟩ := h H enc W fuel _ x h0
    refine ⟨a, k1, fun B hB => k2 B fun y hy => hB y ?_, ?_⟩
    · simp only [List.map_cons, List.map_nil, DataW.weightsEach]
      exact List.mem_append_left _ hy
    · simp only [List.map_cons, List.map_nil, Rows.uptoBulkAll]
      omega
theorem opensF_cons {α β : Type} {d : Kd α} {d' : Kd β} {f : Field} {fs : List Field} {off : Nat} {S : Nat → α → Prop} {S' : Nat → β → Prop} {bulk : α → Nat} {bulk' : β → Nat} (ho : f.offset = off) (hc : Try.prog.cellsOf f.type = d.sz) (h : Opens d f.type S bulk) (h' : OpensF d' fs (off + d.sz) S' bulk') :
    OpensF (Kd.pair d d') (f :: fs) off (fun B x => S B x.1 ∧ S' B x.2) (fun x => bulk x.1 + bulk' x.2) := by
  intro H enc W fuel cs xs hl hcs hx
  have hcs' : cs.length = off + (d.sz + d'.sz) := hcs
  match xs, hl with
  | x :: r, hl =>
    have h0 := hx 0 f rfl
    rw [ho, hc] at h0
    obtain ⟨a, k1, k2, k3⟩ := h H enc W fuel _ x h0
    obtain ⟨b, m1, m2, m3⟩ := h' H enc W fuel cs r (by simpa using hl) (by omega) (fun i g hg => hx (i + 1) g (by simpa using hg))
    refine ⟨(a, b), ⟨(cs.drop off).take d.sz, cs.drop (off + d.sz), ?_, k1, m1⟩, fun B hB => ⟨k2 B fun y hy => hB y ?_, m2 B fun y hy => hB y ?_⟩, ?_⟩
    · rw [← List.drop_drop, List.take_append_drop]
    · simp only [List.map_cons, DataW.weightsEach]
      exact List.mem_append_left _ hy
    · simp only [List.map_cons, DataW.weightsEach]
      exact List.mem_append_right _ hy
    · simp only [List.map_cons, Rows.uptoBulkAll]
      omega
theorem opens_struct {α : Type} {d : Kd α} {t : TypeId} {fs : Array Field} {S : Nat → α → Prop} {bulk : α → Nat} (ht : Try.prog.underlying t = some (.struct fs)) (hc : Try.prog.cellsOf t = d.sz) (h : OpensF d fs.toList 0 S bulk) : Opens d t S (fun a => bulk a + 1) := by
  intro H enc W fuel cs x hx
  obtain ⟨xs, n, _, rfl, hl, hlen, hf⟩ := DataW.trod_struct ht hx
  obtain ⟨a, k1, k2, k3⟩ := h H enc W n cs xs (by simpa using hlen) (by omega) (fun i f hi => hf i f (by simpa using hi))
  refine ⟨a, k1, fun B hB => k2 B fun y hy => hB y ?_, ?_⟩
  · simp only [DataW.weights, ht]
    exact hy
  · simp only [Rows.uptoBulk]
    omega
/-- an argument that is a slice -/
theorem open_slice_of {α : Type} {d : Kd α} {t e : TypeId} {S : Nat → List α → Prop} {bulk : List α → Nat} (ht : Try.prog.underlying t = some (.slice e)) (ho : Opens (Kd.slice e d) t S bulk) {H : Type} {enc : TypeId × Value → H} {W : World} {base : Nat} {v : Value} {x : DataW H} {p : List MemPlace} (hv : Value.okWide Try.prog W .any base t v)
    (h : DataW.Trod enc Try.prog W 0 (fun _ => true) true t v x p) : ∃ A c xs, v = .slice A xs.length c ∧ xs.length ≤ c ∧ d.C W A xs.length xs ∧ (∀ B, (∀ y ∈ x.weights Try.prog t, y ≤ B) → S B xs) ∧ bulk xs ≤ Rows.uptoBulk x := by
  obtain ⟨a, len, cap, rfl⟩ := okWide_slice ht hv
  obtain ⟨fuel, hf⟩ := h
  obtain ⟨xs, ⟨A, c, hcs, hl, hC⟩, k2, k3⟩ := ho H enc W fuel _ _ hf
  simp only [Value.cells, List.cons.injEq, and_true] at hcs
  exact ⟨A, c, xs, hcs, hl, hC, k2, k3⟩
end Go.Proofs.Ytefcepjffeiaoaa
end

section
/- Octets of the call's own, set one by one; the least of three lengths; a row that is made. -/
namespace Go.Proofs.Ytefcepjffeiaoaa
open Go.RowKit Go.Proofs.YtefcepjffeiaoaaW.PrintWords

theorem OwB.set_ {W : World} {base : Nat} {v : Value} {xs : List UInt8} (HO : OwB W base v xs) (k : Nat) (hk : k < xs.length) :
    ∃ g cap, v = .slice (some ⟨g, 0, none⟩) xs.length cap ∧ base ≤ g ∧ g < W.heap.size ∧ W.cell? ⟨g, k, none⟩ = some (.int .u8 ((xs.getD k 0).toNat : Int)) ∧ W.frozen? ⟨g, k, none⟩ = false ∧
      ∀ x : UInt8, OwB (W.setCell ⟨g, k, none⟩ (.int .u8 (x.toNat : Int))) base v (xs.set k x) ∧ W.grownBy (W.setCell ⟨g, k, none⟩ (.int .u8 (x.toNat : Int))) (some g) := by
  have HO' := HO
  unfold OwB at HO'
  obtain ⟨g, cap, hv, hgb, hgl⟩ := HO'.form (by omega)
  subst hv
  have hat := own_at_of (d := (0 : UInt8)) HO' k (by omega) (by omega)
  have hkk : ((k : Int)).toNat = k := by omega
  rw [rdOf, hkk] at hat
  refine ⟨g, cap, rfl, hgb, hgl, hat.1, hat.2, fun x => ?_⟩
  have hst := own_store_of HO' k x
  rw [hkk] at hst
  refine ⟨?_, hst.2⟩
  unfold OwB
  rw [List.length_set]
  exact hst.1
theorem OwB.lt {w : World} {base : Nat} {v : Value} {xs : List UInt8} (h : OwB w base v xs) (k : Nat) (hk : v.ownBlock = some k) : k < w.heap.size := own_lt h k hk
theorem OwB.ge {w : World} {base : Nat} {v : Value} {xs : List UInt8} (h : OwB w base v xs) (k : Nat) (hk : v.ownBlock = some k) : base ≤ k := own_base h k hk
theorem OwB.grown {w w1 : World} {base : Nat} {v : Value} {xs : List UInt8} {w0 : World} (h : OwB w base v xs) (hB : Below base w0 w) (hs : base ≤ w.heap.size) (hg : w.grownBy w1 v.ownBlock) : Below base w0 w1 := hB.grown hg hs (fun k hk => own_base h k hk)
theorem OwB.made (W : World) (base m : Nat) (hb : base ≤ W.heap.size) (hm : m ≤ 9223372036854775807) :
    OwB (W.alloc (.cells (madeCells #[.int .u8 0] m) 5)) base (.slice (some ⟨W.heap.size, 0, none⟩) m m) (List.replicate m 0) := by
  unfold OwB
  rw [List.length_replicate]
  exact own_made_of (enc := eu8) (d := 0) W base 5 m hb hm
theorem make_bytes (m : Nat) (hn : m ≤ 281474976710656) (W : World) : (Instr.makeSlice 23 (.int .i64 (m : Int)) (.int .i64 (m : Int))).run Try.prog W = .ok (.slice (some ⟨W.heap.size, 0, none⟩) m m) (W.alloc (.cells (madeCells #[.int .u8 0] m) 5)) :=
  print_make_of 23 5 (.int .u8 0) 1 Try.underlying23 info_u8 rfl (by decide) m (by omega) W
section
variable {P : Program} {ops : Array Oper} {rest : List Oper} {o : Oper} {a : Act} {Q : Exit → Act → World → Prop}
/-- an operation that is no call out of here, and whose run is known -/
theorem wp_known {W W' : World} (hgd : o.guard = none) (v : Value) (h : (execOp a.eval o).run P W = .ok (.value v) W') (hk : wpList P ops Q rest (a.put o.dst v) W') : wpList P ops Q (o :: rest) a W :=
  wpList_plain hgd fun K hK => by
    unfold Oper.wp
    rw [h]
    exact hK _ _ hk
theorem min2_nat (k : IntKind) (m n : Nat) : Builtin.min2 (.int k (m : Int)) (.int k (n : Int)) = (pure (.int k ((Nat.min m n : Nat) : Int)) : Sem Value) := by
  show (pure (.int k (if (n : Int) < (m : Int) then (n : Int) else (m : Int))) : Sem Value) = _
  by_cases h : n < m
  · rw [if_pos (by omega), show Nat.min m n = n from Nat.min_eq_right (by omega)]
  · rw [if_neg (by omega), show Nat.min m n = m from Nat.min_eq_left (by omega)]
theorem wp_min2 {W : World} (hgd : o.guard = none) (x y : Operand) (t1 t2 : TypeId) (ho : o.op = .call { callee := .builtin .min, args := #[x, y], argTypes := #[t1, t2] }) (k : IntKind) (m n : Nat)
    (hx : a.eval x = .int k (m : Int)) (hy : a.eval y = .int k (n : Int)) (hk : wpList P ops Q rest (a.put o.dst (.int k ((Nat.min m n : Nat) : Int))) W) : wpList P ops Q (o :: rest) a W :=
  wp_known hgd _ (by
    unfold execOp
    simp only [ho, resolve, invoke, builtin, Sem.run_bind, Sem.run_pure, Result.andThen_ok, List.map_toArray, List.map_cons, List.map_nil, hx, hy, Builtin.min_, List.foldlM_cons, List.foldlM_nil, min2_nat]) hk
end
end Go.Proofs.Ytefcepjffeiaoaa
end

section
/- Rows of elements of any kind: read, owned. -/
namespace Go.Proofs.Ytefcepjffeiaoaa
open Go.RowKit Go.Proofs.YtefcepjffeiaoaaW.PrintWords
set_option linter.unusedVariables false

section
variable {α : Type}
/-- a row that is read -/
def Rd (d : Kd α) (w : World) (A : Option Addr) (c : Nat) (xs : List α) : Prop := xs.length ≤ c ∧ d.C w A xs.length xs
theorem Rd.below {d : Kd α} {w w1 : World} {A : Option Addr} {c : Nat} {xs : List α} (h : Rd d w A c xs) (hb : Below w.heap.size w w1) : Rd d w1 A c xs := ⟨h.1, Kd.C_below h.2 hb⟩
theorem Rd.max {d : Kd α} {w : World} {A : Option Addr} {c : Nat} {xs : List α} (h : Rd d w A c xs) : xs.length ≤ 9223372036854775807 := h.2.2.1
theorem Rd.le {d : Kd α} {w : World} {A : Option Addr} {c : Nat} {xs : List α} (h : Rd d w A c xs) : xs.length ≤ c := h.1
theorem Rd.zero (d : Kd α) (w : World) (A : Option Addr) (c : Nat) : Rd d w A c [] := ⟨Nat.zero_le _, rfl, Nat.zero_le _, fun h => absurd h (by simp)⟩
theorem Rd.take {d : Kd α} {w : World} {A : Option Addr} {c : Nat} {xs : List α} (h : Rd d w A c xs) (k : Nat) (hk : k ≤ xs.length) : Rd d w A c (xs.take k) := ⟨by rw [List.length_take]; have := h.1; omega, Kd.C_take h.2 hk⟩
/-- the address behind 'xs[k:]' -/
def cutK (sz : Nat) (A : Option Addr) (c k : Nat) : Option Addr := if c = k then A else A.map (·.add (k * sz))
theorem Rd.drop {d : Kd α} {w : World} {A : Option Addr} {c : Nat} {xs : List α} (h : Rd d w A c xs) (k : Nat) (hk : k ≤ xs.length) : Rd d w (cutK d.sz A c k) (c - k) (xs.drop k) := ⟨by rw [List.length_drop]; have := h.1; omega, Kd.C_drop h.2 hk h.1⟩
theorem Rd.mid {d : Kd α} {w : World} {A : Option Addr} {c : Nat} {xs : List α} (h : Rd d w A c xs) (j k : Nat) (hj : j ≤ k) (hk : k ≤ xs.length) : Rd d w (cutK d.sz A c j) (c - j) ((xs.take k).drop j) := (h.take k hk).drop j (by rw [List.length_take]; omega)
theorem Rd.at_ {d : Kd α} {w : World} {A : Option Addr} {c : Nat} {xs : List α} (h : Rd d w A c xs) (z : α) (i : Nat) (hi : i < xs.length) : ∃ ad cs, A = some ad ∧ d.K w (xs.getD i z) cs ∧ cs.length = d.sz ∧ ∀ j u, cs[j]? = some u → w.cell? (ad.add (i * d.sz + j)) = some u := by
  obtain ⟨ad, cs, e, hl, hk, hc⟩ := Kd.C_get h.2 z (i : Int) (by omega) (by omega)
  simp only [Int.toNat_natCast] at hk hc
  exact ⟨ad, cs, e, hk, hl, hc⟩
/-- a row of the call's own -/
def Ow (d : Kd α) (e : Nat) (w : World) (base : Nat) (v : Value) (xs : List α) : Prop := d.R e w base (fun _ => True) v xs
theorem Ow.below {d : Kd α} {e : Nat} {w w1 : World} {base : Nat} {v : Value} {xs : List α} (h : Ow d e w base v xs) (hb : Below w.heap.size w w1) : Ow d e w1 base v xs := Kd.R_below h hb
theorem Ow.zero (d : Kd α) (e : Nat) (w : World) (base : Nat) : Ow d e w base (.slice none 0 0) [] := Kd.R_nil _ _ _ _ _
theorem Ow.lower {d : Kd α} {e : Nat} {w : World} {base base' : Nat} {v : Value} {xs : List α} (h : Ow d e w base v xs) (hb : base' ≤ base) : Ow d e w base' v xs := Kd.R_lower h hb
theorem Ow.rd {d : Kd α} {e : Nat} {w : World} {base : Nat} {v : Value} {xs : List α} (h : Ow d e w base v xs) : ∃ A c, v = .slice A xs.length c ∧ Rd d w A c xs := by
  obtain ⟨A, c, hv, hl, hC⟩ := Kd.R_reads h
  exact ⟨A, c, hv, hl, hC⟩
theorem Ow.rdl {d : Kd α} {e : Nat} {w : World} {base : Nat} {A : Option Addr} {n c : Nat} {xs : List α} (h : Ow d e w base (.slice A n c) xs) : Rd d w A c xs := by
  obtain ⟨A', c', hv, hr⟩ := h.rd
  injection hv with h1 _ h3
  subst h1
  subst h3
  exact hr
theorem Ow.lt {d : Kd α} {e : Nat} {w : World} {base : Nat} {v : Value} {xs : List α} (h : Ow d e w base v xs) (k : Nat) (hk : v.ownBlock = some k) : k < w.heap.size := by
  obtain ⟨_, inner, ho, _⟩ := h
  exact own_lt ho k hk
theorem Ow.ge {d : Kd α} {e : Nat} {w : World} {base : Nat} {v : Value} {xs : List α} (h : Ow d e w base v xs) (k : Nat) (hk : v.ownBlock = some k) : base ≤ k := by
  obtain ⟨_, inner, ho, _⟩ := h
  exact own_base ho k hk
/-- a row of another element type has been written -/
theorem Ow.over {β : Type} {d : Kd α} {d' : Kd β} {e e' : Nat} {w w1 : World} {base base' : Nat} {v v' : Value} {xs : List α} {ys : List β} (h : Ow d e w base v xs) (h' : Ow d' e' w base' v' ys) (ht : ∀ q, q ∈ e :: d.E → q ≠ e') (hg : w.grownBy w1 v'.ownBlock) : Ow d e w1 base v xs := Kd.R_over' h (Kd.R_typed h') ht hg
theorem Ow.setCell {d : Kd α} {e : Nat} {w : World} {base : Nat} {v : Value} {xs : List α} (h : Ow d e w base v xs) {g t : Nat} {cells : Array Value} (hb : w.heap[g]? = some (.cells cells t (0, 0))) (ht : ∀ q, q ∈ e :: d.E → q ≠ t) (j : Nat) (u : Value) : Ow d e (w.setCell ⟨g, j, none⟩ u) base v xs := Kd.R_set h hb ht j u
theorem one_ne {e e' : Nat} (h : e ≠ e') : ∀ q, q ∈ [e] → q ≠ e' := fun q hq => by rw [List.mem_singleton.1 hq]; exact h
theorem OwB.ow {w : World} {base : Nat} {v : Value} {xs : List UInt8} (h : OwB w base v xs) : Ow kU8 5 w base v xs := Kd.R_of_own h (fun _ _ => trivial)
theorem Ow.owB {w : World} {base : Nat} {v : Value} {xs : List UInt8} (h : Ow kU8 5 w base v xs) : OwB w base v xs := Kd.own_of_R h
/-- 'xs[k:]', 'xs[:k]', 'xs[j:k]' of elements of whatever size -/
theorem sliceK_lo {P : Program} (t e : TypeId) {i : TypeInfo} (ht : P.underlying t = some (.slice e)) (hi : P.info? e = some i) (sz : Nat) (hsz : i.size = sz) (A : Option Addr) (n c k : Nat) (hk : k ≤ n) (W : World) :
    (Instr.slice t (.slice A n c) (some (.int .i64 (k : Int))) none none).run P W = .ok (.slice (cutK sz A c k) (n - k) (c - k)) W := by
  subst hsz
  have hel : P.elem t = e := by simp [Program.elem, ht]
  have hu : P.underlying t = some (.slice (P.elem t)) := by rw [hel]; exact ht
  rw [run_slice_l W t A n c hu .i64 (k : Int) (Int.natCast_nonneg _) (by omega), hel]
  simp [sizeOf, typeInfo, hi, sliced, Result.andThen, cutK]
theorem sliceK_lohi {P : Program} (t e : TypeId) {i : TypeInfo} (ht : P.underlying t = some (.slice e)) (hi : P.info? e = some i) (sz : Nat) (hsz : i.size = sz) (A : Option Addr) (n c j k : Nat) (hj : j ≤ k) (hk : k ≤ c) (W : World) :
    (Instr.slice t (.slice A n c) (some (.int .i64 (j : Int))) (some (.int .i64 (k : Int))) none).run P W = .ok (.slice (cutK sz A c j) (k - j) (c - j)) W := by
  subst hsz
  have hel : P.elem t = e := by simp [Program.elem, ht]
  have hu : P.underlying t = some (.slice (P.elem t)) := by rw [hel]; exact ht
  rw [run_slice_lh W t A n c hu .i64 .i64 (j : Int) (k : Int) (Int.natCast_nonneg _) (by omega) (by omega), hel]
  simp [sizeOf, typeInfo, hi, sliced, Result.andThen, cutK]
section
variable {P : Program} {ops : Array Oper} {rest : List Oper} {o : Oper} {a : Act} {Q : Exit → Act → World → Prop}
/-- 'append(v, x)': of one element whose cells bear no rows of their own -/
theorem app_ow {w0 W : World} (d : Kd α) (base : Nat) (hgd : o.guard = none) (s x : Operand) (t e : TypeId) (z : Value) (bytes : Nat)
    (ho : o.op = .call { callee := .builtin .append, args := #[s, x], argTypes := #[t, t] })
    (ht : P.underlying t = some (.slice e)) (hinfo : (P.info? e).map (fun i => (i.zero, i.size, i.bytes)) = some (some z, d.sz, bytes)) (hz : z.cells.size = d.sz) (hs0 : 0 < d.sz) (hb0 : 0 < bytes)
    (v : Value) (xs : List α) (p : α) (cs : List Value) (hs : a.eval s = v) (hx : a.eval x = .slice (some ⟨W.heap.size, 0, none⟩) 1 1) (hp : d.M W base (fun _ => False) p cs)
    (HO : Ow d e W base v xs) (HB : Below base w0 W) (hbase : base ≤ W.heap.size) (hl : (xs.length + 1) * bytes ≤ 140737488355328)
    (h : ∀ v1 w1, Ow d e w1 base v1 (xs ++ [p]) → Below base w0 w1 → W.grownBy w1 v.ownBlock → (v1.ownBlock = v.ownBlock ∨ ∃ b, v1.ownBlock = some b ∧ W.heap.size ≤ b) → wpList P ops Q rest (a.put o.dst v1) w1) :
    wpList P ops Q (o :: rest) a (W.alloc (.cells cs.toArray e)) :=
  Kd.R_append (P := P) d base hgd s x t e z bytes ho ht hinfo hz hs0 hb0 v xs p cs (fun _ => True) (fun _ => False) hs hx hp (fun _ h => h.elim) (fun _ _ => trivial) HO HB hbase hl h
/-- 'append(v, ys...)' -/
theorem app_ows {w0 W : World} (d : Kd α) (base : Nat) (hgd : o.guard = none) (s x : Operand) (t e : TypeId) (z : Value) (bytes : Nat)
    (ho : o.op = .call { callee := .builtin .append, args := #[s, x], argTypes := #[t, t] })
    (ht : P.underlying t = some (.slice e)) (hinfo : (P.info? e).map (fun i => (i.zero, i.size, i.bytes)) = some (some z, d.sz, bytes)) (hz : z.cells.size = d.sz) (hs0 : 0 < d.sz) (hb0 : 0 < bytes)
    (v : Value) (xs ys : List α) (A : Option Addr) (c : Nat) (hs : a.eval s = v) (hx : a.eval x = .slice A ys.length c) (hKM : ∀ x cs, d.K W x cs → d.M W base (fun _ => False) x cs)
    (HO : Ow d e W base v xs) (HR : Rd d W A c ys) (HB : Below base w0 W) (hbase : base ≤ W.heap.size) (hl : (xs.length + ys.length) * bytes ≤ 140737488355328)
    (h : ∀ v1 w1, Ow d e w1 base v1 (xs ++ ys) → Below base w0 w1 → W.grownBy w1 v.ownBlock → (v1.ownBlock = v.ownBlock ∨ ∃ b, v1.ownBlock = some b ∧ W.heap.size ≤ b) → wpList P ops Q rest (a.put o.dst v1) w1) :
    wpList P ops Q (o :: rest) a W :=
  Kd.R_append_rows (P := P) d (Rr := d.K W) base hgd s x t e z bytes ho ht hinfo hz hs0 hb0 v xs ys A ys.length c (fun _ => True) (fun _ => False) hs hx HO HR.2 hKM (fun _ h => h.elim) (fun _ _ => trivial) HB hbase hl h
end
end
section
variable {α : Type} {P : Program} {ops : Array Oper} {rest : List Oper} {o : Oper} {a : Act} {Q : Exit → Act → World → Prop}
theorem Ow.len {d : Kd α} {e : Nat} {w : World} {base : Nat} {A : Option Addr} {n c : Nat} {xs : List α} (h : Ow d e w base (.slice A n c) xs) : xs.length = n := by
  obtain ⟨A', c', hv, _⟩ := h.rd
  injection hv with _ h2 _
  exact h2.symm
theorem Ow.head {d : Kd α} {e : Nat} {w : World} {base : Nat} {A : Option Addr} {n c : Nat} {xs : List α} (h : Ow d e w base (.slice A n c) xs) (hn : 0 < n) : ∃ g, A = some ⟨g, 0, none⟩ ∧ base ≤ g ∧ g < w.heap.size := by
  obtain ⟨inner, hown⟩ := Kd.R_own h
  rw [h.len] at hown
  obtain ⟨g, cap, hv, hb, hl⟩ := hown.form hn
  injection hv with ha _ _
  exact ⟨g, ha, hb, hl⟩
end
/-- the kind of a number -/
abbrev kInt : Kd Int := Kd.int .i64
abbrev kStr : Kd ByteArray := Kd.string
theorem info_int : (Try.prog.info? 3).map (fun i => (i.zero, i.size, i.bytes)) = some (some (.int .i64 0), 1, 8) := by kernel_rfl
section
variable {ops : Array Oper} {rest : List Oper} {o : Oper} {a : Act} {Q : Exit → Act → World → Prop}
end
theorem Rd.int_at {w : World} {A : Option Addr} {c : Nat} {xs : List Int} (h : Rd kInt w A c xs) (i : Nat) (hi : i < xs.length) : ∃ ad, A = some ad ∧ w.cell? (ad.add i) = some (.int .i64 (xs.getD i 0)) := by
  obtain ⟨ad, cs, e, hk, _, hc⟩ := h.at_ 0 i hi
  have hk' : cs = [.int .i64 (xs.getD i 0)] := hk
  subst hk'
  have := hc 0 _ rfl
  rw [show kInt.sz = 1 from rfl, Nat.mul_one, Nat.add_zero] at this
  exact ⟨ad, e, this⟩
end Go.Proofs.Ytefcepjffeiaoaa
end

section
/- Rows of versions: read, owned; one version in memory. -/
namespace Go.Proofs.Ytefcepjffeiaoaa
open Go.RowKit Go.Proofs.YtefcepjffeiaoaaW.PrintWords
set_option linter.unusedVariables false

/-- a version: its key, its number, its kind, its value -/
abbrev Ent := ByteArray × Int × Int × ByteArray
def kEnt : Kd Ent := Kd.pair kStr (Kd.pair kInt (Kd.pair kInt kStr))
def zEnt : Ent := (ByteArray.empty, 0, 0, ByteArray.empty)
theorem info_ent : (Try.prog.info? 43).map (fun i => (i.zero, i.size, i.bytes)) = some (some (.agg #[.string ByteArray.empty, .int .i64 0, .int .i64 0, .string ByteArray.empty]), 4, 48) := by kernel_rfl
theorem kEnt_K {w : World} {c : Ent} {cs : List Value} (h : kEnt.K w c cs) : cs = [.string c.1, .int .i64 c.2.1, .int .i64 c.2.2.1, .string c.2.2.2] := by
  obtain ⟨c0, c1, rfl, h0, c2, c3, rfl, h2, c4, c5, rfl, h4, h5⟩ := h
  have h0' : c0 = [.string c.1] := h0
  have h2' : c2 = [.int .i64 c.2.1] := h2
  have h4' : c4 = [.int .i64 c.2.2.1] := h4
  have h5' : c5 = [.string c.2.2.2] := h5
  subst h0'
  subst h2'
  subst h4'
  subst h5'
  rfl
theorem kEnt_mk (w : World) (c : Ent) : kEnt.K w c [.string c.1, .int .i64 c.2.1, .int .i64 c.2.2.1, .string c.2.2.2] := ⟨[.string c.1], _, rfl, rfl, [.int .i64 c.2.1], _, rfl, rfl, [.int .i64 c.2.2.1], [.string c.2.2.2], rfl, rfl, rfl⟩
theorem kEnt_M (w : World) (base : Nat) (ok : Nat → Prop) (c : Ent) : kEnt.M w base ok c [.string c.1, .int .i64 c.2.1, .int .i64 c.2.2.1, .string c.2.2.2] := ⟨[.string c.1], _, rfl, rfl, [.int .i64 c.2.1], _, rfl, rfl, [.int .i64 c.2.2.1], [.string c.2.2.2], rfl, rfl, rfl⟩
theorem kEnt_KM {w : World} {base : Nat} {ok : Nat → Prop} {c : Ent} {cs : List Value} (h : kEnt.K w c cs) : kEnt.M w base ok c cs := by rw [kEnt_K h]; exact kEnt_M _ _ _ _
abbrev RdE := Rd kEnt
abbrev OwE := Ow kEnt 43
theorem RdE.at4 {w : World} {A : Option Addr} {c : Nat} {xs : List Ent} (h : RdE w A c xs) (i : Nat) (hi : i < xs.length) : ∃ ad, A = some ad ∧ w.cell? (ad.add (i * 4)) = some (.string (xs.getD i zEnt).1) ∧ w.cell? ⟨(ad.add (i * 4)).block, (ad.add (i * 4)).off + 1, none⟩ = some (.int .i64 (xs.getD i zEnt).2.1) ∧ w.cell? ⟨(ad.add (i * 4)).block, (ad.add (i * 4)).off + 2, none⟩ = some (.int .i64 (xs.getD i zEnt).2.2.1) ∧ w.cell? ⟨(ad.add (i * 4)).block, (ad.add (i * 4)).off + 3, none⟩ = some (.string (xs.getD i zEnt).2.2.2) := by
  obtain ⟨ad, cs, e, hk, _, hc⟩ := Rd.at_ h zEnt i hi
  have hcs := kEnt_K hk
  subst hcs
  refine ⟨ad, e, hc 0 _ rfl, ?_, ?_, ?_⟩
  · rw [← add_field ad (i * 4) 1 (by decide)]; exact hc 1 _ rfl
  · rw [← add_field ad (i * 4) 2 (by decide)]; exact hc 2 _ rfl
  · rw [← add_field ad (i * 4) 3 (by decide)]; exact hc 3 _ rfl
/-- a version in a variable -/
def Eb (w : World) (g : Nat) (c : Ent) : Prop := w.heap[g]? = some (.cells #[.string c.1, .int .i64 c.2.1, .int .i64 c.2.2.1, .string c.2.2.2] 43 (0, 0))
theorem Eb.new (w : World) (c : Ent) : Eb (w.alloc (.cells #[.string c.1, .int .i64 c.2.1, .int .i64 c.2.2.1, .string c.2.2.2] 43)) w.heap.size c := heap_alloc_new w _
theorem Eb.read {w : World} {g : Nat} {c : Ent} (h : Eb w g c) : w.cell? ⟨g, 0, none⟩ = some (.string c.1) ∧ w.cell? ⟨g, 1, none⟩ = some (.int .i64 c.2.1) ∧ w.cell? ⟨g, 2, none⟩ = some (.int .i64 c.2.2.1) ∧ w.cell? ⟨g, 3, none⟩ = some (.string c.2.2.2) ∧ w.frozen? ⟨g, 0, none⟩ = false ∧ w.frozen? ⟨g, 1, none⟩ = false ∧ w.frozen? ⟨g, 2, none⟩ = false ∧ w.frozen? ⟨g, 3, none⟩ = false :=
  ⟨blk_cell h 0, blk_cell h 1, blk_cell h 2, blk_cell h 3, blk_frozen h 0, blk_frozen h 1, blk_frozen h 2, blk_frozen h 3⟩
theorem Eb.lt {w : World} {g : Nat} {c : Ent} (h : Eb w g c) : g < w.heap.size := blk_lt h
theorem Eb.below {w w1 : World} {g : Nat} {c : Ent} (h : Eb w g c) (hb : Below w.heap.size w w1) : Eb w1 g c := blk_below h hb
theorem Eb.grown {w w1 : World} {g : Nat} {c : Ent} (h : Eb w g c) {row : Option Nat} (hg : w.grownBy w1 row) (hne : some g ≠ row) : Eb w1 g c := blk_grown h hg hne
section
variable {ops : Array Oper} {rest : List Oper} {o : Oper} {a : Act} {Q : Exit → Act → World → Prop}
theorem app_ent {w0 W : World} (base : Nat) (hgd : o.guard = none) (s x : Operand)
    (ho : o.op = .call { callee := .builtin .append, args := #[s, x], argTypes := #[22, 22] })
    (v : Value) (xs : List Ent) (c : Ent) (hs : a.eval s = v) (hx : a.eval x = .slice (some ⟨W.heap.size, 0, none⟩) 1 1)
    (HO : OwE W base v xs) (HB : Below base w0 W) (hbase : base ≤ W.heap.size) (hl : (xs.length + 1) * 48 ≤ 140737488355328)
    (h : ∀ v1 w1, OwE w1 base v1 (xs ++ [c]) → Below base w0 w1 → W.grownBy w1 v.ownBlock → (v1.ownBlock = v.ownBlock ∨ ∃ b, v1.ownBlock = some b ∧ W.heap.size ≤ b) → wpList Try.prog ops Q rest (a.put o.dst v1) w1) :
    wpList Try.prog ops Q (o :: rest) a (W.alloc (.cells #[.string c.1, .int .i64 c.2.1, .int .i64 c.2.2.1, .string c.2.2.2] 43)) :=
  app_ow kEnt base hgd s x 22 43 _ 48 ho Try.underlying22 info_ent rfl (by decide) (by decide) v xs c [.string c.1, .int .i64 c.2.1, .int .i64 c.2.2.1, .string c.2.2.2] hs hx (kEnt_M _ _ _ _) HO HB hbase hl h
theorem app_ents {w0 W : World} (base : Nat) (hgd : o.guard = none) (s x : Operand)
    (ho : o.op = .call { callee := .builtin .append, args := #[s, x], argTypes := #[22, 22] })
    (v : Value) (xs ys : List Ent) (A : Option Addr) (c : Nat) (hs : a.eval s = v) (hx : a.eval x = .slice A ys.length c)
    (HO : OwE W base v xs) (HR : RdE W A c ys) (HB : Below base w0 W) (hbase : base ≤ W.heap.size) (hl : (xs.length + ys.length) * 48 ≤ 140737488355328)
    (h : ∀ v1 w1, OwE w1 base v1 (xs ++ ys) → Below base w0 w1 → W.grownBy w1 v.ownBlock → (v1.ownBlock = v.ownBlock ∨ ∃ b, v1.ownBlock = some b ∧ W.heap.size ≤ b) → wpList Try.prog ops Q rest (a.put o.dst v1) w1) :
    wpList Try.prog ops Q (o :: rest) a W :=
  app_ows kEnt base hgd s x 22 43 _ 48 ho Try.underlying22 info_ent rfl (by decide) (by decide) v xs ys A c hs hx (fun _ _ h => kEnt_KM h) HO HR HB hbase hl h
end
end Go.Proofs.Ytefcepjffeiaoaa
end

section
/- A struct of a number and a slice, in a variable: its cells read, kept, stored. -/
namespace Go.Proofs.Ytefcepjffeiaoaa
open Go.RowKit Go.Proofs.YtefcepjffeiaoaaW.PrintWords
set_option linter.unusedVariables false

/-- a number and a slice, as a value -/
def fil (K : Int) (A : Option Addr) (n c : Nat) : Value := .agg #[.int .i64 K, .slice A n c]
/-- a struct that lies in a variable just laid, a call behind -/
theorem boxedF {w w1 : World} {K : Int} {s : Value} {ty : TypeId} (HB : Below (w.alloc (.cells #[.int .i64 K, s] ty)).heap.size (w.alloc (.cells #[.int .i64 K, s] ty)) w1) :
    w1.cell? ⟨w.heap.size, 0, none⟩ = some (.int .i64 K) ∧ w1.cell? ⟨w.heap.size, 1, none⟩ = some s ∧ Below w.heap.size w w1 := by
  have hs : w.heap.size < (w.alloc (.cells #[.int .i64 K, s] ty)).heap.size := by simp
  refine ⟨?_, ?_, ((Below.refl _ _).alloc (Nat.le_refl _) _).trans (HB.mono (by simp))⟩ <;> (rw [HB.cell hs, World.cell?_alloc_mark]; rfl)
/-- two cells of a block just laid, stored -/
theorem two_cells {w : World} {g : Nat} {t : TypeId} {x y u v : Value} (h : w.heap[g]? = some (.cells #[x, y] t (0, 0))) :
    ((w.setCell ⟨g, 0, none⟩ u).setCell ⟨g, 1, none⟩ v).heap[g]? = some (.cells #[u, v] t (0, 0)) := blk_set (blk_set h 0 u) 1 v
theorem two_read {w : World} {g : Nat} {t : TypeId} {x y : Value} (h : w.heap[g]? = some (.cells #[x, y] t (0, 0))) :
    w.cell? ⟨g, 0, none⟩ = some x ∧ w.cell? ⟨g, 1, none⟩ = some y ∧ w.frozen? ⟨g, 0, none⟩ = false ∧ w.frozen? ⟨g, 1, none⟩ = false := ⟨blk_cell h 0, blk_cell h 1, blk_frozen h 0, blk_frozen h 1⟩
/-- a struct in a variable -/
def Bx (w : World) (b : Nat) (K : Int) (s : Value) (ty : TypeId) : Prop := w.heap[b]? = some (.cells #[.int .i64 K, s] ty)
theorem Bx.below {w w1 : World} {b : Nat} {K : Int} {s : Value} {ty : TypeId} (h : Bx w b K s ty) (hb : Below w.heap.size w w1) : Bx w1 b K s ty := (hb.block b (Array.getElem?_eq_some_iff.1 h).1).trans h
theorem Bx.lt {w : World} {b : Nat} {K : Int} {s : Value} {ty : TypeId} (h : Bx w b K s ty) : b < w.heap.size := (Array.getElem?_eq_some_iff.1 h).1
theorem Bx.grown {w w1 : World} {b : Nat} {K : Int} {s : Value} {ty : TypeId} (h : Bx w b K s ty) {row : Option Nat} (hg : w.grownBy w1 row) (hne : ∀ k, row = some k → k < b) : Bx w1 b K s ty :=
  (hg.block b h.lt (fun e => by have := hne b e.symm; omega)).trans h
theorem Bx.new (w : World) (K : Int) (s : Value) (ty : TypeId) : Bx (w.alloc (.cells #[.int .i64 K, s] ty)) w.heap.size K s ty := heap_alloc_new w _
theorem Bx.read {w : World} {b : Nat} {K : Int} {s : Value} {ty : TypeId} (h : Bx w b K s ty) : w.cell? ⟨b, 0, none⟩ = some (.int .i64 K) ∧ w.cell? ⟨b, 1, none⟩ = some s ∧ w.frozen? ⟨b, 0, none⟩ = false ∧ w.frozen? ⟨b, 1, none⟩ = false := two_read h
theorem below_alloc (w : World) (o : Obj) : Below w.heap.size w (w.alloc o) := (Below.refl _ _).alloc (Nat.le_refl _) _
theorem OwB.rdl {w : World} {base : Nat} {A : Option Addr} {n c : Nat} {xs : List UInt8} (h : OwB w base (.slice A n c) xs) : RdB w A c xs := by
  obtain ⟨A', c', hv, hr⟩ := h.rd
  injection hv with h1 _ h3
  subst h1
  subst h3
  exact hr
theorem i64_of (a : Int) (h : (Lit.int .i64 a).wf = true) : -9223372036854775808 ≤ a ∧ a ≤ 9223372036854775807 := by
  simpa [Lit.wf, IntKind.min, IntKind.max, IntKind.signed, IntKind.bits] using h
end Go.Proofs.Ytefcepjffeiaoaa
end

section
/- The walks of what the statements share on octets: SameBytes, CopyBytes, Spoil. -/
namespace Go.Proofs.Ytefcepjffeiaoaa
open Go.RowKit Go.Proofs.YtefcepjffeiaoaaW.PrintWords

theorem strB_toList (xs : List UInt8) : (strB xs).toList = xs := by rw [ByteArray.toList_eq]; rfl
set_option maxRecDepth 100000 in
set_option maxHeartbeats 400000 in
theorem SameBytes_any (A B : Option Addr) (c d : Nat) (xs ys : List UInt8) (w : World) (hx : RdB w A c xs) (hy : RdB w B d ys) :
    Calls Try.prog 17 #[.slice A xs.length c, .slice B ys.length d] w fun e w' => e = .returned (.bool (decide (xs = ys))) ∧ w = w' := by
  have h1 := hx.toStr (P := Try.prog) 23 5 9 Try.underlying23 Try.underlying5 Try.underlying9
  have h2 := hy.toStr (P := Try.prog) 23 5 9 Try.underlying23 Try.underlying5 Try.underlying9
  go_enter Try.func17, Try.ntmps17
  go_wp2
  go_ret
  refine ⟨?_, rfl⟩
  show Ending.returned (.bool ((strB xs).toList == (strB ys).toList)) = _
  rw [strB_toList, strB_toList]
  congr 2
  rw [Bool.eq_iff_iff]
  simp

theorem SameBytes_at (A B : Option Addr) (c d n m : Nat) (xs ys : List UInt8) (w : World) (hn : xs.length = n) (hm : ys.length = m) (hx : RdB w A c xs) (hy : RdB w B d ys) :
    Calls Try.prog 17 #[.slice A n c, .slice B m d] w fun e w' => e = .returned (.bool (decide (xs = ys))) ∧ w = w' := by
  subst hn
  subst hm
  exact SameBytes_any A B c d xs ys w hx hy
set_option maxRecDepth 100000 in
set_option maxHeartbeats 400000 in
theorem CopyBytes_any (A : Option Addr) (c : Nat) (xs : List UInt8) (w : World) (hr : RdB w A c xs) (hl : xs.length ≤ 140737488355328) :
    Calls Try.prog 10 #[.slice A xs.length c] w fun e w' => ∃ v, e = .returned v ∧ OwB w' w.heap.size v xs ∧ Below w.heap.size w w' := by
  have hm := hr.max
  go_enter Try.func10, Try.ntmps10
  go_wp2_with (first | (at_builtin; refine app_row (w0 := w) w.heap.size rfl _ _ rfl (.slice .none 0 0) [] xs A c rfl rfl (OwB.zero _ _) hr (Below.refl _ _) (Nat.le_refl _) (by simp; omega) ?_; intro v1 w1 HO1 HB1 hg hat))
  go_ret
  exact ⟨_, rfl, HO1, HB1⟩

theorem not_u8 (x : UInt8) : bits .xor .u8 (if IntKind.u8.signed = true then -1 else IntKind.u8.max) (x.toNat : Int) = ((~~~x).toNat : Int) := by
  have h : (if IntKind.u8.signed = true then -1 else IntKind.u8.max) = ((255 : Nat) : Int) := by decide
  rw [h, u8_xor_nat _ _ (by decide) x.toNat_lt]
  have : ∀ y : Fin 256, 255 ^^^ y.val = 255 - y.val := by decide +kernel
  have h2 := this ⟨x.toNat, x.toNat_lt⟩
  simp only at h2
  rw [h2]
  congr 1
  simp
end Go.Proofs.Ytefcepjffeiaoaa
end

section
/- The walk of bytes.Clone. -/
namespace Go.Proofs.Ytefcepjffeiaoaa
open Go.RowKit Go.Proofs.YtefcepjffeiaoaaW.PrintWords

set_option maxRecDepth 100000 in
set_option maxHeartbeats 400000 in
/-- bytes.Clone: octets of its holder's own -/
theorem Clone_any (A : Option Addr) (c : Nat) (xs : List UInt8) (w : World) (hr : RdB w A c xs) (hl : xs.length ≤ 140737488355328) :
    Calls Try.prog 69 #[.slice A xs.length c] w fun e w' => ∃ v, e = .returned v ∧ OwB w' w.heap.size v xs ∧ Below w.heap.size w w' := by
  have hm := hr.max
  cases A with
  | none =>
    have h0 : xs.length = 0 := by
      rcases Nat.eq_zero_or_pos xs.length with h | h
      · exact h
      · obtain ⟨ad, h, _⟩ := hr.at_ 0 h
        cases h
    obtain rfl : xs = [] := List.eq_nil_of_length_eq_zero h0
    have heq := fun ww => Lib.run_eql_slice_nil (P := Try.prog) ww 23 5 Option.none 0 c 0 0 Try.underlying23
    rw [show Option.none.isNone = true from rfl] at heq
    go_enter Try.func69, Try.ntmps69
    go_wp2
    go_ret
    exact ⟨_, rfl, OwB.zero _ _, Below.refl _ _⟩
  | some ad =>
    have heq := fun ww => Lib.run_eql_slice_nil (P := Try.prog) ww 23 5 (some ad) xs.length c 0 0 Try.underlying23
    rw [show (some ad).isNone = false from rfl] at heq
    have hr1 : ∀ o, RdB (w.alloc o) (some ad) c xs := fun o => hr.below ((Below.refl _ _).alloc (Nat.le_refl _) o)
    go_enter Try.func69, Try.ntmps69
    go_wp2_with (first | (at_builtin; refine app_row (w0 := w) w.heap.size rfl (.tmp 5) (.tmp 6) rfl _ [] xs (some ad) c rfl rfl (OwB.lit0 w) (hr1 _) ((Below.refl _ _).alloc (Nat.le_refl _) _) (by simp) (by simp; omega) ?_; intro v1 w1 HO1 HB1 hg hat))
    go_ret
    exact ⟨_, rfl, HO1, HB1⟩
end Go.Proofs.Ytefcepjffeiaoaa
end

section
/- Literals: a block just laid that reads as octets. -/
namespace Go.Proofs.Ytefcepjffeiaoaa
open Go.RowKit Go.Proofs.YtefcepjffeiaoaaW.PrintWords
theorem RdB_lit (xs : List UInt8) (W : World) (C : Array Value) (e : TypeId) (fr : Nat × Nat) (n : Nat) (hn : W.heap.size = n) (h : C.toList = xs.map eu8) (hl : xs.length ≤ 9223372036854775807) :
    RdB (W.alloc (.cells C e fr)) (some ⟨n, 0, none⟩) xs.length xs := by
  subst hn
  refine ⟨Nat.le_refl _, rfl, hl, fun _ => ⟨_, rfl, fun j hj => ?_⟩⟩
  have hc : C = (xs.map eu8).toArray := by rw [← h]
  rw [add_plain, World.cell?_alloc_mark, hc]
  simp [List.getElem?_eq_getElem hj, List.getD_eq_getElem?_getD]
end Go.Proofs.Ytefcepjffeiaoaa
end

section
/- The plain theory of a checksum register of 32 bits: it is linear, it is one-to-one, and up to 32 bits in a row that are turned are told. -/
namespace Tk

abbrev R := BitVec 32
def poly : R := 0x04c11db7#32
/-- one bit through the register -/
def bit1 (c : R) : R := (c <<< 1) ^^^ (if c.msb then poly else 0#32)
def bits : Nat → R → R
  | 0, c => c
  | n + 1, c => bit1 (bits n c)
/-- one octet -/
def oct (c : R) (b : R) : R := bits 8 (c ^^^ (b <<< 24))
def ext (c : R) (l : List R) : R := l.foldl oct c

theorem ext_append (c : R) (a b : List R) : ext c (a ++ b) = ext (ext c a) b := by simp [ext]
/-- the four octets of a register, the highest first -/
def four (c : R) : List R := [c >>> 24, (c >>> 16) &&& 0xff#32, (c >>> 8) &&& 0xff#32, c &&& 0xff#32]
/-! bit by bit -/
def top (b : Bool) : R := if b then 0x80000000#32 else 0#32
/-- a register that holds bits, the first one on top -/
def val : List Bool → R
  | [] => 0#32
  | b :: l => top b ^^^ (val l >>> 1)
end Tk
end

section
/- Plain facts of the checksum: the register in the machine's numbers. -/
namespace Go.Proofs.Ytefcepjffeiaoaa
open Go.RowKit

def bv (x : UInt8) : BitVec 32 := BitVec.ofNat 32 x.toNat
def crc (c : BitVec 32) (xs : List UInt8) : BitVec 32 := Tk.ext c (xs.map bv)
def ones : BitVec 32 := 0xffffffff#32
def four (c : BitVec 32) : List UInt8 := [UInt8.ofNat (c.toNat / 16777216), UInt8.ofNat (c.toNat / 65536), UInt8.ofNat (c.toNat / 256), UInt8.ofNat c.toNat]
/-- what is guarded -/
def guarded (xs : List UInt8) : List UInt8 := xs ++ four (crc ones xs)
theorem guarded_length (xs : List UInt8) : (guarded xs).length = xs.length + 4 := by simp [guarded, four]
theorem crc_append (c : BitVec 32) (a b : List UInt8) : crc c (a ++ b) = crc (crc c a) b := by simp [crc, Tk.ext_append]
theorem crc_snoc (c : BitVec 32) (xs : List UInt8) (k : Nat) (h : k < xs.length) : crc c (xs.take (k + 1)) = Tk.oct (crc c (xs.take k)) (bv (xs.getD k 0)) := by
  rw [List.take_succ_eq_append_getElem h, crc_append]
  simp [crc, Tk.ext, List.getD_eq_getElem?_getD, List.getElem?_eq_getElem h]
theorem xor_u32 (a b : BitVec 32) : bits .xor .u32 (a.toNat : Int) (b.toNat : Int) = ((a ^^^ b).toNat : Int) := by
  rw [u32_xor_nat _ _ a.isLt b.isLt, BitVec.toNat_xor]
theorem dbl_u32 (c : BitVec 32) : (c.toNat : Int) * (2 : Int) % (4294967296 : Int) = ((c <<< 1).toNat : Int) := by
  rw [BitVec.toNat_shiftLeft, Nat.shiftLeft_eq]; omega
theorem msb_iff (c : BitVec 32) : c.msb = decide (2147483648 ≤ c.toNat) := by rw [BitVec.msb_eq_decide]
theorem bit1_int (c : BitVec 32) : bits .xor .u32 ((c.toNat : Int) * 2 % 4294967296) (bits .and .u32 79764919 (-((c.toNat : Int) / 2147483648) % 4294967296)) = ((Tk.bit1 c).toNat : Int) := by
  have hc := c.isLt
  unfold Tk.bit1
  rw [dbl_u32, msb_iff]
  by_cases h : 2147483648 ≤ c.toNat
  · have e : -((c.toNat : Int) / (2147483648 : Int)) % (4294967296 : Int) = 4294967295 := by omega
    have e2 : bits .and .u32 79764919 4294967295 = ((Tk.poly).toNat : Int) := by decide
    rw [e, e2, xor_u32]; simp [h]
  · have e : -((c.toNat : Int) / (2147483648 : Int)) % (4294967296 : Int) = 0 := by omega
    have e2 : bits .and .u32 79764919 0 = ((0#32).toNat : Int) := by decide
    rw [e, e2, xor_u32]; simp [h]
theorem bit1_hi (c : BitVec 32) (h : 2147483648 ≤ c.toNat) : bits .xor .u32 ((c.toNat : Int) * 2 % 4294967296) 79764919 = ((Tk.bit1 c).toNat : Int) := by
  unfold Tk.bit1
  have e : (79764919 : Int) = ((Tk.poly).toNat : Int) := by decide
  rw [dbl_u32, e, xor_u32, msb_iff]; simp [h]
theorem bit1_lo (c : BitVec 32) (h : ¬ 2147483648 ≤ c.toNat) : (c.toNat : Int) * (2 : Int) % (4294967296 : Int) = ((Tk.bit1 c).toNat : Int) := by
  unfold Tk.bit1
  rw [dbl_u32, msb_iff]; simp [h]
theorem bit1_lo' (c : BitVec 32) (h : ¬ 2147483648 ≤ c.toNat) : (c.toNat : Int) * (2 : Int) = ((Tk.bit1 c).toNat : Int) := by
  rw [← bit1_lo c h]; omega
theorem put_int (c : BitVec 32) (x : UInt8) : bits .xor .u32 (c.toNat : Int) ((x.toNat : Int) % 4294967296 * 16777216 % 4294967296) = ((c ^^^ (bv x <<< 24)).toNat : Int) := by
  have hx := x.toNat_lt
  have e : (x.toNat : Int) % (4294967296 : Int) * (16777216 : Int) % (4294967296 : Int) = ((bv x <<< 24).toNat : Int) := by
    rw [BitVec.toNat_shiftLeft, Nat.shiftLeft_eq]
    simp only [bv, BitVec.toNat_ofNat]
    omega
  rw [e, xor_u32]
theorem oct_bits (c : BitVec 32) (x : UInt8) : Tk.bits 8 (c ^^^ (bv x <<< 24)) = Tk.oct c (bv x) := rfl
end Go.Proofs.Ytefcepjffeiaoaa
end

section
/- The walks of the checksum's functions: step, Extend, Sum; the reference's Extend, Sum. -/
namespace Go.Proofs.Ytefcepjffeiaoaa
open Go.RowKit Go.Proofs.YtefcepjffeiaoaaW.PrintWords

set_option maxRecDepth 100000 in
set_option maxHeartbeats 400000 in
theorem step_any (c0 : BitVec 32) (w : World) :
    Calls Try.prog 108 #[.int .u32 (c0.toNat : Int)] w fun e w' => e = .returned (.int .u32 ((Tk.bits 8 c0).toNat : Int)) ∧ w = w' := by
  go_enter Try.func108, Try.ntmps108
  go_wp2
  go_loop [0, 3] (fun c i => ∃ k : Nat, k ≤ 8 ∧ i = .int .i64 k ∧ c = .int .u32 ((Tk.bits k c0).toNat : Int)) (fun _ i => 8 - (intOf i).toNat)
  case atStart => exact ⟨0, by omega, rfl, rfl⟩
  case round =>
    obtain ⟨k, hk, rfl, rfl⟩ := hrel
    have hb := (Tk.bits k c0).isLt
    have HS := hide (bit1_int (Tk.bits k c0))
    by_cases hlt : k < 8
    · go_wp2
      go_round
      case rel => exact ⟨k + 1, by omega, by go_num, by rw [HS.out]; rfl⟩
      case measure => simp [intOf]; omega
    · go_wp2
      go_ret
      obtain rfl : k = 8 := by omega
      exact ⟨rfl, rfl⟩

set_option maxRecDepth 100000 in
set_option maxHeartbeats 400000 in
theorem Extend_any (c0 : BitVec 32) (A : Option Addr) (c : Nat) (xs : List UInt8) (w : World) (hr : RdB w A c xs) :
    Calls Try.prog 99 #[.int .u32 (c0.toNat : Int), .slice A xs.length c] w fun e w' => e = .returned (.int .u32 ((crc c0 xs).toNat : Int)) ∧ w = w' := by
  have hm := hr.max
  go_enter Try.func99, Try.ntmps99
  go_wp2
  go_loop [0, 9] (fun c i => ∃ k : Nat, k ≤ xs.length ∧ i = .int .i64 k ∧ c = .int .u32 ((crc c0 (xs.take k)).toNat : Int)) (fun _ i => xs.length - (intOf i).toNat)
  case atStart => exact ⟨0, by omega, rfl, rfl⟩
  case round =>
    obtain ⟨k, hk, rfl, rfl⟩ := hrel
    by_cases hlt : k < xs.length
    · obtain ⟨ad, rfl, hcell⟩ := hr.at_ k hlt
      have HS := hide (crc_snoc c0 xs k hlt)
      have HP := hide (put_int (crc c0 (xs.take k)) (xs.getD k 0))
      obtain ⟨x, hx⟩ : ∃ x, xs.getD k 0 = x := ⟨_, rfl⟩
      rw [hx] at hcell HS HP
      clear hx
      go_wp2_with (first | (go_at_call 108; rw [HP.out]; refine (step_any _ _).mono ?_; rintro e w' ⟨rfl, rfl⟩))
      go_round
      case rel => exact ⟨k + 1, by omega, by go_num, by rw [HS.out]; rfl⟩
      case measure => simp [intOf]; omega
    · go_wp2
      go_ret
      obtain rfl : k = xs.length := by omega
      exact ⟨by simp, rfl⟩

theorem Sum_any (A : Option Addr) (c : Nat) (xs : List UInt8) (w : World) (hr : RdB w A c xs) :
    Calls Try.prog 73 #[.slice A xs.length c] w fun e w' => e = .returned (.int .u32 ((crc ones xs).toNat : Int)) ∧ w = w' := by
  go_enter Try.func73, Try.ntmps73
  go_wp2_with (first | (go_at_call 99; refine (Extend_any ones _ _ _ _ hr).mono ?_; rintro e w' ⟨rfl, rfl⟩))
  go_ret
  exact ⟨rfl, rfl⟩
end Go.Proofs.Ytefcepjffeiaoaa
end

section
/- The walks of slices.Grow (of nil) and slices.Concat. -/
namespace Go.Proofs.Ytefcepjffeiaoaa
open Go.RowKit Go.Proofs.YtefcepjffeiaoaaW.PrintWords

set_option maxRecDepth 100000 in
set_option maxHeartbeats 400000 in
/-- slices.Grow of nil: nothing, with room -/
theorem Grow_nil (n : Nat) (w : World) (hn : n ≤ 281474976710656) :
    Calls Try.prog 67 #[.slice none 0 0, .int .i64 (n : Int)] w fun e w' => ∃ v, e = .returned v ∧ OwB w' w.heap.size v [] ∧ Below w.heap.size w w' := by
  obtain ⟨i0, hi, hz0, hz1, hz2⟩ := info_parts info_u8
  rcases Nat.eq_zero_or_pos n with rfl | h0
  · go_enter Try.func67, Try.ntmps67
    go_wp2
    go_ret
    exact ⟨_, rfl, OwB.zero _ _, Below.refl _ _⟩
  · have hrun := Lib.run_append_nil_zeros (P := Try.prog) w 23 3 23 5 i0 (.int .u8 0) .i64 .i64 Try.underlying23 Try.underlying3 hi hz0 n h0 (by omega) (by omega) (by rw [hz2]; omega)
    have hge := grownCap_ge w n 0 5
    have hcm : grownCap w n 0 5 ≤ maxLen := grownCap_le_maxLen w n 0 5 (by simp only [maxLen]; omega)
    obtain ⟨cap, hcap⟩ : ∃ cap, grownCap w n 0 5 = cap := ⟨_, rfl⟩
    rw [hcap] at hrun hge hcm
    have hsl := fun ww => slice_hi (P := Try.prog) 23 5 Try.underlying23 hi hz1 (some ⟨w.heap.size, 0, none⟩) n cap 0 (Nat.zero_le _) ww
    go_enter Try.func67, Try.ntmps67
    go_wp2_with (first | (at_builtin; refine Lib.wpList_append_run _ rfl (.tmp 20) (.tmp 21) _ _ rfl _ _ rfl rfl _ _ hrun ?_))
    go_ret
    have hh : (w.alloc (.cells (Builtin.zeroCells #[Value.int IntKind.u8 0] n ++ Builtin.zeroCells #[Value.int IntKind.u8 0] (cap - n)) 5)).drew.heap[w.heap.size]? = some (.cells (Builtin.zeroCells #[Value.int IntKind.u8 0] n ++ Builtin.zeroCells #[Value.int IntKind.u8 0] (cap - n)) 5 (0, 0)) := heap_alloc_new w _
    exact ⟨_, rfl, ⟨rfl, .inr ⟨w.heap.size, cap, _, rfl, Nat.le_refl _, hh, Nat.zero_le _, hcm, by simp [size_zeroCells]; omega, rfl⟩⟩, ((Below.refl _ _).alloc (Nat.le_refl _) _).drew⟩

/-! slices.Concat: of slices of octets, however many -/
/-- a slice that is handed over: address, capacity, octets -/
abbrev SlB := Option Addr × Nat × List UInt8
def eSl (s : SlB) : Value := .slice s.1 s.2.2.length s.2.1
def total (ss : List SlB) : Nat := (ss.map fun s => s.2.2.length).sum
def joined (ss : List SlB) : List UInt8 := ss.flatMap fun s => s.2.2
theorem joined_length (ss : List SlB) : (joined ss).length = total ss := by simp [joined, total, List.length_flatMap]
def nilSl : SlB := (none, 0, [])
theorem total_snoc (ss : List SlB) (k : Nat) (h : k < ss.length) : total (ss.take (k + 1)) = total (ss.take k) + (ss.getD k nilSl).2.2.length := by
  rw [List.take_succ_eq_append_getElem h, total, total, List.map_append, List.sum_append]
  simp [List.getD_eq_getElem?_getD, List.getElem?_eq_getElem h]
theorem joined_snoc (ss : List SlB) (k : Nat) (h : k < ss.length) : joined (ss.take (k + 1)) = joined (ss.take k) ++ (ss.getD k nilSl).2.2 := by
  rw [List.take_succ_eq_append_getElem h, joined, joined, List.flatMap_append]
  simp [List.getD_eq_getElem?_getD, List.getElem?_eq_getElem h]
theorem total_le (ss : List SlB) (k : Nat) : total (ss.take k) ≤ total ss := by
  have : total ss = total (ss.take k) + total (ss.drop k) := by
    rw [total, total, total, ← List.sum_append, ← List.map_append, List.take_append_drop]
  omega
theorem getD_mem (ss : List SlB) (k : Nat) (h : k < ss.length) : ss.getD k nilSl ∈ ss := by
  rw [List.getD_eq_getElem?_getD, List.getElem?_eq_getElem h]
  simp
set_option maxRecDepth 100000 in
set_option maxHeartbeats 400000 in
theorem Concat_any (A : Option Addr) (c : Nat) (ss : List SlB) (w : World) (hr : ReadsOf eSl nilSl w A ss.length ss) (hs : ∀ s ∈ ss, RdB w s.1 s.2.1 s.2.2) (ht : total ss ≤ 140737488355328) :
    Calls Try.prog 29 #[.slice A ss.length c] w fun e w' => ∃ v, e = .returned v ∧ OwB w' w.heap.size v (joined ss) ∧ Below w.heap.size w w' := by
  have hm := hr.2.1
  go_enter Try.func29, Try.ntmps29
  go_wp2
  go_loop [3, 11] (fun t i => ∃ k : Nat, k ≤ ss.length ∧ i = .int .i64 k ∧ t = .int .i64 (total (ss.take k))) (fun _ i => ss.length - (intOf i).toNat)
  case atStart => exact ⟨0, by omega, rfl, rfl⟩
  case round =>
    obtain ⟨k, hk, rfl, rfl⟩ := hrel
    have hb := total_le ss k
    by_cases hlt : k < ss.length
    · obtain ⟨ad, rfl, hc⟩ := hr.2.2 (by omega)
      have hcell := hc k hlt
      have HS := hide (total_snoc ss k hlt)
      have hb1 := total_le ss (k + 1)
      rw [HS.out] at hb1
      obtain ⟨⟨A1, c1, x1⟩, hx⟩ : ∃ x, ss.getD k nilSl = x := ⟨_, rfl⟩
      rw [hx] at hcell HS hb1
      clear hx hc
      unfold eSl at hcell
      simp only at hcell HS hb1
      go_wp2
      go_round
      case rel => exact ⟨k + 1, by omega, by go_num, by rw [HS.out]; go_num⟩
      case measure => simp [intOf]; omega
    · obtain rfl : k = ss.length := by omega
      rw [List.take_length] at hb ⊢
      go_wp2_with (first | (go_at_call 67; refine (Grow_nil _ _ (by omega)).mono ?_; rintro e w1 ⟨v1, rfl, HO1, HB1⟩))
      go_loopw [6, 27] (fun t i wr => ∃ k : Nat, k ≤ ss.length ∧ i = .int .i64 k ∧ OwB wr w.heap.size t (joined (ss.take k)) ∧ Below w.heap.size w wr) (fun _ i _ => ss.length - (intOf i).toNat)
      case atStart => exact ⟨0, by omega, rfl, HO1, HB1⟩
      case round =>
        obtain ⟨k, hk, rfl, HO, HB⟩ := hrel
        have hb := total_le ss k
        by_cases hlt : k < ss.length
        · have hrr := hr.below ⟨HB.os, HB.tape, HB.output, HB.size, HB.block⟩
          obtain ⟨ad, rfl, hc⟩ := hrr.2.2 (by omega)
          have hcell := hc k hlt
          have HS := hide (joined_snoc ss k hlt)
          have HT := hide (total_snoc ss k hlt)
          have hb1 := total_le ss (k + 1)
          rw [HT.out] at hb1
          have HR := (hs _ (getD_mem ss k hlt)).below HB
          obtain ⟨⟨A1, c1, x1⟩, hx⟩ : ∃ x, ss.getD k nilSl = x := ⟨_, rfl⟩
          rw [hx] at hcell HS hb1 HR
          clear hx hc HT
          unfold eSl at hcell
          simp only at hcell HS hb1 HR
          have hjl := joined_length (ss.take k)
          go_wp2_with (first | (at_builtin; refine app_row (w0 := w) w.heap.size rfl (.tmp 31) (.tmp 32) rfl _ (joined (ss.take k)) x1 A1 c1 rfl rfl HO HR HB HB.size (by omega) ?_; intro v1 w1 HO1 HB1 hg hat))
          go_roundw
          case rel => exact ⟨k + 1, by omega, by go_num, by rw [HS.out]; exact HO1, HB1⟩
          case measure => simp [intOf]; omega
        · obtain rfl : k = ss.length := by omega
          rw [List.take_length] at HO
          go_wp2
          go_ret
          exact ⟨_, rfl, HO, HB⟩

/-- of two, laid out for the call -/
theorem Concat_two (A1 A2 : Option Addr) (c1 c2 n1 n2 n : Nat) (x1 x2 : List UInt8) (W : World) (hn : W.heap.size = n) (h1 : RdB W A1 c1 x1) (h2 : RdB W A2 c2 x2) (l1 : x1.length = n1) (l2 : x2.length = n2) (ht : x1.length + x2.length ≤ 140737488355328) :
    Calls Try.prog 29 #[.slice (some ⟨n, 0, none⟩) 2 2] (W.alloc (.cells #[.slice A1 n1 c1, .slice A2 n2 c2] 23)) fun e w' => ∃ v, e = .returned v ∧ OwB w' W.heap.size v (x1 ++ x2) ∧ Below W.heap.size W w' := by
  subst hn
  subst l1
  subst l2
  have hb : Below W.heap.size W (W.alloc (.cells #[.slice A1 x1.length c1, .slice A2 x2.length c2] 23)) := (Below.refl _ _).alloc (Nat.le_refl _) _
  refine (Concat_any (some ⟨W.heap.size, 0, none⟩) 2 [(A1, c1, x1), (A2, c2, x2)] _ ⟨rfl, by simp, fun _ => ⟨_, rfl, fun j hj => ?_⟩⟩ ?_ (by simpa [total] using ht)).mono ?_
  · rw [add_plain, World.cell?_alloc_mark]
    have : j = 0 ∨ j = 1 := by simp at hj; omega
    rcases this with rfl | rfl <;> rfl
  · intro s hs
    simp only [List.mem_cons, List.not_mem_nil, or_false] at hs
    rcases hs with rfl | rfl
    · exact h1.below hb
    · exact h2.below hb
  · rintro e w' ⟨v, rfl, HO, HB⟩
    exact ⟨v, rfl, by simpa [joined] using HO.lower (by simp), hb.trans (HB.mono (by simp))⟩
end Go.Proofs.Ytefcepjffeiaoaa
end

section
/- The walks of the checksum's functions: octets, and what the library does for it: Clone, Grow, Concat; Guard, Bare. -/
namespace Go.Proofs.Ytefcepjffeiaoaa
open Go.RowKit Go.Proofs.YtefcepjffeiaoaaW.PrintWords

/-- a sum's octets, an array, as the walk spells it -/
def fourC (c : BitVec 32) : Array Value := #[.int .u8 ((c.toNat : Int) / 16777216), .int .u8 ((c.toNat : Int) / 65536 % 256), .int .u8 ((c.toNat : Int) / 256 % 256), .int .u8 ((c.toNat : Int) % 256)]

set_option maxRecDepth 100000 in
set_option maxHeartbeats 400000 in
theorem octets_any (c : BitVec 32) (w : World) :
    Calls Try.prog 72 #[.int .u32 (c.toNat : Int)] w fun e w' => e = .returned (.agg (fourC c)) ∧ Below w.heap.size w w' := by
  have hc := c.isLt
  go_enter Try.func72, Try.ntmps72
  go_wp2
  refine bodyPost_ret (v := .agg (fourC c)) ?_ rfl ⟨rfl, (Below.refl _ _).alloc (Nat.le_refl _) _⟩
  simp [results, Try.results72, go_sem, fourC]
end Go.Proofs.Ytefcepjffeiaoaa
end

section
/- The walks of Guard and Bare. -/
namespace Go.Proofs.Ytefcepjffeiaoaa
open Go.RowKit Go.Proofs.YtefcepjffeiaoaaW.PrintWords

theorem four_cells (c : BitVec 32) (w : World) : RdB (w.alloc (.cells (fourC c) 107)) (some ⟨w.heap.size, 0, none⟩) 4 (four c) := by
  have hc := c.isLt
  refine ⟨Nat.le_refl _, rfl, by simp [four], fun _ => ⟨_, rfl, fun j hj => ?_⟩⟩
  have hj' : j = 0 ∨ j = 1 ∨ j = 2 ∨ j = 3 := by simp [four] at hj; omega
  rw [add_plain, World.cell?_alloc_mark]
  rcases hj' with rfl | rfl | rfl | rfl <;> simp [fourC, four, eu8]
  omega

set_option maxRecDepth 100000 in
set_option maxHeartbeats 400000 in
theorem Guard_any (A : Option Addr) (c : Nat) (xs : List UInt8) (w : World) (hr : RdB w A c xs) (hl : xs.length + 4 ≤ 140737488355328) :
    Calls Try.prog 36 #[.slice A xs.length c] w fun e w' => ∃ v, e = .returned v ∧ OwB w' w.heap.size v (guarded xs) ∧ Below w.heap.size w w' := by
  have hm := hr.max
  go_enter Try.func36, Try.ntmps36
  go_wp2_with (first | (go_at_call 73; refine (Sum_any _ _ _ _ hr).mono ?_; rintro e w' ⟨rfl, rfl⟩) | (go_at_call 72; refine (octets_any _ _).mono ?_; rintro e w1 ⟨rfl, HB1⟩; unfold fourC) | (go_at_call 29; refine (Concat_two A _ c 4 xs.length 4 _ xs (four (crc ones xs)) _ (by simp) (hr.below (HB1.alloc HB1.size _)) (four_cells _ w1) rfl rfl (by simp [four]; omega)).mono ?_; rintro e w2 ⟨v, rfl, HO2, HB2⟩))
  go_ret
  exact ⟨_, rfl, HO2.lower (by have := HB1.size; simp; omega), (HB1.alloc HB1.size _).trans (HB2.mono (by have := HB1.size; simp; omega))⟩

/-- the last four octets, as an array -/
theorem last_four (ad : Addr) (c : Nat) (ys : List UInt8) (t0 t1 t2 t3 : UInt8) (w : World) (hr : RdB w (some ad) c (ys ++ [t0, t1, t2, t3])) (w' : World) (hb : Below w.heap.size w w') :
    (loadVar 107 (ad.add ys.length)).run Try.prog w' = .ok (.agg #[.int .u8 (t0.toNat : Int), .int .u8 (t1.toNat : Int), .int .u8 (t2.toNat : Int), .int .u8 (t3.toNat : Int)]) w' := by
  refine run_loadVar_arr w' 107 5 4 Try.underlying107 (ad.add ys.length) [.int .u8 (t0.toNat : Int), .int .u8 (t1.toNat : Int), .int .u8 (t2.toNat : Int), .int .u8 (t3.toNat : Int)] (by kernel_rfl) ?_
  intro j v hj
  obtain ⟨ad', e, hc⟩ := (hr.below hb).2.2.2 (by simp)
  injection e with e
  subst e
  have hj4 : j < 4 := by
    rcases Nat.lt_or_ge j 4 with h | h
    · exact h
    · rw [List.getElem?_eq_none (by simpa using h)] at hj
      cases hj
  have ha : (ad.add ys.length).add j = ad.add (ys.length + j) := by
    unfold Addr.add
    by_cases h1 : ys.length = 0 <;> by_cases h2 : j = 0 <;> simp [h1, h2, Nat.add_assoc]
  rw [ha, hc (ys.length + j) (by simp; omega), ← hj]
  have hj' : j = 0 ∨ j = 1 ∨ j = 2 ∨ j = 3 := by omega
  rcases hj' with rfl | rfl | rfl | rfl <;> simp [List.getD_eq_getElem?_getD, eu8]

/-- arrays of four octets compared -/
theorem run_equalIn_four (d : Nat) (x0 x1 x2 x3 y0 y1 y2 y3 : Int) (w : World) :
    (Op.equalIn (d + 2) 107 (.agg #[.int .u8 x0, .int .u8 x1, .int .u8 x2, .int .u8 x3]) (.agg #[.int .u8 y0, .int .u8 y1, .int .u8 y2, .int .u8 y3])).run Try.prog w = .ok (x0 == y0 && (x1 == y1 && (x2 == y2 && x3 == y3))) w := by
  obtain ⟨i0, hi, hz0, hz1, hz2⟩ := info_parts info_u8
  have p0 : ∀ (a b c d : Int) ww, (part 5 #[.int .u8 a, .int .u8 b, .int .u8 c, .int .u8 d] 0).run Try.prog ww = .ok (.int .u8 a) ww := fun a b c d ww => by kernel_rfl
  have p1 : ∀ (a b c d : Int) ww, (part 5 #[.int .u8 a, .int .u8 b, .int .u8 c, .int .u8 d] 1).run Try.prog ww = .ok (.int .u8 b) ww := fun a b c d ww => by kernel_rfl
  have p2 : ∀ (a b c d : Int) ww, (part 5 #[.int .u8 a, .int .u8 b, .int .u8 c, .int .u8 d] 2).run Try.prog ww = .ok (.int .u8 c) ww := fun a b c d ww => by kernel_rfl
  have p3 : ∀ (a b c d : Int) ww, (part 5 #[.int .u8 a, .int .u8 b, .int .u8 c, .int .u8 d] 3).run Try.prog ww = .ok (.int .u8 d) ww := fun a b c d ww => by kernel_rfl
  have q : ∀ (a b : Int) (ww : World), (Op.equalIn (d + 1) 5 (.int .u8 a) (.int .u8 b)).run Try.prog ww = .ok (a == b) ww := fun a b ww => run_equalIn_int ww d 5 .u8 .u8 a b Try.underlying5
  unfold Op.equalIn
  simp only [Sem.run_bind, run_underlying Try.underlying107, sizeOf, typeInfo, Std.Legacy.Range.forIn_eq_forIn_range']
  simp [Sem.run_bind, hi, hz1, List.range', p0, p1, p2, p3, q]
  by_cases e0 : x0 = y0 <;> by_cases e1 : x1 = y1 <;> by_cases e2 : x2 = y2 <;> by_cases e3 : x3 = y3 <;> simp [e0, e1, e2, e3]
theorem four_iff (c : BitVec 32) (t0 t1 t2 t3 : UInt8) : ((t0.toNat : Int) == (c.toNat : Int) / 16777216 && ((t1.toNat : Int) == (c.toNat : Int) / 65536 % 256 && ((t2.toNat : Int) == (c.toNat : Int) / 256 % 256 && (t3.toNat : Int) == (c.toNat : Int) % 256))) = decide ([t0, t1, t2, t3] = four c) := by
  have hc := c.isLt
  have e : ∀ (t : UInt8) (n : Nat), t = UInt8.ofNat n ↔ t.toNat = n % 256 := fun t n => by
    rw [← UInt8.toNat_inj]; simp
  rw [Bool.eq_iff_iff]
  simp only [Bool.and_eq_true, beq_iff_eq, decide_eq_true_eq, four, List.cons.injEq, and_true, e]
  omega

set_option maxRecDepth 100000 in
set_option maxHeartbeats 400000 in
/-- too short -/
theorem Bare_short (A : Option Addr) (c : Nat) (xs : List UInt8) (w : World) (h4 : xs.length < 4) :
    Calls Try.prog 46 #[.slice A xs.length c] w fun e w' => e = .returned (.tuple #[.slice none 0 0, .int .i64 8]) ∧ w = w' := by
  have h : (xs.length : Int) - 4 < 0 := by omega
  go_enter Try.func46, Try.ntmps46
  go_wp2
  go_ret2
  exact ⟨rfl, rfl⟩

set_option maxRecDepth 100000 in
set_option maxHeartbeats 400000 in
theorem Bare_any (A : Option Addr) (c : Nat) (ys : List UInt8) (t0 t1 t2 t3 : UInt8) (w : World) (hr : RdB w A c (ys ++ [t0, t1, t2, t3])) (hl : ys.length + 4 ≤ 140737488355328) :
    Calls Try.prog 46 #[.slice A (ys.length + 4) c] w fun e w' =>
      ([t0, t1, t2, t3] = four (crc ones ys) → ∃ v, e = .returned (.tuple #[v, .int .i64 0]) ∧ OwB w' w.heap.size v ys) ∧
      (¬ [t0, t1, t2, t3] = four (crc ones ys) → e = .returned (.tuple #[.slice none 0 0, .int .i64 21])) ∧ Below w.heap.size w w' := by
  obtain ⟨i0, hi, hz0, hz1, hz2⟩ := info_parts info_u8
  obtain ⟨ad, rfl, _⟩ := hr.at_ 0 (by simp)
  have hle : ys.length + 4 ≤ c := by simpa using hr.le
  have hcn : ¬ c = ys.length := by omega
  have hrt : RdB w (some ad) c ys := by simpa using hr.take ys.length (by simp)
  have hld := last_four ad c ys t0 t1 t2 t3 w hr
  have harr := fun ww => run_arrayAt (P := Try.prog) ww 107 5 4 Try.underlying107 (some (ad.add ys.length)) 4 (c - ys.length) (by omega)
  have hsl := fun ww => slice_hi (P := Try.prog) 23 5 Try.underlying23 hi hz1 (some ad) (ys.length + 4) c ys.length (by omega) ww
  have heq := fun ww => run_equalIn_four 9998 t0.toNat t1.toNat t2.toNat t3.toNat ((crc ones ys).toNat / 16777216) ((crc ones ys).toNat / 65536 % 256) ((crc ones ys).toNat / 256 % 256) ((crc ones ys).toNat % 256) ww
  rw [four_iff] at heq
  have heq' : ∀ ww, (Op.equalIn 10000 107 (.agg #[.int .u8 (t0.toNat : Int), .int .u8 (t1.toNat : Int), .int .u8 (t2.toNat : Int), .int .u8 (t3.toNat : Int)]) (.agg (fourC (crc ones ys)))).run Try.prog ww = .ok (decide ([t0, t1, t2, t3] = four (crc ones ys))) ww := heq
  clear heq hr
  by_cases hf : [t0, t1, t2, t3] = four (crc ones ys)
  · rw [decide_eq_true hf] at heq'
    have HF := hide hf
    clear hf
    go_enter Try.func46, Try.ntmps46
    go_wp2
    refine wp_region_below w.heap.size w (Below.refl _ _) (by kernel_rfl) (by kernel_rfl) ?_
    repeat (go_big_quiet_step ((intro hb; rfl)))
    refine quiet_load rfl 107 _ rfl _ rfl _ hld ?_
    clear hld
    simp only [Act.put, List.setIfInBounds_toArray, List.set_cons_zero, List.set_cons_succ]
    repeat (go_big_quiet_step ((intro hb; first | rfl | (refine (Sum_any _ _ _ _ (hrt.below hb)).mono ?_; rintro e w1 ⟨rfl, rfl⟩; exact ⟨rfl, hb⟩) | (refine (octets_any _ _).mono ?_; rintro e w1 ⟨rfl, HB1⟩; exact ⟨rfl, hb.trans (HB1.mono hb.size)⟩) | (simp only [heq', Result.andThen]; exact ⟨rfl, rfl⟩))))
    refine wpQuiet_nil ?_
    intro w1 HB1
    go_wp2_with (first | (go_at_call 69; refine (Clone_any _ _ _ _ (hrt.below HB1) (by omega)).mono ?_; rintro e w2 ⟨v, rfl, HO2, HB2⟩))
    go_ret2
    exact ⟨fun _ => ⟨_, rfl, HO2.lower HB1.size⟩, fun h => absurd HF.out h, HB1.trans (HB2.mono HB1.size)⟩
  · rw [decide_eq_false hf] at heq'
    have HF := hide hf
    clear hf
    go_enter Try.func46, Try.ntmps46
    go_wp2
    refine wp_region_below w.heap.size w (Below.refl _ _) (by kernel_rfl) (by kernel_rfl) ?_
    repeat (go_big_quiet_step ((intro hb; rfl)))
    refine quiet_load rfl 107 _ rfl _ rfl _ hld ?_
    clear hld
    simp only [Act.put, List.setIfInBounds_toArray, List.set_cons_zero, List.set_cons_succ]
    repeat (go_big_quiet_step ((intro hb; first | rfl | (refine (Sum_any _ _ _ _ (hrt.below hb)).mono ?_; rintro e w1 ⟨rfl, rfl⟩; exact ⟨rfl, hb⟩) | (refine (octets_any _ _).mono ?_; rintro e w1 ⟨rfl, HB1⟩; exact ⟨rfl, hb.trans (HB1.mono hb.size)⟩) | (simp only [heq', Result.andThen]; exact ⟨rfl, rfl⟩))))
    refine wpQuiet_nil ?_
    intro w1 HB1
    go_wp2
    go_ret2
    exact ⟨fun h => absurd h HF.out, fun _ => rfl, HB1⟩
end Go.Proofs.Ytefcepjffeiaoaa
end

section
/- The walks of the page's checksum: Extend, Sum, Copied, Guard, Bare. -/
namespace Go.Proofs.Ytefcepjffeiaoaa
open Go.RowKit Go.Proofs.YtefcepjffeiaoaaW.PrintWords

set_option maxRecDepth 100000 in
set_option maxHeartbeats 800000 in
theorem rExtend_any (c0 : BitVec 32) (A : Option Addr) (c : Nat) (xs : List UInt8) (w : World) (hr : RdB w A c xs) :
    Calls Try.prog 101 #[.int .u32 (c0.toNat : Int), .slice A xs.length c] w fun e w' => e = .returned (.int .u32 ((crc c0 xs).toNat : Int)) ∧ w = w' := by
  have hm := hr.max
  go_enter Try.func101, Try.ntmps101
  go_wp2
  go_loop [0, 5] (fun c i => ∃ k : Nat, k ≤ xs.length ∧ i = .int .i64 k ∧ c = .int .u32 ((crc c0 (xs.take k)).toNat : Int)) (fun _ i => xs.length - (intOf i).toNat)
  case atStart => exact ⟨0, by omega, rfl, rfl⟩
  case round =>
    obtain ⟨k, hk, rfl, rfl⟩ := hrel
    by_cases hlt : k < xs.length
    · obtain ⟨ad, rfl, hcell⟩ := hr.at_ k hlt
      have HS := hide (crc_snoc c0 xs k hlt)
      have HP := hide (put_int (crc c0 (xs.take k)) (xs.getD k 0))
      obtain ⟨x, hx⟩ : ∃ x, xs.getD k 0 = x := ⟨_, rfl⟩
      rw [hx] at hcell HS HP
      clear hx
      obtain ⟨r, hrr⟩ : ∃ r, crc c0 (xs.take k) ^^^ (bv x <<< 24) = r := ⟨_, rfl⟩
      have HR := hide hrr
      rw [hrr] at HP
      clear hrr
      go_wp2
      rw [HP.out]
      go_loop [0, 6, 7] (fun c i o => ∃ j : Nat, j ≤ 8 ∧ i = .int .i64 j ∧ c = .int .u32 ((Tk.bits j r).toNat : Int)) (fun _ i _ => 8 - (intOf i).toNat)
      case atStart => exact ⟨0, by omega, rfl, rfl⟩
      case round =>
        obtain ⟨j, hj, rfl, rfl⟩ := hrel
        have hb := (Tk.bits j r).isLt
        by_cases hlj : j < 8
        · by_cases hhi : 2147483648 ≤ (Tk.bits j r).toNat
          · have HB := hide (bit1_hi _ hhi)
            have h1 : (((Tk.bits j r).toNat : Int) / 2147483648 == 1) = true := by rw [beq_iff_eq]; omega
            go_wp2
            go_round
            case rel => exact ⟨j + 1, by omega, by go_num, by rw [HB.out]; rfl⟩
            case measure => simp [intOf]; omega
          · have HB := hide (bit1_lo' _ hhi)
            have h1 : (((Tk.bits j r).toNat : Int) / 2147483648 == 1) = false := by rw [beq_eq_false_iff_ne]; omega
            go_wp2
            go_round
            case rel => exact ⟨j + 1, by omega, by go_num, by rw [HB.out]; rfl⟩
            case measure => simp [intOf]; omega
        · obtain rfl : j = 8 := by omega
          go_wp2
          go_round
          case rel => exact ⟨k + 1, by omega, by go_num, by rw [HS.out, ← oct_bits, HR.out]⟩
          case measure => simp [intOf]; omega
    · go_wp2
      go_ret
      obtain rfl : k = xs.length := by omega
      exact ⟨by simp, rfl⟩

theorem rSum_any (A : Option Addr) (c : Nat) (xs : List UInt8) (w : World) (hr : RdB w A c xs) :
    Calls Try.prog 81 #[.slice A xs.length c] w fun e w' => e = .returned (.int .u32 ((crc ones xs).toNat : Int)) ∧ w = w' := by
  go_enter Try.func81, Try.ntmps81
  go_wp2_with (first | (go_at_call 101; refine (rExtend_any ones _ _ _ _ hr).mono ?_; rintro e w' ⟨rfl, rfl⟩))
  go_ret
  exact ⟨rfl, rfl⟩

set_option maxRecDepth 100000 in
set_option maxHeartbeats 400000 in
theorem Copied_any (A : Option Addr) (c : Nat) (xs : List UInt8) (w : World) (hr : RdB w A c xs) (hl : xs.length ≤ 140737488355328) :
    Calls Try.prog 82 #[.slice A xs.length c] w fun e w' => ∃ v, e = .returned v ∧ OwB w' w.heap.size v xs ∧ Below w.heap.size w w' := by
  have hm := hr.max
  go_enter Try.func82, Try.ntmps82
  go_wp2_with (first | (at_builtin; refine app_row (w0 := w) w.heap.size rfl _ _ rfl (.slice .none 0 0) [] xs A c rfl rfl (OwB.zero _ _) hr (Below.refl _ _) (Nat.le_refl _) (by simp; omega) ?_; intro v1 w1 HO1 HB1 hg hat))
  go_ret
  exact ⟨_, rfl, HO1, HB1⟩

set_option maxRecDepth 100000 in
set_option maxHeartbeats 400000 in
theorem rGuard_any (A : Option Addr) (c : Nat) (xs : List UInt8) (w : World) (hr : RdB w A c xs) (hl : xs.length + 4 ≤ 140737488355328) :
    Calls Try.prog 45 #[.slice A xs.length c] w fun e w' => ∃ v, e = .returned v ∧ OwB w' w.heap.size v (guarded xs) ∧ Below w.heap.size w w' := by
  have hm := hr.max
  have hc := (crc ones xs).isLt
  have hlit : ∀ W : World, RdB (W.alloc (.cells #[.int .u8 (((crc ones xs).toNat : Int) / 16777216), .int .u8 (((crc ones xs).toNat : Int) / 65536 % 256), .int .u8 (((crc ones xs).toNat : Int) / 256 % 256), .int .u8 (((crc ones xs).toNat : Int) % 256)] 5)) (some ⟨W.heap.size, 0, none⟩) 4 (four (crc ones xs)) := fun W => by
    refine ⟨Nat.le_refl _, rfl, by simp [four], fun _ => ⟨_, rfl, fun j hj => ?_⟩⟩
    have hj' : j = 0 ∨ j = 1 ∨ j = 2 ∨ j = 3 := by simp [four] at hj; omega
    rw [add_plain, World.cell?_alloc_mark]
    rcases hj' with rfl | rfl | rfl | rfl <;> simp [four, eu8]
    omega
  go_enter Try.func45, Try.ntmps45
  go_wp2_with (first | (go_at_call 81; refine (rSum_any _ _ _ _ hr).mono ?_; rintro e w' ⟨rfl, rfl⟩) | (go_at_call 82; refine (Copied_any _ _ _ _ hr (by omega)).mono ?_; rintro e w1 ⟨v, rfl, HO1, HB1⟩) | (at_builtin; refine app_row (w0 := w) w.heap.size rfl (.tmp 7) (.tmp 19) rfl v xs (four (crc ones xs)) _ 4 rfl rfl (HO1.below ((Below.refl _ _).alloc (Nat.le_refl _) _)) (hlit w1) (HB1.alloc HB1.size _) (by have := HB1.size; simp; omega) (by simp [four]; omega) ?_; intro v1 w2 HO2 HB2 hg hat))
  go_ret
  exact ⟨_, rfl, HO2, HB2⟩

set_option maxRecDepth 100000 in
set_option maxHeartbeats 400000 in
theorem rBare_short (A : Option Addr) (c : Nat) (xs : List UInt8) (w : World) (h4 : xs.length < 4) :
    Calls Try.prog 51 #[.slice A xs.length c] w fun e w' => e = .returned (.tuple #[.slice none 0 0, .int .i64 8]) ∧ w = w' := by
  go_enter Try.func51, Try.ntmps51
  go_wp2
  go_ret2
  exact ⟨rfl, rfl⟩
theorem guarded_iff (ys : List UInt8) (t0 t1 t2 t3 : UInt8) : guarded ys = ys ++ [t0, t1, t2, t3] ↔ [t0, t1, t2, t3] = four (crc ones ys) := by
  unfold guarded
  rw [List.append_cancel_left_eq]
  exact eq_comm

set_option maxRecDepth 100000 in
set_option maxHeartbeats 800000 in
theorem rBare_any (A : Option Addr) (c : Nat) (ys : List UInt8) (t0 t1 t2 t3 : UInt8) (w : World) (hr : RdB w A c (ys ++ [t0, t1, t2, t3])) (hl : ys.length + 4 ≤ 140737488355328) :
    Calls Try.prog 51 #[.slice A (ys.length + 4) c] w fun e w' =>
      ([t0, t1, t2, t3] = four (crc ones ys) → ∃ v, e = .returned (.tuple #[v, .int .i64 0]) ∧ OwB w' w.heap.size v ys) ∧
      (¬ [t0, t1, t2, t3] = four (crc ones ys) → e = .returned (.tuple #[.slice none 0 0, .int .i64 21])) ∧ Below w.heap.size w w' := by
  obtain ⟨i0, hi, hz0, hz1, hz2⟩ := info_parts info_u8
  have hle : ys.length + 4 ≤ c := by simpa using hr.le
  have hrt : RdB w A c ys := by simpa using hr.take ys.length (by simp)
  have hcv : ∀ w', Below w.heap.size w w' → (convert 23 9 (.slice A (ys.length + 4) c)).run Try.prog w' = .ok (.string (strB (ys ++ [t0, t1, t2, t3]))) w' := fun w' hb => by
    have := (hr.below hb).toStr (P := Try.prog) 23 5 9 Try.underlying23 Try.underlying5 Try.underlying9
    rw [show (ys ++ [t0, t1, t2, t3]).length = ys.length + 4 by simp] at this
    exact this
  have hsl := fun ww => slice_hi (P := Try.prog) 23 5 Try.underlying23 hi hz1 A (ys.length + 4) c ys.length (by omega) ww
  clear hr
  have hcv0 := hcv _ (Below.refl w.heap.size w).drew
  have hbq : ((strB (guarded ys)).toList == (strB (ys ++ [t0, t1, t2, t3])).toList) = decide ([t0, t1, t2, t3] = four (crc ones ys)) := by
    rw [strB_toList, strB_toList, Bool.eq_iff_iff, beq_iff_eq, decide_eq_true_eq]
    exact guarded_iff ys t0 t1 t2 t3
  by_cases hf : [t0, t1, t2, t3] = four (crc ones ys)
  · rw [decide_eq_true hf] at hbq
    have HF := hide hf
    clear hf
    go_enter Try.func51, Try.ntmps51
    go_wp2
    go_region_with (first | (go_at_call 45; refine (rGuard_any _ _ _ _ (hrt.below (Below.refl _ _).drew) (by omega)).mono ?_; rintro e w1 ⟨v, rfl, HO1, HB0⟩; have HB1 := (Below.refl w.heap.size w).drew.trans HB0; clear HB0; obtain ⟨A1, c1, rfl, hrd⟩ := HO1.rd; have hcv1 := hrd.toStr (P := Try.prog) 23 5 9 Try.underlying23 Try.underlying5 Try.underlying9; have hcv2 := hcv _ HB1; clear hrd))
    all_goals (go_wp2_with (first | (go_at_call 82; refine (Copied_any _ _ _ _ (hrt.below HB1) (by omega)).mono ?_; rintro e w2 ⟨v, rfl, HO2, HB2⟩)))
    all_goals go_ret2
    all_goals exact ⟨fun _ => ⟨_, rfl, HO2.lower HB1.size⟩, fun h => absurd HF.out h, HB1.trans (HB2.mono HB1.size)⟩
  · rw [decide_eq_false hf] at hbq
    have HF := hide hf
    clear hf
    go_enter Try.func51, Try.ntmps51
    go_wp2
    go_region_with (first | (go_at_call 45; refine (rGuard_any _ _ _ _ (hrt.below (Below.refl _ _).drew) (by omega)).mono ?_; rintro e w1 ⟨v, rfl, HO1, HB0⟩; have HB1 := (Below.refl w.heap.size w).drew.trans HB0; clear HB0; obtain ⟨A1, c1, rfl, hrd⟩ := HO1.rd; have hcv1 := hrd.toStr (P := Try.prog) 23 5 9 Try.underlying23 Try.underlying5 Try.underlying9; have hcv2 := hcv _ HB1; clear hrd))
    all_goals go_wp2
    all_goals go_ret2
    all_goals exact ⟨fun h => absurd h HF.out, fun _ => rfl, HB1⟩
end Go.Proofs.Ytefcepjffeiaoaa
end

section
/- Bare and the reference's Bare in one form. -/
namespace Go.Proofs.Ytefcepjffeiaoaa
open Go.RowKit Go.Proofs.YtefcepjffeiaoaaW.PrintWords

/-- what is bared, and the number that is answered -/
def bare (zs : List UInt8) : List UInt8 := if 4 ≤ zs.length ∧ guarded (zs.take (zs.length - 4)) = zs then zs.take (zs.length - 4) else []
def bareNum (zs : List UInt8) : Int := if zs.length < 4 then 8 else if guarded (zs.take (zs.length - 4)) = zs then 0 else 21
theorem take_guarded (xs : List UInt8) : (guarded xs).take ((guarded xs).length - 4) = xs := by
  rw [guarded_length, Nat.add_sub_cancel]
  simp [guarded]
theorem bare_guarded (xs : List UInt8) : bare (guarded xs) = xs := by
  unfold bare
  rw [take_guarded, if_pos ⟨by rw [guarded_length]; omega, rfl⟩]
theorem bareNum_guarded (xs : List UInt8) : bareNum (guarded xs) = 0 := by
  unfold bareNum
  rw [take_guarded, if_neg (by rw [guarded_length]; omega), if_pos rfl]
theorem cut_four (zs : List UInt8) (h : 4 ≤ zs.length) : ∃ t0 t1 t2 t3, zs = zs.take (zs.length - 4) ++ [t0, t1, t2, t3] := by
  have hl : (zs.drop (zs.length - 4)).length = 4 := by rw [List.length_drop]; omega
  match hd : zs.drop (zs.length - 4), hl with
  | [t0, t1, t2, t3], _ => exact ⟨t0, t1, t2, t3, by rw [← hd, List.take_append_drop]⟩
theorem Bare_all (A : Option Addr) (c : Nat) (zs : List UInt8) (w : World) (hr : RdB w A c zs) (hl : zs.length ≤ 140737488355328) :
    Calls Try.prog 46 #[.slice A zs.length c] w fun e w' => ∃ v, e = .returned (.tuple #[v, .int .i64 (bareNum zs)]) ∧ OwB w' w.heap.size v (bare zs) ∧ Below w.heap.size w w' := by
  by_cases h4 : zs.length < 4
  · refine (Bare_short A c zs w h4).mono ?_
    rintro e w' ⟨rfl, rfl⟩
    refine ⟨_, by rw [bareNum, if_pos h4], ?_, Below.refl _ _⟩
    rw [bare, if_neg (by omega)]
    exact OwB.zero _ _
  · obtain ⟨t0, t1, t2, t3, hz⟩ := cut_four zs (by omega)
    have hbn : bareNum zs = if guarded (zs.take (zs.length - 4)) = zs then 0 else 21 := by rw [bareNum, if_neg h4]
    have hbr : bare zs = if guarded (zs.take (zs.length - 4)) = zs then zs.take (zs.length - 4) else [] := by rw [bare]; simp [show 4 ≤ zs.length by omega]
    have hlen : (zs.take (zs.length - 4)).length + 4 = zs.length := by simp; omega
    rw [hbn, hbr]
    generalize zs.take (zs.length - 4) = ys at *
    subst hz
    rw [← hlen]
    refine (Bare_any A c ys t0 t1 t2 t3 w hr (by omega)).mono ?_
    rintro e w' ⟨h1, h2, HB⟩
    by_cases hg : guarded ys = ys ++ [t0, t1, t2, t3]
    · rw [if_pos hg, if_pos hg]
      obtain ⟨v, rfl, HO⟩ := h1 ((guarded_iff _ _ _ _ _).1 hg)
      exact ⟨v, rfl, HO, HB⟩
    · rw [if_neg hg, if_neg hg]
      exact ⟨_, h2 (fun e => hg ((guarded_iff _ _ _ _ _).2 e)), OwB.zero _ _, HB⟩
theorem rBare_all (A : Option Addr) (c : Nat) (zs : List UInt8) (w : World) (hr : RdB w A c zs) (hl : zs.length ≤ 140737488355328) :
    Calls Try.prog 51 #[.slice A zs.length c] w fun e w' => ∃ v, e = .returned (.tuple #[v, .int .i64 (bareNum zs)]) ∧ OwB w' w.heap.size v (bare zs) ∧ Below w.heap.size w w' := by
  by_cases h4 : zs.length < 4
  · refine (rBare_short A c zs w h4).mono ?_
    rintro e w' ⟨rfl, rfl⟩
    refine ⟨_, by rw [bareNum, if_pos h4], ?_, Below.refl _ _⟩
    rw [bare, if_neg (by omega)]
    exact OwB.zero _ _
  · obtain ⟨t0, t1, t2, t3, hz⟩ := cut_four zs (by omega)
    have hbn : bareNum zs = if guarded (zs.take (zs.length - 4)) = zs then 0 else 21 := by rw [bareNum, if_neg h4]
    have hbr : bare zs = if guarded (zs.take (zs.length - 4)) = zs then zs.take (zs.length - 4) else [] := by rw [bare]; simp [show 4 ≤ zs.length by omega]
    have hlen : (zs.take (zs.length - 4)).length + 4 = zs.length := by simp; omega
    rw [hbn, hbr]
    generalize zs.take (zs.length - 4) = ys at *
    subst hz
    rw [← hlen]
    refine (rBare_any A c ys t0 t1 t2 t3 w hr (by omega)).mono ?_
    rintro e w' ⟨h1, h2, HB⟩
    by_cases hg : guarded ys = ys ++ [t0, t1, t2, t3]
    · rw [if_pos hg, if_pos hg]
      obtain ⟨v, rfl, HO⟩ := h1 ((guarded_iff _ _ _ _ _).1 hg)
      exact ⟨v, rfl, HO, HB⟩
    · rw [if_neg hg, if_neg hg]
      exact ⟨_, h2 (fun e => hg ((guarded_iff _ _ _ _ _).2 e)), OwB.zero _ _, HB⟩
end Go.Proofs.Ytefcepjffeiaoaa
end

section
/- The plain law of numbers as octets. -/
namespace Go.Proofs.Ytefcepjffeiaoaa
open Go

def vsize (n : Nat) : Nat := if n < 128 then 1 else if n < 16384 then 2 else if n < 2097152 then 3 else if n < 268435456 then 4 else if n < 34359738368 then 5 else if n < 4398046511104 then 6 else if n < 562949953421312 then 7 else if n < 72057594037927936 then 8 else 9
theorem vsize_pos (n : Nat) : 1 ≤ vsize n := by unfold vsize; repeat' split <;> try omega
theorem vsize_le (n : Nat) : vsize n ≤ 9 := by unfold vsize; repeat' split <;> try omega
theorem bitLen_iff (x k : Nat) (hk : k ≤ 64) (hx : x < 2 ^ 64) : Lib.bitLen x ≤ k ↔ x < 2 ^ k := by
  constructor
  · intro h
    by_cases h0 : x = 0
    · subst h0; exact Nat.two_pow_pos k
    · have hb := Lib.bitLenAux_bounds 64 x hx h0
      exact Nat.lt_of_lt_of_le hb.2.2 (Nat.pow_le_pow_right (by omega) h)
  · exact fun h => Lib.bitLen_le x k hk h
theorem vsize_bits (n : Nat) (hn : n < 18446744073709551616) : vsize n = Nat.min 9 (Nat.max 1 ((Lib.bitLen n + 6) / 7)) := by
  have h := fun k hk => bitLen_iff n k hk hn
  have h7 := h 7 (by omega); have h14 := h 14 (by omega); have h21 := h 21 (by omega); have h28 := h 28 (by omega)
  have h35 := h 35 (by omega); have h42 := h 42 (by omega); have h49 := h 49 (by omega); have h56 := h 56 (by omega)
  have h64 := h 64 (by omega)
  simp only [Nat.reducePow] at h7 h14 h21 h28 h35 h42 h49 h56 h64
  have e1 : Nat.max 1 ((Lib.bitLen n + 6) / 7) = max 1 ((Lib.bitLen n + 6) / 7) := rfl
  have e2 : ∀ x, Nat.min 9 x = min 9 x := fun _ => rfl
  rw [e1, e2]
  unfold vsize
  repeat' split <;> try omega
/-- the lower j octets of n, the highest first -/
def be : Nat → Nat → List UInt8
  | 0, _ => []
  | j + 1, n => UInt8.ofNat (n / 256 ^ j) :: be j n
theorem be_length (j n : Nat) : (be j n).length = j := by induction j <;> simp [be, *]
def num8 (h : Nat) (l : List UInt8) : Nat := l.foldl (fun n x => n * 256 + x.toNat) h
theorem num8_append (h : Nat) (a b : List UInt8) : num8 h (a ++ b) = num8 (num8 h a) b := by simp [num8]
theorem num8_cons (h : Nat) (x : UInt8) (l : List UInt8) : num8 h (x :: l) = num8 (h * 256 + x.toNat) l := rfl
theorem num8_be (j n : Nat) : num8 (n / 256 ^ j) (be j n) = n := by
  induction j with
  | zero => simp [be, num8]
  | succ j ih =>
    rw [be, num8_cons]
    have : n / 256 ^ (j + 1) * 256 + (UInt8.ofNat (n / 256 ^ j)).toNat = n / 256 ^ j := by
      rw [Nat.pow_succ, ← Nat.div_div_eq_div_mul]
      simp only [UInt8.toNat_ofNat']
      omega
    rw [this, ih]
theorem num8_split (h : Nat) (l : List UInt8) : num8 h l = h * 256 ^ l.length + num8 0 l ∧ num8 0 l < 256 ^ l.length := by
  induction l generalizing h with
  | nil => simp [num8]
  | cons x l ih =>
    have hx := x.toNat_lt
    have h1 := ih (h * 256 + x.toNat)
    have h2 := ih (0 * 256 + x.toNat)
    rw [num8_cons, num8_cons, h1.1, h2.1, List.length_cons, Nat.pow_succ]
    have h3 := h1.2
    constructor
    · rw [Nat.add_mul, Nat.mul_assoc, Nat.mul_comm 256, Nat.zero_mul, Nat.zero_add, Nat.add_assoc]
    · rw [Nat.zero_mul, Nat.zero_add]
      have : x.toNat * 256 ^ l.length ≤ 255 * 256 ^ l.length := Nat.mul_le_mul_right _ (by omega)
      have e : 256 ^ l.length * 256 = 255 * 256 ^ l.length + 256 ^ l.length := by rw [Nat.mul_comm]; omega
      omega
theorem num8_div (h : Nat) (l : List UInt8) : num8 h l / 256 ^ l.length = h := by
  have := num8_split h l
  rw [this.1, Nat.add_comm, Nat.add_mul_div_right _ _ (Nat.pow_pos (by omega)), Nat.div_eq_of_lt this.2, Nat.zero_add]
theorem be_num8 (h : Nat) (l : List UInt8) : be l.length (num8 h l) = l := by
  induction l generalizing h with
  | nil => rfl
  | cons x l ih =>
    rw [List.length_cons, be, num8_cons, ih, num8_div]
    congr 1
    apply UInt8.toNat_inj.1
    have hx := x.toNat_lt
    simp only [UInt8.toNat_ofNat']
    omega
/-- how many ones an octet begins with; the ones that tell how many octets follow; what an octet holds beside them -/
def ones8 (b : UInt8) : Nat := 8 - Lib.bitLen (255 - b.toNat)
def lead (k : Nat) : UInt8 := ~~~ (UInt8.ofNat (255 / 2 ^ (k - 1)))
def mask8 (k : Nat) : UInt8 := UInt8.ofNat (255 / 2 ^ k)
def room (k : Nat) : Nat := if k = 9 then 1 else 2 ^ (8 - k)
def head (n : Nat) : UInt8 := UInt8.ofNat (n / 256 ^ (vsize n - 1)) ||| lead (vsize n)
def put (n : Nat) : List UInt8 := head n :: be (vsize n - 1) n
theorem put_length (n : Nat) : (put n).length = vsize n := by
  have := vsize_pos n
  rw [put, List.length_cons, be_length]
  omega
theorem ones8_le (b : UInt8) : ones8 b ≤ 8 := by unfold ones8; omega
theorem back8 (b : UInt8) : (b &&& mask8 (ones8 b + 1)) ||| lead (ones8 b + 1) = b ∧ (b &&& mask8 (ones8 b + 1)).toNat < room (ones8 b + 1) := by
  have h : ∀ n : Fin 256, ((UInt8.ofNat n.val) &&& mask8 (ones8 (UInt8.ofNat n.val) + 1)) ||| lead (ones8 (UInt8.ofNat n.val) + 1) = UInt8.ofNat n.val ∧ ((UInt8.ofNat n.val) &&& mask8 (ones8 (UInt8.ofNat n.val) + 1)).toNat < room (ones8 (UInt8.ofNat n.val) + 1) := by decide +kernel
  have := h ⟨b.toNat, b.toNat_lt⟩
  simpa using this
theorem forth8 (k x : Nat) (h1 : 1 ≤ k) (h9 : k ≤ 9) (hx : x < room k) : ones8 (UInt8.ofNat x ||| lead k) + 1 = k ∧ (UInt8.ofNat x ||| lead k) &&& mask8 k = UInt8.ofNat x ∧ (UInt8.ofNat x).toNat = x := by
  have h : ∀ k : Fin 10, ∀ x : Fin 128, 1 ≤ k.val → x.val < room k.val → ones8 (UInt8.ofNat x.val ||| lead k.val) + 1 = k.val ∧ (UInt8.ofNat x.val ||| lead k.val) &&& mask8 k.val = UInt8.ofNat x.val ∧ (UInt8.ofNat x.val).toNat = x.val := by decide +kernel
  have hr : ∀ k : Fin 10, 1 ≤ k.val → room k.val ≤ 128 := by decide
  have := hr ⟨k, by omega⟩ h1
  simp only at this
  exact h ⟨k, by omega⟩ ⟨x, by omega⟩ h1 hx
theorem room_size (n : Nat) (hn : n < 18446744073709551616) : n / 256 ^ (vsize n - 1) < room (vsize n) := by
  unfold vsize
  repeat' split
  all_goals (simp [room]; omega)
theorem size_room (k n : Nat) (h1 : 1 ≤ k) (h9 : k ≤ 9) (h : n / 256 ^ (k - 1) < room k) : vsize n ≤ k := by
  have hk : k = 1 ∨ k = 2 ∨ k = 3 ∨ k = 4 ∨ k = 5 ∨ k = 6 ∨ k = 7 ∨ k = 8 ∨ k = 9 := by omega
  rcases hk with rfl | rfl | rfl | rfl | rfl | rfl | rfl | rfl | rfl <;> simp [room] at h <;> unfold vsize <;> repeat' split <;> try omega
def oct0 : List UInt8 → UInt8
  | [] => 0
  | x :: _ => x
/-- what octets tell: the number and how many octets it has; else the error's number -/
def getNum (b : List UInt8) : Nat := num8 ((oct0 b &&& mask8 (ones8 (oct0 b) + 1)).toNat) ((b.take (ones8 (oct0 b) + 1)).drop 1)
def getErr (b : List UInt8) : Nat := if b.length < ones8 (oct0 b) + 1 then 8 else if vsize (getNum b) = ones8 (oct0 b) + 1 then 0 else 4
theorem getErr_nil : getErr [] = 8 := by decide
theorem get_put (n : Nat) (hn : n < 18446744073709551616) (more : List UInt8) : getErr (put n ++ more) = 0 ∧ getNum (put n ++ more) = n ∧ ones8 (oct0 (put n ++ more)) + 1 = vsize n := by
  have h1 := vsize_pos n
  have hf := forth8 (vsize n) (n / 256 ^ (vsize n - 1)) h1 (vsize_le n) (room_size n hn)
  have hh : oct0 (put n ++ more) = head n := rfl
  have ho : ones8 (head n) + 1 = vsize n := hf.1
  have hg : getNum (put n ++ more) = n := by
    unfold getNum
    rw [hh, ho, List.take_append_of_le_length (by rw [put_length]; omega), List.take_of_length_le (by rw [put_length]; omega)]
    show num8 (head n &&& mask8 (vsize n)).toNat (be (vsize n - 1) n) = n
    rw [show head n &&& mask8 (vsize n) = UInt8.ofNat (n / 256 ^ (vsize n - 1)) from hf.2.1, hf.2.2, num8_be]
  refine ⟨?_, hg, by rw [hh, ho]⟩
  unfold getErr
  rw [hh, ho, hg, if_neg (by rw [List.length_append, put_length]; omega), if_pos rfl]
theorem put_get (b : List UInt8) (h : getErr b = 0) : put (getNum b) = b.take (ones8 (oct0 b) + 1) ∧ ones8 (oct0 b) + 1 ≤ b.length ∧ vsize (getNum b) = ones8 (oct0 b) + 1 := by
  have hl : ¬ b.length < ones8 (oct0 b) + 1 := fun hc => by rw [getErr, if_pos hc] at h; omega
  have hv : vsize (getNum b) = ones8 (oct0 b) + 1 := by
    apply Classical.byContradiction
    intro hc
    rw [getErr, if_neg hl, if_neg hc] at h
    omega
  refine ⟨?_, by omega, hv⟩
  match b, hl, hv with
  | [], hl, _ => exact absurd (by simp) hl
  | b0 :: l, hl, hv =>
    have hb := back8 b0
    simp only [oct0] at hv hl ⊢
    rw [put, head, hv]
    have e : (getNum (b0 :: l)) = num8 (b0 &&& mask8 (ones8 b0 + 1)).toNat (l.take (ones8 b0)) := rfl
    have hlen : (l.take (ones8 b0)).length = ones8 b0 := by simp at hl ⊢; omega
    rw [e, List.take_succ_cons]
    have hd := num8_div (b0 &&& mask8 (ones8 b0 + 1)).toNat (l.take (ones8 b0))
    have hbe := be_num8 (b0 &&& mask8 (ones8 b0 + 1)).toNat (l.take (ones8 b0))
    rw [hlen] at hd hbe
    rw [Nat.add_sub_cancel, hd, hbe]
    congr 1
    rw [UInt8.ofNat_toNat]
    exact hb.1
theorem getNum_room (b : List UInt8) (hl : ones8 (oct0 b) + 1 ≤ b.length) : vsize (getNum b) ≤ ones8 (oct0 b) + 1 := by
  have hb := back8 (oct0 b)
  have h8 := ones8_le (oct0 b)
  refine size_room _ _ (by omega) (by omega) ?_
  have hlen : ((b.take (ones8 (oct0 b) + 1)).drop 1).length = ones8 (oct0 b) + 1 - 1 := by simp; omega
  have hd := num8_div (oct0 b &&& mask8 (ones8 (oct0 b) + 1)).toNat ((b.take (ones8 (oct0 b) + 1)).drop 1)
  rw [hlen] at hd
  rw [getNum, hd]
  exact hb.2
end Go.Proofs.Ytefcepjffeiaoaa
end

section
/- The walks of Size and Put of numbers as octets, and the reference's. -/
namespace Go.Proofs.Ytefcepjffeiaoaa
open Go.RowKit Go.Proofs.YtefcepjffeiaoaaW.PrintWords
set_option linter.unusedVariables false

theorem Size_any (n : Nat) (hn : n < 18446744073709551616) (w : World) : Calls Try.prog 68 #[.int .u64 (n : Int)] w fun e w' => e = .returned (.int .i64 (vsize n : Int)) ∧ w = w' := by
  have hv := hide (vsize_bits n hn)
  have hb : Lib.bitLen n ≤ 64 := Lib.bitLen_le n 64 (by omega) hn
  have hL := bits_Len64 (n : Int) w (by omega) (by omega)
  rw [Int.toNat_natCast] at hL
  generalize Lib.bitLen n = b at *
  go_enter Try.func68, Try.ntmps68
  go_wp2_with (first | (go_at_call 98; refine hL.mono ?_; rintro e w' ⟨rfl, rfl⟩))
  all_goals (go_ret; refine ⟨congrArg Ending.returned (congrArg (Value.int .i64) ?_), rfl⟩; rw [hv.out])
  have e1 : ∀ x y, Nat.min x y = min x y := fun _ _ => rfl
  have e2 : ∀ x y, Nat.max x y = max x y := fun _ _ => rfl
  rw [e1, e2]
  omega

theorem be_set (k n : Nat) (hk : k < 9) : (List.replicate (9 - k) (0 : UInt8) ++ be k n).set (8 - k) (UInt8.ofNat (n / 256 ^ k)) = List.replicate (9 - (k + 1)) 0 ++ be (k + 1) n := by
  rw [show 9 - k = (9 - (k + 1)) + 1 by omega, List.replicate_succ', List.append_assoc, List.set_append_right _ _ (by simp)]
  simp only [List.length_replicate, show 8 - k - (9 - (k + 1)) = 0 by omega, List.singleton_append, List.set_cons_zero]
  rfl
def cells8 (xs : List UInt8) : Array Value := (xs.map eu8).toArray
theorem cells8_set (xs : List UInt8) (i : Nat) (x : UInt8) : (cells8 xs).setIfInBounds i (.int .u8 (x.toNat : Int)) = cells8 (xs.set i x) := by
  apply Array.ext'
  simp [cells8, List.map_set, eu8]
theorem cells8_get (xs : List UInt8) (i : Nat) (h : i < xs.length) : (cells8 xs)[i]? = some (.int .u8 ((xs.getD i 0).toNat : Int)) := by
  simp [cells8, List.getElem?_map, List.getElem?_eq_getElem h, List.getD_eq_getElem?_getD, eu8]
theorem shr_byte (n k : Nat) : (n : Int) / 2 ^ (8 * k) % 256 = ((UInt8.ofNat (n / 256 ^ k)).toNat : Int) := by
  have e : (2 : Int) ^ (8 * k) = ((256 ^ k : Nat) : Int) := by rw [Int.pow_mul]; simp
  rw [e, UInt8.toNat_ofNat']
  omega
theorem lead_int (k : Nat) (h1 : 1 ≤ k) (h9 : k ≤ 9) (j : Nat) (hj : j + 1 = k) : bits .xor .u8 (if IntKind.u8.signed = true then -1 else IntKind.u8.max) ((255 : Int) / 2 ^ j) = ((lead k).toNat : Int) := by
  have hk : ∀ j : Fin 9, ((255 : Int) / 2 ^ j.val) = ((UInt8.ofNat (255 / 2 ^ j.val)).toNat : Int) := by decide +kernel
  subst hj
  rw [hk ⟨j, by omega⟩, not_u8]
  rfl
theorem or_u8 (x y : UInt8) : bits .or .u8 (x.toNat : Int) (y.toNat : Int) = ((x ||| y).toNat : Int) := by
  rw [u8_or_nat _ _ x.toNat_lt y.toNat_lt, UInt8.toNat_or]
theorem and_u8 (x y : UInt8) : bits .and .u8 (x.toNat : Int) (y.toNat : Int) = ((x &&& y).toNat : Int) := by
  rw [u8_and_nat _ _ x.toNat_lt y.toNat_lt, UInt8.toNat_and]
theorem be_drop (n : Nat) (j i : Nat) : (be (i + j) n).drop i = be j n := by
  induction i with
  | zero => simp
  | succ i ih => rw [show i + 1 + j = (i + j) + 1 by omega, be, List.drop_succ_cons, ih]
/-- octets of a block, from a place on -/
theorem RdB.blk {w : World} {g : Nat} {t : TypeId} {xs : List UInt8} (h : w.heap[g]? = some (.cells (cells8 xs) t (0, 0))) (i : Nat) (hi : i ≤ xs.length) (hm : xs.length ≤ 9223372036854775807) : RdB w (some ⟨g, i, none⟩) (xs.length - i) (xs.drop i) := by
  refine ⟨by simp, rfl, by simp; omega, fun _ => ⟨_, rfl, fun j hj => ?_⟩⟩
  have e : (⟨g, i, none⟩ : Addr).add j = ⟨g, i + j, none⟩ := by unfold Addr.add; split <;> simp_all
  simp only [List.length_drop] at hj
  rw [e, blk_cell h, cells8_get _ _ (by omega)]
  simp [eu8, List.getD_eq_getElem?_getD]
theorem slice_nine (g m : Nat) (h1 : 1 ≤ m) (h9 : m ≤ 9) (W : World) : (Instr.sliceAt 102 (.pointer (some ⟨g, 0, none⟩)) (some (.int .i64 (9 - (m : Int)))) none none).run Try.prog W = .ok (.slice (some ⟨g, 9 - m, none⟩) m m) W := by
  obtain ⟨i0, hi, hz0, hz1, hz2⟩ := info_parts info_u8
  have hel : Try.prog.elem 102 = 5 := by kernel_rfl
  have har : Try.prog.arrayLen 102 = 9 := by kernel_rfl
  have hl : (9 - (m : Int)).toNat = 9 - m := by omega
  rw [run_sliceAt_array_l W 102 ⟨g, 0, none⟩ (by rw [hel, har]; exact Try.underlying102) .i64 _ (by omega) (by rw [har]; omega), hel, har, hl]
  simp [sizeOf, typeInfo, hi, hz1, slicedAt, Result.andThen]
  rw [if_neg (by omega), add_plain]
  exact ⟨rfl, by omega⟩
set_option maxRecDepth 100000 in
set_option maxHeartbeats 400000 in
theorem Put_any (n : Nat) (hn : n < 18446744073709551616) (w : World) : Calls Try.prog 30 #[.int .u64 (n : Int)] w fun e w' => ∃ v, e = .returned v ∧ OwB w' w.heap.size v (put n) ∧ Below w.heap.size w w' := by
  go_enter Try.func30, Try.ntmps30
  go_wp2
  go_loopw [7] (fun i wr => ∃ k : Nat, k ≤ 9 ∧ i = .int .i64 k ∧ wr.heap[w.heap.size]? = some (.cells (cells8 (List.replicate (9 - k) 0 ++ be k n)) 102 (0, 0)) ∧ Below w.heap.size w wr) (fun i _ => 9 - (intOf i).toNat)
  case atStart => exact ⟨0, by omega, rfl, heap_alloc_new w _, (Below.refl _ _).alloc (Nat.le_refl _) _⟩
  case round =>
    obtain ⟨k, hk, rfl, hblk, HB⟩ := hrel
    by_cases hlt : k < 9
    · have hfr := blk_frozen hblk (8 - k)
      have hcl := blk_cell hblk (8 - k)
      have hnew := blk_set hblk (8 - k) (.int .u8 ((UInt8.ofNat (n / 256 ^ k)).toNat : Int))
      rw [cells8_set, be_set k n hlt] at hnew
      rw [cells8_get _ _ (by simp [be_length]; omega)] at hcl
      have hh := hide hnew
      clear hnew
      go_wp2
      go_roundw
      have HV := shr_byte n k
      case rel => exact ⟨k + 1, by omega, by go_num, by rw [HV]; exact hh.out, by rw [HV]; exact HB.setCell (Nat.le_refl _) _⟩
      case measure => simp [intOf]; omega
    · obtain rfl : k = 9 := by omega
      obtain ⟨j, hmv⟩ : ∃ j, vsize n = j + 1 := ⟨vsize n - 1, by have := vsize_pos n; omega⟩
      obtain ⟨m, hj⟩ : ∃ m, j + 1 = m := ⟨_, rfl⟩
      rw [hj] at hmv
      have h1 := vsize_pos n
      have h9 := vsize_le n
      have hS := Size_any n hn
      rw [hmv] at h1 h9 hS
      have hrd := RdB.blk hblk (9 - m) (by simp [be_length]) (by simp [be_length])
      have hdr : (List.replicate (9 - 9) (0 : UInt8) ++ be 9 n).drop (9 - m) = be m n := by
        have := be_drop n m (9 - m)
        rw [show 9 - m + m = 9 by omega] at this
        simpa using this
      rw [hdr, show (List.replicate (9 - 9) (0 : UInt8) ++ be 9 n).length - (9 - m) = m by simp [be_length]; omega] at hrd
      have hlb : (be m n).length = m := be_length m n
      have hC := Clone_any _ _ _ wr hrd (by omega)
      rw [hlb] at hC
      have hsl := slice_nine w.heap.size m h1 h9
      go_wp2_with (first | (go_at_call 68; refine (hS _).mono ?_; rintro e w2 ⟨rfl, rfl⟩) | (go_at_call 69; refine hC.mono ?_; rintro e w3 ⟨v3, rfl, HO3, HB3⟩))
      have hl0 : 0 < (be m n).length := by omega
      have HBd : Below w.heap.size w w3.drew := (HB.trans (HB3.mono HB.size)).drew
      have HOd : OwB w3.drew wr.heap.size v3 (be m n) := HO3.below (Below.refl _ _).drew
      obtain ⟨g, cap, rfl, hgb, hgl, hcell, hfr, hset⟩ := HOd.set_ 0 hl0
      obtain ⟨HS, HG⟩ := hset (head n)
      have hb0 : (be m n).getD 0 0 = UInt8.ofNat (n / 256 ^ j) := by subst hj; rfl
      rw [hb0] at hcell
      have hput : (be m n).set 0 (head n) = put n := by rw [put, hmv]; subst hj; rfl
      rw [hput] at HS
      have hHS := hide HS
      have hHG := hide HG
      have hcd : w3.cell? ⟨g, 0, none⟩ = some (.int .u8 ((UInt8.ofNat (n / 256 ^ j)).toNat : Int)) := hcell
      have HX : Hid (bits .or .u8 ((UInt8.ofNat (n / 256 ^ j)).toNat : Int) (bits .xor .u8 IntKind.u8.max ((255 : Int) / 2 ^ j)) = ((head n).toNat : Int)) := by
        have hli : bits .xor .u8 IntKind.u8.max ((255 : Int) / 2 ^ j) = ((lead m).toNat : Int) := lead_int m h1 h9 j hj
        rw [hli, or_u8, head, hmv, show m - 1 = j by omega]; rfl
      rw [hlb]
      generalize UInt8.ofNat (n / 256 ^ j) = x at *
      clear HS HG hset hput hl0 hmv hdr hrd hblk hC hsl hS hb0 HO3 HOd
      have hm0 : 0 < m := by omega
      have hmj : (m : Int) - 1 = (j : Int) := by omega
      have hwj : IntKind.i64.wrap (j : Int) = (j : Int) := by rw [IntKind.wrap_i64]; omega
      have hj8 : (j : Int) ≤ 8 := by omega
      have hj64 : (j : Int) ≤ 64 := by omega
      go_still_tail 9, (by kernel_rfl)
      change wpList _ _ _ _ _ w3.drew
      generalize w3.drew = wd at *
      go_wp2
      go_ret
      exact ⟨_, rfl, by rw [HX.out]; simpa [hlb] using hHS.out.lower HB.size, by rw [HX.out]; exact HBd.setCell (Nat.le_trans HB.size hgb) _⟩
end Go.Proofs.Ytefcepjffeiaoaa
end

section
/- The walks of the reference's Size and Put of numbers as octets. -/
namespace Go.Proofs.Ytefcepjffeiaoaa
open Go.RowKit Go.Proofs.YtefcepjffeiaoaaW.PrintWords
set_option linter.unusedVariables false

theorem vsize_iff (n k : Nat) (h1 : 1 ≤ k) (h8 : k ≤ 8) : (n : Int) / 2 ^ (7 * k) = 0 ↔ vsize n ≤ k := by
  have hk : k = 1 ∨ k = 2 ∨ k = 3 ∨ k = 4 ∨ k = 5 ∨ k = 6 ∨ k = 7 ∨ k = 8 := by omega
  unfold vsize
  rcases hk with rfl | rfl | rfl | rfl | rfl | rfl | rfl | rfl <;> simp only [Nat.reduceMul, Int.reducePow] <;> (repeat' split) <;> omega
theorem rSize_any (n : Nat) (hn : n < 18446744073709551616) (w : World) : Calls Try.prog 78 #[.int .u64 (n : Int)] w fun e w' => e = .returned (.int .i64 (vsize n : Int)) ∧ w = w' := by
  have h9 := vsize_le n
  have h1 := vsize_pos n
  go_enter Try.func78, Try.ntmps78
  go_wp2
  go_loop [3] (fun i => ∃ k : Nat, 1 ≤ k ∧ k ≤ 9 ∧ k ≤ vsize n ∧ i = .int .i64 k) (fun i => 10 - (intOf i).toNat)
  case atStart => exact ⟨1, by omega, by omega, by omega, rfl⟩
  case round =>
    obtain ⟨k, hk1, hk9, hkv, rfl⟩ := hrel
    by_cases hlt : k ≤ 8
    · have hi := vsize_iff n k hk1 hlt
      have hk7 : (7 : Int) * k ≤ 64 := by omega
      by_cases hv : vsize n ≤ k
      · have hz := hi.2 hv
        clear hi
        have : vsize n = k := by omega
        rw [this]
        go_wp2
        go_ret
        exact ⟨rfl, rfl⟩
      · have hz : ¬ (n : Int) / 2 ^ (7 * k) = 0 := fun e => hv (hi.1 e)
        clear hi
        go_wp2
        go_round
        case rel => exact ⟨k + 1, by omega, by omega, by omega, by go_num⟩
        case measure => simp [intOf]; omega
    · obtain rfl : k = 9 := by omega
      have : vsize n = 9 := by omega
      rw [this]
      go_wp2
      go_ret
      exact ⟨rfl, rfl⟩

theorem be_put (m k n : Nat) (hk : k < m) : (List.replicate (m - k) (0 : UInt8) ++ be k n).set (m - (k + 1)) (UInt8.ofNat (n / 256 ^ k)) = List.replicate (m - (k + 1)) 0 ++ be (k + 1) n := by
  rw [show m - k = (m - (k + 1)) + 1 by omega, List.replicate_succ', List.append_assoc, List.set_append_right _ _ (by simp)]
  simp only [List.length_replicate, Nat.sub_self, List.singleton_append, List.set_cons_zero]
  rfl
theorem lead_more (i : Nat) (h : i < 8) : lead (i + 1) ||| UInt8.ofNat (128 / 2 ^ i) = lead (i + 2) := by
  have hh : ∀ i : Fin 8, lead (i.val + 1) ||| UInt8.ofNat (128 / 2 ^ i.val) = lead (i.val + 2) := by decide +kernel
  exact hh ⟨i, h⟩
theorem shr128 (i : Nat) (h : i < 8) : (128 : Int) / 2 ^ i = ((UInt8.ofNat (128 / 2 ^ i)).toNat : Int) := by
  have hh : ∀ r : Fin 8, (128 : Int) / 2 ^ r.val = ((UInt8.ofNat (128 / 2 ^ r.val)).toNat : Int) := by decide +kernel
  exact hh ⟨i, h⟩
set_option maxRecDepth 100000 in
set_option maxHeartbeats 400000 in
theorem rPut_any (n : Nat) (hn : n < 18446744073709551616) (w : World) : Calls Try.prog 39 #[.int .u64 (n : Int)] w fun e w' => ∃ v, e = .returned v ∧ OwB w' w.heap.size v (put n) ∧ Below w.heap.size w w' := by
  obtain ⟨m, hmv⟩ : ∃ m, vsize n = m := ⟨_, rfl⟩
  have h1 := vsize_pos n
  have h9 := vsize_le n
  have hS := rSize_any n hn
  have hput : put n = (UInt8.ofNat (n / 256 ^ (m - 1)) ||| lead m) :: be (m - 1) n := by rw [put, head, hmv]
  rw [hmv] at h1 h9 hS
  have HPUT := hide hput
  clear hmv hput
  have hmk := make_bytes m (by omega)
  have hmw := OwB.made w w.heap.size m (Nat.le_refl _) (by omega)
  go_enter Try.func39, Try.ntmps39
  go_wp2_with (first | (go_at_call 78; refine (hS _).mono ?_; rintro e w2 ⟨rfl, rfl⟩))
  go_loopw [0, 5] (fun x i wr => ∃ k : Nat, k ≤ m ∧ x = .int .u64 ((n / 256 ^ k : Nat) : Int) ∧ i = .int .i64 ((m : Int) - 1 - k) ∧ OwB wr w.heap.size (.slice (some ⟨w.heap.size, 0, none⟩) m m) (List.replicate (m - k) 0 ++ be k n) ∧ Below w.heap.size w wr) (fun _ i _ => (intOf i + 1).toNat)
  case atStart => exact ⟨0, by omega, by simp, by simp, by simpa [be] using hmw, (Below.refl _ _).alloc (Nat.le_refl _) _⟩
  case round =>
    obtain ⟨k, hk, rfl, rfl, HO, HB⟩ := hrel
    have hlen : (List.replicate (m - k) 0 ++ be k n).length = m := by simp [be_length]; omega
    by_cases hlt : k < m
    · obtain ⟨g, cap, hv, hgb, hgl, hcell, hfr, hset⟩ := HO.set_ (m - (k + 1)) (by omega)
      obtain ⟨rfl, rfl⟩ : w.heap.size = g ∧ m = cap := by injection hv with h1 _ h3; injection h1 with h1; injection h1 with h1; exact ⟨h1, h3⟩
      obtain ⟨HS, HG⟩ := hset (UInt8.ofNat (n / 256 ^ k))
      rw [be_put m k n hlt] at HS
      have hHS := hide HS
      have hHG := hide HG
      obtain ⟨q, hq⟩ : ∃ q, m - (k + 1) = q := ⟨_, rfl⟩
      have hqi : (m : Int) - 1 - k = (q : Int) := by omega
      obtain ⟨x, hx⟩ : ∃ x, n / 256 ^ k = x := ⟨_, rfl⟩
      have hx1 : ((x : Nat) : Int) / 256 = ((n / 256 ^ (k + 1) : Nat) : Int) := by rw [Nat.pow_succ, ← Nat.div_div_eq_div_mul, hx]; omega
      have hxn : x < 18446744073709551616 := by rw [← hx]; exact Nat.lt_of_le_of_lt (Nat.div_le_self _ _) hn
      have hqm : (q : Int) < m := by omega
      have hqm' : q < m := by omega
      have hu : (x : Int) % 256 = ((UInt8.ofNat x).toNat : Int) := by simp
      have HQ := hide hq
      rw [hq] at hcell hfr hHS hHG
      rw [hx] at hHS hHG ⊢
      rw [hqi]
      have HU := hide hu
      have HX1 := hide hx1
      have HQI := hide hqi
      clear hu hx1 hqi
      generalize ((List.replicate (m - k) (0 : UInt8) ++ be k n).getD q 0) = old at *
      clear HS HG hset hv hlen hq hx HO hmw hmk hS
      go_wp2
      go_roundw
      case rel => exact ⟨k + 1, by omega, by rw [← HX1.out], by rw [← HQI.out]; go_num, by rw [HU.out]; simpa [HQ.out] using hHS.out, by rw [HU.out]; exact HB.setCell (Nat.le_refl _) _⟩
      case measure => simp [intOf]
    · obtain rfl : k = m := by omega
      obtain ⟨j, rfl⟩ : ∃ j, k = j + 1 := ⟨k - 1, by omega⟩
      obtain ⟨x, hx⟩ : ∃ x, UInt8.ofNat (n / 256 ^ j) = x := ⟨_, rfl⟩
      have hbe : be (j + 1) n = x :: be j n := by rw [be, hx]
      obtain ⟨t, ht⟩ : ∃ t, be j n = t := ⟨_, rfl⟩
      have hlt1 : t.length = j := by rw [← ht, be_length]
      have hP := HPUT.out
      rw [Nat.add_sub_cancel, hx, ht] at hP
      rw [Nat.sub_self, List.replicate_zero, List.nil_append, hbe, ht] at HO
      have HP := hide hP
      clear hP hbe HPUT hx ht hmk hmw hS
      obtain ⟨m, hm⟩ : ∃ m, j + 1 = m := ⟨_, rfl⟩
      rw [hm] at HO HP h1 h9 ⊢
      go_wp2
      generalize (m : Int) - 1 - (m : Int) = z5
      generalize decide ((m : Int) ≤ (m : Int) - 1) = b14
      generalize n / 256 ^ m = nz
      go_loopw [6] (fun i wr => ∃ k : Nat, k ≤ j ∧ i = .int .i64 (k : Int) ∧ OwB wr w.heap.size (.slice (some ⟨w.heap.size, 0, none⟩) m m) ((x ||| lead (k + 1)) :: t) ∧ Below w.heap.size w wr) (fun i _ => 10 - (intOf i).toNat)
      case atStart =>
        have h0 : x ||| lead (0 + 1) = x := by
          rw [show lead (0 + 1) = 0 by decide]; simp
        exact ⟨0, by omega, by simp, by rw [h0]; exact HO, HB⟩
      case round =>
        obtain ⟨i, hi, rfl, HO, HB⟩ := hrel
        by_cases hlt : i < j
        · have HBd : Below w.heap.size w wr.drew := HB.drew
          have HOd : OwB wr.drew w.heap.size (.slice (some ⟨w.heap.size, 0, none⟩) m m) ((x ||| lead (i + 1)) :: t) := HO.below (Below.refl _ _).drew
          obtain ⟨g, cap, hv, hgb, hgl, hcell, hfr, hset⟩ := HOd.set_ 0 (by simp)
          obtain ⟨rfl, rfl⟩ : w.heap.size = g ∧ m = cap := by injection hv with h1 _ h3; injection h1 with h1; injection h1 with h1; exact ⟨h1, h3⟩
          obtain ⟨HS, HG⟩ := hset (x ||| lead (i + 2))
          have hHS := hide HS
          have HX : Hid (bits .or .u8 ((x ||| lead (i + 1)).toNat : Int) ((128 : Int) / 2 ^ i) = ((x ||| lead (i + 2)).toNat : Int)) := by
            rw [shr128 i (by omega), or_u8, UInt8.or_assoc, lead_more i (by omega)]; rfl
          have hcd : wr.cell? ⟨w.heap.size, 0, none⟩ = some (.int .u8 ((x ||| lead (i + 1)).toNat : Int)) := hcell
          have hm0 : 0 < m := by omega
          have hi64 : (i : Int) ≤ 64 := by omega
          have hi8 : (i : Int) ≤ 8 := by omega
          have hcond : (i : Int) < (m : Int) - 1 := by omega
          generalize x ||| lead (i + 1) = y at *
          clear HS HG hset hv HO HOd hm
          go_wp2
          go_still_tail 8, (by kernel_rfl)
          change wpList _ _ _ _ _ wr.drew
          generalize wr.drew = wd at *
          go_wp2
          go_roundw
          case rel => exact ⟨i + 1, by omega, by go_num, by rw [HX.out]; exact hHS.out, by rw [HX.out]; exact HBd.setCell (Nat.le_refl _) _⟩
          case measure => simp [intOf]; omega
        · obtain rfl : i = j := by omega
          have hcond : ¬ (i : Int) < (m : Int) - 1 := by omega
          have hm2 := hide hm
          clear hm
          go_wp2
          go_ret
          exact ⟨_, rfl, by rw [HP.out]; have hm3 := hm2.out; rw [hm3] at HO; exact HO, HB⟩
end Go.Proofs.Ytefcepjffeiaoaa
end

section
/- The walks of Get of numbers as octets, and the reference's. -/
namespace Go.Proofs.Ytefcepjffeiaoaa
open Go.RowKit Go.Proofs.YtefcepjffeiaoaaW.PrintWords
set_option linter.unusedVariables false

def gN (b : List UInt8) : Nat := if getErr b = 0 then getNum b else 0
def gK (b : List UInt8) : Nat := if getErr b = 0 then ones8 (oct0 b) + 1 else 0
theorem or_low (a : Nat) (x : UInt8) (h : a * 256 + x.toNat < 18446744073709551616) : bits .or .u64 ((a : Int) * 256) (x.toNat : Int) = ((a * 256 + x.toNat : Nat) : Int) := by
  have hx := x.toNat_lt
  have e : (a : Int) * 256 = ((a * 256 : Nat) : Int) := by omega
  have h1 : a * 256 < 18446744073709551616 := Nat.lt_of_le_of_lt (Nat.le_add_right _ _) h
  have h2 : x.toNat < 18446744073709551616 := Nat.lt_of_lt_of_le hx (by decide)
  rw [e, u64_or_nat (a * 256) x.toNat h1 h2]
  congr 1
  have := Nat.shiftLeft_add_eq_or_of_lt (i := 8) (b := x.toNat) (by omega) a
  rw [Nat.shiftLeft_eq] at this
  exact this.symm
theorem room_pow (k i : Nat) (h1 : 1 ≤ k) (h9 : k ≤ 9) (hi : i ≤ k - 1) : room k * 256 ^ i ≤ 18446744073709551616 := by
  have h : ∀ k : Fin 10, ∀ i : Fin 10, 1 ≤ k.val → i.val ≤ k.val - 1 → room k.val * 256 ^ i.val ≤ 18446744073709551616 := by decide
  exact h ⟨k, by omega⟩ ⟨i, by omega⟩ h1 hi
theorem num8_lt (h r : Nat) (l : List UInt8) (hr : h < r) : num8 h l < r * 256 ^ l.length := by
  have hs := num8_split h l
  have h2 : (h + 1) * 256 ^ l.length ≤ r * 256 ^ l.length := Nat.mul_le_mul_right _ hr
  rw [Nat.add_mul, Nat.one_mul] at h2
  omega
theorem ones_bit (c : UInt8) (n : Nat) (hn : n < 8) (h : n ≤ ones8 c) : bits .and .u8 ((c.toNat : Int) / 2 ^ (7 - n)) 1 = if n + 1 ≤ ones8 c then 1 else 0 := by
  have hh : ∀ c : Fin 256, ∀ n : Fin 8, n.val ≤ ones8 (UInt8.ofNat c.val) → bits .and .u8 (((UInt8.ofNat c.val).toNat : Int) / 2 ^ (7 - n.val)) 1 = if n.val + 1 ≤ ones8 (UInt8.ofNat c.val) then 1 else 0 := by decide +kernel
  have := hh ⟨c.toNat, c.toNat_lt⟩ ⟨n, hn⟩
  simp only [UInt8.ofNat_toNat] at this
  exact this h
theorem ones_any (c : UInt8) (w : World) : Calls Try.prog 104 #[.int .u8 (c.toNat : Int)] w fun e w' => e = .returned (.int .i64 (ones8 c : Int)) ∧ w = w' := by
  have h8 := ones8_le c
  go_enter Try.func104, Try.ntmps104
  go_wp2
  go_loop [3] (fun i => ∃ k : Nat, k ≤ ones8 c ∧ i = .int .i64 k) (fun i => 10 - (intOf i).toNat)
  case atStart => exact ⟨0, by omega, rfl⟩
  case round =>
    obtain ⟨k, hk, rfl⟩ := hrel
    by_cases hlt : k < 8
    · have hb := ones_bit c k hlt hk
      have h7 : (7 - (k : Int)).toNat = 7 - k := by omega
      by_cases h1 : k + 1 ≤ ones8 c
      · rw [if_pos h1] at hb
        go_wp2
        go_round
        case rel => exact ⟨k + 1, h1, by go_num⟩
        case measure => simp [intOf]; omega
      · rw [if_neg h1] at hb
        have he : ones8 c = k := by omega
        rw [he]
        go_wp2
        go_ret
        exact ⟨rfl, rfl⟩
    · obtain he : ones8 c = 8 := by omega
      obtain rfl : k = 8 := by omega
      rw [he]
      go_wp2
      go_ret
      exact ⟨rfl, rfl⟩
theorem ones_not (b : UInt8) (w : World) : Calls Try.prog 109 #[.int .u8 ((~~~b).toNat : Int)] w fun e w' => e = .returned (.int .i64 (ones8 b : Int)) ∧ w = w' := by
  refine (bits_LeadingZeros8 ((~~~b).toNat : Int) w (by omega) (by have := (~~~b).toNat_lt; omega)).mono ?_
  rintro e w' ⟨rfl, rfl⟩
  refine ⟨?_, rfl⟩
  have hh : ∀ c : Fin 256, (8 - (Lib.bitLen (((~~~(UInt8.ofNat c.val)).toNat : Int)).toNat : Int)) = (ones8 (UInt8.ofNat c.val) : Int) := by decide +kernel
  have := hh ⟨b.toNat, b.toNat_lt⟩
  simp only [UInt8.ofNat_toNat] at this
  rw [this]
theorem mask_int (b : UInt8) (k : Nat) (h1 : 1 ≤ k) (h9 : k ≤ 9) : bits .and .u8 (b.toNat : Int) ((255 : Int) / 2 ^ k) = ((b &&& mask8 k).toNat : Int) := by
  have hk : ∀ j : Fin 10, ((255 : Int) / 2 ^ j.val) = ((mask8 j.val).toNat : Int) := by decide +kernel
  rw [hk ⟨k, by omega⟩, and_u8]
set_option maxRecDepth 100000 in
set_option maxHeartbeats 800000 in
theorem Get_any (A : Option Addr) (c : Nat) (b : List UInt8) (w : World) (hr : RdB w A c b) :
    Calls Try.prog 102 #[.slice A b.length c] w fun e w' => e = .returned (.tuple #[.int .u64 (gN b : Int), .int .i64 (gK b : Int), .int .i64 (getErr b : Int)]) ∧ Below w.heap.size w w' := by
  cases b with
  | nil =>
    have e1 : gN [] = 0 := by decide
    have e2 : gK [] = 0 := by decide
    rw [e1, e2, getErr_nil]
    go_enter Try.func102, Try.ntmps102
    go_wp2
    go_ret3
    exact ⟨rfl, Below.refl _ _⟩
  | cons b0 l =>
    have hk9 : ones8 b0 + 1 ≤ 9 := by have := ones8_le b0; omega
    obtain ⟨ad, rfl, hcell⟩ := hr.at_ 0 (by simp)
    have hne : ¬ (b0 :: l).length = 0 := by simp
    obtain ⟨b, hb⟩ : ∃ b, b0 :: l = b := ⟨_, rfl⟩
    have ho : oct0 b = b0 := by rw [← hb]; rfl
    have hg0 : b.getD 0 0 = b0 := by rw [← hb]; rfl
    rw [hb] at hr hcell hne ⊢
    rw [hg0] at hcell
    obtain ⟨j, hj⟩ : ∃ j, ones8 b0 = j := ⟨_, rfl⟩
    have hO := ones_not b0
    rw [hj] at hO hk9
    have hz : ad.add 0 = ad := by cases ad; simp [Addr.add]
    rw [hz] at hcell
    have hN := hide (not_u8 b0)
    have HO0 := hide ho
    clear hz ho hb hg0
    by_cases hs : b.length < j + 1
    · have e0 : getErr b = 8 := by rw [getErr, HO0.out, hj, if_pos hs]
      have e1 : gN b = 0 := by rw [gN, e0]; rfl
      have e2 : gK b = 0 := by rw [gK, e0]; rfl
      rw [e0, e1, e2]
      clear e0 e1 e2 hj
      have hsi : (b.length : Int) < 1 + (j : Int) := by omega
      go_enter Try.func102, Try.ntmps102
      go_wp2_with (first | (go_at_call 109; rw [hN.out]; refine (hO _).mono ?_; rintro e w' ⟨rfl, rfl⟩))
      go_ret3
      exact ⟨rfl, Below.refl _ _⟩
    · have hlen : ((b.take (j + 1)).drop 1).length = j := by simp; omega
      have hbk := back8 b0
      have hrj := (hr.take (j + 1) (by omega)).drop 1 (by simp; omega)
      have hgn : getNum b = num8 ((b0 &&& mask8 (j + 1)).toNat) ((b.take (j + 1)).drop 1) := by rw [getNum, HO0.out, hj]
      obtain ⟨t, ht⟩ : ∃ t, (b.take (j + 1)).drop 1 = t := ⟨_, rfl⟩
      rw [ht] at hlen hrj hgn
      rw [hj] at hbk
      have hgE : getErr b = if vsize (getNum b) = j + 1 then 0 else 4 := by rw [getErr, HO0.out, hj, if_neg hs]
      have hsz := getNum_room b (by rw [HO0.out, hj]; omega)
      rw [HO0.out, hj] at hsz
      have hM := hide (mask_int b0 (j + 1) (by omega) hk9)
      obtain ⟨h0, hh0⟩ : ∃ h0, (b0 &&& mask8 (j + 1)).toNat = h0 := ⟨_, rfl⟩
      have hroom := hbk.2
      rw [hh0] at hgn hroom
      have hh0' : h0 < 256 := by rw [← hh0]; exact UInt8.toNat_lt _
      have hM1 : bits .and .u8 (b0.toNat : Int) ((255 : Int) / 2 ^ min (1 + j) 8) = (h0 : Int) := by
        have hm : (255 : Int) / 2 ^ min (1 + j) 8 = (255 : Int) / 2 ^ (j + 1) := by
          have hd : ∀ j : Fin 9, (255 : Int) / 2 ^ min (1 + j.val) 8 = (255 : Int) / 2 ^ (j.val + 1) := by decide
          exact hd ⟨j, by omega⟩
        rw [hm, hM.out, hh0]
      have hwr : IntKind.u64.wrap (h0 : Int) = (h0 : Int) := by rw [IntKind.wrap_u64]; omega
      have hbnd : ∀ i, i ≤ j → num8 h0 (t.take i) < 18446744073709551616 := fun i hi => by
        have h1 := num8_lt h0 _ (t.take i) hroom
        have h2 := room_pow (j + 1) i (by omega) hk9 (by omega)
        have h3 : (t.take i).length = i := by simp; omega
        rw [h3] at h1
        exact Nat.lt_of_lt_of_le h1 h2
      have hK : gN b = (if vsize (getNum b) = j + 1 then getNum b else 0) ∧ gK b = (if vsize (getNum b) = j + 1 then j + 1 else 0) := by
        constructor
        · rw [gN, hgE]; by_cases h : vsize (getNum b) = j + 1 <;> simp [h]
        · rw [gK, hgE, HO0.out, hj]; by_cases h : vsize (getNum b) = j + 1 <;> simp [h]
      have hgl : getNum b < 18446744073709551616 := by have := hbnd j (Nat.le_refl _); rwa [List.take_of_length_le (by omega), ← hgn] at this
      obtain ⟨g, hg⟩ : ∃ g, getNum b = g := ⟨_, rfl⟩
      rw [hg] at hgn hsz hgl hK hgE
      have HV : Hid (vsize g = j + 1 → gN b = g ∧ gK b = j + 1 ∧ getErr b = 0) := fun h => by rw [hK.1, hK.2, hgE, if_pos h, if_pos h, if_pos h]; exact ⟨rfl, rfl, rfl⟩
      have HW : Hid (¬ vsize g = j + 1 → gN b = 0 ∧ gK b = 0 ∧ getErr b = 4) := fun h => by rw [hK.1, hK.2, hgE, if_neg h, if_neg h, if_neg h]; exact ⟨rfl, rfl, rfl⟩
      generalize gN b = N0 at *
      generalize gK b = K0 at *
      generalize getErr b = E0 at *
      have hsl : ∀ W, (Instr.slice 23 (.slice (some ad) b.length c) (some (.int .i64 1)) (some (.int .i64 (1 + (j : Int)))) none).run Try.prog W = .ok (.slice (cutA (some ad) c 1) j (c - 1)) W := fun W => by
        have h := slice_lohi 23 5 Try.underlying23 (i := _) rfl rfl (some ad) b.length c 1 (j + 1) (by omega) (by have := hr.le; omega) W
        rw [show ((j + 1 : Nat) : Int) = 1 + (j : Int) by omega, Nat.add_sub_cancel] at h
        exact h
      have hsi : ¬ (b.length : Int) < 1 + (j : Int) := by omega
      have hj9 : (j : Int) ≤ 8 := by omega
      have hj64 : 1 + (j : Int) ≤ 64 := by omega
      have hj10 : 0 ≤ 1 + (j : Int) := by omega
      have hpos : 0 < b.length := by omega
      have hjt : (1 + (j : Int)).toNat = 1 + j := by omega
      have HGN := hide hgn
      have HLEN := hide hlen
      have hS := Size_any g hgl
      generalize cutA (some ad) c 1 = C at *
      clear hK hgE hgn hh0 hM hbk hj ht hlen HO0 hg
      go_enter Try.func102, Try.ntmps102
      go_wp2_with (first | (go_at_call 109; rw [hN.out]; refine (hO _).mono ?_; rintro e w' ⟨rfl, rfl⟩))
      refine wp_region_still_lit (by kernel_rfl) (by kernel_rfl) ?_
      repeat still_step
      refine wpStill_nil ?_
      change Exit.then _ _ _ _ w.drew
      have hrj2 : RdB w.drew C (c - 1) t := hrj.below (Below.refl _ _).drew
      go_wp2
      have HBd : Below w.heap.size w w.drew := (Below.refl _ _).drew
      generalize w.drew = wd at *
      generalize decide ((b.length : Int) < 1 + (j : Int)) = b21
      generalize (255 : Int) / 2 ^ min (1 + j) 8 = x26
      go_loop [6, 33] (fun n i => ∃ k : Nat, k ≤ j ∧ i = .int .i64 (k : Int) ∧ n = .int .u64 ((num8 h0 (t.take k) : Nat) : Int)) (fun _ i => j - (intOf i).toNat)
      case atStart => exact ⟨0, by omega, rfl, rfl⟩
      case round =>
        obtain ⟨k, hk, rfl, rfl⟩ := hrel
        by_cases hlt : k < j
        · obtain ⟨ad2, rfl, hc2⟩ := hrj2.at_ k (by rw [HLEN.out]; exact hlt)
          have hb1 := hbnd (k + 1) (by omega)
          have hstep : num8 h0 (t.take (k + 1)) = num8 h0 (t.take k) * 256 + (t.getD k 0).toNat := by
            have hlk : k < t.length := by rw [HLEN.out]; exact hlt
            rw [List.take_succ_eq_append_getElem hlk, num8_append]
            simp [num8, List.getD_eq_getElem?_getD, List.getElem?_eq_getElem hlk]
          rw [hstep] at hb1
          have HST := hide hstep
          obtain ⟨x, hx⟩ : ∃ x, t.getD k 0 = x := ⟨_, rfl⟩
          obtain ⟨n, hn⟩ : ∃ n, num8 h0 (t.take k) = n := ⟨_, rfl⟩
          rw [hn] at hb1 HST ⊢
          rw [hx] at hb1 hc2 HST
          have HOR := hide (or_low n x hb1)
          clear hstep hx hn
          go_wp2
          go_round
          case rel => exact ⟨k + 1, by omega, by go_num, by rw [HOR.out, HST.out]⟩
          case measure => simp [intOf]; omega
        · obtain rfl : k = j := by omega
          have hfin : num8 h0 (t.take k) = g := by rw [HGN.out, List.take_of_length_le (by rw [HLEN.out]; omega)]
          rw [hfin]
          clear hfin HGN HLEN hsl hbnd
          by_cases hv : vsize g = k + 1
          · have hvi : (vsize g : Int) = 1 + (k : Int) := by omega
            obtain ⟨rfl, rfl, rfl⟩ := HV.out hv
            clear hv hsz
            go_wp2_with (first | (go_at_call 68; refine (hS _).mono ?_; rintro e w' ⟨rfl, rfl⟩))
            go_ret3
            exact ⟨by simp; omega, HBd⟩
          · have hvi : ¬ (vsize g : Int) = 1 + (k : Int) := by omega
            obtain ⟨rfl, rfl, rfl⟩ := HW.out hv
            clear hv hsz
            go_wp2_with (first | (go_at_call 68; refine (hS _).mono ?_; rintro e w' ⟨rfl, rfl⟩))
            go_ret3
            exact ⟨rfl, HBd⟩
end Go.Proofs.Ytefcepjffeiaoaa
end

section
/- The walk of the reference's Get of numbers as octets. -/
namespace Go.Proofs.Ytefcepjffeiaoaa
open Go.RowKit Go.Proofs.YtefcepjffeiaoaaW.PrintWords
set_option linter.unusedVariables false

theorem mask_low (b0 : UInt8) (j : Nat) (h7 : j < 7) : bits .and .u64 (b0.toNat : Int) (2 ^ (7 - j) - 1) = ((b0 &&& mask8 (j + 1)).toNat : Int) := by
  have hd : ∀ j : Fin 7, ∀ c : Fin 256, bits .and .u64 ((UInt8.ofNat c.val).toNat : Int) (2 ^ (7 - j.val) - 1) = (((UInt8.ofNat c.val) &&& mask8 (j.val + 1)).toNat : Int) := by decide +kernel
  have := hd ⟨j, h7⟩ ⟨b0.toNat, b0.toNat_lt⟩
  simp only [UInt8.ofNat_toNat] at this
  exact this
theorem mask_none (b0 : UInt8) (j : Nat) (h7 : ¬ j < 7) (h9 : j + 1 ≤ 9) : (b0 &&& mask8 (j + 1)).toNat = 0 := by
  have hd : ∀ c : Fin 256, ((UInt8.ofNat c.val) &&& mask8 8).toNat = 0 ∧ ((UInt8.ofNat c.val) &&& mask8 9).toNat = 0 := by decide +kernel
  have := hd ⟨b0.toNat, b0.toNat_lt⟩
  simp only [UInt8.ofNat_toNat] at this
  have hj2 : j = 7 ∨ j = 8 := by omega
  rcases hj2 with rfl | rfl
  · exact this.1
  · exact this.2
set_option maxRecDepth 100000 in
set_option maxHeartbeats 800000 in
theorem rGet_any (A : Option Addr) (c : Nat) (b : List UInt8) (w : World) (hr : RdB w A c b) :
    Calls Try.prog 87 #[.slice A b.length c] w fun e w' => e = .returned (.tuple #[.int .u64 (gN b : Int), .int .i64 (gK b : Int), .int .i64 (getErr b : Int)]) ∧ Below w.heap.size w w' := by
  cases b with
  | nil =>
    have e1 : gN [] = 0 := by decide
    have e2 : gK [] = 0 := by decide
    rw [e1, e2, getErr_nil]
    go_enter Try.func87, Try.ntmps87
    go_wp2
    go_ret3
    exact ⟨rfl, Below.refl _ _⟩
  | cons b0 l =>
    have hk9 : ones8 b0 + 1 ≤ 9 := by have := ones8_le b0; omega
    obtain ⟨ad, rfl, hcell⟩ := hr.at_ 0 (by simp)
    have hne : ¬ (b0 :: l).length = 0 := by simp
    obtain ⟨b, hb⟩ : ∃ b, b0 :: l = b := ⟨_, rfl⟩
    have ho : oct0 b = b0 := by rw [← hb]; rfl
    have hg0 : b.getD 0 0 = b0 := by rw [← hb]; rfl
    rw [hb] at hr hcell hne ⊢
    rw [hg0] at hcell
    obtain ⟨j, hj⟩ : ∃ j, ones8 b0 = j := ⟨_, rfl⟩
    have hO := ones_any b0
    rw [hj] at hO hk9
    have hz : ad.add 0 = ad := by cases ad; simp [Addr.add]
    rw [hz] at hcell
    have HO0 := hide ho
    clear hz ho hb hg0
    by_cases hs : b.length < j + 1
    · have e0 : getErr b = 8 := by rw [getErr, HO0.out, hj, if_pos hs]
      have e1 : gN b = 0 := by rw [gN, e0]; rfl
      have e2 : gK b = 0 := by rw [gK, e0]; rfl
      rw [e0, e1, e2]
      clear e0 e1 e2 hj
      have hsi : (b.length : Int) < (j : Int) + 1 := by omega
      go_enter Try.func87, Try.ntmps87
      go_wp2_with (first | (go_at_call 104; refine (hO _).mono ?_; rintro e w' ⟨rfl, rfl⟩))
      go_ret3
      exact ⟨rfl, Below.refl _ _⟩
    · have hlen : ((b.take (j + 1)).drop 1).length = j := by simp; omega
      have hbk := back8 b0
      have hgn : getNum b = num8 ((b0 &&& mask8 (j + 1)).toNat) ((b.take (j + 1)).drop 1) := by rw [getNum, HO0.out, hj]
      obtain ⟨t, ht⟩ : ∃ t, (b.take (j + 1)).drop 1 = t := ⟨_, rfl⟩
      rw [ht] at hlen hgn
      rw [hj] at hbk
      have hgE : getErr b = if vsize (getNum b) = j + 1 then 0 else 4 := by rw [getErr, HO0.out, hj, if_neg hs]
      have hsz := getNum_room b (by rw [HO0.out, hj]; omega)
      rw [HO0.out, hj] at hsz
      have hM7 := mask_low b0 j
      have hM8 := mask_none b0 j
      obtain ⟨h0, hh0⟩ : ∃ h0, (b0 &&& mask8 (j + 1)).toNat = h0 := ⟨_, rfl⟩
      have hroom := hbk.2
      rw [hh0] at hgn hroom hM7 hM8
      have hh0' : h0 < 256 := by rw [← hh0]; exact UInt8.toNat_lt _
      have hbnd : ∀ i, i ≤ j → num8 h0 (t.take i) < 18446744073709551616 := fun i hi => by
        have h1 := num8_lt h0 _ (t.take i) hroom
        have h2 := room_pow (j + 1) i (by omega) hk9 (by omega)
        have h3 : (t.take i).length = i := by simp; omega
        rw [h3] at h1
        exact Nat.lt_of_lt_of_le h1 h2
      have hK : gN b = (if vsize (getNum b) = j + 1 then getNum b else 0) ∧ gK b = (if vsize (getNum b) = j + 1 then j + 1 else 0) := by
        constructor
        · rw [gN, hgE]; by_cases h : vsize (getNum b) = j + 1 <;> simp [h]
        · rw [gK, hgE, HO0.out, hj]; by_cases h : vsize (getNum b) = j + 1 <;> simp [h]
      have hgl : getNum b < 18446744073709551616 := by have := hbnd j (Nat.le_refl _); rwa [List.take_of_length_le (by omega), ← hgn] at this
      have hread : ∀ k, k < j → b.getD (k + 1) 0 = t.getD k 0 := fun k hkj => by
        rw [← ht]
        rw [List.getD_eq_getElem?_getD, List.getD_eq_getElem?_getD, List.getElem?_drop, List.getElem?_take_of_lt (by omega), Nat.add_comm 1 k]
      have hbl : j + 1 ≤ b.length := by omega
      obtain ⟨g, hg⟩ : ∃ g, getNum b = g := ⟨_, rfl⟩
      rw [hg] at hgn hsz hgl hK hgE
      have HV : Hid (vsize g = j + 1 → gN b = g ∧ gK b = j + 1 ∧ getErr b = 0) := fun h => by rw [hK.1, hK.2, hgE, if_pos h, if_pos h, if_pos h]; exact ⟨rfl, rfl, rfl⟩
      have HW : Hid (¬ vsize g = j + 1 → gN b = 0 ∧ gK b = 0 ∧ getErr b = 4) := fun h => by rw [hK.1, hK.2, hgE, if_neg h, if_neg h, if_neg h]; exact ⟨rfl, rfl, rfl⟩
      generalize gN b = N0 at *
      generalize gK b = K0 at *
      generalize getErr b = E0 at *
      have hsi : ¬ (b.length : Int) < (j : Int) + 1 := by omega
      have hj9 : (j : Int) ≤ 8 := by omega
      have hpos : 0 < b.length := by omega
      have HGN := hide hgn
      have HLEN := hide hlen
      have hS := rSize_any g hgl
      clear hK hgE hgn hh0 hbk hj ht hlen HO0 hg
      by_cases h7 : j < 7
      · have hM := hM7 h7
        have hci : (j : Int) + 1 < 8 := by omega
        have hwr : IntKind.u64.wrap (b0.toNat : Int) = (b0.toNat : Int) := by have := b0.toNat_lt; rw [IntKind.wrap_u64]; omega
        obtain ⟨q, hq⟩ : ∃ q, 7 - j = q := ⟨_, rfl⟩
        rw [hq] at hM
        have hw1 : IntKind.i64.wrap (8 - ((j : Int) + 1)) = (q : Int) := by rw [IntKind.wrap_i64]; omega
        have hw2 : IntKind.u64.wrap (2 ^ q) = 2 ^ q ∧ IntKind.u64.wrap ((2 : Int) ^ q - 1) = 2 ^ q - 1 := by
          have hd : ∀ q : Fin 8, IntKind.u64.wrap (2 ^ q.val) = 2 ^ q.val ∧ IntKind.u64.wrap ((2 : Int) ^ q.val - 1) = 2 ^ q.val - 1 := by decide
          exact hd ⟨q, by omega⟩
        obtain ⟨hw2, hw3⟩ := hw2
        have hq64 : (q : Int) ≤ 64 := by omega
        clear hM7 hM8 hq
        go_enter Try.func87, Try.ntmps87
        go_wp2_with (first | (go_at_call 104; refine (hO _).mono ?_; rintro e w' ⟨rfl, rfl⟩))
        refine wp_region_still_lit (by kernel_rfl) (by kernel_rfl) ?_
        repeat still_step
        refine wpStill_nil ?_
        change Exit.then _ _ _ _ w.drew
        have hrd : RdB w.drew (some ad) c b := hr.below (Below.refl _ _).drew
        have HBd : Below w.heap.size w w.drew := (Below.refl _ _).drew
        generalize w.drew = wd at *
        go_wp2
        generalize decide ((b.length : Int) < (j : Int) + 1) = b21
        go_loop [6, 7] (fun n i => ∃ x : Nat, 1 ≤ x ∧ x ≤ j + 1 ∧ i = .int .i64 (x : Int) ∧ n = .int .u64 ((num8 h0 (t.take (x - 1)) : Nat) : Int)) (fun _ i => j + 1 - (intOf i).toNat)
        case atStart => exact ⟨1, by omega, by omega, rfl, rfl⟩
        case round =>
          obtain ⟨i, hi1, hij, rfl, rfl⟩ := hrel
          obtain ⟨k, hki⟩ : ∃ k, k + 1 = i := ⟨i - 1, by omega⟩
          rw [show i - 1 = k by omega]
          by_cases hlt : k < j
          · have hrk := hread k hlt
            rw [hki] at hrk
            obtain ⟨ad2, hadd, hc2⟩ := hrd.at_ i (by omega)
            injection hadd with hadd
            subst hadd
            rw [hrk] at hc2
            have hcj : (i : Int) < (j : Int) + 1 := by omega
            have hkb : (i : Int) < (b.length : Int) := by omega
            have hkb2 : i < b.length := by omega
            have hb1 := hbnd (k + 1) (by omega)
            have hstep : num8 h0 (t.take (k + 1)) = num8 h0 (t.take k) * 256 + (t.getD k 0).toNat := by
              have hlk : k < t.length := by rw [HLEN.out]; exact hlt
              rw [List.take_succ_eq_append_getElem hlk, num8_append]
              simp [num8, List.getD_eq_getElem?_getD, List.getElem?_eq_getElem hlk]
            rw [hstep] at hb1
            have HST := hide hstep
            obtain ⟨x, hx⟩ : ∃ x, t.getD k 0 = x := ⟨_, rfl⟩
            obtain ⟨n, hn⟩ : ∃ n, num8 h0 (t.take k) = n := ⟨_, rfl⟩
            rw [hn] at hb1 HST ⊢
            rw [hx] at hb1 hc2 HST
            have HOR := hide (or_low n x hb1)
            have HKI := hide hki
            clear hstep hx hn hread hbnd hki hrk
            go_wp2
            go_round
            case rel => exact ⟨i + 1, by omega, by omega, by go_num, by rw [HOR.out, ← HST.out, Nat.add_sub_cancel, HKI.out]⟩
            case measure => simp [intOf]; omega
          · have hcj : ¬ (i : Int) < (j : Int) + 1 := by omega
            obtain rfl : k = j := by omega
            subst hki
            have hfin : num8 h0 (t.take k) = g := by rw [HGN.out, List.take_of_length_le (by rw [HLEN.out]; omega)]
            rw [hfin]
            clear hfin HGN HLEN hbnd hread
            by_cases hv : vsize g = k + 1
            · have hvi : ¬ (vsize g : Int) < (k : Int) + 1 := by omega
              obtain ⟨rfl, rfl, rfl⟩ := HV.out hv
              clear hv hsz
              go_wp2_with (first | (go_at_call 78; refine (hS _).mono ?_; rintro e w' ⟨rfl, rfl⟩))
              go_ret3
              exact ⟨by simp, HBd⟩
            · have hvi : (vsize g : Int) < (k : Int) + 1 := by omega
              obtain ⟨rfl, rfl, rfl⟩ := HW.out hv
              clear hv hsz
              go_wp2_with (first | (go_at_call 78; refine (hS _).mono ?_; rintro e w' ⟨rfl, rfl⟩))
              go_ret3
              exact ⟨rfl, HBd⟩
      · have hM := hM8 h7 hk9
        subst hM
        have hci : ¬ (j : Int) + 1 < 8 := by omega
        clear hM7 hM8
        go_enter Try.func87, Try.ntmps87
        go_wp2_with (first | (go_at_call 104; refine (hO _).mono ?_; rintro e w' ⟨rfl, rfl⟩))
        have hrd := hr
        have HBd : Below w.heap.size w w := Below.refl _ _
        generalize decide ((b.length : Int) < (j : Int) + 1) = b21
        go_loop [6, 7] (fun n i => ∃ x : Nat, 1 ≤ x ∧ x ≤ j + 1 ∧ i = .int .i64 (x : Int) ∧ n = .int .u64 ((num8 0 (t.take (x - 1)) : Nat) : Int)) (fun _ i => j + 1 - (intOf i).toNat)
        case atStart => exact ⟨1, by omega, by omega, rfl, rfl⟩
        case round =>
          obtain ⟨i, hi1, hij, rfl, rfl⟩ := hrel
          obtain ⟨k, hki⟩ : ∃ k, k + 1 = i := ⟨i - 1, by omega⟩
          rw [show i - 1 = k by omega]
          by_cases hlt : k < j
          · have hrk := hread k hlt
            rw [hki] at hrk
            obtain ⟨ad2, hadd, hc2⟩ := hrd.at_ i (by omega)
            injection hadd with hadd
            subst hadd
            rw [hrk] at hc2
            have hcj : (i : Int) < (j : Int) + 1 := by omega
            have hkb : (i : Int) < (b.length : Int) := by omega
            have hkb2 : i < b.length := by omega
            have hb1 := hbnd (k + 1) (by omega)
            have hstep : num8 0 (t.take (k + 1)) = num8 0 (t.take k) * 256 + (t.getD k 0).toNat := by
              have hlk : k < t.length := by rw [HLEN.out]; exact hlt
              rw [List.take_succ_eq_append_getElem hlk, num8_append]
              simp [num8, List.getD_eq_getElem?_getD, List.getElem?_eq_getElem hlk]
            rw [hstep] at hb1
            have HST := hide hstep
            obtain ⟨x, hx⟩ : ∃ x, t.getD k 0 = x := ⟨_, rfl⟩
            obtain ⟨n, hn⟩ : ∃ n, num8 0 (t.take k) = n := ⟨_, rfl⟩
            rw [hn] at hb1 HST ⊢
            rw [hx] at hb1 hc2 HST
            have HOR := hide (or_low n x hb1)
            have HKI := hide hki
            clear hstep hx hn hread hbnd hki hrk
            go_wp2
            go_round
            case rel => exact ⟨i + 1, by omega, by omega, by go_num, by rw [HOR.out, ← HST.out, Nat.add_sub_cancel, HKI.out]⟩
            case measure => simp [intOf]; omega
          · have hcj : ¬ (i : Int) < (j : Int) + 1 := by omega
            obtain rfl : k = j := by omega
            subst hki
            have hfin : num8 0 (t.take k) = g := by rw [HGN.out, List.take_of_length_le (by rw [HLEN.out]; omega)]
            rw [hfin]
            clear hfin HGN HLEN hbnd hread
            by_cases hv : vsize g = k + 1
            · have hvi : ¬ (vsize g : Int) < (k : Int) + 1 := by omega
              obtain ⟨rfl, rfl, rfl⟩ := HV.out hv
              clear hv hsz
              go_wp2_with (first | (go_at_call 78; refine (hS _).mono ?_; rintro e w' ⟨rfl, rfl⟩))
              go_ret3
              exact ⟨by simp, HBd⟩
            · have hvi : (vsize g : Int) < (k : Int) + 1 := by omega
              obtain ⟨rfl, rfl, rfl⟩ := HW.out hv
              clear hv hsz
              go_wp2_with (first | (go_at_call 78; refine (hS _).mono ?_; rintro e w' ⟨rfl, rfl⟩))
              go_ret3
              exact ⟨rfl, HBd⟩
end Go.Proofs.Ytefcepjffeiaoaa
end

section
/- Frame: records as octets, plainly. -/
namespace Go.Proofs.Ytefcepjffeiaoaa
set_option linter.unusedVariables false

def putFE (K : Int) (n : Nat) : Int := if K < 0 ∨ 255 < K then 22 else if 65536 < n then 5 else 0
def bodyF (K : Int) (d : List UInt8) : List UInt8 := put d.length ++ UInt8.ofNat K.toNat :: d
def putFX (K : Int) (d : List UInt8) : List UInt8 := if putFE K d.length = 0 then guarded (bodyF K d) else []
theorem putFE_ok (K : Int) (n : Nat) (h : putFE K n = 0) : 0 ≤ K ∧ K ≤ 255 ∧ n ≤ 65536 := by
  unfold putFE at h
  split at h
  · omega
  · split at h <;> omega
theorem bodyF_length (K : Int) (d : List UInt8) : (bodyF K d).length = vsize d.length + 1 + d.length := by
  rw [bodyF, List.length_append, put_length, List.length_cons]; omega
def fgE (b : List UInt8) : Int := if getErr b ≠ 0 then (getErr b : Int) else if 65536 < gN b then 5 else if b.length < gK b + 1 + gN b + 4 then 8 else bareNum (b.take (gK b + 1 + gN b + 4))
def fgS (b : List UInt8) : Nat := if fgE b = 0 then gK b + 1 + gN b + 4 else 0
def fgK (b : List UInt8) : Int := if fgE b = 0 then ((b.getD (gK b) 0).toNat : Int) else 0
def fgX (b : List UInt8) : List UInt8 := if fgE b = 0 then (b.take (gK b + 1 + gN b)).drop (gK b + 1) else []
theorem get_put2 (n : Nat) (hn : n < 18446744073709551616) (r : List UInt8) : getErr (put n ++ r) = 0 ∧ gN (put n ++ r) = n ∧ gK (put n ++ r) = vsize n := by
  obtain ⟨h1, h2, h3⟩ := get_put n hn r
  exact ⟨h1, by rw [gN, if_pos h1, h2], by rw [gK, if_pos h1, h3]⟩
/-- a record that is read back -/
theorem get_frame (K : Int) (d more : List UInt8) (h : putFE K d.length = 0) : fgE (putFX K d ++ more) = 0 ∧ fgK (putFX K d ++ more) = K ∧ fgX (putFX K d ++ more) = d ∧ fgS (putFX K d ++ more) = (putFX K d).length := by
  obtain ⟨h1, h2, h3⟩ := putFE_ok K d.length h
  have e : putFX K d = guarded (bodyF K d) := by rw [putFX, if_pos h]
  have hlen : (guarded (bodyF K d)).length = vsize d.length + 1 + d.length + 4 := by rw [guarded_length, bodyF_length]
  rw [e]
  have hsplit : guarded (bodyF K d) ++ more = put d.length ++ (UInt8.ofNat K.toNat :: d ++ four (crc ones (bodyF K d)) ++ more) := by
    rw [guarded, bodyF]; simp
  obtain ⟨g1, g2, g3⟩ := get_put2 d.length (by omega) (UInt8.ofNat K.toNat :: d ++ four (crc ones (bodyF K d)) ++ more)
  rw [← hsplit] at g1 g2 g3
  have htake : (guarded (bodyF K d) ++ more).take (vsize d.length + 1 + d.length + 4) = guarded (bodyF K d) := by rw [← hlen, List.take_left]
  have hE : fgE (guarded (bodyF K d) ++ more) = 0 := by
    rw [fgE, if_neg (fun h => h g1), g2, g3, if_neg (by omega), if_neg (by rw [List.length_append, hlen]; omega), htake, bareNum_guarded]
  refine ⟨hE, ?_, ?_, ?_⟩
  · rw [fgK, if_pos hE, g3, hsplit, List.getD_eq_getElem?_getD, List.getElem?_append_right (by rw [put_length]; omega), put_length]
    simp
    omega
  · rw [fgX, if_pos hE, g2, g3, hsplit, ← put_length, List.append_assoc, List.cons_append]
    have e2 : put d.length ++ UInt8.ofNat K.toNat :: (d ++ (four (crc ones (bodyF K d)) ++ more)) = (put d.length ++ UInt8.ofNat K.toNat :: d) ++ (four (crc ones (bodyF K d)) ++ more) := by simp
    rw [e2]
    have hl2 : (put d.length ++ UInt8.ofNat K.toNat :: d).length = (put d.length).length + 1 + d.length := by simp; omega
    rw [← hl2, List.take_left]
    have e3 : put d.length ++ UInt8.ofNat K.toNat :: d = (put d.length ++ [UInt8.ofNat K.toNat]) ++ d := by simp
    rw [e3]
    have hl3 : (put d.length ++ [UInt8.ofNat K.toNat]).length = (put d.length).length + 1 := by simp
    rw [← hl3, List.drop_left]
  · rw [fgS, if_pos hE, g2, g3, hlen]
end Go.Proofs.Ytefcepjffeiaoaa
end

section
/- Frame: octets scanned, plainly. -/
namespace Go.Proofs.Ytefcepjffeiaoaa
set_option linter.unusedVariables false

def pos (b : List UInt8) : Nat → Nat
  | 0 => 0
  | k + 1 => pos b k + fgS (b.drop (pos b k))
end Go.Proofs.Ytefcepjffeiaoaa
end

section
/- Frame: records one behind the other, scanned; and cut off, plainly. -/
namespace Go.Proofs.Ytefcepjffeiaoaa
set_option linter.unusedVariables false

end Go.Proofs.Ytefcepjffeiaoaa
end

section
/- Wal: batches as octets, plainly. -/
namespace Go.Proofs.Ytefcepjffeiaoaa
set_option linter.unusedVariables false

def bl (s : ByteArray) : List UInt8 := s.data.toList
theorem bl_length (s : ByteArray) : (bl s).length = s.size := by rw [bl, Array.length_toList]; rfl
theorem bl_inj {s t : ByteArray} (h : bl s = bl t) : s = t := by
  apply ByteArray.ext
  apply Array.ext'
  exact h
theorem bl_mk (l : List UInt8) : bl ⟨l.toArray⟩ = l := by simp [bl]
end Go.Proofs.Ytefcepjffeiaoaa
end

section
/- Wal: octets as a batch, plainly: what is read, what is left; or an error. -/
namespace Go.Proofs.Ytefcepjffeiaoaa
set_option linter.unusedVariables false

abbrev Rdr (α : Type) := Except Int (α × List UInt8)
def rdNum (most : Nat) (code : Int) (b : List UInt8) : Rdr Nat := if getErr b ≠ 0 then .error (getErr b : Int) else if most < gN b then .error code else .ok (gN b, b.drop (gK b))
def rdTake (n : Nat) (b : List UInt8) : Rdr (List UInt8) := if b.length < n then .error 8 else .ok (b.take n, b.drop n)
theorem rdNum_err (most : Nat) (code : Int) (b : List UInt8) (e : Int) (h : rdNum most code b = .error e) : (e = getErr b ∧ getErr b ≠ 0) ∨ (getErr b = 0 ∧ most < gN b ∧ e = code) := by
  unfold rdNum at h
  split at h
  · next h1 => injection h with h; exact .inl ⟨h.symm, h1⟩
  · next h1 =>
    split at h
    · next h2 => injection h with h; exact .inr ⟨by simpa using h1, h2, h.symm⟩
    · cases h
theorem rdNum_ok (most : Nat) (code : Int) (b : List UInt8) (n : Nat) (r : List UInt8) (h : rdNum most code b = .ok (n, r)) : getErr b = 0 ∧ gN b ≤ most ∧ n = gN b ∧ r = b.drop (gK b) := by
  unfold rdNum at h
  split at h
  · cases h
  · next h1 =>
    split at h
    · cases h
    · next h2 =>
      injection h with h
      injection h with h3 h4
      exact ⟨by simpa using h1, by omega, h3.symm, h4.symm⟩
theorem gK_le (b : List UInt8) (h : getErr b = 0) : gK b ≤ b.length ∧ 1 ≤ gK b ∧ put (gN b) ++ b.drop (gK b) = b := by
  obtain ⟨p1, p2, p3⟩ := put_get b h
  have e1 : gK b = ones8 (oct0 b) + 1 := by rw [gK, if_pos h]
  have e2 : gN b = getNum b := by rw [gN, if_pos h]
  rw [e1, e2, p1, List.take_append_drop]
  exact ⟨p2, by omega, rfl⟩
theorem rdNum_ne (most : Nat) (code : Int) (hc : code ≠ 0) (b : List UInt8) (e : Int) (h : rdNum most code b = .error e) : e ≠ 0 := by
  rcases rdNum_err most code b e h with ⟨rfl, h1⟩ | ⟨_, _, rfl⟩
  · omega
  · exact hc
/-- what was written is read -/
theorem rdNum_put (most n : Nat) (code : Int) (h : n ≤ most) (hn : n < 18446744073709551616) (r : List UInt8) : rdNum most code (put n ++ r) = .ok (n, r) := by
  obtain ⟨g1, g2, g3⟩ := get_put2 n hn r
  rw [rdNum, if_neg (by rw [g1]; simp), g2, if_neg (by omega), g3, ← put_length, List.drop_left]
end Go.Proofs.Ytefcepjffeiaoaa
end

section
/- A text's octets appended; worlds that grew, one behind the other. -/
namespace Go.Proofs.Ytefcepjffeiaoaa
open Go.RowKit Go.Proofs.YtefcepjffeiaoaaW.PrintWords
set_option linter.unusedVariables false

theorem nums_eu8 (xs : List UInt8) : nums .u8 (xs.map fun b => (b.toNat : Int)) = encs eu8 xs := by
  simp only [nums, encs, List.map_map]
  rfl
theorem bytesOf_bl (s : ByteArray) : bytesOf s = (bl s).map fun b => (b.toNat : Int) := rfl
section
variable {ops : Array Oper} {rest : List Oper} {o : Oper} {a : Act} {Q : Exit → Act → World → Prop}
theorem app_str {w0 W : World} (base : Nat) (hgd : o.guard = none) (s x : Operand)
    (ho : o.op = .call { callee := .builtin .append, args := #[s, x], argTypes := #[23, 9] })
    (v : Value) (xs : List UInt8) (y : ByteArray) (hs : a.eval s = v) (hx : a.eval x = .string y)
    (HO : OwB W base v xs) (HB : Below base w0 W) (hbase : base ≤ W.heap.size) (hl : xs.length + y.size ≤ 140737488355328)
    (h : ∀ v1 w1, OwB w1 base v1 (xs ++ bl y) → Below base w0 w1 → W.grownBy w1 v.ownBlock → wpList Try.prog ops Q rest (a.put o.dst v1) w1) :
    wpList Try.prog ops Q (o :: rest) a W := by
  refine print_append_str (w0 := w0) base hgd s x 23 9 5 ho Try.underlying23 Try.underlying9 info_u8 v (xs.map fun b => (b.toNat : Int)) y hs hx ?_ HB hbase (by rw [List.length_map]; exact hl) ?_
  · rw [nums_eu8, List.length_map]
    exact HO
  · intro v1 w1 h1 h2 h3
    refine h v1 w1 ?_ h2 h3
    rw [bytesOf_bl, ← List.map_append, nums_eu8, List.length_map] at h1
    exact h1
end
end Go.Proofs.Ytefcepjffeiaoaa
end

section
/- Block: versions as octets, plainly. -/
namespace Go.Proofs.Ytefcepjffeiaoaa
set_option linter.unusedVariables false

def mayE (x : Ent) : Prop := 1 ≤ x.1.size ∧ x.1.size ≤ 96 ∧ 1 ≤ x.2.1 ∧ x.2.1 ≤ 1099511627776 ∧ (x.2.2.1 = 1 ∨ x.2.2.1 = 2) ∧ x.2.2.2.size ≤ 512 ∧ (x.2.2.1 = 1 ∨ x.2.2.2.size = 0)
instance (x : Ent) : Decidable (mayE x) := by unfold mayE; infer_instance
def befE (x y : Ent) : Prop := bl x.1 < bl y.1 ∨ (bl x.1 = bl y.1 ∧ y.2.1 < x.2.1)
instance (x y : Ent) : Decidable (befE x y) := by unfold befE; infer_instance
/-- may versions be, in order? from a place on -/
def ordL : List Ent → Nat → Nat → Int
  | l, 0, i => 0
  | l, f + 1, i => if ¬ mayE (l.getD i zEnt) then 1 else if 0 < i ∧ ¬ befE (l.getD (i - 1) zEnt) (l.getD i zEnt) then 81 else ordL l f (i + 1)
def ordE (l : List Ent) : Int := ordL l l.length 0
def chkE (l : List Ent) : Int := if l.length < 1 ∨ 64 < l.length then 3 else ordE l
/-- how much two texts have in common at their beginning -/
def comm : List UInt8 → List UInt8 → Nat
  | x :: a, y :: b => if x = y then comm a b + 1 else 0
  | _, _ => 0
/-- how much of the key ahead stays -/
def keepE (l : List Ent) (k : Nat) : Nat := if k % 4 = 0 then 0 else comm (bl (l.getD (k - 1) zEnt).1) (bl (l.getD k zEnt).1)
/-- a version's octets -/
def entB (n : Nat) (x : Ent) : List UInt8 := put n ++ put (x.1.size - n) ++ put x.2.1.toNat ++ put x.2.2.2.size ++ [UInt8.ofNat x.2.2.1.toNat] ++ (bl x.1).drop n ++ bl x.2.2.2
def entsB (l : List Ent) : Nat → List UInt8
  | 0 => []
  | k + 1 => entsB l k ++ entB (keepE l k) (l.getD k zEnt)
def tailB (l : List Ent) : Nat → List UInt8
  | 0 => []
  | k + 1 => if k % 4 = 0 then tailB l k ++ [UInt8.ofNat ((entsB l k).length / 256), UInt8.ofNat (entsB l k).length] else tailB l k
def blkB (l : List Ent) : List UInt8 := entsB l l.length ++ tailB l l.length ++ [UInt8.ofNat ((tailB l l.length).length / 2)]
def blkX (l : List Ent) : List UInt8 := if chkE l = 0 then guarded (blkB l) else []
/-- a version out of octets, behind a key -/
def rdEnt (key : List UInt8) (b : List UInt8) : Rdr Ent := match rdNum 65536 21 b with
  | .error e => .error e
  | .ok (n, r1) => match rdNum 65536 21 r1 with
    | .error e => .error e
    | .ok (k, r2) => match rdNum 1099511627776 21 r2 with
      | .error e => .error e
      | .ok (q, r3) => match rdNum 65536 21 r3 with
        | .error e => .error e
        | .ok (v, r4) => match rdTake 1 r4 with
          | .error e => .error e
          | .ok (kd, r5) => match rdTake k r5 with
            | .error e => .error e
            | .ok (rest, r6) => match rdTake v r6 with
              | .error e => .error e
              | .ok (val, r7) => if key.length < n then .error 21 else .ok ((⟨(key.take n ++ rest).toArray⟩, (q : Int), ((kd.getD 0 0).toNat : Int), ⟨val.toArray⟩), r7)
/-- so many at most -/
def rdEs : Nat → List UInt8 → List UInt8 → Option (List Ent)
  | 0, _, _ => some []
  | f + 1, key, b => if b = [] then some [] else match rdEnt key b with
    | .error _ => none
    | .ok (x, r) => (rdEs f (bl x.1) r).map (x :: ·)
def toldE (b : List UInt8) : List Ent := if b.length < 1 then [] else if b.length - 1 < 2 * (b.getD (b.length - 1) 0).toNat then [] else (rdEs 65 [] (b.take (b.length - 1 - 2 * (b.getD (b.length - 1) 0).toNat))).getD []
/-- octets as versions: the error, the versions -/
def unE (b : List UInt8) : Int := if bareNum b ≠ 0 then bareNum b else if chkE (toldE (bare b)) = 0 ∧ blkX (toldE (bare b)) = b then 0 else 21
def unL (b : List UInt8) : List Ent := if unE b = 0 then toldE (bare b) else []
theorem comm_le (a b : List UInt8) : comm a b ≤ a.length ∧ comm a b ≤ b.length ∧ a.take (comm a b) = b.take (comm a b) := by
  induction a generalizing b with
  | nil => simp [comm]
  | cons x a ih =>
    cases b with
    | nil => simp [comm]
    | cons y b =>
      rw [comm]
      split
      · next h =>
        obtain ⟨h1, h2, h3⟩ := ih b
        subst h
        exact ⟨by simp; exact h1, by simp; exact h2, by simp [h3]⟩
      · simp
theorem keepE_le (l : List Ent) (k : Nat) : keepE l k ≤ (l.getD k zEnt).1.size ∧ keepE l k ≤ (l.getD (k - 1) zEnt).1.size ∧ (bl (l.getD (k - 1) zEnt).1).take (keepE l k) = (bl (l.getD k zEnt).1).take (keepE l k) := by
  unfold keepE
  split
  · simp
  · obtain ⟨h1, h2, h3⟩ := comm_le (bl (l.getD (k - 1) zEnt).1) (bl (l.getD k zEnt).1)
    rw [bl_length] at h1 h2
    exact ⟨h2, h1, h3⟩
theorem ordL_may (l : List Ent) (f : Nat) : ∀ i, ordL l f i = 0 → ∀ j, i ≤ j → j < i + f → mayE (l.getD j zEnt) ∧ (0 < j → befE (l.getD (j - 1) zEnt) (l.getD j zEnt)) := by
  induction f with
  | zero => intro i _ j h1 h2; omega
  | succ f ih =>
    intro i h j h1 h2
    rw [ordL] at h
    split at h
    · cases h
    · next h3 =>
      split at h
      · cases h
      · next h4 =>
        rcases Nat.lt_or_ge i j with h5 | h5
        · exact ih (i + 1) h j h5 (by omega)
        · obtain rfl : i = j := by omega
          exact ⟨Decidable.not_not.1 h3, fun h0 => Decidable.not_not.1 (fun h6 => h4 ⟨h0, h6⟩)⟩
theorem ordE_may (l : List Ent) (h : ordE l = 0) (j : Nat) (hj : j < l.length) : mayE (l.getD j zEnt) ∧ (0 < j → befE (l.getD (j - 1) zEnt) (l.getD j zEnt)) := ordL_may l l.length 0 h j (Nat.zero_le _) (by omega)
theorem ordL_of (l : List Ent) (f : Nat) : ∀ i, (∀ j, i ≤ j → j < i + f → mayE (l.getD j zEnt) ∧ (0 < j → befE (l.getD (j - 1) zEnt) (l.getD j zEnt))) → ordL l f i = 0 := by
  induction f with
  | zero => intro i _; rfl
  | succ f ih =>
    intro i h
    obtain ⟨h1, h2⟩ := h i (Nat.le_refl _) (by omega)
    rw [ordL, if_neg (fun h => h h1), if_neg (fun h => h.2 (h2 h.1))]
    exact ih (i + 1) fun j h3 h4 => h j (by omega) (by omega)
theorem chkE_ok (l : List Ent) (h : chkE l = 0) : 1 ≤ l.length ∧ l.length ≤ 64 ∧ ordE l = 0 := by
  unfold chkE at h
  split at h
  · cases h
  · exact ⟨by omega, by omega, h⟩
/-- the rest of the versions' octets -/
def entsS (l : List Ent) : Nat → Nat → List UInt8
  | 0, _ => []
  | n + 1, k => entB (keepE l k) (l.getD k zEnt) ++ entsS l n (k + 1)
theorem entsB_add (l : List Ent) (n : Nat) : ∀ k, entsB l (k + n) = entsB l k ++ entsS l n k := by
  induction n with
  | zero => intro k; simp [entsS]
  | succ n ih =>
    intro k
    have := ih (k + 1)
    rw [show k + (n + 1) = k + 1 + n by omega, this, entsB, entsS, List.append_assoc]
theorem rdTake_app (n : Nat) (a r : List UInt8) (h : a.length = n) : rdTake n (a ++ r) = .ok (a, r) := by
  subst h
  rw [rdTake, if_neg (by rw [List.length_append]; omega), List.take_left, List.drop_left]
theorem rdEnt_enc (key : List UInt8) (n : Nat) (x : Ent) (r : List UInt8) (h : mayE x) (h1 : n ≤ x.1.size) (h2 : n ≤ key.length) (h3 : key.take n = (bl x.1).take n) : rdEnt key (entB n x ++ r) = .ok (x, r) := by
  obtain ⟨m1, m2, m3, m4, m5, m6, m7⟩ := h
  have e1 := rdNum_put 65536 n 21 (by omega) (by omega)
  have e2 := rdNum_put 65536 (x.1.size - n) 21 (by omega) (by omega)
  have e3 := rdNum_put 1099511627776 x.2.1.toNat 21 (by omega) (by omega)
  have e4 := rdNum_put 65536 x.2.2.2.size 21 (by omega) (by omega)
  have hk : ((UInt8.ofNat x.2.2.1.toNat).toNat : Int) = x.2.2.1 := by rcases m5 with h | h <;> rw [h] <;> rfl
  have hq : ((x.2.1.toNat : Nat) : Int) = x.2.1 := by omega
  have t1 := fun r => rdTake_app 1 [UInt8.ofNat x.2.2.1.toNat] r rfl
  have t2 := fun r => rdTake_app (x.1.size - n) ((bl x.1).drop n) r (by rw [List.length_drop, bl_length])
  have t3 := fun r => rdTake_app x.2.2.2.size (bl x.2.2.2) r (bl_length _)
  unfold rdEnt entB
  simp only [List.append_assoc]
  rw [e1]
  simp only
  rw [e2]
  simp only
  rw [e3]
  simp only
  rw [e4]
  simp only
  rw [t1]
  simp only
  rw [t2]
  simp only
  rw [t3]
  simp only
  rw [if_neg (by omega), h3, List.take_append_drop]
  simp only [List.getD_cons_zero, hk, hq]
  obtain ⟨k, q, kd, v⟩ := x
  rfl
theorem entB_ne (n : Nat) (x : Ent) : entB n x ≠ [] := by
  intro h
  have := congrArg List.length h
  simp [entB] at this
theorem rdEs_enc (l : List Ent) (h : ordE l = 0) (n : Nat) : ∀ (f k : Nat) (key : List UInt8), k + n = l.length → n < f → (k % 4 ≠ 0 → key = bl (l.getD (k - 1) zEnt).1) → rdEs f key (entsS l n k) = some (l.drop k) := by
  induction n with
  | zero =>
    intro f k key hk hf _
    cases f with
    | zero => omega
    | succ f => simp [rdEs, entsS]; omega
  | succ n ih =>
    intro f k key hk hf hkey
    cases f with
    | zero => omega
    | succ f =>
      obtain ⟨h1, h2⟩ := ordE_may l h k (by omega)
      obtain ⟨k1, k2, k3⟩ := keepE_le l k
      have hr : rdEnt key (entB (keepE l k) (l.getD k zEnt) ++ entsS l n (k + 1)) = .ok (l.getD k zEnt, entsS l n (k + 1)) := by
        by_cases h4 : k % 4 = 0
        · have hz : keepE l k = 0 := by rw [keepE, if_pos h4]
          exact rdEnt_enc _ _ _ _ h1 k1 (by rw [hz]; exact Nat.zero_le _) (by rw [hz]; rfl)
        · rw [hkey h4]
          exact rdEnt_enc _ _ _ _ h1 k1 (by rw [bl_length]; exact k2) k3
      rw [entsS, rdEs, if_neg (by intro h; exact entB_ne _ _ (List.append_eq_nil_iff.1 h).1), hr]
      simp only
      rw [ih f (k + 1) _ (by omega) (by omega) (fun _ => by rw [Nat.add_sub_cancel])]
      have hlt : k < l.length := by omega
      rw [List.drop_eq_getElem_cons hlt, Option.map_some, List.getD_eq_getElem?_getD, List.getElem?_eq_getElem hlt]
      rfl
theorem tailB_length (l : List Ent) (k : Nat) : (tailB l k).length = 2 * ((k + 3) / 4) := by
  induction k with
  | zero => rfl
  | succ k ih =>
    rw [tailB]
    split
    · rw [List.length_append, ih]; simp; omega
    · rw [ih]; omega
theorem toldE_blk (l : List Ent) (h : chkE l = 0) : toldE (blkB l) = l := by
  obtain ⟨h1, h2, h3⟩ := chkE_ok l h
  have ht := tailB_length l l.length
  have hlen : (blkB l).length = (entsB l l.length).length + (tailB l l.length).length + 1 := by simp [blkB]; omega
  have hlast : (blkB l).getD ((blkB l).length - 1) 0 = UInt8.ofNat ((tailB l l.length).length / 2) := by
    rw [hlen, Nat.add_sub_cancel, blkB, List.getD_eq_getElem?_getD, List.getElem?_append_right (by rw [List.length_append]; exact Nat.le_refl _), List.length_append, Nat.sub_self]
    rfl
  have hnum : (UInt8.ofNat ((tailB l l.length).length / 2)).toNat = (tailB l l.length).length / 2 := by
    rw [UInt8.toNat_ofNat']; omega
  rw [toldE, if_neg (by omega), hlast, hnum, if_neg (by omega)]
  have he : (blkB l).length - 1 - 2 * ((tailB l l.length).length / 2) = (entsB l l.length).length := by omega
  rw [he, blkB, List.append_assoc, List.take_left]
  have hB := entsB_add l l.length 0
  rw [Nat.zero_add] at hB
  rw [hB, entsB, List.nil_append, rdEs_enc l h3 l.length 65 0 [] (by omega) (by omega) (fun h => absurd rfl h)]
  simp
theorem un_blk (l : List Ent) (h : chkE l = 0) : unE (blkX l) = 0 ∧ unL (blkX l) = l := by
  have e : blkX l = guarded (blkB l) := by rw [blkX, if_pos h]
  have h1 : bareNum (blkX l) = 0 := by rw [e]; exact bareNum_guarded _
  have h2 : bare (blkX l) = blkB l := by rw [e]; exact bare_guarded _
  have h3 : unE (blkX l) = 0 := by
    rw [unE, if_neg (by rw [h1]; simp), h2, toldE_blk l h, if_pos ⟨h, rfl⟩]
  exact ⟨h3, by rw [unL, if_pos h3, h2, toldE_blk l h]⟩
theorem un_ok (b : List UInt8) (h : unE b = 0) : chkE (unL b) = 0 ∧ blkX (unL b) = b := by
  have h' := h
  rw [unE] at h'
  split at h'
  · next h1 => exact absurd h' h1
  · split at h'
    · next h2 => rw [unL, if_pos h]; exact h2
    · cases h'
end Go.Proofs.Ytefcepjffeiaoaa
end

section
/- Block: the first version of a key with at most a number. -/
namespace Go.Proofs.Ytefcepjffeiaoaa
set_option linter.unusedVariables false

theorem lt_tr {a b c : List UInt8} (h : a < b) (h2 : b < c) : a < c := List.lt_trans h h2
theorem lt_ir (a : List UInt8) : ¬ a < a := List.lt_irrefl a
theorem lt_as {a b : List UInt8} (h : a < b) : ¬ b < a := fun h2 => lt_ir a (lt_tr h h2)
theorem lt_tri (a b : List UInt8) : a < b ∨ a = b ∨ b < a := by
  rcases Decidable.em (a < b) with h | h
  · exact .inl h
  · rcases Decidable.em (b < a) with h2 | h2
    · exact .inr (.inr h2)
    · exact .inr (.inl (List.le_antisymm (List.not_lt.1 h2) (List.not_lt.1 h)))
theorem bef_tr {x y z : Ent} (h : befE x y) (h2 : befE y z) : befE x z := by
  unfold befE at *
  rcases h with h | ⟨h, h'⟩ <;> rcases h2 with h2 | ⟨h2, h2'⟩
  · exact .inl (lt_tr h h2)
  · exact .inl (h2 ▸ h)
  · exact .inl (h.symm ▸ h2)
  · exact .inr ⟨h.trans h2, by omega⟩
theorem ord_bef (l : List Ent) (h : ordE l = 0) (j : Nat) (hj : j < l.length) : ∀ i, i < j → befE (l.getD i zEnt) (l.getD j zEnt) := by
  induction j with
  | zero => intro i hi; omega
  | succ j ih =>
    intro i hi
    have h1 := (ordE_may l h (j + 1) hj).2 (by omega)
    rw [Nat.add_sub_cancel] at h1
    rcases Nat.lt_or_ge i j with h2 | h2
    · exact bef_tr (ih (by omega) i h2) h1
    · obtain rfl : i = j := by omega
      exact h1
/-- the first version of a key with at most a number -/
def isV (key : ByteArray) (seq : Int) (x : Ent) : Bool := decide (x.1 = key) && decide (x.2.1 ≤ seq)
def firstE (l : List Ent) (key : ByteArray) (seq : Int) : Option Ent := l.find? (isV key seq)
theorem first_at (l : List Ent) (key : ByteArray) (seq : Int) (i : Nat) (hi : i < l.length) (h : isV key seq (l.getD i zEnt) = true) (hb : ∀ k, k < i → isV key seq (l.getD k zEnt) = false) : firstE l key seq = some (l.getD i zEnt) := by
  induction l generalizing i with
  | nil => simp at hi
  | cons x l ih =>
    cases i with
    | zero => rw [List.getD_cons_zero] at h ⊢; rw [firstE, List.find?_cons_of_pos h]
    | succ i =>
      have h0 := hb 0 (by omega)
      rw [List.getD_cons_zero] at h0
      rw [firstE, List.find?_cons_of_neg (by rw [h0]; simp), List.getD_cons_succ]
      exact ih i (by simpa using hi) h (fun k hk => by have := hb (k + 1) (by omega); rwa [List.getD_cons_succ] at this)
theorem first_none (l : List Ent) (key : ByteArray) (seq : Int) (hb : ∀ k, k < l.length → isV key seq (l.getD k zEnt) = false) : firstE l key seq = none := by
  rw [firstE, List.find?_eq_none]
  intro x hx
  obtain ⟨k, hk, rfl⟩ := List.getElem_of_mem hx
  have := hb k hk
  rw [List.getD_eq_getElem?_getD, List.getElem?_eq_getElem hk] at this
  rw [show l[k] = (some l[k]).getD zEnt from rfl, this]
  simp
/-- where a search halts -/
theorem first_bs (l : List Ent) (h : ordE l = 0) (key : ByteArray) (seq : Int) (t : Ent) (ht : t.1 = key) (ht2 : t.2.1 = seq) (i : Nat) (hi : i ≤ l.length) (h1 : ∀ k, k < i → befE (l.getD k zEnt) t) (h2 : i < l.length → ¬ befE (l.getD i zEnt) t) :
    firstE l key seq = if i < l.length ∧ (l.getD i zEnt).1 = key then some (l.getD i zEnt) else none := by
  subst ht ht2
  have hno : ∀ k, k < i → isV t.1 t.2.1 (l.getD k zEnt) = false := by
    intro k hk
    have := h1 k hk
    unfold befE at this
    unfold isV
    rcases this with h3 | ⟨h3, h4⟩
    · have : ¬ (l.getD k zEnt).1 = t.1 := fun e => by rw [e] at h3; exact lt_ir _ h3
      rw [decide_eq_false this, Bool.false_and]
    · have : ¬ (l.getD k zEnt).2.1 ≤ t.2.1 := by omega
      rw [decide_eq_false this, Bool.and_false]
  split
  · next h3 =>
    refine first_at l _ _ i h3.1 ?_ hno
    have := h2 h3.1
    unfold befE at this
    unfold isV
    rw [decide_eq_true h3.2, decide_eq_true, Bool.true_and]
    apply Decidable.not_not.1
    intro h4
    exact this (.inr ⟨by rw [h3.2], by omega⟩)
  · next h3 =>
    refine first_none l _ _ fun k hk => ?_
    rcases Nat.lt_or_ge k i with h4 | h4
    · exact hno k h4
    · have hil : i < l.length := by omega
      have hki : ¬ (l.getD i zEnt).1 = t.1 := fun e => h3 ⟨hil, e⟩
      have hlt : bl t.1 < bl (l.getD i zEnt).1 := by
        have := h2 hil
        unfold befE at this
        rcases lt_tri (bl (l.getD i zEnt).1) (bl t.1) with h5 | h5 | h5
        · exact absurd (.inl h5) this
        · exact absurd (bl_inj h5) hki
        · exact h5
      have hlt2 : bl t.1 < bl (l.getD k zEnt).1 := by
        rcases Nat.lt_or_ge i k with h5 | h5
        · have := ord_bef l h k hk i h5
          unfold befE at this
          rcases this with h6 | ⟨h6, _⟩
          · exact lt_tr hlt h6
          · rw [← h6]; exact hlt
        · obtain rfl : k = i := by omega
          exact hlt
      unfold isV
      have : ¬ (l.getD k zEnt).1 = t.1 := fun e => by rw [e] at hlt2; exact lt_ir _ hlt2
      rw [decide_eq_false this, Bool.false_and]
/-- what is found is one of them, and none of the others is nearer -/
theorem first_some (l : List Ent) (key : ByteArray) (seq : Int) (x : Ent) (h : firstE l key seq = some x) : x ∈ l ∧ x.1 = key ∧ x.2.1 ≤ seq := by
  have h1 := List.mem_of_find?_eq_some h
  have h2 := List.find?_some h
  unfold isV at h2
  rw [Bool.and_eq_true, decide_eq_true_eq, decide_eq_true_eq] at h2
  exact ⟨h1, h2⟩
end Go.Proofs.Ytefcepjffeiaoaa
end

section
/- Block: rot, and what a common beginning saves, plainly. -/
namespace Go.Proofs.Ytefcepjffeiaoaa
set_option linter.unusedVariables false

theorem entB_length (n : Nat) (x : Ent) (h : mayE x) (h1 : n ≤ x.1.size) : (entB n x).length = vsize n + vsize (x.1.size - n) + vsize x.2.1.toNat + vsize x.2.2.2.size + 1 + (x.1.size - n) + x.2.2.2.size := by
  simp only [entB, List.length_append, put_length, List.length_drop, bl_length, List.length_singleton]
theorem entB_le (n : Nat) (x : Ent) (h : mayE x) (h1 : n ≤ x.1.size) : (entB n x).length ≤ 649 := by
  have v1 := vsize_le n
  have v2 := vsize_le (x.1.size - n)
  have v3 := vsize_le x.2.1.toNat
  have v4 := vsize_le x.2.2.2.size
  obtain ⟨m1, m2, m3, m4, m5, m6, m7⟩ := h
  rw [entB_length n x ⟨m1, m2, m3, m4, m5, m6, m7⟩ h1]
  omega
theorem entsB_length (l : List Ent) (h : ordE l = 0) (k : Nat) (hk : k ≤ l.length) : (entsB l k).length ≤ 649 * k := by
  induction k with
  | zero => simp [entsB]
  | succ k ih =>
    have := ih (by omega)
    have h2 := entB_le (keepE l k) (l.getD k zEnt) (ordE_may l h k (by omega)).1 (keepE_le l k).1
    rw [entsB, List.length_append]
    omega
end Go.Proofs.Ytefcepjffeiaoaa
end

section
/- Blocks that turn alone; octets that are read whatever was made since. -/
namespace Go.Proofs.Ytefcepjffeiaoaa
open Go.RowKit Go.Proofs.YtefcepjffeiaoaaW.PrintWords
set_option linter.unusedVariables false

/-- octets that are read whatever was made since -/
def St (w0 : World) (A : Option Addr) (c : Nat) (b : List UInt8) : Prop := ∀ W, Below w0.heap.size w0 W → RdB W A c b
theorem St.of {w : World} {A : Option Addr} {c : Nat} {b : List UInt8} (h : RdB w A c b) : St w A c b := fun W hb => h.below hb
theorem St.drop {w0 : World} {A : Option Addr} {c : Nat} {b : List UInt8} (h : St w0 A c b) (k : Nat) (hk : k ≤ b.length) : St w0 (cutA A c k) (c - k) (b.drop k) := fun W hb => (h W hb).drop k hk
/-- one block, and what is new, is all that has turned -/
def Gb (g : Nat) (w0 W W' : World) : Prop := W.grownBy W' (some g) ∧ (∀ B, B ≤ g → B ≤ W.heap.size → Below B W W')
theorem Gb.of_below {g : Nat} {w0 W W' : World} (h : Below W.heap.size W W') : Gb g w0 W W' := ⟨grown_of_below h _, fun B _ h2 => h.mono h2⟩
theorem Gb.refl (g : Nat) (w0 W : World) : Gb g w0 W W := Gb.of_below (Below.refl _ _)
theorem Gb.trans {g : Nat} {w0 W W1 W2 : World} (h : Gb g w0 W W1) (k : Gb g w0 W1 W2) : Gb g w0 W W2 := ⟨World.grownBy.trans h.1 k.1, fun B h1 h2 => (h.2 B h1 h2).trans (k.2 B h1 (Nat.le_trans h2 h.1.size))⟩
theorem Gb.set_ {g : Nat} {w0 W W1 : World} (h : Gb g w0 W W1) (j : Nat) (v : Value) : Gb g w0 W (W1.setCell ⟨g, j, none⟩ v) :=
  ⟨⟨h.1.os, h.1.tape, h.1.output, by simpa [World.setCell] using h.1.size, fun i hi hne => (Below.heap_setCell W1 ⟨g, j, none⟩ v i (fun e => hne (by rw [e]))).trans (h.1.block i hi hne)⟩, fun B h1 h2 => (h.2 B h1 h2).setCell (p := ⟨g, j, none⟩) h1 v⟩
end Go.Proofs.Ytefcepjffeiaoaa
end

section
/- Block: the walks of the reference's reader: Num, Take. -/
namespace Go.Proofs.Ytefcepjffeiaoaa
open Go.RowKit Go.Proofs.YtefcepjffeiaoaaW.PrintWords
set_option linter.unusedVariables false

/-- a reader's block: what it goes over, how far it is, its error -/
def Rs (g : Nat) (A : Option Addr) (c n p : Nat) (e : Int) (W : World) : Prop := W.heap[g]? = some (.cells #[.slice A n c, .int .i64 (p : Int), .int .i64 e] 147 (0, 0))
theorem Rs.read {g : Nat} {A : Option Addr} {c n p : Nat} {e : Int} {W : World} (h : Rs g A c n p e W) : W.cell? ⟨g, 0, none⟩ = some (.slice A n c) ∧ W.cell? ⟨g, 1, none⟩ = some (.int .i64 (p : Int)) ∧ W.cell? ⟨g, 2, none⟩ = some (.int .i64 e) ∧ W.frozen? ⟨g, 0, none⟩ = false ∧ W.frozen? ⟨g, 1, none⟩ = false ∧ W.frozen? ⟨g, 2, none⟩ = false := ⟨blk_cell h 0, blk_cell h 1, blk_cell h 2, blk_frozen h 0, blk_frozen h 1, blk_frozen h 2⟩
theorem Rs.below {g : Nat} {A : Option Addr} {c n p : Nat} {e : Int} {W W' : World} (h : Rs g A c n p e W) (hb : Below W.heap.size W W') : Rs g A c n p e W' := blk_below h hb
theorem Rs.far {g : Nat} {A : Option Addr} {c n p : Nat} {e : Int} {W : World} (h : Rs g A c n p e W) {b j : Nat} (hne : g ≠ b) (v : Value) : Rs g A c n p e (W.setCell ⟨b, j, none⟩ v) := blk_far h (p := ⟨b, j, none⟩) hne v
theorem Rs.at1 {g : Nat} {A : Option Addr} {c n p : Nat} {e : Int} {W : World} (h : Rs g A c n p e W) (q : Nat) : Rs g A c n q e (W.setCell ⟨g, 1, none⟩ (.int .i64 (q : Int))) := blk_set h 1 _
theorem Rs.er {g : Nat} {A : Option Addr} {c n p : Nat} {e : Int} {W : World} (h : Rs g A c n p e W) (z : Int) : Rs g A c n p z (W.setCell ⟨g, 2, none⟩ (.int .i64 z)) := blk_set h 2 _
theorem Rs.lt {g : Nat} {A : Option Addr} {c n p : Nat} {e : Int} {W : World} (h : Rs g A c n p e W) : g < W.heap.size := blk_lt h

set_option maxRecDepth 100000 in
set_option maxHeartbeats 800000 in
theorem rNum_off (w0 : World) (g : Nat) (A : Option Addr) (c n p : Nat) (e : Int) (he : e ≠ 0) (mi : Int) (code : Int) (w : World) (hs : Rs g A c n p e w) :
    Calls Try.prog 111 #[.pointer (some ⟨g, 0, none⟩), .int .u64 mi, .int .i64 code] w fun e1 w' => e1 = .returned (.int .i64 0) ∧ Rs g A c n p e w' ∧ Gb g w0 w w' := by
  obtain ⟨x0, x1, x2, x3, x4, x5⟩ := hs.read
  go_enter Try.func111, Try.ntmps111
  go_wp2
  go_ret
  exact ⟨rfl, hs, Gb.refl _ _ _⟩
set_option maxRecDepth 100000 in
set_option maxHeartbeats 800000 in
theorem rNum_ok (w0 : World) (g : Nat) (A : Option Addr) (c n p : Nat) (x : List UInt8) (hx : St w0 A c x) (hn : x.length = n) (hn2 : n ≤ 140737488355328) (hp : p ≤ n) (most : Nat) (mi : Int) (hmi0 : mi = (most : Int)) (hm : most ≤ 1099511627776) (code : Int) (w : World) (hs : Rs g A c n p 0 w) (hB : Below w0.heap.size w0 w) (k : Nat) (r : List UInt8) (hr : rdNum most code (x.drop p) = .ok (k, r)) :
    Calls Try.prog 111 #[.pointer (some ⟨g, 0, none⟩), .int .u64 mi, .int .i64 code] w fun e1 w' => e1 = .returned (.int .i64 (k : Int)) ∧ (∃ p', p' ≤ n ∧ x.drop p' = r ∧ Rs g A c n p' 0 w') ∧ Gb g w0 w w' := by
  subst hmi0
  obtain ⟨g1, g2, g3, g4⟩ := rdNum_ok _ _ _ _ _ hr
  obtain ⟨k1, k2, k3⟩ := gK_le _ g1
  obtain ⟨x0, x1, x2, x3, x4, x5⟩ := hs.read
  have hG := fun W (h : Below w0.heap.size w0 W) => rGet_any _ _ (x.drop p) W ((hx W h).drop p (by omega))
  have hsl := fun W => slice_lo 23 5 Try.underlying23 (i := _) rfl rfl A x.length c p (by omega) W
  have hle := (hx w hB).le
  rw [g1, ← g3] at hG
  rw [← g3] at g2
  rw [List.length_drop] at k1 hG
  have hr2 : x.drop (p + gK (x.drop p)) = r := by rw [g4, List.drop_drop]
  rw [hn] at hsl k1 hG hle
  generalize gK (x.drop p) = d at *
  obtain ⟨p2, hp2⟩ : ∃ p2, p + d = p2 := ⟨_, rfl⟩
  rw [hp2] at hr2
  have hp2i : (p : Int) + (d : Int) = (p2 : Int) := by omega
  have hle2 : p2 ≤ n := by omega
  have hni : (n : Int) ≤ 140737488355328 := by omega
  have hp2n : (p2 : Int) ≤ 140737488355328 := by omega
  have hpn : (p : Int) ≤ (n : Int) := by omega
  have hki : (k : Int) ≤ 1099511627776 := by omega
  have hmi : (most : Int) ≤ 1099511627776 := by omega
  have hkm : (k : Int) ≤ (most : Int) := by omega
  have HR2 := hide hr2
  clear hr g1 g3 g4 k1 k2 k3 hr2 hp2 hn
  go_enter Try.func111, Try.ntmps111
  go_wp2
  have hS0 : w.drew.cell? ⟨g, 0, none⟩ = some (.slice A n c) ∧ w.drew.cell? ⟨g, 1, none⟩ = some (.int .i64 (p : Int)) ∧ Below w.heap.size w w.drew := ⟨x0, x1, (Below.refl _ _).drew⟩
  have hSk : ∀ W, Below w.heap.size w W → W.cell? ⟨g, 0, none⟩ = some (.slice A n c) ∧ W.cell? ⟨g, 1, none⟩ = some (.int .i64 (p : Int)) ∧ Below w.heap.size w W := fun W h => ⟨(h.cell (World.block_lt_of_cell? w _ x0)).trans x0, (h.cell (World.block_lt_of_cell? w _ x1)).trans x1, h⟩
  go_region_held3 (fun w' => w'.cell? ⟨g, 0, none⟩ = some (.slice A n c) ∧ w'.cell? ⟨g, 1, none⟩ = some (.int .i64 (p : Int)) ∧ Below w.heap.size w w') (first | exact hS0 | exact hSk _ HB1 | assumption) (first | (go_at_call 87; (with_reducible refine (hG _ hB.drew).mono ?_); rintro e w1 ⟨rfl, HB1'⟩; have HB1 : Below w.heap.size w w1 := (Below.refl _ _).drew.trans HB1'))
  have hs1 := hs.below HB1
  obtain ⟨y0, y1, y2, y3, y4, y5⟩ := hs1.read
  go_wp2
  go_ret
  exact ⟨rfl, ⟨p2, hle2, HR2.out, hs1.at1 p2⟩, (Gb.of_below HB1).set_ 1 _⟩
set_option maxRecDepth 100000 in
set_option maxHeartbeats 800000 in
theorem rNum_err (w0 : World) (g : Nat) (A : Option Addr) (c n p : Nat) (x : List UInt8) (hx : St w0 A c x) (hn : x.length = n) (hn2 : n ≤ 140737488355328) (hp : p ≤ n) (most : Nat) (mi : Int) (hmi0 : mi = (most : Int)) (hm : most ≤ 1099511627776) (code : Int) (w : World) (hs : Rs g A c n p 0 w) (hB : Below w0.heap.size w0 w) (z : Int) (hr : rdNum most code (x.drop p) = .error z) :
    Calls Try.prog 111 #[.pointer (some ⟨g, 0, none⟩), .int .u64 mi, .int .i64 code] w fun e1 w' => e1 = .returned (.int .i64 0) ∧ Rs g A c n p z w' ∧ Gb g w0 w w' := by
  subst hmi0
  obtain ⟨x0, x1, x2, x3, x4, x5⟩ := hs.read
  have hG := fun W (h : Below w0.heap.size w0 W) => rGet_any _ _ (x.drop p) W ((hx W h).drop p (by omega))
  have hsl := fun W => slice_lo 23 5 Try.underlying23 (i := _) rfl rfl A x.length c p (by omega) W
  have hle := (hx w hB).le
  rw [List.length_drop] at hG
  have herr := rdNum_err _ _ _ _ hr
  generalize getErr (x.drop p) = ge at *
  generalize gN (x.drop p) = k at *
  generalize gK (x.drop p) = d at *
  rw [hn] at hsl hG hle
  have hpn : (p : Int) ≤ (n : Int) := by omega
  have hni : (n : Int) ≤ 140737488355328 := by omega
  have hmi : (most : Int) ≤ 1099511627776 := by omega
  have hS0 : w.drew.cell? ⟨g, 0, none⟩ = some (.slice A n c) ∧ w.drew.cell? ⟨g, 1, none⟩ = some (.int .i64 (p : Int)) ∧ Below w.heap.size w w.drew := ⟨x0, x1, (Below.refl _ _).drew⟩
  have hSk : ∀ W, Below w.heap.size w W → W.cell? ⟨g, 0, none⟩ = some (.slice A n c) ∧ W.cell? ⟨g, 1, none⟩ = some (.int .i64 (p : Int)) ∧ Below w.heap.size w W := fun W h => ⟨(h.cell (World.block_lt_of_cell? w _ x0)).trans x0, (h.cell (World.block_lt_of_cell? w _ x1)).trans x1, h⟩
  clear hr hn
  rcases herr with ⟨rfl, h1⟩ | ⟨h1, h2, rfl⟩
  · have h1i : ¬ (ge : Int) = 0 := by omega
    go_enter Try.func111, Try.ntmps111
    go_wp2
    go_region_held3 (fun w' => w'.cell? ⟨g, 0, none⟩ = some (.slice A n c) ∧ w'.cell? ⟨g, 1, none⟩ = some (.int .i64 (p : Int)) ∧ Below w.heap.size w w') (first | exact hS0 | exact hSk _ HB1 | assumption) (first | (go_at_call 87; (with_reducible refine (hG _ hB.drew).mono ?_); rintro e w1 ⟨rfl, HB1'⟩; have HB1 : Below w.heap.size w w1 := (Below.refl _ _).drew.trans HB1'))
    have hs1 := hs.below HB1
    obtain ⟨y0, y1, y2, y3, y4, y5⟩ := hs1.read
    go_wp2
    go_ret
    exact ⟨rfl, hs1.er _, (Gb.of_below HB1).set_ 2 _⟩
  · rw [h1] at hG
    have h2i : (most : Int) < (k : Int) := by omega
    clear h1 h2
    go_enter Try.func111, Try.ntmps111
    go_wp2
    go_region_held3 (fun w' => w'.cell? ⟨g, 0, none⟩ = some (.slice A n c) ∧ w'.cell? ⟨g, 1, none⟩ = some (.int .i64 (p : Int)) ∧ Below w.heap.size w w') (first | exact hS0 | exact hSk _ HB1 | assumption) (first | (go_at_call 87; (with_reducible refine (hG _ hB.drew).mono ?_); rintro e w1 ⟨rfl, HB1'⟩; have HB1 : Below w.heap.size w w1 := (Below.refl _ _).drew.trans HB1'))
    have hs1 := hs.below HB1
    obtain ⟨y0, y1, y2, y3, y4, y5⟩ := hs1.read
    go_wp2
    go_ret
    exact ⟨rfl, hs1.er _, (Gb.of_below HB1).set_ 2 _⟩
set_option maxRecDepth 100000 in
set_option maxHeartbeats 800000 in
theorem rTake_off (w0 : World) (g : Nat) (A : Option Addr) (c n p : Nat) (e : Int) (he : e ≠ 0) (mi : Int) (w : World) (hs : Rs g A c n p e w) :
    Calls Try.prog 112 #[.pointer (some ⟨g, 0, none⟩), .int .i64 mi] w fun e1 w' => e1 = .returned (.slice none 0 0) ∧ Rs g A c n p e w' ∧ Gb g w0 w w' := by
  obtain ⟨x0, x1, x2, x3, x4, x5⟩ := hs.read
  go_enter Try.func112, Try.ntmps112
  go_wp2
  go_ret
  exact ⟨rfl, hs, Gb.refl _ _ _⟩
set_option maxRecDepth 100000 in
set_option maxHeartbeats 800000 in
theorem rTake_err (w0 : World) (g : Nat) (A : Option Addr) (c n p m : Nat) (mi : Int) (hmi0 : mi = (m : Int)) (hp : p ≤ n) (hn2 : n ≤ 140737488355328) (hm : n - p < m) (hm2 : m ≤ 1099511627776) (w : World) (hs : Rs g A c n p 0 w) :
    Calls Try.prog 112 #[.pointer (some ⟨g, 0, none⟩), .int .i64 mi] w fun e1 w' => e1 = .returned (.slice none 0 0) ∧ Rs g A c n p 8 w' ∧ Gb g w0 w w' := by
  subst hmi0
  obtain ⟨x0, x1, x2, x3, x4, x5⟩ := hs.read
  obtain ⟨d, hd⟩ : ∃ d, n - p = d := ⟨_, rfl⟩
  have hdi : (n : Int) - (p : Int) = (d : Int) := by omega
  have hdm : (d : Int) < (m : Int) := by omega
  have hwd : IntKind.i64.wrap (d : Int) = (d : Int) := by rw [IntKind.wrap_i64]; omega
  have hpi : (p : Int) ≤ (n : Int) := by omega
  have hni : (n : Int) ≤ 140737488355328 := by omega
  have hS0 : w.drew.cell? ⟨g, 0, none⟩ = some (.slice A n c) ∧ w.drew.cell? ⟨g, 1, none⟩ = some (.int .i64 (p : Int)) := ⟨x0, x1⟩
  clear hd hm
  go_enter Try.func112, Try.ntmps112
  go_wp2
  go_region_held3 (fun w' => w'.cell? ⟨g, 0, none⟩ = some (.slice A n c) ∧ w'.cell? ⟨g, 1, none⟩ = some (.int .i64 (p : Int))) (first | exact hS0 | assumption) (fail)
  go_wp2
  go_ret
  exact ⟨rfl, Rs.er (W := w.drew) hs _, (Gb.of_below (Below.refl _ _).drew).set_ 2 _⟩
set_option maxRecDepth 100000 in
set_option maxHeartbeats 800000 in
theorem rTake_ok (w0 : World) (g : Nat) (A : Option Addr) (c n p m : Nat) (x : List UInt8) (hx : St w0 A c x) (hn : x.length = n) (hn2 : n ≤ 140737488355328) (hp : p ≤ n) (mi : Int) (hmi0 : mi = (m : Int)) (hm : m ≤ n - p) (w : World) (hs : Rs g A c n p 0 w) (hB : Below w0.heap.size w0 w) (hg : w0.heap.size ≤ g) :
    Calls Try.prog 112 #[.pointer (some ⟨g, 0, none⟩), .int .i64 mi] w fun e1 w' => (∃ v, e1 = .returned v ∧ OwB w' w.heap.size v ((x.drop p).take m)) ∧ Rs g A c n (p + m) 0 w' ∧ Gb g w0 w w' := by
  subst hmi0
  obtain ⟨x0, x1, x2, x3, x4, x5⟩ := hs.read
  obtain ⟨d, hd⟩ : ∃ d, n - p = d := ⟨_, rfl⟩
  obtain ⟨p2, hp2⟩ : ∃ p2, p + m = p2 := ⟨_, rfl⟩
  have hC := fun W (h : Below w0.heap.size w0 W) => Copied_any _ _ _ W (((hx W h).drop p (by omega)).take m (by rw [List.length_drop]; omega)) (by simp; omega)
  have hlen : ((x.drop p).take m).length = m := by rw [List.length_take, List.length_drop]; omega
  have hsl := fun W => slice_lohi 23 5 Try.underlying23 (i := _) rfl rfl A n c p p2 (by omega) (by have := (hx w hB).le; omega) W
  have hp2i : (p : Int) + (m : Int) = (p2 : Int) := by omega
  have hp2j : (p2 : Int) - (m : Int) = (p : Int) := by omega
  have hp2k : p2 - p = m := by omega
  have hdi : (n : Int) - (p : Int) = (d : Int) := by omega
  have hdm : ¬ (d : Int) < (m : Int) := by omega
  have hwd : IntKind.i64.wrap (d : Int) = (d : Int) := by rw [IntKind.wrap_i64]; omega
  have hwp : IntKind.i64.wrap (p : Int) = (p : Int) := by rw [IntKind.wrap_i64]; omega
  have hpi : (p : Int) ≤ (n : Int) := by omega
  have hp2n : (p2 : Int) ≤ (n : Int) := by omega
  have hni : (n : Int) ≤ 140737488355328 := by omega
  rw [hlen] at hC
  rw [hp2k] at hsl
  have hS0 : w.drew.cell? ⟨g, 0, none⟩ = some (.slice A n c) ∧ w.drew.cell? ⟨g, 1, none⟩ = some (.int .i64 (p : Int)) := ⟨x0, x1⟩
  have hs2 : Rs g A c n p2 0 (w.setCell ⟨g, 1, none⟩ (.int .i64 (p2 : Int))) := hs.at1 p2
  obtain ⟨y0, y1, y2, y3, y4, y5⟩ := hs2.read
  have hB2 : Below w0.heap.size w0 (w.setCell ⟨g, 1, none⟩ (.int .i64 (p2 : Int))).drew.drew := (hB.setCell (p := ⟨g, 1, none⟩) hg _).drew.drew
  have hs3 : Rs g A c n p2 0 (w.setCell ⟨g, 1, none⟩ (.int .i64 (p2 : Int))).drew.drew := hs2
  have hS1 : (w.setCell ⟨g, 1, none⟩ (.int .i64 (p2 : Int))).drew.drew.cell? ⟨g, 0, none⟩ = some (.slice A n c) ∧ (w.setCell ⟨g, 1, none⟩ (.int .i64 (p2 : Int))).drew.drew.cell? ⟨g, 1, none⟩ = some (.int .i64 (p2 : Int)) := ⟨y0, y1⟩
  rw [hp2]
  clear hd hp2 hm hlen hp2k
  go_enter Try.func112, Try.ntmps112
  go_wp2
  go_region_held3 (fun w' => w'.cell? ⟨g, 0, none⟩ = some (.slice A n c) ∧ w'.cell? ⟨g, 1, none⟩ = some (.int .i64 (p : Int))) (first | exact hS0 | assumption) (fail)
  go_wp2
  go_region_held3 (fun w' => w'.cell? ⟨g, 0, none⟩ = some (.slice A n c) ∧ w'.cell? ⟨g, 1, none⟩ = some (.int .i64 (p2 : Int))) (first | exact hS1 | exact hS2 | assumption) (first | (go_at_call 82; (with_reducible refine (hC _ hB2).mono ?_); rintro e w1 ⟨v1, rfl, HO1, HB1⟩; have hs4 := hs3.below HB1; obtain ⟨z0, z1, z2, z3, z4, z5⟩ := hs4.read; have hS2 := And.intro z0 z1))
  go_wp2
  go_ret
  exact ⟨⟨v1, rfl, HO1.lower ((Gb.refl g w0 w).set_ 1 (.int .i64 (p2 : Int))).1.size⟩, hs4, ((Gb.refl g w0 w).set_ 1 (.int .i64 (p2 : Int))).trans (Gb.of_below ((Below.refl _ _).drew.drew.trans HB1))⟩
end Go.Proofs.Ytefcepjffeiaoaa
end

section
/- Block: the walks of the cursor: number, take. -/
namespace Go.Proofs.Ytefcepjffeiaoaa
open Go.RowKit Go.Proofs.YtefcepjffeiaoaaW.PrintWords
set_option linter.unusedVariables false

/-- a cursor: what is left, the key ahead, is all well so far -/
def Cu (w0 : World) (g : Nat) (b : List UInt8) (key : ByteArray) (ok : Bool) (W : World) : Prop := ∃ A c, W.heap[g]? = some (.cells #[.slice A b.length c, .string key, .bool ok] 143 (0, 0)) ∧ St w0 A c b
theorem Cu.below {w0 : World} {g : Nat} {b : List UInt8} {key : ByteArray} {ok : Bool} {W W' : World} (h : Cu w0 g b key ok W) (hb : Below W.heap.size W W') : Cu w0 g b key ok W' := by
  obtain ⟨A, c, h1, h2⟩ := h
  exact ⟨A, c, blk_below h1 hb, h2⟩
theorem Cu.lt {w0 : World} {g : Nat} {b : List UInt8} {key : ByteArray} {ok : Bool} {W : World} (h : Cu w0 g b key ok W) : g < W.heap.size := by
  obtain ⟨A, c, h1, h2⟩ := h
  exact blk_lt h1
theorem Cu.far {w0 : World} {g : Nat} {b : List UInt8} {key : ByteArray} {ok : Bool} {W : World} (h : Cu w0 g b key ok W) {q j : Nat} (hne : g ≠ q) (v : Value) : Cu w0 g b key ok (W.setCell ⟨q, j, none⟩ v) := by
  obtain ⟨A, c, h1, h2⟩ := h
  exact ⟨A, c, blk_far h1 (p := ⟨q, j, none⟩) hne v, h2⟩
/-- a number, plainly -/
def cNum (most : Nat) (b : List UInt8) (ok : Bool) : Nat × List UInt8 × Bool := if ok = true then (match rdNum most 21 b with
  | .ok (n, r) => (n, r, true)
  | .error _ => (0, b, false)) else (0, b, false)
def cTake (n : Nat) (b : List UInt8) (ok : Bool) : List UInt8 × List UInt8 × Bool := if ok = true ∧ n ≤ b.length then (b.take n, b.drop n, true) else ([], b, false)
theorem cNum_le (most : Nat) (b : List UInt8) (ok : Bool) : (cNum most b ok).1 ≤ most := by
  unfold cNum
  split
  · split
    · next n r h => exact (rdNum_ok _ _ _ _ _ h).2.2.1 ▸ (rdNum_ok _ _ _ _ _ h).2.1
    · exact Nat.zero_le _
  · exact Nat.zero_le _
set_option maxRecDepth 100000 in
set_option maxHeartbeats 800000 in
theorem number_any (w0 : World) (g most : Nat) (mi : Int) (hmi0 : mi = (most : Int)) (b : List UInt8) (key : ByteArray) (ok : Bool) (w : World) (hs : Cu w0 g b key ok w) (hB : Below w0.heap.size w0 w) (hm : most ≤ 1099511627776) :
    Calls Try.prog 114 #[.pointer (some ⟨g, 0, none⟩), .int .u64 mi] w fun e w' => e = .returned (.int .i64 ((cNum most b ok).1 : Int)) ∧ Cu w0 g (cNum most b ok).2.1 key (cNum most b ok).2.2 w' ∧ Gb g w0 w w' := by
  subst hmi0
  have hs0 := hs
  obtain ⟨A, c, h1, h2⟩ := hs
  have hx := h2 w hB
  have hG := Get_any A c b w hx
  have hlt := blk_lt h1
  have hmi : (most : Int) ≤ 1099511627776 := by omega
  cases ok with
  | false =>
    have e0 : cNum most b false = (0, b, false) := rfl
    rw [e0]
    obtain ⟨m, hm2⟩ : ∃ m, b.length = m := ⟨_, rfl⟩
    have HM := hide hm2
    rw [hm2] at hG h1
    have f0 := blk_cell h1 0
    have f1 := blk_cell h1 1
    have f2 := blk_cell h1 2
    have f3 := blk_frozen h1 2
    generalize (getErr b : Int) = e0 at *
    generalize gK b = k at *
    generalize gN b = n at *
    clear hm2
    go_enter Try.func114, Try.ntmps114
    go_wp2_with (first | (go_at_call 102; (with_reducible refine hG.mono ?_); rintro e w1 ⟨rfl, HB1⟩; have h11 := blk_below h1 HB1; have f10 := blk_cell h11 0; have f11 := blk_cell h11 1; have f12 := blk_cell h11 2; have f13 := blk_frozen h11 2))
    go_ret
    refine ⟨rfl, ⟨A, c, ?_, h2⟩, (Gb.of_below HB1).set_ 2 _⟩
    rw [HM.out]
    exact blk_set h11 2 _
  | true =>
    cases hr : rdNum most 21 b with
    | ok p =>
      obtain ⟨n, r⟩ := p
      have e0 : cNum most b true = (n, r, true) := by rw [cNum, if_pos rfl, hr]
      rw [e0]
      obtain ⟨g1, g2, g3, g4⟩ := rdNum_ok _ _ _ _ _ hr
      obtain ⟨k1, k2, k3⟩ := gK_le b g1
      rw [← g3] at hG g2
      have hle := hx.le
      have hSt := h2.drop (gK b) k1
      rw [← g4] at hSt
      have hrl : r.length = b.length - gK b := by rw [g4, List.length_drop]
      rw [g1] at hG
      have hsl := fun W => slice_lo 23 5 Try.underlying23 (i := _) rfl rfl A b.length c (gK b) k1 W
      generalize gK b = k at *
      obtain ⟨m, hm2⟩ : ∃ m, b.length = m := ⟨_, rfl⟩
      rw [hm2] at hG hsl h1 k1 hle hrl
      have HRL := hide hrl
      have f0 := blk_cell h1 0
      have f1 := blk_cell h1 1
      have f2 := blk_cell h1 2
      have hn : (n : Int) ≤ 1099511627776 := by omega
      have hnm : (n : Int) ≤ (most : Int) := by omega
      have hnm2 : n ≤ most := g2
      clear hr g1 g3 g4 hm2 hrl e0 hs0
      go_enter Try.func114, Try.ntmps114
      go_wp2_with (first | (go_at_call 102; (with_reducible refine hG.mono ?_); rintro e w1 ⟨rfl, HB1⟩; have h11 := blk_below h1 HB1; have f10 := blk_cell h11 0; have f11 := blk_cell h11 1; have f12 := blk_cell h11 2; have f13 := blk_frozen h11 2; have f14 := blk_frozen h11 0))
      go_ret
      refine ⟨rfl, ⟨cutA A c k, c - k, ?_, hSt⟩, ((Gb.of_below HB1).set_ 2 _).set_ 0 _⟩
      rw [HRL.out]
      exact blk_set (blk_set h11 2 _) 0 _
    | error z =>
      have e0 : cNum most b true = (0, b, false) := by rw [cNum, if_pos rfl, hr]
      rw [e0]
      obtain ⟨m, hm2⟩ : ∃ m, b.length = m := ⟨_, rfl⟩
      have HM := hide hm2
      rw [hm2] at hG h1
      have f0 := blk_cell h1 0
      have f1 := blk_cell h1 1
      have f2 := blk_cell h1 2
      have f3 := blk_frozen h1 2
      rcases rdNum_err _ _ _ _ hr with ⟨rfl, h3⟩ | ⟨h3, h4, rfl⟩
      · have h3i : ¬ (getErr b : Int) = 0 := by omega
        generalize getErr b = e0 at *
        generalize gK b = k at *
        generalize gN b = n at *
        clear hr hm2 hs0
        go_enter Try.func114, Try.ntmps114
        go_wp2_with (first | (go_at_call 102; (with_reducible refine hG.mono ?_); rintro e w1 ⟨rfl, HB1⟩; have h11 := blk_below h1 HB1; have f10 := blk_cell h11 0; have f11 := blk_cell h11 1; have f12 := blk_cell h11 2; have f13 := blk_frozen h11 2))
        go_ret
        refine ⟨rfl, ⟨A, c, ?_, h2⟩, (Gb.of_below HB1).set_ 2 _⟩
        rw [HM.out]
        exact blk_set h11 2 _
      · rw [h3] at hG
        have h4i : ¬ (gN b : Int) ≤ (most : Int) := by omega
        have h4n : ¬ gN b ≤ most := by omega
        generalize gK b = k at *
        generalize gN b = n at *
        clear hr hm2 h3 h4 hs0
        go_enter Try.func114, Try.ntmps114
        go_wp2_with (first | (go_at_call 102; (with_reducible refine hG.mono ?_); rintro e w1 ⟨rfl, HB1⟩; have h11 := blk_below h1 HB1; have f10 := blk_cell h11 0; have f11 := blk_cell h11 1; have f12 := blk_cell h11 2; have f13 := blk_frozen h11 2))
        go_ret
        refine ⟨rfl, ⟨A, c, ?_, h2⟩, (Gb.of_below HB1).set_ 2 _⟩
        rw [HM.out]
        exact blk_set h11 2 _
set_option maxRecDepth 100000 in
set_option maxHeartbeats 800000 in
theorem take_any (w0 : World) (g n : Nat) (ni : Int) (hni0 : ni = (n : Int)) (b : List UInt8) (key : ByteArray) (ok : Bool) (w : World) (hs : Cu w0 g b key ok w) (hB : Below w0.heap.size w0 w) (hg : w0.heap.size ≤ g) (hn : n ≤ 1099511627776) :
    Calls Try.prog 115 #[.pointer (some ⟨g, 0, none⟩), .int .i64 ni] w fun e w' => e = .returned (.string (strB (cTake n b ok).1)) ∧ Cu w0 g (cTake n b ok).2.1 key (cTake n b ok).2.2 w' ∧ Gb g w0 w w' := by
  subst hni0
  obtain ⟨A, c, h1, h2⟩ := hs
  have hx := h2 w hB
  by_cases ho : ok = true ∧ n ≤ b.length
  · obtain ⟨rfl, hnb⟩ := ho
    have e0 : cTake n b true = (b.take n, b.drop n, true) := by rw [cTake, if_pos ⟨rfl, hnb⟩]
    rw [e0]
    have hle := hx.le
    have hmx := hx.max
    have hSt := h2.drop n hnb
    have hx2 : RdB (w.setCell ⟨g, 2, none⟩ (.bool true)) A c (b.take n) := (h2 _ (hB.setCell (p := ⟨g, 2, none⟩) hg _)).take n hnb
    have hCv := hx2.toStr (P := Try.prog) 23 5 9 Try.underlying23 Try.underlying5 Try.underlying9
    have hsl := fun W => slice_lo 23 5 Try.underlying23 (i := _) rfl rfl A b.length c n hnb W
    have hsh := fun W => slice_hi 23 5 Try.underlying23 (i := _) rfl rfl A b.length c n (by omega) W
    have hrl : (b.drop n).length = b.length - n := List.length_drop
    have htl : (b.take n).length = n := by rw [List.length_take]; omega
    obtain ⟨m, hm2⟩ : ∃ m, b.length = m := ⟨_, rfl⟩
    rw [hm2] at hsl hsh h1 hnb hle hrl hmx
    have HRL := hide hrl
    have f0 := blk_cell h1 0
    have f1 := blk_cell h1 1
    have f2 := blk_cell h1 2
    have f3 := blk_frozen h1 2
    have f4 := blk_frozen h1 0
    have hni : (n : Int) ≤ (m : Int) := by omega
    rw [htl] at hCv
    clear hm2 hrl htl e0
    go_enter Try.func115, Try.ntmps115
    go_wp2
    go_ret
    refine ⟨rfl, ⟨cutA A c n, c - n, ?_, hSt⟩, ((Gb.refl g w0 w).set_ 2 _).set_ 0 _⟩
    rw [HRL.out]
    exact blk_set (blk_set h1 2 _) 0 _
  · have e0 : cTake n b ok = ([], b, false) := by rw [cTake, if_neg ho]
    rw [e0]
    have e1 : strB [] = ByteArray.empty := rfl
    rw [e1]
    obtain ⟨m, hm2⟩ : ∃ m, b.length = m := ⟨_, rfl⟩
    have HM := hide hm2
    rw [hm2] at h1 ho
    have f0 := blk_cell h1 0
    have f1 := blk_cell h1 1
    have f2 := blk_cell h1 2
    have f3 := blk_frozen h1 2
    clear hm2 e0 e1
    cases ok with
    | false =>
      clear ho
      go_enter Try.func115, Try.ntmps115
      go_wp2
      go_ret
      refine ⟨rfl, ⟨A, c, ?_, h2⟩, (Gb.refl g w0 w).set_ 2 _⟩
      rw [HM.out]
      exact blk_set h1 2 _
    | true =>
      have hnn : ¬ n ≤ m := fun h => ho ⟨rfl, h⟩
      have hni : ¬ (n : Int) ≤ (m : Int) := by omega
      clear ho
      go_enter Try.func115, Try.ntmps115
      go_wp2
      go_ret
      refine ⟨rfl, ⟨A, c, ?_, h2⟩, (Gb.refl g w0 w).set_ 2 _⟩
      rw [HM.out]
      exact blk_set h1 2 _
end Go.Proofs.Ytefcepjffeiaoaa
end

section
/- Block: the walk of the cursor's entry. -/
namespace Go.Proofs.Ytefcepjffeiaoaa
open Go.RowKit Go.Proofs.YtefcepjffeiaoaaW.PrintWords
set_option linter.unusedVariables false

theorem Gb.new_ {g : Nat} {w0 W W1 : World} (h : Gb g w0 W W1) {b : Nat} (hb : W.heap.size ≤ b) (j : Nat) (v : Value) : Gb g w0 W (W1.setCell ⟨b, j, none⟩ v) :=
  ⟨⟨h.1.os, h.1.tape, h.1.output, by simpa [World.setCell] using h.1.size, fun i hi hne => (Below.heap_setCell W1 ⟨b, j, none⟩ v i (fun e => by have : i = b := e; omega)).trans (h.1.block i hi hne)⟩, fun B h1 h2 => (h.2 B h1 h2).setCell (p := ⟨b, j, none⟩) (Nat.le_trans h2 hb) v⟩
theorem cNum_off (most : Nat) (b : List UInt8) : cNum most b false = (0, b, false) := rfl
theorem cTake_off (n : Nat) (b : List UInt8) : cTake n b false = ([], b, false) := rfl
theorem cNum_on (most : Nat) (b : List UInt8) (n : Nat) (r : List UInt8) (h : cNum most b true = (n, r, true)) : rdNum most 21 b = .ok (n, r) := by
  unfold cNum at h
  rw [if_pos rfl] at h
  cases hr : rdNum most 21 b with
  | ok p => rw [hr] at h; obtain ⟨a, c⟩ := p; simp only [Prod.mk.injEq, and_true] at h; rw [h.1, h.2]
  | error z => rw [hr] at h; simp at h
theorem cNum_err (most : Nat) (b : List UInt8) (n : Nat) (r : List UInt8) (h : cNum most b true = (n, r, false)) : ∃ z, rdNum most 21 b = .error z := by
  unfold cNum at h
  rw [if_pos rfl] at h
  cases hr : rdNum most 21 b with
  | ok p => rw [hr] at h; obtain ⟨a, c⟩ := p; simp at h
  | error z => exact ⟨z, rfl⟩
theorem cTake_on (n : Nat) (b s r : List UInt8) (h : cTake n b true = (s, r, true)) : rdTake n b = .ok (s, r) ∧ s.length = n := by
  unfold cTake at h
  split at h
  · next h1 =>
    simp only [Prod.mk.injEq, and_true] at h
    obtain ⟨rfl, rfl⟩ := h
    exact ⟨by rw [rdTake, if_neg (by omega)], by rw [List.length_take]; omega⟩
  · simp at h
theorem cTake_err (n : Nat) (b s r : List UInt8) (h : cTake n b true = (s, r, false)) : ∃ z, rdTake n b = .error z := by
  unfold cTake at h
  split at h
  · simp at h
  · next h1 =>
    have : b.length < n := by
      rcases Nat.lt_or_ge b.length n with h2 | h2
      · exact h2
      · exact absurd ⟨rfl, h2⟩ h1
    exact ⟨8, by rw [rdTake, if_pos this]⟩
/-- the whole way, plainly -/
theorem ent_chain (key b b1 b2 b3 b4 b5 b6 b7 kd rest val : List UInt8) (n k q v : Nat) (o1 o2 o3 o4 o5 o6 o7 : Bool) (h1 : cNum 65536 b true = (n, b1, o1)) (h2 : cNum 65536 b1 o1 = (k, b2, o2)) (h3 : cNum 1099511627776 b2 o2 = (q, b3, o3)) (h4 : cNum 65536 b3 o3 = (v, b4, o4))
    (h5 : cTake 1 b4 o4 = (kd, b5, o5)) (h6 : cTake k b5 o5 = (rest, b6, o6)) (h7 : cTake v b6 o6 = (val, b7, o7)) :
    (o7 = true ∧ n ≤ key.length → kd.length = 1 ∧ rdEnt key b = .ok ((⟨(key.take n ++ rest).toArray⟩, (q : Int), ((kd.getD 0 0).toNat : Int), ⟨val.toArray⟩), b7)) ∧ (¬ (o7 = true ∧ n ≤ key.length) → ∃ z, rdEnt key b = .error z) := by
  cases o1 with
  | false =>
    obtain ⟨z, e⟩ := cNum_err _ _ _ _ h1
    rw [cNum_off] at h2; simp only [Prod.mk.injEq] at h2; obtain ⟨rfl, rfl, rfl⟩ := h2
    rw [cNum_off] at h3; simp only [Prod.mk.injEq] at h3; obtain ⟨rfl, rfl, rfl⟩ := h3
    rw [cNum_off] at h4; simp only [Prod.mk.injEq] at h4; obtain ⟨rfl, rfl, rfl⟩ := h4
    rw [cTake_off] at h5; simp only [Prod.mk.injEq] at h5; obtain ⟨rfl, rfl, rfl⟩ := h5
    rw [cTake_off] at h6; simp only [Prod.mk.injEq] at h6; obtain ⟨rfl, rfl, rfl⟩ := h6
    rw [cTake_off] at h7; simp only [Prod.mk.injEq] at h7; obtain ⟨rfl, rfl, rfl⟩ := h7
    exact ⟨fun h => absurd h.1 (by simp), fun _ => ⟨z, by rw [rdEnt, e]⟩⟩
  | true =>
  have e1 := cNum_on _ _ _ _ h1
  cases o2 with
  | false =>
    obtain ⟨z, e⟩ := cNum_err _ _ _ _ h2
    rw [cNum_off] at h3; simp only [Prod.mk.injEq] at h3; obtain ⟨rfl, rfl, rfl⟩ := h3
    rw [cNum_off] at h4; simp only [Prod.mk.injEq] at h4; obtain ⟨rfl, rfl, rfl⟩ := h4
    rw [cTake_off] at h5; simp only [Prod.mk.injEq] at h5; obtain ⟨rfl, rfl, rfl⟩ := h5
    rw [cTake_off] at h6; simp only [Prod.mk.injEq] at h6; obtain ⟨rfl, rfl, rfl⟩ := h6
    rw [cTake_off] at h7; simp only [Prod.mk.injEq] at h7; obtain ⟨rfl, rfl, rfl⟩ := h7
    exact ⟨fun h => absurd h.1 (by simp), fun _ => ⟨z, by rw [rdEnt, e1]; simp only; rw [e]⟩⟩
  | true =>
  have e2 := cNum_on _ _ _ _ h2
  cases o3 with
  | false =>
    obtain ⟨z, e⟩ := cNum_err _ _ _ _ h3
    rw [cNum_off] at h4; simp only [Prod.mk.injEq] at h4; obtain ⟨rfl, rfl, rfl⟩ := h4
    rw [cTake_off] at h5; simp only [Prod.mk.injEq] at h5; obtain ⟨rfl, rfl, rfl⟩ := h5
    rw [cTake_off] at h6; simp only [Prod.mk.injEq] at h6; obtain ⟨rfl, rfl, rfl⟩ := h6
    rw [cTake_off] at h7; simp only [Prod.mk.injEq] at h7; obtain ⟨rfl, rfl, rfl⟩ := h7
    exact ⟨fun h => absurd h.1 (by simp), fun _ => ⟨z, by rw [rdEnt, e1]; simp only; rw [e2]; simp only; rw [e]⟩⟩
  | true =>
  have e3 := cNum_on _ _ _ _ h3
  cases o4 with
  | false =>
    obtain ⟨z, e⟩ := cNum_err _ _ _ _ h4
    rw [cTake_off] at h5; simp only [Prod.mk.injEq] at h5; obtain ⟨rfl, rfl, rfl⟩ := h5
    rw [cTake_off] at h6; simp only [Prod.mk.injEq] at h6; obtain ⟨rfl, rfl, rfl⟩ := h6
    rw [cTake_off] at h7; simp only [Prod.mk.injEq] at h7; obtain ⟨rfl, rfl, rfl⟩ := h7
    exact ⟨fun h => absurd h.1 (by simp), fun _ => ⟨z, by rw [rdEnt, e1]; simp only; rw [e2]; simp only; rw [e3]; simp only; rw [e]⟩⟩
  | true =>
  have e4 := cNum_on _ _ _ _ h4
  cases o5 with
  | false =>
    obtain ⟨z, e⟩ := cTake_err _ _ _ _ h5
    rw [cTake_off] at h6; simp only [Prod.mk.injEq] at h6; obtain ⟨rfl, rfl, rfl⟩ := h6
    rw [cTake_off] at h7; simp only [Prod.mk.injEq] at h7; obtain ⟨rfl, rfl, rfl⟩ := h7
    exact ⟨fun h => absurd h.1 (by simp), fun _ => ⟨z, by rw [rdEnt, e1]; simp only; rw [e2]; simp only; rw [e3]; simp only; rw [e4]; simp only; rw [e]⟩⟩
  | true =>
  obtain ⟨e5, l5⟩ := cTake_on _ _ _ _ h5
  cases o6 with
  | false =>
    obtain ⟨z, e⟩ := cTake_err _ _ _ _ h6
    rw [cTake_off] at h7; simp only [Prod.mk.injEq] at h7; obtain ⟨rfl, rfl, rfl⟩ := h7
    exact ⟨fun h => absurd h.1 (by simp), fun _ => ⟨z, by rw [rdEnt, e1]; simp only; rw [e2]; simp only; rw [e3]; simp only; rw [e4]; simp only; rw [e5]; simp only; rw [e]⟩⟩
  | true =>
  obtain ⟨e6, l6⟩ := cTake_on _ _ _ _ h6
  cases o7 with
  | false =>
    obtain ⟨z, e⟩ := cTake_err _ _ _ _ h7
    exact ⟨fun h => absurd h.1 (by simp), fun _ => ⟨z, by rw [rdEnt, e1]; simp only; rw [e2]; simp only; rw [e3]; simp only; rw [e4]; simp only; rw [e5]; simp only; rw [e6]; simp only; rw [e]⟩⟩
  | true =>
  obtain ⟨e7, l7⟩ := cTake_on _ _ _ _ h7
  refine ⟨fun h => ⟨l5, ?_⟩, fun h => ⟨21, ?_⟩⟩
  · rw [rdEnt, e1]; simp only; rw [e2]; simp only; rw [e3]; simp only; rw [e4]; simp only; rw [e5]; simp only; rw [e6]; simp only; rw [e7]; simp only; rw [if_neg (by omega)]
  · rw [rdEnt, e1]; simp only; rw [e2]; simp only; rw [e3]; simp only; rw [e4]; simp only; rw [e5]; simp only; rw [e6]; simp only; rw [e7]; simp only
    rw [if_pos (by rcases Nat.lt_or_ge key.length n with h2 | h2; exact h2; exact absurd ⟨rfl, h2⟩ h)]
end Go.Proofs.Ytefcepjffeiaoaa
end

section
/- Block: the walk of the cursor's entry. -/
namespace Go.Proofs.Ytefcepjffeiaoaa
open Go.RowKit Go.Proofs.YtefcepjffeiaoaaW.PrintWords
set_option linter.unusedVariables false

abbrev eb (s : ByteArray) (q k : Int) (v : ByteArray) : Obj := .cells #[.string s, .int .i64 q, .int .i64 k, .string v] 43 (0, 0)
theorem eb_read {w : World} {g : Nat} {s : ByteArray} {q k : Int} {v : ByteArray} (h : w.heap[g]? = some (eb s q k v)) : w.cell? ⟨g, 0, none⟩ = some (.string s) ∧ w.cell? ⟨g, 1, none⟩ = some (.int .i64 q) ∧ w.cell? ⟨g, 2, none⟩ = some (.int .i64 k) ∧ w.cell? ⟨g, 3, none⟩ = some (.string v) ∧ w.frozen? ⟨g, 0, none⟩ = false ∧ w.frozen? ⟨g, 1, none⟩ = false ∧ w.frozen? ⟨g, 2, none⟩ = false ∧ w.frozen? ⟨g, 3, none⟩ = false :=
  ⟨blk_cell h 0, blk_cell h 1, blk_cell h 2, blk_cell h 3, blk_frozen h 0, blk_frozen h 1, blk_frozen h 2, blk_frozen h 3⟩
theorem strB_size (l : List UInt8) : (strB l).size = l.length := by simp [strB, ByteArray.size]
theorem cTake_le (n : Nat) (b : List UInt8) (ok : Bool) : (cTake n b ok).1.length ≤ n := by
  unfold cTake
  split
  · simp only [List.length_take]; omega
  · exact Nat.zero_le _
theorem ext_key (key : ByteArray) (n : Nat) (rest : List UInt8) : key.extract 0 n ++ strB rest = ⟨((bl key).take n ++ rest).toArray⟩ := by
  apply bl_inj
  rw [bl_mk]
  simp [bl, strB]
theorem one_pos (u : UInt8) : 0 < (⟨#[u]⟩ : ByteArray).size := Nat.zero_lt_one
abbrev kOf (u : UInt8) : Int := wrap64 (((⟨#[u]⟩ : ByteArray)[0]'(one_pos u)).toNat : Int)
theorem kind_key (u : UInt8) : kOf u = (u.toNat : Int) := by
  have : (⟨#[u]⟩ : ByteArray)[0]'(one_pos u) = u := rfl
  unfold kOf
  rw [this]
  have := u.toNat_lt
  unfold wrap64
  omega
set_option maxRecDepth 100000 in
set_option maxHeartbeats 1600000 in
theorem entry_any (w0 : World) (g : Nat) (b : List UInt8) (key : ByteArray) (w : World) (hs : Cu w0 g b key true w) (hB : Below w0.heap.size w0 w) (hg : w0.heap.size ≤ g) (hk : key.size ≤ 140737488355328) :
    Calls Try.prog 110 #[.pointer (some ⟨g, 0, none⟩)] w fun e w' => ∃ x : Ent, e = .returned (.agg #[.string x.1, .int .i64 x.2.1, .int .i64 x.2.2.1, .string x.2.2.2]) ∧ Gb g w0 w w' ∧
      (∀ y r, rdEnt (bl key) b = .ok (y, r) → x = y ∧ Cu w0 g r y.1 true w') ∧ (∀ z, rdEnt (bl key) b = .error z → ∃ b', Cu w0 g b' key false w') := by
  rcases h1 : cNum 65536 b true with ⟨n, b1, o1⟩
  rcases h2 : cNum 65536 b1 o1 with ⟨k, b2, o2⟩
  rcases h3 : cNum 1099511627776 b2 o2 with ⟨q, b3, o3⟩
  rcases h4 : cNum 65536 b3 o3 with ⟨v, b4, o4⟩
  rcases h5 : cTake 1 b4 o4 with ⟨kd, b5, o5⟩
  rcases h6 : cTake k b5 o5 with ⟨rest, b6, o6⟩
  rcases h7 : cTake v b6 o6 with ⟨val, b7, o7⟩
  have hch := ent_chain (bl key) b b1 b2 b3 b4 b5 b6 b7 kd rest val n k q v o1 o2 o3 o4 o5 o6 o7 h1 h2 h3 h4 h5 h6 h7
  have n1 := cNum_le 65536 b true
  have n2 := cNum_le 65536 b1 o1
  have n4 := cNum_le 65536 b3 o3
  have N1 := fun W hs hB => number_any w0 g 65536 65536 rfl b key true W hs hB (by decide)
  have N2 := fun W hs hB => number_any w0 g 65536 65536 rfl b1 key o1 W hs hB (by decide)
  have N3 := fun W hs hB => number_any w0 g 1099511627776 1099511627776 rfl b2 key o2 W hs hB (by decide)
  have N4 := fun W hs hB => number_any w0 g 65536 65536 rfl b3 key o3 W hs hB (by decide)
  have T5 := fun W hs hB => take_any w0 g 1 1 rfl b4 key o4 W hs hB hg (by decide)
  rw [h1] at n1 N1
  rw [h2] at n2 N2
  rw [h3] at N3
  rw [h4] at n4 N4
  rw [h5] at T5
  simp only at n1 n2 n4 N1 N2 N3 N4 T5
  have T6 := fun W hs hB => take_any w0 g k (k : Int) rfl b5 key o5 W hs hB hg (by omega)
  have T7 := fun W hs hB => take_any w0 g v (v : Int) rfl b6 key o6 W hs hB hg (by omega)
  rw [h6] at T6
  rw [h7] at T7
  simp only at T6 T7
  rw [bl_length] at hch
  have HCH := hide hch
  have n6 := cTake_le k b5 o5
  rw [h6] at n6
  simp only at n6
  have hne3 : w.heap.size ≠ g := by have := hs.lt; omega
  have hgl := hs.lt
  have hA := below_alloc w (eb ⟨#[]⟩ 0 0 ⟨#[]⟩)
  have hs0 := hs.below hA
  have hE0 : (w.alloc (eb ⟨#[]⟩ 0 0 ⟨#[]⟩)).heap[w.heap.size]? = some (eb ⟨#[]⟩ 0 0 ⟨#[]⟩) := heap_alloc_new w _
  have B0 := hB.alloc hB.size (eb ⟨#[]⟩ 0 0 ⟨#[]⟩)
  have G0 : Gb g w0 w (w.alloc (eb ⟨#[]⟩ 0 0 ⟨#[]⟩)) := Gb.of_below hA
  have hne : (some w.heap.size : Option Nat) ≠ some g := fun e => by injection e with e; omega
  have hne2 : g ≠ w.heap.size := by omega
  have hBs := hB.size
  clear h1 h2 h3 h4 h5 h6 h7 hch
  by_cases hok : o7 = true ∧ n ≤ key.size
  · obtain ⟨hkd, hrd⟩ := HCH.out.1 hok
    obtain ⟨rfl, hnk⟩ := hok
    obtain ⟨u, rfl⟩ : ∃ u, kd = [u] := by
      match kd, hkd with
      | [u], _ => exact ⟨u, rfl⟩
    have HRD := hide hrd
    have hnki : (n : Int) ≤ (key.size : Int) := by omega
    have hu : strB [u] = ⟨#[u]⟩ := rfl
    have hrs : ¬ 9223372036854775807 < n + (strB rest).size := by rw [strB_size]; omega
    rw [hu] at T5
    clear hrd hkd hu HCH
    go_enter Try.func110, Try.ntmps110
    go_wp2_with (first | (go_at_call 114; first | ((with_reducible refine (N1 _ hs0 B0).mono ?_); rintro e w1 ⟨rfl, hs1, g1⟩; have hE1 := blk_grown hE0 g1.1 hne; have B1 := B0.trans (g1.2 _ hg B0.size); have G1 := G0.trans g1) | ((with_reducible refine (N2 _ hs1 B1).mono ?_); rintro e w2 ⟨rfl, hs2, g2⟩; have hE2 := blk_grown hE1 g2.1 hne; have B2 := B1.trans (g2.2 _ hg B1.size); have G2 := G1.trans g2) | ((with_reducible refine (N3 _ hs2 B2).mono ?_); rintro e w3 ⟨rfl, hs3, g3⟩; have hE3 := blk_grown hE2 g3.1 hne; have B3 := B2.trans (g3.2 _ hg B2.size); have G3 := G2.trans g3; have f31 := blk_frozen hE3 1; have f32 := blk_cell hE3 1) | ((with_reducible refine (N4 _ (hs3.far hne2 _) (B3.setCell (p := ⟨w.heap.size, 1, none⟩) hBs _)).mono ?_); rintro e w4 ⟨rfl, hs4, g4⟩; have hE4 : w4.heap[w.heap.size]? = some (eb ⟨#[]⟩ (q : Int) 0 ⟨#[]⟩) := blk_grown (blk_set hE3 1 (.int .i64 (q : Int))) g4.1 hne; have B4 := (B3.setCell (p := ⟨w.heap.size, 1, none⟩) hBs (.int .i64 (q : Int))).trans (g4.2 _ hg (B3.setCell (p := ⟨w.heap.size, 1, none⟩) hBs (.int .i64 (q : Int))).size); have G4 := (G3.new_ (Nat.le_refl _) 1 (.int .i64 (q : Int))).trans g4)) | (go_at_call 115; first | ((with_reducible refine (T5 _ hs4 B4).mono ?_); rintro e w5 ⟨rfl, hs5, g5⟩; have hE5 := blk_grown hE4 g5.1 hne; have B5 := B4.trans (g5.2 _ hg B4.size); have G5 := G4.trans g5) | ((with_reducible refine (T6 _ hs5 B5).mono ?_); rintro e w6 ⟨rfl, hs6, g6⟩; have hE6 := blk_grown hE5 g6.1 hne; have B6 := B5.trans (g6.2 _ hg B5.size); have G6 := G5.trans g6) | ((with_reducible refine (T7 _ hs6 B6).mono ?_); rintro e w7 ⟨rfl, hs7, g7⟩; have hE7 := blk_grown hE6 g7.1 hne; have B7 := B6.trans (g7.2 _ hg B6.size); have G7 := G6.trans g7; obtain ⟨e0, e1, e2, e3, y0, y1, y2, y3⟩ := eb_read hE7; obtain ⟨A7, c7, hc7, hst7⟩ := hs7; have z0 := blk_cell hc7 0; have z1 := blk_cell hc7 1; have z2 := blk_cell hc7 2; have z3 := blk_frozen hc7 1; have z4 := blk_frozen hc7 2)))
    have hF := blk_set (blk_set (blk_set (blk_set (blk_set (blk_far (p := ⟨g, 1, none⟩) (blk_set (blk_far (p := ⟨g, 2, none⟩) (blk_set hE7 3 (.string (strB val))) hne3 (.bool true)) 2 (.int .i64 (kOf u))) hne3 (.string (key.extract 0 n ++ strB rest))) 0 (.string (key.extract 0 n ++ strB rest))) 0 (.string (key.extract 0 n ++ strB rest))) 1 (.int .i64 (q : Int))) 2 (.int .i64 (kOf u))) 3 (.string (strB val))
    refine bodyPost_ret (v := .agg #[.string (key.extract 0 n ++ strB rest), .int .i64 (q : Int), .int .i64 (kOf u), .string (strB val)]) (results_cell_row Try.results110 _ _ w.heap.size _ _ _ _ rfl hF Try.underlying43 rfl rfl) rfl ⟨(key.extract 0 n ++ strB rest, (q : Int), kOf u, strB val), rfl, ?_, fun y r h => ?_, fun z' h => (by rw [HRD.out] at h; cases h)⟩
    · exact (((((((((G7.new_ (Nat.le_refl _) _ _).set_ _ _).new_ (Nat.le_refl _) _ _).set_ _ _).new_ (Nat.le_refl _) _ _).new_ (Nat.le_refl _) _ _).new_ (Nat.le_refl _) _ _).new_ (Nat.le_refl _) _ _).new_ (Nat.le_refl _) _ _)
    · rw [HRD.out] at h
      injection h with h
      injection h with ha hb
      subst ha hb
      rw [← ext_key key n rest]
      refine ⟨by rw [kind_key]; rfl, A7, c7, ?_, hst7⟩
      exact blk_far (p := ⟨w.heap.size, 3, none⟩) (blk_far (p := ⟨w.heap.size, 2, none⟩) (blk_far (p := ⟨w.heap.size, 1, none⟩) (blk_far (p := ⟨w.heap.size, 0, none⟩) (blk_far (p := ⟨w.heap.size, 0, none⟩) (blk_set (blk_far (p := ⟨w.heap.size, 2, none⟩) (blk_set (blk_far (p := ⟨w.heap.size, 3, none⟩) hc7 hne2 _) 2 _) hne2 _) 1 _) hne2 _) hne2 _) hne2 _) hne2 _) hne2 _
  · obtain ⟨z, hz⟩ := HCH.out.2 hok
    have HZ := hide hz
    clear hz HCH
    cases o7 with
    | false =>
      clear hok
      go_enter Try.func110, Try.ntmps110
      go_wp2_with (first | (go_at_call 114; first | ((with_reducible refine (N1 _ hs0 B0).mono ?_); rintro e w1 ⟨rfl, hs1, g1⟩; have hE1 := blk_grown hE0 g1.1 hne; have B1 := B0.trans (g1.2 _ hg B0.size); have G1 := G0.trans g1) | ((with_reducible refine (N2 _ hs1 B1).mono ?_); rintro e w2 ⟨rfl, hs2, g2⟩; have hE2 := blk_grown hE1 g2.1 hne; have B2 := B1.trans (g2.2 _ hg B1.size); have G2 := G1.trans g2) | ((with_reducible refine (N3 _ hs2 B2).mono ?_); rintro e w3 ⟨rfl, hs3, g3⟩; have hE3 := blk_grown hE2 g3.1 hne; have B3 := B2.trans (g3.2 _ hg B2.size); have G3 := G2.trans g3; have f31 := blk_frozen hE3 1; have f32 := blk_cell hE3 1) | ((with_reducible refine (N4 _ (hs3.far hne2 _) (B3.setCell (p := ⟨w.heap.size, 1, none⟩) hBs _)).mono ?_); rintro e w4 ⟨rfl, hs4, g4⟩; have hE4 : w4.heap[w.heap.size]? = some (eb ⟨#[]⟩ (q : Int) 0 ⟨#[]⟩) := blk_grown (blk_set hE3 1 (.int .i64 (q : Int))) g4.1 hne; have B4 := (B3.setCell (p := ⟨w.heap.size, 1, none⟩) hBs (.int .i64 (q : Int))).trans (g4.2 _ hg (B3.setCell (p := ⟨w.heap.size, 1, none⟩) hBs (.int .i64 (q : Int))).size); have G4 := (G3.new_ (Nat.le_refl _) 1 (.int .i64 (q : Int))).trans g4)) | (go_at_call 115; first | ((with_reducible refine (T5 _ hs4 B4).mono ?_); rintro e w5 ⟨rfl, hs5, g5⟩; have hE5 := blk_grown hE4 g5.1 hne; have B5 := B4.trans (g5.2 _ hg B4.size); have G5 := G4.trans g5) | ((with_reducible refine (T6 _ hs5 B5).mono ?_); rintro e w6 ⟨rfl, hs6, g6⟩; have hE6 := blk_grown hE5 g6.1 hne; have B6 := B5.trans (g6.2 _ hg B5.size); have G6 := G5.trans g6) | ((with_reducible refine (T7 _ hs6 B6).mono ?_); rintro e w7 ⟨rfl, hs7, g7⟩; have hE7 := blk_grown hE6 g7.1 hne; have B7 := B6.trans (g7.2 _ hg B6.size); have G7 := G6.trans g7; obtain ⟨e0, e1, e2, e3, y0, y1, y2, y3⟩ := eb_read hE7; obtain ⟨A7, c7, hc7, hst7⟩ := hs7; have z0 := blk_cell hc7 0; have z1 := blk_cell hc7 1; have z2 := blk_cell hc7 2; have z3 := blk_frozen hc7 1; have z4 := blk_frozen hc7 2)))
      have hF := blk_set (blk_set (blk_set (blk_set (blk_far (p := ⟨g, 2, none⟩) (blk_set hE7 3 (.string (strB val))) hne3 (.bool false)) 0 (.string ⟨#[]⟩)) 1 (.int .i64 (q : Int))) 2 (.int .i64 0)) 3 (.string (strB val))
      refine bodyPost_ret (v := .agg #[.string ⟨#[]⟩, .int .i64 (q : Int), .int .i64 0, .string (strB val)]) (results_cell_row Try.results110 _ _ w.heap.size _ _ _ _ rfl hF Try.underlying43 rfl rfl) rfl ⟨(⟨#[]⟩, (q : Int), 0, strB val), rfl, ?_, fun y r h => (by rw [HZ.out] at h; cases h), fun z' _ => ⟨b7, A7, c7, ?_, hst7⟩⟩
      · exact ((((((G7.new_ (Nat.le_refl _) _ _).set_ _ _).new_ (Nat.le_refl _) _ _).new_ (Nat.le_refl _) _ _).new_ (Nat.le_refl _) _ _).new_ (Nat.le_refl _) _ _)
      · exact blk_far (p := ⟨w.heap.size, 3, none⟩) (blk_far (p := ⟨w.heap.size, 2, none⟩) (blk_far (p := ⟨w.heap.size, 1, none⟩) (blk_far (p := ⟨w.heap.size, 0, none⟩) (blk_set (blk_far (p := ⟨w.heap.size, 3, none⟩) hc7 hne2 _) 2 _) hne2 _) hne2 _) hne2 _) hne2 _
    | true =>
      have hnk : ¬ n ≤ key.size := fun h => hok ⟨rfl, h⟩
      have hnki : ¬ (n : Int) ≤ (key.size : Int) := by omega
      clear hok
      go_enter Try.func110, Try.ntmps110
      go_wp2_with (first | (go_at_call 114; first | ((with_reducible refine (N1 _ hs0 B0).mono ?_); rintro e w1 ⟨rfl, hs1, g1⟩; have hE1 := blk_grown hE0 g1.1 hne; have B1 := B0.trans (g1.2 _ hg B0.size); have G1 := G0.trans g1) | ((with_reducible refine (N2 _ hs1 B1).mono ?_); rintro e w2 ⟨rfl, hs2, g2⟩; have hE2 := blk_grown hE1 g2.1 hne; have B2 := B1.trans (g2.2 _ hg B1.size); have G2 := G1.trans g2) | ((with_reducible refine (N3 _ hs2 B2).mono ?_); rintro e w3 ⟨rfl, hs3, g3⟩; have hE3 := blk_grown hE2 g3.1 hne; have B3 := B2.trans (g3.2 _ hg B2.size); have G3 := G2.trans g3; have f31 := blk_frozen hE3 1; have f32 := blk_cell hE3 1) | ((with_reducible refine (N4 _ (hs3.far hne2 _) (B3.setCell (p := ⟨w.heap.size, 1, none⟩) hBs _)).mono ?_); rintro e w4 ⟨rfl, hs4, g4⟩; have hE4 : w4.heap[w.heap.size]? = some (eb ⟨#[]⟩ (q : Int) 0 ⟨#[]⟩) := blk_grown (blk_set hE3 1 (.int .i64 (q : Int))) g4.1 hne; have B4 := (B3.setCell (p := ⟨w.heap.size, 1, none⟩) hBs (.int .i64 (q : Int))).trans (g4.2 _ hg (B3.setCell (p := ⟨w.heap.size, 1, none⟩) hBs (.int .i64 (q : Int))).size); have G4 := (G3.new_ (Nat.le_refl _) 1 (.int .i64 (q : Int))).trans g4)) | (go_at_call 115; first | ((with_reducible refine (T5 _ hs4 B4).mono ?_); rintro e w5 ⟨rfl, hs5, g5⟩; have hE5 := blk_grown hE4 g5.1 hne; have B5 := B4.trans (g5.2 _ hg B4.size); have G5 := G4.trans g5) | ((with_reducible refine (T6 _ hs5 B5).mono ?_); rintro e w6 ⟨rfl, hs6, g6⟩; have hE6 := blk_grown hE5 g6.1 hne; have B6 := B5.trans (g6.2 _ hg B5.size); have G6 := G5.trans g6) | ((with_reducible refine (T7 _ hs6 B6).mono ?_); rintro e w7 ⟨rfl, hs7, g7⟩; have hE7 := blk_grown hE6 g7.1 hne; have B7 := B6.trans (g7.2 _ hg B6.size); have G7 := G6.trans g7; obtain ⟨e0, e1, e2, e3, y0, y1, y2, y3⟩ := eb_read hE7; obtain ⟨A7, c7, hc7, hst7⟩ := hs7; have z0 := blk_cell hc7 0; have z1 := blk_cell hc7 1; have z2 := blk_cell hc7 2; have z3 := blk_frozen hc7 1; have z4 := blk_frozen hc7 2)))
      have hF := blk_set (blk_set (blk_set (blk_set (blk_far (p := ⟨g, 2, none⟩) (blk_set hE7 3 (.string (strB val))) hne3 (.bool false)) 0 (.string ⟨#[]⟩)) 1 (.int .i64 (q : Int))) 2 (.int .i64 0)) 3 (.string (strB val))
      refine bodyPost_ret (v := .agg #[.string ⟨#[]⟩, .int .i64 (q : Int), .int .i64 0, .string (strB val)]) (results_cell_row Try.results110 _ _ w.heap.size _ _ _ _ rfl hF Try.underlying43 rfl rfl) rfl ⟨(⟨#[]⟩, (q : Int), 0, strB val), rfl, ?_, fun y r h => (by rw [HZ.out] at h; cases h), fun z' _ => ⟨b7, A7, c7, ?_, hst7⟩⟩
      · exact ((((((G7.new_ (Nat.le_refl _) _ _).set_ _ _).new_ (Nat.le_refl _) _ _).new_ (Nat.le_refl _) _ _).new_ (Nat.le_refl _) _ _).new_ (Nat.le_refl _) _ _)
      · exact blk_far (p := ⟨w.heap.size, 3, none⟩) (blk_far (p := ⟨w.heap.size, 2, none⟩) (blk_far (p := ⟨w.heap.size, 1, none⟩) (blk_far (p := ⟨w.heap.size, 0, none⟩) (blk_set (blk_far (p := ⟨w.heap.size, 3, none⟩) hc7 hne2 _) 2 _) hne2 _) hne2 _) hne2 _) hne2 _
end Go.Proofs.Ytefcepjffeiaoaa
end

section
/- Block: the walk of told. -/
namespace Go.Proofs.Ytefcepjffeiaoaa
open Go.RowKit Go.Proofs.YtefcepjffeiaoaaW.PrintWords
set_option linter.unusedVariables false

theorem rdEnt_size (key b : List UInt8) (x : Ent) (r : List UInt8) (h : rdEnt key b = .ok (x, r)) : x.1.size ≤ key.length + 65536 := by
  unfold rdEnt at h
  split at h
  · cases h
  · split at h
    · cases h
    · next k r2 h2 =>
      have hk := (rdNum_ok _ _ _ _ _ h2).2.2.1 ▸ (rdNum_ok _ _ _ _ _ h2).2.1
      split at h
      · cases h
      · split at h
        · cases h
        · split at h
          · cases h
          · split at h
            · cases h
            · next rest r6 h6 =>
              have hr : rest.length ≤ k := by
                unfold rdTake at h6
                split at h6
                · cases h6
                · injection h6 with h6
                  injection h6 with h7 h8
                  subst h7
                  rw [List.length_take]; omega
              split at h
              · cases h
              · split at h
                · cases h
                · injection h with h
                  injection h with h9 h10
                  subst h9
                  show (⟨_⟩ : ByteArray).size ≤ _
                  rw [← bl_length, bl_mk, List.length_append, List.length_take]
                  omega
theorem rdEs_step (f : Nat) (key bb r : List UInt8) (x : Ent) (pre : List Ent) (hb : bb ≠ []) (h : rdEnt key bb = .ok (x, r)) : (rdEs (f + 1) key bb).map (pre ++ ·) = (rdEs f (bl x.1) r).map ((pre ++ [x]) ++ ·) := by
  rw [rdEs, if_neg hb, h]
  simp only [Option.map_map]
  congr 1
  funext l
  simp
theorem Cu.grown {w0 : World} {g : Nat} {b : List UInt8} {key : ByteArray} {ok : Bool} {W W' : World} (h : Cu w0 g b key ok W) {row : Option Nat} (hg : W.grownBy W' row) (hne : some g ≠ row) : Cu w0 g b key ok W' := by
  obtain ⟨A, c, h1, h2⟩ := h
  exact ⟨A, c, blk_grown h1 hg hne, h2⟩
theorem OwE.gb {g : Nat} {w w1 w0 : World} {base : Nat} {v : Value} {xs : List Ent} (h : OwE w base v xs) {b : List UInt8} {key : ByteArray} {ok : Bool} (hb : Cu w0 g b key ok w) {w2 : World} (hg : Gb g w2 w w1) : OwE w1 base v xs := by
  obtain ⟨A, c, h1, _⟩ := hb
  exact Kd.R_mono (Kd.R_grown (Kd.R_types h h1 (one_ne (by decide))) hg.1 (fun k hk e => hk.2 (by injection e))) (fun _ _ => trivial)
def lenOf : Value → Nat
  | .slice _ n _ => n
  | _ => 0
set_option maxRecDepth 100000 in
set_option maxHeartbeats 1600000 in
theorem told_any (A : Option Addr) (c : Nat) (b : List UInt8) (w : World) (hx : RdB w A c b) (hl : b.length ≤ 140737488355328) :
    Calls Try.prog 103 #[.slice A b.length c] w fun e w' => ∃ v, e = .returned v ∧ OwE w' w.heap.size v (toldE b) ∧ Below w.heap.size w w' := by
  have hle := hx.le
  cases hm : b.length with
  | zero =>
    have ht : toldE b = [] := by rw [toldE, if_pos (by omega)]
    rw [ht]
    clear hle hx ht
    go_enter Try.func103, Try.ntmps103
    go_wp2
    go_ret
    exact ⟨_, rfl, Ow.zero _ _ _ _, Below.refl _ _⟩
  | succ m1 =>
    obtain ⟨ad, rfl, hc⟩ := hx.at_ m1 (by omega)
    obtain ⟨u, hu⟩ : ∃ u, b.getD m1 0 = u := ⟨_, rfl⟩
    obtain ⟨m, hmm⟩ : ∃ m, m1 + 1 = m := ⟨_, rfl⟩
    have hu8 := u.toNat_lt
    have e1 : wrap64 ((m : Int) - 1) = (m1 : Int) := by unfold wrap64; omega
    obtain ⟨x2, hx2⟩ : ∃ x2 : Nat, 2 * u.toNat = x2 := ⟨_, rfl⟩
    have e3 : wrap64 (u.toNat : Int) = (u.toNat : Int) := by unfold wrap64; omega
    have hmi : (m1 : Int) < (m : Int) := by omega
    have hm1 : m1 < m := by omega
    have hm0 : ¬ m = 0 := by omega
    have hm0i : ¬ (m : Int) = 0 := by omega
    have hmb : ((m : Int) == 0) = false := beq_eq_false_iff_ne.2 hm0i
    have htold : toldE b = if m1 < x2 then [] else (rdEs 65 [] (b.take (m1 - x2))).getD [] := by
      rw [toldE, if_neg (by omega), hm, Nat.add_sub_cancel, hu, hx2]
    rw [hu] at hc
    by_cases hn : m1 < x2
    · rw [if_pos hn] at htold
      rw [htold]
      have e4 : wrap64 ((m1 : Int) - 2 * (u.toNat : Int)) = -(((x2 - m1 : Nat) : Int)) := by unfold wrap64; omega
      obtain ⟨d, hd⟩ : ∃ d, x2 - m1 = d := ⟨_, rfl⟩
      rw [hd] at e4
      have e5 : -(d : Int) < 0 := by omega
      have e6 : 0 < d := by omega
      clear hd
      rw [hmm]
      clear htold hx hu hx2 hm hle hl
      go_enter Try.func103, Try.ntmps103
      go_wp2
      go_ret
      exact ⟨_, rfl, Ow.zero _ _ _ _, Below.refl _ _⟩
    · rw [if_neg hn] at htold
      obtain ⟨E, hE⟩ : ∃ E : Nat, m1 - x2 = E := ⟨_, rfl⟩
      rw [hE] at htold
      have e4 : wrap64 ((m1 : Int) - 2 * (u.toNat : Int)) = (E : Int) := by unfold wrap64; omega
      have hEm : E ≤ b.length := by omega
      have htk := hx.take E hEm
      have htl : (b.take E).length = E := by rw [List.length_take]; omega
      have hsh := fun W => slice_hi 23 5 Try.underlying23 (i := _) rfl rfl (some ad) m c E (by omega) W
      have hEl : E ≤ 140737488355328 := by omega
      rw [hmm]
      generalize b.take E = B0 at *
      have HT := hide htold
      rw [htold]
      generalize hres : rdEs 65 [] B0 = res at *
      have HR := hide hres
      have B1 := below_alloc w (.cells #[.slice (some ad) E c, .string ⟨#[]⟩, .bool true] 143)
      have hCu0 : Cu w w.heap.size B0 ⟨#[]⟩ true (w.alloc (.cells #[.slice (some ad) E c, .string ⟨#[]⟩, .bool true] 143)) := ⟨some ad, c, by rw [htl]; exact heap_alloc_new w _, St.of htk⟩
      clear htold hx hu hx2 hm hle hl hn hEm hres htl hE
      go_enter Try.func103, Try.ntmps103
      go_wp2
      simp only [e1, e4, hmb]
      go_loopw [5] (fun l wr => ∃ (f : Nat) (key : ByteArray) (bb : List UInt8) (pre : List Ent), pre.length + f = 65 ∧ res = (rdEs f (bl key) bb).map (pre ++ ·) ∧ Cu w w.heap.size bb key true wr ∧ key.size ≤ 65536 * pre.length ∧ OwE wr (w.heap.size + 1) l pre ∧ Below w.heap.size w wr) (fun l _ => 66 - lenOf l)
      case atStart => exact ⟨65, ⟨#[]⟩, B0, [], by simp, by rw [← HR.out]; simp [bl], hCu0, Nat.zero_le _, Ow.zero _ _ _ _, B1⟩
      case round =>
        obtain ⟨f, key, bb, pre, hpf, hres, hCu, hks, HO, HB⟩ := hrel
        obtain ⟨Ao, co, hvo, hro⟩ := HO.rd
        subst hvo
        have hCu' := hCu
        obtain ⟨A2, c2, hc2, hst2⟩ := hCu'
        have z0 := blk_cell hc2 0
        obtain ⟨nb, hnb⟩ : ∃ nb, bb.length = nb := ⟨_, rfl⟩
        obtain ⟨pl, hpl⟩ : ∃ pl, pre.length = pl := ⟨_, rfl⟩
        rw [hnb] at z0
        rw [hpl] at hpf hks HO ⊢
        by_cases hb : bb = []
        · have hnb0 : nb = 0 := by rw [← hnb, hb]; rfl
          have hend : res.getD [] = pre := by
            rw [hres, hb]
            cases f <;> simp [rdEs]
          subst hnb0
          clear hres hnb hb hks hpf HR HT
          go_wp2
          go_ret
          exact ⟨_, rfl, by first | exact HO.lower (Nat.le_succ _) | (rw [hend]; exact HO.lower (Nat.le_succ _)), HB⟩
        · have hnb0 : ¬ nb = 0 := fun e => hb (List.eq_nil_of_length_eq_zero (by omega))
          have hnb1 : 0 < nb := by omega
          have hnbi : (0 : Int) < (nb : Int) := by omega
          cases f with
          | zero =>
            have hpl65 : ¬ pl ≤ 64 := by omega
            have hpl65i : ¬ (pl : Int) ≤ 64 := by omega
            have hend : res.getD [] = pre := by rw [hres]; simp [rdEs]
            clear hres hnb hb hks hpf HR HT
            go_wp2
            go_ret
            exact ⟨_, rfl, by first | exact HO.lower (Nat.le_succ _) | (rw [hend]; exact HO.lower (Nat.le_succ _)), HB⟩
          | succ f =>
            have hpl65 : pl ≤ 64 := by omega
            have hpl65i : (pl : Int) ≤ 64 := by omega
            have hEn := entry_any w w.heap.size bb key wr hCu HB (Nat.le_refl _) (by omega)
            have hgl := hCu.lt
            cases hrd : rdEnt (bl key) bb with
            | error z =>
              have hend : res.getD [] = [] := by rw [hres, rdEs, if_neg hb, hrd]; rfl
              clear hres hnb hb hks hpf HR HT hc2 hst2
              have HRD := hide hrd
              clear hrd
              go_wp2_with (first | (go_at_call 110; (with_reducible refine hEn.mono ?_); rintro e w1 ⟨x, rfl, G1, hok, herr⟩; obtain ⟨b', hCu1⟩ := herr _ HRD.out; have HB1 := HB.trans (G1.2 _ (Nat.le_refl _) HB.size); have hCu2 := hCu1.below (below_alloc w1 (.cells #[.string x.1, .int .i64 x.2.1, .int .i64 x.2.2.1, .string x.2.2.2] 43)); obtain ⟨A3, c3, hc3, hst3⟩ := hCu2; have z3 := blk_cell hc3 2; clear hok herr))
              go_ret
              exact ⟨_, rfl, by rw [hend]; exact Ow.zero _ _ _ _, HB1.alloc HB1.size _⟩
            | ok p =>
              obtain ⟨y, r⟩ := p
              have hsz := rdEnt_size _ _ _ _ hrd
              rw [bl_length] at hsz
              have hst := rdEs_step f (bl key) bb r y pre hb hrd
              have HRES := hide (hres.trans hst)
              have HPL := hide hpl
              have HRD := hide hrd
              have hsz2 : y.1.size ≤ 65536 * (pl + 1) := by omega
              have hf2 : pl + 1 + f = 65 := by omega
              have HS := hide hsz2
              have HF := hide hf2
              have hapl : (pre.length + 1) * 48 ≤ 140737488355328 := by omega
              have HAP := hide hapl
              clear hres hnb hb hks hpf HR HT hc2 hst2 hrd hsz hst hsz2 hf2 hpl hapl hro
              go_wp2_with (first | (go_at_call 110; (with_reducible refine hEn.mono ?_); rintro e w1 ⟨x, rfl, G1, hok, herr⟩; obtain ⟨rfl, hCu1⟩ := hok _ _ HRD.out; have HB1 := HB.trans (G1.2 _ (Nat.le_refl _) HB.size); have bA := below_alloc w1 (.cells #[.string x.1, .int .i64 x.2.1, .int .i64 x.2.2.1, .string x.2.2.2] 43); have hCu2 := hCu1.below bA; obtain ⟨A3, c3, hc3, hst3⟩ := id hCu2; have z3 := blk_cell hc3 2; have HO1 := (OwE.gb HO hCu G1).below bA; have HB2 := HB1.alloc HB1.size (.cells #[.string x.1, .int .i64 x.2.1, .int .i64 x.2.2.1, .string x.2.2.2] 43); obtain ⟨y0, y1, y2, y3, y4, y5, y6, y7⟩ := (Eb.new w1 x).read; have hlt1 := hCu1.lt; clear hok herr) | (at_builtin; refine app_ent (w0 := w1.alloc (.cells #[.string x.1, .int .i64 x.2.1, .int .i64 x.2.2.1, .string x.2.2.2] 43)) (W := w1.alloc (.cells #[.string x.1, .int .i64 x.2.1, .int .i64 x.2.2.1, .string x.2.2.2] 43)) (w.heap.size + 1) rfl (.tmp 47) (.tmp 49) rfl _ pre x (by rfl) (by simp [Act.eval, Array.getD]) HO1 (Below.refl _ _) hCu2.lt HAP.out ?_; intro v5 w5 HO5 HB5 hg5 hat5))
              go_roundw
              case rel => exact ⟨f, x.1, r, pre ++ [x], by rw [List.length_append, List.length_singleton, HPL.out]; exact HF.out, HRES.out, hCu2.grown hg5 (fun e => absurd (HO1.ge _ e.symm) (Nat.not_succ_le_self _)), by rw [List.length_append, List.length_singleton, HPL.out]; exact HS.out, HO5, HB2.trans (HB5.mono (Nat.le_succ _))⟩
              case measure =>
                obtain ⟨A6, c6, hv6, _⟩ := HO5.rd
                rw [hv6, List.length_append, List.length_singleton, HPL.out]
                simp [lenOf]; omega
end Go.Proofs.Ytefcepjffeiaoaa
end

section
/- Block: the reference's reader in one form. -/
namespace Go.Proofs.Ytefcepjffeiaoaa
open Go.RowKit Go.Proofs.YtefcepjffeiaoaaW.PrintWords
set_option linter.unusedVariables false

/-- a reader: what is left, is all well so far -/
def RsS (g : Nat) (A : Option Addr) (c n : Nat) (x b : List UInt8) (ok : Bool) (W : World) : Prop := ∃ p e, p ≤ n ∧ Rs g A c n p e W ∧ (ok = true → e = 0 ∧ x.drop p = b) ∧ (ok = false → e ≠ 0)
theorem RsS.below {g : Nat} {A : Option Addr} {c n : Nat} {x b : List UInt8} {ok : Bool} {W W' : World} (h : RsS g A c n x b ok W) (hb : Below W.heap.size W W') : RsS g A c n x b ok W' := by
  obtain ⟨p, e, h1, h2, h3, h4⟩ := h
  exact ⟨p, e, h1, h2.below hb, h3, h4⟩
theorem RsS.grown {g : Nat} {A : Option Addr} {c n : Nat} {x b : List UInt8} {ok : Bool} {W W' : World} (h : RsS g A c n x b ok W) {row : Option Nat} (hg : W.grownBy W' row) (hne : some g ≠ row) : RsS g A c n x b ok W' := by
  obtain ⟨p, e, h1, h2, h3, h4⟩ := h
  exact ⟨p, e, h1, blk_grown h2 hg hne, h3, h4⟩
theorem RsS.lt {g : Nat} {A : Option Addr} {c n : Nat} {x b : List UInt8} {ok : Bool} {W : World} (h : RsS g A c n x b ok W) : g < W.heap.size := by
  obtain ⟨p, e, h1, h2, h3, h4⟩ := h
  exact h2.lt
theorem rN_any (w0 : World) (g : Nat) (A : Option Addr) (c n : Nat) (x b : List UInt8) (ok : Bool) (hx : St w0 A c x) (hn : x.length = n) (hn2 : n ≤ 140737488355328) (most : Nat) (mi : Int) (hmi0 : mi = (most : Int)) (hm : most ≤ 1099511627776) (w : World) (hs : RsS g A c n x b ok w) (hB : Below w0.heap.size w0 w) :
    Calls Try.prog 111 #[.pointer (some ⟨g, 0, none⟩), .int .u64 mi, .int .i64 21] w fun e1 w' => e1 = .returned (.int .i64 ((cNum most b ok).1 : Int)) ∧ RsS g A c n x (cNum most b ok).2.1 (cNum most b ok).2.2 w' ∧ Gb g w0 w w' := by
  obtain ⟨p, e, h1, h2, h3, h4⟩ := hs
  cases ok with
  | false =>
    rw [cNum_off]
    refine (rNum_off w0 g A c n p e (h4 rfl) mi 21 w h2).mono ?_
    rintro e1 w' ⟨rfl, hs', hg'⟩
    exact ⟨rfl, ⟨p, e, h1, hs', fun h => by simp at h, fun _ => h4 rfl⟩, hg'⟩
  | true =>
    obtain ⟨rfl, hb⟩ := h3 rfl
    cases hr : rdNum most 21 b with
    | ok q =>
      obtain ⟨k, r⟩ := q
      have e0 : cNum most b true = (k, r, true) := by rw [cNum, if_pos rfl, hr]
      rw [e0]
      refine (rNum_ok w0 g A c n p x hx hn hn2 h1 most mi hmi0 hm 21 w h2 hB k r (by rw [hb]; exact hr)).mono ?_
      rintro e1 w' ⟨rfl, ⟨p', h5, h6, h7⟩, hg'⟩
      exact ⟨rfl, ⟨p', 0, h5, h7, fun _ => ⟨rfl, h6⟩, fun h => by simp at h⟩, hg'⟩
    | error z =>
      have e0 : cNum most b true = (0, b, false) := by rw [cNum, if_pos rfl, hr]
      rw [e0]
      have hz := rdNum_ne most 21 (by decide) b z hr
      refine (rNum_err w0 g A c n p x hx hn hn2 h1 most mi hmi0 hm 21 w h2 hB z (by rw [hb]; exact hr)).mono ?_
      rintro e1 w' ⟨rfl, hs', hg'⟩
      exact ⟨rfl, ⟨p, z, h1, hs', fun h => by simp at h, fun _ => hz⟩, hg'⟩
theorem rT_any (w0 : World) (g : Nat) (A : Option Addr) (c n : Nat) (x b : List UInt8) (ok : Bool) (hx : St w0 A c x) (hn : x.length = n) (hn2 : n ≤ 140737488355328) (m : Nat) (mi : Int) (hmi0 : mi = (m : Int)) (hm : m ≤ 1099511627776) (w : World) (hs : RsS g A c n x b ok w) (hB : Below w0.heap.size w0 w) (hg : w0.heap.size ≤ g) :
    Calls Try.prog 112 #[.pointer (some ⟨g, 0, none⟩), .int .i64 mi] w fun e1 w' => ∃ v, e1 = .returned v ∧ OwB w' w.heap.size v (cTake m b ok).1 ∧ RsS g A c n x (cTake m b ok).2.1 (cTake m b ok).2.2 w' ∧ Gb g w0 w w' := by
  obtain ⟨p, e, h1, h2, h3, h4⟩ := hs
  cases ok with
  | false =>
    rw [cTake_off]
    refine (rTake_off w0 g A c n p e (h4 rfl) mi w h2).mono ?_
    rintro e1 w' ⟨rfl, hs', hg'⟩
    exact ⟨_, rfl, OwB.zero _ _, ⟨p, e, h1, hs', fun h => by simp at h, fun _ => h4 rfl⟩, hg'⟩
  | true =>
    obtain ⟨rfl, hb⟩ := h3 rfl
    have hbl : b.length = n - p := by rw [← hb, List.length_drop, hn]
    by_cases hmb : m ≤ b.length
    · have e0 : cTake m b true = (b.take m, b.drop m, true) := by rw [cTake, if_pos ⟨rfl, hmb⟩]
      rw [e0]
      refine (rTake_ok w0 g A c n p m x hx hn hn2 h1 mi hmi0 (by omega) w h2 hB hg).mono ?_
      rintro e1 w' ⟨⟨v, rfl, HO⟩, hs', hg'⟩
      rw [hb] at HO
      exact ⟨v, rfl, HO, ⟨p + m, 0, by omega, hs', fun _ => ⟨rfl, by rw [← List.drop_drop, hb]⟩, fun h => by simp at h⟩, hg'⟩
    · have e0 : cTake m b true = ([], b, false) := by rw [cTake, if_neg (fun h => hmb h.2)]
      rw [e0]
      refine (rTake_err w0 g A c n p m mi hmi0 h1 hn2 (by omega) hm w h2).mono ?_
      rintro e1 w' ⟨rfl, hs', hg'⟩
      exact ⟨_, rfl, OwB.zero _ _, ⟨p, 8, h1, hs', fun h => by simp at h, fun _ => by decide⟩, hg'⟩
section
variable {ops : Array Oper} {o : Oper} {a : Act} {Q : Exit → Act → World → Prop} {K : Act → World → Prop}
/-- a version appended, a step of a region that draws -/
theorem step_ent {w0 W : World} (base : Nat) (hw : Region.wanted o (yielded ops a.tmps) = true) (s x : Operand)
    (ho : o.op = .call { callee := .builtin .append, args := #[s, x], argTypes := #[22, 22] })
    (v : Value) (xs : List Ent) (c : Ent) (hs : a.eval s = v) (hx : a.eval x = .slice (some ⟨W.heap.size, 0, none⟩) 1 1)
    (HO : OwE W base v xs) (HB : Below base w0 W) (hbase : base ≤ W.heap.size) (hl : (xs.length + 1) * 48 ≤ 140737488355328)
    (h : ∀ v1 w1, OwE w1 base v1 (xs ++ [c]) → Below base w0 w1 → W.grownBy w1 v.ownBlock → K (a.put o.dst v1) w1) :
    if Region.wanted o (yielded ops a.tmps) = true then Oper.wp Try.prog o a (W.alloc (.cells #[.string c.1, .int .i64 c.2.1, .int .i64 c.2.2.1, .string c.2.2.2] 43)) K Q else K (a.put o.dst undef) (W.alloc (.cells #[.string c.1, .int .i64 c.2.1, .int .i64 c.2.2.1, .string c.2.2.2] 43)) :=
  Kd.R_append_step (P := Try.prog) kEnt base hw s x 22 43 _ 48 ho Try.underlying22 info_ent rfl (by decide) (by decide) v xs c [.string c.1, .int .i64 c.2.1, .int .i64 c.2.2.1, .string c.2.2.2] (fun _ => True) (fun _ => False) hs hx (kEnt_M _ _ _ _) (fun _ h => h.elim) (fun _ _ => trivial) HO HB hbase hl (fun v1 w1 h1 h2 h3 _ => h v1 w1 h1 h2 h3)
end
end Go.Proofs.Ytefcepjffeiaoaa
end

section
/- Block: the walk of the reference's told. -/
namespace Go.Proofs.Ytefcepjffeiaoaa
open Go.RowKit Go.Proofs.YtefcepjffeiaoaaW.PrintWords
set_option linter.unusedVariables false

theorem Ow.rs {α : Type} {d : Kd α} {e g : Nat} {w w1 w2 : World} {base : Nat} {v : Value} {xs : List α} (h : Ow d e w base v xs) {A : Option Addr} {c n : Nat} {x b : List UInt8} {ok : Bool} (hs : RsS g A c n x b ok w) (ht : ∀ q, q ∈ e :: d.E → q ≠ 147) (hg : Gb g w2 w w1) : Ow d e w1 base v xs := by
  obtain ⟨p, e', h1, h2, h3, h4⟩ := hs
  exact Kd.R_mono (Kd.R_grown (Kd.R_types h h2 ht) hg.1 (fun k hk e => hk.2 (by injection e))) (fun _ _ => trivial)
theorem wrap_u8' (u : UInt8) : IntKind.i64.wrap (u.toNat : Int) = (u.toNat : Int) := by have := u.toNat_lt; rw [IntKind.wrap_i64]; omega
theorem wrap_u8 (u : UInt8) : wrap64 (u.toNat : Int) = (u.toNat : Int) := by have := u.toNat_lt; unfold wrap64; omega
theorem rt_end (n p : Nat) (x bb : List UInt8) (hn : x.length = n) (hp : p ≤ n) (h : x.drop p = bb) : (bb = [] ↔ ¬ p < n) := by
  subst h
  rw [List.drop_eq_nil_iff, hn]
  omega
theorem rd_head {w : World} {A : Option Addr} {c : Nat} {x : UInt8} {xs : List UInt8} (h : RdB w A c (x :: xs)) : ∃ ad, A = some ad ∧ w.cell? ad = some (.int .u8 (x.toNat : Int)) := by
  obtain ⟨ad, e, hc⟩ := h.at_ 0 (by simp)
  refine ⟨ad, e, ?_⟩
  have : ad.add 0 = ad := by cases ad; rfl
  rw [this] at hc
  exact hc
theorem lenOf_ow {d : Kd Ent} {e : Nat} {w : World} {base : Nat} {v : Value} {xs : List Ent} (h : Ow d e w base v xs) : lenOf v = xs.length := by
  obtain ⟨A, c, hv, _⟩ := h.rd
  rw [hv]; rfl
set_option maxRecDepth 100000 in
set_option maxHeartbeats 3200000 in
theorem rtold_any (A : Option Addr) (c : Nat) (b : List UInt8) (w : World) (hx : RdB w A c b) (hl : b.length ≤ 140737488355328) :
    Calls Try.prog 105 #[.slice A b.length c] w fun e w' => ∃ v, e = .returned v ∧ OwE w' w.heap.size v (toldE b) ∧ Below w.heap.size w w' := by
  have hle := hx.le
  cases hm : b.length with
  | zero =>
    have ht : toldE b = [] := by rw [toldE, if_pos (by omega)]
    rw [ht]
    clear hle hx ht
    go_enter Try.func105, Try.ntmps105
    go_wp2
    go_ret
    exact ⟨_, rfl, Ow.zero _ _ _ _, Below.refl _ _⟩
  | succ m1 =>
    obtain ⟨ad, rfl, hc⟩ := hx.at_ m1 (by omega)
    obtain ⟨u, hu⟩ : ∃ u, b.getD m1 0 = u := ⟨_, rfl⟩
    obtain ⟨m, hmm⟩ : ∃ m, m1 + 1 = m := ⟨_, rfl⟩
    have hu8 := u.toNat_lt
    have e1 : wrap64 ((m : Int) - 1) = (m1 : Int) := by unfold wrap64; omega
    obtain ⟨x2, hx2⟩ : ∃ x2 : Nat, 2 * u.toNat = x2 := ⟨_, rfl⟩
    have e3 : wrap64 (u.toNat : Int) = (u.toNat : Int) := by unfold wrap64; omega
    have hmi : (m1 : Int) < (m : Int) := by omega
    have hm1 : m1 < m := by omega
    have hm0 : ¬ m = 0 := by omega
    have hm0i : ¬ (m : Int) < 1 := by omega
    have hm0n : ¬ m < 1 := by omega
    have hmb : decide ((m : Int) < 1) = false := decide_eq_false hm0i
    have htold : toldE b = if m1 < x2 then [] else (rdEs 65 [] (b.take (m1 - x2))).getD [] := by
      rw [toldE, if_neg (by omega), hm, Nat.add_sub_cancel, hu, hx2]
    rw [hu] at hc
    by_cases hn : m1 < x2
    · rw [if_pos hn] at htold
      rw [htold]
      have e4 : wrap64 ((m1 : Int) - 2 * (u.toNat : Int)) = -(((x2 - m1 : Nat) : Int)) := by unfold wrap64; omega
      obtain ⟨d, hd⟩ : ∃ d, x2 - m1 = d := ⟨_, rfl⟩
      rw [hd] at e4
      have e5 : -(d : Int) < 0 := by omega
      have e6 : 0 < d := by omega
      clear hd
      rw [hmm]
      clear htold hx hu hx2 hm hle hl
      go_enter Try.func105, Try.ntmps105
      go_wp2
      go_ret
      exact ⟨_, rfl, Ow.zero _ _ _ _, Below.refl _ _⟩
    · rw [if_neg hn] at htold
      obtain ⟨E, hE⟩ : ∃ E : Nat, m1 - x2 = E := ⟨_, rfl⟩
      rw [hE] at htold
      have e4 : wrap64 ((m1 : Int) - 2 * (u.toNat : Int)) = (E : Int) := by unfold wrap64; omega
      have hEm : E ≤ b.length := by omega
      have htk := hx.take E hEm
      have htl : (b.take E).length = E := by rw [List.length_take]; omega
      have hsh := fun W => slice_hi 23 5 Try.underlying23 (i := _) rfl rfl (some ad) m c E (by omega) W
      have hEl : E ≤ 140737488355328 := by omega
      rw [hmm]
      generalize b.take E = B0 at *
      have HT := hide htold
      rw [htold]
      generalize hres : rdEs 65 [] B0 = res at *
      have HR := hide hres
      have HTL := hide htl
      have B1 := below_alloc w (.cells #[.slice (some ad) E c, .int .i64 0, .int .i64 0] 147)
      have hSt : St w (some ad) c B0 := St.of htk
      have hR0 : RsS w.heap.size (some ad) c E B0 B0 true (w.alloc (.cells #[.slice (some ad) E c, .int .i64 0, .int .i64 0] 147)) := ⟨0, 0, Nat.zero_le _, heap_alloc_new w _, fun _ => ⟨rfl, rfl⟩, fun h => by simp at h⟩
      clear htold hx hu hx2 hm hle hl hn hEm hres htl hE
      go_enter Try.func105, Try.ntmps105
      go_wp2
      try simp only [e1, e4, hmb]
      go_loopw [5, 6] (fun l kv wr => ∃ (f : Nat) (key : ByteArray) (bb : List UInt8) (pre : List Ent), kv = .string key ∧ pre.length + f = 65 ∧ res = (rdEs f (bl key) bb).map (pre ++ ·) ∧ RsS w.heap.size (some ad) c E B0 bb true wr ∧ key.size ≤ 65536 * pre.length ∧ OwE wr (w.heap.size + 1) l pre ∧ Below w.heap.size w wr) (fun l _ _ => 66 - lenOf l)
      case atStart => exact ⟨65, ⟨#[]⟩, B0, [], rfl, by simp, by rw [← HR.out]; simp [bl], hR0, Nat.zero_le _, Ow.zero _ _ _ _, B1⟩
      case round =>
        obtain ⟨f, key, bb, pre, rfl, hpf, hres, hRs, hks, HO, HB⟩ := hrel
        obtain ⟨Ao, co, hvo, hro⟩ := HO.rd
        subst hvo
        obtain ⟨p, e, hp, hRp, h3, _⟩ := id hRs
        obtain ⟨rfl, hpb⟩ := h3 rfl
        obtain ⟨z0, z1, z2, z3, z4, z5⟩ := hRp.read
        have hend := rt_end E p B0 bb HTL.out hp hpb
        obtain ⟨pl, hpl⟩ : ∃ pl, pre.length = pl := ⟨_, rfl⟩
        rw [hpl] at hpf hks HO ⊢
        clear h3 hpb hRp
        by_cases hb : bb = []
        · have hpE : ¬ p < E := hend.1 hb
          have hpEi : ¬ (p : Int) < (E : Int) := fun h => hpE (Int.ofNat_lt.1 h)
          have hfin : res.getD [] = pre := by
            rw [hres, hb]
            cases f <;> simp [rdEs]
          clear hres hb hks hpf HR HT hend
          go_wp2
          go_ret
          exact ⟨_, rfl, by first | exact HO.lower (Nat.le_succ _) | (rw [hfin]; exact HO.lower (Nat.le_succ _)), HB⟩
        · have hpE : p < E := Decidable.not_not.1 (fun h => hb (hend.2 h))
          have hpEi : (p : Int) < (E : Int) := Int.ofNat_lt.2 hpE
          clear hend
          cases f with
          | zero =>
            have hpl65 : ¬ pl ≤ 64 := by omega
            have hpl65i : ¬ (pl : Int) ≤ 64 := by omega
            have hfin : res.getD [] = pre := by rw [hres]; simp [rdEs]
            clear hres hb hks hpf HR HT
            go_wp2
            go_ret
            exact ⟨_, rfl, by first | exact HO.lower (Nat.le_succ _) | (rw [hfin]; exact HO.lower (Nat.le_succ _)), HB⟩
          | succ f =>
            have hpl65 : pl ≤ 64 := by omega
            have hpl65i : (pl : Int) ≤ 64 := by omega
            have hgl := hRs.lt
            rcases h1 : cNum 65536 bb true with ⟨n, b1, o1⟩
            rcases h2 : cNum 65536 b1 o1 with ⟨k, b2, o2⟩
            rcases h3 : cNum 1099511627776 b2 o2 with ⟨q, b3, o3⟩
            rcases h4 : cNum 65536 b3 o3 with ⟨v, b4, o4⟩
            rcases h5 : cTake 1 b4 o4 with ⟨kd, b5, o5⟩
            rcases h6 : cTake k b5 o5 with ⟨rest, b6, o6⟩
            rcases h7 : cTake v b6 o6 with ⟨val, b7, o7⟩
            have hch := ent_chain (bl key) bb b1 b2 b3 b4 b5 b6 b7 kd rest val n k q v o1 o2 o3 o4 o5 o6 o7 h1 h2 h3 h4 h5 h6 h7
            have n1 := cNum_le 65536 bb true
            have n2 := cNum_le 65536 b1 o1
            have n4 := cNum_le 65536 b3 o3
            have n6 := cTake_le k b5 o5
            have N1 := fun W hs hB => rN_any w w.heap.size (some ad) c E B0 bb true hSt HTL.out hEl 65536 65536 rfl (by decide) W hs hB
            have N2 := fun W hs hB => rN_any w w.heap.size (some ad) c E B0 b1 o1 hSt HTL.out hEl 65536 65536 rfl (by decide) W hs hB
            have N3 := fun W hs hB => rN_any w w.heap.size (some ad) c E B0 b2 o2 hSt HTL.out hEl 1099511627776 1099511627776 rfl (by decide) W hs hB
            have N4 := fun W hs hB => rN_any w w.heap.size (some ad) c E B0 b3 o3 hSt HTL.out hEl 65536 65536 rfl (by decide) W hs hB
            have T5 := fun W hs hB => rT_any w w.heap.size (some ad) c E B0 b4 o4 hSt HTL.out hEl 1 1 rfl (by decide) W hs hB (Nat.le_refl _)
            rw [h1] at n1 N1
            rw [h2] at n2 N2
            rw [h3] at N3
            rw [h4] at n4 N4
            rw [h5] at T5
            rw [h6] at n6
            simp only at n1 n2 n4 n6 N1 N2 N3 N4 T5
            have T6 := fun W hs hB => rT_any w w.heap.size (some ad) c E B0 b5 o5 hSt HTL.out hEl k (k : Int) rfl (by omega) W hs hB (Nat.le_refl _)
            have T7 := fun W hs hB => rT_any w w.heap.size (some ad) c E B0 b6 o6 hSt HTL.out hEl v (v : Int) rfl (by omega) W hs hB (Nat.le_refl _)
            rw [h6] at T6
            rw [h7] at T7
            simp only at T6 T7
            rw [bl_length] at hch
            have HCH := hide hch
            clear h1 h2 h3 h4 h5 h6 h7 hch
            by_cases hok : o7 = true ∧ n ≤ key.size
            · obtain ⟨hkd, hrd⟩ := HCH.out.1 hok
              obtain ⟨rfl, hnk⟩ := hok
              obtain ⟨u', rfl⟩ : ∃ u, kd = [u] := by
                match kd, hkd with
                | [u], _ => exact ⟨u, rfl⟩
              have hsz := rdEnt_size _ _ _ _ hrd
              rw [bl_length] at hsz
              rw [← ext_key key n rest] at hrd hsz
              have hst := rdEs_step f (bl key) bb b7 _ pre hb hrd
              have HRES := hide (hres.trans hst)
              have HPL := hide hpl
              have hsz2 : (key.extract 0 n ++ strB rest).size ≤ 65536 * (pl + 1) := Nat.le_trans hsz (by omega)
              have hf2 : pl + 1 + f = 65 := by omega
              have hapl : (pre.length + 1) * 48 ≤ 140737488355328 := by omega
              have HS := hide hsz2
              have HF := hide hf2
              have HAP := hide hapl
              have hrs : ¬ 9223372036854775807 < n + (strB rest).size := by rw [strB_size]; omega
              have hnki : (n : Int) ≤ (key.size : Int) := Int.ofNat_le.2 hnk
              have hnki2 : ¬ (key.size : Int) < (n : Int) := Int.not_lt.2 hnki
              have hnk2 : ¬ key.size < n := Nat.not_lt.2 hnk
              have huk : wrap64 (u'.toNat : Int) = (u'.toNat : Int) := wrap_u8 u'
              have huk2 : IntKind.i64.wrap (u'.toNat : Int) = (u'.toNat : Int) := wrap_u8' u'
              clear hres hb hks hpf HR HT hrd hsz hst hsz2 hf2 hpl hapl hro HCH hkd
              go_wp2_with (first | (go_at_call 111; first | ((with_reducible refine (N1 _ hRs HB).mono ?_); rintro e w1 ⟨rfl, hs1, g1⟩; have C1 := HB.trans (g1.2 _ (Nat.le_refl _) HB.size); have G1 := g1) | ((with_reducible refine (N2 _ hs1 C1).mono ?_); rintro e w2 ⟨rfl, hs2, g2⟩; have C2 := C1.trans (g2.2 _ (Nat.le_refl _) C1.size); have G2 := G1.trans g2) | ((with_reducible refine (N3 _ hs2 C2).mono ?_); rintro e w3 ⟨rfl, hs3, g3⟩; have C3 := C2.trans (g3.2 _ (Nat.le_refl _) C2.size); have G3 := G2.trans g3) | ((with_reducible refine (N4 _ hs3 C3).mono ?_); rintro e w4 ⟨rfl, hs4, g4⟩; have C4 := C3.trans (g4.2 _ (Nat.le_refl _) C3.size); have G4 := G3.trans g4)) | (go_at_call 112; first | ((with_reducible refine (T5 _ hs4 C4).mono ?_); rintro e w5 ⟨v5, rfl, HO5, hs5, g5⟩; obtain ⟨A5, c5, hv5, -⟩ := HO5.rd; subst hv5; have C5 := C4.trans (g5.2 _ (Nat.le_refl _) C4.size); have G5 := G4.trans g5) | ((with_reducible refine (T6 _ hs5 C5).mono ?_); rintro e w6 ⟨v6, rfl, HO6, hs6, g6⟩; obtain ⟨A6, c6, hv6, -⟩ := HO6.rd; subst hv6; have C6 := C5.trans (g6.2 _ (Nat.le_refl _) C5.size); have G6 := G5.trans g6) | ((with_reducible refine (T7 _ hs6 C6).mono ?_); rintro e w7 ⟨v7, rfl, HO7, hs7, g7⟩; obtain ⟨A7, c7, hv7, hr7⟩ := HO7.rd; subst hv7; have C7 := C6.trans (g7.2 _ (Nat.le_refl _) C6.size); have G7 := G6.trans g7; obtain ⟨p7, e7, hp7, hR7, y3, y4⟩ := id hs7; obtain ⟨z70, z71, z72, z73, z74, z75⟩ := hR7.read; obtain ⟨rfl, -⟩ := y3 rfl; clear y3 y4; have HOe := HO.rs hRs (one_ne (by decide)) G7; have O5 := (HO5.ow.rs hs5 (one_ne (by decide)) (g6.trans g7)).owB; have O6 := (HO6.ow.rs hs6 (one_ne (by decide)) g7).owB)))
              have O6d : OwB w7.drew w5.heap.size (.slice A6 rest.length c6) rest := O6
              have O5d : OwB w7.drew.drew w4.heap.size (.slice A5 1 c5) [u'] := O5
              have O7d : OwB w7.drew.drew w6.heap.size (.slice A7 val.length c7) val := HO7
              have HOd : OwE w7.drew.drew (w.heap.size + 1) (.slice Ao pl co) pre := HOe
              have C7d : Below w.heap.size w w7.drew.drew := C7.drew.drew
              have hs7d : RsS w.heap.size (some ad) c E B0 b7 true w7.drew.drew := hs7
              have hc6 : (convert 23 9 (.slice A6 rest.length c6)).run Try.prog w7.drew = .ok (.string (strB rest)) w7.drew := O6d.rdl.toStr (P := Try.prog) 23 5 9 Try.underlying23 Try.underlying5 Try.underlying9
              go_region_held3 (fun w' => (convert 23 9 (.slice A6 rest.length c6)).run Try.prog w' = .ok (.string (strB rest)) w') (first | exact hc6 | assumption) (first | (go_at_call 111))
              go_wp2
              obtain ⟨ad5, rfl, hc5⟩ := rd_head O5d.rdl
              have hlt5 := World.block_lt_of_cell? _ _ hc5
              have O7a := O7d.below (below_alloc w7.drew.drew (.cells #[.string (key.extract 0 n ++ strB rest), .int .i64 (q : Int), .int .i64 (u'.toNat : Int), .string (strB val)] 43))
              have hS0 : w7.drew.drew.cell? ad5 = some (.int .u8 (u'.toNat : Int)) ∧ (convert 23 9 (.slice A7 val.length c7)).run Try.prog w7.drew.drew = .ok (.string (strB val)) w7.drew.drew := ⟨hc5, O7d.rdl.toStr (P := Try.prog) 23 5 9 Try.underlying23 Try.underlying5 Try.underlying9⟩
              have hS1 : (w7.drew.drew.alloc (.cells #[.string (key.extract 0 n ++ strB rest), .int .i64 (q : Int), .int .i64 (u'.toNat : Int), .string (strB val)] 43)).cell? ad5 = some (.int .u8 (u'.toNat : Int)) ∧ (convert 23 9 (.slice A7 val.length c7)).run Try.prog (w7.drew.drew.alloc (.cells #[.string (key.extract 0 n ++ strB rest), .int .i64 (q : Int), .int .i64 (u'.toNat : Int), .string (strB val)] 43)) = .ok (.string (strB val)) (w7.drew.drew.alloc (.cells #[.string (key.extract 0 n ++ strB rest), .int .i64 (q : Int), .int .i64 (u'.toNat : Int), .string (strB val)] 43)) := ⟨((below_alloc w7.drew.drew (.cells #[.string (key.extract 0 n ++ strB rest), .int .i64 (q : Int), .int .i64 (u'.toNat : Int), .string (strB val)] 43)).cell hlt5).trans hc5, O7a.rdl.toStr (P := Try.prog) 23 5 9 Try.underlying23 Try.underlying5 Try.underlying9⟩
              go_region_held3 (fun w' => w'.cell? ad5 = some (.int .u8 (u'.toNat : Int)) ∧ (convert 23 9 (.slice A7 val.length c7)).run Try.prog w' = .ok (.string (strB val)) w') (first | exact hS0 | exact hS1 | exact hS2 | assumption) (first | ((refine step_ent (w0 := w7.drew.drew) (W := w7.drew.drew) (w.heap.size + 1) (by rfl) (.tmp 87) (.tmp 97) rfl (.slice Ao pl co) pre (key.extract 0 n ++ strB rest, (q : Int), (u'.toNat : Int), strB val) (by rfl) (by rfl) HOd (Below.refl _ _) hs7d.lt HAP.out ?_); intro v9 w9 HO9 HB9 hg9; have O59 := (Ow.over O5d.ow HOd (one_ne (by decide)) hg9).owB; have O79 := (Ow.over O7d.ow HOd (one_ne (by decide)) hg9).owB; obtain ⟨ad6, e6, hc9⟩ := rd_head O59.rdl; cases e6; have hS2 : w9.cell? ad5 = some (.int .u8 (u'.toNat : Int)) ∧ (convert 23 9 (.slice A7 val.length c7)).run Try.prog w9 = .ok (.string (strB val)) w9 := ⟨hc9, O79.rdl.toStr (P := Try.prog) 23 5 9 Try.underlying23 Try.underlying5 Try.underlying9⟩))
              go_wp2
              go_roundw
              case rel => exact ⟨f, _, b7, pre ++ [(key.extract 0 n ++ strB rest, (q : Int), (u'.toNat : Int), strB val)], rfl, by rw [List.length_append, List.length_singleton, HPL.out]; exact HF.out, HRES.out, hs7d.grown hg9 (fun e => absurd (HOd.ge _ e.symm) (Nat.not_succ_le_self _)), by rw [List.length_append, List.length_singleton, HPL.out]; exact HS.out, HO9, C7d.trans (HB9.mono (Nat.le_succ _))⟩
              case measure =>
                show 66 - lenOf v9 < 66 - pl
                rw [lenOf_ow HO9, List.length_append, List.length_singleton, HPL.out]
                omega
            · obtain ⟨z, hz⟩ := HCH.out.2 hok
              have hfin : res.getD [] = [] := by rw [hres, rdEs, if_neg hb, hz]; rfl
              clear hres hb hks hpf HR HT hz HCH hpl hro
              cases o7 with
              | false =>
                clear hok
                go_wp2_with (first | (go_at_call 111; first | ((with_reducible refine (N1 _ hRs HB).mono ?_); rintro e w1 ⟨rfl, hs1, g1⟩; have C1 := HB.trans (g1.2 _ (Nat.le_refl _) HB.size); have G1 := g1) | ((with_reducible refine (N2 _ hs1 C1).mono ?_); rintro e w2 ⟨rfl, hs2, g2⟩; have C2 := C1.trans (g2.2 _ (Nat.le_refl _) C1.size); have G2 := G1.trans g2) | ((with_reducible refine (N3 _ hs2 C2).mono ?_); rintro e w3 ⟨rfl, hs3, g3⟩; have C3 := C2.trans (g3.2 _ (Nat.le_refl _) C2.size); have G3 := G2.trans g3) | ((with_reducible refine (N4 _ hs3 C3).mono ?_); rintro e w4 ⟨rfl, hs4, g4⟩; have C4 := C3.trans (g4.2 _ (Nat.le_refl _) C3.size); have G4 := G3.trans g4)) | (go_at_call 112; first | ((with_reducible refine (T5 _ hs4 C4).mono ?_); rintro e w5 ⟨v5, rfl, HO5, hs5, g5⟩; obtain ⟨A5, c5, hv5, -⟩ := HO5.rd; subst hv5; have C5 := C4.trans (g5.2 _ (Nat.le_refl _) C4.size); have G5 := G4.trans g5) | ((with_reducible refine (T6 _ hs5 C5).mono ?_); rintro e w6 ⟨v6, rfl, HO6, hs6, g6⟩; obtain ⟨A6, c6, hv6, -⟩ := HO6.rd; subst hv6; have C6 := C5.trans (g6.2 _ (Nat.le_refl _) C5.size); have G6 := G5.trans g6) | ((with_reducible refine (T7 _ hs6 C6).mono ?_); rintro e w7 ⟨v7, rfl, HO7, hs7, g7⟩; obtain ⟨A7, c7, hv7, hr7⟩ := HO7.rd; subst hv7; have C7 := C6.trans (g7.2 _ (Nat.le_refl _) C6.size); have G7 := G6.trans g7; obtain ⟨p7, e7, hp7, hR7, y3, y4⟩ := id hs7; obtain ⟨z70, z71, z72, z73, z74, z75⟩ := hR7.read; have e7n := y4 rfl; clear y3 y4)))
                go_ret
                exact ⟨_, rfl, by first | exact Ow.zero _ _ _ _ | (rw [hfin]; exact Ow.zero _ _ _ _), C7⟩
              | true =>
                have hnk : ¬ n ≤ key.size := fun h => hok ⟨rfl, h⟩
                have hnki : ¬ (n : Int) ≤ (key.size : Int) := fun h => hnk (Int.ofNat_le.1 h)
                have hnki2 : (key.size : Int) < (n : Int) := Int.not_le.1 hnki
                have hnk2 : key.size < n := Nat.not_le.1 hnk
                clear hok
                go_wp2_with (first | (go_at_call 111; first | ((with_reducible refine (N1 _ hRs HB).mono ?_); rintro e w1 ⟨rfl, hs1, g1⟩; have C1 := HB.trans (g1.2 _ (Nat.le_refl _) HB.size); have G1 := g1) | ((with_reducible refine (N2 _ hs1 C1).mono ?_); rintro e w2 ⟨rfl, hs2, g2⟩; have C2 := C1.trans (g2.2 _ (Nat.le_refl _) C1.size); have G2 := G1.trans g2) | ((with_reducible refine (N3 _ hs2 C2).mono ?_); rintro e w3 ⟨rfl, hs3, g3⟩; have C3 := C2.trans (g3.2 _ (Nat.le_refl _) C2.size); have G3 := G2.trans g3) | ((with_reducible refine (N4 _ hs3 C3).mono ?_); rintro e w4 ⟨rfl, hs4, g4⟩; have C4 := C3.trans (g4.2 _ (Nat.le_refl _) C3.size); have G4 := G3.trans g4)) | (go_at_call 112; first | ((with_reducible refine (T5 _ hs4 C4).mono ?_); rintro e w5 ⟨v5, rfl, HO5, hs5, g5⟩; obtain ⟨A5, c5, hv5, -⟩ := HO5.rd; subst hv5; have C5 := C4.trans (g5.2 _ (Nat.le_refl _) C4.size); have G5 := G4.trans g5) | ((with_reducible refine (T6 _ hs5 C5).mono ?_); rintro e w6 ⟨v6, rfl, HO6, hs6, g6⟩; obtain ⟨A6, c6, hv6, -⟩ := HO6.rd; subst hv6; have C6 := C5.trans (g6.2 _ (Nat.le_refl _) C5.size); have G6 := G5.trans g6) | ((with_reducible refine (T7 _ hs6 C6).mono ?_); rintro e w7 ⟨v7, rfl, HO7, hs7, g7⟩; obtain ⟨A7, c7, hv7, hr7⟩ := HO7.rd; subst hv7; have C7 := C6.trans (g7.2 _ (Nat.le_refl _) C6.size); have G7 := G6.trans g7; obtain ⟨p7, e7, hp7, hR7, y3, y4⟩ := id hs7; obtain ⟨z70, z71, z72, z73, z74, z75⟩ := hR7.read; obtain ⟨rfl, -⟩ := y3 rfl; clear y3 y4)))
                go_ret
                exact ⟨_, rfl, by first | exact Ow.zero _ _ _ _ | (rw [hfin]; exact Ow.zero _ _ _ _), C7⟩
end Go.Proofs.Ytefcepjffeiaoaa
end

section
/- Small words for what the printed functions compute: rounds enough; indices that do not wrap; kinds told over. -/
namespace Go.Proofs.Ytefcepjffeiaoaa
open Go.RowKit Go.Proofs.YtefcepjffeiaoaaW.PrintWords
set_option linter.unusedVariables false

theorem wrap64_succ (i : Nat) (h : i < 9223372036854775807) : wrap64 ((i : Int) + 1) = ((i + 1 : Nat) : Int) := by
  unfold wrap64
  omega
theorem Ev.now' {α : Type} {g : Nat → Option α} {r : α} (h : ∀ k, g (k + 1) = some r) : Ev g r := ⟨1, fun k hk => by obtain ⟨j, rfl⟩ : ∃ j, k = j + 1 := ⟨k - 1, by omega⟩; exact h j⟩
/-- a row of another type of elements -/
theorem C_map {α β : Type} {d : Kd α} {d' : Kd β} (hs : d'.sz = d.sz) (g : α → β) {w : World} (hK : ∀ x cs, d.K w x cs → d'.K w (g x) cs) {A : Option Addr} {xs : List α} (h : d.C w A xs.length xs) : d'.C w A (xs.map g).length (xs.map g) := by
  refine ⟨rfl, by rw [List.length_map]; exact h.2.1, fun hp => ?_⟩
  rw [List.length_map] at hp
  obtain ⟨ad, e, hc⟩ := h.2.2 hp
  refine ⟨ad, e, fun j p hj => ?_⟩
  rw [List.getElem?_map, Option.map_eq_some_iff] at hj
  obtain ⟨x, hx, rfl⟩ := hj
  obtain ⟨c, h1, h2, h3⟩ := hc j x hx
  exact ⟨c, by rw [hs]; exact h1, hK _ _ h2, by rw [hs]; exact h3⟩
theorem Rd_map {α β : Type} {d : Kd α} {d' : Kd β} (hs : d'.sz = d.sz) (g : α → β) {w : World} (hK : ∀ x cs, d.K w x cs → d'.K w (g x) cs) {A : Option Addr} {c : Nat} {xs : List α} (h : Rd d w A c xs) : Rd d' w A c (xs.map g) := ⟨by rw [List.length_map]; exact h.1, C_map hs g hK h.2⟩
theorem R_map {α β : Type} {d : Kd α} {d' : Kd β} (hs : d'.sz = d.sz) (g : α → β) (hM : ∀ w base ok x cs, d.M w base ok x cs → d'.M w base ok (g x) cs) {e : Nat} {w : World} {base : Nat} {ok : Nat → Prop} {v : Value} {xs : List α} (h : d.R e w base ok v xs) : d'.R e w base ok v (xs.map g) := by
  obtain ⟨h0, inner, ho, hr⟩ := h
  refine ⟨h0, inner, by rw [List.length_map, hs]; exact ho, by rw [List.length_map, hs]; exact hr.1, fun j p hj => ?_⟩
  rw [List.getElem?_map, Option.map_eq_some_iff] at hj
  obtain ⟨x, hx, rfl⟩ := hj
  rw [hs]
  exact hM _ _ _ _ _ (hr.2 j x hx)
theorem rd_map {α β : Type} (g : α → β) (xs : List α) (z : α) (z' : β) (i : Nat) (h : i < xs.length) : (xs.map g).getD i z' = g (xs.getD i z) := by
  rw [List.getD_eq_getElem?_getD, List.getElem?_map, List.getElem?_eq_getElem h, List.getD_eq_getElem?_getD, List.getElem?_eq_getElem h]
  rfl
theorem drop_get {α : Type} (xs : List α) (z : α) (i : Nat) (h : i < xs.length) : xs.drop i = xs.getD i z :: xs.drop (i + 1) := by
  rw [List.drop_eq_getElem_cons h, List.getD_eq_getElem?_getD, List.getElem?_eq_getElem h]
  rfl
theorem drop_all {α : Type} (xs : List α) : xs.drop xs.length = [] := List.drop_of_length_le (Nat.le_refl _)
theorem toList_eq (s : ByteArray) : s.toList = s.data.toList := by rw [ByteArray.toList_eq]
theorem toList_nil (s : ByteArray) : s.toList = [] ↔ s.size = 0 := by
  rw [toList_eq]
  constructor
  · intro h
    have : s.data.toList.length = 0 := by rw [h]; rfl
    rw [Array.length_toList] at this
    exact this
  · intro h
    apply List.eq_nil_of_length_eq_zero
    rw [Array.length_toList]
    exact h
theorem toList_inj {s t : ByteArray} (h : s.toList = t.toList) : s = t := by
  rw [toList_eq, toList_eq] at h
  apply ByteArray.ext
  apply Array.ext'
  exact h
end Go.Proofs.Ytefcepjffeiaoaa
end
