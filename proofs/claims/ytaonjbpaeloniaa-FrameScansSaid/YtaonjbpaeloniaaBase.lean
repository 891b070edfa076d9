/- What the walks of this seat share: bytes as a slice holds them, read and owned; small words. -/
import Derived.Test.YtaonjbpaeloniaaProg
import Derived.Test.YtaonjbpaeloniaaWWords
import Derived.WalkKit
import Derived.WalkSpells
import Derived.WalkLawsBesides
import Derived.KernelRfl
import Derived.Deep.QuietTactic
import Derived.BigQuiet
import Derived.Deep.DeepCutAuto
import Derived.Deep.CutBlock
import Derived.Deep.RegionHeld3
import Derived.Lib.ConvBytes
import Derived.Lib.AppendStr
import Derived.Deep.AppendLies
import Derived.IntWalk
namespace Go.Proofs.Ytaonjbpaeloniaa
open Go.RowKit Go.Proofs.YtaonjbpaeloniaaW.PrintWords

theorem hide {p : Prop} (h : p) : Hid p := h
/-- an octet in memory -/
def eu8 (b : UInt8) : Value := .int .u8 (b.toNat : Int)
theorem eu8_one (b : UInt8) : (eu8 b).oneCell' = true := rfl
theorem info_u8 : (Try.prog.info? 5).map (fun i => (i.zero, i.size, i.bytes)) = some (some (.int .u8 0), 1, 1) := by kernel_rfl

/-- a slice of octets that is read: its address, its capacity -/
def RdB (w : World) (A : Option Addr) (c : Nat) (xs : List UInt8) : Prop := xs.length ≤ c ∧ ReadsOf eu8 0 w A xs.length xs
/-- a row of octets of the call's own -/
def OwB (w : World) (base : Nat) (v : Value) (xs : List UInt8) : Prop := w.ownsRow base 5 1 v xs.length (encs eu8 xs)

theorem RdB.below {w w1 : World} {A : Option Addr} {c : Nat} {xs : List UInt8} (h : RdB w A c xs) (hb : Below w.heap.size w w1) : RdB w1 A c xs := ⟨h.1, h.2.below hb⟩
theorem RdB.le {w : World} {A : Option Addr} {c : Nat} {xs : List UInt8} (h : RdB w A c xs) : xs.length ≤ c := h.1
theorem RdB.max {w : World} {A : Option Addr} {c : Nat} {xs : List UInt8} (h : RdB w A c xs) : xs.length ≤ 9223372036854775807 := h.2.2.1
theorem RdB.at_ {w : World} {A : Option Addr} {c : Nat} {xs : List UInt8} (h : RdB w A c xs) (i : Nat) (hi : i < xs.length) : ∃ ad, A = some ad ∧ w.cell? (ad.add i) = some (.int .u8 ((xs.getD i 0).toNat : Int)) := by
  obtain ⟨ad, e, hc⟩ := h.2.2.2 (by omega)
  exact ⟨ad, e, hc i hi⟩
theorem RdB.zero (w : World) (A : Option Addr) (c : Nat) : RdB w A c [] := ⟨Nat.zero_le _, rfl, Nat.zero_le _, fun h => absurd h (by simp)⟩
theorem OwB.below {w w1 : World} {base : Nat} {v : Value} {xs : List UInt8} (h : OwB w base v xs) (hb : Below w.heap.size w w1) : OwB w1 base v xs := pw_own_below h hb
theorem OwB.lower {w : World} {base base' : Nat} {v : Value} {xs : List UInt8} (h : OwB w base v xs) (hb : base' ≤ base) : OwB w base' v xs := own_weaken h hb
theorem OwB.rd {w : World} {base : Nat} {v : Value} {xs : List UInt8} (h : OwB w base v xs) : ∃ A c, v = .slice A xs.length c ∧ RdB w A c xs := by
  obtain ⟨A, c, hv, hl, hr⟩ := own_reads_of_le (d := (0 : UInt8)) h
  exact ⟨A, c, hv, hl, hr⟩
theorem OwB.zero (w : World) (base : Nat) : OwB w base (.slice none 0 0) [] := own_nil _ _ _ _
theorem RdB.take {w : World} {A : Option Addr} {c : Nat} {xs : List UInt8} (h : RdB w A c xs) (k : Nat) (hk : k ≤ xs.length) : RdB w A c (xs.take k) := by
  have hl : (xs.take k).length = k := by rw [List.length_take]; omega
  refine ⟨by have := h.1; omega, ?_⟩
  rw [hl]
  exact h.2.take_ k hk
/-- the address behind 'xs[k:]' -/
def cutA (A : Option Addr) (c k : Nat) : Option Addr := if c = k then A else A.map (·.add k)
theorem RdB.drop {w : World} {A : Option Addr} {c : Nat} {xs : List UInt8} (h : RdB w A c xs) (k : Nat) (hk : k ≤ xs.length) : RdB w (cutA A c k) (c - k) (xs.drop k) := by
  have hl : (xs.drop k).length = xs.length - k := List.length_drop
  refine ⟨by have := h.1; omega, ?_⟩
  rw [hl]
  exact h.2.drop_ k hk h.1
/-- 'xs[:k]', 'xs[k:]', 'xs[j:k]' of a slice whose elements have one cell -/
theorem slice_hi {P : Program} (t e : TypeId) {i : TypeInfo} (ht : P.underlying t = some (.slice e)) (hi : P.info? e = some i) (hsz : i.size = 1) (A : Option Addr) (n c k : Nat) (hk : k ≤ c) (W : World) :
    (Instr.slice t (.slice A n c) none (some (.int .i64 (k : Int))) none).run P W = .ok (.slice A k c) W := by
  have hel : P.elem t = e := by simp [Program.elem, ht]
  have hu : P.underlying t = some (.slice (P.elem t)) := by rw [hel]; exact ht
  have ha : (A.map fun x => x.add 0) = A := by cases A <;> simp [Addr.add]
  rw [run_slice_h W t A n c hu .i64 (k : Int) (Int.natCast_nonneg _) (by omega), hel]
  simp [sizeOf, typeInfo, hi, hsz, sliced, Result.andThen, ha]
theorem slice_lo {P : Program} (t e : TypeId) {i : TypeInfo} (ht : P.underlying t = some (.slice e)) (hi : P.info? e = some i) (hsz : i.size = 1) (A : Option Addr) (n c k : Nat) (hk : k ≤ n) (W : World) :
    (Instr.slice t (.slice A n c) (some (.int .i64 (k : Int))) none none).run P W = .ok (.slice (cutA A c k) (n - k) (c - k)) W := by
  have hel : P.elem t = e := by simp [Program.elem, ht]
  have hu : P.underlying t = some (.slice (P.elem t)) := by rw [hel]; exact ht
  rw [run_slice_l W t A n c hu .i64 (k : Int) (Int.natCast_nonneg _) (by omega), hel]
  simp [sizeOf, typeInfo, hi, hsz, sliced, Result.andThen, cutA]
theorem slice_lohi {P : Program} (t e : TypeId) {i : TypeInfo} (ht : P.underlying t = some (.slice e)) (hi : P.info? e = some i) (hsz : i.size = 1) (A : Option Addr) (n c j k : Nat) (hj : j ≤ k) (hk : k ≤ c) (W : World) :
    (Instr.slice t (.slice A n c) (some (.int .i64 (j : Int))) (some (.int .i64 (k : Int))) none).run P W = .ok (.slice (cutA A c j) (k - j) (c - j)) W := by
  have hel : P.elem t = e := by simp [Program.elem, ht]
  have hu : P.underlying t = some (.slice (P.elem t)) := by rw [hel]; exact ht
  rw [run_slice_lh W t A n c hu .i64 .i64 (j : Int) (k : Int) (Int.natCast_nonneg _) (by omega) (by omega), hel]
  simp [sizeOf, typeInfo, hi, hsz, sliced, Result.andThen, cutA]

/-! 'string(b)', and its letters -/
def strB (xs : List UInt8) : ByteArray := ⟨xs.toArray⟩
theorem strB_list (xs : List UInt8) : (strB xs).data.toList = xs := by simp [strB]
theorem strOfNums_eu8 (xs : List UInt8) : strOfNums (xs.map fun b => (b.toNat : Int)) = strB xs := by
  simp [strOfNums, strB, List.map_map]
  have : ((fun (n : Int) => UInt8.ofNat n.toNat) ∘ fun (b : UInt8) => (b.toNat : Int)) = id := by
    funext b; simp
  rw [this, List.map_id]
theorem RdB.toStr {w : World} {A : Option Addr} {c : Nat} {xs : List UInt8} (h : RdB w A c xs) {P : Program} (src e dst : TypeId) (hs : P.underlying src = some (.slice e)) (he : P.underlying e = some (.int .u8)) (hd : P.underlying dst = some .string) :
    (convert src dst (.slice A xs.length c)).run P w = .ok (.string (strB xs)) w := by
  rcases Nat.eq_zero_or_pos xs.length with h0 | h0
  · obtain rfl : xs = [] := List.eq_nil_of_length_eq_zero h0
    cases A with
    | none => exact run_convert_bytes_nil w src e hs he 0 c dst hd
    | some ad =>
      show (convert src dst (.slice (some ad) 0 c)).run P w = _
      rw [run_convert_bytes_string w src dst e _ 0 c hs he hd, run_bytesToString w ad 0 c [] (by rfl)]
      rfl
  · obtain ⟨ad, rfl, hc⟩ := h.2.2.2 h0
    rcases ad with ⟨b, off, spot⟩
    cases spot with
    | some s =>
      have := hc 0 h0
      simp [Addr.add, World.cell?] at this
      split at this <;> simp at this
    | none =>
      have := run_convert_bytes_arg w src e hs he b off xs.length c (xs.map fun b => (b.toNat : Int)) (by simp) (fun i hi => by
        have := hc i hi
        have ha : (⟨b, off, none⟩ : Addr).add i = ⟨b, off + i, none⟩ := by unfold Addr.add; split <;> simp_all
        rw [ha] at this
        rw [this]
        simp [eu8, List.getD_eq_getElem?_getD, List.getElem?_eq_getElem hi]) dst hd
      rw [strOfNums_eu8] at this
      exact this

/-! 'append(v, ys...)' of octets, and of one octet -/
theorem OwB.lit0 (w : World) : OwB (w.alloc (.cells #[] 5)) w.heap.size (.slice (some ⟨w.heap.size, 0, none⟩) 0 0) [] := own_lit_of (enc := eu8) w w.heap.size 5 [] (Nat.le_refl _) (by simp)
/-- an operation under a guard that is met goes as if it had none -/
theorem wpList_guarded {P : Program} {ops : Array Oper} {rest : List Oper} {o : Oper} {a : Act} {w : World} {Q : Exit → Act → World → Prop} (hw : Region.wanted o (yielded ops a.tmps) = true)
    (h : wpList P ops Q ({ o with guard := none } :: rest) a w) : wpList P ops Q (o :: rest) a w := by
  unfold wpList at h ⊢
  rw [if_pos (by simp [Region.wanted])] at h
  rw [if_pos hw]
  exact h
section
variable {ops : Array Oper} {rest : List Oper} {o : Oper} {a : Act} {Q : Exit → Act → World → Prop}
theorem app_row {w0 W : World} (base : Nat) (hgd : o.guard = none) (s x : Operand)
    (ho : o.op = .call { callee := .builtin .append, args := #[s, x], argTypes := #[22, 22] })
    (v : Value) (xs ys : List UInt8) (A : Option Addr) (c : Nat) (hs : a.eval s = v) (hx : a.eval x = .slice A ys.length c)
    (HO : OwB W base v xs) (HR : RdB W A c ys) (HB : Below base w0 W) (hbase : base ≤ W.heap.size) (hl : xs.length + ys.length ≤ 140737488355328)
    (h : ∀ v1 w1, OwB w1 base v1 (xs ++ ys) → Below base w0 w1 → W.grownBy w1 v.ownBlock → (v1.ownBlock = v.ownBlock ∨ ∃ b, v1.ownBlock = some b ∧ W.heap.size ≤ b) → wpList Try.prog ops Q rest (a.put o.dst v1) w1) :
    wpList Try.prog ops Q (o :: rest) a W :=
  print_append_row_of eu8 0 base hgd s x 22 5 (.int .u8 0) 1 ho Try.underlying22 info_u8 rfl (by decide) eu8_one v xs ys A ys.length c hs hx HO HR.2 HB hbase (by omega) h
theorem app_one {w0 W : World} (base : Nat) (hgd : o.guard = none) (s x : Operand)
    (ho : o.op = .call { callee := .builtin .append, args := #[s, x], argTypes := #[22, 22] })
    (v : Value) (xs : List UInt8) (y : UInt8) (hs : a.eval s = v) (hx : a.eval x = .slice (some ⟨W.heap.size, 0, none⟩) 1 1)
    (HO : OwB W base v xs) (HB : Below base w0 W) (hbase : base ≤ W.heap.size) (hl : xs.length + 1 ≤ 140737488355328)
    (h : ∀ v1 w1, OwB w1 base v1 (xs ++ [y]) → Below base w0 w1 → W.grownBy w1 v.ownBlock → (v1.ownBlock = v.ownBlock ∨ ∃ b, v1.ownBlock = some b ∧ W.heap.size ≤ b) → wpList Try.prog ops Q rest (a.put o.dst v1) w1) :
    wpList Try.prog ops Q (o :: rest) a (W.alloc (.cells #[.int .u8 (y.toNat : Int)] 5)) :=
  print_append_of eu8 base hgd s x 22 5 (.int .u8 0) 1 ho Try.underlying22 info_u8 rfl (by decide) v xs y hs hx rfl HO HB hbase (by omega) h
end

/-! a region that draws its order, whose operations read what lay there when the call began, and whose callees leave that alone and hand back plain values: one walk in the text's order ('quiet_step', the class 'Below') -/
theorem wp_region_below {P : Program} {id : Nat} {Q : Exit → Act → World → Prop} {a : Act} {w : World} {l : List Oper} (B : Nat) (w0 : World) (hw0 : Below B w0 w) (hm : P.follows .mixedOrders = true) (hB : Region.lexB .any l.toArray = true)
    (h : wpQuiet P l.toArray (fun w' => Below B w0 w') (fun a' => ∀ w', Below B w0 w' → Q .normal a' w') l a) : (Code.region id l.toArray true).wp P Q a w :=
  wp_region_quiet (C := fun w' => Below B w0 w') hm hB hw0.drew (by simpa using h)

/-! arrays: '[4]byte(b)', a whole array read -/
theorem run_arrayAt {P : Program} (w : World) (arr e n : Nat) (hu : P.underlying arr = some (.array n e)) (a : Option Addr) (len c : Nat) (h : n ≤ len) : (Instr.arrayAt arr (.slice a len c)).run P w = .ok (.pointer a) w := by
  have h' : ¬ len < n := by omega
  simp [Instr.arrayAt, run_underlying hu, h']
theorem run_loadVar_arr {P : Program} (w : World) (ty e n : Nat) (hu : P.underlying ty = some (.array n e)) (a : Addr) (cs : List Value) (hi : (P.info? ty).map (·.size) = some cs.length)
    (hc : ∀ j v, cs[j]? = some v → w.cell? (a.add j) = some v) : (loadVar ty a).run P w = .ok (.agg cs.toArray) w := by
  have hl := run_loadCells_list (P := P) w a cs hc
  cases hq : P.info? ty with
  | none => simp [hq] at hi
  | some i =>
    have hs : i.size = cs.length := by simpa [hq] using hi
    have hagg : (isAgg ty).run P w = .ok true w := by
      unfold isAgg
      rw [Sem.run_bind, run_underlying hu w]
      simp
    simp [loadVar, Sem.run_bind, hagg, sizeOf, typeInfo, hq, hs, hl]
/-- an operation of a quiet walk whose run is known in every world of the class -/
theorem quiet_run {P : Program} {ops : Array Oper} {C : World → Prop} {Q : Act → Prop} {o : Oper} {rest : List Oper} {a : Act} (hgd : o.guard = none) (v : Value)
    (h : ∀ w, C w → (execOp a.eval o).run P w = .ok (.value v) w) (hk : wpQuiet P ops C Q rest (a.put o.dst v)) : wpQuiet P ops C Q (o :: rest) a :=
  wpQuiet_step fun K hK => by
    rw [if_pos (by simp [Region.wanted, hgd])]
    exact ⟨v, fun w hw => by unfold Oper.quietAt; rw [h w hw]; exact ⟨rfl, rfl⟩, hK _ hk⟩
/-- a whole variable (an array, a struct) read -/
theorem quiet_load {P : Program} {ops : Array Oper} {C : World → Prop} {Q : Act → Prop} {o : Oper} {rest : List Oper} {a : Act} (hgd : o.guard = none) (ty : TypeId) (x : Operand) (ho : o.op = .load ty x)
    (ad : Addr) (hx : a.eval x = .pointer (some ad)) (v : Value) (h : ∀ w, C w → (loadVar ty ad).run P w = .ok v w) (hk : wpQuiet P ops C Q rest (a.put o.dst v)) : wpQuiet P ops C Q (o :: rest) a :=
  quiet_run hgd v (fun w hw => by
    unfold execOp
    simp only [ho, hx, Instr.loadAt, Instr.sureAddr, Sem.run_bind, Sem.run_pure, Result.andThen_ok, h w hw]) hk
end Go.Proofs.Ytaonjbpaeloniaa
