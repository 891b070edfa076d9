/- Rows of elements of any kind: read, owned. -/
import Derived.Test.YtaonjbpaeloniaaSteps
import Derived.Test.YtaonjbpaeloniaaOwn
namespace Go.Proofs.Ytaonjbpaeloniaa
open Go.RowKit Go.Proofs.YtaonjbpaeloniaaW.PrintWords
set_option linter.unusedVariables false

section
variable {α : Type}
/-- a row that is read -/
def Rd (d : Kd α) (w : World) (A : Option Addr) (c : Nat) (xs : List α) : Prop := xs.length ≤ c ∧ d.C w A xs.length xs
theorem Rd.below {d : Kd α} {w w1 : World} {A : Option Addr} {c : Nat} {xs : List α} (h : Rd d w A c xs) (hb : Below w.heap.size w w1) : Rd d w1 A c xs := ⟨h.1, Kd.C_below h.2 hb⟩
theorem Rd.max {d : Kd α} {w : World} {A : Option Addr} {c : Nat} {xs : List α} (h : Rd d w A c xs) : xs.length ≤ 9223372036854775807 := h.2.2.1
theorem Rd.le {d : Kd α} {w : World} {A : Option Addr} {c : Nat} {xs : List α} (h : Rd d w A c xs) : xs.length ≤ c := h.1
theorem Rd.zero (d : Kd α) (w : World) (A : Option Addr) (c : Nat) : Rd d w A c [] := ⟨Nat.zero_le _, rfl, Nat.zero_le _, fun h => absurd h (by simp)⟩
theorem Rd.take {d : Kd α} {w : World} {A : Option Addr} {c : Nat} {xs : List α} (h : Rd d w A c xs) (k : Nat) (hk : k ≤ xs.length) : Rd d w A c (xs.take k) := ⟨by rw [List.length_take]; have := h.1; omega, Kd.C_take h.2 hk⟩
/-- the address behind 'xs[k:]' -/
def cutK (sz : Nat) (A : Option Addr) (c k : Nat) : Option Addr := if c = k then A else A.map (·.add (k * sz))
theorem Rd.drop {d : Kd α} {w : World} {A : Option Addr} {c : Nat} {xs : List α} (h : Rd d w A c xs) (k : Nat) (hk : k ≤ xs.length) : Rd d w (cutK d.sz A c k) (c - k) (xs.drop k) := ⟨by rw [List.length_drop]; have := h.1; omega, Kd.C_drop h.2 hk h.1⟩
theorem Rd.mid {d : Kd α} {w : World} {A : Option Addr} {c : Nat} {xs : List α} (h : Rd d w A c xs) (j k : Nat) (hj : j ≤ k) (hk : k ≤ xs.length) : Rd d w (cutK d.sz A c j) (c - j) ((xs.take k).drop j) := (h.take k hk).drop j (by rw [List.length_take]; omega)
theorem Rd.at_ {d : Kd α} {w : World} {A : Option Addr} {c : Nat} {xs : List α} (h : Rd d w A c xs) (z : α) (i : Nat) (hi : i < xs.length) : ∃ ad cs, A = some ad ∧ d.K w (xs.getD i z) cs ∧ cs.length = d.sz ∧ ∀ j u, cs[j]? = some u → w.cell? (ad.add (i * d.sz + j)) = some u := by
  obtain ⟨ad, cs, e, hl, hk, hc⟩ := Kd.C_get h.2 z (i : Int) (by omega) (by omega)
  simp only [Int.toNat_natCast] at hk hc
  exact ⟨ad, cs, e, hk, hl, hc⟩
/-- a row of the call's own -/
def Ow (d : Kd α) (e : Nat) (w : World) (base : Nat) (v : Value) (xs : List α) : Prop := d.R e w base (fun _ => True) v xs
theorem Ow.below {d : Kd α} {e : Nat} {w w1 : World} {base : Nat} {v : Value} {xs : List α} (h : Ow d e w base v xs) (hb : Below w.heap.size w w1) : Ow d e w1 base v xs := Kd.R_below h hb
theorem Ow.zero (d : Kd α) (e : Nat) (w : World) (base : Nat) : Ow d e w base (.slice none 0 0) [] := Kd.R_nil _ _ _ _ _
theorem Ow.lower {d : Kd α} {e : Nat} {w : World} {base base' : Nat} {v : Value} {xs : List α} (h : Ow d e w base v xs) (hb : base' ≤ base) : Ow d e w base' v xs := Kd.R_lower h hb
theorem Ow.rd {d : Kd α} {e : Nat} {w : World} {base : Nat} {v : Value} {xs : List α} (h : Ow d e w base v xs) : ∃ A c, v = .slice A xs.length c ∧ Rd d w A c xs := by
  obtain ⟨A, c, hv, hl, hC⟩ := Kd.R_reads h
  exact ⟨A, c, hv, hl, hC⟩
theorem Ow.rdl {d : Kd α} {e : Nat} {w : World} {base : Nat} {A : Option Addr} {n c : Nat} {xs : List α} (h : Ow d e w base (.slice A n c) xs) : Rd d w A c xs := by
  obtain ⟨A', c', hv, hr⟩ := h.rd
  injection hv with h1 _ h3
  subst h1
  subst h3
  exact hr
theorem Ow.lt {d : Kd α} {e : Nat} {w : World} {base : Nat} {v : Value} {xs : List α} (h : Ow d e w base v xs) (k : Nat) (hk : v.ownBlock = some k) : k < w.heap.size := by
  obtain ⟨_, inner, ho, _⟩ := h
  exact own_lt ho k hk
theorem Ow.ge {d : Kd α} {e : Nat} {w : World} {base : Nat} {v : Value} {xs : List α} (h : Ow d e w base v xs) (k : Nat) (hk : v.ownBlock = some k) : base ≤ k := by
  obtain ⟨_, inner, ho, _⟩ := h
  exact own_base ho k hk
/-- a row of another element type has been written -/
theorem Ow.over {β : Type} {d : Kd α} {d' : Kd β} {e e' : Nat} {w w1 : World} {base base' : Nat} {v v' : Value} {xs : List α} {ys : List β} (h : Ow d e w base v xs) (h' : Ow d' e' w base' v' ys) (ht : ∀ q, q ∈ e :: d.E → q ≠ e') (hg : w.grownBy w1 v'.ownBlock) : Ow d e w1 base v xs := Kd.R_over' h (Kd.R_typed h') ht hg
theorem Ow.setCell {d : Kd α} {e : Nat} {w : World} {base : Nat} {v : Value} {xs : List α} (h : Ow d e w base v xs) {g t : Nat} {cells : Array Value} (hb : w.heap[g]? = some (.cells cells t (0, 0))) (ht : ∀ q, q ∈ e :: d.E → q ≠ t) (j : Nat) (u : Value) : Ow d e (w.setCell ⟨g, j, none⟩ u) base v xs := Kd.R_set h hb ht j u
theorem one_ne {e e' : Nat} (h : e ≠ e') : ∀ q, q ∈ [e] → q ≠ e' := fun q hq => by rw [List.mem_singleton.1 hq]; exact h
theorem OwB.ow {w : World} {base : Nat} {v : Value} {xs : List UInt8} (h : OwB w base v xs) : Ow kU8 5 w base v xs := Kd.R_of_own h (fun _ _ => trivial)
theorem Ow.owB {w : World} {base : Nat} {v : Value} {xs : List UInt8} (h : Ow kU8 5 w base v xs) : OwB w base v xs := Kd.own_of_R h
theorem Rd.rdB {w : World} {A : Option Addr} {c : Nat} {xs : List UInt8} (h : Rd kU8 w A c xs) : RdB w A c xs := ⟨h.1, Kd.reads_of_C (d := (0 : UInt8)) h.2⟩
theorem RdB.rdk {w : World} {A : Option Addr} {c : Nat} {xs : List UInt8} (h : RdB w A c xs) : Rd kU8 w A c xs := ⟨h.1, Kd.C_of_reads h.2⟩
/-- 'xs[k:]', 'xs[:k]', 'xs[j:k]' of elements of whatever size -/
theorem sliceK_lo {P : Program} (t e : TypeId) {i : TypeInfo} (ht : P.underlying t = some (.slice e)) (hi : P.info? e = some i) (sz : Nat) (hsz : i.size = sz) (A : Option Addr) (n c k : Nat) (hk : k ≤ n) (W : World) :
    (Instr.slice t (.slice A n c) (some (.int .i64 (k : Int))) none none).run P W = .ok (.slice (cutK sz A c k) (n - k) (c - k)) W := by
  subst hsz
  have hel : P.elem t = e := by simp [Program.elem, ht]
  have hu : P.underlying t = some (.slice (P.elem t)) := by rw [hel]; exact ht
  rw [run_slice_l W t A n c hu .i64 (k : Int) (Int.natCast_nonneg _) (by omega), hel]
  simp [sizeOf, typeInfo, hi, sliced, Result.andThen, cutK]
theorem sliceK_lohi {P : Program} (t e : TypeId) {i : TypeInfo} (ht : P.underlying t = some (.slice e)) (hi : P.info? e = some i) (sz : Nat) (hsz : i.size = sz) (A : Option Addr) (n c j k : Nat) (hj : j ≤ k) (hk : k ≤ c) (W : World) :
    (Instr.slice t (.slice A n c) (some (.int .i64 (j : Int))) (some (.int .i64 (k : Int))) none).run P W = .ok (.slice (cutK sz A c j) (k - j) (c - j)) W := by
  subst hsz
  have hel : P.elem t = e := by simp [Program.elem, ht]
  have hu : P.underlying t = some (.slice (P.elem t)) := by rw [hel]; exact ht
  rw [run_slice_lh W t A n c hu .i64 .i64 (j : Int) (k : Int) (Int.natCast_nonneg _) (by omega) (by omega), hel]
  simp [sizeOf, typeInfo, hi, sliced, Result.andThen, cutK]
theorem sliceK_hi {P : Program} (t e : TypeId) {i : TypeInfo} (ht : P.underlying t = some (.slice e)) (hi : P.info? e = some i) (A : Option Addr) (n c k : Nat) (hk : k ≤ c) (W : World) :
    (Instr.slice t (.slice A n c) none (some (.int .i64 (k : Int))) none).run P W = .ok (.slice A k c) W := by
  have hel : P.elem t = e := by simp [Program.elem, ht]
  have hu : P.underlying t = some (.slice (P.elem t)) := by rw [hel]; exact ht
  have ha : (A.map fun x => x.add 0) = A := by cases A <;> simp [Addr.add]
  rw [run_slice_h W t A n c hu .i64 (k : Int) (Int.natCast_nonneg _) (by omega), hel]
  simp [sizeOf, typeInfo, hi, sliced, Result.andThen, ha]
section
variable {P : Program} {ops : Array Oper} {rest : List Oper} {o : Oper} {a : Act} {Q : Exit → Act → World → Prop}
/-- 'append(v, x)': of one element whose cells bear no rows of their own -/
theorem app_ow {w0 W : World} (d : Kd α) (base : Nat) (hgd : o.guard = none) (s x : Operand) (t e : TypeId) (z : Value) (bytes : Nat)
    (ho : o.op = .call { callee := .builtin .append, args := #[s, x], argTypes := #[t, t] })
    (ht : P.underlying t = some (.slice e)) (hinfo : (P.info? e).map (fun i => (i.zero, i.size, i.bytes)) = some (some z, d.sz, bytes)) (hz : z.cells.size = d.sz) (hs0 : 0 < d.sz) (hb0 : 0 < bytes)
    (v : Value) (xs : List α) (p : α) (cs : List Value) (hs : a.eval s = v) (hx : a.eval x = .slice (some ⟨W.heap.size, 0, none⟩) 1 1) (hp : d.M W base (fun _ => False) p cs)
    (HO : Ow d e W base v xs) (HB : Below base w0 W) (hbase : base ≤ W.heap.size) (hl : (xs.length + 1) * bytes ≤ 140737488355328)
    (h : ∀ v1 w1, Ow d e w1 base v1 (xs ++ [p]) → Below base w0 w1 → W.grownBy w1 v.ownBlock → (v1.ownBlock = v.ownBlock ∨ ∃ b, v1.ownBlock = some b ∧ W.heap.size ≤ b) → wpList P ops Q rest (a.put o.dst v1) w1) :
    wpList P ops Q (o :: rest) a (W.alloc (.cells cs.toArray e)) :=
  Kd.R_append (P := P) d base hgd s x t e z bytes ho ht hinfo hz hs0 hb0 v xs p cs (fun _ => True) (fun _ => False) hs hx hp (fun _ h => h.elim) (fun _ _ => trivial) HO HB hbase hl h
/-- 'append(v, ys...)' -/
theorem app_ows {w0 W : World} (d : Kd α) (base : Nat) (hgd : o.guard = none) (s x : Operand) (t e : TypeId) (z : Value) (bytes : Nat)
    (ho : o.op = .call { callee := .builtin .append, args := #[s, x], argTypes := #[t, t] })
    (ht : P.underlying t = some (.slice e)) (hinfo : (P.info? e).map (fun i => (i.zero, i.size, i.bytes)) = some (some z, d.sz, bytes)) (hz : z.cells.size = d.sz) (hs0 : 0 < d.sz) (hb0 : 0 < bytes)
    (v : Value) (xs ys : List α) (A : Option Addr) (c : Nat) (hs : a.eval s = v) (hx : a.eval x = .slice A ys.length c) (hKM : ∀ x cs, d.K W x cs → d.M W base (fun _ => False) x cs)
    (HO : Ow d e W base v xs) (HR : Rd d W A c ys) (HB : Below base w0 W) (hbase : base ≤ W.heap.size) (hl : (xs.length + ys.length) * bytes ≤ 140737488355328)
    (h : ∀ v1 w1, Ow d e w1 base v1 (xs ++ ys) → Below base w0 w1 → W.grownBy w1 v.ownBlock → (v1.ownBlock = v.ownBlock ∨ ∃ b, v1.ownBlock = some b ∧ W.heap.size ≤ b) → wpList P ops Q rest (a.put o.dst v1) w1) :
    wpList P ops Q (o :: rest) a W :=
  Kd.R_append_rows (P := P) d (Rr := d.K W) base hgd s x t e z bytes ho ht hinfo hz hs0 hb0 v xs ys A ys.length c (fun _ => True) (fun _ => False) hs hx HO HR.2 hKM (fun _ h => h.elim) (fun _ _ => trivial) HB hbase hl h
end
end
/-- the kind of a number -/
abbrev kInt : Kd Int := Kd.int .i64
abbrev kStr : Kd ByteArray := Kd.string
abbrev kBool : Kd Bool := Kd.bool
theorem info_int : (Try.prog.info? 3).map (fun i => (i.zero, i.size, i.bytes)) = some (some (.int .i64 0), 1, 8) := by kernel_rfl
section
variable {ops : Array Oper} {rest : List Oper} {o : Oper} {a : Act} {Q : Exit → Act → World → Prop}
theorem app_int {w0 W : World} (base : Nat) (hgd : o.guard = none) (s x : Operand)
    (ho : o.op = .call { callee := .builtin .append, args := #[s, x], argTypes := #[52, 52] })
    (v : Value) (xs : List Int) (y : Int) (hs : a.eval s = v) (hx : a.eval x = .slice (some ⟨W.heap.size, 0, none⟩) 1 1)
    (HO : Ow kInt 3 W base v xs) (HB : Below base w0 W) (hbase : base ≤ W.heap.size) (hl : (xs.length + 1) * 8 ≤ 140737488355328)
    (h : ∀ v1 w1, Ow kInt 3 w1 base v1 (xs ++ [y]) → Below base w0 w1 → W.grownBy w1 v.ownBlock → (v1.ownBlock = v.ownBlock ∨ ∃ b, v1.ownBlock = some b ∧ W.heap.size ≤ b) → wpList Try.prog ops Q rest (a.put o.dst v1) w1) :
    wpList Try.prog ops Q (o :: rest) a (W.alloc (.cells #[.int .i64 y] 3)) :=
  app_ow kInt base hgd s x 52 3 _ 8 ho Try.underlying52 info_int rfl (by decide) (by decide) v xs y [.int .i64 y] hs hx rfl HO HB hbase hl h
end
theorem Rd.int_at {w : World} {A : Option Addr} {c : Nat} {xs : List Int} (h : Rd kInt w A c xs) (i : Nat) (hi : i < xs.length) : ∃ ad, A = some ad ∧ w.cell? (ad.add i) = some (.int .i64 (xs.getD i 0)) := by
  obtain ⟨ad, cs, e, hk, _, hc⟩ := h.at_ 0 i hi
  have hk' : cs = [.int .i64 (xs.getD i 0)] := hk
  subst hk'
  have := hc 0 _ rfl
  rw [show kInt.sz = 1 from rfl, Nat.mul_one, Nat.add_zero] at this
  exact ⟨ad, e, this⟩
end Go.Proofs.Ytaonjbpaeloniaa
