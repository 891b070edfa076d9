/- Rows of numbers of 64 bits without a sign: read, owned. -/
import Derived.Test.YtckflapblbiniaaBase
namespace Go.Proofs.Ytckflapblbiniaa
open Go.RowKit Go.Proofs.YtckflapblbiniaaW.PrintWords
set_option linter.unusedVariables false

def eu64 (n : Nat) : Value := .int .u64 (n : Int)
theorem eu64_one (b : Nat) : (eu64 b).oneCell' = true := rfl
theorem info_u64 : (Try.prog.info? 22).map (fun i => (i.zero, i.size, i.bytes)) = some (some (.int .u64 0), 1, 8) := by kernel_rfl
def RdN (w : World) (A : Option Addr) (c : Nat) (xs : List Nat) : Prop := xs.length ≤ c ∧ ReadsOf eu64 0 w A xs.length xs
def OwN (w : World) (base : Nat) (v : Value) (xs : List Nat) : Prop := w.ownsRow base 22 1 v xs.length (encs eu64 xs)
theorem RdN.below {w w1 : World} {A : Option Addr} {c : Nat} {xs : List Nat} (h : RdN w A c xs) (hb : Below w.heap.size w w1) : RdN w1 A c xs := ⟨h.1, h.2.below hb⟩
theorem RdN.max {w : World} {A : Option Addr} {c : Nat} {xs : List Nat} (h : RdN w A c xs) : xs.length ≤ 9223372036854775807 := h.2.2.1
theorem RdN.at_ {w : World} {A : Option Addr} {c : Nat} {xs : List Nat} (h : RdN w A c xs) (i : Nat) (hi : i < xs.length) : ∃ ad, A = some ad ∧ w.cell? (ad.add i) = some (.int .u64 ((xs.getD i 0 : Nat) : Int)) := by
  obtain ⟨ad, e, hc⟩ := h.2.2.2 (by omega)
  exact ⟨ad, e, hc i hi⟩
theorem RdN.zero (w : World) (A : Option Addr) (c : Nat) : RdN w A c [] := ⟨Nat.zero_le _, rfl, Nat.zero_le _, fun h => absurd h (by simp)⟩
theorem OwN.below {w w1 : World} {base : Nat} {v : Value} {xs : List Nat} (h : OwN w base v xs) (hb : Below w.heap.size w w1) : OwN w1 base v xs := pw_own_below h hb
theorem OwN.lower {w : World} {base base' : Nat} {v : Value} {xs : List Nat} (h : OwN w base v xs) (hb : base' ≤ base) : OwN w base' v xs := own_weaken h hb
theorem OwN.rd {w : World} {base : Nat} {v : Value} {xs : List Nat} (h : OwN w base v xs) : ∃ A c, v = .slice A xs.length c ∧ RdN w A c xs := by
  obtain ⟨A, c, hv, hl, hr⟩ := own_reads_of_le (d := 0) h
  exact ⟨A, c, hv, hl, hr⟩
theorem OwN.zero (w : World) (base : Nat) : OwN w base (.slice none 0 0) [] := own_nil _ _ _ _
section
variable {ops : Array Oper} {rest : List Oper} {o : Oper} {a : Act} {Q : Exit → Act → World → Prop} {K : Act → World → Prop}
theorem app_num {w0 W : World} (base : Nat) (hgd : o.guard = none) (s x : Operand)
    (ho : o.op = .call { callee := .builtin .append, args := #[s, x], argTypes := #[41, 41] })
    (v : Value) (xs : List Nat) (y : Nat) (hs : a.eval s = v) (hx : a.eval x = .slice (some ⟨W.heap.size, 0, none⟩) 1 1)
    (HO : OwN W base v xs) (HB : Below base w0 W) (hbase : base ≤ W.heap.size) (hl : (xs.length + 1) * 8 ≤ 140737488355328)
    (h : ∀ v1 w1, OwN w1 base v1 (xs ++ [y]) → Below base w0 w1 → W.grownBy w1 v.ownBlock → (v1.ownBlock = v.ownBlock ∨ ∃ b, v1.ownBlock = some b ∧ W.heap.size ≤ b) → wpList Try.prog ops Q rest (a.put o.dst v1) w1) :
    wpList Try.prog ops Q (o :: rest) a (W.alloc (.cells #[.int .u64 (y : Int)] 22)) :=
  print_append_of eu64 base hgd s x 41 22 (.int .u64 0) 8 ho Try.underlying41 info_u64 rfl (by decide) v xs y hs hx rfl HO HB hbase hl h
theorem step_num {w0 W : World} (base : Nat) (hw : Region.wanted o (yielded ops a.tmps) = true) (s x : Operand)
    (ho : o.op = .call { callee := .builtin .append, args := #[s, x], argTypes := #[41, 41] })
    (v : Value) (xs : List Nat) (y : Nat) (hs : a.eval s = v) (hx : a.eval x = .slice (some ⟨W.heap.size, 0, none⟩) 1 1)
    (HO : OwN W base v xs) (HB : Below base w0 W) (hbase : base ≤ W.heap.size) (hl : (xs.length + 1) * 8 ≤ 140737488355328)
    (h : ∀ v1 w1, OwN w1 base v1 (xs ++ [y]) → Below base w0 w1 → K (a.put o.dst v1) w1) :
    if Region.wanted o (yielded ops a.tmps) = true then Oper.wp Try.prog o a (W.alloc (.cells #[.int .u64 (y : Int)] 22)) K Q else K (a.put o.dst undef) (W.alloc (.cells #[.int .u64 (y : Int)] 22)) :=
  step_append_cells base hw s x 41 22 (.int .u64 0) 1 8 ho Try.underlying41 info_u64 rfl (by decide) (by decide) v xs.length (encs eu64 xs) [.int .u64 (y : Int)] hs hx rfl (by intro u hu; have := List.mem_singleton.1 hu; subst this; rfl) HO HB hbase hl (fun v1 w1 h1 h2 _ _ => h v1 w1 (by
    unfold OwN
    rw [List.length_append, encs_append]
    exact h1) h2)
end
end Go.Proofs.Ytckflapblbiniaa
