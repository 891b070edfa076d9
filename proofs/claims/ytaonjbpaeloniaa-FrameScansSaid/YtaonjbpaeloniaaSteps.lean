/- Octets appended, as a step of a region that draws its order; a cell far from a store. -/
import Derived.Test.YtaonjbpaeloniaaBase
namespace Go.Proofs.Ytaonjbpaeloniaa
open Go.RowKit Go.Proofs.YtaonjbpaeloniaaW.PrintWords
set_option linter.unusedVariables false

theorem rrow_of {w : World} {A : Option Addr} {n : Nat} {xs : List UInt8} (h : ReadsOf eu8 0 w A n xs) : ReadsRow (fun (x : UInt8) cs => cs = [eu8 x]) 1 w A n xs := by
  refine ⟨h.1, h.2.1, fun hn => ?_⟩
  obtain ⟨ad, e, hc⟩ := h.2.2 hn
  refine ⟨ad, e, fun j p hj => ⟨[eu8 p], rfl, rfl, fun i u hu => ?_⟩⟩
  obtain ⟨hl, hp⟩ := List.getElem?_eq_some_iff.1 hj
  have hi : i = 0 := by
    rcases Nat.eq_zero_or_pos i with h0 | h0
    · exact h0
    · rw [List.getElem?_eq_none (by simp; omega)] at hu
      cases hu
  subst hi
  have h1 := hc j (by have := h.1; omega)
  have h2 : u = eu8 p := by simpa using hu.symm
  rw [h2, Nat.mul_one, Nat.add_zero]
  rw [List.getD_eq_getElem?_getD, hj] at h1
  exact h1
/-- the kind of an octet -/
def kU8 : Kd UInt8 := Kd.scalar eu8 eu8_one
section
variable {ops : Array Oper} {o : Oper} {a : Act} {Q : Exit → Act → World → Prop} {K : Act → World → Prop}
theorem step_row {w0 W : World} (base : Nat) (hw : Region.wanted o (yielded ops a.tmps) = true) (s x : Operand)
    (ho : o.op = .call { callee := .builtin .append, args := #[s, x], argTypes := #[22, 22] })
    (v : Value) (xs ys : List UInt8) (A : Option Addr) (c : Nat) (hs : a.eval s = v) (hx : a.eval x = .slice A ys.length c)
    (HO : OwB W base v xs) (HR : RdB W A c ys) (HB : Below base w0 W) (hbase : base ≤ W.heap.size) (hl : xs.length + ys.length ≤ 140737488355328)
    (h : ∀ v1 w1, OwB w1 base v1 (xs ++ ys) → Below base w0 w1 → W.grownBy w1 v.ownBlock → K (a.put o.dst v1) w1) :
    if Region.wanted o (yielded ops a.tmps) = true then Oper.wp Try.prog o a W K Q else K (a.put o.dst undef) W :=
  Kd.R_append_rows_step kU8 (Rr := fun (x : UInt8) cs => cs = [eu8 x]) base hw s x 22 5 (.int .u8 0) 1 ho Try.underlying22 info_u8 rfl (by decide) (by decide) v xs ys A ys.length c (fun _ => True) (fun _ => False) hs hx
    (Kd.R_of_own HO (fun _ _ => trivial)) (rrow_of HR.2) (fun _ _ h => h) (fun _ h => h.elim) (fun _ _ => trivial) HB hbase (by omega) (fun v1 w1 h1 h2 h3 _ => h v1 w1 (Kd.own_of_R h1) h2 h3)
end
end Go.Proofs.Ytaonjbpaeloniaa
