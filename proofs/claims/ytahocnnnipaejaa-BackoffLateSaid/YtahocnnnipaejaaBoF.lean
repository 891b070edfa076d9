/- Backoff: words of the laws' walks. -/
import Derived.Test.YtahocnnnipaejaaBoE
import Derived.Deep.QuietTactic
import Derived.BigQuiet
namespace Go.Proofs.Ytahocnnnipaejaa
open Go.RowKit Go.Proofs.YtahocnnnipaejaaW.PrintWords
set_option linter.unusedVariables false

theorem i64_of (a : Int) (h : (Lit.int .i64 a).wf = true) : -9223372036854775808 ≤ a ∧ a ≤ 9223372036854775807 := by
  simpa [Lit.wf, IntKind.min, IntKind.max, IntKind.signed, IntKind.bits] using h
theorem wp_region_below {P : Program} {id : Nat} {Q : Exit → Act → World → Prop} {a : Act} {w : World} {l : List Oper} (B : Nat) (w0 : World) (hw0 : Below B w0 w) (hm : P.follows .mixedOrders = true) (hB : Region.lexB .any l.toArray = true)
    (h : wpQuiet P l.toArray (fun w' => Below B w0 w') (fun a' => ∀ w', Below B w0 w' → Q .normal a' w') l a) : (Code.region id l.toArray true).wp P Q a w :=
  wp_region_quiet (C := fun w' => Below B w0 w') hm hB hw0.drew (by simpa using h)
theorem run_loadVar_lim {P : Program} (w : World) (ty : TypeId) (fs : Array Field) (hu : P.underlying ty = some (.struct fs)) (a : Addr) (cs : List Value) (hi : (P.info? ty).map (·.size) = some cs.length)
    (hc : ∀ j v, cs[j]? = some v → w.cell? (a.add j) = some v) : (loadVar ty a).run P w = .ok (.agg cs.toArray) w := by
  have hl := run_loadCells_list (P := P) w a cs hc
  cases hq : P.info? ty with
  | none => simp [hq] at hi
  | some i =>
    have hs : i.size = cs.length := by simpa [hq] using hi
    have hagg : (isAgg ty).run P w = .ok true w := by
      unfold isAgg
      rw [Sem.run_bind, run_underlying hu w]
      simp
    simp [loadVar, Sem.run_bind, hagg, sizeOf, typeInfo, hq, hs, hl]
theorem quiet_load {P : Program} {ops : Array Oper} {C : World → Prop} {Q : Act → Prop} {o : Oper} {rest : List Oper} {a : Act} (hgd : Region.wanted o (yielded ops a.tmps) = true) (ty : TypeId) (x : Operand) (ho : o.op = .load ty x)
    (ad : Addr) (hx : a.eval x = .pointer (some ad)) (v : Value) (h : ∀ w, C w → (loadVar ty ad).run P w = .ok v w) (hk : wpQuiet P ops C Q rest (a.put o.dst v)) : wpQuiet P ops C Q (o :: rest) a :=
  wpQuiet_step fun K hK => by
    rw [if_pos hgd]
    refine ⟨v, fun w hw => ?_, hK _ hk⟩
    have hr : (execOp a.eval o).run P w = .ok (.value v) w := by
      unfold execOp
      simp only [ho, hx, Instr.loadAt, Instr.sureAddr, Sem.run_bind, Sem.run_pure, Result.andThen_ok, h w hw]
    unfold Oper.quietAt
    rw [hr]
    exact ⟨rfl, rfl⟩
/-- the limits that lie in two variables just laid, calls behind -/
theorem boxed2 {w w1 : World} {b c t : Int} {ty ty2 : TypeId} (HB : Below ((w.alloc (.cells #[.int .i64 b, .int .i64 c, .int .i64 t] ty)).alloc (.cells #[.int .i64 b, .int .i64 c, .int .i64 t] ty2)).heap.size ((w.alloc (.cells #[.int .i64 b, .int .i64 c, .int .i64 t] ty)).alloc (.cells #[.int .i64 b, .int .i64 c, .int .i64 t] ty2)) w1) :
    w1.cell? ⟨w.heap.size, 0, none⟩ = some (.int .i64 b) ∧ w1.cell? ⟨w.heap.size, 1, none⟩ = some (.int .i64 c) ∧ w1.cell? ⟨w.heap.size, 2, none⟩ = some (.int .i64 t) ∧
    w1.cell? ⟨w.heap.size + 1, 0, none⟩ = some (.int .i64 b) ∧ w1.cell? ⟨w.heap.size + 1, 1, none⟩ = some (.int .i64 c) ∧ w1.cell? ⟨w.heap.size + 1, 2, none⟩ = some (.int .i64 t) ∧ Below w.heap.size w w1 := by
  have hB1 : Below (w.alloc (.cells #[.int .i64 b, .int .i64 c, .int .i64 t] ty)).heap.size (w.alloc (.cells #[.int .i64 b, .int .i64 c, .int .i64 t] ty)) w1 := ((Below.refl _ _).alloc (Nat.le_refl _) _).trans (HB.mono (by simp))
  obtain ⟨a0, a1, a2, aB⟩ := boxed hB1
  obtain ⟨c0, c1, c2, _⟩ := boxed (w := w.alloc (.cells #[.int .i64 b, .int .i64 c, .int .i64 t] ty)) HB
  have e : (w.alloc (.cells #[.int .i64 b, .int .i64 c, .int .i64 t] ty)).heap.size = w.heap.size + 1 := by simp
  rw [e] at c0 c1 c2
  exact ⟨a0, a1, a2, c0, c1, c2, aB⟩
theorem quiet_known {P : Program} {ops : Array Oper} {C : World → Prop} {Q : Act → Prop} {o : Oper} {rest : List Oper} {a : Act} (hgd : Region.wanted o (yielded ops a.tmps) = true) (v : Value)
    (h : ∀ w, C w → (execOp a.eval o).run P w = .ok (.value v) w) (hk : wpQuiet P ops C Q rest (a.put o.dst v)) : wpQuiet P ops C Q (o :: rest) a :=
  wpQuiet_step fun K hK => by
    rw [if_pos hgd]
    refine ⟨v, fun w hw => ?_, hK _ hk⟩
    unfold Oper.quietAt
    rw [h w hw]
    exact ⟨rfl, rfl⟩
theorem run_loadVar_int {P : Program} (w : World) (ty : TypeId) (k : IntKind) (hu : P.underlying ty = some (.int k)) (a : Addr) (n : Int) (hc : w.cell? a = some (.int k n)) : (loadVar ty a).run P w = .ok (.int k n) w := by
  have hagg : (isAgg ty).run P w = .ok false w := by
    unfold isAgg
    rw [Sem.run_bind, run_underlying hu w]
    simp
  simp [loadVar, Sem.run_bind, hagg, hc]
end Go.Proofs.Ytahocnnnipaejaa
