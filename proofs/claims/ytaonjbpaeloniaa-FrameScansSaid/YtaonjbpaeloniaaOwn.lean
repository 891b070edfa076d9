/- Octets of the call's own, set one by one; the least of three lengths; a row that is made. -/
import Derived.Test.YtaonjbpaeloniaaBase
import Derived.Laws.BitsAllLaws
namespace Go.Proofs.Ytaonjbpaeloniaa
open Go.RowKit Go.Proofs.YtaonjbpaeloniaaW.PrintWords

theorem OwB.set_ {W : World} {base : Nat} {v : Value} {xs : List UInt8} (HO : OwB W base v xs) (k : Nat) (hk : k < xs.length) :
    ∃ g cap, v = .slice (some ⟨g, 0, none⟩) xs.length cap ∧ base ≤ g ∧ g < W.heap.size ∧ W.cell? ⟨g, k, none⟩ = some (.int .u8 ((xs.getD k 0).toNat : Int)) ∧ W.frozen? ⟨g, k, none⟩ = false ∧
      ∀ x : UInt8, OwB (W.setCell ⟨g, k, none⟩ (.int .u8 (x.toNat : Int))) base v (xs.set k x) ∧ W.grownBy (W.setCell ⟨g, k, none⟩ (.int .u8 (x.toNat : Int))) (some g) := by
  have HO' := HO
  unfold OwB at HO'
  obtain ⟨g, cap, hv, hgb, hgl⟩ := HO'.form (by omega)
  subst hv
  have hat := own_at_of (d := (0 : UInt8)) HO' k (by omega) (by omega)
  have hkk : ((k : Int)).toNat = k := by omega
  rw [rdOf, hkk] at hat
  refine ⟨g, cap, rfl, hgb, hgl, hat.1, hat.2, fun x => ?_⟩
  have hst := own_store_of HO' k x
  rw [hkk] at hst
  refine ⟨?_, hst.2⟩
  unfold OwB
  rw [List.length_set]
  exact hst.1
/-- what is younger than a row stays as it is when the row is written -/
theorem OwB.other {w w1 : World} {base base' : Nat} {v v' : Value} {xs ys : List UInt8} (h : OwB w base v xs) (_ : OwB w base' v' ys) (hlt : ∀ k, v'.ownBlock = some k → k < base) (hg : w.grownBy w1 v'.ownBlock) : OwB w1 base v xs :=
  own_other h hg (by
    cases hv : v.ownBlock with
    | none => exact .inl rfl
    | some k =>
      refine .inr fun e => ?_
      have h1 := own_base h k hv
      have h2 := hlt k e.symm
      omega)
theorem OwB.lt {w : World} {base : Nat} {v : Value} {xs : List UInt8} (h : OwB w base v xs) (k : Nat) (hk : v.ownBlock = some k) : k < w.heap.size := own_lt h k hk
theorem OwB.ge {w : World} {base : Nat} {v : Value} {xs : List UInt8} (h : OwB w base v xs) (k : Nat) (hk : v.ownBlock = some k) : base ≤ k := own_base h k hk
theorem OwB.grown {w w1 : World} {base : Nat} {v : Value} {xs : List UInt8} {w0 : World} (h : OwB w base v xs) (hB : Below base w0 w) (hs : base ≤ w.heap.size) (hg : w.grownBy w1 v.ownBlock) : Below base w0 w1 := hB.grown hg hs (fun k hk => own_base h k hk)
theorem OwB.made (W : World) (base m : Nat) (hb : base ≤ W.heap.size) (hm : m ≤ 9223372036854775807) :
    OwB (W.alloc (.cells (madeCells #[.int .u8 0] m) 5)) base (.slice (some ⟨W.heap.size, 0, none⟩) m m) (List.replicate m 0) := by
  unfold OwB
  rw [List.length_replicate]
  exact own_made_of (enc := eu8) (d := 0) W base 5 m hb hm
theorem make_bytes (m : Nat) (hn : m ≤ 281474976710656) (W : World) : (Instr.makeSlice 22 (.int .i64 (m : Int)) (.int .i64 (m : Int))).run Try.prog W = .ok (.slice (some ⟨W.heap.size, 0, none⟩) m m) (W.alloc (.cells (madeCells #[.int .u8 0] m) 5)) :=
  print_make_of 22 5 (.int .u8 0) 1 Try.underlying22 info_u8 rfl (by decide) m (by omega) W
section
variable {P : Program} {ops : Array Oper} {rest : List Oper} {o : Oper} {a : Act} {Q : Exit → Act → World → Prop}
/-- an operation that is no call out of here, and whose run is known -/
theorem wp_known {W W' : World} (hgd : o.guard = none) (v : Value) (h : (execOp a.eval o).run P W = .ok (.value v) W') (hk : wpList P ops Q rest (a.put o.dst v) W') : wpList P ops Q (o :: rest) a W :=
  wpList_plain hgd fun K hK => by
    unfold Oper.wp
    rw [h]
    exact hK _ _ hk
theorem min2_nat (k : IntKind) (m n : Nat) : Builtin.min2 (.int k (m : Int)) (.int k (n : Int)) = (pure (.int k ((Nat.min m n : Nat) : Int)) : Sem Value) := by
  show (pure (.int k (if (n : Int) < (m : Int) then (n : Int) else (m : Int))) : Sem Value) = _
  by_cases h : n < m
  · rw [if_pos (by omega), show Nat.min m n = n from Nat.min_eq_right (by omega)]
  · rw [if_neg (by omega), show Nat.min m n = m from Nat.min_eq_left (by omega)]
theorem wp_min3 {W : World} (hgd : o.guard = none) (x y z : Operand) (t1 t2 t3 : TypeId) (ho : o.op = .call { callee := .builtin .min, args := #[x, y, z], argTypes := #[t1, t2, t3] }) (k : IntKind) (m n l : Nat)
    (hx : a.eval x = .int k (m : Int)) (hy : a.eval y = .int k (n : Int)) (hz : a.eval z = .int k (l : Int)) (hk : wpList P ops Q rest (a.put o.dst (.int k ((Nat.min (Nat.min m n) l : Nat) : Int))) W) : wpList P ops Q (o :: rest) a W :=
  wp_known hgd _ (by
    unfold execOp
    simp only [ho, resolve, invoke, builtin, Sem.run_bind, Sem.run_pure, Result.andThen_ok, List.map_toArray, List.map_cons, List.map_nil, hx, hy, hz, Builtin.min_, List.foldlM_cons, List.foldlM_nil, min2_nat]) hk
theorem wp_min2 {W : World} (hgd : o.guard = none) (x y : Operand) (t1 t2 : TypeId) (ho : o.op = .call { callee := .builtin .min, args := #[x, y], argTypes := #[t1, t2] }) (k : IntKind) (m n : Nat)
    (hx : a.eval x = .int k (m : Int)) (hy : a.eval y = .int k (n : Int)) (hk : wpList P ops Q rest (a.put o.dst (.int k ((Nat.min m n : Nat) : Int))) W) : wpList P ops Q (o :: rest) a W :=
  wp_known hgd _ (by
    unfold execOp
    simp only [ho, resolve, invoke, builtin, Sem.run_bind, Sem.run_pure, Result.andThen_ok, List.map_toArray, List.map_cons, List.map_nil, hx, hy, Builtin.min_, List.foldlM_cons, List.foldlM_nil, min2_nat]) hk
end
theorem xor_u8 (x y : UInt8) : bits .xor .u8 (x.toNat : Int) (y.toNat : Int) = ((x ^^^ y).toNat : Int) := by
  rw [u8_xor_nat _ _ x.toNat_lt y.toNat_lt, UInt8.toNat_xor]
end Go.Proofs.Ytaonjbpaeloniaa
