/- What the law TableParts reaches besides, and its walk. -/
import Derived.Test.YtefcepjffeiaoaaMgA
import Derived.Lib.SliceRun
import Derived.Test.YtefcepjffeiaoaaQPCx
import Derived.Test.YtefcepjffeiaoaaMgC
set_option linter.unusedVariables false
set_option linter.unusedSimpArgs false
section
/- Arguments opened: versions. -/
namespace Go.Proofs.Ytefcepjffeiaoaa
open Go.ChangeShapes Go.WideShapes Go.ChangeAt Go.RowKit Go.Proofs.YtefcepjffeiaoaaW.PrintWords
set_option maxRecDepth 100000
set_option linter.unusedVariables false
instance : Inhabited Ent := ⟨zEnt⟩
theorem open_ents {H : Type} {enc : TypeId × Value → H} {W : World} {base : Nat} {v : Value} {x : DataW H} {p : List MemPlace} (hv : Value.okWide Try.prog W .any base 22 v)
    (h : DataW.Trod enc Try.prog W 0 (fun _ => true) true 22 v x p) : ∃ A c l, v = .slice A l.length c ∧ RdE W A c l ∧ (∀ B, (∀ y ∈ x.weights Try.prog 22, y ≤ B) → l.length * 48 ≤ B) := by
  have o1 := opens_struct Try.underlying43 (d := kEnt) (by kernel_rfl) (opensF_cons rfl (by kernel_rfl) (opens_string Try.underlying9) (opensF_cons rfl (by kernel_rfl) (opens_int Try.underlying3) (opensF_cons rfl (by kernel_rfl) (opens_int Try.underlying3) (opensF_one rfl (by kernel_rfl) (opens_string Try.underlying9)))))
  have o2 := opens_slice (t := 22) Try.underlying22 (by kernel_rfl) o1
  obtain ⟨A, c, l, hv, hl, hC, hS, hU⟩ := open_slice_of Try.underlying22 o2 hv h
  refine ⟨A, c, l, hv, ⟨hl, hC⟩, fun B hB => ?_⟩
  have h1 := (hS B hB).1
  have e : Try.prog.bytesOf 43 = 48 := by kernel_rfl
  rw [e] at h1
  exact h1
end Go.Proofs.Ytefcepjffeiaoaa
end

section
/- Arguments opened: a table. -/
namespace Go.Proofs.Ytefcepjffeiaoaa
open Go.ChangeShapes Go.WideShapes Go.ChangeAt Go.RowKit Go.Proofs.YtefcepjffeiaoaaW.PrintWords
set_option maxRecDepth 100000
set_option linter.unusedVariables false
theorem open_tab10 {H : Type} {enc : TypeId × Value → H} {W : World} {base : Nat} {v : Value} {x : DataW H} {p : List MemPlace} (hv : Value.okWide Try.prog W .any base 39 v)
    (h : DataW.Trod enc Try.prog W 0 (fun _ => true) true 39 v x p) : ∃ A c l K B d y, v = .agg #[.slice A l.length c, .int .i64 K, .slice B y.length d] ∧ RdE W A c l ∧ RdB W B d y ∧ (∀ B, (∀ z ∈ x.weights Try.prog 39, z ≤ B) → l.length * 48 ≤ B ∧ y.length ≤ B) := by
  have o1 := opens_struct Try.underlying43 (d := kEnt) (by kernel_rfl) (opensF_cons rfl (by kernel_rfl) (opens_string Try.underlying9) (opensF_cons rfl (by kernel_rfl) (opens_int Try.underlying3) (opensF_cons rfl (by kernel_rfl) (opens_int Try.underlying3) (opensF_one rfl (by kernel_rfl) (opens_string Try.underlying9)))))
  have o2 := opens_slice (t := 22) Try.underlying22 (by kernel_rfl) o1
  have o3 := opens_slice (t := 23) Try.underlying23 (by kernel_rfl) (opens_u8 Try.underlying5)
  have o4 := opens_struct Try.underlying37 (d := Kd.pair kInt (Kd.slice 5 kU8)) (by kernel_rfl) (opensF_cons rfl (by kernel_rfl) (opens_int Try.underlying3) (opensF_one rfl (by kernel_rfl) o3))
  have o5 := opens_struct Try.underlying39 (d := Kd.pair (Kd.slice 43 kEnt) (Kd.pair kInt (Kd.slice 5 kU8))) (by kernel_rfl) (opensF_cons rfl (by kernel_rfl) o2 (opensF_one rfl (by kernel_rfl) o4))
  obtain ⟨a, cs, rfl, hK, hS, hU⟩ := open_struct_of Try.underlying39 o5 hv h
  obtain ⟨l, K, y⟩ := a
  obtain ⟨c0, c1, hcs, h0, c2, c3, rfl, h1, h2⟩ := hK
  obtain ⟨A, c, rfl, hl, hC⟩ := h0
  obtain ⟨B, d, rfl, hl2, hC2⟩ := h2
  have h1' : c2 = [.int .i64 K] := h1
  subst h1'
  have hcs2 : cs = #[.slice A l.length c, .int .i64 K, .slice B y.length d] := Array.toList_inj.1 hcs
  refine ⟨A, c, l, K, B, d, y, by rw [hcs2], ⟨hl, hC⟩, Rd.rdB ⟨hl2, hC2⟩, fun B hB => ?_⟩
  have h3 := hS B hB
  have e1 : Try.prog.bytesOf 43 = 48 := by kernel_rfl
  have e2 : Try.prog.bytesOf 5 = 1 := by kernel_rfl
  have h4 := h3.1.1
  have h5 := h3.2.2.1
  rw [e1] at h4
  rw [e2, Nat.mul_one] at h5
  exact ⟨h4, h5⟩
end Go.Proofs.Ytefcepjffeiaoaa
end

section
/- Parts of a table, plainly: the versions below a key and those from it on are all of them. -/
namespace Go.Proofs.Ytefcepjffeiaoaa

/-- each version is before the next one -/
def adjE (l : List Ent) : Prop := ∀ k, k < l.length → 0 < k → befE (l.getD (k - 1) zEnt) (l.getD k zEnt)
instance (l : List Ent) : Decidable (adjE l) := Nat.decidableBallLT _ _
def chkT (l : List Ent) : Int := if adjE l then (if l.length = 0 then 3 else 0) else 81
theorem chkT_bad (l : List Ent) (k : Nat) (hk : k < l.length) (h0 : 0 < k) (h : ¬ befE (l.getD (k - 1) zEnt) (l.getD k zEnt)) : chkT l = 81 := by
  rw [chkT, if_neg (fun h2 => h (h2 k hk h0))]
theorem chkT_none (l : List Ent) (h : adjE l) (h0 : l.length = 0) : chkT l = 3 := by rw [chkT, if_pos h, if_pos h0]
theorem chkT_ok (l : List Ent) (h : adjE l) (h0 : l.length ≠ 0) : chkT l = 0 := by rw [chkT, if_pos h, if_neg h0]
theorem chkT_adj (l : List Ent) (h : chkT l = 0) : adjE l := by
  rw [chkT] at h
  by_cases h1 : adjE l
  · exact h1
  · rw [if_neg h1] at h; exact absurd h (by decide)
theorem adj_bef (l : List Ent) (h : adjE l) (j : Nat) (hj : j < l.length) : ∀ i, i < j → befE (l.getD i zEnt) (l.getD j zEnt) := by
  induction j with
  | zero => intro i hi; omega
  | succ j ih =>
    intro i hi
    have h1 := h (j + 1) hj (by omega)
    rw [Nat.add_sub_cancel] at h1
    rcases Nat.lt_or_ge i j with h2 | h2
    · exact bef_tr (ih (by omega) i h2) h1
    · obtain rfl : i = j := by omega
      exact h1
/-- a version is out of the keys from lo on, below hi -/
def outE (lo hi : ByteArray) (x : Ent) : Bool := decide (bl x.1 < bl lo) || (!decide (bl hi = []) && !decide (bl x.1 < bl hi))
def inE (lo hi : ByteArray) (l : List Ent) : List Ent := l.filter (fun x => !outE lo hi x)
theorem filter_cut {α : Type} (p : α → Bool) (l : List α) (h : l.Pairwise (fun a b => p b = true → p a = true)) : l.filter p ++ l.filter (fun x => !p x) = l := by
  induction l with
  | nil => rfl
  | cons x l ih =>
    obtain ⟨h1, h2⟩ := List.pairwise_cons.1 h
    have hi := ih h2
    by_cases hp : p x = true
    · rw [List.filter_cons_of_pos hp, List.filter_cons_of_neg (by simp [hp]), List.cons_append, hi]
    · have e : l.filter p = [] := List.filter_eq_nil_iff.2 (fun a ha h3 => hp (h1 a ha h3))
      rw [List.filter_cons_of_neg hp, List.filter_cons_of_pos (by simp [hp]), e]
      rw [e] at hi
      rw [List.nil_append] at hi ⊢
      rw [hi]
theorem in_cut (l : List Ent) (key : ByteArray) (h : adjE l) (hk : bl key ≠ []) : inE ⟨#[]⟩ key l ++ inE key ⟨#[]⟩ l = l := by
  have e1 : (fun x : Ent => !outE ⟨#[]⟩ key x) = fun x => decide (bl x.1 < bl key) := by
    funext x
    have : ¬ bl x.1 < bl (⟨#[]⟩ : ByteArray) := fun h => List.not_lt_nil _ h
    rw [outE, decide_eq_false this, decide_eq_false hk]
    simp
  have e2 : (fun x : Ent => !outE key ⟨#[]⟩ x) = fun x => !decide (bl x.1 < bl key) := by
    funext x
    rw [outE, decide_eq_true (show bl (⟨#[]⟩ : ByteArray) = [] from rfl)]
    simp
  rw [inE, inE, e1, e2]
  refine filter_cut (fun x : Ent => decide (bl x.1 < bl key)) l (List.pairwise_iff_getElem.2 fun i j hi hj hij h3 => ?_)
  have hb := adj_bef l h j hj i hij
  rw [List.getD_eq_getElem?_getD, List.getD_eq_getElem?_getD, List.getElem?_eq_getElem hi, List.getElem?_eq_getElem hj] at hb
  have h4 := of_decide_eq_true h3
  refine decide_eq_true ?_
  rcases hb with hb | ⟨hb, -⟩
  · exact lt_tr hb h4
  · show bl (l[i]).1 < bl key
    rw [show bl (l[i]).1 = bl (l[j]).1 from hb]; exact h4
theorem in_all (l : List Ent) (lo hi : ByteArray) (h1 : bl lo = []) (h2 : bl hi = []) : inE lo hi l = l := by
  refine List.filter_eq_self.2 fun x _ => ?_
  rw [outE, decide_eq_true h2, h1, decide_eq_false (fun h => List.not_lt_nil _ h)]
  rfl
theorem inE_length (lo hi : ByteArray) (l : List Ent) : (inE lo hi l).length ≤ l.length := List.length_filter_le _ _
end Go.Proofs.Ytefcepjffeiaoaa
end

section
/- Parts of a table: the closure, the search by it, the clone. -/
namespace Go.Proofs.Ytefcepjffeiaoaa
open Go.RowKit Go.Proofs.YtefcepjffeiaoaaW.PrintWords
set_option linter.unusedVariables false

set_option maxRecDepth 100000 in
set_option maxHeartbeats 1600000 in
theorem out_any (lo hi : ByteArray) (b1 b2 : Nat) (x : Ent) (w : World) (h1 : w.cell? ⟨b1, 0, none⟩ = some (.string lo)) (h2 : w.cell? ⟨b2, 0, none⟩ = some (.string hi)) :
    Calls Try.prog 59 #[ebv x, .pointer (some ⟨b1, 0, none⟩), .pointer (some ⟨b2, 0, none⟩)] w fun e w' => e = .returned (.bool (outE lo hi x)) ∧ Below w.heap.size w w' := by
  have hX := Eb.new w x
  have bX := below_alloc w (ebo x)
  obtain ⟨x0, x1, x2, x3, -, -, -, -⟩ := hX.read
  have c1 := (bX.cell (World.block_lt_of_cell? _ _ h1)).trans h1
  have c2 := (bX.cell (World.block_lt_of_cell? _ _ h2)).trans h2
  have l1 := less_bl x.1 lo
  have l2 := less_bl x.1 hi
  have hd : bl hi = hi.toList := (Lib.toList_data hi).symm
  rw [outE]
  by_cases l3 : hi.toList = []
  · rw [decide_eq_true (hd.trans l3)]
    generalize decide (bl x.1 < bl lo) = p at *
    generalize decide (bl x.1 < bl hi) = q at *
    clear h1 h2 hX hd
    cases p <;> cases q
    all_goals (
      go_enter Try.func59, Try.ntmps59
      go_wp2
      go_ret
      exact ⟨rfl, bX⟩)
  · have l4 : hi.toList.isEmpty = false := by simpa using l3
    rw [decide_eq_false (fun h => l3 (hd.symm.trans h))]
    generalize decide (bl x.1 < bl lo) = p at *
    generalize decide (bl x.1 < bl hi) = q at *
    clear h1 h2 hX hd
    cases p <;> cases q
    all_goals (
      go_enter Try.func59, Try.ntmps59
      go_wp2
      go_ret
      exact ⟨rfl, bX⟩)
theorem idx_m (n k : Nat) (h : k < n) : n - (intOf (.int .i64 ((k + 1 : Nat) : Int))).toNat < n - (intOf (.int .i64 (k : Int))).toNat := by
  show n - (k + 1) < n - k
  omega
theorem idx_m2 (n k : Nat) (h : k < n) : n - (intOf (.int .i64 ((k : Int) + 1))).toNat < n - (intOf (.int .i64 (k : Int))).toNat := by
  show n - (k + 1) < n - k
  omega
theorem idx_m3 (n k : Nat) (h : k < n) (hw : wrap64 ((k : Int) + 1) = ((k + 1 : Nat) : Int)) : n - (intOf (.int .i64 (wrap64 ((k : Int) + 1)))).toNat < n - (intOf (.int .i64 (k : Int))).toNat := by
  rw [hw]; exact idx_m n k h
theorem idx_w (n k : Nat) (h : k < n) (hn : n ≤ 140737488351232) : wrap64 ((k : Int) + 1) = ((k + 1 : Nat) : Int) ∧ IntKind.i64.wrap ((k : Int) + 1) = ((k + 1 : Nat) : Int) := ⟨by unfold wrap64; omega, by rw [IntKind.wrap_i64]; omega⟩
theorem stq {X Y Z : World} (h : Below X.heap.size X Y) (k : Below Y.heap.size Y Z) : Below X.heap.size X Z := h.trans (k.mono h.size)
theorem idx_n (out : Ent → Bool) (l : List Ent) (k : Nat) (h : ∀ j, j < k → out (l.getD j zEnt) = false) (hk : out (l.getD k zEnt) = false) : ∀ j, j < k + 1 → out (l.getD j zEnt) = false := by
  intro j hj
  rcases Nat.lt_or_ge j k with h2 | h2
  · exact h j h2
  · obtain rfl : j = k := by omega
    exact hk
set_option maxRecDepth 100000 in
set_option maxHeartbeats 1600000 in
theorem Idx_any (out : Ent → Bool) (P1 P2 : Value) (A : Option Addr) (c n : Nat) (l : List Ent) (w : World) (hn : l.length = n) (hr : RdE w A c l) (hl : n ≤ 140737488351232)
    (hcl : ∀ W x, Below w.heap.size w W → Calls Try.prog 59 #[ebv x, P1, P2] W fun e W' => e = .returned (.bool (out x)) ∧ Below W.heap.size W W') :
    Calls Try.prog 96 #[.slice A n c, .func (.func 59) #[] #[P1, P2]] w fun e w' => ((e = .returned (.int .i64 (-1)) ∧ ∀ k, k < n → out (l.getD k zEnt) = false) ∨ ∃ i : Nat, e = .returned (.int .i64 (i : Int)) ∧ i < n ∧ (∀ k, k < i → out (l.getD k zEnt) = false) ∧ out (l.getD i zEnt) = true) ∧ Below w.heap.size w w' := by
  have HN := hide hn
  clear hn
  go_enter Try.func96, Try.ntmps96
  go_wp2
  go_loopw [8] (fun iv wr => ∃ k : Nat, k ≤ n ∧ iv = .int .i64 (k : Int) ∧ (∀ j, j < k → out (l.getD j zEnt) = false) ∧ Below w.heap.size w wr) (fun iv _ => n - (intOf iv).toNat)
  case atStart => exact ⟨0, Nat.zero_le _, rfl, fun j h => absurd h (Nat.not_lt_zero _), Below.refl _ _⟩
  case round =>
    obtain ⟨k, hk, rfl, hlo, HB⟩ := hrel
    have HLO := hide hlo
    clear hlo
    by_cases hlt : k < n
    · have hlti : (k : Int) < (n : Int) := Int.ofNat_lt.2 hlt
      obtain ⟨hw1, hw2⟩ := idx_w n k hlt hl
      obtain ⟨ad, rfl, x0, x1, x2, x3⟩ := RdE.at4 (hr.below HB) k (by rw [HN.out]; exact hlt)
      obtain ⟨y, hy⟩ : ∃ y, l.getD k zEnt = y := ⟨_, rfl⟩
      have HY := hide hy
      rw [hy] at x0 x1 x2 x3
      have hC := hcl wr y HB
      obtain ⟨b, hb⟩ : ∃ b, out y = b := ⟨_, rfl⟩
      rw [hb] at hC
      have HBB := hide hb
      clear hb hy hcl hr
      cases b
      · go_wp2_with (first | (go_at_call 59; (with_reducible refine hC.mono ?_); rintro e w6 ⟨rfl, HB6⟩))
        go_roundw
        case rel => exact ⟨k + 1, hlt, by go_num, idx_n out l k HLO.out (by rw [HY.out]; exact HBB.out), stq HB HB6⟩
        case measure => first | exact idx_m n k hlt | exact idx_m2 n k hlt | exact idx_m3 n k hlt hw1
      · go_wp2_with (first | (go_at_call 59; (with_reducible refine hC.mono ?_); rintro e w6 ⟨rfl, HB6⟩))
        go_ret
        exact ⟨.inr ⟨k, rfl, hlt, HLO.out, by rw [HY.out]; exact HBB.out⟩, stq HB HB6⟩
    · obtain rfl : k = n := Nat.le_antisymm hk (Nat.not_lt.1 hlt)
      clear hcl hr
      go_wp2
      go_ret
      exact ⟨.inl ⟨rfl, HLO.out⟩, HB⟩
end Go.Proofs.Ytefcepjffeiaoaa
end

section
/- Parts of a table: the clone, the check. -/
namespace Go.Proofs.Ytefcepjffeiaoaa
open Go.RowKit Go.Proofs.YtefcepjffeiaoaaW.PrintWords
set_option linter.unusedVariables false

theorem OwE.lit0 (w : World) : OwE (w.alloc (.cells #[] 43)) w.heap.size (.slice (some ⟨w.heap.size, 0, none⟩) 0 0) [] :=
  ⟨fun _ _ => trivial, [], ⟨rfl, .inr ⟨w.heap.size, 0, #[], rfl, Nat.le_refl _, heap_alloc_new _ _, Nat.le_refl _, Nat.zero_le _, rfl, rfl⟩⟩, Reps.none _ _⟩
set_option maxRecDepth 100000 in
set_option maxHeartbeats 800000 in
theorem CloneE_any (A : Option Addr) (c n : Nat) (l : List Ent) (w : World) (hn : l.length = n) (hr : RdE w A c l) (hl : l.length * 48 ≤ 140737488351232) :
    Calls Try.prog 61 #[.slice A n c] w fun e w' => ∃ v, e = .returned v ∧ OwE w' w.heap.size v l ∧ Below w.heap.size w w' := by
  subst hn
  cases A with
  | none =>
    have h0 : l.length = 0 := by
      rcases Nat.eq_zero_or_pos l.length with h | h
      · exact h
      · obtain ⟨ad, cs, h, _⟩ := hr.at_ zEnt 0 h
        cases h
    obtain rfl : l = [] := List.eq_nil_of_length_eq_zero h0
    have heq := fun ww => Lib.run_eql_slice_nil (P := Try.prog) ww 22 43 Option.none 0 c 0 0 Try.underlying22
    rw [show Option.none.isNone = true from rfl] at heq
    go_enter Try.func61, Try.ntmps61
    go_wp2
    go_ret
    exact ⟨_, rfl, Ow.zero _ _ _ _, Below.refl _ _⟩
  | some ad =>
    have heq := fun ww => Lib.run_eql_slice_nil (P := Try.prog) ww 22 43 (some ad) l.length c 0 0 Try.underlying22
    rw [show (some ad).isNone = false from rfl] at heq
    have hr1 : ∀ o, RdE (w.alloc o) (some ad) c l := fun o => hr.below ((Below.refl _ _).alloc (Nat.le_refl _) o)
    go_enter Try.func61, Try.ntmps61
    go_wp2_with (first | (at_builtin; refine app_ents (w0 := w) w.heap.size rfl (.tmp 5) (.tmp 6) rfl _ [] l (some ad) c rfl rfl (OwE.lit0 w) (hr1 _) ((Below.refl _ _).alloc (Nat.le_refl _) _) (by simp) (by simp; omega) ?_; intro v1 w1 HO1 HB1 hg hat))
    go_ret
    exact ⟨_, rfl, HO1, HB1⟩
theorem pred_w (k n : Nat) (h0 : 0 < k) (h : k < n) (hn : n ≤ 140737488351232) : ∃ p : Nat, k - 1 = p ∧ wrap64 ((k : Int) - 1) = (p : Int) ∧ IntKind.i64.wrap ((k : Int) - 1) = (p : Int) ∧ (p : Int) < (n : Int) ∧ p < n := by
  refine ⟨k - 1, rfl, ?_, ?_, by omega, by omega⟩
  · unfold wrap64; omega
  · rw [IntKind.wrap_i64]; omega
theorem adj_n (l : List Ent) (k : Nat) (h : ∀ j, j < k → j < l.length → 0 < j → befE (l.getD (j - 1) zEnt) (l.getD j zEnt)) (hk : befE (l.getD (k - 1) zEnt) (l.getD k zEnt)) : ∀ j, j < k + 1 → j < l.length → 0 < j → befE (l.getD (j - 1) zEnt) (l.getD j zEnt) := by
  intro j hj h1 h2
  rcases Nat.lt_or_ge j k with h3 | h3
  · exact h j h3 h1 h2
  · obtain rfl : j = k := by omega
    exact hk
abbrev tcell (W : World) (g : Nat) (A : Option Addr) (n c : Nat) : Prop := W.cell? ⟨g, 0, none⟩ = some (.slice A n c)
set_option maxRecDepth 100000 in
set_option maxHeartbeats 3200000 in
theorem check_any (A B : Option Addr) (c n m d : Nat) (K : Int) (l : List Ent) (w : World) (hn : l.length = n) (hr : RdE w A c l) (hl : n ≤ 140737488351232) :
    Calls Try.prog 58 #[.agg #[.slice A n c, .int .i64 K, .slice B m d]] w fun e w' => e = .returned (.int .i64 (chkT l)) ∧ Below w.heap.size w w' := by
  have HN := hide hn
  have bA := below_alloc w (.cells #[.slice A n c, .int .i64 K, .slice B m d] 34)
  have hT := blk_cell (heap_alloc_new w (.cells #[.slice A n c, .int .i64 K, .slice B m d] 34)) 0
  have hT : (w.alloc (.cells #[.slice A n c, .int .i64 K, .slice B m d] 34)).cell? ⟨w.heap.size, 0, none⟩ = some (.slice A n c) := hT
  have HC := hide (chkT_bad l)
  have HC0 := hide (chkT_none l)
  have HC1 := hide (chkT_ok l)
  obtain ⟨z, hz⟩ : ∃ z, chkT l = z := ⟨_, rfl⟩
  rw [hz]
  have HZ := hide hz
  clear hn hz
  go_enter Try.func58, Try.ntmps58
  go_wp2
  go_loopw [3] (fun iv wr => ∃ k : Nat, 0 < k ∧ (k ≤ n ∨ k = 1) ∧ iv = .int .i64 (k : Int) ∧ (∀ j, j < k → j < l.length → 0 < j → befE (l.getD (j - 1) zEnt) (l.getD j zEnt)) ∧ Below w.heap.size w wr ∧ tcell wr w.heap.size A n c) (fun iv _ => n - (intOf iv).toNat)
  case atStart => exact ⟨1, by decide, .inr rfl, rfl, fun j h1 _ h2 => absurd h1 (Nat.not_lt.2 h2), bA, hT⟩
  case round =>
    obtain ⟨k, hk0, hk, rfl, hlo, HB, hTr⟩ := hrel
    have HLO := hide hlo
    clear hlo hT bA
    by_cases hlt : k < n
    · have hlti : (k : Int) < (n : Int) := Int.ofNat_lt.2 hlt
      obtain ⟨hw1, hw2⟩ := idx_w n k hlt hl
      obtain ⟨p, hp, hp1, hp2, hp3, hp4⟩ := pred_w k n hk0 hlt hl
      obtain ⟨ad, rfl, x0, x1, x2, x3⟩ := RdE.at4 (hr.below HB) k (by rw [HN.out]; exact hlt)
      obtain ⟨ad2, had, y0, y1, y2, y3⟩ := RdE.at4 (hr.below HB) p (by rw [HN.out]; exact hp4)
      injection had with had
      subst had
      obtain ⟨y, hy⟩ : ∃ y, l.getD k zEnt = y := ⟨_, rfl⟩
      obtain ⟨x, hx⟩ : ∃ x, l.getD p zEnt = x := ⟨_, rfl⟩
      have HY := hide hy
      have HX := hide hx
      rw [hy] at x0 x1 x2 x3
      rw [hx] at y0 y1 y2 y3
      have HP := hide hp
      have hC := fun W => Before_any x y W
      obtain ⟨b, hb⟩ : ∃ b, decide (befE x y) = b := ⟨_, rfl⟩
      rw [hb] at hC
      have HBB := hide hb
      have hd : Below wr.heap.size wr wr.drew := (Below.refl _ _).drew
      have hSk : ∀ W, Below wr.heap.size wr W → Below wr.heap.size wr W ∧ W.cell? ⟨w.heap.size, 0, none⟩ = some (.slice (some ad) n c) ∧ W.cell? (ad.add (k * 4)) = some (.string y.1) ∧ W.cell? ⟨(ad.add (k * 4)).block, (ad.add (k * 4)).off + 1, none⟩ = some (.int .i64 y.2.1) ∧ W.cell? ⟨(ad.add (k * 4)).block, (ad.add (k * 4)).off + 2, none⟩ = some (.int .i64 y.2.2.1) ∧ W.cell? ⟨(ad.add (k * 4)).block, (ad.add (k * 4)).off + 3, none⟩ = some (.string y.2.2.2) ∧ W.cell? (ad.add (p * 4)) = some (.string x.1) ∧ W.cell? ⟨(ad.add (p * 4)).block, (ad.add (p * 4)).off + 1, none⟩ = some (.int .i64 x.2.1) ∧ W.cell? ⟨(ad.add (p * 4)).block, (ad.add (p * 4)).off + 2, none⟩ = some (.int .i64 x.2.2.1) ∧ W.cell? ⟨(ad.add (p * 4)).block, (ad.add (p * 4)).off + 3, none⟩ = some (.string x.2.2.2) := fun W h => ⟨h, (h.cell (World.block_lt_of_cell? _ _ hTr)).trans hTr, (h.cell (World.block_lt_of_cell? _ _ x0)).trans x0, (h.cell (World.block_lt_of_cell? _ _ x1)).trans x1, (h.cell (World.block_lt_of_cell? _ _ x2)).trans x2, (h.cell (World.block_lt_of_cell? _ _ x3)).trans x3, (h.cell (World.block_lt_of_cell? _ _ y0)).trans y0, (h.cell (World.block_lt_of_cell? _ _ y1)).trans y1, (h.cell (World.block_lt_of_cell? _ _ y2)).trans y2, (h.cell (World.block_lt_of_cell? _ _ y3)).trans y3⟩
      have hS0 := hSk _ hd
      have hS9 : ∀ W, Below wr.heap.size wr W → tcell W w.heap.size (some ad) n c := fun W h => (h.cell (World.block_lt_of_cell? _ _ hTr)).trans hTr
      clear hb hy hx hp hr
      cases b
      all_goals (
        go_wp2
        go_region_held3 (fun Y => Below wr.heap.size wr Y ∧ Y.cell? ⟨w.heap.size, 0, none⟩ = some (.slice (some ad) n c) ∧ Y.cell? (ad.add (k * 4)) = some (.string y.1) ∧ Y.cell? ⟨(ad.add (k * 4)).block, (ad.add (k * 4)).off + 1, none⟩ = some (.int .i64 y.2.1) ∧ Y.cell? ⟨(ad.add (k * 4)).block, (ad.add (k * 4)).off + 2, none⟩ = some (.int .i64 y.2.2.1) ∧ Y.cell? ⟨(ad.add (k * 4)).block, (ad.add (k * 4)).off + 3, none⟩ = some (.string y.2.2.2) ∧ Y.cell? (ad.add (p * 4)) = some (.string x.1) ∧ Y.cell? ⟨(ad.add (p * 4)).block, (ad.add (p * 4)).off + 1, none⟩ = some (.int .i64 x.2.1) ∧ Y.cell? ⟨(ad.add (p * 4)).block, (ad.add (p * 4)).off + 2, none⟩ = some (.int .i64 x.2.2.1) ∧ Y.cell? ⟨(ad.add (p * 4)).block, (ad.add (p * 4)).off + 3, none⟩ = some (.string x.2.2.2)) (first | exact hS0 | exact hSk _ HBt | assumption) (first | (go_at_call 63; (with_reducible refine (hC _).mono ?_); rintro e w6 ⟨rfl, HB6⟩; have HBt := hd.trans (HB6.mono hd.size))))
      · go_wp2
        go_ret
        exact ⟨by rw [← HZ.out, HC.out k (by rw [HN.out]; exact hlt) hk0 (by rw [HP.out, HX.out, HY.out]; exact of_decide_eq_false HBB.out)]; rfl, HB.trans (HBt.mono HB.size)⟩
      · go_wp2
        go_roundw
        case rel => exact ⟨k + 1, Nat.succ_pos _, .inl hlt, by go_num, adj_n l k HLO.out (by rw [HP.out, HX.out, HY.out]; exact of_decide_eq_true HBB.out), HB.trans (HBt.mono HB.size), hS9 _ HBt⟩
        case measure => first | exact idx_m n k hlt | exact idx_m2 n k hlt | exact idx_m3 n k hlt hw1
    · have hnlti : ¬ (k : Int) < (n : Int) := fun h => hlt (Int.ofNat_lt.1 h)
      have hadj : adjE l := fun j hj h0 => HLO.out j (by have := HN.out; omega) hj h0
      have HA := hide hadj
      clear hadj hr hlt hk hk0
      by_cases h0 : n = 0
      · subst h0
        go_wp2
        go_ret
        exact ⟨by rw [← HZ.out, HC0.out HA.out HN.out]; rfl, HB⟩
      · have h0i : ¬ (n : Int) = 0 := fun h => h0 (Int.ofNat_eq_zero.1 h)
        have h0b : ((n : Int) == 0) = false := beq_eq_false_iff_ne.2 h0i
        have h0l : ((n : Int) = 0) = False := eq_false h0i
        go_wp2
        go_ret
        exact ⟨by rw [← HZ.out, HC1.out HA.out (by rw [HN.out]; exact h0)]; rfl, HB⟩
end Go.Proofs.Ytefcepjffeiaoaa
end

section
/- Parts of a table: what DeleteFunc does, plainly; a row's tail cleared. -/
namespace Go.Proofs.Ytefcepjffeiaoaa
open Go.RowKit Go.Proofs.YtefcepjffeiaoaaW.PrintWords
set_option linter.unusedVariables false

/-- behind j versions i are kept, ahead of them in the row; the rest of the row is as it was -/
def DelI (out : Ent → Bool) (l m : List Ent) (i j : Nat) : Prop := m.length = l.length ∧ i < j ∧ j ≤ l.length ∧ m.take i = (l.take j).filter (fun x => !out x) ∧ m.drop j = l.drop j
theorem take_next (l : List Ent) (k : Nat) (h : k < l.length) : l.take (k + 1) = l.take k ++ [l.getD k zEnt] := by
  rw [List.take_add_one, List.getElem?_eq_getElem h, List.getD_eq_getElem?_getD, List.getElem?_eq_getElem h]
  rfl
theorem filter_keep_all (out : Ent → Bool) (l : List Ent) (i : Nat) (hi : i ≤ l.length) (h : ∀ k, k < i → out (l.getD k zEnt) = false) : (l.take i).filter (fun x => !out x) = l.take i := by
  refine List.filter_eq_self.2 fun a ha => ?_
  obtain ⟨k, hk, rfl⟩ := List.mem_iff_getElem.1 ha
  rw [List.length_take] at hk
  have hk2 : k < i := by omega
  have h2 := h k hk2
  rw [List.getD_eq_getElem?_getD, List.getElem?_eq_getElem (by omega)] at h2
  rw [List.getElem_take]
  simpa using h2
theorem DelI.start (out : Ent → Bool) (l : List Ent) (i : Nat) (hi : i < l.length) (h : ∀ k, k < i → out (l.getD k zEnt) = false) (ho : out (l.getD i zEnt) = true) : DelI out l l i (i + 1) := by
  refine ⟨rfl, Nat.lt_succ_self _, hi, ?_, rfl⟩
  rw [take_next l i hi, List.filter_append, filter_keep_all out l i (Nat.le_of_lt hi) h, List.filter_cons_of_neg (by rw [ho]; decide), List.filter_nil, List.append_nil]
theorem drop_tail (m l : List Ent) (j : Nat) (h : m.drop j = l.drop j) : m.drop (j + 1) = l.drop (j + 1) := by
  rw [← List.drop_drop, ← List.drop_drop, h]
theorem DelI.out_ {out : Ent → Bool} {l m : List Ent} {i j : Nat} (h : DelI out l m i j) (hj : j < l.length) (ho : out (l.getD j zEnt) = true) : DelI out l m i (j + 1) := by
  obtain ⟨h1, h2, h3, h4, h5⟩ := h
  refine ⟨h1, by omega, hj, ?_, drop_tail m l j h5⟩
  rw [take_next l j hj, List.filter_append, ← h4, List.filter_cons_of_neg (by rw [ho]; decide), List.filter_nil, List.append_nil]
theorem DelI.keep {out : Ent → Bool} {l m : List Ent} {i j : Nat} (h : DelI out l m i j) (hj : j < l.length) (ho : out (l.getD j zEnt) = false) : DelI out l (m.set i (l.getD j zEnt)) (i + 1) (j + 1) := by
  obtain ⟨h1, h2, h3, h4, h5⟩ := h
  refine ⟨by rw [List.length_set, h1], by omega, hj, ?_, ?_⟩
  · have hi : i < (m.set i (l.getD j zEnt)).length := by rw [List.length_set]; omega
    rw [take_next _ i hi, take_next l j hj, List.filter_append, ← h4, List.filter_cons_of_pos (by rw [ho]; rfl), List.filter_nil, List.take_set_of_le (Nat.le_refl _)]
    rw [List.getD_eq_getElem?_getD, List.getElem?_eq_getElem hi, List.getElem_set_self]
    rfl
  · rw [List.drop_set_of_lt (by omega)]
    exact drop_tail m l j h5
theorem DelI.at_ {out : Ent → Bool} {l m : List Ent} {i j : Nat} (h : DelI out l m i j) (hj : j < l.length) : m.getD j zEnt = l.getD j zEnt := by
  have h5 := congrArg (fun x => x[0]?) h.2.2.2.2
  simp only [List.getElem?_drop, Nat.add_zero] at h5
  rw [List.getD_eq_getElem?_getD, List.getD_eq_getElem?_getD, h5]
theorem DelI.end_ {out : Ent → Bool} {l m : List Ent} {i : Nat} (h : DelI out l m i l.length) : m.take i = l.filter (fun x => !out x) ∧ (l.filter (fun x => !out x)).length = i := by
  obtain ⟨h1, h2, h3, h4, h5⟩ := h
  rw [List.take_length] at h4
  refine ⟨h4, ?_⟩
  rw [← h4, List.length_take]
  omega
theorem below_setC {B : Nat} {a : World} (b : Nat) (hb : B ≤ b) : ∀ (vs : List Value) (o : Nat) (w : World), Below B a w → Below B a (w.setCells b o vs)
  | [], _, _, h => h
  | v :: r, o, w, h => below_setC b hb r (o + 1) _ (h.setCell (p := ⟨b, o, none⟩) hb v)
/-- 'clear' of a row's tail: what is ahead of it is as it was -/
theorem clear_tail {w0 W : World} {base g n c i : Nat} {m : List Ent} (HO : OwE W base (.slice (some ⟨g, 0, none⟩) n c) m) (hm : m.length = n) (hi : i < n) (hb : base ≤ g) (HB : Below base w0 W) :
    ∃ W', (∀ ty, (Builtin.clear_ #[22] ty #[.slice (some ⟨g, i * 4, none⟩) (n - i) (c - i)]).run Try.prog W = .ok (.tuple #[]) W') ∧ Below base w0 W' ∧ RdE W' (some ⟨g, 0, none⟩) c (m.take i) := by
  obtain ⟨-, inner, ⟨hlen, hown⟩, -⟩ := id HO
  obtain ⟨hv, -⟩ | ⟨g', cap, cur, hv, hg, hh, hnc, hmx, hcs, -⟩ := hown
  · cases hv
  injection hv with ha _ hc
  injection ha with ha
  injection ha with ha
  subst ha
  subst hc
  rw [hm] at hnc
  obtain ⟨zs, hzs⟩ : ∃ zs, (Builtin.zeroCells (Value.agg #[.string ⟨#[]⟩, .int .i64 0, .int .i64 0, .string ⟨#[]⟩]).cells (n - i)).toList = zs := ⟨_, rfl⟩
  have hzl : zs.length = (n - i) * 4 := by rw [← hzs]; simp [Builtin.zeroCells, Value.cells]
  have hz1 : ∀ v ∈ zs, v.oneCell' = true := by
    intro v hv
    rw [← hzs] at hv
    simp only [Builtin.zeroCells, Value.cells, Array.toList_map, List.mem_map] at hv
    obtain ⟨q, -, rfl⟩ := hv
    have : q % 4 < 4 := Nat.mod_lt _ (by decide)
    show (#[Value.string ⟨#[]⟩, .int .i64 0, .int .i64 0, .string ⟨#[]⟩][q % 4]!).oneCell' = true
    generalize q % 4 = q4 at *
    match q4, this with
    | 0, _ => rfl
    | 1, _ => rfl
    | 2, _ => rfl
    | 3, _ => rfl
    | q + 4, h => omega
  have hst := run_storeCells_cells (P := Try.prog) g (i * 4) zs 0 W
    (by intro j hj; rw [blk_cell hh, Nat.add_zero, Array.getElem?_eq_getElem (by rw [hcs, show kEnt.sz = 4 from rfl]; omega)]; rfl)
    (by intro j hj; exact blk_frozen hh _) hz1
  rw [Nat.add_zero] at hst
  refine ⟨W.setCells g (i * 4) zs, fun ty => ?_, below_setC g hb zs _ W HB, ?_⟩
  · obtain ⟨k, hk⟩ : ∃ k, n - i = k + 1 := ⟨n - i - 1, by omega⟩
    rw [hk] at hzs ⊢
    simp [Builtin.clear_, run_underlying Try.underlying22]
    rw [hzs, hst]
    rfl
  · have hr := Rd.take HO.rdl i (by omega)
    obtain ⟨h1, h2, h3, h4⟩ := hr
    refine ⟨h1, h2, h3, fun h0 => ?_⟩
    obtain ⟨ad, had, h5⟩ := h4 h0
    refine ⟨ad, had, fun j p hj => ?_⟩
    obtain ⟨cs, hc1, hc2, hc3⟩ := h5 j p hj
    injection had with had
    subst had
    have hjl : j < i := by
      have := (List.getElem?_eq_some_iff.1 hj).1
      rw [List.length_take] at this; omega
    refine ⟨cs, hc1, by rw [kEnt_K hc2]; exact kEnt_mk _ p, fun q u hq => ?_⟩
    have hq4 : q < 4 := by
      have := (List.getElem?_eq_some_iff.1 hq).1
      rw [hc1] at this; exact this
    rw [add_plain, World.cell?_setCells_out g zs (i * 4) W _ (fun _ _ => .inl (by show j * 4 + q < i * 4; omega)), ← add_plain]
    exact hc3 q u hq
end Go.Proofs.Ytefcepjffeiaoaa
end

section
/- Parts of a table: DeleteFunc, walked. -/
namespace Go.Proofs.Ytefcepjffeiaoaa
open Go.RowKit Go.Proofs.YtefcepjffeiaoaaW.PrintWords
set_option linter.unusedVariables false

set_option maxRecDepth 100000 in
set_option maxHeartbeats 3200000 in
theorem Del_any (out : Ent → Bool) (P1 P2 : Value) (A : Option Addr) (c n base : Nat) (l : List Ent) (w0 w : World) (hn : l.length = n) (HO : OwE w base (.slice A n c) l) (HB : Below base w0 w) (hs : base ≤ w.heap.size) (hl : n ≤ 140737488351232)
    (hcl : ∀ W x, Below base w0 W → base ≤ W.heap.size → Calls Try.prog 59 #[ebv x, P1, P2] W fun e W' => e = .returned (.bool (out x)) ∧ Below W.heap.size W W') :
    Calls Try.prog 60 #[.slice A n c, .func (.func 59) #[] #[P1, P2]] w fun e w' => ∃ A' m' c', e = .returned (.slice A' m' c') ∧ (l.filter (fun x => !out x)).length = m' ∧ RdE w' A' c' (l.filter (fun x => !out x)) ∧ Below base w0 w' := by
  have hI := Idx_any out P1 P2 A c n l w hn HO.rdl hl (fun W x h => hcl W x (HB.trans (h.mono hs)) (Nat.le_trans hs h.size))
  have HN := hide hn
  have HALL := hide (filter_keep_all out l)
  have HST := hide (DelI.start out l)
  have HR := HO.rdl
  clear hn
  go_enter Try.func60, Try.ntmps60
  go_wp2_with (first | (go_at_call 96; (with_reducible refine hI.mono ?_); rintro e w1 ⟨he, HB1⟩; rcases he with ⟨rfl, hall⟩ | ⟨i, rfl, hi, hlo, hoi⟩))
  · have e1 : l.filter (fun x => !out x) = l := by
      have h := HALL.out n (Nat.le_of_eq HN.out.symm) hall
      rw [← HN.out, List.take_length] at h
      exact h
    clear hall
    go_wp2
    go_ret
    rw [e1]
    exact ⟨A, n, c, rfl, HN.out, HR.below HB1, HB.trans (HB1.mono hs)⟩
  · have hD0 := HST.out i (by rw [HN.out]; exact hi) hlo hoi
    have HD0 := hide hD0
    have h1i : ¬ (i : Int) = -1 := by omega
    have h1b : ((i : Int) == -1) = false := beq_eq_false_iff_ne.2 h1i
    have hii : (i : Int) < (n : Int) := Int.ofNat_lt.2 hi
    obtain ⟨hw1, hw2⟩ := idx_w n i hi hl
    obtain ⟨g, rfl, hgb, hgl⟩ := HO.head (Nat.lt_of_le_of_lt (Nat.zero_le _) hi)
    have HO1 := HO.below HB1
    have HB2 := HB.trans (HB1.mono hs)
    have hs1 := Nat.le_trans hs HB1.size
    clear hD0 hlo hoi HR HO hI HB
    go_wp2
    simp only [h1b]
    go_loopw [5, 6] (fun iv jv wr => ∃ (p q : Nat) (m : List Ent), DelI out l m p q ∧ iv = .int .i64 (p : Int) ∧ jv = .int .i64 (q : Int) ∧ OwE wr base (.slice (some ⟨g, 0, none⟩) n c) m ∧ Below base w0 wr ∧ base ≤ wr.heap.size) (fun iv jv _ => n - (intOf jv).toNat)
    case atStart => exact ⟨i, i + 1, l, HD0.out, rfl, by go_num, HO1, HB2, hs1⟩
    case round =>
      obtain ⟨p, q, m, hD, rfl, rfl, HOr, HBr, hsr⟩ := hrel
      have hmn : m.length = n := by rw [hD.1]; exact HN.out
      have hpq := hD.2.1
      have hqn : q ≤ n := by have := hD.2.2.1; rw [HN.out] at this; exact this
      have HD := hide hD
      clear hD
      by_cases hlt : q < n
      · have hlti : (q : Int) < (n : Int) := Int.ofNat_lt.2 hlt
        have hpn : p < n := Nat.lt_trans hpq hlt
        have hpni : (p : Int) < (n : Int) := Int.ofNat_lt.2 hpn
        obtain ⟨hw3, hw4⟩ := idx_w n q hlt hl
        obtain ⟨hw5, hw6⟩ := idx_w n p hpn hl
        obtain ⟨ad, had, x0, x1, x2, x3⟩ := RdE.at4 HOr.rdl q (by rw [hmn]; exact hlt)
        injection had with had
        subst had
        rw [HD.out.at_ (by rw [HN.out]; exact hlt)] at x0 x1 x2 x3
        simp only [add_plain] at x0 x1 x2 x3
        obtain ⟨y, hy⟩ : ∃ y, l.getD q zEnt = y := ⟨_, rfl⟩
        have HY := hide hy
        rw [hy] at x0 x1 x2 x3
        have bA := below_alloc wr (ebo y)
        have hE := Eb.new wr y
        have hC := hcl (wr.alloc (ebo y)) y (HBr.alloc hsr (ebo y)) (Nat.le_trans hsr bA.size)
        obtain ⟨b, hb⟩ : ∃ b, out y = b := ⟨_, rfl⟩
        rw [hb] at hC
        have HBB := hide hb
        have HMN := hide hmn
        obtain ⟨e0, e1, e2, e3, -, -, -, -⟩ := hE.read
        clear hb hy hmn hcl
        cases b
        · go_wp2_with (first | (go_at_call 59; (with_reducible refine hC.mono ?_); rintro e w6 ⟨rfl, HB6⟩; have HBt := stq bA HB6; have HO6 := HOr.below HBt; have HB7 := HBr.trans (HBt.mono hsr); have hs7 := Nat.le_trans hsr HBt.size; obtain ⟨f0, f1, f2, f3, -, -, -, -⟩ := (hE.below HB6).read; have HONE : Hid (∀ u ∈ [Value.string y.1, .int .i64 y.2.1, .int .i64 y.2.2.1, .string y.2.2.2], u.oneCell' = true) := hide (by intro u hu; simp only [List.mem_cons, List.not_mem_nil, or_false] at hu; rcases hu with rfl | rfl | rfl | rfl <;> rfl)) | (refine store_ow (P := Try.prog) kEnt zEnt (w0 := w0) base rfl rfl 43 (.tmp 33) (.tmp 32) rfl 43 (g := g) (n := n) (cap := c) p m y (.agg #[.string y.1, .int .i64 y.2.1, .int .i64 y.2.2.1, .string y.2.2.2]) [.string y.1, .int .i64 y.2.1, .int .i64 y.2.2.1, .string y.2.2.2] (by rfl) (by rfl) rfl rfl HONE.out rfl (kEnt_M _ _ _ y) HO6 hpn HB7 ?_; intro w10 HOl2 HB10 HG10))
          have hs10 : base ≤ w10.heap.size := Nat.le_trans hs7 HG10.size
          go_roundw
          case rel => exact ⟨p + 1, q + 1, _, (by have := HD.out.keep (by rw [HN.out]; exact hlt) (by rw [HY.out]; exact HBB.out); rw [HY.out] at this; exact this), by go_num, by go_num, HOl2, HB10, hs10⟩
          case measure => first | exact idx_m n q hlt | exact idx_m2 n q hlt | exact idx_m3 n q hlt hw3
        · go_wp2_with (first | (go_at_call 59; (with_reducible refine hC.mono ?_); rintro e w6 ⟨rfl, HB6⟩; have HBt := stq bA HB6; have HO6 := HOr.below HBt; have HB7 := HBr.trans (HBt.mono hsr); have hs7 := Nat.le_trans hsr HBt.size))
          go_roundw
          case rel => exact ⟨p, q + 1, m, HD.out.out_ (by rw [HN.out]; exact hlt) (by rw [HY.out]; exact HBB.out), by go_num, by go_num, HO6, HB7, hs7⟩
          case measure => first | exact idx_m n q hlt | exact idx_m2 n q hlt | exact idx_m3 n q hlt hw3
      · obtain rfl : q = n := Nat.le_antisymm hqn (Nat.not_lt.1 hlt)
        have hqc : q ≤ c := by have := HOr.rdl.1; rw [hmn] at this; exact this
        obtain ⟨W', hrun, HB9, HR9⟩ := clear_tail HOr hmn hpq hgb HBr
        have hsl := fun W => sliceK_lo (P := Try.prog) 22 43 Try.underlying22 (i := _) rfl 4 rfl (some ⟨g, 0, none⟩) q c p (Nat.le_of_lt hpq) W
        have hcut : cutK 4 (some (⟨g, 0, none⟩ : Addr)) c p = some ⟨g, p * 4, none⟩ := by rw [cutK, if_neg (by omega)]; show some ((⟨g, 0, none⟩ : Addr).add (p * 4)) = _; rw [add_plain]
        rw [hcut] at hsl
        have hsl2 := fun W => sliceK_hi (P := Try.prog) 22 43 Try.underlying22 (i := _) rfl (some ⟨g, 0, none⟩) q c p (by omega) W
        have hDn := HD.out
        rw [← HN.out] at hDn
        obtain ⟨r1, r2⟩ := hDn.end_
        clear hDn
        have R1 := hide r1
        have R2 := hide r2
        clear r1 r2 hcut hcl HD0
        go_wp2
        go_ret
        rw [← R1.out]
        exact ⟨_, p, c, rfl, by rw [R1.out]; exact R2.out, HR9, HB9⟩
end Go.Proofs.Ytefcepjffeiaoaa
end

section
/- Parts of a table: Between, walked. -/
namespace Go.Proofs.Ytefcepjffeiaoaa
open Go.RowKit Go.Proofs.YtefcepjffeiaoaaW.PrintWords
set_option linter.unusedVariables false

theorem box3 (w : World) (x y z : Value) (lo hi : ByteArray) (W : World) (hW : W = ((w.alloc (.cells #[x, y, z] 34)).alloc (.cells #[.string lo] 9)).alloc (.cells #[.string hi] 9)) :
    Below w.heap.size w W ∧ W.cell? ⟨w.heap.size, 0, none⟩ = some x ∧ W.cell? ⟨w.heap.size, 1, none⟩ = some y ∧ W.cell? ⟨w.heap.size, 2, none⟩ = some z ∧ W.cell? ⟨w.heap.size + 1, 0, none⟩ = some (.string lo) ∧ W.cell? ⟨w.heap.size + 1 + 1, 0, none⟩ = some (.string hi) := by
  subst hW
  obtain ⟨oT, hoT⟩ : ∃ o : Obj, o = .cells #[x, y, z] 34 := ⟨_, rfl⟩
  obtain ⟨oL, hoL⟩ : ∃ o : Obj, o = .cells #[.string lo] 9 := ⟨_, rfl⟩
  obtain ⟨oH, hoH⟩ : ∃ o : Obj, o = .cells #[.string hi] 9 := ⟨_, rfl⟩
  rw [← hoT, ← hoL, ← hoH]
  have b1 := below_alloc w oT
  have b2 := below_alloc (w.alloc oT) oL
  have b3 := below_alloc ((w.alloc oT).alloc oL) oH
  have s1 : (w.alloc oT).heap.size = w.heap.size + 1 := World.size_alloc _ _
  have s2 : ((w.alloc oT).alloc oL).heap.size = w.heap.size + 1 + 1 := by rw [World.size_alloc, s1]
  have hT : (w.alloc oT).heap[w.heap.size]? = some oT := heap_alloc_new w oT
  have hL : ((w.alloc oT).alloc oL).heap[w.heap.size + 1]? = some oL := by rw [← s1]; exact heap_alloc_new _ _
  have hH : (((w.alloc oT).alloc oL).alloc oH).heap[w.heap.size + 1 + 1]? = some oH := by rw [← s2]; exact heap_alloc_new _ _
  have hT3 := ((stq b2 b3).block _ (blk_lt hT)).trans hT
  have hL3 := (b3.block _ (blk_lt hL)).trans hL
  rw [hoT] at hT3
  rw [hoL] at hL3
  rw [hoH] at hH
  rw [← hoT] at hT3
  refine ⟨stq (stq b1 b2) b3, ?_, ?_, ?_, ?_, ?_⟩
  · subst hoT; exact blk_cell hT3 0
  · subst hoT; exact blk_cell hT3 1
  · subst hoT; exact blk_cell hT3 2
  · subst hoL; exact blk_cell hL3 0
  · subst hoH; exact blk_cell hH 0
set_option maxRecDepth 100000 in
set_option maxHeartbeats 3200000 in
theorem Between_any (A B : Option Addr) (c n m d : Nat) (K : Int) (lo hi : ByteArray) (l : List Ent) (w : World) (hn : l.length = n) (hr : RdE w A c l) (hl : l.length * 48 ≤ 140737488351232) :
    Calls Try.prog 24 #[.agg #[.slice A n c, .int .i64 K, .slice B m d], .string lo, .string hi] w fun e w' => ((chkT l ≠ 0 ∧ e = .returned (.tuple #[.slice none 0 0, .int .i64 (chkT l)])) ∨ (chkT l = 0 ∧ ∃ A' m' c', e = .returned (.tuple #[.slice A' m' c', .int .i64 0]) ∧ (inE lo hi l).length = m' ∧ RdE w' A' c' (inE lo hi l))) ∧ Below w.heap.size w w' := by
  obtain ⟨B3, t0, t1, t2, k1, k2⟩ := box3 w (.slice A n c) (.int .i64 K) (.slice B m d) lo hi _ rfl
  have hn48 : n ≤ 140737488351232 := by omega
  have hCk := fun W (h : RdE W A c l) => check_any A B c n m d K l W hn h hn48
  have hCl := fun W (h : RdE W A c l) => CloneE_any A c n l W hn h hl
  have hDl := fun (A : Option Addr) (c base : Nat) (w0 w : World) => Del_any (outE lo hi) (.pointer (some ⟨w.heap.size + 1, 0, none⟩)) (.pointer (some ⟨w.heap.size + 1 + 1, 0, none⟩)) A c n base l w0 w hn
  have hDl := fun (P1 P2 : Value) (A : Option Addr) (c base : Nat) (w0 w : World) => Del_any (outE lo hi) P1 P2 A c n base l w0 w hn
  have hOu := fun b1 b2 x W h1 h2 => out_any lo hi b1 b2 x W h1 h2
  have HN := hide hn
  have rr := hr.below B3
  by_cases hz : chkT l = 0
  · rw [hz] at hCk ⊢
    clear hz hr hn
    go_enter Try.func24, Try.ntmps24
    go_wp2_with (first | (go_at_call 58; (with_reducible refine (hCk _ rr).mono ?_); rintro e w1 ⟨rfl, HB1⟩; have r1 := rr.below HB1; have C1 := stq B3 HB1; have t01 := (HB1.cell (World.block_lt_of_cell? _ _ t0)).trans t0; have k11 := (HB1.cell (World.block_lt_of_cell? _ _ k1)).trans k1; have k21 := (HB1.cell (World.block_lt_of_cell? _ _ k2)).trans k2) | (go_at_call 61; (with_reducible refine (hCl _ r1).mono ?_); rintro e w2 ⟨v2, rfl, O2, HB2⟩; obtain ⟨A2, c2, hv2, r2⟩ := O2.rd; rw [HN.out] at hv2; subst hv2; have hcl2 : ∀ W x, Below w1.heap.size w1 W → w1.heap.size ≤ W.heap.size → _ := (fun W x h _ => hOu _ _ x W ((h.cell (World.block_lt_of_cell? _ _ k11)).trans k11) ((h.cell (World.block_lt_of_cell? _ _ k21)).trans k21))) | (go_at_call 60; refine (hDl _ _ A2 c2 w1.heap.size w1 w2 O2 HB2 HB2.size hn48 hcl2).mono ?_; rintro e w3 ⟨A3, m3, c3, rfl, hm3, r3, HB3⟩))
    go_ret2
    exact ⟨.inr ⟨by first | rfl | trivial, A3, m3, c3, rfl, hm3, r3⟩, C1.trans (HB3.mono C1.size)⟩
  · generalize chkT l = z at *
    have hzb : (z == 0) = false := beq_eq_false_iff_ne.2 hz
    have hze : (z = 0) = False := eq_false hz
    clear hr hn
    go_enter Try.func24, Try.ntmps24
    go_wp2_with (first | (go_at_call 58; (with_reducible refine (hCk _ rr).mono ?_); rintro e w1 ⟨rfl, HB1⟩; have C1 := stq B3 HB1))
    go_ret2
    exact ⟨.inl ⟨hz, rfl⟩, C1⟩
end Go.Proofs.Ytefcepjffeiaoaa
end

section
/- Parts of a table: the reference's table as the program's. -/
namespace Go.Proofs.Ytefcepjffeiaoaa
open Go.RowKit Go.Proofs.YtefcepjffeiaoaaW.PrintWords
set_option linter.unusedVariables false

abbrev SQ := PC.S43
def mkQ (c : Ent) : SQ := ⟨c.1, c.2.1, c.2.2.1, c.2.2.2⟩
def ofQ (s : SQ) : Ent := (s.f0, s.f1, s.f2, s.f3)
theorem ofQ_mk (l : List Ent) : (l.map mkQ).map ofQ = l := by rw [List.map_map]; exact List.map_id l
theorem RdE.mkq {w : World} {A : Option Addr} {c : Nat} {l : List Ent} (h : RdE w A c l) : Rd PC.k43 w A c (l.map mkQ) := Rd_map (d := kEnt) (d' := PC.k43) rfl mkQ (fun x cs h => h) h
theorem OwE.ofq {w : World} {base : Nat} {v : Value} {l : List SQ} (h : PC.k43.R 43 w base (fun _ => True) v l) : OwE w base v (l.map ofQ) := R_map (d := PC.k43) (d' := kEnt) rfl ofQ (fun _ _ _ _ _ h => h) h
def b2i (u : UInt8) : Int := (u.toNat : Int)
theorem RdB.mki {w : World} {A : Option Addr} {c : Nat} {x : List UInt8} (h : RdB w A c x) : Rd (Kd.int .u8) w A c (x.map b2i) := Rd_map (d := kU8) (d' := Kd.int .u8) rfl b2i (fun x cs h => h) h.rdk
theorem of_any (A B : Option Addr) (c n m d : Nat) (K : Int) (l : List Ent) (x : List UInt8) (w : World) (hn : l.length = n) (hm : x.length = m) (hr : RdE w A c l) (hx : RdB w B d x) (hl : l.length * 48 ≤ 140737488351232) (hl2 : m ≤ 140737488351232) :
    Calls Try.prog 25 #[.agg #[.slice A n c, .int .i64 K, .slice B m d]] w fun e w' => ∃ A' c' B' m' d', e = .returned (.agg #[.slice A' n c', .int .i64 K, .slice B' m' d']) ∧ RdE w' A' c' l ∧ Below w.heap.size w w' := by
  subst hn
  subst hm
  have hf : PC.ticklerlaw10_of.f (l.map mkQ) K (x.map b2i) = some (l.map mkQ, K, x.map b2i) := by
    have h3 : ([] : List SQ).length + (l.map mkQ).length < 2932031007402 := by rw [List.length_map, List.length_nil]; omega
    have h4 : ([] : List Int).length + (x.map b2i).length < 140737488355328 := by rw [List.length_map, List.length_nil]; omega
    rw [PC.ticklerlaw10_of.f, PC.ticklerplain_CopyEntries.f, PC.ticklerplain_CopyBytes.f, if_pos h3, if_pos h4]
    rfl
  have h := PC.ticklerlaw10_of.calls A c (l.map mkQ) K B d (x.map b2i) (l.map mkQ) K (x.map b2i) w hr.mkq.2 hr.mkq.1 hx.mki.2 hx.mki.1 hf
  rw [List.length_map, List.length_map] at h
  refine h.mono ?_
  rintro e w' ⟨v, v2, rfl, HO, HO2, HB⟩
  have HO' := OwE.ofq HO
  rw [ofQ_mk] at HO'
  obtain ⟨A', c', rfl, hr'⟩ := HO'.rd
  obtain ⟨B', d', rfl⟩ := Kd.R_slice HO2
  exact ⟨A', c', B', _, d', rfl, hr', HB⟩
end Go.Proofs.Ytefcepjffeiaoaa
end

section
/- The walk of TableParts: the versions below a key and those from it on are all of them. -/
namespace Go.Proofs.Ytefcepjffeiaoaa
open Go.RowKit Go.Proofs.YtefcepjffeiaoaaW.PrintWords
set_option linter.unusedVariables false

theorem box1 (w : World) (x y z : Value) : Below w.heap.size w (w.alloc (.cells #[x, y, z] 39)) ∧ (w.alloc (.cells #[x, y, z] 39)).cell? ⟨w.heap.size, 0, none⟩ = some x ∧ (w.alloc (.cells #[x, y, z] 39)).cell? ⟨w.heap.size, 1, none⟩ = some y ∧ (w.alloc (.cells #[x, y, z] 39)).cell? ⟨w.heap.size, 2, none⟩ = some z := by
  have hT := heap_alloc_new w (.cells #[x, y, z] 39)
  exact ⟨below_alloc _ _, blk_cell hT 0, blk_cell hT 1, blk_cell hT 2⟩
def tb3 (W : World) (g : Nat) (x y z : Value) : Prop := W.cell? ⟨g, 0, none⟩ = some x ∧ W.cell? ⟨g, 1, none⟩ = some y ∧ W.cell? ⟨g, 2, none⟩ = some z
theorem tb3.below {W W' : World} {g : Nat} {x y z : Value} (h : tb3 W g x y z) (hb : Below W.heap.size W W') : tb3 W' g x y z := ⟨(hb.cell (World.block_lt_of_cell? _ _ h.1)).trans h.1, (hb.cell (World.block_lt_of_cell? _ _ h.2.1)).trans h.2.1, (hb.cell (World.block_lt_of_cell? _ _ h.2.2)).trans h.2.2⟩
set_option maxRecDepth 100000 in
set_option maxHeartbeats 3200000 in
theorem parts_walk (A : Option Addr) (c : Nat) (l : List Ent) (K : Int) (B : Option Addr) (d : Nat) (y : List UInt8) (key : ByteArray) (w : World) (hr : RdE w A c l) (hx : RdB w B d y) (hl : l.length * 48 ≤ 140737488351232) (hl2 : y.length ≤ 140737488351232) (hk : key.size ≤ 140737488351232) :
    Calls Try.prog 8 #[.agg #[.slice A l.length c, .int .i64 K, .slice B y.length d], .string key] w fun e w' => e = .returned (.bool true) ∧ Below w.heap.size w w' := by
  obtain ⟨n, hn⟩ : ∃ n, l.length = n := ⟨_, rfl⟩
  obtain ⟨ny, hny⟩ : ∃ n, y.length = n := ⟨_, rfl⟩
  have hl3 : (l.length + l.length) * 48 ≤ 281474976702464 := by omega
  rw [hny] at hl2
  rw [hn, hny]
  obtain ⟨b0, q0⟩ := box1 w (.slice A n c) (.int .i64 K) (.slice B ny d)
  have q0 : tb3 _ w.heap.size (.slice A n c) (.int .i64 K) (.slice B ny d) := q0
  have hOf := fun W (h : RdE W A c l) (h2 : RdB W B d y) => of_any A B c n ny d K l y W hn hny h h2 hl hl2
  have hBt := fun lo hi A B c m d W (h : RdE W A c l) => Between_any A B c n m d K lo hi l W hn h hl
  have hSm := fun A B c d W (h : RdE W A c l) (h' : RdE W B d l) => SameE_any A B c d n l W hn h h' (by omega)
  have r0 := hr.below b0
  have x0 := hx.below b0
  have HN := hide hn
  clear hr hx hny
  by_cases hz : chkT l = 0
  · simp only [hz, ne_eq, not_true, false_and, false_or, true_and] at hBt
    have hadj := chkT_adj l hz
    by_cases l3 : key.toList = []
    · have hkb : bl key = [] := by rw [← l3]; exact (Lib.toList_data key).symm
      have e1 := in_all l ⟨#[]⟩ key rfl hkb
      have e2 := in_all l key ⟨#[]⟩ hkb rfl
      have hB1 := hBt ⟨#[]⟩ key
      have hB2 := hBt key ⟨#[]⟩
      rw [e1] at hB1
      rw [e2] at hB2
      clear hz hadj hkb e1 e2 hBt hn hk hl hl2 hl3
      go_enter Try.func8, Try.ntmps8
      go_wp2_with (first | (go_at_call 21; refine (alive_any _).mono ?_; rintro e w1 ⟨rfl, HB1⟩; have C1 := stq b0 HB1; have r1 := r0.below HB1; have x1 := x0.below HB1; have q1 := q0.below HB1; obtain ⟨q10, q11, q12⟩ := id q1) | (go_at_call 18; refine (num_any _ _).mono ?_; rintro e w' ⟨rfl, rfl⟩) | (go_at_call 25; (with_reducible refine (hOf _ r1 x1).mono ?_); rintro e w2 ⟨A2, c2, B2, m2, d2, rfl, r2, HB2⟩; have C2 := stq C1 HB2) | (go_at_call 24; (with_reducible refine (hB1 _ _ _ _ _ _ r2).mono ?_); rintro e w3 ⟨⟨A3, m3, c3, rfl, hm3, r3⟩, HB3⟩; rw [HN.out] at hm3; subst hm3; have C3 := stq C2 HB3; have H23 := stq HB2 HB3; have r13 := r1.below H23; have x13 := x1.below H23; have q13 := q1.below H23; obtain ⟨q130, q131, q132⟩ := id q13) | (go_at_call 25; (with_reducible refine (hOf _ r13 x13).mono ?_); rintro e w4 ⟨A4, c4, B4, m4, d4, rfl, r4, HB4⟩; have C4 := stq C3 HB4) | (go_at_call 24; (with_reducible refine (hB2 _ _ _ _ _ _ r4).mono ?_); rintro e w5 ⟨⟨A5, m5, c5, rfl, hm5, r5⟩, HB5⟩; rw [HN.out] at hm5; subst hm5; have C5 := stq C4 HB5; have H45 := stq HB4 HB5; have r35 := r3.below H45; have r15 := r13.below H45; have q15 := q13.below H45; obtain ⟨q150, q151, q152⟩ := id q15) | (go_at_call 20; (with_reducible refine (hSm _ _ _ _ _ r35 r5).mono ?_); rintro e w6 ⟨rfl, HB6⟩; have C6 := stq C5 HB6; have r36 := r35.below HB6; have r16 := r15.below HB6; have q16 := q15.below HB6; obtain ⟨q160, q161, q162⟩ := id q16) | (go_at_call 20; (with_reducible refine (hSm _ _ _ _ _ r36 r16).mono ?_); rintro e w7 ⟨rfl, HB7⟩; have C7 := stq C6 HB7))
      go_ret
      exact ⟨rfl, C7⟩
    · have l4 : key.toList.isEmpty = false := by simpa using l3
      have hkb : bl key ≠ [] := fun h => l3 ((Lib.toList_data key).trans h)
      have hcut := in_cut l key hadj hkb
      have hc1 := inE_length ⟨#[]⟩ key l
      have hB1 := hBt ⟨#[]⟩ key
      have hB2 := hBt key ⟨#[]⟩
      generalize inE ⟨#[]⟩ key l = L1 at *
      generalize inE key ⟨#[]⟩ l = L2 at *
      have hsum : (L1.length + L2.length) * 48 ≤ 140737488355328 := by rw [← List.length_append, hcut]; omega
      have hl1 : L1.length * 48 ≤ 140737488351232 := by omega
      have hCp := fun A c W (h : RdE W A c L1) => CopyE_any A c L1.length L1 W rfl h hl1
      have HCUT := hide hcut
      have HSUM := hide hsum
      clear hz hadj hkb hcut hsum hl1 hc1 hBt hn hk hl hl2 hl3
      go_enter Try.func8, Try.ntmps8
      go_wp2_with (first | (go_at_call 21; refine (alive_any _).mono ?_; rintro e w1 ⟨rfl, HB1⟩; have C1 := stq b0 HB1; have r1 := r0.below HB1; have x1 := x0.below HB1; have q1 := q0.below HB1; obtain ⟨q10, q11, q12⟩ := id q1) | (go_at_call 18; refine (num_any _ _).mono ?_; rintro e w' ⟨rfl, rfl⟩) | (go_at_call 25; (with_reducible refine (hOf _ r1 x1).mono ?_); rintro e w2 ⟨A2, c2, B2, m2, d2, rfl, r2, HB2⟩; have C2 := stq C1 HB2) | (go_at_call 24; (with_reducible refine (hB1 _ _ _ _ _ _ r2).mono ?_); rintro e w3 ⟨⟨A3, m3, c3, rfl, hm3, r3⟩, HB3⟩; subst hm3; have C3 := stq C2 HB3; have H23 := stq HB2 HB3; have r13 := r1.below H23; have x13 := x1.below H23; have q13 := q1.below H23; obtain ⟨q130, q131, q132⟩ := id q13) | (go_at_call 25; (with_reducible refine (hOf _ r13 x13).mono ?_); rintro e w4 ⟨A4, c4, B4, m4, d4, rfl, r4, HB4⟩; have C4 := stq C3 HB4) | (go_at_call 24; (with_reducible refine (hB2 _ _ _ _ _ _ r4).mono ?_); rintro e w5 ⟨⟨A5, m5, c5, rfl, hm5, r5⟩, HB5⟩; subst hm5; have C5 := stq C4 HB5; have H45 := stq HB4 HB5; have r35 := r3.below H45; have r15 := r13.below H45; have q15 := q13.below H45; obtain ⟨q150, q151, q152⟩ := id q15))
      have hd : Below w5.heap.size w5 w5.drew := (Below.refl _ _).drew
      have r35d := r35.below hd
      have r5d := r5.below hd
      have r15d := r15.below hd
      have q15d := q15.below hd
      have C5d := stq C5 hd
      obtain ⟨qd0, qd1, qd2⟩ := id q15d
      go_region_law (first | ((refine step_ents (w0 := w5.drew) (W := w6) w5.drew.heap.size (by rfl) (.tmp 50) (.tmp 51) rfl v6 L1 L2 A5 c5 (by rfl) (by rfl) O6 (r5d.below HB6) HB6 HB6.size HSUM.out ?_); intro v7 w7 O7 HB7 hg7; rw [HCUT.out] at O7; have r17 := r15d.below HB7; have q17 := q15d.below HB7; obtain ⟨q170, q171, q172⟩ := id q17; obtain ⟨A7, c7, hv7, r7⟩ := O7.rd; rw [HN.out] at hv7; subst hv7) | (go_simp; go_at_call 9; (with_reducible refine (hCp _ _ _ r35d).mono ?_); rintro e w6 ⟨v6, rfl, O6, HB6⟩; have q16 := q15d.below HB6; obtain ⟨q160, q161, q162⟩ := id q16; go_wp2) | (go_simp; go_at_call 20; (with_reducible refine (hSm _ _ _ _ _ r7 r17).mono ?_); rintro e w8 ⟨rfl, HB8⟩; have C8 := C5d.trans ((HB7.trans (HB8.mono HB7.size)).mono C5d.size); go_wp2))
      all_goals (
        go_wp2
        go_ret
        exact ⟨rfl, C8⟩)
  · simp only [hz, ne_eq, not_false_eq_true, true_and, false_and, or_false] at hBt
    generalize chkT l = z at *
    have hB1 := hBt ⟨#[]⟩ key
    have hB2 := hBt key ⟨#[]⟩
    have hzb : (z == 0) = false := beq_eq_false_iff_ne.2 hz
    clear hBt hn hk hl hl2 hl3
    go_enter Try.func8, Try.ntmps8
    go_wp2_with (first | (go_at_call 21; refine (alive_any _).mono ?_; rintro e w1 ⟨rfl, HB1⟩; have C1 := stq b0 HB1; have r1 := r0.below HB1; have x1 := x0.below HB1; have q1 := q0.below HB1; obtain ⟨q10, q11, q12⟩ := id q1) | (go_at_call 18; refine (num_any _ _).mono ?_; rintro e w' ⟨rfl, rfl⟩) | (go_at_call 25; (with_reducible refine (hOf _ r1 x1).mono ?_); rintro e w2 ⟨A2, c2, B2, m2, d2, rfl, r2, HB2⟩; have C2 := stq C1 HB2) | (go_at_call 24; (with_reducible refine (hB1 _ _ _ _ _ _ r2).mono ?_); rintro e w3 ⟨rfl, HB3⟩; have C3 := stq C2 HB3; have H23 := stq HB2 HB3; have r13 := r1.below H23; have x13 := x1.below H23; have q13 := q1.below H23; obtain ⟨q130, q131, q132⟩ := id q13) | (go_at_call 25; (with_reducible refine (hOf _ r13 x13).mono ?_); rintro e w4 ⟨A4, c4, B4, m4, d4, rfl, r4, HB4⟩; have C4 := stq C3 HB4) | (go_at_call 24; (with_reducible refine (hB2 _ _ _ _ _ _ r4).mono ?_); rintro e w5 ⟨rfl, HB5⟩; have C5 := stq C4 HB5; have H45 := stq HB4 HB5; have r15 := r13.below H45; have q15 := q13.below H45; obtain ⟨q150, q151, q152⟩ := id q15))
    go_ret
    exact ⟨by first | rfl | simp, C5⟩
end Go.Proofs.Ytefcepjffeiaoaa
end
