/- What the law TableGets reaches besides, and its walk. -/
import Derived.Test.YtefcepjffeiaoaaMgA
import Derived.Test.YtefcepjffeiaoaaMgC
import Derived.Test.YtefcepjffeiaoaaMgB
set_option linter.unusedVariables false
set_option linter.unusedSimpArgs false
section
/- Arguments opened: versions. -/
namespace Go.Proofs.Ytefcepjffeiaoaa
open Go.ChangeShapes Go.WideShapes Go.ChangeAt Go.RowKit Go.Proofs.YtefcepjffeiaoaaW.PrintWords
set_option maxRecDepth 100000
set_option linter.unusedVariables false
instance : Inhabited Ent := ⟨zEnt⟩
theorem open_ents {H : Type} {enc : TypeId × Value → H} {W : World} {base : Nat} {v : Value} {x : DataW H} {p : List MemPlace} (hv : Value.okWide Try.prog W .any base 22 v)
    (h : DataW.Trod enc Try.prog W 0 (fun _ => true) true 22 v x p) : ∃ A c l, v = .slice A l.length c ∧ RdE W A c l ∧ (∀ B, (∀ y ∈ x.weights Try.prog 22, y ≤ B) → l.length * 48 ≤ B) := by
  have o1 := opens_struct Try.underlying43 (d := kEnt) (by kernel_rfl) (opensF_cons rfl (by kernel_rfl) (opens_string Try.underlying9) (opensF_cons rfl (by kernel_rfl) (opens_int Try.underlying3) (opensF_cons rfl (by kernel_rfl) (opens_int Try.underlying3) (opensF_one rfl (by kernel_rfl) (opens_string Try.underlying9)))))
  have o2 := opens_slice (t := 22) Try.underlying22 (by kernel_rfl) o1
  obtain ⟨A, c, l, hv, hl, hC, hS, hU⟩ := open_slice_of Try.underlying22 o2 hv h
  refine ⟨A, c, l, hv, ⟨hl, hC⟩, fun B hB => ?_⟩
  have h1 := (hS B hB).1
  have e : Try.prog.bytesOf 43 = 48 := by kernel_rfl
  rw [e] at h1
  exact h1
end Go.Proofs.Ytefcepjffeiaoaa
end

section
/- Arguments opened: a table. -/
namespace Go.Proofs.Ytefcepjffeiaoaa
open Go.ChangeShapes Go.WideShapes Go.ChangeAt Go.RowKit Go.Proofs.YtefcepjffeiaoaaW.PrintWords
set_option maxRecDepth 100000
set_option linter.unusedVariables false
end Go.Proofs.Ytefcepjffeiaoaa
end

section
/- Table: what is got of each version, plainly. -/
namespace Go.Proofs.Ytefcepjffeiaoaa
set_option linter.unusedVariables false

theorem isV_no (x t : Ent) (h : befE x t) : isV t.1 t.2.1 x = false := by
  rw [isV]
  rcases h with h | ⟨h1, h2⟩
  · have : ¬ x.1 = t.1 := fun e => by rw [e] at h; exact lt_ir _ h
    rw [decide_eq_false this]; rfl
  · have : ¬ x.2.1 ≤ t.2.1 := by omega
    rw [decide_eq_false this, Bool.and_false]
theorem isV_no1 (x t : Ent) (h : befE x t ∨ x = t) : isV t.1 (t.2.1 - 1) x = false := by
  rw [isV]
  rcases h with (h | ⟨h1, h2⟩) | rfl
  · have : ¬ x.1 = t.1 := fun e => by rw [e] at h; exact lt_ir _ h
    rw [decide_eq_false this]; rfl
  · have : ¬ x.2.1 ≤ t.2.1 - 1 := by omega
    rw [decide_eq_false this, Bool.and_false]
  · have : ¬ x.2.1 ≤ x.2.1 - 1 := by omega
    rw [decide_eq_false this, Bool.and_false]
theorem first_self (l : List Ent) (h : ordE l = 0) (i : Nat) (hi : i < l.length) : firstE l (l.getD i zEnt).1 (l.getD i zEnt).2.1 = some (l.getD i zEnt) :=
  first_at l _ _ i hi (by rw [isV, decide_eq_true rfl, decide_eq_true (Int.le_refl _)]; rfl) fun k hk => isV_no _ _ (ord_bef l h i hi k hk)
theorem first_next (l : List Ent) (h : ordE l = 0) (i : Nat) (hi : i + 1 < l.length) (hk : (l.getD (i + 1) zEnt).1 = (l.getD i zEnt).1) : firstE l (l.getD i zEnt).1 ((l.getD i zEnt).2.1 - 1) = some (l.getD (i + 1) zEnt) := by
  have hb := ord_bef l h (i + 1) hi i (by omega)
  have hs : (l.getD (i + 1) zEnt).2.1 ≤ (l.getD i zEnt).2.1 - 1 := by
    rcases hb with hb | ⟨_, hb⟩
    · rw [hk] at hb; exact absurd hb (lt_ir _)
    · omega
  refine first_at l _ _ (i + 1) hi (by rw [isV, decide_eq_true hk, decide_eq_true hs]; rfl) fun k hk2 => isV_no1 _ _ ?_
  rcases Nat.lt_or_ge k i with h2 | h2
  · exact .inl (ord_bef l h i (by omega) k h2)
  · exact .inr (by rw [show k = i by omega])
theorem first_last (l : List Ent) (h : ordE l = 0) (i : Nat) (hi : i < l.length) (hk : i + 1 < l.length → (l.getD (i + 1) zEnt).1 ≠ (l.getD i zEnt).1) : firstE l (l.getD i zEnt).1 ((l.getD i zEnt).2.1 - 1) = none := by
  refine first_none l _ _ fun k hk2 => ?_
  rcases Nat.lt_or_ge k i with h2 | h2
  · exact isV_no1 _ _ (.inl (ord_bef l h i hi k h2))
  · rcases Nat.lt_or_ge i k with h3 | h3
    · have hne : ¬ (l.getD k zEnt).1 = (l.getD i zEnt).1 := by
        intro e
        have h1 := hk (by omega)
        have b1 := ord_bef l h (i + 1) (by omega) i (by omega)
        have c1 : bl (l.getD i zEnt).1 < bl (l.getD (i + 1) zEnt).1 := by
          rcases b1 with b1 | ⟨b1, _⟩
          · exact b1
          · exact absurd (bl_inj b1).symm h1
        rcases Nat.lt_or_ge (i + 1) k with h4 | h4
        · have b2 := ord_bef l h k hk2 (i + 1) h4
          rcases b2 with b2 | ⟨b2, _⟩
          · have := lt_tr c1 b2
            rw [e] at this; exact lt_ir _ this
          · rw [b2, e] at c1; exact lt_ir _ c1
        · obtain rfl : k = i + 1 := by omega
          exact h1 e
      rw [isV, decide_eq_false hne]; rfl
    · exact isV_no1 _ _ (.inr (by rw [show k = i by omega]))
/-- what is got of a table that was built -/
theorem get_tab (l : List Ent) (h : tabE l = 0) (key : ByteArray) (seq : Int) : getE (tabX l) key seq = firstE l key seq ∧ openE (tabX l) = 0 := by
  obtain ⟨h1, h2⟩ := open_tab l h
  exact ⟨by rw [getE, if_pos h1, h2], h1⟩
end Go.Proofs.Ytefcepjffeiaoaa
end

section
/- Table: the reference's keys and four octets, out of the printed contracts. -/
namespace Go.Proofs.Ytefcepjffeiaoaa
open Go.RowKit Go.Proofs.YtefcepjffeiaoaaW.PrintWords
set_option linter.unusedVariables false

end Go.Proofs.Ytefcepjffeiaoaa
end

section
/- Table: the reference's Build, walked. -/
namespace Go.Proofs.Ytefcepjffeiaoaa
open Go.RowKit Go.Proofs.YtefcepjffeiaoaaW.PrintWords
set_option linter.unusedVariables false

theorem ref_min (a b j : Nat) (h : min a b = j) : ∀ tys ty W, (Builtin.min_ tys ty #[.int .i64 (a : Int), .int .i64 (b : Int)]).run Try.prog W = .ok (.int .i64 (j : Int)) W := by
  intro tys ty W
  have h2 := min2_nat .i64 a b
  have e0 : Builtin.min_ tys ty #[.int .i64 (a : Int), .int .i64 (b : Int)] = Builtin.min2 (.int .i64 (a : Int)) (.int .i64 (b : Int)) := by simp [Builtin.min_]
  rw [e0, h2]
  show (pure (Value.int .i64 ((min a b : Nat) : Int)) : Sem Value).run Try.prog W = _
  rw [h]
  rfl
end Go.Proofs.Ytefcepjffeiaoaa
end

section
/- The walk of TableGets: each version of a table is got by its key and number. -/
namespace Go.Proofs.Ytefcepjffeiaoaa
open Go.RowKit Go.Proofs.YtefcepjffeiaoaaW.PrintWords
set_option linter.unusedVariables false

theorem tabE_key (l : List Ent) (h : tabE l = 0) (k : Nat) (hk : k < l.length) : (l.getD k zEnt).1.size ≤ 140737488355328 ∧ wrap64 ((l.getD k zEnt).2.1 - 1) = (l.getD k zEnt).2.1 - 1 ∧ IntKind.i64.wrap ((l.getD k zEnt).2.1 - 1) = (l.getD k zEnt).2.1 - 1 := by
  obtain ⟨t1, t2, t3⟩ := tabE_ok l h
  obtain ⟨m1, m2, m3, m4, -⟩ := (ordE_may l t3 k hk).1
  refine ⟨Nat.le_trans m2 (by decide), ?_, ?_⟩
  · unfold wrap64; omega
  · rw [IntKind.wrap_i64]; omega
theorem gt_meas (n k : Nat) (h : k < n) (hw : wrap64 ((k : Int) + 1) = ((k + 1 : Nat) : Int)) : n - (intOf (.int .i64 (wrap64 ((k : Int) + 1)))).toNat < n - (intOf (.int .i64 (k : Int))).toNat := by
  rw [hw]
  show n - (k + 1) < n - k
  omega
theorem gt_meas2 (n k : Nat) (h : k < n) : n - (intOf (.int .i64 ((k + 1 : Nat) : Int))).toNat < n - (intOf (.int .i64 (k : Int))).toNat := by
  show n - (k + 1) < n - k
  omega
theorem gt_meas3 (n k : Nat) (h : k < n) : n - (intOf (.int .i64 ((k : Int) + 1))).toNat < n - (intOf (.int .i64 (k : Int))).toNat := by
  show n - (k + 1) < n - k
  omega
set_option maxRecDepth 100000 in
set_option maxHeartbeats 6400000 in
theorem gets_walk (A : Option Addr) (c : Nat) (l : List Ent) (w : World) (hr : RdE w A c l) (hl : l.length * 48 ≤ 140737488351232) :
    Calls Try.prog 6 #[.slice A l.length c] w fun e w' => e = .returned (.bool true) ∧ Below w.heap.size w w' := by
  obtain ⟨m, hm⟩ : ∃ m, min l.length 40 = m := ⟨_, rfl⟩
  have hmin := ref_min l.length 40 m hm
  have hml : m ≤ l.length := by omega
  have hm40 : m ≤ 40 := by omega
  have hsl := fun W => sliceK_hi (P := Try.prog) 22 43 Try.underlying22 (i := _) rfl A l.length c m (Nat.le_trans hml hr.1) W
  have rL := Rd.take hr m hml
  have hLl : (l.take m).length = m := by rw [List.length_take]; omega
  generalize l.take m = L at *
  have hmin : ∀ tys ty W, (Builtin.min_ tys ty #[.int .i64 (l.length : Int), .int .i64 40]).run Try.prog W = .ok (.int .i64 (m : Int)) W := hmin
  generalize l.length = n at *
  clear hl hr hm hml
  have hE := fun W (h : RdE W A c L) => Build_any A c m L W hLl h (by omega)
  obtain ⟨nx, hnx⟩ : ∃ nx, (tabX L).length = nx := ⟨_, rfl⟩
  by_cases h0 : tabE L = 0
  · rw [h0] at hE
    have hxl : nx ≤ 3000000 := by rw [← hnx]; exact (tabX_size L h0).1
    obtain ⟨t1, t2, t3⟩ := tabE_ok L h0
    have hKey := fun k (hk : k < m) => tabE_key L h0 k (by rw [hLl]; exact hk)
    have hG := fun A2 c2 W key seq (hks : key.size ≤ 140737488355328) (h : RdB W A2 c2 (tabX L)) => Get_any10 A2 c2 nx (tabX L) key seq W hnx h (Nat.le_trans hxl (by decide)) hks
    have hg0 := fun key seq => (get_tab L h0 key seq).1
    have hg1 := fun key seq => (get_tab L h0 key seq).2
    simp only [hg0, (hg1 ByteArray.empty 0)] at hG
    have hP1 := fun k (hk : k < m) => first_self L t3 k (by rw [hLl]; exact hk)
    have hP2 := fun k (hk : k + 1 < m) => first_next L t3 k (by rw [hLl]; exact hk)
    have hP3 := fun k (hk : k < m) => first_last L t3 k (by rw [hLl]; exact hk)
    rw [hLl] at hP3
    generalize tabX L = X at *
    have HNX := hide hnx
    have HLL := hide hLl
    clear hg0 hg1 t1 t2 t3 h0 hnx hLl
    go_enter Try.func6, Try.ntmps6
    go_wp2_with (first | (go_at_call 21; refine (alive_any _).mono ?_; rintro e w1 ⟨rfl, HB1⟩) | (go_at_call 18; refine (num_any _ _).mono ?_; rintro e w' ⟨rfl, rfl⟩) | (go_at_call 11; (with_reducible refine (hE _ (rL.below HB1)).mono ?_); rintro e w2 ⟨v2, rfl, O2, HB2⟩; obtain ⟨A2, c2, hv2, r2⟩ := O2.rd; rw [HNX.out] at hv2; subst hv2; have HC2 := stp HB1 HB2))
    go_loopw [5] (fun iv wr => ∃ k : Nat, k ≤ m ∧ iv = .int .i64 (k : Int) ∧ Below w2.heap.size w2 wr) (fun iv _ => m - (intOf iv).toNat)
    case atStart => exact ⟨0, Nat.zero_le _, rfl, Below.refl _ _⟩
    case round =>
      obtain ⟨k, hk, rfl, HBr⟩ := hrel
      have HCr := HC2.trans (HBr.mono HC2.size)
      by_cases hlt : k < m
      · have hlti : (k : Int) < (m : Int) := Int.ofNat_lt.2 hlt
        obtain ⟨ad, rfl, x0, x1, x2, x3⟩ := RdE.at4 (rL.below HCr) k (by rw [HLL.out]; exact hlt)
        have hp1 := hP1 k hlt
        have hp2 := hP2 k
        have hp3 := hP3 k hlt
        obtain ⟨hks, hw1, hw2⟩ := hKey k hlt
        obtain ⟨⟨yk, yq, yd, yv⟩, hy⟩ : ∃ y, L.getD k zEnt = y := ⟨_, rfl⟩
        simp only [hy] at x0 x1 x2 x3 hp1 hp2 hp3 hks hw1 hw2
        have hG1 := fun W (h : RdB W A2 c2 X) => hG A2 c2 W yk yq hks h
        have hG2 := fun W (h : RdB W A2 c2 X) => hG A2 c2 W yk (yq - 1) hks h
        rw [hp1] at hG1
        have e1 : resV (some (yk, yq, yd, yv)) = .agg #[.string yk, .int .i64 yq, .int .i64 yd, .string yv] := rfl
        have e2 : (resE (some (yk, yq, yd, yv))).2 = true := rfl
        rw [e1, e2] at hG1
        have HP2 := hide hp2
        have HP3 := hide hp3
        have hHY := hide hy
        have hd : Below wr.heap.size wr wr.drew := (Below.refl _ _).drew
        have r2r := (r2.below HBr).below hd
        have hCell := fun Y (h : Below wr.heap.size wr Y) => And.intro ((h.cell (World.block_lt_of_cell? _ _ x0)).trans x0) ((h.cell (World.block_lt_of_cell? _ _ x1)).trans x1)
        have hSk : ∀ Y, Below wr.heap.size wr Y → Below wr.heap.size wr Y ∧ Y.cell? (ad.add (k * 4)) = some (.string yk) ∧ Y.cell? ⟨(ad.add (k * 4)).block, (ad.add (k * 4)).off + 1, none⟩ = some (.int .i64 yq) := fun Y h => ⟨h, hCell Y h⟩
        have hS0 := hSk _ hd
        clear hy hp1 hp2 hp3 e1 e2 hP1 hP2 hP3 hG hKey hks hE
        clear hsl hmin
        have HW1 := hide hw1
        have HW2 := hide hw2
        have HWK : Hid (wrap64 ((k : Int) + 1) = ((k + 1 : Nat) : Int)) := hide (by unfold wrap64; omega)
        have HWK2 : Hid (IntKind.i64.wrap ((k : Int) + 1) = ((k + 1 : Nat) : Int)) := hide (by rw [IntKind.wrap_i64]; omega)
        clear hw1 hw2
        go_wp2
        go_region_held3 (fun Y => Below wr.heap.size wr Y ∧ Y.cell? (ad.add (k * 4)) = some (.string yk) ∧ Y.cell? ⟨(ad.add (k * 4)).block, (ad.add (k * 4)).off + 1, none⟩ = some (.int .i64 yq)) (first | exact hS0 | assumption | (have hh := ‹Below wr.heap.size wr _ ∧ _ ∧ _›; exact hSk _ (hh.1.alloc hh.1.size _)) | exact hSk _ QBt | exact hSk _ (QBt.alloc QBt.size _) | (have hh := ‹Below wr.heap.size wr _ ∧ _ ∧ _›; exact hSk _ ((((hh.1.setCell (p := ⟨_, 0, none⟩) (by first | exact QBt.size | exact Nat.le_refl _) _).setCell (p := ⟨_, 1, none⟩) (by first | exact QBt.size | exact Nat.le_refl _) _).setCell (p := ⟨_, 2, none⟩) (by first | exact QBt.size | exact Nat.le_refl _) _).setCell (p := ⟨_, 3, none⟩) (by first | exact QBt.size | exact Nat.le_refl _) _))) (first | (go_at_call 15; have hh := ‹Below wr.heap.size wr _ ∧ _ ∧ _›; (with_reducible refine (hG1 _ (r2.below (stp HBr hh.1))).mono ?_); rintro e w6 ⟨rfl, HB6⟩; have QBt := stp hh.1 HB6; try (have kG := (HB6.block _ (blk_lt (heap_alloc_new _ (.cells #[.string ⟨#[]⟩, .int .i64 0, .int .i64 0, .string ⟨#[]⟩] 43)))).trans (heap_alloc_new _ (.cells #[.string ⟨#[]⟩, .int .i64 0, .int .i64 0, .string ⟨#[]⟩] 43)); have k0 := blk_cell kG 0; have k1 := blk_cell kG 1; have k2 := blk_cell kG 2; have k3 := blk_cell kG 3; have z0 := blk_frozen kG 0; have z1 := blk_frozen kG 1; have z2 := blk_frozen kG 2; have z3 := blk_frozen kG 3)))
        all_goals (
          first
          | (have E7 : Eb (w6.alloc (.cells #[.string yk, .int .i64 yq, .int .i64 yd, .string yv] 43)) w6.heap.size (yk, yq, yd, yv) := Eb.new w6 (yk, yq, yd, yv); have B7 := stp QBt (below_alloc w6 (.cells #[.string yk, .int .i64 yq, .int .i64 yd, .string yv] 43)); obtain ⟨g, hG7⟩ : ∃ g, g = w6.heap.size := ⟨_, rfl⟩; rw [← hG7] at E7; simp only [← hG7]; generalize w6.alloc (.cells #[.string yk, .int .i64 yq, .int .i64 yd, .string yv] 43) = W7 at E7 B7 ⊢; clear hG7)
          | (have E7 := blk_set (blk_set (blk_set (blk_set kG 0 (.string yk)) 1 (.int .i64 yq)) 2 (.int .i64 yd)) 3 (.string yv); have B7 := ((((QBt.setCell (p := ⟨wr.heap.size, 0, none⟩) (Nat.le_refl _) (.string yk)).setCell (p := ⟨wr.heap.size, 1, none⟩) (Nat.le_refl _) (.int .i64 yq)).setCell (p := ⟨wr.heap.size, 2, none⟩) (Nat.le_refl _) (.int .i64 yd)).setCell (p := ⟨wr.heap.size, 3, none⟩) (Nat.le_refl _) (.string yv)); have E7 : Eb _ _ (yk, yq, yd, yv) := E7; generalize World.setCell (World.setCell (World.setCell (World.setCell w6 _ _) _ _) _ _) _ _ = W7 at E7 B7 ⊢; obtain ⟨g, hG7⟩ : ∃ g, g = wr.heap.size := ⟨_, rfl⟩; rw [← hG7] at E7; simp only [← hG7]; clear hG7)
          have v0 := (B7.cell (World.block_lt_of_cell? _ _ x0)).trans x0
          have v1 := (B7.cell (World.block_lt_of_cell? _ _ x1)).trans x1
          have v2 := (B7.cell (World.block_lt_of_cell? _ _ x2)).trans x2
          have v3 := (B7.cell (World.block_lt_of_cell? _ _ x3)).trans x3
          obtain ⟨t0, t1, t2, t3, -, -, -, -⟩ := E7.read
          have hEq := fun d W => PB.eqA43 d W yk yk yq yq yd yd yv yv
          have hse1 : (yk.toList == yk.toList) = true := by simp
          have hse2 : (yv.toList == yv.toList) = true := by simp
          have hS11 : W7.drew.cell? (ad.add (k * 4)) = some (.string yk) ∧ W7.drew.cell? ⟨(ad.add (k * 4)).block, (ad.add (k * 4)).off + 1, none⟩ = some (.int .i64 yq) ∧ W7.drew.cell? ⟨(ad.add (k * 4)).block, (ad.add (k * 4)).off + 2, none⟩ = some (.int .i64 yd) ∧ W7.drew.cell? ⟨(ad.add (k * 4)).block, (ad.add (k * 4)).off + 3, none⟩ = some (.string yv) ∧ W7.drew.cell? ⟨g, 0, none⟩ = some (.string yk) ∧ W7.drew.cell? ⟨g, 1, none⟩ = some (.int .i64 yq) ∧ W7.drew.cell? ⟨g, 2, none⟩ = some (.int .i64 yd) ∧ W7.drew.cell? ⟨g, 3, none⟩ = some (.string yv) := ⟨v0, v1, v2, v3, t0, t1, t2, t3⟩
          go_wp2
          go_region_held3 (fun Y => Y.cell? (ad.add (k * 4)) = some (.string yk) ∧ Y.cell? ⟨(ad.add (k * 4)).block, (ad.add (k * 4)).off + 1, none⟩ = some (.int .i64 yq) ∧ Y.cell? ⟨(ad.add (k * 4)).block, (ad.add (k * 4)).off + 2, none⟩ = some (.int .i64 yd) ∧ Y.cell? ⟨(ad.add (k * 4)).block, (ad.add (k * 4)).off + 3, none⟩ = some (.string yv) ∧ Y.cell? ⟨g, 0, none⟩ = some (.string yk) ∧ Y.cell? ⟨g, 1, none⟩ = some (.int .i64 yq) ∧ Y.cell? ⟨g, 2, none⟩ = some (.int .i64 yd) ∧ Y.cell? ⟨g, 3, none⟩ = some (.string yv)) (first | exact hS11 | assumption) (first | (go_at_call 18; refine (num_any _ _).mono ?_; rintro e w' ⟨rfl, rfl⟩))
          have B8 : Below wr.heap.size wr W7.drew := stp B7 (Below.refl _ _).drew
          generalize W7.drew = W8 at B8 ⊢
          clear hEq hse1 hse2 hS11 E7 B7 t0 t1 t2 t3 v0 v1 v2 v3 hS0 hSk hd r2r hCell
          have v80 := (B8.cell (World.block_lt_of_cell? _ _ x0)).trans x0
          have v81 := (B8.cell (World.block_lt_of_cell? _ _ x1)).trans x1
          have hSk8 : ∀ Y, Below W8.heap.size W8 Y → Below W8.heap.size W8 Y ∧ Y.cell? (ad.add (k * 4)) = some (.string yk) ∧ Y.cell? ⟨(ad.add (k * 4)).block, (ad.add (k * 4)).off + 1, none⟩ = some (.int .i64 yq) := fun Y h => ⟨h, (h.cell (World.block_lt_of_cell? _ _ v80)).trans v80, (h.cell (World.block_lt_of_cell? _ _ v81)).trans v81⟩
          have hS08 := hSk8 _ (Below.refl W8.heap.size W8).drew
          obtain ⟨⟨⟨xk, xq, xd, xv⟩, fb⟩, hy2⟩ : ∃ y, resE (firstE L yk (yq - 1)) = y := ⟨_, rfl⟩
          have hG2 : ∀ W, RdB W A2 c2 X → _ := hG2
          unfold resV at hG2
          simp only [hy2] at hG2
          have hw2 := HW2.out
          go_wp2
          go_region_held3 (fun Y => Below W8.heap.size W8 Y ∧ Y.cell? (ad.add (k * 4)) = some (.string yk) ∧ Y.cell? ⟨(ad.add (k * 4)).block, (ad.add (k * 4)).off + 1, none⟩ = some (.int .i64 yq)) (first | exact hS08 | assumption | (have hh := ‹Below W8.heap.size W8 _ ∧ _ ∧ _›; exact hSk8 _ (hh.1.alloc hh.1.size _)) | exact hSk8 _ QBu | exact hSk8 _ (QBu.alloc QBu.size _) | (have hh := ‹Below W8.heap.size W8 _ ∧ _ ∧ _›; exact hSk8 _ ((((hh.1.setCell (p := ⟨_, 0, none⟩) (by first | exact QBu.size | exact Nat.le_refl _) _).setCell (p := ⟨_, 1, none⟩) (by first | exact QBu.size | exact Nat.le_refl _) _).setCell (p := ⟨_, 2, none⟩) (by first | exact QBu.size | exact Nat.le_refl _) _).setCell (p := ⟨_, 3, none⟩) (by first | exact QBu.size | exact Nat.le_refl _) _))) (first | (go_at_call 15; have hh := ‹Below W8.heap.size W8 _ ∧ _ ∧ _›; (with_reducible refine (hG2 _ (r2.below (stp HBr (stp B8 hh.1)))).mono ?_); rintro e w9 ⟨rfl, HB6⟩; have QBu := stp hh.1 HB6; try (have kH := (HB6.block _ (blk_lt (heap_alloc_new _ (.cells #[.string ⟨#[]⟩, .int .i64 0, .int .i64 0, .string ⟨#[]⟩] 43)))).trans (heap_alloc_new _ (.cells #[.string ⟨#[]⟩, .int .i64 0, .int .i64 0, .string ⟨#[]⟩] 43)); have k0 := blk_cell kH 0; have k1 := blk_cell kH 1; have k2 := blk_cell kH 2; have k3 := blk_cell kH 3; have z0 := blk_frozen kH 0; have z1 := blk_frozen kH 1; have z2 := blk_frozen kH 2; have z3 := blk_frozen kH 3)))
          all_goals (
            first
            | (have E9 : Eb (w9.alloc (.cells #[.string xk, .int .i64 xq, .int .i64 xd, .string xv] 43)) w9.heap.size (xk, xq, xd, xv) := Eb.new w9 (xk, xq, xd, xv); have B9 := stp QBu (below_alloc w9 (.cells #[.string xk, .int .i64 xq, .int .i64 xd, .string xv] 43)); obtain ⟨g2, hG7⟩ : ∃ g2, g2 = w9.heap.size := ⟨_, rfl⟩; rw [← hG7] at E9; simp only [← hG7]; generalize w9.alloc (.cells #[.string xk, .int .i64 xq, .int .i64 xd, .string xv] 43) = W9 at E9 B9 ⊢; clear hG7)
            | (have E9 := blk_set (blk_set (blk_set (blk_set kH 0 (.string xk)) 1 (.int .i64 xq)) 2 (.int .i64 xd)) 3 (.string xv); have B9 := ((((QBu.setCell (p := ⟨W8.heap.size, 0, none⟩) (Nat.le_refl _) (.string xk)).setCell (p := ⟨W8.heap.size, 1, none⟩) (Nat.le_refl _) (.int .i64 xq)).setCell (p := ⟨W8.heap.size, 2, none⟩) (Nat.le_refl _) (.int .i64 xd)).setCell (p := ⟨W8.heap.size, 3, none⟩) (Nat.le_refl _) (.string xv)); have E9 : Eb _ _ (xk, xq, xd, xv) := E9; generalize World.setCell (World.setCell (World.setCell (World.setCell w9 _ _) _ _) _ _) _ _ = W9 at E9 B9 ⊢; obtain ⟨g2, hG7⟩ : ∃ g2, g2 = W8.heap.size := ⟨_, rfl⟩; rw [← hG7] at E9; simp only [← hG7]; clear hG7)
            clear hSk8 hS08 hG2 hw2
            by_cases hl1 : k + 1 < m
            · obtain ⟨q, hq⟩ : ∃ q, m - 1 = q := ⟨_, rfl⟩
              have hkm : wrap64 ((m : Int) - 1) = (q : Int) := by unfold wrap64; omega
              have hkm2 : IntKind.i64.wrap ((m : Int) - 1) = (q : Int) := by rw [IntKind.wrap_i64]; omega
              have hkq : ¬ (k : Int) = (q : Int) := by omega
              have hkqn : ¬ k = q := by omega
              have hkqb : ((k : Int) == (q : Int)) = false := beq_eq_false_iff_ne.2 hkq
              obtain ⟨⟨tk, tq, td, tv⟩, ht⟩ : ∃ y, L.getD (k + 1) zEnt = y := ⟨_, rfl⟩
              obtain ⟨ad2, had, u0, u1, u2, u3⟩ := RdE.at4 (rL.below (stp HCr (stp B8 B9))) (k + 1) (by rw [HLL.out]; exact hl1)
              have hwk : wrap64 ((k : Int) + 1) = ((k + 1 : Nat) : Int) := HWK.out
              have hwk2 : IntKind.i64.wrap ((k : Int) + 1) = ((k + 1 : Nat) : Int) := HWK2.out
              have hl1i : ((k + 1 : Nat) : Int) < (m : Int) := Int.ofNat_lt.2 hl1
              obtain ⟨k1, hk1⟩ : ∃ k1, k + 1 = k1 := ⟨_, rfl⟩
              have HK1 := hide hk1
              injection had with had
              subst had
              rw [ht] at u0 u1 u2 u3
              rw [hk1] at u0 u1 u2 u3 hwk hwk2 hl1i
              simp only at u0 u1 u2 u3
              have y9 := (B9.cell (World.block_lt_of_cell? _ _ v80)).trans v80
              have hd9 : Below W9.heap.size W9 W9.drew := (Below.refl _ _).drew
              have hS14 : W9.drew.cell? (ad.add (k * 4)) = some (.string yk) ∧ W9.drew.cell? (ad.add (k1 * 4)) = some (.string tk) := ⟨y9, u0⟩
              clear hq
              by_cases hkk : tk = yk
              · have hp := HP2.out hl1 (by rw [ht]; exact hkk)
                rw [ht] at hp
                rw [hp] at hy2
                obtain ⟨rfl, rfl, rfl, rfl, rfl⟩ : tk = xk ∧ tq = xq ∧ td = xd ∧ tv = xv ∧ true = fb := by
                  have h1 := congrArg Prod.fst hy2
                  have h2 := congrArg Prod.snd hy2
                  exact ⟨congrArg Prod.fst h1, congrArg (fun x => x.2.1) h1, congrArg (fun x => x.2.2.1) h1, congrArg (fun x => x.2.2.2) h1, h2⟩
                clear hy2 hp ht
                subst hkk
                have hse : (tk.toList == tk.toList) = true := by simp
                have hse2 : (tv.toList == tv.toList) = true := by simp
                have hEq := fun d W => PB.eqA43 d W tk tk tq tq td td tv tv
                obtain ⟨t0, t1, t2, t3, -, -, -, -⟩ := E9.read
                have hS15 : W9.drew.drew.cell? (ad.add (k1 * 4)) = some (.string tk) ∧ W9.drew.drew.cell? ⟨(ad.add (k1 * 4)).block, (ad.add (k1 * 4)).off + 1, none⟩ = some (.int .i64 tq) ∧ W9.drew.drew.cell? ⟨(ad.add (k1 * 4)).block, (ad.add (k1 * 4)).off + 2, none⟩ = some (.int .i64 td) ∧ W9.drew.drew.cell? ⟨(ad.add (k1 * 4)).block, (ad.add (k1 * 4)).off + 3, none⟩ = some (.string tv) ∧ W9.drew.drew.cell? ⟨g2, 0, none⟩ = some (.string tk) ∧ W9.drew.drew.cell? ⟨g2, 1, none⟩ = some (.int .i64 tq) ∧ W9.drew.drew.cell? ⟨g2, 2, none⟩ = some (.int .i64 td) ∧ W9.drew.drew.cell? ⟨g2, 3, none⟩ = some (.string tv) := ⟨u0, u1, u2, u3, t0, t1, t2, t3⟩
                clear hl1 hk1
                go_wp2
                go_region_held3 (fun Y => Y.cell? (ad.add (k * 4)) = some (.string tk) ∧ Y.cell? (ad.add (k1 * 4)) = some (.string tk)) (first | exact hS14 | assumption) (first | (go_at_call 18; refine (num_any _ _).mono ?_; rintro e w' ⟨rfl, rfl⟩))
                go_wp2
                go_region_held3 (fun Y => Y.cell? (ad.add (k1 * 4)) = some (.string tk) ∧ Y.cell? ⟨(ad.add (k1 * 4)).block, (ad.add (k1 * 4)).off + 1, none⟩ = some (.int .i64 tq) ∧ Y.cell? ⟨(ad.add (k1 * 4)).block, (ad.add (k1 * 4)).off + 2, none⟩ = some (.int .i64 td) ∧ Y.cell? ⟨(ad.add (k1 * 4)).block, (ad.add (k1 * 4)).off + 3, none⟩ = some (.string tv) ∧ Y.cell? ⟨g2, 0, none⟩ = some (.string tk) ∧ Y.cell? ⟨g2, 1, none⟩ = some (.int .i64 tq) ∧ Y.cell? ⟨g2, 2, none⟩ = some (.int .i64 td) ∧ Y.cell? ⟨g2, 3, none⟩ = some (.string tv)) (first | exact hS15 | assumption) (first | (go_at_call 18; refine (num_any _ _).mono ?_; rintro e w' ⟨rfl, rfl⟩))
                clear hwk hwk2
                go_wp2
                go_roundw
                case rel => exact ⟨k + 1, hlt, by go_num, stp HBr (stp B8 (stp B9 (stp hd9 (Below.refl _ _).drew)))⟩
                case measure => first | exact gt_meas m k hlt HWK.out | exact gt_meas2 m k hlt | exact gt_meas3 m k hlt | trace_state
              · have hp := HP3.out (fun _ => by rw [ht]; exact hkk)
                rw [hp] at hy2
                obtain ⟨rfl, rfl, rfl, rfl, rfl⟩ : (⟨#[]⟩ : ByteArray) = xk ∧ (0 : Int) = xq ∧ (0 : Int) = xd ∧ (⟨#[]⟩ : ByteArray) = xv ∧ false = fb := by
                  have h1 := congrArg Prod.fst hy2
                  have h2 := congrArg Prod.snd hy2
                  exact ⟨congrArg Prod.fst h1, congrArg (fun x => x.2.1) h1, congrArg (fun x => x.2.2.1) h1, congrArg (fun x => x.2.2.2) h1, h2⟩
                clear hy2 hp
                have hse : (tk.toList == yk.toList) = false := by rw [same_bl]; exact decide_eq_false (fun e => hkk (bl_inj e))
                clear ht hkk hl1 hk1
                go_wp2
                go_region_held3 (fun Y => Y.cell? (ad.add (k * 4)) = some (.string yk) ∧ Y.cell? (ad.add (k1 * 4)) = some (.string tk)) (first | exact hS14 | assumption) (first | (go_at_call 18; refine (num_any _ _).mono ?_; rintro e w' ⟨rfl, rfl⟩))
                clear hwk hwk2
                go_wp2
                refine wp_region_below W9.drew.heap.size W9.drew (Below.refl _ _) (by kernel_rfl) (by kernel_rfl) ?_
                repeat (go_big_quiet_step ((intro hb; first | rfl | (refine (num_any _ _).mono ?_; rintro e w7 ⟨rfl, rfl⟩; exact ⟨rfl, hb⟩))))
                refine wpQuiet_nil ?_
                intro WB HB
                go_wp2
                go_roundw
                case rel => exact ⟨k + 1, hlt, by go_num, stp HBr (stp B8 (stp B9 (stp hd9 HB)))⟩
                case measure => first | exact gt_meas m k hlt HWK.out | exact gt_meas2 m k hlt | exact gt_meas3 m k hlt | trace_state
            · have hp := HP3.out (fun h => absurd h hl1)
              rw [hp] at hy2
              obtain ⟨rfl, rfl, rfl, rfl, rfl⟩ : (⟨#[]⟩ : ByteArray) = xk ∧ (0 : Int) = xq ∧ (0 : Int) = xd ∧ (⟨#[]⟩ : ByteArray) = xv ∧ false = fb := by
                have h1 := congrArg Prod.fst hy2
                have h2 := congrArg Prod.snd hy2
                exact ⟨congrArg Prod.fst h1, congrArg (fun x => x.2.1) h1, congrArg (fun x => x.2.2.1) h1, congrArg (fun x => x.2.2.2) h1, h2⟩
              clear hy2 hp
              have hkm : wrap64 ((m : Int) - 1) = (k : Int) := by unfold wrap64; omega
              have hkm2 : IntKind.i64.wrap ((m : Int) - 1) = (k : Int) := by rw [IntKind.wrap_i64]; omega
              clear hl1
              go_wp2
              refine wp_region_below W9.heap.size W9 (Below.refl _ _) (by kernel_rfl) (by kernel_rfl) ?_
              repeat (go_big_quiet_step ((intro hb; first | rfl | (refine (num_any _ _).mono ?_; rintro e w7 ⟨rfl, rfl⟩; exact ⟨rfl, hb⟩))))
              refine wpQuiet_nil ?_
              intro WA HA
              go_wp2
              refine wp_region_below WA.heap.size WA (Below.refl _ _) (by kernel_rfl) (by kernel_rfl) ?_
              repeat (go_big_quiet_step ((intro hb; first | rfl | (refine (num_any _ _).mono ?_; rintro e w7 ⟨rfl, rfl⟩; exact ⟨rfl, hb⟩))))
              refine wpQuiet_nil ?_
              intro WB HB
              go_wp2
              go_roundw
              case rel => exact ⟨k + 1, hlt, by go_num, stp HBr (stp B8 (stp B9 (stp HA HB)))⟩
              case measure => first | exact gt_meas m k hlt HWK.out | exact gt_meas2 m k hlt | exact gt_meas3 m k hlt | trace_state))
      · obtain rfl : k = m := Nat.le_antisymm hk (Nat.not_lt.1 hlt)
        clear hE hsl hmin hG hP1 hP2 hP3 hKey
        go_wp2
        go_ret
        exact ⟨rfl, HCr⟩
  · have hx : tabX L = [] := by rw [tabX, if_neg h0]
    rw [hx] at hE hnx
    obtain rfl : nx = 0 := hnx.symm
    generalize tabE L = E at *
    clear hx hnx
    go_enter Try.func6, Try.ntmps6
    go_wp2_with (first | (go_at_call 21; refine (alive_any _).mono ?_; rintro e w1 ⟨rfl, HB1⟩) | (go_at_call 18; refine (num_any _ _).mono ?_; rintro e w' ⟨rfl, rfl⟩) | (go_at_call 11; (with_reducible refine (hE _ (rL.below HB1)).mono ?_); rintro e w2 ⟨v2, rfl, O2, HB2⟩; obtain ⟨A2, c2, hv2, r2⟩ := O2.rd; replace hv2 : v2 = .slice A2 0 c2 := hv2; subst hv2))
    go_ret
    exact ⟨rfl, stp HB1 HB2⟩
end Go.Proofs.Ytefcepjffeiaoaa
end
