/- What the law PickTells reaches besides, and its walk. -/
import Derived.Test.YtbhhnlgpbhbcmaaMgPickTellsa
import Derived.Deep.RegionLaw
import Derived.Test.YtbhhnlgpbhbcmaaPEx
set_option linter.unusedVariables false
set_option linter.unusedSimpArgs false
section
/- The reference's choice of what is merged next. -/
namespace Go.Proofs.Ytbhhnlgpbhbcmaa
open Go.RowKit Go.Proofs.YtbhhnlgpbhbcmaaW.PrintWords
set_option linter.unusedVariables false

section
variable {ops : Array Oper} {o : Oper} {a : Act} {Q : Exit → Act → World → Prop} {K : Act → World → Prop}
theorem step_int {w0 W : World} (base : Nat) (hw : Region.wanted o (yielded ops a.tmps) = true) (s x : Operand)
    (ho : o.op = .call { callee := .builtin .append, args := #[s, x], argTypes := #[26, 26] })
    (v : Value) (xs : List Int) (c : Int) (hs : a.eval s = v) (hx : a.eval x = .slice (some ⟨W.heap.size, 0, none⟩) 1 1)
    (HO : Ow kInt 3 W base v xs) (HB : Below base w0 W) (hbase : base ≤ W.heap.size) (hl : (xs.length + 1) * 8 ≤ 140737488355328)
    (h : ∀ v1 w1, Ow kInt 3 w1 base v1 (xs ++ [c]) → Below base w0 w1 → W.grownBy w1 v.ownBlock → K (a.put o.dst v1) w1) :
    if Region.wanted o (yielded ops a.tmps) = true then Oper.wp Try.prog o a (W.alloc (.cells #[.int .i64 c] 3)) K Q else K (a.put o.dst undef) (W.alloc (.cells #[.int .i64 c] 3)) :=
  Kd.R_append_step (P := Try.prog) kInt base hw s x 26 3 _ 8 ho Try.underlying26 info_int rfl (by decide) (by decide) v xs c [.int .i64 c] (fun _ => True) (fun _ => False) hs hx rfl (fun _ h => h.elim) (fun _ _ => trivial) HO HB hbase hl (fun v1 w1 h1 h2 h3 _ => h v1 w1 h1 h2 h3)
end
/-- a plan of the reference's, in a variable -/
def Pr (W : World) (g : Nat) (lv : Int) (v : Value) (b : Bool) : Prop := W.heap[g]? = some (.cells #[.int .i64 lv, v, .bool b] 46 (0, 0))
theorem Pr.read {W : World} {g : Nat} {lv : Int} {v : Value} {b : Bool} (h : Pr W g lv v b) : W.cell? ⟨g, 0, none⟩ = some (.int .i64 lv) ∧ W.cell? ⟨g, 1, none⟩ = some v ∧ W.cell? ⟨g, 2, none⟩ = some (.bool b) ∧ W.frozen? ⟨g, 0, none⟩ = false ∧ W.frozen? ⟨g, 1, none⟩ = false ∧ W.frozen? ⟨g, 2, none⟩ = false :=
  ⟨blk_cell h 0, blk_cell h 1, blk_cell h 2, blk_frozen h 0, blk_frozen h 1, blk_frozen h 2⟩
theorem Pr.below {W W' : World} {g : Nat} {lv : Int} {v : Value} {b : Bool} (h : Pr W g lv v b) (hb : Below W.heap.size W W') : Pr W' g lv v b := blk_below h hb
theorem Pr.bot {W : World} {g : Nat} {lv : Int} {v : Value} {b : Bool} (h : Pr W g lv v b) (b2 : Bool) : Pr (W.setCell ⟨g, 2, none⟩ (.bool b2)) g lv v b2 := blk_set h 2 (.bool b2)
theorem Pr.inp {W : World} {g : Nat} {lv : Int} {v : Value} {b : Bool} (h : Pr W g lv v b) (v2 : Value) : Pr (W.setCell ⟨g, 1, none⟩ v2) g lv v2 b := blk_set h 1 v2
theorem Pr.far {W : World} {g : Nat} {lv : Int} {v : Value} {b : Bool} (h : Pr W g lv v b) {b2 j : Nat} (hne : g ≠ b2) (u : Value) : Pr (W.setCell ⟨b2, j, none⟩ u) g lv v b := blk_far h (p := ⟨b2, j, none⟩) hne u
theorem rbox (w : World) (A : Option Addr) (n c : Nat) (seq nx : Int) : Below w.heap.size w ((w.alloc (verR A n c seq nx)).alloc (.cells #[.int .i64 0, .slice none 0 0, .bool false] 46)) ∧ Tr ((w.alloc (verR A n c seq nx)).alloc (.cells #[.int .i64 0, .slice none 0 0, .bool false] 46)) w.heap.size A n c seq nx ∧ Pr ((w.alloc (verR A n c seq nx)).alloc (.cells #[.int .i64 0, .slice none 0 0, .bool false] 46)) (w.heap.size + 1) 0 (.slice none 0 0) false := by
  have b1 := below_alloc w (verR A n c seq nx)
  have b2 := below_alloc (w.alloc (verR A n c seq nx)) (.cells #[.int .i64 0, .slice none 0 0, .bool false] 46)
  have T : Tr (w.alloc (verR A n c seq nx)) w.heap.size A n c seq nx := heap_alloc_new w (verR A n c seq nx)
  have s1 : (w.alloc (verR A n c seq nx)).heap.size = w.heap.size + 1 := World.size_alloc _ _
  have P := heap_alloc_new (w.alloc (verR A n c seq nx)) (.cells #[.int .i64 0, .slice none 0 0, .bool false] 46)
  rw [s1] at P
  exact ⟨stq b1 b2, T.below b2, P⟩
abbrev plo (lv : Int) (v : Value) (b : Bool) : Obj := .cells #[.int .i64 lv, v, .bool b] 46
theorem min_min (a b : ByteArray) : minS (minS a b) b = minS a b := by
  have h := min_r a b
  rw [minS, if_pos h]
theorem max_max (a b : ByteArray) : maxS (maxS a b) b = maxS a b := by
  have h := max_r a b
  rw [maxS, if_pos h]
theorem RdM.same {w W : World} {A : Option Addr} {c : Nat} {xs : List Met} (h : RdM w A c xs) (hs : ∀ ad, A = some ad → 0 < xs.length → W.heap[ad.block]? = w.heap[ad.block]?) : RdM W A c xs := by
  refine ⟨h.1, h.2.1, h.2.2.1, fun hp => ?_⟩
  obtain ⟨ad, e, hc⟩ := h.2.2.2 hp
  refine ⟨ad, e, fun j x hx => ?_⟩
  obtain ⟨cs, h1, h2, h3⟩ := hc j x hx
  have hcs := kMet_K h2
  refine ⟨cs, h1, by rw [hcs]; exact kMet_mk _ _, fun i u hu => (World.cell?_of_block ?_).trans (h3 i u hu)⟩
  have hb : (ad.add (j * kMet.sz + i)).block = ad.block := by unfold Addr.add; split <;> rfl
  rw [hb]
  exact hs ad e hp
/-- all blocks of w2's but gn's lie as they lay; none of w's is turned -/
structure Kp (w w2 : World) (gn : Nat) (W : World) : Prop where
  below : Below w.heap.size w W
  size : w2.heap.size ≤ W.heap.size
  block : ∀ j, j < w2.heap.size → j ≠ gn → W.heap[j]? = w2.heap[j]?
theorem Kp.start {w w2 : World} {gn : Nat} (h : Below w.heap.size w w2) : Kp w w2 gn w2.drew := ⟨h.drew, Nat.le_refl _, fun _ _ _ => rfl⟩
theorem Kp.step {w w2 W W1 : World} {gn : Nat} (h : Kp w w2 gn W) (hw : w.heap.size ≤ w2.heap.size) (hb : Below w2.heap.size W W1) : Kp w w2 gn W1 := ⟨h.below.trans (hb.mono hw), Nat.le_trans h.size hb.size, fun j hj hne => (hb.block j hj).trans (h.block j hj hne)⟩
theorem Kp.set {w w2 W : World} {gn : Nat} (h : Kp w w2 gn W) (hg : w.heap.size ≤ gn) (j : Nat) (v : Value) : Kp w w2 gn (W.setCell ⟨gn, j, none⟩ v) := by
  refine ⟨h.below.setCell (p := ⟨gn, j, none⟩) hg v, ?_, fun i hi hne => ?_⟩
  · have := (Below.refl 0 W).setCell (p := ⟨gn, j, none⟩) (Nat.zero_le _) v
    exact Nat.le_trans h.size this.size
  · exact (Below.heap_setCell W ⟨gn, j, none⟩ v i (by simpa using hne)).trans (h.block i hi hne)
theorem RdI.same {w W : World} {A : Option Addr} {c : Nat} {xs : List Int} (h : RdI w A c xs) (hs : ∀ ad, A = some ad → 0 < xs.length → W.heap[ad.block]? = w.heap[ad.block]?) : RdI W A c xs := by
  refine ⟨h.1, h.2.1, h.2.2.1, fun hp => ?_⟩
  obtain ⟨ad, e, hc⟩ := h.2.2.2 hp
  refine ⟨ad, e, fun j x hx => ?_⟩
  obtain ⟨cs, h1, h2, h3⟩ := hc j x hx
  refine ⟨cs, h1, h2, fun i u hu => (World.cell?_of_block ?_).trans (h3 i u hu)⟩
  have hb : (ad.add (j * kInt.sz + i)).block = ad.block := by unfold Addr.add; split <;> rfl
  rw [hb]
  exact hs ad e hp
theorem sum512 (a b : Nat) (ha : a ≤ 256) (hb : b ≤ 256) : a + b ≤ 17592186044416 := by omega
theorem lvr_w (lv : Nat) (h : lv ≤ 2) : wrap64 ((lv : Int) + 1) = (lv : Int) + 1 ∧ IntKind.i64.wrap ((lv : Int) + 1) = (lv : Int) + 1 ∧ wrap64 ((lv : Int) + 2) = (lv : Int) + 2 ∧ IntKind.i64.wrap ((lv : Int) + 2) = (lv : Int) + 2 := ⟨by unfold wrap64; omega, by rw [IntKind.wrap_i64]; omega, by unfold wrap64; omega, by rw [IntKind.wrap_i64]; omega⟩
/-- a row of another call's lies where it lay when an elder row grows -/
theorem RdI.elder {W0 w W : World} {A : Option Addr} {n c : Nat} {xs ys : List Int} {base : Nat} {v : Value} (h : OwI w W0.heap.size (.slice A n c) xs) (HO : OwI W0 base v ys) (hg : w.grownBy W v.ownBlock) : RdI W A c xs := by
  refine RdI.same (Ow.rdl h) fun ad e hp => ?_
  have hl := h.len
  obtain ⟨g, e2, h1, h2⟩ := Ow.head h (by omega)
  rw [e] at e2
  injection e2 with e2
  subst e2
  refine hg.block g h2 fun e3 => ?_
  have := HO.lt g e3.symm
  omega
theorem RdI.far {w W0 : World} {A : Option Addr} {n c : Nat} {xs : List Int} {base gn : Nat} (h : OwI W0 base (.slice A n c) xs) (hb : gn < base) (r : RdI w A c xs) (j : Nat) (v : Value) : RdI (w.setCell ⟨gn, j, none⟩ v) A c xs := by
  refine RdI.same r fun ad e hp => ?_
  have hl := h.len
  obtain ⟨g, e2, h1, h2⟩ := Ow.head h (by omega)
  rw [e] at e2
  injection e2 with e2
  subst e2
  exact Below.heap_setCell w ⟨gn, j, none⟩ v g (by show g ≠ gn; omega)
theorem Kp.tr {w w2 W : World} {gn g : Nat} {A : Option Addr} {n c : Nat} {seq nx : Int} (h : Kp w w2 gn W) (hne : g ≠ gn) (T : Tr w2 g A n c seq nx) : Tr W g A n c seq nx := (h.block g (blk_lt T) hne).trans T
theorem Kp.pr {w w2 W : World} {gn g : Nat} {lv : Int} {v : Value} {b : Bool} (h : Kp w w2 gn W) (hne : g ≠ gn) (T : Pr w2 g lv v b) : Pr W g lv v b := (h.block g (blk_lt T) hne).trans T
theorem Pr.low {W W1 : World} {g b : Nat} {lv : Int} {v : Value} {t : Bool} (h : Pr W g lv v t) (hb : Below b W W1) (hg : g < b) : Pr W1 g lv v t := (hb.block g hg).trans h
theorem Kp.rd {w w2 W : World} {gn : Nat} {ad : Addr} {c : Nat} {L : List Met} (h : Kp w w2 gn W) (h1 : ad.block < w2.heap.size) (h2 : ad.block ≠ gn) (r : RdM w2 (some ad) c L) : RdM W (some ad) c L := r.same (fun a e _ => by cases e; exact h.block _ h1 h2)
theorem lvj_w (lv j : Nat) (h : lv ≤ 2) (hj : j ≤ 2) : wrap64 ((j : Int) + ((lv : Int) + 2) + 1) = ((j + 1 : Nat) : Int) + ((lv : Int) + 2) ∧ IntKind.i64.wrap ((j : Int) + ((lv : Int) + 2) + 1) = ((j + 1 : Nat) : Int) + ((lv : Int) + 2) := ⟨by unfold wrap64; omega, by rw [IntKind.wrap_i64]; omega⟩
theorem lvj_m (lv j : Nat) (z z2 : Int) (h : lv ≤ 2) (hj : j < 2 - lv) (hz : (j : Int) + ((lv : Int) + 2) = z) (hz2 : z2 = ((j + 1 : Nat) : Int) + ((lv : Int) + 2)) : 5 - (intOf (.int .i64 z2)).toNat < 5 - (intOf (.int .i64 z)).toNat := by
  show 5 - z2.toNat < 5 - z.toNat
  omega
theorem lvj_le (lv j : Nat) (z : Int) (h : lv ≤ 2) (hz : (j : Int) + ((lv : Int) + 2) = z) : (j < 2 - lv → z ≤ 3) ∧ (¬ j < 2 - lv → 3 < z) := by omega
theorem first_head (lv : Nat) (l : List Met) (h : firstF lv l) : ∃ t, fullsK l 3 = (lv : Int) :: t := by
  obtain ⟨h1, h2, h3⟩ := h
  rcases first_cases l with ⟨-, hn⟩ | ⟨t, h0, e⟩ | ⟨t, h0, h1', e⟩ | ⟨t, h0, h1', h2', e⟩
  · have := hn lv (by omega); rw [this] at h2; cases h2
  · have : lv = 0 := by
      apply Decidable.byContradiction
      intro hne
      have := h3 0 (by omega); rw [this] at h0; cases h0
    subst this; exact ⟨t, e⟩
  · have : lv = 1 := by
      have : lv ≠ 0 := by rintro rfl; rw [h2] at h0; cases h0
      apply Decidable.byContradiction
      intro hne
      have := h3 1 (by omega); rw [this] at h1'; cases h1'
    subst this; exact ⟨t, e⟩
  · have : lv = 2 := by
      have : lv ≠ 0 := by rintro rfl; rw [h2] at h0; cases h0
      have : lv ≠ 1 := by rintro rfl; rw [h2] at h1'; cases h1'
      omega
    subst this; exact ⟨t, e⟩
/-- a span with a table, if it is one of those below -/
def wiS (D : List Int) (s : ByteArray × ByteArray) (x : Met) : ByteArray × ByteArray := if x.1 ∈ D then (minS s.1 x.2.2.2.1, maxS s.2 x.2.2.2.2) else s
theorem wiS_next (D : List Int) (s : ByteArray × ByteArray) (x : Met) (k : Nat) (h : k < D.length) : wiS (D.take (k + 1)) s x = if x.1 = D.getD k 0 then (minS (wiS (D.take k) s x).1 x.2.2.2.1, maxS (wiS (D.take k) s x).2 x.2.2.2.2) else wiS (D.take k) s x := by
  have e : D.take (k + 1) = D.take k ++ [D.getD k 0] := by
    rw [List.take_add_one, List.getElem?_eq_getElem h, List.getD_eq_getElem?_getD, List.getElem?_eq_getElem h]; rfl
  unfold wiS
  rw [e]
  by_cases h1 : x.1 ∈ D.take k
  · rw [if_pos (List.mem_append_left _ h1), if_pos h1]
    split
    · rw [min_min, max_max]
    · rfl
  · rw [if_neg h1]
    by_cases h2 : x.1 = D.getD k 0
    · rw [if_pos h2, if_pos (by rw [h2]; simp)]
    · rw [if_neg h2, if_neg (by simp only [List.mem_append, List.mem_singleton, not_or]; exact ⟨h1, h2⟩)]
theorem wiS_zero (D : List Int) (s : ByteArray × ByteArray) (x : Met) : wiS (D.take 0) s x = s := by
  unfold wiS; rw [if_neg (by simp)]
def spW (D : List Int) (s : ByteArray × ByteArray) (N : List Met) : ByteArray × ByteArray := N.foldl (wiS D) s
theorem spW_next (D : List Int) (s : ByteArray × ByteArray) (N : List Met) (k : Nat) (h : k < N.length) : spW D s (N.take (k + 1)) = wiS D (spW D s (N.take k)) (N.getD k zMet) := by
  unfold spW
  rw [take_next N k h, List.foldl_append]
  rfl
theorem spW_filter (D : List Int) (N : List Met) : ∀ s, spW D s N = spM s (N.filter (fun x => decide (x.1 ∈ D))) := by
  induction N with
  | nil => intro s; rfl
  | cons x N ih =>
    intro s
    show spW D (wiS D s x) N = _
    rw [ih]
    unfold wiS
    by_cases h : x.1 ∈ D
    · rw [if_pos h, List.filter_cons_of_pos (p := fun x : Met => decide (x.1 ∈ D)) (by simpa using h)]; rfl
    · rw [if_neg h, List.filter_cons_of_neg (p := fun x : Met => decide (x.1 ∈ D)) (by simpa using h)]
theorem bel_filter (l : List Met) (seq nx : Int) (hz : chkM l seq nx = 0) (a b : ByteArray) (lv : Int) : (atM lv l).filter (fun x => decide (x.1 ∈ idsM (toM a b (atM lv l)))) = toM a b (atM lv l) := by
  refine List.filter_congr fun x hx => ?_
  by_cases h : touchM a b x = true
  · rw [h]; exact decide_eq_true (List.mem_map.2 ⟨x, (toM_mem _ _ _ _).2 ⟨hx, h⟩, rfl⟩)
  · rw [Bool.not_eq_true] at h
    rw [h]
    refine decide_eq_false fun hm => ?_
    obtain ⟨y, hy, e⟩ := List.mem_map.1 hm
    obtain ⟨hy1, hy2⟩ := (toM_mem _ _ _ _).1 hy
    have := ids_one l seq nx hz y x (List.mem_filter.1 hy1).1 (List.mem_filter.1 hx).1 e
    rw [this, h] at hy2
    cases hy2
theorem idsT_next (L : List Met) (k : Nat) (h : k < L.length) : idsM (L.take (k + 1)) = idsM (L.take k) ++ [(L.getD k zMet).1] := by
  rw [take_next L k h, idsM, idsM, List.map_append]; rfl
set_option maxRecDepth 100000 in
set_option maxHeartbeats 6400000 in
theorem rChoose_at (lv : Nat) (A : Option Addr) (c n : Nat) (seq nx : Int) (l : List Met) (w : World) (hn : l.length = n) (hr : RdM w A c l) (hl : l.length * 56 ≤ 140737488351232) (hz : chkM l seq nx = 0) (hf : firstF lv l) :
    Calls Try.prog 16 #[verV A n c seq nx] w fun e w' => ∃ v, e = .returned (.tuple #[plV (lv : Int) v (botP lv l (topL lv l)), .bool true, .int .i64 0]) ∧ OwI w' w.heap.size v (inpG (lv : Int) l (topL lv l)) ∧ Below w.heap.size w w' := by
  obtain ⟨B0, T0, P0⟩ := rbox w A n c seq nx
  obtain ⟨t0, t1, t2⟩ := T0.read
  have hFl := fun W (h : RdM W A c l) => rFull_any A c n seq nx l W hn h hl
  simp only [hz, ne_eq, not_true, false_and, false_or, true_and] at hFl
  have hCh := fun W (h : RdM W A c l) => rchosen_any lv A c n seq nx l W hn h hz hf
  have hTo := fun a b lv W (h : RdM W A c l) => rTouch_any a b A c n seq nx lv l W hn h hl
  simp only [hz, ne_eq, not_true, false_and, false_or, true_and] at hTo
  have hAt := fun lv W (h : RdM W A c l) => rat_any A c n seq nx lv l W hn h hz
  obtain ⟨tl, htl⟩ := first_head lv l hf
  have hfl := fullsK_len l 3
  rw [htl] at hFl hfl
  have r0 := hr.below B0
  have hpos : 0 < (topL lv l).length := by
    cases lv with
    | zero => exact full_pos 0 (by decide) l hf.2.1
    | succ k => exact Nat.one_pos
  have htl256 := topL_len lv l hf (chk_facts l seq nx hz).1
  have h256 : ∀ lv, (atM lv l).length ≤ 256 := fun lv => Nat.le_trans (atM_len lv l) (chk_facts l seq nx hz).1
  have hlv2 := hf.1
  obtain ⟨gp, hgp⟩ : ∃ g, g = w.heap.size := ⟨_, rfl⟩
  have HG := hide hgp
  have HRR := hide hr
  have HZZ := hide hz
  clear hn hl hr htl hz hf hgp
  go_enter Try.func16, Try.ntmps16
  go_wp2_with (first | (go_at_call 15; (with_reducible refine (hFl _ r0).mono ?_); rintro e w1 ⟨⟨v1, rfl, O1⟩, HB1⟩; obtain ⟨A1, c1, hv1, ri1⟩ := O1.rd; rw [List.length_cons] at hv1 hfl; obtain ⟨ad1, hA1, y1⟩ := ri1.int_at 0 (Nat.succ_pos _); subst hA1; obtain ⟨z1, hz1⟩ : ∃ z, tl.length + 1 = z := ⟨_, rfl⟩; rw [hz1] at hv1 hfl; subst hv1; have hz1i : (0 : Int) < (z1 : Int) := (by omega); have hz1n : 0 < z1 := (by omega); have hz1e : ((z1 : Int) == 0) = false := beq_eq_false_iff_ne.2 (by omega); have hz1f : ¬ (z1 : Int) = 0 := (by omega); have hz1g : ¬ z1 = 0 := (by omega); have C1 := stq B0 HB1; have bp := below_alloc w1 (plo lv (.slice none 0 0) true); have T1 := (T0.below HB1).below bp; have P1 := (P0.below HB1).below bp; have r1 := (r0.below HB1).below bp; obtain ⟨t10, t11, t12⟩ := T1.read; rw [List.getD_cons_zero, add_zero_] at y1; have N1 : Pr (w1.alloc (plo lv (.slice none 0 0) true)) w1.heap.size lv (.slice none 0 0) true := heap_alloc_new _ _; obtain ⟨n10, n11, n12, n13, n14, n15⟩ := N1.read) | (go_at_call 36; (with_reducible refine (hCh _ r1).mono ?_); rintro e w2 ⟨ad2, m, c2, rfl, hm2, rL, hf2, HB2⟩; have CP := stq C1 bp; have C2 := stq CP HB2; have T2 := T1.below HB2; have P2 := P1.below HB2; have N2 := N1.below HB2; have r2 := r1.below HB2))
  have hgn : w.heap.size ≤ w1.heap.size := C1.size
  have hgn2 := HB1.size
  rw [World.size_alloc, World.size_alloc] at hgn2
  rw [hm2] at hpos htl256
  obtain ⟨ad', e', -, -, -, a3, a4⟩ := RdM.at5 rL 0 (by rw [hm2]; exact hpos)
  injection e' with e'
  subst e'
  rw [World.size_alloc] at hf2
  rw [Nat.zero_mul, add_zero_] at a3 a4
  clear hCh hFl ri1 O1 y1 n10 n11 n12 n13 n14 n15 t10 t11 t12 t0 t1 t2 N1 T1 P1 r1 r0 T0 P0
  generalize w1.heap.size = gn at *
  generalize hLL : topL lv l = L at *
  have HLL := hide hLL
  clear hLL
  obtain ⟨x0, hx0⟩ : ∃ y, L.getD 0 zMet = y := ⟨_, rfl⟩
  rw [hx0] at a3 a4
  have hposi : (0 : Int) < (m : Int) := by omega
  go_still (by kernel_rfl)
  change Exit.then _ _ _ _ w2.drew
  go_wp2
  have hgw : w.heap.size ≤ gn := hgn
  have hg2 : gn < w2.heap.size := blk_lt N2
  have hgw2 : w.heap.size ≤ w2.heap.size := C2.size
  have hgne : w.heap.size ≠ gn ∧ w.heap.size + 1 ≠ gn := by
    have h2 : w.heap.size + 1 + 1 ≤ gn := hgn2
    exact ⟨by omega, by omega⟩
  have K0 : Kp w w2 gn w2.drew := Kp.start C2
  have S0 : Hid (topS L = spM (x0.2.2.2.1, x0.2.2.2.2) L) := hide (by rw [topS, hx0])
  have HM := hide hm2
  clear hx0 hm2
  go_loopw [9, 10, 11] (fun lo hi iv wr => ∃ (k : Nat) (v : Value), k ≤ m ∧ iv = .int .i64 (k : Int) ∧ lo = .string (spM (x0.2.2.2.1, x0.2.2.2.2) (L.take k)).1 ∧ hi = .string (spM (x0.2.2.2.1, x0.2.2.2.2) (L.take k)).2 ∧ Pr wr gn lv v true ∧ OwI wr w2.heap.size v (idsM (L.take k)) ∧ Kp w w2 gn wr) (fun lo hi iv _ => m - (intOf iv).toNat)
  case atStart => exact ⟨0, _, Nat.zero_le _, rfl, rfl, rfl, N2.below (Below.refl _ _).drew, Ow.zero _ _ _ _, K0⟩
  case round =>
    obtain ⟨k, v, hk, rfl, rfl, rfl, HP, HO, HK⟩ := hrel
    by_cases hlt : k < m
    · have hlti : (k : Int) < (m : Int) := Int.ofNat_lt.2 hlt
      obtain ⟨hw1, hw2⟩ := idx_w m k hlt (by omega)
      obtain ⟨ad', e', z0, z1', z2, z3, z4⟩ := RdM.at5 (HK.rd hf2.2 (by omega) rL) k (by rw [HM.out]; exact hlt)
      injection e' with e'
      subst e'
      have HNX := hide (spM_next (x0.2.2.2.1, x0.2.2.2.2) L k (by rw [HM.out]; exact hlt))
      have HNI := hide (idsT_next L k (by rw [HM.out]; exact hlt))
      have hlen : ((idsM (L.take k)).length + 1) * 8 ≤ 140737488355328 := by rw [ids_len, List.length_take]; omega
      obtain ⟨y, hy⟩ : ∃ y, L.getD k zMet = y := ⟨_, rfl⟩
      rw [hy] at z0 z1' z2 z3 z4 HNX HNI
      obtain ⟨⟨p, q⟩, hpq⟩ : ∃ s, spM (x0.2.2.2.1, x0.2.2.2.2) (L.take k) = s := ⟨_, rfl⟩
      rw [hpq] at HNX ⊢
      generalize idsM (L.take k) = xs at *
      clear hy hpq z1' z2
      have hmin := run_minS p y.2.2.2.1
      have hmax := run_maxS q y.2.2.2.2
      obtain ⟨p0, p1, p2, p3, p4, p5⟩ := HP.read
      go_wp2
      go_still (by kernel_rfl)
      change Exit.then _ _ _ _ wr.drew
      have HP1 := HP.below (Below.refl _ wr).drew
      have HO1 := HO.below (Below.refl _ wr).drew
      have HK1 := HK.step hgw2 (Below.refl _ wr).drew
      have hd : Below wr.heap.size wr wr.drew := (Below.refl _ wr).drew
      have z0' := (hd.cell (World.block_lt_of_cell? _ _ z0)).trans z0
      clear z0 z3 z4 p0 p1 p2 p3 p4 p5 hmin hmax HP HO HK hd
      generalize wr.drew = wd at *
      have HP2 := HP1.below (Below.refl _ wd).drew
      have HO2 := HO1.below (Below.refl _ wd).drew
      have HK2 := HK1.step hgw2 (Below.refl _ wd).drew
      have hd : Below wd.heap.size wd wd.drew := (Below.refl _ wd).drew
      have z0 := (hd.cell (World.block_lt_of_cell? _ _ z0')).trans z0'
      have hA1 := ((HP1.below (below_alloc wd (.cells #[.int .i64 y.1] 3))).below (Below.refl _ _).drew).read.2.1
      clear z0' HP1 HO1 HK1 hd
      go_wp2
      obtain ⟨p0, p1, p2, p3, p4, p5⟩ := HP2.read
      go_region_law (first | ((refine step_int (w0 := wd.drew) (W := wd.drew) w2.heap.size (by rfl) (.tmp 71) (.tmp 77) rfl v xs y.1 (by rfl) (by rfl) HO2 (Below.refl _ _) HK2.size hlen ?_); intro v7 w7 HO7 HB7 hg7; obtain ⟨A7, c7, hv7, -⟩ := HO7.rd; obtain ⟨q7, hq7⟩ : ∃ q, (xs ++ [y.1]).length = q := ⟨_, rfl⟩; rw [hq7] at hv7; subst hv7; have HP7 := HP2.low HB7 hg2; have HK7 := HK2.step hgw2 HB7; obtain ⟨p70, p71, p72, p73, p74, p75⟩ := HP7.read))
      all_goals (
        have HP8 := HP7.inp (.slice A7 q7 c7)
        have HO8 := Ow.setCell HO7 HP7 (by decide) 1 (.slice A7 q7 c7)
        have HK8 := HK7.set hgw 1 (.slice A7 q7 c7)
        clear p70 p71 p72 p73 p74 p75 p0 p1 p2 p3 p4 p5 HP7 HO7 HK7 HP2 HO2 HK2 hA1 z0 HB7 hg7
        go_wp2
        go_roundw
        case rel => exact ⟨k + 1, _, hlt, by go_num, by rw [HNX.out], by rw [HNX.out], HP8, by rw [HNI.out]; exact HO8, HK8⟩
        case measure => first | exact idx_m m k hlt | exact idx_m2 m k hlt | exact idx_m3 m k hlt hw1)
    · obtain rfl : k = m := Nat.le_antisymm hk (Nat.not_lt.1 hlt)
      obtain ⟨wo, rfl⟩ : ∃ z : World, z = wr := ⟨wr, rfl⟩
      have es : spM (x0.2.2.2.1, x0.2.2.2.2) (L.take k) = topS L := by rw [← HM.out, List.take_length, S0.out]
      have ei : idsM (L.take k) = idsM L := by rw [← HM.out, List.take_length]
      rw [ei] at HO
      rw [es]
      clear es ei
      have HBEL : Hid (belG (lv : Int) l L = toM (topS L).1 (topS L).2 (atM ((lv : Int) + 1) l)) := hide rfl
      have hbf := bel_filter l seq nx HZZ.out (topS L).1 (topS L).2 ((lv : Int) + 1)
      have hb1 := toM_len (topS L).1 (topS L).2 (atM ((lv : Int) + 1) l)
      have hb2 := h256 ((lv : Int) + 1)
      have HBOT : Hid (botP lv l L = botG (spM (topS L) (belG (lv : Int) l L)) l ((lv : Int) + 2) (2 - lv)) := hide rfl
      have HINP : Hid (inpG (lv : Int) l L = idsM L ++ idsM (belG (lv : Int) l L)) := hide rfl
      generalize hII : inpG (lv : Int) l L = INP at *
      generalize hBB : botP lv l L = BOT at *
      have HII := hide hII
      have HBB := hide hBB
      clear hII hBB
      generalize belG (lv : Int) l L = BEL at *
      obtain ⟨⟨p, q⟩, hpq⟩ : ∃ s, topS L = s := ⟨_, rfl⟩
      rw [hpq] at HBEL HBOT hbf hb1 ⊢
      have hT := fun W h => hTo p q ((lv : Int) + 1) W h
      rw [← HBEL.out] at hT hbf hb1
      have hA1 := fun W h => hAt ((lv : Int) + 1) W h
      generalize atM ((lv : Int) + 1) l = NX at *
      clear HBEL hpq S0 hAt
      have T3 := HK.tr hgne.1 T2
      have P3 := HK.pr hgne.2 P2
      have r3 := HRR.out.below HK.below
      obtain ⟨t0, t1, t2⟩ := T3.read
      obtain ⟨p0, p1, p2, p3, p4, p5⟩ := HP.read
      obtain ⟨hl1, hl2, hl3, hl4⟩ := lvr_w lv hlv2
      obtain ⟨mb, hmb⟩ : ∃ mb, BEL.length = mb := ⟨_, rfl⟩
      have HMB := hide hmb
      rw [hmb] at hb1
      have hsum : (idsM L).length + (idsM BEL).length ≤ 17592186044416 := by rw [ids_len, ids_len, HM.out, hmb]; exact sum512 _ _ htl256 (Nat.le_trans hb1 hb2)
      clear hmb rL r2 N2 C2
      go_wp2_with (first | (go_at_call 18; (with_reducible refine (hT _ r3).mono ?_); rintro e w4 ⟨⟨v4, rfl, O4⟩, HB4⟩; obtain ⟨A4, c4, hv4, -⟩ := O4.rd; rw [ids_len, HMB.out] at hv4; subst hv4; have HP4 := HP.below HB4; have HO4 := HO.below HB4; have HK4 := HK.step hgw2 (HB4.mono HK.size); have T4 := T3.below HB4; have P4 := P3.below HB4; obtain ⟨p40, p41, p42, p43, p44, p45⟩ := HP4.read) | (at_builtin; refine app_ints (w0 := w4) w2.heap.size rfl (.tmp 91) (.tmp 92) rfl v (idsM L) (idsM BEL) A4 c4 rfl (by rw [ids_len, HMB.out]; rfl) HO4 O4.rdl (Below.refl _ _) HK4.size hsum ?_; intro v5 w5 HO5 HB5 hg5 hat; have ri5 := RdI.elder O4 HO hg5; rw [← HINP.out] at HO5; obtain ⟨A5, c5, hv5, -⟩ := HO5.rd; obtain ⟨q5, hq5⟩ : ∃ q, INP.length = q := ⟨_, rfl⟩; rw [hq5] at hv5; subst hv5; have HP5 := HP4.low HB5 hg2; have HK5 := HK4.step hgw2 HB5; obtain ⟨p50, p51, p52, p53, p54, p55⟩ := HP5.read; have HP6 := HP5.inp (.slice A5 q5 c5); have HO6 := Ow.setCell HO5 HP5 (by decide) 1 (.slice A5 q5 c5); have HK6 := HK5.set hgw 1 (.slice A5 q5 c5); have ri6 := RdI.far O4 (Nat.lt_of_lt_of_le hg2 HK.size) ri5 1 (.slice A5 q5 c5); have r6 := HRR.out.below HK6.below; have T6 := HK6.tr hgne.1 T2; obtain ⟨t60, t61, t62⟩ := T6.read; obtain ⟨p60, p61, p62, p63, p64, p65⟩ := HP6.read) | (go_at_call 37; (with_reducible refine (hA1 _ r6).mono ?_); rintro e w7 ⟨A7, mn, c7, rfl, hm7, O7, HB7⟩))
      have HP7 := HP6.below HB7
      have HO7 := HO6.below HB7
      have HK7 := HK6.step hgw2 (HB7.mono HK6.size)
      have ri7 := ri6.below HB7
      have r7 := O7.rdl
      have hmn : mn ≤ 256 := by rw [← hm7]; exact hb2
      have HMN := hide hm7
      have HD : Hid ((idsM BEL).length = mb) := hide (by rw [ids_len, HMB.out])
      have hmb256 : mb ≤ 256 := Nat.le_trans hb1 hb2
      have HBF := hide hbf
      have HZM : Hid (spW (idsM BEL) (p, q) (NX.take 0) = (p, q)) := hide rfl
      have HZE : Hid (spW (idsM BEL) (p, q) NX = spM (p, q) BEL) := hide (by rw [spW_filter, hbf])
      generalize idsM BEL = D at *
      clear hbf hT hA1 hm7 hb1 hb2 hsum p0 p1 p2 p3 p4 p5 p40 p41 p42 p43 p44 p45 p50 p51 p52 p53 p54 p55 p60 p61 p62 p63 p64 p65 t0 t1 t2 t60 t61 t62 HP HO HK HP4 HO4 HK4 HP5 HO5 HK5 HP6 HO6 HK6 O4 hg5 hat ri5 ri6 r3 r6 T3 T4 T6 P3 P4 HB4 HB5 HB7 O7
      go_loopw [9, 10, 15] (fun lo hi iv wr => ∃ i : Nat, i ≤ mn ∧ iv = .int .i64 (i : Int) ∧ lo = .string (spW D (p, q) (NX.take i)).1 ∧ hi = .string (spW D (p, q) (NX.take i)).2 ∧ Below w7.heap.size w7 wr) (fun lo hi iv _ => mn - (intOf iv).toNat)
      case atStart => exact ⟨0, Nat.zero_le _, rfl, by rw [HZM.out], by rw [HZM.out], Below.refl _ _⟩
      case round =>
        obtain ⟨i, hi, rfl, rfl, rfl, HB⟩ := hrel
        by_cases hlt : i < mn
        · have hlti : (i : Int) < (mn : Int) := Int.ofNat_lt.2 hlt
          obtain ⟨hw1, hw2⟩ := idx_w mn i hlt (by omega)
          have HNX := hide (spW_next D (p, q) NX i (by rw [HMN.out]; exact hlt))
          obtain ⟨y, hy⟩ : ∃ y, NX.getD i zMet = y := ⟨_, rfl⟩
          have HY := hide hy
          rw [hy] at HNX
          obtain ⟨⟨u, v⟩, huv⟩ : ∃ s, spW D (p, q) (NX.take i) = s := ⟨_, rfl⟩
          rw [huv] at HNX ⊢
          have HW1 := hide hw1
          have HW2 := hide hw2
          obtain ⟨wo2, rfl⟩ : ∃ z : World, z = wr := ⟨wr, rfl⟩
          clear hy huv hw1 hw2 
          go_wp2
          go_loopw [9, 10, 16] (fun lo hi iv wr => ∃ j : Nat, j ≤ mb ∧ iv = .int .i64 (j : Int) ∧ lo = .string (wiS (D.take j) (u, v) y).1 ∧ hi = .string (wiS (D.take j) (u, v) y).2 ∧ Below w7.heap.size w7 wr) (fun lo hi iv _ => mb - (intOf iv).toNat)
          case atStart => exact ⟨0, Nat.zero_le _, rfl, by rw [wiS_zero], by rw [wiS_zero], HB⟩
          case round =>
            obtain ⟨j, hj, rfl, rfl, rfl, HBj⟩ := hrel
            by_cases hltj : j < mb
            · have hltji : (j : Int) < (mb : Int) := Int.ofNat_lt.2 hltj
              obtain ⟨hw1, hw2⟩ := idx_w mb j hltj (by omega)
              obtain ⟨ad7, e7, z0, z1', z2, z3, z4⟩ := RdM.at5 (r7.below HBj) i (by rw [HMN.out]; exact hlt)
              subst e7
              rw [HY.out] at z0 z1' z2 z3 z4
              obtain ⟨ad4, e4, d0⟩ := (ri7.below HBj).int_at j (by rw [HD.out]; exact hltj)
              subst e4
              have HNW := hide (wiS_next D (u, v) y j (by rw [HD.out]; exact hltj))
              obtain ⟨z, hz⟩ : ∃ z, D.getD j 0 = z := ⟨_, rfl⟩
              rw [hz] at d0 HNW
              obtain ⟨⟨a, b⟩, hab⟩ : ∃ s, wiS (D.take j) (u, v) y = s := ⟨_, rfl⟩
              rw [hab] at HNW ⊢
              clear hz hab z1' z2
              by_cases hyz : y.1 = z
              · have hb : (y.1 == z) = true := beq_iff_eq.2 hyz
                have HNW2 := hide (HNW.out.trans (if_pos hyz))
                have hmin := run_minS a y.2.2.2.1
                have hmax := run_maxS b y.2.2.2.2
                have hd : Below wr.heap.size wr wr.drew := (Below.refl _ wr).drew
                have z3' := (hd.cell (World.block_lt_of_cell? _ _ z3)).trans z3
                have z4' := (hd.cell (World.block_lt_of_cell? _ _ z4)).trans z4
                have HBd := HBj.drew
                clear hyz HNW hd
                go_wp2
                go_still (by kernel_rfl)
                change Exit.then _ _ _ _ wr.drew
                clear z0 z3 z4 d0 HBj
                generalize wr.drew = wd at *
                go_wp2
                go_still (by kernel_rfl)
                change Exit.inBlock _ _ _ _ wd.drew
                have HBe := HBd.drew
                clear z3' z4' hmin hmax
                go_wp2
                go_roundw
                case rel => exact ⟨j + 1, hltj, by go_num, by rw [HNW2.out], by rw [HNW2.out], HBe⟩
                case measure => first | exact idx_m mb j hltj | exact idx_m2 mb j hltj | exact idx_m3 mb j hltj hw1
              · have hb : (y.1 == z) = false := beq_eq_false_iff_ne.2 hyz
                have HNW2 := hide (HNW.out.trans (if_neg hyz))
                have HBd := HBj.drew
                clear hyz HNW
                go_wp2
                go_still (by kernel_rfl)
                change Exit.then _ _ _ _ wr.drew
                clear z0 z3 z4 d0 HBj
                go_wp2
                go_roundw
                case rel => exact ⟨j + 1, hltj, by go_num, by rw [HNW2.out], by rw [HNW2.out], HBd⟩
                case measure => first | exact idx_m mb j hltj | exact idx_m2 mb j hltj | exact idx_m3 mb j hltj hw1
            · obtain rfl : j = mb := Nat.le_antisymm hj (Nat.not_lt.1 hltj)
              have ee : wiS (D.take j) (u, v) y = spW D (p, q) (NX.take (i + 1)) := by rw [← HD.out, List.take_length, HNX.out]
              rw [ee]
              have hw1 := HW1.out
              have hw2 := HW2.out
              clear ee HB
              go_wp2
              go_roundw
              case rel => exact ⟨i + 1, hlt, by go_num, rfl, rfl, HBj⟩
              case measure => first | exact idx_m mn i hlt | exact idx_m2 mn i hlt | exact idx_m3 mn i hlt hw1
        · obtain rfl : i = mn := Nat.le_antisymm hi (Nat.not_lt.1 hlt)
          have ee : spW D (p, q) (NX.take i) = spM (p, q) BEL := by rw [← HMN.out, List.take_length, HZE.out]
          rw [ee]
          have HP8 := HP7.below HB
          have HO8 := HO7.below HB
          have HK8 := HK7.step hgw2 (HB.mono HK7.size)
          obtain ⟨p0, p1, p2, p3, p4, p5⟩ := HP8.read
          obtain ⟨⟨u, v⟩, huv⟩ : ∃ s, spM (p, q) BEL = s := ⟨_, rfl⟩
          rw [huv] at HBOT ⊢
          obtain ⟨wo, rfl⟩ : ∃ z : World, z = wr := ⟨wr, rfl⟩
          clear huv ee HZE HZM HP7 HO7 HK7 HB ri7 r7
          go_wp2
          go_loopw [17] (fun iv wr => ∃ (j : Nat) (z : Int), j ≤ 2 - lv ∧ (j : Int) + ((lv : Int) + 2) = z ∧ iv = .int .i64 z ∧ Pr wr gn lv (.slice A5 q5 c5) (botG (u, v) l ((lv : Int) + 2) j) ∧ OwI wr w2.heap.size (.slice A5 q5 c5) INP ∧ Kp w w2 gn wr) (fun iv _ => 5 - (intOf iv).toNat)
          case atStart => exact ⟨0, _, Nat.zero_le _, rfl, by simp, HP8, HO8, HK8⟩
          case round =>
            obtain ⟨j, z, hj, hz, rfl, HP, HO, HK⟩ := hrel
            obtain ⟨hle1, hle2⟩ := lvj_le lv j z hlv2 hz
            obtain ⟨hzw1, hzw2⟩ := lvj_w lv j hlv2 (Nat.le_trans hj (Nat.sub_le _ _))
            have HMS := hide (fun z2 hlt h2 => lvj_m lv j z z2 hlv2 hlt hz h2)
            rw [hz] at hzw1 hzw2
            have HZ2 : Hid (((j + 1 : Nat) : Int) + ((lv : Int) + 2) = wrap64 (z + 1)) := hide hzw1.symm
            obtain ⟨z2, hz2⟩ : ∃ z2, ((j + 1 : Nat) : Int) + ((lv : Int) + 2) = z2 := ⟨_, rfl⟩
            rw [hz2] at hzw1 hzw2
            have HZ3 := hide hz2
            have HBN : Hid (botG (u, v) l ((lv : Int) + 2) (j + 1) = (botG (u, v) l ((lv : Int) + 2) j && decide ((toM u v (atM z l)).length = 0))) := hide (by rw [← hz]; rfl)
            clear hz2 HZ2
            have T9 := HK.tr hgne.1 T2
            have r9 := HRR.out.below HK.below
            obtain ⟨t0, t1, t2⟩ := T9.read
            obtain ⟨p0, p1, p2, p3, p4, p5⟩ := HP.read
            by_cases hlt : j < 2 - lv
            · have hz3 : z ≤ 3 := hle1 hlt
              have hT := fun W h => hTo u v z W h
              obtain ⟨K8, hK8⟩ : ∃ K, (toM u v (atM z l)).length = K := ⟨_, rfl⟩
              have HK8 := hide hK8
              rw [hK8] at HBN
              obtain ⟨b, hb⟩ : ∃ b, botG (u, v) l ((lv : Int) + 2) j = b := ⟨_, rfl⟩
              rw [hb] at HP HBN p2
              clear hK8 hb hle1 hle2
              by_cases h0 : K8 = 0
              · subst h0
                cases b
                all_goals (
                  go_wp2_with (first | (go_at_call 18; (with_reducible refine (hT _ r9).mono ?_); rintro e w4 ⟨⟨v4, rfl, O4⟩, HB4⟩; obtain ⟨A4', c4', hv4, -⟩ := O4.rd; rw [ids_len, HK8.out] at hv4; subst hv4; have HP4 := HP.below HB4; have HO4 := HO.below HB4; have HK4 := HK.step hgw2 (HB4.mono HK.size); obtain ⟨p40, p41, p42, p43, p44, p45⟩ := HP4.read))
                  go_roundw
                  case rel => exact ⟨j + 1, z2, hlt, HZ3.out, rfl, by rw [HBN.out]; exact HP4.bot _, Ow.setCell HO4 HP4 (by decide) 2 _, HK4.set hgw 2 _⟩
                  case measure => first | exact HMS.out _ hlt HZ3.out.symm | exact HMS.out _ hlt (by rw [hzw1, HZ3.out]))
              · have h0c : ¬ (K8 : Int) = 0 := fun e => h0 (Int.natCast_eq_zero.1 e)
                have h0b : ((K8 : Int) == 0) = false := beq_eq_false_iff_ne.2 h0c
                have h0d : decide (K8 = 0) = false := decide_eq_false h0
                cases b
                all_goals (
                  go_wp2_with (first | (go_at_call 18; (with_reducible refine (hT _ r9).mono ?_); rintro e w4 ⟨⟨v4, rfl, O4⟩, HB4⟩; obtain ⟨A4', c4', hv4, -⟩ := O4.rd; rw [ids_len, HK8.out] at hv4; subst hv4; have HP4 := HP.below HB4; have HO4 := HO.below HB4; have HK4 := HK.step hgw2 (HB4.mono HK.size); obtain ⟨p40, p41, p42, p43, p44, p45⟩ := HP4.read))
                  go_roundw
                  case rel => exact ⟨j + 1, z2, hlt, HZ3.out, rfl, by rw [HBN.out, h0d]; exact HP4.bot _, Ow.setCell HO4 HP4 (by decide) 2 _, HK4.set hgw 2 _⟩
                  case measure => first | exact HMS.out _ hlt HZ3.out.symm | exact HMS.out _ hlt (by rw [hzw1, HZ3.out]))
            · have hz3 : ¬ z ≤ 3 := Int.not_le.2 (hle2 hlt)
              have hj2 : j = 2 - lv := Nat.le_antisymm hj (Nat.not_lt.1 hlt)
              subst hj2
              rw [← HBOT.out] at HP p2
              have PR := HK.pr hgne.2 P2
              obtain ⟨q0, q1, q2, q3, q4, q5'⟩ := PR.read
              clear hzw1 hzw2 hle1 hle2 HMS
              go_wp2
              have hF := blk_set (blk_set (blk_set PR 0 (.int .i64 (lv : Int))) 1 (.slice A5 q5 c5)) 2 (.bool BOT)
              have OF := Ow.setCell (Ow.setCell (Ow.setCell HO PR (by decide) 0 (.int .i64 (lv : Int))) (blk_set PR 0 (.int .i64 (lv : Int))) (by decide) 1 (.slice A5 q5 c5)) (blk_set (blk_set PR 0 (.int .i64 (lv : Int))) 1 (.slice A5 q5 c5)) (by decide) 2 (.bool BOT)
              have hle : w.heap.size ≤ w.heap.size + 1 := Nat.le_succ _
              exact bodyPost_ret (v := .tuple #[plV (lv : Int) (.slice A5 q5 c5) BOT, .bool true, .int .i64 0]) (results_ctt Try.results16 _ _ (w.heap.size + 1) _ _ _ _ rfl hF Try.underlying46 rfl rfl) rfl ⟨_, by rw [HLL.out, HBB.out], by rw [HLL.out, HII.out]; exact OF.lower hgw2, ((HK.below.setCell (p := ⟨w.heap.size + 1, 0, none⟩) hle _).setCell (p := ⟨w.heap.size + 1, 1, none⟩) hle _).setCell (p := ⟨w.heap.size + 1, 2, none⟩) hle _⟩
end Go.Proofs.Ytbhhnlgpbhbcmaa
end

section
/- What PickTells compares: numbers, tables, plans; the reference's Choose where nothing is full. -/
namespace Go.Proofs.Ytbhhnlgpbhbcmaa
open Go.RowKit Go.Proofs.YtbhhnlgpbhbcmaaW.PrintWords
set_option linter.unusedVariables false

theorem sameI_l0 (l : List Int) (hl : l.length ≤ 9223372036854775806) : ∀ d i, l.length - i = d → i ≤ l.length → Ev (fun k => PE.ticklerplain_SameInts.l0 k l l (i : Int)) true := by
  intro d
  induction d with
  | zero =>
    intro i hd hi
    obtain rfl : i = l.length := by omega
    refine Ev.now' fun k => ?_
    rw [PE.ticklerplain_SameInts.l0, if_neg (by omega)]
  | succ d ih =>
    intro i hd hi
    have hlt : i < l.length := by omega
    refine Ev.step (fun k => ?_) (ih (i + 1) (by omega) (by omega))
    rw [PE.ticklerplain_SameInts.l0, if_pos (by omega), if_pos (by omega), if_pos (by omega), if_pos rfl, wrap64_succ i (by omega)]
theorem SameI_any (A B : Option Addr) (c d n : Nat) (l : List Int) (w : World) (hn : l.length = n) (hr : RdI w A c l) (hs : RdI w B d l) (hl : l.length ≤ 9223372036854775806) :
    Calls Try.prog 19 #[.slice A n c, .slice B n d] w fun e w' => e = .returned (.bool true) ∧ Below w.heap.size w w' := by
  subst hn
  obtain ⟨k, hk⟩ := (sameI_l0 l hl _ 0 rfl (Nat.zero_le _)).rounds
  have hf : PE.ticklerplain_SameInts.f k l l = some true := by rw [PE.ticklerplain_SameInts.f, if_pos rfl]; exact hk
  exact (PE.ticklerplain_SameInts.calls k A c l B d l true w hr.2 hr.1 hs.2 hs.1 hf).mono (fun e w' ⟨h1, h2⟩ => ⟨h1, h2.below⟩)
theorem eqR (d : Nat) (w : World) (x0 y0 : Int) (x1 y1 : Int) (x2 y2 : Int) (x3 y3 : ByteArray) (x4 y4 : ByteArray) :
    (Op.equalIn (d + 2) 39 (.agg #[.int .i64 x0, .int .i64 x1, .int .i64 x2, .string x3, .string x4]) (.agg #[.int .i64 y0, .int .i64 y1, .int .i64 y2, .string y3, .string y4])).run Try.prog w = .ok (x0 == y0 && (x1 == y1 && (x2 == y2 && (x3.toList == y3.toList && (x4.toList == y4.toList))))) w := by
  refine eqA_of Try.underlying39 (by kernel_rfl) ?_
  refine eqf_cons (by rfl) (by go_simp; rfl) (by go_simp; rfl) (by go_simp) ?_
  refine eqf_cons (by rfl) (by go_simp; rfl) (by go_simp; rfl) (by go_simp) ?_
  refine eqf_cons (by rfl) (by go_simp; rfl) (by go_simp; rfl) (by go_simp) ?_
  refine eqf_cons (by rfl) (by go_simp; rfl) (by go_simp; rfl) (by go_simp) ?_
  exact eqf_last (by rfl) (by go_simp; rfl) (by go_simp; rfl) (by go_simp)
set_option maxRecDepth 100000 in
set_option maxHeartbeats 1600000 in
theorem sameM_any (A B : Option Addr) (c d n : Nat) (l : List Met) (w : World) (hn : l.length = n) (hr : RdM w A c l) (hs : RdM w B d l) (hl : n ≤ 140737488351232) :
    Calls Try.prog 38 #[.slice A n c, .slice B n d] w fun e w' => e = .returned (.bool true) ∧ Below w.heap.size w w' := by
  have HN := hide hn
  clear hn
  go_enter Try.func38, Try.ntmps38
  go_wp2
  go_loopw [5] (fun iv wr => ∃ k : Nat, k ≤ n ∧ iv = .int .i64 (k : Int) ∧ Below w.heap.size w wr) (fun iv _ => n - (intOf iv).toNat)
  case atStart => exact ⟨0, Nat.zero_le _, rfl, Below.refl _ _⟩
  case round =>
    obtain ⟨k, hk, rfl, HB⟩ := hrel
    by_cases hlt : k < n
    · have hlti : (k : Int) < (n : Int) := Int.ofNat_lt.2 hlt
      obtain ⟨hw1, hw2⟩ := idx_w n k hlt hl
      obtain ⟨ad, rfl, x0, x1, x2, x3, x4⟩ := RdM.at5 (hr.below HB) k (by rw [HN.out]; exact hlt)
      obtain ⟨bd, rfl, y0, y1, y2, y3, y4⟩ := RdM.at5 (hs.below HB) k (by rw [HN.out]; exact hlt)
      obtain ⟨y, hy⟩ : ∃ y, l.getD k zMet = y := ⟨_, rfl⟩
      rw [hy] at x0 x1 x2 x3 x4 y0 y1 y2 y3 y4
      obtain ⟨i0, i1, i2, i3, i4⟩ := y
      have hEq := fun d W => eqR d W i0 i0 i1 i1 i2 i2 i3 i3 i4 i4
      have s3 : (i3.toList == i3.toList) = true := by simp
      have s4 : (i4.toList == i4.toList) = true := by simp
      simp only [beq_self_eq_true, Bool.and_self, s3, s4] at hEq
      clear hy
      go_wp2
      go_still (by kernel_rfl)
      change Exit.then _ _ _ _ wr.drew
      go_wp2
      go_roundw
      case rel => exact ⟨k + 1, hlt, by go_num, HB.drew⟩
      case measure => first | exact idx_m n k hlt | exact idx_m2 n k hlt | exact idx_m3 n k hlt hw1
    · obtain rfl : k = n := Nat.le_antisymm hk (Nat.not_lt.1 hlt)
      go_wp2
      go_ret
      exact ⟨rfl, HB⟩
set_option maxRecDepth 100000 in
set_option maxHeartbeats 1600000 in
theorem Alike_any (A B : Option Addr) (c d n : Nat) (seq nx : Int) (l : List Met) (w : World) (hn : l.length = n) (hr : RdM w A c l) (hs : RdM w B d l) (hl : n ≤ 140737488351232) :
    Calls Try.prog 21 #[verV A n c seq nx, verV B n d seq nx] w fun e w' => e = .returned (.int .i64 0) ∧ Below w.heap.size w w' := by
  have b1 := below_alloc w (verO A n c seq nx)
  have T1 : Tb (w.alloc (verO A n c seq nx)) w.heap.size A n c seq nx := heap_alloc_new _ _
  have b2 := below_alloc (w.alloc (verO A n c seq nx)) (verR B n d seq nx)
  have T2 : Tr ((w.alloc (verO A n c seq nx)).alloc (verR B n d seq nx)) (w.alloc (verO A n c seq nx)).heap.size B n d seq nx := heap_alloc_new _ _
  have T1' := T1.below b2
  rw [World.size_alloc] at T2
  have C := stq b1 b2
  have hS := fun W (h : Below ((w.alloc (verO A n c seq nx)).alloc (verR B n d seq nx)).heap.size ((w.alloc (verO A n c seq nx)).alloc (verR B n d seq nx)) W) => sameM_any A B c d n l W hn ((hr.below C).below h) ((hs.below C).below h) hl
  obtain ⟨t0, t1, t2⟩ := T1'.read
  obtain ⟨s0, s1, s2⟩ := T2.read
  clear hr hs hn
  go_enter Try.func21, Try.ntmps21
  go_wp2_with (first | (go_at_call 38; (with_reducible refine (hS _ (Below.refl _ _)).mono ?_); rintro e w3 ⟨rfl, HB3⟩; have T3 := T1'.below HB3; have S3 := T2.below HB3; obtain ⟨t30, t31, t32⟩ := T3.read; obtain ⟨s30, s31, s32⟩ := S3.read; have C3 := stq C HB3))
  go_ret
  exact ⟨rfl, C3⟩
set_option maxRecDepth 100000 in
set_option maxHeartbeats 1600000 in
theorem sameP_any (A B : Option Addr) (c d n : Nat) (lv : Int) (b : Bool) (l : List Int) (w : World) (hn : l.length = n) (hr : RdI w A c l) (hs : RdI w B d l) (hl : n ≤ 140737488351232) :
    Calls Try.prog 20 #[plV lv (.slice A n c) b, plV lv (.slice B n d) b] w fun e w' => e = .returned (.bool true) ∧ Below w.heap.size w w' := by
  have b1 := below_alloc w (.cells #[.int .i64 lv, .slice A n c, .bool b] 28)
  have T1 : Pl (w.alloc (.cells #[.int .i64 lv, .slice A n c, .bool b] 28)) w.heap.size lv (.slice A n c) b := heap_alloc_new _ _
  have b2 := below_alloc (w.alloc (.cells #[.int .i64 lv, .slice A n c, .bool b] 28)) (plo lv (.slice B n d) b)
  have T2 : Pr ((w.alloc (.cells #[.int .i64 lv, .slice A n c, .bool b] 28)).alloc (plo lv (.slice B n d) b)) (w.alloc (.cells #[.int .i64 lv, .slice A n c, .bool b] 28)).heap.size lv (.slice B n d) b := heap_alloc_new _ _
  have T1' := T1.below b2
  rw [World.size_alloc] at T2
  have C := stq b1 b2
  have hS := SameI_any A B c d n l _ hn (hr.below C) (hs.below C) (by omega)
  obtain ⟨t0, t1, t2, t3, t4, t5⟩ := T1'.read
  obtain ⟨s0, s1, s2, s3, s4, s5⟩ := T2.read
  clear hr hs hn
  go_enter Try.func20, Try.ntmps20
  go_wp2_with (first | (go_at_call 19; (with_reducible refine hS.mono ?_); rintro e w3 ⟨rfl, HB3⟩; have T3 := T1'.below HB3; have S3 := T2.below HB3; obtain ⟨t30, t31, t32, -, -, -⟩ := T3.read; obtain ⟨s30, s31, s32, -, -, -⟩ := S3.read; have C3 := stq C HB3))
  go_ret
  exact ⟨by first | rfl | simp, C3⟩
set_option maxRecDepth 100000 in
set_option maxHeartbeats 3200000 in
theorem rChooseN_any (A : Option Addr) (c n : Nat) (seq nx : Int) (l : List Met) (w : World) (hn : l.length = n) (hr : RdM w A c l) (hl : l.length * 56 ≤ 140737488351232) (h : chkM l seq nx ≠ 0 ∨ fullsK l 3 = []) :
    Calls Try.prog 16 #[verV A n c seq nx] w fun e w' => e = .returned (.tuple #[plV 0 (.slice none 0 0) false, .bool false, .int .i64 (chkM l seq nx)]) ∧ Below w.heap.size w w' := by
  obtain ⟨B0, T0, P0⟩ := rbox w A n c seq nx
  obtain ⟨t0, t1, t2⟩ := T0.read
  have hFl := fun W (h : RdM W A c l) => rFull_any A c n seq nx l W hn h hl
  have r0 := hr.below B0
  have hle : w.heap.size ≤ w.heap.size + 1 := Nat.le_succ _
  by_cases hz : chkM l seq nx = 0
  · have h0 : fullsK l 3 = [] := h.resolve_left (fun e => e hz)
    simp only [hz, ne_eq, not_true, false_and, false_or, true_and] at hFl
    rw [h0] at hFl
    rw [hz]
    clear hn hl hz h h0 hr
    go_enter Try.func16, Try.ntmps16
    go_wp2_with (first | (go_at_call 15; (with_reducible refine (hFl _ r0).mono ?_); rintro e w1 ⟨⟨v1, rfl, O1⟩, HB1⟩; obtain ⟨A1, c1, hv1, ri1⟩ := O1.rd; replace hv1 : v1 = .slice A1 0 c1 := hv1; subst hv1; have C1 := stq B0 HB1; have P1 := P0.below HB1; obtain ⟨p0, p1, p2, p3, p4, p5⟩ := P1.read))
    have hF := blk_set (blk_set (blk_set P1 0 (.int .i64 0)) 1 (.slice none 0 0)) 2 (.bool false)
    exact bodyPost_ret (v := .tuple #[plV 0 (.slice none 0 0) false, .bool false, .int .i64 0]) (results_ctt Try.results16 _ _ (w.heap.size + 1) _ _ _ _ rfl hF Try.underlying46 rfl rfl) rfl ⟨rfl, ((C1.setCell (p := ⟨w.heap.size + 1, 0, none⟩) hle (.int .i64 0)).setCell (p := ⟨w.heap.size + 1, 1, none⟩) hle (.slice none 0 0)).setCell (p := ⟨w.heap.size + 1, 2, none⟩) hle (.bool false)⟩
  · simp only [hz, ne_eq, not_false_eq_true, true_and, false_and, or_false] at hFl
    generalize chkM l seq nx = z at *
    have hzb : (z == 0) = false := beq_eq_false_iff_ne.2 hz
    clear hn hl h hr
    go_enter Try.func16, Try.ntmps16
    go_wp2_with (first | (go_at_call 15; (with_reducible refine (hFl _ r0).mono ?_); rintro e w1 ⟨rfl, HB1⟩; have C1 := stq B0 HB1; have P1 := P0.below HB1; obtain ⟨p0, p1, p2, p3, p4, p5⟩ := P1.read))
    have hF := blk_set (blk_set (blk_set P1 0 (.int .i64 0)) 1 (.slice none 0 0)) 2 (.bool false)
    exact bodyPost_ret (v := .tuple #[plV 0 (.slice none 0 0) false, .bool false, .int .i64 z]) (results_ctt Try.results16 _ _ (w.heap.size + 1) _ _ _ _ rfl hF Try.underlying46 rfl rfl) rfl ⟨rfl, ((C1.setCell (p := ⟨w.heap.size + 1, 0, none⟩) hle (.int .i64 0)).setCell (p := ⟨w.heap.size + 1, 1, none⟩) hle (.slice none 0 0)).setCell (p := ⟨w.heap.size + 1, 2, none⟩) hle (.bool false)⟩
end Go.Proofs.Ytbhhnlgpbhbcmaa
end

section
/- The walk of PickTells: which levels are full, what is chosen, what a span touches, are the page's. -/
namespace Go.Proofs.Ytbhhnlgpbhbcmaa
open Go.RowKit Go.Proofs.YtbhhnlgpbhbcmaaW.PrintWords
set_option linter.unusedVariables false

theorem len_nat (l : List Int) (h : l.length ≤ 512) : l.length ≤ 9223372036854775806 ∧ l.length ≤ 140737488351232 := by omega
set_option maxRecDepth 100000 in
set_option maxHeartbeats 6400000 in
theorem tells_walk (A : Option Addr) (c : Nat) (l : List Met) (seq nx : Int) (lv : Int) (low high : ByteArray) (w : World) (hr : RdM w A c l) (hf : ∀ x ∈ l, fitI x.1) (hl : l.length * 56 ≤ 140737488351232) (hlv : fitI lv) (hlow : low.size ≤ 140737488351232) (hhigh : high.size ≤ 140737488351232) :
    Calls Try.prog 6 #[verV A l.length c seq nx, .int .i64 lv, .string low, .string high] w fun e w' => e = .returned (.bool true) ∧ Below w.heap.size w w' := by
  obtain ⟨n, hn⟩ : ∃ n, l.length = n := ⟨_, rfl⟩
  rw [hn]
  have b0 := below_alloc w (verR A n c seq nx)
  have T0 : Tr (w.alloc (verR A n c seq nx)) w.heap.size A n c seq nx := heap_alloc_new w (verR A n c seq nx)
  obtain ⟨t0, t1, t2⟩ := T0.read
  have hn48 : n ≤ 140737488351232 := by rw [← hn]; omega
  have hOf := fun W (h : RdM W A c l) => Of_any A c n seq nx l W hn h hl
  have hFl := fun A c W (h : RdM W A c l) => Full_any A c n seq nx l W hn h hf hl
  have hRf := fun W (h : RdM W A c l) => rFull_any A c n seq nx l W hn h hl
  have hTo := fun A c W (h : RdM W A c l) => Touch_any low high A c n seq nx lv l W hn h hf hl
  have hRt := fun W (h : RdM W A c l) => rTouch_any low high A c n seq nx lv l W hn h hl
  have hAk := fun A B c d W (h : RdM W A c l) (h2 : RdM W B d l) => Alike_any A B c d n seq nx l W hn h h2 hn48
  have hSi := fun A B c d n (l : List Int) W (h : l.length = n) (h1 : RdI W A c l) (h2 : RdI W B d l) (h3 : l.length ≤ 9223372036854775806) => SameI_any A B c d n l W h h1 h2 h3
  have hSp := fun A B c d n lv b (l : List Int) W (h : l.length = n) (h1 : RdI W A c l) (h2 : RdI W B d l) (h3 : n ≤ 140737488351232) => sameP_any A B c d n lv b l W h h1 h2 h3
  have r0 := hr.below b0
  by_cases hz : chkM l seq nx = 0
  · simp only [hz, ne_eq, not_true, false_and, false_or, true_and] at hFl hRf hTo hRt
    have h256 := (chk_facts l seq nx hz).1
    have hLF := len_nat (fullsK l 3) (by have := fullsK_len l 3; omega)
    have hLT := len_nat (idsM (toM low high (atM lv l))) (by rw [ids_len]; have := Nat.le_trans (toM_len low high (atM lv l)) (atM_len lv l); omega)
    by_cases hne : fullsK l 3 = []
    · have hCh := fun A c W (h : RdM W A c l) => ChooseN_any A c n seq nx l W hn h hf hl (.inr hne)
      have hRc := fun W (h : RdM W A c l) => rChooseN_any A c n seq nx l W hn h hl (.inr hne)
      rw [hz] at hCh hRc
      generalize fullsK l 3 = FUL at *
      generalize idsM (toM low high (atM lv l)) = TOU at *
      clear hn hf hl hr hz hlv hlow hhigh hne h256
      go_enter Try.func6, Try.ntmps6
      go_wp2_with (first | (go_at_call 10; (with_reducible refine (hOf _ r0).mono ?_); rintro e w1 ⟨A1, c1, rfl, O1, HB1⟩; have bx := below_alloc w1 (verO A1 n c1 seq nx); have X1 : Tb (w1.alloc (verO A1 n c1 seq nx)) w1.heap.size A1 n c1 seq nx := heap_alloc_new _ _; have C1 := stq (stq b0 HB1) bx; have T1 := (T0.below HB1).below bx; have r1 := (r0.below HB1).below bx; have y1 := O1.rdl.below bx; obtain ⟨t10, t11, t12⟩ := T1.read; obtain ⟨x10, x11, x12⟩ := X1.read) | (go_at_call 14; (with_reducible refine (hFl _ _ _ y1).mono ?_); rintro e w2 ⟨⟨v2, rfl, O2⟩, HB2⟩; obtain ⟨A2, c2, hv2, -⟩ := O2.rd; obtain ⟨m2, hm2⟩ : ∃ m, FUL.length = m := ⟨_, rfl⟩; rw [hm2] at hv2; subst hv2; have C2 := stq C1 HB2; have T2 := T1.below HB2; have X2 := X1.below HB2; have r2 := r1.below HB2; have y2 := y1.below HB2; obtain ⟨t20, t21, t22⟩ := T2.read; obtain ⟨x20, x21, x22⟩ := X2.read) | (go_at_call 15; (with_reducible refine (hRf _ r2).mono ?_); rintro e w3 ⟨⟨v3, rfl, O3⟩, HB3⟩; obtain ⟨A3, c3, hv3, -⟩ := O3.rd; rw [hm2] at hv3; subst hv3; have i23 := O2.rdl.below HB3; have C3 := stq C2 HB3; have T3 := T2.below HB3; have X3 := X2.below HB3; have r3 := r2.below HB3; have y3 := y2.below HB3; obtain ⟨t30, t31, t32⟩ := T3.read; obtain ⟨x30, x31, x32⟩ := X3.read) | (go_at_call 9; (with_reducible refine (hCh _ _ _ y3).mono ?_); rintro e w4 ⟨rfl, HB4⟩; have bp := below_alloc w4 (.cells #[.int .i64 0, .slice none 0 0, .bool false] 28); have P4 : Pl (w4.alloc (.cells #[.int .i64 0, .slice none 0 0, .bool false] 28)) w4.heap.size  0 (.slice none 0 0) (false) := heap_alloc_new _ _; have i33 := O3.rdl; have i24 := (i23.below HB4).below bp; have i34 := (i33.below HB4).below bp; have C4 := stq (stq C3 HB4) bp; have T4 := (T3.below HB4).below bp; have X4 := (X3.below HB4).below bp; have r4 := (r3.below HB4).below bp; have y4 := (y3.below HB4).below bp; obtain ⟨t40, t41, t42⟩ := T4.read; obtain ⟨x40, x41, x42⟩ := X4.read) | (go_at_call 16; (with_reducible refine (hRc _ r4).mono ?_); rintro e w5 ⟨rfl, HB5⟩; have bq := below_alloc w5 (plo 0 (.slice none 0 0) false); have Q5 : Pr (w5.alloc (plo 0 (.slice none 0 0) false)) w5.heap.size 0 (.slice none 0 0) false := heap_alloc_new _ _; have i25 := (i24.below HB5).below bq; have i35 := (i34.below HB5).below bq; have P5 := (P4.below HB5).below bq; have C5 := stq (stq C4 HB5) bq; have T5 := (T4.below HB5).below bq; have X5 := (X4.below HB5).below bq; have r5 := (r4.below HB5).below bq; have y5 := (y4.below HB5).below bq; obtain ⟨t50, t51, t52⟩ := T5.read; obtain ⟨x50, x51, x52⟩ := X5.read) | (go_at_call 17; (with_reducible refine (hTo _ _ _ y5).mono ?_); rintro e w6 ⟨⟨v6, rfl, O6⟩, HB6⟩; obtain ⟨A6, c6, hv6, -⟩ := O6.rd; obtain ⟨m6, hm6⟩ : ∃ m, TOU.length = m := ⟨_, rfl⟩; rw [hm6] at hv6; subst hv6; have i26 := i25.below HB6; have i36 := i35.below HB6; have P6 := P5.below HB6; have Q6 := Q5.below HB6; have T6 := T5.below HB6; have X6 := X5.below HB6; have r6 := r5.below HB6; have y6 := y5.below HB6; have C6 := stq C5 HB6; obtain ⟨t60, t61, t62⟩ := T6.read; obtain ⟨x60, x61, x62⟩ := X6.read) | (go_at_call 18; (with_reducible refine (hRt _ r6).mono ?_); rintro e w7 ⟨⟨v7, rfl, O7⟩, HB7⟩; obtain ⟨A7, c7, hv7, -⟩ := O7.rd; rw [hm6] at hv7; subst hv7; have i67 := O6.rdl.below HB7; have i77 := O7.rdl; have i27 := i26.below HB7; have i37 := i36.below HB7; have P7 := P6.below HB7; have Q7 := Q6.below HB7; have T7 := T6.below HB7; have X7 := X6.below HB7; have r7 := r6.below HB7; have y7 := y6.below HB7; have C7 := stq C6 HB7; obtain ⟨t70, t71, t72⟩ := T7.read; obtain ⟨x70, x71, x72⟩ := X7.read; obtain ⟨p70, p71, p72, -, -, -⟩ := P7.read; obtain ⟨q70, q71, q72, -, -, -⟩ := Q7.read) | (go_at_call 19; (with_reducible refine (hSi A2 A3 c2 c3 _ FUL w7 hm2 i27 i37 hLF.1).mono ?_); rintro e w8 ⟨rfl, HB8⟩; have i68 := i67.below HB8; have i78 := i77.below HB8; have i28 := i27.below HB8; have i38 := i37.below HB8; have P8 := P7.below HB8; have Q8 := Q7.below HB8; have T8 := T7.below HB8; have X8 := X7.below HB8; have r8 := r7.below HB8; have y8 := y7.below HB8; have C8 := stq C7 HB8; obtain ⟨t80, t81, t82⟩ := T8.read; obtain ⟨x80, x81, x82⟩ := X8.read; obtain ⟨p80, p81, p82, -, -, -⟩ := P8.read; obtain ⟨q80, q81, q82, -, -, -⟩ := Q8.read) | (go_at_call 11; (with_reducible refine (num_any _ _).mono ?_); rintro e w' ⟨rfl, rfl⟩) | (go_at_call 20; (with_reducible refine (hSp none none 0 0 0 0 false [] w8 rfl (Rd.zero _ _ _ _) (Rd.zero _ _ _ _) (Nat.zero_le _)).mono ?_); rintro e w9 ⟨rfl, HB9⟩; have i69 := i68.below HB9; have i79 := i78.below HB9; have i29 := i28.below HB9; have i39 := i38.below HB9; have P9 := P8.below HB9; have Q9 := Q8.below HB9; have T9 := T8.below HB9; have X9 := X8.below HB9; have r9 := r8.below HB9; have y9 := y8.below HB9; have C9 := stq C8 HB9; obtain ⟨t90, t91, t92⟩ := T9.read; obtain ⟨x90, x91, x92⟩ := X9.read) | (go_at_call 19; (with_reducible refine (hSi A6 A7 c6 c7 _ TOU w9 hm6 i69 i79 hLT.1).mono ?_); rintro e wa ⟨rfl, HBa⟩; have i2a := i29.below HBa; have i3a := i39.below HBa; have Pa := P9.below HBa; have Qa := Q9.below HBa; have Ta := T9.below HBa; have Xa := X9.below HBa; have ra := r9.below HBa; have ya := y9.below HBa; have Ca := stq C9 HBa; obtain ⟨ta0, ta1, ta2⟩ := Ta.read; obtain ⟨xa0, xa1, xa2⟩ := Xa.read) | (go_at_call 21; (with_reducible refine (hAk _ _ _ _ _ ya ra).mono ?_); rintro e wb ⟨rfl, HBb⟩; have Cb := stq Ca HBb) | (go_at_call 8; (with_reducible refine (alive_any _).mono ?_); rintro e wc ⟨rfl, HBc⟩; have Cc := stq Cb HBc))
      go_ret
      exact ⟨by first | rfl | simp, Cc⟩
    · obtain ⟨k, hfst, -⟩ := Choose_any A c n seq nx l w hn hr hf hl hz hne
      have hCh := fun A c W (h : RdM W A c l) => Choose_at k hfst A c n seq nx W hn h hf hl hz hne
      have hRc := fun W (h : RdM W A c l) => rChoose_at k A c n seq nx l W hn h hl hz hfst
      have hLI := len_nat (inpG (k : Int) l (topL k l)) (inpG_len (k : Int) l (topL k l) (topL_len k l hfst h256) h256)
      generalize inpG (k : Int) l (topL k l) = INP at *
      generalize botP k l (topL k l) = BOT at *
      generalize fullsK l 3 = FUL at *
      generalize idsM (toM low high (atM lv l)) = TOU at *
      clear hn hf hl hr hz hlv hlow hhigh hfst hne h256
      go_enter Try.func6, Try.ntmps6
      go_wp2_with (first | (go_at_call 10; (with_reducible refine (hOf _ r0).mono ?_); rintro e w1 ⟨A1, c1, rfl, O1, HB1⟩; have bx := below_alloc w1 (verO A1 n c1 seq nx); have X1 : Tb (w1.alloc (verO A1 n c1 seq nx)) w1.heap.size A1 n c1 seq nx := heap_alloc_new _ _; have C1 := stq (stq b0 HB1) bx; have T1 := (T0.below HB1).below bx; have r1 := (r0.below HB1).below bx; have y1 := O1.rdl.below bx; obtain ⟨t10, t11, t12⟩ := T1.read; obtain ⟨x10, x11, x12⟩ := X1.read) | (go_at_call 14; (with_reducible refine (hFl _ _ _ y1).mono ?_); rintro e w2 ⟨⟨v2, rfl, O2⟩, HB2⟩; obtain ⟨A2, c2, hv2, -⟩ := O2.rd; obtain ⟨m2, hm2⟩ : ∃ m, FUL.length = m := ⟨_, rfl⟩; rw [hm2] at hv2; subst hv2; have C2 := stq C1 HB2; have T2 := T1.below HB2; have X2 := X1.below HB2; have r2 := r1.below HB2; have y2 := y1.below HB2; obtain ⟨t20, t21, t22⟩ := T2.read; obtain ⟨x20, x21, x22⟩ := X2.read) | (go_at_call 15; (with_reducible refine (hRf _ r2).mono ?_); rintro e w3 ⟨⟨v3, rfl, O3⟩, HB3⟩; obtain ⟨A3, c3, hv3, -⟩ := O3.rd; rw [hm2] at hv3; subst hv3; have i23 := O2.rdl.below HB3; have C3 := stq C2 HB3; have T3 := T2.below HB3; have X3 := X2.below HB3; have r3 := r2.below HB3; have y3 := y2.below HB3; obtain ⟨t30, t31, t32⟩ := T3.read; obtain ⟨x30, x31, x32⟩ := X3.read) | (go_at_call 9; (with_reducible refine (hCh _ _ _ y3).mono ?_); rintro e w4 ⟨v4, rfl, O4, HB4⟩; obtain ⟨A4, c4, hv4, -⟩ := O4.rd; obtain ⟨m4, hm4⟩ : ∃ m, INP.length = m := ⟨_, rfl⟩; rw [hm4] at hv4; subst hv4; have bp := below_alloc w4 (.cells #[.int .i64 (k : Int), .slice A4 m4 c4, .bool BOT] 28); have P4 : Pl (w4.alloc (.cells #[.int .i64 (k : Int), .slice A4 m4 c4, .bool BOT] 28)) w4.heap.size  (k : Int) (.slice A4 m4 c4) (BOT) := heap_alloc_new _ _; have i33 := O3.rdl; have i24 := (i23.below HB4).below bp; have i34 := (i33.below HB4).below bp; have i44 := O4.rdl.below bp; have C4 := stq (stq C3 HB4) bp; have T4 := (T3.below HB4).below bp; have X4 := (X3.below HB4).below bp; have r4 := (r3.below HB4).below bp; have y4 := (y3.below HB4).below bp; obtain ⟨t40, t41, t42⟩ := T4.read; obtain ⟨x40, x41, x42⟩ := X4.read) | (go_at_call 16; (with_reducible refine (hRc _ r4).mono ?_); rintro e w5 ⟨v5, rfl, O5, HB5⟩; obtain ⟨A5, c5, hv5, -⟩ := O5.rd; rw [hm4] at hv5; subst hv5; have bq := below_alloc w5 (plo (k : Int) (.slice A5 m4 c5) BOT); have Q5 : Pr (w5.alloc (plo (k : Int) (.slice A5 m4 c5) BOT)) w5.heap.size (k : Int) (.slice A5 m4 c5) BOT := heap_alloc_new _ _; have i25 := (i24.below HB5).below bq; have i35 := (i34.below HB5).below bq; have i45 := (i44.below HB5).below bq; have i55 := O5.rdl.below bq; have P5 := (P4.below HB5).below bq; have C5 := stq (stq C4 HB5) bq; have T5 := (T4.below HB5).below bq; have X5 := (X4.below HB5).below bq; have r5 := (r4.below HB5).below bq; have y5 := (y4.below HB5).below bq; obtain ⟨t50, t51, t52⟩ := T5.read; obtain ⟨x50, x51, x52⟩ := X5.read) | (go_at_call 17; (with_reducible refine (hTo _ _ _ y5).mono ?_); rintro e w6 ⟨⟨v6, rfl, O6⟩, HB6⟩; obtain ⟨A6, c6, hv6, -⟩ := O6.rd; obtain ⟨m6, hm6⟩ : ∃ m, TOU.length = m := ⟨_, rfl⟩; rw [hm6] at hv6; subst hv6; have i26 := i25.below HB6; have i36 := i35.below HB6; have i46 := i45.below HB6; have i56 := i55.below HB6; have P6 := P5.below HB6; have Q6 := Q5.below HB6; have T6 := T5.below HB6; have X6 := X5.below HB6; have r6 := r5.below HB6; have y6 := y5.below HB6; have C6 := stq C5 HB6; obtain ⟨t60, t61, t62⟩ := T6.read; obtain ⟨x60, x61, x62⟩ := X6.read) | (go_at_call 18; (with_reducible refine (hRt _ r6).mono ?_); rintro e w7 ⟨⟨v7, rfl, O7⟩, HB7⟩; obtain ⟨A7, c7, hv7, -⟩ := O7.rd; rw [hm6] at hv7; subst hv7; have i67 := O6.rdl.below HB7; have i77 := O7.rdl; have i27 := i26.below HB7; have i37 := i36.below HB7; have i47 := i46.below HB7; have i57 := i56.below HB7; have P7 := P6.below HB7; have Q7 := Q6.below HB7; have T7 := T6.below HB7; have X7 := X6.below HB7; have r7 := r6.below HB7; have y7 := y6.below HB7; have C7 := stq C6 HB7; obtain ⟨t70, t71, t72⟩ := T7.read; obtain ⟨x70, x71, x72⟩ := X7.read; obtain ⟨p70, p71, p72, -, -, -⟩ := P7.read; obtain ⟨q70, q71, q72, -, -, -⟩ := Q7.read) | (go_at_call 19; (with_reducible refine (hSi A2 A3 c2 c3 _ FUL w7 hm2 i27 i37 hLF.1).mono ?_); rintro e w8 ⟨rfl, HB8⟩; have i68 := i67.below HB8; have i78 := i77.below HB8; have i28 := i27.below HB8; have i38 := i37.below HB8; have i48 := i47.below HB8; have i58 := i57.below HB8; have P8 := P7.below HB8; have Q8 := Q7.below HB8; have T8 := T7.below HB8; have X8 := X7.below HB8; have r8 := r7.below HB8; have y8 := y7.below HB8; have C8 := stq C7 HB8; obtain ⟨t80, t81, t82⟩ := T8.read; obtain ⟨x80, x81, x82⟩ := X8.read; obtain ⟨p80, p81, p82, -, -, -⟩ := P8.read; obtain ⟨q80, q81, q82, -, -, -⟩ := Q8.read) | (go_at_call 11; (with_reducible refine (num_any _ _).mono ?_); rintro e w' ⟨rfl, rfl⟩) | (go_at_call 20; (with_reducible refine (hSp A4 A5 c4 c5 _ (k : Int) BOT INP w8 hm4 i48 i58 (by rw [← hm4]; exact hLI.2)).mono ?_); rintro e w9 ⟨rfl, HB9⟩; have i69 := i68.below HB9; have i79 := i78.below HB9; have i29 := i28.below HB9; have i39 := i38.below HB9; have i49 := i48.below HB9; have i59 := i58.below HB9; have P9 := P8.below HB9; have Q9 := Q8.below HB9; have T9 := T8.below HB9; have X9 := X8.below HB9; have r9 := r8.below HB9; have y9 := y8.below HB9; have C9 := stq C8 HB9; obtain ⟨t90, t91, t92⟩ := T9.read; obtain ⟨x90, x91, x92⟩ := X9.read) | (go_at_call 19; (with_reducible refine (hSi A6 A7 c6 c7 _ TOU w9 hm6 i69 i79 hLT.1).mono ?_); rintro e wa ⟨rfl, HBa⟩; have i2a := i29.below HBa; have i3a := i39.below HBa; have i4a := i49.below HBa; have i5a := i59.below HBa; have Pa := P9.below HBa; have Qa := Q9.below HBa; have Ta := T9.below HBa; have Xa := X9.below HBa; have ra := r9.below HBa; have ya := y9.below HBa; have Ca := stq C9 HBa; obtain ⟨ta0, ta1, ta2⟩ := Ta.read; obtain ⟨xa0, xa1, xa2⟩ := Xa.read) | (go_at_call 21; (with_reducible refine (hAk _ _ _ _ _ ya ra).mono ?_); rintro e wb ⟨rfl, HBb⟩; have Cb := stq Ca HBb) | (go_at_call 8; (with_reducible refine (alive_any _).mono ?_); rintro e wc ⟨rfl, HBc⟩; have Cc := stq Cb HBc))
      go_ret
      exact ⟨by first | rfl | simp, Cc⟩
  · have hCh := fun A c W (h : RdM W A c l) => ChooseN_any A c n seq nx l W hn h hf hl (.inl hz)
    have hRc := fun W (h : RdM W A c l) => rChooseN_any A c n seq nx l W hn h hl (.inl hz)
    simp only [hz, ne_eq, not_false_eq_true, true_and, false_and, or_false] at hFl hRf hTo hRt
    generalize chkM l seq nx = z at *
    have hnl : ∀ W, RdI W none 0 [] := fun W => Rd.zero _ _ _ _
    clear hn hf hl hr hz hlv hlow hhigh
    go_enter Try.func6, Try.ntmps6
    go_wp2_with (first | (go_at_call 10; (with_reducible refine (hOf _ r0).mono ?_); rintro e w1 ⟨A1, c1, rfl, O1, HB1⟩; have bx := below_alloc w1 (verO A1 n c1 seq nx); have X1 : Tb (w1.alloc (verO A1 n c1 seq nx)) w1.heap.size A1 n c1 seq nx := heap_alloc_new _ _; have C1 := stq (stq b0 HB1) bx; have T1 := (T0.below HB1).below bx; have r1 := (r0.below HB1).below bx; have y1 := O1.rdl.below bx; obtain ⟨t10, t11, t12⟩ := T1.read; obtain ⟨x10, x11, x12⟩ := X1.read) | (go_at_call 14; (with_reducible refine (hFl _ _ _ y1).mono ?_); rintro e w2 ⟨rfl, HB2⟩; have C2 := stq C1 HB2; have T2 := T1.below HB2; have X2 := X1.below HB2; have r2 := r1.below HB2; have y2 := y1.below HB2; obtain ⟨t20, t21, t22⟩ := T2.read; obtain ⟨x20, x21, x22⟩ := X2.read) | (go_at_call 15; (with_reducible refine (hRf _ r2).mono ?_); rintro e w3 ⟨rfl, HB3⟩; have C3 := stq C2 HB3; have T3 := T2.below HB3; have X3 := X2.below HB3; have r3 := r2.below HB3; have y3 := y2.below HB3; obtain ⟨t30, t31, t32⟩ := T3.read; obtain ⟨x30, x31, x32⟩ := X3.read) | (go_at_call 9; (with_reducible refine (hCh _ _ _ y3).mono ?_); rintro e w4 ⟨rfl, HB4⟩; have bp := below_alloc w4 (.cells #[.int .i64 0, .slice none 0 0, .bool false] 28); have P4 : Pl (w4.alloc (.cells #[.int .i64 0, .slice none 0 0, .bool false] 28)) w4.heap.size  0 (.slice none 0 0) (false) := heap_alloc_new _ _; have C4 := stq (stq C3 HB4) bp; have T4 := (T3.below HB4).below bp; have X4 := (X3.below HB4).below bp; have r4 := (r3.below HB4).below bp; have y4 := (y3.below HB4).below bp; obtain ⟨t40, t41, t42⟩ := T4.read; obtain ⟨x40, x41, x42⟩ := X4.read) | (go_at_call 16; (with_reducible refine (hRc _ r4).mono ?_); rintro e w5 ⟨rfl, HB5⟩; have bq := below_alloc w5 (plo 0 (.slice none 0 0) false); have Q5 : Pr (w5.alloc (plo 0 (.slice none 0 0) false)) w5.heap.size 0 (.slice none 0 0) false := heap_alloc_new _ _; have P5 := (P4.below HB5).below bq; have C5 := stq (stq C4 HB5) bq; have T5 := (T4.below HB5).below bq; have X5 := (X4.below HB5).below bq; have r5 := (r4.below HB5).below bq; have y5 := (y4.below HB5).below bq; obtain ⟨t50, t51, t52⟩ := T5.read; obtain ⟨x50, x51, x52⟩ := X5.read) | (go_at_call 17; (with_reducible refine (hTo _ _ _ y5).mono ?_); rintro e w6 ⟨rfl, HB6⟩; have P6 := P5.below HB6; have Q6 := Q5.below HB6; have T6 := T5.below HB6; have X6 := X5.below HB6; have r6 := r5.below HB6; have y6 := y5.below HB6; have C6 := stq C5 HB6; obtain ⟨t60, t61, t62⟩ := T6.read; obtain ⟨x60, x61, x62⟩ := X6.read) | (go_at_call 18; (with_reducible refine (hRt _ r6).mono ?_); rintro e w7 ⟨rfl, HB7⟩; have P7 := P6.below HB7; have Q7 := Q6.below HB7; have T7 := T6.below HB7; have X7 := X6.below HB7; have r7 := r6.below HB7; have y7 := y6.below HB7; have C7 := stq C6 HB7; obtain ⟨t70, t71, t72⟩ := T7.read; obtain ⟨x70, x71, x72⟩ := X7.read; obtain ⟨p70, p71, p72, -, -, -⟩ := P7.read; obtain ⟨q70, q71, q72, -, -, -⟩ := Q7.read) | (go_at_call 19; (with_reducible refine (hSi none none 0 0 0 [] w7 rfl (hnl _) (hnl _) (Nat.zero_le _)).mono ?_); rintro e w8 ⟨rfl, HB8⟩; have P8 := P7.below HB8; have Q8 := Q7.below HB8; have T8 := T7.below HB8; have X8 := X7.below HB8; have r8 := r7.below HB8; have y8 := y7.below HB8; have C8 := stq C7 HB8; obtain ⟨t80, t81, t82⟩ := T8.read; obtain ⟨x80, x81, x82⟩ := X8.read; obtain ⟨p80, p81, p82, -, -, -⟩ := P8.read; obtain ⟨q80, q81, q82, -, -, -⟩ := Q8.read) | (go_at_call 11; (with_reducible refine (num_any _ _).mono ?_); rintro e w' ⟨rfl, rfl⟩) | (go_at_call 20; (with_reducible refine (hSp none none 0 0 0 0 false [] w8 rfl (Rd.zero _ _ _ _) (Rd.zero _ _ _ _) (Nat.zero_le _)).mono ?_); rintro e w9 ⟨rfl, HB9⟩; have P9 := P8.below HB9; have Q9 := Q8.below HB9; have T9 := T8.below HB9; have X9 := X8.below HB9; have r9 := r8.below HB9; have y9 := y8.below HB9; have C9 := stq C8 HB9; obtain ⟨t90, t91, t92⟩ := T9.read; obtain ⟨x90, x91, x92⟩ := X9.read) | (go_at_call 19; (with_reducible refine (hSi none none 0 0 0 [] w9 rfl (hnl _) (hnl _) (Nat.zero_le _)).mono ?_); rintro e wa ⟨rfl, HBa⟩; have Pa := P9.below HBa; have Qa := Q9.below HBa; have Ta := T9.below HBa; have Xa := X9.below HBa; have ra := r9.below HBa; have ya := y9.below HBa; have Ca := stq C9 HBa; obtain ⟨ta0, ta1, ta2⟩ := Ta.read; obtain ⟨xa0, xa1, xa2⟩ := Xa.read) | (go_at_call 21; (with_reducible refine (hAk _ _ _ _ _ ya ra).mono ?_); rintro e wb ⟨rfl, HBb⟩; have Cb := stq Ca HBb) | (go_at_call 8; (with_reducible refine (alive_any _).mono ?_); rintro e wc ⟨rfl, HBc⟩; have Cc := stq Cb HBc))
    go_ret
    exact ⟨by first | rfl | simp, Cc⟩
end Go.Proofs.Ytbhhnlgpbhbcmaa
end
