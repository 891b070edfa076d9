/- The contracts that the laws of this seat share: octets, sums, numbers, records. -/
import Derived.Test.YtefcepjffeiaoaaMgB
import Derived.Test.YtefcepjffeiaoaaMgA
import Derived.Deep.RegionLaw
set_option linter.unusedVariables false
set_option linter.unusedSimpArgs false
section
/- Table: the walk of Build. -/
namespace Go.Proofs.Ytefcepjffeiaoaa
open Go.RowKit Go.Shelf Go.Proofs.YtefcepjffeiaoaaW.PrintWords
set_option linter.unusedVariables false
attribute [local go_sem] Oper.semAt_some

theorem leaves_nil {F : Fence} {n : Nat} {P : Program} {fn : Func} {tmps : Array Value} {R : Ending → World → Prop} {w : World} (v : Value) (h : (results fn tmps).run P w = .ok v w) (hR : R (.returned v) w) : LeavesInM F n P fn tmps R [] .returning w := ⟨v, h, hR⟩
theorem bytes_stp (W : World) (s : ByteArray) : Below W.heap.size W (Lib.bytesWorld W 5 s) := bytes_below (Below.refl _ _) (Nat.le_refl _) _ _
theorem bytes_rd (W : World) (s : ByteArray) (hs : s.size ≤ 1000000) : RdB (Lib.bytesWorld W 5 s) (some ⟨W.heap.size, 0, none⟩) (grownCap W s.size 0 5) (bl s) := by
  have hl := bl_length s
  refine ⟨by rw [hl]; exact grownCap_ge W s.size 0 _, rfl, by rw [hl]; omega, fun _ => ⟨_, rfl, fun j hj => ?_⟩⟩
  rw [hl] at hj
  rw [add_plain, Lib.bytesWorld_cell W _ s j hj]
  rfl
theorem blocks_fit (l : List Ent) (h : tabE l = 0) (k : Nat) (hk : k < nparts l.length) : (blocksB l k).length + (blkX (part l k)).length ≤ 140737488355328 ∧ (indexB l k).length + (put (blkX (part l k)).length).length + (put (keyAt l (16 * k)).size).length + (bl (keyAt l (16 * k))).length ≤ 140737488355328 ∧ (blkX (part l k)).length ≤ 10500 ∧ (keyAt l (16 * k)).size ≤ 96 := by
  have h1 := blocksB_le l h k (by omega)
  have h2 := indexB_le l h k (by omega)
  have h3 := nparts_le l h
  obtain ⟨p1, p2, p3⟩ := part_chk l h k hk
  have h4 := blkX_length _ p1 p3
  have v1 := vsize_le (blkX (part l k)).length
  have v2 := vsize_le (keyAt l (16 * k)).size
  obtain ⟨t1, t2, t3⟩ := tabE_ok l h
  obtain ⟨m1, m2, _⟩ := (ordE_may l t3 (16 * k) (by unfold nparts at hk; omega)).1
  have hks : (keyAt l (16 * k)).size ≤ 96 := m2
  rw [put_length, put_length, bl_length]
  exact ⟨by omega, by omega, h4, hks⟩
theorem u64_facts (a b : Nat) (ha : a ≤ 1000000) (hb : b ≤ 1000000) : IntKind.u64.wrap (a : Int) = (a : Int) ∧ (a : Int) % 18446744073709551616 = (a : Int) ∧ IntKind.u64.wrap (b : Int) = (b : Int) ∧ (b : Int) % 18446744073709551616 = (b : Int) := ⟨by rw [IntKind.wrap_u64]; omega, by omega, by rw [IntKind.wrap_u64]; omega, by omega⟩
/-- a round's end -/
theorem fin_round {g0 k : Nat} {l : List Ent} {w1 W w10 Y wC : World} {v5 vC v6 : Value} (kp : Keeps (fun j => j = g0 + 1 + 1 ∨ j = g0 + 1 + 1 + 1) (g0 + 4) W w10) (j10 : Below g0 w1 w10) (u5 : w10.heap[g0]? = some (.cells #[v5] 23)) (u6 : w10.heap[g0 + 1]? = some (.cells #[v6] 23))
    (O5 : OwB w10 (g0 + 6) v5 (blocksB l (k + 1))) (OC : OwB wC Y.heap.size vC (indexB l (k + 1))) (QC : Below w10.heap.size w10 wC) (q1 : w10.heap.size ≤ Y.heap.size) (hDW : g0 + 4 + 2 ≤ W.heap.size) (hs : W.heap.size ≤ w10.heap.size) :
    Keeps (fun j => j = g0 + 1 + 1 ∨ j = g0 + 1 + 1 + 1) (g0 + 4) W (wC.setCell ⟨g0 + 1, 0, none⟩ vC) ∧ Below g0 w1 (wC.setCell ⟨g0 + 1, 0, none⟩ vC) ∧ ∃ v5 v6, (wC.setCell ⟨g0 + 1, 0, none⟩ vC).heap[g0]? = some (.cells #[v5] 23) ∧ (wC.setCell ⟨g0 + 1, 0, none⟩ vC).heap[g0 + 1]? = some (.cells #[v6] 23) ∧ OwB (wC.setCell ⟨g0 + 1, 0, none⟩ vC) (g0 + 6) v5 (blocksB l (k + 1)) ∧ OwB (wC.setCell ⟨g0 + 1, 0, none⟩ vC) (g0 + 6) v6 (indexB l (k + 1)) ∧ Dis v5 v6 := by
  have l5 := blk_lt u5
  have l6 := blk_lt u6
  have uC5 := (QC.block g0 l5).trans u5
  have uC6 := (QC.block (g0 + 1) l6).trans u6
  have O5C := OwB.below O5 QC
  refine ⟨⟨by rw [World.size_setCell]; have := kp.size; have := QC.size; omega, fun j hj hl => ?_⟩, ?_, v5, vC, ?_, ?_, ?_, ?_, ?_⟩
  · rw [Below.heap_setCell _ _ _ _ (show j ≠ g0 + 1 by omega), QC.block j (by omega)]
    exact kp.block j hj hl
  · exact (j10.trans (QC.mono (by omega))).setCell (p := ⟨g0 + 1, 0, none⟩) (Nat.le_succ _) _
  · exact (Below.heap_setCell _ _ _ _ (show g0 ≠ g0 + 1 by omega)).trans uC5
  · exact blk_set uC6 0 _
  · exact own_setCell O5C (fun e => by have := own_base O5C _ e.symm; simp at this) _
  · exact own_setCell (OC.lower (by omega)) (fun e => by have := own_base OC _ e.symm; simp at this; omega) _
  · intro j h1 h2
    have a1 := own_base OC j h2
    have a2 := own_lt O5 j h1
    omega
set_option maxRecDepth 100000 in
set_option maxHeartbeats 12800000 in
theorem Build_ok (A : Option Addr) (c n : Nat) (l : List Ent) (w : World) (hn : l.length = n) (hr : RdE w A c l) (hT : tabE l = 0) :
    Calls Try.prog 11 #[.slice A n c] w fun e w' => ∃ v, e = .returned (.tuple #[v, .int .i64 0]) ∧ OwB w' w.heap.size v (tabB l) ∧ Below w.heap.size w w' := by
  obtain ⟨t1, t2, t3⟩ := tabE_ok l hT
  have HN := hide hn
  obtain ⟨ad, rfl, -, -, -, -⟩ := hr.at4 0 (by omega)
  have mixed : Try.prog.follows .mixedOrders = true := by kernel_rfl
  have hOr := fun W (HB : Below w.heap.size w W) => Ordered_any (some ad) c n l W hn (hr.below HB) (by omega)
  rw [t3] at hOr
  rw [hn] at t1 t2
  have i1 : ¬ (n : Int) < 1 := by omega
  have i2 : ¬ 4096 < (n : Int) := by omega
  clear hn
  refine (callsIn_wide (n := 9)).1 ?_
  refine callsIn_of_wp_marks Try.func11 rfl trivial ?_ rfl
  simp only [Try.ntmps11, List.size_toArray, List.length_cons, List.length_nil, Nat.reduceAdd, Nat.reduceSub, Array.replicate_succ, Array.replicate_zero, List.push_toArray, List.append_toArray, List.nil_append, List.cons_append]
  gi_wp2_with (first | (refine ⟨trivial, ?_⟩; gi_at_call 26; refine (callsIn_wide.2 (hOr _ (Below.refl _ _))).mono ?_; rintro e w1 ⟨rfl, HB1⟩) | (refine ⟨trivial, ?_⟩; gi_at_call 27; refine (callsIn_wide.2 (Chunk_any (some ad) n c _)).mono ?_; rintro e w2 ⟨rfl, hsz2, hbx, HB2⟩))
  obtain ⟨g0, hg0⟩ : ∃ g0, w1.heap.size = g0 := ⟨_, rfl⟩
  simp only [World.size_alloc, hg0] at hsz2 hbx HB2 ⊢
  have q0 : w2.heap[g0]? = some (.cells #[.slice none 0 0] 23) := by
    rw [HB2.block g0 (by omega), Below.heap_alloc _ _ _ (by simp [hg0]), ← hg0]; exact heap_alloc_new w1 _
  have q1 : w2.heap[g0 + 1]? = some (.cells #[.slice none 0 0] 23) := by
    rw [HB2.block (g0 + 1) (by omega)]
    have := heap_alloc_new (w1.alloc (.cells #[.slice none 0 0] 23)) (.cells #[.slice none 0 0] 23)
    rwa [World.size_alloc, hg0] at this
  have B2 : Below g0 w1 w2 := ((((Below.refl g0 w1).alloc (by omega) _).alloc (by rw [World.size_alloc]; omega) _)).trans (HB2.mono (by omega))
  have B1 := HB1.size
  have hD : w2.heap.size = g0 + 4 := by omega
  have hn6 : n ≤ 1000000 := by omega
  have hnc : n ≤ c := by have := hr.le; rw [HN.out] at this; exact this
  have B0 : Below w.heap.size w w2 := HB1.trans (B2.mono (by omega))
  refine range_iterV (D := g0 + 4) (gf := 64) (lb := iterC (g0 + 1 + 1)) (N := nparts n) (own := fun j => j = g0 + 1 + 1 ∨ j = g0 + 1 + 1 + 1) (V := fun k _ vs _ => vs = valsC (some ad) n k) hD rfl (enters_of Try.func64 (by kernel_rfl) rfl) (fun k bd vs W e => by rw [e]; rfl)
    (iterC_any (some ad) n c (g0 + 1 + 1) w2 hbx hn6 hnc (by omega))
    (fun k W => Below g0 w1 W ∧ ∃ v5 v6, W.heap[g0]? = some (.cells #[v5] 23) ∧ W.heap[g0 + 1]? = some (.cells #[v6] 23) ∧ OwB W (g0 + 6) v5 (blocksB l k) ∧ OwB W (g0 + 6) v6 (indexB l k) ∧ Dis v5 v6)
    (fun _ _ => False)
    (fun k X Y h ⟨i1, v5, v6, i2, i3, i4, i5, i6⟩ => ⟨i1.trans (h.below.mono (by omega)), v5, v6, (h.below.block _ (by omega)).trans i2, (h.below.block _ (by omega)).trans i3, own_move i4 (fun j hj => h.past j (own_base i4 j hj) (own_lt i4 j hj)), own_move i5 (fun j hj => h.past j (own_base i5 j hj) (own_lt i5 j hj)), i6⟩)
    (fun _ _ _ _ h => h)
    (fun k bd vs X Y hb h e => e)
    ⟨B2, _, _, q0, q1, OwB.zero _ _, OwB.zero _ _, Dis.nil _⟩
    (fun k bd a₁ W => a₁ = { tmps := #[.slice (some ad) n c, undef, .slice none 0 0, .int .i64 0, .int .i64 0, .pointer (some ⟨g0, 0, none⟩), .pointer (some ⟨g0 + 1, 0, none⟩), .slice (some (ad.add (16 * k * 4))) (endN n k) (endN n k), undef, undef, undef, undef, undef, undef, undef, undef, undef, .slice (some ad) n c, .int .i64 (n : Int), .bool false, .bool false, .slice (some ad) n c, .int .i64 (n : Int), .bool false, .bool false, .slice (some ad) n c, .int .i64 0, .int .i64 0, .bool false, undef, .slice (some ad) n c, .func (.func 64) #[] (iterC (g0 + 1 + 1)), .slice (some (ad.add (16 * k * 4))) (endN n k) (endN n k), undef, undef, undef, undef, undef, undef, undef, undef, undef, undef, undef, undef, undef, undef, undef, undef, undef, undef, undef, undef, undef, undef, undef, undef, undef, undef, undef, undef, undef, undef, undef, undef, undef, undef, undef, undef, undef, undef, undef, undef, undef, undef, undef, undef, undef, undef, undef, undef, undef, undef, undef, undef, undef, undef, undef, undef, undef, undef, undef], defers := [] })
    (fun k bd a₁ X Y hb h e => e)
    ?assign ?body ?done ?stop
  case assign =>
    intro l1 k bd vs W KK hk hbd hDW hV hK
    subst hV
    unfold valsC
    gi_wp2
    exact hK _ _ (Below.refl _ _) rfl
  case body =>
    intro l1 k bd a₁ W hk hbd hDW hAsg hI
    subst hAsg
    obtain ⟨j1, v5, v6, j2, j3, j4, j5, j6⟩ := hI
    have hlt : 16 * k < n := by unfold nparts at hk; omega
    have hkN : k < nparts l.length := by rw [HN.out]; exact hk
    have BW : Below w.heap.size w W := HB1.trans (j1.mono (by omega))
    obtain ⟨p1, p2⟩ := part_rd (some ad) c n l W HN.out (hr.below BW) k hlt
    obtain ⟨c1, -, -⟩ := part_chk l hT k hkN
    obtain ⟨m1, m2, m3, m4⟩ := blocks_fit l hT k hkN
    have hEn := Encode_any _ (endN n k) (endN n k) (part l k) W p1 p2 (by unfold endN; omega)
    rw [c1] at hEn
    have hS5 : blocksB l (k + 1) = blocksB l k ++ blkX (part l k) := rfl
    have hS6 : indexB l (k + 1) = indexB l k ++ (put (blkX (part l k)).length ++ (put (keyAt l (16 * k)).size ++ bl (keyAt l (16 * k)))) := by
      rw [indexB, rowB]; simp only [List.append_assoc]
    have H5 := hide hS5
    have H6 := hide hS6
    clear hS5 hS6 c1
    have e0 : 0 < endN n k := by unfold endN; omega
    have e0i : (0 : Int) < (endN n k : Int) := Int.ofNat_lt.2 e0
    obtain ⟨ad', had', x0w, -, -, -⟩ := hr.at4 (16 * k) (by rw [HN.out]; exact hlt)
    injection had' with had'
    subst had'
    have x0l := World.block_lt_of_cell? _ _ x0w
    have hkw : (l.getD (16 * k) zEnt).1 = keyAt l (16 * k) := rfl
    rw [hkw] at x0w
    obtain ⟨X8, hX8⟩ : ∃ X8, blkX (part l k) = X8 := ⟨_, rfl⟩
    obtain ⟨ky, hky⟩ : ∃ ky, keyAt l (16 * k) = ky := ⟨_, rfl⟩
    rw [hX8] at hEn m1 m2 m3 H5 H6
    rw [hky] at m2 m4 H6 x0w
    obtain ⟨n8, hn8⟩ : ∃ n8, X8.length = n8 := ⟨_, rfl⟩
    have y3 := blk_frozen j2 0
    have y4 := blk_frozen j3 0
    obtain ⟨A5, c5, hv5, -⟩ := j4.rd
    obtain ⟨A6, c6, hv6, r6⟩ := j5.rd
    obtain ⟨n5, hn5⟩ : ∃ n5, (blocksB l k).length = n5 := ⟨_, rfl⟩
    obtain ⟨n6, hn6⟩ : ∃ n6, (indexB l k).length = n6 := ⟨_, rfl⟩
    rw [hn5] at hv5
    rw [hn6] at hv6
    subst hv5
    subst hv6
    gi_wp2_with (first | (refine ⟨trivial, ?_⟩; gi_at_call 28; refine (CallsIn.inRound l1 (callsIn_wide.2 hEn)).mono ?_; rintro e w8 ⟨v8, rfl, O8, HB8⟩; obtain ⟨A8, c8, hv8, r8⟩ := O8.rd; rw [hn8] at hv8; subst hv8; have k2 := (HB8.block _ (blk_lt j2)).trans j2; have k3 := (HB8.block _ (blk_lt j3)).trans j3; have k4 := OwB.below j4 HB8; have k5 := OwB.below j5 HB8; obtain ⟨v9, w9, hap, O9, hg9, hat9⟩ := row_run (W := w8) (g0 + 6) 23 _ (blocksB l k) X8 A8 n8 c8 hn8 k4 r8 (Nat.le_trans hDW HB8.size) (by rw [← hn8]; exact m1); have y0 := blk_cell k2 0; have b9 : Below (g0 + 6) w8 w9 := (Below.refl (g0 + 6) w8).grown hg9 (Nat.le_trans hDW HB8.size) (fun j e => own_base k4 j e); have q2 := (b9.block g0 (by omega)).trans k2; have q3 := (b9.block (g0 + 1) (by omega)).trans k3; have y1 := blk_cell q2 0; have y2 := blk_frozen q2 0; obtain ⟨A9, c9, hv9, -⟩ := O9.rd; generalize (blocksB l k ++ X8).length = n9 at hv9; subst hv9; have B10 : Below w.heap.size w (w9.setCell ⟨g0, 0, none⟩ (.slice A9 n9 c9)) := (BW.trans ((HB8.mono BW.size).trans (b9.mono (by omega)))).setCell (p := ⟨g0, 0, none⟩) (show w.heap.size ≤ g0 by omega) _; have x0 := (B10.cell x0l).trans x0w) | (gi_at_builtin; refine app_stepIn rfl (.tmp 38) (.tmp 39) 23 23 rfl rfl rfl hap ?_))
    obtain ⟨w10, hw10⟩ : ∃ z, w9.setCell ⟨g0, 0, none⟩ (.slice A9 n9 c9) = z := ⟨_, rfl⟩
    rw [hw10] at x0 B10 ⊢
    have s9 := b9.size
    have s10 : w10.heap.size = w9.heap.size := by rw [← hw10, World.size_setCell]
    have u5 : w10.heap[g0]? = some (.cells #[.slice A9 n9 c9] 23) := by rw [← hw10]; exact blk_set q2 0 _
    have u6 : w10.heap[g0 + 1]? = some (.cells #[.slice A6 n6 c6] 23) := by rw [← hw10]; exact (Below.heap_setCell _ _ _ _ (show g0 + 1 ≠ g0 by omega)).trans q3
    have O5 : OwB w10 (g0 + 6) (.slice A9 n9 c9) (blocksB l (k + 1)) := by
      rw [← hw10, H5.out]
      exact own_setCell O9 (fun e => by have := own_base O9 _ e.symm; simp at this; omega) _
    have O6 : OwB w10 (g0 + 6) (.slice A6 n6 c6) (indexB l k) := by
      rw [← hw10]
      exact own_setCell (k5.apart j6 hg9) (fun e => by have := own_base j5 _ e.symm; simp at this; omega) _
    have kp : Keeps (fun j => j = g0 + 1 + 1 ∨ j = g0 + 1 + 1 + 1) (g0 + 4) W w10 := by
      refine ⟨by have := HB8.size; omega, fun j hj hl => ?_⟩
      have hj6 : j < g0 + 6 ∧ j ≠ g0 := by omega
      rw [← hw10, Below.heap_setCell _ _ _ _ hj6.2, b9.block j hj6.1]
      exact HB8.block j (by omega)
    have s8 := HB8.size
    have s10g : W.heap.size ≤ w10.heap.size := by omega
    have j10 : Below g0 w1 w10 := by
      rw [← hw10]
      exact ((j1.trans ((HB8.mono (by omega)).trans (b9.mono (by omega)))).setCell (p := ⟨g0, 0, none⟩) (Nat.le_refl _) _)
    have r6w := O6.rdl
    have hP8 := fun W => Put_any n8 (by omega) W
    have hPk := fun W => Put_any ky.size (by omega) W
    obtain ⟨L8, hL8⟩ : ∃ L8, (put n8).length = L8 := ⟨_, rfl⟩
    obtain ⟨Lk, hLk⟩ : ∃ Lk, (put ky.size).length = Lk := ⟨_, rfl⟩
    have hks6 : ky.size ≤ 1000000 := by omega
    have hlt6 : g0 + 1 < w10.heap.size := blk_lt u6
    have hc6 : ∀ Y, Below w10.heap.size w10 Y → Y.cell? ⟨g0 + 1, 0, none⟩ = some (.slice A6 n6 c6) := fun Y h => (h.cell hlt6).trans (blk_cell u6 0)
    obtain ⟨z1, z2, z3, z4⟩ := u64_facts n8 ky.size (by omega) (by omega)
    have hd0 : Below w10.heap.size w10 w10.drew := (Below.refl _ _).drew
    have hsum : (indexB l k).length + (put n8).length + (put ky.size).length + (bl ky).length ≤ 140737488355328 := by rw [← hn8]; exact m2
    have HSUM := hide hsum
    have H6' : indexB l (k + 1) = indexB l k ++ (put n8 ++ (put ky.size ++ bl ky)) := by rw [H6.out, hn8]
    have H6h := hide H6'
    have E6 := hide hn6
    have E8 := hide hL8
    have Ek := hide hLk
    clear hsum H6' hn6 hL8 hLk hn5 hn8 hX8 hky hw10 hap q2 q3 y0 y1 y2 y3 y4 x0 k2 k3 k4 k5 m1 m2 m3 hat9 hg9 O9 O8 r8 hEn j2 j3 j4 j5 r6 j6 p1 p2 e0 e0i x0w x0l hOr hr b9 H5 H6 s8 s9 HB8 hkw BW hkN hlt
    refine region_in_round_T (fun _ => True) _ mixed (by kernel_rfl) (fun _ _ h => h) (fun T hT => ?_)
    obtain ⟨w11, hw11⟩ : ∃ z, w10.drew = z := ⟨_, rfl⟩
    rw [hw11]
    have Q0 : Below w10.heap.size w10 w11 := by rw [← hw11]; exact hd0
    have r6 := r6w.below Q0
    have sz : Hid (T.size = 92) := by rw [hT]; exact hide rfl
    have f6 : T[6]?.getD undef = .pointer (some ⟨g0 + 1, 0, none⟩) := by rw [hT]; rfl
    have f8 : T[8]?.getD undef = .slice A8 n8 c8 := by rw [hT]; rfl
    have f10 : T[10]?.getD undef = .string ky := by rw [hT]; rfl
    rename_i qa ka aa qb
    clear aa hbx HB2 q0 q1 B2 HB1 hT t1 t2 t3 HN B1 hsz2 hg0 hD hn6 hnc B0 hk hbd j1 B10 s10 O6 hw11 hd0 r6w
    refine wpAnyH_take (i := 1) (oi := _) (v := .slice A8 n8 c8) rfl (by kernel_rfl) (by kernel_rfl) (by kernel_rfl) (fun _ _ _ h => Nrm.noPanic h) (Or.inl ⟨by rfl, ?hy1⟩) trivial ?rest1
    case hy1 =>
      intro Y _
      go_simp
    case rest1 =>
      change wpAnyH _ _ _ _ _ _ _ ⟨Array.setIfInBounds T 46 (.slice A8 n8 c8), _⟩ _
      generalize hTT1 : Array.setIfInBounds T 46 (.slice A8 n8 c8) = T1
      have g6 := set_ne hTT1 (by decide) f6
      have g10 := set_ne hTT1 (by decide) f10
      have g46 := set_same hTT1 sz.out (by decide)
      have szT1 := hide (set_size hTT1 sz.out)
      clear f6 f8 f10 hTT1 sz
      have f6 := g6
      have f10 := g10
      have f46 := g46
      clear g6 g10 g46
      refine wpAnyH_take (i := 2) (oi := _) (v := .int .i64 (n8 : Int)) rfl (by kernel_rfl) (by kernel_rfl) (by kernel_rfl) (fun _ _ _ h => Nrm.noPanic h) (Or.inl ⟨by rfl, ?hy2⟩) trivial ?rest2
      case hy2 =>
        intro Y _
        go_simp
      case rest2 =>
        change wpAnyH _ _ _ _ _ _ _ ⟨Array.setIfInBounds T1 47 (.int .i64 (n8 : Int)), _⟩ _
        generalize hTT2 : Array.setIfInBounds T1 47 (.int .i64 (n8 : Int)) = T2
        have g6 := set_ne hTT2 (by decide) f6
        have g10 := set_ne hTT2 (by decide) f10
        have g47 := set_same hTT2 szT1.out (by decide)
        have szT2 := hide (set_size hTT2 szT1.out)
        clear f6 f10 f46 hTT2 szT1
        have f6 := g6
        have f10 := g10
        have f47 := g47
        clear g6 g10 g47
        refine wpAnyH_take (i := 3) (oi := _) (v := .int .u64 (n8 : Int)) rfl (by kernel_rfl) (by kernel_rfl) (by kernel_rfl) (fun _ _ _ h => Nrm.noPanic h) (Or.inl ⟨by rfl, ?hy3⟩) trivial ?rest3
        case hy3 =>
          intro Y _
          go_simp
        case rest3 =>
          change wpAnyH _ _ _ _ _ _ _ ⟨Array.setIfInBounds T2 48 (.int .u64 (n8 : Int)), _⟩ _
          generalize hTT3 : Array.setIfInBounds T2 48 (.int .u64 (n8 : Int)) = T3
          have g6 := set_ne hTT3 (by decide) f6
          have g10 := set_ne hTT3 (by decide) f10
          have g48 := set_same hTT3 szT2.out (by decide)
          have szT3 := hide (set_size hTT3 szT2.out)
          clear f6 f10 f47 hTT3 szT2
          have f6 := g6
          have f10 := g10
          have f48 := g48
          clear g6 g10 g48
          refine wpAnyH_take (i := 5) (oi := _) (v := .string ky) rfl (by kernel_rfl) (by kernel_rfl) (by kernel_rfl) (fun _ _ _ h => Nrm.noPanic h) (Or.inl ⟨by rfl, ?hy5⟩) trivial ?rest5
          case hy5 =>
            intro Y _
            go_simp
          case rest5 =>
            change wpAnyH _ _ _ _ _ _ _ ⟨Array.setIfInBounds T3 50 (.string ky), _⟩ _
            generalize hTT4 : Array.setIfInBounds T3 50 (.string ky) = T4
            have g6 := set_ne hTT4 (by decide) f6
            have g10 := set_ne hTT4 (by decide) f10
            have g48 := set_ne hTT4 (by decide) f48
            have g50 := set_same hTT4 szT3.out (by decide)
            have szT4 := hide (set_size hTT4 szT3.out)
            clear f6 f10 f48 hTT4 szT3
            have f6 := g6
            have f10 := g10
            have f48 := g48
            have f50 := g50
            clear g6 g10 g48 g50
            refine wpAnyH_take (i := 6) (oi := _) (v := .int .i64 (ky.size : Int)) rfl (by kernel_rfl) (by kernel_rfl) (by kernel_rfl) (fun _ _ _ h => Nrm.noPanic h) (Or.inl ⟨by rfl, ?hy6⟩) trivial ?rest6
            case hy6 =>
              intro Y _
              go_simp
            case rest6 =>
              change wpAnyH _ _ _ _ _ _ _ ⟨Array.setIfInBounds T4 51 (.int .i64 (ky.size : Int)), _⟩ _
              generalize hTT5 : Array.setIfInBounds T4 51 (.int .i64 (ky.size : Int)) = T5
              have g6 := set_ne hTT5 (by decide) f6
              have g10 := set_ne hTT5 (by decide) f10
              have g48 := set_ne hTT5 (by decide) f48
              have g51 := set_same hTT5 szT4.out (by decide)
              have szT5 := hide (set_size hTT5 szT4.out)
              clear f6 f10 f48 f50 hTT5 szT4
              have f6 := g6
              have f10 := g10
              have f48 := g48
              have f51 := g51
              clear g6 g10 g48 g51
              refine wpAnyH_take (i := 7) (oi := _) (v := .int .u64 (ky.size : Int)) rfl (by kernel_rfl) (by kernel_rfl) (by kernel_rfl) (fun _ _ _ h => Nrm.noPanic h) (Or.inl ⟨by rfl, ?hy7⟩) trivial ?rest7
              case hy7 =>
                intro Y _
                go_simp
              case rest7 =>
                change wpAnyH _ _ _ _ _ _ _ ⟨Array.setIfInBounds T5 52 (.int .u64 (ky.size : Int)), _⟩ _
                generalize hTT6 : Array.setIfInBounds T5 52 (.int .u64 (ky.size : Int)) = T6
                have g6 := set_ne hTT6 (by decide) f6
                have g10 := set_ne hTT6 (by decide) f10
                have g48 := set_ne hTT6 (by decide) f48
                have g52 := set_same hTT6 szT5.out (by decide)
                have szT6 := hide (set_size hTT6 szT5.out)
                clear f6 f10 f48 f51 hTT6 szT5
                have f6 := g6
                have f10 := g10
                have f48 := g48
                have f52 := g52
                clear g6 g10 g48 g52
                refine wpAnyH_take (i := 9) (oi := _) (v := .string ky) rfl (by kernel_rfl) (by kernel_rfl) (by kernel_rfl) (fun _ _ _ h => Nrm.noPanic h) (Or.inl ⟨by rfl, ?hy9⟩) trivial ?rest9
                case hy9 =>
                  intro Y _
                  go_simp
                case rest9 =>
                  change wpAnyH _ _ _ _ _ _ _ ⟨Array.setIfInBounds T6 54 (.string ky), _⟩ _
                  generalize hTT7 : Array.setIfInBounds T6 54 (.string ky) = T7
                  have g6 := set_ne hTT7 (by decide) f6
                  have g48 := set_ne hTT7 (by decide) f48
                  have g52 := set_ne hTT7 (by decide) f52
                  have g54 := set_same hTT7 szT6.out (by decide)
                  have szT7 := hide (set_size hTT7 szT6.out)
                  clear f6 f10 f48 f52 hTT7 szT6
                  have f6 := g6
                  have f48 := g48
                  have f52 := g52
                  have f54 := g54
                  clear g6 g48 g52 g54
                  refine wpAnyH_ready (rs := [0, 4, 10]) (by kernel_rfl) (by simp) ?_
                  refine AllReadyH.cons (o := _) rfl (fun K hK => ?_) ?_
                  · have hcY := hc6 _ Q0
                    go_simp
                    refine hK.out _ _ trivial (fun _ => ?_)
                    clear hK K hcY
                    change wpAnyH _ _ _ _ _ _ _ ⟨Array.setIfInBounds T7 45 (.slice A6 n6 c6), _⟩ _
                    generalize hTT8 : Array.setIfInBounds T7 45 (.slice A6 n6 c6) = T8
                    have g6 := set_ne hTT8 (by decide) f6
                    have g48 := set_ne hTT8 (by decide) f48
                    have g52 := set_ne hTT8 (by decide) f52
                    have g54 := set_ne hTT8 (by decide) f54
                    have g45 := set_same hTT8 szT7.out (by decide)
                    have szT8 := hide (set_size hTT8 szT7.out)
                    clear f6 f48 f52 f54 hTT8 szT7
                    have f6 := g6
                    have f48 := g48
                    have f52 := g52
                    have f54 := g54
                    have f45 := g45
                    clear g6 g48 g52 g54 g45
                    refine wpAnyH_ready (rs := [4, 10]) (by kernel_rfl) (by simp) ?_
                    refine AllReadyH.cons (o := _) rfl (fun K hK => ?_) ?_
                    · skip
                      go_simp
                      refine (hP8 _).mono ?_
                      rintro e wA ⟨vA, rfl, OA, HBA⟩
                      obtain ⟨AA, cA, hvA, rA⟩ := OA.rd
                      rw [E8.out] at hvA
                      subst hvA
                      replace r6 := r6.below HBA
                      have Q4 := stp Q0 HBA
                      refine hK.out _ _ trivial (fun _ => ?_)
                      clear hK K
                      change wpAnyH _ _ _ _ _ _ _ ⟨Array.setIfInBounds T8 49 (.slice AA L8 cA), _⟩ _
                      generalize hTT9 : Array.setIfInBounds T8 49 (.slice AA L8 cA) = T9
                      have g6 := set_ne hTT9 (by decide) f6
                      have g52 := set_ne hTT9 (by decide) f52
                      have g54 := set_ne hTT9 (by decide) f54
                      have g45 := set_ne hTT9 (by decide) f45
                      have g49 := set_same hTT9 szT8.out (by decide)
                      have szT9 := hide (set_size hTT9 szT8.out)
                      clear f6 f48 f52 f54 f45 hTT9 szT8
                      have f6 := g6
                      have f52 := g52
                      have f54 := g54
                      have f45 := g45
                      have f49 := g49
                      clear g6 g52 g54 g45 g49
                      refine wpAnyH_ready (rs := [8, 10]) (by kernel_rfl) (by simp) ?_
                      refine AllReadyH.cons (o := _) rfl (fun K hK => ?_) ?_
                      · skip
                        go_simp
                        refine (hPk _).mono ?_
                        rintro e wB ⟨vB, rfl, OB, HBB⟩
                        obtain ⟨AB, cB, hvB, rB⟩ := OB.rd
                        rw [Ek.out] at hvB
                        subst hvB
                        replace r6 := r6.below HBB
                        replace rA := rA.below HBB
                        have Q8 := stp Q4 HBB
                        refine hK.out _ _ trivial (fun _ => ?_)
                        clear hK K
                        change wpAnyH _ _ _ _ _ _ _ ⟨Array.setIfInBounds T9 53 (.slice AB Lk cB), _⟩ _
                        generalize hTT10 : Array.setIfInBounds T9 53 (.slice AB Lk cB) = T10
                        have g6 := set_ne hTT10 (by decide) f6
                        have g54 := set_ne hTT10 (by decide) f54
                        have g45 := set_ne hTT10 (by decide) f45
                        have g49 := set_ne hTT10 (by decide) f49
                        have g53 := set_same hTT10 szT9.out (by decide)
                        have szT10 := hide (set_size hTT10 szT9.out)
                        clear f6 f52 f54 f45 f49 hTT10 szT9
                        have f6 := g6
                        have f54 := g54
                        have f45 := g45
                        have f49 := g49
                        have f53 := g53
                        clear g6 g54 g45 g49 g53
                        refine wpAnyH_ready (rs := [10]) (by kernel_rfl) (by simp) ?_
                        refine AllReadyH.cons (o := _) rfl (fun K hK => ?_) ?_
                        · obtain ⟨wS, AS, cS, hcv, HBS, rS⟩ : ∃ wS AS cS, (convert 9 23 (.string ky)).run Try.prog wB = .ok (.slice AS ky.size cS) wS ∧ Below (World.heap wB).size wB wS ∧ RdB wS AS cS (bl ky) := ⟨_, _, _, print_bytes 9 23 5 Try.underlying9 Try.underlying23 Try.underlying5 ky wB, bytes_stp _ _, bytes_rd _ _ hks6⟩
                          go_simp
                          replace r6 := r6.below HBS
                          replace rA := rA.below HBS
                          replace rB := rB.below HBS
                          have Q10 := stp Q8 HBS
                          refine hK.out _ _ trivial (fun _ => ?_)
                          clear hK K
                          change wpAnyH _ _ _ _ _ _ _ ⟨Array.setIfInBounds T10 55 (.slice AS ky.size cS), _⟩ _
                          generalize hTT11 : Array.setIfInBounds T10 55 (.slice AS ky.size cS) = T11
                          have g6 := set_ne hTT11 (by decide) f6
                          have g45 := set_ne hTT11 (by decide) f45
                          have g49 := set_ne hTT11 (by decide) f49
                          have g53 := set_ne hTT11 (by decide) f53
                          have g55 := set_same hTT11 szT10.out (by decide)
                          have szT11 := hide (set_size hTT11 szT10.out)
                          clear f6 f54 f45 f49 f53 hTT11 szT10
                          have f6 := g6
                          have f45 := g45
                          have f49 := g49
                          have f53 := g53
                          have f55 := g55
                          clear g6 g45 g49 g53 g55
                          refine wpAnyH_ready (rs := [11]) (by kernel_rfl) (by simp) ?_
                          refine AllReadyH.cons (o := _) rfl (fun K hK => ?_) AllReadyH.nil
                          go_simp
                          refine hK.out _ _ trivial (fun _ => ?_)
                          clear hK K
                          change wpAnyH _ _ _ _ _ _ _ ⟨Array.setIfInBounds T11 56 (.slice (some ⟨(World.heap wS).size, 0, none⟩) 4 4), _⟩ _
                          generalize hTT12 : Array.setIfInBounds T11 56 (.slice (some ⟨(World.heap wS).size, 0, none⟩) 4 4) = T12
                          have g6 := set_ne hTT12 (by decide) f6
                          have g56 := set_same hTT12 szT11.out (by decide)
                          have szT12 := hide (set_size hTT12 szT11.out)
                          clear f6 f45 f49 f53 f55 hTT12 szT11
                          have f6 := g6
                          have f56 := g56
                          clear g6 g56
                          refine wpAnyH_ready (rs := [12]) (by kernel_rfl) (by simp) ?_
                          refine AllReadyH.cons (o := _) rfl (fun K hK => ?_) AllReadyH.nil
                          go_simp
                          refine (Concat_four A6 AA AB AS c6 cA cB cS n6 L8 Lk ky.size _ (indexB l k) (put n8) (put ky.size) (bl ky) wS rfl r6 rA rB rS E6.out E8.out Ek.out (bl_length ky) HSUM.out).mono ?_
                          rintro e wC ⟨vC, rfl, OC, HBC⟩
                          have QC := stp Q10 HBC
                          obtain ⟨AC, cC, hvC, -⟩ := OC.rd
                          generalize (indexB l k ++ (put n8 ++ (put ky.size ++ bl ky))).length = nC at hvC
                          subst hvC
                          have uC := (QC.block (g0 + 1) hlt6).trans u6
                          have y7 := blk_cell uC 0
                          have y8 := blk_frozen uC 0
                          rw [← H6h.out] at OC
                          have q1 : w10.heap.size ≤ (World.heap wS).size := Q10.size
                          have R1 := fin_round kp j10 u5 u6 O5 OC QC q1 hDW s10g
                          refine hK.out _ _ trivial (fun _ => ?_)
                          clear hK K
                          change wpAnyH _ _ _ _ _ _ _ ⟨Array.setIfInBounds T12 57 (.slice AC nC cC), _⟩ _
                          generalize hTT13 : Array.setIfInBounds T12 57 (.slice AC nC cC) = T13
                          have g6 := set_ne hTT13 (by decide) f6
                          have g57 := set_same hTT13 szT12.out (by decide)
                          have szT13 := hide (set_size hTT13 szT12.out)
                          clear f6 f56 hTT13 szT12
                          have f6 := g6
                          have f57 := g57
                          clear g6 g57
                          refine wpAnyH_ready (rs := [13]) (by kernel_rfl) (by simp) ?_
                          refine AllReadyH.cons (o := _) rfl (fun K hK => ?_) AllReadyH.nil
                          go_simp
                          refine hK.out _ _ trivial (fun _ => ?_)
                          clear hK K
                          refine wpAnyH_done (by kernel_rfl) ⟨rfl, ?_⟩ _
                          exact R1
                        exact AllReadyH.nil
                      refine AllReadyH.cons (o := _) rfl (fun K hK => ?_) ?_
                      · obtain ⟨wS, AS, cS, hcv, HBS, rS⟩ : ∃ wS AS cS, (convert 9 23 (.string ky)).run Try.prog wA = .ok (.slice AS ky.size cS) wS ∧ Below (World.heap wA).size wA wS ∧ RdB wS AS cS (bl ky) := ⟨_, _, _, print_bytes 9 23 5 Try.underlying9 Try.underlying23 Try.underlying5 ky wA, bytes_stp _ _, bytes_rd _ _ hks6⟩
                        go_simp
                        replace r6 := r6.below HBS
                        replace rA := rA.below HBS
                        have Q10 := stp Q4 HBS
                        refine hK.out _ _ trivial (fun _ => ?_)
                        clear hK K
                        change wpAnyH _ _ _ _ _ _ _ ⟨Array.setIfInBounds T9 55 (.slice AS ky.size cS), _⟩ _
                        generalize hTT14 : Array.setIfInBounds T9 55 (.slice AS ky.size cS) = T14
                        have g6 := set_ne hTT14 (by decide) f6
                        have g52 := set_ne hTT14 (by decide) f52
                        have g45 := set_ne hTT14 (by decide) f45
                        have g49 := set_ne hTT14 (by decide) f49
                        have g55 := set_same hTT14 szT9.out (by decide)
                        have szT14 := hide (set_size hTT14 szT9.out)
                        clear f6 f52 f54 f45 f49 hTT14 szT9
                        have f6 := g6
                        have f52 := g52
                        have f45 := g45
                        have f49 := g49
                        have f55 := g55
                        clear g6 g52 g45 g49 g55
                        refine wpAnyH_ready (rs := [8]) (by kernel_rfl) (by simp) ?_
                        refine AllReadyH.cons (o := _) rfl (fun K hK => ?_) ?_
                        · skip
                          go_simp
                          refine (hPk _).mono ?_
                          rintro e wB ⟨vB, rfl, OB, HBB⟩
                          obtain ⟨AB, cB, hvB, rB⟩ := OB.rd
                          rw [Ek.out] at hvB
                          subst hvB
                          replace r6 := r6.below HBB
                          replace rA := rA.below HBB
                          replace rS := rS.below HBB
                          have Q8 := stp Q10 HBB
                          refine hK.out _ _ trivial (fun _ => ?_)
                          clear hK K
                          change wpAnyH _ _ _ _ _ _ _ ⟨Array.setIfInBounds T14 53 (.slice AB Lk cB), _⟩ _
                          generalize hTT15 : Array.setIfInBounds T14 53 (.slice AB Lk cB) = T15
                          have g6 := set_ne hTT15 (by decide) f6
                          have g45 := set_ne hTT15 (by decide) f45
                          have g49 := set_ne hTT15 (by decide) f49
                          have g55 := set_ne hTT15 (by decide) f55
                          have g53 := set_same hTT15 szT14.out (by decide)
                          have szT15 := hide (set_size hTT15 szT14.out)
                          clear f6 f52 f45 f49 f55 hTT15 szT14
                          have f6 := g6
                          have f45 := g45
                          have f49 := g49
                          have f55 := g55
                          have f53 := g53
                          clear g6 g45 g49 g55 g53
                          refine wpAnyH_ready (rs := [11]) (by kernel_rfl) (by simp) ?_
                          refine AllReadyH.cons (o := _) rfl (fun K hK => ?_) AllReadyH.nil
                          go_simp
                          refine hK.out _ _ trivial (fun _ => ?_)
                          clear hK K
                          change wpAnyH _ _ _ _ _ _ _ ⟨Array.setIfInBounds T15 56 (.slice (some ⟨(World.heap wB).size, 0, none⟩) 4 4), _⟩ _
                          generalize hTT16 : Array.setIfInBounds T15 56 (.slice (some ⟨(World.heap wB).size, 0, none⟩) 4 4) = T16
                          have g6 := set_ne hTT16 (by decide) f6
                          have g56 := set_same hTT16 szT15.out (by decide)
                          have szT16 := hide (set_size hTT16 szT15.out)
                          clear f6 f45 f49 f55 f53 hTT16 szT15
                          have f6 := g6
                          have f56 := g56
                          clear g6 g56
                          refine wpAnyH_ready (rs := [12]) (by kernel_rfl) (by simp) ?_
                          refine AllReadyH.cons (o := _) rfl (fun K hK => ?_) AllReadyH.nil
                          go_simp
                          refine (Concat_four A6 AA AB AS c6 cA cB cS n6 L8 Lk ky.size _ (indexB l k) (put n8) (put ky.size) (bl ky) wB rfl r6 rA rB rS E6.out E8.out Ek.out (bl_length ky) HSUM.out).mono ?_
                          rintro e wC ⟨vC, rfl, OC, HBC⟩
                          have QC := stp Q8 HBC
                          obtain ⟨AC, cC, hvC, -⟩ := OC.rd
                          generalize (indexB l k ++ (put n8 ++ (put ky.size ++ bl ky))).length = nC at hvC
                          subst hvC
                          have uC := (QC.block (g0 + 1) hlt6).trans u6
                          have y7 := blk_cell uC 0
                          have y8 := blk_frozen uC 0
                          rw [← H6h.out] at OC
                          have q1 : w10.heap.size ≤ (World.heap wB).size := Q8.size
                          have R1 := fin_round kp j10 u5 u6 O5 OC QC q1 hDW s10g
                          refine hK.out _ _ trivial (fun _ => ?_)
                          clear hK K
                          change wpAnyH _ _ _ _ _ _ _ ⟨Array.setIfInBounds T16 57 (.slice AC nC cC), _⟩ _
                          generalize hTT17 : Array.setIfInBounds T16 57 (.slice AC nC cC) = T17
                          have g6 := set_ne hTT17 (by decide) f6
                          have g57 := set_same hTT17 szT16.out (by decide)
                          have szT17 := hide (set_size hTT17 szT16.out)
                          clear f6 f56 hTT17 szT16
                          have f6 := g6
                          have f57 := g57
                          clear g6 g57
                          refine wpAnyH_ready (rs := [13]) (by kernel_rfl) (by simp) ?_
                          refine AllReadyH.cons (o := _) rfl (fun K hK => ?_) AllReadyH.nil
                          go_simp
                          refine hK.out _ _ trivial (fun _ => ?_)
                          clear hK K
                          refine wpAnyH_done (by kernel_rfl) ⟨rfl, ?_⟩ _
                          exact R1
                        exact AllReadyH.nil
                      exact AllReadyH.nil
                    refine AllReadyH.cons (o := _) rfl (fun K hK => ?_) ?_
                    · obtain ⟨wS, AS, cS, hcv, HBS, rS⟩ : ∃ wS AS cS, (convert 9 23 (.string ky)).run Try.prog w11 = .ok (.slice AS ky.size cS) wS ∧ Below (World.heap w11).size w11 wS ∧ RdB wS AS cS (bl ky) := ⟨_, _, _, print_bytes 9 23 5 Try.underlying9 Try.underlying23 Try.underlying5 ky w11, bytes_stp _ _, bytes_rd _ _ hks6⟩
                      go_simp
                      replace r6 := r6.below HBS
                      have Q10 := stp Q0 HBS
                      refine hK.out _ _ trivial (fun _ => ?_)
                      clear hK K
                      change wpAnyH _ _ _ _ _ _ _ ⟨Array.setIfInBounds T8 55 (.slice AS ky.size cS), _⟩ _
                      generalize hTT18 : Array.setIfInBounds T8 55 (.slice AS ky.size cS) = T18
                      have g6 := set_ne hTT18 (by decide) f6
                      have g48 := set_ne hTT18 (by decide) f48
                      have g52 := set_ne hTT18 (by decide) f52
                      have g45 := set_ne hTT18 (by decide) f45
                      have g55 := set_same hTT18 szT8.out (by decide)
                      have szT18 := hide (set_size hTT18 szT8.out)
                      clear f6 f48 f52 f54 f45 hTT18 szT8
                      have f6 := g6
                      have f48 := g48
                      have f52 := g52
                      have f45 := g45
                      have f55 := g55
                      clear g6 g48 g52 g45 g55
                      refine wpAnyH_ready (rs := [4]) (by kernel_rfl) (by simp) ?_
                      refine AllReadyH.cons (o := _) rfl (fun K hK => ?_) ?_
                      · skip
                        go_simp
                        refine (hP8 _).mono ?_
                        rintro e wA ⟨vA, rfl, OA, HBA⟩
                        obtain ⟨AA, cA, hvA, rA⟩ := OA.rd
                        rw [E8.out] at hvA
                        subst hvA
                        replace r6 := r6.below HBA
                        replace rS := rS.below HBA
                        have Q4 := stp Q10 HBA
                        refine hK.out _ _ trivial (fun _ => ?_)
                        clear hK K
                        change wpAnyH _ _ _ _ _ _ _ ⟨Array.setIfInBounds T18 49 (.slice AA L8 cA), _⟩ _
                        generalize hTT19 : Array.setIfInBounds T18 49 (.slice AA L8 cA) = T19
                        have g6 := set_ne hTT19 (by decide) f6
                        have g52 := set_ne hTT19 (by decide) f52
                        have g45 := set_ne hTT19 (by decide) f45
                        have g55 := set_ne hTT19 (by decide) f55
                        have g49 := set_same hTT19 szT18.out (by decide)
                        have szT19 := hide (set_size hTT19 szT18.out)
                        clear f6 f48 f52 f45 f55 hTT19 szT18
                        have f6 := g6
                        have f52 := g52
                        have f45 := g45
                        have f55 := g55
                        have f49 := g49
                        clear g6 g52 g45 g55 g49
                        refine wpAnyH_ready (rs := [8]) (by kernel_rfl) (by simp) ?_
                        refine AllReadyH.cons (o := _) rfl (fun K hK => ?_) ?_
                        · skip
                          go_simp
                          refine (hPk _).mono ?_
                          rintro e wB ⟨vB, rfl, OB, HBB⟩
                          obtain ⟨AB, cB, hvB, rB⟩ := OB.rd
                          rw [Ek.out] at hvB
                          subst hvB
                          replace r6 := r6.below HBB
                          replace rS := rS.below HBB
                          replace rA := rA.below HBB
                          have Q8 := stp Q4 HBB
                          refine hK.out _ _ trivial (fun _ => ?_)
                          clear hK K
                          change wpAnyH _ _ _ _ _ _ _ ⟨Array.setIfInBounds T19 53 (.slice AB Lk cB), _⟩ _
                          generalize hTT20 : Array.setIfInBounds T19 53 (.slice AB Lk cB) = T20
                          have g6 := set_ne hTT20 (by decide) f6
                          have g45 := set_ne hTT20 (by decide) f45
                          have g55 := set_ne hTT20 (by decide) f55
                          have g49 := set_ne hTT20 (by decide) f49
                          have g53 := set_same hTT20 szT19.out (by decide)
                          have szT20 := hide (set_size hTT20 szT19.out)
                          clear f6 f52 f45 f55 f49 hTT20 szT19
                          have f6 := g6
                          have f45 := g45
                          have f55 := g55
                          have f49 := g49
                          have f53 := g53
                          clear g6 g45 g55 g49 g53
                          refine wpAnyH_ready (rs := [11]) (by kernel_rfl) (by simp) ?_
                          refine AllReadyH.cons (o := _) rfl (fun K hK => ?_) AllReadyH.nil
                          go_simp
                          refine hK.out _ _ trivial (fun _ => ?_)
                          clear hK K
                          change wpAnyH _ _ _ _ _ _ _ ⟨Array.setIfInBounds T20 56 (.slice (some ⟨(World.heap wB).size, 0, none⟩) 4 4), _⟩ _
                          generalize hTT21 : Array.setIfInBounds T20 56 (.slice (some ⟨(World.heap wB).size, 0, none⟩) 4 4) = T21
                          have g6 := set_ne hTT21 (by decide) f6
                          have g56 := set_same hTT21 szT20.out (by decide)
                          have szT21 := hide (set_size hTT21 szT20.out)
                          clear f6 f45 f55 f49 f53 hTT21 szT20
                          have f6 := g6
                          have f56 := g56
                          clear g6 g56
                          refine wpAnyH_ready (rs := [12]) (by kernel_rfl) (by simp) ?_
                          refine AllReadyH.cons (o := _) rfl (fun K hK => ?_) AllReadyH.nil
                          go_simp
                          refine (Concat_four A6 AA AB AS c6 cA cB cS n6 L8 Lk ky.size _ (indexB l k) (put n8) (put ky.size) (bl ky) wB rfl r6 rA rB rS E6.out E8.out Ek.out (bl_length ky) HSUM.out).mono ?_
                          rintro e wC ⟨vC, rfl, OC, HBC⟩
                          have QC := stp Q8 HBC
                          obtain ⟨AC, cC, hvC, -⟩ := OC.rd
                          generalize (indexB l k ++ (put n8 ++ (put ky.size ++ bl ky))).length = nC at hvC
                          subst hvC
                          have uC := (QC.block (g0 + 1) hlt6).trans u6
                          have y7 := blk_cell uC 0
                          have y8 := blk_frozen uC 0
                          rw [← H6h.out] at OC
                          have q1 : w10.heap.size ≤ (World.heap wB).size := Q8.size
                          have R1 := fin_round kp j10 u5 u6 O5 OC QC q1 hDW s10g
                          refine hK.out _ _ trivial (fun _ => ?_)
                          clear hK K
                          change wpAnyH _ _ _ _ _ _ _ ⟨Array.setIfInBounds T21 57 (.slice AC nC cC), _⟩ _
                          generalize hTT22 : Array.setIfInBounds T21 57 (.slice AC nC cC) = T22
                          have g6 := set_ne hTT22 (by decide) f6
                          have g57 := set_same hTT22 szT21.out (by decide)
                          have szT22 := hide (set_size hTT22 szT21.out)
                          clear f6 f56 hTT22 szT21
                          have f6 := g6
                          have f57 := g57
                          clear g6 g57
                          refine wpAnyH_ready (rs := [13]) (by kernel_rfl) (by simp) ?_
                          refine AllReadyH.cons (o := _) rfl (fun K hK => ?_) AllReadyH.nil
                          go_simp
                          refine hK.out _ _ trivial (fun _ => ?_)
                          clear hK K
                          refine wpAnyH_done (by kernel_rfl) ⟨rfl, ?_⟩ _
                          exact R1
                        exact AllReadyH.nil
                      exact AllReadyH.nil
                    exact AllReadyH.nil
                  refine AllReadyH.cons (o := _) rfl (fun K hK => ?_) ?_
                  · skip
                    go_simp
                    refine (hP8 _).mono ?_
                    rintro e wA ⟨vA, rfl, OA, HBA⟩
                    obtain ⟨AA, cA, hvA, rA⟩ := OA.rd
                    rw [E8.out] at hvA
                    subst hvA
                    replace r6 := r6.below HBA
                    have Q4 := stp Q0 HBA
                    refine hK.out _ _ trivial (fun _ => ?_)
                    clear hK K
                    change wpAnyH _ _ _ _ _ _ _ ⟨Array.setIfInBounds T7 49 (.slice AA L8 cA), _⟩ _
                    generalize hTT23 : Array.setIfInBounds T7 49 (.slice AA L8 cA) = T23
                    have g6 := set_ne hTT23 (by decide) f6
                    have g52 := set_ne hTT23 (by decide) f52
                    have g54 := set_ne hTT23 (by decide) f54
                    have g49 := set_same hTT23 szT7.out (by decide)
                    have szT23 := hide (set_size hTT23 szT7.out)
                    clear f6 f48 f52 f54 hTT23 szT7
                    have f6 := g6
                    have f52 := g52
                    have f54 := g54
                    have f49 := g49
                    clear g6 g52 g54 g49
                    refine wpAnyH_ready (rs := [0, 8, 10]) (by kernel_rfl) (by simp) ?_
                    refine AllReadyH.cons (o := _) rfl (fun K hK => ?_) ?_
                    · have hcY := hc6 _ Q4
                      go_simp
                      refine hK.out _ _ trivial (fun _ => ?_)
                      clear hK K hcY
                      change wpAnyH _ _ _ _ _ _ _ ⟨Array.setIfInBounds T23 45 (.slice A6 n6 c6), _⟩ _
                      generalize hTT24 : Array.setIfInBounds T23 45 (.slice A6 n6 c6) = T24
                      have g6 := set_ne hTT24 (by decide) f6
                      have g52 := set_ne hTT24 (by decide) f52
                      have g54 := set_ne hTT24 (by decide) f54
                      have g49 := set_ne hTT24 (by decide) f49
                      have g45 := set_same hTT24 szT23.out (by decide)
                      have szT24 := hide (set_size hTT24 szT23.out)
                      clear f6 f52 f54 f49 hTT24 szT23
                      have f6 := g6
                      have f52 := g52
                      have f54 := g54
                      have f49 := g49
                      have f45 := g45
                      clear g6 g52 g54 g49 g45
                      refine wpAnyH_ready (rs := [8, 10]) (by kernel_rfl) (by simp) ?_
                      refine AllReadyH.cons (o := _) rfl (fun K hK => ?_) ?_
                      · skip
                        go_simp
                        refine (hPk _).mono ?_
                        rintro e wB ⟨vB, rfl, OB, HBB⟩
                        obtain ⟨AB, cB, hvB, rB⟩ := OB.rd
                        rw [Ek.out] at hvB
                        subst hvB
                        replace r6 := r6.below HBB
                        replace rA := rA.below HBB
                        have Q8 := stp Q4 HBB
                        refine hK.out _ _ trivial (fun _ => ?_)
                        clear hK K
                        change wpAnyH _ _ _ _ _ _ _ ⟨Array.setIfInBounds T24 53 (.slice AB Lk cB), _⟩ _
                        generalize hTT25 : Array.setIfInBounds T24 53 (.slice AB Lk cB) = T25
                        have g6 := set_ne hTT25 (by decide) f6
                        have g54 := set_ne hTT25 (by decide) f54
                        have g49 := set_ne hTT25 (by decide) f49
                        have g45 := set_ne hTT25 (by decide) f45
                        have g53 := set_same hTT25 szT24.out (by decide)
                        have szT25 := hide (set_size hTT25 szT24.out)
                        clear f6 f52 f54 f49 f45 hTT25 szT24
                        have f6 := g6
                        have f54 := g54
                        have f49 := g49
                        have f45 := g45
                        have f53 := g53
                        clear g6 g54 g49 g45 g53
                        refine wpAnyH_ready (rs := [10]) (by kernel_rfl) (by simp) ?_
                        refine AllReadyH.cons (o := _) rfl (fun K hK => ?_) ?_
                        · obtain ⟨wS, AS, cS, hcv, HBS, rS⟩ : ∃ wS AS cS, (convert 9 23 (.string ky)).run Try.prog wB = .ok (.slice AS ky.size cS) wS ∧ Below (World.heap wB).size wB wS ∧ RdB wS AS cS (bl ky) := ⟨_, _, _, print_bytes 9 23 5 Try.underlying9 Try.underlying23 Try.underlying5 ky wB, bytes_stp _ _, bytes_rd _ _ hks6⟩
                          go_simp
                          replace r6 := r6.below HBS
                          replace rA := rA.below HBS
                          replace rB := rB.below HBS
                          have Q10 := stp Q8 HBS
                          refine hK.out _ _ trivial (fun _ => ?_)
                          clear hK K
                          change wpAnyH _ _ _ _ _ _ _ ⟨Array.setIfInBounds T25 55 (.slice AS ky.size cS), _⟩ _
                          generalize hTT26 : Array.setIfInBounds T25 55 (.slice AS ky.size cS) = T26
                          have g6 := set_ne hTT26 (by decide) f6
                          have g49 := set_ne hTT26 (by decide) f49
                          have g45 := set_ne hTT26 (by decide) f45
                          have g53 := set_ne hTT26 (by decide) f53
                          have g55 := set_same hTT26 szT25.out (by decide)
                          have szT26 := hide (set_size hTT26 szT25.out)
                          clear f6 f54 f49 f45 f53 hTT26 szT25
                          have f6 := g6
                          have f49 := g49
                          have f45 := g45
                          have f53 := g53
                          have f55 := g55
                          clear g6 g49 g45 g53 g55
                          refine wpAnyH_ready (rs := [11]) (by kernel_rfl) (by simp) ?_
                          refine AllReadyH.cons (o := _) rfl (fun K hK => ?_) AllReadyH.nil
                          go_simp
                          refine hK.out _ _ trivial (fun _ => ?_)
                          clear hK K
                          change wpAnyH _ _ _ _ _ _ _ ⟨Array.setIfInBounds T26 56 (.slice (some ⟨(World.heap wS).size, 0, none⟩) 4 4), _⟩ _
                          generalize hTT27 : Array.setIfInBounds T26 56 (.slice (some ⟨(World.heap wS).size, 0, none⟩) 4 4) = T27
                          have g6 := set_ne hTT27 (by decide) f6
                          have g56 := set_same hTT27 szT26.out (by decide)
                          have szT27 := hide (set_size hTT27 szT26.out)
                          clear f6 f49 f45 f53 f55 hTT27 szT26
                          have f6 := g6
                          have f56 := g56
                          clear g6 g56
                          refine wpAnyH_ready (rs := [12]) (by kernel_rfl) (by simp) ?_
                          refine AllReadyH.cons (o := _) rfl (fun K hK => ?_) AllReadyH.nil
                          go_simp
                          refine (Concat_four A6 AA AB AS c6 cA cB cS n6 L8 Lk ky.size _ (indexB l k) (put n8) (put ky.size) (bl ky) wS rfl r6 rA rB rS E6.out E8.out Ek.out (bl_length ky) HSUM.out).mono ?_
                          rintro e wC ⟨vC, rfl, OC, HBC⟩
                          have QC := stp Q10 HBC
                          obtain ⟨AC, cC, hvC, -⟩ := OC.rd
                          generalize (indexB l k ++ (put n8 ++ (put ky.size ++ bl ky))).length = nC at hvC
                          subst hvC
                          have uC := (QC.block (g0 + 1) hlt6).trans u6
                          have y7 := blk_cell uC 0
                          have y8 := blk_frozen uC 0
                          rw [← H6h.out] at OC
                          have q1 : w10.heap.size ≤ (World.heap wS).size := Q10.size
                          have R1 := fin_round kp j10 u5 u6 O5 OC QC q1 hDW s10g
                          refine hK.out _ _ trivial (fun _ => ?_)
                          clear hK K
                          change wpAnyH _ _ _ _ _ _ _ ⟨Array.setIfInBounds T27 57 (.slice AC nC cC), _⟩ _
                          generalize hTT28 : Array.setIfInBounds T27 57 (.slice AC nC cC) = T28
                          have g6 := set_ne hTT28 (by decide) f6
                          have g57 := set_same hTT28 szT27.out (by decide)
                          have szT28 := hide (set_size hTT28 szT27.out)
                          clear f6 f56 hTT28 szT27
                          have f6 := g6
                          have f57 := g57
                          clear g6 g57
                          refine wpAnyH_ready (rs := [13]) (by kernel_rfl) (by simp) ?_
                          refine AllReadyH.cons (o := _) rfl (fun K hK => ?_) AllReadyH.nil
                          go_simp
                          refine hK.out _ _ trivial (fun _ => ?_)
                          clear hK K
                          refine wpAnyH_done (by kernel_rfl) ⟨rfl, ?_⟩ _
                          exact R1
                        exact AllReadyH.nil
                      refine AllReadyH.cons (o := _) rfl (fun K hK => ?_) ?_
                      · obtain ⟨wS, AS, cS, hcv, HBS, rS⟩ : ∃ wS AS cS, (convert 9 23 (.string ky)).run Try.prog wA = .ok (.slice AS ky.size cS) wS ∧ Below (World.heap wA).size wA wS ∧ RdB wS AS cS (bl ky) := ⟨_, _, _, print_bytes 9 23 5 Try.underlying9 Try.underlying23 Try.underlying5 ky wA, bytes_stp _ _, bytes_rd _ _ hks6⟩
                        go_simp
                        replace r6 := r6.below HBS
                        replace rA := rA.below HBS
                        have Q10 := stp Q4 HBS
                        refine hK.out _ _ trivial (fun _ => ?_)
                        clear hK K
                        change wpAnyH _ _ _ _ _ _ _ ⟨Array.setIfInBounds T24 55 (.slice AS ky.size cS), _⟩ _
                        generalize hTT29 : Array.setIfInBounds T24 55 (.slice AS ky.size cS) = T29
                        have g6 := set_ne hTT29 (by decide) f6
                        have g52 := set_ne hTT29 (by decide) f52
                        have g49 := set_ne hTT29 (by decide) f49
                        have g45 := set_ne hTT29 (by decide) f45
                        have g55 := set_same hTT29 szT24.out (by decide)
                        have szT29 := hide (set_size hTT29 szT24.out)
                        clear f6 f52 f54 f49 f45 hTT29 szT24
                        have f6 := g6
                        have f52 := g52
                        have f49 := g49
                        have f45 := g45
                        have f55 := g55
                        clear g6 g52 g49 g45 g55
                        refine wpAnyH_ready (rs := [8]) (by kernel_rfl) (by simp) ?_
                        refine AllReadyH.cons (o := _) rfl (fun K hK => ?_) ?_
                        · skip
                          go_simp
                          refine (hPk _).mono ?_
                          rintro e wB ⟨vB, rfl, OB, HBB⟩
                          obtain ⟨AB, cB, hvB, rB⟩ := OB.rd
                          rw [Ek.out] at hvB
                          subst hvB
                          replace r6 := r6.below HBB
                          replace rA := rA.below HBB
                          replace rS := rS.below HBB
                          have Q8 := stp Q10 HBB
                          refine hK.out _ _ trivial (fun _ => ?_)
                          clear hK K
                          change wpAnyH _ _ _ _ _ _ _ ⟨Array.setIfInBounds T29 53 (.slice AB Lk cB), _⟩ _
                          generalize hTT30 : Array.setIfInBounds T29 53 (.slice AB Lk cB) = T30
                          have g6 := set_ne hTT30 (by decide) f6
                          have g49 := set_ne hTT30 (by decide) f49
                          have g45 := set_ne hTT30 (by decide) f45
                          have g55 := set_ne hTT30 (by decide) f55
                          have g53 := set_same hTT30 szT29.out (by decide)
                          have szT30 := hide (set_size hTT30 szT29.out)
                          clear f6 f52 f49 f45 f55 hTT30 szT29
                          have f6 := g6
                          have f49 := g49
                          have f45 := g45
                          have f55 := g55
                          have f53 := g53
                          clear g6 g49 g45 g55 g53
                          refine wpAnyH_ready (rs := [11]) (by kernel_rfl) (by simp) ?_
                          refine AllReadyH.cons (o := _) rfl (fun K hK => ?_) AllReadyH.nil
                          go_simp
                          refine hK.out _ _ trivial (fun _ => ?_)
                          clear hK K
                          change wpAnyH _ _ _ _ _ _ _ ⟨Array.setIfInBounds T30 56 (.slice (some ⟨(World.heap wB).size, 0, none⟩) 4 4), _⟩ _
                          generalize hTT31 : Array.setIfInBounds T30 56 (.slice (some ⟨(World.heap wB).size, 0, none⟩) 4 4) = T31
                          have g6 := set_ne hTT31 (by decide) f6
                          have g56 := set_same hTT31 szT30.out (by decide)
                          have szT31 := hide (set_size hTT31 szT30.out)
                          clear f6 f49 f45 f55 f53 hTT31 szT30
                          have f6 := g6
                          have f56 := g56
                          clear g6 g56
                          refine wpAnyH_ready (rs := [12]) (by kernel_rfl) (by simp) ?_
                          refine AllReadyH.cons (o := _) rfl (fun K hK => ?_) AllReadyH.nil
                          go_simp
                          refine (Concat_four A6 AA AB AS c6 cA cB cS n6 L8 Lk ky.size _ (indexB l k) (put n8) (put ky.size) (bl ky) wB rfl r6 rA rB rS E6.out E8.out Ek.out (bl_length ky) HSUM.out).mono ?_
                          rintro e wC ⟨vC, rfl, OC, HBC⟩
                          have QC := stp Q8 HBC
                          obtain ⟨AC, cC, hvC, -⟩ := OC.rd
                          generalize (indexB l k ++ (put n8 ++ (put ky.size ++ bl ky))).length = nC at hvC
                          subst hvC
                          have uC := (QC.block (g0 + 1) hlt6).trans u6
                          have y7 := blk_cell uC 0
                          have y8 := blk_frozen uC 0
                          rw [← H6h.out] at OC
                          have q1 : w10.heap.size ≤ (World.heap wB).size := Q8.size
                          have R1 := fin_round kp j10 u5 u6 O5 OC QC q1 hDW s10g
                          refine hK.out _ _ trivial (fun _ => ?_)
                          clear hK K
                          change wpAnyH _ _ _ _ _ _ _ ⟨Array.setIfInBounds T31 57 (.slice AC nC cC), _⟩ _
                          generalize hTT32 : Array.setIfInBounds T31 57 (.slice AC nC cC) = T32
                          have g6 := set_ne hTT32 (by decide) f6
                          have g57 := set_same hTT32 szT31.out (by decide)
                          have szT32 := hide (set_size hTT32 szT31.out)
                          clear f6 f56 hTT32 szT31
                          have f6 := g6
                          have f57 := g57
                          clear g6 g57
                          refine wpAnyH_ready (rs := [13]) (by kernel_rfl) (by simp) ?_
                          refine AllReadyH.cons (o := _) rfl (fun K hK => ?_) AllReadyH.nil
                          go_simp
                          refine hK.out _ _ trivial (fun _ => ?_)
                          clear hK K
                          refine wpAnyH_done (by kernel_rfl) ⟨rfl, ?_⟩ _
                          exact R1
                        exact AllReadyH.nil
                      exact AllReadyH.nil
                    refine AllReadyH.cons (o := _) rfl (fun K hK => ?_) ?_
                    · skip
                      go_simp
                      refine (hPk _).mono ?_
                      rintro e wB ⟨vB, rfl, OB, HBB⟩
                      obtain ⟨AB, cB, hvB, rB⟩ := OB.rd
                      rw [Ek.out] at hvB
                      subst hvB
                      replace r6 := r6.below HBB
                      replace rA := rA.below HBB
                      have Q8 := stp Q4 HBB
                      refine hK.out _ _ trivial (fun _ => ?_)
                      clear hK K
                      change wpAnyH _ _ _ _ _ _ _ ⟨Array.setIfInBounds T23 53 (.slice AB Lk cB), _⟩ _
                      generalize hTT33 : Array.setIfInBounds T23 53 (.slice AB Lk cB) = T33
                      have g6 := set_ne hTT33 (by decide) f6
                      have g54 := set_ne hTT33 (by decide) f54
                      have g49 := set_ne hTT33 (by decide) f49
                      have g53 := set_same hTT33 szT23.out (by decide)
                      have szT33 := hide (set_size hTT33 szT23.out)
                      clear f6 f52 f54 f49 hTT33 szT23
                      have f6 := g6
                      have f54 := g54
                      have f49 := g49
                      have f53 := g53
                      clear g6 g54 g49 g53
                      refine wpAnyH_ready (rs := [0, 10]) (by kernel_rfl) (by simp) ?_
                      refine AllReadyH.cons (o := _) rfl (fun K hK => ?_) ?_
                      · have hcY := hc6 _ Q8
                        go_simp
                        refine hK.out _ _ trivial (fun _ => ?_)
                        clear hK K hcY
                        change wpAnyH _ _ _ _ _ _ _ ⟨Array.setIfInBounds T33 45 (.slice A6 n6 c6), _⟩ _
                        generalize hTT34 : Array.setIfInBounds T33 45 (.slice A6 n6 c6) = T34
                        have g6 := set_ne hTT34 (by decide) f6
                        have g54 := set_ne hTT34 (by decide) f54
                        have g49 := set_ne hTT34 (by decide) f49
                        have g53 := set_ne hTT34 (by decide) f53
                        have g45 := set_same hTT34 szT33.out (by decide)
                        have szT34 := hide (set_size hTT34 szT33.out)
                        clear f6 f54 f49 f53 hTT34 szT33
                        have f6 := g6
                        have f54 := g54
                        have f49 := g49
                        have f53 := g53
                        have f45 := g45
                        clear g6 g54 g49 g53 g45
                        refine wpAnyH_ready (rs := [10]) (by kernel_rfl) (by simp) ?_
                        refine AllReadyH.cons (o := _) rfl (fun K hK => ?_) ?_
                        · obtain ⟨wS, AS, cS, hcv, HBS, rS⟩ : ∃ wS AS cS, (convert 9 23 (.string ky)).run Try.prog wB = .ok (.slice AS ky.size cS) wS ∧ Below (World.heap wB).size wB wS ∧ RdB wS AS cS (bl ky) := ⟨_, _, _, print_bytes 9 23 5 Try.underlying9 Try.underlying23 Try.underlying5 ky wB, bytes_stp _ _, bytes_rd _ _ hks6⟩
                          go_simp
                          replace r6 := r6.below HBS
                          replace rA := rA.below HBS
                          replace rB := rB.below HBS
                          have Q10 := stp Q8 HBS
                          refine hK.out _ _ trivial (fun _ => ?_)
                          clear hK K
                          change wpAnyH _ _ _ _ _ _ _ ⟨Array.setIfInBounds T34 55 (.slice AS ky.size cS), _⟩ _
                          generalize hTT35 : Array.setIfInBounds T34 55 (.slice AS ky.size cS) = T35
                          have g6 := set_ne hTT35 (by decide) f6
                          have g49 := set_ne hTT35 (by decide) f49
                          have g53 := set_ne hTT35 (by decide) f53
                          have g45 := set_ne hTT35 (by decide) f45
                          have g55 := set_same hTT35 szT34.out (by decide)
                          have szT35 := hide (set_size hTT35 szT34.out)
                          clear f6 f54 f49 f53 f45 hTT35 szT34
                          have f6 := g6
                          have f49 := g49
                          have f53 := g53
                          have f45 := g45
                          have f55 := g55
                          clear g6 g49 g53 g45 g55
                          refine wpAnyH_ready (rs := [11]) (by kernel_rfl) (by simp) ?_
                          refine AllReadyH.cons (o := _) rfl (fun K hK => ?_) AllReadyH.nil
                          go_simp
                          refine hK.out _ _ trivial (fun _ => ?_)
                          clear hK K
                          change wpAnyH _ _ _ _ _ _ _ ⟨Array.setIfInBounds T35 56 (.slice (some ⟨(World.heap wS).size, 0, none⟩) 4 4), _⟩ _
                          generalize hTT36 : Array.setIfInBounds T35 56 (.slice (some ⟨(World.heap wS).size, 0, none⟩) 4 4) = T36
                          have g6 := set_ne hTT36 (by decide) f6
                          have g56 := set_same hTT36 szT35.out (by decide)
                          have szT36 := hide (set_size hTT36 szT35.out)
                          clear f6 f49 f53 f45 f55 hTT36 szT35
                          have f6 := g6
                          have f56 := g56
                          clear g6 g56
                          refine wpAnyH_ready (rs := [12]) (by kernel_rfl) (by simp) ?_
                          refine AllReadyH.cons (o := _) rfl (fun K hK => ?_) AllReadyH.nil
                          go_simp
                          refine (Concat_four A6 AA AB AS c6 cA cB cS n6 L8 Lk ky.size _ (indexB l k) (put n8) (put ky.size) (bl ky) wS rfl r6 rA rB rS E6.out E8.out Ek.out (bl_length ky) HSUM.out).mono ?_
                          rintro e wC ⟨vC, rfl, OC, HBC⟩
                          have QC := stp Q10 HBC
                          obtain ⟨AC, cC, hvC, -⟩ := OC.rd
                          generalize (indexB l k ++ (put n8 ++ (put ky.size ++ bl ky))).length = nC at hvC
                          subst hvC
                          have uC := (QC.block (g0 + 1) hlt6).trans u6
                          have y7 := blk_cell uC 0
                          have y8 := blk_frozen uC 0
                          rw [← H6h.out] at OC
                          have q1 : w10.heap.size ≤ (World.heap wS).size := Q10.size
                          have R1 := fin_round kp j10 u5 u6 O5 OC QC q1 hDW s10g
                          refine hK.out _ _ trivial (fun _ => ?_)
                          clear hK K
                          change wpAnyH _ _ _ _ _ _ _ ⟨Array.setIfInBounds T36 57 (.slice AC nC cC), _⟩ _
                          generalize hTT37 : Array.setIfInBounds T36 57 (.slice AC nC cC) = T37
                          have g6 := set_ne hTT37 (by decide) f6
                          have g57 := set_same hTT37 szT36.out (by decide)
                          have szT37 := hide (set_size hTT37 szT36.out)
                          clear f6 f56 hTT37 szT36
                          have f6 := g6
                          have f57 := g57
                          clear g6 g57
                          refine wpAnyH_ready (rs := [13]) (by kernel_rfl) (by simp) ?_
                          refine AllReadyH.cons (o := _) rfl (fun K hK => ?_) AllReadyH.nil
                          go_simp
                          refine hK.out _ _ trivial (fun _ => ?_)
                          clear hK K
                          refine wpAnyH_done (by kernel_rfl) ⟨rfl, ?_⟩ _
                          exact R1
                        exact AllReadyH.nil
                      refine AllReadyH.cons (o := _) rfl (fun K hK => ?_) ?_
                      · obtain ⟨wS, AS, cS, hcv, HBS, rS⟩ : ∃ wS AS cS, (convert 9 23 (.string ky)).run Try.prog wB = .ok (.slice AS ky.size cS) wS ∧ Below (World.heap wB).size wB wS ∧ RdB wS AS cS (bl ky) := ⟨_, _, _, print_bytes 9 23 5 Try.underlying9 Try.underlying23 Try.underlying5 ky wB, bytes_stp _ _, bytes_rd _ _ hks6⟩
                        go_simp
                        replace r6 := r6.below HBS
                        replace rA := rA.below HBS
                        replace rB := rB.below HBS
                        have Q10 := stp Q8 HBS
                        refine hK.out _ _ trivial (fun _ => ?_)
                        clear hK K
                        change wpAnyH _ _ _ _ _ _ _ ⟨Array.setIfInBounds T33 55 (.slice AS ky.size cS), _⟩ _
                        generalize hTT38 : Array.setIfInBounds T33 55 (.slice AS ky.size cS) = T38
                        have g6 := set_ne hTT38 (by decide) f6
                        have g49 := set_ne hTT38 (by decide) f49
                        have g53 := set_ne hTT38 (by decide) f53
                        have g55 := set_same hTT38 szT33.out (by decide)
                        have szT38 := hide (set_size hTT38 szT33.out)
                        clear f6 f54 f49 f53 hTT38 szT33
                        have f6 := g6
                        have f49 := g49
                        have f53 := g53
                        have f55 := g55
                        clear g6 g49 g53 g55
                        refine wpAnyH_ready (rs := [0]) (by kernel_rfl) (by simp) ?_
                        refine AllReadyH.cons (o := _) rfl (fun K hK => ?_) ?_
                        · have hcY := hc6 _ Q10
                          go_simp
                          refine hK.out _ _ trivial (fun _ => ?_)
                          clear hK K hcY
                          change wpAnyH _ _ _ _ _ _ _ ⟨Array.setIfInBounds T38 45 (.slice A6 n6 c6), _⟩ _
                          generalize hTT39 : Array.setIfInBounds T38 45 (.slice A6 n6 c6) = T39
                          have g6 := set_ne hTT39 (by decide) f6
                          have g49 := set_ne hTT39 (by decide) f49
                          have g53 := set_ne hTT39 (by decide) f53
                          have g55 := set_ne hTT39 (by decide) f55
                          have g45 := set_same hTT39 szT38.out (by decide)
                          have szT39 := hide (set_size hTT39 szT38.out)
                          clear f6 f49 f53 f55 hTT39 szT38
                          have f6 := g6
                          have f49 := g49
                          have f53 := g53
                          have f55 := g55
                          have f45 := g45
                          clear g6 g49 g53 g55 g45
                          refine wpAnyH_ready (rs := [11]) (by kernel_rfl) (by simp) ?_
                          refine AllReadyH.cons (o := _) rfl (fun K hK => ?_) AllReadyH.nil
                          go_simp
                          refine hK.out _ _ trivial (fun _ => ?_)
                          clear hK K
                          change wpAnyH _ _ _ _ _ _ _ ⟨Array.setIfInBounds T39 56 (.slice (some ⟨(World.heap wS).size, 0, none⟩) 4 4), _⟩ _
                          generalize hTT40 : Array.setIfInBounds T39 56 (.slice (some ⟨(World.heap wS).size, 0, none⟩) 4 4) = T40
                          have g6 := set_ne hTT40 (by decide) f6
                          have g56 := set_same hTT40 szT39.out (by decide)
                          have szT40 := hide (set_size hTT40 szT39.out)
                          clear f6 f49 f53 f55 f45 hTT40 szT39
                          have f6 := g6
                          have f56 := g56
                          clear g6 g56
                          refine wpAnyH_ready (rs := [12]) (by kernel_rfl) (by simp) ?_
                          refine AllReadyH.cons (o := _) rfl (fun K hK => ?_) AllReadyH.nil
                          go_simp
                          refine (Concat_four A6 AA AB AS c6 cA cB cS n6 L8 Lk ky.size _ (indexB l k) (put n8) (put ky.size) (bl ky) wS rfl r6 rA rB rS E6.out E8.out Ek.out (bl_length ky) HSUM.out).mono ?_
                          rintro e wC ⟨vC, rfl, OC, HBC⟩
                          have QC := stp Q10 HBC
                          obtain ⟨AC, cC, hvC, -⟩ := OC.rd
                          generalize (indexB l k ++ (put n8 ++ (put ky.size ++ bl ky))).length = nC at hvC
                          subst hvC
                          have uC := (QC.block (g0 + 1) hlt6).trans u6
                          have y7 := blk_cell uC 0
                          have y8 := blk_frozen uC 0
                          rw [← H6h.out] at OC
                          have q1 : w10.heap.size ≤ (World.heap wS).size := Q10.size
                          have R1 := fin_round kp j10 u5 u6 O5 OC QC q1 hDW s10g
                          refine hK.out _ _ trivial (fun _ => ?_)
                          clear hK K
                          change wpAnyH _ _ _ _ _ _ _ ⟨Array.setIfInBounds T40 57 (.slice AC nC cC), _⟩ _
                          generalize hTT41 : Array.setIfInBounds T40 57 (.slice AC nC cC) = T41
                          have g6 := set_ne hTT41 (by decide) f6
                          have g57 := set_same hTT41 szT40.out (by decide)
                          have szT41 := hide (set_size hTT41 szT40.out)
                          clear f6 f56 hTT41 szT40
                          have f6 := g6
                          have f57 := g57
                          clear g6 g57
                          refine wpAnyH_ready (rs := [13]) (by kernel_rfl) (by simp) ?_
                          refine AllReadyH.cons (o := _) rfl (fun K hK => ?_) AllReadyH.nil
                          go_simp
                          refine hK.out _ _ trivial (fun _ => ?_)
                          clear hK K
                          refine wpAnyH_done (by kernel_rfl) ⟨rfl, ?_⟩ _
                          exact R1
                        exact AllReadyH.nil
                      exact AllReadyH.nil
                    refine AllReadyH.cons (o := _) rfl (fun K hK => ?_) ?_
                    · obtain ⟨wS, AS, cS, hcv, HBS, rS⟩ : ∃ wS AS cS, (convert 9 23 (.string ky)).run Try.prog wA = .ok (.slice AS ky.size cS) wS ∧ Below (World.heap wA).size wA wS ∧ RdB wS AS cS (bl ky) := ⟨_, _, _, print_bytes 9 23 5 Try.underlying9 Try.underlying23 Try.underlying5 ky wA, bytes_stp _ _, bytes_rd _ _ hks6⟩
                      go_simp
                      replace r6 := r6.below HBS
                      replace rA := rA.below HBS
                      have Q10 := stp Q4 HBS
                      refine hK.out _ _ trivial (fun _ => ?_)
                      clear hK K
                      change wpAnyH _ _ _ _ _ _ _ ⟨Array.setIfInBounds T23 55 (.slice AS ky.size cS), _⟩ _
                      generalize hTT42 : Array.setIfInBounds T23 55 (.slice AS ky.size cS) = T42
                      have g6 := set_ne hTT42 (by decide) f6
                      have g52 := set_ne hTT42 (by decide) f52
                      have g49 := set_ne hTT42 (by decide) f49
                      have g55 := set_same hTT42 szT23.out (by decide)
                      have szT42 := hide (set_size hTT42 szT23.out)
                      clear f6 f52 f54 f49 hTT42 szT23
                      have f6 := g6
                      have f52 := g52
                      have f49 := g49
                      have f55 := g55
                      clear g6 g52 g49 g55
                      refine wpAnyH_ready (rs := [0, 8]) (by kernel_rfl) (by simp) ?_
                      refine AllReadyH.cons (o := _) rfl (fun K hK => ?_) ?_
                      · have hcY := hc6 _ Q10
                        go_simp
                        refine hK.out _ _ trivial (fun _ => ?_)
                        clear hK K hcY
                        change wpAnyH _ _ _ _ _ _ _ ⟨Array.setIfInBounds T42 45 (.slice A6 n6 c6), _⟩ _
                        generalize hTT43 : Array.setIfInBounds T42 45 (.slice A6 n6 c6) = T43
                        have g6 := set_ne hTT43 (by decide) f6
                        have g52 := set_ne hTT43 (by decide) f52
                        have g49 := set_ne hTT43 (by decide) f49
                        have g55 := set_ne hTT43 (by decide) f55
                        have g45 := set_same hTT43 szT42.out (by decide)
                        have szT43 := hide (set_size hTT43 szT42.out)
                        clear f6 f52 f49 f55 hTT43 szT42
                        have f6 := g6
                        have f52 := g52
                        have f49 := g49
                        have f55 := g55
                        have f45 := g45
                        clear g6 g52 g49 g55 g45
                        refine wpAnyH_ready (rs := [8]) (by kernel_rfl) (by simp) ?_
                        refine AllReadyH.cons (o := _) rfl (fun K hK => ?_) ?_
                        · skip
                          go_simp
                          refine (hPk _).mono ?_
                          rintro e wB ⟨vB, rfl, OB, HBB⟩
                          obtain ⟨AB, cB, hvB, rB⟩ := OB.rd
                          rw [Ek.out] at hvB
                          subst hvB
                          replace r6 := r6.below HBB
                          replace rA := rA.below HBB
                          replace rS := rS.below HBB
                          have Q8 := stp Q10 HBB
                          refine hK.out _ _ trivial (fun _ => ?_)
                          clear hK K
                          change wpAnyH _ _ _ _ _ _ _ ⟨Array.setIfInBounds T43 53 (.slice AB Lk cB), _⟩ _
                          generalize hTT44 : Array.setIfInBounds T43 53 (.slice AB Lk cB) = T44
                          have g6 := set_ne hTT44 (by decide) f6
                          have g49 := set_ne hTT44 (by decide) f49
                          have g55 := set_ne hTT44 (by decide) f55
                          have g45 := set_ne hTT44 (by decide) f45
                          have g53 := set_same hTT44 szT43.out (by decide)
                          have szT44 := hide (set_size hTT44 szT43.out)
                          clear f6 f52 f49 f55 f45 hTT44 szT43
                          have f6 := g6
                          have f49 := g49
                          have f55 := g55
                          have f45 := g45
                          have f53 := g53
                          clear g6 g49 g55 g45 g53
                          refine wpAnyH_ready (rs := [11]) (by kernel_rfl) (by simp) ?_
                          refine AllReadyH.cons (o := _) rfl (fun K hK => ?_) AllReadyH.nil
                          go_simp
                          refine hK.out _ _ trivial (fun _ => ?_)
                          clear hK K
                          change wpAnyH _ _ _ _ _ _ _ ⟨Array.setIfInBounds T44 56 (.slice (some ⟨(World.heap wB).size, 0, none⟩) 4 4), _⟩ _
                          generalize hTT45 : Array.setIfInBounds T44 56 (.slice (some ⟨(World.heap wB).size, 0, none⟩) 4 4) = T45
                          have g6 := set_ne hTT45 (by decide) f6
                          have g56 := set_same hTT45 szT44.out (by decide)
                          have szT45 := hide (set_size hTT45 szT44.out)
                          clear f6 f49 f55 f45 f53 hTT45 szT44
                          have f6 := g6
                          have f56 := g56
                          clear g6 g56
                          refine wpAnyH_ready (rs := [12]) (by kernel_rfl) (by simp) ?_
                          refine AllReadyH.cons (o := _) rfl (fun K hK => ?_) AllReadyH.nil
                          go_simp
                          refine (Concat_four A6 AA AB AS c6 cA cB cS n6 L8 Lk ky.size _ (indexB l k) (put n8) (put ky.size) (bl ky) wB rfl r6 rA rB rS E6.out E8.out Ek.out (bl_length ky) HSUM.out).mono ?_
                          rintro e wC ⟨vC, rfl, OC, HBC⟩
                          have QC := stp Q8 HBC
                          obtain ⟨AC, cC, hvC, -⟩ := OC.rd
                          generalize (indexB l k ++ (put n8 ++ (put ky.size ++ bl ky))).length = nC at hvC
                          subst hvC
                          have uC := (QC.block (g0 + 1) hlt6).trans u6
                          have y7 := blk_cell uC 0
                          have y8 := blk_frozen uC 0
                          rw [← H6h.out] at OC
                          have q1 : w10.heap.size ≤ (World.heap wB).size := Q8.size
                          have R1 := fin_round kp j10 u5 u6 O5 OC QC q1 hDW s10g
                          refine hK.out _ _ trivial (fun _ => ?_)
                          clear hK K
                          change wpAnyH _ _ _ _ _ _ _ ⟨Array.setIfInBounds T45 57 (.slice AC nC cC), _⟩ _
                          generalize hTT46 : Array.setIfInBounds T45 57 (.slice AC nC cC) = T46
                          have g6 := set_ne hTT46 (by decide) f6
                          have g57 := set_same hTT46 szT45.out (by decide)
                          have szT46 := hide (set_size hTT46 szT45.out)
                          clear f6 f56 hTT46 szT45
                          have f6 := g6
                          have f57 := g57
                          clear g6 g57
                          refine wpAnyH_ready (rs := [13]) (by kernel_rfl) (by simp) ?_
                          refine AllReadyH.cons (o := _) rfl (fun K hK => ?_) AllReadyH.nil
                          go_simp
                          refine hK.out _ _ trivial (fun _ => ?_)
                          clear hK K
                          refine wpAnyH_done (by kernel_rfl) ⟨rfl, ?_⟩ _
                          exact R1
                        exact AllReadyH.nil
                      refine AllReadyH.cons (o := _) rfl (fun K hK => ?_) ?_
                      · skip
                        go_simp
                        refine (hPk _).mono ?_
                        rintro e wB ⟨vB, rfl, OB, HBB⟩
                        obtain ⟨AB, cB, hvB, rB⟩ := OB.rd
                        rw [Ek.out] at hvB
                        subst hvB
                        replace r6 := r6.below HBB
                        replace rA := rA.below HBB
                        replace rS := rS.below HBB
                        have Q8 := stp Q10 HBB
                        refine hK.out _ _ trivial (fun _ => ?_)
                        clear hK K
                        change wpAnyH _ _ _ _ _ _ _ ⟨Array.setIfInBounds T42 53 (.slice AB Lk cB), _⟩ _
                        generalize hTT47 : Array.setIfInBounds T42 53 (.slice AB Lk cB) = T47
                        have g6 := set_ne hTT47 (by decide) f6
                        have g49 := set_ne hTT47 (by decide) f49
                        have g55 := set_ne hTT47 (by decide) f55
                        have g53 := set_same hTT47 szT42.out (by decide)
                        have szT47 := hide (set_size hTT47 szT42.out)
                        clear f6 f52 f49 f55 hTT47 szT42
                        have f6 := g6
                        have f49 := g49
                        have f55 := g55
                        have f53 := g53
                        clear g6 g49 g55 g53
                        refine wpAnyH_ready (rs := [0]) (by kernel_rfl) (by simp) ?_
                        refine AllReadyH.cons (o := _) rfl (fun K hK => ?_) ?_
                        · have hcY := hc6 _ Q8
                          go_simp
                          refine hK.out _ _ trivial (fun _ => ?_)
                          clear hK K hcY
                          change wpAnyH _ _ _ _ _ _ _ ⟨Array.setIfInBounds T47 45 (.slice A6 n6 c6), _⟩ _
                          generalize hTT48 : Array.setIfInBounds T47 45 (.slice A6 n6 c6) = T48
                          have g6 := set_ne hTT48 (by decide) f6
                          have g49 := set_ne hTT48 (by decide) f49
                          have g55 := set_ne hTT48 (by decide) f55
                          have g53 := set_ne hTT48 (by decide) f53
                          have g45 := set_same hTT48 szT47.out (by decide)
                          have szT48 := hide (set_size hTT48 szT47.out)
                          clear f6 f49 f55 f53 hTT48 szT47
                          have f6 := g6
                          have f49 := g49
                          have f55 := g55
                          have f53 := g53
                          have f45 := g45
                          clear g6 g49 g55 g53 g45
                          refine wpAnyH_ready (rs := [11]) (by kernel_rfl) (by simp) ?_
                          refine AllReadyH.cons (o := _) rfl (fun K hK => ?_) AllReadyH.nil
                          go_simp
                          refine hK.out _ _ trivial (fun _ => ?_)
                          clear hK K
                          change wpAnyH _ _ _ _ _ _ _ ⟨Array.setIfInBounds T48 56 (.slice (some ⟨(World.heap wB).size, 0, none⟩) 4 4), _⟩ _
                          generalize hTT49 : Array.setIfInBounds T48 56 (.slice (some ⟨(World.heap wB).size, 0, none⟩) 4 4) = T49
                          have g6 := set_ne hTT49 (by decide) f6
                          have g56 := set_same hTT49 szT48.out (by decide)
                          have szT49 := hide (set_size hTT49 szT48.out)
                          clear f6 f49 f55 f53 f45 hTT49 szT48
                          have f6 := g6
                          have f56 := g56
                          clear g6 g56
                          refine wpAnyH_ready (rs := [12]) (by kernel_rfl) (by simp) ?_
                          refine AllReadyH.cons (o := _) rfl (fun K hK => ?_) AllReadyH.nil
                          go_simp
                          refine (Concat_four A6 AA AB AS c6 cA cB cS n6 L8 Lk ky.size _ (indexB l k) (put n8) (put ky.size) (bl ky) wB rfl r6 rA rB rS E6.out E8.out Ek.out (bl_length ky) HSUM.out).mono ?_
                          rintro e wC ⟨vC, rfl, OC, HBC⟩
                          have QC := stp Q8 HBC
                          obtain ⟨AC, cC, hvC, -⟩ := OC.rd
                          generalize (indexB l k ++ (put n8 ++ (put ky.size ++ bl ky))).length = nC at hvC
                          subst hvC
                          have uC := (QC.block (g0 + 1) hlt6).trans u6
                          have y7 := blk_cell uC 0
                          have y8 := blk_frozen uC 0
                          rw [← H6h.out] at OC
                          have q1 : w10.heap.size ≤ (World.heap wB).size := Q8.size
                          have R1 := fin_round kp j10 u5 u6 O5 OC QC q1 hDW s10g
                          refine hK.out _ _ trivial (fun _ => ?_)
                          clear hK K
                          change wpAnyH _ _ _ _ _ _ _ ⟨Array.setIfInBounds T49 57 (.slice AC nC cC), _⟩ _
                          generalize hTT50 : Array.setIfInBounds T49 57 (.slice AC nC cC) = T50
                          have g6 := set_ne hTT50 (by decide) f6
                          have g57 := set_same hTT50 szT49.out (by decide)
                          have szT50 := hide (set_size hTT50 szT49.out)
                          clear f6 f56 hTT50 szT49
                          have f6 := g6
                          have f57 := g57
                          clear g6 g57
                          refine wpAnyH_ready (rs := [13]) (by kernel_rfl) (by simp) ?_
                          refine AllReadyH.cons (o := _) rfl (fun K hK => ?_) AllReadyH.nil
                          go_simp
                          refine hK.out _ _ trivial (fun _ => ?_)
                          clear hK K
                          refine wpAnyH_done (by kernel_rfl) ⟨rfl, ?_⟩ _
                          exact R1
                        exact AllReadyH.nil
                      exact AllReadyH.nil
                    exact AllReadyH.nil
                  refine AllReadyH.cons (o := _) rfl (fun K hK => ?_) ?_
                  · obtain ⟨wS, AS, cS, hcv, HBS, rS⟩ : ∃ wS AS cS, (convert 9 23 (.string ky)).run Try.prog w11 = .ok (.slice AS ky.size cS) wS ∧ Below (World.heap w11).size w11 wS ∧ RdB wS AS cS (bl ky) := ⟨_, _, _, print_bytes 9 23 5 Try.underlying9 Try.underlying23 Try.underlying5 ky w11, bytes_stp _ _, bytes_rd _ _ hks6⟩
                    go_simp
                    replace r6 := r6.below HBS
                    have Q10 := stp Q0 HBS
                    refine hK.out _ _ trivial (fun _ => ?_)
                    clear hK K
                    change wpAnyH _ _ _ _ _ _ _ ⟨Array.setIfInBounds T7 55 (.slice AS ky.size cS), _⟩ _
                    generalize hTT51 : Array.setIfInBounds T7 55 (.slice AS ky.size cS) = T51
                    have g6 := set_ne hTT51 (by decide) f6
                    have g48 := set_ne hTT51 (by decide) f48
                    have g52 := set_ne hTT51 (by decide) f52
                    have g55 := set_same hTT51 szT7.out (by decide)
                    have szT51 := hide (set_size hTT51 szT7.out)
                    clear f6 f48 f52 f54 hTT51 szT7
                    have f6 := g6
                    have f48 := g48
                    have f52 := g52
                    have f55 := g55
                    clear g6 g48 g52 g55
                    refine wpAnyH_ready (rs := [0, 4]) (by kernel_rfl) (by simp) ?_
                    refine AllReadyH.cons (o := _) rfl (fun K hK => ?_) ?_
                    · have hcY := hc6 _ Q10
                      go_simp
                      refine hK.out _ _ trivial (fun _ => ?_)
                      clear hK K hcY
                      change wpAnyH _ _ _ _ _ _ _ ⟨Array.setIfInBounds T51 45 (.slice A6 n6 c6), _⟩ _
                      generalize hTT52 : Array.setIfInBounds T51 45 (.slice A6 n6 c6) = T52
                      have g6 := set_ne hTT52 (by decide) f6
                      have g48 := set_ne hTT52 (by decide) f48
                      have g52 := set_ne hTT52 (by decide) f52
                      have g55 := set_ne hTT52 (by decide) f55
                      have g45 := set_same hTT52 szT51.out (by decide)
                      have szT52 := hide (set_size hTT52 szT51.out)
                      clear f6 f48 f52 f55 hTT52 szT51
                      have f6 := g6
                      have f48 := g48
                      have f52 := g52
                      have f55 := g55
                      have f45 := g45
                      clear g6 g48 g52 g55 g45
                      refine wpAnyH_ready (rs := [4]) (by kernel_rfl) (by simp) ?_
                      refine AllReadyH.cons (o := _) rfl (fun K hK => ?_) ?_
                      · skip
                        go_simp
                        refine (hP8 _).mono ?_
                        rintro e wA ⟨vA, rfl, OA, HBA⟩
                        obtain ⟨AA, cA, hvA, rA⟩ := OA.rd
                        rw [E8.out] at hvA
                        subst hvA
                        replace r6 := r6.below HBA
                        replace rS := rS.below HBA
                        have Q4 := stp Q10 HBA
                        refine hK.out _ _ trivial (fun _ => ?_)
                        clear hK K
                        change wpAnyH _ _ _ _ _ _ _ ⟨Array.setIfInBounds T52 49 (.slice AA L8 cA), _⟩ _
                        generalize hTT53 : Array.setIfInBounds T52 49 (.slice AA L8 cA) = T53
                        have g6 := set_ne hTT53 (by decide) f6
                        have g52 := set_ne hTT53 (by decide) f52
                        have g55 := set_ne hTT53 (by decide) f55
                        have g45 := set_ne hTT53 (by decide) f45
                        have g49 := set_same hTT53 szT52.out (by decide)
                        have szT53 := hide (set_size hTT53 szT52.out)
                        clear f6 f48 f52 f55 f45 hTT53 szT52
                        have f6 := g6
                        have f52 := g52
                        have f55 := g55
                        have f45 := g45
                        have f49 := g49
                        clear g6 g52 g55 g45 g49
                        refine wpAnyH_ready (rs := [8]) (by kernel_rfl) (by simp) ?_
                        refine AllReadyH.cons (o := _) rfl (fun K hK => ?_) ?_
                        · skip
                          go_simp
                          refine (hPk _).mono ?_
                          rintro e wB ⟨vB, rfl, OB, HBB⟩
                          obtain ⟨AB, cB, hvB, rB⟩ := OB.rd
                          rw [Ek.out] at hvB
                          subst hvB
                          replace r6 := r6.below HBB
                          replace rS := rS.below HBB
                          replace rA := rA.below HBB
                          have Q8 := stp Q4 HBB
                          refine hK.out _ _ trivial (fun _ => ?_)
                          clear hK K
                          change wpAnyH _ _ _ _ _ _ _ ⟨Array.setIfInBounds T53 53 (.slice AB Lk cB), _⟩ _
                          generalize hTT54 : Array.setIfInBounds T53 53 (.slice AB Lk cB) = T54
                          have g6 := set_ne hTT54 (by decide) f6
                          have g55 := set_ne hTT54 (by decide) f55
                          have g45 := set_ne hTT54 (by decide) f45
                          have g49 := set_ne hTT54 (by decide) f49
                          have g53 := set_same hTT54 szT53.out (by decide)
                          have szT54 := hide (set_size hTT54 szT53.out)
                          clear f6 f52 f55 f45 f49 hTT54 szT53
                          have f6 := g6
                          have f55 := g55
                          have f45 := g45
                          have f49 := g49
                          have f53 := g53
                          clear g6 g55 g45 g49 g53
                          refine wpAnyH_ready (rs := [11]) (by kernel_rfl) (by simp) ?_
                          refine AllReadyH.cons (o := _) rfl (fun K hK => ?_) AllReadyH.nil
                          go_simp
                          refine hK.out _ _ trivial (fun _ => ?_)
                          clear hK K
                          change wpAnyH _ _ _ _ _ _ _ ⟨Array.setIfInBounds T54 56 (.slice (some ⟨(World.heap wB).size, 0, none⟩) 4 4), _⟩ _
                          generalize hTT55 : Array.setIfInBounds T54 56 (.slice (some ⟨(World.heap wB).size, 0, none⟩) 4 4) = T55
                          have g6 := set_ne hTT55 (by decide) f6
                          have g56 := set_same hTT55 szT54.out (by decide)
                          have szT55 := hide (set_size hTT55 szT54.out)
                          clear f6 f55 f45 f49 f53 hTT55 szT54
                          have f6 := g6
                          have f56 := g56
                          clear g6 g56
                          refine wpAnyH_ready (rs := [12]) (by kernel_rfl) (by simp) ?_
                          refine AllReadyH.cons (o := _) rfl (fun K hK => ?_) AllReadyH.nil
                          go_simp
                          refine (Concat_four A6 AA AB AS c6 cA cB cS n6 L8 Lk ky.size _ (indexB l k) (put n8) (put ky.size) (bl ky) wB rfl r6 rA rB rS E6.out E8.out Ek.out (bl_length ky) HSUM.out).mono ?_
                          rintro e wC ⟨vC, rfl, OC, HBC⟩
                          have QC := stp Q8 HBC
                          obtain ⟨AC, cC, hvC, -⟩ := OC.rd
                          generalize (indexB l k ++ (put n8 ++ (put ky.size ++ bl ky))).length = nC at hvC
                          subst hvC
                          have uC := (QC.block (g0 + 1) hlt6).trans u6
                          have y7 := blk_cell uC 0
                          have y8 := blk_frozen uC 0
                          rw [← H6h.out] at OC
                          have q1 : w10.heap.size ≤ (World.heap wB).size := Q8.size
                          have R1 := fin_round kp j10 u5 u6 O5 OC QC q1 hDW s10g
                          refine hK.out _ _ trivial (fun _ => ?_)
                          clear hK K
                          change wpAnyH _ _ _ _ _ _ _ ⟨Array.setIfInBounds T55 57 (.slice AC nC cC), _⟩ _
                          generalize hTT56 : Array.setIfInBounds T55 57 (.slice AC nC cC) = T56
                          have g6 := set_ne hTT56 (by decide) f6
                          have g57 := set_same hTT56 szT55.out (by decide)
                          have szT56 := hide (set_size hTT56 szT55.out)
                          clear f6 f56 hTT56 szT55
                          have f6 := g6
                          have f57 := g57
                          clear g6 g57
                          refine wpAnyH_ready (rs := [13]) (by kernel_rfl) (by simp) ?_
                          refine AllReadyH.cons (o := _) rfl (fun K hK => ?_) AllReadyH.nil
                          go_simp
                          refine hK.out _ _ trivial (fun _ => ?_)
                          clear hK K
                          refine wpAnyH_done (by kernel_rfl) ⟨rfl, ?_⟩ _
                          exact R1
                        exact AllReadyH.nil
                      exact AllReadyH.nil
                    refine AllReadyH.cons (o := _) rfl (fun K hK => ?_) ?_
                    · skip
                      go_simp
                      refine (hP8 _).mono ?_
                      rintro e wA ⟨vA, rfl, OA, HBA⟩
                      obtain ⟨AA, cA, hvA, rA⟩ := OA.rd
                      rw [E8.out] at hvA
                      subst hvA
                      replace r6 := r6.below HBA
                      replace rS := rS.below HBA
                      have Q4 := stp Q10 HBA
                      refine hK.out _ _ trivial (fun _ => ?_)
                      clear hK K
                      change wpAnyH _ _ _ _ _ _ _ ⟨Array.setIfInBounds T51 49 (.slice AA L8 cA), _⟩ _
                      generalize hTT57 : Array.setIfInBounds T51 49 (.slice AA L8 cA) = T57
                      have g6 := set_ne hTT57 (by decide) f6
                      have g52 := set_ne hTT57 (by decide) f52
                      have g55 := set_ne hTT57 (by decide) f55
                      have g49 := set_same hTT57 szT51.out (by decide)
                      have szT57 := hide (set_size hTT57 szT51.out)
                      clear f6 f48 f52 f55 hTT57 szT51
                      have f6 := g6
                      have f52 := g52
                      have f55 := g55
                      have f49 := g49
                      clear g6 g52 g55 g49
                      refine wpAnyH_ready (rs := [0, 8]) (by kernel_rfl) (by simp) ?_
                      refine AllReadyH.cons (o := _) rfl (fun K hK => ?_) ?_
                      · have hcY := hc6 _ Q4
                        go_simp
                        refine hK.out _ _ trivial (fun _ => ?_)
                        clear hK K hcY
                        change wpAnyH _ _ _ _ _ _ _ ⟨Array.setIfInBounds T57 45 (.slice A6 n6 c6), _⟩ _
                        generalize hTT58 : Array.setIfInBounds T57 45 (.slice A6 n6 c6) = T58
                        have g6 := set_ne hTT58 (by decide) f6
                        have g52 := set_ne hTT58 (by decide) f52
                        have g55 := set_ne hTT58 (by decide) f55
                        have g49 := set_ne hTT58 (by decide) f49
                        have g45 := set_same hTT58 szT57.out (by decide)
                        have szT58 := hide (set_size hTT58 szT57.out)
                        clear f6 f52 f55 f49 hTT58 szT57
                        have f6 := g6
                        have f52 := g52
                        have f55 := g55
                        have f49 := g49
                        have f45 := g45
                        clear g6 g52 g55 g49 g45
                        refine wpAnyH_ready (rs := [8]) (by kernel_rfl) (by simp) ?_
                        refine AllReadyH.cons (o := _) rfl (fun K hK => ?_) ?_
                        · skip
                          go_simp
                          refine (hPk _).mono ?_
                          rintro e wB ⟨vB, rfl, OB, HBB⟩
                          obtain ⟨AB, cB, hvB, rB⟩ := OB.rd
                          rw [Ek.out] at hvB
                          subst hvB
                          replace r6 := r6.below HBB
                          replace rS := rS.below HBB
                          replace rA := rA.below HBB
                          have Q8 := stp Q4 HBB
                          refine hK.out _ _ trivial (fun _ => ?_)
                          clear hK K
                          change wpAnyH _ _ _ _ _ _ _ ⟨Array.setIfInBounds T58 53 (.slice AB Lk cB), _⟩ _
                          generalize hTT59 : Array.setIfInBounds T58 53 (.slice AB Lk cB) = T59
                          have g6 := set_ne hTT59 (by decide) f6
                          have g55 := set_ne hTT59 (by decide) f55
                          have g49 := set_ne hTT59 (by decide) f49
                          have g45 := set_ne hTT59 (by decide) f45
                          have g53 := set_same hTT59 szT58.out (by decide)
                          have szT59 := hide (set_size hTT59 szT58.out)
                          clear f6 f52 f55 f49 f45 hTT59 szT58
                          have f6 := g6
                          have f55 := g55
                          have f49 := g49
                          have f45 := g45
                          have f53 := g53
                          clear g6 g55 g49 g45 g53
                          refine wpAnyH_ready (rs := [11]) (by kernel_rfl) (by simp) ?_
                          refine AllReadyH.cons (o := _) rfl (fun K hK => ?_) AllReadyH.nil
                          go_simp
                          refine hK.out _ _ trivial (fun _ => ?_)
                          clear hK K
                          change wpAnyH _ _ _ _ _ _ _ ⟨Array.setIfInBounds T59 56 (.slice (some ⟨(World.heap wB).size, 0, none⟩) 4 4), _⟩ _
                          generalize hTT60 : Array.setIfInBounds T59 56 (.slice (some ⟨(World.heap wB).size, 0, none⟩) 4 4) = T60
                          have g6 := set_ne hTT60 (by decide) f6
                          have g56 := set_same hTT60 szT59.out (by decide)
                          have szT60 := hide (set_size hTT60 szT59.out)
                          clear f6 f55 f49 f45 f53 hTT60 szT59
                          have f6 := g6
                          have f56 := g56
                          clear g6 g56
                          refine wpAnyH_ready (rs := [12]) (by kernel_rfl) (by simp) ?_
                          refine AllReadyH.cons (o := _) rfl (fun K hK => ?_) AllReadyH.nil
                          go_simp
                          refine (Concat_four A6 AA AB AS c6 cA cB cS n6 L8 Lk ky.size _ (indexB l k) (put n8) (put ky.size) (bl ky) wB rfl r6 rA rB rS E6.out E8.out Ek.out (bl_length ky) HSUM.out).mono ?_
                          rintro e wC ⟨vC, rfl, OC, HBC⟩
                          have QC := stp Q8 HBC
                          obtain ⟨AC, cC, hvC, -⟩ := OC.rd
                          generalize (indexB l k ++ (put n8 ++ (put ky.size ++ bl ky))).length = nC at hvC
                          subst hvC
                          have uC := (QC.block (g0 + 1) hlt6).trans u6
                          have y7 := blk_cell uC 0
                          have y8 := blk_frozen uC 0
                          rw [← H6h.out] at OC
                          have q1 : w10.heap.size ≤ (World.heap wB).size := Q8.size
                          have R1 := fin_round kp j10 u5 u6 O5 OC QC q1 hDW s10g
                          refine hK.out _ _ trivial (fun _ => ?_)
                          clear hK K
                          change wpAnyH _ _ _ _ _ _ _ ⟨Array.setIfInBounds T60 57 (.slice AC nC cC), _⟩ _
                          generalize hTT61 : Array.setIfInBounds T60 57 (.slice AC nC cC) = T61
                          have g6 := set_ne hTT61 (by decide) f6
                          have g57 := set_same hTT61 szT60.out (by decide)
                          have szT61 := hide (set_size hTT61 szT60.out)
                          clear f6 f56 hTT61 szT60
                          have f6 := g6
                          have f57 := g57
                          clear g6 g57
                          refine wpAnyH_ready (rs := [13]) (by kernel_rfl) (by simp) ?_
                          refine AllReadyH.cons (o := _) rfl (fun K hK => ?_) AllReadyH.nil
                          go_simp
                          refine hK.out _ _ trivial (fun _ => ?_)
                          clear hK K
                          refine wpAnyH_done (by kernel_rfl) ⟨rfl, ?_⟩ _
                          exact R1
                        exact AllReadyH.nil
                      refine AllReadyH.cons (o := _) rfl (fun K hK => ?_) ?_
                      · skip
                        go_simp
                        refine (hPk _).mono ?_
                        rintro e wB ⟨vB, rfl, OB, HBB⟩
                        obtain ⟨AB, cB, hvB, rB⟩ := OB.rd
                        rw [Ek.out] at hvB
                        subst hvB
                        replace r6 := r6.below HBB
                        replace rS := rS.below HBB
                        replace rA := rA.below HBB
                        have Q8 := stp Q4 HBB
                        refine hK.out _ _ trivial (fun _ => ?_)
                        clear hK K
                        change wpAnyH _ _ _ _ _ _ _ ⟨Array.setIfInBounds T57 53 (.slice AB Lk cB), _⟩ _
                        generalize hTT62 : Array.setIfInBounds T57 53 (.slice AB Lk cB) = T62
                        have g6 := set_ne hTT62 (by decide) f6
                        have g55 := set_ne hTT62 (by decide) f55
                        have g49 := set_ne hTT62 (by decide) f49
                        have g53 := set_same hTT62 szT57.out (by decide)
                        have szT62 := hide (set_size hTT62 szT57.out)
                        clear f6 f52 f55 f49 hTT62 szT57
                        have f6 := g6
                        have f55 := g55
                        have f49 := g49
                        have f53 := g53
                        clear g6 g55 g49 g53
                        refine wpAnyH_ready (rs := [0]) (by kernel_rfl) (by simp) ?_
                        refine AllReadyH.cons (o := _) rfl (fun K hK => ?_) ?_
                        · have hcY := hc6 _ Q8
                          go_simp
                          refine hK.out _ _ trivial (fun _ => ?_)
                          clear hK K hcY
                          change wpAnyH _ _ _ _ _ _ _ ⟨Array.setIfInBounds T62 45 (.slice A6 n6 c6), _⟩ _
                          generalize hTT63 : Array.setIfInBounds T62 45 (.slice A6 n6 c6) = T63
                          have g6 := set_ne hTT63 (by decide) f6
                          have g55 := set_ne hTT63 (by decide) f55
                          have g49 := set_ne hTT63 (by decide) f49
                          have g53 := set_ne hTT63 (by decide) f53
                          have g45 := set_same hTT63 szT62.out (by decide)
                          have szT63 := hide (set_size hTT63 szT62.out)
                          clear f6 f55 f49 f53 hTT63 szT62
                          have f6 := g6
                          have f55 := g55
                          have f49 := g49
                          have f53 := g53
                          have f45 := g45
                          clear g6 g55 g49 g53 g45
                          refine wpAnyH_ready (rs := [11]) (by kernel_rfl) (by simp) ?_
                          refine AllReadyH.cons (o := _) rfl (fun K hK => ?_) AllReadyH.nil
                          go_simp
                          refine hK.out _ _ trivial (fun _ => ?_)
                          clear hK K
                          change wpAnyH _ _ _ _ _ _ _ ⟨Array.setIfInBounds T63 56 (.slice (some ⟨(World.heap wB).size, 0, none⟩) 4 4), _⟩ _
                          generalize hTT64 : Array.setIfInBounds T63 56 (.slice (some ⟨(World.heap wB).size, 0, none⟩) 4 4) = T64
                          have g6 := set_ne hTT64 (by decide) f6
                          have g56 := set_same hTT64 szT63.out (by decide)
                          have szT64 := hide (set_size hTT64 szT63.out)
                          clear f6 f55 f49 f53 f45 hTT64 szT63
                          have f6 := g6
                          have f56 := g56
                          clear g6 g56
                          refine wpAnyH_ready (rs := [12]) (by kernel_rfl) (by simp) ?_
                          refine AllReadyH.cons (o := _) rfl (fun K hK => ?_) AllReadyH.nil
                          go_simp
                          refine (Concat_four A6 AA AB AS c6 cA cB cS n6 L8 Lk ky.size _ (indexB l k) (put n8) (put ky.size) (bl ky) wB rfl r6 rA rB rS E6.out E8.out Ek.out (bl_length ky) HSUM.out).mono ?_
                          rintro e wC ⟨vC, rfl, OC, HBC⟩
                          have QC := stp Q8 HBC
                          obtain ⟨AC, cC, hvC, -⟩ := OC.rd
                          generalize (indexB l k ++ (put n8 ++ (put ky.size ++ bl ky))).length = nC at hvC
                          subst hvC
                          have uC := (QC.block (g0 + 1) hlt6).trans u6
                          have y7 := blk_cell uC 0
                          have y8 := blk_frozen uC 0
                          rw [← H6h.out] at OC
                          have q1 : w10.heap.size ≤ (World.heap wB).size := Q8.size
                          have R1 := fin_round kp j10 u5 u6 O5 OC QC q1 hDW s10g
                          refine hK.out _ _ trivial (fun _ => ?_)
                          clear hK K
                          change wpAnyH _ _ _ _ _ _ _ ⟨Array.setIfInBounds T64 57 (.slice AC nC cC), _⟩ _
                          generalize hTT65 : Array.setIfInBounds T64 57 (.slice AC nC cC) = T65
                          have g6 := set_ne hTT65 (by decide) f6
                          have g57 := set_same hTT65 szT64.out (by decide)
                          have szT65 := hide (set_size hTT65 szT64.out)
                          clear f6 f56 hTT65 szT64
                          have f6 := g6
                          have f57 := g57
                          clear g6 g57
                          refine wpAnyH_ready (rs := [13]) (by kernel_rfl) (by simp) ?_
                          refine AllReadyH.cons (o := _) rfl (fun K hK => ?_) AllReadyH.nil
                          go_simp
                          refine hK.out _ _ trivial (fun _ => ?_)
                          clear hK K
                          refine wpAnyH_done (by kernel_rfl) ⟨rfl, ?_⟩ _
                          exact R1
                        exact AllReadyH.nil
                      exact AllReadyH.nil
                    exact AllReadyH.nil
                  exact AllReadyH.nil
  case done =>
    intro W hI hszW hDW
    obtain ⟨j1, v5, v6, j2, j3, j4, j5, j6⟩ := hI
    have BW : Below w.heap.size w W := HB1.trans (j1.mono (by omega))
    have hNP : nparts n = nparts l.length := by rw [HN.out]
    rw [hNP] at j4 j5
    obtain ⟨A5, c5, hv5, r5⟩ := j4.rd
    obtain ⟨A6, c6, hv6, r6⟩ := j5.rd
    have o1 := outT_le l hT
    have b1 : (bodyT l).length = (blocksB l (nparts l.length)).length := rfl
    obtain ⟨n5, hm5⟩ : ∃ n5, (blocksB l (nparts l.length)).length = n5 := ⟨_, rfl⟩
    obtain ⟨n6, hm6⟩ : ∃ n6, (indexB l (nparts l.length)).length = n6 := ⟨_, rfl⟩
    rw [hm5] at hv5
    rw [hm6] at hv6
    subst hv5
    subst hv6
    have s5 : W.cell? ⟨g0, 0, none⟩ = some (.slice A5 n5 c5) := blk_cell j2 0
    have s6 : W.cell? ⟨g0 + 1, 0, none⟩ = some (.slice A6 n6 c6) := blk_cell j3 0
    have l5 : g0 < W.heap.size := blk_lt j2
    have l6 : g0 + 1 < W.heap.size := blk_lt j3
    have hK := fun X (h : Below W.heap.size W X) => keys_any (some ad) c n l X HN.out (hr.below (BW.trans (h.mono BW.size))) hn6
    have hKs : ∀ s ∈ keysE l n, s.size ≤ 140737488355328 := by
      have : ∀ k, k ≤ n → ∀ s ∈ keysE l k, s.size ≤ 96 := by
        intro k
        induction k with
        | zero => intro _ s hs; cases hs
        | succ k ih =>
          intro hk s hs
          have hm : (keyAt l k).size ≤ 96 := (ordE_may l t3 k (by rw [HN.out]; omega)).1.2.1
          rw [keysE] at hs
          split at hs
          · rcases List.mem_append.1 hs with h | h
            · exact ih (by omega) s h
            · rw [List.mem_singleton] at h; subst h; exact hm
          · exact ih (by omega) s hs
      exact fun s hs => Nat.le_trans (this n (Nat.le_refl _) s hs) (by decide)
    obtain ⟨f1, f2, f3, f4, f5⟩ := fil_ok l hT
    rw [HN.out] at f1
    have fK : Bl.makeK 10 (keysE l n).length = filK l := by rw [filK, HN.out]
    have fX : Bl.makeX 10 (keysE l n) = filX l := by rw [filX, HN.out]
    have fE : Bl.makeE 10 (keysE l n).length = 0 := by
      have h0 := f1.2.2
      rw [Bl.makeE, if_neg (by decide), if_neg (by omega)]
    have hM := fun A' c' X (h : Bl.RdS X A' c' (keysE l n)) => Bl.Make_any A' c' (keysE l n) 10 hKs X h
    rw [fK, fX, fE] at hM
    have fE2 : Bl.encE (filK l) (filX l).length = 0 := by rw [Bl.encE, if_pos f5]
    have hEn := fun A' c' X (h : RdB X A' c' (filX l)) => Bl.Encode_any (filK l) A' c' (filX l) X h
    rw [fE2] at hEn
    unfold Bl.fil at hM hEn
    obtain ⟨K, hK0⟩ : ∃ K, filK l = K := ⟨_, rfl⟩
    obtain ⟨kn, hkn⟩ : ∃ kn, (keysE l n).length = kn := ⟨_, rfl⟩
    obtain ⟨fn, hfn⟩ : ∃ fn, (filX l).length = fn := ⟨_, rfl⟩
    rw [hkn] at hM
    rw [hfn] at hM hEn
    rw [hK0] at hM hEn
    obtain ⟨n7, hm7⟩ : ∃ n7, (Bl.encF (filK l) (filX l)).length = n7 := ⟨_, rfl⟩
    have hm7' : (Bl.encF K (filX l)).length = n7 := by rw [← hK0]; exact hm7
    have HK0 := hide hK0
    have HM7 := hide hm7'
    have HM5 := hide hm5
    have HM6 := hide hm6
    have HFN := hide hfn
    have HKN := hide hkn
    clear hm5 hm6 hm7 hm7' hfn hkn hK0 fE fE2 fK fX f1 f2 f3 f4 f5 hKs hOr j2 j3 q0 q1
    gi_wp2_with (first
      | (refine ⟨trivial, ?_⟩; gi_at_call 32; refine (callsIn_wide.2 (hK _ (Below.refl _ _))).mono ?_; rintro e w3 ⟨v3, rfl, O3, HB3⟩; obtain ⟨A3, c3, hv3, r3⟩ := O3.rd; rw [HKN.out] at hv3; subst hv3)
      | (refine ⟨trivial, ?_⟩; gi_at_call 31; refine (callsIn_wide.2 (hM A3 c3 _ r3)).mono ?_; rintro e w4 ⟨A4, c4, rfl, O4, HB4⟩; have r4 := (O4.rdl).below (below_alloc w4 (.cells #[.int .i64 K, .slice A4 fn c4] 32)); obtain ⟨b0, b1, b2, b3⟩ := (Bx.new w4 K (.slice A4 fn c4) 32).read)
      | (refine ⟨trivial, ?_⟩; gi_at_call 33; refine (callsIn_wide.2 (hEn A4 c4 _ r4)).mono ?_; rintro e w6 ⟨v7, rfl, O7, HB6⟩; obtain ⟨A7, c7, hv7, r7⟩ := O7.rd; rw [HM7.out] at hv7; subst hv7))
    have Q6 : Below W.heap.size W w6 := stp (stp (stp HB3 HB4) (below_alloc w4 _)) HB6
    have hSk : ∀ Y, Below w6.heap.size w6 Y → Below w6.heap.size w6 Y ∧ Y.cell? ⟨g0, 0, none⟩ = some (.slice A5 n5 c5) ∧ Y.cell? ⟨g0 + 1, 0, none⟩ = some (.slice A6 n6 c6) := fun Y h => ⟨h, ((stp Q6 h).cell l5).trans s5, ((stp Q6 h).cell l6).trans s6⟩
    have hS0 := hSk _ (Below.refl _ _).drew
    obtain ⟨h9, hh9⟩ : ∃ h9, w6.drew = h9 := ⟨_, rfl⟩
    have Qd : Below w6.heap.size w6 h9 := by rw [← hh9]; exact (Below.refl _ _).drew
    have hFr := fun X (h : Below w6.heap.size w6 X) => framed_any 2 A6 c6 n6 (indexB l (nparts l.length)) X HM6.out (r6.below (stp Q6 h)) (by decide) (by decide)
    obtain ⟨nF, hnF⟩ : ∃ nF, (putFX 2 (indexB l (nparts l.length))).length = nF := ⟨_, rfl⟩
    have oF : (outT l).length = n5 + nF := by rw [outT, List.length_append, hnF, ← HM5.out]; rfl
    have HNF := hide hnF
    have HOF := hide oF
    have HO1 := hide o1
    clear hnF oF hh9 o1
    refine wpIn_wide.2 ?_
    go_region_held3 (fun Y => Below w6.heap.size w6 Y ∧ Y.cell? ⟨g0, 0, none⟩ = some (.slice A5 n5 c5) ∧ Y.cell? ⟨g0 + 1, 0, none⟩ = some (.slice A6 n6 c6)) (first | exact hS0 | exact hSk _ Q8 | exact hSk _ (Q8.alloc Q8.size _) | exact hSk _ Q9 | assumption) (first
      | (go_at_call 34; (refine (hFr _ (Below.refl _ _).drew).mono ?_); rintro e w8 ⟨v8, rfl, O8, HB8⟩; obtain ⟨A8, c8, hv8, r8⟩ := O8.rd; rw [HNF.out] at hv8; subst hv8; have Q8 : Below w6.heap.size w6 w8 := ((Below.refl _ w6).drew).trans HB8)
      | (go_at_call 29; (refine (Concat_two A5 A8 c5 c8 n5 nF _ (blocksB l (nparts l.length)) (putFX 2 (indexB l (nparts l.length))) w8 rfl (r5.below (stp Q6 Q8)) r8 HM5.out HNF.out (by have h1 := HM5.out; have h2 := HNF.out; have h3 := HOF.out; have h4 := HO1.out; omega)).mono ?_); rintro e w9 ⟨v9, rfl, O9, HB9⟩; obtain ⟨A9, c9, hv9, -⟩ := O9.rd; rw [show (blocksB l (nparts l.length) ++ putFX 2 (indexB l (nparts l.length))).length = n5 + nF by rw [← HOF.out]; rfl] at hv9; subst hv9; have Q9 : Below w6.heap.size w6 w9 := stp Q8 HB9))
    obtain ⟨n9, hn9⟩ : ∃ n9, n5 + nF = n9 := ⟨_, rfl⟩
    rw [hn9] at O9 ⊢
    have HN9 : Hid ((outT l).length = n9) := hide (by rw [HOF.out, hn9])
    have QW : Below W.heap.size W w9 := stp Q6 Q9
    obtain ⟨lim5, lim9⟩ : n5 < 4294967296 ∧ n9 < 4294967296 := by
      have h1 := HO1.out
      have h2 := HN9.out
      have h3 := HOF.out
      omega
    have hcv := conv_mark w9
    have ra := rd_mark w9
    have Ba : Below w9.heap.size w9 (mkW w9) := below_alloc w9 _
    have s5a : (mkW w9).cell? ⟨g0, 0, none⟩ = some (.slice A5 n5 c5) := ((stp QW Ba).cell l5).trans s5
    obtain ⟨wm, hwm⟩ : ∃ z, mkW w9 = z := ⟨_, rfl⟩
    rw [hwm] at hcv ra Ba s5a
    clear hwm
    have nlim : n < 4294967296 := by omega
    have hmk2 : (markT ++ fourN n5).length ≤ 1000000 := by show 8 ≤ 1000000; decide
    have hmk3 : (markT ++ fourN n5 ++ fourN n9).length ≤ 1000000 := by show 12 ≤ 1000000; decide
    have h4a := four_first ⟨w9.heap.size, 0, none⟩ markT n5 wm ra rfl lim5
    have h4b := fun v X (O : OwB X wm.heap.size v (markT ++ fourN n5)) (B : Below wm.heap.size wm X) => four_any v _ wm.heap.size n9 wm X O lim9 hmk2 B B.size
    have h4c := fun v X (O : OwB X wm.heap.size v (markT ++ fourN n5 ++ fourN n9)) (B : Below wm.heap.size wm X) => four_any v _ wm.heap.size n wm X O nlim hmk3 B B.size
    have hFg := fun X (h : RdB X A7 c7 (Bl.encF K (filX l))) => framed_any 3 A7 c7 n7 (Bl.encF K (filX l)) X HM7.out h (by decide) (by decide)
    have hGd : ∀ A c X, RdB X A c (markT ++ fourN n5 ++ fourN n9 ++ fourN n) → Calls Try.prog 36 #[.slice A 16 c] X fun e w' => ∃ v, e = .returned v ∧ OwB w' X.heap.size v (guarded (markT ++ fourN n5 ++ fourN n9 ++ fourN n)) ∧ Below X.heap.size X w' := fun A c X h => Guard_any A c _ X h (by show 16 + 4 ≤ 140737488355328; decide)
    have r9 := OwB.rdl O9
    obtain ⟨nG, hnG⟩ : ∃ nG, (putFX 3 (Bl.encF K (filX l))).length = nG := ⟨_, rfl⟩
    have HNG := hide hnG
    have htot : (outT l).length + (putFX 3 (Bl.encF K (filX l))).length + (guarded (markT ++ fourN n5 ++ fourN n9 ++ fourN n)).length ≤ 140737488355328 := by
      have h := (tabB_le l hT).2
      rw [tabB, List.length_append, List.length_append, HK0.out] at h
      have h1 : (guarded (endT l)).length = 20 := rfl
      show _ + _ + 20 ≤ _
      omega
    have HTOT := hide htot
    have hfin : outT l ++ (putFX 3 (Bl.encF K (filX l)) ++ guarded (markT ++ fourN n5 ++ fourN n9 ++ fourN n)) = tabB l := by
      rw [tabB, HK0.out, endT, ← HM5.out, ← HN9.out, ← HN.out]; exact (List.append_assoc _ _ _).symm
    have HFIN := hide hfin
    have HDW := hide hDW
    have lD := (Array.getElem?_eq_some_iff.1 hDW).1
    clear hnG hmk2 hmk3 htot hfin hDW
    gi_wp2_with (first
      | (refine ⟨trivial, ?_⟩; gi_at_call 35; (with_reducible refine (callsIn_wide.2 h4a).mono ?_); rintro e w11 ⟨v11, rfl, O11, B11⟩)
      | (refine ⟨trivial, ?_⟩; gi_at_call 35; (with_reducible refine (callsIn_wide.2 (h4b _ _ O11 B11)).mono ?_); rintro e w12 ⟨v12, rfl, O12, B12⟩)
      | (refine ⟨trivial, ?_⟩; gi_at_call 35; (with_reducible refine (callsIn_wide.2 (h4c _ _ O12 B12)).mono ?_); rintro e w13 ⟨v13, rfl, O13, B13⟩; obtain ⟨A13, c13, hv13, r13⟩ := O13.rd; replace hv13 : v13 = .slice A13 16 c13 := hv13; subst hv13; have B13' := stp Ba B13; have Q13 : Below w6.heap.size w6 w13 := stp Q9 B13')
      | (refine ⟨trivial, ?_⟩; gi_at_call 34; (with_reducible refine (callsIn_wide.2 (hFg _ (r7.below Q13))).mono ?_); rintro e w14 ⟨v14, rfl, O14, B14⟩; obtain ⟨A14, c14, hv14, r14⟩ := O14.rd; rw [HNG.out] at hv14; subst hv14; have r13b := r13.below B14)
      | (refine ⟨trivial, ?_⟩; gi_at_call 36; (with_reducible refine (callsIn_wide.2 (hGd _ _ _ r13b)).mono ?_); rintro e w15 ⟨v15, rfl, O15, B15⟩; obtain ⟨A15, c15, hv15, r15⟩ := O15.rd; replace hv15 : v15 = .slice A15 20 c15 := hv15; subst hv15; have Q15 : Below w9.heap.size w9 w15 := stp (stp B13' B14) B15)
      | (refine ⟨trivial, ?_⟩; gi_at_call 29; (refine (callsIn_wide.2 (Concat_three A9 A14 A15 c9 c14 c15 n9 nG 20 _ (outT l) (putFX 3 (Bl.encF K (filX l))) (guarded (markT ++ fourN n5 ++ fourN n9 ++ fourN n)) w15 rfl (r9.below Q15) (r14.below B15) r15 HN9.out HNG.out rfl HTOT.out)).mono ?_); rintro e w16 ⟨v16, rfl, O16, B16⟩))
    have Q16 : Below W.heap.size W w16 := stp QW (stp Q15 B16)
    have hD16 := (Q16.block _ lD).trans HDW.out
    have z15 : W.heap.size ≤ w15.heap.size := Nat.le_trans QW.size Q15.size
    refine ⟨by simp, .inl ⟨_, _, rfl, run_takeDeferred hD16, ?_⟩⟩
    have hD3 := (Array.getElem?_eq_some_iff.1 hD16).1
    rw [HFIN.out] at O16
    refine leaves_nil (.tuple #[v16, .int .i64 0]) ?_ ⟨v16, rfl, own_move (O16.lower (Nat.le_trans BW.size z15)) (fun j hj => World.putObj_heap_other (by have := own_base O16 j hj; omega)), (BW.trans (Q16.mono BW.size)).trans (Bl.below_put _ _ _ (by omega) hD3)⟩
    simp [results, Try.results11, go_sem]
  case stop => exact fun _ _ _ h => h.elim
end Go.Proofs.Ytefcepjffeiaoaa
end

section
/- Table: Build of any versions. -/
namespace Go.Proofs.Ytefcepjffeiaoaa
open Go.RowKit Go.Shelf Go.Proofs.YtefcepjffeiaoaaW.PrintWords
set_option linter.unusedVariables false
attribute [local go_sem] Oper.semAt_some

set_option maxRecDepth 100000 in
set_option maxHeartbeats 1600000 in
theorem Build_any (A : Option Addr) (c n : Nat) (l : List Ent) (w : World) (hn : l.length = n) (hr : RdE w A c l) (hl : n ≤ 140737488351232) :
    Calls Try.prog 11 #[.slice A n c] w fun e w' => ∃ v, e = .returned (.tuple #[v, .int .i64 (tabE l)]) ∧ OwB w' w.heap.size v (tabX l) ∧ Below w.heap.size w w' := by
  by_cases hT : tabE l = 0
  · have e : tabX l = tabB l := by rw [tabX, if_pos hT]
    rw [hT, e]
    exact Build_ok A c n l w hn hr hT
  · have e : tabX l = [] := by rw [tabX, if_neg hT]
    rw [e]
    have hOr := Ordered_any A c n l w hn hr (by omega)
    have E : tabE l = if n < 1 ∨ 4096 < n then 3 else ordE l := by rw [tabE, hn]
    by_cases h1 : n < 1 ∨ 4096 < n
    · rw [if_pos h1] at E
      rw [E]
      have h2 : (n : Int) < 1 ∨ (1 ≤ (n : Int) ∧ 4096 < (n : Int)) := by omega
      clear E hT e h1
      rcases h2 with h2 | ⟨h2, h3⟩
      · refine (callsIn_wide (n := 9)).1 ?_
        refine callsIn_of_wp_marks Try.func11 rfl trivial ?_ rfl
        simp only [Try.ntmps11, List.size_toArray, List.length_cons, List.length_nil, Nat.reduceAdd, Nat.reduceSub, Array.replicate_succ, Array.replicate_zero, List.push_toArray, List.append_toArray, List.nil_append, List.cons_append]
        gi_wp2
        refine leaves_nil (.tuple #[.slice none 0 0, .int .i64 3]) ?_ ⟨_, rfl, OwB.zero _ _, Below.refl _ _⟩
        simp [results, Try.results11, go_sem]
      · have h4 : ¬ (n : Int) < 1 := by omega
        refine (callsIn_wide (n := 9)).1 ?_
        refine callsIn_of_wp_marks Try.func11 rfl trivial ?_ rfl
        simp only [Try.ntmps11, List.size_toArray, List.length_cons, List.length_nil, Nat.reduceAdd, Nat.reduceSub, Array.replicate_succ, Array.replicate_zero, List.push_toArray, List.append_toArray, List.nil_append, List.cons_append]
        gi_wp2
        refine leaves_nil (.tuple #[.slice none 0 0, .int .i64 3]) ?_ ⟨_, rfl, OwB.zero _ _, Below.refl _ _⟩
        simp [results, Try.results11, go_sem]
    · rw [if_neg h1] at E
      rw [E] at hT ⊢
      have h2 : ¬ (n : Int) < 1 := by omega
      have h3 : ¬ 4096 < (n : Int) := by omega
      clear E e h1
      generalize ordE l = E at *
      refine (callsIn_wide (n := 9)).1 ?_
      refine callsIn_of_wp_marks Try.func11 rfl trivial ?_ rfl
      simp only [Try.ntmps11, List.size_toArray, List.length_cons, List.length_nil, Nat.reduceAdd, Nat.reduceSub, Array.replicate_succ, Array.replicate_zero, List.push_toArray, List.append_toArray, List.nil_append, List.cons_append]
      gi_wp2_with (first | (refine ⟨trivial, ?_⟩; gi_at_call 26; refine (callsIn_wide.2 hOr).mono ?_; rintro e w1 ⟨rfl, HB1⟩))
      refine leaves_nil (.tuple #[.slice none 0 0, .int .i64 E]) ?_ ⟨_, rfl, OwB.zero _ _, HB1⟩
      simp [results, Try.results11, go_sem]
end Go.Proofs.Ytefcepjffeiaoaa
end

section
/- Table: the lengths that an index tells, walked. -/
namespace Go.Proofs.Ytefcepjffeiaoaa
open Go.RowKit Go.Proofs.YtefcepjffeiaoaaW.PrintWords
set_option linter.unusedVariables false

section
variable {ops : Array Oper} {o : Oper} {a : Act} {Q : Exit → Act → World → Prop} {K : Act → World → Prop}
theorem step_int {w0 W : World} (base : Nat) (hw : Region.wanted o (yielded ops a.tmps) = true) (s x : Operand)
    (ho : o.op = .call { callee := .builtin .append, args := #[s, x], argTypes := #[111, 111] })
    (v : Value) (xs : List Int) (c : Int) (hs : a.eval s = v) (hx : a.eval x = .slice (some ⟨W.heap.size, 0, none⟩) 1 1)
    (HO : Ow kInt 3 W base v xs) (HB : Below base w0 W) (hbase : base ≤ W.heap.size) (hl : (xs.length + 1) * 8 ≤ 140737488355328)
    (h : ∀ v1 w1, Ow kInt 3 w1 base v1 (xs ++ [c]) → Below base w0 w1 → W.grownBy w1 v.ownBlock → K (a.put o.dst v1) w1) :
    if Region.wanted o (yielded ops a.tmps) = true then Oper.wp Try.prog o a (W.alloc (.cells #[.int .i64 c] 3)) K Q else K (a.put o.dst undef) (W.alloc (.cells #[.int .i64 c] 3)) :=
  Kd.R_append_step (P := Try.prog) kInt base hw s x 111 3 _ 8 ho Try.underlying111 info_int rfl (by decide) (by decide) v xs c [.int .i64 c] (fun _ => True) (fun _ => False) hs hx rfl (fun _ h => h.elim) (fun _ _ => trivial) HO HB hbase hl (fun v1 w1 h1 h2 h3 _ => h v1 w1 h1 h2 h3)
end
def lensI (r : Option (List Nat)) : List Int := (r.getD []).map fun n : Nat => (n : Int)
theorem len_arith (m k q nn : Nat) (hk : k ≤ nn) (hn : nn ≤ 65536) (hq : m = nn - k) : wrap64 ((nn : Int) - (k : Int)) = (m : Int) ∧ IntKind.i64.wrap ((nn : Int) - (k : Int)) = (m : Int) ∧ IntKind.u64.wrap (m : Int) = (m : Int) ∧ wrap64 (q : Int) = wrap64 (q : Int) := by
  refine ⟨?_, ?_, ?_, rfl⟩
  · unfold wrap64; omega
  · rw [IntKind.wrap_i64]; omega
  · rw [IntKind.wrap_u64]; omega
theorem len_small (a b : Nat) (ha : a ≤ 16777216) (hb : b ≤ 16777216) : wrap64 (a : Int) = (a : Int) ∧ IntKind.i64.wrap (a : Int) = (a : Int) ∧ wrap64 (b : Int) = (b : Int) ∧ IntKind.i64.wrap (b : Int) = (b : Int) ∧ wrap64 ((a : Int) + (b : Int)) = ((a + b : Nat) : Int) ∧ IntKind.i64.wrap ((a : Int) + (b : Int)) = ((a + b : Nat) : Int) := by
  refine ⟨?_, ?_, ?_, ?_, ?_, ?_⟩
  · unfold wrap64; omega
  · rw [IntKind.wrap_i64]; omega
  · unfold wrap64; omega
  · rw [IntKind.wrap_i64]; omega
  · unfold wrap64; omega
  · rw [IntKind.wrap_i64]; omega
def lenV : Value → Nat
  | .slice _ m _ => m
  | _ => 0
theorem len_q (p m n : Nat) (h : p + m ≤ n) (hn : n ≤ 65536) : (p + 1) * 8 ≤ 140737488355328 := by omega
theorem len_m (m K m3 : Nat) (h : m - K = m3) (h1 : 1 ≤ K) (h2 : K ≤ m) : m3 < m ∧ 0 < m := by omega
theorem len_r1 (p m m3 J n : Nat) (h : p + m ≤ n) (h2 : m3 < m ∧ 0 < m) : p + 1 + (m3 - J) ≤ n := by omega
theorem len_r2 (m m3 J f : Nat) (h : m ≤ f + 1) (h2 : m3 < m ∧ 0 < m) : m3 - J ≤ f := by omega
theorem len_r3 (m m3 J : Nat) (h2 : m3 < m ∧ 0 < m) : m3 - J < m := by omega
theorem lenJ (K N m : Nat) (h : K ≤ m) (h2 : ¬ m - K < N) : K + N ≤ m := by omega
theorem len_sum (a b : Nat) (ha : a ≤ 16777216) (hb : b ≤ 16777216) : ∃ J : Nat, a + b = J ∧ wrap64 ((a : Int) + (b : Int)) = (J : Int) ∧ IntKind.i64.wrap ((a : Int) + (b : Int)) = (J : Int) :=
  ⟨_, rfl, (len_small a b ha hb).2.2.2.2.1, (len_small a b ha hb).2.2.2.2.2⟩
set_option maxRecDepth 100000 in
set_option maxHeartbeats 3200000 in
theorem lengths_any (A : Option Addr) (c n : Nat) (b : List UInt8) (w : World) (hn : b.length = n) (hx : RdB w A c b) (hl : n ≤ 65536) :
    Calls Try.prog 84 #[.slice A n c] w fun e w' => ∃ v, e = .returned (.tuple #[v, .bool (lenL n b).isSome]) ∧ Ow kInt 3 w' w.heap.size v (lensI (lenL n b)) ∧ Below w.heap.size w w' := by
  obtain ⟨res, hres⟩ : ∃ res, lenL n b = res := ⟨_, rfl⟩
  rw [hres]
  have HR := hide hres
  have HN := hide hn
  clear hres hn
  go_enter Try.func84, Try.ntmps84
  go_wp2
  go_loopw [0, 2] (fun bv ov wr => ∃ (f : Nat) (bb : List UInt8) (pre : List Nat) (A2 : Option Addr) (c2 m : Nat), bb.length = m ∧ pre.length + m ≤ n ∧ m ≤ f ∧ res = (lenL f bb).map (pre ++ ·) ∧ bv = .slice A2 m c2 ∧ RdB w A2 c2 bb ∧ Ow kInt 3 wr w.heap.size ov (pre.map fun n : Nat => (n : Int)) ∧ Below w.heap.size w wr) (fun bv ov _ => lenV bv)
  case atStart => exact ⟨n, b, [], A, c, n, HN.out, by simp, Nat.le_refl _, by rw [← HR.out]; simp, rfl, hx, Ow.zero _ _ _ _, Below.refl _ _⟩
  case round =>
    obtain ⟨f, bb, pre, A2, c2, m, hm, hpm, hmf, hres, rfl, hr2w, HO, HB⟩ := hrel
    have hr2 := hr2w.below HB
    obtain ⟨Ao, co, hvo, -⟩ := HO.rd
    subst hvo
    obtain ⟨pl, hpl⟩ : ∃ pl, (pre.map fun n : Nat => (n : Int)).length = pl := ⟨_, rfl⟩
    have hpl' : pre.length = pl := by rw [← hpl, List.length_map]
    rw [hpl] at HO ⊢
    by_cases h0 : m = 0
    · subst h0
      obtain rfl : bb = [] := List.eq_nil_of_length_eq_zero hm
      have hend : res = some pre := by rw [hres]; cases f <;> simp [lenL]
      have HE := hide hend
      clear hres hend hmf hpm
      go_wp2
      go_ret2
      refine ⟨_, by rw [HE.out]; rfl, ?_, HB⟩
      rw [HE.out]; exact HO
    · have hm0 : 0 < (m : Int) := by omega
      obtain ⟨f', rfl⟩ : ∃ f', f = f' + 1 := ⟨f - 1, by omega⟩
      have hne : bb ≠ [] := fun h => h0 (by rw [← hm, h]; rfl)
      have hG := fun W (h : RdB W A2 c2 bb) => Get_any A2 c2 bb W h
      rw [hm] at hG
      rw [lenL, if_neg hne] at hres
      by_cases h1 : getErr bb ≠ 0 ∨ 16777216 < gN bb
      · rw [if_pos h1] at hres
        have hend : res = none := hres
        have HE := hide hend
        clear hres hend
        have h2 : getErr bb ≠ 0 ∨ (getErr bb = 0 ∧ 16777216 < (gN bb : Int)) := by omega
        rcases h2 with h2 | ⟨h2, h3⟩
        · have h2i : ¬ (getErr bb : Int) = 0 := by omega
          generalize (getErr bb) = E at *
          generalize (gN bb) = N at *
          generalize (gK bb) = K at *
          clear h1 h2
          go_wp2_with (first | (go_at_call 102; (with_reducible refine (hG _ hr2).mono ?_); rintro e w1 ⟨rfl, HB1⟩))
          go_ret2
          exact ⟨_, by rw [HE.out]; rfl, by rw [HE.out]; exact Ow.zero _ _ _ _, HB.trans (HB1.mono HB.size)⟩
        · rw [h2] at hG
          generalize (gN bb) = N at *
          generalize (gK bb) = K at *
          clear h1 h2
          go_wp2_with (first | (go_at_call 102; (with_reducible refine (hG _ hr2).mono ?_); rintro e w1 ⟨rfl, HB1⟩))
          go_ret2
          exact ⟨_, by rw [HE.out]; rfl, by rw [HE.out]; exact Ow.zero _ _ _ _, HB.trans (HB1.mono HB.size)⟩
      · rw [if_neg h1] at hres
        obtain ⟨h2, h3⟩ : getErr bb = 0 ∧ ¬ 16777216 < gN bb := by omega
        rw [h2] at hG
        obtain ⟨k1, k2, -⟩ := gK_le bb h2
        rw [hm] at k1
        have h3i : ¬ 16777216 < (gN bb : Int) := by omega
        obtain ⟨N, hN⟩ : ∃ N, gN bb = N := ⟨_, rfl⟩
        obtain ⟨K, hK⟩ : ∃ K, gK bb = K := ⟨_, rfl⟩
        rw [hN] at hG h3 h3i hres
        rw [hK] at hG k1 k2 hres
        have hr3 := hr2.drop K (by rw [hm]; exact k1)
        have hr3w := hr2w.drop K (by rw [hm]; exact k1)
        have hsl := fun W => slice_lo 23 5 Try.underlying23 (i := _) rfl rfl A2 m c2 K k1 W
        obtain ⟨A3, hA3⟩ : ∃ A3, cutA A2 c2 K = A3 := ⟨_, rfl⟩
        obtain ⟨c3, hc3⟩ : ∃ c3, c2 - K = c3 := ⟨_, rfl⟩
        obtain ⟨m3, hm3⟩ : ∃ m3, m - K = m3 := ⟨_, rfl⟩
        obtain ⟨b3, hb3⟩ : ∃ b3, bb.drop K = b3 := ⟨_, rfl⟩
        have hl3 : b3.length = m3 := by rw [← hb3, List.length_drop, hm, hm3]
        rw [hA3, hc3, hb3] at hr3 hr3w
        rw [hA3, hc3, hm3] at hsl
        rw [hb3] at hres
        have hG3 := fun W (h : RdB W A3 c3 b3) => Get_any A3 c3 b3 W h
        rw [hl3] at hG3
        clear hA3 hc3 hN hK h1 h2
        by_cases h4 : getErr b3 ≠ 0 ∨ (b3.drop (gK b3)).length < gN b3
        · rw [if_pos h4] at hres
          have hend : res = none := hres
          have HE := hide hend
          clear hres hend
          by_cases h5 : getErr b3 = 0
          · obtain ⟨q1, q2, -⟩ := gK_le b3 h5
            rw [hl3] at q1
            rw [h5] at hG3
            rw [List.length_drop, hl3] at h4
            obtain ⟨N3, hN3⟩ : ∃ N3, gN b3 = N3 := ⟨_, rfl⟩
            obtain ⟨K3, hK3⟩ : ∃ K3, gK b3 = K3 := ⟨_, rfl⟩
            rw [hN3, hK3] at hG3 h4
            rw [hK3] at q1 q2
            obtain ⟨m4, hm4⟩ : ∃ m4, m4 = m3 - K3 := ⟨_, rfl⟩
            obtain ⟨a1, a2, a3, -⟩ := len_arith m4 K3 0 m3 q1 (by omega) hm4
            have h6 : (m4 : Int) < (N3 : Int) := by omega
            clear h4 h5 hm4 hN3 hK3
            go_wp2_with (first | (go_at_call 102; (with_reducible refine (hG _ hr2).mono ?_); rintro e w1 ⟨rfl, HB1⟩; have hr4 := hr3.below HB1) | (go_at_call 102; (with_reducible refine (hG3 _ hr4).mono ?_); rintro e w2 ⟨rfl, HB2⟩))
            go_ret2
            exact ⟨_, by rw [HE.out]; rfl, by rw [HE.out]; exact Ow.zero _ _ _ _, (HB.trans (HB1.mono HB.size)).trans (HB2.mono (Nat.le_trans HB.size HB1.size))⟩
          · have h5i : ¬ (getErr b3 : Int) = 0 := by omega
            generalize (getErr b3) = E3 at *
            generalize (gN b3) = N3 at *
            generalize (gK b3) = K3 at *
            clear h4 h5
            go_wp2_with (first | (go_at_call 102; (with_reducible refine (hG _ hr2).mono ?_); rintro e w1 ⟨rfl, HB1⟩; have hr4 := hr3.below HB1) | (go_at_call 102; (with_reducible refine (hG3 _ hr4).mono ?_); rintro e w2 ⟨rfl, HB2⟩))
            go_ret2
            exact ⟨_, by rw [HE.out]; rfl, by rw [HE.out]; exact Ow.zero _ _ _ _, (HB.trans (HB1.mono HB.size)).trans (HB2.mono (Nat.le_trans HB.size HB1.size))⟩
        · rw [if_neg h4] at hres
          have h5 : getErr b3 = 0 := by omega
          obtain ⟨q1, q2, -⟩ := gK_le b3 h5
          rw [hl3] at q1
          rw [h5] at hG3
          rw [List.length_drop, hl3] at h4
          obtain ⟨N3, hN3⟩ : ∃ N3, gN b3 = N3 := ⟨_, rfl⟩
          obtain ⟨K3, hK3⟩ : ∃ K3, gK b3 = K3 := ⟨_, rfl⟩
          simp only [hN3, hK3] at hG3 h4 hres
          rw [hK3] at q1 q2
          have h4' : ¬ m3 - K3 < N3 := by omega
          obtain ⟨m4, hm4⟩ : ∃ m4, m4 = m3 - K3 := ⟨_, rfl⟩
          obtain ⟨a1, a2, a3, -⟩ := len_arith m4 K3 0 m3 q1 (by omega) hm4
          have h6 : ¬ (m4 : Int) < (N3 : Int) := by omega
          have hNs : N3 ≤ 65536 := by omega
          have hNs2 : N ≤ 16777216 := by omega
          have e1 := (len_small N N hNs2 hNs2).1
          have e2 := (len_small N N hNs2 hNs2).2.1
          have e3 := (len_small N3 N3 (Nat.le_trans hNs (by decide)) (Nat.le_trans hNs (by decide))).1
          have e4 := (len_small N3 N3 (Nat.le_trans hNs (by decide)) (Nat.le_trans hNs (by decide))).2.1
          have hK3s : K3 ≤ 16777216 := by omega
          have hN3s : N3 ≤ 16777216 := Nat.le_trans hNs (by decide)
          obtain ⟨J, hJ, e5, e6⟩ := len_sum K3 N3 hK3s hN3s
          rw [hJ] at hres
          have hJm : J ≤ m3 := by rw [← hJ]; exact lenJ K3 N3 m3 q1 h4'
          have hr5 := hr3.drop J (by rw [hl3]; exact hJm)
          have hsl3 := fun W => slice_lo 23 5 Try.underlying23 (i := _) rfl rfl A3 m3 c3 J hJm W
          have hr5w := hr3w.drop J (by rw [hl3]; exact hJm)
          have HJM : Hid (1 ≤ K ∧ K ≤ m ∧ m3 < m ∧ 0 < m) := hide ⟨k2, k1, len_m m K m3 hm3 k2 k1⟩
          have hl5 : (b3.drop J).length = m3 - J := by rw [List.length_drop, hl3]
          have hlq : ((pre.map fun n : Nat => (n : Int)).length + 1) * 8 ≤ 140737488355328 := by rw [hpl]; exact len_q pl m n (by rw [← hpl']; exact hpm) hl
          have HLQ := hide hlq
          have HRS := hide hres
          have HPM := hide hpm
          have HMF := hide hmf
          clear h4 h5 hm4 hN3 hK3 hlq hres hpm hmf hJ
          have Z1 := hide e1
          have Z2 := hide e2
          have Z3 := hide e3
          have Z4 := hide e4
          have Z5 := hide e5
          have Z6 := hide e6
          have Z7 := hide hsl3
          clear e1 e2 e3 e4 e5 e6 hsl3 h4' hNs hNs2 hK3s hN3s hl5 hJm
          go_wp2_with (first | (go_at_call 102; (with_reducible refine (hG _ hr2).mono ?_); rintro e w1 ⟨rfl, HB1⟩; have hr4 := hr3.below HB1) | (go_at_call 102; (with_reducible refine (hG3 _ hr4).mono ?_); rintro e w2 ⟨rfl, HB2⟩))
          have e2 := Z2.out
          have e4 := Z4.out
          have e6 := Z6.out
          have hsl3 := Z7.out
          have HB3 := (HB.trans (HB1.mono HB.size)).trans (HB2.mono (Nat.le_trans HB.size HB1.size))
          have HO3 := (HO.below HB1).below HB2
          go_region_law (first | ((refine step_int (w0 := w) (W := w2.drew) w.heap.size (by rfl) (.tmp 43) (.tmp 46) rfl _ (pre.map fun n : Nat => (n : Int)) (N : Int) (by rfl) (by rfl) (HO3.below (Below.refl _ _).drew) HB3.drew HB3.size HLQ.out ?_); intro v6 w6 HO6 HB6 hg6; have hB6 : Below w2.heap.size w2 w2 := Below.refl _ _))
          obtain ⟨A6, c6, hv6, -⟩ := HO6.rd
          generalize (pre.map (fun n : Nat => (n : Int)) ++ [(N : Int)]).length = n6 at hv6
          subst hv6
          simp only [List.getElem_toArray, List.getElem_cons_zero, List.getElem_cons_succ, Act.put, List.setIfInBounds_toArray, List.set_cons_zero, List.set_cons_succ]
          go_wp2
          go_roundw
          case rel =>
            refine ⟨f', b3.drop J, pre ++ [N], _, _, m3 - J, (by rw [List.length_drop, hl3]), ?_, ?_, ?_, rfl, hr5w, ?_, HB6⟩
            · have h1 := HPM.out
              have h2 := HJM.out
              rw [List.length_append, List.length_singleton]
              exact len_r1 pre.length m m3 J n h1 h2.2.2
            · exact len_r2 m m3 J f' HMF.out HJM.out.2.2
            · rw [HRS.out, Option.map_map]
              congr 1
              funext x
              simp
            · rw [List.map_append]; exact HO6
          case measure =>
            have h2 := HJM.out
            simp only [lenV]
            exact len_r3 m m3 J h2.2.2
end Go.Proofs.Ytefcepjffeiaoaa
end

section
/- Table: told, walked. -/
namespace Go.Proofs.Ytefcepjffeiaoaa
open Go.RowKit Go.Proofs.YtefcepjffeiaoaaW.PrintWords
set_option linter.unusedVariables false

section
variable {ops : Array Oper} {o : Oper} {a : Act} {Q : Exit → Act → World → Prop} {K : Act → World → Prop}
theorem step_ents {w0 W : World} (base : Nat) (hw : Region.wanted o (yielded ops a.tmps) = true) (s x : Operand)
    (ho : o.op = .call { callee := .builtin .append, args := #[s, x], argTypes := #[22, 22] })
    (v : Value) (xs ys : List Ent) (A : Option Addr) (c : Nat) (hs : a.eval s = v) (hx : a.eval x = .slice A ys.length c)
    (HO : OwE W base v xs) (HR : RdE W A c ys) (HB : Below base w0 W) (hbase : base ≤ W.heap.size) (hl : (xs.length + ys.length) * 48 ≤ 140737488355328)
    (h : ∀ v1 w1, OwE w1 base v1 (xs ++ ys) → Below base w0 w1 → W.grownBy w1 v.ownBlock → K (a.put o.dst v1) w1) :
    if Region.wanted o (yielded ops a.tmps) = true then Oper.wp Try.prog o a W K Q else K (a.put o.dst undef) W :=
  Kd.R_append_rows_step kEnt (Rr := kEnt.K W) base hw s x 22 43 _ 48 ho Try.underlying22 info_ent rfl (by decide) (by decide) v xs ys A ys.length c (fun _ => True) (fun _ => False) hs hx
    HO HR.2 (fun _ _ h => kEnt_KM h) (fun _ h => h.elim) (fun _ _ => trivial) HB hbase hl (fun v1 w1 h1 h2 h3 _ => h v1 w1 h1 h2 h3)
end
theorem fgX_le (b : List UInt8) : (fgX b).length ≤ 65536 := by
  rw [fgX]
  split
  · next h =>
    have hg : ¬ 65536 < gN b := by
      intro hh
      rw [fgE] at h
      by_cases h1 : getErr b ≠ 0
      · rw [if_pos h1] at h; omega
      · rw [if_neg h1, if_pos hh] at h; cases h
    rw [List.length_drop, List.length_take]; omega
  · simp
theorem unL_le (b : List UInt8) : (unL b).length ≤ 64 := by
  by_cases h : unE b = 0
  · exact (chkE_ok _ (un_ok b h).1).2.1
  · rw [unL, if_neg h]; simp
theorem tld1 (a m n : Nat) (h : a ≤ 4096) (h2 : m ≤ 64) : (a + m) * 48 ≤ 140737488355328 := by omega
theorem tld3 (N m a : Nat) (h : N ≤ m) (h2 : m ≤ a) (h3 : a ≤ 140737488355328) : N ≤ 140737488355328 := by omega
theorem tld4 (i n : Nat) (h : i < n) (h2 : n ≤ 9223372036854775807) : wrap64 ((i : Int) + 1) = ((i + 1 : Nat) : Int) := by unfold wrap64; omega
theorem tldA (m N al : Nat) (h : m < N ∨ 4096 < al) : (m : Int) < (N : Int) ∨ (¬ (m : Int) < (N : Int) ∧ 4096 < (al : Int)) := by omega
theorem tldB (m N al : Nat) (h : ¬ (m < N ∨ 4096 < al)) : N ≤ m ∧ al ≤ 4096 ∧ ¬ (m : Int) < (N : Int) ∧ ¬ 4096 < (al : Int) := by omega
theorem tld5 (i n : Nat) (h : i < n) (hw : wrap64 ((i : Int) + 1) = ((i + 1 : Nat) : Int)) : n - (intOf (.int .i64 (wrap64 ((i : Int) + 1)))).toNat < n - (intOf (.int .i64 (i : Int))).toNat := by
  rw [hw]
  show n - (i + 1) < n - i
  omega
theorem catP_cons (ns : List Nat) (k : Nat) (hk : k < ns.length) (rest : List UInt8) (acc : List Ent) : catP (ns.drop k) rest acc = if rest.length < ns.getD k 0 ∨ 4096 < acc.length then [] else if unE (rest.take (ns.getD k 0)) ≠ 0 then [] else catP (ns.drop (k + 1)) (rest.drop (ns.getD k 0)) (acc ++ unL (rest.take (ns.getD k 0))) := by
  rw [List.drop_eq_getElem_cons hk, catP, List.getD_eq_getElem?_getD, List.getElem?_eq_getElem hk]
  rfl
theorem catP_end (ns : List Nat) (rest : List UInt8) (acc : List Ent) : catP (ns.drop ns.length) rest acc = acc := by
  rw [List.drop_length, catP]
set_option maxRecDepth 100000 in
set_option maxHeartbeats 3200000 in
theorem told_any10 (A : Option Addr) (c n at_ to_ : Nat) (b : List UInt8) (w : World) (hn : b.length = n) (hx : RdB w A c b) (hl : n ≤ 140737488355328) :
    Calls Try.prog 48 #[.slice A n c, .int .i64 (at_ : Int), .int .i64 (to_ : Int)] w fun e w' => ∃ v, e = .returned v ∧ OwE w' w.heap.size v (toldP b at_ to_) ∧ Below w.heap.size w w' := by
  rw [toldP, hn]
  by_cases h1 : to_ < at_ ∨ n < to_
  · rw [if_pos h1]
    have h2 : (to_ : Int) < (at_ : Int) ∨ (¬ (to_ : Int) < (at_ : Int) ∧ (n : Int) < (to_ : Int)) := by omega
    clear h1 hn hl
    rcases h2 with h2 | ⟨h2, h3⟩
    · go_enter Try.func48, Try.ntmps48
      go_wp2
      go_ret
      exact ⟨_, rfl, Ow.zero _ _ _ _, Below.refl _ _⟩
    · go_enter Try.func48, Try.ntmps48
      go_wp2
      go_ret
      exact ⟨_, rfl, Ow.zero _ _ _ _, Below.refl _ _⟩
  · rw [if_neg h1]
    obtain ⟨h2, h3⟩ : at_ ≤ to_ ∧ to_ ≤ n := by omega
    have h2i : ¬ (to_ : Int) < (at_ : Int) := by omega
    have h3i : ¬ (n : Int) < (to_ : Int) := by omega
    have hle := hx.le
    have hnc : n ≤ c := by rw [← hn]; exact hle
    have hsub := (hx.take to_ (by rw [hn]; exact h3)).drop at_ (by rw [List.length_take, hn]; omega)
    have hsl := fun W => slice_lohi 23 5 Try.underlying23 (i := _) rfl rfl A n c at_ to_ h2 (Nat.le_trans h3 hnc) W
    have hsh := fun W => slice_hi 23 5 Try.underlying23 (i := _) rfl rfl A n c at_ (Nat.le_trans (Nat.le_trans h2 h3) hnc) W
    have hhead := hx.take at_ (by rw [hn]; omega)
    have hlh : (b.take at_).length = at_ := by rw [List.length_take, hn]; omega
    have hls : ((b.take to_).drop at_).length = to_ - at_ := by rw [List.length_drop, List.length_take, hn]; omega
    obtain ⟨A2, hA2⟩ : ∃ A2, cutA A c at_ = A2 := ⟨_, rfl⟩
    obtain ⟨c2, hc2⟩ : ∃ c2, c - at_ = c2 := ⟨_, rfl⟩
    obtain ⟨m2, hm2⟩ : ∃ m2, to_ - at_ = m2 := ⟨_, rfl⟩
    rw [hA2, hc2] at hsub hsl
    rw [hm2] at hsl hls
    have hm2l : m2 ≤ 140737488355328 := by omega
    have hatl : at_ ≤ 140737488355328 := by omega
    generalize (b.take to_).drop at_ = sub at *
    generalize b.take at_ = head at *
    have hG := fun W (h : RdB W A2 c2 sub) => Fr.FGet_any A2 c2 sub W h (by rw [hls]; exact hm2l)
    rw [hls] at hG
    unfold fil at hG
    have hXl := fgX_le sub
    clear hA2 hc2 hm2 hm2l h1 h2 h3 hnc hle hl hls hn
    by_cases h4 : fgE sub = 0
    · rw [if_neg (fun h => h h4)]
      rw [h4] at hG
      obtain ⟨K, hK⟩ : ∃ K, fgK sub = K := ⟨_, rfl⟩
      obtain ⟨X, hX⟩ : ∃ X, fgX sub = X := ⟨_, rfl⟩
      obtain ⟨S, hS⟩ : ∃ S, fgS sub = S := ⟨_, rfl⟩
      rw [hX] at hXl ⊢
      rw [hK, hX, hS] at hG
      obtain ⟨nx, hnx⟩ : ∃ nx, X.length = nx := ⟨_, rfl⟩
      rw [hnx] at hXl hG ⊢
      have hL := fun A3 c3 W (h : RdB W A3 c3 X) => lengths_any A3 c3 nx X W hnx h hXl
      clear hK hX hS h4 hnx
      cases hr : lenL nx X with
      | none =>
        rw [hr] at hL
        clear hr
        go_enter Try.func48, Try.ntmps48
        go_wp2_with (first | (go_at_call 83; (with_reducible refine (hG _ hsub).mono ?_); rintro e w1 ⟨A3, c3, rfl, HO1, HB1⟩; have r1 := (HO1.rdl).below (below_alloc w1 (.cells #[.int .i64 K, .slice A3 nx c3] 106)); obtain ⟨b0, b1, b2, b3⟩ := (Bx.new w1 K (.slice A3 nx c3) 106).read) | (go_at_call 84; (with_reducible refine (hL A3 c3 _ r1).mono ?_); rintro e w2 ⟨v2, rfl, HO2, HB2⟩))
        go_ret
        exact ⟨_, rfl, Ow.zero _ _ _ _, HB1.trans ((stp (below_alloc w1 _) HB2).mono HB1.size)⟩
      | some ns =>
        rw [hr] at hL
        clear hr
        simp only
        obtain ⟨res, hres⟩ : ∃ res, catP ns head [] = res := ⟨_, rfl⟩
        rw [hres]
        have HR := hide hres
        have hlI : lensI (some ns) = ns.map fun n : Nat => (n : Int) := rfl
        rw [hlI] at hL
        obtain ⟨nn, hnn⟩ : ∃ nn, ns.length = nn := ⟨_, rfl⟩
        have hnn2 : (ns.map fun n : Nat => (n : Int)).length = nn := by rw [List.length_map, hnn]
        have HNN := hide hnn
        have HLH := hide hlh
        clear hres hlI hnn hlh
        go_enter Try.func48, Try.ntmps48
        go_wp2_with (first | (go_at_call 83; (with_reducible refine (hG _ hsub).mono ?_); rintro e w1 ⟨A3, c3, rfl, HO1, HB1⟩; have r1 := (HO1.rdl).below (below_alloc w1 (.cells #[.int .i64 K, .slice A3 nx c3] 106)); obtain ⟨b0, b1, b2, b3⟩ := (Bx.new w1 K (.slice A3 nx c3) 106).read) | (go_at_call 84; (with_reducible refine (hL A3 c3 _ r1).mono ?_); rintro e w2 ⟨v2, rfl, HO2, HB2⟩; obtain ⟨A4, c4, hv4, -⟩ := HO2.rd; rw [hnn2] at hv4; subst hv4))
        have HB3 : Below w.heap.size w w2 := HB1.trans ((stp (below_alloc w1 _) HB2).mono HB1.size)
        have hs1 := HB1.size
        have O4 : Ow kInt 3 w2 w.heap.size (.slice A4 nn c4) (ns.map fun n : Nat => (n : Int)) := HO2.lower (Nat.le_trans hs1 (below_alloc w1 _).size)
        clear HO1 HO2 r1 b0 b1 b2 b3 HB1 HB2 hG hL hs1 hsub
        go_loopw [12, 13, 51] (fun lv rv iv wr => ∃ (i : Nat) (acc : List Ent) (rs : List UInt8) (A2 : Option Addr) (c2 m : Nat), i ≤ nn ∧ iv = .int .i64 (i : Int) ∧ rv = .slice A2 m c2 ∧ rs.length = m ∧ RdB w A2 c2 rs ∧ OwE wr w.heap.size lv acc ∧ res = catP (ns.drop i) rs acc ∧ m ≤ at_ ∧ Ow kInt 3 wr w.heap.size (.slice A4 nn c4) (ns.map fun n : Nat => (n : Int)) ∧ Below w.heap.size w wr) (fun lv rv iv _ => nn - (intOf iv).toNat)
        case atStart => exact ⟨0, [], head, A, c, at_, Nat.zero_le _, rfl, rfl, HLH.out, hhead, Ow.zero _ _ _ _, by rw [← HR.out]; rfl, Nat.le_refl _, O4, HB3⟩
        case round =>
          obtain ⟨i, acc, rs, A5, c5, m, hi, rfl, rfl, hm, hrs, HO, hres, hma, HS, HB⟩ := hrel
          obtain ⟨Ao, co, hvo, -⟩ := HO.rd
          subst hvo
          obtain ⟨al, hal⟩ : ∃ al, acc.length = al := ⟨_, rfl⟩
          rw [hal] at HO ⊢
          by_cases hlt : i < nn
          · have hlti : (i : Int) < (nn : Int) := Int.ofNat_lt.2 hlt
            obtain ⟨ad, rfl, x0⟩ := Rd.int_at HS.rdl i (by rw [hnn2]; exact hlt)
            obtain ⟨N, hN⟩ : ∃ N, ns.getD i 0 = N := ⟨_, rfl⟩
            have hNi : (ns.map fun n : Nat => (n : Int)).getD i 0 = (N : Int) := by
              rw [← hN, List.getD_eq_getElem?_getD, List.getD_eq_getElem?_getD, List.getElem?_map]
              cases ns[i]? <;> rfl
            rw [hNi] at x0
            have hc := catP_cons ns i (by rw [HNN.out]; exact hlt) rs acc
            rw [hN, hm, hal] at hc
            rw [hc] at hres
            clear hc hN hNi
            by_cases h5 : m < N ∨ 4096 < al
            · rw [if_pos h5] at hres
              subst hres
              have h6 := tldA m N al h5
              clear h5 hsl hsh
              rcases h6 with h6 | ⟨h6, h7⟩
              · go_wp2
                go_ret
                exact ⟨_, rfl, Ow.zero _ _ _ _, HB⟩
              · go_wp2
                go_ret
                exact ⟨_, rfl, Ow.zero _ _ _ _, HB⟩
            · rw [if_neg h5] at hres
              obtain ⟨h6, h7, h6i, h7i⟩ := tldB m N al h5
              have hrc := hrs.le
              rw [hm] at hrc
              have hsh2 := fun W => slice_hi 23 5 Try.underlying23 (i := _) rfl rfl A5 m c5 N (Nat.le_trans h6 hrc) W
              have hpart := (hrs.take N (by rw [hm]; exact h6))
              have hpl : (rs.take N).length = N := by rw [List.length_take, hm]; exact Nat.min_eq_left h6
              have hD := fun W (h : RdB W A5 c5 (rs.take N)) (hl : N ≤ 140737488355328) => Decode_any A5 c5 N (rs.take N) W hpl h hl
              have hul := unL_le (rs.take N)
              have hpw := hpart.below HB
              clear h5 hsl hsh hpl
              have hNl : N ≤ 140737488355328 := tld3 N m at_ h6 hma hatl
              by_cases h8 : unE (rs.take N) = 0
              · rw [if_neg (fun h => h h8)] at hres
                have hD0 := hD _ hpw hNl
                rw [h8] at hD0
                obtain ⟨ys, hys⟩ : ∃ ys, unL (rs.take N) = ys := ⟨_, rfl⟩
                rw [hys] at hD0 hul hres
                obtain ⟨yl, hyl⟩ : ∃ yl, ys.length = yl := ⟨_, rfl⟩
                have hrs2 := hrs.drop N (by rw [hm]; exact h6)
                have hsl2 := fun W => slice_lo 23 5 Try.underlying23 (i := _) rfl rfl A5 m c5 N h6 W
                have hl2 : (rs.drop N).length = m - N := by rw [List.length_drop, hm]
                have hfit : (acc.length + ys.length) * 48 ≤ 140737488355328 := by rw [hal]; exact tld1 al ys.length 0 h7 hul
                have HW := hide (tld4 i nn hlt (by have := HS.rdl.max; rwa [hnn2] at this))
                have HFIT := hide hfit
                have HAL := hide hal
                have HYL := hide hyl
                have HRES := hide hres
                have HMA := hide hma
                clear hD h8 hys hul hfit hal hyl hres hma hNl hpart hpw h6 h7 hatl
                go_wp2_with (first | (go_at_call 85; (with_reducible refine hD0.mono ?_); rintro e w5 ⟨v5, rfl, HO5, HB5⟩; obtain ⟨A6, c6, hv5, hr6⟩ := HO5.rd; rw [HYL.out] at hv5; subst hv5))
                have HB6 := HB.trans (HB5.mono HB.size)
                have HO6 := HO.below HB5
                have HS6 := HS.below HB5
                go_region_law (first | ((refine step_ents (w0 := w) (W := w5.drew) w.heap.size (by rfl) (.tmp 73) (.tmp 74) rfl _ acc ys A6 c6 (by rfl) (by rw [HYL.out]; rfl) (HO6.below (Below.refl _ _).drew) (hr6.below (Below.refl _ _).drew) HB6.drew HB6.size HFIT.out ?_); intro v7 w7 HO7 HB7 hg7; have HS7 := (HS6.below (Below.refl _ w5).drew).over (HO6.below (Below.refl _ w5).drew) (one_ne (by decide)) hg7))
                obtain ⟨A7, c7, hv7, -⟩ := HO7.rd
                generalize (acc ++ ys).length = n7 at hv7
                subst hv7
                simp only [List.getElem_toArray, List.getElem_cons_zero, List.getElem_cons_succ, Act.put, List.setIfInBounds_toArray, List.set_cons_zero, List.set_cons_succ]
                go_wp2
                go_roundw
                case rel => exact ⟨i + 1, acc ++ ys, rs.drop N, _, _, m - N, hlt, by rw [HW.out], rfl, hl2, hrs2, HO7, HRES.out, Nat.le_trans (Nat.sub_le _ _) HMA.out, HS7, HB7⟩
                case measure => exact tld5 i nn hlt HW.out
              · rw [if_pos h8] at hres
                subst hres
                have hD0 := hD _ hpw hNl
                generalize unE (rs.take N) = E at *
                generalize unL (rs.take N) = ys at *
                clear hD hpart hpw h6 h7 hNl hul hatl
                go_wp2_with (first | (go_at_call 85; (with_reducible refine hD0.mono ?_); rintro e w5 ⟨v5, rfl, HO5, HB5⟩; obtain ⟨A6, c6, hv5, hr6⟩ := HO5.rd; generalize ys.length = yl at hv5; subst hv5))
                go_ret
                exact ⟨_, rfl, Ow.zero _ _ _ _, HB.trans (HB5.mono HB.size)⟩
          · obtain rfl : i = nn := Nat.le_antisymm hi (Nat.not_lt.1 hlt)
            have HEND : Hid (res = acc) := hide (by rw [hres, ← HNN.out]; exact catP_end _ _ _)
            clear hres hsl hsh
            go_wp2
            go_ret
            exact ⟨.slice Ao al co, rfl, by rw [HEND.out]; exact HO, HB⟩
    · rw [if_pos h4]
      have h4i : ¬ fgE sub = 0 := h4
      generalize fgE sub = E at *
      generalize fgK sub = K at *
      generalize fgS sub = S at *
      generalize fgX sub = X at *
      generalize X.length = nx at *
      go_enter Try.func48, Try.ntmps48
      go_wp2_with (first | (go_at_call 83; (with_reducible refine (hG _ hsub).mono ?_); rintro e w1 ⟨A3, c3, rfl, HO1, HB1⟩; obtain ⟨b0, b1, b2, b3⟩ := (Bx.new w1 K (.slice A3 nx c3) 106).read))
      go_ret
      exact ⟨_, rfl, Ow.zero _ _ _ _, HB1.trans ((below_alloc w1 _).mono HB1.size)⟩
end Go.Proofs.Ytefcepjffeiaoaa
end

section
/- Table: Open, walked. -/
namespace Go.Proofs.Ytefcepjffeiaoaa
open Go.RowKit Go.Proofs.YtefcepjffeiaoaaW.PrintWords
set_option linter.unusedVariables false

/-- a table, as a value -/
def tabV (Al : Option Addr) (nl cl : Nat) (K : Int) (Ax : Option Addr) (nx cx : Nat) : Value := .agg #[.slice Al nl cl, .int .i64 K, .slice Ax nx cx]
/-- what is opened: the filter -/
def openK (b : List UInt8) : Int := if openE b = 0 then filK (openL b) else 0
def openX (b : List UInt8) : List UInt8 := if openE b = 0 then filX (openL b) else []
theorem toldP_le (b : List UInt8) (i j : Nat) : (toldP b i j).length ≤ 4160 := by
  have hc : ∀ (ns : List Nat) (rest : List UInt8) (acc : List Ent), acc.length ≤ 4160 → (catP ns rest acc).length ≤ 4160 := by
    intro ns
    induction ns with
    | nil => intro rest acc h; rw [catP]; exact h
    | cons n ns ih =>
      intro rest acc h
      rw [catP]
      split
      · simp
      · split
        · simp
        · refine ih _ _ ?_
          have := unL_le (rest.take n)
          rw [List.length_append]; omega
  rw [toldP]
  split
  · simp
  · split
    · simp
    · split
      · simp
      · exact hc _ _ _ (by simp)
theorem keys_small (l : List Ent) (h : ordE l = 0) : ∀ k, k ≤ l.length → ∀ s ∈ keysE l k, s.size ≤ 96 := by
  intro k
  induction k with
  | zero => intro _ s hs; cases hs
  | succ k ih =>
    intro hk s hs
    have hm : (keyAt l k).size ≤ 96 := (ordE_may l h k (by omega)).1.2.1
    rw [keysE] at hs
    split at hs
    · rcases List.mem_append.1 hs with h | h
      · exact ih (by omega) s h
      · rw [List.mem_singleton] at h; subst h; exact hm
    · exact ih (by omega) s hs
/-- bloom.Make of the keys of versions that are in order -/
theorem filt_any (A : Option Addr) (c kn : Nat) (l : List Ent) (W : World) (hT : tabE l = 0) (hk : (keysE l l.length).length = kn) (h : Bl.RdS W A c (keysE l l.length)) :
    Calls Try.prog 31 #[.slice A kn c, .int .i64 10] W fun e' w' => ∃ A' c', e' = .returned (.tuple #[.agg #[.int .i64 (filK l), .slice A' (filX l).length c'], .int .i64 0]) ∧ OwB w' W.heap.size (.slice A' (filX l).length c') (filX l) ∧ Below W.heap.size W w' := by
  obtain ⟨t1, t2, t3⟩ := tabE_ok l hT
  obtain ⟨f1, f2, f3, f4, f5⟩ := fil_ok l hT
  have fE : Bl.makeE 10 (keysE l l.length).length = 0 := by
    have h0 := f1.2.2
    rw [Bl.makeE, if_neg (by decide), if_neg (by omega)]
  have hM := Bl.Make_any A c (keysE l l.length) 10 (fun s hs => Nat.le_trans (keys_small l t3 _ (Nat.le_refl _) s hs) (by decide)) W h
  rw [fE] at hM
  unfold Bl.fil at hM
  rw [← hk]
  exact hM
theorem foot_len (b : List UInt8) (n : Nat) (hn : b.length = n) (h : 20 ≤ n) : (footT b).length = 20 := by rw [footT, List.length_drop, hn]; omega
theorem bare_20 (b : List UInt8) (h : (footT b).length = 20) (h0 : bareNum (footT b) = 0) : (bare (footT b)).length = 16 := by
  unfold bareNum at h0
  rw [if_neg (by omega)] at h0
  split at h0
  · next hg =>
    rw [bare, if_pos ⟨by omega, hg⟩, List.length_take]; omega
  · cases h0
theorem cap_ne {w : World} {A : Option Addr} {c : Nat} {xs : List UInt8} (r : RdB w A c xs) (h : xs.length = 16) : ¬ c = 4 ∧ ¬ c = 8 := by have := r.le; omega
theorem cut_at (g c k : Nat) (h : ¬ c = k) : cutA (some ⟨g, 0, none⟩) c k = some ⟨g, k, none⟩ := by
  rw [cutA, if_neg h]
  show some ((⟨g, 0, none⟩ : Addr).add k) = _
  rw [add_plain]
set_option maxRecDepth 100000 in
set_option maxHeartbeats 3200000 in
theorem Open_any (A : Option Addr) (c n : Nat) (b : List UInt8) (w : World) (hn : b.length = n) (hx : RdB w A c b) (hl : n ≤ 140737488355328) :
    Calls Try.prog 13 #[.slice A n c] w fun e w' => ∃ Al cl Ax cx, e = .returned (.tuple #[tabV Al (openL b).length cl (openK b) Ax (openX b).length cx, .int .i64 (openE b)]) ∧ OwE w' w.heap.size (.slice Al (openL b).length cl) (openL b) ∧ OwB w' w.heap.size (.slice Ax (openX b).length cx) (openX b) ∧ Below w.heap.size w w' := by
  have q0 := heap_alloc_new w (.cells #[.slice none 0 0, .int .i64 0, .slice none 0 0] 34)
  have B0 := below_alloc w (.cells #[.slice none 0 0, .int .i64 0, .slice none 0 0] 34)
  have bad : ∀ E : Int, openE b = E → E ≠ 0 → openL b = [] ∧ openK b = 0 ∧ openX b = [] := fun E h h0 => by
    rw [← h] at h0
    exact ⟨by rw [openL, if_neg h0], by rw [openK, if_neg h0], by rw [openX, if_neg h0]⟩
  unfold tabV
  by_cases h1 : n < 20
  · have hE : openE b = 8 := by rw [openE, hn, if_pos h1]
    obtain ⟨r1, r2, r3⟩ := bad 8 hE (by decide)
    rw [hE, r1, r2, r3]
    have h1i : (n : Int) < 20 := by omega
    clear hE r1 r2 r3 bad hn
    go_enter Try.func13, Try.ntmps13
    go_wp2
    refine bodyPost_ret (v := .tuple #[.agg #[.slice none 0 0, .int .i64 0, .slice none 0 0], .int .i64 8]) (results_ct Try.results13 _ _ w.heap.size _ _ _ _ rfl q0 Try.underlying34 rfl rfl) rfl ⟨none, 0, none, 0, rfl, Ow.zero _ _ _ _, OwB.zero _ _, B0⟩
  · have h1i : ¬ (n : Int) < 20 := by omega
    have h20 : 20 ≤ n := Nat.not_lt.1 h1
    obtain ⟨m, hm⟩ : ∃ m, n - 20 = m := ⟨_, rfl⟩
    have hmd : (n : Int) - 20 = (m : Int) := by omega
    have hmw : wrap64 (m : Int) = (m : Int) := by unfold wrap64; omega
    have hmn : m ≤ n := by omega
    have hm20 : n - m = 20 := by omega
    have hft : b.drop m = footT b := by rw [footT, hn, hm]
    have r0 := hx.drop m (by rw [hn]; exact hmn)
    rw [hft] at r0
    have hfl := foot_len b n hn h20
    have hsl := fun W => slice_lo 23 5 Try.underlying23 (i := _) rfl rfl A n c m hmn W
    rw [hm20] at hsl
    generalize cutA A c m = Af at *
    generalize c - m = cf at *
    have hB := fun W (h : RdB W Af cf (footT b)) => Bare_all Af cf (footT b) W h (by rw [hfl]; decide)
    rw [hfl] at hB
    have lt0 : w.heap.size < (w.alloc (.cells #[.slice none 0 0, .int .i64 0, .slice none 0 0] 34)).heap.size := by rw [World.size_alloc]; exact Nat.lt_succ_self _
    have HN := hide hn
    have HM := hide hm
    clear h1 h20 hm hmn hm20 hft hn
    have oE : openE b = if bareNum (footT b) ≠ 0 then bareNum (footT b) else if (bare (footT b)).take 4 ≠ markT then 22 else if tabE (toldT b) = 0 ∧ tabX (toldT b) = b then 0 else 21 := by rw [openE, HN.out, if_neg (by have := h1i; omega)]
    by_cases h2 : bareNum (footT b) = 0
    · rw [if_neg (fun h => h h2)] at oE
      rw [h2] at hB
      have l16 := bare_20 b hfl h2
      have hP := fun g1 c1 (w1 : World) (r1 : RdB w1 (some ⟨g1, 0, none⟩) c1 (bare (footT b))) => HasPrefix_any (some ⟨g1, 0, none⟩) (some ⟨w1.heap.size, 0, none⟩) c1 4 16 4 (bare (footT b)) markT (mkW w1) l16 rfl (r1.below (below_alloc w1 _)) (rd_mark w1) (by decide)
      by_cases h3 : (bare (footT b)).take 4 = markT
      · rw [if_neg (fun h => h h3)] at oE
        simp only [decide_eq_true h3] at hP
        obtain ⟨p4, hp4⟩ : ∃ p, num4 ((bare (footT b)).drop 4) = p := ⟨_, rfl⟩
        obtain ⟨p8, hp8⟩ : ∃ p, num4 ((bare (footT b)).drop 8) = p := ⟨_, rfl⟩
        have hTo : toldT b = toldP b p4 p8 := by rw [toldT, hp4, hp8]
        have hTl : (toldT b).length ≤ 4160 := by rw [hTo]; exact toldP_le b p4 p8
        have hTd := fun W (h : Below w.heap.size w W) => told_any10 A c n p4 p8 b W HN.out (hx.below h) hl
        rw [← hTo] at hTd
        have hN4 := fun g1 c1 W (r : RdB W (some ⟨g1, 0, none⟩) c1 (bare (footT b))) => number_any4 (some ⟨g1, 4, none⟩) (c1 - 4) 12 ((bare (footT b)).drop 4) W (by rw [List.length_drop, l16]) (by have h := r.drop 4 (by rw [l16]; decide); rwa [cut_at g1 c1 4 (cap_ne r l16).1] at h) (by decide)
        have hN8 := fun g1 c1 W (r : RdB W (some ⟨g1, 0, none⟩) c1 (bare (footT b))) => number_any4 (some ⟨g1, 8, none⟩) (c1 - 8) 8 ((bare (footT b)).drop 8) W (by rw [List.length_drop, l16]) (by have h := r.drop 8 (by rw [l16]; decide); rwa [cut_at g1 c1 8 (cap_ne r l16).2] at h) (by decide)
        rw [hp4] at hN4
        rw [hp8] at hN8
        clear hp4 hp8 hTo
        obtain ⟨L, hL⟩ : ∃ L, toldT b = L := ⟨_, rfl⟩
        rw [hL] at oE hTl hTd
        obtain ⟨nl, hnl⟩ : ∃ nl, L.length = nl := ⟨_, rfl⟩
        have hnl2 : nl ≤ 1000000 := by rw [← hnl]; omega
        have hBd := fun A4 c4 W (r : RdE W A4 c4 L) => Build_any A4 c4 nl L W hnl r (Nat.le_trans hnl2 (by decide))
        obtain ⟨nx, hnx⟩ : ∃ nx, (tabX L).length = nx := ⟨_, rfl⟩
        have HNL := hide hnl
        have HNX := hide hnx
        have HLL := hide hL
        have HTL := hide hTl
        have HP4 := hide h3
        clear hnx hTl h3 h2 hnl hL
        by_cases h4 : tabE L = 0
        · by_cases h5 : tabX L = b
          · have hE : openE b = 0 := by rw [oE, if_pos ⟨h4, h5⟩]
            have e1 : openL b = L := by rw [openL, if_pos hE]; exact HLL.out
            have e2 : openK b = filK L := by rw [openK, if_pos hE, e1]
            have e3 : openX b = filX L := by rw [openX, if_pos hE, e1]
            rw [hE, e1, e2, e3]
            simp only [h4] at hBd
            obtain ⟨kn, hkn⟩ : ∃ kn, (keysE L nl).length = kn := ⟨_, rfl⟩
            have hKy := fun A4 c4 W (r : RdE W A4 c4 L) => keys_any A4 c4 nl L W HNL.out r hnl2
            have hFl := fun A7 c7 W (r : Bl.RdS W A7 c7 (keysE L L.length)) => filt_any A7 c7 kn L W h4 (by rw [HNL.out]; exact hkn) r
            rw [HNL.out] at hFl ⊢
            obtain ⟨K, hK⟩ : ∃ K, filK L = K := ⟨_, rfl⟩
            obtain ⟨nf, hnf⟩ : ∃ nf, (filX L).length = nf := ⟨_, rfl⟩
            rw [hK, hnf] at hFl ⊢
            have HKN := hide hkn
            have HH5 := hide h5
            clear bad hE e1 e2 e3 oE hkn hK hnf h4 h5
            go_enter Try.func13, Try.ntmps13
            go_wp2_with (first | (go_at_call 46; (with_reducible refine (hB _ (r0.below B0)).mono ?_); rintro e w1 ⟨v1, rfl, O1, HB1⟩; have C1 := stp B0 HB1; have q1 := (HB1.block _ lt0).trans q0; obtain ⟨g1, c1, hv1, -, -⟩ := World.ownsRow.form O1 (by rw [l16]; decide); rw [l16] at hv1; subst hv1; have r1 := OwB.rdl O1; obtain ⟨ne4, ne8⟩ := cap_ne r1 l16; have hcv := conv_mark w1; have Bm : Below w1.heap.size w1 (mkW w1) := below_alloc w1 _) | (go_at_call 47; (with_reducible refine (hP g1 c1 w1 r1).mono ?_); rintro e w2 ⟨rfl, HB2⟩; have C2 := stp C1 (stp Bm HB2); have q2 := ((stp Bm HB2).block _ (blk_lt q1)).trans q1; have r1b := r1.below (stp Bm HB2)))
            have hSd : Below w2.heap.size w2 w2.drew := (Below.refl _ _).drew
            go_region_held3 (fun Y => Below w2.heap.size w2 Y) (first | exact hSd | exact Q4 | assumption) (first | (go_at_call 49; (with_reducible refine (hN4 g1 c1 w2.drew (r1b.below hSd)).mono ?_); rintro e w3 ⟨rfl, rfl⟩) | (go_at_call 49; (with_reducible refine (hN8 g1 c1 w2.drew (r1b.below hSd)).mono ?_); rintro e w3 ⟨rfl, rfl⟩) | (go_at_call 48; (with_reducible refine (hTd _ (C2.trans (hSd.mono C2.size))).mono ?_); rintro e w4 ⟨v4, rfl, O4, HB4⟩; obtain ⟨A4, c4, hv4, r4⟩ := O4.rd; rw [HNL.out] at hv4; subst hv4; have Q4 : Below w2.heap.size w2 w4 := stp hSd HB4))
            have C4 := C2.trans (Q4.mono C2.size)
            have q4 := (Q4.block _ (blk_lt q2)).trans q2
            have O4b : OwE w4 w.heap.size (.slice A4 nl c4) L := O4.lower (Nat.le_trans C2.size hSd.size)
            have r4b := r4
            go_wp2_with (first | (go_at_call 11; (with_reducible refine (hBd A4 c4 _ r4).mono ?_); rintro e w5 ⟨v5, rfl, O5, HB5⟩; obtain ⟨A5, c5, hv5, r5⟩ := O5.rd; rw [HNX.out] at hv5; subst hv5; have C5 := C4.trans (HB5.mono C4.size); have q5 := (HB5.block _ (blk_lt q4)).trans q4) | (go_at_call 50; (refine (Equal_any A5 A c5 c nx n (tabX L) b w5 HNX.out HN.out r5 (hx.below C5)).mono ?_); rintro e w6 ⟨rfl, HB6⟩; rw [decide_eq_true HH5.out]; have C6 := C5.trans (HB6.mono C5.size); have q6 := (HB6.block _ (blk_lt q5)).trans q5; have y0 := blk_cell q6 0; have y1 := blk_cell q6 1; have y2 := blk_cell q6 2; have z0 := blk_frozen q6 0; have z1 := blk_frozen q6 1; have z2 := blk_frozen q6 2; have r6 := (r4.below HB5).below HB6))
            go_wp2_with (first | (go_at_call 32; (with_reducible refine (hKy A4 c4 _ r6).mono ?_); rintro e w7 ⟨v7, rfl, O7, HB7⟩; obtain ⟨A7, c7, hv7, r7⟩ := O7.rd; rw [HKN.out] at hv7; subst hv7) | (go_at_call 31; (with_reducible refine (hFl A7 c7 _ r7).mono ?_); rintro e w8 ⟨A8, c8, rfl, O8, HB8⟩; obtain ⟨b0, b1, b2, b3⟩ := (Bx.new w8 K (.slice A8 nf c8) 32).read; have Q9 := stp (stp HB7 HB8) (below_alloc w8 (.cells #[.int .i64 K, .slice A8 nf c8] 32)); have q9 := (Q9.block _ (blk_lt q6)).trans q6; have y0_ := blk_cell q9 0; have y1_ := blk_cell q9 1; have y2_ := blk_cell q9 2; have z0_ := blk_frozen q9 0; have z1_ := blk_frozen q9 1; have z2_ := blk_frozen q9 2))
            have Oe := ((O4b.below HB5).below HB6).below Q9
            have Of := (O8.below (below_alloc w8 (.cells #[.int .i64 K, .slice A8 nf c8] 32))).lower (Nat.le_trans C6.size HB7.size)
            have nof : some w.heap.size ≠ (Value.slice A8 nf c8).ownBlock := fun e => by have h1 := own_base O8 _ e.symm; have h2 := blk_lt q6; have h3 := HB7.size; omega
            have C9 := C6.trans (Q9.mono C6.size)
            have hF := blk_set (blk_set (blk_set q9 0 (.slice A4 nl c4)) 1 (.int .i64 K)) 2 (.slice A8 nf c8)
            refine bodyPost_ret (v := .tuple #[.agg #[.slice A4 nl c4, .int .i64 K, .slice A8 nf c8], .int .i64 0]) (results_ct Try.results13 _ _ w.heap.size _ _ _ _ rfl hF Try.underlying34 rfl rfl) rfl ⟨A4, c4, A8, c8, rfl, ?_, ?_, ((C9.setCell (p := ⟨w.heap.size, 0, none⟩) (Nat.le_refl _) _).setCell (p := ⟨w.heap.size, 1, none⟩) (Nat.le_refl _) _).setCell (p := ⟨w.heap.size, 2, none⟩) (Nat.le_refl _) _⟩
            · exact ((Oe.setCell q9 (one_ne (by decide)) 0 _).setCell (blk_set q9 0 _) (one_ne (by decide)) 1 _).setCell (blk_set (blk_set q9 0 _) 1 _) (one_ne (by decide)) 2 _
            · exact own_setCell (own_setCell (own_setCell Of (p := ⟨w.heap.size, 0, none⟩) nof _) (p := ⟨w.heap.size, 1, none⟩) nof _) (p := ⟨w.heap.size, 2, none⟩) nof _
          · have hE : openE b = 21 := by rw [oE, if_neg (fun h => h5 h.2)]
            obtain ⟨u1, u2, u3⟩ := bad 21 hE (by decide)
            rw [hE, u1, u2, u3]
            simp only [h4] at hBd
            have HH5 := hide h5
            clear hE u1 u2 u3 bad oE h4 h5
            go_enter Try.func13, Try.ntmps13
            go_wp2_with (first | (go_at_call 46; (with_reducible refine (hB _ (r0.below B0)).mono ?_); rintro e w1 ⟨v1, rfl, O1, HB1⟩; have C1 := stp B0 HB1; have q1 := (HB1.block _ lt0).trans q0; obtain ⟨g1, c1, hv1, -, -⟩ := World.ownsRow.form O1 (by rw [l16]; decide); rw [l16] at hv1; subst hv1; have r1 := OwB.rdl O1; obtain ⟨ne4, ne8⟩ := cap_ne r1 l16; have hcv := conv_mark w1; have Bm : Below w1.heap.size w1 (mkW w1) := below_alloc w1 _) | (go_at_call 47; (with_reducible refine (hP g1 c1 w1 r1).mono ?_); rintro e w2 ⟨rfl, HB2⟩; have C2 := stp C1 (stp Bm HB2); have q2 := ((stp Bm HB2).block _ (blk_lt q1)).trans q1; have r1b := r1.below (stp Bm HB2)))
            have hSd : Below w2.heap.size w2 w2.drew := (Below.refl _ _).drew
            go_region_held3 (fun Y => Below w2.heap.size w2 Y) (first | exact hSd | exact Q4 | assumption) (first | (go_at_call 49; (with_reducible refine (hN4 g1 c1 w2.drew (r1b.below hSd)).mono ?_); rintro e w3 ⟨rfl, rfl⟩) | (go_at_call 49; (with_reducible refine (hN8 g1 c1 w2.drew (r1b.below hSd)).mono ?_); rintro e w3 ⟨rfl, rfl⟩) | (go_at_call 48; (with_reducible refine (hTd _ (C2.trans (hSd.mono C2.size))).mono ?_); rintro e w4 ⟨v4, rfl, O4, HB4⟩; obtain ⟨A4, c4, hv4, r4⟩ := O4.rd; rw [HNL.out] at hv4; subst hv4; have Q4 : Below w2.heap.size w2 w4 := stp hSd HB4))
            have C4 := C2.trans (Q4.mono C2.size)
            have q4 := (Q4.block _ (blk_lt q2)).trans q2
            have O4b : OwE w4 w.heap.size (.slice A4 nl c4) L := O4.lower (Nat.le_trans C2.size hSd.size)
            go_wp2_with (first | (go_at_call 11; (with_reducible refine (hBd A4 c4 _ r4).mono ?_); rintro e w5 ⟨v5, rfl, O5, HB5⟩; obtain ⟨A5, c5, hv5, r5⟩ := O5.rd; rw [HNX.out] at hv5; subst hv5; have C5 := C4.trans (HB5.mono C4.size); have q5 := (HB5.block _ (blk_lt q4)).trans q4) | (go_at_call 50; (refine (Equal_any A5 A c5 c nx n (tabX L) b w5 HNX.out HN.out r5 (hx.below C5)).mono ?_); rintro e w6 ⟨rfl, HB6⟩; rw [decide_eq_false HH5.out]; have C6 := C5.trans (HB6.mono C5.size); have q6 := (HB6.block _ (blk_lt q5)).trans q5; have y0 := blk_cell q6 0; have y1 := blk_cell q6 1; have y2 := blk_cell q6 2; have z0 := blk_frozen q6 0; have z1 := blk_frozen q6 1; have z2 := blk_frozen q6 2))
            have hF := blk_set (blk_set (blk_set q6 0 (.slice none 0 0)) 1 (.int .i64 0)) 2 (.slice none 0 0)
            refine bodyPost_ret (v := .tuple #[.agg #[.slice none 0 0, .int .i64 0, .slice none 0 0], .int .i64 21]) (results_ct Try.results13 _ _ w.heap.size _ _ _ _ rfl hF Try.underlying34 rfl rfl) rfl ⟨none, 0, none, 0, rfl, Ow.zero _ _ _ _, OwB.zero _ _, (((C6).setCell (p := ⟨w.heap.size, 0, none⟩) (Nat.le_refl _) _).setCell (p := ⟨w.heap.size, 1, none⟩) (Nat.le_refl _) _).setCell (p := ⟨w.heap.size, 2, none⟩) (Nat.le_refl _) _⟩
        · have hE : openE b = 21 := by rw [oE, if_neg (fun h => h4 h.1)]
          obtain ⟨u1, u2, u3⟩ := bad 21 hE (by decide)
          rw [hE, u1, u2, u3]
          generalize tabE L = TE at *
          clear hE u1 u2 u3 bad oE
          go_enter Try.func13, Try.ntmps13
          go_wp2_with (first | (go_at_call 46; (with_reducible refine (hB _ (r0.below B0)).mono ?_); rintro e w1 ⟨v1, rfl, O1, HB1⟩; have C1 := stp B0 HB1; have q1 := (HB1.block _ lt0).trans q0; obtain ⟨g1, c1, hv1, -, -⟩ := World.ownsRow.form O1 (by rw [l16]; decide); rw [l16] at hv1; subst hv1; have r1 := OwB.rdl O1; obtain ⟨ne4, ne8⟩ := cap_ne r1 l16; have hcv := conv_mark w1; have Bm : Below w1.heap.size w1 (mkW w1) := below_alloc w1 _) | (go_at_call 47; (with_reducible refine (hP g1 c1 w1 r1).mono ?_); rintro e w2 ⟨rfl, HB2⟩; have C2 := stp C1 (stp Bm HB2); have q2 := ((stp Bm HB2).block _ (blk_lt q1)).trans q1; have r1b := r1.below (stp Bm HB2)))
          have hSd : Below w2.heap.size w2 w2.drew := (Below.refl _ _).drew
          go_region_held3 (fun Y => Below w2.heap.size w2 Y) (first | exact hSd | exact Q4 | assumption) (first | (go_at_call 49; (with_reducible refine (hN4 g1 c1 w2.drew (r1b.below hSd)).mono ?_); rintro e w3 ⟨rfl, rfl⟩) | (go_at_call 49; (with_reducible refine (hN8 g1 c1 w2.drew (r1b.below hSd)).mono ?_); rintro e w3 ⟨rfl, rfl⟩) | (go_at_call 48; (with_reducible refine (hTd _ (C2.trans (hSd.mono C2.size))).mono ?_); rintro e w4 ⟨v4, rfl, O4, HB4⟩; obtain ⟨A4, c4, hv4, r4⟩ := O4.rd; rw [HNL.out] at hv4; subst hv4; have Q4 : Below w2.heap.size w2 w4 := stp hSd HB4))
          have C4 := C2.trans (Q4.mono C2.size)
          have q4 := (Q4.block _ (blk_lt q2)).trans q2
          have O4b : OwE w4 w.heap.size (.slice A4 nl c4) L := O4.lower (Nat.le_trans C2.size hSd.size)
          go_wp2_with (first | (go_at_call 11; (with_reducible refine (hBd A4 c4 _ r4).mono ?_); rintro e w5 ⟨v5, rfl, O5, HB5⟩; obtain ⟨A5, c5, hv5, r5⟩ := O5.rd; rw [HNX.out] at hv5; subst hv5; have C5 := C4.trans (HB5.mono C4.size); have q5 := (HB5.block _ (blk_lt q4)).trans q4; have y0 := blk_cell q5 0; have y1 := blk_cell q5 1; have y2 := blk_cell q5 2; have z0 := blk_frozen q5 0; have z1 := blk_frozen q5 1; have z2 := blk_frozen q5 2))
          have hF := blk_set (blk_set (blk_set q5 0 (.slice none 0 0)) 1 (.int .i64 0)) 2 (.slice none 0 0)
          refine bodyPost_ret (v := .tuple #[.agg #[.slice none 0 0, .int .i64 0, .slice none 0 0], .int .i64 21]) (results_ct Try.results13 _ _ w.heap.size _ _ _ _ rfl hF Try.underlying34 rfl rfl) rfl ⟨none, 0, none, 0, rfl, Ow.zero _ _ _ _, OwB.zero _ _, (((C5).setCell (p := ⟨w.heap.size, 0, none⟩) (Nat.le_refl _) _).setCell (p := ⟨w.heap.size, 1, none⟩) (Nat.le_refl _) _).setCell (p := ⟨w.heap.size, 2, none⟩) (Nat.le_refl _) _⟩
      · have hE : openE b = 22 := by rw [oE, if_pos h3]
        obtain ⟨u1, u2, u3⟩ := bad 22 hE (by decide)
        rw [hE, u1, u2, u3]
        simp only [decide_eq_false h3] at hP
        clear hE u1 u2 u3 bad oE h3 h2
        go_enter Try.func13, Try.ntmps13
        go_wp2_with (first | (go_at_call 46; (with_reducible refine (hB _ (r0.below B0)).mono ?_); rintro e w1 ⟨v1, rfl, O1, HB1⟩; have C1 := stp B0 HB1; have q1 := (HB1.block _ lt0).trans q0; obtain ⟨g1, c1, hv1, -, -⟩ := World.ownsRow.form O1 (by rw [l16]; decide); rw [l16] at hv1; subst hv1; have r1 := OwB.rdl O1; obtain ⟨ne4, ne8⟩ := cap_ne r1 l16; have hcv := conv_mark w1; have Bm : Below w1.heap.size w1 (mkW w1) := below_alloc w1 _) | (go_at_call 47; (with_reducible refine (hP g1 c1 w1 r1).mono ?_); rintro e w2 ⟨rfl, HB2⟩; have C2 := stp C1 (stp Bm HB2); have q2 := ((stp Bm HB2).block _ (blk_lt q1)).trans q1; have y0 := blk_cell q2 0; have y1 := blk_cell q2 1; have y2 := blk_cell q2 2; have z0 := blk_frozen q2 0; have z1 := blk_frozen q2 1; have z2 := blk_frozen q2 2))
        have hF := blk_set (blk_set (blk_set q2 0 (.slice none 0 0)) 1 (.int .i64 0)) 2 (.slice none 0 0)
        refine bodyPost_ret (v := .tuple #[.agg #[.slice none 0 0, .int .i64 0, .slice none 0 0], .int .i64 22]) (results_ct Try.results13 _ _ w.heap.size _ _ _ _ rfl hF Try.underlying34 rfl rfl) rfl ⟨none, 0, none, 0, rfl, Ow.zero _ _ _ _, OwB.zero _ _, (((C2).setCell (p := ⟨w.heap.size, 0, none⟩) (Nat.le_refl _) _).setCell (p := ⟨w.heap.size, 1, none⟩) (Nat.le_refl _) _).setCell (p := ⟨w.heap.size, 2, none⟩) (Nat.le_refl _) _⟩
    · have hE : openE b = bareNum (footT b) := by rw [oE, if_pos h2]
      obtain ⟨u1, u2, u3⟩ := bad _ hE h2
      rw [hE, u1, u2, u3]
      generalize bareNum (footT b) = E at *
      generalize bare (footT b) = bt at *
      clear hE u1 u2 u3 bad oE
      go_enter Try.func13, Try.ntmps13
      go_wp2_with (first | (go_at_call 46; (with_reducible refine (hB _ (r0.below B0)).mono ?_); rintro e w1 ⟨v1, rfl, O1, HB1⟩; have C1 := stp B0 HB1; have q1 := (HB1.block _ lt0).trans q0; have y0 := blk_cell q1 0; have y1 := blk_cell q1 1; have y2 := blk_cell q1 2; have z0 := blk_frozen q1 0; have z1 := blk_frozen q1 1; have z2 := blk_frozen q1 2))
      have hF := blk_set (blk_set (blk_set q1 0 (.slice none 0 0)) 1 (.int .i64 0)) 2 (.slice none 0 0)
      refine bodyPost_ret (v := .tuple #[.agg #[.slice none 0 0, .int .i64 0, .slice none 0 0], .int .i64 E]) (results_ct Try.results13 _ _ w.heap.size _ _ _ _ rfl hF Try.underlying34 rfl rfl) rfl ⟨none, 0, none, 0, rfl, Ow.zero _ _ _ _, OwB.zero _ _, (((C1).setCell (p := ⟨w.heap.size, 0, none⟩) (Nat.le_refl _) _).setCell (p := ⟨w.heap.size, 1, none⟩) (Nat.le_refl _) _).setCell (p := ⟨w.heap.size, 2, none⟩) (Nat.le_refl _) _⟩
end Go.Proofs.Ytefcepjffeiaoaa
end

section
/- Table: Get, walked. -/
namespace Go.Proofs.Ytefcepjffeiaoaa
open Go.RowKit Go.Proofs.YtefcepjffeiaoaaW.PrintWords
set_option linter.unusedVariables false

theorem mem_keys (l : List Ent) : ∀ k, k ≤ l.length → ∀ j, j < k → keyAt l j ∈ keysE l k := by
  intro k
  induction k with
  | zero => intro _ j hj; omega
  | succ k ih =>
    intro hk j hj
    rw [keysE]
    rcases Nat.lt_or_ge j k with h | h
    · split
      · exact List.mem_append_left _ (ih (by omega) j h)
      · exact ih (by omega) j h
    · obtain rfl : j = k := by omega
      split
      · exact List.mem_append_right _ (List.mem_singleton.2 rfl)
      · next hno =>
        have h0 : ¬ j = 0 := fun h => hno (.inl h)
        have h1 : keyAt l j = keyAt l (j - 1) := Decidable.not_not.1 (fun h => hno (.inr h))
        rw [h1]
        exact ih (by omega) (j - 1) (by omega)
theorem has_all (l : List Ent) (h : tabE l = 0) (j : Nat) (hj : j < l.length) : Bl.hasB (filK l) (filX l) (keyAt l j) = true ∧ Bl.encE (filK l) (filX l).length = 0 := by
  obtain ⟨f1, f2, f3, f4, f5⟩ := fil_ok l h
  have hm := Bl.has_made 10 (keysE l l.length) (keyAt l j) (mem_keys l l.length (Nat.le_refl _) j hj) f1 (filX l) (by rw [filX]; exact Bl.Le.refl _)
  exact ⟨hm.1, by rw [Bl.encE, if_pos f5]⟩
/-- what is got -/
def getE (b : List UInt8) (key : ByteArray) (seq : Int) : Option Ent := if openE b = 0 then firstE (openL b) key seq else none
theorem has_not (l : List Ent) (h : tabE l = 0) (key : ByteArray) (seq : Int) (hno : Bl.hasB (filK l) (filX l) key = false) : firstE l key seq = none := by
  cases hf : firstE l key seq with
  | none => rfl
  | some x =>
    obtain ⟨h1, h2, -⟩ := first_some l key seq x hf
    obtain ⟨j, hj, rfl⟩ := List.getElem_of_mem h1
    have := (has_all l h j hj).1
    have hk : keyAt l j = key := by rw [keyAt, List.getD_eq_getElem?_getD, List.getElem?_eq_getElem hj]; exact h2
    rw [hk, hno] at this
    cases this
set_option maxRecDepth 100000 in
set_option maxHeartbeats 3200000 in
theorem Get_any10 (A : Option Addr) (c n : Nat) (b : List UInt8) (key : ByteArray) (seq : Int) (w : World) (hn : b.length = n) (hx : RdB w A c b) (hl : n ≤ 140737488355328) (hks : key.size ≤ 140737488355328) :
    Calls Try.prog 15 #[.slice A n c, .string key, .int .i64 seq] w fun e w' => e = .returned (.tuple #[resV (getE b key seq), .bool (resE (getE b key seq)).2, .int .i64 (openE b)]) ∧ Below w.heap.size w w' := by
  have q0 := heap_alloc_new w (.cells #[.string ⟨#[]⟩, .int .i64 0, .int .i64 0, .string ⟨#[]⟩] 43)
  have B0 := below_alloc w (.cells #[.string ⟨#[]⟩, .int .i64 0, .int .i64 0, .string ⟨#[]⟩] 43)
  have hE0 : Eb (w.alloc (.cells #[.string ⟨#[]⟩, .int .i64 0, .int .i64 0, .string ⟨#[]⟩] 43)) w.heap.size (⟨#[]⟩, 0, 0, ⟨#[]⟩) := q0
  have hO := Open_any A c n b _ hn (hx.below B0) hl
  unfold tabV at hO
  have fin4 : ∀ (W : World), Below w.heap.size w W → Eb W w.heap.size (⟨#[]⟩, 0, 0, ⟨#[]⟩) → True := fun _ _ _ => trivial
  by_cases h0 : openE b = 0
  · have hg : getE b key seq = firstE (openL b) key seq := by rw [getE, if_pos h0]
    obtain ⟨hT, -⟩ := open_ok b h0
    obtain ⟨t1, t2, t3⟩ := tabE_ok _ hT
    have eK : openK b = filK (openL b) := by rw [openK, if_pos h0]
    have eX : openX b = filX (openL b) := by rw [openX, if_pos h0]
    rw [hg]
    rw [h0, eK, eX] at hO
    rw [h0]
    have hno := has_not (openL b) hT key seq
    have hF := fun A' c' W (r : RdE W A' c' (openL b)) => First_any A' c' (openL b).length (openL b) key seq W rfl r t3 (Nat.le_trans t2 (by decide))
    have hH := fun A' c' W (r : RdB W A' c' (filX (openL b))) => Bl.Has_any (filK (openL b)) A' c' (filX (openL b)) key hks W r
    have eE : Bl.encE (filK (openL b)) (filX (openL b)).length = 0 := by rw [Bl.encE, if_pos (fil_ok _ hT).2.2.2.2]
    rw [eE] at hH
    unfold Bl.fil at hH
    generalize openL b = L at *
    obtain ⟨K, hK⟩ : ∃ K, filK L = K := ⟨_, rfl⟩
    obtain ⟨X, hX⟩ : ∃ X, filX L = X := ⟨_, rfl⟩
    obtain ⟨hb, hhb⟩ : ∃ hb, Bl.hasB (filK L) (filX L) key = hb := ⟨_, rfl⟩
    simp only [hhb] at hH hno
    rw [hK, hX] at hO
    simp only [hK, hX] at hH
    obtain ⟨nl, hnl⟩ : ∃ nl, L.length = nl := ⟨_, rfl⟩
    obtain ⟨nx, hnx⟩ : ∃ nx, X.length = nx := ⟨_, rfl⟩
    rw [hnl, hnx] at hO
    rw [hnl] at hF
    rw [hnx] at hH
    have e4 : ∀ o : Option Ent, resV o = .agg #[.string (resE o).1.1, .int .i64 (resE o).1.2.1, .int .i64 (resE o).1.2.2.1, .string (resE o).1.2.2.2] := fun o => rfl
    rw [e4]
    simp only [e4] at hF
    obtain ⟨⟨⟨xk, xq, xd, xv⟩, fb⟩, hy⟩ : ∃ y, resE (firstE L key seq) = y := ⟨_, rfl⟩
    rw [hy]
    simp only [hy] at hF
    have OPN : True := trivial
    cases hb with
    | true =>
      clear hno eE hhb hK hX hnl hnx t1 t2 t3 hT eK eX h0 hg hy hn
      go_enter Try.func15, Try.ntmps15
      go_wp2_with (first | (go_at_call 13; (with_reducible refine hO.mono ?_); rintro e w1 ⟨A1, c1, A2, c2, rfl, O1, O2, HB1⟩; have hE1 := hE0.below HB1; have C1 := stp B0 HB1; have hT1 := heap_alloc_new w1 (.cells #[.slice A1 nl c1, .int .i64 K, .slice A2 nx c2] 34); have r2 := (O2.rdl).below (below_alloc w1 (.cells #[.slice A1 nl c1, .int .i64 K, .slice A2 nx c2] 34)); have r1 := (O1.rdl).below (below_alloc w1 (.cells #[.slice A1 nl c1, .int .i64 K, .slice A2 nx c2] 34)); have y0 := blk_cell hT1 0; have y1 := blk_cell hT1 1; have y2 := blk_cell hT1 2) | (go_at_call 22; (with_reducible refine (hH A2 c2 _ r2).mono ?_); rintro e w2 ⟨rfl, HB2⟩; have hT2 := (HB2.block _ (blk_lt hT1)).trans hT1; have r1b := r1.below HB2; have z0 := blk_cell hT2 0; have hE2 := (hE1.below (below_alloc w1 (.cells #[.slice A1 nl c1, .int .i64 K, .slice A2 nx c2] 34))).below HB2; have C2 := stp C1 (stp (below_alloc w1 (.cells #[.slice A1 nl c1, .int .i64 K, .slice A2 nx c2] 34)) HB2)) | (go_at_call 54; (with_reducible refine (hF A1 c1 _ r1b).mono ?_); rintro e w3 ⟨rfl, HB3⟩; have C3 := stp C2 HB3; have b3 := below_alloc w3 (.cells #[.string xk, .int .i64 xq, .int .i64 xd, .string xv] 43); have hE3 := (hE2.below HB3).below b3; obtain ⟨e0, e1, e2, e3, y00, y10, y20, y30⟩ := hE3.read; obtain ⟨f0, f1, f2, f3, -, -, -, -⟩ := (Eb.new w3 (xk, xq, xd, xv)).read; have HC3 := stp C3 b3))
      have hFF := blk_set (blk_set (blk_set (blk_set hE3 0 (.string xk)) 1 (.int .i64 xq)) 2 (.int .i64 xd)) 3 (.string xv)
      refine bodyPost_ret (v := .tuple #[.agg #[.string xk, .int .i64 xq, .int .i64 xd, .string xv], .bool fb, .int .i64 0]) (results_ctt Try.results15 _ _ w.heap.size _ _ _ _ rfl hFF Try.underlying43 rfl rfl) rfl ⟨rfl, ?_⟩
      exact ((((HC3.setCell (p := ⟨w.heap.size, 0, none⟩) (Nat.le_refl _) _).setCell (p := ⟨w.heap.size, 1, none⟩) (Nat.le_refl _) _).setCell (p := ⟨w.heap.size, 2, none⟩) (Nat.le_refl _) _).setCell (p := ⟨w.heap.size, 3, none⟩) (Nat.le_refl _) _)
    | false =>
      rw [hno rfl] at hy
      obtain ⟨rfl, rfl, rfl, rfl, rfl⟩ : (⟨#[]⟩ : ByteArray) = xk ∧ (0 : Int) = xq ∧ (0 : Int) = xd ∧ (⟨#[]⟩ : ByteArray) = xv ∧ false = fb := by
        have h1 := congrArg Prod.fst hy
        have h2 := congrArg Prod.snd hy
        exact ⟨congrArg Prod.fst h1, congrArg (fun x => x.2.1) h1, congrArg (fun x => x.2.2.1) h1, congrArg (fun x => x.2.2.2) h1, h2⟩
      clear hno eE hhb hK hX hnl hnx t1 t2 t3 hT eK eX h0 hg hy hn hF
      go_enter Try.func15, Try.ntmps15
      go_wp2_with (first | (go_at_call 13; (with_reducible refine hO.mono ?_); rintro e w1 ⟨A1, c1, A2, c2, rfl, O1, O2, HB1⟩; have hE1 := hE0.below HB1; have C1 := stp B0 HB1; have hT1 := heap_alloc_new w1 (.cells #[.slice A1 nl c1, .int .i64 K, .slice A2 nx c2] 34); have r2 := (O2.rdl).below (below_alloc w1 (.cells #[.slice A1 nl c1, .int .i64 K, .slice A2 nx c2] 34)); have y0 := blk_cell hT1 0; have y1 := blk_cell hT1 1; have y2 := blk_cell hT1 2) | (go_at_call 22; (with_reducible refine (hH A2 c2 _ r2).mono ?_); rintro e w2 ⟨rfl, HB2⟩; have b2 := stp (below_alloc w1 (.cells #[.slice A1 nl c1, .int .i64 K, .slice A2 nx c2] 34)) HB2; have hE2 := hE1.below b2; have C2 := stp C1 b2; obtain ⟨e0, e1, e2, e3, y00, y10, y20, y30⟩ := hE2.read))
      have hFF := blk_set (blk_set (blk_set (blk_set hE2 0 (.string ⟨#[]⟩)) 1 (.int .i64 0)) 2 (.int .i64 0)) 3 (.string ⟨#[]⟩)
      refine bodyPost_ret (v := .tuple #[.agg #[.string ⟨#[]⟩, .int .i64 0, .int .i64 0, .string ⟨#[]⟩], .bool false, .int .i64 0]) (results_ctt Try.results15 _ _ w.heap.size _ _ _ _ rfl hFF Try.underlying43 rfl rfl) rfl ⟨rfl, ?_⟩
      exact ((((C2.setCell (p := ⟨w.heap.size, 0, none⟩) (Nat.le_refl _) _).setCell (p := ⟨w.heap.size, 1, none⟩) (Nat.le_refl _) _).setCell (p := ⟨w.heap.size, 2, none⟩) (Nat.le_refl _) _).setCell (p := ⟨w.heap.size, 3, none⟩) (Nat.le_refl _) _)
  · have hg : getE b key seq = none := by rw [getE, if_neg h0]
    have hl0 : openL b = [] := by rw [openL, if_neg h0]
    have hK0 : openK b = 0 := by rw [openK, if_neg h0]
    have hX0 : openX b = [] := by rw [openX, if_neg h0]
    rw [hg]
    rw [hl0, hK0, hX0] at hO
    have e4 : resV none = .agg #[.string ⟨#[]⟩, .int .i64 0, .int .i64 0, .string ⟨#[]⟩] := rfl
    have e5 : (resE none).2 = false := rfl
    rw [e4, e5]
    generalize openE b = E at *
    clear hg hl0 hK0 hX0 e4 e5 hn
    go_enter Try.func15, Try.ntmps15
    go_wp2_with (first | (go_at_call 13; (with_reducible refine hO.mono ?_); rintro e w1 ⟨A1, c1, A2, c2, rfl, O1, O2, HB1⟩; have b1 := stp HB1 (below_alloc w1 (.cells #[.slice A1 0 c1, .int .i64 0, .slice A2 0 c2] 34)); have hE1 := hE0.below b1; have C1 := stp B0 b1; obtain ⟨e0, e1, e2, e3, y00, y10, y20, y30⟩ := hE1.read))
    have hFF := blk_set (blk_set (blk_set (blk_set hE1 0 (.string ⟨#[]⟩)) 1 (.int .i64 0)) 2 (.int .i64 0)) 3 (.string ⟨#[]⟩)
    refine bodyPost_ret (v := .tuple #[.agg #[.string ⟨#[]⟩, .int .i64 0, .int .i64 0, .string ⟨#[]⟩], .bool false, .int .i64 E]) (results_ctt Try.results15 _ _ w.heap.size _ _ _ _ rfl hFF Try.underlying43 rfl rfl) rfl ⟨rfl, ?_⟩
    exact ((((C1.setCell (p := ⟨w.heap.size, 0, none⟩) (Nat.le_refl _) _).setCell (p := ⟨w.heap.size, 1, none⟩) (Nat.le_refl _) _).setCell (p := ⟨w.heap.size, 2, none⟩) (Nat.le_refl _) _).setCell (p := ⟨w.heap.size, 3, none⟩) (Nat.le_refl _) _)
end Go.Proofs.Ytefcepjffeiaoaa
end

section
/- Table: one octet that is another one, plainly. -/
namespace Go.Proofs.Ytefcepjffeiaoaa
set_option linter.unusedVariables false

end Go.Proofs.Ytefcepjffeiaoaa
end

section
/- The walk of Spoil. -/
namespace Go.Proofs.Ytefcepjffeiaoaa
open Go.RowKit Go.Proofs.YtefcepjffeiaoaaW.PrintWords

end Go.Proofs.Ytefcepjffeiaoaa
end

section
/- Table: the page's example; numbers of errors. -/
namespace Go.Proofs.Ytefcepjffeiaoaa
open Go.RowKit Go.Proofs.YtefcepjffeiaoaaW.PrintWords
set_option linter.unusedVariables false

theorem num_any (n : Int) (w : World) : Calls Try.prog 18 #[.int .i64 n] w fun e w' => e = .returned (.int .i64 n) ∧ w = w' := by
  go_enter Try.func18, Try.ntmps18
  go_wp2
  go_ret
  exact ⟨rfl, rfl⟩
def exT : Ent := (⟨#[97]⟩, 1, 1, ⟨#[120]⟩)
theorem exT_ok : tabE [exT] = 0 := by decide
theorem exT_get : getE (tabX [exT]) ⟨#[97]⟩ 9 = some exT := by
  obtain ⟨h1, h2⟩ := open_tab [exT] exT_ok
  rw [getE, if_pos h1, h2]
  rfl
theorem RdE_lit1 (x : Ent) (w : World) : RdE (w.alloc (.cells #[.string x.1, .int .i64 x.2.1, .int .i64 x.2.2.1, .string x.2.2.2] 43)) (some ⟨w.heap.size, 0, none⟩) 1 [x] := by
  refine ⟨Nat.le_refl _, rfl, by show 1 ≤ 9223372036854775807; decide, fun _ => ⟨_, rfl, fun j p hj => ?_⟩⟩
  have hj0 : j = 0 := by
    obtain ⟨h, _⟩ := List.getElem?_eq_some_iff.1 hj
    simp at h; omega
  subst hj0
  have hp : p = x := by simpa using hj.symm
  subst hp
  refine ⟨_, rfl, kEnt_mk _ p, fun i u hu => ?_⟩
  rw [add_plain, World.cell?_alloc_mark]
  match i, hu with
  | 0, hu => exact hu
  | 1, hu => exact hu
  | 2, hu => exact hu
  | 3, hu => exact hu
  | i + 4, hu => simp at hu
set_option maxRecDepth 100000 in
set_option maxHeartbeats 1600000 in
theorem alive_any (w : World) : Calls Try.prog 21 #[] w fun e w' => e = .returned (.bool true) ∧ Below w.heap.size w w' := by
  have hB := Build_any (some ⟨w.heap.size, 0, none⟩) 1 1 [exT] _ rfl (RdE_lit1 exT w) (by decide)
  rw [exT_ok] at hB
  obtain ⟨m, hm⟩ : ∃ m, (tabX [exT]).length = m := ⟨_, rfl⟩
  have hml : m ≤ 140737488355328 := by
    have := (tabB_le _ exT_ok).2
    rw [← hm, tabX, if_pos exT_ok]; omega
  have hG := fun A c W (h : RdB W A c (tabX [exT])) => Get_any10 A c m (tabX [exT]) ⟨#[97]⟩ 9 W hm h hml (by decide)
  rw [exT_get, (open_tab _ exT_ok).1] at hG
  have bA := below_alloc w (.cells #[.string exT.1, .int .i64 exT.2.1, .int .i64 exT.2.2.1, .string exT.2.2.2] 43)
  have hse : ((⟨#[120]⟩ : ByteArray).toList == (⟨#[120]⟩ : ByteArray).toList) = true := by simp
  have e4 : resV (some exT) = .agg #[.string ⟨#[97]⟩, .int .i64 1, .int .i64 1, .string ⟨#[120]⟩] := rfl
  have e5 : (resE (some exT)).2 = true := rfl
  rw [e4, e5] at hG
  generalize tabX [exT] = x at *
  have HM := hide hm
  clear hm
  go_enter Try.func21, Try.ntmps21
  go_wp2_with (first | (go_at_call 18; refine (num_any _ _).mono ?_; rintro e w' ⟨rfl, rfl⟩) | (go_at_call 11; refine hB.mono ?_; rintro e w1 ⟨v1, rfl, HO1, HB1⟩; obtain ⟨A1, c1, hv1, hr1⟩ := HO1.rd; rw [HM.out] at hv1; subst hv1; have HC1 := stp bA HB1) | (go_at_call 15; (with_reducible refine (hG _ _ _ hr1).mono ?_); rintro e w2 ⟨rfl, HB2⟩; have b2 := below_alloc w2 (.cells #[.string ⟨#[97]⟩, .int .i64 1, .int .i64 1, .string ⟨#[120]⟩] 43); have HC2 := stp (stp HC1 HB2) b2; obtain ⟨f0, f1, f2, f3, -, -, -, -⟩ := (Eb.new w2 (⟨#[97]⟩, 1, 1, ⟨#[120]⟩)).read))
  go_ret
  exact ⟨rfl, HC2⟩
theorem tabX_size (l : List Ent) (h : tabE l = 0) : (tabX l).length ≤ 3000000 ∧ 1 ≤ (tabX l).length := by
  obtain ⟨h1, h2⟩ := tabB_le l h
  rw [tabX, if_pos h]; omega
end Go.Proofs.Ytefcepjffeiaoaa
end
