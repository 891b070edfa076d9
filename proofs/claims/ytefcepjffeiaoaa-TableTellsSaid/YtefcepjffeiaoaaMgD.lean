/- The contracts that the laws of this seat share: octets, sums, numbers, records. -/
import Derived.Test.YtefcepjffeiaoaaMgC
import Derived.Test.YtefcepjffeiaoaaMgB
import Derived.Test.YtefcepjffeiaoaaMgA
set_option linter.unusedVariables false
set_option linter.unusedSimpArgs false
section
/- Table: Open, walked. -/
namespace Go.Proofs.Ytefcepjffeiaoaa
open Go.RowKit Go.Proofs.YtefcepjffeiaoaaW.PrintWords
set_option linter.unusedVariables false

/-- a table, as a value -/
def tabV (Al : Option Addr) (nl cl : Nat) (K : Int) (Ax : Option Addr) (nx cx : Nat) : Value := .agg #[.slice Al nl cl, .int .i64 K, .slice Ax nx cx]
/-- what is opened: the filter -/
def openK (b : List UInt8) : Int := if openE b = 0 then filK (openL b) else 0
def openX (b : List UInt8) : List UInt8 := if openE b = 0 then filX (openL b) else []
theorem toldP_le (b : List UInt8) (i j : Nat) : (toldP b i j).length ≤ 4160 := by
  have hc : ∀ (ns : List Nat) (rest : List UInt8) (acc : List Ent), acc.length ≤ 4160 → (catP ns rest acc).length ≤ 4160 := by
    intro ns
    induction ns with
    | nil => intro rest acc h; rw [catP]; exact h
    | cons n ns ih =>
      intro rest acc h
      rw [catP]
      split
      · simp
      · split
        · simp
        · refine ih _ _ ?_
          have := unL_le (rest.take n)
          rw [List.length_append]; omega
  rw [toldP]
  split
  · simp
  · split
    · simp
    · split
      · simp
      · exact hc _ _ _ (by simp)
theorem keys_small (l : List Ent) (h : ordE l = 0) : ∀ k, k ≤ l.length → ∀ s ∈ keysE l k, s.size ≤ 96 := by
  intro k
  induction k with
  | zero => intro _ s hs; cases hs
  | succ k ih =>
    intro hk s hs
    have hm : (keyAt l k).size ≤ 96 := (ordE_may l h k (by omega)).1.2.1
    rw [keysE] at hs
    split at hs
    · rcases List.mem_append.1 hs with h | h
      · exact ih (by omega) s h
      · rw [List.mem_singleton] at h; subst h; exact hm
    · exact ih (by omega) s hs
/-- bloom.Make of the keys of versions that are in order -/
theorem filt_any (A : Option Addr) (c kn : Nat) (l : List Ent) (W : World) (hT : tabE l = 0) (hk : (keysE l l.length).length = kn) (h : Bl.RdS W A c (keysE l l.length)) :
    Calls Try.prog 31 #[.slice A kn c, .int .i64 10] W fun e' w' => ∃ A' c', e' = .returned (.tuple #[.agg #[.int .i64 (filK l), .slice A' (filX l).length c'], .int .i64 0]) ∧ OwB w' W.heap.size (.slice A' (filX l).length c') (filX l) ∧ Below W.heap.size W w' := by
  obtain ⟨t1, t2, t3⟩ := tabE_ok l hT
  obtain ⟨f1, f2, f3, f4, f5⟩ := fil_ok l hT
  have fE : Bl.makeE 10 (keysE l l.length).length = 0 := by
    have h0 := f1.2.2
    rw [Bl.makeE, if_neg (by decide), if_neg (by omega)]
  have hM := Bl.Make_any A c (keysE l l.length) 10 (fun s hs => Nat.le_trans (keys_small l t3 _ (Nat.le_refl _) s hs) (by decide)) W h
  rw [fE] at hM
  unfold Bl.fil at hM
  rw [← hk]
  exact hM
theorem foot_len (b : List UInt8) (n : Nat) (hn : b.length = n) (h : 20 ≤ n) : (footT b).length = 20 := by rw [footT, List.length_drop, hn]; omega
theorem bare_20 (b : List UInt8) (h : (footT b).length = 20) (h0 : bareNum (footT b) = 0) : (bare (footT b)).length = 16 := by
  unfold bareNum at h0
  rw [if_neg (by omega)] at h0
  split at h0
  · next hg =>
    rw [bare, if_pos ⟨by omega, hg⟩, List.length_take]; omega
  · cases h0
theorem cap_ne {w : World} {A : Option Addr} {c : Nat} {xs : List UInt8} (r : RdB w A c xs) (h : xs.length = 16) : ¬ c = 4 ∧ ¬ c = 8 := by have := r.le; omega
theorem cut_at (g c k : Nat) (h : ¬ c = k) : cutA (some ⟨g, 0, none⟩) c k = some ⟨g, k, none⟩ := by
  rw [cutA, if_neg h]
  show some ((⟨g, 0, none⟩ : Addr).add k) = _
  rw [add_plain]
set_option maxRecDepth 100000 in
set_option maxHeartbeats 3200000 in
theorem Open_any (A : Option Addr) (c n : Nat) (b : List UInt8) (w : World) (hn : b.length = n) (hx : RdB w A c b) (hl : n ≤ 140737488355328) :
    Calls Try.prog 13 #[.slice A n c] w fun e w' => ∃ Al cl Ax cx, e = .returned (.tuple #[tabV Al (openL b).length cl (openK b) Ax (openX b).length cx, .int .i64 (openE b)]) ∧ OwE w' w.heap.size (.slice Al (openL b).length cl) (openL b) ∧ OwB w' w.heap.size (.slice Ax (openX b).length cx) (openX b) ∧ Below w.heap.size w w' := by
  have q0 := heap_alloc_new w (.cells #[.slice none 0 0, .int .i64 0, .slice none 0 0] 34)
  have B0 := below_alloc w (.cells #[.slice none 0 0, .int .i64 0, .slice none 0 0] 34)
  have bad : ∀ E : Int, openE b = E → E ≠ 0 → openL b = [] ∧ openK b = 0 ∧ openX b = [] := fun E h h0 => by
    rw [← h] at h0
    exact ⟨by rw [openL, if_neg h0], by rw [openK, if_neg h0], by rw [openX, if_neg h0]⟩
  unfold tabV
  by_cases h1 : n < 20
  · have hE : openE b = 8 := by rw [openE, hn, if_pos h1]
    obtain ⟨r1, r2, r3⟩ := bad 8 hE (by decide)
    rw [hE, r1, r2, r3]
    have h1i : (n : Int) < 20 := by omega
    clear hE r1 r2 r3 bad hn
    go_enter Try.func13, Try.ntmps13
    go_wp2
    refine bodyPost_ret (v := .tuple #[.agg #[.slice none 0 0, .int .i64 0, .slice none 0 0], .int .i64 8]) (results_ct Try.results13 _ _ w.heap.size _ _ _ _ rfl q0 Try.underlying34 rfl rfl) rfl ⟨none, 0, none, 0, rfl, Ow.zero _ _ _ _, OwB.zero _ _, B0⟩
  · have h1i : ¬ (n : Int) < 20 := by omega
    have h20 : 20 ≤ n := Nat.not_lt.1 h1
    obtain ⟨m, hm⟩ : ∃ m, n - 20 = m := ⟨_, rfl⟩
    have hmd : (n : Int) - 20 = (m : Int) := by omega
    have hmw : wrap64 (m : Int) = (m : Int) := by unfold wrap64; omega
    have hmn : m ≤ n := by omega
    have hm20 : n - m = 20 := by omega
    have hft : b.drop m = footT b := by rw [footT, hn, hm]
    have r0 := hx.drop m (by rw [hn]; exact hmn)
    rw [hft] at r0
    have hfl := foot_len b n hn h20
    have hsl := fun W => slice_lo 23 5 Try.underlying23 (i := _) rfl rfl A n c m hmn W
    rw [hm20] at hsl
    generalize cutA A c m = Af at *
    generalize c - m = cf at *
    have hB := fun W (h : RdB W Af cf (footT b)) => Bare_all Af cf (footT b) W h (by rw [hfl]; decide)
    rw [hfl] at hB
    have lt0 : w.heap.size < (w.alloc (.cells #[.slice none 0 0, .int .i64 0, .slice none 0 0] 34)).heap.size := by rw [World.size_alloc]; exact Nat.lt_succ_self _
    have HN := hide hn
    have HM := hide hm
    clear h1 h20 hm hmn hm20 hft hn
    have oE : openE b = if bareNum (footT b) ≠ 0 then bareNum (footT b) else if (bare (footT b)).take 4 ≠ markT then 22 else if tabE (toldT b) = 0 ∧ tabX (toldT b) = b then 0 else 21 := by rw [openE, HN.out, if_neg (by have := h1i; omega)]
    by_cases h2 : bareNum (footT b) = 0
    · rw [if_neg (fun h => h h2)] at oE
      rw [h2] at hB
      have l16 := bare_20 b hfl h2
      have hP := fun g1 c1 (w1 : World) (r1 : RdB w1 (some ⟨g1, 0, none⟩) c1 (bare (footT b))) => HasPrefix_any (some ⟨g1, 0, none⟩) (some ⟨w1.heap.size, 0, none⟩) c1 4 16 4 (bare (footT b)) markT (mkW w1) l16 rfl (r1.below (below_alloc w1 _)) (rd_mark w1) (by decide)
      by_cases h3 : (bare (footT b)).take 4 = markT
      · rw [if_neg (fun h => h h3)] at oE
        simp only [decide_eq_true h3] at hP
        obtain ⟨p4, hp4⟩ : ∃ p, num4 ((bare (footT b)).drop 4) = p := ⟨_, rfl⟩
        obtain ⟨p8, hp8⟩ : ∃ p, num4 ((bare (footT b)).drop 8) = p := ⟨_, rfl⟩
        have hTo : toldT b = toldP b p4 p8 := by rw [toldT, hp4, hp8]
        have hTl : (toldT b).length ≤ 4160 := by rw [hTo]; exact toldP_le b p4 p8
        have hTd := fun W (h : Below w.heap.size w W) => told_any10 A c n p4 p8 b W HN.out (hx.below h) hl
        rw [← hTo] at hTd
        have hN4 := fun g1 c1 W (r : RdB W (some ⟨g1, 0, none⟩) c1 (bare (footT b))) => number_any4 (some ⟨g1, 4, none⟩) (c1 - 4) 12 ((bare (footT b)).drop 4) W (by rw [List.length_drop, l16]) (by have h := r.drop 4 (by rw [l16]; decide); rwa [cut_at g1 c1 4 (cap_ne r l16).1] at h) (by decide)
        have hN8 := fun g1 c1 W (r : RdB W (some ⟨g1, 0, none⟩) c1 (bare (footT b))) => number_any4 (some ⟨g1, 8, none⟩) (c1 - 8) 8 ((bare (footT b)).drop 8) W (by rw [List.length_drop, l16]) (by have h := r.drop 8 (by rw [l16]; decide); rwa [cut_at g1 c1 8 (cap_ne r l16).2] at h) (by decide)
        rw [hp4] at hN4
        rw [hp8] at hN8
        clear hp4 hp8 hTo
        obtain ⟨L, hL⟩ : ∃ L, toldT b = L := ⟨_, rfl⟩
        rw [hL] at oE hTl hTd
        obtain ⟨nl, hnl⟩ : ∃ nl, L.length = nl := ⟨_, rfl⟩
        have hnl2 : nl ≤ 1000000 := by rw [← hnl]; omega
        have hBd := fun A4 c4 W (r : RdE W A4 c4 L) => Build_any A4 c4 nl L W hnl r (Nat.le_trans hnl2 (by decide))
        obtain ⟨nx, hnx⟩ : ∃ nx, (tabX L).length = nx := ⟨_, rfl⟩
        have HNL := hide hnl
        have HNX := hide hnx
        have HLL := hide hL
        have HTL := hide hTl
        have HP4 := hide h3
        clear hnx hTl h3 h2 hnl hL
        by_cases h4 : tabE L = 0
        · by_cases h5 : tabX L = b
          · have hE : openE b = 0 := by rw [oE, if_pos ⟨h4, h5⟩]
            have e1 : openL b = L := by rw [openL, if_pos hE]; exact HLL.out
            have e2 : openK b = filK L := by rw [openK, if_pos hE, e1]
            have e3 : openX b = filX L := by rw [openX, if_pos hE, e1]
            rw [hE, e1, e2, e3]
            simp only [h4] at hBd
            obtain ⟨kn, hkn⟩ : ∃ kn, (keysE L nl).length = kn := ⟨_, rfl⟩
            have hKy := fun A4 c4 W (r : RdE W A4 c4 L) => keys_any A4 c4 nl L W HNL.out r hnl2
            have hFl := fun A7 c7 W (r : Bl.RdS W A7 c7 (keysE L L.length)) => filt_any A7 c7 kn L W h4 (by rw [HNL.out]; exact hkn) r
            rw [HNL.out] at hFl ⊢
            obtain ⟨K, hK⟩ : ∃ K, filK L = K := ⟨_, rfl⟩
            obtain ⟨nf, hnf⟩ : ∃ nf, (filX L).length = nf := ⟨_, rfl⟩
            rw [hK, hnf] at hFl ⊢
            have HKN := hide hkn
            have HH5 := hide h5
            clear bad hE e1 e2 e3 oE hkn hK hnf h4 h5
            go_enter Try.func13, Try.ntmps13
            go_wp2_with (first | (go_at_call 46; (with_reducible refine (hB _ (r0.below B0)).mono ?_); rintro e w1 ⟨v1, rfl, O1, HB1⟩; have C1 := stp B0 HB1; have q1 := (HB1.block _ lt0).trans q0; obtain ⟨g1, c1, hv1, -, -⟩ := World.ownsRow.form O1 (by rw [l16]; decide); rw [l16] at hv1; subst hv1; have r1 := OwB.rdl O1; obtain ⟨ne4, ne8⟩ := cap_ne r1 l16; have hcv := conv_mark w1; have Bm : Below w1.heap.size w1 (mkW w1) := below_alloc w1 _) | (go_at_call 47; (with_reducible refine (hP g1 c1 w1 r1).mono ?_); rintro e w2 ⟨rfl, HB2⟩; have C2 := stp C1 (stp Bm HB2); have q2 := ((stp Bm HB2).block _ (blk_lt q1)).trans q1; have r1b := r1.below (stp Bm HB2)))
            have hSd : Below w2.heap.size w2 w2.drew := (Below.refl _ _).drew
            go_region_held3 (fun Y => Below w2.heap.size w2 Y) (first | exact hSd | exact Q4 | assumption) (first | (go_at_call 49; (with_reducible refine (hN4 g1 c1 w2.drew (r1b.below hSd)).mono ?_); rintro e w3 ⟨rfl, rfl⟩) | (go_at_call 49; (with_reducible refine (hN8 g1 c1 w2.drew (r1b.below hSd)).mono ?_); rintro e w3 ⟨rfl, rfl⟩) | (go_at_call 48; (with_reducible refine (hTd _ (C2.trans (hSd.mono C2.size))).mono ?_); rintro e w4 ⟨v4, rfl, O4, HB4⟩; obtain ⟨A4, c4, hv4, r4⟩ := O4.rd; rw [HNL.out] at hv4; subst hv4; have Q4 : Below w2.heap.size w2 w4 := stp hSd HB4))
            have C4 := C2.trans (Q4.mono C2.size)
            have q4 := (Q4.block _ (blk_lt q2)).trans q2
            have O4b : OwE w4 w.heap.size (.slice A4 nl c4) L := O4.lower (Nat.le_trans C2.size hSd.size)
            have r4b := r4
            go_wp2_with (first | (go_at_call 11; (with_reducible refine (hBd A4 c4 _ r4).mono ?_); rintro e w5 ⟨v5, rfl, O5, HB5⟩; obtain ⟨A5, c5, hv5, r5⟩ := O5.rd; rw [HNX.out] at hv5; subst hv5; have C5 := C4.trans (HB5.mono C4.size); have q5 := (HB5.block _ (blk_lt q4)).trans q4) | (go_at_call 50; (refine (Equal_any A5 A c5 c nx n (tabX L) b w5 HNX.out HN.out r5 (hx.below C5)).mono ?_); rintro e w6 ⟨rfl, HB6⟩; rw [decide_eq_true HH5.out]; have C6 := C5.trans (HB6.mono C5.size); have q6 := (HB6.block _ (blk_lt q5)).trans q5; have y0 := blk_cell q6 0; have y1 := blk_cell q6 1; have y2 := blk_cell q6 2; have z0 := blk_frozen q6 0; have z1 := blk_frozen q6 1; have z2 := blk_frozen q6 2; have r6 := (r4.below HB5).below HB6))
            go_wp2_with (first | (go_at_call 32; (with_reducible refine (hKy A4 c4 _ r6).mono ?_); rintro e w7 ⟨v7, rfl, O7, HB7⟩; obtain ⟨A7, c7, hv7, r7⟩ := O7.rd; rw [HKN.out] at hv7; subst hv7) | (go_at_call 31; (with_reducible refine (hFl A7 c7 _ r7).mono ?_); rintro e w8 ⟨A8, c8, rfl, O8, HB8⟩; obtain ⟨b0, b1, b2, b3⟩ := (Bx.new w8 K (.slice A8 nf c8) 32).read; have Q9 := stp (stp HB7 HB8) (below_alloc w8 (.cells #[.int .i64 K, .slice A8 nf c8] 32)); have q9 := (Q9.block _ (blk_lt q6)).trans q6; have y0_ := blk_cell q9 0; have y1_ := blk_cell q9 1; have y2_ := blk_cell q9 2; have z0_ := blk_frozen q9 0; have z1_ := blk_frozen q9 1; have z2_ := blk_frozen q9 2))
            have Oe := ((O4b.below HB5).below HB6).below Q9
            have Of := (O8.below (below_alloc w8 (.cells #[.int .i64 K, .slice A8 nf c8] 32))).lower (Nat.le_trans C6.size HB7.size)
            have nof : some w.heap.size ≠ (Value.slice A8 nf c8).ownBlock := fun e => by have h1 := own_base O8 _ e.symm; have h2 := blk_lt q6; have h3 := HB7.size; omega
            have C9 := C6.trans (Q9.mono C6.size)
            have hF := blk_set (blk_set (blk_set q9 0 (.slice A4 nl c4)) 1 (.int .i64 K)) 2 (.slice A8 nf c8)
            refine bodyPost_ret (v := .tuple #[.agg #[.slice A4 nl c4, .int .i64 K, .slice A8 nf c8], .int .i64 0]) (results_ct Try.results13 _ _ w.heap.size _ _ _ _ rfl hF Try.underlying34 rfl rfl) rfl ⟨A4, c4, A8, c8, rfl, ?_, ?_, ((C9.setCell (p := ⟨w.heap.size, 0, none⟩) (Nat.le_refl _) _).setCell (p := ⟨w.heap.size, 1, none⟩) (Nat.le_refl _) _).setCell (p := ⟨w.heap.size, 2, none⟩) (Nat.le_refl _) _⟩
            · exact ((Oe.setCell q9 (one_ne (by decide)) 0 _).setCell (blk_set q9 0 _) (one_ne (by decide)) 1 _).setCell (blk_set (blk_set q9 0 _) 1 _) (one_ne (by decide)) 2 _
            · exact own_setCell (own_setCell (own_setCell Of (p := ⟨w.heap.size, 0, none⟩) nof _) (p := ⟨w.heap.size, 1, none⟩) nof _) (p := ⟨w.heap.size, 2, none⟩) nof _
          · have hE : openE b = 21 := by rw [oE, if_neg (fun h => h5 h.2)]
            obtain ⟨u1, u2, u3⟩ := bad 21 hE (by decide)
            rw [hE, u1, u2, u3]
            simp only [h4] at hBd
            have HH5 := hide h5
            clear hE u1 u2 u3 bad oE h4 h5
            go_enter Try.func13, Try.ntmps13
            go_wp2_with (first | (go_at_call 46; (with_reducible refine (hB _ (r0.below B0)).mono ?_); rintro e w1 ⟨v1, rfl, O1, HB1⟩; have C1 := stp B0 HB1; have q1 := (HB1.block _ lt0).trans q0; obtain ⟨g1, c1, hv1, -, -⟩ := World.ownsRow.form O1 (by rw [l16]; decide); rw [l16] at hv1; subst hv1; have r1 := OwB.rdl O1; obtain ⟨ne4, ne8⟩ := cap_ne r1 l16; have hcv := conv_mark w1; have Bm : Below w1.heap.size w1 (mkW w1) := below_alloc w1 _) | (go_at_call 47; (with_reducible refine (hP g1 c1 w1 r1).mono ?_); rintro e w2 ⟨rfl, HB2⟩; have C2 := stp C1 (stp Bm HB2); have q2 := ((stp Bm HB2).block _ (blk_lt q1)).trans q1; have r1b := r1.below (stp Bm HB2)))
            have hSd : Below w2.heap.size w2 w2.drew := (Below.refl _ _).drew
            go_region_held3 (fun Y => Below w2.heap.size w2 Y) (first | exact hSd | exact Q4 | assumption) (first | (go_at_call 49; (with_reducible refine (hN4 g1 c1 w2.drew (r1b.below hSd)).mono ?_); rintro e w3 ⟨rfl, rfl⟩) | (go_at_call 49; (with_reducible refine (hN8 g1 c1 w2.drew (r1b.below hSd)).mono ?_); rintro e w3 ⟨rfl, rfl⟩) | (go_at_call 48; (with_reducible refine (hTd _ (C2.trans (hSd.mono C2.size))).mono ?_); rintro e w4 ⟨v4, rfl, O4, HB4⟩; obtain ⟨A4, c4, hv4, r4⟩ := O4.rd; rw [HNL.out] at hv4; subst hv4; have Q4 : Below w2.heap.size w2 w4 := stp hSd HB4))
            have C4 := C2.trans (Q4.mono C2.size)
            have q4 := (Q4.block _ (blk_lt q2)).trans q2
            have O4b : OwE w4 w.heap.size (.slice A4 nl c4) L := O4.lower (Nat.le_trans C2.size hSd.size)
            go_wp2_with (first | (go_at_call 11; (with_reducible refine (hBd A4 c4 _ r4).mono ?_); rintro e w5 ⟨v5, rfl, O5, HB5⟩; obtain ⟨A5, c5, hv5, r5⟩ := O5.rd; rw [HNX.out] at hv5; subst hv5; have C5 := C4.trans (HB5.mono C4.size); have q5 := (HB5.block _ (blk_lt q4)).trans q4) | (go_at_call 50; (refine (Equal_any A5 A c5 c nx n (tabX L) b w5 HNX.out HN.out r5 (hx.below C5)).mono ?_); rintro e w6 ⟨rfl, HB6⟩; rw [decide_eq_false HH5.out]; have C6 := C5.trans (HB6.mono C5.size); have q6 := (HB6.block _ (blk_lt q5)).trans q5; have y0 := blk_cell q6 0; have y1 := blk_cell q6 1; have y2 := blk_cell q6 2; have z0 := blk_frozen q6 0; have z1 := blk_frozen q6 1; have z2 := blk_frozen q6 2))
            have hF := blk_set (blk_set (blk_set q6 0 (.slice none 0 0)) 1 (.int .i64 0)) 2 (.slice none 0 0)
            refine bodyPost_ret (v := .tuple #[.agg #[.slice none 0 0, .int .i64 0, .slice none 0 0], .int .i64 21]) (results_ct Try.results13 _ _ w.heap.size _ _ _ _ rfl hF Try.underlying34 rfl rfl) rfl ⟨none, 0, none, 0, rfl, Ow.zero _ _ _ _, OwB.zero _ _, (((C6).setCell (p := ⟨w.heap.size, 0, none⟩) (Nat.le_refl _) _).setCell (p := ⟨w.heap.size, 1, none⟩) (Nat.le_refl _) _).setCell (p := ⟨w.heap.size, 2, none⟩) (Nat.le_refl _) _⟩
        · have hE : openE b = 21 := by rw [oE, if_neg (fun h => h4 h.1)]
          obtain ⟨u1, u2, u3⟩ := bad 21 hE (by decide)
          rw [hE, u1, u2, u3]
          generalize tabE L = TE at *
          clear hE u1 u2 u3 bad oE
          go_enter Try.func13, Try.ntmps13
          go_wp2_with (first | (go_at_call 46; (with_reducible refine (hB _ (r0.below B0)).mono ?_); rintro e w1 ⟨v1, rfl, O1, HB1⟩; have C1 := stp B0 HB1; have q1 := (HB1.block _ lt0).trans q0; obtain ⟨g1, c1, hv1, -, -⟩ := World.ownsRow.form O1 (by rw [l16]; decide); rw [l16] at hv1; subst hv1; have r1 := OwB.rdl O1; obtain ⟨ne4, ne8⟩ := cap_ne r1 l16; have hcv := conv_mark w1; have Bm : Below w1.heap.size w1 (mkW w1) := below_alloc w1 _) | (go_at_call 47; (with_reducible refine (hP g1 c1 w1 r1).mono ?_); rintro e w2 ⟨rfl, HB2⟩; have C2 := stp C1 (stp Bm HB2); have q2 := ((stp Bm HB2).block _ (blk_lt q1)).trans q1; have r1b := r1.below (stp Bm HB2)))
          have hSd : Below w2.heap.size w2 w2.drew := (Below.refl _ _).drew
          go_region_held3 (fun Y => Below w2.heap.size w2 Y) (first | exact hSd | exact Q4 | assumption) (first | (go_at_call 49; (with_reducible refine (hN4 g1 c1 w2.drew (r1b.below hSd)).mono ?_); rintro e w3 ⟨rfl, rfl⟩) | (go_at_call 49; (with_reducible refine (hN8 g1 c1 w2.drew (r1b.below hSd)).mono ?_); rintro e w3 ⟨rfl, rfl⟩) | (go_at_call 48; (with_reducible refine (hTd _ (C2.trans (hSd.mono C2.size))).mono ?_); rintro e w4 ⟨v4, rfl, O4, HB4⟩; obtain ⟨A4, c4, hv4, r4⟩ := O4.rd; rw [HNL.out] at hv4; subst hv4; have Q4 : Below w2.heap.size w2 w4 := stp hSd HB4))
          have C4 := C2.trans (Q4.mono C2.size)
          have q4 := (Q4.block _ (blk_lt q2)).trans q2
          have O4b : OwE w4 w.heap.size (.slice A4 nl c4) L := O4.lower (Nat.le_trans C2.size hSd.size)
          go_wp2_with (first | (go_at_call 11; (with_reducible refine (hBd A4 c4 _ r4).mono ?_); rintro e w5 ⟨v5, rfl, O5, HB5⟩; obtain ⟨A5, c5, hv5, r5⟩ := O5.rd; rw [HNX.out] at hv5; subst hv5; have C5 := C4.trans (HB5.mono C4.size); have q5 := (HB5.block _ (blk_lt q4)).trans q4; have y0 := blk_cell q5 0; have y1 := blk_cell q5 1; have y2 := blk_cell q5 2; have z0 := blk_frozen q5 0; have z1 := blk_frozen q5 1; have z2 := blk_frozen q5 2))
          have hF := blk_set (blk_set (blk_set q5 0 (.slice none 0 0)) 1 (.int .i64 0)) 2 (.slice none 0 0)
          refine bodyPost_ret (v := .tuple #[.agg #[.slice none 0 0, .int .i64 0, .slice none 0 0], .int .i64 21]) (results_ct Try.results13 _ _ w.heap.size _ _ _ _ rfl hF Try.underlying34 rfl rfl) rfl ⟨none, 0, none, 0, rfl, Ow.zero _ _ _ _, OwB.zero _ _, (((C5).setCell (p := ⟨w.heap.size, 0, none⟩) (Nat.le_refl _) _).setCell (p := ⟨w.heap.size, 1, none⟩) (Nat.le_refl _) _).setCell (p := ⟨w.heap.size, 2, none⟩) (Nat.le_refl _) _⟩
      · have hE : openE b = 22 := by rw [oE, if_pos h3]
        obtain ⟨u1, u2, u3⟩ := bad 22 hE (by decide)
        rw [hE, u1, u2, u3]
        simp only [decide_eq_false h3] at hP
        clear hE u1 u2 u3 bad oE h3 h2
        go_enter Try.func13, Try.ntmps13
        go_wp2_with (first | (go_at_call 46; (with_reducible refine (hB _ (r0.below B0)).mono ?_); rintro e w1 ⟨v1, rfl, O1, HB1⟩; have C1 := stp B0 HB1; have q1 := (HB1.block _ lt0).trans q0; obtain ⟨g1, c1, hv1, -, -⟩ := World.ownsRow.form O1 (by rw [l16]; decide); rw [l16] at hv1; subst hv1; have r1 := OwB.rdl O1; obtain ⟨ne4, ne8⟩ := cap_ne r1 l16; have hcv := conv_mark w1; have Bm : Below w1.heap.size w1 (mkW w1) := below_alloc w1 _) | (go_at_call 47; (with_reducible refine (hP g1 c1 w1 r1).mono ?_); rintro e w2 ⟨rfl, HB2⟩; have C2 := stp C1 (stp Bm HB2); have q2 := ((stp Bm HB2).block _ (blk_lt q1)).trans q1; have y0 := blk_cell q2 0; have y1 := blk_cell q2 1; have y2 := blk_cell q2 2; have z0 := blk_frozen q2 0; have z1 := blk_frozen q2 1; have z2 := blk_frozen q2 2))
        have hF := blk_set (blk_set (blk_set q2 0 (.slice none 0 0)) 1 (.int .i64 0)) 2 (.slice none 0 0)
        refine bodyPost_ret (v := .tuple #[.agg #[.slice none 0 0, .int .i64 0, .slice none 0 0], .int .i64 22]) (results_ct Try.results13 _ _ w.heap.size _ _ _ _ rfl hF Try.underlying34 rfl rfl) rfl ⟨none, 0, none, 0, rfl, Ow.zero _ _ _ _, OwB.zero _ _, (((C2).setCell (p := ⟨w.heap.size, 0, none⟩) (Nat.le_refl _) _).setCell (p := ⟨w.heap.size, 1, none⟩) (Nat.le_refl _) _).setCell (p := ⟨w.heap.size, 2, none⟩) (Nat.le_refl _) _⟩
    · have hE : openE b = bareNum (footT b) := by rw [oE, if_pos h2]
      obtain ⟨u1, u2, u3⟩ := bad _ hE h2
      rw [hE, u1, u2, u3]
      generalize bareNum (footT b) = E at *
      generalize bare (footT b) = bt at *
      clear hE u1 u2 u3 bad oE
      go_enter Try.func13, Try.ntmps13
      go_wp2_with (first | (go_at_call 46; (with_reducible refine (hB _ (r0.below B0)).mono ?_); rintro e w1 ⟨v1, rfl, O1, HB1⟩; have C1 := stp B0 HB1; have q1 := (HB1.block _ lt0).trans q0; have y0 := blk_cell q1 0; have y1 := blk_cell q1 1; have y2 := blk_cell q1 2; have z0 := blk_frozen q1 0; have z1 := blk_frozen q1 1; have z2 := blk_frozen q1 2))
      have hF := blk_set (blk_set (blk_set q1 0 (.slice none 0 0)) 1 (.int .i64 0)) 2 (.slice none 0 0)
      refine bodyPost_ret (v := .tuple #[.agg #[.slice none 0 0, .int .i64 0, .slice none 0 0], .int .i64 E]) (results_ct Try.results13 _ _ w.heap.size _ _ _ _ rfl hF Try.underlying34 rfl rfl) rfl ⟨none, 0, none, 0, rfl, Ow.zero _ _ _ _, OwB.zero _ _, (((C1).setCell (p := ⟨w.heap.size, 0, none⟩) (Nat.le_refl _) _).setCell (p := ⟨w.heap.size, 1, none⟩) (Nat.le_refl _) _).setCell (p := ⟨w.heap.size, 2, none⟩) (Nat.le_refl _) _⟩
end Go.Proofs.Ytefcepjffeiaoaa
end

section
/- Table: Get, walked. -/
namespace Go.Proofs.Ytefcepjffeiaoaa
open Go.RowKit Go.Proofs.YtefcepjffeiaoaaW.PrintWords
set_option linter.unusedVariables false

theorem mem_keys (l : List Ent) : ∀ k, k ≤ l.length → ∀ j, j < k → keyAt l j ∈ keysE l k := by
  intro k
  induction k with
  | zero => intro _ j hj; omega
  | succ k ih =>
    intro hk j hj
    rw [keysE]
    rcases Nat.lt_or_ge j k with h | h
    · split
      · exact List.mem_append_left _ (ih (by omega) j h)
      · exact ih (by omega) j h
    · obtain rfl : j = k := by omega
      split
      · exact List.mem_append_right _ (List.mem_singleton.2 rfl)
      · next hno =>
        have h0 : ¬ j = 0 := fun h => hno (.inl h)
        have h1 : keyAt l j = keyAt l (j - 1) := Decidable.not_not.1 (fun h => hno (.inr h))
        rw [h1]
        exact ih (by omega) (j - 1) (by omega)
theorem has_all (l : List Ent) (h : tabE l = 0) (j : Nat) (hj : j < l.length) : Bl.hasB (filK l) (filX l) (keyAt l j) = true ∧ Bl.encE (filK l) (filX l).length = 0 := by
  obtain ⟨f1, f2, f3, f4, f5⟩ := fil_ok l h
  have hm := Bl.has_made 10 (keysE l l.length) (keyAt l j) (mem_keys l l.length (Nat.le_refl _) j hj) f1 (filX l) (by rw [filX]; exact Bl.Le.refl _)
  exact ⟨hm.1, by rw [Bl.encE, if_pos f5]⟩
/-- what is got -/
def getE (b : List UInt8) (key : ByteArray) (seq : Int) : Option Ent := if openE b = 0 then firstE (openL b) key seq else none
theorem has_not (l : List Ent) (h : tabE l = 0) (key : ByteArray) (seq : Int) (hno : Bl.hasB (filK l) (filX l) key = false) : firstE l key seq = none := by
  cases hf : firstE l key seq with
  | none => rfl
  | some x =>
    obtain ⟨h1, h2, -⟩ := first_some l key seq x hf
    obtain ⟨j, hj, rfl⟩ := List.getElem_of_mem h1
    have := (has_all l h j hj).1
    have hk : keyAt l j = key := by rw [keyAt, List.getD_eq_getElem?_getD, List.getElem?_eq_getElem hj]; exact h2
    rw [hk, hno] at this
    cases this
set_option maxRecDepth 100000 in
set_option maxHeartbeats 3200000 in
theorem Get_any10 (A : Option Addr) (c n : Nat) (b : List UInt8) (key : ByteArray) (seq : Int) (w : World) (hn : b.length = n) (hx : RdB w A c b) (hl : n ≤ 140737488355328) (hks : key.size ≤ 140737488355328) :
    Calls Try.prog 15 #[.slice A n c, .string key, .int .i64 seq] w fun e w' => e = .returned (.tuple #[resV (getE b key seq), .bool (resE (getE b key seq)).2, .int .i64 (openE b)]) ∧ Below w.heap.size w w' := by
  have q0 := heap_alloc_new w (.cells #[.string ⟨#[]⟩, .int .i64 0, .int .i64 0, .string ⟨#[]⟩] 43)
  have B0 := below_alloc w (.cells #[.string ⟨#[]⟩, .int .i64 0, .int .i64 0, .string ⟨#[]⟩] 43)
  have hE0 : Eb (w.alloc (.cells #[.string ⟨#[]⟩, .int .i64 0, .int .i64 0, .string ⟨#[]⟩] 43)) w.heap.size (⟨#[]⟩, 0, 0, ⟨#[]⟩) := q0
  have hO := Open_any A c n b _ hn (hx.below B0) hl
  unfold tabV at hO
  have fin4 : ∀ (W : World), Below w.heap.size w W → Eb W w.heap.size (⟨#[]⟩, 0, 0, ⟨#[]⟩) → True := fun _ _ _ => trivial
  by_cases h0 : openE b = 0
  · have hg : getE b key seq = firstE (openL b) key seq := by rw [getE, if_pos h0]
    obtain ⟨hT, -⟩ := open_ok b h0
    obtain ⟨t1, t2, t3⟩ := tabE_ok _ hT
    have eK : openK b = filK (openL b) := by rw [openK, if_pos h0]
    have eX : openX b = filX (openL b) := by rw [openX, if_pos h0]
    rw [hg]
    rw [h0, eK, eX] at hO
    rw [h0]
    have hno := has_not (openL b) hT key seq
    have hF := fun A' c' W (r : RdE W A' c' (openL b)) => First_any A' c' (openL b).length (openL b) key seq W rfl r t3 (Nat.le_trans t2 (by decide))
    have hH := fun A' c' W (r : RdB W A' c' (filX (openL b))) => Bl.Has_any (filK (openL b)) A' c' (filX (openL b)) key hks W r
    have eE : Bl.encE (filK (openL b)) (filX (openL b)).length = 0 := by rw [Bl.encE, if_pos (fil_ok _ hT).2.2.2.2]
    rw [eE] at hH
    unfold Bl.fil at hH
    generalize openL b = L at *
    obtain ⟨K, hK⟩ : ∃ K, filK L = K := ⟨_, rfl⟩
    obtain ⟨X, hX⟩ : ∃ X, filX L = X := ⟨_, rfl⟩
    obtain ⟨hb, hhb⟩ : ∃ hb, Bl.hasB (filK L) (filX L) key = hb := ⟨_, rfl⟩
    simp only [hhb] at hH hno
    rw [hK, hX] at hO
    simp only [hK, hX] at hH
    obtain ⟨nl, hnl⟩ : ∃ nl, L.length = nl := ⟨_, rfl⟩
    obtain ⟨nx, hnx⟩ : ∃ nx, X.length = nx := ⟨_, rfl⟩
    rw [hnl, hnx] at hO
    rw [hnl] at hF
    rw [hnx] at hH
    have e4 : ∀ o : Option Ent, resV o = .agg #[.string (resE o).1.1, .int .i64 (resE o).1.2.1, .int .i64 (resE o).1.2.2.1, .string (resE o).1.2.2.2] := fun o => rfl
    rw [e4]
    simp only [e4] at hF
    obtain ⟨⟨⟨xk, xq, xd, xv⟩, fb⟩, hy⟩ : ∃ y, resE (firstE L key seq) = y := ⟨_, rfl⟩
    rw [hy]
    simp only [hy] at hF
    have OPN : True := trivial
    cases hb with
    | true =>
      clear hno eE hhb hK hX hnl hnx t1 t2 t3 hT eK eX h0 hg hy hn
      go_enter Try.func15, Try.ntmps15
      go_wp2_with (first | (go_at_call 13; (with_reducible refine hO.mono ?_); rintro e w1 ⟨A1, c1, A2, c2, rfl, O1, O2, HB1⟩; have hE1 := hE0.below HB1; have C1 := stp B0 HB1; have hT1 := heap_alloc_new w1 (.cells #[.slice A1 nl c1, .int .i64 K, .slice A2 nx c2] 34); have r2 := (O2.rdl).below (below_alloc w1 (.cells #[.slice A1 nl c1, .int .i64 K, .slice A2 nx c2] 34)); have r1 := (O1.rdl).below (below_alloc w1 (.cells #[.slice A1 nl c1, .int .i64 K, .slice A2 nx c2] 34)); have y0 := blk_cell hT1 0; have y1 := blk_cell hT1 1; have y2 := blk_cell hT1 2) | (go_at_call 22; (with_reducible refine (hH A2 c2 _ r2).mono ?_); rintro e w2 ⟨rfl, HB2⟩; have hT2 := (HB2.block _ (blk_lt hT1)).trans hT1; have r1b := r1.below HB2; have z0 := blk_cell hT2 0; have hE2 := (hE1.below (below_alloc w1 (.cells #[.slice A1 nl c1, .int .i64 K, .slice A2 nx c2] 34))).below HB2; have C2 := stp C1 (stp (below_alloc w1 (.cells #[.slice A1 nl c1, .int .i64 K, .slice A2 nx c2] 34)) HB2)) | (go_at_call 54; (with_reducible refine (hF A1 c1 _ r1b).mono ?_); rintro e w3 ⟨rfl, HB3⟩; have C3 := stp C2 HB3; have b3 := below_alloc w3 (.cells #[.string xk, .int .i64 xq, .int .i64 xd, .string xv] 43); have hE3 := (hE2.below HB3).below b3; obtain ⟨e0, e1, e2, e3, y00, y10, y20, y30⟩ := hE3.read; obtain ⟨f0, f1, f2, f3, -, -, -, -⟩ := (Eb.new w3 (xk, xq, xd, xv)).read; have HC3 := stp C3 b3))
      have hFF := blk_set (blk_set (blk_set (blk_set hE3 0 (.string xk)) 1 (.int .i64 xq)) 2 (.int .i64 xd)) 3 (.string xv)
      refine bodyPost_ret (v := .tuple #[.agg #[.string xk, .int .i64 xq, .int .i64 xd, .string xv], .bool fb, .int .i64 0]) (results_ctt Try.results15 _ _ w.heap.size _ _ _ _ rfl hFF Try.underlying43 rfl rfl) rfl ⟨rfl, ?_⟩
      exact ((((HC3.setCell (p := ⟨w.heap.size, 0, none⟩) (Nat.le_refl _) _).setCell (p := ⟨w.heap.size, 1, none⟩) (Nat.le_refl _) _).setCell (p := ⟨w.heap.size, 2, none⟩) (Nat.le_refl _) _).setCell (p := ⟨w.heap.size, 3, none⟩) (Nat.le_refl _) _)
    | false =>
      rw [hno rfl] at hy
      obtain ⟨rfl, rfl, rfl, rfl, rfl⟩ : (⟨#[]⟩ : ByteArray) = xk ∧ (0 : Int) = xq ∧ (0 : Int) = xd ∧ (⟨#[]⟩ : ByteArray) = xv ∧ false = fb := by
        have h1 := congrArg Prod.fst hy
        have h2 := congrArg Prod.snd hy
        exact ⟨congrArg Prod.fst h1, congrArg (fun x => x.2.1) h1, congrArg (fun x => x.2.2.1) h1, congrArg (fun x => x.2.2.2) h1, h2⟩
      clear hno eE hhb hK hX hnl hnx t1 t2 t3 hT eK eX h0 hg hy hn hF
      go_enter Try.func15, Try.ntmps15
      go_wp2_with (first | (go_at_call 13; (with_reducible refine hO.mono ?_); rintro e w1 ⟨A1, c1, A2, c2, rfl, O1, O2, HB1⟩; have hE1 := hE0.below HB1; have C1 := stp B0 HB1; have hT1 := heap_alloc_new w1 (.cells #[.slice A1 nl c1, .int .i64 K, .slice A2 nx c2] 34); have r2 := (O2.rdl).below (below_alloc w1 (.cells #[.slice A1 nl c1, .int .i64 K, .slice A2 nx c2] 34)); have y0 := blk_cell hT1 0; have y1 := blk_cell hT1 1; have y2 := blk_cell hT1 2) | (go_at_call 22; (with_reducible refine (hH A2 c2 _ r2).mono ?_); rintro e w2 ⟨rfl, HB2⟩; have b2 := stp (below_alloc w1 (.cells #[.slice A1 nl c1, .int .i64 K, .slice A2 nx c2] 34)) HB2; have hE2 := hE1.below b2; have C2 := stp C1 b2; obtain ⟨e0, e1, e2, e3, y00, y10, y20, y30⟩ := hE2.read))
      have hFF := blk_set (blk_set (blk_set (blk_set hE2 0 (.string ⟨#[]⟩)) 1 (.int .i64 0)) 2 (.int .i64 0)) 3 (.string ⟨#[]⟩)
      refine bodyPost_ret (v := .tuple #[.agg #[.string ⟨#[]⟩, .int .i64 0, .int .i64 0, .string ⟨#[]⟩], .bool false, .int .i64 0]) (results_ctt Try.results15 _ _ w.heap.size _ _ _ _ rfl hFF Try.underlying43 rfl rfl) rfl ⟨rfl, ?_⟩
      exact ((((C2.setCell (p := ⟨w.heap.size, 0, none⟩) (Nat.le_refl _) _).setCell (p := ⟨w.heap.size, 1, none⟩) (Nat.le_refl _) _).setCell (p := ⟨w.heap.size, 2, none⟩) (Nat.le_refl _) _).setCell (p := ⟨w.heap.size, 3, none⟩) (Nat.le_refl _) _)
  · have hg : getE b key seq = none := by rw [getE, if_neg h0]
    have hl0 : openL b = [] := by rw [openL, if_neg h0]
    have hK0 : openK b = 0 := by rw [openK, if_neg h0]
    have hX0 : openX b = [] := by rw [openX, if_neg h0]
    rw [hg]
    rw [hl0, hK0, hX0] at hO
    have e4 : resV none = .agg #[.string ⟨#[]⟩, .int .i64 0, .int .i64 0, .string ⟨#[]⟩] := rfl
    have e5 : (resE none).2 = false := rfl
    rw [e4, e5]
    generalize openE b = E at *
    clear hg hl0 hK0 hX0 e4 e5 hn
    go_enter Try.func15, Try.ntmps15
    go_wp2_with (first | (go_at_call 13; (with_reducible refine hO.mono ?_); rintro e w1 ⟨A1, c1, A2, c2, rfl, O1, O2, HB1⟩; have b1 := stp HB1 (below_alloc w1 (.cells #[.slice A1 0 c1, .int .i64 0, .slice A2 0 c2] 34)); have hE1 := hE0.below b1; have C1 := stp B0 b1; obtain ⟨e0, e1, e2, e3, y00, y10, y20, y30⟩ := hE1.read))
    have hFF := blk_set (blk_set (blk_set (blk_set hE1 0 (.string ⟨#[]⟩)) 1 (.int .i64 0)) 2 (.int .i64 0)) 3 (.string ⟨#[]⟩)
    refine bodyPost_ret (v := .tuple #[.agg #[.string ⟨#[]⟩, .int .i64 0, .int .i64 0, .string ⟨#[]⟩], .bool false, .int .i64 E]) (results_ctt Try.results15 _ _ w.heap.size _ _ _ _ rfl hFF Try.underlying43 rfl rfl) rfl ⟨rfl, ?_⟩
    exact ((((C1.setCell (p := ⟨w.heap.size, 0, none⟩) (Nat.le_refl _) _).setCell (p := ⟨w.heap.size, 1, none⟩) (Nat.le_refl _) _).setCell (p := ⟨w.heap.size, 2, none⟩) (Nat.le_refl _) _).setCell (p := ⟨w.heap.size, 3, none⟩) (Nat.le_refl _) _)
end Go.Proofs.Ytefcepjffeiaoaa
end

section
/- Table: one octet that is another one, plainly. -/
namespace Go.Proofs.Ytefcepjffeiaoaa
set_option linter.unusedVariables false

end Go.Proofs.Ytefcepjffeiaoaa
end

section
/- The walk of Spoil. -/
namespace Go.Proofs.Ytefcepjffeiaoaa
open Go.RowKit Go.Proofs.YtefcepjffeiaoaaW.PrintWords

end Go.Proofs.Ytefcepjffeiaoaa
end

section
/- Table: the page's example; numbers of errors. -/
namespace Go.Proofs.Ytefcepjffeiaoaa
open Go.RowKit Go.Proofs.YtefcepjffeiaoaaW.PrintWords
set_option linter.unusedVariables false

theorem num_any (n : Int) (w : World) : Calls Try.prog 18 #[.int .i64 n] w fun e w' => e = .returned (.int .i64 n) ∧ w = w' := by
  go_enter Try.func18, Try.ntmps18
  go_wp2
  go_ret
  exact ⟨rfl, rfl⟩
def exT : Ent := (⟨#[97]⟩, 1, 1, ⟨#[120]⟩)
theorem exT_ok : tabE [exT] = 0 := by decide
theorem exT_get : getE (tabX [exT]) ⟨#[97]⟩ 9 = some exT := by
  obtain ⟨h1, h2⟩ := open_tab [exT] exT_ok
  rw [getE, if_pos h1, h2]
  rfl
theorem RdE_lit1 (x : Ent) (w : World) : RdE (w.alloc (.cells #[.string x.1, .int .i64 x.2.1, .int .i64 x.2.2.1, .string x.2.2.2] 43)) (some ⟨w.heap.size, 0, none⟩) 1 [x] := by
  refine ⟨Nat.le_refl _, rfl, by show 1 ≤ 9223372036854775807; decide, fun _ => ⟨_, rfl, fun j p hj => ?_⟩⟩
  have hj0 : j = 0 := by
    obtain ⟨h, _⟩ := List.getElem?_eq_some_iff.1 hj
    simp at h; omega
  subst hj0
  have hp : p = x := by simpa using hj.symm
  subst hp
  refine ⟨_, rfl, kEnt_mk _ p, fun i u hu => ?_⟩
  rw [add_plain, World.cell?_alloc_mark]
  match i, hu with
  | 0, hu => exact hu
  | 1, hu => exact hu
  | 2, hu => exact hu
  | 3, hu => exact hu
  | i + 4, hu => simp at hu
set_option maxRecDepth 100000 in
set_option maxHeartbeats 1600000 in
theorem alive_any (w : World) : Calls Try.prog 21 #[] w fun e w' => e = .returned (.bool true) ∧ Below w.heap.size w w' := by
  have hB := Build_any (some ⟨w.heap.size, 0, none⟩) 1 1 [exT] _ rfl (RdE_lit1 exT w) (by decide)
  rw [exT_ok] at hB
  obtain ⟨m, hm⟩ : ∃ m, (tabX [exT]).length = m := ⟨_, rfl⟩
  have hml : m ≤ 140737488355328 := by
    have := (tabB_le _ exT_ok).2
    rw [← hm, tabX, if_pos exT_ok]; omega
  have hG := fun A c W (h : RdB W A c (tabX [exT])) => Get_any10 A c m (tabX [exT]) ⟨#[97]⟩ 9 W hm h hml (by decide)
  rw [exT_get, (open_tab _ exT_ok).1] at hG
  have bA := below_alloc w (.cells #[.string exT.1, .int .i64 exT.2.1, .int .i64 exT.2.2.1, .string exT.2.2.2] 43)
  have hse : ((⟨#[120]⟩ : ByteArray).toList == (⟨#[120]⟩ : ByteArray).toList) = true := by simp
  have e4 : resV (some exT) = .agg #[.string ⟨#[97]⟩, .int .i64 1, .int .i64 1, .string ⟨#[120]⟩] := rfl
  have e5 : (resE (some exT)).2 = true := rfl
  rw [e4, e5] at hG
  generalize tabX [exT] = x at *
  have HM := hide hm
  clear hm
  go_enter Try.func21, Try.ntmps21
  go_wp2_with (first | (go_at_call 18; refine (num_any _ _).mono ?_; rintro e w' ⟨rfl, rfl⟩) | (go_at_call 11; refine hB.mono ?_; rintro e w1 ⟨v1, rfl, HO1, HB1⟩; obtain ⟨A1, c1, hv1, hr1⟩ := HO1.rd; rw [HM.out] at hv1; subst hv1; have HC1 := stp bA HB1) | (go_at_call 15; (with_reducible refine (hG _ _ _ hr1).mono ?_); rintro e w2 ⟨rfl, HB2⟩; have b2 := below_alloc w2 (.cells #[.string ⟨#[97]⟩, .int .i64 1, .int .i64 1, .string ⟨#[120]⟩] 43); have HC2 := stp (stp HC1 HB2) b2; obtain ⟨f0, f1, f2, f3, -, -, -, -⟩ := (Eb.new w2 (⟨#[97]⟩, 1, 1, ⟨#[120]⟩)).read))
  go_ret
  exact ⟨rfl, HC2⟩
end Go.Proofs.Ytefcepjffeiaoaa
end
