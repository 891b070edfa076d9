/- Bloom: the walk of the reference's Make. -/
import Derived.Test.YtmnecbmneljhkaaBlM
import Derived.StillTailTactics
namespace Go.Proofs.Ytmnecbmneljhkaa
open Go.RowKit Go.Shelf Go.Proofs.YtmnecbmneljhkaaW.PrintWords
set_option linter.unusedVariables false

theorem wp_max2 {P : Program} {ops : Array Oper} {rest : List Oper} {o : Oper} {a : Act} {Q : Exit → Act → World → Prop} {W : World} (hgd : o.guard = none) (x y : Operand) (t1 t2 : TypeId) (ho : o.op = .call { callee := .builtin .max, args := #[x, y], argTypes := #[t1, t2] }) (k : IntKind) (m n : Nat)
    (hx : a.eval x = .int k (m : Int)) (hy : a.eval y = .int k (n : Int)) (hk : wpList P ops Q rest (a.put o.dst (.int k ((max m n : Nat) : Int))) W) : wpList P ops Q (o :: rest) a W :=
  wp_known hgd _ (by
    unfold execOp
    simp only [ho, resolve, invoke, builtin, Sem.run_bind, Sem.run_pure, Result.andThen_ok, List.map_toArray, List.map_cons, List.map_nil, hx, hy, Builtin.max_, List.foldlM_cons, List.foldlM_nil, max2_nat]) hk
theorem run_loadVar_str {P : Program} (w : World) (ty : TypeId) (hu : P.underlying ty = some .string) (a : Addr) (v : Value) (hc : w.cell? a = some v) : (loadVar ty a).run P w = .ok v w := by
  have hagg : (isAgg ty).run P w = .ok false w := by
    unfold isAgg
    rw [Sem.run_bind, run_underlying hu w]
    simp
  simp [loadVar, Sem.run_bind, hagg, hc]
theorem run_loadVar_slice {P : Program} (w : World) (ty e : TypeId) (hu : P.underlying ty = some (.slice e)) (a : Addr) (v : Value) (hc : w.cell? a = some v) : (loadVar ty a).run P w = .ok v w := by
  have hagg : (isAgg ty).run P w = .ok false w := by
    unfold isAgg
    rw [Sem.run_bind, run_underlying hu w]
    simp
  simp [loadVar, Sem.run_bind, hagg, hc]
set_option maxHeartbeats 1600000 in
theorem rMake_main (A : Option Addr) (c : Nat) (ss : List ByteArray) (e : Nat) (hss : ∀ s ∈ ss, s.size ≤ 140737488355328) (w : World) (hx : RdS w A c ss) (he1 : 1 ≤ e) (he2 : e ≤ 16) (hn : ss.length ≤ 4096) :
    Calls Try.prog 12 #[.slice A ss.length c, .int .i64 (e : Int)] w fun e' w' => ∃ A' c', e' = .returned (.tuple #[fil (makeM e : Nat) A' (makeN e ss.length) c', .int .i64 0]) ∧ OwB w' w.heap.size (.slice A' (makeN e ss.length) c') (setAll (makeM e) (List.replicate (makeN e ss.length) 0) ss) ∧ Below w.heap.size w w' := by
  obtain ⟨n, hnn⟩ : ∃ n, ss.length = n := ⟨_, rfl⟩
  have HN := hide hnn
  rw [hnn] at hn ⊢
  clear hnn
  unfold fil
  have a1 : ¬ (e : Int) < 1 := by omega
  have a2 : ¬ 16 < (e : Int) := by omega
  have a3 : ¬ 4096 < (n : Int) := by omega
  obtain ⟨k7, hk7⟩ : ∃ k7, 7 * e / 10 = k7 := ⟨_, rfl⟩
  obtain ⟨ne, hne⟩ : ∃ ne, n * e = ne := ⟨_, rfl⟩
  have hne2 : ne ≤ 65536 := by rw [← hne]; exact Nat.le_trans (Nat.mul_le_mul hn he2) (by decide)
  obtain ⟨s8, hs8⟩ : ∃ s8, (ne + 7) / 8 = s8 := ⟨_, rfl⟩
  have b1 : (e : Int) * 7 / 10 = (k7 : Int) := by omega
  have b2 : wrap64 ((n : Int) * (e : Int)) = (ne : Int) := by
    rw [show (n : Int) * (e : Int) = (ne : Int) by rw [← hne]; simp]; unfold wrap64; omega
  have b3 : ((ne : Int) + 7) / 8 = (s8 : Int) := by omega
  have hM : Nat.min 8 (max 1 k7) = makeM e := by rw [makeM, hk7]
  have hNN : max 1 s8 = makeN e n := by rw [makeN, hne, hs8]
  have hM2 : 1 ≤ makeM e ∧ makeM e ≤ 8 := by rw [makeM]; omega
  have hN2 : 1 ≤ makeN e n ∧ makeN e n ≤ 8193 := by rw [makeN, hne]; omega
  have hmk := fun W => make_bytes (makeN e n) (by omega) W
  generalize makeM e = M at *
  generalize makeN e n = N at *
  have HM := hide hM
  have HNN := hide hNN
  clear hM hNN hk7 hne hs8
  go_enter Try.func12, Try.ntmps12
  go_wp2_with (first | (refine wp_max2 rfl (.const (.int .i64 1)) (.tmp 25) 3 3 rfl .i64 1 k7 rfl (congrArg (Value.int .i64) b1) ?_) | (refine wp_min2 rfl (.const (.int .i64 8)) (.tmp 26) 3 3 rfl .i64 8 (max 1 k7) rfl rfl ?_; rw [HM.out]) | (refine wp_max2 rfl (.const (.int .i64 1)) (.tmp 33) 3 3 rfl .i64 1 s8 rfl (congrArg (Value.int .i64) b3) ?_; rw [HNN.out]))
  obtain ⟨W0, hW0⟩ : ∃ W0, (((w.alloc (.cells #[.int .i64 0, .slice none 0 0] 25)).alloc (.cells (madeCells #[.int .u8 0] N) 5)).alloc (.cells #[.int .i64 (M : Int), .slice (some ⟨w.heap.size + 1, 0, none⟩) N N] 25)) = W0 := ⟨_, rfl⟩
  rw [hW0]
  have hi0 : MInv 25 w W0 M N (setAll M (List.replicate N 0) (ss.take 0)) [] := by
    rw [← hW0]
    have q0 := heap_alloc_new w (.cells #[.int .i64 0, .slice none 0 0] 25)
    have q2 := heap_alloc_new ((w.alloc (.cells #[.int .i64 0, .slice none 0 0] 25)).alloc (.cells (madeCells #[.int .u8 0] N) 5)) (.cells #[.int .i64 (M : Int), .slice (some ⟨w.heap.size + 1, 0, none⟩) N N] 25)
    rw [World.size_alloc, World.size_alloc] at q2
    have q1 := OwB.made (w.alloc (.cells #[.int .i64 0, .slice none 0 0] 25)) w.heap.size N (by simp) (by omega)
    rw [World.size_alloc] at q1
    refine ⟨(((Below.refl _ _).alloc (Nat.le_refl _) _).alloc (by simp) _).alloc (by simp; omega) _, ?_, q2, ?_, List.nodup_nil, fun D hD => absurd hD (by simp), by simp⟩
    · rw [Below.heap_alloc _ _ _ (by simp; omega), Below.heap_alloc _ _ _ (by simp)]; exact q0
    · exact q1.below ((Below.refl _ _).alloc (Nat.le_refl _) _)
  clear hW0
  go_loopw [7] (fun u wr => ∃ k : Nat, k ≤ n ∧ u = .int .i64 (k : Int) ∧ MInv 25 w wr M N (setAll M (List.replicate N 0) (ss.take k)) []) (fun u wr => n - (intOf u).toNat)
  case atStart => exact ⟨0, by omega, rfl, hi0⟩
  case round =>
    obtain ⟨k, hk, rfl, hi⟩ := hrel
    by_cases hlt : k < n
    · have hkn : k < ss.length := by rw [HN.out]; exact hlt
      obtain ⟨ad, rfl, hcell⟩ := (hx.below hi.below).at_ k hkn
      obtain ⟨s, hs⟩ : ∃ s, ss.getD k ByteArray.empty = s := ⟨_, rfl⟩
      have hsz : s.size ≤ 140737488355328 := hss s (by rw [← hs, List.getD_eq_getElem?_getD, List.getElem?_eq_getElem hkn]; simp)
      have htake : setAll M (List.replicate N 0) (ss.take (k + 1)) = setU (setAll M (List.replicate N 0) (ss.take k)) s M := by
        rw [← setAll_append, List.take_succ_eq_append_getElem hkn]
        congr 3
        rw [← hs, List.getD_eq_getElem?_getD, List.getElem?_eq_getElem hkn]; rfl
      have HT := hide htake
      have HS := hide hs
      have hlen : (setAll M (List.replicate N 0) (ss.take k)).length = N := by rw [setAll_length]; simp
      clear htake hs hi0 hcell
      generalize setAll M (List.replicate N 0) (ss.take k) = acc at *
      have HL := hide hlen
      clear hlen
      have HP := fun j (hj : j < M) => rplace_any s hsz j (8 * N) (by omega) (by omega) (by omega)
      have hki : (k : Int) < (n : Int) := by omega
      go_wp2
      go_loopw [8] (fun u wr => ∃ j : Nat, j ≤ M ∧ u = .int .i64 (j : Int) ∧ MInv 25 w wr M N (setU acc s j) []) (fun u wr => M - (intOf u).toNat)
      case atStart => exact ⟨0, by omega, rfl, hi⟩
      case round =>
        obtain ⟨j, hj, rfl, hij⟩ := hrel
        obtain ⟨f0, f1, f2, f3⟩ := two_read hij.fil
        by_cases hjl : j < M
        · have HPj := HP j hjl
          have hcw : wr.cell? (ad.add k) = some (.string s) := by
            obtain ⟨ad2, h2, h3⟩ := (hx.below hij.below).at_ k hkn
            cases h2
            rw [HS.out] at h3
            exact h3
          have hset : setU acc s (j + 1) = setB (setU acc s j) (place s (8 * N) j) := by rw [setU, HL.out]
          have hpl : place s (8 * N) j < 8 * N := Nat.mod_lt _ (by omega)
          rw [show ((8 * N : Nat) : Int) = 8 * (N : Int) by omega] at HPj
          have hlenj : (setU acc s j).length = N := by rw [setU_length, HL.out]
          generalize place s (8 * N) j = p at *
          have HSET := hide hset
          obtain ⟨q, hq⟩ : ∃ q, p / 8 = q := ⟨_, rfl⟩
          obtain ⟨r, hr⟩ : ∃ r, p % 8 = r := ⟨_, rfl⟩
          have hr8 : r < 8 := by rw [← hr]; exact Nat.mod_lt _ (by decide)
          have hq1 : q < N := by omega
          have hq2 : (q : Int) < (N : Int) := by omega
          have hw1 : (p : Int) / 8 = (q : Int) := by omega
          have hw2 : IntKind.i64.wrap (q : Int) = (q : Int) := by rw [IntKind.wrap_i64]; omega
          have hw3 : (p : Int).tmod 8 = (r : Int) := by rw [Int.tmod_eq_emod_of_nonneg (by omega)]; omega
          have hji : (j : Int) < (M : Int) := by omega
          have hr64 : (r : Int) ≤ 64 := by omega
          have L0 : ∀ w', Below wr.heap.size wr w' → (loadVar 9 (ad.add k)).run Try.prog w' = .ok (.string s) w' := fun w' hb => run_loadVar_str w' 9 Try.underlying9 _ _ ((hb.cell (World.block_lt_of_cell? wr _ hcw)).trans hcw)
          have L1 : ∀ w', Below wr.heap.size wr w' → (loadVar 23 ⟨w.heap.size + 1 + 1, 1, none⟩).run Try.prog w' = .ok (.slice (some ⟨w.heap.size + 1, 0, none⟩) N N) w' := fun w' hb => run_loadVar_slice w' 23 5 Try.underlying23 _ _ ((hb.cell (World.block_lt_of_cell? wr _ f1)).trans f1)
          have hmv := fun w' (hb : Below wr.heap.size wr w') => hij.move hb hij.size (fun D hD => absurd hD (by simp))
          clear hset HP
          go_wp2
          refine wp_region_below wr.heap.size wr (Below.refl _ _) (by kernel_rfl) (by kernel_rfl) ?_
          repeat (go_big_quiet_step ((intro hb; first | rfl | (refine (HPj _).mono ?_; rintro e w7 ⟨rfl, rfl⟩; exact ⟨rfl, hb⟩))))
          refine quiet_load rfl 9 _ rfl (ad.add k) rfl (.string s) L0 ?_
          simp only [Act.put, List.setIfInBounds_toArray, List.set_cons_zero, List.set_cons_succ]
          repeat (go_big_quiet_step ((intro hb; first | rfl | (refine (HPj _).mono ?_; rintro e w7 ⟨rfl, rfl⟩; exact ⟨rfl, hb⟩))))
          refine quiet_load rfl 23 _ rfl ⟨w.heap.size + 1 + 1, 1, none⟩ rfl (.slice (some ⟨w.heap.size + 1, 0, none⟩) N N) L1 ?_
          simp only [Act.put, List.setIfInBounds_toArray, List.set_cons_zero, List.set_cons_succ]
          repeat (go_big_quiet_step ((intro hb; first | rfl | (refine (HPj _).mono ?_; rintro e w7 ⟨rfl, rfl⟩; exact ⟨rfl, hb⟩))))
          refine wpQuiet_nil ?_
          intro w1 HC1
          have hd1 := hmv w1 HC1
          have hd2 := hd1.move (Below.refl w1.heap.size w1).drew hd1.size (fun D hD => absurd hD (by simp))
          obtain ⟨x, y, hcx, hfx, hor, hfin⟩ := hd2.put hlenj p q r hq hr (by omega)
          rw [← HSET.out] at hfin
          obtain ⟨e0, e1, e2, e3⟩ := two_read hd1.fil
          have hcx1 : w1.cell? ⟨w.heap.size + 1, q, none⟩ = some (.int .u8 (x.toNat : Int)) := hcx
          have HF := hide hfin
          have HOR := hide hor
          clear hor hfin hd1 hd2 hq hr hlenj L0 L1 hmv HPj hij f0 f1 f2 f3 hcw
          go_wp2
          go_still_tail 15, (by kernel_rfl)
          change wpList _ _ _ _ _ w1.drew
          generalize w1.drew = wd at *
          go_wp2
          go_roundw
          case rel => exact ⟨j + 1, by omega, by go_num, by rw [pow_bit r hr8, HOR.out]; exact HF.out⟩
          case measure => simp [intOf]; omega
        · obtain rfl : j = M := by omega
          go_wp2
          go_roundw
          case rel => exact ⟨k + 1, by omega, by go_num, by rw [HT.out]; exact hij⟩
          case measure => simp [intOf]; omega
    · obtain rfl : k = n := by omega
      have hall : ss.take k = ss := List.take_of_length_le (by rw [HN.out]; exact Nat.le_refl _)
      rw [hall] at hi
      obtain ⟨f0, f1, f2, f3⟩ := two_read hi.fil
      obtain ⟨g0, g1, g2, g3⟩ := two_read hi.res
      go_wp2
      have hr := two_cells (u := .int .i64 (M : Int)) (v := .slice (some ⟨w.heap.size + 1, 0, none⟩) N N) hi.res
      have hne : some w.heap.size ≠ (Value.slice (some ⟨w.heap.size + 1, 0, none⟩) N N).ownBlock := by
        intro h
        simp [Value.ownBlock] at h
      have ho := own_setCell (own_setCell hi.own (p := ⟨w.heap.size, 0, none⟩) hne (.int .i64 (M : Int))) (p := ⟨w.heap.size, 1, none⟩) hne (.slice (some ⟨w.heap.size + 1, 0, none⟩) N N)
      obtain ⟨r0, r1, _, _⟩ := two_read hr
      refine bodyPost_ret (v := .tuple #[.agg #[.int .i64 (M : Int), .slice (some ⟨w.heap.size + 1, 0, none⟩) N N], .int .i64 0]) ?_ rfl ⟨some ⟨w.heap.size + 1, 0, none⟩, N, rfl, ho, (hi.below.setCell (p := ⟨w.heap.size, 0, none⟩) (Nat.le_refl _) _).setCell (p := ⟨w.heap.size, 1, none⟩) (Nat.le_refl _) _⟩
      simp [results, Try.results12, go_sem, r0, r1]
set_option maxHeartbeats 800000 in
theorem rMake_any (A : Option Addr) (c : Nat) (ss : List ByteArray) (each : Int) (hss : ∀ s ∈ ss, s.size ≤ 140737488355328) (w : World) (hx : RdS w A c ss) :
    Calls Try.prog 12 #[.slice A ss.length c, .int .i64 each] w fun e' w' => ∃ A' c', e' = .returned (.tuple #[fil (makeK each ss.length) A' (makeX each ss).length c', .int .i64 (makeE each ss.length)]) ∧ OwB w' w.heap.size (.slice A' (makeX each ss).length c') (makeX each ss) ∧ Below w.heap.size w w' := by
  by_cases hok : makeOk each ss.length
  · have hk : makeK each ss.length = (makeM each.toNat : Int) := by rw [makeK, if_pos hok]
    have hX : makeX each ss = setAll (makeM each.toNat) (List.replicate (makeN each.toNat ss.length) 0) ss := by rw [makeX, if_pos hok]
    obtain ⟨h1, h2, h3⟩ := hok
    have hE : makeE each ss.length = 0 := by rw [makeE, if_neg (by omega), if_neg (by omega)]
    rw [hk, hX, hE, setAll_length, List.length_replicate]
    obtain ⟨e, rfl⟩ : ∃ e : Nat, each = (e : Int) := ⟨each.toNat, by omega⟩
    rw [Int.toNat_natCast]
    exact rMake_main A c ss e hss w hx (by omega) (by omega) h3
  · have hk : makeK each ss.length = 0 := by rw [makeK, if_neg hok]
    have hX : makeX each ss = [] := by rw [makeX, if_neg hok]
    obtain ⟨n, hn⟩ : ∃ n, ss.length = n := ⟨_, rfl⟩
    have hm := hx.max
    rw [hk, hX]
    rw [hn] at hok hm ⊢
    clear hk hX hn
    have hno : each < 1 ∨ 16 < each ∨ (1 ≤ each ∧ each ≤ 16 ∧ 4096 < n) := by unfold makeOk at hok; omega
    unfold fil
    rcases hno with h | h | ⟨h1, h2, h3⟩
    · have hE : makeE each n = 4 := by rw [makeE, if_pos (by omega)]
      rw [hE]
      go_enter Try.func12, Try.ntmps12
      go_wp2
      refine bodyPost_ret (v := .tuple #[.agg #[.int .i64 0, .slice none 0 0], .int .i64 4]) ?_ rfl ⟨none, 0, rfl, OwB.zero _ _, (Below.refl _ _).alloc (Nat.le_refl _) _⟩
      simp [results, Try.results12, go_sem]
    · have hE : makeE each n = 4 := by rw [makeE, if_pos (by omega)]
      rw [hE]
      have h0 : ¬ each < 1 := by omega
      go_enter Try.func12, Try.ntmps12
      go_wp2
      refine bodyPost_ret (v := .tuple #[.agg #[.int .i64 0, .slice none 0 0], .int .i64 4]) ?_ rfl ⟨none, 0, rfl, OwB.zero _ _, (Below.refl _ _).alloc (Nat.le_refl _) _⟩
      simp [results, Try.results12, go_sem]
    · have hE : makeE each n = 3 := by rw [makeE, if_neg (by omega), if_pos h3]
      rw [hE]
      have h0 : ¬ each < 1 := by omega
      have h4 : ¬ 16 < each := by omega
      have h5 : 4096 < (n : Int) := by omega
      go_enter Try.func12, Try.ntmps12
      go_wp2
      refine bodyPost_ret (v := .tuple #[.agg #[.int .i64 0, .slice none 0 0], .int .i64 3]) ?_ rfl ⟨none, 0, rfl, OwB.zero _ _, (Below.refl _ _).alloc (Nat.le_refl _) _⟩
      simp [results, Try.results12, go_sem]
end Go.Proofs.Ytmnecbmneljhkaa
