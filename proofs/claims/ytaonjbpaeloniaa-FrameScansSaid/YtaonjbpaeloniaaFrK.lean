/- Frame: the walk of Scan. -/
import Derived.Test.YtaonjbpaeloniaaFrJ
import Derived.Test.YtaonjbpaeloniaaAppIn
namespace Go.Proofs.Ytaonjbpaeloniaa
open Go.RowKit Go.Shelf Go.Proofs.YtaonjbpaeloniaaW.PrintWords
set_option linter.unusedVariables false
attribute [local go_sem] Oper.semAt_some

theorem leaves_nil {F : Fence} {n : Nat} {P : Program} {fn : Func} {tmps : Array Value} {R : Ending → World → Prop} {w : World} (v : Value) (h : (results fn tmps).run P w = .ok v w) (hR : R (.returned v) w) : LeavesInM F n P fn tmps R [] .returning w := ⟨v, h, hR⟩
set_option maxRecDepth 100000 in
set_option maxHeartbeats 1600000 in
theorem Scan_any (A : Option Addr) (c : Nat) (b : List UInt8) (w : World) (hx : RdB w A c b) (hl : b.length ≤ 17592186044416) :
    Calls Try.prog 18 #[.slice A b.length c] w fun e w' => ∃ v, e = .returned (.tuple #[v, .int .i64 (scanEnd b : Int)]) ∧ OwR 29 w' w.heap.size v (scanRs b) ∧ Below w.heap.size w w' := by
  obtain ⟨g0, hg0⟩ : ∃ g0, w.heap.size = g0 := ⟨_, rfl⟩
  obtain ⟨W0, hW0⟩ : ∃ W0, ((w.alloc (.cells #[.slice none 0 0] 44)).alloc (.cells #[.int .i64 0] 3)) = W0 := ⟨_, rfl⟩
  have z0 : W0.heap.size = g0 + 2 := by rw [← hW0]; simp [hg0]
  have z1 : Below g0 w W0 := by rw [← hW0, ← hg0]; exact ((Below.refl _ _).alloc (Nat.le_refl _) _).alloc (by simp) _
  have z2 : W0.heap[g0]? = some (.cells #[.slice none 0 0] 44) := by
    rw [← hW0, ← hg0, Below.heap_alloc _ _ _ (by simp)]; exact heap_alloc_new w _
  have z3 : W0.heap[g0 + 1]? = some (.cells #[.int .i64 0] 3) := by
    rw [← hW0, ← hg0]
    have := heap_alloc_new (w.alloc (.cells #[.slice none 0 0] 44)) (.cells #[.int .i64 0] 3)
    rwa [World.size_alloc] at this
  have hP := records_any A b.length c W0
  have hle := hx.le
  refine (callsIn_wide (n := 9)).1 ?_
  refine callsIn_of_wp_marks Try.func18 rfl trivial ?_ rfl
  simp only [Try.ntmps18, List.size_toArray, List.length_cons, List.length_nil, Nat.reduceAdd, Nat.reduceSub, Array.replicate_succ, Array.replicate_zero, List.push_toArray, List.append_toArray, List.nil_append, List.cons_append]
  have hAl : ∀ ad, A = some ad → 0 < b.length → ad.block < g0 := fun ad e hp => by
    obtain ⟨ad', e', hc⟩ := hx.at_ 0 hp
    rw [e] at e'
    injection e' with e'
    subst e'
    have h1 := World.block_lt_of_cell? w _ hc
    have hb : (ad.add 0).block = ad.block := by unfold Addr.add; rfl
    rw [hb] at h1
    omega
  rw [z0] at hP
  have Z0 := hide z0
  have hWs : W0.heap.size = g0 + 2 := z0
  clear z0
  have HWs := hide hWs
  clear hWs
  gi_wp2
  refine ⟨trivial, (callsIn_wide.2 hP).mono ?_⟩
  rintro e w2 ⟨rfl, hs2, hbx, HB2⟩
  have HS2 := hide hs2
  clear hs2
  gi_wp2
  refine range_iterV (D := g0 + 3) (gf := 42) (lb := #[.pointer (some ⟨g0 + 2, 0, none⟩)]) (N := scanN b) (own := fun j => j ≠ g0 ∧ j ≠ g0 + 1) (V := valsS b) HS2.out rfl (enters_of Try.func42 (by kernel_rfl) rfl) (fun k bd vs W ⟨A', c', e, _⟩ => by rw [e]; rfl)
    (iterS_any A c b (g0 + 2) _ w2 hbx (hx.below (z1.mono (by omega) |>.trans (HB2.mono (by omega)))) hl ⟨by omega, by omega⟩ (fun ad e hp => ⟨by have := hAl ad e hp; have := HS2.out; omega, by have := hAl ad e hp; omega, by have := hAl ad e hp; omega⟩))
    (fun k W => Below g0 w W ∧ ∃ v, W.heap[g0]? = some (.cells #[v] 44) ∧ W.heap[g0 + 1]? = some (.cells #[.int .i64 (pos b k : Int)] 3) ∧ kRec.R 29 W g0 (fun j => g0 + 3 + 2 ≤ j) v (recsTo b k))
    (fun _ _ => False)
    (fun k X Y h ⟨i1, v, i2, i3, i4⟩ => ⟨i1.trans (h.below.mono (by omega)), v, (h.below.block _ (by omega)).trans i2, (h.below.block _ (by omega)).trans i3, Kd.R_step i4 (fun j ho hlt => h.past j ho hlt)⟩)
    (fun _ _ _ _ h => h)
    (fun k bd vs X Y hb h ⟨A', c', e, ho⟩ => ⟨A', c', e, own_move ho (fun j hj => h.past j (Nat.le_trans hb (own_base ho j hj)) (own_lt ho j hj))⟩)
    ⟨z1.trans (HB2.mono (by have := HWs.out; omega)), .slice none 0 0, (HB2.block _ (by have := HWs.out; omega)).trans z2, (HB2.block _ (by have := HWs.out; omega)).trans z3, Kd.R_nil _ _ _ _ _⟩
    (fun k bd a₁ W => ∃ g A' c', g0 + 3 + 2 ≤ g ∧ a₁ = { tmps := #[.slice A b.length c, undef, .pointer (some ⟨g0, 0, none⟩), .pointer (some ⟨g0 + 1, 0, none⟩), .pointer (some ⟨g, 0, none⟩), .int .i64 (pos b (k + 1) : Int), .slice A b.length c, .func (.func 42) #[] #[.pointer (some ⟨g0 + 2, 0, none⟩)], .agg #[.int .i64 (recAt b k).1, .slice A' (recAt b k).2.length c'], .int .i64 (pos b (k + 1) : Int), undef, undef, undef, undef, undef, undef, undef], defers := [] } ∧ Bx W g (recAt b k).1 (.slice A' (recAt b k).2.length c') 29 ∧ OwB W bd (.slice A' (recAt b k).2.length c') (recAt b k).2)
    (fun k bd a₁ X Y hb h ⟨g, A', c', hg, e, hX, ho⟩ => ⟨g, A', c', hg, e, (h.past g hg hX.lt).trans hX, own_move ho (fun j hj => h.past j (Nat.le_trans hb (own_base ho j hj)) (own_lt ho j hj))⟩)
    ?assign ?body ?done ?stop
  case assign =>
    intro l k bd vs W KK hk hbd hDW hV hK
    obtain ⟨A', c', rfl, hO⟩ := hV
    gi_wp2
    exact hK _ _ (below_alloc W _) ⟨W.heap.size, A', c', hDW, rfl, Bx.new W _ _ _, hO.below (below_alloc W _)⟩
  case body =>
    intro l k bd a₁ W hk hbd hDW hAsg hI
    obtain ⟨g, A', c', hg, rfl, hX, hO⟩ := hAsg
    obtain ⟨i1, v, i2, i3, i4⟩ := hI
    have HRS := hide (recsTo_succ b k)
    have hrl := recsTo_length b k
    have hpl := pos_le b k (fun j hj => (scanN_spec b).1 j (by omega))
    have hkl : (k + 1) * 32 ≤ 140737488355328 := by omega
    generalize recAt b k = r at *
    obtain ⟨K, X⟩ := r
    simp only at hX hO
    simp only
    have hne : ∀ j, (Value.slice A' X.length c').ownBlock = some j → g0 + 3 + 2 ≤ j ∧ some j ≠ v.ownBlock := fun j hj => ⟨Nat.le_trans hbd (own_base hO j hj), fun e => by
      obtain ⟨inner, ho⟩ := Kd.R_own i4
      obtain ⟨c1, q1⟩ := own_typed hO j hj
      obtain ⟨c2, q2⟩ := own_typed ho j e.symm
      rw [q1] at q2
      injection q2 with q2
      injection q2 with _ q2
      exact absurd q2 (by decide)⟩
    have hM : kRec.M W g0 (fun j => g0 + 3 + 2 ≤ j ∧ some j ≠ v.ownBlock) (K, X) [.int .i64 K, .slice A' X.length c'] := kRec_M (hO.lower (by omega)) hne
    have hvb := i4.1
    generalize recsTo b k = rs at *
    obtain ⟨n, hn⟩ : ∃ n, X.length = n := ⟨_, rfl⟩
    rw [hn] at hM hX ⊢
    rw [← hrl] at hkl
    have HKL := hide hkl
    have HN := hide hn
    obtain ⟨x0, x1, x2, x3⟩ := hX.read
    have y0 := blk_cell i2 0
    have y1 := blk_frozen i2 0
    have y2 := blk_cell i3 0
    have y3 := blk_frozen i3 0
    clear hn hne hO hkl hpl hrl
    gi_wp2_with (first | (gi_at_builtin; refine R_append_in kRec (w0 := w) g0 rfl (.tmp 10) (.tmp 12) 44 29 (.agg #[.int .i64 0, .slice none 0 0]) 32 rfl Try.underlying44 info_frec rfl (by decide) (by decide) v rs (K, X) [.int .i64 K, .slice A' n c'] (fun j => g0 + 3 + 2 ≤ j) (fun j => g0 + 3 + 2 ≤ j ∧ some j ≠ v.ownBlock) rfl rfl hM (fun j h => h) (fun j h => Nat.le_trans hDW h) i4 i1 (by omega) HKL.out ?_; intro v5 w5 HO5 HB5 hg5; obtain ⟨A5, c5, hv5⟩ := Kd.R_slice HO5; generalize (rs ++ [(K, X)]).length = m5 at hv5; subst hv5; have l0 : w5.heap[g0]? = some (.cells #[v] 44) := (hg5.block g0 (by omega) (fun e => by have := hvb g0 e.symm; omega)).trans i2; have l1 : w5.heap[g0 + 1]? = some (.cells #[.int .i64 (pos b k : Int)] 3) := (hg5.block (g0 + 1) (by omega) (fun e => by have := hvb (g0 + 1) e.symm; omega)).trans i3; have y4 := blk_cell l0 0; have y5 := blk_frozen l0 0; have y6 := blk_cell l1 0; have y7 := blk_frozen l1 0))
    refine ⟨⟨?_, ?_⟩, ?_, .slice A5 m5 c5, ?_, ?_, ?_⟩
    · simp only [World.size_setCell]
      exact hg5.size
    · intro j hj hlt
      have hj0 : j ≠ g0 := by omega
      have hj1 : j ≠ g0 + 1 := by omega
      rw [Below.heap_setCell _ _ _ _ (show j ≠ g0 + 1 from hj1), Below.heap_setCell _ _ _ _ (show j ≠ g0 from hj0)]
      exact hg5.block j (by omega) (fun e => by have := hvb j e.symm; omega)
    · exact (HB5.setCell (p := ⟨g0, 0, none⟩) (Nat.le_refl _) _).setCell (p := ⟨g0 + 1, 0, none⟩) (Nat.le_succ _) _
    · exact (Below.heap_setCell _ _ _ _ (show g0 ≠ g0 + 1 by omega)).trans (blk_set l0 0 _)
    · exact blk_set ((Below.heap_setCell _ _ _ _ (show g0 + 1 ≠ g0 by omega)).trans l1) 0 _
    · rw [HRS.out]
      exact Kd.R_far (p := ⟨g0 + 1, 0, none⟩) (Kd.R_far (p := ⟨g0, 0, none⟩) HO5 (fun j hj => by show j ≠ g0; omega) _) (fun j hj => by show j ≠ g0 + 1; omega) _
  case done =>
    intro W hI hsz hD
    obtain ⟨i1, v, i2, i3, i4⟩ := hI
    obtain ⟨A5, c5, hv5⟩ := Kd.R_slice i4
    generalize (recsTo b (scanN b)).length = m5 at hv5
    subst hv5
    have y0 := blk_cell i2 0
    have y1 := blk_frozen i2 0
    have y2 := blk_cell i3 0
    have y3 := blk_frozen i3 0
    gi_wp2
    gi_region
    all_goals gi_wp2
    obtain ⟨W3, hW3⟩ : ∃ W3, ((W.setCell ⟨g0, 0, none⟩ (.slice A5 m5 c5)).setCell ⟨g0 + 1, 0, none⟩ (.int .i64 (pos b (scanN b) : Int))).drew = W3 := ⟨_, rfl⟩
    have s0 : W3.heap[g0]? = some (.cells #[.slice A5 m5 c5] 44) := by rw [← hW3]; exact (Below.heap_setCell _ _ _ _ (show g0 ≠ g0 + 1 by omega)).trans (blk_set i2 0 _)
    have s1 : W3.heap[g0 + 1]? = some (.cells #[.int .i64 (pos b (scanN b) : Int)] 3) := by rw [← hW3]; exact blk_set ((Below.heap_setCell _ _ _ _ (show g0 + 1 ≠ g0 by omega)).trans i3) 0 _
    have s2 : W3.heap[g0 + 3]? = some (.deferred (some [])) := by rw [← hW3]; exact (Below.heap_setCell _ _ _ _ (show g0 + 3 ≠ g0 + 1 by omega)).trans ((Below.heap_setCell _ _ _ _ (show g0 + 3 ≠ g0 by omega)).trans hD)
    have s3 : Below g0 w W3 := by rw [← hW3]; exact ((i1.setCell (p := ⟨g0, 0, none⟩) (Nat.le_refl _) _).setCell (p := ⟨g0 + 1, 0, none⟩) (Nat.le_succ _) _).drew
    have s4 : kRec.R 29 W3 g0 (fun j => g0 + 3 + 2 ≤ j) (.slice A5 m5 c5) (recsTo b (scanN b)) := by
      rw [← hW3]
      exact Kd.R_step (Kd.R_far (p := ⟨g0 + 1, 0, none⟩) (Kd.R_far (p := ⟨g0, 0, none⟩) i4 (fun j hj => by show j ≠ g0; omega) _) (fun j hj => by show j ≠ g0 + 1; omega) _) (fun _ _ _ => rfl)
    rw [hW3]
    clear hW3
    refine ⟨by simp, .inl ⟨_, _, rfl, run_takeDeferred s2, ?_⟩⟩
    have r0 := blk_cell ((World.putObj_heap_other (o := .deferred none) (show g0 ≠ g0 + 3 by omega)).trans s0) 0
    have r1 := blk_cell ((World.putObj_heap_other (o := .deferred none) (show g0 + 1 ≠ g0 + 3 by omega)).trans s1) 0
    have hD3 := (Array.getElem?_eq_some_iff.1 s2).1
    refine leaves_nil (.tuple #[.slice A5 m5 c5, .int .i64 (pos b (scanN b) : Int)]) ?_ ⟨_, rfl, ?_, ?_⟩
    · simp [results, Try.results18, go_sem, r0, r1]
    · rw [hg0]
      exact Kd.R_mono (Kd.R_step s4 (fun j hj _ => World.putObj_heap_other (by omega))) (fun _ _ => trivial)
    · rw [hg0]
      exact s3.trans ((Below.refl g0 W3).grown (grownBy_putObj' W3 (g0 + 3) _) (by omega) (fun k e => by cases e; omega))
  case stop =>
    intro k W hk hf
    exact hf.elim
end Go.Proofs.Ytaonjbpaeloniaa
