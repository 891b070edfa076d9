/- Frame: the walks of num, of, same. -/
import Derived.Test.YtaonjbpaeloniaaBoxed
import Derived.Test.YtaonjbpaeloniaaPlain
namespace Go.Proofs.Ytaonjbpaeloniaa
open Go.RowKit Go.Proofs.YtaonjbpaeloniaaW.PrintWords
set_option linter.unusedVariables false

theorem num_any (n : Int) (w : World) : Calls Try.prog 11 #[.int .i64 n] w fun e w' => e = .returned (.int .i64 n) ∧ w = w' := by
  go_enter Try.func11, Try.ntmps11
  go_wp2
  go_ret
  exact ⟨rfl, rfl⟩
set_option maxRecDepth 100000 in
set_option maxHeartbeats 800000 in
theorem same_any (K L : Int) (A B : Option Addr) (n m c d : Nat) (xs ys : List UInt8) (w : World) (hn : xs.length = n) (hm : ys.length = m) (hx : RdB w A c xs) (hy : RdB w B d ys) :
    Calls Try.prog 14 #[fil K A n c, fil L B m d] w fun e w' => e = .returned (.bool (decide (K = L ∧ xs = ys))) ∧ Below w.heap.size w w' := by
  have hS := fun W (h : Below w.heap.size w W) => SameBytes_at A B c d n m xs ys W hn hm (hx.below h) (hy.below h)
  obtain ⟨z, hz⟩ : ∃ z, decide (K = L ∧ xs = ys) = z := ⟨_, rfl⟩
  have HZ := hide hz
  rw [hz]
  clear hz
  unfold fil
  by_cases hKL : K = L
  · subst hKL
    go_enter Try.func14, Try.ntmps14
    go_wp2_with (first | (go_at_call 20; refine (hS _ (((Below.refl _ _).alloc (Nat.le_refl _) _).alloc (by simp) _)).mono ?_; rintro e w1 ⟨rfl, rfl⟩))
    go_ret
    refine ⟨?_, ((Below.refl _ _).alloc (Nat.le_refl _) _).alloc (by simp) _⟩
    rw [← HZ.out]
    simp
  · go_enter Try.func14, Try.ntmps14
    go_wp2_with (first | (go_at_call 20; refine (hS _ (((Below.refl _ _).alloc (Nat.le_refl _) _).alloc (by simp) _)).mono ?_; rintro e w1 ⟨rfl, rfl⟩))
    all_goals go_ret
    all_goals (refine ⟨?_, ((Below.refl _ _).alloc (Nat.le_refl _) _).alloc (by simp) _⟩)
    all_goals rw [← HZ.out]
    all_goals simp [hKL]
set_option maxRecDepth 100000 in
set_option maxHeartbeats 800000 in
theorem of_any (K : Int) (A : Option Addr) (n c : Nat) (xs : List UInt8) (w : World) (hn : xs.length = n) (hx : RdB w A c xs) (hl : n ≤ 140737488355328) :
    Calls Try.prog 10 #[fil K A n c] w fun e w' => ∃ A' c', e = .returned (fil K A' n c') ∧ OwB w' w.heap.size (.slice A' n c') xs ∧ Below w.heap.size w w' := by
  unfold fil
  subst hn
  go_enter Try.func10, Try.ntmps10
  go_wp2
  obtain ⟨W2, hW2⟩ : ∃ W2, (w.alloc (.cells #[.int .i64 K, .slice A xs.length c] 24)).alloc (.cells #[.int .i64 0, .slice none 0 0] 29) = W2 := ⟨_, rfl⟩
  have hs1 : (w.alloc (.cells #[.int .i64 K, .slice A xs.length c] 24)).heap.size = w.heap.size + 1 := by simp
  have hs2 : W2.heap.size = w.heap.size + 2 := by rw [← hW2]; simp
  have hb2 : Below w.heap.size w W2 := by rw [← hW2]; exact ((Below.refl _ _).alloc (Nat.le_refl _) _).alloc (by simp) _
  have c0 : W2.heap[w.heap.size]? = some (.cells #[.int .i64 K, .slice A xs.length c] 24) := by
    rw [← hW2, Below.heap_alloc _ _ _ (by simp)]; exact heap_alloc_new w _
  have c1 : W2.heap[w.heap.size + 1]? = some (.cells #[.int .i64 0, .slice none 0 0] 29) := by
    rw [← hW2]; have := heap_alloc_new (w.alloc (.cells #[.int .i64 K, .slice A xs.length c] 24)) (.cells #[.int .i64 0, .slice none 0 0] 29); rw [hs1] at this; exact this
  rw [hW2]
  clear hW2 hs1
  have d0 := blk_cell c0 0
  have d1 := blk_cell c0 1
  have e0 : W2.cell? ⟨w.heap.size, 0, none⟩ = some (.int .i64 K) := d0
  have e1 : W2.cell? ⟨w.heap.size, 1, none⟩ = some (.slice A xs.length c) := d1
  have hxd : RdB W2.drew A c xs := hx.below hb2.drew
  clear d0 d1
  go_region_with (first | (go_at_call 13; refine (CopyBytes_any _ _ _ _ hxd hl).mono ?_; rintro e w1 ⟨v1, rfl, HO1, HB10⟩; have HB1 := (Below.refl W2.heap.size W2).drew.trans HB10; have g0 : w1.cell? ⟨w.heap.size, 0, none⟩ = some (.int .i64 K) := (HB1.cell (by rw [hs2]; show w.heap.size < _; omega)).trans e0; have g1 : w1.heap[w.heap.size + 1]? = some (.cells #[.int .i64 0, .slice none 0 0] 29) := (HB1.block _ (by omega)).trans c1; have g2 := blk_cell g1 0; have g3 := blk_cell g1 1; have g4 := blk_frozen g1 0; have g5 := blk_frozen g1 1; obtain ⟨A1, k1, rfl, hr1⟩ := HO1.rd))
  all_goals go_wp2
  all_goals (
    have h1 := blk_set g1 0 (.int .i64 K)
    have h2 := blk_set h1 1 (.slice A1 xs.length k1)
    have r0 := blk_cell h2 0
    have r1 := blk_cell h2 1
    have HO2 := (HO1.lower (base' := w.heap.size + 2) (by show _ ≤ W2.heap.size; omega))
    have HO3 : OwB ((w1.setCell ⟨w.heap.size + 1, 0, none⟩ (.int .i64 K)).setCell ⟨w.heap.size + 1, 1, none⟩ (.slice A1 xs.length k1)) w.heap.size (.slice A1 xs.length k1) xs := by
      refine OwB.lower (base := w.heap.size + 2) ?_ (by omega)
      exact own_setCell (own_setCell HO2 (p := ⟨w.heap.size + 1, 0, none⟩) (fun e => by have h := own_base HO2 _ e.symm; change w.heap.size + 2 ≤ w.heap.size + 1 at h; omega) _) (p := ⟨w.heap.size + 1, 1, none⟩) (fun e => by have h := own_base HO2 _ e.symm; change w.heap.size + 2 ≤ w.heap.size + 1 at h; omega) _
    have HB3 : Below w.heap.size w ((w1.setCell ⟨w.heap.size + 1, 0, none⟩ (.int .i64 K)).setCell ⟨w.heap.size + 1, 1, none⟩ (.slice A1 xs.length k1)) := ((hb2.trans (HB1.mono (by omega))).setCell (p := ⟨w.heap.size + 1, 0, none⟩) (show w.heap.size ≤ w.heap.size + 1 by omega) _).setCell (p := ⟨w.heap.size + 1, 1, none⟩) (show w.heap.size ≤ w.heap.size + 1 by omega) _
    refine bodyPost_ret (v := .agg #[.int .i64 K, .slice A1 xs.length k1]) ?_ rfl ⟨A1, k1, rfl, HO3, HB3⟩)
  all_goals (
    generalize (w1.setCell ⟨w.heap.size + 1, 0, none⟩ (.int .i64 K)).setCell ⟨w.heap.size + 1, 1, none⟩ (.slice A1 xs.length k1) = W3 at *
    have s0 : W3.cell? ⟨w.heap.size + 1, 0, none⟩ = some (.int .i64 K) := r0
    have s1 : W3.cell? ⟨w.heap.size + 1, 1, none⟩ = some (.slice A1 xs.length k1) := r1
    simp [results, Try.results10, go_sem, s0, s1])
end Go.Proofs.Ytaonjbpaeloniaa
