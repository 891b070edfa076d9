/- Bloom: the walk of the reference's Decode. -/
import Derived.Test.YtmnecbmneljhkaaBlG
import Derived.Test.YtmnecbmneljhkaaCopied
namespace Go.Proofs.Ytmnecbmneljhkaa
open Go.RowKit Go.Proofs.YtmnecbmneljhkaaW.PrintWords
set_option linter.unusedVariables false
set_option maxHeartbeats 800000 in
theorem rDecode_any (A : Option Addr) (c : Nat) (b : List UInt8) (w : World) (hx : RdB w A c b) (hl : b.length ≤ 140737488355328) :
    Calls Try.prog 25 #[.slice A b.length c] w fun e w' => ∃ A' c', e = .returned (.tuple #[fil (decK b) A' (decX b).length c', .int .i64 (decE b)]) ∧ OwB w' w.heap.size (.slice A' (decX b).length c') (decX b) ∧ Below w.heap.size w w' := by
  unfold fil
  by_cases h2 : b.length < 2
  · have hno : ¬ decOk b := fun h => by have := h.1; omega
    have e1 : decK b = 0 := by rw [decK, if_neg hno]
    have e2 : decX b = [] := by rw [decX, if_neg hno]
    have e3 : decE b = 8 := by rw [decE, if_neg hno, if_pos h2]
    rw [e1, e2, e3]
    clear e1 e2 e3
    go_enter Try.func25, Try.ntmps25
    go_wp2
    refine bodyPost_ret (v := .tuple #[.agg #[.int .i64 0, .slice none 0 0], .int .i64 8]) ?_ rfl ⟨none, 0, rfl, OwB.zero _ _, (Below.refl _ _).alloc (Nat.le_refl _) _⟩
    simp [results, Try.results25, go_sem]
  · obtain ⟨ad, rfl, hcell⟩ := hx.at_ 0 (by omega)
    have hz : ad.add 0 = ad := by cases ad; simp [Addr.add]
    rw [hz] at hcell
    obtain ⟨x, hxx⟩ : ∃ x, b.getD 0 0 = x := ⟨_, rfl⟩
    rw [hxx] at hcell
    have HY : Hid (okF (x.toNat : Int) (b.length - 1) → decK b = (x.toNat : Int) ∧ decX b = b.drop 1 ∧ decE b = 0) := fun h => by
      have h' : decOk b := by rw [decOk, hxx]; exact ⟨by omega, h⟩
      exact ⟨by rw [decK, if_pos h', hxx], by rw [decX, if_pos h'], by rw [decE, if_pos h']⟩
    have HN : Hid (¬ okF (x.toNat : Int) (b.length - 1) → decK b = 0 ∧ decX b = [] ∧ decE b = 9) := fun h => by
      have h' : ¬ decOk b := by rw [decOk, hxx]; exact fun e => h e.2
      exact ⟨by rw [decK, if_neg h'], by rw [decX, if_neg h'], by rw [decE, if_neg h', if_neg h2]⟩
    generalize decK b = K0 at *
    generalize decX b = X0 at *
    generalize decE b = E0 at *
    have hrd := hx.drop 1 (by omega)
    have hlen : (b.drop 1).length = b.length - 1 := by simp
    have hsl : ∀ W, (Instr.slice 23 (.slice (some ad) b.length c) (some (.int .i64 1)) none none).run Try.prog W = .ok (.slice (cutA (some ad) c 1) (b.length - 1) (c - 1)) W := fun W => slice_lo 23 5 Try.underlying23 (i := _) rfl rfl (some ad) b.length c 1 (by omega) W
    obtain ⟨W2, hW2⟩ : ∃ W2, w.alloc (.cells #[.int .i64 0, .slice none 0 0] 25) = W2 := ⟨_, rfl⟩
    have hs2 : W2.heap.size = w.heap.size + 1 := by rw [← hW2]; simp
    have hb2 : Below w.heap.size w W2 := by rw [← hW2]; exact (Below.refl _ _).alloc (Nat.le_refl _) _
    have cz : W2.heap[w.heap.size]? = some (.cells #[.int .i64 0, .slice none 0 0] 25) := by rw [← hW2]; exact heap_alloc_new w _
    have e0 : W2.cell? ad = some (.int .u8 (x.toNat : Int)) := (hb2.cell (World.block_lt_of_cell? w ad hcell)).trans hcell
    have hC := fun W (h : Below W2.heap.size W2 W) => Copied_any _ _ _ W ((hrd.below hb2).below h) (by omega)
    rw [hlen] at hC
    generalize cutA (some ad) c 1 = C at *
    have hpos : 0 < b.length := by omega
    have h2i : ¬ (b.length : Int) < 2 := by omega
    go_enter Try.func25, Try.ntmps25
    go_wp2
    try rw [hW2]
    have hS0 : Below W2.heap.size W2 W2.drew ∧ W2.drew.cell? ad = some (.int .u8 (x.toNat : Int)) := ⟨(Below.refl _ _).drew, e0⟩
    have hSk : ∀ W, Below W2.heap.size W2 W → W.cell? ad = some (.int .u8 (x.toNat : Int)) := fun W h => (h.cell (World.block_lt_of_cell? W2 ad e0)).trans e0
    clear hW2
    have HS2 := hide hs2
    clear hs2
    go_region_held3 (fun w' => Below W2.heap.size W2 w' ∧ w'.cell? ad = some (.int .u8 (x.toNat : Int))) (first | exact hS0 | exact ⟨(Below.refl _ _).drew.alloc (Nat.le_refl _) _, hSk _ ((Below.refl _ _).drew.alloc (Nat.le_refl _) _)⟩ | exact ⟨HBt, hSk _ HBt⟩ | exact ⟨HBt.alloc HBt.size _, hSk _ (HBt.alloc HBt.size _)⟩ | exact ⟨(HBt.setCell (p := ⟨W2.heap.size, 0, none⟩) (Nat.le_refl _) _).setCell (p := ⟨W2.heap.size, 1, none⟩) (Nat.le_refl _) _, hSk _ ((HBt.setCell (p := ⟨W2.heap.size, 0, none⟩) (Nat.le_refl _) _).setCell (p := ⟨W2.heap.size, 1, none⟩) (Nat.le_refl _) _)⟩ | exact ⟨((HBt.alloc HBt.size _).setCell (p := ⟨_, _, _⟩) HBt.size _).setCell (p := ⟨_, _, _⟩) HBt.size _, hSk _ (((HBt.alloc HBt.size _).setCell (p := ⟨_, _, _⟩) HBt.size _).setCell (p := ⟨_, _, _⟩) HBt.size _)⟩) (first | (go_at_call 33; refine (hC _ (by first | exact (Below.refl _ _).drew | exact ((Below.refl _ _).drew).alloc (Nat.le_refl _) _)).mono ?_; rintro e w3 ⟨v3, rfl, HO3, HB3⟩; (first | (have HBt : Below W2.heap.size W2 w3 := (Below.refl W2.heap.size W2).drew.trans HB3; have k1 : (w3.alloc (.cells #[.int .i64 0, .slice none 0 0] 25)).heap[w3.heap.size]? = some (.cells #[.int .i64 0, .slice none 0 0] 25) := heap_alloc_new w3 _; obtain ⟨k2, k3, k4, k5⟩ := two_read k1) | (have HBt : Below W2.heap.size W2 w3 := ((Below.refl W2.heap.size W2).drew.alloc (Nat.le_refl _) _).trans (HB3.mono (by simp)); have k1 : w3.heap[W2.heap.size]? = some (.cells #[.int .i64 0, .slice none 0 0] 25) := (HB3.block _ (by simp)).trans (heap_alloc_new W2.drew _); obtain ⟨k2, k3, k4, k5⟩ := two_read k1)); obtain ⟨A3, c3, rfl, hr3⟩ := HO3.rd))
    have g1 := heap_alloc_new w3 (.cells #[Value.int IntKind.i64 (IntKind.i64.wrap (x.toNat : Int)), Value.slice A3 (b.length - 1) c3] 25)
    have O9 := HO3.below ((Below.refl _ _).alloc (Nat.le_refl _) (.cells #[Value.int IntKind.i64 (IntKind.i64.wrap (x.toNat : Int)), Value.slice A3 (b.length - 1) c3] 25))
    have B9 := HBt.alloc HBt.size (.cells #[Value.int IntKind.i64 (IntKind.i64.wrap (x.toNat : Int)), Value.slice A3 (b.length - 1) c3] 25)
    have O10 : OwB _ W2.heap.size _ _ := O9
    have hg : W2.heap.size ≤ w3.heap.size := HBt.size
    clear k1 k2 k3 k4 k5 HB3 HO3 O9 hr3 hS0 HBt
    generalize w3.alloc (.cells #[Value.int IntKind.i64 (IntKind.i64.wrap (x.toNat : Int)), Value.slice A3 (b.length - 1) c3] 25) = W9 at *
    generalize w3.heap.size = g at *
    rotate_left
    have g1 := two_cells (u := Value.int IntKind.i64 (IntKind.i64.wrap (x.toNat : Int))) (v := Value.slice A3 (b.length - 1) c3) k1
    have O10 : OwB ((w3.setCell ⟨W2.heap.size, 0, none⟩ (.int .i64 (IntKind.i64.wrap (x.toNat : Int)))).setCell ⟨W2.heap.size, 1, none⟩ (.slice A3 (b.length - 1) c3)) W2.heap.size (.slice A3 (b.drop 1).length c3) (b.drop 1) := by
      refine OwB.lower (base := W2.heap.size + 1) ?_ (by omega)
      have HO2 : OwB w3 (W2.heap.size + 1) (.slice A3 (b.drop 1).length c3) (b.drop 1) := by simpa using HO3
      exact own_setCell (own_setCell HO2 (p := ⟨W2.heap.size, 0, none⟩) (fun e => by have h := own_base HO2 _ e.symm; change W2.heap.size + 1 ≤ W2.heap.size at h; omega) _) (p := ⟨W2.heap.size, 1, none⟩) (fun e => by have h := own_base HO2 _ e.symm; change W2.heap.size + 1 ≤ W2.heap.size at h; omega) _
    have B9 := (HBt.setCell (p := ⟨W2.heap.size, 0, none⟩) (Nat.le_refl _) (.int .i64 (IntKind.i64.wrap (x.toNat : Int)))).setCell (p := ⟨W2.heap.size, 1, none⟩) (Nat.le_refl _) (.slice A3 (b.length - 1) c3)
    have hg : W2.heap.size ≤ W2.heap.size := Nat.le_refl _
    clear k1 k2 k3 k4 k5 HB3 HO3 hr3 hS0 HBt
    generalize (w3.setCell ⟨W2.heap.size, 0, none⟩ (.int .i64 (IntKind.i64.wrap (x.toNat : Int)))).setCell ⟨W2.heap.size, 1, none⟩ (.slice A3 (b.length - 1) c3) = W9 at *
    all_goals (
      have hwx : IntKind.i64.wrap (x.toNat : Int) = (x.toNat : Int) := by have := x.toNat_lt; rw [IntKind.wrap_i64]; omega
      rw [hwx] at g1 ⊢
      have hne : w.heap.size < W2.heap.size := by rw [HS2.out]; omega
      have cz9 := (B9.block _ hne).trans cz
      have k0 := World.block_lt_of_cell? _ _ (two_read g1).1
      have k9 := World.block_lt_of_cell? _ _ (two_read cz9).1
      by_cases hok : okF (x.toNat : Int) (b.length - 1))
    all_goals (
      have HM := check_any (x.toNat : Int) A3 (b.length - 1) c3
      unfold fil at HM
      first | rw [if_pos hok] at HM | rw [if_neg hok] at HM
      obtain ⟨g2, g3, g4, g5⟩ := two_read g1
      have hall : ∀ w4, Below W9.heap.size W9 w4 → w4.heap[w.heap.size]? = some (.cells #[Value.int .i64 0, Value.slice none 0 0] 25) := fun w4 h => (h.block _ k9).trans cz9
      have hag := fun w4 (h : Below W9.heap.size W9 w4) => (h.block _ k0).trans g1
      clear cz hx hcell hxx hlen hwx hsl hC e0 hSk cz9 k0 k9 g1 hrd hz)
    all_goals go_wp2_with (first | (go_at_call 31; refine (HM _).mono ?_; rintro e w4 ⟨rfl, HB4⟩; obtain ⟨m0, m1, m2, m3⟩ := two_read (hall _ HB4); obtain ⟨n0, n1, n2, n3⟩ := two_read (hag _ HB4)))
    all_goals (
      have B4 : Below w.heap.size w w4 := (hb2.trans (B9.mono hb2.size)).trans (HB4.mono (by have := B9.size; have := hb2.size; omega))
      have O4 := O10.below HB4
      have q1 : ∀ (off : Nat), (⟨w.heap.size, off, none⟩ : Addr).block ≥ w.heap.size := fun _ => Nat.le_refl _)
    all_goals first
    | (have hres := HY.out hok
       obtain ⟨rfl, rfl, rfl⟩ := hres
       have hd : (b.drop 1).length = b.length - 1 := by simp
       refine bodyPost_ret (v := .tuple #[.agg #[.int .i64 (x.toNat : Int), .slice A3 (b.drop 1).length c3], .int .i64 0]) ?_ rfl ⟨A3, c3, rfl, OwB.lower (own_setCell (own_setCell O4 (p := ⟨w.heap.size, 0, none⟩) (fun e => by have h := own_base O4 _ e.symm; change W2.heap.size ≤ w.heap.size at h; omega) _) (p := ⟨w.heap.size, 1, none⟩) (fun e => by have h := own_base O4 _ e.symm; change W2.heap.size ≤ w.heap.size at h; omega) _) (by omega), (B4.setCell (p := ⟨w.heap.size, 0, none⟩) (Nat.le_refl _) _).setCell (p := ⟨w.heap.size, 1, none⟩) (Nat.le_refl _) _⟩
       obtain ⟨r0, r1, _, _⟩ := two_read (two_cells (u := .int .i64 (x.toNat : Int)) (v := .slice A3 (b.length - 1) c3) (hall _ HB4))
       rw [hd]
       simp [results, Try.results25, go_sem, r0, r1])
    | (have hres := HN.out hok
       obtain ⟨rfl, rfl, rfl⟩ := hres
       refine bodyPost_ret (v := .tuple #[.agg #[.int .i64 0, .slice none 0 0], .int .i64 9]) ?_ rfl ⟨none, 0, rfl, OwB.zero _ _, (B4.setCell (p := ⟨w.heap.size, 0, none⟩) (Nat.le_refl _) _).setCell (p := ⟨w.heap.size, 1, none⟩) (Nat.le_refl _) _⟩
       obtain ⟨r0, r1, _, _⟩ := two_read (two_cells (u := .int .i64 0) (v := .slice none 0 0) (hall _ HB4))
       simp [results, Try.results25, go_sem, r0, r1])
end Go.Proofs.Ytmnecbmneljhkaa
