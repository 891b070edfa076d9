/- Frame: the walk of the reference's Get. -/
import Derived.Test.YtaonjbpaeloniaaFrE
namespace Go.Proofs.Ytaonjbpaeloniaa
open Go.RowKit Go.Proofs.YtaonjbpaeloniaaW.PrintWords
set_option linter.unusedVariables false

theorem bare_take (b : List UInt8) (n : Nat) (h4 : 4 ≤ n) (hn : n ≤ b.length) (h : bareNum (b.take n) = 0) : bare (b.take n) = b.take (n - 4) := by
  have hl : (b.take n).length = n := by rw [List.length_take]; omega
  unfold bareNum at h
  rw [hl, if_neg (by omega)] at h
  unfold bare
  rw [hl]
  by_cases hg : guarded ((b.take n).take (n - 4)) = b.take n
  · rw [if_pos ⟨h4, hg⟩, List.take_take, Nat.min_eq_left (by omega)]
  · rw [if_neg hg] at h
    cases h
set_option maxRecDepth 100000 in
set_option maxHeartbeats 1600000 in
theorem rFGet_any (A : Option Addr) (c : Nat) (b : List UInt8) (w : World) (hx : RdB w A c b) (hl : b.length ≤ 140737488355328) :
    Calls Try.prog 17 #[.slice A b.length c] w fun e w' => ∃ A' c', e = .returned (.tuple #[fil (fgK b) A' (fgX b).length c', .int .i64 (fgS b : Int), .int .i64 (fgE b)]) ∧ OwB w' w.heap.size (.slice A' (fgX b).length c') (fgX b) ∧ Below w.heap.size w w' := by
  have hm := hx.max
  have hV := rGet_any A c b _ (hx.below (below_alloc w (.cells #[.int .i64 0, .slice none 0 0] 24)))
  have R0 : (w.alloc (.cells #[.int .i64 0, .slice none 0 0] 24)).heap[w.heap.size]? = some (.cells #[.int .i64 0, .slice none 0 0] 24) := heap_alloc_new w _
  have B0 := below_alloc w (.cells #[.int .i64 0, .slice none 0 0] 24)
  have hlt : w.heap.size < (w.alloc (.cells #[.int .i64 0, .slice none 0 0] 24)).heap.size := by simp
  have refuse : fgE b ≠ 0 → fgK b = 0 ∧ fgX b = [] ∧ fgS b = 0 := fun h => ⟨by rw [fgK, if_neg h], by rw [fgX, if_neg h], by rw [fgS, if_neg h]⟩
  unfold fil
  by_cases h1 : getErr b = 0
  · obtain ⟨hk1, hk2⟩ : 1 ≤ gK b ∧ gK b ≤ b.length := by
      rw [gK, if_pos h1]
      exact ⟨by omega, (put_get b h1).2.1⟩
    by_cases h2 : 65536 < gN b
    · have e1 : fgE b = 5 := by rw [fgE, if_neg (fun h => h h1), if_pos h2]
      obtain ⟨r1, r2, r3⟩ := refuse (by rw [e1]; decide)
      rw [e1, r1, r2, r3]
      rw [h1] at hV
      have h2i : 65536 < (gN b : Int) := by omega
      clear e1 r1 r2 r3 refuse h1
      generalize gN b = n at *
      generalize gK b = k at *
      go_enter Try.func17, Try.ntmps17
      go_wp2_with (first | (go_at_call 30; refine hV.mono ?_; rintro e w1 ⟨rfl, HB1⟩; have R1 := (HB1.block _ hlt).trans R0; obtain ⟨k0, k1', k2', k3⟩ := two_read R1; replace B0 := B0.trans (HB1.mono B0.size)))
      obtain ⟨r0, r1, _, _⟩ := two_read (two_cells (u := .int .i64 0) (v := .slice none 0 0) R1)
      refine bodyPost_ret (v := .tuple #[.agg #[.int .i64 0, .slice none 0 0], .int .i64 0, .int .i64 5]) ?_ rfl ⟨none, 0, rfl, OwB.zero _ _, (B0.setCell (p := ⟨w.heap.size, 0, none⟩) (Nat.le_refl _) _).setCell (p := ⟨w.heap.size, 1, none⟩) (Nat.le_refl _) _⟩
      simp [results, Try.results17, go_sem, r0, r1]
    · by_cases h3 : b.length < gK b + 1 + gN b + 4
      · have e1 : fgE b = 8 := by rw [fgE, if_neg (fun h => h h1), if_neg h2, if_pos h3]
        obtain ⟨r1, r2, r3⟩ := refuse (by rw [e1]; decide)
        rw [e1, r1, r2, r3]
        rw [h1] at hV
        have h2i : ¬ 65536 < (gN b : Int) := by omega
        clear e1 r1 r2 r3 refuse h1
        generalize gN b = n at *
        generalize gK b = k at *
        obtain ⟨k1, hk1e⟩ : ∃ k1, k + 1 = k1 := ⟨_, rfl⟩
        obtain ⟨s, hse⟩ : ∃ s, k1 + n + 4 = s := ⟨_, rfl⟩
        have a1 : (k : Int) + 1 = (k1 : Int) := by omega
        have a2 : (k1 : Int) + (n : Int) + 4 = (s : Int) := by omega
        have a3 : (b.length : Int) < (s : Int) := by omega
        clear hse hk1e h3
        go_enter Try.func17, Try.ntmps17
        go_wp2_with (first | (go_at_call 30; refine hV.mono ?_; rintro e w1 ⟨rfl, HB1⟩; have R1 := (HB1.block _ hlt).trans R0; obtain ⟨k0, k1', k2', k3⟩ := two_read R1; replace B0 := B0.trans (HB1.mono B0.size)))
        obtain ⟨r0, r1, _, _⟩ := two_read (two_cells (u := .int .i64 0) (v := .slice none 0 0) R1)
        refine bodyPost_ret (v := .tuple #[.agg #[.int .i64 0, .slice none 0 0], .int .i64 0, .int .i64 8]) ?_ rfl ⟨none, 0, rfl, OwB.zero _ _, (B0.setCell (p := ⟨w.heap.size, 0, none⟩) (Nat.le_refl _) _).setCell (p := ⟨w.heap.size, 1, none⟩) (Nat.le_refl _) _⟩
        simp [results, Try.results17, go_sem, r0, r1]
      · have h2i : ¬ 65536 < (gN b : Int) := by omega
        have hle : gK b + 1 + gN b + 4 ≤ b.length := by omega
        have hxs := hx.take (gK b + 1 + gN b + 4) hle
        have hlen : (b.take (gK b + 1 + gN b + 4)).length = gK b + 1 + gN b + 4 := by rw [List.length_take]; omega
        have hBr := fun W (h : Below w.heap.size w W) => rBare_all A c (b.take (gK b + 1 + gN b + 4)) W (hxs.below h) (by omega)
        rw [hlen] at hBr
        have e0 : fgE b = bareNum (b.take (gK b + 1 + gN b + 4)) := by rw [fgE, if_neg (fun h => h h1), if_neg h2, if_neg h3]
        have hsl := fun W => slice_hi 22 5 Try.underlying22 (i := _) rfl rfl A b.length c (gK b + 1 + gN b + 4) (by have := hx.1; omega) W
        rw [h1] at hV
        by_cases hz : fgE b = 0
        · have e2 : fgK b = ((b.getD (gK b) 0).toNat : Int) := by rw [fgK, if_pos hz]
          have e3 : fgX b = (b.take (gK b + 1 + gN b)).drop (gK b + 1) := by rw [fgX, if_pos hz]
          have e4 : fgS b = gK b + 1 + gN b + 4 := by rw [fgS, if_pos hz]
          have e5 := bare_take b (gK b + 1 + gN b + 4) (by omega) hle (by rw [← e0]; exact hz)
          rw [show gK b + 1 + gN b + 4 - 4 = gK b + 1 + gN b by omega] at e5
          rw [← e0, hz, e5] at hBr
          rw [hz, e2, e3, e4]
          have hXl : (b.take (gK b + 1 + gN b)).length = gK b + 1 + gN b := by rw [List.length_take]; omega
          have hXk : (b.take (gK b + 1 + gN b)).getD (gK b) 0 = b.getD (gK b) 0 := by
            rw [List.getD_eq_getElem?_getD, List.getD_eq_getElem?_getD, List.getElem?_take_of_lt (by omega)]
          have hdl : ((b.take (gK b + 1 + gN b)).drop (gK b + 1)).length = gN b := by rw [List.length_drop, hXl]; omega
          have hsl2 := fun (A2 : Option Addr) c2 W => slice_lo 22 5 Try.underlying22 (i := _) rfl rfl A2 (gK b + 1 + gN b) c2 (gK b + 1) (by omega) W
          rw [show gK b + 1 + gN b - (gK b + 1) = gN b by omega] at hsl2
          have hCl := fun A2 c2 W (h : RdB W A2 c2 ((b.take (gK b + 1 + gN b)).drop (gK b + 1))) => Copied_any A2 c2 _ W h (by rw [hdl]; omega)
          rw [hdl] at hCl
          have HDL := hide hdl
          rw [hdl]
          have hdr := fun A2 c2 W (h : RdB W A2 c2 (b.take (gK b + 1 + gN b))) => h.drop (gK b + 1) (by rw [hXl]; omega)
          have HXL := hide hXl
          have HXK := hide hXk
          clear e0 e2 e3 e4 e5 hz refuse hxs hlen h1 h3 hXl hXk hdl
          generalize (b.take (gK b + 1 + gN b)).drop (gK b + 1) = dx at *
          generalize b.take (gK b + 1 + gN b) = X at *
          generalize gN b = n at *
          generalize gK b = k at *
          generalize b.getD k 0 = x at *
          obtain ⟨k1, hk1e⟩ : ∃ k1, k + 1 = k1 := ⟨_, rfl⟩
          rw [hk1e] at hsl2 hsl hBr hle HXL hdr ⊢
          obtain ⟨t, hte⟩ : ∃ t, k1 + n = t := ⟨_, rfl⟩
          rw [hte] at hsl2 hsl hBr hle HXL ⊢
          obtain ⟨s, hse⟩ : ∃ s, t + 4 = s := ⟨_, rfl⟩
          rw [hse] at hsl hBr hle ⊢
          have a1 : (k : Int) + 1 = (k1 : Int) := by omega
          have a2 : (k1 : Int) + (n : Int) = (t : Int) := by omega
          have a3 : (t : Int) + 4 = (s : Int) := by omega
          have a5 : ¬ (b.length : Int) < (s : Int) := by omega
          have a6 : (k : Int) < (t : Int) := by omega
          have a7 : k < t := by omega
          have hwx : IntKind.i64.wrap (x.toNat : Int) = (x.toNat : Int) := by have := x.toNat_lt; rw [IntKind.wrap_i64]; omega
          have hwk : IntKind.i64.wrap (k1 : Int) = (k1 : Int) := by rw [IntKind.wrap_i64]; omega
          have hkX : Hid (k < X.length) := hide (by rw [HXL.out]; exact a7)
          clear hk1e hte hse
          go_enter Try.func17, Try.ntmps17
          go_wp2_with (first | (go_at_call 30; refine hV.mono ?_; rintro e w1 ⟨rfl, HB1⟩; have R1 := (HB1.block _ hlt).trans R0; replace B0 := B0.trans (HB1.mono B0.size)) | (go_at_call 31; (with_reducible refine (hBr _ B0).mono ?_); rintro e w2 ⟨v2, rfl, HO2, HB2⟩; have R2 := (HB2.block _ (Array.getElem?_eq_some_iff.1 R1).1).trans R1; replace B0 := B0.trans (HB2.mono B0.size); have hne2 := own_ne HO2 R2 (by decide); obtain ⟨g, cap, hv2, hgb, hgl, hcell, hfr, hset⟩ := HO2.set_ k hkX.out; rw [HXL.out] at hv2; subst hv2; rw [HXK.out] at hcell; clear hset))
          have hgw : (⟨g, k, none⟩ : Addr).block ≠ w.heap.size := fun e => hne2 (by rw [← e]; rfl)
          have hS0 : Below w.heap.size w w2.drew ∧ w2.drew.cell? ⟨g, k, none⟩ = some (.int .u8 (x.toNat : Int)) := ⟨B0.drew, hcell⟩
          have hSk : ∀ W, Below w2.heap.size w2 W → Below w.heap.size w W ∧ W.cell? ⟨g, k, none⟩ = some (.int .u8 (x.toNat : Int)) := fun W h => ⟨B0.trans (h.mono B0.size), (h.cell hgl).trans hcell⟩
          have hSt : ∀ (W : World) (u v : Value), Below w.heap.size w W ∧ W.cell? ⟨g, k, none⟩ = some (.int .u8 (x.toNat : Int)) → Below w.heap.size w ((W.setCell ⟨w.heap.size, 0, none⟩ u).setCell ⟨w.heap.size, 1, none⟩ v) ∧ ((W.setCell ⟨w.heap.size, 0, none⟩ u).setCell ⟨w.heap.size, 1, none⟩ v).cell? ⟨g, k, none⟩ = some (.int .u8 (x.toNat : Int)) := fun W u v h =>
            ⟨(h.1.setCell (p := ⟨w.heap.size, 0, none⟩) (Nat.le_refl _) _).setCell (p := ⟨w.heap.size, 1, none⟩) (Nat.le_refl _) _, by
              rw [World.cell?_setCell_other (h := fun e => hgw (congrArg Addr.block e).symm), World.cell?_setCell_other (h := fun e => hgw (congrArg Addr.block e).symm)]
              exact h.2⟩
          go_region_held3 (fun w' => Below w.heap.size w w' ∧ w'.cell? ⟨g, k, none⟩ = some (.int .u8 (x.toNat : Int))) (first | exact hS0 | assumption | exact hSk _ HBt | exact hSt _ _ _ (hSk _ HBt)) (first | (go_at_call 32; (with_reducible refine (hCl _ _ _ ((hdr _ _ _ HO2.rdl).below (Below.refl _ _).drew)).mono ?_); rintro e w3 ⟨v3, rfl, HO3, HB3⟩; have HBt : Below w2.heap.size w2 w3 := (Below.refl _ _).drew.trans HB3; have R3 : w3.heap[w.heap.size]? = some (.cells #[.int .i64 0, .slice none 0 0] 24) := (HB3.block _ (Array.getElem?_eq_some_iff.1 R2).1).trans R2; obtain ⟨k2, k3, k4, k5⟩ := two_read R3; obtain ⟨A3, c3, hv3, hr3⟩ := HO3.rd; rw [HDL.out] at hv3; subst hv3))
          go_wp2
          obtain ⟨r0, r1, _, _⟩ := two_read (two_cells (u := .int .i64 (x.toNat : Int)) (v := .slice A3 n c3) R3)
          have hne : some w.heap.size ≠ (Value.slice A3 n c3).ownBlock := own_ne HO3 R3 (by decide)
          have HO4 := own_setCell (own_setCell HO3 (p := ⟨w.heap.size, 0, none⟩) hne (.int .i64 (x.toNat : Int))) (p := ⟨w.heap.size, 1, none⟩) hne (.slice A3 n c3)
          refine bodyPost_ret (v := .tuple #[.agg #[.int .i64 (x.toNat : Int), .slice A3 n c3], .int .i64 (s : Int), .int .i64 0]) ?_ rfl ⟨A3, c3, rfl, OwB.lower HO4 B0.drew.size, (hSt _ _ _ (hSk _ HBt)).1⟩
          simp [results, Try.results17, go_sem, r0, r1]
        · obtain ⟨r1, r2, r3⟩ := refuse hz
          rw [← e0] at hBr
          rw [r1, r2, r3]
          generalize fgE b = z at *
          clear e0 r1 r2 r3 refuse hxs hlen h1 h3
          generalize gN b = n at *
          generalize gK b = k at *
          obtain ⟨k1, hk1e⟩ : ∃ k1, k + 1 = k1 := ⟨_, rfl⟩
          rw [hk1e] at hsl hBr hle
          obtain ⟨s, hse⟩ : ∃ s, k1 + n + 4 = s := ⟨_, rfl⟩
          rw [hse] at hsl hBr hle
          have a1 : (k : Int) + 1 = (k1 : Int) := by omega
          have a2 : (k1 : Int) + (n : Int) + 4 = (s : Int) := by omega
          have a5 : ¬ (b.length : Int) < (s : Int) := by omega
          clear hk1e hse
          go_enter Try.func17, Try.ntmps17
          go_wp2_with (first | (go_at_call 30; refine hV.mono ?_; rintro e w1 ⟨rfl, HB1⟩; have R1 := (HB1.block _ hlt).trans R0; replace B0 := B0.trans (HB1.mono B0.size)) | (go_at_call 31; (with_reducible refine (hBr _ B0).mono ?_); rintro e w2 ⟨v2, rfl, HO2, HB2⟩; have R2 := (HB2.block _ (Array.getElem?_eq_some_iff.1 R1).1).trans R1; obtain ⟨k0, k1', k2', k3⟩ := two_read R2; replace B0 := B0.trans (HB2.mono B0.size)))
          obtain ⟨r0, r1, _, _⟩ := two_read (two_cells (u := .int .i64 0) (v := .slice none 0 0) R2)
          refine bodyPost_ret (v := .tuple #[.agg #[.int .i64 0, .slice none 0 0], .int .i64 0, .int .i64 z]) ?_ rfl ⟨none, 0, rfl, OwB.zero _ _, (B0.setCell (p := ⟨w.heap.size, 0, none⟩) (Nat.le_refl _) _).setCell (p := ⟨w.heap.size, 1, none⟩) (Nat.le_refl _) _⟩
          simp [results, Try.results17, go_sem, r0, r1]
  · have e1 : fgE b = (getErr b : Int) := by rw [fgE, if_pos h1]
    obtain ⟨r1, r2, r3⟩ := refuse (by rw [e1]; omega)
    rw [e1, r1, r2, r3]
    generalize gN b = n at *
    generalize gK b = k at *
    generalize getErr b = x at *
    have hxi : ¬ (x : Int) = 0 := by omega
    clear e1 r1 r2 r3 refuse h1
    go_enter Try.func17, Try.ntmps17
    go_wp2_with (first | (go_at_call 30; refine hV.mono ?_; rintro e w1 ⟨rfl, HB1⟩; have R1 := (HB1.block _ hlt).trans R0; obtain ⟨k0, k1', k2', k3⟩ := two_read R1; replace B0 := B0.trans (HB1.mono B0.size)))
    obtain ⟨r0, r1, _, _⟩ := two_read (two_cells (u := .int .i64 0) (v := .slice none 0 0) R1)
    refine bodyPost_ret (v := .tuple #[.agg #[.int .i64 0, .slice none 0 0], .int .i64 0, .int .i64 (x : Int)]) ?_ rfl ⟨none, 0, rfl, OwB.zero _ _, (B0.setCell (p := ⟨w.heap.size, 0, none⟩) (Nat.le_refl _) _).setCell (p := ⟨w.heap.size, 1, none⟩) (Nat.le_refl _) _⟩
    simp [results, Try.results17, go_sem, r0, r1]
end Go.Proofs.Ytaonjbpaeloniaa
