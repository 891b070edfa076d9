/- What the law TableRot reaches besides, and its walk. -/
import Derived.Test.YtefcepjffeiaoaaMgA
import Derived.Test.YtefcepjffeiaoaaMgC
set_option linter.unusedVariables false
set_option linter.unusedSimpArgs false
section
/- Arguments opened: versions. -/
namespace Go.Proofs.Ytefcepjffeiaoaa
open Go.ChangeShapes Go.WideShapes Go.ChangeAt Go.RowKit Go.Proofs.YtefcepjffeiaoaaW.PrintWords
set_option maxRecDepth 100000
set_option linter.unusedVariables false
instance : Inhabited Ent := ⟨zEnt⟩
theorem open_ents {H : Type} {enc : TypeId × Value → H} {W : World} {base : Nat} {v : Value} {x : DataW H} {p : List MemPlace} (hv : Value.okWide Try.prog W .any base 22 v)
    (h : DataW.Trod enc Try.prog W 0 (fun _ => true) true 22 v x p) : ∃ A c l, v = .slice A l.length c ∧ RdE W A c l ∧ (∀ B, (∀ y ∈ x.weights Try.prog 22, y ≤ B) → l.length * 48 ≤ B) := by
  have o1 := opens_struct Try.underlying43 (d := kEnt) (by kernel_rfl) (opensF_cons rfl (by kernel_rfl) (opens_string Try.underlying9) (opensF_cons rfl (by kernel_rfl) (opens_int Try.underlying3) (opensF_cons rfl (by kernel_rfl) (opens_int Try.underlying3) (opensF_one rfl (by kernel_rfl) (opens_string Try.underlying9)))))
  have o2 := opens_slice (t := 22) Try.underlying22 (by kernel_rfl) o1
  obtain ⟨A, c, l, hv, hl, hC, hS, hU⟩ := open_slice_of Try.underlying22 o2 hv h
  refine ⟨A, c, l, hv, ⟨hl, hC⟩, fun B hB => ?_⟩
  have h1 := (hS B hB).1
  have e : Try.prog.bytesOf 43 = 48 := by kernel_rfl
  rw [e] at h1
  exact h1
end Go.Proofs.Ytefcepjffeiaoaa
end

section
/- The walk of TableRot. -/
namespace Go.Proofs.Ytefcepjffeiaoaa
open Go.RowKit Go.Proofs.YtefcepjffeiaoaaW.PrintWords
set_option linter.unusedVariables false

theorem blk_index (n : Nat) (hn : 0 < n) (hn2 : n ≤ 3000000) (at_ : Int) : ∃ j : Nat, j < n ∧ (wrap64 (at_.tmod (n : Int) + (n : Int))).tmod (n : Int) = (j : Int) := by
  have hp : 0 < (n : Int) := by omega
  have t1 := Int.tmod_lt_of_pos at_ hp
  have t2 := Int.lt_tmod_of_pos at_ hp
  have hw : wrap64 (at_.tmod (n : Int) + (n : Int)) = at_.tmod (n : Int) + (n : Int) := by
    unfold wrap64
    omega
  rw [hw]
  have t3 := Int.tmod_lt_of_pos (at_.tmod (n : Int) + (n : Int)) hp
  have t4 := Int.tmod_nonneg (n : Int) (a := at_.tmod (n : Int) + (n : Int)) (by omega)
  exact ⟨((at_.tmod (n : Int) + (n : Int)).tmod (n : Int)).toNat, by omega, by omega⟩
set_option maxRecDepth 100000 in
set_option maxHeartbeats 3200000 in
theorem rot_walk (A : Option Addr) (c : Nat) (l : List Ent) (at0 e0 : Int) (w : World) (hr : RdE w A c l) (hl : l.length * 48 ≤ 140737488351232) (hat : (Lit.int .i64 at0).wf = true) (he : (Lit.int .u8 e0).wf = true) :
    Calls Try.prog 5 #[.slice A l.length c, .int .i64 at0, .int .u8 e0] w fun e w' => e = .returned (.bool true) ∧ Below w.heap.size w w' := by
  have hE := fun W (h : RdE W A c l) => Build_any A c l.length l W rfl h (by omega)
  obtain ⟨n, hn⟩ : ∃ n, l.length = n := ⟨_, rfl⟩
  rw [hn] at hE hl ⊢
  obtain ⟨x, rfl⟩ : ∃ x : UInt8, (x.toNat : Int) = e0 := ⟨UInt8.ofNat e0.toNat, by
    have : 0 ≤ e0 ∧ e0 ≤ 255 := by simpa [Lit.wf, IntKind.min, IntKind.max, IntKind.signed, IntKind.bits] using he
    simp only [UInt8.toNat_ofNat']
    omega⟩
  clear hat he hn
  by_cases h1 : tabE l = 0
  · obtain ⟨s1, s2⟩ := tabX_size l h1
    have hrot := tab_rot l h1
    rw [h1] at hE
    generalize tabX l = X at *
    obtain ⟨m, hm⟩ : ∃ m, X.length = m := ⟨_, rfl⟩
    have HM := hide hm
    rw [hm] at s1 s2 hrot
    by_cases hx0 : x = 0
    · subst hx0
      have z0 : ((0 : UInt8).toNat : Int) = 0 := rfl
      rw [z0]
      clear hrot
      go_enter Try.func5, Try.ntmps5
      go_wp2_with (first | (go_at_call 21; refine (alive_any _).mono ?_; rintro e w1 ⟨rfl, HB1⟩) | (go_at_call 18; refine (num_any _ _).mono ?_; rintro e w' ⟨rfl, rfl⟩) | (go_at_call 11; (with_reducible refine (hE _ (hr.below HB1)).mono ?_); rintro e w2 ⟨v2, rfl, HO2, HB2⟩; have HC2 := HB1.trans (HB2.mono HB1.size); obtain ⟨A2, c2, hv2, hr2⟩ := HO2.rd; rw [HM.out] at hv2; subst hv2))
      go_ret
      exact ⟨rfl, HC2⟩
    · obtain ⟨j, hj, hje⟩ := blk_index m s2 (by omega) at0
      have hxi : ¬ (x.toNat : Int) = 0 := fun h => hx0 (UInt8.toNat_inj.1 (by simpa using Int.ofNat_eq_zero.1 h))
      have hxn : ¬ x.toNat = 0 := fun h => hx0 (UInt8.toNat_inj.1 (by simpa using h))
      have hxb : ((x.toNat : Int) == 0) = false := beq_eq_false_iff_ne.2 hxi
      have hmn : ¬ m = 0 := by omega
      have hji : (j : Int) < (m : Int) := by omega
      have r1 := hrot j hj x hx0
      have ne0 : ¬ openE (X.set j (X.getD j 0 ^^^ x)) = 0 := by rw [r1]; decide
      have r2 : openL (X.set j (X.getD j 0 ^^^ x)) = [] := by rw [openL, if_neg ne0]
      have r3 : openK (X.set j (X.getD j 0 ^^^ x)) = 0 := by rw [openK, if_neg ne0]
      have r4 : openX (X.set j (X.getD j 0 ^^^ x)) = [] := by rw [openX, if_neg ne0]
      have HX := hide (xor_u8 (X.getD j 0) x)
      have hD := fun A c W (h : RdB W A c (X.set j (X.getD j 0 ^^^ x))) => Open_any A c m (X.set j (X.getD j 0 ^^^ x)) W (by rw [List.length_set, HM.out]) h (by omega)
      rw [r1, r2, r3, r4] at hD
      unfold tabV at hD
      clear hrot r1 r2 r3 r4 ne0 hm
      go_enter Try.func5, Try.ntmps5
      go_wp2_with (first | (go_at_call 21; refine (alive_any _).mono ?_; rintro e w1 ⟨rfl, HB1⟩) | (go_at_call 18; refine (num_any _ _).mono ?_; rintro e w' ⟨rfl, rfl⟩) | (go_at_call 11; (with_reducible refine (hE _ (hr.below HB1)).mono ?_); rintro e w2 ⟨v2, rfl, HO2, HB2⟩; have HC2 := HB1.trans (HB2.mono HB1.size); obtain ⟨g, cg, hv2, hgb, hgl, hcell, hfr, hset⟩ := HO2.set_ j (by rw [HM.out]; exact hj); rw [HM.out] at hv2; subst hv2; obtain ⟨HS, HG⟩ := hset (X.getD j 0 ^^^ x); have HHS := hide HS; clear HS HG hset; have hgw : w.heap.size ≤ g := Nat.le_trans HB1.size hgb; generalize X.getD j 0 = y at *) | (go_at_call 13; rw [HX.out]; (with_reducible refine (hD _ _ _ HHS.out.rdl).mono ?_); rintro e w3 ⟨A3, c3, A4, c4, rfl, HO3, HO4, HB3⟩; have B1 := (HC2.setCell (p := ⟨g, j, none⟩) hgw (.int .u8 ((y ^^^ x).toNat : Int))); have b4 := below_alloc w3 (.cells #[.slice A3 0 c3, .int .i64 0, .slice A4 0 c4] 34); have B3 := stp (B1.trans (HB3.mono B1.size)) b4; have hT1 := heap_alloc_new w3 (.cells #[.slice A3 0 c3, .int .i64 0, .slice A4 0 c4] 34); have y0 := blk_cell hT1 0))
      go_ret
      exact ⟨rfl, B3⟩
  · have hxe : tabX l = [] := by rw [tabX, if_neg h1]
    rw [hxe] at hE
    generalize tabE l = z at *
    by_cases hz : z = 0
    · exact absurd hz h1
    go_enter Try.func5, Try.ntmps5
    go_wp2_with (first | (go_at_call 21; refine (alive_any _).mono ?_; rintro e w1 ⟨rfl, HB1⟩) | (go_at_call 18; refine (num_any _ _).mono ?_; rintro e w' ⟨rfl, rfl⟩) | (go_at_call 11; (with_reducible refine (hE _ (hr.below HB1)).mono ?_); rintro e w2 ⟨v2, rfl, HO2, HB2⟩; have HC2 := HB1.trans (HB2.mono HB1.size); obtain ⟨A2, c2, hv2, hr2⟩ := HO2.rd; subst hv2))
    all_goals go_ret
    all_goals exact ⟨by simp, HC2⟩
end Go.Proofs.Ytefcepjffeiaoaa
end
