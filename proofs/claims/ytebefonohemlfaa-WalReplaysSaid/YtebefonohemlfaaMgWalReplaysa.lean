/- What the law WalReplays reaches besides, and its walk. -/
import Derived.Test.YtebefonohemlfaaMgA
import Derived.Test.YtebefonohemlfaaMgB
set_option linter.unusedVariables false
set_option linter.unusedSimpArgs false
section
/- Arguments opened: a batch; batches. -/
namespace Go.Proofs.Ytebefonohemlfaa
open Go.ChangeShapes Go.WideShapes Go.ChangeAt Go.RowKit Go.Proofs.YtebefonohemlfaaW.PrintWords
set_option maxRecDepth 100000
set_option linter.unusedVariables false
set_option maxRecDepth 100000 in
theorem open_bat {H : Type} {enc : TypeId × Value → H} {W : World} {base : Nat} {v : Value} {x : DataW H} {p : List MemPlace} (hv : Value.okWide Try.prog W .any base 24 v)
    (h : DataW.Trod enc Try.prog W 0 (fun _ => true) true 24 v x p) : ∃ q A c l, v = .agg #[.int .i64 q, .slice A l.length c] ∧ RdC W A c l ∧ (∀ B, (∀ y ∈ x.weights Try.prog 24, y ≤ B) → (Lit.int .i64 q).wf = true ∧ l.length * 40 ≤ B) ∧ l.length ≤ Rows.uptoBulk x := by
  have o1 := opens_struct Try.underlying35 (d := kChg) (by kernel_rfl) (opensF_cons rfl (by kernel_rfl) (opens_string Try.underlying9) (opensF_cons rfl (by kernel_rfl) (opens_bool Try.underlying4) (opensF_one rfl (by kernel_rfl) (opens_string Try.underlying9))))
  have o2 := opens_slice (t := 22) Try.underlying22 (by kernel_rfl) o1
  have o3 := opens_struct Try.underlying24 (d := kBat) (by kernel_rfl) (opensF_cons rfl (by kernel_rfl) (opens_int Try.underlying3) (opensF_one rfl (by kernel_rfl) o2))
  obtain ⟨⟨q, l⟩, cs, hv, hk, hS, hU⟩ := open_struct_of Try.underlying24 o3 hv h
  obtain ⟨A, c, hcs, hr⟩ := kBat_K hk
  refine ⟨q, A, c, l, ?_, hr, fun B hB => ?_, ?_⟩
  · rw [hv]
    congr 1
    apply Array.ext'
    exact hcs
  · obtain ⟨h1, h2, h3⟩ := hS B hB
    have e : Try.prog.bytesOf 35 = 40 := by kernel_rfl
    rw [e] at h2
    exact ⟨h1, h2⟩
  · have h1 : ∀ m : List Chg, m.length ≤ (m.map fun a : Chg => a.1.size + 1 + (1 + (a.2.2.size + 1)) + 1).sum := by
      intro m
      induction m with
      | nil => simp
      | cons y r ih => simp only [List.length_cons, List.map_cons, List.sum_cons]; omega
    have h2 := h1 l
    simp only at hU
    omega
end Go.Proofs.Ytebefonohemlfaa
end

section
/- Arguments opened: batches. -/
namespace Go.Proofs.Ytebefonohemlfaa
open Go.ChangeShapes Go.WideShapes Go.ChangeAt Go.RowKit Go.Proofs.YtebefonohemlfaaW.PrintWords
set_option maxRecDepth 100000
set_option linter.unusedVariables false
instance : Inhabited Bat := ⟨zBat⟩
theorem open_bats {H : Type} {enc : TypeId × Value → H} {W : World} {base : Nat} {v : Value} {x : DataW H} {p : List MemPlace} (hv : Value.okWide Try.prog W .any base 56 v)
    (h : DataW.Trod enc Try.prog W 0 (fun _ => true) true 56 v x p) : ∃ A c l, v = .slice A l.length c ∧ RdBt W A c l ∧ (∀ B, (∀ y ∈ x.weights Try.prog 56, y ≤ B) → ∀ b ∈ l, b.2.length * 40 ≤ B) := by
  have o1 := opens_struct Try.underlying35 (d := kChg) (by kernel_rfl) (opensF_cons rfl (by kernel_rfl) (opens_string Try.underlying9) (opensF_cons rfl (by kernel_rfl) (opens_bool Try.underlying4) (opensF_one rfl (by kernel_rfl) (opens_string Try.underlying9))))
  have o2 := opens_slice (t := 22) Try.underlying22 (by kernel_rfl) o1
  have o3 := opens_struct Try.underlying24 (d := kBat) (by kernel_rfl) (opensF_cons rfl (by kernel_rfl) (opens_int Try.underlying3) (opensF_one rfl (by kernel_rfl) o2))
  have o4 := opens_slice (t := 56) Try.underlying56 (by kernel_rfl) o3
  obtain ⟨A, c, l, hv, hl, hC, hS, hU⟩ := open_slice_of Try.underlying56 o4 hv h
  refine ⟨A, c, l, hv, ⟨hl, hC⟩, fun B hB b hb => ?_⟩
  obtain ⟨h1, h2, h3⟩ := (hS B hB).2 b hb
  have e : Try.prog.bytesOf 35 = 40 := by kernel_rfl
  rw [e] at h2
  exact h2
end Go.Proofs.Ytebefonohemlfaa
end

section
/- The walk of WalReplays. -/
namespace Go.Proofs.Ytebefonohemlfaa
open Go.RowKit Go.Proofs.YtebefonohemlfaaW.PrintWords
set_option linter.unusedVariables false

theorem cut_at (a : Int) (L : Nat) (hL : L ≤ 1400000) : ∃ p : Nat, p ≤ L ∧ (wrap64 (wrap64 (a.tmod ((L : Int) + 1) + (L : Int)) + 1)).tmod ((L : Int) + 1) = (p : Int) := by
  have h1 : a.tmod ((L : Int) + 1) < (L : Int) + 1 := Int.tmod_lt_of_pos a (by omega)
  have h2 : -((L : Int) + 1) < a.tmod ((L : Int) + 1) := Int.lt_tmod_of_pos a (by omega)
  generalize a.tmod ((L : Int) + 1) = t at *
  have e1 : wrap64 (t + (L : Int)) = t + (L : Int) := by unfold wrap64; omega
  have e2 : wrap64 (t + (L : Int) + 1) = t + (L : Int) + 1 := by unfold wrap64; omega
  rw [e1, e2, Int.tmod_eq_emod_of_nonneg (by omega)]
  have h3 := Int.emod_nonneg (t + (L : Int) + 1) (show (L : Int) + 1 ≠ 0 by omega)
  have h4 := Int.emod_lt_of_pos (t + (L : Int) + 1) (show 0 < (L : Int) + 1 by omega)
  exact ⟨((t + (L : Int) + 1) % ((L : Int) + 1)).toNat, by omega, by omega⟩
set_option maxRecDepth 100000 in
set_option maxHeartbeats 3200000 in
theorem replays_walk (A : Option Addr) (ca : Nat) (l : List Bat) (at0 : Int) (w : World) (hx : RdBt w A ca l) (hll : ∀ b ∈ l, b.2.length * 40 ≤ 140737488351232) (hat : (Lit.int .i64 at0).wf = true) :
    Calls Try.prog 7 #[.slice A l.length ca, .int .i64 at0] w fun e w' => e = .returned (.bool true) ∧ Below w.heap.size w w' := by
  obtain ⟨a1, a2⟩ := i64_of at0 hat
  have hCh := chain_any A ca l w hx hll
  have hok := chS_ok l
  obtain ⟨n, hn⟩ : ∃ n, l.length = n := ⟨_, rfl⟩
  rw [hn] at hCh ⊢
  have HOK := hide hok
  clear hat hn hll hok
  go_enter Try.func7, Try.ntmps7
  go_wp2_with (first | (go_at_call 25; (with_reducible refine hCh.mono ?_); rintro e w1 ⟨k, v, al, en, hk20, rfl, HO1, HO2, HO3, HB⟩))
  obtain ⟨i1, -, i3, i4, -, -⟩ := HOK.out k
  generalize (chS l k).2 = G at *
  have hall := rpl_all G i1 i3
  have hcut := rpl_cut G i1 i3
  have hCL := catB_len G
  have hEL := endsB_length G
  have hEG := endsB_get G
  have hEF := endB_le G
  have hE0 : endB G 0 = 0 := by rw [catB_take]; rfl
  have hG64 : ∀ b ∈ G, b.2.length ≤ 9223372036854775806 := fun b hb => by have := chkB_len _ _ (i3 b hb); omega
  have hSc := fun A c W (h : RdB W A c (catB G)) => Replay_any A c (catB G) W h (by omega)
  rw [hall] at hSc
  have hSA := fun A B c c' (R : List Bat) W (h : RdBt W A c R) (h' : RdBt W B c' R) (hl : R.length ≤ 9223372036854775806) (hb : ∀ b ∈ R, b.2.length ≤ 9223372036854775806) => sameAll_any A B c c' R.length R W rfl h h' hl hb
  have hSc2 := fun (xs : List UInt8) A c W (h : RdB W A c xs) (hl : xs.length ≤ 1400000) => Replay_any A c xs W h (by omega)
  obtain ⟨A6, c6, hv6, hr6⟩ := HO1.rd
  obtain ⟨A7, c7, hv7, hr7⟩ := HO2.rd
  obtain ⟨A8, c8, hv8, hr8⟩ := HO3.rd
  rw [hEL] at hv7
  obtain ⟨L, hL⟩ : ∃ L, (catB G).length = L := ⟨_, rfl⟩
  obtain ⟨N, hNN⟩ : ∃ N, G.length = N := ⟨_, rfl⟩
  have HL := hide hL
  have HNN := hide hNN
  have HEL := hide hEL
  rw [hL] at hv6 hSc hCL hEF
  rw [hNN] at hv7 hv8 i4 hCL hcut
  subst hv6
  subst hv7
  subst hv8
  have hGr := bfix_rd hr8 HB
  have hLl : L ≤ 1400000 := by omega
  have HCUT := hide hcut
  have HEF := hide hEF
  have HEG := hide hEG
  have HE0 := hide hE0
  have HG64 := hide hG64
  have hNl : N ≤ 20 := by omega
  clear hall hcut hEL hEG hEF hL hNN hx HO1 HO2 HO3 hE0 hG64 i1 i3 i4 hCh HOK hCL
  go_wp2_with (first | (go_at_call 9; refine (alive_any _).mono ?_; rintro e w2 ⟨rfl, HB2⟩; replace HB := HB.trans (HB2.mono HB.size); replace hr6 := hr6.below HB2; replace hr7 := hr7.below HB2; replace hGr := hGr.below HB2) | (go_at_call 22; (with_reducible refine (hSc _ _ _ hr6).mono ?_); rintro e w1 ⟨v1, rfl, HO9, HB9⟩; obtain ⟨A9, c9, hv9, hr9⟩ := HO9.rd; rw [HNN.out] at hv9; subst hv9; replace HB := HB.trans (HB9.mono HB.size); replace hr6 := hr6.below HB9; replace hr7 := hr7.below HB9; replace hGr := hGr.below HB9) | (go_at_call 24; rw [← HNN.out]; (with_reducible refine (hSA _ _ _ _ G _ hr9 hGr (by rw [HNN.out]; omega) HG64.out).mono ?_); rintro e w2 ⟨rfl, HB10⟩; replace HB := HB.trans (HB10.mono HB.size); replace hr6 := hr6.below HB10; replace hr7 := hr7.below HB10; replace hGr := hGr.below HB10; rw [HNN.out]))
  obtain ⟨p, hpL, hpe⟩ := cut_at at0 L hLl
  rw [hpe]
  clear hpe a1 a2 hr8 hSc
  go_loopw [11, 12, 13] (fun kk ee j wr2 => ∃ jj q : Nat, jj ≤ N ∧ q ≤ jj ∧ j = .int .i64 (jj : Int) ∧ kk = .int .i64 (q : Int) ∧ ee = .int .i64 (endB G q : Int) ∧ endB G q ≤ p ∧ (∀ i, q < i → i ≤ jj → p < endB G i) ∧ Below w.heap.size w wr2 ∧ RdB wr2 A6 c6 (catB G) ∧ Rd kInt wr2 A7 c7 (endsB G) ∧ RdBt wr2 A8 c8 G) (fun _ _ j _ => N - (intOf j).toNat)
  case atStart => exact ⟨0, 0, by omega, by omega, rfl, rfl, by rw [HE0.out]; rfl, by rw [HE0.out]; omega, fun i h1 h2 => by omega, HB, hr6, hr7, hGr⟩
  case round =>
    obtain ⟨jj, q, hjN, hqj, rfl, rfl, rfl, hqp, hqa, HB3, hr63, hr73, hGr3⟩ := hrel
    by_cases hlt : jj < N
    · obtain ⟨ad7, rfl, hc7⟩ := hr73.int_at jj (by rw [HEL.out, HNN.out]; exact hlt)
      rw [HEG.out jj (by rw [HNN.out]; exact hlt)] at hc7
      have HQA := hide hqa
      have hlti : (jj : Int) < (N : Int) := by omega
      obtain ⟨E, hE⟩ : ∃ E, endB G (jj + 1) = E := ⟨_, rfl⟩
      rw [hE] at hc7
      have HE := hide hE
      have HQ := hide hqp
      clear hE hqa hqp
      by_cases hle : E ≤ p
      · have hlei : (E : Int) ≤ (p : Int) := by omega
        go_wp2
        go_region
        all_goals go_wp2
        all_goals go_roundw
        case rel => exact ⟨jj + 1, jj + 1, by omega, by omega, by go_num, by go_num, by rw [HE.out], by rw [HE.out]; exact hle, fun i h1 h2 => by omega, HB3.drew, hr63.below (Below.refl _ _).drew, hr73.below (Below.refl _ _).drew, hGr3.below (Below.refl _ _).drew⟩
        case measure => simp [intOf]; omega
      · have hlei : ¬ (E : Int) ≤ (p : Int) := by omega
        go_wp2
        go_roundw
        case rel =>
          refine ⟨jj + 1, q, by omega, by omega, by go_num, rfl, rfl, HQ.out, fun i h1 h2 => ?_, HB3, hr63, hr73, hGr3⟩
          rcases Nat.lt_or_ge i (jj + 1) with h3 | h3
          · exact HQA.out i h1 (by omega)
          · obtain rfl : i = jj + 1 := by omega
            rw [HE.out]; omega
        case measure => simp [intOf]; omega
    · obtain rfl : jj = N := by omega
      have hc := HCUT.out p q hqj hqp (fun h => hqa (q + 1) (by omega) (by omega))
      have hsl := fun W => slice_hi 39 5 Try.underlying39 (i := _) rfl rfl A6 L c6 p (by have := hr63.le; rw [HL.out] at this; omega) W
      have hsg := fun W => sliceK_hi 56 24 Try.underlying56 (i := _) rfl A8 jj c8 q (by have := hGr3.1; rw [HNN.out] at this; omega) W
      have htl : ((catB G).take p).length = p := by rw [List.length_take, HL.out]; omega
      have hgl : (G.take q).length = q := by rw [List.length_take, HNN.out]; omega
      have hS := fun W (h : RdB W A6 c6 ((catB G).take p)) => hSc2 ((catB G).take p) A6 c6 W h (by rw [htl]; omega)
      have hT := fun A c W (h : RdBt W A c (G.take q)) (h' : RdBt W A8 c8 (G.take q)) => hSA A A8 c c8 (G.take q) W h h' (by rw [hgl]; omega) (fun b hb => HG64.out b (List.mem_of_mem_take hb))
      have htk := hr63.take p (by rw [HL.out]; exact hpL)
      have hgk := hGr3.take q (by rw [HNN.out]; exact hqj)
      rw [htl, hc] at hS
      rw [hgl] at hT
      have HGL := hide hgl
      clear hc hgl htl hqa hqp hSc2 hSA
      generalize G.take q = Gq at *
      generalize (catB G).take p = Bp at *
      generalize endB G q = Eq at *
      go_wp2_with (first | (go_at_call 22; (with_reducible refine (hS _ htk).mono ?_); rintro e w5 ⟨v5, rfl, HO5, HB5⟩; obtain ⟨A5, c5, hv5, hr5⟩ := HO5.rd; rw [HGL.out] at hv5; subst hv5; replace hgk := hgk.below HB5; replace HB3 := HB3.trans (HB5.mono HB3.size)) | (go_at_call 24; (with_reducible refine (hT _ _ _ hr5 hgk).mono ?_); rintro e w6 ⟨rfl, HB6⟩; replace HB3 := HB3.trans (HB6.mono HB3.size)))
      go_ret
      exact ⟨by simp, HB3⟩
end Go.Proofs.Ytebefonohemlfaa
end
