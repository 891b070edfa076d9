/- What the law BlockBack reaches besides, and its walk. -/
import Derived.Test.YtfclmkbhfpjhjaaMgA
import Derived.Test.YtfclmkbhfpjhjaaMgB
set_option linter.unusedVariables false
set_option linter.unusedSimpArgs false
section
/- Arguments opened: versions. -/
namespace Go.Proofs.Ytfclmkbhfpjhjaa
open Go.ChangeShapes Go.WideShapes Go.ChangeAt Go.RowKit Go.Proofs.YtfclmkbhfpjhjaaW.PrintWords
set_option maxRecDepth 100000
set_option linter.unusedVariables false
instance : Inhabited Ent := ⟨zEnt⟩
theorem open_ents {H : Type} {enc : TypeId × Value → H} {W : World} {base : Nat} {v : Value} {x : DataW H} {p : List MemPlace} (hv : Value.okWide Try.prog W .any base 22 v)
    (h : DataW.Trod enc Try.prog W 0 (fun _ => true) true 22 v x p) : ∃ A c l, v = .slice A l.length c ∧ RdE W A c l ∧ (∀ B, (∀ y ∈ x.weights Try.prog 22, y ≤ B) → l.length * 48 ≤ B) := by
  have o1 := opens_struct Try.underlying36 (d := kEnt) (by kernel_rfl) (opensF_cons rfl (by kernel_rfl) (opens_string Try.underlying9) (opensF_cons rfl (by kernel_rfl) (opens_int Try.underlying3) (opensF_cons rfl (by kernel_rfl) (opens_int Try.underlying3) (opensF_one rfl (by kernel_rfl) (opens_string Try.underlying9)))))
  have o2 := opens_slice (t := 22) Try.underlying22 (by kernel_rfl) o1
  obtain ⟨A, c, l, hv, hl, hC, hS, hU⟩ := open_slice_of Try.underlying22 o2 hv h
  refine ⟨A, c, l, hv, ⟨hl, hC⟩, fun B hB => ?_⟩
  have h1 := (hS B hB).1
  have e : Try.prog.bytesOf 36 = 48 := by kernel_rfl
  rw [e] at h1
  exact h1
end Go.Proofs.Ytfclmkbhfpjhjaa
end

section
/- The walk of BlockBack. -/
namespace Go.Proofs.Ytfclmkbhfpjhjaa
open Go.RowKit Go.Proofs.YtfclmkbhfpjhjaaW.PrintWords
set_option linter.unusedVariables false

set_option maxRecDepth 100000 in
set_option maxHeartbeats 3200000 in
theorem back_walk (A : Option Addr) (c : Nat) (l : List Ent) (B : Option Addr) (d : Nat) (b : List UInt8) (w : World) (hr : RdE w A c l) (hl : l.length * 48 ≤ 140737488351232) (hb : RdB w B d b) (hbl : b.length ≤ 140737488351232) :
    Calls Try.prog 3 #[.slice A l.length c, .slice B b.length d] w fun e w' => e = .returned (.bool true) ∧ Below w.heap.size w w' := by
  have hE := fun W (h : RdE W A c l) => Encode_any A c l.length l W rfl h (by omega)
  have hD2 := fun W (h : RdB W B d b) => Decode_any B d b.length b W rfl h (by omega)
  have hun := un_ok b
  have hlu : (unL b).length ≤ 65 := by
    unfold unL
    split
    · exact toldE_len _
    · simp
  have hE2 := fun A c W (h : RdE W A c (unL b)) => Encode_any A c (unL b).length (unL b) W rfl h (by omega)
  have hQ2 := fun A B c d W (h : RdB W A c b) (h' : RdB W B d b) => SameBytes_at A B c d _ _ b b W rfl rfl h h'
  simp only [decide_true] at hQ2
  have hS := fun A B c d W (h : RdE W A c l) (h' : RdE W B d l) => SameE_any A B c d l.length l W rfl h h' (by omega)
  have hX := un_blk l
  obtain ⟨n, hn⟩ : ∃ n, l.length = n := ⟨_, rfl⟩
  obtain ⟨m, hm⟩ : ∃ m, b.length = m := ⟨_, rfl⟩
  have HN := hide hn
  have HM := hide hm
  rw [hn] at hE hS hl ⊢
  rw [hm] at hD2 hQ2 hbl ⊢
  obtain ⟨nu, hnu⟩ : ∃ nu, (unL b).length = nu := ⟨_, rfl⟩
  have HNU := hide hnu
  rw [hnu] at hE2
  by_cases h1 : chkE l = 0
  · obtain ⟨x1, x2⟩ := hX h1
    have hxl : (blkX l).length ≤ 140737488351232 := by
      have h2 := entsB_length l (chkE_ok l h1).2.2 l.length (Nat.le_refl _)
      have h3 := tailB_length l l.length
      have h4 := (chkE_ok l h1).2.1
      rw [blkX, if_pos h1, guarded_length, blkB, List.length_append, List.length_append, List.length_singleton]
      omega
    have hD := fun A c W (h : RdB W A c (blkX l)) => Decode_any A c (blkX l).length (blkX l) W rfl h (by omega)
    rw [h1] at hE
    rw [x1, x2] at hD
    generalize blkX l = X at *
    obtain ⟨nx, hnx⟩ : ∃ nx, X.length = nx := ⟨_, rfl⟩
    have HNX := hide hnx
    rw [hnx] at hD
    by_cases h2 : unE b = 0
    · obtain ⟨y1, y2⟩ := hun h2
      rw [h2] at hD2
      rw [y1, y2] at hE2
      generalize unL b = U at *
      clear hX hun h1 h2 x1 x2 y1 y2 hn hm hnu hnx hxl hlu
      go_enter Try.func3, Try.ntmps3
      go_wp2_with (first | (go_at_call 9; refine (alive_any _).mono ?_; rintro e w1 ⟨rfl, HB1⟩) | (go_at_call 11; refine (num_any _ _).mono ?_; rintro e w' ⟨rfl, rfl⟩) | (go_at_call 10; first | ((with_reducible refine (hE _ (hr.below HB1)).mono ?_); rintro e w2 ⟨v2, rfl, HO2, HB2⟩; obtain ⟨A2, c2, hv2, hr2⟩ := HO2.rd; rw [HNX.out] at hv2; subst hv2; have HC2 := HB1.trans (HB2.mono HB1.size)) | ((with_reducible refine (hE2 _ _ _ hr5).mono ?_); rintro e w6 ⟨v6, rfl, HO6, HB6⟩; obtain ⟨A6, c6, hv6, hr6⟩ := HO6.rd; rw [HM.out] at hv6; subst hv6; have HC6 := HC5.trans (HB6.mono HC5.size))) | (go_at_call 12; first | ((with_reducible refine (hD _ _ _ hr2).mono ?_); rintro e w3 ⟨v3, rfl, HO3, HB3⟩; obtain ⟨A3, c3, hv3, hr3⟩ := HO3.rd; rw [HN.out] at hv3; subst hv3; have HC3 := HC2.trans (HB3.mono HC2.size)) | ((with_reducible refine (hD2 _ (hb.below HC4)).mono ?_); rintro e w5 ⟨v5, rfl, HO5, HB5⟩; obtain ⟨A5, c5, hv5, hr5⟩ := HO5.rd; rw [HNU.out] at hv5; subst hv5; have HC5 := HC4.trans (HB5.mono HC4.size))) | (go_at_call 13; (with_reducible refine (hS _ _ _ _ _ hr3 (hr.below HC3)).mono ?_); rintro e w4 ⟨rfl, HB4⟩; have HC4 := HC3.trans (HB4.mono HC3.size)) | (go_at_call 14; (with_reducible refine (hQ2 _ _ _ _ _ hr6 (hb.below HC6)).mono ?_); rintro e w7 ⟨rfl, rfl⟩))
      go_ret
      exact ⟨rfl, HC6⟩
    · have hu0 : unL b = [] := by rw [unL, if_neg h2]
      rw [hu0] at hnu
      have hnu0 : nu = 0 := by rw [← hnu]; rfl
      subst hnu0
      generalize unE b = z at *
      generalize unL b = U at *
      clear hX hun h1 x1 x2 hn hm hnu hnx hxl hlu
      go_enter Try.func3, Try.ntmps3
      go_wp2_with (first | (go_at_call 9; refine (alive_any _).mono ?_; rintro e w1 ⟨rfl, HB1⟩) | (go_at_call 11; refine (num_any _ _).mono ?_; rintro e w' ⟨rfl, rfl⟩) | (go_at_call 10; first | ((with_reducible refine (hE _ (hr.below HB1)).mono ?_); rintro e w2 ⟨v2, rfl, HO2, HB2⟩; obtain ⟨A2, c2, hv2, hr2⟩ := HO2.rd; rw [HNX.out] at hv2; subst hv2; have HC2 := HB1.trans (HB2.mono HB1.size)) | fail) | (go_at_call 12; first | ((with_reducible refine (hD _ _ _ hr2).mono ?_); rintro e w3 ⟨v3, rfl, HO3, HB3⟩; obtain ⟨A3, c3, hv3, hr3⟩ := HO3.rd; rw [HN.out] at hv3; subst hv3; have HC3 := HC2.trans (HB3.mono HC2.size)) | ((with_reducible refine (hD2 _ (hb.below HC4)).mono ?_); rintro e w5 ⟨v5, rfl, HO5, HB5⟩; obtain ⟨A5, c5, hv5, hr5⟩ := HO5.rd; rw [HNU.out] at hv5; subst hv5; have HC5 := HC4.trans (HB5.mono HC4.size))) | (go_at_call 13; (with_reducible refine (hS _ _ _ _ _ hr3 (hr.below HC3)).mono ?_); rintro e w4 ⟨rfl, HB4⟩; have HC4 := HC3.trans (HB4.mono HC3.size)))
      go_ret
      exact ⟨by simp, HC5⟩
  · obtain ⟨nx, hnx⟩ : ∃ nx, (blkX l).length = nx := ⟨_, rfl⟩
    generalize blkX l = X at *
    generalize chkE l = z1 at *
    by_cases h2 : unE b = 0
    · obtain ⟨y1, y2⟩ := hun h2
      rw [h2] at hD2
      rw [y1, y2] at hE2
      generalize unL b = U at *
      clear hX hun h2 y1 y2 hn hm hnu hlu
      go_enter Try.func3, Try.ntmps3
      go_wp2_with (first | (go_at_call 9; refine (alive_any _).mono ?_; rintro e w1 ⟨rfl, HB1⟩) | (go_at_call 11; refine (num_any _ _).mono ?_; rintro e w' ⟨rfl, rfl⟩) | (go_at_call 10; first | ((with_reducible refine (hE _ (hr.below HB1)).mono ?_); rintro e w2 ⟨v2, rfl, HO2, HB2⟩; obtain ⟨A2, c2, hv2, hr2⟩ := HO2.rd;  subst hv2; have HC2 := HB1.trans (HB2.mono HB1.size)) | ((with_reducible refine (hE2 _ _ _ hr5).mono ?_); rintro e w6 ⟨v6, rfl, HO6, HB6⟩; obtain ⟨A6, c6, hv6, hr6⟩ := HO6.rd; rw [HM.out] at hv6; subst hv6; have HC6 := HC5.trans (HB6.mono HC5.size))) | (go_at_call 12; first | ((with_reducible refine (hD2 _ (hb.below HC2)).mono ?_); rintro e w5 ⟨v5, rfl, HO5, HB5⟩; obtain ⟨A5, c5, hv5, hr5⟩ := HO5.rd; rw [HNU.out] at hv5; subst hv5; have HC5 := HC2.trans (HB5.mono HC2.size))) | (go_at_call 14; (with_reducible refine (hQ2 _ _ _ _ _ hr6 (hb.below HC6)).mono ?_); rintro e w7 ⟨rfl, rfl⟩))
      go_ret
      exact ⟨rfl, HC6⟩
    · have hu0 : unL b = [] := by rw [unL, if_neg h2]
      rw [hu0] at hnu
      have hnu0 : nu = 0 := by rw [← hnu]; rfl
      subst hnu0
      generalize unE b = z at *
      generalize unL b = U at *
      clear hX hun hn hm hnu hlu
      go_enter Try.func3, Try.ntmps3
      go_wp2_with (first | (go_at_call 9; refine (alive_any _).mono ?_; rintro e w1 ⟨rfl, HB1⟩) | (go_at_call 11; refine (num_any _ _).mono ?_; rintro e w' ⟨rfl, rfl⟩) | (go_at_call 10; first | ((with_reducible refine (hE _ (hr.below HB1)).mono ?_); rintro e w2 ⟨v2, rfl, HO2, HB2⟩; obtain ⟨A2, c2, hv2, hr2⟩ := HO2.rd;  subst hv2; have HC2 := HB1.trans (HB2.mono HB1.size)) | fail) | (go_at_call 12; first | ((with_reducible refine (hD2 _ (hb.below HC2)).mono ?_); rintro e w5 ⟨v5, rfl, HO5, HB5⟩; obtain ⟨A5, c5, hv5, hr5⟩ := HO5.rd; rw [HNU.out] at hv5; subst hv5; have HC5 := HC2.trans (HB5.mono HC2.size))))
      go_ret
      exact ⟨by simp, HC5⟩
end Go.Proofs.Ytfclmkbhfpjhjaa
end
