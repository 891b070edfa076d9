/- The walk of FrameRot. -/
import Derived.Test.YtaonjbpaeloniaaFrD
namespace Go.Proofs.Ytaonjbpaeloniaa
open Go.RowKit Go.Proofs.YtaonjbpaeloniaaW.PrintWords
set_option linter.unusedVariables false

theorem putFX_ok_length (K : Int) (d : List UInt8) (h : putFE K d.length = 0) : (putFX K d).length = vsize d.length + (d.length + 5) ∧ vsize d.length ≤ 10 ∧ d.length ≤ 65536 := by
  obtain ⟨h1, h2, h3⟩ := putFE_ok K d.length h
  rw [putFX, if_pos h, guarded_length, bodyF_length]
  have := vsize_le d.length
  omega
theorem wrap64_nat (k : Nat) (h : k ≤ 9223372036854775807) : wrap64 (k : Int) = (k : Int) := by
  unfold wrap64
  omega
theorem index_in (n : Nat) (hn : 0 < n) (hn2 : n ≤ 1000000) (at_ : Int) : ∃ j : Nat, j < n ∧ (wrap64 (at_.tmod (n : Int) + (n : Int))).tmod (n : Int) = (j : Int) := by
  have hp : 0 < (n : Int) := by omega
  have t1 := Int.tmod_lt_of_pos at_ hp
  have t2 := Int.lt_tmod_of_pos at_ hp
  have hw : wrap64 (at_.tmod (n : Int) + (n : Int)) = at_.tmod (n : Int) + (n : Int) := by
    unfold wrap64
    omega
  rw [hw]
  have t3 := Int.tmod_lt_of_pos (at_.tmod (n : Int) + (n : Int)) hp
  have t4 := Int.tmod_nonneg (n : Int) (a := at_.tmod (n : Int) + (n : Int)) (by omega)
  exact ⟨((at_.tmod (n : Int) + (n : Int)).tmod (n : Int)).toNat, by omega, by omega⟩
set_option maxHeartbeats 1600000 in
theorem rot_walk (K : Int) (A : Option Addr) (ca : Nat) (d : List UInt8) (at_ e : Int) (w : World) (hx : RdB w A ca d) (ld : d.length ≤ 140737488351232) (hK : (Lit.int .i64 K).wf = true) (hat : (Lit.int .i64 at_).wf = true) (he : (Lit.int .u8 e).wf = true) :
    Calls Try.prog 4 #[fil K A d.length ca, .int .i64 at_, .int .u8 e] w fun e w' => e = .returned (.bool true) ∧ Below w.heap.size w w' := by
  have hOf := fun A c W (h : RdB W A c d) => of_any K A d.length c d W rfl h (by omega)
  have hP := fun A c W (h : RdB W A c d) => FPut_any K A c d W h hK
  have hm := hx.max
  unfold fil at *
  have hx0 := hx.below (below_alloc w (.cells #[.int .i64 K, .slice A d.length ca] 24))
  have X0 := Bx.new w K (.slice A d.length ca) 24
  have B0 := below_alloc w (.cells #[.int .i64 K, .slice A d.length ca] 24)
  by_cases hok : putFE K d.length = 0
  · obtain ⟨hpl, hvs, hd⟩ := putFX_ok_length K d hok
    have hrot := get_rot K d hok
    rw [hok] at hP
    by_cases he0 : e = 0
    · subst he0
      generalize putFX K d = P at *
      obtain ⟨n, hn⟩ : ∃ n, d.length = n := ⟨_, rfl⟩
      simp only [hn] at hOf hP X0
      rw [hn]
      rw [hn] at hx0 B0
      clear hn ld hm hpl hvs hd hok hrot
      obtain ⟨x00, x01, x02, x03⟩ := X0.read
      go_enter Try.func4, Try.ntmps4
      go_wp2_with (first | (go_at_call 8; refine (alive_any _).mono ?_; rintro e w1 ⟨rfl, HB1⟩; replace hx0 := hx0.below HB1; replace X0 := X0.below HB1; replace B0 := B0.trans (HB1.mono B0.size); obtain ⟨x00, x01, x02, x03⟩ := X0.read) | (go_at_call 10; (with_reducible refine (hOf _ _ _ hx0).mono ?_); rintro e w2 ⟨A2, c2, rfl, HO2, HB2⟩; replace B0 := B0.trans (HB2.mono B0.size)) | (go_at_call 9; (with_reducible refine (hP _ _ _ HO2.rdl).mono ?_); rintro e w3 ⟨v3, rfl, HO3, HB3⟩; obtain ⟨A3, c3, hv3, hr3⟩ := HO3.rd; subst hv3; replace B0 := B0.trans (HB3.mono B0.size)) | (go_at_call 11; refine (num_any _ _).mono ?_; rintro e w' ⟨rfl, rfl⟩))
      go_ret
      exact ⟨rfl, B0⟩
    · obtain ⟨x, rfl⟩ : ∃ x : UInt8, (x.toNat : Int) = e := ⟨UInt8.ofNat e.toNat, by
        have : 0 ≤ e ∧ e ≤ 255 := by simpa [Lit.wf, IntKind.min, IntKind.max, IntKind.signed, IntKind.bits] using he
        simp only [UInt8.toNat_ofNat']
        omega⟩
      have hx0' : x ≠ 0 := fun h => he0 (by rw [h]; rfl)
      obtain ⟨j, hj, hjn⟩ := index_in (d.length + 5) (by omega) (by omega) at_
      replace hrot := hrot j hj x hx0'
      obtain ⟨q, hq⟩ : ∃ q, vsize d.length + j = q := ⟨_, rfl⟩
      rw [hq] at hrot
      have hql : q < (putFX K d).length := by omega
      generalize putFX K d = P at *
      have hG := fun A c W (h : RdB W A c (P.set q (P.getD q 0 ^^^ x))) => FGet_any A c (P.set q (P.getD q 0 ^^^ x)) W h (by rw [List.length_set]; omega)
      have hno : ¬ fgE (P.set q (P.getD q 0 ^^^ x)) = 0 := by rw [hrot]; decide
      rw [fgK, if_neg hno, fgX, if_neg hno, fgS, if_neg hno, hrot, List.length_set] at hG
      unfold fil at hG
      obtain ⟨n, hn⟩ : ∃ n, d.length = n := ⟨_, rfl⟩
      obtain ⟨p, hp⟩ : ∃ p, P.length = p := ⟨_, rfl⟩
      obtain ⟨v, hv⟩ : ∃ v, vsize d.length = v := ⟨_, rfl⟩
      obtain ⟨n5, hn5⟩ : ∃ n5, d.length + 5 = n5 := ⟨_, rfl⟩
      rw [hn5] at hjn hj hpl
      rw [hv] at hpl hq hvs
      simp only [hn, hp] at hOf hP X0 hG
      rw [hp] at hpl hql
      rw [hn]
      rw [hn] at hx0 B0 hn5 hd
      have HPL := hide hp
      have hn51 : n5 ≤ 70000 := by omega
      have hv1 : v ≤ 10 := by omega
      have hq1 : q ≤ 80000 := by omega
      have a1 : (n : Int) + 5 = (n5 : Int) := by omega
      have a2 : (p : Int) - (n5 : Int) = (v : Int) := by omega
      have a3 : (v : Int) + (j : Int) = (q : Int) := by omega
      have a4 : ¬ (p : Int) < (n5 : Int) := by omega
      have a5 : ¬ (n5 : Int) = 0 := by omega
      have a6 : (q : Int) < (p : Int) := by omega
      have w5 := wrap64_nat n5 (Nat.le_trans hn51 (by decide))
      have wv := wrap64_nat v (Nat.le_trans hv1 (by decide))
      have wq := wrap64_nat q (Nat.le_trans hq1 (by decide))
      have HD := hide hd
      have HX := hide (xor_u8 (P.getD q 0) x)
      clear hn hp hv hn5 hok hm hno hrot hpl ld hq hvs hj hx0' hd
      obtain ⟨x00, x01, x02, x03⟩ := X0.read
      go_enter Try.func4, Try.ntmps4
      go_wp2_with (first | (go_at_call 8; refine (alive_any _).mono ?_; rintro e w1 ⟨rfl, HB1⟩; replace hx0 := hx0.below HB1; replace X0 := X0.below HB1; replace B0 := B0.trans (HB1.mono B0.size); obtain ⟨x00, x01, x02, x03⟩ := X0.read) | (go_at_call 10; (with_reducible refine (hOf _ _ _ hx0).mono ?_); rintro e w2 ⟨A2, c2, rfl, HO2, HB2⟩; replace X0 := X0.below HB2; replace B0 := B0.trans (HB2.mono B0.size)) | (go_at_call 9; (with_reducible refine (hP _ _ _ HO2.rdl).mono ?_); rintro e w3 ⟨v3, rfl, HO3, HB3⟩; have hq3 : q < P.length := (by rw [HPL.out]; exact hql); obtain ⟨g, c3, hv3, hgb, hgl, hcell, hfr, hset⟩ := HO3.set_ q hq3; rw [HPL.out] at hv3; subst hv3; obtain ⟨HS, HG⟩ := hset (P.getD q 0 ^^^ x); have HHS := hide HS; clear HS HG hset; have z2 := HB2.size; have z0 := B0.size; have hgw : w.heap.size ≤ g := (by omega); replace X0 := X0.below HB3; replace B0 := B0.trans (HB3.mono B0.size); obtain ⟨x00, x01, x02, x03⟩ := X0.read; generalize P.getD q 0 = y at *) | (go_at_call 11; refine (num_any _ _).mono ?_; rintro e w' ⟨rfl, rfl⟩) | (go_at_call 12; rw [HX.out]; (with_reducible refine (hG _ _ _ HHS.out.rdl).mono ?_); rintro e w5 ⟨A5, c5, rfl, HO5, HB5⟩; have B1 := (B0.setCell (p := ⟨g, q, none⟩) hgw (.int .u8 ((y ^^^ x).toNat : Int))); have b5 := below_alloc w5 (.cells #[.int .i64 0, .slice A5 0 c5] 29); have X5 := Bx.new w5 0 (.slice A5 0 c5) 29; replace B0 := (B1.trans (HB5.mono B1.size)).alloc (B1.trans (HB5.mono B1.size)).size (.cells #[.int .i64 0, .slice A5 0 c5] 29); obtain ⟨x50, x51, x52, x53⟩ := X5.read))
      go_ret
      exact ⟨rfl, B0⟩
  · have hX : putFX K d = [] := by rw [putFX, if_neg hok]
    rw [hX] at hP
    generalize putFE K d.length = z at *
    obtain ⟨n, hn⟩ : ∃ n, d.length = n := ⟨_, rfl⟩
    simp only [hn] at hOf hP X0
    rw [hn]
    rw [hn] at hx0 B0
    clear hn ld hm hX
    obtain ⟨x00, x01, x02, x03⟩ := X0.read
    go_enter Try.func4, Try.ntmps4
    go_wp2_with (first | (go_at_call 8; refine (alive_any _).mono ?_; rintro e w1 ⟨rfl, HB1⟩; replace hx0 := hx0.below HB1; replace X0 := X0.below HB1; replace B0 := B0.trans (HB1.mono B0.size); obtain ⟨x00, x01, x02, x03⟩ := X0.read) | (go_at_call 10; (with_reducible refine (hOf _ _ _ hx0).mono ?_); rintro e w2 ⟨A2, c2, rfl, HO2, HB2⟩; replace B0 := B0.trans (HB2.mono B0.size)) | (go_at_call 9; (with_reducible refine (hP _ _ _ HO2.rdl).mono ?_); rintro e w3 ⟨v3, rfl, HO3, HB3⟩; obtain ⟨A3, c3, hv3, hr3⟩ := HO3.rd; subst hv3; replace B0 := B0.trans (HB3.mono B0.size)) | (go_at_call 11; refine (num_any _ _).mono ?_; rintro e w' ⟨rfl, rfl⟩))
    go_ret
    exact ⟨rfl, B0⟩
end Go.Proofs.Ytaonjbpaeloniaa
