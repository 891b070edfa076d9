/- The walk of FrameBack. -/
import Derived.Test.YtaonjbpaeloniaaFrD
namespace Go.Proofs.Ytaonjbpaeloniaa
open Go.RowKit Go.Proofs.YtaonjbpaeloniaaW.PrintWords
set_option linter.unusedVariables false

theorem putFX_length (K : Int) (d : List UInt8) : (putFX K d).length ≤ 65550 := by
  unfold putFX
  split
  · next h =>
    obtain ⟨h1, h2, h3⟩ := putFE_ok K d.length h
    rw [guarded_length, bodyF_length]
    have := vsize_le d.length
    omega
  · simp
theorem putFE_no (K : Int) (n : Nat) (h : putFE K n ≠ 0) : K < 0 ∨ 255 < K ∨ 65536 < n := by
  unfold putFE at h
  split at h
  · next h1 => omega
  · split at h
    · omega
    · exact absurd rfl h
theorem putFX_no (K : Int) (d : List UInt8) (h : putFE K d.length ≠ 0) : putFX K d = [] := by rw [putFX, if_neg h]
set_option maxHeartbeats 1600000 in
theorem back_walk (K : Int) (A : Option Addr) (ca : Nat) (d : List UInt8) (B : Option Addr) (cb : Nat) (ys : List UInt8) (w : World) (hx : RdB w A ca d) (ld : d.length ≤ 1048576) (hK : (Lit.int .i64 K).wf = true) (hy : RdB w B cb ys) (ly : ys.length ≤ 1048576) :
    Calls Try.prog 3 #[fil K A d.length ca, .slice B ys.length cb] w fun e w' => e = .returned (.bool true) ∧ Below w.heap.size w w' := by
  have hOf := fun A c W (h : RdB W A c d) => of_any K A d.length c d W rfl h (by omega)
  have hP := fun A c W (h : RdB W A c d) => FPut_any K A c d W h hK
  have hpl := putFX_length K d
  have hS := fun A B c c' W (h : RdB W A c d) (h' : RdB W B c' d) => same_any K K A B _ _ c c' d d W rfl rfl h h'
  simp only [and_self, decide_true] at hS
  have hC := fun A c W (h : RdB W A c (putFX K d)) => CopyBytes_any A c (putFX K d) W h (by omega)
  have hm := hx.max
  unfold fil at *
  have hx0 := hx.below (below_alloc w (.cells #[.int .i64 K, .slice A d.length ca] 24))
  have hy0 := hy.below (below_alloc w (.cells #[.int .i64 K, .slice A d.length ca] 24))
  have X0 := Bx.new w K (.slice A d.length ca) 24
  have B0 := below_alloc w (.cells #[.int .i64 K, .slice A d.length ca] 24)
  by_cases hok : putFE K d.length = 0
  · have hG := fun A c W (h : RdB W A c (putFX K d ++ ys)) => FGet_any A c (putFX K d ++ ys) W h (by rw [List.length_append]; omega)
    obtain ⟨g1, g2, g3, g4⟩ := get_frame K d ys hok
    rw [g1, g2, g3, g4] at hG
    rw [hok] at hP
    unfold fil at hG
    generalize putFX K d = P at *
    obtain ⟨n, hn⟩ : ∃ n, d.length = n := ⟨_, rfl⟩
    obtain ⟨p, hp⟩ : ∃ p, P.length = p := ⟨_, rfl⟩
    obtain ⟨m, hm2⟩ : ∃ m, ys.length = m := ⟨_, rfl⟩
    have hal : P.length + ys.length ≤ 140737488355328 := by omega
    have HAL := hide hal
    obtain ⟨q, hq⟩ : ∃ q, (P ++ ys).length = q := ⟨_, rfl⟩
    simp only [hn, hp, hq] at hOf hP hS hC hG X0
    rw [hn, hm2]
    rw [hn] at hx0 hy0 B0
    have HN := hide hn
    have HPL := hide hp
    have HQ := hide hq
    have HM := hide hm2
    clear hn hp hm2 hok g1 g2 g3 g4 ld ly hal hq hm hpl
    obtain ⟨x00, x01, x02, x03⟩ := X0.read
    go_enter Try.func3, Try.ntmps3
    go_wp2_with (first | (go_at_call 8; refine (alive_any _).mono ?_; rintro e w1 ⟨rfl, HB1⟩; replace hx0 := hx0.below HB1; replace hy0 := hy0.below HB1; replace X0 := X0.below HB1; replace B0 := B0.trans (HB1.mono B0.size); obtain ⟨x00, x01, x02, x03⟩ := X0.read) | (go_at_call 10; (with_reducible refine (hOf _ _ _ hx0).mono ?_); rintro e w2 ⟨A2, c2, rfl, HO2, HB2⟩; replace hx0 := hx0.below HB2; replace hy0 := hy0.below HB2; replace X0 := X0.below HB2; replace B0 := B0.trans (HB2.mono B0.size)) | (go_at_call 9; (with_reducible refine (hP _ _ _ HO2.rdl).mono ?_); rintro e w3 ⟨v3, rfl, HO3, HB3⟩; obtain ⟨A3, c3, hv3, hr3⟩ := HO3.rd; rw [HPL.out] at hv3; subst hv3; replace hx0 := hx0.below HB3; replace hy0 := hy0.below HB3; replace X0 := X0.below HB3; replace B0 := B0.trans (HB3.mono B0.size); have hx3 := hx0; have X3 := X0; have B3 := B0) | (go_at_call 11; refine (num_any _ _).mono ?_; rintro e w' ⟨rfl, rfl⟩) | (go_at_call 13; (with_reducible refine (hC _ _ _ hr3).mono ?_); rintro e w4 ⟨v4, rfl, HO4, HB4⟩; replace hx0 := hx0.below HB4; replace hy0 := hy0.below HB4; replace X0 := X0.below HB4; replace B0 := B0.trans (HB4.mono B0.size); have BB := Below.refl w4.heap.size w4) | (at_builtin; refine app_row (w0 := w4) w3.heap.size rfl (.tmp 42) (.tmp 43) rfl v4 P ys B cb rfl (by rw [HM.out]; rfl) HO4 hy0 ((Below.refl w4.heap.size w4).mono HB4.size) HB4.size HAL.out ?_; intro v5 w5 HO5 HB5 hg5 hat5; obtain ⟨A5, c5, hv5, hr5⟩ := HO5.rd; rw [HQ.out] at hv5; subst hv5; have HB35 : Below w3.heap.size w3 w5 := HB4.trans HB5; replace hx3 := hx3.below HB35; replace X3 := X3.below HB35; replace B3 := B3.trans (HB35.mono B3.size)) | (go_at_call 12; (with_reducible refine (hG _ _ _ hr5).mono ?_); rintro e w6 ⟨A6, c6, rfl, HO6, HB6⟩; have b6 := below_alloc w6 (.cells #[.int .i64 K, .slice A6 n c6] 29); have X6 := Bx.new w6 K (.slice A6 n c6) 29; replace HO6 := HO6.below b6; replace hx3 := (hx3.below HB6).below b6; replace X3 := (X3.below HB6).below b6; replace B3 := (B3.trans (HB6.mono B3.size)).alloc (B3.trans (HB6.mono B3.size)).size (.cells #[.int .i64 K, .slice A6 n c6] 29); obtain ⟨x30, x31, x32, x33⟩ := X3.read; obtain ⟨x60, x61, x62, x63⟩ := X6.read) | (go_at_call 14; (with_reducible refine (hS _ _ _ _ _ HO6.rdl hx3).mono ?_); rintro e w7 ⟨rfl, HB7⟩; replace B3 := B3.trans (HB7.mono B3.size)))
    go_ret
    exact ⟨rfl, B3⟩
  · have hno := putFE_no K d.length hok
    have hX := putFX_no K d hok
    rw [hX] at hP
    generalize putFE K d.length = z at *
    obtain ⟨n, hn⟩ : ∃ n, d.length = n := ⟨_, rfl⟩
    obtain ⟨m, hm2⟩ : ∃ m, ys.length = m := ⟨_, rfl⟩
    simp only [hn] at hOf hP X0
    rw [hn, hm2]
    rw [hn] at hx0 hy0 B0 hno
    clear hn hm2 ld ly hm hpl hX hC hS
    obtain ⟨x00, x01, x02, x03⟩ := X0.read
    have hnoi : K < 0 ∨ 255 < K ∨ 65536 < (n : Int) := by omega
    go_enter Try.func3, Try.ntmps3
    go_wp2_with (first | (go_at_call 8; refine (alive_any _).mono ?_; rintro e w1 ⟨rfl, HB1⟩; replace hx0 := hx0.below HB1; replace X0 := X0.below HB1; replace B0 := B0.trans (HB1.mono B0.size); obtain ⟨x00, x01, x02, x03⟩ := X0.read) | (go_at_call 10; (with_reducible refine (hOf _ _ _ hx0).mono ?_); rintro e w2 ⟨A2, c2, rfl, HO2, HB2⟩; replace X0 := X0.below HB2; replace B0 := B0.trans (HB2.mono B0.size)) | (go_at_call 9; (with_reducible refine (hP _ _ _ HO2.rdl).mono ?_); rintro e w3 ⟨v3, rfl, HO3, HB3⟩; obtain ⟨A3, c3, hv3, hr3⟩ := HO3.rd; subst hv3; replace X0 := X0.below HB3; replace B0 := B0.trans (HB3.mono B0.size); obtain ⟨x00, x01, x02, x03⟩ := X0.read) | (go_at_call 11; refine (num_any _ _).mono ?_; rintro e w' ⟨rfl, rfl⟩))
    all_goals go_ret
    all_goals (
      refine ⟨?_, B0⟩
      first
      | rfl
      | (have hb : (decide (K < 0) || decide (255 < K) || decide (65536 < (n : Int))) = true := by
           rcases hnoi with h | h | h
           · simp [decide_eq_true h]
           · simp [decide_eq_true h]
           · simp only [decide_eq_true h, Bool.or_true]
         exact congrArg (fun b => Ending.returned (Value.bool b)) hb)
      | (have hb : (decide (255 < K) || decide (65536 < (n : Int))) = true := by
           rcases hnoi with h | h | h
           · omega
           · simp [decide_eq_true h]
           · simp only [decide_eq_true h, Bool.or_true]
         exact congrArg (fun b => Ending.returned (Value.bool b)) hb)
      | (have hb : decide (65536 < (n : Int)) = true := decide_eq_true (by omega)
         exact congrArg (fun b => Ending.returned (Value.bool b)) hb))
end Go.Proofs.Ytaonjbpaeloniaa
