/- The walk of FrameTells. -/
import Derived.Test.YtaonjbpaeloniaaFrK
import Derived.Test.YtaonjbpaeloniaaFrD
namespace Go.Proofs.Ytaonjbpaeloniaa
open Go.RowKit Go.Proofs.YtaonjbpaeloniaaW.PrintWords
set_option linter.unusedVariables false

set_option maxHeartbeats 3200000 in
theorem tells_walk (K : Int) (A : Option Addr) (ca : Nat) (d : List UInt8) (B : Option Addr) (cb : Nat) (ys : List UInt8) (w : World) (hx : RdB w A ca d) (ld : d.length ≤ 1048576) (hK : (Lit.int .i64 K).wf = true) (hy : RdB w B cb ys) (ly : ys.length ≤ 1048576) :
    Calls Try.prog 6 #[fil K A d.length ca, .slice B ys.length cb] w fun e w' => e = .returned (.bool true) ∧ Below w.heap.size w w' := by
  have hOf := fun A c W (h : RdB W A c d) => of_any K A d.length c d W rfl h (by omega)
  have hCp := fun W (h : RdB W B cb ys) => CopyBytes_any B cb ys W h (by omega)
  have hP := fun A c W (h : RdB W A c d) => FPut_any K A c d W h hK
  have hrP := fun A c W (h : RdB W A c d) => rFPut_any K A c d W h
  have hG := fun A c W (h : RdB W A c ys) => FGet_any A c ys W h (by omega)
  have hrG := fun A c W (h : RdB W A c ys) => rFGet_any A c ys W h (by omega)
  have hSc := fun A c W (h : RdB W A c ys) => Scan_any A c ys W h (by omega)
  have hrSc := fun A c W (h : RdB W A c ys) => rScan_any A c ys W h (by omega)
  have hS1 := fun A B c c' W (h : RdB W A c d) (h' : RdB W B c' d) => same_any K K A B _ _ c c' d d W rfl rfl h h'
  have hS2 := fun A B c c' W (h : RdB W A c (fgX ys)) (h' : RdB W B c' (fgX ys)) => same_any (fgK ys) (fgK ys) A B _ _ c c' (fgX ys) (fgX ys) W rfl rfl h h'
  have hSA := fun A B c c' W (h : RdR W A c (scanRs ys)) (h' : RdR W B c' (scanRs ys)) => sameAll_any A B c c' (scanRs ys) (scanRs ys) W h h'
  have hE1 := fun A B c c' W (h : RdB W A c (putFX K d)) (h' : RdB W B c' (putFX K d)) => SameBytes_at A B c c' _ _ (putFX K d) (putFX K d) W rfl rfl h h'
  have hE2 := fun A B c c' W (h : RdB W A c ys) (h' : RdB W B c' ys) => SameBytes_at A B c c' _ _ ys ys W rfl rfl h h'
  simp only [and_self, decide_true] at hS1 hS2 hSA hE1 hE2
  have hm := hx.max
  unfold fil at *
  have hx0 := hx.below (below_alloc w (.cells #[.int .i64 K, .slice A d.length ca] 24))
  have hy0 := hy.below (below_alloc w (.cells #[.int .i64 K, .slice A d.length ca] 24))
  have X0 := Bx.new w K (.slice A d.length ca) 24
  have B0 := below_alloc w (.cells #[.int .i64 K, .slice A d.length ca] 24)
  generalize putFX K d = P at *
  generalize putFE K d.length = z at *
  generalize fgK ys = K2 at *
  generalize fgE ys = z2 at *
  generalize fgS ys = s2 at *
  generalize scanEnd ys = E at *
  obtain ⟨X, hXX⟩ : ∃ X, fgX ys = X := ⟨_, rfl⟩
  obtain ⟨R, hRR⟩ : ∃ R, scanRs ys = R := ⟨_, rfl⟩
  rw [hXX] at hG hrG hS2
  rw [hRR] at hSc hrSc hSA
  obtain ⟨n, hn⟩ : ∃ n, d.length = n := ⟨_, rfl⟩
  obtain ⟨m, hm2⟩ : ∃ m, ys.length = m := ⟨_, rfl⟩
  obtain ⟨p, hp⟩ : ∃ p, P.length = p := ⟨_, rfl⟩
  obtain ⟨n2, hn2⟩ : ∃ n2, X.length = n2 := ⟨_, rfl⟩
  obtain ⟨r, hr⟩ : ∃ r, R.length = r := ⟨_, rfl⟩
  simp only [hn] at hOf hP hrP hS1 X0
  simp only [hm2] at hCp hG hrG hSc hrSc hE2
  simp only [hp] at hE1
  simp only [hn2] at hG hrG hS2
  simp only [hr] at hSA
  rw [hn, hm2]
  rw [hn] at hx0 hy0 B0
  have HM := hide hm2
  have HP := hide hp
  have HR := hide hr
  clear hn hm2 hp hn2 hr hXX hRR ld ly hm hK
  obtain ⟨x00, x01, x02, x03⟩ := X0.read
  go_enter Try.func6, Try.ntmps6
  go_wp2_with (first | (go_at_call 10; (with_reducible refine (hOf _ _ _ hx0).mono ?_); rintro e w1 ⟨A1, c1, rfl, HO1, HB1⟩; replace hx0 := hx0.below HB1; replace hy0 := hy0.below HB1; replace X0 := X0.below HB1; replace B0 := B0.trans (HB1.mono B0.size)) | (go_at_call 13; (with_reducible refine (hCp _ hy0).mono ?_); rintro e w2 ⟨v2, rfl, HO2, HB2⟩; obtain ⟨A2, c2, hv2, hr2⟩ := HO2.rd; rw [HM.out] at hv2; subst hv2; have b2 := below_alloc w2 (.cells #[.int .i64 K, .slice A1 n c1] 29); have X1 := Bx.new w2 K (.slice A1 n c1) 29; have hx1 := (HO1.rdl.below HB2).below b2; replace hr2 := hr2.below b2; have bb := HB2.trans (b2.mono HB2.size); replace hx0 := hx0.below bb; replace hy0 := hy0.below bb; replace X0 := X0.below bb; replace B0 := B0.trans (bb.mono B0.size); obtain ⟨x10, x11, x12, x13⟩ := X1.read) | (go_at_call 9; (with_reducible refine (hP _ _ _ hx1).mono ?_); rintro e w3 ⟨v3, rfl, HO3, bb⟩; obtain ⟨A3, c3, hv3, hr3⟩ := HO3.rd; rw [HP.out] at hv3; subst hv3; replace hx0 := hx0.below bb; replace hy0 := hy0.below bb; replace X0 := X0.below bb; replace hx1 := hx1.below bb; replace X1 := X1.below bb; replace hr2 := hr2.below bb; replace B0 := B0.trans (bb.mono B0.size); obtain ⟨x00, x01, x02, x03⟩ := X0.read) | (go_at_call 16; (with_reducible refine (hrP _ _ _ hx0).mono ?_); rintro e w4 ⟨v4, rfl, HO4, bb⟩; obtain ⟨A4, c4, hv4, hr4⟩ := HO4.rd; rw [HP.out] at hv4; subst hv4; replace hx0 := hx0.below bb; replace hy0 := hy0.below bb; replace X0 := X0.below bb; replace hx1 := hx1.below bb; replace X1 := X1.below bb; replace hr2 := hr2.below bb; replace B0 := B0.trans (bb.mono B0.size); replace hr3 := hr3.below bb) | (go_at_call 12; (with_reducible refine (hG _ _ _ hr2).mono ?_); rintro e w5 ⟨A5, c5, rfl, HO5, HB5⟩; have b5 := below_alloc w5 (.cells #[.int .i64 K2, .slice A5 n2 c5] 29); have X5 := Bx.new w5 K2 (.slice A5 n2 c5) 29; have hr5 := HO5.rdl.below b5; have bb := HB5.trans (b5.mono HB5.size); replace hx0 := hx0.below bb; replace hy0 := hy0.below bb; replace X0 := X0.below bb; replace hx1 := hx1.below bb; replace X1 := X1.below bb; replace hr2 := hr2.below bb; replace B0 := B0.trans (bb.mono B0.size); replace hr3 := hr3.below bb; replace hr4 := hr4.below bb) | (go_at_call 17; (with_reducible refine (hrG _ _ _ hy0).mono ?_); rintro e w6 ⟨A6, c6, rfl, HO6, HB6⟩; have b6 := below_alloc w6 (.cells #[.int .i64 K2, .slice A6 n2 c6] 24); have X6 := Bx.new w6 K2 (.slice A6 n2 c6) 24; have hr6 := HO6.rdl.below b6; have bb := HB6.trans (b6.mono HB6.size); replace hx0 := hx0.below bb; replace hy0 := hy0.below bb; replace X0 := X0.below bb; replace hx1 := hx1.below bb; replace X1 := X1.below bb; replace hr2 := hr2.below bb; replace B0 := B0.trans (bb.mono B0.size); replace hr3 := hr3.below bb; replace hr4 := hr4.below bb; replace hr5 := hr5.below bb; replace X5 := X5.below bb) | (go_at_call 18; (with_reducible refine (hSc _ _ _ hr2).mono ?_); rintro e w7 ⟨v7, rfl, HO7, bb⟩; obtain ⟨A7, c7, hv7, hr7⟩ := HO7.rd; rw [HR.out] at hv7; subst hv7; replace hx0 := hx0.below bb; replace hy0 := hy0.below bb; replace X0 := X0.below bb; replace hx1 := hx1.below bb; replace X1 := X1.below bb; replace hr2 := hr2.below bb; replace B0 := B0.trans (bb.mono B0.size); replace hr3 := hr3.below bb; replace hr4 := hr4.below bb; replace hr5 := hr5.below bb; replace X5 := X5.below bb; replace hr6 := hr6.below bb; replace X6 := X6.below bb) | (go_at_call 19; (with_reducible refine (hrSc _ _ _ hy0).mono ?_); rintro e w8 ⟨v8, rfl, HO8, bb⟩; obtain ⟨A8, c8, hv8, hr8⟩ := HO8.rd; rw [HR.out] at hv8; subst hv8; replace hx0 := hx0.below bb; replace hy0 := hy0.below bb; replace X0 := X0.below bb; replace hx1 := hx1.below bb; replace X1 := X1.below bb; replace hr2 := hr2.below bb; replace B0 := B0.trans (bb.mono B0.size); replace hr3 := hr3.below bb; replace hr4 := hr4.below bb; replace hr5 := hr5.below bb; replace X5 := X5.below bb; replace hr6 := hr6.below bb; replace X6 := X6.below bb; replace hr7 := hr7.below bb; obtain ⟨x00, x01, x02, x03⟩ := X0.read; obtain ⟨x10, x11, x12, x13⟩ := X1.read; obtain ⟨x50, x51, x52, x53⟩ := X5.read; obtain ⟨x60, x61, x62, x63⟩ := X6.read) | (go_at_call 11; refine (num_any _ _).mono ?_; rintro e w' ⟨rfl, rfl⟩) | (go_at_call 20; (first | (with_reducible refine (hE1 _ _ _ _ _ hr3 hr4).mono ?_) | (with_reducible refine (hE2 _ _ _ _ _ hr2 hy0).mono ?_)); rintro e w' ⟨rfl, rfl⟩) | (go_at_call 21; (with_reducible refine (hSA _ _ _ _ _ hr7 hr8).mono ?_); rintro e w9 ⟨rfl, bb⟩; replace hx0 := hx0.below bb; replace hy0 := hy0.below bb; replace X0 := X0.below bb; replace hx1 := hx1.below bb; replace X1 := X1.below bb; replace hr2 := hr2.below bb; replace B0 := B0.trans (bb.mono B0.size); replace hr3 := hr3.below bb; replace hr4 := hr4.below bb; replace hr5 := hr5.below bb; replace X5 := X5.below bb; replace hr6 := hr6.below bb; replace X6 := X6.below bb; replace hr7 := hr7.below bb; replace hr8 := hr8.below bb; obtain ⟨x00, x01, x02, x03⟩ := X0.read; obtain ⟨x10, x11, x12, x13⟩ := X1.read; obtain ⟨x50, x51, x52, x53⟩ := X5.read; obtain ⟨x60, x61, x62, x63⟩ := X6.read) | (go_at_call 14; (first | (with_reducible refine (hS2 _ _ _ _ _ hr5 hr6).mono ?_) | (with_reducible refine (hS1 _ _ _ _ _ hx1 hx0).mono ?_)); rintro e w9 ⟨rfl, bb⟩; replace hx0 := hx0.below bb; replace hy0 := hy0.below bb; replace X0 := X0.below bb; replace hx1 := hx1.below bb; replace X1 := X1.below bb; replace hr2 := hr2.below bb; replace B0 := B0.trans (bb.mono B0.size); replace hr3 := hr3.below bb; replace hr4 := hr4.below bb; replace hr5 := hr5.below bb; replace X5 := X5.below bb; replace hr6 := hr6.below bb; replace X6 := X6.below bb; replace hr7 := hr7.below bb; replace hr8 := hr8.below bb; obtain ⟨x00, x01, x02, x03⟩ := X0.read; obtain ⟨x10, x11, x12, x13⟩ := X1.read; obtain ⟨x50, x51, x52, x53⟩ := X5.read; obtain ⟨x60, x61, x62, x63⟩ := X6.read) | (go_at_call 8; refine (alive_any _).mono ?_; rintro e w9 ⟨rfl, bb⟩; replace B0 := B0.trans (bb.mono B0.size)))
  go_ret
  exact ⟨by simp, B0⟩
end Go.Proofs.Ytaonjbpaeloniaa
