/- The walk of VarintBack. -/
import Derived.Test.YtckflapblbiniaaLawVarintCut
namespace Go.Proofs.Ytckflapblbiniaa
open Go.RowKit Go.Proofs.YtckflapblbiniaaW.PrintWords
set_option linter.unusedVariables false

theorem getNum_lt (b : List UInt8) (h : getErr b = 0) : getNum b < 18446744073709551616 := by
  have hp := put_get b h
  have h8 := ones8_le (oct0 b)
  have hb := back8 (oct0 b)
  have hl : ((b.take (ones8 (oct0 b) + 1)).drop 1).length = ones8 (oct0 b) := by simp; omega
  have hn := num8_lt ((oct0 b &&& mask8 (ones8 (oct0 b) + 1)).toNat) (room (ones8 (oct0 b) + 1)) ((b.take (ones8 (oct0 b) + 1)).drop 1) hb.2
  have hr := room_pow (ones8 (oct0 b) + 1) (ones8 (oct0 b)) (by omega) (by omega) (by omega)
  rw [hl] at hn
  exact Nat.lt_of_lt_of_le hn hr
set_option maxHeartbeats 800000 in
theorem back_walk (n0 : Int) (A : Option Addr) (ca : Nat) (ms : List UInt8) (w : World) (h0 : (Lit.int .u64 n0).wf = true) (hx : RdB w A ca ms) (lx : ms.length ≤ 140737488351232) :
    Calls Try.prog 3 #[.int .u64 n0, .slice A ms.length ca] w fun e w' => e = .returned (.bool true) ∧ Below w.heap.size w w' := by
  obtain ⟨n, rfl, hn⟩ := u64_of n0 h0
  clear h0
  have hp := put_length n
  have hP := Put_any n hn
  have hS := Size_any n hn
  obtain ⟨g1, g2, g3⟩ := get_put n hn ms
  have gg1 : gN (put n ++ ms) = n := by rw [gN, if_pos g1, g2]
  have gg2 : gK (put n ++ ms) = vsize n := by rw [gK, if_pos g1, g3]
  have h1 := vsize_pos n
  have h9 := vsize_le n
  obtain ⟨zs, hz⟩ : ∃ zs, put n ++ ms = zs := ⟨_, rfl⟩
  have hlz : zs.length ≤ 140737488355328 := by rw [← hz, List.length_append, hp]; omega
  rw [hz] at g1 gg1 gg2
  have HG := fun A c w (h : RdB w A c zs) => Get_any A c zs w h
  rw [gg1, gg2, g1] at HG
  have HZ := hide hz
  generalize put n = xs at *
  generalize vsize n = s at *
  subst hp
  clear g1 g2 g3 gg1 gg2 hz
  have hl9 : xs.length ≤ 140737488355328 := by omega
  have hsum : xs.length + ms.length ≤ 140737488355328 := by omega
  have HM := fun w (h : RdB w A ca ms) => Get_any A ca ms w h
  go_enter Try.func3, Try.ntmps3
  go_wp2_with (first | (go_at_call 9; refine (alive_any _).mono ?_; rintro e w1 ⟨rfl, HB1⟩; have hx1 := hx.below HB1) | (go_at_call 10; (with_reducible refine (hP _).mono ?_); rintro e w2 ⟨v2, rfl, HO2, HB2⟩; obtain ⟨A2, c2, rfl, hr2⟩ := HO2.rd; have hx2 := hx1.below HB2) | (go_at_call 12; refine (CopyBytes_any _ _ _ _ hr2 hl9).mono ?_; rintro e w3 ⟨v3, rfl, HO3, HB3⟩; have hx3 := hx2.below HB3) | (at_builtin; refine app_row (w0 := w2) w2.heap.size rfl _ _ rfl _ xs ms A ca rfl rfl HO3 hx3 HB3 HB3.size hsum ?_; intro v4 w4 HO4 HB4 hg4 hat4; rw [HZ.out] at HO4; obtain ⟨A4, c4, rfl, hr4⟩ := HO4.rd; have hx4 := hx2.below HB4) | (go_at_call 11; (with_reducible refine (HG _ _ _ hr4).mono ?_); rintro e w5 ⟨rfl, HB5⟩; have hx5 := hx4.below HB5; have HM5 := HM _ hx5) | (go_at_call 13; refine (num_any _ _).mono ?_; rintro e w' ⟨rfl, rfl⟩) | (go_at_call 14; refine (hS _).mono ?_; rintro e w' ⟨rfl, rfl⟩))
  have q1 := HB1.size
  have q2 := HB2.size
  have q4 := HB4.size
  have q5 := HB5.size
  have HBx : Below w.heap.size w w5 := ((HB1.trans (HB2.mono q1)).trans (HB4.mono (by omega))).trans (HB5.mono (by omega))
  clear HB1 HB2 HB3 HB4 HB5 HO2 HO3 HO4 hr2 hr4 hx1 hx2 hx3 hx4 HG HZ
  by_cases he : getErr ms = 0
  · obtain ⟨p1, p2, p3⟩ := put_get ms he
    have hu := getNum_lt ms he
    have e1 : gN ms = getNum ms := by rw [gN, if_pos he]
    have e2 : gK ms = ones8 (oct0 ms) + 1 := by rw [gK, if_pos he]
    have hPu := Put_any (getNum ms) hu
    rw [p1] at hPu
    rw [e1, e2, he] at HM5
    obtain ⟨j, hj⟩ : ∃ j, ones8 (oct0 ms) + 1 = j := ⟨_, rfl⟩
    have hj1 : 1 ≤ j := by omega
    rw [hj] at p2 HM5 hPu
    obtain ⟨u, hu2⟩ : ∃ u, getNum ms = u := ⟨_, rfl⟩
    rw [hu2] at HM5 hPu
    have hlj : (ms.take j).length = j := by simp; omega
    have hrt := hx5.take j p2
    have HLJ := hide hlj
    have hca := hx5.le
    clear p1 p3 e1 e2 he hj hu hu2 hlj
    refine HM5.mono ?_
    rintro e w6 ⟨rfl, HB6⟩
    have hsl : ∀ W, (Instr.slice 23 (.slice A ms.length ca) none (some (.int .i64 (j : Int))) none).run Try.prog W = .ok (.slice A j ca) W := fun W => slice_hi 23 5 Try.underlying23 (i := _) rfl rfl A ms.length ca j (by omega) W
    go_wp2_with (first | (go_at_call 13; refine (num_any _ _).mono ?_; rintro e w' ⟨rfl, rfl⟩))
    have hrt6 := hrt.below HB6
    have hx6 := hx5.below HB6
    have hj1i : (1 : Int) ≤ (j : Int) := by omega
    have hjl : (j : Int) ≤ (ms.length : Int) := by omega
    clear hP hS HM hrt hx hx5 hg4 hat4
    have hPu6 : ∀ W, Below w6.heap.size w6 W → Calls Try.prog 10 #[.int .u64 (u : Int)] W fun e w' => ∃ A7 c7, e = .returned (.slice A7 j c7) ∧ RdB w' A7 c7 (ms.take j) ∧ Below w6.heap.size w6 w' := fun W hW => (hPu W).mono (by rintro e w7 ⟨v7, rfl, HO7, HB7⟩; obtain ⟨A7, c7, rfl, hr7⟩ := HO7.rd; rw [HLJ.out]; exact ⟨A7, c7, rfl, hr7, hW.trans (HB7.mono hW.size)⟩)
    clear hPu
    go_region_held3 (fun w' => Below w6.heap.size w6 w') (first | exact (Below.refl _ _).drew | assumption)
      (first | (go_at_call 10; refine (hPu6 _ (by assumption)).mono ?_; rintro e w7 ⟨A7, c7, rfl, hr7, HB7⟩; have hS7 := SameBytes_at A7 A c7 ca j j _ _ w7 HLJ.out HLJ.out hr7 (hrt6.below HB7)) | (go_at_call 15; refine hS7.mono ?_; rintro e w' ⟨rfl, rfl⟩))
    go_wp2
    go_ret
    exact ⟨by simp, HBx.trans ((by assumption : Below w6.heap.size w6 _).mono (by have := HB6.size; omega) |> fun h => (HB6.mono (by omega)).trans h)⟩
  · have e1 : gN ms = 0 := by rw [gN, if_neg he]
    have e2 : gK ms = 0 := by rw [gK, if_neg he]
    rw [e1, e2] at HM5
    obtain ⟨x, hx⟩ : ∃ x, getErr ms = x := ⟨_, rfl⟩
    rw [hx] at HM5 he
    have hxi : ¬ (x : Int) = 0 := by omega
    clear e1 e2 hx
    refine HM5.mono ?_
    rintro e w6 ⟨rfl, HB6⟩
    go_wp2_with (first | (go_at_call 13; refine (num_any _ _).mono ?_; rintro e w' ⟨rfl, rfl⟩))
    go_ret
    exact ⟨by simp, HBx.trans (HB6.mono (by omega))⟩
end Go.Proofs.Ytckflapblbiniaa
