/- The walk of BackoffSums. -/
import Derived.Test.YtahocnnnipaejaaBoF
namespace Go.Proofs.Ytahocnnnipaejaa
open Go.RowKit Go.Proofs.YtahocnnnipaejaaW.PrintWords
set_option linter.unusedVariables false

set_option maxHeartbeats 800000 in
theorem sums_walk (b c t : Int) (w : World) (wb : (Lit.int .i64 b).wf = true) (wc : (Lit.int .i64 c).wf = true) (wt : (Lit.int .i64 t).wf = true) :
    Calls Try.prog 4 #[lim b c t] w fun e w' => e = .returned (.bool true) ∧ Below w.heap.size w w' := by
  clear wb wc wt
  have H1 := Total_any b c t
  have H8 := rCheck_any b c t
  by_cases hok : okL b c t
  · have HD : ∀ (n : Nat) (w : World), Calls Try.prog 9 #[lim b c t, .int .i64 (n : Int)] w fun e w' => e = .returned (.tuple #[.int .i64 (dl b c (n : Int)), .int .i64 0]) ∧ Below w.heap.size w w' := fun n w => by
      have := Delay_any b c t n w
      rwa [delN, if_pos ⟨hok, by omega⟩, delE, if_pos ⟨hok, by omega⟩] at this
    have e1 : totN b c t = sumD b c (t - 1).toNat := by rw [totN, if_pos hok]
    rw [e1, chk_ok hok] at H1
    have hsb := fun n hn => sumD_bounds hok n hn
    obtain ⟨h1, h2, h3, h4, h5, h6⟩ := hok
    obtain ⟨m, rfl⟩ : ∃ m : Nat, t = (m : Int) + 1 := ⟨(t - 1).toNat, by omega⟩
    rw [show ((m : Int) + 1 - 1).toNat = m by omega] at H1
    clear e1 H8
    unfold lim at *
    go_enter Try.func4, Try.ntmps4
    go_wp2_with (first | (go_at_call 8; refine (alive_any _).mono ?_; rintro e w1 ⟨rfl, HB1⟩; obtain ⟨p0, p1, p2, hcB⟩ := boxed HB1) | (go_at_call 11; refine (H1 _).mono ?_; rintro e w2 ⟨rfl, HC2⟩; have HB2 := HB1.trans (HC2.mono HB1.size); obtain ⟨q0, q1, q2, hcB2⟩ := boxed HB2) | (go_at_call 10; refine (num_any _ _).mono ?_; rintro e w' ⟨rfl, rfl⟩))
    generalize hgs : sumD b c m = s9
    have HGS := hide hgs
    clear hgs
    go_loopw [5, 6] (fun s i wr => ∃ k : Nat, k ≤ m ∧ i = .int .i64 (k : Int) ∧ s = .int .i64 (sumD b c k) ∧ Below (w.alloc (.cells #[.int .i64 b, .int .i64 c, .int .i64 ((m : Int) + 1)] 23)).heap.size (w.alloc (.cells #[.int .i64 b, .int .i64 c, .int .i64 ((m : Int) + 1)] 23)) wr) (fun _ i _ => m - (intOf i).toNat)
    case atStart => exact ⟨0, by omega, rfl, rfl, HB2⟩
    case round =>
      obtain ⟨k, hk, rfl, rfl, HB⟩ := hrel
      obtain ⟨r0, r1, r2, rB⟩ := boxed HB
      by_cases hlt : k < m
      · have hs1 := hsb k (by omega)
        have hs2 := hsb (k + 1) (by omega)
        have hsd : sumD b c k + dl b c (k : Int) = sumD b c (k + 1) := rfl
        have HSD := hide hsd
        have hlm : (k : Int) < (m : Int) + 1 - 1 := by omega
        have hl20 : (k : Int) < 20 := by omega
        obtain ⟨d, hd⟩ : ∃ d, dl b c (k : Int) = d := ⟨_, rfl⟩
        obtain ⟨s0, hs0⟩ : ∃ s0, sumD b c k = s0 := ⟨_, rfl⟩
        have HDK := HD k
        rw [hd] at HDK HSD hsd
        rw [hs0] at HSD hs1 hsd ⊢
        rw [← hsd] at hs2
        clear hsb hsd hs0 hd HD H1
        go_wp2_with (first | (go_at_call 9; refine (HDK _).mono ?_; rintro e w5 ⟨rfl, HC5⟩) | (go_at_call 10; refine (num_any _ _).mono ?_; rintro e w' ⟨rfl, rfl⟩))
        go_roundw
        case rel => exact ⟨k + 1, by omega, by go_num, by rw [HSD.out], HB.trans (HC5.mono HB.size)⟩
        case measure => simp [intOf]; omega
      · obtain rfl : k = m := by omega
        rw [HGS.out]
        go_wp2
        go_ret
        exact ⟨by simp, rB⟩
  · rw [chk_no hok] at H1 H8
    have e1 : totN b c t = 0 := by rw [totN, if_neg hok]
    rw [e1] at H1
    unfold lim at *
    go_enter Try.func4, Try.ntmps4
    go_wp2_with (first | (go_at_call 8; refine (alive_any _).mono ?_; rintro e w1 ⟨rfl, HB1⟩; obtain ⟨p0, p1, p2, hcB⟩ := boxed HB1) | (go_at_call 11; refine (H1 _).mono ?_; rintro e w2 ⟨rfl, HC2⟩; have HB2 := HB1.trans (HC2.mono HB1.size); obtain ⟨q0, q1, q2, hcB2⟩ := boxed HB2) | (go_at_call 12; refine (H8 _).mono ?_; rintro e w3 ⟨rfl, HC3⟩) | (go_at_call 10; refine (num_any _ _).mono ?_; rintro e w' ⟨rfl, rfl⟩))
    go_ret
    exact ⟨rfl, hcB2.trans (HC3.mono hcB2.size)⟩
end Go.Proofs.Ytahocnnnipaejaa
