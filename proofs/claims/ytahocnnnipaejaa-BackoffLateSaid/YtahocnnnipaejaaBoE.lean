/- Backoff: the reference's Total; alive. -/
import Derived.Test.YtahocnnnipaejaaBoD
namespace Go.Proofs.Ytahocnnnipaejaa
open Go.RowKit Go.Proofs.YtahocnnnipaejaaW.PrintWords
set_option linter.unusedVariables false

set_option maxHeartbeats 400000 in
theorem rTotal_any (b c t : Int) (w : World) : Calls Try.prog 16 #[lim b c t] w fun e w' => e = .returned (.tuple #[.int .i64 (totN b c t), .int .i64 (chk b c t)]) ∧ Below w.heap.size w w' := by
  by_cases hok : okL b c t
  · have HC := rCheck_any b c t
    have hk := chk_ok hok
    have e1 : totN b c t = sumD b c (t - 1).toNat := by rw [totN, if_pos hok]
    rw [hk] at HC
    rw [hk, e1]
    clear hk e1
    have HD : ∀ (n : Nat) (hn : n ≤ 100) (w : World), Calls Try.prog 13 #[lim b c t, .int .i64 (n : Int)] w fun e w' => e = .returned (.tuple #[.int .i64 (dl b c (n : Int)), .int .i64 0]) ∧ Below w.heap.size w w' := fun n hn w => by
      have := rDelay_any b c t n (by omega) w
      rwa [delN, if_pos ⟨hok, by omega⟩, delE, if_pos ⟨hok, by omega⟩] at this
    have hsb := fun n hn => sumD_bounds hok n hn
    have hok' := hok
    obtain ⟨h1, h2, h3, h4, h5, h6⟩ := hok'
    obtain ⟨m, rfl⟩ : ∃ m : Nat, t = (m : Int) + 1 := ⟨(t - 1).toNat, by omega⟩
    rw [show ((m : Int) + 1 - 1).toNat = m by omega]
    unfold lim at *
    go_enter Try.func16, Try.ntmps16
    go_wp2_with (first | (go_at_call 12; refine (HC _).mono ?_; rintro e w1 ⟨rfl, HB1⟩; obtain ⟨hc0, hc1, hc2, hcB⟩ := boxed HB1))
    go_loopw [4, 5] (fun s i wr => ∃ k : Nat, k ≤ m ∧ i = .int .i64 (k : Int) ∧ s = .int .i64 (sumD b c k) ∧ Below (w.alloc (.cells #[.int .i64 b, .int .i64 c, .int .i64 ((m : Int) + 1)] 23)).heap.size (w.alloc (.cells #[.int .i64 b, .int .i64 c, .int .i64 ((m : Int) + 1)] 23)) wr) (fun _ i _ => m - (intOf i).toNat)
    case atStart => exact ⟨0, by omega, rfl, rfl, HB1⟩
    case round =>
      obtain ⟨k, hk, rfl, rfl, HB⟩ := hrel
      obtain ⟨hd0, hd1, hd2, hdB⟩ := boxed HB
      by_cases hlt : k < m
      · have hs1 := hsb k (by omega)
        have hs2 := hsb (k + 1) (by omega)
        have hsd : sumD b c k + dl b c (k : Int) = sumD b c (k + 1) := rfl
        have HSD := hide hsd
        have hlm : (k : Int) ≤ (m : Int) + 1 - 2 := by omega
        obtain ⟨d, hd⟩ : ∃ d, dl b c (k : Int) = d := ⟨_, rfl⟩
        obtain ⟨s0, hs0⟩ : ∃ s0, sumD b c k = s0 := ⟨_, rfl⟩
        have HDK := HD k (by omega)
        rw [hd] at HDK HSD hsd
        rw [hs0] at HSD hs1 hsd ⊢
        rw [← hsd] at hs2
        clear hsb hsd hs0 hd HD HC
        go_wp2_with (first | (go_at_call 13; refine (HDK _).mono ?_; rintro e w2 ⟨rfl, HB2⟩))
        go_roundw
        case rel => exact ⟨k + 1, by omega, by go_num, by rw [HSD.out], HB.trans (HB2.mono HB.size)⟩
        case measure => simp [intOf]; omega
      · obtain rfl : k = m := by omega
        go_wp2
        go_ret2
        exact ⟨rfl, hdB⟩
  · have HC := rCheck_any b c t
    rw [chk_no hok] at HC
    have e1 : totN b c t = 0 := by rw [totN, if_neg hok]
    rw [e1, chk_no hok]
    unfold lim at *
    go_enter Try.func16, Try.ntmps16
    go_wp2_with (first | (go_at_call 12; refine (HC _).mono ?_; rintro e w1 ⟨rfl, HB1⟩; obtain ⟨hc0, hc1, hc2, hcB⟩ := boxed HB1; clear HB1))
    go_ret2
    exact ⟨rfl, hcB⟩
theorem delay_at (b c t k d : Int) (h : okL b c t) (h0 : 0 ≤ k) (hd : dl b c k = d) (w : World) : Calls Try.prog 9 #[lim b c t, .int .i64 k] w fun e w' => e = .returned (.tuple #[.int .i64 d, .int .i64 0]) ∧ Below w.heap.size w w' := by
  have := Delay_any b c t k w
  rwa [delN, if_pos ⟨h, h0⟩, delE, if_pos ⟨h, h0⟩, hd] at this
set_option maxHeartbeats 400000 in
theorem alive_any (w : World) : Calls Try.prog 8 #[] w fun e w' => e = .returned (.bool true) ∧ Below w.heap.size w w' := by
  have hok : okL 3 20 6 := by decide
  have h2 := delay_at 3 20 6 2 12 hok (by decide) (by decide)
  have h3 := delay_at 3 20 6 3 20 hok (by decide) (by decide)
  have hT := Total_any 3 20 6
  rw [chk_ok hok, show totN 3 20 6 = 61 by decide] at hT
  unfold lim at *
  go_enter Try.func8, Try.ntmps8
  go_wp2_with (first | (go_at_call_of 9 (Value.int .i64 2); refine (h2 _).mono ?_; rintro e w1 ⟨rfl, HB1⟩; obtain ⟨hc0, hc1, hc2, hcB⟩ := boxed HB1) | (go_at_call_of 9 (Value.int .i64 3); refine (h3 _).mono ?_; rintro e w2 ⟨rfl, HB2⟩; have HB12 := HB1.trans (HB2.mono HB1.size); obtain ⟨hd0, hd1, hd2, hdB⟩ := boxed HB12) | (go_at_call 11; refine (hT _).mono ?_; rintro e w3 ⟨rfl, HB3⟩) | (go_at_call 10; refine (num_any _ _).mono ?_; rintro e w' ⟨rfl, rfl⟩))
  go_ret
  exact ⟨rfl, hdB.trans (HB3.mono hdB.size)⟩
end Go.Proofs.Ytahocnnnipaejaa
