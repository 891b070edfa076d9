/- Backoff: the walks of Due and Total, and the reference's; alive. -/
import Derived.Test.YtahocnnnipaejaaBoC
namespace Go.Proofs.Ytahocnnnipaejaa
open Go.RowKit Go.Proofs.YtahocnnnipaejaaW.PrintWords
set_option linter.unusedVariables false

def dueOk (b c t now k : Int) : Prop := okL b c t ∧ 0 ≤ k ∧ 0 ≤ now ∧ now < 32503680000 ∧ now + dl b c k < 32503680000
instance (b c t now k : Int) : Decidable (dueOk b c t now k) := by unfold dueOk; exact inferInstance
def dueN (b c t now k : Int) : Int := if dueOk b c t now k then now + dl b c k else 0
def dueE (b c t now k : Int) : Int := if dueOk b c t now k then 0 else 4
theorem dl_bounds {b c t : Int} (h : okL b c t) (k : Int) : b ≤ dl b c k ∧ dl b c k ≤ c := by
  obtain ⟨h1, h2, h3, h4, h5, h6⟩ := h
  have hp : (0 : Int) < 2 ^ k.toNat := Int.pow_pos (by decide)
  have hm : b * 1 ≤ b * 2 ^ k.toNat := Int.mul_le_mul_of_nonneg_left (by omega) (by omega)
  unfold dl
  omega
theorem del_cases (b c t k : Int) : (okL b c t ∧ 0 ≤ k ∧ delN b c t k = dl b c k ∧ delE b c t k = 0) ∨ (¬ (okL b c t ∧ 0 ≤ k) ∧ delN b c t k = 0 ∧ delE b c t k = 4) := by
  by_cases h : okL b c t ∧ 0 ≤ k
  · exact .inl ⟨h.1, h.2, by rw [delN, if_pos h], by rw [delE, if_pos h]⟩
  · exact .inr ⟨h, by rw [delN, if_neg h], by rw [delE, if_neg h]⟩
theorem due_yes {b c t now k : Int} (h : dueOk b c t now k) : dueN b c t now k = now + dl b c k ∧ dueE b c t now k = 0 := ⟨by rw [dueN, if_pos h], by rw [dueE, if_pos h]⟩
theorem due_no {b c t now k : Int} (h : ¬ dueOk b c t now k) : dueN b c t now k = 0 ∧ dueE b c t now k = 4 := ⟨by rw [dueN, if_neg h], by rw [dueE, if_neg h]⟩
set_option maxHeartbeats 400000 in
theorem Due_any (b c t now k : Int) (hn : -9223372036854775808 ≤ now ∧ now ≤ 9223372036854775807) (w : World) : Calls Try.prog 14 #[lim b c t, .int .i64 now, .int .i64 k] w fun e w' => e = .returned (.tuple #[.int .i64 (dueN b c t now k), .int .i64 (dueE b c t now k)]) ∧ Below w.heap.size w w' := by
  have HD := Delay_any b c t k
  obtain ⟨z, hz⟩ : ∃ z, dueN b c t now k = z := ⟨_, rfl⟩
  obtain ⟨x, hx⟩ : ∃ x, dueE b c t now k = x := ⟨_, rfl⟩
  have HY : Hid (dueOk b c t now k → z = now + dl b c k ∧ x = 0) := fun h => by have := due_yes h; rw [hz, hx] at this; exact this
  have HN : Hid (¬ dueOk b c t now k → z = 0 ∧ x = 4) := fun h => by have := due_no h; rw [hz, hx] at this; exact this
  rw [hz, hx]
  clear hz hx
  rcases del_cases b c t k with ⟨hok, hk, e1, e2⟩ | ⟨hno, e1, e2⟩
  · have hb := dl_bounds hok k
    have hok' := hok
    obtain ⟨h1, h2, h3, h4, h5, h6⟩ := hok'
    rw [e1, e2] at HD
    have HOK : Hid (0 ≤ now ∧ now < 32503680000 ∧ now + dl b c k < 32503680000 → dueOk b c t now k) := fun h => ⟨hok, hk, h⟩
    have HOQ : Hid (dueOk b c t now k → 0 ≤ now ∧ now < 32503680000 ∧ now + dl b c k < 32503680000) := fun h => h.2.2
    clear e1 e2 hok
    generalize dl b c k = d at *
    generalize dueOk b c t now k = P at *
    unfold lim at *
    go_enter Try.func14, Try.ntmps14
    go_wp2_with (first | (go_at_call 9; refine (HD _).mono ?_; rintro e w1 ⟨rfl, HB1⟩; obtain ⟨hc0, hc1, hc2, hcB⟩ := boxed HB1; clear HB1))
    all_goals (go_ret2)
    all_goals first
      | (obtain ⟨rfl, rfl⟩ := HY.out (HOK.out (by omega)); exact ⟨rfl, hcB⟩)
      | (obtain ⟨rfl, rfl⟩ := HN.out (fun h => by have := HOQ.out h; omega); exact ⟨rfl, hcB⟩)
  · rw [e1, e2] at HD
    have hno2 : ¬ dueOk b c t now k := fun h => hno ⟨h.1, h.2.1⟩
    obtain ⟨rfl, rfl⟩ := HN.out hno2
    clear HY HN e1 e2
    unfold lim at *
    go_enter Try.func14, Try.ntmps14
    go_wp2_with (first | (go_at_call 9; refine (HD _).mono ?_; rintro e w1 ⟨rfl, HB1⟩; obtain ⟨hc0, hc1, hc2, hcB⟩ := boxed HB1; clear HB1))
    go_ret2
    exact ⟨rfl, hcB⟩
set_option maxHeartbeats 400000 in
theorem rDue_any (b c t now k : Int) (hkm : k ≤ 9223372036854775807) (hn : -9223372036854775808 ≤ now ∧ now ≤ 9223372036854775807) (w : World) : Calls Try.prog 15 #[lim b c t, .int .i64 now, .int .i64 k] w fun e w' => e = .returned (.tuple #[.int .i64 (dueN b c t now k), .int .i64 (dueE b c t now k)]) ∧ Below w.heap.size w w' := by
  have HD := rDelay_any b c t k hkm
  obtain ⟨z, hz⟩ : ∃ z, dueN b c t now k = z := ⟨_, rfl⟩
  obtain ⟨x, hx⟩ : ∃ x, dueE b c t now k = x := ⟨_, rfl⟩
  have HY : Hid (dueOk b c t now k → z = now + dl b c k ∧ x = 0) := fun h => by have := due_yes h; rw [hz, hx] at this; exact this
  have HN : Hid (¬ dueOk b c t now k → z = 0 ∧ x = 4) := fun h => by have := due_no h; rw [hz, hx] at this; exact this
  rw [hz, hx]
  clear hz hx
  rcases del_cases b c t k with ⟨hok, hk, e1, e2⟩ | ⟨hno, e1, e2⟩
  · have hb := dl_bounds hok k
    have hok' := hok
    obtain ⟨h1, h2, h3, h4, h5, h6⟩ := hok'
    rw [e1, e2] at HD
    have HOK : Hid (0 ≤ now ∧ now < 32503680000 ∧ now + dl b c k < 32503680000 → dueOk b c t now k) := fun h => ⟨hok, hk, h⟩
    have HOQ : Hid (dueOk b c t now k → 0 ≤ now ∧ now < 32503680000 ∧ now + dl b c k < 32503680000) := fun h => h.2.2
    clear e1 e2 hok
    generalize dl b c k = d at *
    generalize dueOk b c t now k = P at *
    unfold lim at *
    go_enter Try.func15, Try.ntmps15
    go_wp2_with (first | (go_at_call 13; refine (HD _).mono ?_; rintro e w1 ⟨rfl, HB1⟩; obtain ⟨hc0, hc1, hc2, hcB⟩ := boxed HB1; clear HB1))
    all_goals (go_ret2)
    all_goals first
      | (obtain ⟨rfl, rfl⟩ := HY.out (HOK.out (by omega)); exact ⟨rfl, hcB⟩)
      | (obtain ⟨rfl, rfl⟩ := HN.out (fun h => by have := HOQ.out h; omega); exact ⟨rfl, hcB⟩)
  · rw [e1, e2] at HD
    have hno2 : ¬ dueOk b c t now k := fun h => hno ⟨h.1, h.2.1⟩
    obtain ⟨rfl, rfl⟩ := HN.out hno2
    clear HY HN e1 e2
    unfold lim at *
    go_enter Try.func15, Try.ntmps15
    go_wp2_with (first | (go_at_call 13; refine (HD _).mono ?_; rintro e w1 ⟨rfl, HB1⟩; obtain ⟨hc0, hc1, hc2, hcB⟩ := boxed HB1; clear HB1))
    go_ret2
    exact ⟨rfl, hcB⟩
def sumD (b c : Int) : Nat → Int
  | 0 => 0
  | n + 1 => sumD b c n + dl b c (n : Int)
def totN (b c t : Int) : Int := if okL b c t then sumD b c (t - 1).toNat else 0
theorem sumD_bounds {b c t : Int} (h : okL b c t) (n : Nat) (hn : n ≤ 15) : 0 ≤ sumD b c n ∧ sumD b c n ≤ 1073741824 * 15 := by
  have hh : ∀ n, 0 ≤ sumD b c n ∧ sumD b c n ≤ 1073741824 * (n : Int) := by
    intro n
    induction n with
    | zero => simp [sumD]
    | succ n ih =>
      have := dl_bounds h (n : Int)
      obtain ⟨h1, h2, h3, h4, h5, h6⟩ := h
      simp only [sumD]
      omega
  have := hh n
  omega
set_option maxHeartbeats 400000 in
theorem Total_any (b c t : Int) (w : World) : Calls Try.prog 11 #[lim b c t] w fun e w' => e = .returned (.tuple #[.int .i64 (totN b c t), .int .i64 (chk b c t)]) ∧ Below w.heap.size w w' := by
  by_cases hok : okL b c t
  · have HC := Check_any b c t
    have hk := chk_ok hok
    have e1 : totN b c t = sumD b c (t - 1).toNat := by rw [totN, if_pos hok]
    rw [hk] at HC
    rw [hk, e1]
    clear hk e1
    have HD : ∀ (n : Nat) (w : World), Calls Try.prog 9 #[lim b c t, .int .i64 (n : Int)] w fun e w' => e = .returned (.tuple #[.int .i64 (dl b c (n : Int)), .int .i64 0]) ∧ Below w.heap.size w w' := fun n w => by
      have := Delay_any b c t n w
      rwa [delN, if_pos ⟨hok, by omega⟩, delE, if_pos ⟨hok, by omega⟩] at this
    have hsb := fun n hn => sumD_bounds hok n hn
    have hok' := hok
    obtain ⟨h1, h2, h3, h4, h5, h6⟩ := hok'
    obtain ⟨m, rfl⟩ : ∃ m : Nat, t = (m : Int) + 1 := ⟨(t - 1).toNat, by omega⟩
    rw [show ((m : Int) + 1 - 1).toNat = m by omega]
    unfold lim at *
    go_enter Try.func11, Try.ntmps11
    go_wp2_with (first | (go_at_call 17; refine (HC _).mono ?_; rintro e w1 ⟨rfl, HB1⟩; obtain ⟨hc0, hc1, hc2, hcB⟩ := boxed HB1))
    go_loopw [2, 16] (fun s i wr => ∃ k : Nat, k ≤ m ∧ i = .int .i64 (k : Int) ∧ s = .int .i64 (sumD b c k) ∧ Below (w.alloc (.cells #[.int .i64 b, .int .i64 c, .int .i64 ((m : Int) + 1)] 28)).heap.size (w.alloc (.cells #[.int .i64 b, .int .i64 c, .int .i64 ((m : Int) + 1)] 28)) wr) (fun _ i _ => m - (intOf i).toNat)
    case atStart => exact ⟨0, by omega, rfl, rfl, HB1⟩
    case round =>
      obtain ⟨k, hk, rfl, rfl, HB⟩ := hrel
      obtain ⟨hd0, hd1, hd2, hdB⟩ := boxed HB
      by_cases hlt : k < m
      · have hs1 := hsb k (by omega)
        have hs2 := hsb (k + 1) (by omega)
        have hsd : sumD b c k + dl b c (k : Int) = sumD b c (k + 1) := rfl
        have HSD := hide hsd
        have hlm : (k : Int) < (m : Int) + 1 - 1 := by omega
        obtain ⟨d, hd⟩ : ∃ d, dl b c (k : Int) = d := ⟨_, rfl⟩
        obtain ⟨s0, hs0⟩ : ∃ s0, sumD b c k = s0 := ⟨_, rfl⟩
        have HDK := HD k
        rw [hd] at HDK HSD hsd
        rw [hs0] at HSD hs1 hsd ⊢
        rw [← hsd] at hs2
        clear hsb hsd hs0 hd HD HC
        go_wp2_with (first | (go_at_call 9; refine (HDK _).mono ?_; rintro e w2 ⟨rfl, HB2⟩))
        go_roundw
        case rel => exact ⟨k + 1, by omega, by go_num, by rw [HSD.out], HB.trans (HB2.mono HB.size)⟩
        case measure => simp [intOf]; omega
      · obtain rfl : k = m := by omega
        go_wp2
        go_ret2
        exact ⟨rfl, hdB⟩
  · have HC := Check_any b c t
    rw [chk_no hok] at HC
    have e1 : totN b c t = 0 := by rw [totN, if_neg hok]
    rw [e1, chk_no hok]
    unfold lim at *
    go_enter Try.func11, Try.ntmps11
    go_wp2_with (first | (go_at_call 17; refine (HC _).mono ?_; rintro e w1 ⟨rfl, HB1⟩; obtain ⟨hc0, hc1, hc2, hcB⟩ := boxed HB1; clear HB1))
    go_ret2
    exact ⟨rfl, hcB⟩
end Go.Proofs.Ytahocnnnipaejaa
