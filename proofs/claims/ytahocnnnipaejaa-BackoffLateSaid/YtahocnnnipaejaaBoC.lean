/- Backoff: the walk of the reference's Delay. -/
import Derived.Test.YtahocnnnipaejaaBoB
namespace Go.Proofs.Ytahocnnnipaejaa
open Go.RowKit Go.Proofs.YtahocnnnipaejaaW.PrintWords
set_option linter.unusedVariables false

theorem mul_pow_mono (b : Int) (h : 0 ≤ b) (m j : Nat) (hmj : m ≤ j) : b * 2 ^ m ≤ b * 2 ^ j := by
  have h1 : ((2 ^ m : Nat) : Int) ≤ ((2 ^ j : Nat) : Int) := by exact_mod_cast Nat.pow_le_pow_right (by omega) hmj
  have e : ∀ k : Nat, ((2 ^ k : Nat) : Int) = 2 ^ k := fun k => by simp
  rw [e, e] at h1
  exact Int.mul_le_mul_of_nonneg_left h1 h
set_option maxHeartbeats 400000 in
theorem rDelay_any (b c t k : Int) (hkm : k ≤ 9223372036854775807) (w : World) : Calls Try.prog 13 #[lim b c t, .int .i64 k] w fun e w' => e = .returned (.tuple #[.int .i64 (delN b c t k), .int .i64 (delE b c t k)]) ∧ Below w.heap.size w w' := by
  by_cases hok : okL b c t
  · have hk := chk_ok hok
    have HC := rCheck_any b c t
    rw [hk] at HC
    clear hk
    have hok' := hok
    obtain ⟨h1, h2, h3, h4, h5, h6⟩ := hok'
    by_cases h0 : 0 ≤ k
    · have e1 : delN b c t k = dl b c k := by rw [delN, if_pos ⟨hok, h0⟩]
      have e2 : delE b c t k = 0 := by rw [delE, if_pos ⟨hok, h0⟩]
      rw [e1, e2]
      obtain ⟨j, rfl⟩ : ∃ j : Nat, k = (j : Int) := ⟨k.toNat, by omega⟩
      obtain ⟨z, hz⟩ : ∃ z, dl b c (j : Int) = z := ⟨_, rfl⟩
      rw [hz]
      have HZ := hide hz
      clear hz e1 e2 hok
      unfold lim at *
      go_enter Try.func13, Try.ntmps13
      go_wp2_with (first | (go_at_call 12; refine (HC _).mono ?_; rintro e w1 ⟨rfl, HB1⟩; obtain ⟨hc0, hc1, hc2, hcB⟩ := boxed HB1; clear HB1))
      go_loop [6, 7] (fun d i => ∃ (m : Nat) (x : Int), m ≤ j ∧ i = .int .i64 (m : Int) ∧ d = .int .i64 x ∧ x = b * 2 ^ m ∧ x ≤ 2147483648) (fun _ i => j - (intOf i).toNat)
      case atStart => exact ⟨0, b, by omega, rfl, rfl, by simp, by omega⟩
      case round =>
        obtain ⟨m, x, hm, rfl, rfl, hx, hxl⟩ := hrel
        have hpos : 0 ≤ x := by
          have : (0 : Int) < 2 ^ m := Int.pow_pos (by decide)
          rw [hx]
          exact Int.mul_nonneg (by omega) (by omega)
        have HX := hide hx
        clear hx
        by_cases hlt : m < j
        · have hli : (m : Int) < (j : Int) := by omega
          by_cases hc : x < c
          · go_wp2
            go_round
            case rel => exact ⟨m + 1, 2 * x, by omega, by go_num, by go_num, by rw [HX.out, Int.pow_succ]; rw [Int.mul_comm 2, Int.mul_assoc], by omega⟩
            case measure => simp [intOf]; omega
          · go_wp2
            go_ret2
            have hz : z = min x c := by
              have hm := mul_pow_mono b (by omega) m j (by omega)
              rw [← HX.out] at hm
              rw [← HZ.out, dl, Int.toNat_natCast]
              omega
            exact ⟨by rw [hz]; rfl, hcB⟩
        · obtain rfl : m = j := by omega
          go_wp2
          go_ret2
          have hz : z = min x c := by
            rw [← HZ.out, dl, Int.toNat_natCast, ← HX.out]
            omega
          exact ⟨by rw [hz]; rfl, hcB⟩
    · have e1 : delN b c t k = 0 := by rw [delN, if_neg (fun h => h0 h.2)]
      have e2 : delE b c t k = 4 := by rw [delE, if_neg (fun h => h0 h.2)]
      rw [e1, e2]
      unfold lim at *
      go_enter Try.func13, Try.ntmps13
      go_wp2_with (first | (go_at_call 12; refine (HC _).mono ?_; rintro e w1 ⟨rfl, HB1⟩; obtain ⟨hc0, hc1, hc2, hcB⟩ := boxed HB1; clear HB1))
      go_ret2
      exact ⟨rfl, hcB⟩
  · have HC := rCheck_any b c t
    rw [chk_no hok] at HC
    have e1 : delN b c t k = 0 := by rw [delN, if_neg (fun h => hok h.1)]
    have e2 : delE b c t k = 4 := by rw [delE, if_neg (fun h => hok h.1)]
    rw [e1, e2]
    unfold lim at *
    go_enter Try.func13, Try.ntmps13
    go_wp2_with (first | (go_at_call 12; refine (HC _).mono ?_; rintro e w1 ⟨rfl, HB1⟩; obtain ⟨hc0, hc1, hc2, hcB⟩ := boxed HB1; clear HB1))
    go_ret2
    exact ⟨rfl, hcB⟩
end Go.Proofs.Ytahocnnnipaejaa
