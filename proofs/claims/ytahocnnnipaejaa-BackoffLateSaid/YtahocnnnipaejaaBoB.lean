/- Backoff: the walks of Delay. -/
import Derived.Test.YtahocnnnipaejaaBoA
import Derived.Test.YtahocnnnipaejaaSh_math_bits_Len
import Derived.Lib.ItoaNum
namespace Go.Proofs.Ytahocnnnipaejaa
open Go.RowKit Go.Proofs.YtahocnnnipaejaaW.PrintWords
set_option linter.unusedVariables false

/-- the delay behind the k-th failure -/
def dl (b c k : Int) : Int := min c (b * 2 ^ k.toNat)
def delN (b c t k : Int) : Int := if okL b c t ∧ 0 ≤ k then dl b c k else 0
def delE (b c t k : Int) : Int := if okL b c t ∧ 0 ≤ k then 0 else 4
theorem pow_le31 (k : Nat) (h : k ≤ 31) : (2 : Int) ^ k ≤ 2147483648 := by
  have hh : ∀ k : Fin 32, (2 : Int) ^ k.val ≤ 2147483648 := by decide
  exact hh ⟨k, by omega⟩
theorem mul_pow_le (b : Int) (h0 : 1 ≤ b) (h1 : b ≤ 1048576) (k : Nat) (h : k ≤ 31) : 1 ≤ b * 2 ^ k ∧ b * 2 ^ k ≤ 2251799813685248 := by
  have hp := pow_le31 k h
  have hq : (1 : Int) ≤ 2 ^ k := by
    have : (0 : Int) < 2 ^ k := Int.pow_pos (by decide)
    omega
  constructor
  · have := Int.mul_le_mul h0 hq (by omega) (by omega)
    omega
  · have := Int.mul_le_mul h1 hp (by omega) (by decide)
    omega
theorem beyond (b c : Int) (h0 : 1 ≤ b) (hc : 0 ≤ c) (hc2 : c ≤ 1073741824) (k : Nat) (h : Lib.bitLen c.toNat < k) : c ≤ b * 2 ^ k := by
  have hlt : c.toNat < 2 ^ k := by
    by_cases hz : c.toNat = 0
    · rw [hz]; exact Nat.two_pow_pos k
    · have hb := Lib.bitLenAux_bounds 64 c.toNat (by omega) hz
      exact Nat.lt_of_lt_of_le hb.2.2 (Nat.pow_le_pow_right (by omega) (Nat.le_of_lt h))
  have e : c < 2 ^ k := by
    have : (c.toNat : Int) < ((2 ^ k : Nat) : Int) := by exact_mod_cast hlt
    have e2 : ((2 ^ k : Nat) : Int) = 2 ^ k := by simp
    rw [e2] at this
    omega
  have hm : 1 * 2 ^ k ≤ b * 2 ^ k := Int.mul_le_mul_of_nonneg_right h0 (by have : (0 : Int) < 2 ^ k := Int.pow_pos (by decide); omega)
  omega
/-- the limits that lie in a variable just laid, a call behind -/
theorem boxed {w w1 : World} {b c t : Int} {ty : TypeId} (HB : Below (w.alloc (.cells #[.int .i64 b, .int .i64 c, .int .i64 t] ty)).heap.size (w.alloc (.cells #[.int .i64 b, .int .i64 c, .int .i64 t] ty)) w1) :
    w1.cell? ⟨w.heap.size, 0, none⟩ = some (.int .i64 b) ∧ w1.cell? ⟨w.heap.size, 1, none⟩ = some (.int .i64 c) ∧ w1.cell? ⟨w.heap.size, 2, none⟩ = some (.int .i64 t) ∧ Below w.heap.size w w1 := by
  have hs : w.heap.size < (w.alloc (.cells #[.int .i64 b, .int .i64 c, .int .i64 t] ty)).heap.size := by simp
  refine ⟨?_, ?_, ?_, ((Below.refl _ _).alloc (Nat.le_refl _) _).trans (HB.mono (by simp))⟩ <;> (rw [HB.cell hs, World.cell?_alloc_mark]; rfl)
set_option maxHeartbeats 400000 in
theorem Delay_any (b c t k : Int) (w : World) : Calls Try.prog 9 #[lim b c t, .int .i64 k] w fun e w' => e = .returned (.tuple #[.int .i64 (delN b c t k), .int .i64 (delE b c t k)]) ∧ Below w.heap.size w w' := by
  by_cases hok : okL b c t
  · have hk := chk_ok hok
    have HC := Check_any b c t
    rw [hk] at HC
    clear hk
    have hok' := hok
    obtain ⟨h1, h2, h3, h4, h5, h6⟩ := hok'
    have hbl : Lib.bitLen c.toNat ≤ 31 := Lib.bitLen_le c.toNat 31 (by omega) (by omega)
    by_cases h0 : 0 ≤ k
    · have e1 : delN b c t k = dl b c k := by rw [delN, if_pos ⟨hok, h0⟩]
      have e2 : delE b c t k = 0 := by rw [delE, if_pos ⟨hok, h0⟩]
      rw [e1, e2]
      obtain ⟨j, rfl⟩ : ∃ j : Nat, k = (j : Int) := ⟨k.toNat, by omega⟩
      have hL := bits_Len c
      obtain ⟨l, hl⟩ : ∃ l, Lib.bitLen c.toNat = l := ⟨_, rfl⟩
      rw [hl] at hL hbl
      obtain ⟨z, hz⟩ : ∃ z, dl b c (j : Int) = z := ⟨_, rfl⟩
      rw [hz]
      have HZ := hide hz
      have HLL := hide hl
      clear hz e1 e2 hl hok
      by_cases hgt : l < j
      · have hgi : (l : Int) < (j : Int) := by omega
        unfold lim at *
        go_enter Try.func9, Try.ntmps9
        go_wp2_with (first | (go_at_call 17; refine (HC _).mono ?_; rintro e w1 ⟨rfl, HB1⟩; obtain ⟨hc0, hc1, hc2, hcB⟩ := boxed HB1; clear HB1) | (go_at_call 18; refine (hL _ (by omega) (by omega)).mono ?_; rintro e w' ⟨rfl, rfl⟩))
        go_ret2
        exact ⟨by rw [← HZ.out, dl, Int.toNat_natCast, show min c (b * 2 ^ j) = c from Int.min_eq_left (beyond b c h1 (by omega) h4 j (by rw [HLL.out]; exact hgt))]; rfl, hcB⟩
      · have hgi : ¬ (l : Int) < (j : Int) := by omega
        have hmp := mul_pow_le b h1 h2 j (by omega)
        have hj64 : (j : Int) ≤ 64 := by omega
        have hwr : IntKind.i64.wrap (b * 2 ^ j) = b * 2 ^ j := by rw [IntKind.wrap_i64]; omega
        unfold lim at *
        go_enter Try.func9, Try.ntmps9
        go_wp2_with (first | (go_at_call 17; refine (HC _).mono ?_; rintro e w1 ⟨rfl, HB1⟩; obtain ⟨hc0, hc1, hc2, hcB⟩ := boxed HB1; clear HB1) | (go_at_call 18; refine (hL _ (by omega) (by omega)).mono ?_; rintro e w' ⟨rfl, rfl⟩))
        go_still (by kernel_rfl)
        change Exit.then _ _ _ _ w'.drew
        go_wp2
        go_ret2
        exact ⟨by rw [← HZ.out, dl, Int.toNat_natCast]; rfl, hcB.drew⟩
    · have e1 : delN b c t k = 0 := by rw [delN, if_neg (fun h => h0 h.2)]
      have e2 : delE b c t k = 4 := by rw [delE, if_neg (fun h => h0 h.2)]
      rw [e1, e2]
      unfold lim at *
      go_enter Try.func9, Try.ntmps9
      go_wp2_with (first | (go_at_call 17; refine (HC _).mono ?_; rintro e w1 ⟨rfl, HB1⟩; obtain ⟨hc0, hc1, hc2, hcB⟩ := boxed HB1; clear HB1))
      go_ret2
      exact ⟨rfl, hcB⟩
  · have HC := Check_any b c t
    rw [chk_no hok] at HC
    have e1 : delN b c t k = 0 := by rw [delN, if_neg (fun h => hok h.1)]
    have e2 : delE b c t k = 4 := by rw [delE, if_neg (fun h => hok h.1)]
    rw [e1, e2]
    unfold lim at *
    go_enter Try.func9, Try.ntmps9
    go_wp2_with (first | (go_at_call 17; refine (HC _).mono ?_; rintro e w1 ⟨rfl, HB1⟩; obtain ⟨hc0, hc1, hc2, hcB⟩ := boxed HB1; clear HB1))
    go_ret2
    exact ⟨rfl, hcB⟩
end Go.Proofs.Ytahocnnnipaejaa
