/- The walks of Zig, Zag, num, alive of numbers as octets. -/
import Derived.Test.YtckflapblbiniaaViW4
import Derived.Test.YtckflapblbiniaaLit
import Derived.Lib.SlBytesConst
namespace Go.Proofs.Ytckflapblbiniaa
open Go.RowKit Go.Proofs.YtckflapblbiniaaW.PrintWords
set_option linter.unusedVariables false

theorem bx_zero (k : IntKind) (hk : k.bits = 64) (a : Nat) (ha : a < 18446744073709551616) : bits .xor k (a : Int) 0 = k.wrap (a : Int) := by
  unfold bits
  rw [hk]
  simp only [BitVec.ofInt_natCast, show BitVec.ofInt 64 0 = 0#64 by decide, BitVec.xor_zero, BitVec.toNat_ofNat]
  rw [Nat.mod_eq_of_lt ha]
theorem bx_ones (k : IntKind) (hk : k.bits = 64) (a : Nat) (ha : a < 18446744073709551616) (o : Int) (ho : BitVec.ofInt 64 o = BitVec.allOnes 64) : bits .xor k (a : Int) o = k.wrap ((18446744073709551615 - a : Nat) : Int) := by
  unfold bits
  rw [hk]
  simp only [BitVec.ofInt_natCast, ho, BitVec.xor_allOnes, BitVec.toNat_not, BitVec.toNat_ofNat]
  rw [Nat.mod_eq_of_lt ha]
def zig (n : Int) : Nat := if 0 ≤ n then (2 * n).toNat else (2 * (-(n + 1)) + 1).toNat
def zag (m : Nat) : Int := if m % 2 = 0 then ((m / 2 : Nat) : Int) else -((m / 2 : Nat) : Int) - 1
theorem Zig_any (n : Int) (h : -9223372036854775808 ≤ n ∧ n ≤ 9223372036854775807) (w : World) : Calls Try.prog 19 #[.int .i64 n] w fun e w' => e = .returned (.int .u64 (zig n : Int)) ∧ w = w' := by
  go_enter Try.func19, Try.ntmps19
  go_wp2
  go_ret
  refine ⟨?_, rfl⟩
  simp
  by_cases h0 : 0 ≤ n
  · rw [show n / 9223372036854775808 = 0 by omega, show IntKind.u64.wrap 0 = 0 by decide, show IntKind.u64.wrap (wrap64 (n * 2)) = (((2 * n).toNat : Nat) : Int) by rw [IntKind.wrap_u64]; unfold wrap64; omega, bx_zero .u64 rfl _ (by omega), IntKind.wrap_u64, zig, if_pos h0]
    omega
  · rw [show n / 9223372036854775808 = -1 by omega, show IntKind.u64.wrap (-1) = 18446744073709551615 by decide, show IntKind.u64.wrap (wrap64 (n * 2)) = (((2 * n + 18446744073709551616).toNat : Nat) : Int) by rw [IntKind.wrap_u64]; unfold wrap64; omega, bx_ones .u64 rfl _ (by omega) _ (by decide), IntKind.wrap_u64, zig, if_neg h0]
    omega
theorem Zag_any (m : Nat) (h : m < 18446744073709551616) (w : World) : Calls Try.prog 21 #[.int .u64 (m : Int)] w fun e w' => e = .returned (.int .i64 (zag m)) ∧ w = w' := by
  go_enter Try.func21, Try.ntmps21
  go_wp2
  go_ret
  refine ⟨?_, rfl⟩
  simp
  have hm : bits .and .u64 (m : Int) 1 = ((m % 2 : Nat) : Int) := by
    have := u64_and_nat m 1 h (by decide)
    rw [show (m &&& 1) = m % 2 by exact Nat.and_one_is_mod m] at this
    exact this
  rw [hm, show (m : Int) / 2 = ((m / 2 : Nat) : Int) by omega]
  by_cases h0 : m % 2 = 0
  · rw [h0, show wrap64 (-wrap64 ((0 : Nat) : Int)) = 0 by unfold wrap64; omega, bx_zero .i64 rfl _ (by omega), IntKind.wrap_i64, zag, if_pos h0]
    omega
  · rw [show m % 2 = 1 by omega, show wrap64 (-wrap64 ((1 : Nat) : Int)) = -1 by unfold wrap64; omega, bx_ones .i64 rfl _ (by omega) _ (by decide), IntKind.wrap_i64, zag, if_neg h0]
    omega
theorem rZig_any (n : Int) (h : -9223372036854775808 ≤ n ∧ n ≤ 9223372036854775807) (w : World) : Calls Try.prog 20 #[.int .i64 n] w fun e w' => e = .returned (.int .u64 (zig n : Int)) ∧ w = w' := by
  go_enter Try.func20, Try.ntmps20
  go_wp2
  all_goals (go_ret; refine ⟨?_, rfl⟩)
  · rw [zig, if_pos (by assumption)]
    simp
    omega
  · rw [zig, if_neg (by omega)]
    simp
    omega
theorem rZag_any (m : Nat) (h : m < 18446744073709551616) (w : World) : Calls Try.prog 22 #[.int .u64 (m : Int)] w fun e w' => e = .returned (.int .i64 (zag m)) ∧ w = w' := by
  by_cases h0 : m % 2 = 0
  · have hz : zag m = ((m / 2 : Nat) : Int) := by rw [zag, if_pos h0]
    have hm : (m : Int) % 2 = 0 := by omega
    rw [hz]
    go_enter Try.func22, Try.ntmps22
    go_wp2
    go_ret
    exact ⟨by simp, rfl⟩
  · have hz : zag m = -((m / 2 : Nat) : Int) - 1 := by rw [zag, if_neg h0]
    have hm : ¬ (m : Int) % 2 = 0 := by omega
    rw [hz]
    go_enter Try.func22, Try.ntmps22
    go_wp2
    go_ret
    exact ⟨by simp, rfl⟩
theorem num_any (n : Int) (w : World) : Calls Try.prog 13 #[.int .i64 n] w fun e w' => e = .returned (.int .i64 n) ∧ w = w' := by
  go_enter Try.func13, Try.ntmps13
  go_wp2
  go_ret
  exact ⟨rfl, rfl⟩
end Go.Proofs.Ytckflapblbiniaa
