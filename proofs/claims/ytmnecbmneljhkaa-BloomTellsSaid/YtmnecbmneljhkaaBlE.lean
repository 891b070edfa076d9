/- Bloom: the places of a key; the walk of the reference's place. -/
import Derived.Test.YtmnecbmneljhkaaBlD
namespace Go.Proofs.Ytmnecbmneljhkaa
open Go.RowKit Go.Proofs.YtmnecbmneljhkaaW.PrintWords
set_option linter.unusedVariables false

def plow (h : BitVec 64) : Nat := h.toNat % 4294967296
def phigh (h : BitVec 64) : Nat := (h.toNat / 4294967296) ||| 1
/-- the i-th place of a key among m bits -/
def place (s : ByteArray) (m i : Nat) : Nat := (plow (hash s) + i * phigh (hash s)) % 18446744073709551616 % m
theorem phigh_lt (h : BitVec 64) : phigh h < 4294967296 := by
  unfold phigh
  have := h.isLt
  exact Nat.or_lt_two_pow (n := 32) (by omega) (by decide)
theorem low_int (h : BitVec 64) : bits .and .u64 (h.toNat : Int) 4294967295 = (plow h : Int) := by
  have := u64_and_nat h.toNat 4294967295 h.isLt (by decide)
  rw [show (h.toNat &&& 4294967295) = plow h from Nat.and_two_pow_sub_one_eq_mod h.toNat 32] at this
  exact this
theorem high_int (h : BitVec 64) : bits .or .u64 ((h.toNat : Int) / 4294967296) 1 = (phigh h : Int) := by
  have hl := h.isLt
  have := u64_or_nat (h.toNat / 4294967296) 1 (by omega) (by decide)
  rw [show (((h.toNat / 4294967296 : Nat)) : Int) = (h.toNat : Int) / 4294967296 by omega] at this
  exact this
theorem rplace_any (s : ByteArray) (hs : s.size ≤ 140737488355328) (i m : Nat) (hi : i < 9223372036854775808) (hm : 0 < m) (hm2 : m < 9223372036854775808) (w : World) :
    Calls Try.prog 29 #[.string s, .int .i64 (i : Int), .int .i64 (m : Int)] w fun e w' => e = .returned (.int .i64 (place s m i : Int)) ∧ w = w' := by
  have hH := rHash_any s hs
  have h1 := low_int (hash s)
  have h2 := high_int (hash s)
  unfold place
  have hl : plow (hash s) < 4294967296 := Nat.mod_lt _ (by decide)
  have hh := phigh_lt (hash s)
  generalize plow (hash s) = lo at *
  generalize phigh (hash s) = hi2 at *
  have H1 := hide h1
  have H2 := hide h2
  clear h1 h2
  go_enter Try.func29, Try.ntmps29
  go_wp2_with (first | (go_at_call 16; refine (hH _).mono ?_; rintro e w' ⟨rfl, rfl⟩))
  go_ret
  refine ⟨congrArg Ending.returned (congrArg (Value.int .i64) ?_), rfl⟩
  rw [H1.out, H2.out, IntKind.wrap_u64, IntKind.wrap_u64]
  obtain ⟨t, ht⟩ : ∃ t, i * hi2 = t := ⟨_, rfl⟩
  rw [show (i : Int) * (hi2 : Int) = (t : Int) by rw [← ht]; simp, ht]
  rw [show ((lo : Int) + (t : Int) % 18446744073709551616) % 18446744073709551616 = (((lo + t) % 18446744073709551616 : Nat) : Int) by omega]
  generalize (lo + t) % 18446744073709551616 = q
  have e : ((q : Int)).tmod (m : Int) = ((q % m : Nat) : Int) := by rw [Int.tmod_eq_emod_of_nonneg (by omega)]; simp
  have hlt : q % m < m := Nat.mod_lt _ hm
  rw [e]
  unfold wrap64
  omega
end Go.Proofs.Ytmnecbmneljhkaa
