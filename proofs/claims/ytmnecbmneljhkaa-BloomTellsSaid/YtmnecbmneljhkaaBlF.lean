/- Bloom: the walk of the reference's Has. -/
import Derived.Test.YtmnecbmneljhkaaBlE
namespace Go.Proofs.Ytmnecbmneljhkaa
open Go.RowKit Go.Proofs.YtmnecbmneljhkaaW.PrintWords
set_option linter.unusedVariables false

def bitN (xs : List UInt8) (p : Nat) : Nat := (xs.getD (p / 8) 0).toNat / 2 ^ (p % 8) % 2
/-- are the first k places of a key set? -/
def hasU (xs : List UInt8) (s : ByteArray) : Nat → Bool
  | 0 => true
  | k + 1 => hasU xs s k && (bitN xs (place s (8 * xs.length) k) != 0)
theorem hasU_no (xs : List UInt8) (s : ByteArray) (k m : Nat) (hk : k < m) (h : bitN xs (place s (8 * xs.length) k) = 0) : hasU xs s m = false := by
  induction m with
  | zero => omega
  | succ m ih =>
    rw [hasU]
    by_cases e : k = m
    · subst e; simp [h]
    · rw [ih (by omega)]; rfl
def hasB (K : Int) (xs : List UInt8) (s : ByteArray) : Bool := decide (okF K xs.length) && hasU xs s K.toNat
theorem bit_int (x : UInt8) (r : Nat) (hr : r < 8) : bits .and .u8 ((x.toNat : Int) / 2 ^ r) 1 = ((x.toNat / 2 ^ r % 2 : Nat) : Int) := by
  have hx := x.toNat_lt
  have hd : x.toNat / 2 ^ r < 256 := Nat.lt_of_le_of_lt (Nat.div_le_self _ _) hx
  have := u8_and_nat (x.toNat / 2 ^ r) 1 hd (by decide)
  rw [Nat.and_one_is_mod] at this
  rw [← this]
  congr 1
set_option maxHeartbeats 800000 in
theorem rHas_any (K : Int) (A : Option Addr) (c : Nat) (xs : List UInt8) (s : ByteArray) (hs : s.size ≤ 140737488355328) (w : World) (hx : RdB w A c xs) :
    Calls Try.prog 14 #[fil K A xs.length c, .string s] w fun e w' => e = .returned (.tuple #[.bool (hasB K xs s), .int .i64 (encE K xs.length)]) ∧ Below w.heap.size w w' := by
  have HM := check_any K A xs.length c
  by_cases hok : okF K xs.length
  · have e1 : encE K xs.length = 0 := by rw [encE, if_pos hok]
    have e2 : hasB K xs s = hasU xs s K.toNat := by rw [hasB, decide_eq_true hok]; rfl
    rw [if_pos hok] at HM
    rw [e1, e2]
    clear e1 e2
    obtain ⟨h1, h2, h3, h4⟩ := hok
    obtain ⟨m, rfl⟩ : ∃ m : Nat, K = (m : Int) := ⟨K.toNat, by omega⟩
    rw [Int.toNat_natCast]
    obtain ⟨z, hz⟩ : ∃ z, hasU xs s m = z := ⟨_, rfl⟩
    have HZ := hide hz
    rw [hz]
    clear hz
    have HP := fun k (hk : k < m) => rplace_any s hs k (8 * xs.length) (by omega) (by omega) (by omega)
    have hpl : ∀ k, place s (8 * xs.length) k < 8 * xs.length := fun k => Nat.mod_lt _ (by omega)
    unfold fil at *
    go_enter Try.func14, Try.ntmps14
    go_wp2_with (first | (go_at_call 31; refine (HM _).mono ?_; rintro e w1 ⟨rfl, HB1⟩; obtain ⟨c0, c1, cB⟩ := boxedF HB1; clear HB1; have hx1 := hx.below cB))
    go_loop [6] (fun i => ∃ k : Nat, k ≤ m ∧ i = .int .i64 (k : Int) ∧ hasU xs s k = true) (fun i => m - (intOf i).toNat)
    case atStart => exact ⟨0, by omega, rfl, rfl⟩
    case round =>
      obtain ⟨k, hk, rfl, hu⟩ := hrel
      by_cases hlt : k < m
      · have HPk := HP k hlt
        have hp := hpl k
        have HU : Hid (hasU xs s k = true) := hu
        have HNO := hide (hasU_no xs s k m hlt)
        have HYES : Hid (¬ bitN xs (place s (8 * xs.length) k) = 0 → hasU xs s (k + 1) = true) := fun h => by rw [hasU, hu]; simp [h]
        obtain ⟨p, hpp⟩ : ∃ p, place s (8 * xs.length) k = p := ⟨_, rfl⟩
        rw [hpp] at HPk hp HNO HYES
        obtain ⟨q, hq⟩ : ∃ q, p / 8 = q := ⟨_, rfl⟩
        obtain ⟨r, hr⟩ : ∃ r, p % 8 = r := ⟨_, rfl⟩
        obtain ⟨ad, rfl, hcell⟩ := hx1.at_ q (by omega)
        obtain ⟨x, hxx⟩ : ∃ x, xs.getD q 0 = x := ⟨_, rfl⟩
        have hbn : bitN xs p = x.toNat / 2 ^ r % 2 := by rw [bitN, hq, hr, hxx]
        rw [hbn] at HNO HYES
        rw [hxx] at hcell
        have hbi := bit_int x r (by omega)
        have hbi2 : bits .and .u8 ((x.toNat : Int) / 2 ^ min r 8) 1 = ((x.toNat / 2 ^ r % 2 : Nat) : Int) := by rw [Nat.min_eq_left (by omega)]; exact hbi
        have hw2 : (p : Int) / 8 = (q : Int) := by omega
        have hw3 : (p : Int).tmod 8 = (r : Int) := by rw [Int.tmod_eq_emod_of_nonneg (by omega)]; omega
        have hq1 : q < xs.length := by omega
        have hq2 : (q : Int) < (xs.length : Int) := by omega
        have hr64 : (r : Int) ≤ 64 := by omega
        have hki : (k : Int) < (m : Int) := by omega
        rw [show ((8 * xs.length : Nat) : Int) = 8 * (xs.length : Int) by omega] at HPk
        clear hpp hq hr hxx hbn HP hpl hu
        generalize x.toNat / 2 ^ r % 2 = t at *
        by_cases ht : t = 0
        · subst ht
          go_wp2_with (first | (go_at_call 29; refine (HPk _).mono ?_; rintro e w' ⟨rfl, rfl⟩))
          go_ret2
          exact ⟨by rw [← HZ.out, HNO.out trivial]; rfl, cB⟩
        · have hti : ¬ (t : Int) = 0 := by omega
          go_wp2_with (first | (go_at_call 29; refine (HPk _).mono ?_; rintro e w' ⟨rfl, rfl⟩))
          go_round
          case rel => exact ⟨k + 1, by omega, by go_num, HYES.out ht⟩
          case measure => simp [intOf]; omega
      · obtain rfl : k = m := by omega
        go_wp2
        go_ret2
        exact ⟨by rw [← HZ.out, hu]; rfl, cB⟩
  · have e1 : encE K xs.length = 9 := by rw [encE, if_neg hok]
    have e2 : hasB K xs s = false := by rw [hasB, decide_eq_false hok]; rfl
    rw [if_neg hok] at HM
    rw [e1, e2]
    clear e1 e2
    unfold fil at *
    go_enter Try.func14, Try.ntmps14
    go_wp2_with (first | (go_at_call 31; refine (HM _).mono ?_; rintro e w1 ⟨rfl, HB1⟩; obtain ⟨c0, c1, cB⟩ := boxedF HB1; clear HB1))
    go_ret2
    exact ⟨rfl, cB⟩
end Go.Proofs.Ytmnecbmneljhkaa
