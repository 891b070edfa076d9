/- The plain law of the order of numbers as octets. -/
import Derived.Test.YtckflapblbiniaaLawVarintCut
namespace Go.Proofs.Ytckflapblbiniaa
open Go.RowKit Go.Proofs.YtckflapblbiniaaW.PrintWords
set_option linter.unusedVariables false

theorem put_inj (a b : Nat) (ha : a < 18446744073709551616) (hb : b < 18446744073709551616) : put a = put b ↔ a = b := by
  constructor
  · intro h
    have h1 := (get_put a ha []).2.1
    have h2 := (get_put b hb []).2.1
    rw [← h1, ← h2, h]
  · rintro rfl; rfl
theorem put_take (a b : Nat) (ha : a < 18446744073709551616) (hb : b < 18446744073709551616) (n : Nat) (hn : n = min (vsize a) (vsize b)) : (put a).take n = (put b).take n ↔ a = b := by
  constructor
  · intro h
    have pa := (get_put a ha []).1
    have pb := (get_put b hb []).1
    rw [List.append_nil] at pa pb
    rcases Nat.lt_trichotomy (vsize a) (vsize b) with hl | hl | hl
    · have e : n = vsize a := by omega
      have hc := (get_cut b hb n (by omega)).1
      rw [← h, e, List.take_of_length_le (by rw [put_length]; omega)] at hc
      omega
    · have e1 : (put a).take n = put a := List.take_of_length_le (by rw [put_length]; omega)
      have e2 : (put b).take n = put b := List.take_of_length_le (by rw [put_length]; omega)
      rw [e1, e2] at h
      exact (put_inj a b ha hb).1 h
    · have e : n = vsize b := by omega
      have hc := (get_cut a ha n (by omega)).1
      rw [h, e, List.take_of_length_le (by rw [put_length]; omega)] at hc
      omega
  · rintro rfl; rfl
theorem be_less (j a b : Nat) : Op.bytesLess (be j a) (be j b) = decide (a % 256 ^ j < b % 256 ^ j) := by
  induction j with
  | zero => simp [be, Op.bytesLess, Nat.mod_one]
  | succ j ih =>
    have hp : 0 < 256 ^ j := Nat.pow_pos (by omega)
    have key : ∀ n : Nat, n % 256 ^ (j + 1) = 256 ^ j * (n / 256 ^ j % 256) + n % 256 ^ j := fun n => by
      rw [Nat.pow_succ, Nat.mod_mul]; omega
    rw [be, be, Op.bytesLess, ih, key a, key b]
    have ua : (UInt8.ofNat (a / 256 ^ j)).toNat = a / 256 ^ j % 256 := by simp
    have ub : (UInt8.ofNat (b / 256 ^ j)).toNat = b / 256 ^ j % 256 := by simp
    have la := Nat.mod_lt a hp
    have lb := Nat.mod_lt b hp
    have e1 : decide (UInt8.ofNat (a / 256 ^ j) < UInt8.ofNat (b / 256 ^ j)) = decide (a / 256 ^ j % 256 < b / 256 ^ j % 256) := by
      rw [decide_eq_decide, UInt8.lt_iff_toNat_lt, ua, ub]
    have e2 : (UInt8.ofNat (a / 256 ^ j) == UInt8.ofNat (b / 256 ^ j)) = decide (a / 256 ^ j % 256 = b / 256 ^ j % 256) := by
      rw [Bool.eq_iff_iff, beq_iff_eq, decide_eq_true_iff, ← UInt8.toNat_inj, ua, ub]
    rw [e1, e2]
    generalize a / 256 ^ j % 256 = p at *
    generalize b / 256 ^ j % 256 = q at *
    generalize a % 256 ^ j = r at *
    generalize b % 256 ^ j = s at *
    generalize 256 ^ j = t at *
    rw [Bool.eq_iff_iff]
    simp only [Bool.or_eq_true, Bool.and_eq_true, decide_eq_true_iff]
    rcases Nat.lt_trichotomy p q with h | h | h
    · have : t * (p + 1) ≤ t * q := Nat.mul_le_mul_left _ h
      rw [Nat.mul_add] at this
      constructor
      · intro _; omega
      · intro _; exact .inl h
    · subst h
      constructor
      · rintro (h | ⟨_, h⟩)
        · omega
        · omega
      · intro h; exact .inr ⟨rfl, by omega⟩
    · have : t * (q + 1) ≤ t * p := Nat.mul_le_mul_left _ h
      rw [Nat.mul_add] at this
      constructor
      · rintro (h2 | ⟨h2, _⟩) <;> omega
      · intro h2; omega
theorem head_add (k x : Nat) (h1 : 1 ≤ k) (h9 : k ≤ 9) (hx : x < room k) : (UInt8.ofNat x ||| lead k).toNat = x + (lead k).toNat := by
  have h : ∀ k : Fin 10, ∀ x : Fin 128, 1 ≤ k.val → x.val < room k.val → (UInt8.ofNat x.val ||| lead k.val).toNat = x.val + (lead k.val).toNat := by decide +kernel
  have hr : ∀ k : Fin 10, 1 ≤ k.val → room k.val ≤ 128 := by decide
  have := hr ⟨k, by omega⟩ h1
  simp only at this
  exact h ⟨k, by omega⟩ ⟨x, by omega⟩ h1 hx
theorem ones_less (x y : UInt8) (h : ones8 x < ones8 y) : x < y := by
  have hh : ∀ c : Fin 256, 256 ≤ c.val + 2 ^ (8 - ones8 (UInt8.ofNat c.val)) ∧ (ones8 (UInt8.ofNat c.val) < 8 → c.val + 2 ^ (7 - ones8 (UInt8.ofNat c.val)) < 256) := by decide +kernel
  have hx := (hh ⟨x.toNat, x.toNat_lt⟩).2
  have hy := (hh ⟨y.toNat, y.toNat_lt⟩).1
  simp only [UInt8.ofNat_toNat] at hx hy
  have h8 := ones8_le y
  have hp : 2 ^ (8 - ones8 y) ≤ 2 ^ (7 - ones8 x) := Nat.pow_le_pow_right (by omega) (by omega)
  have hx2 := hx (by omega)
  rw [UInt8.lt_iff_toNat_lt]
  omega
theorem put_less (a b : Nat) (ha : a < 18446744073709551616) (hb : b < 18446744073709551616) : Op.bytesLess (put a) (put b) = decide (a < b) := by
  have oa : ones8 (head a) + 1 = vsize a := (forth8 (vsize a) (a / 256 ^ (vsize a - 1)) (vsize_pos a) (vsize_le a) (room_size a ha)).1
  have ob : ones8 (head b) + 1 = vsize b := (forth8 (vsize b) (b / 256 ^ (vsize b - 1)) (vsize_pos b) (vsize_le b) (room_size b hb)).1
  have mono : ∀ a b : Nat, vsize a < vsize b → a < b := fun a b h => by
    apply Classical.byContradiction
    intro hc
    have h1 := vsize_pos a
    have h9 := vsize_le b
    have hP : (0 : Int) < 2 ^ (7 * vsize a) := Int.pow_pos (by decide)
    have e1 := (vsize_iff a (vsize a) h1 (by omega)).2 (Nat.le_refl _)
    have hle : (b : Int) / 2 ^ (7 * vsize a) ≤ (a : Int) / 2 ^ (7 * vsize a) := Int.ediv_le_ediv hP (by omega)
    have hge : 0 ≤ (b : Int) / 2 ^ (7 * vsize a) := Int.ediv_nonneg (by omega) (by omega)
    have := (vsize_iff b (vsize a) h1 (by omega)).1 (by omega)
    omega
  rw [put, put, Op.bytesLess]
  rcases Nat.lt_trichotomy (vsize a) (vsize b) with hl | hl | hl
  · have h1 : head a < head b := ones_less _ _ (by omega)
    have h2 := mono a b hl
    simp [h1, h2]
  · obtain ⟨j, hj⟩ : ∃ j, vsize b = j + 1 := ⟨vsize b - 1, by have := vsize_pos b; omega⟩
    have ra := room_size a ha
    have rb := room_size b hb
    have h9 := vsize_le b
    have e1 : (head a).toNat = a / 256 ^ j + (lead (j + 1)).toNat := by
      rw [head, hl, hj, Nat.add_sub_cancel]
      rw [hl, hj, Nat.add_sub_cancel] at ra
      exact head_add (j + 1) _ (by omega) (by omega) ra
    have e2 : (head b).toNat = b / 256 ^ j + (lead (j + 1)).toNat := by
      rw [head, hj, Nat.add_sub_cancel]
      rw [hj, Nat.add_sub_cancel] at rb
      exact head_add (j + 1) _ (by omega) (by omega) rb
    rw [hl, hj, Nat.add_sub_cancel, be_less]
    have hp : 0 < 256 ^ j := Nat.pow_pos (by omega)
    have da := Nat.div_add_mod a (256 ^ j)
    have db := Nat.div_add_mod b (256 ^ j)
    have la := Nat.mod_lt a hp
    have lb := Nat.mod_lt b hp
    rw [Bool.eq_iff_iff]
    simp only [Bool.or_eq_true, Bool.and_eq_true, decide_eq_true_iff, beq_iff_eq, UInt8.lt_iff_toNat_lt, ← UInt8.toNat_inj, e1, e2]
    generalize a / 256 ^ j = p at *
    generalize b / 256 ^ j = q at *
    generalize a % 256 ^ j = r at *
    generalize b % 256 ^ j = s at *
    generalize 256 ^ j = t at *
    rcases Nat.lt_trichotomy p q with h | h | h
    · have : t * (p + 1) ≤ t * q := Nat.mul_le_mul_left _ h
      rw [Nat.mul_add] at this
      constructor
      · intro _; omega
      · intro _; exact .inl (by omega)
    · subst h
      constructor
      · rintro (h | ⟨_, h⟩) <;> omega
      · intro h; exact .inr ⟨rfl, by omega⟩
    · have : t * (q + 1) ≤ t * p := Nat.mul_le_mul_left _ h
      rw [Nat.mul_add] at this
      constructor
      · rintro (h2 | ⟨h2, _⟩) <;> omega
      · intro h2; omega
  · have h1 : head b < head a := ones_less _ _ (by omega)
    have h2 := mono b a hl
    have h3 : ¬ head a < head b := fun h => by rw [UInt8.lt_iff_toNat_lt] at h h1; omega
    have h4 : ¬ head a = head b := fun h => by rw [h, UInt8.lt_iff_toNat_lt] at h1; omega
    rw [show decide (head a < head b) = false from decide_eq_false h3, show (head a == head b) = false from beq_false_of_ne h4, Bool.false_and, Bool.or_false]
    exact (decide_eq_false (by omega)).symm
end Go.Proofs.Ytckflapblbiniaa
