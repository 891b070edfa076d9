/- Bits that are turned, and the checksum: the plain law. -/
import Derived.Test.YtekfkecpedpjjaaSumB
import Derived.Test.YtekfkecpedpjjaaOwn
namespace Go.Proofs.Ytekfkecpedpjjaa
open Go.RowKit

theorem oct_zero (c : BitVec 32) : Tk.oct c 0#32 = Tk.bits 8 c := by
  unfold Tk.oct
  rw [show (0#32 : BitVec 32) <<< 24 = 0#32 by decide, BitVec.xor_zero]
theorem ext_add (x y : BitVec 32) (l : List (BitVec 32)) : Tk.ext (x ^^^ y) l = Tk.ext x l ^^^ Tk.bits (8 * l.length) y := by
  induction l generalizing x y with
  | nil => rfl
  | cons b l ih =>
    rw [Tk.ext_cons, Tk.ext_cons]
    have h := Tk.oct_xor x y b 0#32
    rw [BitVec.xor_zero, oct_zero] at h
    rw [h, ih, List.length_cons, show 8 * (l.length + 1) = 8 * l.length + 8 by omega, Tk.bits_add]
def top1 : BitVec 32 := 0x80000000#32
def mask (p : Nat) : UInt8 := UInt8.ofNat (128 / 2 ^ (p % 8))
theorem mask_bits (p : Nat) : Tk.bits 8 (bv (mask p) <<< 24) = Tk.bits (8 - p % 8) top1 := by
  have h : ∀ r : Fin 8, Tk.bits 8 (bv (UInt8.ofNat (128 / 2 ^ r.val)) <<< 24) = Tk.bits (8 - r.val) top1 := by decide +kernel
  exact h ⟨p % 8, by omega⟩
theorem mask_int (p r : Nat) (h : p % 8 = r) : (128 : Int) / 2 ^ r = ((mask p).toNat : Int) := by
  have hh : ∀ r : Fin 8, (128 : Int) / 2 ^ r.val = ((UInt8.ofNat (128 / 2 ^ r.val)).toNat : Int) := by decide +kernel
  have h2 := hh ⟨p % 8, by omega⟩
  subst h
  exact h2
theorem bv_xor8 (x y : UInt8) : bv (x ^^^ y) = bv x ^^^ bv y := by
  unfold bv
  rw [UInt8.toNat_xor, BitVec.ofNat_xor]
/-- one bit that is turned -/
theorem crc_turn (c : BitVec 32) (l : List UInt8) (p : Nat) (hp : p < 8 * l.length) :
    crc c (l.set (p / 8) (l.getD (p / 8) 0 ^^^ mask p)) = crc c l ^^^ Tk.bits (8 * l.length - p) top1 := by
  have hk : p / 8 < l.length := by omega
  obtain ⟨a, x, b, e, hl, -, -, -, -, hg⟩ : ∃ a x b, l = a ++ x :: b ∧ a.length = p / 8 ∧ True ∧ True ∧ True ∧ True ∧ l.getD (p / 8) 0 = x :=
    ⟨l.take (p / 8), l[p / 8], l.drop (p / 8 + 1), by rw [← List.drop_eq_getElem_cons hk, List.take_append_drop], by rw [List.length_take]; omega, trivial, trivial, trivial, trivial, by simp [List.getD_eq_getElem?_getD, List.getElem?_eq_getElem hk]⟩
  rw [hg]
  subst e
  rw [List.set_append_right _ _ (by omega), show p / 8 - a.length = 0 by omega, List.set_cons_zero, crc_append, crc_append]
  unfold crc
  rw [List.map_cons, List.map_cons, Tk.ext_cons, Tk.ext_cons]
  generalize Tk.ext c (a.map bv) = C
  have h1 : Tk.oct C (bv (x ^^^ mask p)) = Tk.oct C (bv x) ^^^ Tk.bits (8 - p % 8) top1 := by
    have h := Tk.oct_xor C 0#32 (bv x) (bv (mask p))
    rw [BitVec.xor_zero] at h
    rw [bv_xor8, h, ← mask_bits p]
    unfold Tk.oct
    rw [BitVec.zero_xor]
  rw [h1, ext_add, ← Tk.bits_add, List.length_map, List.length_append, List.length_cons]
  congr 2
  omega
/-- the bits of a turn, the highest first -/
def tb (c : BitVec 32) : List Bool := (List.range 32).map fun i => c.getLsbD (31 - i)
theorem tb_length (c : BitVec 32) : (tb c).length = 32 := by simp [tb]
theorem tb_get (c : BitVec 32) (k : Nat) (h : k < 32) : (tb c).getD k false = c.getLsbD (31 - k) := by
  rw [List.getD_eq_getElem?_getD]
  simp [tb, List.getElem?_map, List.getElem?_range h]
theorem val_get (l : List Bool) (j : Nat) (hj : j < 32) : (Tk.val l).getLsbD (31 - j) = l.getD j false := by
  induction l generalizing j with
  | nil => simp [Tk.val]
  | cons b l ih =>
    rw [Tk.val, BitVec.getLsbD_xor, BitVec.getLsbD_ushiftRight]
    cases j with
    | zero =>
      have h32 : (Tk.val l).getLsbD (1 + (31 - 0)) = false := BitVec.getLsbD_of_ge _ _ (by decide)
      rw [h32]
      cases b <;> rfl
    | succ j =>
      rw [show 1 + (31 - (j + 1)) = 31 - j by omega, ih j (by omega)]
      have h : ∀ (b : Bool) (i : Fin 31), (Tk.top b).getLsbD i.val = false := by decide
      rw [h b ⟨31 - (j + 1), by omega⟩]
      simp
theorem val_tb (c : BitVec 32) : Tk.val (tb c) = c := by
  apply BitVec.eq_of_getLsbD_eq
  intro i hi
  have h := val_get (tb c) (31 - i) (by omega)
  rw [show 31 - (31 - i) = i by omega, tb_get c _ (by omega), show 31 - (31 - i) = i by omega] at h
  exact h
theorem ser_tb (c : BitVec 32) (k : Nat) (hk : k < 32) : Tk.ser 0#32 ((tb c).take (k + 1)) = Tk.bit1 (Tk.ser 0#32 ((tb c).take k) ^^^ Tk.top (c.getLsbD (31 - k))) := by
  have hl : k < (tb c).length := by rw [tb_length]; exact hk
  rw [List.take_succ_eq_append_getElem hl, Tk.ser_append]
  have : (tb c)[k] = c.getLsbD (31 - k) := by
    rw [← tb_get c k hk, List.getD_eq_getElem?_getD, List.getElem?_eq_getElem hl]; rfl
  rw [this]
  rfl
/-- behind k bits -/
def Turned (c : BitVec 32) (at_ k : Nat) (l : List UInt8) : Prop := crc ones l = Tk.bits (8 * l.length - at_ - k) (Tk.ser 0#32 ((tb c).take k))
theorem Turned.start (c : BitVec 32) (at_ : Nat) (xs : List UInt8) : Turned c at_ 0 (guarded xs) := by
  unfold Turned
  rw [crc_guarded, List.take_zero]
  exact (Tk.bits_z _).symm
theorem Turned.yes {c : BitVec 32} {at_ k : Nat} {l : List UInt8} (h : Turned c at_ k l) (hk : k < 32) (hl : at_ + 32 ≤ 8 * l.length) (hb : c.getLsbD (31 - k) = true) :
    Turned c at_ (k + 1) (l.set ((at_ + k) / 8) (l.getD ((at_ + k) / 8) 0 ^^^ mask (at_ + k))) := by
  unfold Turned at *
  rw [crc_turn _ _ _ (by omega), h, List.length_set, ser_tb c k hk, hb, show 8 * l.length - at_ - k = (8 * l.length - at_ - (k + 1)) + 1 by omega, show 8 * l.length - (at_ + k) = (8 * l.length - at_ - (k + 1)) + 1 by omega, Tk.bits_add _ 1, Tk.bits_add (8 * l.length - at_ - (k + 1)) 1 top1, ← Tk.bits_xor]
  congr 1
  exact (Tk.bit1_xor _ _).symm
theorem Turned.no {c : BitVec 32} {at_ k : Nat} {l : List UInt8} (h : Turned c at_ k l) (hk : k < 32) (hl : at_ + 32 ≤ 8 * l.length) (hb : c.getLsbD (31 - k) = false) : Turned c at_ (k + 1) l := by
  unfold Turned at *
  rw [h, ser_tb c k hk, hb, show 8 * l.length - at_ - k = (8 * l.length - at_ - (k + 1)) + 1 by omega, Tk.bits_add _ 1]
  congr 1
  simp only [Tk.top, Bool.false_eq_true, if_false, BitVec.xor_zero]
  rfl
theorem Turned.told {c : BitVec 32} {at_ : Nat} {l : List UInt8} (h : Turned c at_ 32 l) (hl : at_ + 32 ≤ 8 * l.length) (hc : c ≠ 0#32) : bareNum l = 21 ∧ bare l = [] := by
  have hne : crc ones l ≠ 0#32 := by
    unfold Turned at h
    rw [List.take_of_length_le (by rw [tb_length]; omega), Tk.ser_val _ (by rw [tb_length]; omega), val_tb] at h
    rw [h]
    exact fun e => hc (Tk.bits_inj _ _ (Tk.bits_inj _ _ e))
  have hg : ¬ guarded (l.take (l.length - 4)) = l := fun e => hne (by rw [← e, crc_guarded])
  refine ⟨?_, ?_⟩
  · unfold bareNum
    rw [if_neg (by omega), if_neg hg]
  · unfold bare
    rw [if_neg (fun h => hg h.2)]
theorem turn_bit (c : BitVec 32) (k : Nat) (hk : k < 32) : c.toNat * 2 ^ k % 4294967296 / 2147483648 = if c.getLsbD (31 - k) then 1 else 0 := by
  have h : c.getLsbD (31 - k) = (c <<< k).msb := by
    rw [BitVec.msb_eq_getLsbD_last, BitVec.getLsbD_shiftLeft]
    simp [show ¬ 31 < k by omega]
  rw [h, BitVec.msb_eq_decide, BitVec.toNat_shiftLeft, Nat.shiftLeft_eq]
  have : c.toNat * 2 ^ k % 4294967296 < 4294967296 := Nat.mod_lt _ (by omega)
  by_cases h2 : 2147483648 ≤ c.toNat * 2 ^ k % 4294967296
  · simp [h2]; omega
  · simp [h2]; omega
theorem turn_int (c : BitVec 32) (k : Nat) (hk : k < 32) : (c.toNat : Int) * 2 ^ k % 4294967296 / 2147483648 = if c.getLsbD (31 - k) then 1 else 0 := by
  have h := turn_bit c k hk
  have e : (c.toNat : Int) * 2 ^ k = ((c.toNat * 2 ^ k : Nat) : Int) := by simp
  rw [e]
  generalize c.toNat * 2 ^ k = n at *
  by_cases hb : c.getLsbD (31 - k) = true
  · rw [if_pos hb] at h ⊢; omega
  · rw [if_neg hb] at h ⊢; omega
end Go.Proofs.Ytekfkecpedpjjaa
