/- The plain theory of a checksum register of 32 bits: it is linear, it is one-to-one, and up to 32 bits in a row that are turned are told. -/
namespace Tk

abbrev R := BitVec 32
def poly : R := 0x04c11db7#32
/-- one bit through the register -/
def bit1 (c : R) : R := (c <<< 1) ^^^ (if c.msb then poly else 0#32)
def bits : Nat → R → R
  | 0, c => c
  | n + 1, c => bit1 (bits n c)
/-- one octet -/
def oct (c : R) (b : R) : R := bits 8 (c ^^^ (b <<< 24))
def ext (c : R) (l : List R) : R := l.foldl oct c

theorem xlc (a b c : R) : a ^^^ (b ^^^ c) = b ^^^ (a ^^^ c) := by rw [← BitVec.xor_assoc, BitVec.xor_comm a b, BitVec.xor_assoc]
theorem xcan (a b : R) : a ^^^ (a ^^^ b) = b := by rw [← BitVec.xor_assoc, BitVec.xor_self, BitVec.zero_xor]
theorem bit1_xor (a b : R) : bit1 (a ^^^ b) = bit1 a ^^^ bit1 b := by
  unfold bit1
  rw [BitVec.shiftLeft_xor_distrib, BitVec.msb_xor]
  cases a.msb <;> cases b.msb <;> simp [BitVec.xor_assoc]
  · rw [BitVec.xor_comm]
  · rw [xlc poly, BitVec.xor_self, BitVec.xor_zero]
theorem bit1_zero : bit1 0#32 = 0#32 := by decide
theorem bits_zero (c : R) : bits 0 c = c := rfl
theorem bits_succ (n : Nat) (c : R) : bits (n + 1) c = bit1 (bits n c) := rfl
theorem bits_xor (n : Nat) (a b : R) : bits n (a ^^^ b) = bits n a ^^^ bits n b := by
  induction n with
  | zero => rfl
  | succ n ih => rw [bits_succ, ih, bit1_xor]; rfl
theorem bits_z (n : Nat) : bits n 0#32 = 0#32 := by
  induction n with
  | zero => rfl
  | succ n ih => rw [bits_succ, ih, bit1_zero]
theorem bits_add (m n : Nat) (c : R) : bits (m + n) c = bits m (bits n c) := by
  induction m with
  | zero => simp [bits_zero]
  | succ m ih => rw [Nat.add_right_comm, bits_succ, ih, ← bits_succ]
theorem bit1_inj (c : R) (h : bit1 c = 0#32) : c = 0#32 := by
  unfold bit1 at h
  by_cases hm : c.msb = true
  · exfalso
    rw [if_pos hm] at h
    have := congrArg (fun x : R => x.getLsbD 0) h
    simp [poly] at this
  · rw [if_neg hm, BitVec.xor_zero] at h
    apply BitVec.eq_of_getLsbD_eq
    intro i hi
    by_cases h31 : i = 31
    · subst h31
      simp only [BitVec.msb_eq_getLsbD_last] at hm
      simpa using hm
    · have := congrArg (fun x : R => x.getLsbD (i + 1)) h
      simp only [BitVec.getLsbD_shiftLeft] at this
      simpa [show i + 1 < 32 by omega] using this
theorem bits_inj (n : Nat) (c : R) (h : bits n c = 0#32) : c = 0#32 := by
  induction n with
  | zero => exact h
  | succ n ih => exact ih (bit1_inj _ h)

theorem oct_xor (a b x y : R) : oct (a ^^^ b) (x ^^^ y) = oct a x ^^^ oct b y := by
  have h := bits_xor 8 (a ^^^ (x <<< 24)) (b ^^^ (y <<< 24))
  have e : (a ^^^ b) ^^^ ((x ^^^ y) <<< 24) = (a ^^^ (x <<< 24)) ^^^ (b ^^^ (y <<< 24)) := by
    rw [BitVec.shiftLeft_xor_distrib, BitVec.xor_assoc, BitVec.xor_assoc, xlc b]
  show bits 8 _ = _
  rw [e, h]
  rfl
theorem ext_append (c : R) (a b : List R) : ext c (a ++ b) = ext (ext c a) b := by simp [ext]
theorem ext_nil (c : R) : ext c [] = c := rfl
theorem ext_cons (c x : R) (l : List R) : ext c (x :: l) = ext (oct c x) l := rfl
/-- linear -/
theorem ext_xor (a b : R) (l m : List R) (h : l.length = m.length) : ext (a ^^^ b) (List.zipWith (· ^^^ ·) l m) = ext a l ^^^ ext b m := by
  induction l generalizing a b m with
  | nil => cases m with
    | nil => rfl
    | cons y m => simp at h
  | cons x l ih => cases m with
    | nil => simp at h
    | cons y m =>
      rw [List.zipWith_cons_cons, ext_cons, ext_cons, ext_cons, oct_xor]
      exact ih _ _ _ (by simpa using h)

theorem bits_shl (n : Nat) (c : R) (hn : n ≤ 32) (h : c.toNat < 2 ^ (32 - n)) : bits n c = c <<< n := by
  induction n with
  | zero => simp [bits_zero]
  | succ n ih =>
    have hp : 2 ^ (32 - n) = 2 * 2 ^ (32 - (n + 1)) := by rw [← Nat.pow_succ']; congr 1; omega
    have e := ih (by omega) (by omega)
    rw [bits_succ, e]
    have hlt : c.toNat * 2 ^ n < 2 ^ 31 := by
      have : 2 ^ (32 - (n + 1)) * 2 ^ n = 2 ^ 31 := by rw [← Nat.pow_add]; congr 1; omega
      rw [← this]
      exact Nat.mul_lt_mul_of_pos_right h (Nat.two_pow_pos n)
    have hm : (c <<< n).msb = false := by
      rw [BitVec.msb_eq_decide]
      simp only [BitVec.toNat_shiftLeft, Nat.shiftLeft_eq, decide_eq_false_iff_not, Nat.not_le]
      rw [Nat.mod_eq_of_lt (by omega)]
      exact hlt
    unfold bit1
    rw [if_neg (by simp [hm]), BitVec.xor_zero, ← BitVec.shiftLeft_add]
theorem oct_top (c : R) : oct c (c >>> 24) = c <<< 8 := by
  unfold oct
  have h : (c ^^^ ((c >>> 24) <<< 24)) = c &&& 0x00ffffff#32 := by
    apply BitVec.eq_of_getLsbD_eq
    intro i hi
    simp only [BitVec.getLsbD_xor, BitVec.getLsbD_shiftLeft, BitVec.getLsbD_ushiftRight, BitVec.getLsbD_and]
    by_cases h24 : i < 24
    · have : (0x00ffffff#32).getLsbD i = true := by
        have : ∀ j : Fin 24, (0x00ffffff#32).getLsbD j = true := by decide
        exact this ⟨i, h24⟩
      simp [h24, this]
    · have : (0x00ffffff#32).getLsbD i = false := by
        have : ∀ j : Fin 32, 24 ≤ j.val → (0x00ffffff#32).getLsbD j = false := by decide
        exact this ⟨i, hi⟩ (Nat.le_of_not_lt h24)
      rw [this]
      simp [h24, hi, show 24 + (i - 24) = i by omega]
  rw [h, bits_shl 8 _ (by omega)]
  · apply BitVec.eq_of_getLsbD_eq
    intro i hi
    simp only [BitVec.getLsbD_shiftLeft, BitVec.getLsbD_and]
    by_cases h8 : i < 8
    · simp [h8]
    · have : (0x00ffffff#32).getLsbD (i - 8) = true := by
        have : ∀ j : Fin 24, (0x00ffffff#32).getLsbD j = true := by decide
        exact this ⟨i - 8, by omega⟩
      simp [h8, this]
  · have : (c &&& 0x00ffffff#32).toNat ≤ (0x00ffffff#32).toNat := by
      rw [BitVec.toNat_and]; exact Nat.and_le_right
    have h2 : (0x00ffffff#32).toNat = 16777215 := by decide
    omega
/-- the four octets of a register, the highest first -/
def four (c : R) : List R := [c >>> 24, (c >>> 16) &&& 0xff#32, (c >>> 8) &&& 0xff#32, c &&& 0xff#32]
theorem byte_shift (c : R) (n : Nat) (hn : n = 8 ∨ n = 16 ∨ n = 24) : (c >>> (24 - n)) &&& 0xff#32 = (c <<< n) >>> 24 := by
  apply BitVec.eq_of_getLsbD_eq
  intro i hi
  simp only [BitVec.getLsbD_ushiftRight, BitVec.getLsbD_shiftLeft, BitVec.getLsbD_and]
  have h8 : ∀ j : Fin 32, (0xff#32).getLsbD j = decide (j.val < 8) := by decide
  have := h8 ⟨i, hi⟩
  simp only at this
  rw [this]
  by_cases h : i < 8
  · have e : 24 - n + i = 24 + i - n := by omega
    simp [h, e]
    omega
  · simp [h]
    omega
theorem ext_four (c : R) : ext c (four c) = 0#32 := by
  have h1 := byte_shift c 8 (by omega)
  have h2 := byte_shift c 16 (by omega)
  have h3 := byte_shift c 24 (by omega)
  simp only [Nat.reduceSub, BitVec.ushiftRight_zero] at h1 h2 h3
  unfold four
  rw [ext_cons, ext_cons, ext_cons, ext_cons, ext_nil, oct_top, h1, oct_top, ← BitVec.shiftLeft_add, h2, oct_top, ← BitVec.shiftLeft_add, h3, oct_top, ← BitVec.shiftLeft_add]
  apply BitVec.eq_of_getLsbD_eq
  intro i hi
  simp [hi]

/-! bit by bit -/
def top (b : Bool) : R := if b then 0x80000000#32 else 0#32
def ser (c : R) (l : List Bool) : R := l.foldl (fun c b => bit1 (c ^^^ top b)) c
theorem ser_append (c : R) (a b : List Bool) : ser c (a ++ b) = ser (ser c a) b := by simp [ser]
theorem ser_cons (c : R) (b : Bool) (l : List Bool) : ser c (b :: l) = ser (bit1 (c ^^^ top b)) l := rfl
theorem ser_split (c : R) (l : List Bool) : ser c l = bits l.length c ^^^ ser 0#32 l := by
  induction l generalizing c with
  | nil => simp [ser, bits_zero]
  | cons b l ih =>
    rw [ser_cons, ih, ser_cons, ih (bit1 (0#32 ^^^ top b)), bit1_xor, bits_xor, BitVec.zero_xor, List.length_cons, bits_add l.length 1]
    simp only [BitVec.xor_assoc]
    rfl
theorem ser_zeros (c : R) (n : Nat) : ser c (List.replicate n false) = bits n c := by
  induction n generalizing c with
  | zero => rfl
  | succ n ih => rw [List.replicate_succ, ser_cons, ih, bits_add n 1]; simp [top]; rfl
/-- a register that holds bits, the first one on top -/
def val : List Bool → R
  | [] => 0#32
  | b :: l => top b ^^^ (val l >>> 1)
theorem val_low (l : List Bool) (i : Nat) (h : i + l.length < 32) : (val l).getLsbD i = false := by
  induction l generalizing i with
  | nil => simp [val]
  | cons b l ih =>
    simp only [List.length_cons] at h
    simp only [val, BitVec.getLsbD_xor, BitVec.getLsbD_ushiftRight]
    rw [ih (1 + i) (by omega)]
    have : ∀ j : Fin 31, (0x80000000#32).getLsbD j = false := by decide
    have := this ⟨i, by omega⟩
    cases b
    · simp [top]
    · simpa [top] using this
theorem bit1_val (l : List Bool) (h : l.length < 32) : bit1 (val l >>> 1) = val l := by
  have hm : (val l >>> 1).msb = false := by
    rw [BitVec.msb_eq_getLsbD_last]; simp
  unfold bit1
  rw [if_neg (by simp [hm]), BitVec.xor_zero]
  apply BitVec.eq_of_getLsbD_eq
  intro i hi
  simp only [BitVec.getLsbD_shiftLeft, BitVec.getLsbD_ushiftRight]
  by_cases h0 : i = 0
  · subst h0
    rw [val_low l 0 (by omega)]; simp
  · have : 1 + (i - 1) = i := by omega
    rw [this]
    simp [hi, show ¬ i < 1 by omega]
theorem ser_val (l : List Bool) (h : l.length ≤ 32) : ser 0#32 l = bits l.length (val l) := by
  induction l with
  | nil => rfl
  | cons b l ih =>
    simp only [List.length_cons] at h
    rw [ser_cons, ser_split, ih (by omega), List.length_cons, bits_add l.length 1, ← bits_xor]
    congr 1
    rw [BitVec.zero_xor]
    show _ = bit1 (val (b :: l))
    rw [val, bit1_xor, bit1_val l (by omega)]
/-- THE THEOREM: a burst of at most 32 bits, not all 0, however many zeros stand ahead of it and behind it, does not vanish. -/
theorem burst (m n : Nat) (l : List Bool) (h : l.length ≤ 32) (hv : val l ≠ 0#32) :
    ser 0#32 (List.replicate m false ++ (l ++ List.replicate n false)) ≠ 0#32 := by
  rw [ser_append, ser_zeros, bits_z, ser_append, ser_zeros, ser_val l h]
  exact fun e => hv (bits_inj _ _ (bits_inj _ _ e))
/-- an octet's bits, the highest first -/
def bitsOf (x : R) : List Bool := [x.getLsbD 7, x.getLsbD 6, x.getLsbD 5, x.getLsbD 4, x.getLsbD 3, x.getLsbD 2, x.getLsbD 1, x.getLsbD 0]
theorem val_bitsOf (x : R) (hx : x.toNat < 256) : val (bitsOf x) = x <<< 24 := by
  have h : ∀ n : Fin 256, val (bitsOf (BitVec.ofNat 32 n)) = (BitVec.ofNat 32 n) <<< 24 := by decide +kernel
  have := h ⟨x.toNat, hx⟩
  simpa using this
theorem oct_ser (c x : R) (hx : x.toNat < 256) : oct c x = ser c (bitsOf x) := by
  rw [ser_split, ser_val _ (by simp [bitsOf]), val_bitsOf x hx, ← bits_xor]
  rfl
theorem ext_ser (c : R) (l : List R) (h : ∀ x ∈ l, x.toNat < 256) : ext c l = ser c (l.flatMap bitsOf) := by
  induction l generalizing c with
  | nil => rfl
  | cons x l ih =>
    rw [ext_cons, List.flatMap_cons, ser_append, oct_ser c x (h x List.mem_cons_self)]
    exact ih _ (fun y hy => h y (List.mem_cons_of_mem _ hy))
end Tk
