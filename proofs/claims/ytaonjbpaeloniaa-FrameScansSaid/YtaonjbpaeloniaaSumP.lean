/- Plain facts of the checksum: the register in the machine's numbers. -/
import Derived.Test.YtaonjbpaeloniaaCrc
import Derived.Laws.BitsAllLaws
import Derived.Laws.BitsLemmas
import Derived.Below
namespace Go.Proofs.Ytaonjbpaeloniaa
open Go.RowKit

def bv (x : UInt8) : BitVec 32 := BitVec.ofNat 32 x.toNat
def crc (c : BitVec 32) (xs : List UInt8) : BitVec 32 := Tk.ext c (xs.map bv)
def ones : BitVec 32 := 0xffffffff#32
def four (c : BitVec 32) : List UInt8 := [UInt8.ofNat (c.toNat / 16777216), UInt8.ofNat (c.toNat / 65536), UInt8.ofNat (c.toNat / 256), UInt8.ofNat c.toNat]
/-- what is guarded -/
def guarded (xs : List UInt8) : List UInt8 := xs ++ four (crc ones xs)
theorem guarded_length (xs : List UInt8) : (guarded xs).length = xs.length + 4 := by simp [guarded, four]
theorem crc_append (c : BitVec 32) (a b : List UInt8) : crc c (a ++ b) = crc (crc c a) b := by simp [crc, Tk.ext_append]
theorem crc_nil (c : BitVec 32) : crc c [] = c := rfl
theorem crc_snoc (c : BitVec 32) (xs : List UInt8) (k : Nat) (h : k < xs.length) : crc c (xs.take (k + 1)) = Tk.oct (crc c (xs.take k)) (bv (xs.getD k 0)) := by
  rw [List.take_succ_eq_append_getElem h, crc_append]
  simp [crc, Tk.ext, List.getD_eq_getElem?_getD, List.getElem?_eq_getElem h]
theorem ofInt_natCast (n : Nat) : BitVec.ofInt 32 (n : Int) = BitVec.ofNat 32 n := by
  apply BitVec.eq_of_toNat_eq
  simp [BitVec.toNat_ofNat]
theorem xor_u32 (a b : BitVec 32) : bits .xor .u32 (a.toNat : Int) (b.toNat : Int) = ((a ^^^ b).toNat : Int) := by
  rw [u32_xor_nat _ _ a.isLt b.isLt, BitVec.toNat_xor]
theorem dbl_u32 (c : BitVec 32) : (c.toNat : Int) * (2 : Int) % (4294967296 : Int) = ((c <<< 1).toNat : Int) := by
  rw [BitVec.toNat_shiftLeft, Nat.shiftLeft_eq]; omega
theorem msb_iff (c : BitVec 32) : c.msb = decide (2147483648 ≤ c.toNat) := by rw [BitVec.msb_eq_decide]
theorem bit1_int (c : BitVec 32) : bits .xor .u32 ((c.toNat : Int) * 2 % 4294967296) (bits .and .u32 79764919 (-((c.toNat : Int) / 2147483648) % 4294967296)) = ((Tk.bit1 c).toNat : Int) := by
  have hc := c.isLt
  unfold Tk.bit1
  rw [dbl_u32, msb_iff]
  by_cases h : 2147483648 ≤ c.toNat
  · have e : -((c.toNat : Int) / (2147483648 : Int)) % (4294967296 : Int) = 4294967295 := by omega
    have e2 : bits .and .u32 79764919 4294967295 = ((Tk.poly).toNat : Int) := by decide
    rw [e, e2, xor_u32]; simp [h]
  · have e : -((c.toNat : Int) / (2147483648 : Int)) % (4294967296 : Int) = 0 := by omega
    have e2 : bits .and .u32 79764919 0 = ((0#32).toNat : Int) := by decide
    rw [e, e2, xor_u32]; simp [h]
theorem bit1_hi (c : BitVec 32) (h : 2147483648 ≤ c.toNat) : bits .xor .u32 ((c.toNat : Int) * 2 % 4294967296) 79764919 = ((Tk.bit1 c).toNat : Int) := by
  unfold Tk.bit1
  have e : (79764919 : Int) = ((Tk.poly).toNat : Int) := by decide
  rw [dbl_u32, e, xor_u32, msb_iff]; simp [h]
theorem bit1_lo (c : BitVec 32) (h : ¬ 2147483648 ≤ c.toNat) : (c.toNat : Int) * (2 : Int) % (4294967296 : Int) = ((Tk.bit1 c).toNat : Int) := by
  unfold Tk.bit1
  rw [dbl_u32, msb_iff]; simp [h]
theorem bit1_lo' (c : BitVec 32) (h : ¬ 2147483648 ≤ c.toNat) : (c.toNat : Int) * (2 : Int) = ((Tk.bit1 c).toNat : Int) := by
  rw [← bit1_lo c h]; omega
theorem put_int (c : BitVec 32) (x : UInt8) : bits .xor .u32 (c.toNat : Int) ((x.toNat : Int) % 4294967296 * 16777216 % 4294967296) = ((c ^^^ (bv x <<< 24)).toNat : Int) := by
  have hx := x.toNat_lt
  have e : (x.toNat : Int) % (4294967296 : Int) * (16777216 : Int) % (4294967296 : Int) = ((bv x <<< 24).toNat : Int) := by
    rw [BitVec.toNat_shiftLeft, Nat.shiftLeft_eq]
    simp only [bv, BitVec.toNat_ofNat]
    omega
  rw [e, xor_u32]
theorem oct_bits (c : BitVec 32) (x : UInt8) : Tk.bits 8 (c ^^^ (bv x <<< 24)) = Tk.oct c (bv x) := rfl
theorem bv_lt (x : UInt8) : (bv x).toNat < 256 := by
  have := x.toNat_lt
  simp only [bv, BitVec.toNat_ofNat]
  omega
theorem bv_byte (n : Nat) : bv (UInt8.ofNat n) = BitVec.ofNat 32 n &&& 0xff#32 := by
  apply BitVec.eq_of_toNat_eq
  simp only [bv, BitVec.toNat_ofNat, BitVec.toNat_and, UInt8.toNat_ofNat']
  rw [show (255 % 2 ^ 32 : Nat) = 2 ^ 8 - 1 by decide, Nat.and_two_pow_sub_one_eq_mod]
  omega
theorem four_bv (c : BitVec 32) : (four c).map bv = Tk.four c := by
  have e : ∀ k, BitVec.ofNat 32 (c.toNat / 2 ^ k) = c >>> k := fun k => by
    apply BitVec.eq_of_toNat_eq
    rw [BitVec.toNat_ofNat, BitVec.toNat_ushiftRight, Nat.shiftRight_eq_div_pow]
    have := Nat.div_le_self c.toNat (2 ^ k)
    exact Nat.mod_eq_of_lt (Nat.lt_of_le_of_lt this c.isLt)
  have h : c >>> 24 &&& 0xff#32 = c >>> 24 := by
    apply BitVec.eq_of_toNat_eq
    rw [BitVec.toNat_and, BitVec.toNat_ushiftRight, Nat.shiftRight_eq_div_pow, show (0xff#32).toNat = 2 ^ 8 - 1 by decide, Nat.and_two_pow_sub_one_eq_mod]
    have := c.isLt
    omega
  have e8 := e 8
  have e16 := e 16
  have e24 := e 24
  rw [show (2 : Nat) ^ 8 = 256 by decide] at e8
  rw [show (2 : Nat) ^ 16 = 65536 by decide] at e16
  rw [show (2 : Nat) ^ 24 = 16777216 by decide] at e24
  simp only [four, Tk.four, List.map_cons, List.map_nil, bv_byte, e8, e16, e24, h, BitVec.ofNat_toNat, BitVec.setWidth_eq]
theorem crc_four (c : BitVec 32) : crc c (four c) = 0#32 := by
  unfold crc
  rw [four_bv]
  exact Tk.ext_four c
/-- what is guarded sums up to 0 -/
theorem crc_guarded (xs : List UInt8) : crc ones (guarded xs) = 0#32 := by rw [guarded, crc_append, crc_four]
end Go.Proofs.Ytaonjbpaeloniaa
