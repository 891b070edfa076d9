/- The plain law of numbers as octets. -/
import Derived.Lib.BitFns
import Derived.Lib.ItoaNum
namespace Go.Proofs.Ytaonjbpaeloniaa
open Go

def vsize (n : Nat) : Nat := if n < 128 then 1 else if n < 16384 then 2 else if n < 2097152 then 3 else if n < 268435456 then 4 else if n < 34359738368 then 5 else if n < 4398046511104 then 6 else if n < 562949953421312 then 7 else if n < 72057594037927936 then 8 else 9
theorem vsize_pos (n : Nat) : 1 ≤ vsize n := by unfold vsize; repeat' split <;> try omega
theorem vsize_le (n : Nat) : vsize n ≤ 9 := by unfold vsize; repeat' split <;> try omega
theorem bitLen_iff (x k : Nat) (hk : k ≤ 64) (hx : x < 2 ^ 64) : Lib.bitLen x ≤ k ↔ x < 2 ^ k := by
  constructor
  · intro h
    by_cases h0 : x = 0
    · subst h0; exact Nat.two_pow_pos k
    · have hb := Lib.bitLenAux_bounds 64 x hx h0
      exact Nat.lt_of_lt_of_le hb.2.2 (Nat.pow_le_pow_right (by omega) h)
  · exact fun h => Lib.bitLen_le x k hk h
theorem vsize_bits (n : Nat) (hn : n < 18446744073709551616) : vsize n = Nat.min 9 (Nat.max 1 ((Lib.bitLen n + 6) / 7)) := by
  have h := fun k hk => bitLen_iff n k hk hn
  have h7 := h 7 (by omega); have h14 := h 14 (by omega); have h21 := h 21 (by omega); have h28 := h 28 (by omega)
  have h35 := h 35 (by omega); have h42 := h 42 (by omega); have h49 := h 49 (by omega); have h56 := h 56 (by omega)
  have h64 := h 64 (by omega)
  simp only [Nat.reducePow] at h7 h14 h21 h28 h35 h42 h49 h56 h64
  have e1 : Nat.max 1 ((Lib.bitLen n + 6) / 7) = max 1 ((Lib.bitLen n + 6) / 7) := rfl
  have e2 : ∀ x, Nat.min 9 x = min 9 x := fun _ => rfl
  rw [e1, e2]
  unfold vsize
  repeat' split <;> try omega
/-- the lower j octets of n, the highest first -/
def be : Nat → Nat → List UInt8
  | 0, _ => []
  | j + 1, n => UInt8.ofNat (n / 256 ^ j) :: be j n
theorem be_length (j n : Nat) : (be j n).length = j := by induction j <;> simp [be, *]
def num8 (h : Nat) (l : List UInt8) : Nat := l.foldl (fun n x => n * 256 + x.toNat) h
theorem num8_append (h : Nat) (a b : List UInt8) : num8 h (a ++ b) = num8 (num8 h a) b := by simp [num8]
theorem num8_cons (h : Nat) (x : UInt8) (l : List UInt8) : num8 h (x :: l) = num8 (h * 256 + x.toNat) l := rfl
theorem num8_be (j n : Nat) : num8 (n / 256 ^ j) (be j n) = n := by
  induction j with
  | zero => simp [be, num8]
  | succ j ih =>
    rw [be, num8_cons]
    have : n / 256 ^ (j + 1) * 256 + (UInt8.ofNat (n / 256 ^ j)).toNat = n / 256 ^ j := by
      rw [Nat.pow_succ, ← Nat.div_div_eq_div_mul]
      simp only [UInt8.toNat_ofNat']
      omega
    rw [this, ih]
theorem num8_split (h : Nat) (l : List UInt8) : num8 h l = h * 256 ^ l.length + num8 0 l ∧ num8 0 l < 256 ^ l.length := by
  induction l generalizing h with
  | nil => simp [num8]
  | cons x l ih =>
    have hx := x.toNat_lt
    have h1 := ih (h * 256 + x.toNat)
    have h2 := ih (0 * 256 + x.toNat)
    rw [num8_cons, num8_cons, h1.1, h2.1, List.length_cons, Nat.pow_succ]
    have h3 := h1.2
    constructor
    · rw [Nat.add_mul, Nat.mul_assoc, Nat.mul_comm 256, Nat.zero_mul, Nat.zero_add, Nat.add_assoc]
    · rw [Nat.zero_mul, Nat.zero_add]
      have : x.toNat * 256 ^ l.length ≤ 255 * 256 ^ l.length := Nat.mul_le_mul_right _ (by omega)
      have e : 256 ^ l.length * 256 = 255 * 256 ^ l.length + 256 ^ l.length := by rw [Nat.mul_comm]; omega
      omega
theorem num8_div (h : Nat) (l : List UInt8) : num8 h l / 256 ^ l.length = h := by
  have := num8_split h l
  rw [this.1, Nat.add_comm, Nat.add_mul_div_right _ _ (Nat.pow_pos (by omega)), Nat.div_eq_of_lt this.2, Nat.zero_add]
theorem be_num8 (h : Nat) (l : List UInt8) : be l.length (num8 h l) = l := by
  induction l generalizing h with
  | nil => rfl
  | cons x l ih =>
    rw [List.length_cons, be, num8_cons, ih, num8_div]
    congr 1
    apply UInt8.toNat_inj.1
    have hx := x.toNat_lt
    simp only [UInt8.toNat_ofNat']
    omega
/-- how many ones an octet begins with; the ones that tell how many octets follow; what an octet holds beside them -/
def ones8 (b : UInt8) : Nat := 8 - Lib.bitLen (255 - b.toNat)
def lead (k : Nat) : UInt8 := ~~~ (UInt8.ofNat (255 / 2 ^ (k - 1)))
def mask8 (k : Nat) : UInt8 := UInt8.ofNat (255 / 2 ^ k)
def room (k : Nat) : Nat := if k = 9 then 1 else 2 ^ (8 - k)
def head (n : Nat) : UInt8 := UInt8.ofNat (n / 256 ^ (vsize n - 1)) ||| lead (vsize n)
def put (n : Nat) : List UInt8 := head n :: be (vsize n - 1) n
theorem put_length (n : Nat) : (put n).length = vsize n := by
  have := vsize_pos n
  rw [put, List.length_cons, be_length]
  omega
theorem ones8_le (b : UInt8) : ones8 b ≤ 8 := by unfold ones8; omega
theorem back8 (b : UInt8) : (b &&& mask8 (ones8 b + 1)) ||| lead (ones8 b + 1) = b ∧ (b &&& mask8 (ones8 b + 1)).toNat < room (ones8 b + 1) := by
  have h : ∀ n : Fin 256, ((UInt8.ofNat n.val) &&& mask8 (ones8 (UInt8.ofNat n.val) + 1)) ||| lead (ones8 (UInt8.ofNat n.val) + 1) = UInt8.ofNat n.val ∧ ((UInt8.ofNat n.val) &&& mask8 (ones8 (UInt8.ofNat n.val) + 1)).toNat < room (ones8 (UInt8.ofNat n.val) + 1) := by decide +kernel
  have := h ⟨b.toNat, b.toNat_lt⟩
  simpa using this
theorem forth8 (k x : Nat) (h1 : 1 ≤ k) (h9 : k ≤ 9) (hx : x < room k) : ones8 (UInt8.ofNat x ||| lead k) + 1 = k ∧ (UInt8.ofNat x ||| lead k) &&& mask8 k = UInt8.ofNat x ∧ (UInt8.ofNat x).toNat = x := by
  have h : ∀ k : Fin 10, ∀ x : Fin 128, 1 ≤ k.val → x.val < room k.val → ones8 (UInt8.ofNat x.val ||| lead k.val) + 1 = k.val ∧ (UInt8.ofNat x.val ||| lead k.val) &&& mask8 k.val = UInt8.ofNat x.val ∧ (UInt8.ofNat x.val).toNat = x.val := by decide +kernel
  have hr : ∀ k : Fin 10, 1 ≤ k.val → room k.val ≤ 128 := by decide
  have := hr ⟨k, by omega⟩ h1
  simp only at this
  exact h ⟨k, by omega⟩ ⟨x, by omega⟩ h1 hx
theorem room_size (n : Nat) (hn : n < 18446744073709551616) : n / 256 ^ (vsize n - 1) < room (vsize n) := by
  unfold vsize
  repeat' split
  all_goals (simp [room]; omega)
theorem size_room (k n : Nat) (h1 : 1 ≤ k) (h9 : k ≤ 9) (h : n / 256 ^ (k - 1) < room k) : vsize n ≤ k := by
  have hk : k = 1 ∨ k = 2 ∨ k = 3 ∨ k = 4 ∨ k = 5 ∨ k = 6 ∨ k = 7 ∨ k = 8 ∨ k = 9 := by omega
  rcases hk with rfl | rfl | rfl | rfl | rfl | rfl | rfl | rfl | rfl <;> simp [room] at h <;> unfold vsize <;> repeat' split <;> try omega
def oct0 : List UInt8 → UInt8
  | [] => 0
  | x :: _ => x
/-- what octets tell: the number and how many octets it has; else the error's number -/
def getNum (b : List UInt8) : Nat := num8 ((oct0 b &&& mask8 (ones8 (oct0 b) + 1)).toNat) ((b.take (ones8 (oct0 b) + 1)).drop 1)
def getErr (b : List UInt8) : Nat := if b.length < ones8 (oct0 b) + 1 then 8 else if vsize (getNum b) = ones8 (oct0 b) + 1 then 0 else 4
theorem getErr_nil : getErr [] = 8 := by decide
theorem get_put (n : Nat) (hn : n < 18446744073709551616) (more : List UInt8) : getErr (put n ++ more) = 0 ∧ getNum (put n ++ more) = n ∧ ones8 (oct0 (put n ++ more)) + 1 = vsize n := by
  have h1 := vsize_pos n
  have hf := forth8 (vsize n) (n / 256 ^ (vsize n - 1)) h1 (vsize_le n) (room_size n hn)
  have hh : oct0 (put n ++ more) = head n := rfl
  have ho : ones8 (head n) + 1 = vsize n := hf.1
  have hg : getNum (put n ++ more) = n := by
    unfold getNum
    rw [hh, ho, List.take_append_of_le_length (by rw [put_length]; omega), List.take_of_length_le (by rw [put_length]; omega)]
    show num8 (head n &&& mask8 (vsize n)).toNat (be (vsize n - 1) n) = n
    rw [show head n &&& mask8 (vsize n) = UInt8.ofNat (n / 256 ^ (vsize n - 1)) from hf.2.1, hf.2.2, num8_be]
  refine ⟨?_, hg, by rw [hh, ho]⟩
  unfold getErr
  rw [hh, ho, hg, if_neg (by rw [List.length_append, put_length]; omega), if_pos rfl]
theorem put_get (b : List UInt8) (h : getErr b = 0) : put (getNum b) = b.take (ones8 (oct0 b) + 1) ∧ ones8 (oct0 b) + 1 ≤ b.length ∧ vsize (getNum b) = ones8 (oct0 b) + 1 := by
  have hl : ¬ b.length < ones8 (oct0 b) + 1 := fun hc => by rw [getErr, if_pos hc] at h; omega
  have hv : vsize (getNum b) = ones8 (oct0 b) + 1 := by
    apply Classical.byContradiction
    intro hc
    rw [getErr, if_neg hl, if_neg hc] at h
    omega
  refine ⟨?_, by omega, hv⟩
  match b, hl, hv with
  | [], hl, _ => exact absurd (by simp) hl
  | b0 :: l, hl, hv =>
    have hb := back8 b0
    simp only [oct0] at hv hl ⊢
    rw [put, head, hv]
    have e : (getNum (b0 :: l)) = num8 (b0 &&& mask8 (ones8 b0 + 1)).toNat (l.take (ones8 b0)) := rfl
    have hlen : (l.take (ones8 b0)).length = ones8 b0 := by simp at hl ⊢; omega
    rw [e, List.take_succ_cons]
    have hd := num8_div (b0 &&& mask8 (ones8 b0 + 1)).toNat (l.take (ones8 b0))
    have hbe := be_num8 (b0 &&& mask8 (ones8 b0 + 1)).toNat (l.take (ones8 b0))
    rw [hlen] at hd hbe
    rw [Nat.add_sub_cancel, hd, hbe]
    congr 1
    rw [UInt8.ofNat_toNat]
    exact hb.1
theorem getNum_room (b : List UInt8) (hl : ones8 (oct0 b) + 1 ≤ b.length) : vsize (getNum b) ≤ ones8 (oct0 b) + 1 := by
  have hb := back8 (oct0 b)
  have h8 := ones8_le (oct0 b)
  refine size_room _ _ (by omega) (by omega) ?_
  have hlen : ((b.take (ones8 (oct0 b) + 1)).drop 1).length = ones8 (oct0 b) + 1 - 1 := by simp; omega
  have hd := num8_div (oct0 b &&& mask8 (ones8 (oct0 b) + 1)).toNat ((b.take (ones8 (oct0 b) + 1)).drop 1)
  rw [hlen] at hd
  rw [getNum, hd]
  exact hb.2
end Go.Proofs.Ytaonjbpaeloniaa
