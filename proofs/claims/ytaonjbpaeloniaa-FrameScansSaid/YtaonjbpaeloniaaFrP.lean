/- Frame: records as octets, plainly. -/
import Derived.Test.YtaonjbpaeloniaaSumB
import Derived.Test.YtaonjbpaeloniaaVi
import Derived.Test.YtaonjbpaeloniaaViW3
namespace Go.Proofs.Ytaonjbpaeloniaa
set_option linter.unusedVariables false

def putFE (K : Int) (n : Nat) : Int := if K < 0 ∨ 255 < K then 22 else if 65536 < n then 5 else 0
def bodyF (K : Int) (d : List UInt8) : List UInt8 := put d.length ++ UInt8.ofNat K.toNat :: d
def putFX (K : Int) (d : List UInt8) : List UInt8 := if putFE K d.length = 0 then guarded (bodyF K d) else []
theorem putFE_ok (K : Int) (n : Nat) (h : putFE K n = 0) : 0 ≤ K ∧ K ≤ 255 ∧ n ≤ 65536 := by
  unfold putFE at h
  split at h
  · omega
  · split at h <;> omega
theorem bodyF_length (K : Int) (d : List UInt8) : (bodyF K d).length = vsize d.length + 1 + d.length := by
  rw [bodyF, List.length_append, put_length, List.length_cons]; omega
def fgE (b : List UInt8) : Int := if getErr b ≠ 0 then (getErr b : Int) else if 65536 < gN b then 5 else if b.length < gK b + 1 + gN b + 4 then 8 else bareNum (b.take (gK b + 1 + gN b + 4))
def fgS (b : List UInt8) : Nat := if fgE b = 0 then gK b + 1 + gN b + 4 else 0
def fgK (b : List UInt8) : Int := if fgE b = 0 then ((b.getD (gK b) 0).toNat : Int) else 0
def fgX (b : List UInt8) : List UInt8 := if fgE b = 0 then (b.take (gK b + 1 + gN b)).drop (gK b + 1) else []
theorem get_put2 (n : Nat) (hn : n < 18446744073709551616) (r : List UInt8) : getErr (put n ++ r) = 0 ∧ gN (put n ++ r) = n ∧ gK (put n ++ r) = vsize n := by
  obtain ⟨h1, h2, h3⟩ := get_put n hn r
  exact ⟨h1, by rw [gN, if_pos h1, h2], by rw [gK, if_pos h1, h3]⟩
/-- a record that is read back -/
theorem get_frame (K : Int) (d more : List UInt8) (h : putFE K d.length = 0) : fgE (putFX K d ++ more) = 0 ∧ fgK (putFX K d ++ more) = K ∧ fgX (putFX K d ++ more) = d ∧ fgS (putFX K d ++ more) = (putFX K d).length := by
  obtain ⟨h1, h2, h3⟩ := putFE_ok K d.length h
  have e : putFX K d = guarded (bodyF K d) := by rw [putFX, if_pos h]
  have hlen : (guarded (bodyF K d)).length = vsize d.length + 1 + d.length + 4 := by rw [guarded_length, bodyF_length]
  rw [e]
  have hsplit : guarded (bodyF K d) ++ more = put d.length ++ (UInt8.ofNat K.toNat :: d ++ four (crc ones (bodyF K d)) ++ more) := by
    rw [guarded, bodyF]; simp
  obtain ⟨g1, g2, g3⟩ := get_put2 d.length (by omega) (UInt8.ofNat K.toNat :: d ++ four (crc ones (bodyF K d)) ++ more)
  rw [← hsplit] at g1 g2 g3
  have htake : (guarded (bodyF K d) ++ more).take (vsize d.length + 1 + d.length + 4) = guarded (bodyF K d) := by rw [← hlen, List.take_left]
  have hE : fgE (guarded (bodyF K d) ++ more) = 0 := by
    rw [fgE, if_neg (fun h => h g1), g2, g3, if_neg (by omega), if_neg (by rw [List.length_append, hlen]; omega), htake, bareNum_guarded]
  refine ⟨hE, ?_, ?_, ?_⟩
  · rw [fgK, if_pos hE, g3, hsplit, List.getD_eq_getElem?_getD, List.getElem?_append_right (by rw [put_length]; omega), put_length]
    simp
    omega
  · rw [fgX, if_pos hE, g2, g3, hsplit, ← put_length, List.append_assoc, List.cons_append]
    have e2 : put d.length ++ UInt8.ofNat K.toNat :: (d ++ (four (crc ones (bodyF K d)) ++ more)) = (put d.length ++ UInt8.ofNat K.toNat :: d) ++ (four (crc ones (bodyF K d)) ++ more) := by simp
    rw [e2]
    have hl2 : (put d.length ++ UInt8.ofNat K.toNat :: d).length = (put d.length).length + 1 + d.length := by simp; omega
    rw [← hl2, List.take_left]
    have e3 : put d.length ++ UInt8.ofNat K.toNat :: d = (put d.length ++ [UInt8.ofNat K.toNat]) ++ d := by simp
    rw [e3]
    have hl3 : (put d.length ++ [UInt8.ofNat K.toNat]).length = (put d.length).length + 1 := by simp
    rw [← hl3, List.drop_left]
  · rw [fgS, if_pos hE, g2, g3, hlen]
/-- one octet that is another one: the sum no longer fits -/
theorem oct_ne (e : UInt8) (he : e ≠ 0) (c : BitVec 32) (h : Tk.oct 0#32 (bv e) = 0#32) : False := by
  have h1 := Tk.bits_inj 8 _ h
  rw [BitVec.zero_xor] at h1
  have h2 : (bv e <<< 24).toNat = 0 := by rw [h1]; rfl
  have hb := bv_lt e
  have hbe : (bv e).toNat = e.toNat := by
    unfold bv
    rw [BitVec.toNat_ofNat]
    have := e.toNat_lt
    omega
  rw [BitVec.toNat_shiftLeft, Nat.shiftLeft_eq] at h2
  have : e.toNat = 0 := by omega
  exact he (by apply UInt8.toNat_inj.1; rw [this]; rfl)
theorem crc_zeros (n : Nat) (c : BitVec 32) (h : crc c (List.replicate n 0) = 0#32) : c = 0#32 := by
  induction n generalizing c with
  | zero => exact h
  | succ n ih =>
    rw [List.replicate_succ] at h
    have h1 : crc (Tk.oct c (bv 0)) (List.replicate n 0) = 0#32 := h
    have h2 := ih _ h1
    have h3 : c ^^^ (bv 0 <<< 24) = 0#32 := Tk.bits_inj 8 _ h2
    have h4 : (bv 0 <<< 24) = 0#32 := by decide
    rw [h4, BitVec.xor_zero] at h3
    exact h3
theorem bv_xor (x y : UInt8) : bv (x ^^^ y) = bv x ^^^ bv y := by
  unfold bv
  apply BitVec.eq_of_toNat_eq
  have hx := x.toNat_lt
  have hy := y.toNat_lt
  have hz := Nat.lt_trans (Nat.xor_lt_two_pow (n := 8) hx hy) (show 2 ^ 8 < 2 ^ 32 by decide)
  rw [BitVec.toNat_xor, BitVec.toNat_ofNat, BitVec.toNat_ofNat, BitVec.toNat_ofNat, UInt8.toNat_xor, Nat.mod_eq_of_lt hz, Nat.mod_eq_of_lt (show x.toNat < 2 ^ 32 by omega), Nat.mod_eq_of_lt (show y.toNat < 2 ^ 32 by omega)]
theorem zip_self (r : List UInt8) : (List.replicate r.length (0 : UInt8)).map bv = List.zipWith (· ^^^ ·) (r.map bv) (r.map bv) := by
  induction r with
  | nil => rfl
  | cons y r ih =>
    simp only [List.length_cons, List.replicate_succ, List.map_cons, List.zipWith_cons_cons, BitVec.xor_self]
    rw [ih]
    rfl
theorem crc_one (xs : List UInt8) (i : Nat) (hi : i < xs.length) (e : UInt8) (he : e ≠ 0) (h1 : crc ones xs = 0#32) (h2 : crc ones (xs.set i (xs.getD i 0 ^^^ e)) = 0#32) : False := by
  have hsplit : xs = xs.take i ++ xs.getD i 0 :: xs.drop (i + 1) := by
    rw [List.getD_eq_getElem?_getD, List.getElem?_eq_getElem hi]
    simp [List.take_append_drop]
  have hset : xs.set i (xs.getD i 0 ^^^ e) = xs.take i ++ (xs.getD i 0 ^^^ e) :: xs.drop (i + 1) := by
    rw [List.set_eq_take_append_cons_drop, if_pos hi]
  rw [hset] at h2
  rw [hsplit] at h1
  generalize xs.take i = a at *
  generalize xs.drop (i + 1) = r at *
  generalize xs.getD i 0 = x at *
  rw [crc_append] at h1 h2
  generalize crc ones a = c at *
  have key : crc (Tk.oct c (bv x) ^^^ Tk.oct c (bv (x ^^^ e))) (List.replicate r.length 0) = crc (Tk.oct c (bv x)) r ^^^ crc (Tk.oct c (bv (x ^^^ e))) r := by
    have := Tk.ext_xor (Tk.oct c (bv x)) (Tk.oct c (bv (x ^^^ e))) (r.map bv) (r.map bv) rfl
    unfold crc
    rw [← this]
    rw [zip_self]
  have k1 : crc (Tk.oct c (bv x)) r = 0#32 := h1
  have k2 : crc (Tk.oct c (bv (x ^^^ e))) r = 0#32 := h2
  rw [k1, k2, BitVec.xor_self] at key
  have k3 := crc_zeros _ _ key
  rw [← Tk.oct_xor, BitVec.xor_self, bv_xor, ← BitVec.xor_assoc, BitVec.xor_self, BitVec.zero_xor] at k3
  exact oct_ne e he 0#32 k3
theorem bare_rot (xs : List UInt8) (i : Nat) (hi : i < (guarded xs).length) (e : UInt8) (he : e ≠ 0) : bareNum ((guarded xs).set i ((guarded xs).getD i 0 ^^^ e)) = 21 := by
  have h4 : 4 ≤ (guarded xs).length := by rw [guarded_length]; omega
  unfold bareNum
  rw [List.length_set, if_neg (by omega), if_neg]
  intro h
  have h2 := crc_guarded (((guarded xs).set i ((guarded xs).getD i 0 ^^^ e)).take ((guarded xs).length - 4))
  rw [h] at h2
  exact crc_one (guarded xs) i hi e he (crc_guarded xs) h2
/-- a record with one octet behind its length that is another one -/
theorem get_rot (K : Int) (d : List UInt8) (h : putFE K d.length = 0) (j : Nat) (hj : j < d.length + 5) (e : UInt8) (he : e ≠ 0) :
    fgE ((putFX K d).set (vsize d.length + j) ((putFX K d).getD (vsize d.length + j) 0 ^^^ e)) = 21 := by
  obtain ⟨h1, h2, h3⟩ := putFE_ok K d.length h
  have e1 : putFX K d = guarded (bodyF K d) := by rw [putFX, if_pos h]
  have hlen : (guarded (bodyF K d)).length = vsize d.length + 1 + d.length + 4 := by rw [guarded_length, bodyF_length]
  rw [e1]
  have hb := bare_rot (bodyF K d) (vsize d.length + j) (by rw [hlen]; omega) e he
  have hsplit : ∃ r, (guarded (bodyF K d)).set (vsize d.length + j) ((guarded (bodyF K d)).getD (vsize d.length + j) 0 ^^^ e) = put d.length ++ r := by
    have e2 : guarded (bodyF K d) = put d.length ++ (UInt8.ofNat K.toNat :: d ++ four (crc ones (bodyF K d))) := by rw [guarded, bodyF]; simp
    generalize (guarded (bodyF K d)).getD (vsize d.length + j) 0 ^^^ e = v
    rw [e2, List.set_append_right _ _ (by rw [put_length]; omega)]
    exact ⟨_, rfl⟩
  have hl2 : ((guarded (bodyF K d)).set (vsize d.length + j) ((guarded (bodyF K d)).getD (vsize d.length + j) 0 ^^^ e)).length = vsize d.length + 1 + d.length + 4 := by rw [List.length_set, hlen]
  generalize (guarded (bodyF K d)).set (vsize d.length + j) ((guarded (bodyF K d)).getD (vsize d.length + j) 0 ^^^ e) = ys at *
  obtain ⟨r, rfl⟩ := hsplit
  obtain ⟨g1, g2, g3⟩ := get_put2 d.length (by omega) r
  rw [fgE, if_neg (fun h => h g1), g2, g3, if_neg (by omega), if_neg (by omega), ← hl2, List.take_length, hb]
end Go.Proofs.Ytaonjbpaeloniaa
