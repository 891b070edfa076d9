/- Bloom: plain laws of filters: the order of the places does not matter; what is put in is in. -/
import Derived.Test.YtmnecbmneljhkaaBlL
namespace Go.Proofs.Ytmnecbmneljhkaa
set_option linter.unusedVariables false

def maskB (p : Nat) : UInt8 := UInt8.ofNat (2 ^ (p % 8))
theorem setB_get (xs : List UInt8) (p i : Nat) : (setB xs p)[i]? = (xs[i]?).map fun x => if p / 8 = i then x ||| maskB p else x := by
  unfold setB
  rw [List.getElem?_set]
  by_cases h : p / 8 = i
  · subst h
    by_cases hl : p / 8 < xs.length
    · simp [hl, maskB]
    · rw [if_pos rfl, if_neg hl, List.getElem?_eq_none (by omega)]
      rfl
  · rw [if_neg h]
    simp [h]
theorem setB_comm (xs : List UInt8) (p q : Nat) : setB (setB xs p) q = setB (setB xs q) p := by
  apply List.ext_getElem?
  intro i
  rw [setB_get, setB_get, setB_get, setB_get]
  cases xs[i]? with
  | none => rfl
  | some x =>
    simp only [Option.map_some]
    congr 1
    by_cases h1 : p / 8 = i <;> by_cases h2 : q / 8 = i <;> simp [h1, h2]
    rw [UInt8.or_assoc, UInt8.or_comm (maskB p), ← UInt8.or_assoc]
def setL (xs : List UInt8) (ps : List Nat) : List UInt8 := ps.foldl setB xs
theorem setL_length (ps : List Nat) (xs : List UInt8) : (setL xs ps).length = xs.length := by
  induction ps generalizing xs with
  | nil => rfl
  | cons p r ih => unfold setL at *; rw [List.foldl_cons, ih, setB_length]
def places (s : ByteArray) (n k : Nat) : List Nat := (List.range k).map (place s n)
theorem setU_L (xs : List UInt8) (s : ByteArray) (k : Nat) : setU xs s k = setL xs (places s (8 * xs.length) k) := by
  induction k with
  | zero => rfl
  | succ k ih =>
    rw [setU, ih, places, places, List.range_succ, List.map_append]
    unfold setL
    rw [List.foldl_append]
    rfl
theorem setAll_L (m : Nat) (ss : List ByteArray) (xs : List UInt8) : setAll m xs ss = setL xs (ss.flatMap fun s => places s (8 * xs.length) m) := by
  induction ss generalizing xs with
  | nil => rfl
  | cons s r ih =>
    rw [setAll, ih, setU_length, setU_L, List.flatMap_cons]
    unfold setL
    rw [List.foldl_append]
theorem setAll_reverse (m : Nat) (ss : List ByteArray) (xs : List UInt8) : setAll m xs ss.reverse = setAll m xs ss := by
  rw [setAll_L, setAll_L]
  unfold setL
  exact List.Perm.foldl_eq' (List.Perm.flatMap_right _ (List.reverse_perm ss)) (fun x _ y _ z => setB_comm z x y) xs
theorem makeX_reverse (each : Int) (ss : List ByteArray) : makeX each ss.reverse = makeX each ss := by
  unfold makeX
  rw [List.length_reverse, setAll_reverse]

/-- no bit of the one lacks in the other -/
structure Le (xs ys : List UInt8) : Prop where
  len : xs.length = ys.length
  bit : ∀ i j, (xs.getD i 0).toNat.testBit j = true → (ys.getD i 0).toNat.testBit j = true
theorem Le.refl (xs : List UInt8) : Le xs xs := ⟨rfl, fun _ _ h => h⟩
theorem Le.trans {xs ys zs : List UInt8} (h : Le xs ys) (k : Le ys zs) : Le xs zs := ⟨h.len.trans k.len, fun i j e => k.bit i j (h.bit i j e)⟩
theorem or_bit_l (a b : UInt8) (j : Nat) (h : a.toNat.testBit j = true) : (a ||| b).toNat.testBit j = true := by
  rw [UInt8.toNat_or, Nat.testBit_or, h, Bool.true_or]
theorem getD_set (xs : List UInt8) (k i : Nat) (v : UInt8) : (xs.set k v).getD i 0 = if k = i ∧ k < xs.length then v else xs.getD i 0 := by
  rw [List.getD_eq_getElem?_getD, List.getD_eq_getElem?_getD, List.getElem?_set]
  by_cases h : k = i
  · subst h
    by_cases hl : k < xs.length
    · simp [hl]
    · rw [if_pos rfl, if_neg hl, if_neg (fun e => hl e.2), List.getElem?_eq_none (by omega)]
  · rw [if_neg h, if_neg (fun e => h e.1)]
theorem Le.or_at (xs : List UInt8) (k : Nat) (b : UInt8) : Le xs (xs.set k (xs.getD k 0 ||| b)) := by
  refine ⟨List.length_set.symm, fun i j h => ?_⟩
  rw [getD_set]
  split
  · next e => rw [e.1]; exact or_bit_l _ _ _ h
  · exact h
theorem Le.setB (xs : List UInt8) (p : Nat) : Le xs (setB xs p) := Le.or_at xs (p / 8) _
theorem Le.setU (xs : List UInt8) (s : ByteArray) (k d : Nat) : Le (setU xs s k) (setU xs s (k + d)) := by
  induction d with
  | zero => exact Le.refl _
  | succ d ih => exact ih.trans (by rw [show k + (d + 1) = (k + d) + 1 by omega, Go.Proofs.Ytmnecbmneljhkaa.setU]; exact Le.setB _ _)
theorem Le.setAll (m : Nat) (ss : List ByteArray) (xs : List UInt8) : Le xs (setAll m xs ss) := by
  induction ss generalizing xs with
  | nil => exact Le.refl _
  | cons s r ih => exact ((by have := Le.setU xs s 0 m; rw [Nat.zero_add] at this; exact this : Le xs (Go.Proofs.Ytmnecbmneljhkaa.setU xs s m))).trans (ih _)
theorem bitN_ne (xs : List UInt8) (p : Nat) : bitN xs p ≠ 0 ↔ (xs.getD (p / 8) 0).toNat.testBit (p % 8) = true := by
  unfold bitN
  rw [Nat.testBit_eq_decide_div_mod_eq, decide_eq_true_iff]
  have := Nat.mod_lt ((xs.getD (p / 8) 0).toNat / 2 ^ (p % 8)) (show 0 < 2 by decide)
  omega
theorem bit_setB (xs : List UInt8) (p : Nat) (hp : p < 8 * xs.length) : bitN (setB xs p) p ≠ 0 := by
  rw [bitN_ne]
  unfold setB
  rw [getD_set, if_pos ⟨rfl, by omega⟩, UInt8.toNat_or, Nat.testBit_or]
  have h8 : p % 8 < 8 := Nat.mod_lt _ (by decide)
  have e : (UInt8.ofNat (2 ^ (p % 8))).toNat = 2 ^ (p % 8) := by
    rw [UInt8.toNat_ofNat']
    have : 2 ^ (p % 8) ≤ 2 ^ 7 := Nat.pow_le_pow_right (by decide) (by omega)
    generalize 2 ^ (p % 8) = t at *
    omega
  rw [e, Nat.testBit_two_pow_self, Bool.or_true]
theorem hasU_of (xs : List UInt8) (s : ByteArray) (k : Nat) (h : ∀ j, j < k → bitN xs (place s (8 * xs.length) j) ≠ 0) : hasU xs s k = true := by
  induction k with
  | zero => rfl
  | succ k ih =>
    rw [hasU, ih (fun j hj => h j (by omega))]
    simpa using h k (by omega)
theorem hasU_all (xs : List UInt8) (s : ByteArray) (k : Nat) (h : hasU xs s k = true) (j : Nat) (hj : j < k) : bitN xs (place s (8 * xs.length) j) ≠ 0 := by
  induction k with
  | zero => omega
  | succ k ih =>
    rw [hasU, Bool.and_eq_true] at h
    by_cases e : j = k
    · subst e; simpa using h.2
    · exact ih h.1 (by omega)
theorem hasU_mono {xs ys : List UInt8} (h : Le xs ys) (s : ByteArray) (k : Nat) (hx : hasU xs s k = true) : hasU ys s k = true := by
  refine hasU_of ys s k fun j hj => ?_
  have := hasU_all xs s k hx j hj
  rw [← h.len, bitN_ne]
  exact h.bit _ _ ((bitN_ne _ _).1 this)
theorem hasU_setU (xs : List UInt8) (s : ByteArray) (m : Nat) (hn : 0 < xs.length) : hasU (setU xs s m) s m = true := by
  refine hasU_of _ s m fun j hj => ?_
  rw [setU_length]
  have hp : place s (8 * xs.length) j < 8 * xs.length := Nat.mod_lt _ (by omega)
  have h1 : bitN (setU xs s (j + 1)) (place s (8 * xs.length) j) ≠ 0 := by
    rw [setU]
    exact bit_setB _ _ (by rw [setU_length]; exact hp)
  have h2 := Le.setU xs s (j + 1) (m - (j + 1))
  rw [show j + 1 + (m - (j + 1)) = m by omega] at h2
  rw [bitN_ne]
  exact h2.bit _ _ ((bitN_ne _ _).1 h1)
theorem hasU_setAll (m : Nat) (ss : List ByteArray) (s : ByteArray) (hs : s ∈ ss) (xs : List UInt8) (hn : 0 < xs.length) : hasU (setAll m xs ss) s m = true := by
  induction ss generalizing xs with
  | nil => cases hs
  | cons t r ih =>
    rw [setAll]
    rcases List.mem_cons.1 hs with rfl | h
    · exact hasU_mono (Le.setAll m r _) s m (hasU_setU xs s m hn)
    · exact ih h _ (by rw [setU_length]; exact hn)
theorem has_made (each : Int) (ss : List ByteArray) (s : ByteArray) (hs : s ∈ ss) (hok : makeOk each ss.length) (ys : List UInt8) (hle : Le (makeX each ss) ys) : hasB (makeK each ss.length) ys s = true ∧ encE (makeK each ss.length) ys.length = 0 ∧ ys.length ≤ 8192 := by
  have hk : makeK each ss.length = (makeM each.toNat : Int) := by rw [makeK, if_pos hok]
  have hX : makeX each ss = setAll (makeM each.toNat) (List.replicate (makeN each.toNat ss.length) 0) ss := by rw [makeX, if_pos hok]
  obtain ⟨h1, h2, h3⟩ := hok
  have hM : 1 ≤ makeM each.toNat ∧ makeM each.toNat ≤ 8 := by unfold makeM; omega
  have hne : ss.length * each.toNat ≤ 65536 := Nat.le_trans (Nat.mul_le_mul h3 (show each.toNat ≤ 16 by omega)) (by decide)
  have hN : 1 ≤ makeN each.toNat ss.length ∧ makeN each.toNat ss.length ≤ 8192 := by
    unfold makeN
    generalize ss.length * each.toNat = q at *
    omega
  have hlen : ys.length = makeN each.toNat ss.length := by rw [← hle.len, hX, setAll_length, List.length_replicate]
  have hok2 : okF (makeM each.toNat : Int) ys.length := by rw [hlen]; exact ⟨by omega, by omega, by omega, by omega⟩
  refine ⟨?_, by rw [hk, encE, if_pos hok2], by omega⟩
  rw [hk, hasB, decide_eq_true hok2, Bool.true_and, Int.toNat_natCast]
  rw [hX] at hle
  exact hasU_mono hle s _ (hasU_setAll _ ss s hs _ (by rw [List.length_replicate]; omega))
end Go.Proofs.Ytmnecbmneljhkaa
