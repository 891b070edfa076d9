/- Frame: records one behind the other, scanned; and cut off, plainly. -/
import Derived.Test.YtaonjbpaeloniaaFrH
namespace Go.Proofs.Ytaonjbpaeloniaa
set_option linter.unusedVariables false

theorem getNum_lt' (b : List UInt8) (h : getErr b = 0) : getNum b < 18446744073709551616 := by
  obtain ⟨-, hlen, hs⟩ := put_get b h
  rw [getNum]
  have h9 := ones8_le (oct0 b)
  have hk : ((b.take (ones8 (oct0 b) + 1)).drop 1).length = ones8 (oct0 b) := by rw [List.length_drop, List.length_take]; omega
  have hb := (back8 (oct0 b)).2
  obtain ⟨e1, e2⟩ := num8_split ((oct0 b &&& mask8 (ones8 (oct0 b) + 1)).toNat) ((b.take (ones8 (oct0 b) + 1)).drop 1)
  rw [hk] at e1 e2
  rw [e1]
  generalize (oct0 b &&& mask8 (ones8 (oct0 b) + 1)).toNat = x at *
  generalize num8 0 ((b.take (ones8 (oct0 b) + 1)).drop 1) = y at *
  generalize ones8 (oct0 b) = k at *
  unfold room at hb
  have : k = 0 ∨ k = 1 ∨ k = 2 ∨ k = 3 ∨ k = 4 ∨ k = 5 ∨ k = 6 ∨ k = 7 ∨ k = 8 := by omega
  rcases this with rfl | rfl | rfl | rfl | rfl | rfl | rfl | rfl | rfl <;> simp at hb e2 ⊢ <;> omega
theorem fg_nil : fgE [] ≠ 0 := by decide
/-- a record cut off ahead of its end is none -/
theorem get_cutF (K : Int) (d : List UInt8) (h : putFE K d.length = 0) (m : Nat) (hm : m < (putFX K d).length) : fgE ((putFX K d).take m) ≠ 0 := by
  intro h0
  obtain ⟨h1, h2, h3⟩ := putFE_ok K d.length h
  have e : putFX K d = guarded (bodyF K d) := by rw [putFX, if_pos h]
  have hlen : (putFX K d).length = vsize d.length + 1 + d.length + 4 := by rw [e, guarded_length, bodyF_length]
  have hp : putFX K d = put d.length ++ (UInt8.ofNat K.toNat :: d ++ four (crc ones (bodyF K d))) := by rw [e, guarded, bodyF]; simp
  obtain ⟨b, hb⟩ : ∃ b, (putFX K d).take m = b := ⟨_, rfl⟩
  have hbl : b.length = m := by rw [← hb, List.length_take]; omega
  have hsp : putFX K d = b ++ (putFX K d).drop m := by rw [← hb, List.take_append_drop]
  rw [hb] at h0
  have h0' := h0
  unfold fgE at h0
  split at h0
  · next q => omega
  · next q =>
    split at h0
    · omega
    · split at h0
      · omega
      · next q2 q3 =>
        have q4 : getErr b = 0 := by simpa using q
        obtain ⟨p1, p2, p3⟩ := put_get b q4
        have q5 : gN b = getNum b := by rw [gN, if_pos q4]
        have hN := getNum_lt' b q4
        have hsp2 : putFX K d = put (getNum b) ++ (b.drop (ones8 (oct0 b) + 1) ++ (putFX K d).drop m) := by
          rw [p1, ← List.append_assoc, List.take_append_drop]
          exact hsp
        obtain ⟨r1, r2, r3⟩ := get_put2 (getNum b) hN (b.drop (ones8 (oct0 b) + 1) ++ (putFX K d).drop m)
        rw [← hsp2] at r1 r2 r3
        obtain ⟨s1, s2, s3⟩ := get_put2 d.length (by omega) (UInt8.ofNat K.toNat :: d ++ four (crc ones (bodyF K d)))
        rw [← hp] at s1 s2 s3
        obtain ⟨t1, t2, t3⟩ := get_put2 (getNum b) hN (b.drop (ones8 (oct0 b) + 1))
        rw [p1, List.take_append_drop] at t1 t2 t3
        omega
def okR (r : Int × List UInt8) : Prop := putFE r.1 r.2.length = 0
def catF (rs : List (Int × List UInt8)) : List UInt8 := rs.flatMap fun r => putFX r.1 r.2
def endF (rs : List (Int × List UInt8)) (k : Nat) : Nat := (catF (rs.take k)).length
theorem catF_nil : catF [] = [] := rfl
theorem catF_snoc (rs : List (Int × List UInt8)) (r : Int × List UInt8) : catF (rs ++ [r]) = catF rs ++ putFX r.1 r.2 := by simp [catF]
theorem catF_app (a b : List (Int × List UInt8)) : catF (a ++ b) = catF a ++ catF b := by simp [catF]
theorem catF_cons (r : Int × List UInt8) (b : List (Int × List UInt8)) : catF (r :: b) = putFX r.1 r.2 ++ catF b := by simp [catF]
theorem catF_at (rs : List (Int × List UInt8)) (k : Nat) (h : k < rs.length) : (catF rs).drop (endF rs k) = putFX rs[k].1 rs[k].2 ++ catF (rs.drop (k + 1)) := by
  have e : catF rs = catF (rs.take k) ++ (putFX rs[k].1 rs[k].2 ++ catF (rs.drop (k + 1))) := by
    rw [← catF_cons, ← catF_app, ← List.drop_eq_getElem_cons h, List.take_append_drop]
  rw [e, endF, List.drop_left]
theorem endF_succ (rs : List (Int × List UInt8)) (k : Nat) (h : k < rs.length) : endF rs (k + 1) = endF rs k + (putFX rs[k].1 rs[k].2).length := by
  rw [endF, endF, List.take_succ_eq_append_getElem h, catF_snoc, List.length_append]
theorem endF_all (rs : List (Int × List UInt8)) : endF rs rs.length = (catF rs).length := by rw [endF, List.take_length]
theorem endF_le (rs : List (Int × List UInt8)) (k : Nat) : endF rs k ≤ (catF rs).length := by
  have e : catF rs = catF (rs.take k) ++ catF (rs.drop k) := by rw [← catF_app, List.take_append_drop]
  rw [endF, e, List.length_append]
  omega
/-- what is ahead of a cut is scanned -/
theorem scan_cut (rs : List (Int × List UInt8)) (hok : ∀ r ∈ rs, okR r) (at_ k : Nat) (hk : k ≤ rs.length) (h1 : endF rs k ≤ at_) (h2 : ∀ h : k < rs.length, at_ < endF rs (k + 1)) :
    scanRs ((catF rs).take at_) = rs.take k ∧ scanEnd ((catF rs).take at_) = endF rs k := by
  obtain ⟨b, hb⟩ : ∃ b, (catF rs).take at_ = b := ⟨_, rfl⟩
  have hmono : ∀ j i, j ≤ i → endF rs j ≤ endF rs i := by
    intro j i hji
    rw [endF, endF]
    have : catF (rs.take i) = catF (rs.take j) ++ catF ((rs.take i).drop j) := by
      rw [← catF_app]
      have := List.take_append_drop j (rs.take i)
      rw [List.take_take, Nat.min_eq_left hji] at this
      rw [this]
    rw [this, List.length_append]
    omega
  have hd : ∀ j (hj : j < k), ∃ more, b.drop (endF rs j) = putFX (rs[j]'(by omega)).1 (rs[j]'(by omega)).2 ++ more := by
    intro j hj
    have e1 := catF_at rs j (by omega)
    have e2 := endF_succ rs j (by omega)
    have e3 := hmono (j + 1) k (by omega)
    rw [← hb, List.drop_take, e1, List.take_append, List.take_of_length_le (by omega)]
    exact ⟨_, rfl⟩
  have key : ∀ j, j ≤ k → pos b j = endF rs j := by
    intro j
    induction j with
    | zero => intro _; simp [pos, endF, catF]
    | succ j ih =>
      intro hj
      have e1 := ih (by omega)
      obtain ⟨more, e2⟩ := hd j (by omega)
      obtain ⟨g1, g2, g3, g4⟩ := get_frame (rs[j]'(by omega)).1 (rs[j]'(by omega)).2 more (hok _ (List.getElem_mem _))
      show pos b j + fgS (b.drop (pos b j)) = _
      rw [e1, e2, g4, endF_succ rs j (by omega)]
  have hrec : ∀ j (hj : j < k), okAt b j ∧ recAt b j = rs[j]'(by omega) := by
    intro j hj
    obtain ⟨more, e2⟩ := hd j hj
    obtain ⟨g1, g2, g3, g4⟩ := get_frame (rs[j]'(by omega)).1 (rs[j]'(by omega)).2 more (hok _ (List.getElem_mem _))
    unfold okAt recAt
    rw [key j (by omega), e2, g1, g2, g3]
    exact ⟨rfl, rfl⟩
  have hno : ¬ okAt b k := by
    unfold okAt
    rw [key k (Nat.le_refl _), ← hb, List.drop_take]
    rcases Nat.lt_or_ge k rs.length with hlt | hge
    · have e1 := catF_at rs k hlt
      have e2 := endF_succ rs k hlt
      have e3 := h2 hlt
      rw [e1, List.take_append_of_le_length (by omega)]
      exact get_cutF _ _ (hok _ (List.getElem_mem _)) _ (by omega)
    · obtain rfl : k = rs.length := by omega
      rw [endF_all, List.drop_of_length_le (Nat.le_refl _), List.take_nil]
      exact fg_nil
  have hN := scanN_eq b k (fun j hj => (hrec j hj).1) hno
  rw [hb]
  unfold scanRs scanEnd
  rw [hN]
  refine ⟨?_, key k (Nat.le_refl _)⟩
  apply List.ext_getElem
  · rw [recsTo_length, List.length_take]; omega
  · intro i hi1 hi2
    rw [recsTo_length] at hi1
    rw [List.getElem_take, ← (hrec i hi1).2]
    simp [recsTo]
theorem scan_all (rs : List (Int × List UInt8)) (hok : ∀ r ∈ rs, okR r) : scanRs (catF rs) = rs ∧ scanEnd (catF rs) = (catF rs).length := by
  have h := scan_cut rs hok (catF rs).length rs.length (Nat.le_refl _) (endF_le rs _) (fun h => absurd h (Nat.lt_irrefl _))
  rw [List.take_length, List.take_length, endF_all] at h
  exact h
theorem catF_len (rs : List (Int × List UInt8)) : (catF rs).length ≤ 65550 * rs.length := by
  induction rs with
  | nil => simp [catF]
  | cons r t ih =>
    rw [catF_cons, List.length_append, List.length_cons]
    have h1 : (putFX r.1 r.2).length ≤ 65550 := by
      unfold putFX
      split
      · next h =>
        obtain ⟨h1, h2, h3⟩ := putFE_ok r.1 r.2.length h
        rw [guarded_length, bodyF_length]
        have := vsize_le r.2.length
        omega
      · simp
    omega
end Go.Proofs.Ytaonjbpaeloniaa
