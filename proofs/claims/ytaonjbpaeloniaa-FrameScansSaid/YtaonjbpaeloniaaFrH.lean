/- Frame: octets scanned, plainly. -/
import Derived.Test.YtaonjbpaeloniaaFrP
namespace Go.Proofs.Ytaonjbpaeloniaa
set_option linter.unusedVariables false

theorem fg_ok (b : List UInt8) (h : fgE b = 0) : 5 ≤ fgS b ∧ fgS b ≤ b.length ∧ (fgX b).length + 5 ≤ fgS b := by
  have h' := h
  unfold fgE at h
  split at h
  · next h1 => omega
  · next h1 =>
    split at h
    · omega
    · split at h
      · omega
      · next h2 h3 =>
        have h4 : getErr b = 0 := by simpa using h1
        have h5 : fgX b = (b.take (gK b + 1 + gN b)).drop (gK b + 1) := by rw [fgX, if_pos h']
        rw [fgS, if_pos h', h5, List.length_drop, List.length_take]
        omega
def pos (b : List UInt8) : Nat → Nat
  | 0 => 0
  | k + 1 => pos b k + fgS (b.drop (pos b k))
def recAt (b : List UInt8) (k : Nat) : Int × List UInt8 := (fgK (b.drop (pos b k)), fgX (b.drop (pos b k)))
def okAt (b : List UInt8) (k : Nat) : Prop := fgE (b.drop (pos b k)) = 0
theorem pos_le (b : List UInt8) (k : Nat) (h : ∀ j, j < k → okAt b j) : 5 * k ≤ pos b k ∧ pos b k ≤ b.length := by
  induction k with
  | zero => exact ⟨Nat.le_refl _, Nat.zero_le _⟩
  | succ k ih =>
    have h1 := ih (fun j hj => h j (by omega))
    have h2 := fg_ok _ (h k (by omega))
    rw [List.length_drop] at h2
    show 5 * (k + 1) ≤ pos b k + fgS (b.drop (pos b k)) ∧ pos b k + fgS (b.drop (pos b k)) ≤ b.length
    omega
theorem scan_ex (b : List UInt8) : ∃ N, (∀ k, k < N → okAt b k) ∧ ¬ okAt b N := by
  have key : ∀ m k, (∀ j, j < k → okAt b j) → b.length + 1 - k ≤ m → ∃ N, (∀ k, k < N → okAt b k) ∧ ¬ okAt b N := by
    intro m
    induction m with
    | zero =>
      intro k hk hm
      have := pos_le b k hk
      omega
    | succ m ih =>
      intro k hk hm
      by_cases h : okAt b k
      · refine ih (k + 1) (fun j hj => ?_) (by omega)
        rcases Nat.lt_or_ge j k with h1 | h1
        · exact hk j h1
        · obtain rfl : j = k := by omega
          exact h
      · exact ⟨k, hk, h⟩
  exact key (b.length + 1) 0 (fun j hj => by omega) (by omega)
noncomputable def scanN (b : List UInt8) : Nat := Classical.choose (scan_ex b)
theorem scanN_spec (b : List UInt8) : (∀ k, k < scanN b → okAt b k) ∧ ¬ okAt b (scanN b) := Classical.choose_spec (scan_ex b)
theorem scanN_eq (b : List UInt8) (N : Nat) (h : ∀ k, k < N → okAt b k) (h' : ¬ okAt b N) : scanN b = N := by
  have hs := scanN_spec b
  rcases Nat.lt_or_ge (scanN b) N with h1 | h1
  · exact absurd (h _ h1) hs.2
  · rcases Nat.lt_or_ge N (scanN b) with h2 | h2
    · exact absurd (hs.1 _ h2) h'
    · omega
def recsTo (b : List UInt8) (k : Nat) : List (Int × List UInt8) := (List.range k).map (recAt b)
theorem recsTo_succ (b : List UInt8) (k : Nat) : recsTo b (k + 1) = recsTo b k ++ [recAt b k] := by
  rw [recsTo, recsTo, List.range_succ, List.map_append]; rfl
theorem recsTo_length (b : List UInt8) (k : Nat) : (recsTo b k).length = k := by simp [recsTo]
noncomputable def scanRs (b : List UInt8) : List (Int × List UInt8) := recsTo b (scanN b)
noncomputable def scanEnd (b : List UInt8) : Nat := pos b (scanN b)
end Go.Proofs.Ytaonjbpaeloniaa
