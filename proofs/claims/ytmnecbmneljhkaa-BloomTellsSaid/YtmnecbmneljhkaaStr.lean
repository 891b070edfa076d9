/- Rows of strings: read, owned; SameStrings, CopyStrings. -/
import Derived.Test.YtmnecbmneljhkaaBase
namespace Go.Proofs.Ytmnecbmneljhkaa
open Go.RowKit Go.Proofs.YtmnecbmneljhkaaW.PrintWords
set_option linter.unusedVariables false

def estr (s : ByteArray) : Value := .string s
theorem estr_one (b : ByteArray) : (estr b).oneCell' = true := rfl
theorem info_str : (Try.prog.info? 9).map (fun i => (i.zero, i.size, i.bytes)) = some (some (.string ByteArray.empty), 1, 16) := by kernel_rfl
/-- a slice of strings that is read -/
def RdS (w : World) (A : Option Addr) (c : Nat) (xs : List ByteArray) : Prop := xs.length ≤ c ∧ ReadsOf estr ByteArray.empty w A xs.length xs
def OwS (w : World) (base : Nat) (v : Value) (xs : List ByteArray) : Prop := w.ownsRow base 9 1 v xs.length (encs estr xs)
theorem RdS.below {w w1 : World} {A : Option Addr} {c : Nat} {xs : List ByteArray} (h : RdS w A c xs) (hb : Below w.heap.size w w1) : RdS w1 A c xs := ⟨h.1, h.2.below hb⟩
theorem RdS.max {w : World} {A : Option Addr} {c : Nat} {xs : List ByteArray} (h : RdS w A c xs) : xs.length ≤ 9223372036854775807 := h.2.2.1
theorem RdS.at_ {w : World} {A : Option Addr} {c : Nat} {xs : List ByteArray} (h : RdS w A c xs) (i : Nat) (hi : i < xs.length) : ∃ ad, A = some ad ∧ w.cell? (ad.add i) = some (.string (xs.getD i ByteArray.empty)) := by
  obtain ⟨ad, e, hc⟩ := h.2.2.2 (by omega)
  exact ⟨ad, e, hc i hi⟩
theorem RdS.zero (w : World) (A : Option Addr) (c : Nat) : RdS w A c [] := ⟨Nat.zero_le _, rfl, Nat.zero_le _, fun h => absurd h (by simp)⟩
theorem OwS.below {w w1 : World} {base : Nat} {v : Value} {xs : List ByteArray} (h : OwS w base v xs) (hb : Below w.heap.size w w1) : OwS w1 base v xs := pw_own_below h hb
theorem OwS.lower {w : World} {base base' : Nat} {v : Value} {xs : List ByteArray} (h : OwS w base v xs) (hb : base' ≤ base) : OwS w base' v xs := own_weaken h hb
theorem OwS.rd {w : World} {base : Nat} {v : Value} {xs : List ByteArray} (h : OwS w base v xs) : ∃ A c, v = .slice A xs.length c ∧ RdS w A c xs := by
  obtain ⟨A, c, hv, hl, hr⟩ := own_reads_of_le (d := ByteArray.empty) h
  exact ⟨A, c, hv, hl, hr⟩
theorem OwS.zero (w : World) (base : Nat) : OwS w base (.slice none 0 0) [] := own_nil _ _ _ _
theorem RdS.take {w : World} {A : Option Addr} {c : Nat} {xs : List ByteArray} (h : RdS w A c xs) (k : Nat) (hk : k ≤ xs.length) : RdS w A c (xs.take k) := by
  have hl : (xs.take k).length = k := by rw [List.length_take]; omega
  refine ⟨by have := h.1; omega, ?_⟩
  rw [hl]
  exact h.2.take_ k hk
section
variable {ops : Array Oper} {rest : List Oper} {o : Oper} {a : Act} {Q : Exit → Act → World → Prop}
theorem app_strs {w0 W : World} (base : Nat) (hgd : o.guard = none) (s x : Operand)
    (ho : o.op = .call { callee := .builtin .append, args := #[s, x], argTypes := #[22, 22] })
    (v : Value) (xs ys : List ByteArray) (A : Option Addr) (c : Nat) (hs : a.eval s = v) (hx : a.eval x = .slice A ys.length c)
    (HO : OwS W base v xs) (HR : RdS W A c ys) (HB : Below base w0 W) (hbase : base ≤ W.heap.size) (hl : xs.length + ys.length ≤ 8796093022208)
    (h : ∀ v1 w1, OwS w1 base v1 (xs ++ ys) → Below base w0 w1 → W.grownBy w1 v.ownBlock → (v1.ownBlock = v.ownBlock ∨ ∃ b, v1.ownBlock = some b ∧ W.heap.size ≤ b) → wpList Try.prog ops Q rest (a.put o.dst v1) w1) :
    wpList Try.prog ops Q (o :: rest) a W :=
  print_append_row_of estr ByteArray.empty base hgd s x 22 9 (.string ByteArray.empty) 16 ho Try.underlying22 info_str rfl (by decide) estr_one v xs ys A ys.length c hs hx HO HR.2 HB hbase (by omega) h
theorem app_str {w0 W : World} (base : Nat) (hgd : o.guard = none) (s x : Operand)
    (ho : o.op = .call { callee := .builtin .append, args := #[s, x], argTypes := #[22, 22] })
    (v : Value) (xs : List ByteArray) (y : ByteArray) (hs : a.eval s = v) (hx : a.eval x = .slice (some ⟨W.heap.size, 0, none⟩) 1 1)
    (HO : OwS W base v xs) (HB : Below base w0 W) (hbase : base ≤ W.heap.size) (hl : xs.length + 1 ≤ 8796093022208)
    (h : ∀ v1 w1, OwS w1 base v1 (xs ++ [y]) → Below base w0 w1 → W.grownBy w1 v.ownBlock → (v1.ownBlock = v.ownBlock ∨ ∃ b, v1.ownBlock = some b ∧ W.heap.size ≤ b) → wpList Try.prog ops Q rest (a.put o.dst v1) w1) :
    wpList Try.prog ops Q (o :: rest) a (W.alloc (.cells #[.string y] 9)) :=
  print_append_of estr base hgd s x 22 9 (.string ByteArray.empty) 16 ho Try.underlying22 info_str rfl (by decide) v xs y hs hx rfl HO HB hbase (by omega) h
end
set_option maxHeartbeats 400000 in
theorem CopyStrings_any (A : Option Addr) (c : Nat) (xs : List ByteArray) (w : World) (hr : RdS w A c xs) (hl : xs.length ≤ 8796093022208) :
    Calls Try.prog 9 #[.slice A xs.length c] w fun e w' => ∃ v, e = .returned v ∧ OwS w' w.heap.size v xs ∧ Below w.heap.size w w' := by
  have hm := hr.max
  go_enter Try.func9, Try.ntmps9
  go_wp2_with (first | (at_builtin; refine app_strs (w0 := w) w.heap.size rfl _ _ rfl (.slice .none 0 0) [] xs A c rfl rfl (OwS.zero _ _) hr (Below.refl _ _) (Nat.le_refl _) (by simp; omega) ?_; intro v1 w1 HO1 HB1 hg hat))
  go_ret
  exact ⟨_, rfl, HO1, HB1⟩
theorem str_ne (s t : ByteArray) : (s.toList == t.toList) = decide (s = t) := by
  rw [Bool.eq_iff_iff]
  simp only [beq_iff_eq, decide_eq_true_eq]
  constructor
  · intro h
    rw [ByteArray.toList_eq, ByteArray.toList_eq] at h
    cases s; cases t
    congr 1
    exact Array.toList_inj.1 h
  · intro h; rw [h]
theorem take_same {α : Type} [DecidableEq α] (xs ys : List α) (d : α) (k : Nat) (hx : k < xs.length) (hy : k < ys.length) (h : xs.take k = ys.take k) (he : xs.getD k d = ys.getD k d) : xs.take (k + 1) = ys.take (k + 1) := by
  rw [List.take_succ_eq_append_getElem hx, List.take_succ_eq_append_getElem hy, h]
  rw [List.getD_eq_getElem?_getD, List.getElem?_eq_getElem hx, List.getD_eq_getElem?_getD, List.getElem?_eq_getElem hy] at he
  simp only [Option.getD_some] at he
  rw [he]
set_option maxHeartbeats 800000 in
theorem SameStrings_any (A B : Option Addr) (c d : Nat) (xs ys : List ByteArray) (w : World) (hx : RdS w A c xs) (hy : RdS w B d ys) :
    Calls Try.prog 19 #[.slice A xs.length c, .slice B ys.length d] w fun e w' => e = .returned (.bool (decide (xs = ys))) ∧ Below w.heap.size w w' := by
  have hm := hx.max
  have hm2 := hy.max
  obtain ⟨z, hz⟩ : ∃ z, decide (xs = ys) = z := ⟨_, rfl⟩
  have HZ := hide hz
  rw [hz]
  clear hz
  by_cases hl : xs.length = ys.length
  · have HL := hide hl
    obtain ⟨n, hn⟩ : ∃ n, xs.length = n := ⟨_, rfl⟩
    have hn2 : ys.length = n := by omega
    have HN := hide hn
    have HN2 := hide hn2
    rw [hn, hn2]
    rw [hn] at hm
    clear hl hn hn2 hm2
    go_enter Try.func19, Try.ntmps19
    go_wp2
    go_loopw [5] (fun i wr => ∃ k : Nat, k ≤ n ∧ i = .int .i64 (k : Int) ∧ xs.take k = ys.take k ∧ Below w.heap.size w wr) (fun i wr => n - (intOf i).toNat)
    case atStart => exact ⟨0, by omega, rfl, rfl, Below.refl _ _⟩
    case round =>
      obtain ⟨k, hk, rfl, ht, hB⟩ := hrel
      by_cases hlt : k < n
      · have HT := hide ht
        have hkx : k < xs.length := by rw [HN.out]; exact hlt
        have hky : k < ys.length := by rw [HN2.out]; exact hlt
        have HKX := hide hkx
        have HKY := hide hky
        obtain ⟨ad, rfl, ha⟩ := (hx.below hB).at_ k hkx
        obtain ⟨bd, rfl, hb⟩ := (hy.below hB).at_ k hky
        obtain ⟨s, hs⟩ : ∃ s, xs.getD k ByteArray.empty = s := ⟨_, rfl⟩
        obtain ⟨t, hT⟩ : ∃ t, ys.getD k ByteArray.empty = t := ⟨_, rfl⟩
        rw [hs] at ha
        rw [hT] at hb
        have HS := hide hs
        have HTT := hide hT
        have hki : (k : Int) < (n : Int) := by omega
        clear ht hkx hky hs hT
        by_cases hst : s = t
        · subst hst
          have he : (s.toList == s.toList) = true := by simp
          go_wp2
          go_still (by kernel_rfl)
          change Exit.then _ _ _ _ wr.drew
          go_wp2
          go_roundw
          case rel => exact ⟨k + 1, by omega, by go_num, take_same xs ys ByteArray.empty k HKX.out HKY.out HT.out (by rw [HS.out, HTT.out]), hB.drew⟩
          case measure => simp [intOf]; omega
        · have he : (s.toList == t.toList) = false := by rw [str_ne]; exact decide_eq_false hst
          go_wp2
          go_still (by kernel_rfl)
          change Exit.then _ _ _ _ wr.drew
          go_wp2
          go_ret
          exact ⟨by rw [← HZ.out, decide_eq_false (fun e => hst (by rw [← HS.out, ← HTT.out, e]))]; rfl, hB.drew⟩
      · obtain rfl : k = n := by omega
        go_wp2
        go_ret
        refine ⟨?_, hB⟩
        rw [← HZ.out]
        rw [List.take_of_length_le (by rw [HN.out]; exact Nat.le_refl _), List.take_of_length_le (by rw [HN2.out]; exact Nat.le_refl _)] at ht
        rw [decide_eq_true ht]
        rfl
  · have hli : ¬ (xs.length : Int) = (ys.length : Int) := by omega
    go_enter Try.func19, Try.ntmps19
    go_wp2
    go_ret
    exact ⟨by rw [← HZ.out, decide_eq_false (fun e => hl (by rw [e]))]; rfl, Below.refl _ _⟩
end Go.Proofs.Ytmnecbmneljhkaa
