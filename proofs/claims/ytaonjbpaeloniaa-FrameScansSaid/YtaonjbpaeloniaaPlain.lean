/- The walks of what the statements share on octets: SameBytes, CopyBytes, Spoil. -/
import Derived.Test.YtaonjbpaeloniaaBase
import Derived.Laws.BitsAllLaws
namespace Go.Proofs.Ytaonjbpaeloniaa
open Go.RowKit Go.Proofs.YtaonjbpaeloniaaW.PrintWords

theorem strB_toList (xs : List UInt8) : (strB xs).toList = xs := by rw [ByteArray.toList_eq]; rfl
set_option maxRecDepth 100000 in
set_option maxHeartbeats 400000 in
theorem SameBytes_any (A B : Option Addr) (c d : Nat) (xs ys : List UInt8) (w : World) (hx : RdB w A c xs) (hy : RdB w B d ys) :
    Calls Try.prog 20 #[.slice A xs.length c, .slice B ys.length d] w fun e w' => e = .returned (.bool (decide (xs = ys))) ∧ w = w' := by
  have h1 := hx.toStr (P := Try.prog) 22 5 9 Try.underlying22 Try.underlying5 Try.underlying9
  have h2 := hy.toStr (P := Try.prog) 22 5 9 Try.underlying22 Try.underlying5 Try.underlying9
  go_enter Try.func20, Try.ntmps20
  go_wp2
  go_ret
  refine ⟨?_, rfl⟩
  show Ending.returned (.bool ((strB xs).toList == (strB ys).toList)) = _
  rw [strB_toList, strB_toList]
  congr 2
  rw [Bool.eq_iff_iff]
  simp

theorem SameBytes_at (A B : Option Addr) (c d n m : Nat) (xs ys : List UInt8) (w : World) (hn : xs.length = n) (hm : ys.length = m) (hx : RdB w A c xs) (hy : RdB w B d ys) :
    Calls Try.prog 20 #[.slice A n c, .slice B m d] w fun e w' => e = .returned (.bool (decide (xs = ys))) ∧ w = w' := by
  subst hn
  subst hm
  exact SameBytes_any A B c d xs ys w hx hy
set_option maxRecDepth 100000 in
set_option maxHeartbeats 400000 in
theorem CopyBytes_any (A : Option Addr) (c : Nat) (xs : List UInt8) (w : World) (hr : RdB w A c xs) (hl : xs.length ≤ 140737488355328) :
    Calls Try.prog 13 #[.slice A xs.length c] w fun e w' => ∃ v, e = .returned v ∧ OwB w' w.heap.size v xs ∧ Below w.heap.size w w' := by
  have hm := hr.max
  go_enter Try.func13, Try.ntmps13
  go_wp2_with (first | (at_builtin; refine app_row (w0 := w) w.heap.size rfl _ _ rfl (.slice .none 0 0) [] xs A c rfl rfl (OwB.zero _ _) hr (Below.refl _ _) (Nat.le_refl _) (by simp; omega) ?_; intro v1 w1 HO1 HB1 hg hat))
  go_ret
  exact ⟨_, rfl, HO1, HB1⟩

def flip (xs : List UInt8) : List UInt8 := xs.map fun b => ~~~b
theorem split_at (xs : List UInt8) (k : Nat) (h : k < xs.length) : ∃ a x b, xs = a ++ x :: b ∧ a.length = k ∧ xs.take k = a ∧ xs.drop k = x :: b ∧ xs.take (k + 1) = a ++ [x] ∧ xs.drop (k + 1) = b ∧ xs.getD k 0 = x :=
  ⟨xs.take k, xs[k], xs.drop (k + 1), by rw [← List.drop_eq_getElem_cons h, List.take_append_drop], by rw [List.length_take]; omega, rfl, List.drop_eq_getElem_cons h, List.take_succ_eq_append_getElem h, rfl, by simp [List.getD_eq_getElem?_getD, List.getElem?_eq_getElem h]⟩
theorem flip_get (xs : List UInt8) (k : Nat) (h : k < xs.length) : (flip (xs.take k) ++ xs.drop k).getD k 0 = xs.getD k 0 := by
  obtain ⟨a, x, b, -, hl, h1, h2, -, -, h3⟩ := split_at xs k h
  rw [h1, h2, h3, List.getD_eq_getElem?_getD, List.getElem?_append_right (by simp [flip, hl])]
  simp [flip, hl]
theorem flip_set (xs : List UInt8) (k : Nat) (h : k < xs.length) : (flip (xs.take k) ++ xs.drop k).set k (~~~ (xs.getD k 0)) = flip (xs.take (k + 1)) ++ xs.drop (k + 1) := by
  obtain ⟨a, x, b, -, hl, h1, h2, h4, h5, h3⟩ := split_at xs k h
  rw [h1, h2, h3, h4, h5, List.set_append_right _ _ (by simp [flip, hl])]
  simp [flip, hl]
theorem not_u8 (x : UInt8) : bits .xor .u8 (if IntKind.u8.signed = true then -1 else IntKind.u8.max) (x.toNat : Int) = ((~~~x).toNat : Int) := by
  have h : (if IntKind.u8.signed = true then -1 else IntKind.u8.max) = ((255 : Nat) : Int) := by decide
  rw [h, u8_xor_nat _ _ (by decide) x.toNat_lt]
  have : ∀ y : Fin 256, 255 ^^^ y.val = 255 - y.val := by decide +kernel
  have h2 := this ⟨x.toNat, x.toNat_lt⟩
  simp only at h2
  rw [h2]
  congr 1
  simp
end Go.Proofs.Ytaonjbpaeloniaa
