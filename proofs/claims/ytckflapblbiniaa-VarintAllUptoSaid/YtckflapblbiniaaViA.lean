/- All: the numbers that octets are made of; the walks of All, and the reference's. -/
import Derived.Test.YtckflapblbiniaaViO
import Derived.Test.YtckflapblbiniaaNums
namespace Go.Proofs.Ytckflapblbiniaa
open Go.RowKit Go.Proofs.YtckflapblbiniaaW.PrintWords
set_option linter.unusedVariables false

def allA : Nat → List Nat → List UInt8 → List Nat × Nat
  | 0, acc, _ => (acc, 0)
  | f + 1, acc, b => if b.length = 0 then (acc, 0) else if getErr b = 0 then allA f (acc ++ [gN b]) (b.drop (gK b)) else ([], getErr b)
def allN (b : List UInt8) : List Nat := (allA b.length [] b).1
def allE (b : List UInt8) : Nat := (allA b.length [] b).2
theorem allA_nil (f : Nat) (acc : List Nat) (b : List UInt8) (h : b.length = 0) : allA f acc b = (acc, 0) := by
  cases f with
  | zero => rfl
  | succ f => rw [allA, if_pos h]
theorem gK_pos (b : List UInt8) (h : getErr b = 0) : 1 ≤ gK b ∧ gK b ≤ b.length := by
  rw [gK, if_pos h]
  exact ⟨by omega, (put_get b h).2.1⟩
def lenOf (v : Value) : Nat := match v with | .slice _ n _ => n | _ => 0
set_option maxHeartbeats 1600000 in
theorem All_any (A : Option Addr) (c : Nat) (b : List UInt8) (w : World) (hr : RdB w A c b) (hl : b.length ≤ 17592186044416) :
    Calls Try.prog 23 #[.slice A b.length c] w fun e w' => ∃ v, e = .returned (.tuple #[v, .int .i64 (allE b : Int)]) ∧ OwN w' w.heap.size v (allN b) ∧ Below w.heap.size w w' := by
  obtain ⟨Z, hZ⟩ : ∃ Z, allA b.length [] b = Z := ⟨_, rfl⟩
  have e1 : allE b = Z.2 := by rw [allE, hZ]
  have e2 : allN b = Z.1 := by rw [allN, hZ]
  rw [e1, e2]
  clear e1 e2
  have HZ := hide hZ
  clear hZ
  obtain ⟨n, hn⟩ : ∃ n, b.length = n := ⟨_, rfl⟩
  have HN := hide hn
  rw [hn] at hl ⊢
  clear hn
  go_enter Try.func23, Try.ntmps23
  go_wp2
  go_loopw [0, 2] (fun cur out wr => ∃ (A' : Option Addr) (c' m f : Nat) (xs : List UInt8) (acc : List Nat), cur = .slice A' m c' ∧ xs.length = m ∧ RdB w A' c' xs ∧ OwN wr w.heap.size out acc ∧ Below w.heap.size w wr ∧ m ≤ f ∧ allA f acc xs = Z ∧ acc.length + m ≤ n) (fun cur out wr => lenOf cur)
  case atStart => exact ⟨A, c, n, n, b, [], rfl, HN.out, hr, OwN.zero _ _, Below.refl _ _, Nat.le_refl _, by rw [← HN.out]; exact HZ.out, by simp⟩
  case round =>
    obtain ⟨A', c', m, f, xs, acc, rfl, hm, hrx, HO, HB, hf, hA, hal⟩ := hrel
    by_cases h0 : m = 0
    · subst h0
      rw [allA_nil f acc xs hm] at hA
      subst hA
      have HM := hide hm
      clear hm
      go_wp2
      go_ret2
      exact ⟨_, rfl, HO, HB⟩
    · have h0i : 0 < (m : Int) := by omega
      have hG := Get_any A' c' xs wr (hrx.below HB)
      rw [hm] at hG
      obtain ⟨f', rfl⟩ : ∃ f', f = f' + 1 := ⟨f - 1, by omega⟩
      rw [allA, if_neg (by omega)] at hA
      by_cases he : getErr xs = 0
      · rw [if_pos he] at hA
        obtain ⟨hk1, hk2⟩ := gK_pos xs he
        have hdr := hrx.drop (gK xs) hk2
        have hlen : (xs.drop (gK xs)).length = m - gK xs := by rw [List.length_drop, hm]
        rw [he] at hG
        rw [hm] at hk2
        have hsl := fun W => slice_lo 23 5 Try.underlying23 (i := _) rfl rfl A' m c' (gK xs) hk2 W
        generalize gK xs = k at *
        generalize gN xs = z at *
        generalize xs.drop k = ys at *
        generalize cutA A' c' k = A2 at *
        have HLEN := hide hlen
        have HA := hide hA
        have HM := hide hm
        clear hlen hA hm he hrx
        go_wp2_with (first | (go_at_call 11; refine hG.mono ?_; rintro e w1 ⟨rfl, HB1⟩; have HO1 := HO.below HB1; have HB01 := HB.trans (HB1.mono HB.size)))
        have hd : Below w.heap.size w w1.drew := HB01.drew
        have HOd : OwN w1.drew w.heap.size _ acc := HO1.below (Below.refl _ _).drew
        go_region_held3 (fun w' => Below w.heap.size w w') (first | exact hd | exact hd.alloc hd.size _ | assumption) (first | (refine step_num (w0 := w) (W := w1.drew) w.heap.size (by rfl) (.tmp 19) (.tmp 21) rfl _ acc z rfl rfl HOd hd hd.size (by omega) ?_; intro v5 w5 HO5 HB5))
        go_wp2
        go_roundw
        case rel => exact ⟨A2, c' - k, m - k, f', ys, acc ++ [z], rfl, HLEN.out, hdr, HO5, HB5, by omega, HA.out, by simp; omega⟩
        case measure => simp [lenOf]; omega
      · rw [if_neg he] at hA
        subst hA
        have HM := hide hm
        obtain ⟨x, hx⟩ : ∃ x, getErr xs = x := ⟨_, rfl⟩
        rw [hx] at hG he
        have hxi : ¬ (x : Int) = 0 := by omega
        have HX := hide hx
        generalize gK xs = k at *
        generalize gN xs = z at *
        clear hm hx hrx
        go_wp2_with (first | (go_at_call 11; refine hG.mono ?_; rintro e w1 ⟨rfl, HB1⟩))
        go_ret2
        refine ⟨.slice none 0 0, ?_, OwN.zero _ _, HB.trans (HB1.mono HB.size)⟩
        show Ending.returned (.tuple #[.slice none 0 0, .int .i64 (x : Int)]) = Ending.returned (.tuple #[.slice none 0 0, .int .i64 ((getErr xs : Nat) : Int)])
        rw [HX.out]
set_option maxHeartbeats 1600000 in
theorem rAll_any (A : Option Addr) (c : Nat) (b : List UInt8) (w : World) (hr : RdB w A c b) (hl : b.length ≤ 17592186044416) :
    Calls Try.prog 24 #[.slice A b.length c] w fun e w' => ∃ v, e = .returned (.tuple #[v, .int .i64 (allE b : Int)]) ∧ OwN w' w.heap.size v (allN b) ∧ Below w.heap.size w w' := by
  obtain ⟨Z, hZ⟩ : ∃ Z, allA b.length [] b = Z := ⟨_, rfl⟩
  have e1 : allE b = Z.2 := by rw [allE, hZ]
  have e2 : allN b = Z.1 := by rw [allN, hZ]
  rw [e1, e2]
  clear e1 e2
  have HZ := hide hZ
  clear hZ
  obtain ⟨n, hn⟩ : ∃ n, b.length = n := ⟨_, rfl⟩
  have HN := hide hn
  rw [hn] at hl ⊢
  clear hn
  go_enter Try.func24, Try.ntmps24
  go_wp2
  go_loopw [0, 4] (fun cur out wr => ∃ (A' : Option Addr) (c' m f : Nat) (xs : List UInt8) (acc : List Nat), cur = .slice A' m c' ∧ xs.length = m ∧ RdB w A' c' xs ∧ OwN wr w.heap.size out acc ∧ Below w.heap.size w wr ∧ m ≤ f ∧ allA f acc xs = Z ∧ acc.length + m ≤ n) (fun cur out wr => lenOf cur)
  case atStart => exact ⟨A, c, n, n, b, [], rfl, HN.out, hr, OwN.zero _ _, Below.refl _ _, Nat.le_refl _, by rw [← HN.out]; exact HZ.out, by simp⟩
  case round =>
    obtain ⟨A', c', m, f, xs, acc, rfl, hm, hrx, HO, HB, hf, hA, hal⟩ := hrel
    by_cases h0 : m = 0
    · subst h0
      rw [allA_nil f acc xs hm] at hA
      subst hA
      have HM := hide hm
      clear hm
      go_wp2
      go_ret2
      exact ⟨_, rfl, HO, HB⟩
    · have h0i : 0 < (m : Int) := by omega
      have hG := rGet_any A' c' xs wr (hrx.below HB)
      rw [hm] at hG
      obtain ⟨f', rfl⟩ : ∃ f', f = f' + 1 := ⟨f - 1, by omega⟩
      rw [allA, if_neg (by omega)] at hA
      by_cases he : getErr xs = 0
      · rw [if_pos he] at hA
        obtain ⟨hk1, hk2⟩ := gK_pos xs he
        have hdr := hrx.drop (gK xs) hk2
        have hlen : (xs.drop (gK xs)).length = m - gK xs := by rw [List.length_drop, hm]
        rw [he] at hG
        rw [hm] at hk2
        have hsl := fun W => slice_lo 23 5 Try.underlying23 (i := _) rfl rfl A' m c' (gK xs) hk2 W
        generalize gK xs = k at *
        generalize gN xs = z at *
        generalize xs.drop k = ys at *
        generalize cutA A' c' k = A2 at *
        have HLEN := hide hlen
        have HA := hide hA
        have HM := hide hm
        clear hlen hA hm he hrx
        go_wp2_with (first | (go_at_call 16; refine hG.mono ?_; rintro e w1 ⟨rfl, HB1⟩; have HO1 := HO.below HB1; have HB01 := HB.trans (HB1.mono HB.size)) | (at_builtin; refine app_num (w0 := w) w.heap.size rfl (.tmp 20) (.tmp 22) rfl _ acc z rfl rfl HO1 HB01 HB01.size (by omega) ?_; intro v5 w5 HO5 HB5 hg5 hat5))
        go_roundw
        case rel => exact ⟨A2, c' - k, m - k, f', ys, acc ++ [z], rfl, HLEN.out, hdr, HO5, HB5, by omega, HA.out, by simp; omega⟩
        case measure => simp [lenOf]; omega
      · rw [if_neg he] at hA
        subst hA
        have HM := hide hm
        obtain ⟨x, hx⟩ : ∃ x, getErr xs = x := ⟨_, rfl⟩
        rw [hx] at hG he
        have hxi : ¬ (x : Int) = 0 := by omega
        have HX := hide hx
        generalize gK xs = k at *
        generalize gN xs = z at *
        clear hm hx hrx
        go_wp2_with (first | (go_at_call 16; refine hG.mono ?_; rintro e w1 ⟨rfl, HB1⟩))
        go_ret2
        refine ⟨.slice none 0 0, ?_, OwN.zero _ _, HB.trans (HB1.mono HB.size)⟩
        show Ending.returned (.tuple #[.slice none 0 0, .int .i64 (x : Int)]) = Ending.returned (.tuple #[.slice none 0 0, .int .i64 ((getErr xs : Nat) : Int)])
        rw [HX.out]
end Go.Proofs.Ytckflapblbiniaa
