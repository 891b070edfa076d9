/- Bare and the reference's Bare in one form. -/
import Derived.Test.YtaonjbpaeloniaaSumW3
import Derived.Test.YtaonjbpaeloniaaSumR
namespace Go.Proofs.Ytaonjbpaeloniaa
open Go.RowKit Go.Proofs.YtaonjbpaeloniaaW.PrintWords

/-- what is bared, and the number that is answered -/
def bare (zs : List UInt8) : List UInt8 := if 4 ≤ zs.length ∧ guarded (zs.take (zs.length - 4)) = zs then zs.take (zs.length - 4) else []
def bareNum (zs : List UInt8) : Int := if zs.length < 4 then 8 else if guarded (zs.take (zs.length - 4)) = zs then 0 else 21
theorem take_guarded (xs : List UInt8) : (guarded xs).take ((guarded xs).length - 4) = xs := by
  rw [guarded_length, Nat.add_sub_cancel]
  simp [guarded]
theorem bare_guarded (xs : List UInt8) : bare (guarded xs) = xs := by
  unfold bare
  rw [take_guarded, if_pos ⟨by rw [guarded_length]; omega, rfl⟩]
theorem bareNum_guarded (xs : List UInt8) : bareNum (guarded xs) = 0 := by
  unfold bareNum
  rw [take_guarded, if_neg (by rw [guarded_length]; omega), if_pos rfl]
theorem cut_four (zs : List UInt8) (h : 4 ≤ zs.length) : ∃ t0 t1 t2 t3, zs = zs.take (zs.length - 4) ++ [t0, t1, t2, t3] := by
  have hl : (zs.drop (zs.length - 4)).length = 4 := by rw [List.length_drop]; omega
  match hd : zs.drop (zs.length - 4), hl with
  | [t0, t1, t2, t3], _ => exact ⟨t0, t1, t2, t3, by rw [← hd, List.take_append_drop]⟩
theorem Bare_all (A : Option Addr) (c : Nat) (zs : List UInt8) (w : World) (hr : RdB w A c zs) (hl : zs.length ≤ 140737488355328) :
    Calls Try.prog 26 #[.slice A zs.length c] w fun e w' => ∃ v, e = .returned (.tuple #[v, .int .i64 (bareNum zs)]) ∧ OwB w' w.heap.size v (bare zs) ∧ Below w.heap.size w w' := by
  by_cases h4 : zs.length < 4
  · refine (Bare_short A c zs w h4).mono ?_
    rintro e w' ⟨rfl, rfl⟩
    refine ⟨_, by rw [bareNum, if_pos h4], ?_, Below.refl _ _⟩
    rw [bare, if_neg (by omega)]
    exact OwB.zero _ _
  · obtain ⟨t0, t1, t2, t3, hz⟩ := cut_four zs (by omega)
    have hbn : bareNum zs = if guarded (zs.take (zs.length - 4)) = zs then 0 else 21 := by rw [bareNum, if_neg h4]
    have hbr : bare zs = if guarded (zs.take (zs.length - 4)) = zs then zs.take (zs.length - 4) else [] := by rw [bare]; simp [show 4 ≤ zs.length by omega]
    have hlen : (zs.take (zs.length - 4)).length + 4 = zs.length := by simp; omega
    rw [hbn, hbr]
    generalize zs.take (zs.length - 4) = ys at *
    subst hz
    rw [← hlen]
    refine (Bare_any A c ys t0 t1 t2 t3 w hr (by omega)).mono ?_
    rintro e w' ⟨h1, h2, HB⟩
    by_cases hg : guarded ys = ys ++ [t0, t1, t2, t3]
    · rw [if_pos hg, if_pos hg]
      obtain ⟨v, rfl, HO⟩ := h1 ((guarded_iff _ _ _ _ _).1 hg)
      exact ⟨v, rfl, HO, HB⟩
    · rw [if_neg hg, if_neg hg]
      exact ⟨_, h2 (fun e => hg ((guarded_iff _ _ _ _ _).2 e)), OwB.zero _ _, HB⟩
theorem rBare_all (A : Option Addr) (c : Nat) (zs : List UInt8) (w : World) (hr : RdB w A c zs) (hl : zs.length ≤ 140737488355328) :
    Calls Try.prog 31 #[.slice A zs.length c] w fun e w' => ∃ v, e = .returned (.tuple #[v, .int .i64 (bareNum zs)]) ∧ OwB w' w.heap.size v (bare zs) ∧ Below w.heap.size w w' := by
  by_cases h4 : zs.length < 4
  · refine (rBare_short A c zs w h4).mono ?_
    rintro e w' ⟨rfl, rfl⟩
    refine ⟨_, by rw [bareNum, if_pos h4], ?_, Below.refl _ _⟩
    rw [bare, if_neg (by omega)]
    exact OwB.zero _ _
  · obtain ⟨t0, t1, t2, t3, hz⟩ := cut_four zs (by omega)
    have hbn : bareNum zs = if guarded (zs.take (zs.length - 4)) = zs then 0 else 21 := by rw [bareNum, if_neg h4]
    have hbr : bare zs = if guarded (zs.take (zs.length - 4)) = zs then zs.take (zs.length - 4) else [] := by rw [bare]; simp [show 4 ≤ zs.length by omega]
    have hlen : (zs.take (zs.length - 4)).length + 4 = zs.length := by simp; omega
    rw [hbn, hbr]
    generalize zs.take (zs.length - 4) = ys at *
    subst hz
    rw [← hlen]
    refine (rBare_any A c ys t0 t1 t2 t3 w hr (by omega)).mono ?_
    rintro e w' ⟨h1, h2, HB⟩
    by_cases hg : guarded ys = ys ++ [t0, t1, t2, t3]
    · rw [if_pos hg, if_pos hg]
      obtain ⟨v, rfl, HO⟩ := h1 ((guarded_iff _ _ _ _ _).1 hg)
      exact ⟨v, rfl, HO, HB⟩
    · rw [if_neg hg, if_neg hg]
      exact ⟨_, h2 (fun e => hg ((guarded_iff _ _ _ _ _).2 e)), OwB.zero _ _, HB⟩
end Go.Proofs.Ytaonjbpaeloniaa
