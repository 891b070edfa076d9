/- Bloom: the page's examples. -/
import Derived.Test.YtmnecbmneljhkaaBlN
namespace Go.Proofs.Ytmnecbmneljhkaa
open Go.RowKit Go.Shelf Go.Proofs.YtmnecbmneljhkaaW.PrintWords
set_option linter.unusedVariables false

def strA : ByteArray := { data := #[97] }
def strE : ByteArray := { data := #[] }
theorem hash_a : (hash strA).toNat = 12638187200555641996 := by decide +kernel
theorem hash_e : (hash strE).toNat = 14695981039346656037 := by decide +kernel
theorem make_a : makeK 10 1 = 7 ∧ makeE 10 1 = 0 ∧ (makeX 10 [strA]).length = 2 ∧ hasB 7 (makeX 10 [strA]) strA = true ∧ encE 7 2 = 0 := by decide +kernel
theorem lit_a (w : World) : RdS (w.alloc (.cells #[.string strA] 9)) (some ⟨w.heap.size, 0, none⟩) 1 [strA] := by
  have h : OwS (w.alloc (.cells #[.string strA] 9)) w.heap.size (.slice (some ⟨w.heap.size, 0, none⟩) 1 1) [strA] := own_lit_of (enc := estr) w w.heap.size 9 [strA] (Nat.le_refl _) (by simp)
  obtain ⟨A, c, hv, hr⟩ := h.rd
  injection hv with h1 _ h3
  subst h1
  subst h3
  exact hr
set_option maxHeartbeats 800000 in
theorem alive_any (w : World) : Calls Try.prog 20 #[] w fun e w' => e = .returned (.bool true) ∧ Below w.heap.size w w' := by
  obtain ⟨h1, h2, h3, h4, h5⟩ := make_a
  have HM := Make_any (some ⟨w.heap.size, 0, none⟩) 1 [strA] 10 (fun s hs => by have := List.mem_singleton.1 hs; subst this; decide) _ (lit_a w)
  rw [show [strA].length = 1 from rfl, h1, h2, h3] at HM
  have HS := fun A c W (hx : RdB W A c (makeX 10 [strA])) => Has_any 7 A c (makeX 10 [strA]) strA (by decide) W hx
  rw [h3, h4, h5] at HS
  have HA := Hash_any strA (by decide)
  have HE := Hash_any strE (by decide)
  rw [hash_a] at HA
  rw [hash_e] at HE
  unfold fil at *
  generalize makeX 10 [strA] = X at *
  unfold strA strE at *
  clear h1 h2 h4 h5
  go_enter Try.func20, Try.ntmps20
  go_wp2_with (first | (go_at_call 11; refine HM.mono ?_; rintro e w1 ⟨A1, c1, rfl, HO1, HB1⟩; obtain ⟨A2, c2, hv2, hr2⟩ := HO1.rd; rw [h3] at hv2; obtain ⟨rfl, rfl⟩ : A2 = A1 ∧ c2 = c1 := by (injection hv2 with e1 _ e3; exact ⟨e1.symm, e3.symm⟩)) | (go_at_call 13; refine (HS _ _ _ (hr2.below ((Below.refl _ _).alloc (Nat.le_refl _) _))).mono ?_; rintro e w2 ⟨rfl, HB2⟩) | (go_at_call 18; refine (num_any _ _).mono ?_; rintro e w' ⟨rfl, rfl⟩) | (go_at_call 15; (with_reducible refine (HE _).mono ?_); rintro e w3 ⟨rfl, HB3⟩) | (go_at_call 15; (with_reducible refine (HA _).mono ?_); rintro e w4 ⟨rfl, HB4⟩))
  go_ret
  have b1 : Below w.heap.size w w1 := ((Below.refl _ _).alloc (Nat.le_refl _) _).trans (HB1.mono (by simp))
  have b2 : Below w.heap.size w w2 := (b1.alloc b1.size _).trans (HB2.mono (by have := b1.size; simp; omega))
  have b3 := b2.trans (HB3.mono b2.size)
  exact ⟨rfl, b3.trans (HB4.mono b3.size)⟩
end Go.Proofs.Ytmnecbmneljhkaa
