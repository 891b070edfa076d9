/- What the law BlockOwn reaches besides, and its walk. -/
import Derived.Test.YtfclmkbhfpjhjaaMgA
import Derived.Test.YtfclmkbhfpjhjaaMgB
set_option linter.unusedVariables false
set_option linter.unusedSimpArgs false
section
/- Arguments opened: versions. -/
namespace Go.Proofs.Ytfclmkbhfpjhjaa
open Go.ChangeShapes Go.WideShapes Go.ChangeAt Go.RowKit Go.Proofs.YtfclmkbhfpjhjaaW.PrintWords
set_option maxRecDepth 100000
set_option linter.unusedVariables false
instance : Inhabited Ent := ⟨zEnt⟩
theorem open_ents {H : Type} {enc : TypeId × Value → H} {W : World} {base : Nat} {v : Value} {x : DataW H} {p : List MemPlace} (hv : Value.okWide Try.prog W .any base 22 v)
    (h : DataW.Trod enc Try.prog W 0 (fun _ => true) true 22 v x p) : ∃ A c l, v = .slice A l.length c ∧ RdE W A c l ∧ (∀ B, (∀ y ∈ x.weights Try.prog 22, y ≤ B) → l.length * 48 ≤ B) := by
  have o1 := opens_struct Try.underlying36 (d := kEnt) (by kernel_rfl) (opensF_cons rfl (by kernel_rfl) (opens_string Try.underlying9) (opensF_cons rfl (by kernel_rfl) (opens_int Try.underlying3) (opensF_cons rfl (by kernel_rfl) (opens_int Try.underlying3) (opensF_one rfl (by kernel_rfl) (opens_string Try.underlying9)))))
  have o2 := opens_slice (t := 22) Try.underlying22 (by kernel_rfl) o1
  obtain ⟨A, c, l, hv, hl, hC, hS, hU⟩ := open_slice_of Try.underlying22 o2 hv h
  refine ⟨A, c, l, hv, ⟨hl, hC⟩, fun B hB => ?_⟩
  have h1 := (hS B hB).1
  have e : Try.prog.bytesOf 36 = 48 := by kernel_rfl
  rw [e] at h1
  exact h1
end Go.Proofs.Ytfclmkbhfpjhjaa
end

section
/- The walk of BlockOwn. -/
namespace Go.Proofs.Ytfclmkbhfpjhjaa
open Go.RowKit Go.Proofs.YtfclmkbhfpjhjaaW.PrintWords
set_option linter.unusedVariables false

set_option maxRecDepth 100000 in
set_option maxHeartbeats 3200000 in
theorem own_walk (B : Option Addr) (d : Nat) (b : List UInt8) (w : World) (hb : RdB w B d b) (hbl : b.length ≤ 140737488351232) :
    Calls Try.prog 6 #[.slice B b.length d] w fun e w' => e = .returned (.bool true) ∧ Below w.heap.size w w' := by
  have hCp := fun W (h : RdB W B d b) => CopyBytes_any B d b W h (by omega)
  have hD := fun B d W (h : RdB W B d b) => Decode_any B d b.length b W rfl h (by omega)
  have hRd := fun W (h : RdB W B d b) => rDecode_any B d b.length b W rfl h (by omega)
  have hlu : (unL b).length ≤ 65 := by
    unfold unL
    split
    · exact toldE_len _
    · simp
  have hS := fun A B c d W (h : RdE W A c (unL b)) (h' : RdE W B d (unL b)) => SameE_any A B c d (unL b).length (unL b) W rfl h h' (by omega)
  obtain ⟨m, hm⟩ : ∃ m, b.length = m := ⟨_, rfl⟩
  have HM := hide hm
  rw [hm] at hCp hD hRd hbl ⊢
  generalize unL b = U at *
  generalize unE b = z at *
  obtain ⟨nu, hnu⟩ : ∃ nu, U.length = nu := ⟨_, rfl⟩
  have HNU := hide hnu
  rw [hnu] at hS hlu
  clear hm hnu
  go_enter Try.func6, Try.ntmps6
  go_wp2_with (first | (go_at_call 9; refine (alive_any _).mono ?_; rintro e w1 ⟨rfl, HB1⟩) | (go_at_call 16; (with_reducible refine (hCp _ (hb.below HB1)).mono ?_); rintro e w2 ⟨v2, rfl, HO2, HB2⟩; obtain ⟨A2, c2, hv2, hr2⟩ := HO2.rd; rw [HM.out] at hv2; subst hv2; have HC2 := HB1.trans (HB2.mono HB1.size)) | (go_at_call 12; first | ((with_reducible refine (hD _ _ _ hr2).mono ?_); rintro e w3 ⟨v3, rfl, HO3, HB3⟩; obtain ⟨A3, c3, hv3, -⟩ := HO3.rd; rw [HNU.out] at hv3; subst hv3; have HC3 := HC2.trans (HB3.mono HC2.size)) | ((with_reducible refine (hD _ _ _ (hb.below HC5)).mono ?_); rintro e w6 ⟨v6, rfl, HO6, HB6⟩; obtain ⟨A6, c6, hv6, -⟩ := HO6.rd; rw [HNU.out] at hv6; subst hv6)) | (go_at_call 17; (with_reducible refine (hRd _ (hb.below HC3)).mono ?_); rintro e w4 ⟨v4, rfl, HO4, HB4⟩; obtain ⟨A4, c4, hv4, -⟩ := HO4.rd; rw [HNU.out] at hv4; subst hv4; have HC4 := HC3.trans (HB4.mono HC3.size); have HO24 := (HO2.below HB3).below HB4; have HO34 := HO3.below HB4) | (go_at_call 18; (with_reducible refine (Spoil_any _ _ b w4 HO24).mono ?_); rintro e w5 ⟨rfl, HO5, HG5⟩; have HL5 := Ow.over HO34 HO24.ow (one_ne (by decide)) HG5; have HR5 := Ow.over HO4 HO24.ow (one_ne (by decide)) HG5; have HC5 := HB1.trans ((HO24.grown (HB2.trans ((HB3.mono HB2.size).trans (HB4.mono (Nat.le_trans HB2.size HB3.size)))) (Nat.le_trans HB2.size (Nat.le_trans HB3.size HB4.size)) HG5).mono HB1.size)))
  have hl6 := (HL5.below HB6).rdl
  have hm6 := (HR5.below HB6).rdl
  have HC6 := HC5.trans (HB6.mono HC5.size)
  have b6 := HC5.size
  have b65 := HB6.size
  go_loopw [10] (fun i wr => ∃ k : Nat, k ≤ nu ∧ i = .int .i64 (k : Int) ∧ (∃ l' : List Ent, l'.length = nu ∧ OwE wr w5.heap.size (.slice A6 nu c6) l') ∧ Below w5.heap.size w6 wr) (fun i _ => nu - (intOf i).toNat)
  case atStart => exact ⟨0, Nat.zero_le _, rfl, ⟨U, HNU.out, HO6⟩, Below.refl _ _⟩
  case round =>
    obtain ⟨k, hk, rfl, ⟨l', hl', HOl⟩, HBl⟩ := hrel
    have HCr := HC6.trans (HBl.mono b6)
    by_cases hlt : k < nu
    · have hlti : (k : Int) < (nu : Int) := Int.ofNat_lt.2 hlt
      have HL' := hide hl'
      obtain ⟨g, rfl, hgb, hgl⟩ := HOl.head (by omega)
      have hone : ∀ u ∈ [Value.string ByteArray.empty, .int .i64 0, .int .i64 0, .string ByteArray.empty], u.oneCell' = true := by decide
      have HONE := hide hone
      clear hl' hone
      go_wp2_with (first | (refine store_ow (P := Try.prog) kEnt zEnt (w0 := w6) w5.heap.size rfl rfl 36 (.tmp 41) (.tmp 40) rfl 36 (g := g) (n := nu) (cap := c6) k l' zEnt (.agg #[.string ByteArray.empty, .int .i64 0, .int .i64 0, .string ByteArray.empty]) [.string ByteArray.empty, .int .i64 0, .int .i64 0, .string ByteArray.empty] (by rfl) (by rfl) rfl rfl HONE.out rfl (kEnt_M _ _ _ zEnt) HOl hlt HBl ?_; intro w10 HOl2 HB10 HG10))
      go_roundw
      case rel => exact ⟨k + 1, hlt, by go_num, ⟨_, by rw [List.length_set]; exact HL'.out, HOl2⟩, HB10⟩
      case measure => simp [intOf]; omega
    · obtain rfl : k = nu := Nat.le_antisymm hk (Nat.not_lt.1 hlt)
      have hlr := HL5.rdl
      have hmr := HR5.rdl
      have B5r : Below w5.heap.size w5 _ := HB6.trans HBl
      have hSS := hS _ _ _ _ _ (hlr.below B5r) (hmr.below B5r)
      clear hl' HOl
      go_wp2_with (first | (go_at_call 11; refine (num_any _ _).mono ?_; rintro e w' ⟨rfl, rfl⟩) | (go_at_call 13; (with_reducible refine hSS.mono ?_); rintro e w7 ⟨rfl, HB7⟩))
      go_ret
      exact ⟨by simp, HCr.trans (HB7.mono HCr.size)⟩
end Go.Proofs.Ytfclmkbhfpjhjaa
end
