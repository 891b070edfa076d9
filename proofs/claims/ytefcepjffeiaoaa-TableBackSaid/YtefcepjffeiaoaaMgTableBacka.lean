/- What the law TableBack reaches besides, and its walk. -/
import Derived.Test.YtefcepjffeiaoaaMgA
import Derived.Test.YtefcepjffeiaoaaMgC
set_option linter.unusedVariables false
set_option linter.unusedSimpArgs false
section
/- Arguments opened: versions. -/
namespace Go.Proofs.Ytefcepjffeiaoaa
open Go.ChangeShapes Go.WideShapes Go.ChangeAt Go.RowKit Go.Proofs.YtefcepjffeiaoaaW.PrintWords
set_option maxRecDepth 100000
set_option linter.unusedVariables false
instance : Inhabited Ent := ⟨zEnt⟩
theorem open_ents {H : Type} {enc : TypeId × Value → H} {W : World} {base : Nat} {v : Value} {x : DataW H} {p : List MemPlace} (hv : Value.okWide Try.prog W .any base 22 v)
    (h : DataW.Trod enc Try.prog W 0 (fun _ => true) true 22 v x p) : ∃ A c l, v = .slice A l.length c ∧ RdE W A c l ∧ (∀ B, (∀ y ∈ x.weights Try.prog 22, y ≤ B) → l.length * 48 ≤ B) := by
  have o1 := opens_struct Try.underlying43 (d := kEnt) (by kernel_rfl) (opensF_cons rfl (by kernel_rfl) (opens_string Try.underlying9) (opensF_cons rfl (by kernel_rfl) (opens_int Try.underlying3) (opensF_cons rfl (by kernel_rfl) (opens_int Try.underlying3) (opensF_one rfl (by kernel_rfl) (opens_string Try.underlying9)))))
  have o2 := opens_slice (t := 22) Try.underlying22 (by kernel_rfl) o1
  obtain ⟨A, c, l, hv, hl, hC, hS, hU⟩ := open_slice_of Try.underlying22 o2 hv h
  refine ⟨A, c, l, hv, ⟨hl, hC⟩, fun B hB => ?_⟩
  have h1 := (hS B hB).1
  have e : Try.prog.bytesOf 43 = 48 := by kernel_rfl
  rw [e] at h1
  exact h1
end Go.Proofs.Ytefcepjffeiaoaa
end

section
/- The walk of TableBack. -/
namespace Go.Proofs.Ytefcepjffeiaoaa
open Go.RowKit Go.Proofs.YtefcepjffeiaoaaW.PrintWords
set_option linter.unusedVariables false

theorem tld6 (i n : Nat) (h : i < n) : n - (intOf (.int .i64 ((i : Int) + 1))).toNat < n - (intOf (.int .i64 (i : Int))).toNat := by
  show n - (i + 1) < n - i
  omega
set_option maxRecDepth 100000 in
set_option maxHeartbeats 6400000 in
theorem back_walk (A : Option Addr) (c : Nat) (l : List Ent) (B : Option Addr) (d : Nat) (b : List UInt8) (w : World) (hr : RdE w A c l) (hl : l.length * 48 ≤ 140737488351232) (hb : RdB w B d b) (hbl : b.length ≤ 140737488351232) :
    Calls Try.prog 4 #[.slice A l.length c, .slice B b.length d] w fun e w' => e = .returned (.bool true) ∧ Below w.heap.size w w' := by
  have hE := fun W (h : RdE W A c l) => Build_any A c l.length l W rfl h (by omega)
  have hO2 := fun W (h : RdB W B d b) => Open_any B d b.length b W rfl h (by omega)
  unfold tabV at hO2
  have hun := open_ok b
  have hlu : (openL b).length ≤ 4160 := by
    by_cases h : openE b = 0
    · have := (tabE_ok _ (hun h).1).2.1; omega
    · rw [openL, if_neg h]; simp
  have hE2 := fun A c W (h : RdE W A c (openL b)) => Build_any A c (openL b).length (openL b) W rfl h (Nat.le_trans hlu (by decide))
  have hQ2 := fun A B c d W (h : RdB W A c b) (h' : RdB W B d b) => SameBytes_at A B c d _ _ b b W rfl rfl h h'
  simp only [decide_true] at hQ2
  have hS := fun A B c d W (h : RdE W A c l) (h' : RdE W B d l) => SameE_any A B c d l.length l W rfl h h' (by omega)
  obtain ⟨n, hn⟩ : ∃ n, l.length = n := ⟨_, rfl⟩
  obtain ⟨m, hm⟩ : ∃ m, b.length = m := ⟨_, rfl⟩
  have HN := hide hn
  have HM := hide hm
  rw [hn] at hE hS hl ⊢
  rw [hm] at hO2 hQ2 hbl ⊢
  obtain ⟨nu, hnu⟩ : ∃ nu, (openL b).length = nu := ⟨_, rfl⟩
  obtain ⟨KU, hKU⟩ : ∃ KU, openK b = KU := ⟨_, rfl⟩
  obtain ⟨nv, hnv⟩ : ∃ nv, (openX b).length = nv := ⟨_, rfl⟩
  have HNU := hide hnu
  have hx0 : openE b ≠ 0 → nu = 0 ∧ KU = 0 ∧ nv = 0 := fun h => ⟨by rw [← hnu, openL, if_neg h]; rfl, by rw [← hKU, openK, if_neg h], by rw [← hnv, openX, if_neg h]; rfl⟩
  rw [hnu] at hE2
  rw [hnu, hKU, hnv] at hO2
  by_cases h1 : tabE l = 0
  · obtain ⟨x1, x2⟩ := open_tab l h1
    have xl := (tabX_size l h1).1
    have eK : openK (tabX l) = filK l := by rw [openK, if_pos x1, x2]
    have eX : openX (tabX l) = filX l := by rw [openX, if_pos x1, x2]
    have hD := fun A c W (h : RdB W A c (tabX l)) => Open_any A c (tabX l).length (tabX l) W rfl h (Nat.le_trans xl (by decide))
    unfold tabV at hD
    rw [h1] at hE
    rw [x1, x2, eK, eX, hn] at hD
    obtain ⟨t1, t2, t3⟩ := tabE_ok l h1
    have hn6 : n ≤ 4096 := by rw [← hn]; exact t2
    have hHs := has_all l h1
    have hKs : ∀ k, k < l.length → (keyAt l k).size ≤ 96 := fun k hk => (ordE_may l t3 k hk).1.2.1
    obtain ⟨K, hK⟩ : ∃ K, filK l = K := ⟨_, rfl⟩
    obtain ⟨F, hF⟩ : ∃ F, filX l = F := ⟨_, rfl⟩
    rw [hK, hF] at hD hHs
    obtain ⟨nf, hnf⟩ : ∃ nf, F.length = nf := ⟨_, rfl⟩
    have HNF := hide hnf
    rw [hnf] at hD
    generalize tabX l = X at *
    obtain ⟨nx, hnx⟩ : ∃ nx, X.length = nx := ⟨_, rfl⟩
    have HNX := hide hnx
    rw [hnx] at hD
    by_cases h2 : openE b = 0
    · obtain ⟨y1, y2⟩ := hun h2
      rw [h2] at hO2
      rw [y1, y2] at hE2
      generalize openL b = U at *
      generalize openX b = V at *
      clear hun h1 h2 x1 x2 y1 y2 hn hm hnu hnx xl hlu eK eX hK hF hnf t1 t2 t3 hx0 hKU hnv
      go_enter Try.func4, Try.ntmps4
      go_wp2_with (first | (go_at_call 21; refine (alive_any _).mono ?_; rintro e w1 ⟨rfl, HB1⟩) | (go_at_call 18; refine (num_any _ _).mono ?_; rintro e w' ⟨rfl, rfl⟩) | (go_at_call 11; (with_reducible refine (hE _ (hr.below HB1)).mono ?_); rintro e w2 ⟨v2, rfl, HO2, HB2⟩; obtain ⟨A2, c2, hv2, hr2⟩ := HO2.rd; rw [HNX.out] at hv2; subst hv2; have HC2 := HB1.trans (HB2.mono HB1.size)) | (go_at_call 13; (with_reducible refine (hD _ _ _ hr2).mono ?_); rintro e w3 ⟨A3, c3, A4, c4, rfl, O3, O4, HB3⟩; have HC3 := HC2.trans (HB3.mono HC2.size); have b3 := below_alloc w3 (.cells #[.slice A3 n c3, .int .i64 K, .slice A4 nf c4] 34); have HC4 := stp HC3 b3; have hT := heap_alloc_new w3 (.cells #[.slice A3 n c3, .int .i64 K, .slice A4 nf c4] 34); have r3 := (O3.rdl).below b3; have r4 := (O4.rdl).below b3; have y0 := blk_cell hT 0; have y1 := blk_cell hT 1; have y2 := blk_cell hT 2) | (go_at_call 20; (with_reducible refine (hS _ _ _ _ _ r3 (hr.below HC4)).mono ?_); rintro e w5 ⟨rfl, HB5⟩))
      have HC5 := stp HC4 HB5
      have r4b := r4.below HB5
      have hT5 := (HB5.block _ (blk_lt hT)).trans hT
      have lt5 := blk_lt hT5
      go_loopw [9] (fun iv wr => ∃ k : Nat, k ≤ n ∧ iv = .int .i64 (k : Int) ∧ Below w5.heap.size w5 wr) (fun iv _ => n - (intOf iv).toNat)
      case atStart => exact ⟨0, Nat.zero_le _, rfl, Below.refl _ _⟩
      case round =>
        obtain ⟨k, hk, rfl, HBr⟩ := hrel
        have HCr := HC5.trans (HBr.mono HC5.size)
        by_cases hlt : k < n
        · have hlti : (k : Int) < (n : Int) := Int.ofNat_lt.2 hlt
          obtain ⟨ad, rfl, x0, -, -, -⟩ := RdE.at4 (hr.below HCr) k (by rw [HN.out]; exact hlt)
          have hkey := hHs k (by rw [HN.out]; exact hlt)
          have hks := hKs k (by rw [HN.out]; exact hlt)
          have hk1 : (l.getD k zEnt).1 = keyAt l k := rfl
          rw [hk1] at x0
          obtain ⟨ky, hky⟩ : ∃ ky, keyAt l k = ky := ⟨_, rfl⟩
          rw [hky] at x0 hkey hks
          clear hk1 hky
          have hH := fun W (h : RdB W A4 c4 F) => Bl.Has_any K A4 c4 F ky (Nat.le_trans hks (by decide)) W h
          rw [hkey.1, hkey.2, HNF.out] at hH
          unfold Bl.fil at hH
          have hTr := (HBr.block _ lt5).trans hT5
          have hSk : ∀ Y, Below wr.heap.size wr Y → Below wr.heap.size wr Y ∧ Y.cell? ⟨w3.heap.size, 1, none⟩ = some (.int .i64 K) ∧ Y.cell? ⟨w3.heap.size, 2, none⟩ = some (.slice A4 nf c4) ∧ Y.cell? (ad.add (k * 4)) = some (.string ky) := fun Y h => ⟨h, (blk_cell ((h.block _ (blk_lt hTr)).trans hTr) 1), (blk_cell ((h.block _ (blk_lt hTr)).trans hTr) 2), (h.cell (World.block_lt_of_cell? _ _ x0)).trans x0⟩
          have hd : Below wr.heap.size wr wr.drew := (Below.refl _ _).drew
          have hS0 := hSk _ hd
          have r4r := (r4b.below HBr).below hd
          clear hkey hks hE hD hE2 hQ2 hO2 hS r4 r3 y0 y1 y2
          go_wp2
          go_region_held3 (fun Y => Below wr.heap.size wr Y ∧ Y.cell? ⟨w3.heap.size, 1, none⟩ = some (.int .i64 K) ∧ Y.cell? ⟨w3.heap.size, 2, none⟩ = some (.slice A4 nf c4) ∧ Y.cell? (ad.add (k * 4)) = some (.string ky)) (first | exact hS0 | exact hSk _ QBt | assumption) (first | (go_at_call 22; (with_reducible refine (hH _ r4r).mono ?_); rintro e w6 ⟨rfl, HB6⟩; have QBt := stp hd HB6))
          go_wp2_with (first | (go_at_call 18; refine (num_any _ _).mono ?_; rintro e w' ⟨rfl, rfl⟩))
          go_roundw
          case rel => exact ⟨k + 1, hlt, by go_num, HBr.trans (QBt.mono HBr.size)⟩
          case measure => exact tld6 k n hlt
        · obtain rfl : k = n := Nat.le_antisymm hk (Nat.not_lt.1 hlt)
          clear hE hD hS r4 r3 y0 y1 y2 hHs hKs
          go_wp2_with (first | (go_at_call 18; refine (num_any _ _).mono ?_; rintro e w' ⟨rfl, rfl⟩) | (go_at_call 13; (with_reducible refine (hO2 _ (hb.below HCr)).mono ?_); rintro e w6 ⟨A6, c6, A7, c7, rfl, O6, O7, HB6⟩; have HC6 := Below.trans HCr (HB6.mono (Below.size HCr)); have b6 := below_alloc w6 (.cells #[.slice A6 nu c6, .int .i64 KU, .slice A7 nv c7] 34); have HC7 := stp HC6 b6; have hT6 := heap_alloc_new w6 (.cells #[.slice A6 nu c6, .int .i64 KU, .slice A7 nv c7] 34); have r6 := (O6.rdl).below b6; have x0 := blk_cell hT6 0) | (go_at_call 11; (with_reducible refine (hE2 _ _ _ r6).mono ?_); rintro e w8 ⟨v8, rfl, O8, HB8⟩; obtain ⟨A8, c8, hv8, r8⟩ := O8.rd; rw [HM.out] at hv8; subst hv8; have HC8 := stp HC7 HB8) | (go_at_call 17; (with_reducible refine (hQ2 _ _ _ _ _ r8 (hb.below HC8)).mono ?_); rintro e w9 ⟨rfl, rfl⟩; have HC9 := HC8))
          go_ret
          exact ⟨rfl, HC9⟩
    · obtain ⟨rfl, rfl, rfl⟩ := hx0 h2
      generalize openE b = z at *
      generalize openL b = U at *
      generalize openX b = V at *
      clear hun h1 x1 x2 hn hm hnu hnx xl hlu eK eX hK hF hnf t1 t2 t3 hx0 hKU hnv
      go_enter Try.func4, Try.ntmps4
      go_wp2_with (first | (go_at_call 21; refine (alive_any _).mono ?_; rintro e w1 ⟨rfl, HB1⟩) | (go_at_call 18; refine (num_any _ _).mono ?_; rintro e w' ⟨rfl, rfl⟩) | (go_at_call 11; (with_reducible refine (hE _ (hr.below HB1)).mono ?_); rintro e w2 ⟨v2, rfl, HO2, HB2⟩; obtain ⟨A2, c2, hv2, hr2⟩ := HO2.rd; rw [HNX.out] at hv2; subst hv2; have HC2 := HB1.trans (HB2.mono HB1.size)) | (go_at_call 13; (with_reducible refine (hD _ _ _ hr2).mono ?_); rintro e w3 ⟨A3, c3, A4, c4, rfl, O3, O4, HB3⟩; have HC3 := HC2.trans (HB3.mono HC2.size); have b3 := below_alloc w3 (.cells #[.slice A3 n c3, .int .i64 K, .slice A4 nf c4] 34); have HC4 := stp HC3 b3; have hT := heap_alloc_new w3 (.cells #[.slice A3 n c3, .int .i64 K, .slice A4 nf c4] 34); have r3 := (O3.rdl).below b3; have r4 := (O4.rdl).below b3; have y0 := blk_cell hT 0; have y1 := blk_cell hT 1; have y2 := blk_cell hT 2) | (go_at_call 20; (with_reducible refine (hS _ _ _ _ _ r3 (hr.below HC4)).mono ?_); rintro e w5 ⟨rfl, HB5⟩))
      have HC5 := stp HC4 HB5
      have r4b := r4.below HB5
      have hT5 := (HB5.block _ (blk_lt hT)).trans hT
      have lt5 := blk_lt hT5
      go_loopw [9] (fun iv wr => ∃ k : Nat, k ≤ n ∧ iv = .int .i64 (k : Int) ∧ Below w5.heap.size w5 wr) (fun iv _ => n - (intOf iv).toNat)
      case atStart => exact ⟨0, Nat.zero_le _, rfl, Below.refl _ _⟩
      case round =>
        obtain ⟨k, hk, rfl, HBr⟩ := hrel
        have HCr := HC5.trans (HBr.mono HC5.size)
        by_cases hlt : k < n
        · have hlti : (k : Int) < (n : Int) := Int.ofNat_lt.2 hlt
          obtain ⟨ad, rfl, x0, -, -, -⟩ := RdE.at4 (hr.below HCr) k (by rw [HN.out]; exact hlt)
          have hkey := hHs k (by rw [HN.out]; exact hlt)
          have hks := hKs k (by rw [HN.out]; exact hlt)
          have hk1 : (l.getD k zEnt).1 = keyAt l k := rfl
          rw [hk1] at x0
          obtain ⟨ky, hky⟩ : ∃ ky, keyAt l k = ky := ⟨_, rfl⟩
          rw [hky] at x0 hkey hks
          clear hk1 hky
          have hH := fun W (h : RdB W A4 c4 F) => Bl.Has_any K A4 c4 F ky (Nat.le_trans hks (by decide)) W h
          rw [hkey.1, hkey.2, HNF.out] at hH
          unfold Bl.fil at hH
          have hTr := (HBr.block _ lt5).trans hT5
          have hSk : ∀ Y, Below wr.heap.size wr Y → Below wr.heap.size wr Y ∧ Y.cell? ⟨w3.heap.size, 1, none⟩ = some (.int .i64 K) ∧ Y.cell? ⟨w3.heap.size, 2, none⟩ = some (.slice A4 nf c4) ∧ Y.cell? (ad.add (k * 4)) = some (.string ky) := fun Y h => ⟨h, (blk_cell ((h.block _ (blk_lt hTr)).trans hTr) 1), (blk_cell ((h.block _ (blk_lt hTr)).trans hTr) 2), (h.cell (World.block_lt_of_cell? _ _ x0)).trans x0⟩
          have hd : Below wr.heap.size wr wr.drew := (Below.refl _ _).drew
          have hS0 := hSk _ hd
          have r4r := (r4b.below HBr).below hd
          clear hkey hks hE hD hE2 hQ2 hO2 hS r4 r3 y0 y1 y2
          go_wp2
          go_region_held3 (fun Y => Below wr.heap.size wr Y ∧ Y.cell? ⟨w3.heap.size, 1, none⟩ = some (.int .i64 K) ∧ Y.cell? ⟨w3.heap.size, 2, none⟩ = some (.slice A4 nf c4) ∧ Y.cell? (ad.add (k * 4)) = some (.string ky)) (first | exact hS0 | exact hSk _ QBt | assumption) (first | (go_at_call 22; (with_reducible refine (hH _ r4r).mono ?_); rintro e w6 ⟨rfl, HB6⟩; have QBt := stp hd HB6))
          go_wp2_with (first | (go_at_call 18; refine (num_any _ _).mono ?_; rintro e w' ⟨rfl, rfl⟩))
          go_roundw
          case rel => exact ⟨k + 1, hlt, by go_num, HBr.trans (QBt.mono HBr.size)⟩
          case measure => exact tld6 k n hlt
        · obtain rfl : k = n := Nat.le_antisymm hk (Nat.not_lt.1 hlt)
          clear hE hD hS r4 r3 y0 y1 y2 hHs hKs
          go_wp2_with (first | (go_at_call 18; refine (num_any _ _).mono ?_; rintro e w' ⟨rfl, rfl⟩) | (go_at_call 13; (with_reducible refine (hO2 _ (hb.below HCr)).mono ?_); rintro e w6 ⟨A6, c6, A7, c7, rfl, O6, O7, HB6⟩; have HC6 := Below.trans HCr (HB6.mono (Below.size HCr)); have b6 := below_alloc w6 (.cells #[.slice A6 0 c6, .int .i64 0, .slice A7 0 c7] 34); have HC7 := stp HC6 b6; have hT6 := heap_alloc_new w6 (.cells #[.slice A6 0 c6, .int .i64 0, .slice A7 0 c7] 34); have r6 := (O6.rdl).below b6; have x0 := blk_cell hT6 0))
          go_ret
          exact ⟨rfl, HC7⟩
  · have hxe : tabX l = [] := by rw [tabX, if_neg h1]
    rw [hxe] at hE
    generalize tabE l = z1 at *
    by_cases h2 : openE b = 0
    · obtain ⟨y1, y2⟩ := hun h2
      rw [h2] at hO2
      rw [y1, y2] at hE2
      generalize openL b = U at *
      generalize openX b = V at *
      clear hun h2 hxe y1 y2 hn hm hnu hlu hx0 hKU hnv
      go_enter Try.func4, Try.ntmps4
      go_wp2_with (first | (go_at_call 21; refine (alive_any _).mono ?_; rintro e w1 ⟨rfl, HB1⟩) | (go_at_call 18; refine (num_any _ _).mono ?_; rintro e w' ⟨rfl, rfl⟩) | (go_at_call 11; (with_reducible refine (hE _ (hr.below HB1)).mono ?_); rintro e w2 ⟨v2, rfl, HO2, HB2⟩; obtain ⟨A2, c2, hv2, hr2⟩ := HO2.rd; subst hv2; have HC2 := HB1.trans (HB2.mono HB1.size)) | (go_at_call 13; (with_reducible refine (hO2 _ (hb.below HC2)).mono ?_); rintro e w6 ⟨A6, c6, A7, c7, rfl, O6, O7, HB6⟩; have HC6 := Below.trans HC2 (HB6.mono (Below.size HC2)); have b6 := below_alloc w6 (.cells #[.slice A6 nu c6, .int .i64 KU, .slice A7 nv c7] 34); have HC7 := stp HC6 b6; have hT6 := heap_alloc_new w6 (.cells #[.slice A6 nu c6, .int .i64 KU, .slice A7 nv c7] 34); have r6 := (O6.rdl).below b6; have x0 := blk_cell hT6 0) | (go_at_call 11; (with_reducible refine (hE2 _ _ _ r6).mono ?_); rintro e w8 ⟨v8, rfl, O8, HB8⟩; obtain ⟨A8, c8, hv8, r8⟩ := O8.rd; rw [HM.out] at hv8; subst hv8; have HC8 := stp HC7 HB8) | (go_at_call 17; (with_reducible refine (hQ2 _ _ _ _ _ r8 (hb.below HC8)).mono ?_); rintro e w9 ⟨rfl, rfl⟩; have HC9 := HC8))
      go_ret
      exact ⟨rfl, HC9⟩
    · obtain ⟨rfl, rfl, rfl⟩ := hx0 h2
      generalize openE b = z at *
      generalize openL b = U at *
      generalize openX b = V at *
      clear hun hxe hn hm hnu hlu hx0 hKU hnv
      go_enter Try.func4, Try.ntmps4
      go_wp2_with (first | (go_at_call 21; refine (alive_any _).mono ?_; rintro e w1 ⟨rfl, HB1⟩) | (go_at_call 18; refine (num_any _ _).mono ?_; rintro e w' ⟨rfl, rfl⟩) | (go_at_call 11; (with_reducible refine (hE _ (hr.below HB1)).mono ?_); rintro e w2 ⟨v2, rfl, HO2, HB2⟩; obtain ⟨A2, c2, hv2, hr2⟩ := HO2.rd; subst hv2; have HC2 := HB1.trans (HB2.mono HB1.size)) | (go_at_call 13; (with_reducible refine (hO2 _ (hb.below HC2)).mono ?_); rintro e w6 ⟨A6, c6, A7, c7, rfl, O6, O7, HB6⟩; have HC6 := Below.trans HC2 (HB6.mono (Below.size HC2)); have b6 := below_alloc w6 (.cells #[.slice A6 0 c6, .int .i64 0, .slice A7 0 c7] 34); have HC7 := stp HC6 b6; have hT6 := heap_alloc_new w6 (.cells #[.slice A6 0 c6, .int .i64 0, .slice A7 0 c7] 34); have r6 := (O6.rdl).below b6; have x0 := blk_cell hT6 0))
      go_ret
      exact ⟨rfl, HC7⟩
end Go.Proofs.Ytefcepjffeiaoaa
end
