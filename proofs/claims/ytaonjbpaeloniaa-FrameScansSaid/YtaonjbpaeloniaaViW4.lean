/- The walk of the reference's Get of numbers as octets. -/
import Derived.Test.YtaonjbpaeloniaaViW3
namespace Go.Proofs.Ytaonjbpaeloniaa
open Go.RowKit Go.Proofs.YtaonjbpaeloniaaW.PrintWords
set_option linter.unusedVariables false

theorem mask_low (b0 : UInt8) (j : Nat) (h7 : j < 7) : bits .and .u64 (b0.toNat : Int) (2 ^ (7 - j) - 1) = ((b0 &&& mask8 (j + 1)).toNat : Int) := by
  have hd : ∀ j : Fin 7, ∀ c : Fin 256, bits .and .u64 ((UInt8.ofNat c.val).toNat : Int) (2 ^ (7 - j.val) - 1) = (((UInt8.ofNat c.val) &&& mask8 (j.val + 1)).toNat : Int) := by decide +kernel
  have := hd ⟨j, h7⟩ ⟨b0.toNat, b0.toNat_lt⟩
  simp only [UInt8.ofNat_toNat] at this
  exact this
theorem mask_none (b0 : UInt8) (j : Nat) (h7 : ¬ j < 7) (h9 : j + 1 ≤ 9) : (b0 &&& mask8 (j + 1)).toNat = 0 := by
  have hd : ∀ c : Fin 256, ((UInt8.ofNat c.val) &&& mask8 8).toNat = 0 ∧ ((UInt8.ofNat c.val) &&& mask8 9).toNat = 0 := by decide +kernel
  have := hd ⟨b0.toNat, b0.toNat_lt⟩
  simp only [UInt8.ofNat_toNat] at this
  have hj2 : j = 7 ∨ j = 8 := by omega
  rcases hj2 with rfl | rfl
  · exact this.1
  · exact this.2
set_option maxRecDepth 100000 in
set_option maxHeartbeats 800000 in
theorem rGet_any (A : Option Addr) (c : Nat) (b : List UInt8) (w : World) (hr : RdB w A c b) :
    Calls Try.prog 30 #[.slice A b.length c] w fun e w' => e = .returned (.tuple #[.int .u64 (gN b : Int), .int .i64 (gK b : Int), .int .i64 (getErr b : Int)]) ∧ Below w.heap.size w w' := by
  cases b with
  | nil =>
    have e1 : gN [] = 0 := by decide
    have e2 : gK [] = 0 := by decide
    rw [e1, e2, getErr_nil]
    go_enter Try.func30, Try.ntmps30
    go_wp2
    go_ret3
    exact ⟨rfl, Below.refl _ _⟩
  | cons b0 l =>
    have hk9 : ones8 b0 + 1 ≤ 9 := by have := ones8_le b0; omega
    obtain ⟨ad, rfl, hcell⟩ := hr.at_ 0 (by simp)
    have hne : ¬ (b0 :: l).length = 0 := by simp
    obtain ⟨b, hb⟩ : ∃ b, b0 :: l = b := ⟨_, rfl⟩
    have ho : oct0 b = b0 := by rw [← hb]; rfl
    have hg0 : b.getD 0 0 = b0 := by rw [← hb]; rfl
    rw [hb] at hr hcell hne ⊢
    rw [hg0] at hcell
    obtain ⟨j, hj⟩ : ∃ j, ones8 b0 = j := ⟨_, rfl⟩
    have hO := ones_any b0
    rw [hj] at hO hk9
    have hz : ad.add 0 = ad := by cases ad; simp [Addr.add]
    rw [hz] at hcell
    have HO0 := hide ho
    clear hz ho hb hg0
    by_cases hs : b.length < j + 1
    · have e0 : getErr b = 8 := by rw [getErr, HO0.out, hj, if_pos hs]
      have e1 : gN b = 0 := by rw [gN, e0]; rfl
      have e2 : gK b = 0 := by rw [gK, e0]; rfl
      rw [e0, e1, e2]
      clear e0 e1 e2 hj
      have hsi : (b.length : Int) < (j : Int) + 1 := by omega
      go_enter Try.func30, Try.ntmps30
      go_wp2_with (first | (go_at_call 41; refine (hO _).mono ?_; rintro e w' ⟨rfl, rfl⟩))
      go_ret3
      exact ⟨rfl, Below.refl _ _⟩
    · have hlen : ((b.take (j + 1)).drop 1).length = j := by simp; omega
      have hbk := back8 b0
      have hgn : getNum b = num8 ((b0 &&& mask8 (j + 1)).toNat) ((b.take (j + 1)).drop 1) := by rw [getNum, HO0.out, hj]
      obtain ⟨t, ht⟩ : ∃ t, (b.take (j + 1)).drop 1 = t := ⟨_, rfl⟩
      rw [ht] at hlen hgn
      rw [hj] at hbk
      have hgE : getErr b = if vsize (getNum b) = j + 1 then 0 else 4 := by rw [getErr, HO0.out, hj, if_neg hs]
      have hsz := getNum_room b (by rw [HO0.out, hj]; omega)
      rw [HO0.out, hj] at hsz
      have hM7 := mask_low b0 j
      have hM8 := mask_none b0 j
      obtain ⟨h0, hh0⟩ : ∃ h0, (b0 &&& mask8 (j + 1)).toNat = h0 := ⟨_, rfl⟩
      have hroom := hbk.2
      rw [hh0] at hgn hroom hM7 hM8
      have hh0' : h0 < 256 := by rw [← hh0]; exact UInt8.toNat_lt _
      have hbnd : ∀ i, i ≤ j → num8 h0 (t.take i) < 18446744073709551616 := fun i hi => by
        have h1 := num8_lt h0 _ (t.take i) hroom
        have h2 := room_pow (j + 1) i (by omega) hk9 (by omega)
        have h3 : (t.take i).length = i := by simp; omega
        rw [h3] at h1
        exact Nat.lt_of_lt_of_le h1 h2
      have hK : gN b = (if vsize (getNum b) = j + 1 then getNum b else 0) ∧ gK b = (if vsize (getNum b) = j + 1 then j + 1 else 0) := by
        constructor
        · rw [gN, hgE]; by_cases h : vsize (getNum b) = j + 1 <;> simp [h]
        · rw [gK, hgE, HO0.out, hj]; by_cases h : vsize (getNum b) = j + 1 <;> simp [h]
      have hgl : getNum b < 18446744073709551616 := by have := hbnd j (Nat.le_refl _); rwa [List.take_of_length_le (by omega), ← hgn] at this
      have hread : ∀ k, k < j → b.getD (k + 1) 0 = t.getD k 0 := fun k hkj => by
        rw [← ht]
        rw [List.getD_eq_getElem?_getD, List.getD_eq_getElem?_getD, List.getElem?_drop, List.getElem?_take_of_lt (by omega), Nat.add_comm 1 k]
      have hbl : j + 1 ≤ b.length := by omega
      obtain ⟨g, hg⟩ : ∃ g, getNum b = g := ⟨_, rfl⟩
      rw [hg] at hgn hsz hgl hK hgE
      have HV : Hid (vsize g = j + 1 → gN b = g ∧ gK b = j + 1 ∧ getErr b = 0) := fun h => by rw [hK.1, hK.2, hgE, if_pos h, if_pos h, if_pos h]; exact ⟨rfl, rfl, rfl⟩
      have HW : Hid (¬ vsize g = j + 1 → gN b = 0 ∧ gK b = 0 ∧ getErr b = 4) := fun h => by rw [hK.1, hK.2, hgE, if_neg h, if_neg h, if_neg h]; exact ⟨rfl, rfl, rfl⟩
      generalize gN b = N0 at *
      generalize gK b = K0 at *
      generalize getErr b = E0 at *
      have hsi : ¬ (b.length : Int) < (j : Int) + 1 := by omega
      have hj9 : (j : Int) ≤ 8 := by omega
      have hpos : 0 < b.length := by omega
      have HGN := hide hgn
      have HLEN := hide hlen
      have hS := rSize_any g hgl
      clear hK hgE hgn hh0 hbk hj ht hlen HO0 hg
      by_cases h7 : j < 7
      · have hM := hM7 h7
        have hci : (j : Int) + 1 < 8 := by omega
        have hwr : IntKind.u64.wrap (b0.toNat : Int) = (b0.toNat : Int) := by have := b0.toNat_lt; rw [IntKind.wrap_u64]; omega
        obtain ⟨q, hq⟩ : ∃ q, 7 - j = q := ⟨_, rfl⟩
        rw [hq] at hM
        have hw1 : IntKind.i64.wrap (8 - ((j : Int) + 1)) = (q : Int) := by rw [IntKind.wrap_i64]; omega
        have hw2 : IntKind.u64.wrap (2 ^ q) = 2 ^ q ∧ IntKind.u64.wrap ((2 : Int) ^ q - 1) = 2 ^ q - 1 := by
          have hd : ∀ q : Fin 8, IntKind.u64.wrap (2 ^ q.val) = 2 ^ q.val ∧ IntKind.u64.wrap ((2 : Int) ^ q.val - 1) = 2 ^ q.val - 1 := by decide
          exact hd ⟨q, by omega⟩
        obtain ⟨hw2, hw3⟩ := hw2
        have hq64 : (q : Int) ≤ 64 := by omega
        clear hM7 hM8 hq
        go_enter Try.func30, Try.ntmps30
        go_wp2_with (first | (go_at_call 41; refine (hO _).mono ?_; rintro e w' ⟨rfl, rfl⟩))
        refine wp_region_still_lit (by kernel_rfl) (by kernel_rfl) ?_
        repeat still_step
        refine wpStill_nil ?_
        change Exit.then _ _ _ _ w.drew
        have hrd : RdB w.drew (some ad) c b := hr.below (Below.refl _ _).drew
        have HBd : Below w.heap.size w w.drew := (Below.refl _ _).drew
        generalize w.drew = wd at *
        go_wp2
        generalize decide ((b.length : Int) < (j : Int) + 1) = b21
        go_loop [6, 7] (fun n i => ∃ x : Nat, 1 ≤ x ∧ x ≤ j + 1 ∧ i = .int .i64 (x : Int) ∧ n = .int .u64 ((num8 h0 (t.take (x - 1)) : Nat) : Int)) (fun _ i => j + 1 - (intOf i).toNat)
        case atStart => exact ⟨1, by omega, by omega, rfl, rfl⟩
        case round =>
          obtain ⟨i, hi1, hij, rfl, rfl⟩ := hrel
          obtain ⟨k, hki⟩ : ∃ k, k + 1 = i := ⟨i - 1, by omega⟩
          rw [show i - 1 = k by omega]
          by_cases hlt : k < j
          · have hrk := hread k hlt
            rw [hki] at hrk
            obtain ⟨ad2, hadd, hc2⟩ := hrd.at_ i (by omega)
            injection hadd with hadd
            subst hadd
            rw [hrk] at hc2
            have hcj : (i : Int) < (j : Int) + 1 := by omega
            have hkb : (i : Int) < (b.length : Int) := by omega
            have hkb2 : i < b.length := by omega
            have hb1 := hbnd (k + 1) (by omega)
            have hstep : num8 h0 (t.take (k + 1)) = num8 h0 (t.take k) * 256 + (t.getD k 0).toNat := by
              have hlk : k < t.length := by rw [HLEN.out]; exact hlt
              rw [List.take_succ_eq_append_getElem hlk, num8_append]
              simp [num8, List.getD_eq_getElem?_getD, List.getElem?_eq_getElem hlk]
            rw [hstep] at hb1
            have HST := hide hstep
            obtain ⟨x, hx⟩ : ∃ x, t.getD k 0 = x := ⟨_, rfl⟩
            obtain ⟨n, hn⟩ : ∃ n, num8 h0 (t.take k) = n := ⟨_, rfl⟩
            rw [hn] at hb1 HST ⊢
            rw [hx] at hb1 hc2 HST
            have HOR := hide (or_low n x hb1)
            have HKI := hide hki
            clear hstep hx hn hread hbnd hki hrk
            go_wp2
            go_round
            case rel => exact ⟨i + 1, by omega, by omega, by go_num, by rw [HOR.out, ← HST.out, Nat.add_sub_cancel, HKI.out]⟩
            case measure => simp [intOf]; omega
          · have hcj : ¬ (i : Int) < (j : Int) + 1 := by omega
            obtain rfl : k = j := by omega
            subst hki
            have hfin : num8 h0 (t.take k) = g := by rw [HGN.out, List.take_of_length_le (by rw [HLEN.out]; omega)]
            rw [hfin]
            clear hfin HGN HLEN hbnd hread
            by_cases hv : vsize g = k + 1
            · have hvi : ¬ (vsize g : Int) < (k : Int) + 1 := by omega
              obtain ⟨rfl, rfl, rfl⟩ := HV.out hv
              clear hv hsz
              go_wp2_with (first | (go_at_call 39; refine (hS _).mono ?_; rintro e w' ⟨rfl, rfl⟩))
              go_ret3
              exact ⟨by simp, HBd⟩
            · have hvi : (vsize g : Int) < (k : Int) + 1 := by omega
              obtain ⟨rfl, rfl, rfl⟩ := HW.out hv
              clear hv hsz
              go_wp2_with (first | (go_at_call 39; refine (hS _).mono ?_; rintro e w' ⟨rfl, rfl⟩))
              go_ret3
              exact ⟨rfl, HBd⟩
      · have hM := hM8 h7 hk9
        subst hM
        have hci : ¬ (j : Int) + 1 < 8 := by omega
        clear hM7 hM8
        go_enter Try.func30, Try.ntmps30
        go_wp2_with (first | (go_at_call 41; refine (hO _).mono ?_; rintro e w' ⟨rfl, rfl⟩))
        have hrd := hr
        have HBd : Below w.heap.size w w := Below.refl _ _
        generalize decide ((b.length : Int) < (j : Int) + 1) = b21
        go_loop [6, 7] (fun n i => ∃ x : Nat, 1 ≤ x ∧ x ≤ j + 1 ∧ i = .int .i64 (x : Int) ∧ n = .int .u64 ((num8 0 (t.take (x - 1)) : Nat) : Int)) (fun _ i => j + 1 - (intOf i).toNat)
        case atStart => exact ⟨1, by omega, by omega, rfl, rfl⟩
        case round =>
          obtain ⟨i, hi1, hij, rfl, rfl⟩ := hrel
          obtain ⟨k, hki⟩ : ∃ k, k + 1 = i := ⟨i - 1, by omega⟩
          rw [show i - 1 = k by omega]
          by_cases hlt : k < j
          · have hrk := hread k hlt
            rw [hki] at hrk
            obtain ⟨ad2, hadd, hc2⟩ := hrd.at_ i (by omega)
            injection hadd with hadd
            subst hadd
            rw [hrk] at hc2
            have hcj : (i : Int) < (j : Int) + 1 := by omega
            have hkb : (i : Int) < (b.length : Int) := by omega
            have hkb2 : i < b.length := by omega
            have hb1 := hbnd (k + 1) (by omega)
            have hstep : num8 0 (t.take (k + 1)) = num8 0 (t.take k) * 256 + (t.getD k 0).toNat := by
              have hlk : k < t.length := by rw [HLEN.out]; exact hlt
              rw [List.take_succ_eq_append_getElem hlk, num8_append]
              simp [num8, List.getD_eq_getElem?_getD, List.getElem?_eq_getElem hlk]
            rw [hstep] at hb1
            have HST := hide hstep
            obtain ⟨x, hx⟩ : ∃ x, t.getD k 0 = x := ⟨_, rfl⟩
            obtain ⟨n, hn⟩ : ∃ n, num8 0 (t.take k) = n := ⟨_, rfl⟩
            rw [hn] at hb1 HST ⊢
            rw [hx] at hb1 hc2 HST
            have HOR := hide (or_low n x hb1)
            have HKI := hide hki
            clear hstep hx hn hread hbnd hki hrk
            go_wp2
            go_round
            case rel => exact ⟨i + 1, by omega, by omega, by go_num, by rw [HOR.out, ← HST.out, Nat.add_sub_cancel, HKI.out]⟩
            case measure => simp [intOf]; omega
          · have hcj : ¬ (i : Int) < (j : Int) + 1 := by omega
            obtain rfl : k = j := by omega
            subst hki
            have hfin : num8 0 (t.take k) = g := by rw [HGN.out, List.take_of_length_le (by rw [HLEN.out]; omega)]
            rw [hfin]
            clear hfin HGN HLEN hbnd hread
            by_cases hv : vsize g = k + 1
            · have hvi : ¬ (vsize g : Int) < (k : Int) + 1 := by omega
              obtain ⟨rfl, rfl, rfl⟩ := HV.out hv
              clear hv hsz
              go_wp2_with (first | (go_at_call 39; refine (hS _).mono ?_; rintro e w' ⟨rfl, rfl⟩))
              go_ret3
              exact ⟨by simp, HBd⟩
            · have hvi : (vsize g : Int) < (k : Int) + 1 := by omega
              obtain ⟨rfl, rfl, rfl⟩ := HW.out hv
              clear hv hsz
              go_wp2_with (first | (go_at_call 39; refine (hS _).mono ?_; rintro e w' ⟨rfl, rfl⟩))
              go_ret3
              exact ⟨rfl, HBd⟩
end Go.Proofs.Ytaonjbpaeloniaa
