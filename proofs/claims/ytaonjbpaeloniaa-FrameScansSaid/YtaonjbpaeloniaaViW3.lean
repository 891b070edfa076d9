/- The walks of Get of numbers as octets, and the reference's. -/
import Derived.Test.YtaonjbpaeloniaaViW2
namespace Go.Proofs.Ytaonjbpaeloniaa
open Go.RowKit Go.Proofs.YtaonjbpaeloniaaW.PrintWords
set_option linter.unusedVariables false

def gN (b : List UInt8) : Nat := if getErr b = 0 then getNum b else 0
def gK (b : List UInt8) : Nat := if getErr b = 0 then ones8 (oct0 b) + 1 else 0
theorem or_low (a : Nat) (x : UInt8) (h : a * 256 + x.toNat < 18446744073709551616) : bits .or .u64 ((a : Int) * 256) (x.toNat : Int) = ((a * 256 + x.toNat : Nat) : Int) := by
  have hx := x.toNat_lt
  have e : (a : Int) * 256 = ((a * 256 : Nat) : Int) := by omega
  have h1 : a * 256 < 18446744073709551616 := Nat.lt_of_le_of_lt (Nat.le_add_right _ _) h
  have h2 : x.toNat < 18446744073709551616 := Nat.lt_of_lt_of_le hx (by decide)
  rw [e, u64_or_nat (a * 256) x.toNat h1 h2]
  congr 1
  have := Nat.shiftLeft_add_eq_or_of_lt (i := 8) (b := x.toNat) (by omega) a
  rw [Nat.shiftLeft_eq] at this
  exact this.symm
theorem room_pow (k i : Nat) (h1 : 1 ≤ k) (h9 : k ≤ 9) (hi : i ≤ k - 1) : room k * 256 ^ i ≤ 18446744073709551616 := by
  have h : ∀ k : Fin 10, ∀ i : Fin 10, 1 ≤ k.val → i.val ≤ k.val - 1 → room k.val * 256 ^ i.val ≤ 18446744073709551616 := by decide
  exact h ⟨k, by omega⟩ ⟨i, by omega⟩ h1 hi
theorem num8_lt (h r : Nat) (l : List UInt8) (hr : h < r) : num8 h l < r * 256 ^ l.length := by
  have hs := num8_split h l
  have h2 : (h + 1) * 256 ^ l.length ≤ r * 256 ^ l.length := Nat.mul_le_mul_right _ hr
  rw [Nat.add_mul, Nat.one_mul] at h2
  omega
theorem ones_bit (c : UInt8) (n : Nat) (hn : n < 8) (h : n ≤ ones8 c) : bits .and .u8 ((c.toNat : Int) / 2 ^ (7 - n)) 1 = if n + 1 ≤ ones8 c then 1 else 0 := by
  have hh : ∀ c : Fin 256, ∀ n : Fin 8, n.val ≤ ones8 (UInt8.ofNat c.val) → bits .and .u8 (((UInt8.ofNat c.val).toNat : Int) / 2 ^ (7 - n.val)) 1 = if n.val + 1 ≤ ones8 (UInt8.ofNat c.val) then 1 else 0 := by decide +kernel
  have := hh ⟨c.toNat, c.toNat_lt⟩ ⟨n, hn⟩
  simp only [UInt8.ofNat_toNat] at this
  exact this h
theorem ones_any (c : UInt8) (w : World) : Calls Try.prog 41 #[.int .u8 (c.toNat : Int)] w fun e w' => e = .returned (.int .i64 (ones8 c : Int)) ∧ w = w' := by
  have h8 := ones8_le c
  go_enter Try.func41, Try.ntmps41
  go_wp2
  go_loop [3] (fun i => ∃ k : Nat, k ≤ ones8 c ∧ i = .int .i64 k) (fun i => 10 - (intOf i).toNat)
  case atStart => exact ⟨0, by omega, rfl⟩
  case round =>
    obtain ⟨k, hk, rfl⟩ := hrel
    by_cases hlt : k < 8
    · have hb := ones_bit c k hlt hk
      have h7 : (7 - (k : Int)).toNat = 7 - k := by omega
      by_cases h1 : k + 1 ≤ ones8 c
      · rw [if_pos h1] at hb
        go_wp2
        go_round
        case rel => exact ⟨k + 1, h1, by go_num⟩
        case measure => simp [intOf]; omega
      · rw [if_neg h1] at hb
        have he : ones8 c = k := by omega
        rw [he]
        go_wp2
        go_ret
        exact ⟨rfl, rfl⟩
    · obtain he : ones8 c = 8 := by omega
      obtain rfl : k = 8 := by omega
      rw [he]
      go_wp2
      go_ret
      exact ⟨rfl, rfl⟩
theorem ones_not (b : UInt8) (w : World) : Calls Try.prog 38 #[.int .u8 ((~~~b).toNat : Int)] w fun e w' => e = .returned (.int .i64 (ones8 b : Int)) ∧ w = w' := by
  refine (bits_LeadingZeros8 ((~~~b).toNat : Int) w (by omega) (by have := (~~~b).toNat_lt; omega)).mono ?_
  rintro e w' ⟨rfl, rfl⟩
  refine ⟨?_, rfl⟩
  have hh : ∀ c : Fin 256, (8 - (Lib.bitLen (((~~~(UInt8.ofNat c.val)).toNat : Int)).toNat : Int)) = (ones8 (UInt8.ofNat c.val) : Int) := by decide +kernel
  have := hh ⟨b.toNat, b.toNat_lt⟩
  simp only [UInt8.ofNat_toNat] at this
  rw [this]
theorem mask_int (b : UInt8) (k : Nat) (h1 : 1 ≤ k) (h9 : k ≤ 9) : bits .and .u8 (b.toNat : Int) ((255 : Int) / 2 ^ k) = ((b &&& mask8 k).toNat : Int) := by
  have hk : ∀ j : Fin 10, ((255 : Int) / 2 ^ j.val) = ((mask8 j.val).toNat : Int) := by decide +kernel
  rw [hk ⟨k, by omega⟩, and_u8]
set_option maxRecDepth 100000 in
set_option maxHeartbeats 800000 in
theorem Get_any (A : Option Addr) (c : Nat) (b : List UInt8) (w : World) (hr : RdB w A c b) :
    Calls Try.prog 25 #[.slice A b.length c] w fun e w' => e = .returned (.tuple #[.int .u64 (gN b : Int), .int .i64 (gK b : Int), .int .i64 (getErr b : Int)]) ∧ Below w.heap.size w w' := by
  cases b with
  | nil =>
    have e1 : gN [] = 0 := by decide
    have e2 : gK [] = 0 := by decide
    rw [e1, e2, getErr_nil]
    go_enter Try.func25, Try.ntmps25
    go_wp2
    go_ret3
    exact ⟨rfl, Below.refl _ _⟩
  | cons b0 l =>
    have hk9 : ones8 b0 + 1 ≤ 9 := by have := ones8_le b0; omega
    obtain ⟨ad, rfl, hcell⟩ := hr.at_ 0 (by simp)
    have hne : ¬ (b0 :: l).length = 0 := by simp
    obtain ⟨b, hb⟩ : ∃ b, b0 :: l = b := ⟨_, rfl⟩
    have ho : oct0 b = b0 := by rw [← hb]; rfl
    have hg0 : b.getD 0 0 = b0 := by rw [← hb]; rfl
    rw [hb] at hr hcell hne ⊢
    rw [hg0] at hcell
    obtain ⟨j, hj⟩ : ∃ j, ones8 b0 = j := ⟨_, rfl⟩
    have hO := ones_not b0
    rw [hj] at hO hk9
    have hz : ad.add 0 = ad := by cases ad; simp [Addr.add]
    rw [hz] at hcell
    have hN := hide (not_u8 b0)
    have HO0 := hide ho
    clear hz ho hb hg0
    by_cases hs : b.length < j + 1
    · have e0 : getErr b = 8 := by rw [getErr, HO0.out, hj, if_pos hs]
      have e1 : gN b = 0 := by rw [gN, e0]; rfl
      have e2 : gK b = 0 := by rw [gK, e0]; rfl
      rw [e0, e1, e2]
      clear e0 e1 e2 hj
      have hsi : (b.length : Int) < 1 + (j : Int) := by omega
      go_enter Try.func25, Try.ntmps25
      go_wp2_with (first | (go_at_call 38; rw [hN.out]; refine (hO _).mono ?_; rintro e w' ⟨rfl, rfl⟩))
      go_ret3
      exact ⟨rfl, Below.refl _ _⟩
    · have hlen : ((b.take (j + 1)).drop 1).length = j := by simp; omega
      have hbk := back8 b0
      have hrj := (hr.take (j + 1) (by omega)).drop 1 (by simp; omega)
      have hgn : getNum b = num8 ((b0 &&& mask8 (j + 1)).toNat) ((b.take (j + 1)).drop 1) := by rw [getNum, HO0.out, hj]
      obtain ⟨t, ht⟩ : ∃ t, (b.take (j + 1)).drop 1 = t := ⟨_, rfl⟩
      rw [ht] at hlen hrj hgn
      rw [hj] at hbk
      have hgE : getErr b = if vsize (getNum b) = j + 1 then 0 else 4 := by rw [getErr, HO0.out, hj, if_neg hs]
      have hsz := getNum_room b (by rw [HO0.out, hj]; omega)
      rw [HO0.out, hj] at hsz
      have hM := hide (mask_int b0 (j + 1) (by omega) hk9)
      obtain ⟨h0, hh0⟩ : ∃ h0, (b0 &&& mask8 (j + 1)).toNat = h0 := ⟨_, rfl⟩
      have hroom := hbk.2
      rw [hh0] at hgn hroom
      have hh0' : h0 < 256 := by rw [← hh0]; exact UInt8.toNat_lt _
      have hM1 : bits .and .u8 (b0.toNat : Int) ((255 : Int) / 2 ^ min (1 + j) 8) = (h0 : Int) := by
        have hm : (255 : Int) / 2 ^ min (1 + j) 8 = (255 : Int) / 2 ^ (j + 1) := by
          have hd : ∀ j : Fin 9, (255 : Int) / 2 ^ min (1 + j.val) 8 = (255 : Int) / 2 ^ (j.val + 1) := by decide
          exact hd ⟨j, by omega⟩
        rw [hm, hM.out, hh0]
      have hwr : IntKind.u64.wrap (h0 : Int) = (h0 : Int) := by rw [IntKind.wrap_u64]; omega
      have hbnd : ∀ i, i ≤ j → num8 h0 (t.take i) < 18446744073709551616 := fun i hi => by
        have h1 := num8_lt h0 _ (t.take i) hroom
        have h2 := room_pow (j + 1) i (by omega) hk9 (by omega)
        have h3 : (t.take i).length = i := by simp; omega
        rw [h3] at h1
        exact Nat.lt_of_lt_of_le h1 h2
      have hK : gN b = (if vsize (getNum b) = j + 1 then getNum b else 0) ∧ gK b = (if vsize (getNum b) = j + 1 then j + 1 else 0) := by
        constructor
        · rw [gN, hgE]; by_cases h : vsize (getNum b) = j + 1 <;> simp [h]
        · rw [gK, hgE, HO0.out, hj]; by_cases h : vsize (getNum b) = j + 1 <;> simp [h]
      have hgl : getNum b < 18446744073709551616 := by have := hbnd j (Nat.le_refl _); rwa [List.take_of_length_le (by omega), ← hgn] at this
      obtain ⟨g, hg⟩ : ∃ g, getNum b = g := ⟨_, rfl⟩
      rw [hg] at hgn hsz hgl hK hgE
      have HV : Hid (vsize g = j + 1 → gN b = g ∧ gK b = j + 1 ∧ getErr b = 0) := fun h => by rw [hK.1, hK.2, hgE, if_pos h, if_pos h, if_pos h]; exact ⟨rfl, rfl, rfl⟩
      have HW : Hid (¬ vsize g = j + 1 → gN b = 0 ∧ gK b = 0 ∧ getErr b = 4) := fun h => by rw [hK.1, hK.2, hgE, if_neg h, if_neg h, if_neg h]; exact ⟨rfl, rfl, rfl⟩
      generalize gN b = N0 at *
      generalize gK b = K0 at *
      generalize getErr b = E0 at *
      have hsl : ∀ W, (Instr.slice 22 (.slice (some ad) b.length c) (some (.int .i64 1)) (some (.int .i64 (1 + (j : Int)))) none).run Try.prog W = .ok (.slice (cutA (some ad) c 1) j (c - 1)) W := fun W => by
        have h := slice_lohi 22 5 Try.underlying22 (i := _) rfl rfl (some ad) b.length c 1 (j + 1) (by omega) (by have := hr.le; omega) W
        rw [show ((j + 1 : Nat) : Int) = 1 + (j : Int) by omega, Nat.add_sub_cancel] at h
        exact h
      have hsi : ¬ (b.length : Int) < 1 + (j : Int) := by omega
      have hj9 : (j : Int) ≤ 8 := by omega
      have hj64 : 1 + (j : Int) ≤ 64 := by omega
      have hj10 : 0 ≤ 1 + (j : Int) := by omega
      have hpos : 0 < b.length := by omega
      have hjt : (1 + (j : Int)).toNat = 1 + j := by omega
      have HGN := hide hgn
      have HLEN := hide hlen
      have hS := Size_any g hgl
      generalize cutA (some ad) c 1 = C at *
      clear hK hgE hgn hh0 hM hbk hj ht hlen HO0 hg
      go_enter Try.func25, Try.ntmps25
      go_wp2_with (first | (go_at_call 38; rw [hN.out]; refine (hO _).mono ?_; rintro e w' ⟨rfl, rfl⟩))
      refine wp_region_still_lit (by kernel_rfl) (by kernel_rfl) ?_
      repeat still_step
      refine wpStill_nil ?_
      change Exit.then _ _ _ _ w.drew
      have hrj2 : RdB w.drew C (c - 1) t := hrj.below (Below.refl _ _).drew
      go_wp2
      have HBd : Below w.heap.size w w.drew := (Below.refl _ _).drew
      generalize w.drew = wd at *
      generalize decide ((b.length : Int) < 1 + (j : Int)) = b21
      generalize (255 : Int) / 2 ^ min (1 + j) 8 = x26
      go_loop [6, 33] (fun n i => ∃ k : Nat, k ≤ j ∧ i = .int .i64 (k : Int) ∧ n = .int .u64 ((num8 h0 (t.take k) : Nat) : Int)) (fun _ i => j - (intOf i).toNat)
      case atStart => exact ⟨0, by omega, rfl, rfl⟩
      case round =>
        obtain ⟨k, hk, rfl, rfl⟩ := hrel
        by_cases hlt : k < j
        · obtain ⟨ad2, rfl, hc2⟩ := hrj2.at_ k (by rw [HLEN.out]; exact hlt)
          have hb1 := hbnd (k + 1) (by omega)
          have hstep : num8 h0 (t.take (k + 1)) = num8 h0 (t.take k) * 256 + (t.getD k 0).toNat := by
            have hlk : k < t.length := by rw [HLEN.out]; exact hlt
            rw [List.take_succ_eq_append_getElem hlk, num8_append]
            simp [num8, List.getD_eq_getElem?_getD, List.getElem?_eq_getElem hlk]
          rw [hstep] at hb1
          have HST := hide hstep
          obtain ⟨x, hx⟩ : ∃ x, t.getD k 0 = x := ⟨_, rfl⟩
          obtain ⟨n, hn⟩ : ∃ n, num8 h0 (t.take k) = n := ⟨_, rfl⟩
          rw [hn] at hb1 HST ⊢
          rw [hx] at hb1 hc2 HST
          have HOR := hide (or_low n x hb1)
          clear hstep hx hn
          go_wp2
          go_round
          case rel => exact ⟨k + 1, by omega, by go_num, by rw [HOR.out, HST.out]⟩
          case measure => simp [intOf]; omega
        · obtain rfl : k = j := by omega
          have hfin : num8 h0 (t.take k) = g := by rw [HGN.out, List.take_of_length_le (by rw [HLEN.out]; omega)]
          rw [hfin]
          clear hfin HGN HLEN hsl hbnd
          by_cases hv : vsize g = k + 1
          · have hvi : (vsize g : Int) = 1 + (k : Int) := by omega
            obtain ⟨rfl, rfl, rfl⟩ := HV.out hv
            clear hv hsz
            go_wp2_with (first | (go_at_call 37; refine (hS _).mono ?_; rintro e w' ⟨rfl, rfl⟩))
            go_ret3
            exact ⟨by simp; omega, HBd⟩
          · have hvi : ¬ (vsize g : Int) = 1 + (k : Int) := by omega
            obtain ⟨rfl, rfl, rfl⟩ := HW.out hv
            clear hv hsz
            go_wp2_with (first | (go_at_call 37; refine (hS _).mono ?_; rintro e w' ⟨rfl, rfl⟩))
            go_ret3
            exact ⟨rfl, HBd⟩
end Go.Proofs.Ytaonjbpaeloniaa
