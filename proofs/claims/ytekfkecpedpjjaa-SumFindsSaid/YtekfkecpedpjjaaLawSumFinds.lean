/- The walk of SumFinds. -/
import Derived.Test.YtekfkecpedpjjaaLawSumGoesOn
import Derived.Test.YtekfkecpedpjjaaSumF
import Derived.StillTailTactics
namespace Go.Proofs.Ytekfkecpedpjjaa
open Go.RowKit Go.Proofs.YtekfkecpedpjjaaW.PrintWords
set_option linter.unusedVariables false

set_option maxHeartbeats 800000 in
theorem finds_walk (A : Option Addr) (ca : Nat) (xs : List UInt8) (a1 a2 : Int) (w : World) (hx : RdB w A ca xs) (lx : xs.length ≤ 140737488351232) (h1 : (Lit.int .i64 a1).wf = true) (h2 : (Lit.int .u32 a2).wf = true) :
    Calls Try.prog 7 #[.slice A xs.length ca, .int .i64 a1, .int .u32 a2] w fun e w' => e = .returned (.bool true) ∧ Below w.heap.size w w' := by
  obtain ⟨c, rfl⟩ := u32_of a2 h2
  have hb1 : -9223372036854775808 ≤ a1 ∧ a1 ≤ 9223372036854775807 := by simpa [Lit.wf, IntKind.min, IntKind.max, IntKind.signed, IntKind.bits] using h1
  clear h1 h2
  have hlen := guarded_length xs
  have hst := Turned.start c
  have lx4 : xs.length + 4 ≤ 140737488355328 := by omega
  by_cases hc0 : c = 0#32
  · subst hc0
    go_enter Try.func7, Try.ntmps7
    go_wp2_with (first | (go_at_call 9; refine (alive_any _).mono ?_; rintro e w1 ⟨rfl, HB1⟩) | (go_at_call 18; refine (Guard_any _ _ _ _ (hx.below HB1) lx4).mono ?_; rintro e w2 ⟨v2, rfl, HO2, HB2⟩; obtain ⟨A2, c2, rfl, hr2⟩ := HO2.rd; rw [hlen]))
    go_ret
    exact ⟨by simp, HB1.trans (HB2.mono HB1.size)⟩
  · have hcn : ¬ (c.toNat : Int) = 0 := fun e => hc0 (by apply BitVec.eq_of_toNat_eq; simp; omega)
    obtain ⟨m, hm, hmn⟩ : ∃ m : Nat, m + 32 ≤ 8 * (xs.length + 4) ∧ (wrap64 (a1.tmod (8 * (xs.length : Int) + 1) + (8 * (xs.length : Int) + 1))).tmod (8 * (xs.length : Int) + 1) = (m : Int) := by
      have hp : 0 < 8 * (xs.length : Int) + 1 := by omega
      have t1 := Int.tmod_lt_of_pos a1 hp
      have t2 := Int.lt_tmod_of_pos a1 hp
      have hw : wrap64 (a1.tmod (8 * (xs.length : Int) + 1) + (8 * (xs.length : Int) + 1)) = a1.tmod (8 * (xs.length : Int) + 1) + (8 * (xs.length : Int) + 1) := by
        unfold wrap64
        omega
      rw [hw]
      have t3 := Int.tmod_lt_of_pos (a1.tmod (8 * (xs.length : Int) + 1) + (8 * (xs.length : Int) + 1)) hp
      have t4 := Int.tmod_nonneg (8 * (xs.length : Int) + 1) (a := a1.tmod (8 * (xs.length : Int) + 1) + (8 * (xs.length : Int) + 1)) (by omega)
      refine ⟨((a1.tmod (8 * (xs.length : Int) + 1) + (8 * (xs.length : Int) + 1)).tmod (8 * (xs.length : Int) + 1)).toNat, by omega, by omega⟩
    have HM := hide hmn
    clear hmn
    go_enter Try.func7, Try.ntmps7
    go_wp2_with (first | (go_at_call 9; refine (alive_any _).mono ?_; rintro e w1 ⟨rfl, HB1⟩) | (go_at_call 18; refine (Guard_any _ _ _ _ (hx.below HB1) lx4).mono ?_; rintro e w2 ⟨v2, rfl, HO2, HB2⟩; obtain ⟨A2, c2, rfl, hr2⟩ := HO2.rd; rw [hlen]))
    have hbq : ((c.toNat : Int) == 0) = false := by simpa using hcn
    rw [HM.out, hbq]
    clear hbq
    go_loopw [9] (fun i wr => ∃ (k : Nat) (l : List UInt8), k ≤ 32 ∧ i = .int .i64 k ∧ l.length = xs.length + 4 ∧ OwB wr w.heap.size (.slice A2 (xs.length + 4) c2) l ∧ Turned c m k l ∧ Below w.heap.size w wr) (fun i _ => 32 - (intOf i).toNat)
    case atStart => exact ⟨0, guarded xs, by omega, rfl, hlen, by rw [hlen] at HO2; exact HO2.lower HB1.size, hst m xs, HB1.trans (HB2.mono HB1.size)⟩
    case round =>
      obtain ⟨k, l, hk, rfl, hl, HO, HT, HB⟩ := hrel
      by_cases hlt : k < 32
      · have hbi := turn_int c k hlt
        by_cases hb : c.getLsbD (31 - k) = true
        · rw [if_pos hb] at hbi
          have hT := HT.yes hlt (by omega) hb
          have HBd : Below w.heap.size w wr.drew := HB.drew
          have HOd : OwB wr.drew w.heap.size (.slice A2 (xs.length + 4) c2) l := HO.below (Below.refl _ _).drew
          obtain ⟨p, hp⟩ : ∃ p, m + k = p := ⟨_, rfl⟩
          obtain ⟨q, hq⟩ : ∃ q, p / 8 = q := ⟨_, rfl⟩
          obtain ⟨r, hr⟩ : ∃ r, p % 8 = r := ⟨_, rfl⟩
          have hw1 : IntKind.i64.wrap ((m : Int) + (k : Int)) = (p : Int) := by rw [IntKind.wrap_i64]; omega
          have hw2 : IntKind.i64.wrap ((p : Int) / 8) = (q : Int) := by rw [IntKind.wrap_i64]; omega
          have hw3 : (p : Int).tmod 8 = (r : Int) := by rw [Int.tmod_eq_emod_of_nonneg (by omega)]; omega
          have hr80 : (r : Int) ≤ 64 := by omega
          rw [hp, hq] at hT
          have hql : q < l.length := by omega
          have hq4 : q < xs.length + 4 := by omega
          have hr8 : r < 8 := by omega
          have hq4i : (q : Int) < (xs.length : Int) + 4 := by omega
          obtain ⟨g, cap, hv, hgb, hgl, hcell, hfr, hset⟩ := HOd.set_ q hql
          obtain ⟨rfl, rfl⟩ : some ⟨g, 0, none⟩ = A2 ∧ cap = c2 := by injection hv with h1 _ h3; exact ⟨h1.symm, h3.symm⟩
          obtain ⟨HS, HG⟩ := hset (l.getD q 0 ^^^ mask p)
          have hHS := hide HS
          have hHG := hide HG
          have hcd : wr.cell? ⟨g, q, none⟩ = some (.int .u8 ((l.getD q 0).toNat : Int)) := hcell
          have HX : Hid (bits .xor .u8 ((l.getD q 0).toNat : Int) ((128 : Int) / 2 ^ r) = ((l.getD q 0 ^^^ mask p).toNat : Int)) := by rw [mask_int p r hr]; exact xor_u8 (l.getD q 0) (mask p)
          have hT2 := hide hT
          have hl2 := hide hl
          have hp2 := hide hp
          have hq2 := hide hq
          have hr2 := hide hr
          clear hT hset HS HG hv hl HO hp hq hr hql
          generalize l.getD q 0 = x at *
          go_wp2
          go_still_tail 14, (by kernel_rfl)
          change wpList _ _ _ _ _ wr.drew
          generalize wr.drew = wd at *
          go_wp2
          go_roundw
          case rel => exact ⟨k + 1, _, by omega, by go_num, by rw [List.length_set]; exact hl2.out, by rw [HX.out]; exact hHS.out, hT2.out, by rw [HX.out]; exact HBd.grown hHG.out HBd.size (by simpa using hgb)⟩
          case measure => simp [intOf]; omega
        · rw [if_neg hb] at hbi
          have hT2 := hide (HT.no hlt (by omega) (by simpa using hb))
          go_wp2
          go_roundw
          case rel => exact ⟨k + 1, l, by omega, by go_num, hl, HO, hT2.out, HB⟩
          case measure => simp [intOf]; omega
      · obtain rfl : k = 32 := by omega
        obtain ⟨hN, hR⟩ := HT.told (by omega) hc0
        obtain ⟨A3, c3, hv, hr3⟩ := HO.rd
        rw [hl] at hv
        obtain ⟨rfl, rfl⟩ : A3 = A2 ∧ c3 = c2 := by injection hv with h1 _ h3; exact ⟨h1.symm, h3.symm⟩
        have hB := Bare_all _ _ _ _ hr3 (by omega)
        rw [hl, hN, hR] at hB
        clear hv hl hr3 HO HT hN hR
        go_wp2_with (first | (go_at_call 13; refine hB.mono ?_; rintro e w3 ⟨v3, rfl, HO3, HB3⟩; obtain ⟨A3, c3, rfl, hr3⟩ := HO3.rd) | (go_at_call 20; refine (num_any _ _).mono ?_; rintro e w4 ⟨rfl, rfl⟩))
        go_ret
        exact ⟨rfl, HB.trans (HB3.mono HB.size)⟩
end Go.Proofs.Ytekfkecpedpjjaa
