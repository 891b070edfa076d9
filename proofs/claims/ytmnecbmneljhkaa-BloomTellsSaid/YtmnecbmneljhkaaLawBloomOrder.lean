/- The walk of BloomOrder. -/
import Derived.Test.YtmnecbmneljhkaaLawBloomOwn
import Derived.Test.YtmnecbmneljhkaaLawBloomEmpty
import Derived.Test.YtmnecbmneljhkaaBlP
namespace Go.Proofs.Ytmnecbmneljhkaa
open Go.RowKit Go.Shelf Go.Proofs.YtmnecbmneljhkaaW.PrintWords
set_option linter.unusedVariables false

theorem each_norm (each : Int) (h1 : -9223372036854775808 ≤ each) (h2 : each ≤ 9223372036854775807) : ∃ j : Nat, j < 16 ∧ (wrap64 (each.tmod 16 + 16)).tmod 16 = (j : Int) := by
  have hb : -15 ≤ each.tmod 16 ∧ each.tmod 16 ≤ 15 := by
    have h3 := Int.tmod_lt_of_pos each (show (0 : Int) < 16 by decide)
    have h4 : -16 < each.tmod 16 := Int.lt_tmod_of_pos each (by decide)
    omega
  have e1 : wrap64 (each.tmod 16 + 16) = each.tmod 16 + 16 := by unfold wrap64; omega
  rw [e1]
  have h5 := Int.tmod_lt_of_pos (each.tmod 16 + 16) (show (0 : Int) < 16 by decide)
  have h6 : 0 ≤ (each.tmod 16 + 16).tmod 16 := Int.tmod_nonneg _ (by omega)
  exact ⟨((each.tmod 16 + 16).tmod 16).toNat, by omega, by omega⟩
theorem rev_get (ks : List ByteArray) (k : Nat) (hk : k < ks.length) : ks.reverse.take (k + 1) = ks.reverse.take k ++ [ks.getD (ks.length - 1 - k) ByteArray.empty] := by
  have hk2 : k < ks.reverse.length := by rw [List.length_reverse]; exact hk
  rw [List.take_succ_eq_append_getElem hk2]
  congr 2
  rw [List.getElem_reverse, List.getD_eq_getElem?_getD, List.getElem?_eq_getElem (by omega)]
  rfl
set_option maxHeartbeats 1600000 in
theorem order_walk (A : Option Addr) (c : Nat) (ss : List ByteArray) (each : Int) (w : World) (hx : RdS w A c ss) (hss : ∀ s ∈ ss, s.size ≤ 140737488351232) (h0 : (Lit.int .i64 each).wf = true) :
    Calls Try.prog 5 #[.slice A ss.length c, .int .i64 each] w fun e w' => e = .returned (.bool true) ∧ Below w.heap.size w w' := by
  obtain ⟨e1, e2⟩ := i64_of each h0
  obtain ⟨j, hj16, hj⟩ := each_norm each e1 e2
  have hm := hx.max
  obtain ⟨k0, hk0⟩ : ∃ k0, Nat.min ss.length 100 = k0 := ⟨_, rfl⟩
  have hk1 : k0 ≤ ss.length := by rw [← hk0]; exact Nat.min_le_left _ _
  have hk2 : k0 ≤ 100 := by rw [← hk0]; exact Nat.min_le_right _ _
  have hsl : ∀ W, (Instr.slice 22 (.slice A ss.length c) none (some (.int .i64 (k0 : Int))) none).run Try.prog W = .ok (.slice A k0 c) W := fun W => slice_hi 22 9 Try.underlying22 (i := _) rfl rfl A ss.length c k0 (Nat.le_trans hk1 hx.1) W
  have hxk := hx.take k0 hk1
  have hks : ∀ s ∈ ss.take k0, s.size ≤ 140737488355328 := fun s hs => Nat.le_trans (hss s (List.mem_of_mem_take hs)) (by decide)
  have hlen : (ss.take k0).length = k0 := by rw [List.length_take]; omega
  obtain ⟨N, hN⟩ : ∃ N, ss.length = N := ⟨_, rfl⟩
  rw [hN] at hsl hk0 hm ⊢
  clear hN hx hss hk1
  generalize ss.take k0 = ks at *
  have hM := fun A c W (h : RdS W A c ks) => Make_any A c ks (1 + (j : Int)) hks W h
  have hM2 := fun A c W (h : RdS W A c ks.reverse) => Make_any A c ks.reverse (1 + (j : Int)) (fun s hs => hks s (List.mem_reverse.1 hs)) W h
  have hR := fun A c W (h : RdS W A c ks) => rMake_any A c ks (1 + (j : Int)) hks W h
  have hok : makeOk (1 + (j : Int)) k0 := ⟨by omega, by omega, by omega⟩
  have hE : makeE (1 + (j : Int)) k0 = 0 := by rw [makeE, if_neg (by omega), if_neg (by omega)]
  simp only [makeX_reverse, List.length_reverse] at hM2
  simp only [hlen, hE] at hM hM2 hR
  have hS := fun A B c d W (h : RdB W A c (makeX (1 + (j : Int)) ks)) (h' : RdB W B d (makeX (1 + (j : Int)) ks)) => same_any (makeK (1 + (j : Int)) k0) (makeK (1 + (j : Int)) k0) A B _ _ c d _ _ W rfl rfl h h'
  simp only [and_self, decide_true] at hS
  generalize makeK (1 + (j : Int)) k0 = K at *
  generalize makeX (1 + (j : Int)) ks = X at *
  obtain ⟨n, hn⟩ : ∃ n, X.length = n := ⟨_, rfl⟩
  simp only [hn] at hM hM2 hR hS
  have HL := hide hlen
  clear hn hlen hok hE hks
  unfold fil at *
  have hK0 := hide hk0
  clear hk0
  have hj1 : (j : Int) < 16 := by omega
  go_enter Try.func5, Try.ntmps5
  go_wp2_with (first | (go_at_call 20; refine (alive_any _).mono ?_; rintro e w1 ⟨rfl, HB1⟩; have hx1 := hxk.below HB1) | (refine wp_min2 rfl (.tmp 22) (.const (.int .i64 100)) 3 3 rfl .i64 N 100 rfl rfl ?_; rw [hK0.out]))
  go_loopw [5, 6] (fun v i wr => ∃ k : Nat, k ≤ k0 ∧ i = .int .i64 (k : Int) ∧ OwS wr w1.heap.size v (ks.reverse.take k) ∧ Below w1.heap.size w1 wr) (fun v i wr => k0 - (intOf i).toNat)
  case atStart => exact ⟨0, by omega, rfl, OwS.zero _ _, Below.refl _ _⟩
  case round =>
    obtain ⟨k, hk, rfl, HO, HB⟩ := hrel
    by_cases hlt : k < k0
    · obtain ⟨q, hq⟩ : ∃ q, k0 - 1 - k = q := ⟨_, rfl⟩
      have hq0 : q < k0 := by omega
      have hrev := rev_get ks k (by rw [HL.out]; exact hlt)
      rw [HL.out, hq] at hrev
      obtain ⟨ad, rfl, hcell⟩ := (hx1.below HB).at_ q (by rw [HL.out]; exact hq0)
      generalize ks.getD q ByteArray.empty = y at *
      have HREV := hide hrev
      have hqi : (k0 : Int) - 1 - (k : Int) = (q : Int) := by omega
      have hq1 : (q : Int) < (k0 : Int) := by omega
      have hki : (k : Int) < (k0 : Int) := by omega
      have hlk : (ks.reverse.take k).length + 1 ≤ 8796093022208 := by rw [List.length_take]; omega
      clear hrev hq
      go_wp2_with (first | (at_builtin; refine app_str (w0 := w1) w1.heap.size rfl (.tmp 31) (.tmp 40) rfl _ (ks.reverse.take k) y rfl rfl HO HB HB.size hlk ?_; intro v2 w2 HO2 HB2 hg2 hat2))
      go_roundw
      case rel => exact ⟨k + 1, by omega, by go_num, by rw [HREV.out]; exact HO2, HB2⟩
      case measure => simp [intOf]; omega
    · obtain rfl : k = k0 := by omega
      have hall : ks.reverse.take k = ks.reverse := List.take_of_length_le (by rw [List.length_reverse, HL.out]; exact Nat.le_refl _)
      rw [hall] at HO
      obtain ⟨A2, c2, hv2, hr2⟩ := HO.rd
      rw [List.length_reverse, HL.out] at hv2
      subst hv2
      have hx2 := hx1.below HB
      have B0 := HB1.trans (HB.mono HB1.size)
      clear HO hall
      go_wp2_with (first | (go_at_call 11; (with_reducible refine (hM _ _ _ hx2).mono ?_); rintro e w3 ⟨A3, c3, rfl, HO3, HB3⟩; have b3 := below_alloc w3 (.cells #[.int .i64 K, .slice A3 n c3] 27); have X3 := Bx.new w3 K (.slice A3 n c3) 27; replace HO3 := HO3.below b3; replace hr2 := (hr2.below HB3).below b3; replace hx2 := (hx2.below HB3).below b3; replace B0 := (B0.trans (HB3.mono B0.size)).alloc (B0.trans (HB3.mono B0.size)).size (.cells #[.int .i64 K, .slice A3 n c3] 27)) | (go_at_call 11; (with_reducible refine (hM2 _ _ _ hr2).mono ?_); rintro e w4 ⟨A4, c4, rfl, HO4, HB4⟩; have b4 := below_alloc w4 (.cells #[.int .i64 K, .slice A4 n c4] 27); have X4 := Bx.new w4 K (.slice A4 n c4) 27; replace HO4 := HO4.below b4; replace HO3 := (HO3.below HB4).below b4; replace X3 := (X3.below HB4).below b4; replace hx2 := (hx2.below HB4).below b4; replace B0 := (B0.trans (HB4.mono B0.size)).alloc (B0.trans (HB4.mono B0.size)).size (.cells #[.int .i64 K, .slice A4 n c4] 27)) | (go_at_call 12; (with_reducible refine (hR _ _ _ hx2).mono ?_); rintro e w5 ⟨A5, c5, rfl, HO5, HB5⟩; have b5 := below_alloc w5 (.cells #[.int .i64 K, .slice A5 n c5] 25); have X5 := Bx.new w5 K (.slice A5 n c5) 25; replace HO5 := HO5.below b5; replace HO3 := (HO3.below HB5).below b5; replace HO4 := (HO4.below HB5).below b5; replace X3 := (X3.below HB5).below b5; replace X4 := (X4.below HB5).below b5; replace B0 := (B0.trans (HB5.mono B0.size)).alloc (B0.trans (HB5.mono B0.size)).size (.cells #[.int .i64 K, .slice A5 n c5] 25); obtain ⟨p0, p1, p2, p3⟩ := X3.read; obtain ⟨q0, q1, q2, q3⟩ := X4.read; obtain ⟨r0, r1, r2, r3⟩ := X5.read) | (go_at_call 18; refine (num_any _ _).mono ?_; rintro e w' ⟨rfl, rfl⟩) | (go_at_call 17; (with_reducible refine (hS _ _ _ _ _ HO3.rdl HO5.rdl).mono ?_); rintro e w6 ⟨rfl, HB6⟩; replace HO4 := HO4.below HB6; replace HO5 := HO5.below HB6; replace X4 := X4.below HB6; replace X5 := X5.below HB6; replace B0 := B0.trans (HB6.mono B0.size); obtain ⟨q0, q1, q2, q3⟩ := X4.read; obtain ⟨r0, r1, r2, r3⟩ := X5.read) | (go_at_call 17; (with_reducible refine (hS _ _ _ _ _ HO4.rdl HO5.rdl).mono ?_); rintro e w7 ⟨rfl, HB7⟩; replace B0 := B0.trans (HB7.mono B0.size)))
      go_ret
      exact ⟨rfl, B0⟩
end Go.Proofs.Ytmnecbmneljhkaa
