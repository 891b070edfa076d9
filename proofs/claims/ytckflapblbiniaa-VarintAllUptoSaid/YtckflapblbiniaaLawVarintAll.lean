/- The walk of VarintAll. -/
import Derived.Test.YtckflapblbiniaaViA
namespace Go.Proofs.Ytckflapblbiniaa
open Go.RowKit Go.Proofs.YtckflapblbiniaaW.PrintWords
set_option linter.unusedVariables false

theorem allA_put (ns : List Nat) (hn : ∀ z ∈ ns, z < 18446744073709551616) (f : Nat) (acc : List Nat) (hf : (ns.flatMap put).length ≤ f) : allA f acc (ns.flatMap put) = (acc ++ ns, 0) := by
  induction ns generalizing f acc with
  | nil => rw [List.flatMap_nil, allA_nil f acc [] rfl, List.append_nil]
  | cons z r ih =>
    have hz := hn z (List.mem_cons_self ..)
    rw [List.flatMap_cons] at hf ⊢
    have hp := put_length z
    have hv := vsize_pos z
    rw [List.length_append, hp] at hf
    obtain ⟨g, rfl⟩ : ∃ g, f = g + 1 := ⟨f - 1, by omega⟩
    obtain ⟨q1, q2, q3⟩ := get_put z hz (r.flatMap put)
    have hN : gN (put z ++ r.flatMap put) = z := by rw [gN, if_pos q1, q2]
    have hK : gK (put z ++ r.flatMap put) = (put z).length := by rw [gK, if_pos q1, q3, hp]
    rw [allA, if_neg (by rw [List.length_append, hp]; omega), if_pos q1, hN, hK, List.drop_left, ih (fun y hy => hn y (List.mem_cons_of_mem _ hy)) g _ (by omega), List.append_assoc]
    rfl
theorem all_put (ns : List Nat) (hn : ∀ z ∈ ns, z < 18446744073709551616) : allN (ns.flatMap put) = ns ∧ allE (ns.flatMap put) = 0 := by
  rw [allN, allE, allA_put ns hn _ [] (Nat.le_refl _)]
  exact ⟨rfl, rfl⟩
theorem flat_len (ns : List Nat) : (ns.flatMap put).length ≤ 9 * ns.length := by
  induction ns with
  | nil => simp
  | cons z r ih =>
    rw [List.flatMap_cons, List.length_append, put_length, List.length_cons]
    have := vsize_le z
    omega
theorem flat_take (ns : List Nat) (k : Nat) (hk : k < ns.length) : (ns.take (k + 1)).flatMap put = (ns.take k).flatMap put ++ put (ns.getD k 0) := by
  rw [List.take_succ_eq_append_getElem hk, List.flatMap_append, List.getD_eq_getElem?_getD, List.getElem?_eq_getElem hk]
  simp
theorem allN_len (f : Nat) (acc : List Nat) (b : List UInt8) : (allA f acc b).1.length ≤ acc.length + b.length := by
  induction f generalizing acc b with
  | zero => exact Nat.le_add_right _ _
  | succ f ih =>
    rw [allA]
    split
    · exact Nat.le_add_right _ _
    · split
      · next h0 he =>
        have := ih (acc ++ [gN b]) (b.drop (gK b))
        obtain ⟨h1, h2⟩ := gK_pos b he
        rw [List.length_append, List.length_drop, List.length_singleton] at this
        omega
      · simp
set_option maxHeartbeats 4000000 in
theorem all_walk (A : Option Addr) (ca : Nat) (xs : List UInt8) (B : Option Addr) (cb : Nat) (ns : List Nat) (w : World) (hx : RdB w A ca xs) (lx : xs.length ≤ 1048576) (hy : RdN w B cb ns) (ly : ns.length ≤ 1048576 ∧ ∀ z ∈ ns, z < 18446744073709551616) :
    Calls Try.prog 8 #[.slice A xs.length ca, .slice B ns.length cb] w fun e w' => e = .returned (.bool true) ∧ Below w.heap.size w w' := by
  have hA := fun A c W (h : RdB W A c xs) => All_any A c xs W h (by omega)
  have hR := fun A c W (h : RdB W A c xs) => rAll_any A c xs W h (by omega)
  have hZl : (ns.flatMap put).length ≤ 17592186044416 := Nat.le_trans (flat_len ns) (by omega)
  have hZ := fun A c W (h : RdB W A c (ns.flatMap put)) => All_any A c (ns.flatMap put) W h hZl
  obtain ⟨z1, z2⟩ := all_put ns ly.2
  rw [z1, z2] at hZ
  have hC := fun W (h : RdB W A ca xs) => CopyBytes_any A ca xs W h (by omega)
  have hS := fun A B c d W (h : RdB W A c xs) (h' : RdB W B d xs) => SameBytes_any A B c d xs xs W h h'
  simp only [decide_true] at hS
  have hNl : (allN xs).length ≤ 1048576 := Nat.le_trans (allN_len _ _ _) (by simpa using lx)
  generalize allN xs = X at *
  generalize allE xs = E at *
  obtain ⟨m, hm⟩ : ∃ m, xs.length = m := ⟨_, rfl⟩
  obtain ⟨n, hn⟩ : ∃ n, ns.length = n := ⟨_, rfl⟩
  obtain ⟨q, hq⟩ : ∃ q, X.length = q := ⟨_, rfl⟩
  obtain ⟨t, ht⟩ : ∃ t, (ns.flatMap put).length = t := ⟨_, rfl⟩
  rw [hq] at hNl
  rw [hn] at ly
  simp only [hm, ht] at hA hR hZ hC hS
  rw [hm, hn]
  have HM := hide hm
  have HN := hide hn
  have HQ := hide hq
  have HT := hide ht
  obtain ⟨ly, lz⟩ := ly
  clear hm hn hq ht lx z1 z2 hZl
  go_enter Try.func8, Try.ntmps8
  go_wp2_with (first | (go_at_call 12; refine (hC _ hx).mono ?_; rintro e w1 ⟨v1, rfl, HO1, B0⟩; obtain ⟨A1, c1, hv1, hr1⟩ := HO1.rd; rw [HM.out] at hv1; subst hv1; replace hx := hx.below B0; replace hy := hy.below B0) | (go_at_call 23; refine (hA _ _ _ hr1).mono ?_; rintro e w2 ⟨v2, rfl, HO2, HB2⟩; obtain ⟨A2, c2, hv2, hr2⟩ := HO2.rd; rw [HQ.out] at hv2; subst hv2; replace hx := hx.below HB2; replace hy := hy.below HB2; replace hr1 := hr1.below HB2; replace B0 := B0.trans (HB2.mono B0.size)) | (go_at_call 24; refine (hR _ _ _ hx).mono ?_; rintro e w3 ⟨v3, rfl, HO3, HB3⟩; obtain ⟨A3, c3, hv3, hr3⟩ := HO3.rd; rw [HQ.out] at hv3; subst hv3; replace hx := hx.below HB3; replace hy := hy.below HB3; replace hr1 := hr1.below HB3; replace hr2 := hr2.below HB3; replace B0 := B0.trans (HB3.mono B0.size)) | (go_at_call 13; refine (num_any _ _).mono ?_; rintro e w' ⟨rfl, rfl⟩) | (go_at_call 15; refine (hS _ _ _ _ _ hr1 hx).mono ?_; rintro e w' ⟨rfl, rfl⟩))
  go_loopw [10] (fun i wr => ∃ k : Nat, k ≤ q ∧ i = .int .i64 (k : Int) ∧ Below w3.heap.size w3 wr) (fun i wr => q - (intOf i).toNat)
  case atStart => exact ⟨0, by omega, rfl, Below.refl _ _⟩
  case round =>
    obtain ⟨k, hk, rfl, HB⟩ := hrel
    by_cases hlt : k < q
    · obtain ⟨ad, rfl, ha⟩ := (hr2.below HB).at_ k (by rw [HQ.out]; exact hlt)
      obtain ⟨bd, rfl, hb⟩ := (hr3.below HB).at_ k (by rw [HQ.out]; exact hlt)
      generalize X.getD k 0 = y at *
      have hki : (k : Int) < (q : Int) := by omega
      go_wp2
      go_still (by kernel_rfl)
      change Exit.then _ _ _ _ wr.drew
      go_wp2
      go_roundw
      case rel => exact ⟨k + 1, by omega, by go_num, HB.drew⟩
      case measure => simp [intOf]; omega
    · obtain rfl : k = q := by omega
      have hyw := hy.below HB
      have BB := B0.trans (HB.mono B0.size)
      clear hr2 hr3 hA hR hC hS hx hr1 HO2 HO3
      obtain ⟨WL, hWL⟩ : ∃ WL, WL = wr := ⟨wr, rfl⟩
      subst hWL
      go_wp2
      go_loopw [11, 12] (fun v i wr2 => ∃ k : Nat, k ≤ n ∧ i = .int .i64 (k : Int) ∧ OwB wr2 WL.heap.size v ((ns.take k).flatMap put) ∧ Below WL.heap.size WL wr2) (fun v i wr2 => n - (intOf i).toNat)
      case atStart => exact ⟨0, by omega, rfl, OwB.zero _ _, Below.refl _ _⟩
      case round =>
        obtain ⟨k2, hk2, rfl, HO4, HB4⟩ := hrel
        by_cases hl2 : k2 < n
        · have hkn : k2 < ns.length := by rw [HN.out]; exact hl2
          obtain ⟨ad, rfl, ha⟩ := (hyw.below HB4).at_ k2 hkn
          have hft := flat_take ns k2 hkn
          have hz := lz (ns.getD k2 0) (by rw [List.getD_eq_getElem?_getD, List.getElem?_eq_getElem hkn]; simp)
          generalize ns.getD k2 0 = y at *
          have HFT := hide hft
          have hlen : ((ns.take k2).flatMap put).length + (put y).length ≤ 140737488355328 := by
            have h1 := flat_len (ns.take k2)
            have h2 : (ns.take k2).length ≤ n := by rw [List.length_take]; omega
            have h3 := put_length y
            have h4 := vsize_le y
            omega
          have HLEN := hide hlen
          have hki : (k2 : Int) < (n : Int) := by omega
          have hP := fun W => Put_any y hz W
          clear hft hlen
          go_wp2_with (first | (go_at_call 10; refine (hP _).mono ?_; rintro e w6 ⟨v6, rfl, HO6, HB6⟩; obtain ⟨A6, c6, rfl, hr6⟩ := HO6.rd; have HO46 := HO4.below HB6; have HB46 := HB4.trans (HB6.mono HB4.size)) | (at_builtin; refine app_row (w0 := WL) WL.heap.size rfl (.tmp 66) (.tmp 71) rfl _ ((ns.take k2).flatMap put) (put y) A6 c6 rfl rfl HO46 hr6 HB46 HB46.size HLEN.out ?_; intro v7 w7 HO7 HB7 hg7 hat7))
          go_roundw
          case rel => exact ⟨k2 + 1, by omega, by go_num, by rw [HFT.out]; exact HO7, HB7⟩
          case measure => simp [intOf]; omega
        · obtain rfl : k2 = n := by omega
          have hall : ns.take k2 = ns := List.take_of_length_le (by rw [HN.out]; exact Nat.le_refl _)
          rw [hall] at HO4
          obtain ⟨A5, c5, hv5, hr5⟩ := HO4.rd
          rw [HT.out] at hv5
          subst hv5
          replace BB := BB.trans (HB4.mono BB.size)
          have hy5 := hyw.below HB4
          clear HO4 hyw hall
          go_wp2_with (first | (go_at_call 23; refine (hZ _ _ _ hr5).mono ?_; rintro e w8 ⟨v8, rfl, HO8, HB8⟩; obtain ⟨A8, c8, hv8, hr8⟩ := HO8.rd; rw [HN.out] at hv8; subst hv8; replace hy5 := hy5.below HB8; replace BB := BB.trans (HB8.mono BB.size)) | (go_at_call 13; refine (num_any _ _).mono ?_; rintro e w' ⟨rfl, rfl⟩))
          go_loopw [15] (fun i wr3 => ∃ k : Nat, k ≤ k2 ∧ i = .int .i64 (k : Int) ∧ Below w8.heap.size w8 wr3) (fun i wr3 => k2 - (intOf i).toNat)
          case atStart => exact ⟨0, by omega, rfl, Below.refl _ _⟩
          case round =>
            obtain ⟨k3, hk3, rfl, HB9⟩ := hrel
            by_cases hl3 : k3 < k2
            · obtain ⟨ad, rfl, ha⟩ := (hr8.below HB9).at_ k3 (by rw [HN.out]; exact hl3)
              obtain ⟨bd, rfl, hb⟩ := (hy5.below HB9).at_ k3 (by rw [HN.out]; exact hl3)
              generalize ns.getD k3 0 = y at *
              have hki : (k3 : Int) < (k2 : Int) := by omega
              go_wp2
              go_still (by kernel_rfl)
              change Exit.then _ _ _ _ (World.drew _)
              go_wp2
              go_roundw
              case rel => exact ⟨k3 + 1, by omega, by go_num, HB9.drew⟩
              case measure => simp [intOf]; omega
            · obtain rfl : k3 = k2 := by omega
              replace BB := BB.trans (HB9.mono BB.size)
              go_wp2_with (first | (go_at_call 9; refine (alive_any _).mono ?_; rintro e w10 ⟨rfl, HB10⟩; replace BB := BB.trans (HB10.mono BB.size)))
              go_ret
              exact ⟨rfl, BB⟩
end Go.Proofs.Ytckflapblbiniaa
