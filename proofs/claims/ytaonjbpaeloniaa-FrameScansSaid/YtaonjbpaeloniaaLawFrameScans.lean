/- The walk of FrameScans. -/
import Derived.Test.YtaonjbpaeloniaaFrK
import Derived.Test.YtaonjbpaeloniaaFrD
import Derived.Test.YtaonjbpaeloniaaFrS
import Derived.Test.YtaonjbpaeloniaaKinds
namespace Go.Proofs.Ytaonjbpaeloniaa
open Go.RowKit Go.Proofs.YtaonjbpaeloniaaW.PrintWords
set_option linter.unusedVariables false

/-- the records that may be, of the first k -/
def gsF (rs : List (Int × List UInt8)) (k : Nat) : List (Int × List UInt8) := (rs.take k).filter fun r => decide (putFE r.1 r.2.length = 0)
theorem gsF_len (rs : List (Int × List UInt8)) (k : Nat) : (gsF rs k).length ≤ k := by
  have h1 := List.length_filter_le (fun r : Int × List UInt8 => decide (putFE r.1 r.2.length = 0)) (rs.take k)
  have h2 : (rs.take k).length ≤ k := List.length_take_le _ _
  unfold gsF
  omega
theorem gsF_ok (rs : List (Int × List UInt8)) (k : Nat) : ∀ r ∈ gsF rs k, okR r := by
  intro r hr
  have h1 := of_decide_eq_true (List.mem_filter.1 hr).2
  exact h1
theorem gsF_yes (rs : List (Int × List UInt8)) (k : Nat) (h : k < rs.length) (hy : putFE (rs.getD k zRec).1 (rs.getD k zRec).2.length = 0) : gsF rs (k + 1) = gsF rs k ++ [rs.getD k zRec] := by
  have e : rs.getD k zRec = rs[k] := by rw [List.getD_eq_getElem?_getD, List.getElem?_eq_getElem h]; rfl
  rw [e] at hy ⊢
  rw [gsF, gsF, List.take_succ_eq_append_getElem h, List.filter_append]
  simp [hy]
theorem gsF_no (rs : List (Int × List UInt8)) (k : Nat) (h : k < rs.length) (hy : ¬ putFE (rs.getD k zRec).1 (rs.getD k zRec).2.length = 0) : gsF rs (k + 1) = gsF rs k := by
  have e : rs.getD k zRec = rs[k] := by rw [List.getD_eq_getElem?_getD, List.getElem?_eq_getElem h]; rfl
  rw [e] at hy
  rw [gsF, gsF, List.take_succ_eq_append_getElem h, List.filter_append]
  simp [hy]
/-- where they end -/
def endsF (G : List (Int × List UInt8)) : List Int := (List.range G.length).map fun j => (endF G (j + 1) : Int)
theorem endsF_length (G : List (Int × List UInt8)) : (endsF G).length = G.length := by simp [endsF]
theorem endsF_get (G : List (Int × List UInt8)) (j : Nat) (h : j < G.length) : (endsF G).getD j 0 = (endF G (j + 1) : Int) := by
  rw [List.getD_eq_getElem?_getD, endsF, List.getElem?_map, List.getElem?_range h]
  rfl
theorem endsF_snoc (G : List (Int × List UInt8)) (r : Int × List UInt8) : endsF (G ++ [r]) = endsF G ++ [((catF (G ++ [r])).length : Int)] := by
  rw [endsF, endsF, List.length_append, List.length_singleton, List.range_succ, List.map_append]
  congr 1
  · apply List.map_congr_left
    intro j hj
    have hj' := List.mem_range.1 hj
    rw [endF, endF, List.take_append_of_le_length (by omega)]
  · simp only [List.map_cons, List.map_nil]
    rw [endF, show G.length + 1 = (G ++ [r]).length by simp, List.take_length]
theorem putFX_len (K : Int) (d : List UInt8) : (putFX K d).length ≤ 65550 := by
  unfold putFX
  split
  · next h =>
    obtain ⟨h1, h2, h3⟩ := putFE_ok K d.length h
    rw [guarded_length, bodyF_length]
    have := vsize_le d.length
    omega
  · simp
theorem putFE_not (K : Int) (n : Nat) (h : putFE K n ≠ 0) : K < 0 ∨ 255 < K ∨ 65536 < n := by
  unfold putFE at h
  split at h
  · next h1 => omega
  · split at h
    · omega
    · exact absurd rfl h
theorem putFX_not (K : Int) (d : List UInt8) (h : putFE K d.length ≠ 0) : putFX K d = [] := by rw [putFX, if_neg h]
theorem cut_at (a : Int) (L : Nat) (hL : L ≤ 1400000) : ∃ p : Nat, p ≤ L ∧ (wrap64 (wrap64 (a.tmod ((L : Int) + 1) + (L : Int)) + 1)).tmod ((L : Int) + 1) = (p : Int) := by
  have h1 : a.tmod ((L : Int) + 1) < (L : Int) + 1 := Int.tmod_lt_of_pos a (by omega)
  have h2 : -((L : Int) + 1) < a.tmod ((L : Int) + 1) := Int.lt_tmod_of_pos a (by omega)
  generalize a.tmod ((L : Int) + 1) = t at *
  have e1 : wrap64 (t + (L : Int)) = t + (L : Int) := by unfold wrap64; omega
  have e2 : wrap64 (t + (L : Int) + 1) = t + (L : Int) + 1 := by unfold wrap64; omega
  rw [e1, e2, Int.tmod_eq_emod_of_nonneg (by omega)]
  have h3 := Int.emod_nonneg (t + (L : Int) + 1) (show (L : Int) + 1 ≠ 0 by omega)
  have h4 := Int.emod_lt_of_pos (t + (L : Int) + 1) (show 0 < (L : Int) + 1 by omega)
  exact ⟨((t + (L : Int) + 1) % ((L : Int) + 1)).toNat, by omega, by omega⟩
/-- rows of records that came in -/
abbrev kFix (w : World) : Kd (Int × List UInt8) := Kd.fixed kRec w
theorem fix_rd {w wr : World} {A : Option Addr} {c : Nat} {rs : List (Int × List UInt8)} (h : Rd (kFix w) wr A c rs) (hb : Below w.heap.size w wr) : RdR wr A c rs :=
  ⟨h.1, ReadsRow.imp_ h.2 (Below.refl _ _) (fun _ _ hk => kRec.K_below hb hk)⟩
section
variable {ops : Array Oper} {rest : List Oper} {o : Oper} {a : Act} {Q : Exit → Act → World → Prop}
theorem app_fix {w w0 W : World} (base : Nat) (hgd : o.guard = none) (s x : Operand)
    (ho : o.op = .call { callee := .builtin .append, args := #[s, x], argTypes := #[47, 47] })
    (v : Value) (rs : List (Int × List UInt8)) (K : Int) (X : List UInt8) (A : Option Addr) (n c : Nat) (hs : a.eval s = v) (hx : a.eval x = .slice (some ⟨W.heap.size, 0, none⟩) 1 1)
    (hK : kRec.K w (K, X) [.int .i64 K, .slice A n c])
    (HO : Ow (kFix w) 24 W base v rs) (HB : Below base w0 W) (hbase : base ≤ W.heap.size) (hl : (rs.length + 1) * 32 ≤ 140737488355328)
    (h : ∀ v1 w1, Ow (kFix w) 24 w1 base v1 (rs ++ [(K, X)]) → Below base w0 w1 → W.grownBy w1 v.ownBlock → (v1.ownBlock = v.ownBlock ∨ ∃ b, v1.ownBlock = some b ∧ W.heap.size ≤ b) → wpList Try.prog ops Q rest (a.put o.dst v1) w1) :
    wpList Try.prog ops Q (o :: rest) a (W.alloc (.cells #[.int .i64 K, .slice A n c] 24)) :=
  app_ow (kFix w) base hgd s x 47 24 _ 32 ho Try.underlying47 info_rec rfl (Nat.succ_pos 1) (by decide) v rs (K, X) [.int .i64 K, .slice A n c] hs hx hK HO HB hbase hl h
end
theorem open_below {w : World} {A : Option Addr} {n c : Nat} {xs : List UInt8} (h : RdB w A c xs) (hn : xs.length = n) (K : Int) : kRec.K w (K, xs) [.int .i64 K, .slice A n c] := by
  subst hn
  exact ⟨[.int .i64 K], [.slice A xs.length c], rfl, rfl, A, c, rfl, h.1, kU8_C h⟩
set_option maxRecDepth 100000 in
set_option maxHeartbeats 3200000 in
theorem scans_walk (A : Option Addr) (ca : Nat) (rs : List (Int × List UInt8)) (at0 : Int) (w : World) (hx : RdR w A ca rs) (hr : ∀ r ∈ rs, (Lit.int .i64 r.1).wf = true ∧ r.2.length ≤ 140737488351232) (hat : (Lit.int .i64 at0).wf = true) :
    Calls Try.prog 7 #[.slice A rs.length ca, .int .i64 at0] w fun e w' => e = .returned (.bool true) ∧ Below w.heap.size w w' := by
  obtain ⟨a1, a2⟩ := i64_of at0 hat
  have hm := hx.max
  have hn0 : ∀ k, (gsF rs k).length ≤ k := gsF_len rs
  obtain ⟨n, hn⟩ : ∃ n, rs.length = n := ⟨_, rfl⟩
  have HN := hide hn
  rw [hn] at hm ⊢
  have HR := hide hr
  have HG := hide hn0
  clear hat hn hr hn0
  go_enter Try.func7, Try.ntmps7
  go_wp2_with (first | (go_at_call 8; refine (alive_any _).mono ?_; rintro e w1 ⟨rfl, HB1⟩))
  go_loopw [5, 6, 7, 8] (fun al en go i wr => ∃ k : Nat, k ≤ n ∧ k ≤ 20 ∧ i = .int .i64 (k : Int) ∧ OwB wr w.heap.size al (catF (gsF rs k)) ∧ Ow kInt 3 wr w.heap.size en (endsF (gsF rs k)) ∧ Ow (kFix w) 24 wr w.heap.size go (gsF rs k) ∧ Below w.heap.size w wr) (fun _ _ _ i _ => n - (intOf i).toNat)
  case atStart => exact ⟨0, by omega, by omega, rfl, OwB.zero _ _, Ow.zero _ _ _ _, Ow.zero _ _ _ _, HB1⟩
  case round =>
    obtain ⟨k, hk, hk20, rfl, HO1, HO2, HO3, HB⟩ := hrel
    by_cases hlt : k < n ∧ k < 20
    · obtain ⟨hlt, hl20⟩ := hlt
      obtain ⟨ad, A1, c1, rfl, e0, e1, er⟩ := hx.at_ k (by rw [HN.out]; exact hlt)
      have hlti : (k : Int) < (n : Int) := by omega
      have hl20i : (k : Int) < 20 := by omega
      have hgy := gsF_yes rs k (by rw [HN.out]; exact hlt)
      have hgn := gsF_no rs k (by rw [HN.out]; exact hlt)
      have hkw := HR.out (rs.getD k zRec) (by rw [List.getD_eq_getElem?_getD, List.getElem?_eq_getElem (by rw [HN.out]; exact hlt)]; exact List.getElem_mem _)
      have hG := HG.out k
      have hGL := endsF_length (gsF rs k)
      have hES := endsF_snoc (gsF rs k)
      have hCS := catF_snoc (gsF rs k)
      have hCL := catF_len (gsF rs k)
      generalize rs.getD k zRec = x at *
      obtain ⟨K, X⟩ := x
      simp only at hgy hgn hkw e0 e1 er
      obtain ⟨hkw, hXl⟩ := hkw
      obtain ⟨k1, k2⟩ := i64_of K hkw
      have hPl := putFX_len K X
      have hOf := fun A c W (h : RdB W A c X) => of_any K A X.length c X W rfl h (by omega)
      have hP := fun A c W (h : RdB W A c X) => FPut_any K A c X W h hkw
      have l0 := World.block_lt_of_cell? w _ e0
      have l1 := World.block_lt_of_cell? w _ e1
      have g0 : wr.cell? (ad.add (k * 2)) = some (.int .i64 K) := (HB.cell l0).trans e0
      have g1 : wr.cell? ⟨(ad.add (k * 2)).block, (ad.add (k * 2)).off + 1, none⟩ = some (.slice A1 X.length c1) := (HB.cell l1).trans e1
      have erw := er.below HB
      unfold fil at hOf hP
      by_cases hok : putFE K X.length = 0
      · have hgS := hide (hgy hok)
        have hCSr := hide (hCS (K, X))
        have hESr := hide (hES (K, X))
        rw [hok] at hP
        clear hgy hgn hok hCS hES
        generalize gsF rs k = G at *
        obtain ⟨P, hPP⟩ : ∃ P, putFX K X = P := ⟨_, rfl⟩
        simp only at hCSr
        rw [hPP] at hP hCSr hPl
        obtain ⟨m, hXm⟩ : ∃ m, X.length = m := ⟨_, rfl⟩
        have HXM := hide hXm
        rw [hXm] at hOf hP hXl e1 g1
        obtain ⟨p, hpp⟩ : ∃ p, P.length = p := ⟨_, rfl⟩
        have HPP := hide hpp
        rw [hpp] at hPl
        have hal : (catF G).length + P.length ≤ 140737488355328 := by omega
        have HAL := hide hal
        have hel : ((endsF G).length + 1) * 8 ≤ 140737488355328 := by omega
        have HEL := hide hel
        have hgl : (G.length + 1) * 32 ≤ 140737488355328 := by omega
        have HGL := hide hgl
        have hSk : ∀ W, Below w.heap.size w W → W.cell? (ad.add (k * 2)) = some (.int .i64 K) ∧ W.cell? ⟨(ad.add (k * 2)).block, (ad.add (k * 2)).off + 1, none⟩ = some (.slice A1 m c1) := fun W h => ⟨(h.cell (p := ad.add (k * 2)) l0).trans e0, (h.cell (p := ⟨(ad.add (k * 2)).block, (ad.add (k * 2)).off + 1, none⟩) l1).trans e1⟩
        have hKK : kRec.K w (K, X) [.int .i64 K, .slice A1 m c1] := open_below er hXm K
        have HKK := hide hKK
        clear hKK
        clear hal hel hgl hPP hXm hpp hGL hCL hG hkw
        go_wp2_with (first | (go_at_call 10; (with_reducible refine (hOf _ _ _ erw).mono ?_); rintro e w1 ⟨A2, c2, rfl, HO4, HB4⟩; replace HB := HB.trans (HB4.mono HB.size); replace HO1 := HO1.below HB4; replace HO2 := HO2.below HB4; replace HO3 := HO3.below HB4) | (go_at_call 9; (with_reducible refine (hP _ _ _ HO4.rdl).mono ?_); rintro e w3 ⟨v3, rfl, HO5, HB5⟩; obtain ⟨A3, c3, hv3, hr3⟩ := HO5.rd; rw [HPP.out] at hv3; subst hv3; replace HB := HB.trans (HB5.mono HB.size); replace HO1 := HO1.below HB5; replace HO2 := HO2.below HB5; replace HO3 := HO3.below HB5) | (go_at_call 11; refine (num_any _ _).mono ?_; rintro e w' ⟨rfl, rfl⟩) | (at_builtin; refine app_row (w0 := w) w.heap.size rfl (.tmp 63) (.tmp 64) rfl _ (catF G) P A3 c3 rfl (by rw [HPP.out]; rfl) HO1 hr3 HB HB.size HAL.out ?_; intro v6 w6 HO6 HB6 hg6 hat6; rw [← hCSr.out] at HO6; obtain ⟨A6, c6, hv6, hr6⟩ := HO6.rd; generalize hmm : (catF (G ++ [(K, X)])).length = m6 at hv6 hESr; subst hv6; have HMM := hide hmm; clear hmm; have HO26 := HO2.over HO1.ow (by decide) hg6; have HO36 := HO3.over HO1.ow (one_ne (by decide)) hg6) | (at_builtin; refine app_int (w0 := w) w.heap.size rfl (.tmp 66) (.tmp 69) rfl _ (endsF G) (m6 : Int) rfl rfl HO26 HB6 HB6.size HEL.out ?_; intro v7 w7 HO7 HB7 hg7 hat7; rw [← hESr.out] at HO7; have HO17 := HO6.ow.over HO26 (by decide) hg7; have HO37 := HO36.over HO26 (one_ne (by decide)) hg7; obtain ⟨g70, g71⟩ := hSk _ HB7) | (at_builtin; refine app_fix (w := w) (w0 := w) (W := w7) w.heap.size rfl (.tmp 71) (.tmp 76) rfl u7 G K X A1 m c1 (by rfl) (by rfl) HKK.out HO37 HB7 HB7.size HGL.out ?_; intro v8 w8 HO8 HB8 hg8 hat8; have HO18 := HO17.over HO37 (by decide) hg8; have HO28 := HO7.over HO37 (by decide) hg8))
        go_roundw
        case rel => exact ⟨k + 1, by omega, by omega, by go_num, by rw [hgS.out]; exact HO18.owB, by rw [hgS.out]; exact HO28, by rw [hgS.out]; exact HO8, HB8⟩
        case measure => simp [intOf]; omega
      · have hgS := hide (hgn hok)
        have hno := putFE_not K X.length hok
        have hPn := putFX_not K X hok
        rw [hPn] at hP
        clear hgy hgn hPn hCS hES hCL hGL
        generalize gsF rs k = G at *
        obtain ⟨z, hz⟩ : ∃ z, putFE K X.length = z := ⟨_, rfl⟩
        rw [hz] at hP hok
        obtain ⟨m, hXm⟩ : ∃ m, X.length = m := ⟨_, rfl⟩
        rw [hXm] at hOf hP hXl e1 g1 hno
        clear hz hXm hG hkw hPl
        have hno2 : K < 0 ∨ (0 ≤ K ∧ 255 < K) ∨ (0 ≤ K ∧ K ≤ 255 ∧ 65536 < (m : Int)) := by omega
        clear hno
        have hSk : ∀ W, Below w.heap.size w W → W.cell? (ad.add (k * 2)) = some (.int .i64 K) ∧ W.cell? ⟨(ad.add (k * 2)).block, (ad.add (k * 2)).off + 1, none⟩ = some (.slice A1 m c1) := fun W h => ⟨(h.cell (p := ad.add (k * 2)) l0).trans e0, (h.cell (p := ⟨(ad.add (k * 2)).block, (ad.add (k * 2)).off + 1, none⟩) l1).trans e1⟩
        rcases hno2 with h1 | ⟨h1, h2⟩ | ⟨h1, h2, h3⟩
        all_goals go_wp2_with (first | (go_at_call 10; (with_reducible refine (hOf _ _ _ erw).mono ?_); rintro e w1 ⟨A2, c2, rfl, HO4, HB4⟩; replace HB := HB.trans (HB4.mono HB.size); replace HO1 := HO1.below HB4; replace HO2 := HO2.below HB4; replace HO3 := HO3.below HB4) | (go_at_call 9; (with_reducible refine (hP _ _ _ HO4.rdl).mono ?_); rintro e w3 ⟨v3, rfl, HO5, HB5⟩; replace HB := HB.trans (HB5.mono HB.size); replace HO1 := HO1.below HB5; replace HO2 := HO2.below HB5; replace HO3 := HO3.below HB5; obtain ⟨g30, g31⟩ := hSk _ HB) | (go_at_call 11; refine (num_any _ _).mono ?_; rintro e w' ⟨rfl, rfl⟩))
        all_goals go_roundw
        case rel => exact ⟨k + 1, by omega, by omega, by go_num, by rw [hgS.out]; exact HO1, by rw [hgS.out]; exact HO2, by rw [hgS.out]; exact HO3, HB⟩
        case measure => simp [intOf]; omega
        case rel => exact ⟨k + 1, by omega, by omega, by go_num, by rw [hgS.out]; exact HO1, by rw [hgS.out]; exact HO2, by rw [hgS.out]; exact HO3, HB⟩
        case measure => simp [intOf]; omega
        case rel => exact ⟨k + 1, by omega, by omega, by go_num, by rw [hgS.out]; exact HO1, by rw [hgS.out]; exact HO2, by rw [hgS.out]; exact HO3, HB⟩
        case measure => simp [intOf]; omega
    · have hex : n ≤ k ∨ (k < n ∧ 20 ≤ k) := by omega
      obtain ⟨hs1, hs2⟩ := scan_all (gsF rs k) (gsF_ok rs k)
      have hcut := scan_cut (gsF rs k) (gsF_ok rs k)
      have hG := HG.out k
      have hCL := catF_len (gsF rs k)
      have hEL := endsF_length (gsF rs k)
      have hEG := endsF_get (gsF rs k)
      have hEF := endF_le (gsF rs k)
      have hE0 : endF (gsF rs k) 0 = 0 := by simp [endF, catF]
      generalize gsF rs k = G at *
      have hSc := fun A c W (h : RdB W A c (catF G)) => Scan_any A c (catF G) W h (by omega)
      rw [hs1, hs2] at hSc
      have hSA := fun A B c c' (R : List (Int × List UInt8)) W (h : RdR W A c R) (h' : RdR W B c' R) => sameAll_any A B c c' R R W h h'
      simp only [decide_true] at hSA
      have hSc2 := fun (xs : List UInt8) A c W (h : RdB W A c xs) (hl : xs.length ≤ 1400000) => Scan_any A c xs W h (by omega)
      obtain ⟨A6, c6, hv6, hr6⟩ := HO1.rd
      obtain ⟨A7, c7, hv7, hr7⟩ := HO2.rd
      obtain ⟨A8, c8, hv8, hr8⟩ := HO3.rd
      rw [hEL] at hv7
      obtain ⟨L, hL⟩ : ∃ L, (catF G).length = L := ⟨_, rfl⟩
      obtain ⟨N, hNN⟩ : ∃ N, G.length = N := ⟨_, rfl⟩
      have HL := hide hL
      have HNN := hide hNN
      have HEL := hide hEL
      rw [hL] at hv6 hSc hCL hEF
      rw [hNN] at hv7 hv8 hG hCL hcut
      subst hv6
      subst hv7
      subst hv8
      have hGr := fix_rd hr8 HB
      have hLl : L ≤ 1400000 := by omega
      have HCUT := hide hcut
      have HEF := hide hEF
      have HEG := hide hEG
      have HE0 := hide hE0
      clear hs1 hs2 hcut hEL hEG hEF hL hNN hlt hx HO1 HO2 HO3 HR HG hE0
      rcases hex with hge | ⟨hlt2, hge⟩
      all_goals go_wp2_with (first | (go_at_call 18; (with_reducible refine (hSc _ _ _ hr6).mono ?_); rintro e w1 ⟨v1, rfl, HO9, HB9⟩; obtain ⟨A9, c9, hv9, hr9⟩ := HO9.rd; rw [HNN.out] at hv9; subst hv9; replace HB := HB.trans (HB9.mono HB.size); replace hr6 := hr6.below HB9; replace hr7 := hr7.below HB9; replace hGr := hGr.below HB9) | (go_at_call 21; rw [← HNN.out]; (with_reducible refine (hSA _ _ _ _ G _ hr9 hGr).mono ?_); rintro e w2 ⟨rfl, HB10⟩; replace HB := HB.trans (HB10.mono HB.size); replace hr6 := hr6.below HB10; replace hr7 := hr7.below HB10; replace hGr := hGr.below HB10; rw [HNN.out]))
      all_goals (
        obtain ⟨p, hpL, hpe⟩ := cut_at at0 L hLl
        rw [hpe]
        obtain ⟨bq, hbq⟩ : ∃ b, decide ((k : Int) < 20) = b := ⟨_, rfl⟩
        try rw [hbq]
        clear hbq hpe a1 a2 hr8 hSc)
      all_goals (
        go_loopw [13, 14, 15] (fun kk ee j wr2 => ∃ jj q : Nat, jj ≤ N ∧ q ≤ jj ∧ j = .int .i64 (jj : Int) ∧ kk = .int .i64 (q : Int) ∧ ee = .int .i64 (endF G q : Int) ∧ endF G q ≤ p ∧ (∀ i, q < i → i ≤ jj → p < endF G i) ∧ Below w.heap.size w wr2 ∧ RdB wr2 A6 c6 (catF G) ∧ Rd kInt wr2 A7 c7 (endsF G) ∧ RdR wr2 A8 c8 G) (fun _ _ j _ => N - (intOf j).toNat)
        case atStart => exact ⟨0, 0, by omega, by omega, rfl, rfl, by rw [HE0.out]; rfl, by rw [HE0.out]; omega, fun i h1 h2 => by omega, HB, hr6, hr7, hGr⟩
        case round =>
          obtain ⟨jj, q, hjN, hqj, rfl, rfl, rfl, hqp, hqa, HB3, hr63, hr73, hGr3⟩ := hrel
          by_cases hlt : jj < N
          · obtain ⟨ad7, rfl, hc7⟩ := hr73.int_at jj (by rw [HEL.out, HNN.out]; exact hlt)
            rw [HEG.out jj (by rw [HNN.out]; exact hlt)] at hc7
            have HQA := hide hqa
            have hlti : (jj : Int) < (N : Int) := by omega
            obtain ⟨E, hE⟩ : ∃ E, endF G (jj + 1) = E := ⟨_, rfl⟩
            rw [hE] at hc7
            have HE := hide hE
            have HQ := hide hqp
            clear hE hqa hqp
            by_cases hle : E ≤ p
            · have hlei : (E : Int) ≤ (p : Int) := by omega
              go_wp2
              go_region
              all_goals go_wp2
              all_goals go_roundw
              case rel => exact ⟨jj + 1, jj + 1, by omega, by omega, by go_num, by go_num, by rw [HE.out], by rw [HE.out]; exact hle, fun i h1 h2 => by omega, HB3.drew, hr63.below (Below.refl _ _).drew, hr73.below (Below.refl _ _).drew, hGr3.below (Below.refl _ _).drew⟩
              case measure => simp [intOf]; omega
            · have hlei : ¬ (E : Int) ≤ (p : Int) := by omega
              go_wp2
              go_roundw
              case rel =>
                refine ⟨jj + 1, q, by omega, by omega, by go_num, rfl, rfl, HQ.out, fun i h1 h2 => ?_, HB3, hr63, hr73, hGr3⟩
                rcases Nat.lt_or_ge i (jj + 1) with h3 | h3
                · exact HQA.out i h1 (by omega)
                · obtain rfl : i = jj + 1 := by omega
                  rw [HE.out]; omega
              case measure => simp [intOf]; omega
          · obtain rfl : jj = N := by omega
            have hc := HCUT.out p q hqj hqp (fun h => hqa (q + 1) (by omega) (by omega))
            obtain ⟨hc1, hc2⟩ := hc
            have hsl := fun W => slice_hi 22 5 Try.underlying22 (i := _) rfl rfl A6 L c6 p (by have := hr63.le; rw [HL.out] at this; omega) W
            have hsg := fun W => sliceK_hi 47 24 Try.underlying47 (i := _) rfl A8 jj c8 q (by have := hGr3.1; rw [HNN.out] at this; omega) W
            have htl : ((catF G).take p).length = p := by rw [List.length_take, HL.out]; omega
            have hgl : (G.take q).length = q := by rw [List.length_take, HNN.out]; omega
            have hS := fun W (h : RdB W A6 c6 ((catF G).take p)) => hSc2 ((catF G).take p) A6 c6 W h (by rw [htl]; omega)
            have hT := fun A c W (h : RdR W A c (G.take q)) (h' : RdR W A8 c8 (G.take q)) => hSA A A8 c c8 (G.take q) W h h'
            have htk := hr63.take p (by rw [HL.out]; exact hpL)
            have hgk := hGr3.take q (by rw [HNN.out]; exact hqj)
            rw [htl, hc1, hc2] at hS
            rw [hgl] at hT
            have HGL := hide hgl
            clear hc1 hc2 hgl htl hqa hqp hSc2 hSA
            generalize G.take q = Gq at *
            generalize (catF G).take p = Bp at *
            generalize endF G q = Eq at *
            go_wp2_with (first | (go_at_call 18; (with_reducible refine (hS _ htk).mono ?_); rintro e w5 ⟨v5, rfl, HO5, HB5⟩; obtain ⟨A5, c5, hv5, hr5⟩ := HO5.rd; rw [HGL.out] at hv5; subst hv5; replace hgk := hgk.below HB5; replace HB3 := HB3.trans (HB5.mono HB3.size)) | (go_at_call 21; (with_reducible refine (hT _ _ _ hr5 hgk).mono ?_); rintro e w6 ⟨rfl, HB6⟩; replace HB3 := HB3.trans (HB6.mono HB3.size)))
            go_ret
            exact ⟨by simp, HB3⟩)
end Go.Proofs.Ytaonjbpaeloniaa
