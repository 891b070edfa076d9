/- The walk of BloomOctets. -/
import Derived.Test.YtmnecbmneljhkaaLawBloomOwn
namespace Go.Proofs.Ytmnecbmneljhkaa
open Go.RowKit Go.Shelf Go.Proofs.YtmnecbmneljhkaaW.PrintWords
set_option linter.unusedVariables false

theorem dec_enc (K : Int) (xs : List UInt8) (h : okF K xs.length) : decK (encF K xs) = K ∧ decX (encF K xs) = xs ∧ decE (encF K xs) = 0 := by
  have e : encF K xs = UInt8.ofNat K.toNat :: xs := by rw [encF, if_pos h]
  obtain ⟨h1, h2, h3, h4⟩ := h
  have hk : ((UInt8.ofNat K.toNat).toNat : Int) = K := by
    rw [UInt8.toNat_ofNat']; omega
  have hd : decOk (UInt8.ofNat K.toNat :: xs) := by
    refine ⟨by simp; omega, ?_⟩
    rw [List.getD_cons_zero, hk]
    exact ⟨h1, h2, by simp; omega, by simp; omega⟩
  rw [e, decK, if_pos hd, decX, if_pos hd, decE, if_pos hd, List.getD_cons_zero, hk]
  exact ⟨rfl, rfl, rfl⟩
theorem enc_dec_back (b : List UInt8) (h : decOk b) : encF (decK b) (decX b) = b ∧ encE (decK b) (decX b).length = 0 := by
  have h1 : okF (decK b) (decX b).length := by
    rw [decK, if_pos h, decX, if_pos h, List.length_drop]
    exact h.2
  refine ⟨?_, by rw [encE, if_pos h1]⟩
  rw [encF, if_pos h1, decK, if_pos h, decX, if_pos h]
  obtain ⟨h2, h3⟩ := h
  match b, h2 with
  | x :: r, _ =>
    simp
theorem encF_length (K : Int) (xs : List UInt8) : (encF K xs).length ≤ xs.length + 1 := by
  unfold encF
  split
  · simp
  · simp
set_option maxHeartbeats 4000000 in
theorem octets_walk (K : Int) (A : Option Addr) (ca : Nat) (xs : List UInt8) (B : Option Addr) (cb : Nat) (ys : List UInt8) (w : World) (hx : RdB w A ca xs) (lx : xs.length ≤ 140737488351232) (hy : RdB w B cb ys) (ly : ys.length ≤ 140737488351232) :
    Calls Try.prog 7 #[fil K A xs.length ca, .slice B ys.length cb] w fun e w' => e = .returned (.bool true) ∧ Below w.heap.size w w' := by
  have lx' : xs.length ≤ 140737488355328 := by omega
  have ly' : ys.length ≤ 140737488355328 := by omega
  have lel : (encF K xs).length ≤ 140737488355328 := Nat.le_trans (encF_length K xs) (by omega)
  have hOf := fun A c W (h : RdB W A c xs) => of_any K A xs.length c xs W rfl h lx'
  have hE := fun A c W (h : RdB W A c xs) => Encode_any K A c xs W h
  have hR := fun A c W (h : RdB W A c xs) => rEncode_any K A c xs W h
  have hD := fun A c W (h : RdB W A c ys) => Decode_any A c ys W h ly'
  have hQ := fun A c W (h : RdB W A c ys) => rDecode_any A c ys W h ly'
  have hS := fun A B c d W (h : RdB W A c xs) (h' : RdB W B d xs) => same_any K K A B _ _ c d xs xs W rfl rfl h h'
  have hT := fun A B c d W (h : RdB W A c (decX ys)) (h' : RdB W B d (decX ys)) => same_any (decK ys) (decK ys) A B _ _ c d (decX ys) (decX ys) W rfl rfl h h'
  simp only [and_self, decide_true] at hS hT
  have hD2 : okF K xs.length → ∀ A c W, RdB W A c (encF K xs) → Calls Try.prog 24 #[.slice A (encF K xs).length c] W fun e w' => ∃ A' c', e = .returned (.tuple #[fil K A' xs.length c', .int .i64 0]) ∧ OwB w' W.heap.size (.slice A' xs.length c') xs ∧ Below W.heap.size W w' := fun h A c W hr => by
    obtain ⟨e1, e2, e3⟩ := dec_enc K xs h
    have := Decode_any A c (encF K xs) W hr lel
    rw [e1, e2, e3] at this
    exact this
  have hE2 : decOk ys → ∀ A c W, RdB W A c (decX ys) → Calls Try.prog 22 #[fil (decK ys) A (decX ys).length c] W fun e w' => ∃ v, e = .returned (.tuple #[v, .int .i64 0]) ∧ OwB w' W.heap.size v ys ∧ Below W.heap.size W w' := fun h A c W hr => by
    obtain ⟨e1, e2⟩ := enc_dec_back ys h
    have := Encode_any (decK ys) A c (decX ys) W hr
    rw [e1, e2] at this
    exact this
  have hF : (okF K xs.length ∧ encE K xs.length = 0) ∨ (¬ okF K xs.length ∧ encE K xs.length = 9) := by
    by_cases h : okF K xs.length
    · exact .inl ⟨h, by rw [encE, if_pos h]⟩
    · exact .inr ⟨h, by rw [encE, if_neg h]⟩
  have hG : (decOk ys ∧ decE ys = 0) ∨ (¬ decOk ys ∧ (decE ys = 8 ∨ decE ys = 9)) := by
    by_cases h : decOk ys
    · exact .inl ⟨h, by rw [decE, if_pos h]⟩
    · refine .inr ⟨h, ?_⟩
      rw [decE, if_neg h]
      split
      · exact .inl rfl
      · exact .inr rfl
  have SBx := fun A B c d W (h : RdB W A c (encF K xs)) (h' : RdB W B d (encF K xs)) => SameBytes_any A B c d (encF K xs) (encF K xs) W h h'
  have SBy := fun A B c d W (h : RdB W A c ys) (h' : RdB W B d ys) => SameBytes_any A B c d ys ys W h h'
  simp only [decide_true] at SBx SBy
  generalize encE K xs.length = F at *
  generalize encF K xs = ex at *
  generalize decE ys = G at *
  generalize decK ys = DK at *
  generalize decX ys = dx at *
  obtain ⟨n, hn⟩ : ∃ n, xs.length = n := ⟨_, rfl⟩
  obtain ⟨m, hm⟩ : ∃ m, ys.length = m := ⟨_, rfl⟩
  obtain ⟨dn, hdn⟩ : ∃ dn, dx.length = dn := ⟨_, rfl⟩
  obtain ⟨en, hen⟩ : ∃ en, ex.length = en := ⟨_, rfl⟩
  have ly2 : ys.length ≤ 140737488355328 := ly'
  have hCB := fun W (h : RdB W B cb ys) => CopyBytes_any B cb ys W h ly2
  simp only [hn, hm, hdn, hen] at hOf hE hR hD hQ hS hT hD2 hE2 SBx SBy hCB hF ⊢
  have HN := hide hn
  have HM := hide hm
  have HDN := hide hdn
  have HEN := hide hen
  clear hn hm hdn hen lx ly lx' ly' ly2 lel
  unfold fil at *
  have hx0 := hx.below (below_alloc w (.cells #[.int .i64 K, .slice A n ca] 25))
  have hy0 := hy.below (below_alloc w (.cells #[.int .i64 K, .slice A n ca] 25))
  have X0 := Bx.new w K (.slice A n ca) 25
  have B0 := below_alloc w (.cells #[.int .i64 K, .slice A n ca] 25)
  obtain ⟨x00, x01, x02, x03⟩ := X0.read
  rcases hF with ⟨f1, rfl⟩ | ⟨f1, rfl⟩ <;> rcases hG with ⟨g1, rfl⟩ | ⟨g1, hg⟩
  all_goals (
    first | have hD3 := hD2 f1 | skip
    first | have hE3 := hE2 g1 | skip
    first | have hgn : ¬ G = 0 := by omega | skip
    clear hD2 hE2 f1 g1
    go_enter Try.func7, Try.ntmps7
    go_wp2_with (first | (go_at_call 10; refine (hOf _ _ _ hx0).mono ?_; rintro e w1 ⟨A1, c1, rfl, HO1, HB1⟩; replace hx0 := hx0.below HB1; replace hy0 := hy0.below HB1; replace X0 := X0.below HB1; replace B0 := B0.trans (HB1.mono B0.size)) | (go_at_call 21; refine (hCB _ hy0).mono ?_; rintro e w2 ⟨v2, rfl, HO2, HB2⟩; obtain ⟨A2, c2, hv2, hr2⟩ := HO2.rd; rw [HM.out] at hv2; subst hv2; clear hr2; replace hx0 := hx0.below HB2; replace hy0 := hy0.below HB2; replace HO1 := HO1.below HB2; replace X0 := X0.below HB2; replace B0 := B0.trans (HB2.mono B0.size); have b2 := below_alloc w2 (.cells #[.int .i64 K, .slice A1 n c1] 27); have X2 := Bx.new w2 K (.slice A1 n c1) 27; replace hx0 := hx0.below b2; replace hy0 := hy0.below b2; replace HO1 := HO1.below b2; replace HO2 := HO2.below b2; replace X0 := X0.below b2; replace B0 := B0.alloc B0.size (.cells #[.int .i64 K, .slice A1 n c1] 27); obtain ⟨x00, x01, x02, x03⟩ := X0.read; obtain ⟨x20, x21, x22, x23⟩ := X2.read) | (go_at_call 22; (with_reducible refine (hE _ _ _ HO1.rdl).mono ?_); rintro e w3 ⟨v3, rfl, HO3, HB3⟩; obtain ⟨A3, c3, hv3, hr3⟩ := HO3.rd; rw [HEN.out] at hv3; subst hv3; clear hr3; replace hx0 := hx0.below HB3; replace hy0 := hy0.below HB3; replace HO1 := HO1.below HB3; replace HO2 := HO2.below HB3; replace X0 := X0.below HB3; replace X2 := X2.below HB3; replace B0 := B0.trans (HB3.mono B0.size); obtain ⟨x00, x01, x02, x03⟩ := X0.read; obtain ⟨x20, x21, x22, x23⟩ := X2.read) | (go_at_call 23; (with_reducible refine (hR _ _ _ hx0).mono ?_); rintro e w4 ⟨v4, rfl, HO4, HB4⟩; obtain ⟨A4, c4, hv4, hr4⟩ := HO4.rd; rw [HEN.out] at hv4; subst hv4; clear hr4; replace hx0 := hx0.below HB4; replace hy0 := hy0.below HB4; replace HO1 := HO1.below HB4; replace HO2 := HO2.below HB4; replace HO3 := HO3.below HB4; replace X0 := X0.below HB4; replace X2 := X2.below HB4; replace B0 := B0.trans (HB4.mono B0.size); obtain ⟨x00, x01, x02, x03⟩ := X0.read; obtain ⟨x20, x21, x22, x23⟩ := X2.read) | (go_at_call 24; (with_reducible refine (hD _ _ _ HO2.rdl).mono ?_); rintro e w5 ⟨A5, c5, rfl, HO5, HB5⟩; replace hx0 := hx0.below HB5; replace hy0 := hy0.below HB5; replace HO1 := HO1.below HB5; replace HO2 := HO2.below HB5; replace HO3 := HO3.below HB5; replace HO4 := HO4.below HB5; replace X0 := X0.below HB5; replace X2 := X2.below HB5; replace B0 := B0.trans (HB5.mono B0.size); have b5 := below_alloc w5 (.cells #[.int .i64 DK, .slice A5 dn c5] 27); have X5 := Bx.new w5 DK (.slice A5 dn c5) 27; replace hx0 := hx0.below b5; replace hy0 := hy0.below b5; replace HO1 := HO1.below b5; replace HO2 := HO2.below b5; replace HO3 := HO3.below b5; replace HO4 := HO4.below b5; replace HO5 := HO5.below b5; replace X0 := X0.below b5; replace X2 := X2.below b5; replace B0 := B0.alloc B0.size (.cells #[.int .i64 DK, .slice A5 dn c5] 27); obtain ⟨x00, x01, x02, x03⟩ := X0.read; obtain ⟨x20, x21, x22, x23⟩ := X2.read; obtain ⟨x50, x51, x52, x53⟩ := X5.read) | (go_at_call 25; (with_reducible refine (hQ _ _ _ hy0).mono ?_); rintro e w6 ⟨A6, c6, rfl, HO6, HB6⟩; replace hx0 := hx0.below HB6; replace hy0 := hy0.below HB6; replace HO1 := HO1.below HB6; replace HO2 := HO2.below HB6; replace HO3 := HO3.below HB6; replace HO4 := HO4.below HB6; replace HO5 := HO5.below HB6; replace X0 := X0.below HB6; replace X2 := X2.below HB6; replace X5 := X5.below HB6; replace B0 := B0.trans (HB6.mono B0.size); have b6 := below_alloc w6 (.cells #[.int .i64 DK, .slice A6 dn c6] 25); have X6 := Bx.new w6 DK (.slice A6 dn c6) 25; replace hx0 := hx0.below b6; replace hy0 := hy0.below b6; replace HO1 := HO1.below b6; replace HO2 := HO2.below b6; replace HO3 := HO3.below b6; replace HO4 := HO4.below b6; replace HO5 := HO5.below b6; replace HO6 := HO6.below b6; replace X0 := X0.below b6; replace X2 := X2.below b6; replace X5 := X5.below b6; replace B0 := B0.alloc B0.size (.cells #[.int .i64 DK, .slice A6 dn c6] 25); obtain ⟨x00, x01, x02, x03⟩ := X0.read; obtain ⟨x20, x21, x22, x23⟩ := X2.read; obtain ⟨x50, x51, x52, x53⟩ := X5.read; obtain ⟨x60, x61, x62, x63⟩ := X6.read) | (go_at_call 26; (with_reducible refine (SBx _ _ _ _ _ HO3.rdl HO4.rdl).mono ?_); rintro e w' ⟨rfl, rfl⟩) | (go_at_call 18; refine (num_any _ _).mono ?_; rintro e w' ⟨rfl, rfl⟩) | (go_at_call 17; (with_reducible refine (hT _ _ _ _ _ HO5.rdl HO6.rdl).mono ?_); rintro e w7 ⟨rfl, HB7⟩; replace hx0 := hx0.below HB7; replace hy0 := hy0.below HB7; replace HO1 := HO1.below HB7; replace HO2 := HO2.below HB7; replace HO3 := HO3.below HB7; replace HO4 := HO4.below HB7; replace HO5 := HO5.below HB7; replace HO6 := HO6.below HB7; replace X0 := X0.below HB7; replace X2 := X2.below HB7; replace X5 := X5.below HB7; replace X6 := X6.below HB7; replace B0 := B0.trans (HB7.mono B0.size); obtain ⟨x00, x01, x02, x03⟩ := X0.read; obtain ⟨x20, x21, x22, x23⟩ := X2.read; obtain ⟨x50, x51, x52, x53⟩ := X5.read; obtain ⟨x60, x61, x62, x63⟩ := X6.read) | (go_at_call 17; (with_reducible refine (hS _ _ _ _ _ HO1.rdl hx0).mono ?_); rintro e w8 ⟨rfl, HB8⟩; replace hx0 := hx0.below HB8; replace hy0 := hy0.below HB8; replace HO1 := HO1.below HB8; replace HO2 := HO2.below HB8; replace HO3 := HO3.below HB8; replace HO4 := HO4.below HB8; replace HO5 := HO5.below HB8; replace HO6 := HO6.below HB8; replace X0 := X0.below HB8; replace X2 := X2.below HB8; replace X5 := X5.below HB8; replace X6 := X6.below HB8; replace B0 := B0.trans (HB8.mono B0.size); obtain ⟨x00, x01, x02, x03⟩ := X0.read; obtain ⟨x20, x21, x22, x23⟩ := X2.read; obtain ⟨x50, x51, x52, x53⟩ := X5.read; obtain ⟨x60, x61, x62, x63⟩ := X6.read) | (go_at_call 26; (with_reducible refine (SBy _ _ _ _ _ HO2.rdl hy0).mono ?_); rintro e w' ⟨rfl, rfl⟩) | (go_at_call 24; (with_reducible refine (hD3 _ _ _ HO3.rdl).mono ?_); rintro e w9 ⟨A9, c9, rfl, HO9, HB9⟩; replace hx0 := hx0.below HB9; replace hy0 := hy0.below HB9; replace HO1 := HO1.below HB9; replace HO2 := HO2.below HB9; replace HO3 := HO3.below HB9; replace HO4 := HO4.below HB9; replace HO5 := HO5.below HB9; replace HO6 := HO6.below HB9; replace X0 := X0.below HB9; replace X2 := X2.below HB9; replace X5 := X5.below HB9; replace X6 := X6.below HB9; replace B0 := B0.trans (HB9.mono B0.size); have b9 := below_alloc w9 (.cells #[.int .i64 K, .slice A9 n c9] 27); have X9 := Bx.new w9 K (.slice A9 n c9) 27; replace hx0 := hx0.below b9; replace hy0 := hy0.below b9; replace HO1 := HO1.below b9; replace HO2 := HO2.below b9; replace HO3 := HO3.below b9; replace HO4 := HO4.below b9; replace HO5 := HO5.below b9; replace HO6 := HO6.below b9; replace HO9 := HO9.below b9; replace X0 := X0.below b9; replace X2 := X2.below b9; replace X5 := X5.below b9; replace X6 := X6.below b9; replace B0 := B0.alloc B0.size (.cells #[.int .i64 K, .slice A9 n c9] 27); obtain ⟨x00, x01, x02, x03⟩ := X0.read; obtain ⟨x20, x21, x22, x23⟩ := X2.read; obtain ⟨x50, x51, x52, x53⟩ := X5.read; obtain ⟨x60, x61, x62, x63⟩ := X6.read; obtain ⟨x90, x91, x92, x93⟩ := X9.read) | (go_at_call 17; (with_reducible refine (hS _ _ _ _ _ HO9.rdl hx0).mono ?_); rintro e w10 ⟨rfl, HB10⟩; replace hx0 := hx0.below HB10; replace hy0 := hy0.below HB10; replace HO1 := HO1.below HB10; replace HO2 := HO2.below HB10; replace HO3 := HO3.below HB10; replace HO4 := HO4.below HB10; replace HO5 := HO5.below HB10; replace HO6 := HO6.below HB10; replace X0 := X0.below HB10; replace X2 := X2.below HB10; replace X5 := X5.below HB10; replace X6 := X6.below HB10; replace B0 := B0.trans (HB10.mono B0.size); obtain ⟨x00, x01, x02, x03⟩ := X0.read; obtain ⟨x20, x21, x22, x23⟩ := X2.read; obtain ⟨x50, x51, x52, x53⟩ := X5.read; obtain ⟨x60, x61, x62, x63⟩ := X6.read) | (go_at_call 22; (with_reducible refine (hE3 _ _ _ HO5.rdl).mono ?_); rintro e w11 ⟨v11, rfl, HO11, HB11⟩; obtain ⟨A11, c11, hv11, hr11⟩ := HO11.rd; rw [HM.out] at hv11; subst hv11; replace hy0 := hy0.below HB11; replace B0 := B0.trans (HB11.mono B0.size)) | (go_at_call 26; (with_reducible refine (SBy _ _ _ _ _ hr11 hy0).mono ?_); rintro e w' ⟨rfl, rfl⟩) | (go_at_call 20; refine (alive_any _).mono ?_; rintro e w12 ⟨rfl, HB12⟩; replace B0 := B0.trans (HB12.mono B0.size)))
    go_ret
    exact ⟨rfl, B0⟩)
end Go.Proofs.Ytmnecbmneljhkaa
