/- The walk of FrameOwn. -/
import Derived.Test.YtaonjbpaeloniaaFrD
import Derived.Test.YtaonjbpaeloniaaSpoil
namespace Go.Proofs.Ytaonjbpaeloniaa
open Go.RowKit Go.Proofs.YtaonjbpaeloniaaW.PrintWords
set_option linter.unusedVariables false

theorem putFX_length' (K : Int) (d : List UInt8) : (putFX K d).length ≤ 65550 := by
  unfold putFX
  split
  · next h =>
    obtain ⟨h1, h2, h3⟩ := putFE_ok K d.length h
    rw [guarded_length, bodyF_length]
    have := vsize_le d.length
    omega
  · simp
set_option maxHeartbeats 1600000 in
theorem own_walk (K : Int) (A : Option Addr) (ca : Nat) (d : List UInt8) (w : World) (hx : RdB w A ca d) (ld : d.length ≤ 140737488351232) (hK : (Lit.int .i64 K).wf = true) :
    Calls Try.prog 5 #[fil K A d.length ca] w fun e w' => e = .returned (.bool true) ∧ Below w.heap.size w w' := by
  have hOf := fun A c W (h : RdB W A c d) => of_any K A d.length c d W rfl h (by omega)
  have hP := fun A c W (h : RdB W A c d) => FPut_any K A c d W h hK
  have hpl := putFX_length' K d
  have hS := fun A B c c' W (h : RdB W A c d) (h' : RdB W B c' d) => same_any K K A B _ _ c c' d d W rfl rfl h h'
  simp only [and_self, decide_true] at hS
  have hm := hx.max
  unfold fil at *
  have hx0 := hx.below (below_alloc w (.cells #[.int .i64 K, .slice A d.length ca] 24))
  have X0 := Bx.new w K (.slice A d.length ca) 24
  have B0 := below_alloc w (.cells #[.int .i64 K, .slice A d.length ca] 24)
  by_cases hok : putFE K d.length = 0
  · have hG := fun A c W (h : RdB W A c (putFX K d)) => FGet_any A c (putFX K d) W h (by omega)
    obtain ⟨g1, g2, g3, g4⟩ := get_frame K d [] hok
    rw [List.append_nil] at g1 g2 g3 g4
    rw [g1, g2, g3, g4] at hG
    rw [hok] at hP
    unfold fil at hG
    generalize putFX K d = P at *
    obtain ⟨n, hn⟩ : ∃ n, d.length = n := ⟨_, rfl⟩
    obtain ⟨p, hp⟩ : ∃ p, P.length = p := ⟨_, rfl⟩
    simp only [hn, hp] at hOf hP hS hG X0
    rw [hn]
    rw [hn] at hx0 B0
    have HN := hide hn
    have HPL := hide hp
    clear hn hp hok g1 g2 g3 g4 ld hm hpl
    obtain ⟨x00, x01, x02, x03⟩ := X0.read
    go_enter Try.func5, Try.ntmps5
    go_wp2_with (first | (go_at_call 8; refine (alive_any _).mono ?_; rintro e w1 ⟨rfl, HB1⟩; replace hx0 := hx0.below HB1; replace X0 := X0.below HB1; replace B0 := B0.trans (HB1.mono B0.size); obtain ⟨x00, x01, x02, x03⟩ := X0.read) | (go_at_call 10; (with_reducible refine (hOf _ _ _ hx0).mono ?_); rintro e w2 ⟨A2, c2, rfl, HO2, HB2⟩; have b2 := below_alloc w2 (.cells #[.int .i64 K, .slice A2 n c2] 29); have BB := HB2.alloc HB2.size (.cells #[.int .i64 K, .slice A2 n c2] 29); have X2 := Bx.new w2 K (.slice A2 n c2) 29; have z2 := HB2.size; have z22 := b2.size; have hO2lt := HO2.lt; replace HO2 := HO2.below b2; obtain ⟨x20, x21, x22, x23⟩ := X2.read) | (go_at_call 9; (with_reducible refine (hP _ _ _ HO2.rdl).mono ?_); rintro e w3 ⟨v3, rfl, HO3, HB3⟩; obtain ⟨A3, c3, hv3, hr3⟩ := HO3.rd; rw [HPL.out] at hv3; subst hv3; have z3 := HB3.size; have hO3lt := HO3.lt; replace HO2 := HO2.below HB3; replace X2 := X2.below HB3; replace BB := BB.trans (HB3.mono BB.size); obtain ⟨x20, x21, x22, x23⟩ := X2.read) | (go_at_call 11; refine (num_any _ _).mono ?_; rintro e w' ⟨rfl, rfl⟩) | (go_at_call 15; (with_reducible refine (Spoil_any _ _ d w3 HO2).mono ?_); rintro e w4 ⟨rfl, HO4, HG4⟩; replace HO3 := HO3.other HO2 (fun k hk => Nat.lt_of_lt_of_le (hO2lt k hk) (by omega)) HG4; replace BB := HO2.grown BB BB.size HG4; have z4 := HG4.size) | (go_at_call 12; (with_reducible refine (hG _ _ _ HO3.rdl).mono ?_); rintro e w5 ⟨A5, c5, rfl, HO5, HB5⟩; have b5 := below_alloc w5 (.cells #[.int .i64 K, .slice A5 n c5] 29); have X5 := Bx.new w5 K (.slice A5 n c5) 29; have z5 := HB5.size; have z55 := b5.size; replace HO3 := (HO3.below HB5).below b5; replace BB := (BB.trans (HB5.mono BB.size)).alloc (BB.trans (HB5.mono BB.size)).size (.cells #[.int .i64 K, .slice A5 n c5] 29); replace HO5 := HO5.below b5) | (go_at_call 15; (with_reducible refine (Spoil_any _ _ P _ HO3).mono ?_); rintro e w6 ⟨rfl, HO6, HG6⟩; replace HO5 := HO5.other HO3 (fun k hk => Nat.lt_of_lt_of_le (hO3lt k hk) (by omega)) HG6; replace X5 := X5.grown HG6 (fun k hk => Nat.lt_of_lt_of_le (hO3lt k hk) (by omega)); replace BB := (OwB.lower (base' := w1.heap.size) HO3 (by omega)).grown BB BB.size HG6; replace hx0 := hx0.below BB; replace X0 := X0.below BB; replace B0 := B0.trans (BB.mono B0.size); obtain ⟨x50, x51, x52, x53⟩ := X5.read; obtain ⟨x00, x01, x02, x03⟩ := X0.read) | (go_at_call 14; (with_reducible refine (hS _ _ _ _ _ HO5.rdl hx0).mono ?_); rintro e w7 ⟨rfl, HB7⟩; replace B0 := B0.trans (HB7.mono B0.size)))
    go_ret
    exact ⟨rfl, B0⟩
  · have hX : putFX K d = [] := by rw [putFX, if_neg hok]
    rw [hX] at hP
    generalize putFE K d.length = z at *
    obtain ⟨n, hn⟩ : ∃ n, d.length = n := ⟨_, rfl⟩
    simp only [hn] at hOf hP X0
    rw [hn]
    rw [hn] at hx0 B0
    clear hn ld hm hpl hX hS
    obtain ⟨x00, x01, x02, x03⟩ := X0.read
    go_enter Try.func5, Try.ntmps5
    go_wp2_with (first | (go_at_call 8; refine (alive_any _).mono ?_; rintro e w1 ⟨rfl, HB1⟩; replace hx0 := hx0.below HB1; replace X0 := X0.below HB1; replace B0 := B0.trans (HB1.mono B0.size); obtain ⟨x00, x01, x02, x03⟩ := X0.read) | (go_at_call 10; (with_reducible refine (hOf _ _ _ hx0).mono ?_); rintro e w2 ⟨A2, c2, rfl, HO2, HB2⟩; have b2 := below_alloc w2 (.cells #[.int .i64 K, .slice A2 n c2] 29); have X2 := Bx.new w2 K (.slice A2 n c2) 29; replace HO2 := HO2.below b2; replace B0 := (B0.trans (HB2.mono B0.size)).alloc (B0.trans (HB2.mono B0.size)).size (.cells #[.int .i64 K, .slice A2 n c2] 29); obtain ⟨x20, x21, x22, x23⟩ := X2.read) | (go_at_call 9; (with_reducible refine (hP _ _ _ HO2.rdl).mono ?_); rintro e w3 ⟨v3, rfl, HO3, HB3⟩; obtain ⟨A3, c3, hv3, hr3⟩ := HO3.rd; subst hv3; replace B0 := B0.trans (HB3.mono B0.size)) | (go_at_call 11; refine (num_any _ _).mono ?_; rintro e w' ⟨rfl, rfl⟩))
    go_ret
    exact ⟨rfl, B0⟩
end Go.Proofs.Ytaonjbpaeloniaa
