/- What the law MergeTwice reaches besides, and its walk. -/
import Derived.Test.YthfalpibhcjpgaaMgA
set_option linter.unusedVariables false
set_option linter.unusedSimpArgs false
section
/- The walk of MergeTwice: what was thinned, thinned again by the same snapshots, stays as it is. -/
namespace Go.Proofs.Ythfalpibhcjpgaa
open Go.RowKit Go.Proofs.YthfalpibhcjpgaaW.PrintWords
set_option linter.unusedVariables false

set_option maxRecDepth 100000 in
set_option maxHeartbeats 3200000 in
theorem twice_walk (A : Option Addr) (c : Nat) (l : List Ent) (B : Option Addr) (d : Nat) (S : List Int) (b : Bool) (w : World) (hr : RdE w A c l) (hl : l.length * 48 ≤ 140737488351232) (hs : RdI w B d S) (hl2 : S.length ≤ 140737488351232) :
    Calls Try.prog 3 #[.slice A l.length c, .slice B S.length d, .bool b] w fun e w' => e = .returned (.bool true) ∧ Below w.heap.size w w' := by
  have hT := fun W (h : RdE W A c l) (h2 : RdI W B d S) => Thin_any A B c d _ _ l S b W rfl rfl h h2 hl hl2
  by_cases hz : thinErr l S = 0
  · simp only [hz, ne_eq, not_true, false_and, false_or, true_and] at hT
    have hag := thin_again l S b hz
    have htw := thn_twice S b l (ord_pw l (thin_ord l S hz).1)
    have hle := thn_len S b l hz
    obtain ⟨T, hTT⟩ : ∃ T, thn S b l = T := ⟨_, rfl⟩
    rw [hTT] at hT hag htw hle
    obtain ⟨m, hm⟩ : ∃ m, S.length = m := ⟨_, rfl⟩
    obtain ⟨n, hn⟩ : ∃ n, l.length = n := ⟨_, rfl⟩
    obtain ⟨q, hq⟩ : ∃ q, T.length = q := ⟨_, rfl⟩
    rw [hn] at hl hle
    rw [hq] at hle
    have hT2 := fun A c W (h : RdE W A c T) (h2 : RdI W B d S) => Thin_any A B c d q m T S b W hq hm h h2 (by omega) (by omega)
    simp only [hag, ne_eq, not_true, false_and, false_or, true_and] at hT2
    rw [htw] at hT2
    have hSm := fun A C c d W (h1 : RdE W A c T) (h2 : RdE W C d T) => SameE_any A C c d q T W hq h1 h2 (by omega)
    rw [hm, hn] at hT ⊢
    have HQ := hide hq
    clear hz hag htw hle hTT hm hn hq hl hl2
    go_enter Try.func3, Try.ntmps3
    go_wp2_with (first
      | (go_at_call 7; (with_reducible refine (alive_any _).mono ?_); rintro e w1 ⟨rfl, HB1⟩; have r1 := hr.below HB1; have s1 := hs.below HB1)
      | (go_at_call 8; (with_reducible refine (hT _ r1 s1).mono ?_); rintro e w2 ⟨⟨v2, rfl, O2⟩, HB2⟩; obtain ⟨A2, c2, hv2, r2⟩ := O2.rd; rw [HQ.out] at hv2; subst hv2; have C2 := stq HB1 HB2; have s2 := s1.below HB2)
      | (go_at_call 8; (with_reducible refine (hT2 _ _ _ r2 s2).mono ?_); rintro e w3 ⟨⟨v3, rfl, O3⟩, HB3⟩; obtain ⟨A3, c3, hv3, r3⟩ := O3.rd; rw [HQ.out] at hv3; subst hv3; have C3 := stq C2 HB3; have r23 := r2.below HB3)
      | (go_at_call 10; (with_reducible refine (hSm _ _ _ _ _ r3 r23).mono ?_); rintro e w4 ⟨rfl, HB4⟩; have C4 := stq C3 HB4)
      | (go_at_call 9; (with_reducible refine (num_any _ _).mono ?_); rintro e w' ⟨rfl, rfl⟩))
    go_ret
    exact ⟨by first | rfl | simp, C4⟩
  · simp only [hz, ne_eq, not_false_eq_true, true_and, false_and, or_false] at hT
    generalize thinErr l S = z at *
    have hzb : (z == 0) = false := beq_eq_false_iff_ne.2 hz
    generalize S.length = m at *
    generalize l.length = n at *
    go_enter Try.func3, Try.ntmps3
    go_wp2_with (first
      | (go_at_call 7; (with_reducible refine (alive_any _).mono ?_); rintro e w1 ⟨rfl, HB1⟩; have r1 := hr.below HB1; have s1 := hs.below HB1)
      | (go_at_call 8; (with_reducible refine (hT _ r1 s1).mono ?_); rintro e w2 ⟨rfl, HB2⟩; have C2 := stq HB1 HB2)
      | (go_at_call 9; (with_reducible refine (num_any _ _).mono ?_); rintro e w' ⟨rfl, rfl⟩))
    go_ret
    exact ⟨by first | rfl | simp, C2⟩
end Go.Proofs.Ythfalpibhcjpgaa
end
