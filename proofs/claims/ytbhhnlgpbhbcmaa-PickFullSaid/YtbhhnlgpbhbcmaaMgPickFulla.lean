/- What the law PickFull reaches besides, and its walk. -/
import Derived.Test.YtbhhnlgpbhbcmaaMgA
set_option linter.unusedVariables false
set_option linter.unusedSimpArgs false
section
/- The walk of PickFull: a level is full by its tables' versions, or by their number on the first one. -/
namespace Go.Proofs.Ytbhhnlgpbhbcmaa
open Go.RowKit Go.Proofs.YtbhhnlgpbhbcmaaW.PrintWords
set_option linter.unusedVariables false

theorem fulls_in (l : List Met) : inL (fullsK l 3) 0 = fullM 0 l ∧ inL (fullsK l 3) 1 = fullM 1 l ∧ inL (fullsK l 3) 2 = fullM 2 l ∧ inL (fullsK l 3) 3 = false := by
  simp only [fullsK, inL]
  cases h0 : fullM 0 l <;> cases h1 : fullM 1 l <;> cases h2 : fullM 2 l <;> simp
theorem at_next (lv : Int) (l : List Met) (k : Nat) (h : k < l.length) : atM lv (l.take (k + 1)) = atM lv (l.take k) ++ (if (l.getD k zMet).2.1 = lv then [l.getD k zMet] else []) := by
  rw [take_next l k h, atM, List.filter_append]
  congr 1
  by_cases h2 : (l.getD k zMet).2.1 = lv
  · rw [if_pos h2, List.filter_cons_of_pos (by simpa using h2)]; rfl
  · rw [if_neg h2, List.filter_cons_of_neg (by simpa using h2)]; rfl
def cntK (l : List Met) (k : Nat) : Nat := (atM 0 (l.take k)).length
def sumK (lv : Int) (l : List Met) (k : Nat) : Int := sumC (atM lv (l.take k))
theorem cnt_next (l : List Met) (k : Nat) (h : k < l.length) : cntK l (k + 1) = cntK l k + (if (l.getD k zMet).2.1 = 0 then 1 else 0) := by
  rw [cntK, at_next 0 l k h, List.length_append]
  by_cases h2 : (l.getD k zMet).2.1 = 0
  · rw [if_pos h2, if_pos h2]; rfl
  · rw [if_neg h2, if_neg h2]; rfl
theorem sum_next (lv : Int) (l : List Met) (k : Nat) (h : k < l.length) : sumK lv l (k + 1) = sumK lv l k + (if (l.getD k zMet).2.1 = lv then (l.getD k zMet).2.2.1 else 0) := by
  rw [sumK, at_next lv l k h, sumC_app]
  by_cases h2 : (l.getD k zMet).2.1 = lv
  · rw [if_pos h2, if_pos h2]; simp [sumK, sumC]
  · rw [if_neg h2, if_neg h2]; simp [sumK, sumC]
theorem sumK_bd (lv : Int) (l : List Met) (k : Nat) (hc : ∀ x ∈ l, 0 ≤ x.2.2.1 ∧ x.2.2.1 ≤ 4096) (hl : l.length ≤ 256) : 0 ≤ sumK lv l k ∧ sumK lv l k ≤ 1048576 := by
  have h := sumC_bd (atM lv (l.take k)) (fun x hx => hc x (List.mem_of_mem_take (List.mem_filter.1 hx).1))
  have h2 := atM_len lv (l.take k)
  rw [List.length_take] at h2
  rw [sumK]
  omega
theorem add_w (a b : Int) (h : 0 ≤ a + b) (h2 : a + b ≤ 1048576) : wrap64 (a + b) = a + b ∧ IntKind.i64.wrap (a + b) = a + b := ⟨by unfold wrap64; omega, by rw [IntKind.wrap_i64]; omega⟩
/-- the page's version in its variable -/
def Tr (W : World) (g : Nat) (A : Option Addr) (n c : Nat) (seq nx : Int) : Prop := W.heap[g]? = some (.cells #[.slice A n c, .int .i64 seq, .int .i64 nx] 24 (0, 0))
theorem Tr.read {W : World} {g : Nat} {A : Option Addr} {n c : Nat} {seq nx : Int} (h : Tr W g A n c seq nx) : W.cell? ⟨g, 0, none⟩ = some (.slice A n c) ∧ W.cell? ⟨g, 1, none⟩ = some (.int .i64 seq) ∧ W.cell? ⟨g, 2, none⟩ = some (.int .i64 nx) := ⟨blk_cell h 0, blk_cell h 1, blk_cell h 2⟩
theorem Tr.below {W W' : World} {g : Nat} {A : Option Addr} {n c : Nat} {seq nx : Int} (h : Tr W g A n c seq nx) (hb : Below W.heap.size W W') : Tr W' g A n c seq nx := blk_below h hb
abbrev verR (A : Option Addr) (n c : Nat) (seq nx : Int) : Obj := .cells #[.slice A n c, .int .i64 seq, .int .i64 nx] 24
set_option maxRecDepth 100000 in
set_option maxHeartbeats 6400000 in
theorem full_walk (A : Option Addr) (c : Nat) (l : List Met) (seq nx : Int) (w : World) (hr : RdM w A c l) (hf : ∀ x ∈ l, fitI x.1) (hl : l.length * 56 ≤ 140737488351232) :
    Calls Try.prog 5 #[verV A l.length c seq nx] w fun e w' => e = .returned (.bool true) ∧ Below w.heap.size w w' := by
  obtain ⟨n, hn⟩ : ∃ n, l.length = n := ⟨_, rfl⟩
  rw [hn]
  have b0 := below_alloc w (verR A n c seq nx)
  have T0 : Tr (w.alloc (verR A n c seq nx)) w.heap.size A n c seq nx := heap_alloc_new w (verR A n c seq nx)
  have hOf := fun W (h : RdM W A c l) => Of_any A c n seq nx l W hn h hl
  have hFl := fun A c W (h : RdM W A c l) => Full_any A c n seq nx l W hn h hf hl
  have r0 := hr.below b0
  have HN := hide hn
  by_cases hz : chkM l seq nx = 0
  · simp only [hz, ne_eq, not_true, false_and, false_or, true_and] at hFl
    have hcn : ∀ x ∈ l, 0 ≤ x.2.2.1 ∧ x.2.2.1 ≤ 4096 := fun x hx => may_cnt x (chk_may l seq nx hz x hx)
    have h256 := (chk_facts l seq nx hz).1
    have hn256 : n ≤ 256 := by rw [← hn]; exact h256
    have hSB := fun lv k => sumK_bd lv l k hcn h256
    have hCB : ∀ k, cntK l k ≤ 256 := fun k => by have h2 := atM_len 0 (l.take k); rw [List.length_take] at h2; rw [cntK]; omega
    obtain ⟨i0, i1, i2, i3⟩ := fulls_in l
    have hfl := fullsK_len l 3
    have hIn := fun A c m z W (hm : (fullsK l 3).length = m) (h : RdI W A c (fullsK l 3)) => in_any A c m (fullsK l 3) z W hm h (by omega)
    have E0 : Hid (fullM 0 l = decide (4 ≤ cntK l n)) := hide (by rw [cntK, ← hn, List.take_length]; rfl)
    have E1 : Hid (fullM 1 l = decide (128 < sumK 1 l n)) := hide (by rw [sumK, ← hn, List.take_length]; rfl)
    have E2 : Hid (fullM 2 l = decide (512 < sumK 2 l n)) := hide (by rw [sumK, ← hn, List.take_length]; rfl)
    have hIn0 := fun A c m W hm h => hIn A c m 0 W hm h
    have hIn1 := fun A c m W hm h => hIn A c m 1 W hm h
    have hIn2 := fun A c m W hm h => hIn A c m 2 W hm h
    have hIn3 := fun A c m W hm h => hIn A c m 3 W hm h
    rw [i0] at hIn0
    rw [i1] at hIn1
    rw [i2] at hIn2
    rw [i3] at hIn3
    clear hIn i0 i1 i2 i3 hr hf hl hz hn h256 hcn
    generalize fullM 0 l = F0 at *
    generalize fullM 1 l = F1 at *
    generalize fullM 2 l = F2 at *
    generalize fullsK l 3 = FS at *
    have HSB := hide hSB
    have HCB := hide hCB
    clear hSB hCB
    go_enter Try.func5, Try.ntmps5
    go_wp2_with (first | (go_at_call 8; refine (alive_any _).mono ?_; rintro e w1 ⟨rfl, HB1⟩; have C1 := stq b0 HB1; have r1 := r0.below HB1; have T1 := T0.below HB1; obtain ⟨t10, t11, t12⟩ := T1.read) | (go_at_call 11; refine (num_any _ _).mono ?_; rintro e w' ⟨rfl, rfl⟩) | (go_at_call 10; (with_reducible refine (hOf _ r1).mono ?_); rintro e w2 ⟨A2, c2, rfl, O2, HB2⟩; have C2 := stq C1 HB2) | (go_at_call 14; (with_reducible refine (hFl _ _ _ O2.rdl).mono ?_); rintro e w3 ⟨⟨v3, rfl, O3⟩, HB3⟩; obtain ⟨A3, c3, hv3, ri3⟩ := O3.rd; obtain ⟨m3, hm3⟩ : ∃ m, FS.length = m := ⟨_, rfl⟩; rw [hm3] at hv3 hfl; subst hv3; have C3 := stq C2 HB3; have H23 := stq HB2 HB3; have r3 := r1.below H23; have T3 := T1.below H23; obtain ⟨t30, t31, t32⟩ := T3.read))
    go_loopw [5, 6, 7, 8] (fun av bv cv iv wr => ∃ k : Nat, k ≤ n ∧ iv = .int .i64 (k : Int) ∧ av = .int .i64 (cntK l k : Int) ∧ bv = .int .i64 (sumK 1 l k) ∧ cv = .int .i64 (sumK 2 l k) ∧ wr = w3) (fun av bv cv iv _ => n - (intOf iv).toNat)
    case atStart => exact ⟨0, Nat.zero_le _, rfl, rfl, rfl, rfl, rfl⟩
    case round =>
      obtain ⟨k, hk, rfl, rfl, rfl, rfl, rfl⟩ := hrel
      by_cases hlt : k < n
      · have hlti : (k : Int) < (n : Int) := Int.ofNat_lt.2 hlt
        obtain ⟨hw1, hw2⟩ := idx_w n k hlt (by omega)
        obtain ⟨ad, rfl, x0, x1, x2, x3, x4⟩ := RdM.at5 r3 k (by rw [HN.out]; exact hlt)
        have N0 := cnt_next l k (by rw [HN.out]; exact hlt)
        have N1 := sum_next 1 l k (by rw [HN.out]; exact hlt)
        have N2 := sum_next 2 l k (by rw [HN.out]; exact hlt)
        have c0 := HCB.out (k + 1)
        have c1 := HSB.out 1 (k + 1)
        have c2' := HSB.out 2 (k + 1)
        obtain ⟨y, hy⟩ : ∃ y, l.getD k zMet = y := ⟨_, rfl⟩
        rw [hy] at x0 x1 x2 x3 x4 N0 N1 N2
        rw [N0] at c0
        rw [N1] at c1
        rw [N2] at c2'
        have M0 := hide N0
        have M1 := hide N1
        have M2 := hide N2
        clear N0 N1 N2 hy
        generalize cntK l k = a at *
        generalize sumK 1 l k = b at *
        generalize sumK 2 l k = d at *
        obtain ⟨lev, hlev⟩ : ∃ z, y.2.1 = z := ⟨_, rfl⟩
        rw [hlev] at x1 M0 M1 M2 c0 c1 c2'
        clear hlev
        by_cases h0 : lev = 0
        · subst h0
          have q0 := M0.out
          have q1 := M1.out
          have q2 := M2.out
          rw [if_pos rfl] at q0 c0
          rw [if_neg (by decide), Int.add_zero] at q1 q2
          have Q0 := hide q0
          have Q1 := hide q1
          have Q2 := hide q2
          obtain ⟨w5, w6⟩ := idx_w 257 a (by omega) (by decide)
          clear q0 q1 q2 c0 c1 c2'
          go_wp2
          go_roundw
          case rel => exact ⟨k + 1, hlt, by go_num, by rw [Q0.out]; go_num, by rw [Q1.out], by rw [Q2.out], by first | rfl | trivial⟩
          case measure => first | exact idx_m n k hlt | exact idx_m2 n k hlt | exact idx_m3 n k hlt hw1
        · have h0b : (lev == 0) = false := beq_eq_false_iff_ne.2 h0
          by_cases h1 : lev = 1
          · subst h1
            have q0 := M0.out
            have q1 := M1.out
            have q2 := M2.out
            rw [if_neg (by decide), Nat.add_zero] at q0
            rw [if_pos rfl] at q1 c1
            rw [if_neg (by decide), Int.add_zero] at q2
            have Q0 := hide q0
            have Q1 := hide q1
            have Q2 := hide q2
            obtain ⟨w5, w6⟩ := add_w b y.2.2.1 c1.1 c1.2
            clear q0 q1 q2 c0 c1 c2'
            go_wp2
            go_roundw
            case rel => exact ⟨k + 1, hlt, by go_num, by rw [Q0.out]; first | done | rfl, by rw [Q1.out], by rw [Q2.out], by first | rfl | trivial⟩
            case measure => first | exact idx_m n k hlt | exact idx_m2 n k hlt | exact idx_m3 n k hlt hw1
          · have h1b : (lev == 1) = false := beq_eq_false_iff_ne.2 h1
            by_cases h2 : lev = 2
            · subst h2
              have q0 := M0.out
              have q1 := M1.out
              have q2 := M2.out
              rw [if_neg (by decide), Nat.add_zero] at q0
              rw [if_neg (by decide), Int.add_zero] at q1
              rw [if_pos rfl] at q2 c2'
              have Q0 := hide q0
              have Q1 := hide q1
              have Q2 := hide q2
              obtain ⟨w5, w6⟩ := add_w d y.2.2.1 c2'.1 c2'.2
              clear q0 q1 q2 c0 c1 c2'
              go_wp2
              go_roundw
              case rel => exact ⟨k + 1, hlt, by go_num, by rw [Q0.out]; first | done | rfl, by rw [Q1.out], by rw [Q2.out], by first | rfl | trivial⟩
              case measure => first | exact idx_m n k hlt | exact idx_m2 n k hlt | exact idx_m3 n k hlt hw1
            · have h2b : (lev == 2) = false := beq_eq_false_iff_ne.2 h2
              have q0 := M0.out
              have q1 := M1.out
              have q2 := M2.out
              rw [if_neg h0, Nat.add_zero] at q0
              rw [if_neg h1, Int.add_zero] at q1
              rw [if_neg h2, Int.add_zero] at q2
              have Q0 := hide q0
              have Q1 := hide q1
              have Q2 := hide q2
              clear q0 q1 q2 c0 c1 c2'
              go_wp2
              go_roundw
              case rel => exact ⟨k + 1, hlt, by go_num, by rw [Q0.out]; first | done | rfl, by rw [Q1.out], by rw [Q2.out], by first | rfl | trivial⟩
              case measure => first | exact idx_m n k hlt | exact idx_m2 n k hlt | exact idx_m3 n k hlt hw1
      · obtain rfl : k = n := Nat.le_antisymm hk (Nat.not_lt.1 hlt)
        have e0 := E0.out
        have e1 := E1.out
        have e2 := E2.out
        have rr := O3.rdl
        have hm3i : (m3 : Int) ≤ 3 := by omega
        generalize cntK l k = a at *
        generalize sumK 1 l k = b at *
        generalize sumK 2 l k = d at *
        by_cases g0 : 4 ≤ a <;> by_cases g1 : 128 < b <;> by_cases g2 : 512 < d
        all_goals (
          first | rw [decide_eq_true g0] at e0 | rw [decide_eq_false g0] at e0
          first | rw [decide_eq_true g1] at e1 | rw [decide_eq_false g1] at e1
          first | rw [decide_eq_true g2] at e2 | rw [decide_eq_false g2] at e2
          subst e0
          subst e1
          subst e2
          first | have g0i : (4 : Int) ≤ (a : Int) := Int.ofNat_le.2 g0 | have g0i : ¬ (4 : Int) ≤ (a : Int) := fun h => g0 (Int.ofNat_le.1 h)
          go_wp2_with (first | (go_at_call 13; (first | (with_reducible refine (hIn0 _ _ _ _ hm3 rr).mono ?_) | (with_reducible refine (hIn1 _ _ _ _ hm3 rr).mono ?_) | (with_reducible refine (hIn2 _ _ _ _ hm3 rr).mono ?_) | (with_reducible refine (hIn3 _ _ _ _ hm3 rr).mono ?_)); rintro e w' ⟨rfl, rfl⟩))
          go_ret
          exact ⟨by first | rfl | (simp; done) | (simp; omega), C3⟩)
  · simp only [hz, ne_eq, not_false_eq_true, true_and, false_and, or_false] at hFl
    generalize chkM l seq nx = z at *
    have hzb : (z == 0) = false := beq_eq_false_iff_ne.2 hz
    clear hr hf hl hn
    go_enter Try.func5, Try.ntmps5
    go_wp2_with (first | (go_at_call 8; refine (alive_any _).mono ?_; rintro e w1 ⟨rfl, HB1⟩; have C1 := stq b0 HB1; have r1 := r0.below HB1; have T1 := T0.below HB1; obtain ⟨t10, t11, t12⟩ := T1.read) | (go_at_call 11; refine (num_any _ _).mono ?_; rintro e w' ⟨rfl, rfl⟩) | (go_at_call 10; (with_reducible refine (hOf _ r1).mono ?_); rintro e w2 ⟨A2, c2, rfl, O2, HB2⟩; have C2 := stq C1 HB2) | (go_at_call 14; (with_reducible refine (hFl _ _ _ O2.rdl).mono ?_); rintro e w3 ⟨rfl, HB3⟩; have C3 := stq C2 HB3))
    go_ret
    exact ⟨by first | rfl | simp, C3⟩
end Go.Proofs.Ytbhhnlgpbhbcmaa
end
