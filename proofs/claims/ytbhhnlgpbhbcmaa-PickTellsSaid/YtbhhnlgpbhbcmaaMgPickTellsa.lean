/- What the law PickTells reaches besides, and its walk. -/
import Derived.Test.YtbhhnlgpbhbcmaaMgA
import Derived.StillTailTactics
set_option linter.unusedVariables false
set_option linter.unusedSimpArgs false
section
/- The walk of PickFull: a level is full by its tables' versions, or by their number on the first one. -/
namespace Go.Proofs.Ytbhhnlgpbhbcmaa
open Go.RowKit Go.Proofs.YtbhhnlgpbhbcmaaW.PrintWords
set_option linter.unusedVariables false

theorem fulls_in (l : List Met) : inL (fullsK l 3) 0 = fullM 0 l ∧ inL (fullsK l 3) 1 = fullM 1 l ∧ inL (fullsK l 3) 2 = fullM 2 l ∧ inL (fullsK l 3) 3 = false := by
  simp only [fullsK, inL]
  cases h0 : fullM 0 l <;> cases h1 : fullM 1 l <;> cases h2 : fullM 2 l <;> simp
theorem at_next (lv : Int) (l : List Met) (k : Nat) (h : k < l.length) : atM lv (l.take (k + 1)) = atM lv (l.take k) ++ (if (l.getD k zMet).2.1 = lv then [l.getD k zMet] else []) := by
  rw [take_next l k h, atM, List.filter_append]
  congr 1
  by_cases h2 : (l.getD k zMet).2.1 = lv
  · rw [if_pos h2, List.filter_cons_of_pos (by simpa using h2)]; rfl
  · rw [if_neg h2, List.filter_cons_of_neg (by simpa using h2)]; rfl
def cntK (l : List Met) (k : Nat) : Nat := (atM 0 (l.take k)).length
def sumK (lv : Int) (l : List Met) (k : Nat) : Int := sumC (atM lv (l.take k))
theorem cnt_next (l : List Met) (k : Nat) (h : k < l.length) : cntK l (k + 1) = cntK l k + (if (l.getD k zMet).2.1 = 0 then 1 else 0) := by
  rw [cntK, at_next 0 l k h, List.length_append]
  by_cases h2 : (l.getD k zMet).2.1 = 0
  · rw [if_pos h2, if_pos h2]; rfl
  · rw [if_neg h2, if_neg h2]; rfl
theorem sum_next (lv : Int) (l : List Met) (k : Nat) (h : k < l.length) : sumK lv l (k + 1) = sumK lv l k + (if (l.getD k zMet).2.1 = lv then (l.getD k zMet).2.2.1 else 0) := by
  rw [sumK, at_next lv l k h, sumC_app]
  by_cases h2 : (l.getD k zMet).2.1 = lv
  · rw [if_pos h2, if_pos h2]; simp [sumK, sumC]
  · rw [if_neg h2, if_neg h2]; simp [sumK, sumC]
theorem sumK_bd (lv : Int) (l : List Met) (k : Nat) (hc : ∀ x ∈ l, 0 ≤ x.2.2.1 ∧ x.2.2.1 ≤ 4096) (hl : l.length ≤ 256) : 0 ≤ sumK lv l k ∧ sumK lv l k ≤ 1048576 := by
  have h := sumC_bd (atM lv (l.take k)) (fun x hx => hc x (List.mem_of_mem_take (List.mem_filter.1 hx).1))
  have h2 := atM_len lv (l.take k)
  rw [List.length_take] at h2
  rw [sumK]
  omega
theorem add_w (a b : Int) (h : 0 ≤ a + b) (h2 : a + b ≤ 1048576) : wrap64 (a + b) = a + b ∧ IntKind.i64.wrap (a + b) = a + b := ⟨by unfold wrap64; omega, by rw [IntKind.wrap_i64]; omega⟩
/-- the page's version in its variable -/
def Tr (W : World) (g : Nat) (A : Option Addr) (n c : Nat) (seq nx : Int) : Prop := W.heap[g]? = some (.cells #[.slice A n c, .int .i64 seq, .int .i64 nx] 24 (0, 0))
theorem Tr.read {W : World} {g : Nat} {A : Option Addr} {n c : Nat} {seq nx : Int} (h : Tr W g A n c seq nx) : W.cell? ⟨g, 0, none⟩ = some (.slice A n c) ∧ W.cell? ⟨g, 1, none⟩ = some (.int .i64 seq) ∧ W.cell? ⟨g, 2, none⟩ = some (.int .i64 nx) := ⟨blk_cell h 0, blk_cell h 1, blk_cell h 2⟩
theorem Tr.below {W W' : World} {g : Nat} {A : Option Addr} {n c : Nat} {seq nx : Int} (h : Tr W g A n c seq nx) (hb : Below W.heap.size W W') : Tr W' g A n c seq nx := blk_below h hb
abbrev verR (A : Option Addr) (n c : Nat) (seq nx : Int) : Obj := .cells #[.slice A n c, .int .i64 seq, .int .i64 nx] 24
set_option maxRecDepth 100000 in
set_option maxHeartbeats 6400000 in
theorem full_walk (A : Option Addr) (c : Nat) (l : List Met) (seq nx : Int) (w : World) (hr : RdM w A c l) (hf : ∀ x ∈ l, fitI x.1) (hl : l.length * 56 ≤ 140737488351232) :
    Calls Try.prog 5 #[verV A l.length c seq nx] w fun e w' => e = .returned (.bool true) ∧ Below w.heap.size w w' := by
  obtain ⟨n, hn⟩ : ∃ n, l.length = n := ⟨_, rfl⟩
  rw [hn]
  have b0 := below_alloc w (verR A n c seq nx)
  have T0 : Tr (w.alloc (verR A n c seq nx)) w.heap.size A n c seq nx := heap_alloc_new w (verR A n c seq nx)
  have hOf := fun W (h : RdM W A c l) => Of_any A c n seq nx l W hn h hl
  have hFl := fun A c W (h : RdM W A c l) => Full_any A c n seq nx l W hn h hf hl
  have r0 := hr.below b0
  have HN := hide hn
  by_cases hz : chkM l seq nx = 0
  · simp only [hz, ne_eq, not_true, false_and, false_or, true_and] at hFl
    have hcn : ∀ x ∈ l, 0 ≤ x.2.2.1 ∧ x.2.2.1 ≤ 4096 := fun x hx => may_cnt x (chk_may l seq nx hz x hx)
    have h256 := (chk_facts l seq nx hz).1
    have hn256 : n ≤ 256 := by rw [← hn]; exact h256
    have hSB := fun lv k => sumK_bd lv l k hcn h256
    have hCB : ∀ k, cntK l k ≤ 256 := fun k => by have h2 := atM_len 0 (l.take k); rw [List.length_take] at h2; rw [cntK]; omega
    obtain ⟨i0, i1, i2, i3⟩ := fulls_in l
    have hfl := fullsK_len l 3
    have hIn := fun A c m z W (hm : (fullsK l 3).length = m) (h : RdI W A c (fullsK l 3)) => in_any A c m (fullsK l 3) z W hm h (by omega)
    have E0 : Hid (fullM 0 l = decide (4 ≤ cntK l n)) := hide (by rw [cntK, ← hn, List.take_length]; rfl)
    have E1 : Hid (fullM 1 l = decide (128 < sumK 1 l n)) := hide (by rw [sumK, ← hn, List.take_length]; rfl)
    have E2 : Hid (fullM 2 l = decide (512 < sumK 2 l n)) := hide (by rw [sumK, ← hn, List.take_length]; rfl)
    have hIn0 := fun A c m W hm h => hIn A c m 0 W hm h
    have hIn1 := fun A c m W hm h => hIn A c m 1 W hm h
    have hIn2 := fun A c m W hm h => hIn A c m 2 W hm h
    have hIn3 := fun A c m W hm h => hIn A c m 3 W hm h
    rw [i0] at hIn0
    rw [i1] at hIn1
    rw [i2] at hIn2
    rw [i3] at hIn3
    clear hIn i0 i1 i2 i3 hr hf hl hz hn h256 hcn
    generalize fullM 0 l = F0 at *
    generalize fullM 1 l = F1 at *
    generalize fullM 2 l = F2 at *
    generalize fullsK l 3 = FS at *
    have HSB := hide hSB
    have HCB := hide hCB
    clear hSB hCB
    go_enter Try.func5, Try.ntmps5
    go_wp2_with (first | (go_at_call 8; refine (alive_any _).mono ?_; rintro e w1 ⟨rfl, HB1⟩; have C1 := stq b0 HB1; have r1 := r0.below HB1; have T1 := T0.below HB1; obtain ⟨t10, t11, t12⟩ := T1.read) | (go_at_call 11; refine (num_any _ _).mono ?_; rintro e w' ⟨rfl, rfl⟩) | (go_at_call 10; (with_reducible refine (hOf _ r1).mono ?_); rintro e w2 ⟨A2, c2, rfl, O2, HB2⟩; have C2 := stq C1 HB2) | (go_at_call 14; (with_reducible refine (hFl _ _ _ O2.rdl).mono ?_); rintro e w3 ⟨⟨v3, rfl, O3⟩, HB3⟩; obtain ⟨A3, c3, hv3, ri3⟩ := O3.rd; obtain ⟨m3, hm3⟩ : ∃ m, FS.length = m := ⟨_, rfl⟩; rw [hm3] at hv3 hfl; subst hv3; have C3 := stq C2 HB3; have H23 := stq HB2 HB3; have r3 := r1.below H23; have T3 := T1.below H23; obtain ⟨t30, t31, t32⟩ := T3.read))
    go_loopw [5, 6, 7, 8] (fun av bv cv iv wr => ∃ k : Nat, k ≤ n ∧ iv = .int .i64 (k : Int) ∧ av = .int .i64 (cntK l k : Int) ∧ bv = .int .i64 (sumK 1 l k) ∧ cv = .int .i64 (sumK 2 l k) ∧ wr = w3) (fun av bv cv iv _ => n - (intOf iv).toNat)
    case atStart => exact ⟨0, Nat.zero_le _, rfl, rfl, rfl, rfl, rfl⟩
    case round =>
      obtain ⟨k, hk, rfl, rfl, rfl, rfl, rfl⟩ := hrel
      by_cases hlt : k < n
      · have hlti : (k : Int) < (n : Int) := Int.ofNat_lt.2 hlt
        obtain ⟨hw1, hw2⟩ := idx_w n k hlt (by omega)
        obtain ⟨ad, rfl, x0, x1, x2, x3, x4⟩ := RdM.at5 r3 k (by rw [HN.out]; exact hlt)
        have N0 := cnt_next l k (by rw [HN.out]; exact hlt)
        have N1 := sum_next 1 l k (by rw [HN.out]; exact hlt)
        have N2 := sum_next 2 l k (by rw [HN.out]; exact hlt)
        have c0 := HCB.out (k + 1)
        have c1 := HSB.out 1 (k + 1)
        have c2' := HSB.out 2 (k + 1)
        obtain ⟨y, hy⟩ : ∃ y, l.getD k zMet = y := ⟨_, rfl⟩
        rw [hy] at x0 x1 x2 x3 x4 N0 N1 N2
        rw [N0] at c0
        rw [N1] at c1
        rw [N2] at c2'
        have M0 := hide N0
        have M1 := hide N1
        have M2 := hide N2
        clear N0 N1 N2 hy
        generalize cntK l k = a at *
        generalize sumK 1 l k = b at *
        generalize sumK 2 l k = d at *
        obtain ⟨lev, hlev⟩ : ∃ z, y.2.1 = z := ⟨_, rfl⟩
        rw [hlev] at x1 M0 M1 M2 c0 c1 c2'
        clear hlev
        by_cases h0 : lev = 0
        · subst h0
          have q0 := M0.out
          have q1 := M1.out
          have q2 := M2.out
          rw [if_pos rfl] at q0 c0
          rw [if_neg (by decide), Int.add_zero] at q1 q2
          have Q0 := hide q0
          have Q1 := hide q1
          have Q2 := hide q2
          obtain ⟨w5, w6⟩ := idx_w 257 a (by omega) (by decide)
          clear q0 q1 q2 c0 c1 c2'
          go_wp2
          go_roundw
          case rel => exact ⟨k + 1, hlt, by go_num, by rw [Q0.out]; go_num, by rw [Q1.out], by rw [Q2.out], by first | rfl | trivial⟩
          case measure => first | exact idx_m n k hlt | exact idx_m2 n k hlt | exact idx_m3 n k hlt hw1
        · have h0b : (lev == 0) = false := beq_eq_false_iff_ne.2 h0
          by_cases h1 : lev = 1
          · subst h1
            have q0 := M0.out
            have q1 := M1.out
            have q2 := M2.out
            rw [if_neg (by decide), Nat.add_zero] at q0
            rw [if_pos rfl] at q1 c1
            rw [if_neg (by decide), Int.add_zero] at q2
            have Q0 := hide q0
            have Q1 := hide q1
            have Q2 := hide q2
            obtain ⟨w5, w6⟩ := add_w b y.2.2.1 c1.1 c1.2
            clear q0 q1 q2 c0 c1 c2'
            go_wp2
            go_roundw
            case rel => exact ⟨k + 1, hlt, by go_num, by rw [Q0.out]; first | done | rfl, by rw [Q1.out], by rw [Q2.out], by first | rfl | trivial⟩
            case measure => first | exact idx_m n k hlt | exact idx_m2 n k hlt | exact idx_m3 n k hlt hw1
          · have h1b : (lev == 1) = false := beq_eq_false_iff_ne.2 h1
            by_cases h2 : lev = 2
            · subst h2
              have q0 := M0.out
              have q1 := M1.out
              have q2 := M2.out
              rw [if_neg (by decide), Nat.add_zero] at q0
              rw [if_neg (by decide), Int.add_zero] at q1
              rw [if_pos rfl] at q2 c2'
              have Q0 := hide q0
              have Q1 := hide q1
              have Q2 := hide q2
              obtain ⟨w5, w6⟩ := add_w d y.2.2.1 c2'.1 c2'.2
              clear q0 q1 q2 c0 c1 c2'
              go_wp2
              go_roundw
              case rel => exact ⟨k + 1, hlt, by go_num, by rw [Q0.out]; first | done | rfl, by rw [Q1.out], by rw [Q2.out], by first | rfl | trivial⟩
              case measure => first | exact idx_m n k hlt | exact idx_m2 n k hlt | exact idx_m3 n k hlt hw1
            · have h2b : (lev == 2) = false := beq_eq_false_iff_ne.2 h2
              have q0 := M0.out
              have q1 := M1.out
              have q2 := M2.out
              rw [if_neg h0, Nat.add_zero] at q0
              rw [if_neg h1, Int.add_zero] at q1
              rw [if_neg h2, Int.add_zero] at q2
              have Q0 := hide q0
              have Q1 := hide q1
              have Q2 := hide q2
              clear q0 q1 q2 c0 c1 c2'
              go_wp2
              go_roundw
              case rel => exact ⟨k + 1, hlt, by go_num, by rw [Q0.out]; first | done | rfl, by rw [Q1.out], by rw [Q2.out], by first | rfl | trivial⟩
              case measure => first | exact idx_m n k hlt | exact idx_m2 n k hlt | exact idx_m3 n k hlt hw1
      · obtain rfl : k = n := Nat.le_antisymm hk (Nat.not_lt.1 hlt)
        have e0 := E0.out
        have e1 := E1.out
        have e2 := E2.out
        have rr := O3.rdl
        have hm3i : (m3 : Int) ≤ 3 := by omega
        generalize cntK l k = a at *
        generalize sumK 1 l k = b at *
        generalize sumK 2 l k = d at *
        by_cases g0 : 4 ≤ a <;> by_cases g1 : 128 < b <;> by_cases g2 : 512 < d
        all_goals (
          first | rw [decide_eq_true g0] at e0 | rw [decide_eq_false g0] at e0
          first | rw [decide_eq_true g1] at e1 | rw [decide_eq_false g1] at e1
          first | rw [decide_eq_true g2] at e2 | rw [decide_eq_false g2] at e2
          subst e0
          subst e1
          subst e2
          first | have g0i : (4 : Int) ≤ (a : Int) := Int.ofNat_le.2 g0 | have g0i : ¬ (4 : Int) ≤ (a : Int) := fun h => g0 (Int.ofNat_le.1 h)
          go_wp2_with (first | (go_at_call 13; (first | (with_reducible refine (hIn0 _ _ _ _ hm3 rr).mono ?_) | (with_reducible refine (hIn1 _ _ _ _ hm3 rr).mono ?_) | (with_reducible refine (hIn2 _ _ _ _ hm3 rr).mono ?_) | (with_reducible refine (hIn3 _ _ _ _ hm3 rr).mono ?_)); rintro e w' ⟨rfl, rfl⟩))
          go_ret
          exact ⟨by first | rfl | (simp; done) | (simp; omega), C3⟩)
  · simp only [hz, ne_eq, not_false_eq_true, true_and, false_and, or_false] at hFl
    generalize chkM l seq nx = z at *
    have hzb : (z == 0) = false := beq_eq_false_iff_ne.2 hz
    clear hr hf hl hn
    go_enter Try.func5, Try.ntmps5
    go_wp2_with (first | (go_at_call 8; refine (alive_any _).mono ?_; rintro e w1 ⟨rfl, HB1⟩; have C1 := stq b0 HB1; have r1 := r0.below HB1; have T1 := T0.below HB1; obtain ⟨t10, t11, t12⟩ := T1.read) | (go_at_call 11; refine (num_any _ _).mono ?_; rintro e w' ⟨rfl, rfl⟩) | (go_at_call 10; (with_reducible refine (hOf _ r1).mono ?_); rintro e w2 ⟨A2, c2, rfl, O2, HB2⟩; have C2 := stq C1 HB2) | (go_at_call 14; (with_reducible refine (hFl _ _ _ O2.rdl).mono ?_); rintro e w3 ⟨rfl, HB3⟩; have C3 := stq C2 HB3))
    go_ret
    exact ⟨by first | rfl | simp, C3⟩
end Go.Proofs.Ytbhhnlgpbhbcmaa
end

section
/- The table with most versions. -/
namespace Go.Proofs.Ytbhhnlgpbhbcmaa
open Go.RowKit Go.Proofs.YtbhhnlgpbhbcmaaW.PrintWords
set_option linter.unusedVariables false

/-- the first of the greatest counts, of the first k + 1 -/
def bestM (L : List Met) : Nat → Met
  | 0 => L.getD 0 zMet
  | k + 1 => if (bestM L k).2.2.1 < (L.getD (k + 1) zMet).2.2.1 then L.getD (k + 1) zMet else bestM L k
def maxM (L : List Met) : Met := bestM L (L.length - 1)
theorem bestM_mem (L : List Met) (k : Nat) (h : k < L.length) : bestM L k ∈ L := by
  have at_ : ∀ j, j < L.length → L.getD j zMet ∈ L := fun j hj => by
    rw [List.getD_eq_getElem?_getD, List.getElem?_eq_getElem hj]; exact List.getElem_mem hj
  induction k with
  | zero => exact at_ 0 h
  | succ k ih =>
    rw [bestM]
    split
    · exact at_ _ h
    · exact ih (by omega)
theorem cmpI_pos (a b : Int) : decide (0 < Lib.compareInt a b) = decide (b < a) := by
  rcases Int.lt_trichotomy a b with h | h | h
  · rw [cmpI_lt h]; exact (decide_eq_false (by omega)).symm
  · rw [h, cmpI_eq]; exact (decide_eq_false (Int.lt_irrefl _)).symm
  · rw [cmpI_gt h]; exact (decide_eq_true h).symm
set_option maxRecDepth 100000 in
set_option maxHeartbeats 1600000 in
theorem cc_any (x y : Met) (w : World) : Calls Try.prog 24 #[mbv x, mbv y] w fun e w' => e = .returned (.int .i64 (Lib.compareInt x.2.2.1 y.2.2.1)) ∧ Below w.heap.size w w' := by
  obtain ⟨i1, v1, c1, lo1, hi1⟩ := x
  obtain ⟨i2, v2, c2, lo2, hi2⟩ := y
  have hX := Mb.new w (i1, v1, c1, lo1, hi1)
  have bY := below_alloc (w.alloc (mbo (i1, v1, c1, lo1, hi1))) (mbo (i2, v2, c2, lo2, hi2))
  have hX2 := hX.below bY
  have hY := Mb.new (w.alloc (mbo (i1, v1, c1, lo1, hi1))) (i2, v2, c2, lo2, hi2)
  have HB := stq (below_alloc w (mbo (i1, v1, c1, lo1, hi1))) bY
  have hs1 : (w.alloc (mbo (i1, v1, c1, lo1, hi1))).heap.size = w.heap.size + 1 := World.size_alloc _ _
  obtain ⟨x0, x1, x2, x3, x4⟩ := hX2.read
  obtain ⟨y0, y1, y2, y3, y4⟩ := hY.read
  rw [hs1] at y0 y1 y2 y3 y4
  have hC1 := fun W => cmp_Compare_int c1 c2 W
  clear hX hY hX2 bY hs1
  show Calls _ _ _ _ fun e w' => e = .returned (.int .i64 (Lib.compareInt c1 c2)) ∧ _
  generalize Lib.compareInt c1 c2 = p at *
  go_enter Try.func24, Try.ntmps24
  go_wp2_with (first | (go_at_call 25; (with_reducible refine (hC1 _).mono ?_); rintro e w' ⟨rfl, rfl⟩))
  go_ret
  exact ⟨rfl, HB⟩
theorem mbox2 (w : World) (x : Met) : Below w.heap.size w ((w.alloc (.cells #[.int .i64 0, .int .i64 0, .int .i64 0, .string ⟨#[]⟩, .string ⟨#[]⟩] 55)).alloc (mbo x)) ∧ Mb ((w.alloc (.cells #[.int .i64 0, .int .i64 0, .int .i64 0, .string ⟨#[]⟩, .string ⟨#[]⟩] 55)).alloc (mbo x)) (w.heap.size + 1) x ∧ Mb ((w.alloc (.cells #[.int .i64 0, .int .i64 0, .int .i64 0, .string ⟨#[]⟩, .string ⟨#[]⟩] 55)).alloc (mbo x)) w.heap.size (0, 0, 0, ⟨#[]⟩, ⟨#[]⟩) := by
  have b1 := below_alloc w (.cells #[.int .i64 0, .int .i64 0, .int .i64 0, .string ⟨#[]⟩, .string ⟨#[]⟩] 55)
  have b2 := below_alloc (w.alloc (.cells #[.int .i64 0, .int .i64 0, .int .i64 0, .string ⟨#[]⟩, .string ⟨#[]⟩] 55)) (mbo x)
  have M0 : Mb (w.alloc (.cells #[.int .i64 0, .int .i64 0, .int .i64 0, .string ⟨#[]⟩, .string ⟨#[]⟩] 55)) w.heap.size (0, 0, 0, ⟨#[]⟩, ⟨#[]⟩) := heap_alloc_new w _
  have M1 := Mb.new (w.alloc (.cells #[.int .i64 0, .int .i64 0, .int .i64 0, .string ⟨#[]⟩, .string ⟨#[]⟩] 55)) x
  have s1 : (w.alloc (.cells #[.int .i64 0, .int .i64 0, .int .i64 0, .string ⟨#[]⟩, .string ⟨#[]⟩] 55)).heap.size = w.heap.size + 1 := World.size_alloc _ _
  rw [s1] at M1
  exact ⟨stq b1 b2, M1, M0.below b2⟩
theorem Mb.frz {W : World} {g : Nat} {x : Met} (h : Mb W g x) : W.frozen? ⟨g, 0, none⟩ = false ∧ W.frozen? ⟨g, 1, none⟩ = false ∧ W.frozen? ⟨g, 2, none⟩ = false ∧ W.frozen? ⟨g, 3, none⟩ = false ∧ W.frozen? ⟨g, 4, none⟩ = false := ⟨blk_frozen h 0, blk_frozen h 1, blk_frozen h 2, blk_frozen h 3, blk_frozen h 4⟩
theorem Mb.set5 {W : World} {g : Nat} {x : Met} (h : Mb W g x) (y : Met) : Mb (((((W.setCell ⟨g, 0, none⟩ (.int .i64 y.1)).setCell ⟨g, 1, none⟩ (.int .i64 y.2.1)).setCell ⟨g, 2, none⟩ (.int .i64 y.2.2.1)).setCell ⟨g, 3, none⟩ (.string y.2.2.2.1)).setCell ⟨g, 4, none⟩ (.string y.2.2.2.2)) g y := blk_set (blk_set (blk_set (blk_set (blk_set h 0 (.int .i64 y.1)) 1 (.int .i64 y.2.1)) 2 (.int .i64 y.2.2.1)) 3 (.string y.2.2.2.1)) 4 (.string y.2.2.2.2)
theorem Mb.far5 {W : World} {g : Nat} {x : Met} (h : Mb W g x) {b : Nat} (hne : g ≠ b) (y : Met) : Mb (((((W.setCell ⟨b, 0, none⟩ (.int .i64 y.1)).setCell ⟨b, 1, none⟩ (.int .i64 y.2.1)).setCell ⟨b, 2, none⟩ (.int .i64 y.2.2.1)).setCell ⟨b, 3, none⟩ (.string y.2.2.2.1)).setCell ⟨b, 4, none⟩ (.string y.2.2.2.2)) g x := blk_far (blk_far (blk_far (blk_far (blk_far h (p := ⟨b, 0, none⟩) hne _) (p := ⟨b, 1, none⟩) hne _) (p := ⟨b, 2, none⟩) hne _) (p := ⟨b, 3, none⟩) hne _) (p := ⟨b, 4, none⟩) hne _
theorem below5 {B : Nat} {a W : World} (h : Below B a W) {b : Nat} (hb : B ≤ b) (y : Met) : Below B a (((((W.setCell ⟨b, 0, none⟩ (.int .i64 y.1)).setCell ⟨b, 1, none⟩ (.int .i64 y.2.1)).setCell ⟨b, 2, none⟩ (.int .i64 y.2.2.1)).setCell ⟨b, 3, none⟩ (.string y.2.2.2.1)).setCell ⟨b, 4, none⟩ (.string y.2.2.2.2)) := ((((h.setCell (p := ⟨b, 0, none⟩) hb _).setCell (p := ⟨b, 1, none⟩) hb _).setCell (p := ⟨b, 2, none⟩) hb _).setCell (p := ⟨b, 3, none⟩) hb _).setCell (p := ⟨b, 4, none⟩) hb _
set_option maxRecDepth 100000 in
set_option maxHeartbeats 3200000 in
theorem Max_any (A : Option Addr) (c n : Nat) (L : List Met) (w : World) (hn : L.length = n) (h0 : 0 < n) (hr : RdM w A c L) (hl : n ≤ 140737488351232) :
    Calls Try.prog 23 #[.slice A n c, .func (.func 24) #[] #[]] w fun e w' => e = .returned (mbv (maxM L)) ∧ Below w.heap.size w w' := by
  obtain ⟨ad, rfl, z0, z1, z2, z3, z4⟩ := RdM.at5 (hr.below (below_alloc w (.cells #[.int .i64 0, .int .i64 0, .int .i64 0, .string ⟨#[]⟩, .string ⟨#[]⟩] 55))) 0 (by rw [hn]; exact h0)
  rw [Nat.zero_mul, add_zero_] at z0 z1 z2 z3 z4
  obtain ⟨x0, hx0⟩ : ∃ x, L.getD 0 zMet = x := ⟨_, rfl⟩
  rw [hx0] at z0 z1 z2 z3 z4
  obtain ⟨B2, M1, M0⟩ := mbox2 w x0
  have h0i : ¬ (n : Int) < 1 := by omega
  have h0j : (1 : Int) ≤ (n : Int) := by omega
  have h0k : (0 : Int) < (n : Int) := by omega
  have HN := hide hn
  have HX0 := hide hx0
  have HM : Hid (maxM L = bestM L (n - 1)) := hide (by rw [maxM, hn])
  obtain ⟨R, hR⟩ : ∃ R, maxM L = R := ⟨_, rfl⟩
  rw [hR]
  rw [hR] at HM
  clear hn hx0 hR
  go_enter Try.func23, Try.ntmps23
  go_wp2
  go_loopw [6] (fun iv wr => ∃ k : Nat, 0 < k ∧ k ≤ n ∧ iv = .int .i64 (k : Int) ∧ Mb wr (w.heap.size + 1) (bestM L (k - 1)) ∧ Mb wr w.heap.size (0, 0, 0, ⟨#[]⟩, ⟨#[]⟩) ∧ Below w.heap.size w wr) (fun iv _ => n - (intOf iv).toNat)
  case atStart => exact ⟨1, by decide, h0, rfl, by rw [bestM, HX0.out]; exact M1, M0, B2⟩
  case round =>
    obtain ⟨k, hk0, hk, rfl, HM1, HM0, HB⟩ := hrel
    obtain ⟨b, hb⟩ : ∃ b, bestM L (k - 1) = b := ⟨_, rfl⟩
    rw [hb] at HM1
    have HBB := hide hb
    clear hb
    by_cases hlt : k < n
    · have hlti : (k : Int) < (n : Int) := Int.ofNat_lt.2 hlt
      obtain ⟨hw1, hw2⟩ := idx_w n k hlt hl
      obtain ⟨ad', had, x0', x1, x2, x3, x4⟩ := RdM.at5 (hr.below HB) k (by rw [HN.out]; exact hlt)
      injection had with had
      subst had
      have HNX : Hid (bestM L k = if b.2.2.1 < (L.getD k zMet).2.2.1 then L.getD k zMet else b) := hide (by
        obtain ⟨j, rfl⟩ : ∃ j, k = j + 1 := ⟨k - 1, by omega⟩
        rw [bestM]
        rw [Nat.add_sub_cancel] at HBB
        rw [HBB.out])
      obtain ⟨y, hy⟩ : ∃ y, L.getD k zMet = y := ⟨_, rfl⟩
      rw [hy] at x0' x1 x2 x3 x4 HNX
      obtain ⟨m0, m1, m2, m3, m4⟩ := HM1.read
      have hC := fun W => cc_any y b W
      have hpos := cmpI_pos y.2.2.1 b.2.2.1
      obtain ⟨o, ho⟩ : ∃ o, Lib.compareInt y.2.2.1 b.2.2.1 = o := ⟨_, rfl⟩
      rw [ho] at hC hpos
      have hd : Below wr.heap.size wr wr.drew := (Below.refl _ _).drew
      have hSk : ∀ W, Below wr.heap.size wr W → Below wr.heap.size wr W ∧ W.cell? (ad.add (k * 5)) = some (.int .i64 y.1) ∧ W.cell? ⟨(ad.add (k * 5)).block, (ad.add (k * 5)).off + 1, none⟩ = some (.int .i64 y.2.1) ∧ W.cell? ⟨(ad.add (k * 5)).block, (ad.add (k * 5)).off + 2, none⟩ = some (.int .i64 y.2.2.1) ∧ W.cell? ⟨(ad.add (k * 5)).block, (ad.add (k * 5)).off + 3, none⟩ = some (.string y.2.2.2.1) ∧ W.cell? ⟨(ad.add (k * 5)).block, (ad.add (k * 5)).off + 4, none⟩ = some (.string y.2.2.2.2) ∧ W.cell? ⟨(w.heap.size + 1), 0, none⟩ = some (.int .i64 b.1) ∧ W.cell? ⟨(w.heap.size + 1), 1, none⟩ = some (.int .i64 b.2.1) ∧ W.cell? ⟨(w.heap.size + 1), 2, none⟩ = some (.int .i64 b.2.2.1) ∧ W.cell? ⟨(w.heap.size + 1), 3, none⟩ = some (.string b.2.2.2.1) ∧ W.cell? ⟨(w.heap.size + 1), 4, none⟩ = some (.string b.2.2.2.2) := fun W h => ⟨h, (h.cell (World.block_lt_of_cell? _ _ x0')).trans x0', (h.cell (World.block_lt_of_cell? _ _ x1)).trans x1, (h.cell (World.block_lt_of_cell? _ _ x2)).trans x2, (h.cell (World.block_lt_of_cell? _ _ x3)).trans x3, (h.cell (World.block_lt_of_cell? _ _ x4)).trans x4, (h.cell (World.block_lt_of_cell? _ _ m0)).trans m0, (h.cell (World.block_lt_of_cell? _ _ m1)).trans m1, (h.cell (World.block_lt_of_cell? _ _ m2)).trans m2, (h.cell (World.block_lt_of_cell? _ _ m3)).trans m3, (h.cell (World.block_lt_of_cell? _ _ m4)).trans m4⟩
      have hS0 := hSk _ hd
      clear hy ho hr z0 z1 z2 z3 z4
      by_cases hbt : b.2.2.1 < y.2.2.1
      · have ho0 : 0 < o := by rw [decide_eq_true hbt] at hpos; exact of_decide_eq_true hpos
        have HNY : Hid (bestM L k = y) := hide (by rw [HNX.out, if_pos hbt])
        clear hpos hbt
        go_wp2
        go_region_held3 (fun Y => Below wr.heap.size wr Y ∧ Y.cell? (ad.add (k * 5)) = some (.int .i64 y.1) ∧ Y.cell? ⟨(ad.add (k * 5)).block, (ad.add (k * 5)).off + 1, none⟩ = some (.int .i64 y.2.1) ∧ Y.cell? ⟨(ad.add (k * 5)).block, (ad.add (k * 5)).off + 2, none⟩ = some (.int .i64 y.2.2.1) ∧ Y.cell? ⟨(ad.add (k * 5)).block, (ad.add (k * 5)).off + 3, none⟩ = some (.string y.2.2.2.1) ∧ Y.cell? ⟨(ad.add (k * 5)).block, (ad.add (k * 5)).off + 4, none⟩ = some (.string y.2.2.2.2) ∧ Y.cell? ⟨(w.heap.size + 1), 0, none⟩ = some (.int .i64 b.1) ∧ Y.cell? ⟨(w.heap.size + 1), 1, none⟩ = some (.int .i64 b.2.1) ∧ Y.cell? ⟨(w.heap.size + 1), 2, none⟩ = some (.int .i64 b.2.2.1) ∧ Y.cell? ⟨(w.heap.size + 1), 3, none⟩ = some (.string b.2.2.2.1) ∧ Y.cell? ⟨(w.heap.size + 1), 4, none⟩ = some (.string b.2.2.2.2)) (first | exact hS0 | exact hSk _ HBt | assumption) (first | (go_at_call 24; (with_reducible refine (hC _).mono ?_); rintro e w6 ⟨rfl, HB6⟩; have HBt := hd.trans (HB6.mono hd.size)))
        obtain ⟨-, y0'', y1'', y2'', y3'', y4'', -, -, -, -, -⟩ := hSk _ HBt
        have HM16 := HM1.below HBt
        have HM06 := HM0.below HBt
        obtain ⟨n0, n1, n2, n3, n4⟩ := HM16.read
        obtain ⟨f0, f1, f2, f3, f4⟩ := HM16.frz
        go_wp2
        go_roundw
        case rel => exact ⟨k + 1, Nat.succ_pos _, hlt, by go_num, by rw [Nat.add_sub_cancel, HNY.out]; exact HM16.set5 y, HM06.far5 (Nat.ne_of_lt (Nat.lt_succ_self _)) y, below5 (stq HB HBt) (Nat.le_succ _) y⟩
        case measure => first | exact idx_m n k hlt | exact idx_m2 n k hlt | exact idx_m3 n k hlt hw1
      · have ho0 : ¬ 0 < o := by rw [decide_eq_false hbt] at hpos; exact of_decide_eq_false hpos
        have ho1 : o ≤ 0 := Int.not_lt.1 ho0
        have HNY : Hid (bestM L k = b) := hide (by rw [HNX.out, if_neg hbt])
        clear hpos hbt
        go_wp2
        go_region_held3 (fun Y => Below wr.heap.size wr Y ∧ Y.cell? (ad.add (k * 5)) = some (.int .i64 y.1) ∧ Y.cell? ⟨(ad.add (k * 5)).block, (ad.add (k * 5)).off + 1, none⟩ = some (.int .i64 y.2.1) ∧ Y.cell? ⟨(ad.add (k * 5)).block, (ad.add (k * 5)).off + 2, none⟩ = some (.int .i64 y.2.2.1) ∧ Y.cell? ⟨(ad.add (k * 5)).block, (ad.add (k * 5)).off + 3, none⟩ = some (.string y.2.2.2.1) ∧ Y.cell? ⟨(ad.add (k * 5)).block, (ad.add (k * 5)).off + 4, none⟩ = some (.string y.2.2.2.2) ∧ Y.cell? ⟨(w.heap.size + 1), 0, none⟩ = some (.int .i64 b.1) ∧ Y.cell? ⟨(w.heap.size + 1), 1, none⟩ = some (.int .i64 b.2.1) ∧ Y.cell? ⟨(w.heap.size + 1), 2, none⟩ = some (.int .i64 b.2.2.1) ∧ Y.cell? ⟨(w.heap.size + 1), 3, none⟩ = some (.string b.2.2.2.1) ∧ Y.cell? ⟨(w.heap.size + 1), 4, none⟩ = some (.string b.2.2.2.2)) (first | exact hS0 | exact hSk _ HBt | assumption) (first | (go_at_call 24; (with_reducible refine (hC _).mono ?_); rintro e w6 ⟨rfl, HB6⟩; have HBt := hd.trans (HB6.mono hd.size)))
        have HM16 := HM1.below HBt
        have HM06 := HM0.below HBt
        go_wp2
        go_roundw
        case rel => exact ⟨k + 1, Nat.succ_pos _, hlt, by go_num, by rw [Nat.add_sub_cancel, HNY.out]; exact HM16, HM06, stq HB HBt⟩
        case measure => first | exact idx_m n k hlt | exact idx_m2 n k hlt | exact idx_m3 n k hlt hw1
    · obtain rfl : k = n := Nat.le_antisymm hk (Nat.not_lt.1 hlt)
      obtain rfl : b = R := (HM.out.trans HBB.out).symm
      obtain ⟨m0, m1, m2, m3, m4⟩ := HM1.read
      obtain ⟨f0, f1, f2, f3, f4⟩ := HM0.frz
      obtain ⟨g0, g1, g2, g3, g4⟩ := HM0.read
      clear hr z0 z1 z2 z3 z4
      go_wp2
      have hF := HM0.set5 b
      exact bodyPost_ret (v := mbv b) (results_cell_row Try.results23 _ _ w.heap.size _ _ _ _ rfl hF Try.underlying55 rfl rfl) rfl ⟨rfl, below5 HB (Nat.le_refl _) b⟩
end Go.Proofs.Ytbhhnlgpbhbcmaa
end

section
/- What is merged next, whichever level is full first. -/
namespace Go.Proofs.Ytbhhnlgpbhbcmaa
open Go.RowKit Go.Proofs.YtbhhnlgpbhbcmaaW.PrintWords
set_option linter.unusedVariables false

def botG (s : ByteArray × ByteArray) (l : List Met) (d0 : Int) : Nat → Bool
  | 0 => true
  | j + 1 => botG s l d0 j && decide ((toM s.1 s.2 (atM ((j : Int) + d0) l)).length = 0)
def belG (lv : Int) (l L : List Met) : List Met := toM (topS L).1 (topS L).2 (atM (lv + 1) l)
def inpG (lv : Int) (l L : List Met) : List Int := idsM L ++ idsM (belG lv l L)
def botP (lv : Nat) (l L : List Met) : Bool := botG (spM (topS L) (belG lv l L)) l ((lv : Int) + 2) (2 - lv)
theorem RdM_lit1 (x : Met) (w : World) : RdM (w.alloc (mbo x)) (some ⟨w.heap.size, 0, none⟩) 1 [x] := by
  refine ⟨Nat.le_refl _, rfl, by show 1 ≤ 9223372036854775807; decide, fun _ => ⟨_, rfl, fun j p hj => ?_⟩⟩
  have hj0 : j = 0 := by
    obtain ⟨h, _⟩ := List.getElem?_eq_some_iff.1 hj
    simp at h; omega
  subst hj0
  have hp : p = x := by simpa using hj.symm
  subst hp
  refine ⟨_, rfl, kMet_mk _ p, fun i u hu => ?_⟩
  rw [add_plain, World.cell?_alloc_mark]
  match i, hu with
  | 0, hu => exact hu
  | 1, hu => exact hu
  | 2, hu => exact hu
  | 3, hu => exact hu
  | 4, hu => exact hu
  | i + 5, hu => simp at hu
set_option maxRecDepth 100000 in
set_option maxHeartbeats 6400000 in
theorem Choose1_any (A : Option Addr) (c n : Nat) (seq nx : Int) (l : List Met) (w : World) (hn : l.length = n) (hr : RdM w A c l) (hf : ∀ x ∈ l, fitI x.1) (hl : l.length * 56 ≤ 140737488351232) (hz : chkM l seq nx = 0) (tl : List Int) (htl : fullsK l 3 = 1 :: tl) (h4 : 0 < (atM 1 l).length) :
    Calls Try.prog 9 #[verV A n c seq nx] w fun e w' => ∃ v, e = .returned (.tuple #[.agg #[.int .i64 1, v, .bool (botP 1 l [maxM (atM 1 l)])], .bool true, .int .i64 0]) ∧ OwI w' w.heap.size v (inpG 1 l [maxM (atM 1 l)]) ∧ Below w.heap.size w w' := by
  obtain ⟨B0, T0, P0⟩ := cbox w A n c seq nx
  obtain ⟨t0, t1, t2⟩ := T0.read
  have hFl := fun W (h : RdM W A c l) => Full_any A c n seq nx l W hn h hf hl
  simp only [hz, ne_eq, not_true, false_and, false_or, true_and] at hFl
  have hPA := fun W (h : RdM W A c l) => PAt_any A c n seq nx 1 l W hn h hf hl hz
  have hTo := fun a b lv W (h : RdM W A c l) => touched_any a b A c n seq nx lv l W hn h hf hl hz
  have hWi := fun a b x W => with_any a b x W
  have h256 := (chk_facts l seq nx hz).1
  have hLa := Nat.le_trans (atM_len 1 l) h256
  have hfl := fullsK_len l 3
  have HBOT : Hid (botP 1 l [maxM (atM 1 l)] = botG (spM (topS [maxM (atM 1 l)]) (belG 1 l [maxM (atM 1 l)])) l 3 1) := hide rfl
  have HINP : Hid (inpG 1 l [maxM (atM 1 l)] = idsM [maxM (atM 1 l)] ++ idsM (belG 1 l [maxM (atM 1 l)])) := hide rfl
  have HBEL : Hid (belG 1 l [maxM (atM 1 l)] = toM (topS [maxM (atM 1 l)]).1 (topS [maxM (atM 1 l)]).2 (atM 2 l)) := hide rfl
  have HTOP : Hid (topS [maxM (atM 1 l)] = spM (([maxM (atM 1 l)].getD 0 zMet).2.2.2.1, ([maxM (atM 1 l)].getD 0 zMet).2.2.2.2) [maxM (atM 1 l)]) := hide rfl
  have hb256 : (belG 1 l [maxM (atM 1 l)]).length ≤ 256 := Nat.le_trans (toM_len _ _ _) (Nat.le_trans (atM_len _ _) h256)
  rw [htl] at hFl hfl
  generalize inpG 1 l [maxM (atM 1 l)] = INP at *
  generalize botP 1 l [maxM (atM 1 l)] = BOT at *
  generalize belG 1 l [maxM (atM 1 l)] = BEL at *
  generalize topS [maxM (atM 1 l)] = TOP at *
  generalize atM 1 l = La at *
  obtain ⟨ma, hma⟩ : ∃ m, La.length = m := ⟨_, rfl⟩
  rw [hma] at h4 hLa
  have hMx := fun A c W (h : RdM W A c La) => Max_any A c ma La W hma h4 h (by omega)
  generalize maxM La = MX at *
  have HMA := hide hma
  obtain ⟨L, hL⟩ : ∃ L, L = [MX] := ⟨_, rfl⟩
  rw [← hL] at HINP HTOP
  have HLL := hide hL
  obtain ⟨m, hm⟩ : ∃ m, L.length = m := ⟨_, rfl⟩
  obtain ⟨mb, hmb⟩ : ∃ m, BEL.length = m := ⟨_, rfl⟩
  have hId := fun A c W (h : RdM W A c L) => ids_any A c m L W hm h (by rw [← hm, hL]; show 1 ≤ 1000000; decide)
  have hIdB := fun A c W (h : RdM W A c BEL) => ids_any A c mb BEL W hmb h (by omega)
  have hm1 : m = 1 := by rw [← hm, hL]; rfl
  subst hm1
  rw [hmb] at hb256
  have HM := hide hm
  have HMB := hide hmb
  have r0 := hr.below B0
  have h4n : 0 < 1 := by decide
  clear hn hf hl hz hr htl hm hmb h256 hma hL
  go_enter Try.func9, Try.ntmps9
  go_wp2_with (first | (go_at_call 14; (with_reducible refine (hFl _ r0).mono ?_); rintro e w1 ⟨⟨v1, rfl, O1⟩, HB1⟩; obtain ⟨A1, c1, hv1, ri1⟩ := O1.rd; rw [List.length_cons] at hv1 hfl; obtain ⟨ad1, hA1, y1⟩ := ri1.int_at 0 (Nat.succ_pos _); subst hA1; obtain ⟨z1, hz1⟩ : ∃ z, tl.length + 1 = z := ⟨_, rfl⟩; rw [hz1] at hv1 hfl; subst hv1; have hz1i : (0 : Int) < (z1 : Int) := (by omega); have hz1n : 0 < z1 := (by omega); have hz1e : ((z1 : Int) == 0) = false := beq_eq_false_iff_ne.2 (by omega); have hz1f : ¬ (z1 : Int) = 0 := (by omega); have hz1g : ¬ z1 = 0 := (by omega); have C1 := stq B0 HB1; have T1 := T0.below HB1; have P1 := P0.below HB1; have r1 := r0.below HB1; obtain ⟨t10, t11, t12⟩ := T1.read; have y1 : w1.cell? (ad1.add 0) = some (.int .i64 1) := y1; have y1b : w1.cell? ad1 = some (.int .i64 1) := (by have := y1; rw [add_zero_] at this; exact this); clear hz1) | (go_at_call 22; (with_reducible refine (hPA _ r1).mono ?_); rintro e wa ⟨Aa, ma2, ca, rfl, hma2, Oa, HBa⟩; rw [HMA.out] at hma2; subst hma2; have Ca := stq C1 HBa; have Ta := T1.below HBa; have Pa := P1.below HBa; have ra := r1.below HBa) | (go_at_call 23; (with_reducible refine (hMx _ _ _ Oa.rdl).mono ?_); rintro e wb ⟨rfl, HBb⟩; have bb := below_alloc wb (mbo MX); have C2 := stq (stq Ca HBb) bb; have T2 := (Ta.below HBb).below bb; have P2 := (Pa.below HBb).below bb; have r2 := (ra.below HBb).below bb; have rL2 : RdM (wb.alloc (mbo MX)) (some ⟨wb.heap.size, 0, none⟩) 1 [MX] := RdM_lit1 MX wb))
  rw [← HLL.out] at rL2
  generalize (wb.alloc (mbo MX)) = w2 at *
  generalize wb.heap.size = gA at *
  obtain ⟨ad2, hA2, -, -, -, a3, a4⟩ := RdM.at5 rL2 0 (by rw [HM.out]; exact h4n)
  injection hA2 with hA2
  subst hA2
  rw [Nat.zero_mul, add_zero_] at a3 a4
  have a3 : w2.cell? ⟨gA, 3, none⟩ = _ := a3
  have a4 : w2.cell? ⟨gA, 4, none⟩ = _ := a4
  obtain ⟨lo0, hlo0⟩ : ∃ x, (L.getD 0 zMet).2.2.2.1 = x := ⟨_, rfl⟩
  obtain ⟨hi0, hhi0⟩ : ∃ x, (L.getD 0 zMet).2.2.2.2 = x := ⟨_, rfl⟩
  rw [hlo0, hhi0] at HTOP
  rw [hlo0] at a3
  rw [hhi0] at a4
  clear hlo0 hhi0
  have hd : Below w2.heap.size w2 w2.drew := (Below.refl _ _).drew
  have hSk : ∀ Y, Below w2.heap.size w2 Y → Below w2.heap.size w2 Y ∧ Y.cell? ⟨gA, 3, none⟩ = some (.string lo0) ∧ Y.cell? ⟨gA, 4, none⟩ = some (.string hi0) := fun Y h => ⟨h, (h.cell (World.block_lt_of_cell? _ _ a3)).trans a3, (h.cell (World.block_lt_of_cell? _ _ a4)).trans a4⟩
  have hS0 := hSk _ hd
  go_region_held3 (fun Y => Below w2.heap.size w2 Y ∧ Y.cell? ⟨gA, 3, none⟩ = some (.string lo0) ∧ Y.cell? ⟨gA, 4, none⟩ = some (.string hi0)) (first | exact hS0 | assumption | (have hh := ‹Below w2.heap.size w2 _ ∧ _ ∧ _›; exact hSk _ (hh.1.alloc hh.1.size _)) | exact hSk _ (hd.alloc hd.size _)) (fail)
  have Sp3 : Sp (w2.alloc (.cells #[.string lo0, .string hi0] 61)).drew w2.heap.size (lo0, hi0) := heap_alloc_new w2 (.cells #[.string lo0, .string hi0] 61)
  have B23 : Below w2.heap.size w2 (w2.alloc (.cells #[.string lo0, .string hi0] 61)).drew := (below_alloc w2 _).drew
  clear hSk hS0 hd a3 a4 y1 y1b O1 ri1 hFl hPA t0 t1 t2 t10 t11 t12
  generalize (w2.alloc (.cells #[.string lo0, .string hi0] 61)).drew = w3 at *
  go_wp2
  go_loopw [53] (fun iv wr => ∃ k : Nat, k ≤ 1 ∧ iv = .int .i64 (k : Int) ∧ Sp wr w2.heap.size (spM (lo0, hi0) (L.take k)) ∧ Below w2.heap.size w2 wr) (fun iv _ => 1 - (intOf iv).toNat)
  case atStart => exact ⟨0, Nat.zero_le _, rfl, Sp3, B23⟩
  case round =>
    obtain ⟨k, hk, rfl, HSp, HB⟩ := hrel
    by_cases hlt : k < 1
    · have hlti : (k : Int) < (1 : Int) := Int.ofNat_lt.2 hlt
      obtain ⟨hw1, hw2⟩ := idx_w 1 k hlt (by omega)
      obtain ⟨ad, had, x0, x1, x2, x3, x4⟩ := RdM.at5 (rL2.below HB) k (by rw [HM.out]; exact hlt)
      injection had with had
      subst had
      simp only [add_plain] at x0 x1 x2 x3 x4
      have HNX := hide (spM_next (lo0, hi0) L k (by rw [HM.out]; exact hlt))
      obtain ⟨y, hy⟩ : ∃ y, L.getD k zMet = y := ⟨_, rfl⟩
      rw [hy] at x0 x1 x2 x3 x4 HNX
      obtain ⟨⟨p, q⟩, hpq⟩ : ∃ s, spM (lo0, hi0) (L.take k) = s := ⟨_, rfl⟩
      rw [hpq] at HSp HNX
      have b1 := below_alloc wr (mbo y)
      have M1 := Mb.new wr y
      have S1 := HSp.below b1
      obtain ⟨m0, m1, m2', m3, m4⟩ := M1.read
      obtain ⟨s0, s1, s2, s3⟩ := S1.read
      simp only at s0 s1
      have hW := fun W => hWi p q y W
      clear hy hpq
      go_wp2_with (first | (go_at_call 26; (with_reducible refine (hW _).mono ?_); rintro e w6 ⟨rfl, HB6⟩; have S6 := S1.below HB6; have C6 := stq HB (stq b1 HB6); obtain ⟨s60, s61, s62, s63⟩ := S6.read))
      go_roundw
      case rel => exact ⟨k + 1, hlt, by go_num, by rw [HNX.out]; exact S6.set _ _, (C6.setCell (p := ⟨w2.heap.size, 0, none⟩) (Nat.le_refl _) _).setCell (p := ⟨w2.heap.size, 1, none⟩) (Nat.le_refl _) _⟩
      case measure => first | exact idx_m 1 k hlt | exact idx_m2 1 k hlt | exact idx_m3 1 k hlt hw1
    · obtain rfl : k = 1 := Nat.le_antisymm hk (Nat.not_lt.1 hlt)
      obtain ⟨wo, rfl⟩ : ∃ z : World, z = wr := ⟨wr, rfl⟩
      rw [← HM.out, List.take_length, ← HTOP.out] at HSp
      obtain ⟨⟨p, q⟩, hpq⟩ : ∃ s, TOP = s := ⟨_, rfl⟩
      have HPQ := hide hpq
      rw [hpq] at HSp HBEL
      have T4 := T2.below HB
      obtain ⟨t40, t41, t42⟩ := T4.read
      obtain ⟨s0, s1, s2, s3⟩ := HSp.read
      simp only at s0 s1
      have hT := fun W h => hTo p q 2 W h
      rw [show toM p q (atM 2 l) = BEL from HBEL.out.symm] at hT
      have r4 := r2.below HB
      clear hpq
      go_wp2_with (first | (go_at_call 27; (with_reducible refine (hT _ r4).mono ?_); rintro e w4 ⟨A4, m4, c4, rfl, hm4, O4, HB4⟩; rw [HMB.out] at hm4; subst hm4; have S4 := HSp.below HB4; have C4 := stq HB HB4))
      go_loopw [68] (fun iv wr => ∃ k : Nat, k ≤ mb ∧ iv = .int .i64 (k : Int) ∧ Sp wr w2.heap.size (spM (p, q) (BEL.take k)) ∧ OwM wr wo.heap.size (.slice A4 mb c4) BEL ∧ Below w2.heap.size w2 wr) (fun iv _ => mb - (intOf iv).toNat)
      case atStart => exact ⟨0, Nat.zero_le _, rfl, S4, O4, C4⟩
      case round =>
        obtain ⟨j, hj, rfl, HSq, HO4, HB⟩ := hrel
        by_cases hlt : j < mb
        · have hlti : (j : Int) < (mb : Int) := Int.ofNat_lt.2 hlt
          obtain ⟨hw1, hw2⟩ := idx_w mb j hlt (by omega)
          obtain ⟨ad, hA4, x0, x1, x2, x3, x4⟩ := RdM.at5 HO4.rdl j (by rw [HMB.out]; exact hlt)
          subst hA4
          have HNX := hide (spM_next (p, q) BEL j (by rw [HMB.out]; exact hlt))
          obtain ⟨y, hy⟩ : ∃ y, BEL.getD j zMet = y := ⟨_, rfl⟩
          rw [hy] at x0 x1 x2 x3 x4 HNX
          obtain ⟨⟨u, v⟩, huv⟩ : ∃ s, spM (p, q) (BEL.take j) = s := ⟨_, rfl⟩
          rw [huv] at HSq HNX
          have b1 := below_alloc wr (mbo y)
          have M1 := Mb.new wr y
          have S1 := HSq.below b1
          have HO41 := HO4.below b1
          obtain ⟨m0, m1, m2', m3, m4⟩ := M1.read
          obtain ⟨s0', s1', s2', s3'⟩ := S1.read
          simp only at s0' s1'
          have hW := fun W => hWi u v y W
          clear hy huv
          go_wp2_with (first | (go_at_call 26; (with_reducible refine (hW _).mono ?_); rintro e w6 ⟨rfl, HB6⟩; have S6 := S1.below HB6; have O6 := HO41.below HB6; have C6 := stq HB (stq b1 HB6); obtain ⟨s60, s61, s62, s63⟩ := S6.read))
          have O62 := Ow.setCell (Ow.setCell O6 S6 (by decide) 0 (.string (minS u y.2.2.2.1))) (blk_set S6 0 (.string (minS u y.2.2.2.1))) (by decide) 1 (.string (maxS v y.2.2.2.2))
          go_roundw
          case rel => exact ⟨j + 1, hlt, by go_num, by rw [HNX.out]; exact S6.set _ _, O62, (C6.setCell (p := ⟨w2.heap.size, 0, none⟩) (Nat.le_refl _) _).setCell (p := ⟨w2.heap.size, 1, none⟩) (Nat.le_refl _) _⟩
          case measure => first | exact idx_m mb j hlt | exact idx_m2 mb j hlt | exact idx_m3 mb j hlt hw1
        · obtain rfl : j = mb := Nat.le_antisymm hj (Nat.not_lt.1 hlt)
          obtain ⟨wp, rfl⟩ : ∃ z : World, z = wr := ⟨wr, rfl⟩
          rw [← HMB.out, List.take_length] at HSq
          obtain ⟨⟨u, v⟩, huv⟩ : ∃ s, spM (p, q) BEL = s := ⟨_, rfl⟩
          rw [huv] at HSq
          rw [HPQ.out, huv] at HBOT
          clear huv s0 s1 s2 s3 t40 t41 t42 S4 C4 O4
          have rLp := rL2.below HB
          have T5 := T2.below HB
          have P5 := P2.below HB
          have r5 := r2.below HB
          have hsum : (idsM L).length + (idsM BEL).length ≤ 17592186044416 := by rw [ids_len, ids_len, HM.out, HMB.out]; omega
          have HSUM := hide hsum
          clear hsum
          go_wp2_with (first | (go_at_call 29; (with_reducible refine (hId _ _ _ rLp).mono ?_); rintro e w5 ⟨v5, rfl, O5, HB5⟩; obtain ⟨A5, c5, hv5, ri5⟩ := O5.rd; rw [ids_len, HM.out] at hv5; subst hv5; have HO5 := HO4.below HB5; have S5 := HSq.below HB5; have C5 := stq HB HB5) | (go_at_call 29; (with_reducible refine (hIdB _ _ _ HO5.rdl).mono ?_); rintro e w6 ⟨v6, rfl, O6, HB6⟩; obtain ⟨A6, c6, hv6, ri6⟩ := O6.rd; rw [ids_len, HMB.out] at hv6; subst hv6; have ri56 := ri5.below HB6; have S6 := S5.below HB6; have C6 := stq C5 HB6; have hCt := Concat_two A5 A6 c5 c6 1 j w6.heap.size (idsM L) (idsM BEL) w6 rfl ri56 ri6 (by rw [ids_len]; exact HM.out) (by rw [ids_len]; exact HMB.out) HSUM.out; rw [← HINP.out] at hCt) | (go_at_call 28; (with_reducible refine hCt.mono ?_); rintro e w7 ⟨v7, rfl, O7, HB7⟩; have S7 := S6.below HB7; have C7 := stq C6 HB7; have hg9 := C7.size; have b8 := below_alloc w7 (.cells #[.int .i64 1, v7, .bool true] 28); have P8 : Pl (w7.alloc (.cells #[.int .i64 1, v7, .bool true] 28)) w7.heap.size 1 v7 true := heap_alloc_new w7 (.cells #[.int .i64 1, v7, .bool true] 28); have S8 := S7.below b8; have O8 := O7.below b8; have C8 := stq C7 b8; obtain ⟨A7, c7, hv7, -⟩ := O7.rd; subst hv7))
          clear hCt
          go_loopw [16] (fun iv wr => ∃ i : Nat, i ≤ 1 ∧ iv = .int .i64 ((i + 3 : Nat) : Int) ∧ Pl wr w7.heap.size 1 (.slice A7 INP.length c7) (botG (u, v) l 3 i) ∧ Sp wr w2.heap.size (u, v) ∧ OwI wr w6.heap.size (.slice A7 INP.length c7) INP ∧ Below w2.heap.size w2 wr) (fun iv _ => 4 - (intOf iv).toNat)
          case atStart => exact ⟨0, by decide, rfl, P8, S8, O8, C8⟩
          case round =>
            obtain ⟨i, hi, rfl, HPl, HSq2, HO7, HB⟩ := hrel
            have T6 := T2.below HB
            have rr := r2.below HB
            have P6 := P2.below HB
            obtain ⟨t60, t61, t62⟩ := T6.read
            obtain ⟨s0, s1, s2, s3⟩ := HSq2.read
            simp only at s0 s1
            have hgp : w7.heap.size ≠ w2.heap.size := blk_ne HPl HSq2 (by decide)
            by_cases hlt : i < 1
            · obtain rfl : i = 0 := by omega
              have hT := fun W h => hTo u v 3 W h
              have HBN : Hid (botG (u, v) l 3 (0 + 1) = (botG (u, v) l 3 0 && decide ((toM u v (atM 3 l)).length = 0))) := hide rfl
              obtain ⟨K8, hK8⟩ : ∃ K, (toM u v (atM 3 l)).length = K := ⟨_, rfl⟩
              have HK8 := hide hK8
              rw [hK8] at HBN
              obtain ⟨b, hb⟩ : ∃ b, botG (u, v) l 3 0 = b := ⟨_, rfl⟩
              rw [hb] at HPl HBN
              clear hK8 hb
              obtain ⟨p0', p1', p2', p3', p4', p5'⟩ := HPl.read
              cases b
              · have HBF : Hid (botG (u, v) l 3 (0 + 1) = false) := hide (by rw [HBN.out]; rfl)
                go_wp2
                go_roundw
                case rel => exact ⟨0 + 1, by decide, by go_num, by rw [HBF.out]; exact HPl.bot false, HSq2.far hgp.symm _, Ow.setCell HO7 HPl (by decide) 2 (.bool false), HB.setCell (p := ⟨w7.heap.size, 2, none⟩) hg9 _⟩
                case measure => simp [intOf]
              · by_cases hk0 : K8 = 0
                · have HBF : Hid (botG (u, v) l 3 (0 + 1) = true) := hide (by rw [HBN.out, decide_eq_true hk0]; rfl)
                  have hk0i : ((K8 : Int) == 0) = true := beq_iff_eq.2 (by omega)
                  go_wp2_with (first | (go_at_call 27; (with_reducible refine (hT _ rr).mono ?_); rintro e w8 ⟨A8, m8, c8, rfl, hm8, O8', HB8⟩; rw [HK8.out] at hm8; subst hm8; have HPl8 := HPl.below HB8; have HSq8 := HSq2.below HB8; have HO8 := HO7.below HB8; have C8' := stq HB HB8; obtain ⟨q0', q1', q2', q3', q4', q5'⟩ := HPl8.read))
                  go_roundw
                  case rel => exact ⟨0 + 1, by decide, by go_num, by rw [HBF.out]; exact HPl8.bot true, HSq8.far hgp.symm _, Ow.setCell HO8 HPl8 (by decide) 2 (.bool true), C8'.setCell (p := ⟨w7.heap.size, 2, none⟩) hg9 _⟩
                  case measure => simp [intOf]
                · have HBF : Hid (botG (u, v) l 3 (0 + 1) = false) := hide (by rw [HBN.out, decide_eq_false hk0]; rfl)
                  have hk0i : ((K8 : Int) == 0) = false := beq_eq_false_iff_ne.2 (by omega)
                  go_wp2_with (first | (go_at_call 27; (with_reducible refine (hT _ rr).mono ?_); rintro e w8 ⟨A8, m8, c8, rfl, hm8, O8', HB8⟩; rw [HK8.out] at hm8; subst hm8; have HPl8 := HPl.below HB8; have HSq8 := HSq2.below HB8; have HO8 := HO7.below HB8; have C8' := stq HB HB8; obtain ⟨q0', q1', q2', q3', q4', q5'⟩ := HPl8.read))
                  go_roundw
                  case rel => exact ⟨0 + 1, by decide, by go_num, by rw [HBF.out]; exact HPl8.bot false, HSq8.far hgp.symm _, Ow.setCell HO8 HPl8 (by decide) 2 (.bool false), C8'.setCell (p := ⟨w7.heap.size, 2, none⟩) hg9 _⟩
                  case measure => simp [intOf]
            · obtain rfl : i = 1 := by omega
              rw [← HBOT.out] at HPl
              obtain ⟨p0', p1', p2', p3', p4', p5'⟩ := HPl.read
              obtain ⟨e0', e1', e2', e3', e4', e5'⟩ := P6.read
              go_wp2
              have hF1 := blk_set P6 0 (.int .i64 1)
              have hF2 := blk_set hF1 1 (.slice A7 INP.length c7)
              have hF := blk_set hF2 2 (.bool BOT)
              have OF := Ow.setCell (Ow.setCell (Ow.setCell HO7 P6 (by decide) 0 (.int .i64 1)) hF1 (by decide) 1 (.slice A7 INP.length c7)) hF2 (by decide) 2 (.bool BOT)
              have C9 := C2.trans (HB.mono C2.size)
              have hle : w.heap.size ≤ w.heap.size + 1 := Nat.le_succ _
              have C10 := ((C9.setCell (p := ⟨w.heap.size + 1, 0, none⟩) hle (.int .i64 1)).setCell (p := ⟨w.heap.size + 1, 1, none⟩) hle (.slice A7 INP.length c7)).setCell (p := ⟨w.heap.size + 1, 2, none⟩) hle (.bool BOT)
              exact bodyPost_ret (v := .tuple #[.agg #[.int .i64 1, .slice A7 INP.length c7, .bool BOT], .bool true, .int .i64 0]) (results_ctt Try.results9 _ _ (w.heap.size + 1) _ _ _ _ rfl hF Try.underlying28 rfl rfl) rfl ⟨_, rfl, OF.lower (Nat.le_trans C2.size C6.size), C10⟩
set_option maxRecDepth 100000 in
set_option maxHeartbeats 6400000 in
theorem Choose2_any (A : Option Addr) (c n : Nat) (seq nx : Int) (l : List Met) (w : World) (hn : l.length = n) (hr : RdM w A c l) (hf : ∀ x ∈ l, fitI x.1) (hl : l.length * 56 ≤ 140737488351232) (hz : chkM l seq nx = 0) (tl : List Int) (htl : fullsK l 3 = 2 :: tl) (h4 : 0 < (atM 2 l).length) :
    Calls Try.prog 9 #[verV A n c seq nx] w fun e w' => ∃ v, e = .returned (.tuple #[.agg #[.int .i64 2, v, .bool (botP 2 l [maxM (atM 2 l)])], .bool true, .int .i64 0]) ∧ OwI w' w.heap.size v (inpG 2 l [maxM (atM 2 l)]) ∧ Below w.heap.size w w' := by
  obtain ⟨B0, T0, P0⟩ := cbox w A n c seq nx
  obtain ⟨t0, t1, t2⟩ := T0.read
  have hFl := fun W (h : RdM W A c l) => Full_any A c n seq nx l W hn h hf hl
  simp only [hz, ne_eq, not_true, false_and, false_or, true_and] at hFl
  have hPA := fun W (h : RdM W A c l) => PAt_any A c n seq nx 2 l W hn h hf hl hz
  have hTo := fun a b lv W (h : RdM W A c l) => touched_any a b A c n seq nx lv l W hn h hf hl hz
  have hWi := fun a b x W => with_any a b x W
  have h256 := (chk_facts l seq nx hz).1
  have hLa := Nat.le_trans (atM_len 2 l) h256
  have hfl := fullsK_len l 3
  have HBOT : Hid (botP 2 l [maxM (atM 2 l)] = botG (spM (topS [maxM (atM 2 l)]) (belG 2 l [maxM (atM 2 l)])) l 4 0) := hide rfl
  have HINP : Hid (inpG 2 l [maxM (atM 2 l)] = idsM [maxM (atM 2 l)] ++ idsM (belG 2 l [maxM (atM 2 l)])) := hide rfl
  have HBEL : Hid (belG 2 l [maxM (atM 2 l)] = toM (topS [maxM (atM 2 l)]).1 (topS [maxM (atM 2 l)]).2 (atM 3 l)) := hide rfl
  have HTOP : Hid (topS [maxM (atM 2 l)] = spM (([maxM (atM 2 l)].getD 0 zMet).2.2.2.1, ([maxM (atM 2 l)].getD 0 zMet).2.2.2.2) [maxM (atM 2 l)]) := hide rfl
  have hb256 : (belG 2 l [maxM (atM 2 l)]).length ≤ 256 := Nat.le_trans (toM_len _ _ _) (Nat.le_trans (atM_len _ _) h256)
  rw [htl] at hFl hfl
  generalize inpG 2 l [maxM (atM 2 l)] = INP at *
  generalize botP 2 l [maxM (atM 2 l)] = BOT at *
  generalize belG 2 l [maxM (atM 2 l)] = BEL at *
  generalize topS [maxM (atM 2 l)] = TOP at *
  generalize atM 2 l = La at *
  obtain ⟨ma, hma⟩ : ∃ m, La.length = m := ⟨_, rfl⟩
  rw [hma] at h4 hLa
  have hMx := fun A c W (h : RdM W A c La) => Max_any A c ma La W hma h4 h (by omega)
  generalize maxM La = MX at *
  have HMA := hide hma
  obtain ⟨L, hL⟩ : ∃ L, L = [MX] := ⟨_, rfl⟩
  rw [← hL] at HINP HTOP
  have HLL := hide hL
  obtain ⟨m, hm⟩ : ∃ m, L.length = m := ⟨_, rfl⟩
  obtain ⟨mb, hmb⟩ : ∃ m, BEL.length = m := ⟨_, rfl⟩
  have hId := fun A c W (h : RdM W A c L) => ids_any A c m L W hm h (by rw [← hm, hL]; show 1 ≤ 1000000; decide)
  have hIdB := fun A c W (h : RdM W A c BEL) => ids_any A c mb BEL W hmb h (by omega)
  have hm1 : m = 1 := by rw [← hm, hL]; rfl
  subst hm1
  rw [hmb] at hb256
  have HM := hide hm
  have HMB := hide hmb
  have r0 := hr.below B0
  have h4n : 0 < 1 := by decide
  clear hn hf hl hz hr htl hm hmb h256 hma hL
  go_enter Try.func9, Try.ntmps9
  go_wp2_with (first | (go_at_call 14; (with_reducible refine (hFl _ r0).mono ?_); rintro e w1 ⟨⟨v1, rfl, O1⟩, HB1⟩; obtain ⟨A1, c1, hv1, ri1⟩ := O1.rd; rw [List.length_cons] at hv1 hfl; obtain ⟨ad1, hA1, y1⟩ := ri1.int_at 0 (Nat.succ_pos _); subst hA1; obtain ⟨z1, hz1⟩ : ∃ z, tl.length + 1 = z := ⟨_, rfl⟩; rw [hz1] at hv1 hfl; subst hv1; have hz1i : (0 : Int) < (z1 : Int) := (by omega); have hz1n : 0 < z1 := (by omega); have hz1e : ((z1 : Int) == 0) = false := beq_eq_false_iff_ne.2 (by omega); have hz1f : ¬ (z1 : Int) = 0 := (by omega); have hz1g : ¬ z1 = 0 := (by omega); have C1 := stq B0 HB1; have T1 := T0.below HB1; have P1 := P0.below HB1; have r1 := r0.below HB1; obtain ⟨t10, t11, t12⟩ := T1.read; have y1 : w1.cell? (ad1.add 0) = some (.int .i64 2) := y1; have y1b : w1.cell? ad1 = some (.int .i64 2) := (by have := y1; rw [add_zero_] at this; exact this); clear hz1) | (go_at_call 22; (with_reducible refine (hPA _ r1).mono ?_); rintro e wa ⟨Aa, ma2, ca, rfl, hma2, Oa, HBa⟩; rw [HMA.out] at hma2; subst hma2; have Ca := stq C1 HBa; have Ta := T1.below HBa; have Pa := P1.below HBa; have ra := r1.below HBa) | (go_at_call 23; (with_reducible refine (hMx _ _ _ Oa.rdl).mono ?_); rintro e wb ⟨rfl, HBb⟩; have bb := below_alloc wb (mbo MX); have C2 := stq (stq Ca HBb) bb; have T2 := (Ta.below HBb).below bb; have P2 := (Pa.below HBb).below bb; have r2 := (ra.below HBb).below bb; have rL2 : RdM (wb.alloc (mbo MX)) (some ⟨wb.heap.size, 0, none⟩) 1 [MX] := RdM_lit1 MX wb))
  rw [← HLL.out] at rL2
  generalize (wb.alloc (mbo MX)) = w2 at *
  generalize wb.heap.size = gA at *
  obtain ⟨ad2, hA2, -, -, -, a3, a4⟩ := RdM.at5 rL2 0 (by rw [HM.out]; exact h4n)
  injection hA2 with hA2
  subst hA2
  rw [Nat.zero_mul, add_zero_] at a3 a4
  have a3 : w2.cell? ⟨gA, 3, none⟩ = _ := a3
  have a4 : w2.cell? ⟨gA, 4, none⟩ = _ := a4
  obtain ⟨lo0, hlo0⟩ : ∃ x, (L.getD 0 zMet).2.2.2.1 = x := ⟨_, rfl⟩
  obtain ⟨hi0, hhi0⟩ : ∃ x, (L.getD 0 zMet).2.2.2.2 = x := ⟨_, rfl⟩
  rw [hlo0, hhi0] at HTOP
  rw [hlo0] at a3
  rw [hhi0] at a4
  clear hlo0 hhi0
  have hd : Below w2.heap.size w2 w2.drew := (Below.refl _ _).drew
  have hSk : ∀ Y, Below w2.heap.size w2 Y → Below w2.heap.size w2 Y ∧ Y.cell? ⟨gA, 3, none⟩ = some (.string lo0) ∧ Y.cell? ⟨gA, 4, none⟩ = some (.string hi0) := fun Y h => ⟨h, (h.cell (World.block_lt_of_cell? _ _ a3)).trans a3, (h.cell (World.block_lt_of_cell? _ _ a4)).trans a4⟩
  have hS0 := hSk _ hd
  go_region_held3 (fun Y => Below w2.heap.size w2 Y ∧ Y.cell? ⟨gA, 3, none⟩ = some (.string lo0) ∧ Y.cell? ⟨gA, 4, none⟩ = some (.string hi0)) (first | exact hS0 | assumption | (have hh := ‹Below w2.heap.size w2 _ ∧ _ ∧ _›; exact hSk _ (hh.1.alloc hh.1.size _)) | exact hSk _ (hd.alloc hd.size _)) (fail)
  have Sp3 : Sp (w2.alloc (.cells #[.string lo0, .string hi0] 61)).drew w2.heap.size (lo0, hi0) := heap_alloc_new w2 (.cells #[.string lo0, .string hi0] 61)
  have B23 : Below w2.heap.size w2 (w2.alloc (.cells #[.string lo0, .string hi0] 61)).drew := (below_alloc w2 _).drew
  clear hSk hS0 hd a3 a4 y1 y1b O1 ri1 hFl hPA t0 t1 t2 t10 t11 t12
  generalize (w2.alloc (.cells #[.string lo0, .string hi0] 61)).drew = w3 at *
  go_wp2
  go_loopw [53] (fun iv wr => ∃ k : Nat, k ≤ 1 ∧ iv = .int .i64 (k : Int) ∧ Sp wr w2.heap.size (spM (lo0, hi0) (L.take k)) ∧ Below w2.heap.size w2 wr) (fun iv _ => 1 - (intOf iv).toNat)
  case atStart => exact ⟨0, Nat.zero_le _, rfl, Sp3, B23⟩
  case round =>
    obtain ⟨k, hk, rfl, HSp, HB⟩ := hrel
    by_cases hlt : k < 1
    · have hlti : (k : Int) < (1 : Int) := Int.ofNat_lt.2 hlt
      obtain ⟨hw1, hw2⟩ := idx_w 1 k hlt (by omega)
      obtain ⟨ad, had, x0, x1, x2, x3, x4⟩ := RdM.at5 (rL2.below HB) k (by rw [HM.out]; exact hlt)
      injection had with had
      subst had
      simp only [add_plain] at x0 x1 x2 x3 x4
      have HNX := hide (spM_next (lo0, hi0) L k (by rw [HM.out]; exact hlt))
      obtain ⟨y, hy⟩ : ∃ y, L.getD k zMet = y := ⟨_, rfl⟩
      rw [hy] at x0 x1 x2 x3 x4 HNX
      obtain ⟨⟨p, q⟩, hpq⟩ : ∃ s, spM (lo0, hi0) (L.take k) = s := ⟨_, rfl⟩
      rw [hpq] at HSp HNX
      have b1 := below_alloc wr (mbo y)
      have M1 := Mb.new wr y
      have S1 := HSp.below b1
      obtain ⟨m0, m1, m2', m3, m4⟩ := M1.read
      obtain ⟨s0, s1, s2, s3⟩ := S1.read
      simp only at s0 s1
      have hW := fun W => hWi p q y W
      clear hy hpq
      go_wp2_with (first | (go_at_call 26; (with_reducible refine (hW _).mono ?_); rintro e w6 ⟨rfl, HB6⟩; have S6 := S1.below HB6; have C6 := stq HB (stq b1 HB6); obtain ⟨s60, s61, s62, s63⟩ := S6.read))
      go_roundw
      case rel => exact ⟨k + 1, hlt, by go_num, by rw [HNX.out]; exact S6.set _ _, (C6.setCell (p := ⟨w2.heap.size, 0, none⟩) (Nat.le_refl _) _).setCell (p := ⟨w2.heap.size, 1, none⟩) (Nat.le_refl _) _⟩
      case measure => first | exact idx_m 1 k hlt | exact idx_m2 1 k hlt | exact idx_m3 1 k hlt hw1
    · obtain rfl : k = 1 := Nat.le_antisymm hk (Nat.not_lt.1 hlt)
      obtain ⟨wo, rfl⟩ : ∃ z : World, z = wr := ⟨wr, rfl⟩
      rw [← HM.out, List.take_length, ← HTOP.out] at HSp
      obtain ⟨⟨p, q⟩, hpq⟩ : ∃ s, TOP = s := ⟨_, rfl⟩
      have HPQ := hide hpq
      rw [hpq] at HSp HBEL
      have T4 := T2.below HB
      obtain ⟨t40, t41, t42⟩ := T4.read
      obtain ⟨s0, s1, s2, s3⟩ := HSp.read
      simp only at s0 s1
      have hT := fun W h => hTo p q 3 W h
      rw [show toM p q (atM 3 l) = BEL from HBEL.out.symm] at hT
      have r4 := r2.below HB
      clear hpq
      go_wp2_with (first | (go_at_call 27; (with_reducible refine (hT _ r4).mono ?_); rintro e w4 ⟨A4, m4, c4, rfl, hm4, O4, HB4⟩; rw [HMB.out] at hm4; subst hm4; have S4 := HSp.below HB4; have C4 := stq HB HB4))
      go_loopw [68] (fun iv wr => ∃ k : Nat, k ≤ mb ∧ iv = .int .i64 (k : Int) ∧ Sp wr w2.heap.size (spM (p, q) (BEL.take k)) ∧ OwM wr wo.heap.size (.slice A4 mb c4) BEL ∧ Below w2.heap.size w2 wr) (fun iv _ => mb - (intOf iv).toNat)
      case atStart => exact ⟨0, Nat.zero_le _, rfl, S4, O4, C4⟩
      case round =>
        obtain ⟨j, hj, rfl, HSq, HO4, HB⟩ := hrel
        by_cases hlt : j < mb
        · have hlti : (j : Int) < (mb : Int) := Int.ofNat_lt.2 hlt
          obtain ⟨hw1, hw2⟩ := idx_w mb j hlt (by omega)
          obtain ⟨ad, hA4, x0, x1, x2, x3, x4⟩ := RdM.at5 HO4.rdl j (by rw [HMB.out]; exact hlt)
          subst hA4
          have HNX := hide (spM_next (p, q) BEL j (by rw [HMB.out]; exact hlt))
          obtain ⟨y, hy⟩ : ∃ y, BEL.getD j zMet = y := ⟨_, rfl⟩
          rw [hy] at x0 x1 x2 x3 x4 HNX
          obtain ⟨⟨u, v⟩, huv⟩ : ∃ s, spM (p, q) (BEL.take j) = s := ⟨_, rfl⟩
          rw [huv] at HSq HNX
          have b1 := below_alloc wr (mbo y)
          have M1 := Mb.new wr y
          have S1 := HSq.below b1
          have HO41 := HO4.below b1
          obtain ⟨m0, m1, m2', m3, m4⟩ := M1.read
          obtain ⟨s0', s1', s2', s3'⟩ := S1.read
          simp only at s0' s1'
          have hW := fun W => hWi u v y W
          clear hy huv
          go_wp2_with (first | (go_at_call 26; (with_reducible refine (hW _).mono ?_); rintro e w6 ⟨rfl, HB6⟩; have S6 := S1.below HB6; have O6 := HO41.below HB6; have C6 := stq HB (stq b1 HB6); obtain ⟨s60, s61, s62, s63⟩ := S6.read))
          have O62 := Ow.setCell (Ow.setCell O6 S6 (by decide) 0 (.string (minS u y.2.2.2.1))) (blk_set S6 0 (.string (minS u y.2.2.2.1))) (by decide) 1 (.string (maxS v y.2.2.2.2))
          go_roundw
          case rel => exact ⟨j + 1, hlt, by go_num, by rw [HNX.out]; exact S6.set _ _, O62, (C6.setCell (p := ⟨w2.heap.size, 0, none⟩) (Nat.le_refl _) _).setCell (p := ⟨w2.heap.size, 1, none⟩) (Nat.le_refl _) _⟩
          case measure => first | exact idx_m mb j hlt | exact idx_m2 mb j hlt | exact idx_m3 mb j hlt hw1
        · obtain rfl : j = mb := Nat.le_antisymm hj (Nat.not_lt.1 hlt)
          obtain ⟨wp, rfl⟩ : ∃ z : World, z = wr := ⟨wr, rfl⟩
          rw [← HMB.out, List.take_length] at HSq
          obtain ⟨⟨u, v⟩, huv⟩ : ∃ s, spM (p, q) BEL = s := ⟨_, rfl⟩
          rw [huv] at HSq
          rw [HPQ.out, huv] at HBOT
          clear huv s0 s1 s2 s3 t40 t41 t42 S4 C4 O4
          have rLp := rL2.below HB
          have T5 := T2.below HB
          have P5 := P2.below HB
          have r5 := r2.below HB
          have hsum : (idsM L).length + (idsM BEL).length ≤ 17592186044416 := by rw [ids_len, ids_len, HM.out, HMB.out]; omega
          have HSUM := hide hsum
          clear hsum
          go_wp2_with (first | (go_at_call 29; (with_reducible refine (hId _ _ _ rLp).mono ?_); rintro e w5 ⟨v5, rfl, O5, HB5⟩; obtain ⟨A5, c5, hv5, ri5⟩ := O5.rd; rw [ids_len, HM.out] at hv5; subst hv5; have HO5 := HO4.below HB5; have S5 := HSq.below HB5; have C5 := stq HB HB5) | (go_at_call 29; (with_reducible refine (hIdB _ _ _ HO5.rdl).mono ?_); rintro e w6 ⟨v6, rfl, O6, HB6⟩; obtain ⟨A6, c6, hv6, ri6⟩ := O6.rd; rw [ids_len, HMB.out] at hv6; subst hv6; have ri56 := ri5.below HB6; have S6 := S5.below HB6; have C6 := stq C5 HB6; have hCt := Concat_two A5 A6 c5 c6 1 j w6.heap.size (idsM L) (idsM BEL) w6 rfl ri56 ri6 (by rw [ids_len]; exact HM.out) (by rw [ids_len]; exact HMB.out) HSUM.out; rw [← HINP.out] at hCt) | (go_at_call 28; (with_reducible refine hCt.mono ?_); rintro e w7 ⟨v7, rfl, O7, HB7⟩; have S7 := S6.below HB7; have C7 := stq C6 HB7; have hg9 := C7.size; have b8 := below_alloc w7 (.cells #[.int .i64 2, v7, .bool true] 28); have P8 : Pl (w7.alloc (.cells #[.int .i64 2, v7, .bool true] 28)) w7.heap.size 2 v7 true := heap_alloc_new w7 (.cells #[.int .i64 2, v7, .bool true] 28); have S8 := S7.below b8; have O8 := O7.below b8; have C8 := stq C7 b8; obtain ⟨A7, c7, hv7, -⟩ := O7.rd; subst hv7))
          clear hCt
          go_loopw [16] (fun iv wr => ∃ i : Nat, i ≤ 0 ∧ iv = .int .i64 ((i + 4 : Nat) : Int) ∧ Pl wr w7.heap.size 2 (.slice A7 INP.length c7) (botG (u, v) l 4 i) ∧ Sp wr w2.heap.size (u, v) ∧ OwI wr w6.heap.size (.slice A7 INP.length c7) INP ∧ Below w2.heap.size w2 wr) (fun iv _ => 4 - (intOf iv).toNat)
          case atStart => exact ⟨0, by decide, rfl, P8, S8, O8, C8⟩
          case round =>
            obtain ⟨i, hi, rfl, HPl, HSq2, HO7, HB⟩ := hrel
            have T6 := T2.below HB
            have rr := r2.below HB
            have P6 := P2.below HB
            obtain ⟨t60, t61, t62⟩ := T6.read
            obtain ⟨s0, s1, s2, s3⟩ := HSq2.read
            simp only at s0 s1
            have hgp : w7.heap.size ≠ w2.heap.size := blk_ne HPl HSq2 (by decide)
            by_cases hlt : i < 0
            · exact absurd hlt (Nat.not_lt_zero _)
            · obtain rfl : i = 0 := by omega
              rw [← HBOT.out] at HPl
              obtain ⟨p0', p1', p2', p3', p4', p5'⟩ := HPl.read
              obtain ⟨e0', e1', e2', e3', e4', e5'⟩ := P6.read
              go_wp2
              have hF1 := blk_set P6 0 (.int .i64 2)
              have hF2 := blk_set hF1 1 (.slice A7 INP.length c7)
              have hF := blk_set hF2 2 (.bool BOT)
              have OF := Ow.setCell (Ow.setCell (Ow.setCell HO7 P6 (by decide) 0 (.int .i64 2)) hF1 (by decide) 1 (.slice A7 INP.length c7)) hF2 (by decide) 2 (.bool BOT)
              have C9 := C2.trans (HB.mono C2.size)
              have hle : w.heap.size ≤ w.heap.size + 1 := Nat.le_succ _
              have C10 := ((C9.setCell (p := ⟨w.heap.size + 1, 0, none⟩) hle (.int .i64 2)).setCell (p := ⟨w.heap.size + 1, 1, none⟩) hle (.slice A7 INP.length c7)).setCell (p := ⟨w.heap.size + 1, 2, none⟩) hle (.bool BOT)
              exact bodyPost_ret (v := .tuple #[.agg #[.int .i64 2, .slice A7 INP.length c7, .bool BOT], .bool true, .int .i64 0]) (results_ctt Try.results9 _ _ (w.heap.size + 1) _ _ _ _ rfl hF Try.underlying28 rfl rfl) rfl ⟨_, rfl, OF.lower (Nat.le_trans C2.size C6.size), C10⟩
end Go.Proofs.Ytbhhnlgpbhbcmaa
end

section
/- What is merged next, in one sentence. -/
namespace Go.Proofs.Ytbhhnlgpbhbcmaa
open Go.RowKit Go.Proofs.YtbhhnlgpbhbcmaaW.PrintWords
set_option linter.unusedVariables false

def topL (lv : Nat) (l : List Met) : List Met := match lv with
  | 0 => atM 0 l
  | k + 1 => [maxM (atM ((k + 1 : Nat) : Int) l)]
/-- the first level that is full -/
def firstF (lv : Nat) (l : List Met) : Prop := lv ≤ 2 ∧ fullM lv l = true ∧ ∀ k, k < lv → fullM k l = false
theorem full_pos (lv : Nat) (h2 : lv ≤ 2) (l : List Met) (h : fullM lv l = true) : 0 < (atM (lv : Int) l).length := by
  rcases Nat.eq_zero_or_pos (atM (lv : Int) l).length with h0 | h0
  · have e := List.eq_nil_of_length_eq_zero h0
    match lv, h2 with
    | 0, _ =>
      have h3 : (4 : Nat) ≤ (atM 0 l).length := of_decide_eq_true h
      rw [show atM 0 l = [] from e] at h3
      exact absurd h3 (by decide)
    | 1, _ =>
      have h3 : (128 : Int) < sumC (atM 1 l) := of_decide_eq_true h
      rw [show atM 1 l = [] from e] at h3
      exact absurd h3 (by decide)
    | 2, _ =>
      have h3 : (512 : Int) < sumC (atM 2 l) := of_decide_eq_true h
      rw [show atM 2 l = [] from e] at h3
      exact absurd h3 (by decide)
  · exact h0
theorem first_cases (l : List Met) : (fullsK l 3 = [] ∧ ∀ k, k < 3 → fullM k l = false) ∨ (∃ t, fullM 0 l = true ∧ fullsK l 3 = 0 :: t) ∨ (∃ t, fullM 0 l = false ∧ fullM 1 l = true ∧ fullsK l 3 = 1 :: t) ∨ (∃ t, fullM 0 l = false ∧ fullM 1 l = false ∧ fullM 2 l = true ∧ fullsK l 3 = 2 :: t) := by
  simp only [fullsK]
  cases h0 : fullM 0 l <;> cases h1 : fullM 1 l <;> cases h2 : fullM 2 l <;> simp
  intro k hk
  have : k = 0 ∨ k = 1 ∨ k = 2 := by omega
  rcases this with rfl | rfl | rfl
  · exact h0
  · exact h1
  · exact h2
abbrev plV (lv : Int) (v : Value) (b : Bool) : Value := .agg #[.int .i64 lv, v, .bool b]
set_option maxRecDepth 100000 in
set_option maxHeartbeats 3200000 in
theorem ChooseN_any (A : Option Addr) (c n : Nat) (seq nx : Int) (l : List Met) (w : World) (hn : l.length = n) (hr : RdM w A c l) (hf : ∀ x ∈ l, fitI x.1) (hl : l.length * 56 ≤ 140737488351232) (h : chkM l seq nx ≠ 0 ∨ fullsK l 3 = []) :
    Calls Try.prog 9 #[verV A n c seq nx] w fun e w' => e = .returned (.tuple #[plV 0 (.slice none 0 0) false, .bool false, .int .i64 (chkM l seq nx)]) ∧ Below w.heap.size w w' := by
  obtain ⟨B0, T0, P0⟩ := cbox w A n c seq nx
  obtain ⟨t0, t1, t2⟩ := T0.read
  have hFl := fun W (h : RdM W A c l) => Full_any A c n seq nx l W hn h hf hl
  have r0 := hr.below B0
  have hle : w.heap.size ≤ w.heap.size + 1 := Nat.le_succ _
  by_cases hz : chkM l seq nx = 0
  · have h0 : fullsK l 3 = [] := h.resolve_left (fun e => e hz)
    simp only [hz, ne_eq, not_true, false_and, false_or, true_and] at hFl
    rw [h0] at hFl
    rw [hz]
    clear hn hf hl hz h h0 hr
    go_enter Try.func9, Try.ntmps9
    go_wp2_with (first | (go_at_call 14; (with_reducible refine (hFl _ r0).mono ?_); rintro e w1 ⟨⟨v1, rfl, O1⟩, HB1⟩; obtain ⟨A1, c1, hv1, ri1⟩ := O1.rd; replace hv1 : v1 = .slice A1 0 c1 := hv1; subst hv1; have C1 := stq B0 HB1; have P1 := P0.below HB1; obtain ⟨p0, p1, p2, p3, p4, p5⟩ := P1.read))
    have hF := blk_set (blk_set (blk_set P1 0 (.int .i64 0)) 1 (.slice none 0 0)) 2 (.bool false)
    exact bodyPost_ret (v := .tuple #[plV 0 (.slice none 0 0) false, .bool false, .int .i64 0]) (results_ctt Try.results9 _ _ (w.heap.size + 1) _ _ _ _ rfl hF Try.underlying28 rfl rfl) rfl ⟨rfl, ((C1.setCell (p := ⟨w.heap.size + 1, 0, none⟩) hle (.int .i64 0)).setCell (p := ⟨w.heap.size + 1, 1, none⟩) hle (.slice none 0 0)).setCell (p := ⟨w.heap.size + 1, 2, none⟩) hle (.bool false)⟩
  · simp only [hz, ne_eq, not_false_eq_true, true_and, false_and, or_false] at hFl
    generalize chkM l seq nx = z at *
    have hzb : (z == 0) = false := beq_eq_false_iff_ne.2 hz
    clear hn hf hl h hr
    go_enter Try.func9, Try.ntmps9
    go_wp2_with (first | (go_at_call 14; (with_reducible refine (hFl _ r0).mono ?_); rintro e w1 ⟨rfl, HB1⟩; have C1 := stq B0 HB1; have P1 := P0.below HB1; obtain ⟨p0, p1, p2, p3, p4, p5⟩ := P1.read))
    have hF := blk_set (blk_set (blk_set P1 0 (.int .i64 0)) 1 (.slice none 0 0)) 2 (.bool false)
    exact bodyPost_ret (v := .tuple #[plV 0 (.slice none 0 0) false, .bool false, .int .i64 z]) (results_ctt Try.results9 _ _ (w.heap.size + 1) _ _ _ _ rfl hF Try.underlying28 rfl rfl) rfl ⟨rfl, ((C1.setCell (p := ⟨w.heap.size + 1, 0, none⟩) hle (.int .i64 0)).setCell (p := ⟨w.heap.size + 1, 1, none⟩) hle (.slice none 0 0)).setCell (p := ⟨w.heap.size + 1, 2, none⟩) hle (.bool false)⟩
theorem Choose_any (A : Option Addr) (c n : Nat) (seq nx : Int) (l : List Met) (w : World) (hn : l.length = n) (hr : RdM w A c l) (hf : ∀ x ∈ l, fitI x.1) (hl : l.length * 56 ≤ 140737488351232) (hz : chkM l seq nx = 0) (hne : fullsK l 3 ≠ []) :
    ∃ lv : Nat, firstF lv l ∧ Calls Try.prog 9 #[verV A n c seq nx] w fun e w' => ∃ v, e = .returned (.tuple #[plV (lv : Int) v (botP lv l (topL lv l)), .bool true, .int .i64 0]) ∧ OwI w' w.heap.size v (inpG (lv : Int) l (topL lv l)) ∧ Below w.heap.size w w' := by
  rcases first_cases l with ⟨h, -⟩ | ⟨t, h0, -⟩ | ⟨t, h0, h1, ht⟩ | ⟨t, h0, h1, h2, ht⟩
  · exact absurd h hne
  · exact ⟨0, ⟨by decide, h0, fun k hk => absurd hk (Nat.not_lt_zero _)⟩, Choose0_any A c n seq nx l w hn hr hf hl hz h0⟩
  · refine ⟨1, ⟨by decide, h1, fun k hk => ?_⟩, Choose1_any A c n seq nx l w hn hr hf hl hz t ht (full_pos 1 (by decide) l h1)⟩
    obtain rfl : k = 0 := by omega
    exact h0
  · refine ⟨2, ⟨by decide, h2, fun k hk => ?_⟩, Choose2_any A c n seq nx l w hn hr hf hl hz t ht (full_pos 2 (by decide) l h2)⟩
    have : k = 0 ∨ k = 1 := by omega
    rcases this with rfl | rfl
    · exact h0
    · exact h1
end Go.Proofs.Ytbhhnlgpbhbcmaa
end

section
/- What is chosen, plainly: a span holds what it was made of; numbers stand once; nothing deeper is touched. -/
namespace Go.Proofs.Ytbhhnlgpbhbcmaa
open Go.RowKit Go.Proofs.YtbhhnlgpbhbcmaaW.PrintWords
set_option linter.unusedVariables false

theorem leB_iff (s t : ByteArray) : leB s t = true ↔ ¬ bl t < bl s := by
  rw [leB]; by_cases h : bl t < bl s <;> simp [h]
theorem leB_refl (s : ByteArray) : leB s s = true := (leB_iff s s).2 (lt_ir _)
theorem leB_tr {s t u : ByteArray} (h : leB s t = true) (h2 : leB t u = true) : leB s u = true := by
  rw [leB_iff] at *
  intro h3
  rcases lt_tri (bl s) (bl t) with h4 | h4 | h4
  · exact h2 (lt_tr h3 h4)
  · rw [h4] at h3; exact h2 h3
  · exact h h4
theorem leB_tot {s t : ByteArray} (h : ¬ leB s t = true) : leB t s = true := by
  rw [leB_iff] at *
  exact fun h2 => h (fun h3 => lt_as h2 h3)
theorem min_l (s t : ByteArray) : leB (minS s t) s = true := by
  rw [minS]; split
  · exact leB_refl s
  · next h => exact leB_tot h
theorem min_r (s t : ByteArray) : leB (minS s t) t = true := by
  rw [minS]; split
  · next h => exact h
  · exact leB_refl t
theorem max_l (s t : ByteArray) : leB s (maxS s t) = true := by
  rw [maxS]; split
  · exact leB_refl s
  · next h => exact leB_tot h
theorem max_r (s t : ByteArray) : leB t (maxS s t) = true := by
  rw [maxS]; split
  · next h => exact h
  · exact leB_refl t
theorem spM_bd (L : List Met) : ∀ s : ByteArray × ByteArray, leB (spM s L).1 s.1 = true ∧ leB s.2 (spM s L).2 = true ∧ ∀ a ∈ L, leB (spM s L).1 a.2.2.2.1 = true ∧ leB a.2.2.2.2 (spM s L).2 = true := by
  induction L with
  | nil => exact fun s => ⟨leB_refl _, leB_refl _, fun a ha => by cases ha⟩
  | cons x L ih =>
    intro s
    obtain ⟨h1, h2, h3⟩ := ih (minS s.1 x.2.2.2.1, maxS s.2 x.2.2.2.2)
    have e : spM s (x :: L) = spM (minS s.1 x.2.2.2.1, maxS s.2 x.2.2.2.2) L := rfl
    rw [e]
    refine ⟨leB_tr h1 (min_l _ _), leB_tr (max_l _ _) h2, fun a ha => ?_⟩
    rcases List.mem_cons.1 ha with rfl | ha
    · exact ⟨leB_tr h1 (min_r _ _), leB_tr (max_r _ _) h2⟩
    · exact h3 a ha
theorem seenB_iff (l : List Met) (k : Nat) (x : Int) : seenB l k x = true ↔ ∃ j, j < k ∧ x = (l.getD j zMet).1 := by
  induction k with
  | zero => simp [seenB]
  | succ k ih =>
    rw [seenB, Bool.or_eq_true, ih, decide_eq_true_eq]
    constructor
    · rintro (h | ⟨j, hj, h⟩)
      · exact ⟨k, Nat.lt_succ_self _, h⟩
      · exact ⟨j, Nat.lt_succ_of_lt hj, h⟩
    · rintro ⟨j, hj, h⟩
      rcases Nat.lt_or_ge j k with h2 | h2
      · exact .inr ⟨j, h2, h⟩
      · obtain rfl : j = k := by omega
        exact .inl h
theorem ids_one (l : List Met) (seq nx : Int) (h : chkM l seq nx = 0) (x y : Met) (hx : x ∈ l) (hy : y ∈ l) (e : x.1 = y.1) : x = y := by
  obtain ⟨i, hi, rfl⟩ := List.mem_iff_getElem.1 hx
  obtain ⟨j, hj, rfl⟩ := List.mem_iff_getElem.1 hy
  have hg := (chk_facts l seq nx h).2
  have at_ : ∀ k (hk : k < l.length), l.getD k zMet = l[k] := fun k hk => by rw [List.getD_eq_getElem?_getD, List.getElem?_eq_getElem hk]; rfl
  have key : ∀ i j, i < j → j < l.length → (l.getD i zMet).1 = (l.getD j zMet).1 → False := by
    intro i j hij hj e
    have h1 := hg j hj
    rw [goodM, Bool.and_eq_true, Bool.and_eq_true, Bool.and_eq_true] at h1
    have h2 := h1.2.2.1
    have h3 : seenB l j (l.getD j zMet).1 = true := (seenB_iff l j _).2 ⟨i, hij, e.symm⟩
    rw [h3] at h2
    exact absurd h2 (by decide)
  rcases Nat.lt_trichotomy i j with h1 | h1 | h1
  · exact absurd (by rw [at_ i hi, at_ j hj]; exact e) (key i j h1 hj)
  · subst h1; rfl
  · exact absurd (by rw [at_ i hi, at_ j hj]; exact e.symm) (key j i h1 hi)
theorem may_lev (x : Met) (h : mayM x = true) : 0 ≤ x.2.1 ∧ x.2.1 ≤ 3 ∧ leB x.2.2.2.1 x.2.2.2.2 = true := by
  simp only [mayM, wI, Bool.and_eq_true, decide_eq_true_eq] at h
  exact ⟨h.1.1.1.1.2.1, h.1.1.1.1.2.2, h.2⟩
theorem atM_mem (lv : Int) (l : List Met) (x : Met) : x ∈ atM lv l ↔ x ∈ l ∧ x.2.1 = lv := by
  rw [atM, List.mem_filter]; simp
theorem toM_mem (a b : ByteArray) (l : List Met) (x : Met) : x ∈ toM a b l ↔ x ∈ l ∧ touchM a b x = true := by
  rw [toM, List.mem_filter]
theorem topL_sub (lv : Nat) (l : List Met) (h : firstF lv l) (x : Met) (hx : x ∈ topL lv l) : x ∈ l ∧ x.2.1 = (lv : Int) := by
  obtain ⟨h2, hf, -⟩ := h
  match lv, h2, hf, hx with
  | 0, _, _, hx => exact (atM_mem 0 l x).1 hx
  | k + 1, h2, hf, hx =>
    have hp := full_pos (k + 1) h2 l hf
    have e : x = maxM (atM ((k + 1 : Nat) : Int) l) := by simpa [topL] using hx
    rw [e]
    exact (atM_mem _ l _).1 (bestM_mem _ _ (by omega))
theorem belG_sub (lv : Int) (l L : List Met) (x : Met) (hx : x ∈ belG lv l L) : x ∈ l ∧ x.2.1 = lv + 1 := (atM_mem _ _ _).1 ((toM_mem _ _ _ _).1 hx).1
theorem inp_mem (lv : Int) (l L : List Met) (z : Int) (h : inL (inpG lv l L) z = true) : ∃ a, (a ∈ L ∨ a ∈ belG lv l L) ∧ a.1 = z := by
  have h2 : z ∈ inpG lv l L := of_decide_eq_true h
  rw [inpG, List.mem_append, idsM, idsM, List.mem_map, List.mem_map] at h2
  rcases h2 with ⟨a, h3, h4⟩ | ⟨a, h3, h4⟩
  · exact ⟨a, .inl h3, h4⟩
  · exact ⟨a, .inr h3, h4⟩
theorem botG_all (s : ByteArray × ByteArray) (l : List Met) (d0 : Int) (k : Nat) (h : botG s l d0 k = true) : ∀ j : Nat, j < k → toM s.1 s.2 (atM ((j : Int) + d0) l) = [] := by
  induction k with
  | zero => exact fun j hj => absurd hj (Nat.not_lt_zero _)
  | succ k ih =>
    rw [botG, Bool.and_eq_true] at h
    intro j hj
    rcases Nat.lt_or_ge j k with h2 | h2
    · exact ih h.1 j h2
    · obtain rfl : j = k := by omega
      exact List.eq_nil_of_length_eq_zero (of_decide_eq_true h.2)
/-- nothing deeper has a key of what is chosen -/
theorem bottom_law (lv : Nat) (l : List Met) (seq nx : Int) (hz : chkM l seq nx = 0) (hf : firstF lv l) (hb : botP lv l (topL lv l) = true) (a b : Met) (ha : a ∈ l) (hb2 : b ∈ l) (hin : inL (inpG (lv : Int) l (topL lv l)) a.1 = true) (hlev : (lv : Int) + 1 < b.2.1) (h1 : leB a.2.2.2.1 b.2.2.2.2 = true) : leB b.2.2.2.1 a.2.2.2.2 = false := by
  refine Bool.eq_false_iff.2 fun h2 => ?_
  obtain ⟨a', ha', he⟩ := inp_mem _ l _ _ hin
  have hal : a' ∈ l := by
    rcases ha' with h | h
    · exact (topL_sub lv l hf a' h).1
    · exact (belG_sub _ l _ a' h).1
  obtain rfl : a' = a := ids_one l seq nx hz a' a hal ha he
  obtain ⟨-, -, hab⟩ := may_lev a' (chk_may l seq nx hz a' ha)
  obtain ⟨-, hb3, -⟩ := may_lev b (chk_may l seq nx hz b hb2)
  have hS : leB (spM (topS (topL lv l)) (belG (lv : Int) l (topL lv l))).1 a'.2.2.2.1 = true ∧ leB a'.2.2.2.2 (spM (topS (topL lv l)) (belG (lv : Int) l (topL lv l))).2 = true := by
    obtain ⟨s1, s2, s3⟩ := spM_bd (belG (lv : Int) l (topL lv l)) (topS (topL lv l))
    rcases ha' with h | h
    · obtain ⟨-, -, t3⟩ := spM_bd (topL lv l) (((topL lv l).getD 0 zMet).2.2.2.1, ((topL lv l).getD 0 zMet).2.2.2.2)
      obtain ⟨u1, u2⟩ := t3 a' h
      exact ⟨leB_tr s1 u1, leB_tr u2 s2⟩
    · exact s3 a' h
  rw [botP] at hb
  obtain ⟨j, hj⟩ : ∃ j : Nat, b.2.1 = (j : Int) + ((lv : Int) + 2) := ⟨(b.2.1 - ((lv : Int) + 2)).toNat, by omega⟩
  have hj2 : j < 2 - lv := by have := hf.1; omega
  have hem := botG_all _ l _ _ hb j hj2
  generalize spM (topS (topL lv l)) (belG (lv : Int) l (topL lv l)) = s at *
  have hm : b ∈ toM s.1 s.2 (atM ((j : Int) + ((lv : Int) + 2)) l) := by
    refine (toM_mem _ _ _ _).2 ⟨(atM_mem _ _ _).2 ⟨hb2, hj⟩, ?_⟩
    rw [touchM, leB_tr (leB_tr hS.1 hab) hS.2, leB_tr h2 hS.2, leB_tr hS.1 h1]
    rfl
  rw [hem] at hm
  cases hm
theorem first_one {lv lv' : Nat} {l : List Met} (h : firstF lv l) (h' : firstF lv' l) : lv = lv' := by
  rcases Nat.lt_trichotomy lv lv' with h1 | h1 | h1
  · have := h'.2.2 lv h1; rw [h.2.1] at this; cases this
  · exact h1
  · have := h.2.2 lv' h1; rw [h'.2.1] at this; cases this
theorem Choose_at (lv : Nat) {l : List Met} (hfst : firstF lv l) (A : Option Addr) (c n : Nat) (seq nx : Int) (w : World) (hn : l.length = n) (hr : RdM w A c l) (hf : ∀ x ∈ l, fitI x.1) (hl : l.length * 56 ≤ 140737488351232) (hz : chkM l seq nx = 0) (hne : fullsK l 3 ≠ []) :
    Calls Try.prog 9 #[verV A n c seq nx] w fun e w' => ∃ v, e = .returned (.tuple #[plV (lv : Int) v (botP lv l (topL lv l)), .bool true, .int .i64 0]) ∧ OwI w' w.heap.size v (inpG (lv : Int) l (topL lv l)) ∧ Below w.heap.size w w' := by
  obtain ⟨lv', h1, h2⟩ := Choose_any A c n seq nx l w hn hr hf hl hz hne
  rw [first_one hfst h1]
  exact h2
theorem topL_len (lv : Nat) (l : List Met) (h : firstF lv l) (hl : l.length ≤ 256) : (topL lv l).length ≤ 256 := by
  match lv with
  | 0 => exact Nat.le_trans (atM_len 0 l) hl
  | k + 1 => show 1 ≤ 256; decide
theorem inpG_len (lv : Int) (l L : List Met) (h : L.length ≤ 256) (hl : l.length ≤ 256) : (inpG lv l L).length ≤ 512 := by
  have h2 : (belG lv l L).length ≤ l.length := Nat.le_trans (toM_len _ _ _) (atM_len _ _)
  rw [inpG, List.length_append, ids_len, ids_len]
  omega
end Go.Proofs.Ytbhhnlgpbhbcmaa
end

section
/- The walk of PickBottom: where a plan says that nothing lies deeper, no deeper table has a key of any that is chosen. -/
namespace Go.Proofs.Ytbhhnlgpbhbcmaa
open Go.RowKit Go.Proofs.YtbhhnlgpbhbcmaaW.PrintWords
set_option linter.unusedVariables false

/-- the page's data in a variable -/
abbrev mro (x : Met) : Obj := .cells #[.int .i64 x.1, .int .i64 x.2.1, .int .i64 x.2.2.1, .string x.2.2.2.1, .string x.2.2.2.2] 39
def Mr (w : World) (g : Nat) (c : Met) : Prop := w.heap[g]? = some (.cells #[.int .i64 c.1, .int .i64 c.2.1, .int .i64 c.2.2.1, .string c.2.2.2.1, .string c.2.2.2.2] 39 (0, 0))
theorem Mr.new (w : World) (c : Met) : Mr (w.alloc (mro c)) w.heap.size c := heap_alloc_new w _
theorem Mr.read {w : World} {g : Nat} {c : Met} (h : Mr w g c) : w.cell? ⟨g, 0, none⟩ = some (.int .i64 c.1) ∧ w.cell? ⟨g, 1, none⟩ = some (.int .i64 c.2.1) ∧ w.cell? ⟨g, 2, none⟩ = some (.int .i64 c.2.2.1) ∧ w.cell? ⟨g, 3, none⟩ = some (.string c.2.2.2.1) ∧ w.cell? ⟨g, 4, none⟩ = some (.string c.2.2.2.2) :=
  ⟨blk_cell h 0, blk_cell h 1, blk_cell h 2, blk_cell h 3, blk_cell h 4⟩
theorem Mr.below {w w1 : World} {g : Nat} {c : Met} (h : Mr w g c) (hb : Below w.heap.size w w1) : Mr w1 g c := blk_below h hb
theorem mr2 (w : World) (x y : Met) : Below w.heap.size w ((w.alloc (mro x)).alloc (mro y)).drew ∧ Mr ((w.alloc (mro x)).alloc (mro y)).drew w.heap.size x ∧ Mr ((w.alloc (mro x)).alloc (mro y)).drew (w.heap.size + 1) y := by
  have b1 := below_alloc w (mro x)
  have b2 := below_alloc (w.alloc (mro x)) (mro y)
  have s1 : (w.alloc (mro x)).heap.size = w.heap.size + 1 := World.size_alloc _ _
  have M := Mr.new (w.alloc (mro x)) y
  rw [s1] at M
  exact ⟨(stq b1 b2).drew, (Mr.new w x).below b2.drew, M⟩
theorem lv_w (lv : Nat) (h : lv ≤ 2) : wrap64 ((lv : Int) + 1) = (lv : Int) + 1 ∧ IntKind.i64.wrap ((lv : Int) + 1) = (lv : Int) + 1 := ⟨by unfold wrap64; omega, by rw [IntKind.wrap_i64]; omega⟩
set_option maxRecDepth 100000 in
set_option maxHeartbeats 6400000 in
theorem bottom_walk (A : Option Addr) (c : Nat) (l : List Met) (seq nx : Int) (w : World) (hr : RdM w A c l) (hf : ∀ x ∈ l, fitI x.1) (hl : l.length * 56 ≤ 140737488351232) :
    Calls Try.prog 4 #[verV A l.length c seq nx] w fun e w' => e = .returned (.bool true) ∧ Below w.heap.size w w' := by
  obtain ⟨n, hn⟩ : ∃ n, l.length = n := ⟨_, rfl⟩
  rw [hn]
  have b0 := below_alloc w (verR A n c seq nx)
  have T0 : Tr (w.alloc (verR A n c seq nx)) w.heap.size A n c seq nx := heap_alloc_new w (verR A n c seq nx)
  have hOf := fun W (h : RdM W A c l) => Of_any A c n seq nx l W hn h hl
  have r0 := hr.below b0
  have HN := hide hn
  by_cases hN : chkM l seq nx ≠ 0 ∨ fullsK l 3 = []
  · have hCh := fun A c W (h : RdM W A c l) => ChooseN_any A c n seq nx l W hn h hf hl hN
    generalize chkM l seq nx = z at *
    clear hr hf hl hn hN
    by_cases hz : z = 0
    · subst hz
      go_enter Try.func4, Try.ntmps4
      go_wp2_with (first | (go_at_call 8; refine (alive_any _).mono ?_; rintro e w1 ⟨rfl, HB1⟩; have C1 := stq b0 HB1; have r1 := r0.below HB1; have T1 := T0.below HB1; obtain ⟨t10, t11, t12⟩ := T1.read) | (go_at_call 11; refine (num_any _ _).mono ?_; rintro e w' ⟨rfl, rfl⟩) | (go_at_call 10; (with_reducible refine (hOf _ r1).mono ?_); rintro e w2 ⟨A2, c2, rfl, O2, HB2⟩; have C2 := stq C1 HB2) | (go_at_call 9; (with_reducible refine (hCh _ _ _ O2.rdl).mono ?_); rintro e w3 ⟨rfl, HB3⟩; have C3 := stq C2 HB3; have C4 := stq C3 (below_alloc w3 (.cells #[.int .i64 0, .slice none 0 0, .bool false] 28))))
      go_ret
      exact ⟨by first | rfl | simp, C4⟩
    · have hzb : (z == 0) = false := beq_eq_false_iff_ne.2 hz
      go_enter Try.func4, Try.ntmps4
      go_wp2_with (first | (go_at_call 8; refine (alive_any _).mono ?_; rintro e w1 ⟨rfl, HB1⟩; have C1 := stq b0 HB1; have r1 := r0.below HB1; have T1 := T0.below HB1; obtain ⟨t10, t11, t12⟩ := T1.read) | (go_at_call 11; refine (num_any _ _).mono ?_; rintro e w' ⟨rfl, rfl⟩) | (go_at_call 10; (with_reducible refine (hOf _ r1).mono ?_); rintro e w2 ⟨A2, c2, rfl, O2, HB2⟩; have C2 := stq C1 HB2) | (go_at_call 9; (with_reducible refine (hCh _ _ _ O2.rdl).mono ?_); rintro e w3 ⟨rfl, HB3⟩; have C3 := stq C2 HB3; have C4 := stq C3 (below_alloc w3 (.cells #[.int .i64 0, .slice none 0 0, .bool false] 28))))
      go_ret
      exact ⟨by first | rfl | simp, C4⟩
  · have hz : chkM l seq nx = 0 := Decidable.byContradiction (fun h => hN (.inl h))
    have hne : fullsK l 3 ≠ [] := fun h => hN (.inr h)
    obtain ⟨lv, hfst, -⟩ := Choose_any A c n seq nx l w hn hr hf hl hz hne
    have hCh := fun A c W (h : RdM W A c l) => Choose_at lv hfst A c n seq nx W hn h hf hl hz hne
    have hLaw := fun hb a b ha hb2 hin hlev h1 => bottom_law lv l seq nx hz hfst hb a b ha hb2 hin hlev h1
    have hlv2 := hfst.1
    have hIL := inpG_len (lv : Int) l (topL lv l) (topL_len lv l hfst (chk_facts l seq nx hz).1) (chk_facts l seq nx hz).1
    have hmem : ∀ k, k < n → l.getD k zMet ∈ l := fun k hk => by
      rw [List.getD_eq_getElem?_getD, List.getElem?_eq_getElem (by rw [hn]; exact hk)]; exact List.getElem_mem _
    generalize inpG (lv : Int) l (topL lv l) = INP at *
    generalize botP lv l (topL lv l) = bot at *
    have hn256 : n ≤ 256 := by rw [← hn]; exact (chk_facts l seq nx hz).1
    have HLAW := hide hLaw
    have HMEM := hide hmem
    clear hr hf hl hn hN hz hne hfst hLaw hmem
    cases bot
    · go_enter Try.func4, Try.ntmps4
      go_wp2_with (first | (go_at_call 8; refine (alive_any _).mono ?_; rintro e w1 ⟨rfl, HB1⟩; have C1 := stq b0 HB1; have r1 := r0.below HB1; have T1 := T0.below HB1; obtain ⟨t10, t11, t12⟩ := T1.read) | (go_at_call 11; refine (num_any _ _).mono ?_; rintro e w' ⟨rfl, rfl⟩) | (go_at_call 10; (with_reducible refine (hOf _ r1).mono ?_); rintro e w2 ⟨A2, c2, rfl, O2, HB2⟩; have C2 := stq C1 HB2) | (go_at_call 9; (with_reducible refine (hCh _ _ _ O2.rdl).mono ?_); rintro e w3 ⟨v3, rfl, O3, HB3⟩; obtain ⟨A3, c3, hv3, ri3⟩ := O3.rd; obtain ⟨m3, hm3⟩ : ∃ m, INP.length = m := ⟨_, rfl⟩; rw [hm3] at hv3 hIL; subst hv3; have C3 := stq C2 HB3; have b4 := below_alloc w3 (.cells #[.int .i64 (lv : Int), .slice A3 m3 c3, .bool false] 28); have P4 : Pl (w3.alloc (.cells #[.int .i64 (lv : Int), .slice A3 m3 c3, .bool false] 28)) w3.heap.size lv (.slice A3 m3 c3) false := heap_alloc_new w3 _; obtain ⟨p0, p1, p2, p3, p4, p5⟩ := P4.read; have C4 := stq C3 b4))
      go_ret
      exact ⟨by first | rfl | simp, C4⟩
    · go_enter Try.func4, Try.ntmps4
      go_wp2_with (first | (go_at_call 8; refine (alive_any _).mono ?_; rintro e w1 ⟨rfl, HB1⟩; have C1 := stq b0 HB1; have r1 := r0.below HB1; have T1 := T0.below HB1; obtain ⟨t10, t11, t12⟩ := T1.read) | (go_at_call 11; refine (num_any _ _).mono ?_; rintro e w' ⟨rfl, rfl⟩) | (go_at_call 10; (with_reducible refine (hOf _ r1).mono ?_); rintro e w2 ⟨A2, c2, rfl, O2, HB2⟩; have C2 := stq C1 HB2) | (go_at_call 9; (with_reducible refine (hCh _ _ _ O2.rdl).mono ?_); rintro e w3 ⟨v3, rfl, O3, HB3⟩; obtain ⟨A3, c3, hv3, ri3⟩ := O3.rd; obtain ⟨m3, hm3⟩ : ∃ m, INP.length = m := ⟨_, rfl⟩; rw [hm3] at hv3 hIL; subst hv3; have C3 := stq C2 HB3; have b4 := below_alloc w3 (.cells #[.int .i64 (lv : Int), .slice A3 m3 c3, .bool true] 28); have P4 : Pl (w3.alloc (.cells #[.int .i64 (lv : Int), .slice A3 m3 c3, .bool true] 28)) w3.heap.size lv (.slice A3 m3 c3) true := heap_alloc_new w3 _; obtain ⟨p0, p1, p2, p3, p4, p5⟩ := P4.read; have C4 := stq C3 b4; have H24 := stq (stq HB2 HB3) b4; have r4 := r1.below H24; have T4 := T1.below H24; obtain ⟨t40, t41, t42⟩ := T4.read; have ri4 := ri3.below b4))
      have HM3 := hide hm3
      clear hm3
      generalize (w3.alloc (.cells #[.int .i64 (lv : Int), .slice A3 m3 c3, .bool true] 28)) = w4 at *
      generalize w3.heap.size = gp at *
      go_loopw [6] (fun iv wr => ∃ i : Nat, i ≤ n ∧ iv = .int .i64 (i : Int) ∧ Below w4.heap.size w4 wr) (fun iv _ => n - (intOf iv).toNat)
      case atStart => exact ⟨0, Nat.zero_le _, rfl, Below.refl _ _⟩
      case round =>
        obtain ⟨i, hi, rfl, HBo⟩ := hrel
        obtain ⟨wo, rfl⟩ : ∃ z : World, z = wr := ⟨wr, rfl⟩
        have T5 := T4.below HBo
        obtain ⟨t50, t51, t52⟩ := T5.read
        by_cases hlti0 : i < n
        · have hltii : (i : Int) < (n : Int) := Int.ofNat_lt.2 hlti0
          obtain ⟨hw1, hw2⟩ := idx_w n i hlti0 (by omega)
          go_wp2
          go_loopw [7] (fun jv wr => ∃ j : Nat, j ≤ n ∧ jv = .int .i64 (j : Int) ∧ Below w4.heap.size w4 wr) (fun jv _ => n - (intOf jv).toNat)
          case atStart => exact ⟨0, Nat.zero_le _, rfl, HBo⟩
          case round =>
            obtain ⟨j, hj, rfl, HB⟩ := hrel
            have T6 := T4.below HB
            have P6 := P4.below HB
            obtain ⟨t60, t61, t62⟩ := T6.read
            have r6 := r4.below HB
            have ri6 := ri4.below HB
            by_cases hltj0 : j < n
            · have hltji : (j : Int) < (n : Int) := Int.ofNat_lt.2 hltj0
              obtain ⟨hw3, hw4⟩ := idx_w n j hltj0 (by omega)
              obtain ⟨ad, rfl, x0, x1, x2, x3, x4⟩ := RdM.at5 r6 i (by rw [HN.out]; exact hlti0)
              obtain ⟨ad', had, y0, y1, y2, y3, y4⟩ := RdM.at5 r6 j (by rw [HN.out]; exact hltj0)
              injection had with had
              subst had
              have HA := hide (HMEM.out i hlti0)
              have HB2' := hide (HMEM.out j hltj0)
              obtain ⟨a, ha⟩ : ∃ a, l.getD i zMet = a := ⟨_, rfl⟩
              obtain ⟨b, hb⟩ : ∃ b, l.getD j zMet = b := ⟨_, rfl⟩
              rw [ha] at x0 x1 x2 x3 x4 HA
              rw [hb] at y0 y1 y2 y3 y4 HB2'
              clear ha hb
              have hd : Below wr.heap.size wr wr.drew := (Below.refl _ _).drew
              have hSk : ∀ W, Below wr.heap.size wr W → Below wr.heap.size wr W ∧ W.cell? ⟨w.heap.size, 0, none⟩ = some (.slice (some ad) n c) ∧ W.cell? (ad.add (i * 5)) = some (.int .i64 a.1) ∧ W.cell? ⟨(ad.add (i * 5)).block, (ad.add (i * 5)).off + 1, none⟩ = some (.int .i64 a.2.1) ∧ W.cell? ⟨(ad.add (i * 5)).block, (ad.add (i * 5)).off + 2, none⟩ = some (.int .i64 a.2.2.1) ∧ W.cell? ⟨(ad.add (i * 5)).block, (ad.add (i * 5)).off + 3, none⟩ = some (.string a.2.2.2.1) ∧ W.cell? ⟨(ad.add (i * 5)).block, (ad.add (i * 5)).off + 4, none⟩ = some (.string a.2.2.2.2) ∧ W.cell? (ad.add (j * 5)) = some (.int .i64 b.1) ∧ W.cell? ⟨(ad.add (j * 5)).block, (ad.add (j * 5)).off + 1, none⟩ = some (.int .i64 b.2.1) ∧ W.cell? ⟨(ad.add (j * 5)).block, (ad.add (j * 5)).off + 2, none⟩ = some (.int .i64 b.2.2.1) ∧ W.cell? ⟨(ad.add (j * 5)).block, (ad.add (j * 5)).off + 3, none⟩ = some (.string b.2.2.2.1) ∧ W.cell? ⟨(ad.add (j * 5)).block, (ad.add (j * 5)).off + 4, none⟩ = some (.string b.2.2.2.2) := fun W h => ⟨h, (h.cell (World.block_lt_of_cell? _ _ t60)).trans t60, (h.cell (World.block_lt_of_cell? _ _ x0)).trans x0, (h.cell (World.block_lt_of_cell? _ _ x1)).trans x1, (h.cell (World.block_lt_of_cell? _ _ x2)).trans x2, (h.cell (World.block_lt_of_cell? _ _ x3)).trans x3, (h.cell (World.block_lt_of_cell? _ _ x4)).trans x4, (h.cell (World.block_lt_of_cell? _ _ y0)).trans y0, (h.cell (World.block_lt_of_cell? _ _ y1)).trans y1, (h.cell (World.block_lt_of_cell? _ _ y2)).trans y2, (h.cell (World.block_lt_of_cell? _ _ y3)).trans y3, (h.cell (World.block_lt_of_cell? _ _ y4)).trans y4⟩
              have hS0 := hSk _ hd
              go_wp2
              have hAl : ∀ Y o, (Below wr.heap.size wr Y ∧ Y.cell? ⟨w.heap.size, 0, none⟩ = some (.slice (some ad) n c) ∧ Y.cell? (ad.add (i * 5)) = some (.int .i64 a.1) ∧ Y.cell? ⟨(ad.add (i * 5)).block, (ad.add (i * 5)).off + 1, none⟩ = some (.int .i64 a.2.1) ∧ Y.cell? ⟨(ad.add (i * 5)).block, (ad.add (i * 5)).off + 2, none⟩ = some (.int .i64 a.2.2.1) ∧ Y.cell? ⟨(ad.add (i * 5)).block, (ad.add (i * 5)).off + 3, none⟩ = some (.string a.2.2.2.1) ∧ Y.cell? ⟨(ad.add (i * 5)).block, (ad.add (i * 5)).off + 4, none⟩ = some (.string a.2.2.2.2) ∧ Y.cell? (ad.add (j * 5)) = some (.int .i64 b.1) ∧ Y.cell? ⟨(ad.add (j * 5)).block, (ad.add (j * 5)).off + 1, none⟩ = some (.int .i64 b.2.1) ∧ Y.cell? ⟨(ad.add (j * 5)).block, (ad.add (j * 5)).off + 2, none⟩ = some (.int .i64 b.2.2.1) ∧ Y.cell? ⟨(ad.add (j * 5)).block, (ad.add (j * 5)).off + 3, none⟩ = some (.string b.2.2.2.1) ∧ Y.cell? ⟨(ad.add (j * 5)).block, (ad.add (j * 5)).off + 4, none⟩ = some (.string b.2.2.2.2)) → (Below wr.heap.size wr (Y.alloc o) ∧ (Y.alloc o).cell? ⟨w.heap.size, 0, none⟩ = some (.slice (some ad) n c) ∧ (Y.alloc o).cell? (ad.add (i * 5)) = some (.int .i64 a.1) ∧ (Y.alloc o).cell? ⟨(ad.add (i * 5)).block, (ad.add (i * 5)).off + 1, none⟩ = some (.int .i64 a.2.1) ∧ (Y.alloc o).cell? ⟨(ad.add (i * 5)).block, (ad.add (i * 5)).off + 2, none⟩ = some (.int .i64 a.2.2.1) ∧ (Y.alloc o).cell? ⟨(ad.add (i * 5)).block, (ad.add (i * 5)).off + 3, none⟩ = some (.string a.2.2.2.1) ∧ (Y.alloc o).cell? ⟨(ad.add (i * 5)).block, (ad.add (i * 5)).off + 4, none⟩ = some (.string a.2.2.2.2) ∧ (Y.alloc o).cell? (ad.add (j * 5)) = some (.int .i64 b.1) ∧ (Y.alloc o).cell? ⟨(ad.add (j * 5)).block, (ad.add (j * 5)).off + 1, none⟩ = some (.int .i64 b.2.1) ∧ (Y.alloc o).cell? ⟨(ad.add (j * 5)).block, (ad.add (j * 5)).off + 2, none⟩ = some (.int .i64 b.2.2.1) ∧ (Y.alloc o).cell? ⟨(ad.add (j * 5)).block, (ad.add (j * 5)).off + 3, none⟩ = some (.string b.2.2.2.1) ∧ (Y.alloc o).cell? ⟨(ad.add (j * 5)).block, (ad.add (j * 5)).off + 4, none⟩ = some (.string b.2.2.2.2)) := fun Y o hh => hSk _ (hh.1.alloc hh.1.size o)
              have hD1 : ∀ o, Below wr.heap.size wr (wr.alloc o).drew ∧ (wr.alloc o).drew.cell? ⟨w.heap.size, 0, none⟩ = some (.slice (some ad) n c) ∧ (wr.alloc o).drew.cell? (ad.add (i * 5)) = some (.int .i64 a.1) ∧ (wr.alloc o).drew.cell? ⟨(ad.add (i * 5)).block, (ad.add (i * 5)).off + 1, none⟩ = some (.int .i64 a.2.1) ∧ (wr.alloc o).drew.cell? ⟨(ad.add (i * 5)).block, (ad.add (i * 5)).off + 2, none⟩ = some (.int .i64 a.2.2.1) ∧ (wr.alloc o).drew.cell? ⟨(ad.add (i * 5)).block, (ad.add (i * 5)).off + 3, none⟩ = some (.string a.2.2.2.1) ∧ (wr.alloc o).drew.cell? ⟨(ad.add (i * 5)).block, (ad.add (i * 5)).off + 4, none⟩ = some (.string a.2.2.2.2) ∧ (wr.alloc o).drew.cell? (ad.add (j * 5)) = some (.int .i64 b.1) ∧ (wr.alloc o).drew.cell? ⟨(ad.add (j * 5)).block, (ad.add (j * 5)).off + 1, none⟩ = some (.int .i64 b.2.1) ∧ (wr.alloc o).drew.cell? ⟨(ad.add (j * 5)).block, (ad.add (j * 5)).off + 2, none⟩ = some (.int .i64 b.2.2.1) ∧ (wr.alloc o).drew.cell? ⟨(ad.add (j * 5)).block, (ad.add (j * 5)).off + 3, none⟩ = some (.string b.2.2.2.1) ∧ (wr.alloc o).drew.cell? ⟨(ad.add (j * 5)).block, (ad.add (j * 5)).off + 4, none⟩ = some (.string b.2.2.2.2) := fun o => hSk _ (below_alloc wr o).drew
              have hD2 : ∀ o o', Below wr.heap.size wr ((wr.alloc o).alloc o').drew ∧ ((wr.alloc o).alloc o').drew.cell? ⟨w.heap.size, 0, none⟩ = some (.slice (some ad) n c) ∧ ((wr.alloc o).alloc o').drew.cell? (ad.add (i * 5)) = some (.int .i64 a.1) ∧ ((wr.alloc o).alloc o').drew.cell? ⟨(ad.add (i * 5)).block, (ad.add (i * 5)).off + 1, none⟩ = some (.int .i64 a.2.1) ∧ ((wr.alloc o).alloc o').drew.cell? ⟨(ad.add (i * 5)).block, (ad.add (i * 5)).off + 2, none⟩ = some (.int .i64 a.2.2.1) ∧ ((wr.alloc o).alloc o').drew.cell? ⟨(ad.add (i * 5)).block, (ad.add (i * 5)).off + 3, none⟩ = some (.string a.2.2.2.1) ∧ ((wr.alloc o).alloc o').drew.cell? ⟨(ad.add (i * 5)).block, (ad.add (i * 5)).off + 4, none⟩ = some (.string a.2.2.2.2) ∧ ((wr.alloc o).alloc o').drew.cell? (ad.add (j * 5)) = some (.int .i64 b.1) ∧ ((wr.alloc o).alloc o').drew.cell? ⟨(ad.add (j * 5)).block, (ad.add (j * 5)).off + 1, none⟩ = some (.int .i64 b.2.1) ∧ ((wr.alloc o).alloc o').drew.cell? ⟨(ad.add (j * 5)).block, (ad.add (j * 5)).off + 2, none⟩ = some (.int .i64 b.2.2.1) ∧ ((wr.alloc o).alloc o').drew.cell? ⟨(ad.add (j * 5)).block, (ad.add (j * 5)).off + 3, none⟩ = some (.string b.2.2.2.1) ∧ ((wr.alloc o).alloc o').drew.cell? ⟨(ad.add (j * 5)).block, (ad.add (j * 5)).off + 4, none⟩ = some (.string b.2.2.2.2) := fun o o' => hSk _ (stq (below_alloc wr o) (below_alloc _ o')).drew
              clear t60 x0 x1 x2 x3 x4 y0 y1 y2 y3 y4
              go_region_held3 (fun Y => Below wr.heap.size wr Y ∧ Y.cell? ⟨w.heap.size, 0, none⟩ = some (.slice (some ad) n c) ∧ Y.cell? (ad.add (i * 5)) = some (.int .i64 a.1) ∧ Y.cell? ⟨(ad.add (i * 5)).block, (ad.add (i * 5)).off + 1, none⟩ = some (.int .i64 a.2.1) ∧ Y.cell? ⟨(ad.add (i * 5)).block, (ad.add (i * 5)).off + 2, none⟩ = some (.int .i64 a.2.2.1) ∧ Y.cell? ⟨(ad.add (i * 5)).block, (ad.add (i * 5)).off + 3, none⟩ = some (.string a.2.2.2.1) ∧ Y.cell? ⟨(ad.add (i * 5)).block, (ad.add (i * 5)).off + 4, none⟩ = some (.string a.2.2.2.2) ∧ Y.cell? (ad.add (j * 5)) = some (.int .i64 b.1) ∧ Y.cell? ⟨(ad.add (j * 5)).block, (ad.add (j * 5)).off + 1, none⟩ = some (.int .i64 b.2.1) ∧ Y.cell? ⟨(ad.add (j * 5)).block, (ad.add (j * 5)).off + 2, none⟩ = some (.int .i64 b.2.2.1) ∧ Y.cell? ⟨(ad.add (j * 5)).block, (ad.add (j * 5)).off + 3, none⟩ = some (.string b.2.2.2.1) ∧ Y.cell? ⟨(ad.add (j * 5)).block, (ad.add (j * 5)).off + 4, none⟩ = some (.string b.2.2.2.2)) (first | assumption | exact hS0 | exact hD1 _ | exact hD2 _ _ | exact hAl _ _ (by assumption)) (fail)
              · obtain ⟨BW, Ma, Mc⟩ := mr2 wr a b
                generalize ((wr.alloc (mro a)).alloc (mro b)).drew = W at *
                clear hAl hD1 hD2 hSk hS0 hd
                obtain ⟨a0, a1, a2, a3, a4⟩ := Ma.read
                obtain ⟨b0', b1', b2', b3', b4'⟩ := Mc.read
                have P7 := P6.below BW
                obtain ⟨p0', p1', p2', p3', p4', p5'⟩ := P7.read
                have hIn := in_any A3 c3 m3 INP a.1 W HM3.out (ri6.below BW) (by omega)
                obtain ⟨bin, hbin⟩ : ∃ z, inL INP a.1 = z := ⟨_, rfl⟩
                rw [hbin] at hIn
                have HBIN := hide hbin
                obtain ⟨wl1, wl2⟩ := lv_w lv hlv2
                clear hbin t61 t62 ri6 r6 T6
                cases bin
                · go_wp2_with (first | (go_at_call 13; (with_reducible refine hIn.mono ?_); rintro e w' ⟨rfl, rfl⟩))
                  go_roundw
                  case rel => exact ⟨j + 1, hltj0, by go_num, stq HB BW⟩
                  case measure => first | exact idx_m n j hltj0 | exact idx_m2 n j hltj0 | exact idx_m3 n j hltj0 hw3
                · by_cases hlev : (lv : Int) + 1 < b.2.1
                  · have l1 := le_or a.2.2.2.1 b.2.2.2.2
                    have l2 := le_or b.2.2.2.1 a.2.2.2.2
                    obtain ⟨q, hq⟩ : ∃ z, leB a.2.2.2.1 b.2.2.2.2 = z := ⟨_, rfl⟩
                    rw [hq] at l1
                    cases q
                    · clear l2 hq
                      go_wp2_with (first | (go_at_call 13; (with_reducible refine hIn.mono ?_); rintro e w' ⟨rfl, rfl⟩))
                      go_roundw
                      case rel => exact ⟨j + 1, hltj0, by go_num, stq HB BW⟩
                      case measure => first | exact idx_m n j hltj0 | exact idx_m2 n j hltj0 | exact idx_m3 n j hltj0 hw3
                    · rw [HLAW.out (by trivial) a b HA.out HB2'.out HBIN.out hlev hq] at l2
                      clear hq
                      go_wp2_with (first | (go_at_call 13; (with_reducible refine hIn.mono ?_); rintro e w' ⟨rfl, rfl⟩))
                      go_roundw
                      case rel => exact ⟨j + 1, hltj0, by go_num, stq HB BW⟩
                      case measure => first | exact idx_m n j hltj0 | exact idx_m2 n j hltj0 | exact idx_m3 n j hltj0 hw3
                  · have hlev2 := Int.not_lt.1 hlev
                    go_wp2_with (first | (go_at_call 13; (with_reducible refine hIn.mono ?_); rintro e w' ⟨rfl, rfl⟩))
                    go_roundw
                    case rel => exact ⟨j + 1, hltj0, by go_num, stq HB BW⟩
                    case measure => first | exact idx_m n j hltj0 | exact idx_m2 n j hltj0 | exact idx_m3 n j hltj0 hw3
              · obtain ⟨BW, Mc, Ma⟩ := mr2 wr b a
                generalize ((wr.alloc (mro b)).alloc (mro a)).drew = W at *
                clear hAl hD1 hD2 hSk hS0 hd
                obtain ⟨a0, a1, a2, a3, a4⟩ := Ma.read
                obtain ⟨b0', b1', b2', b3', b4'⟩ := Mc.read
                have P7 := P6.below BW
                obtain ⟨p0', p1', p2', p3', p4', p5'⟩ := P7.read
                have hIn := in_any A3 c3 m3 INP a.1 W HM3.out (ri6.below BW) (by omega)
                obtain ⟨bin, hbin⟩ : ∃ z, inL INP a.1 = z := ⟨_, rfl⟩
                rw [hbin] at hIn
                have HBIN := hide hbin
                obtain ⟨wl1, wl2⟩ := lv_w lv hlv2
                clear hbin t61 t62 ri6 r6 T6
                cases bin
                · go_wp2_with (first | (go_at_call 13; (with_reducible refine hIn.mono ?_); rintro e w' ⟨rfl, rfl⟩))
                  go_roundw
                  case rel => exact ⟨j + 1, hltj0, by go_num, stq HB BW⟩
                  case measure => first | exact idx_m n j hltj0 | exact idx_m2 n j hltj0 | exact idx_m3 n j hltj0 hw3
                · by_cases hlev : (lv : Int) + 1 < b.2.1
                  · have l1 := le_or a.2.2.2.1 b.2.2.2.2
                    have l2 := le_or b.2.2.2.1 a.2.2.2.2
                    obtain ⟨q, hq⟩ : ∃ z, leB a.2.2.2.1 b.2.2.2.2 = z := ⟨_, rfl⟩
                    rw [hq] at l1
                    cases q
                    · clear l2 hq
                      go_wp2_with (first | (go_at_call 13; (with_reducible refine hIn.mono ?_); rintro e w' ⟨rfl, rfl⟩))
                      go_roundw
                      case rel => exact ⟨j + 1, hltj0, by go_num, stq HB BW⟩
                      case measure => first | exact idx_m n j hltj0 | exact idx_m2 n j hltj0 | exact idx_m3 n j hltj0 hw3
                    · rw [HLAW.out (by trivial) a b HA.out HB2'.out HBIN.out hlev hq] at l2
                      clear hq
                      go_wp2_with (first | (go_at_call 13; (with_reducible refine hIn.mono ?_); rintro e w' ⟨rfl, rfl⟩))
                      go_roundw
                      case rel => exact ⟨j + 1, hltj0, by go_num, stq HB BW⟩
                      case measure => first | exact idx_m n j hltj0 | exact idx_m2 n j hltj0 | exact idx_m3 n j hltj0 hw3
                  · have hlev2 := Int.not_lt.1 hlev
                    go_wp2_with (first | (go_at_call 13; (with_reducible refine hIn.mono ?_); rintro e w' ⟨rfl, rfl⟩))
                    go_roundw
                    case rel => exact ⟨j + 1, hltj0, by go_num, stq HB BW⟩
                    case measure => first | exact idx_m n j hltj0 | exact idx_m2 n j hltj0 | exact idx_m3 n j hltj0 hw3
            · obtain rfl : j = n := Nat.le_antisymm hj (Nat.not_lt.1 hltj0)
              go_wp2
              go_roundw
              case rel => exact ⟨i + 1, hlti0, by go_num, HB⟩
              case measure => first | exact idx_m j i hlti0 | exact idx_m2 j i hlti0 | exact idx_m3 j i hlti0 hw1
        · obtain rfl : i = n := Nat.le_antisymm hi (Nat.not_lt.1 hlti0)
          go_wp2
          go_ret
          exact ⟨by first | rfl | simp, C4.trans (HBo.mono C4.size)⟩
end Go.Proofs.Ytbhhnlgpbhbcmaa
end

section
/- The reference's tables' data: may one be, which comes first. -/
namespace Go.Proofs.Ytbhhnlgpbhbcmaa
open Go.RowKit Go.Proofs.YtbhhnlgpbhbcmaaW.PrintWords
set_option linter.unusedVariables false

theorem bl_size (s : ByteArray) : bl s = [] ↔ s.size = 0 := by
  rw [← bl_length]
  exact List.length_eq_zero_iff.symm
theorem rkey_any (s : ByteArray) (w : World) : Calls Try.prog 45 #[.string s] w fun e w' => e = .returned (.bool (keyM s)) ∧ w = w' := by
  rw [keyM]
  by_cases h0 : s.size = 0
  · rw [decide_eq_true ((bl_size s).2 h0)]
    have h1 : ¬ (1 : Int) ≤ (s.size : Int) := by omega
    have h2 : (s.size : Int) < 1 := by omega
    have h3 : ¬ 1 ≤ s.size := by omega
    have h4 : (s.size : Int) = 0 := by omega
    go_enter Try.func45, Try.ntmps45
    go_wp2
    go_ret
    exact ⟨by first | rfl | simp, rfl⟩
  · rw [decide_eq_false (fun h => h0 ((bl_size s).1 h))]
    have h1 : (1 : Int) ≤ (s.size : Int) := by omega
    by_cases h5 : s.size ≤ 96
    · rw [decide_eq_true h5]
      have h6 : (s.size : Int) ≤ 96 := by omega
      go_enter Try.func45, Try.ntmps45
      go_wp2
      go_ret
      exact ⟨by first | rfl | simp, rfl⟩
    · rw [decide_eq_false h5]
      have h6 : ¬ (s.size : Int) ≤ 96 := by omega
      have h7 : (96 : Int) < (s.size : Int) := by omega
      have h8 : ¬ s.size ≤ 96 := h5
      go_enter Try.func45, Try.ntmps45
      go_wp2
      go_ret
      exact ⟨by first | rfl | simp, rfl⟩
set_option maxRecDepth 100000 in
set_option maxHeartbeats 1600000 in
theorem rmay_any (x : Met) (w : World) : Calls Try.prog 31 #[mbv x] w fun e w' => e = .returned (.bool (mayM x)) ∧ Below w.heap.size w w' := by
  obtain ⟨id, lev, cnt, lo, hi⟩ := x
  have hX := Mr.new w (id, lev, cnt, lo, hi)
  have bX := below_alloc w (mro (id, lev, cnt, lo, hi))
  obtain ⟨x0, x1, x2, x3, x4⟩ := hX.read
  have hK1 := fun W => rkey_any lo W
  have hK2 := fun W => rkey_any hi W
  have l1 := le_or lo hi
  have e0 : mayM (id, lev, cnt, lo, hi) = (decide (1 ≤ id) && decide (id ≤ 2147483647) && (decide (0 ≤ lev) && decide (lev ≤ 3)) && (decide (1 ≤ cnt) && decide (cnt ≤ 4096)) && keyM lo && keyM hi && leB lo hi) := rfl
  rw [e0]
  generalize keyM lo = b4 at *
  generalize keyM hi = b5 at *
  generalize leB lo hi = b6 at *
  clear hX e0
  by_cases c0 : 1 ≤ id
  · rw [decide_eq_true c0]
    by_cases c1 : id ≤ 2147483647
    · rw [decide_eq_true c1]
      by_cases c2 : 0 ≤ lev
      · rw [decide_eq_true c2]
        by_cases c3 : lev ≤ 3
        · rw [decide_eq_true c3]
          by_cases c4 : 1 ≤ cnt
          · rw [decide_eq_true c4]
            by_cases c5 : cnt ≤ 4096
            · rw [decide_eq_true c5]
              cases b4
              · clear l1
                go_enter Try.func31, Try.ntmps31
                go_wp2_with (first | (go_at_call 45; (first | (with_reducible refine (hK1 _).mono ?_) | (with_reducible refine (hK2 _).mono ?_)); rintro e w' ⟨rfl, rfl⟩))
                go_ret
                exact ⟨by first | rfl | (simp; done) | (simp [*]; done), bX⟩
              · cases b5
                · clear l1
                  go_enter Try.func31, Try.ntmps31
                  go_wp2_with (first | (go_at_call 45; (first | (with_reducible refine (hK1 _).mono ?_) | (with_reducible refine (hK2 _).mono ?_)); rintro e w' ⟨rfl, rfl⟩))
                  go_ret
                  exact ⟨by first | rfl | (simp; done) | (simp [*]; done), bX⟩
                · cases b6
                  · go_enter Try.func31, Try.ntmps31
                    go_wp2_with (first | (go_at_call 45; (first | (with_reducible refine (hK1 _).mono ?_) | (with_reducible refine (hK2 _).mono ?_)); rintro e w' ⟨rfl, rfl⟩))
                    go_ret
                    exact ⟨by first | rfl | (simp; done) | (simp [*]; done), bX⟩
                  · go_enter Try.func31, Try.ntmps31
                    go_wp2_with (first | (go_at_call 45; (first | (with_reducible refine (hK1 _).mono ?_) | (with_reducible refine (hK2 _).mono ?_)); rintro e w' ⟨rfl, rfl⟩))
                    go_ret
                    exact ⟨by first | rfl | (simp; done) | (simp [*]; done), bX⟩
            · rw [decide_eq_false c5]
              have d5 : 4096 < cnt := Int.not_le.1 c5
              clear l1 hK1 hK2
              go_enter Try.func31, Try.ntmps31
              go_wp2
              go_ret
              exact ⟨by first | rfl | (simp; done) | (simp [*]; done), bX⟩
          · rw [decide_eq_false c4]
            have d4 : cnt < 1 := Int.not_le.1 c4
            clear l1 hK1 hK2
            go_enter Try.func31, Try.ntmps31
            go_wp2
            go_ret
            exact ⟨by first | rfl | (simp; done) | (simp [*]; done), bX⟩
        · rw [decide_eq_false c3]
          have d3 : 3 < lev := Int.not_le.1 c3
          clear l1 hK1 hK2
          go_enter Try.func31, Try.ntmps31
          go_wp2
          go_ret
          exact ⟨by first | rfl | (simp; done) | (simp [*]; done), bX⟩
      · rw [decide_eq_false c2]
        have d2 : lev < 0 := Int.not_le.1 c2
        clear l1 hK1 hK2
        go_enter Try.func31, Try.ntmps31
        go_wp2
        go_ret
        exact ⟨by first | rfl | (simp; done) | (simp [*]; done), bX⟩
    · rw [decide_eq_false c1]
      have d1 : 2147483647 < id := Int.not_le.1 c1
      clear l1 hK1 hK2
      go_enter Try.func31, Try.ntmps31
      go_wp2
      go_ret
      exact ⟨by first | rfl | (simp; done) | (simp [*]; done), bX⟩
  · rw [decide_eq_false c0]
    have d0 : id < 1 := Int.not_le.1 c0
    clear l1 hK1 hK2
    go_enter Try.func31, Try.ntmps31
    go_wp2
    go_ret
    exact ⟨by first | rfl | (simp; done) | (simp [*]; done), bX⟩
set_option maxRecDepth 100000 in
set_option maxHeartbeats 1600000 in
theorem rbef_any (x y : Met) (w : World) : Calls Try.prog 32 #[mbv x, mbv y] w fun e w' => e = .returned (.bool (decide (befM x y))) ∧ Below w.heap.size w w' := by
  obtain ⟨i1, v1, c1, lo1, hi1⟩ := x
  obtain ⟨i2, v2, c2, lo2, hi2⟩ := y
  have hX := Mr.new w (i1, v1, c1, lo1, hi1)
  have bY := below_alloc (w.alloc (mro (i1, v1, c1, lo1, hi1))) (mro (i2, v2, c2, lo2, hi2))
  have hX2 := hX.below bY
  have hY := Mr.new (w.alloc (mro (i1, v1, c1, lo1, hi1))) (i2, v2, c2, lo2, hi2)
  have HB := stq (below_alloc w (mro (i1, v1, c1, lo1, hi1))) bY
  have hs1 : (w.alloc (mro (i1, v1, c1, lo1, hi1))).heap.size = w.heap.size + 1 := World.size_alloc _ _
  obtain ⟨x0, x1, x2, x3, x4⟩ := hX2.read
  obtain ⟨y0, y1, y2, y3, y4⟩ := hY.read
  rw [hs1] at y0 y1 y2 y3 y4
  have l1 := less_bl lo1 lo2
  have e0 : befM (i1, v1, c1, lo1, hi1) (i2, v2, c2, lo2, hi2) ↔ (v1 < v2 ∨ (v1 = v2 ∧ ((v1 = 0 ∧ i2 < i1) ∨ (v1 ≠ 0 ∧ bl lo1 < bl lo2)))) := Iff.rfl
  clear hX hX2 hY bY hs1
  by_cases hv : v1 = v2
  · subst hv
    by_cases h0 : v1 = 0
    · subst h0
      have e1 : decide (befM (i1, 0, c1, lo1, hi1) (i2, 0, c2, lo2, hi2)) = decide (i2 < i1) := decide_eq_decide.2 (e0.trans (by simp))
      rw [e1]
      clear e0 e1
      by_cases hi : i2 < i1
      · rw [decide_eq_true hi]
        go_enter Try.func32, Try.ntmps32
        go_wp2
        go_ret
        exact ⟨by first | rfl | simp, HB⟩
      · rw [decide_eq_false hi]
        have hi' : i1 ≤ i2 := Int.not_lt.1 hi
        go_enter Try.func32, Try.ntmps32
        go_wp2
        go_ret
        exact ⟨by first | rfl | simp, HB⟩
    · have e1 : decide (befM (i1, v1, c1, lo1, hi1) (i2, v1, c2, lo2, hi2)) = decide (bl lo1 < bl lo2) := decide_eq_decide.2 (e0.trans (by simp [h0]))
      rw [e1]
      have h0b : (v1 == 0) = false := beq_eq_false_iff_ne.2 h0
      generalize decide (bl lo1 < bl lo2) = p at *
      clear e0
      go_enter Try.func32, Try.ntmps32
      go_wp2
      go_ret
      exact ⟨by first | rfl | simp, HB⟩
  · have hvb : (v1 == v2) = false := beq_eq_false_iff_ne.2 hv
    have e1 : decide (befM (i1, v1, c1, lo1, hi1) (i2, v2, c2, lo2, hi2)) = decide (v1 < v2) := decide_eq_decide.2 (e0.trans (by simp [hv]))
    rw [e1]
    clear e0
    go_enter Try.func32, Try.ntmps32
    go_wp2
    go_ret
    exact ⟨by first | rfl | simp, HB⟩
end Go.Proofs.Ytbhhnlgpbhbcmaa
end

section
/- The reference's Check, walked. -/
namespace Go.Proofs.Ytbhhnlgpbhbcmaa
open Go.RowKit Go.Proofs.YtbhhnlgpbhbcmaaW.PrintWords
set_option linter.unusedVariables false

theorem ld39 (W : World) (a : Addr) (x : Met) (h0 : W.cell? a = some (.int .i64 x.1)) (h1 : W.cell? ⟨a.block, a.off + 1, none⟩ = some (.int .i64 x.2.1)) (h2 : W.cell? ⟨a.block, a.off + 2, none⟩ = some (.int .i64 x.2.2.1)) (h3 : W.cell? ⟨a.block, a.off + 3, none⟩ = some (.string x.2.2.2.1)) (h4 : W.cell? ⟨a.block, a.off + 4, none⟩ = some (.string x.2.2.2.2)) : (loadVar 39 a).run Try.prog W = .ok (mbv x) W := by
  have hu := Try.underlying39
  first
  | (simp [go_sem, h0, h1, h2, h3, h4]; done)
  | (simp [go_sem, hu, h0, h1, h2, h3, h4]; done)
theorem ldI (W : World) (a : Addr) (z : Int) (h0 : W.cell? a = some (.int .i64 z)) : (loadVar 3 a).run Try.prog W = .ok (.int .i64 z) W := by
  have hu := Try.underlying3
  first
  | (simp [go_sem, h0]; done)
  | (simp [go_sem, hu, h0]; done)
theorem ldS (W : World) (a : Addr) (z : ByteArray) (h0 : W.cell? a = some (.string z)) : (loadVar 9 a).run Try.prog W = .ok (.string z) W := by
  have hu := Try.underlying9
  first
  | (simp [go_sem, h0]; done)
  | (simp [go_sem, hu, h0]; done)
theorem ldL (W : World) (a : Addr) (A : Option Addr) (n c : Nat) (h0 : W.cell? a = some (.slice A n c)) : (loadVar 22 a).run Try.prog W = .ok (.slice A n c) W := by
  have hu := Try.underlying22
  first
  | (simp [go_sem, h0]; done)
  | (simp [go_sem, hu, h0]; done)
theorem quiet_loadW {P : Program} {ops : Array Oper} {C : World → Prop} {Q : Act → Prop} {o : Oper} {rest : List Oper} {a : Act} (hw : Region.wanted o (yielded ops a.tmps) = true) (ty : TypeId) (x : Operand) (ho : o.op = .load ty x)
    (ad : Addr) (hx : a.eval x = .pointer (some ad)) (v : Value) (h : ∀ w, C w → (loadVar ty ad).run P w = .ok v w) (hk : wpQuiet P ops C Q rest (a.put o.dst v)) : wpQuiet P ops C Q (o :: rest) a :=
  wpQuiet_step fun K hK => by
    rw [if_pos hw]
    refine ⟨v, fun w hC => ?_, hK _ hk⟩
    have hr : (execOp a.eval o).run P w = .ok (.value v) w := by
      unfold execOp
      simp only [ho, hx, Instr.loadAt, Instr.sureAddr, Sem.run_bind, Sem.run_pure, Result.andThen_ok, h w hC]
    unfold Oper.quietAt
    rw [hr]
    exact ⟨rfl, rfl⟩
theorem okM_stay (nx : Int) (l : List Met) (ok0 : Bool) (i : Nat) (h : okM nx l ok0 i = false) : ∀ d, okM nx l ok0 (i + d) = false := by
  intro d
  induction d with
  | zero => exact h
  | succ d ih => rw [← Nat.add_assoc, okM, ih]; rfl
theorem chk_fail (l : List Met) (seq nx : Int) (i : Nat) (hi : i < l.length) (h : okM nx l (vokM l.length seq nx) (i + 1) = false) : chkM l seq nx = 9 := by
  have h2 := okM_stay nx l _ (i + 1) h (l.length - (i + 1))
  rw [show i + 1 + (l.length - (i + 1)) = l.length by omega] at h2
  rw [chkM, h2]; rfl
theorem seenB_not (l : List Met) (k : Nat) (x : Int) (h : ∀ j, j < k → ¬ (l.getD j zMet).1 = x) : seenB l k x = false := by
  refine Bool.eq_false_iff.2 fun h2 => ?_
  obtain ⟨j, hj, e⟩ := (seenB_iff l k x).1 h2
  exact h j hj e.symm
theorem ne_next (l : List Met) (j : Nat) (z : Int) (h : ∀ t, t < j → ¬ (l.getD t zMet).1 = z) (hj : ¬ (l.getD j zMet).1 = z) : ∀ t, t < j + 1 → ¬ (l.getD t zMet).1 = z := by
  intro t ht
  rcases Nat.lt_or_ge t j with h2 | h2
  · exact h t h2
  · obtain rfl : t = j := by omega
    exact hj
set_option maxRecDepth 100000 in
set_option maxHeartbeats 12800000 in
theorem rcheck_any (A : Option Addr) (c n : Nat) (seq nx : Int) (l : List Met) (w : World) (hn : l.length = n) (hr : RdM w A c l) (hl : n ≤ 140737488351232) :
    Calls Try.prog 12 #[verV A n c seq nx] w fun e w' => e = .returned (.int .i64 (chkM l seq nx)) ∧ Below w.heap.size w w' := by
  have HN := hide hn
  have b0 := below_alloc w (verR A n c seq nx)
  have T0 : Tr (w.alloc (verR A n c seq nx)) w.heap.size A n c seq nx := heap_alloc_new w (verR A n c seq nx)
  obtain ⟨t0, t1, t2⟩ := T0.read
  have HCB := hide (chk_bad l seq nx)
  have HCF := hide (chk_fail l seq nx)
  have HCH : Hid (chkM l seq nx = if okM nx l (vokM l.length seq nx) l.length = true then 0 else 9) := hide rfl
  have HVK : Hid (vokM l.length seq nx = (decide (n ≤ 256) && (decide (1 ≤ nx) && decide (nx ≤ 2147483647) && (decide (0 ≤ seq) && decide (seq ≤ 1099511627776))))) := hide (by rw [vokM, hn]; rfl)
  obtain ⟨z, hz⟩ : ∃ z, chkM l seq nx = z := ⟨_, rfl⟩
  rw [hz]
  have HZ := hide hz
  clear hz hn
  by_cases c0 : n ≤ 256
  · have e0 : (n : Int) ≤ 256 := by omega
    have f0 : ¬ (256 : Int) < (n : Int) := by omega
    by_cases c1 : 1 ≤ nx
    · have f1 : ¬ nx < 1 := Int.not_lt.2 c1
      by_cases c2 : nx ≤ 2147483647
      · have f2 : ¬ 2147483647 < nx := Int.not_lt.2 c2
        by_cases c3 : 0 ≤ seq
        · have f3 : ¬ seq < 0 := Int.not_lt.2 c3
          by_cases c4 : seq ≤ 1099511627776
          · have f4 : ¬ 1099511627776 < seq := Int.not_lt.2 c4
            have HVT : Hid (vokM l.length seq nx = true) := hide (by rw [HVK.out]; simp [c0, c1, c2, c3, c4])
            go_enter Try.func12, Try.ntmps12
            go_wp2
            go_loopw [3] (fun iv wr => ∃ i : Nat, i ≤ n ∧ iv = .int .i64 (i : Int) ∧ okM nx l true i = true ∧ Tr wr w.heap.size A n c seq nx ∧ Below w.heap.size w wr) (fun iv _ => n - (intOf iv).toNat)
            case atStart => exact ⟨0, Nat.zero_le _, rfl, rfl, T0, b0⟩
            case round =>
              obtain ⟨i, hi, rfl, hok, HT, HB⟩ := hrel
              have HOK := hide hok
              clear hok
              by_cases hlt : i < n
              · have hlti : (i : Int) < (n : Int) := Int.ofNat_lt.2 hlt
                obtain ⟨hw1, hw2⟩ := idx_w n i hlt hl
                obtain ⟨ad, rfl, x0, x1, x2, x3, x4⟩ := RdM.at5 (hr.below HB) i (by rw [HN.out]; exact hlt)
                have HG : Hid (goodM nx l i = (mayM (l.getD i zMet) && (decide ((l.getD i zMet).1 < nx) && (!seenB l i (l.getD i zMet).1 && (decide (i = 0) || nextM (l.getD (i - 1) zMet) (l.getD i zMet)))))) := hide rfl
                obtain ⟨y, hy⟩ : ∃ y, l.getD i zMet = y := ⟨_, rfl⟩
                rw [hy] at x0 x1 x2 x3 x4 HG
                have HY := hide hy
                have M1 := Mr.new wr y
                have b1w := below_alloc wr (mro y)
                have T1 := HT.below b1w
                have C1 := stq HB b1w
                obtain ⟨tr0, tr1, tr2⟩ := HT.read
                have hMy := fun W => rmay_any y W
                have hBf := fun (x : Met) W => rbef_any x y W
                have Fy : ∀ w', Below (wr.alloc (mro y)).heap.size (wr.alloc (mro y)) w' → (loadVar 39 ⟨wr.heap.size, 0, none⟩).run Try.prog w' = .ok (mbv y) w' := fun w' hb => (fun h => ld39 w' ⟨wr.heap.size, 0, none⟩ y h.1 h.2.1 h.2.2.1 h.2.2.2.1 h.2.2.2.2) (M1.below hb).read
                have Fy0 : ∀ w', Below (wr.alloc (mro y)).heap.size (wr.alloc (mro y)) w' → (loadVar 3 ⟨wr.heap.size, 0, none⟩).run Try.prog w' = .ok (.int .i64 y.1) w' := fun w' hb => ldI w' _ _ (M1.below hb).read.1
                have Fy1 : ∀ w', Below (wr.alloc (mro y)).heap.size (wr.alloc (mro y)) w' → (loadVar 3 ⟨wr.heap.size, 1, none⟩).run Try.prog w' = .ok (.int .i64 y.2.1) w' := fun w' hb => ldI w' _ _ (M1.below hb).read.2.1
                have Fy3 : ∀ w', Below (wr.alloc (mro y)).heap.size (wr.alloc (mro y)) w' → (loadVar 9 ⟨wr.heap.size, 3, none⟩).run Try.prog w' = .ok (.string y.2.2.2.1) w' := fun w' hb => ldS w' _ _ (M1.below hb).read.2.2.2.1
                have Fnx : ∀ w', Below (wr.alloc (mro y)).heap.size (wr.alloc (mro y)) w' → (loadVar 3 ⟨w.heap.size, 2, none⟩).run Try.prog w' = .ok (.int .i64 nx) w' := fun w' hb => ldI w' _ _ (T1.below hb).read.2.2
                have Fsl : ∀ w', Below (wr.alloc (mro y)).heap.size (wr.alloc (mro y)) w' → (loadVar 22 ⟨w.heap.size, 0, none⟩).run Try.prog w' = .ok (.slice (some ad) n c) w' := fun w' hb => ldL w' _ _ _ _ (T1.below hb).read.1
                clear hy HT
                obtain ⟨b1, hb1⟩ : ∃ b, mayM y = b := ⟨_, rfl⟩
                have HB1 := hide hb1
                rw [hb1] at hMy
                cases b1
                · have hz9 : z = 9 := by
                    rw [← HZ.out]
                    refine HCF.out i (by rw [HN.out]; exact hlt) ?_
                    rw [HVT.out, okM, HOK.out, HG.out]
                    simp [HB1.out]
                  go_wp2
                  generalize (wr.alloc (mro y)) = W1 at *
                  refine wp_region_below W1.heap.size W1 (Below.refl _ _) (by kernel_rfl) (by kernel_rfl) ?_
                  repeat (go_big_quiet_step ((intro hb; first | rfl | (refine (hMy _).mono ?_; rintro e w7 ⟨rfl, HB7⟩; exact ⟨rfl, stq hb HB7⟩) | (refine (hBf _).mono ?_; rintro e w7 ⟨rfl, HB7⟩; exact ⟨rfl, stq hb HB7⟩))))
                  refine quiet_loadW (by rfl) 39 _ rfl ⟨wr.heap.size, 0, none⟩ rfl (mbv y) Fy ?_
                  simp only [Act.put, List.setIfInBounds_toArray, List.set_cons_zero, List.set_cons_succ]
                  repeat (go_big_quiet_step ((intro hb; first | rfl | (refine (hMy _).mono ?_; rintro e w7 ⟨rfl, HB7⟩; exact ⟨rfl, stq hb HB7⟩) | (refine (hBf _).mono ?_; rintro e w7 ⟨rfl, HB7⟩; exact ⟨rfl, stq hb HB7⟩))))
                  refine wpQuiet_nil ?_
                  intro wq HCq
                  have Cq := stq C1 HCq
                  go_wp2
                  go_ret
                  exact ⟨by first | (rw [hz9]; rfl) | rfl, Cq⟩
                · by_cases hb2 : y.1 < nx
                  · have hb2' : ¬ nx ≤ y.1 := Int.not_le.2 hb2
                    have Db2 : decide (nx ≤ y.1) = false := decide_eq_false hb2'
                    by_cases hi0 : i = 0
                    · have hi0i : ¬ (0 : Int) < (i : Int) := by omega
                      have Di : decide ((0 : Int) < (i : Int)) = false := decide_eq_false hi0i
                      have hi0n : ¬ 0 < i := by omega
                      have HI0 := hide hi0
                      clear hi0
                      go_wp2
                      generalize (wr.alloc (mro y)) = W1 at *
                      refine wp_region_below W1.heap.size W1 (Below.refl _ _) (by kernel_rfl) (by kernel_rfl) ?_
                      repeat (go_big_quiet_step ((intro hb; first | rfl | (refine (hMy _).mono ?_; rintro e w7 ⟨rfl, HB7⟩; exact ⟨rfl, stq hb HB7⟩) | (refine (hBf _).mono ?_; rintro e w7 ⟨rfl, HB7⟩; exact ⟨rfl, stq hb HB7⟩))))
                      try simp only [Db2, Di]
                      repeat (go_big_quiet_step ((intro hb; first | rfl | (refine (hMy _).mono ?_; rintro e w7 ⟨rfl, HB7⟩; exact ⟨rfl, stq hb HB7⟩) | (refine (hBf _).mono ?_; rintro e w7 ⟨rfl, HB7⟩; exact ⟨rfl, stq hb HB7⟩))))
                      try simp only [Db2, Di]
                      repeat (go_big_quiet_step ((intro hb; first | rfl | (refine (hMy _).mono ?_; rintro e w7 ⟨rfl, HB7⟩; exact ⟨rfl, stq hb HB7⟩) | (refine (hBf _).mono ?_; rintro e w7 ⟨rfl, HB7⟩; exact ⟨rfl, stq hb HB7⟩))))
                      try simp only [Db2, Di]
                      repeat (go_big_quiet_step ((intro hb; first | rfl | (refine (hMy _).mono ?_; rintro e w7 ⟨rfl, HB7⟩; exact ⟨rfl, stq hb HB7⟩) | (refine (hBf _).mono ?_; rintro e w7 ⟨rfl, HB7⟩; exact ⟨rfl, stq hb HB7⟩))))
                      refine quiet_loadW (by rfl) 39 _ rfl ⟨wr.heap.size, 0, none⟩ rfl (mbv y) Fy ?_
                      simp only [Act.put, List.setIfInBounds_toArray, List.set_cons_zero, List.set_cons_succ]
                      repeat (go_big_quiet_step ((intro hb; first | rfl | (refine (hMy _).mono ?_; rintro e w7 ⟨rfl, HB7⟩; exact ⟨rfl, stq hb HB7⟩) | (refine (hBf _).mono ?_; rintro e w7 ⟨rfl, HB7⟩; exact ⟨rfl, stq hb HB7⟩))))
                      try simp only [Db2, Di]
                      repeat (go_big_quiet_step ((intro hb; first | rfl | (refine (hMy _).mono ?_; rintro e w7 ⟨rfl, HB7⟩; exact ⟨rfl, stq hb HB7⟩) | (refine (hBf _).mono ?_; rintro e w7 ⟨rfl, HB7⟩; exact ⟨rfl, stq hb HB7⟩))))
                      try simp only [Db2, Di]
                      repeat (go_big_quiet_step ((intro hb; first | rfl | (refine (hMy _).mono ?_; rintro e w7 ⟨rfl, HB7⟩; exact ⟨rfl, stq hb HB7⟩) | (refine (hBf _).mono ?_; rintro e w7 ⟨rfl, HB7⟩; exact ⟨rfl, stq hb HB7⟩))))
                      try simp only [Db2, Di]
                      repeat (go_big_quiet_step ((intro hb; first | rfl | (refine (hMy _).mono ?_; rintro e w7 ⟨rfl, HB7⟩; exact ⟨rfl, stq hb HB7⟩) | (refine (hBf _).mono ?_; rintro e w7 ⟨rfl, HB7⟩; exact ⟨rfl, stq hb HB7⟩))))
                      refine quiet_loadW (by rfl) 3 _ rfl ⟨wr.heap.size, 0, none⟩ rfl (.int .i64 y.1) Fy0 ?_
                      simp only [Act.put, List.setIfInBounds_toArray, List.set_cons_zero, List.set_cons_succ]
                      repeat (go_big_quiet_step ((intro hb; first | rfl | (refine (hMy _).mono ?_; rintro e w7 ⟨rfl, HB7⟩; exact ⟨rfl, stq hb HB7⟩) | (refine (hBf _).mono ?_; rintro e w7 ⟨rfl, HB7⟩; exact ⟨rfl, stq hb HB7⟩))))
                      try simp only [Db2, Di]
                      repeat (go_big_quiet_step ((intro hb; first | rfl | (refine (hMy _).mono ?_; rintro e w7 ⟨rfl, HB7⟩; exact ⟨rfl, stq hb HB7⟩) | (refine (hBf _).mono ?_; rintro e w7 ⟨rfl, HB7⟩; exact ⟨rfl, stq hb HB7⟩))))
                      try simp only [Db2, Di]
                      repeat (go_big_quiet_step ((intro hb; first | rfl | (refine (hMy _).mono ?_; rintro e w7 ⟨rfl, HB7⟩; exact ⟨rfl, stq hb HB7⟩) | (refine (hBf _).mono ?_; rintro e w7 ⟨rfl, HB7⟩; exact ⟨rfl, stq hb HB7⟩))))
                      try simp only [Db2, Di]
                      repeat (go_big_quiet_step ((intro hb; first | rfl | (refine (hMy _).mono ?_; rintro e w7 ⟨rfl, HB7⟩; exact ⟨rfl, stq hb HB7⟩) | (refine (hBf _).mono ?_; rintro e w7 ⟨rfl, HB7⟩; exact ⟨rfl, stq hb HB7⟩))))
                      refine quiet_loadW (by rfl) 3 _ rfl ⟨w.heap.size, 2, none⟩ rfl (.int .i64 nx) Fnx ?_
                      simp only [Act.put, List.setIfInBounds_toArray, List.set_cons_zero, List.set_cons_succ]
                      repeat (go_big_quiet_step ((intro hb; first | rfl | (refine (hMy _).mono ?_; rintro e w7 ⟨rfl, HB7⟩; exact ⟨rfl, stq hb HB7⟩) | (refine (hBf _).mono ?_; rintro e w7 ⟨rfl, HB7⟩; exact ⟨rfl, stq hb HB7⟩))))
                      try simp only [Db2, Di]
                      repeat (go_big_quiet_step ((intro hb; first | rfl | (refine (hMy _).mono ?_; rintro e w7 ⟨rfl, HB7⟩; exact ⟨rfl, stq hb HB7⟩) | (refine (hBf _).mono ?_; rintro e w7 ⟨rfl, HB7⟩; exact ⟨rfl, stq hb HB7⟩))))
                      try simp only [Db2, Di]
                      repeat (go_big_quiet_step ((intro hb; first | rfl | (refine (hMy _).mono ?_; rintro e w7 ⟨rfl, HB7⟩; exact ⟨rfl, stq hb HB7⟩) | (refine (hBf _).mono ?_; rintro e w7 ⟨rfl, HB7⟩; exact ⟨rfl, stq hb HB7⟩))))
                      try simp only [Db2, Di]
                      repeat (go_big_quiet_step ((intro hb; first | rfl | (refine (hMy _).mono ?_; rintro e w7 ⟨rfl, HB7⟩; exact ⟨rfl, stq hb HB7⟩) | (refine (hBf _).mono ?_; rintro e w7 ⟨rfl, HB7⟩; exact ⟨rfl, stq hb HB7⟩))))
                      refine wpQuiet_nil ?_
                      intro wq HCq
                      have Cq := stq C1 HCq
                      have Tq := T1.below HCq
                      have Mq := M1.below HCq
                      clear Fy Fy0 Fy1 Fy3 Fnx Fsl
                      go_wp2
                      go_loopw [5] (fun jv wz => ∃ j : Nat, j ≤ i ∧ jv = .int .i64 (j : Int) ∧ (∀ t, t < j → ¬ (l.getD t zMet).1 = y.1) ∧ Below wq.heap.size wq wz) (fun jv _ => i - (intOf jv).toNat)
                      case atStart => exact ⟨0, Nat.zero_le _, rfl, fun t h => absurd h (Nat.not_lt_zero _), Below.refl _ _⟩
                      case round =>
                        obtain ⟨j, hj, rfl, hno, HBj⟩ := hrel
                        have HNO := hide hno
                        clear hno
                        have Cz := stq Cq HBj
                        by_cases hji : j < i
                        · have hjii : (j : Int) < (i : Int) := Int.ofNat_lt.2 hji
                          have hjn : j < n := Nat.lt_trans hji hlt
                          have hjni : (j : Int) < (n : Int) := Int.ofNat_lt.2 hjn
                          obtain ⟨hw5, hw6⟩ := idx_w i j hji (by omega)
                          have Tz := Tq.below HBj
                          have Mz := Mq.below HBj
                          obtain ⟨tz0, tz1, tz2⟩ := Tz.read
                          obtain ⟨mz0, mz1, mz2, mz3, mz4⟩ := Mz.read
                          obtain ⟨ad', had, u0, u1, u2, u3, u4⟩ := RdM.at5 (hr.below Cz) j (by rw [HN.out]; exact hjn)
                          injection had with had
                          subst had
                          obtain ⟨u, hu⟩ : ∃ u, l.getD j zMet = u := ⟨_, rfl⟩
                          rw [hu] at u0 u1 u2 u3 u4
                          have HU := hide hu
                          clear hu
                          by_cases he : u.1 = y.1
                          · have heb : (u.1 == y.1) = true := beq_iff_eq.2 he
                            have hz9 : z = 9 := by
                              rw [← HZ.out]
                              refine HCF.out i (by rw [HN.out]; exact hlt) ?_
                              have hs : seenB l i y.1 = true := (seenB_iff l i y.1).2 ⟨j, hji, by rw [HU.out]; exact he.symm⟩
                              rw [HVT.out, okM, HOK.out, HG.out, hs]
                              simp
                            clear he
                            go_wp2
                            go_still (by kernel_rfl)
                            go_wp2
                            go_ret
                            exact ⟨by first | (rw [hz9]; rfl) | rfl, Cz.drew⟩
                          · have heb : (u.1 == y.1) = false := beq_eq_false_iff_ne.2 he
                            have HE := hide he
                            clear he
                            go_wp2
                            go_still (by kernel_rfl)
                            go_wp2
                            go_roundw
                            case rel => exact ⟨j + 1, hji, by go_num, ne_next l j y.1 HNO.out (by rw [HU.out]; exact HE.out), HBj.drew⟩
                            case measure => first | exact idx_m i j hji | exact idx_m2 i j hji | exact idx_m3 i j hji hw5
                        · obtain rfl : j = i := Nat.le_antisymm hj (Nat.not_lt.1 hji)
                          have hok2 : okM nx l true (j + 1) = true := by
                            have hs := seenB_not l j y.1 HNO.out
                            rw [okM, HOK.out, HG.out, hs, HB1.out, decide_eq_true hb2]
                            rw [decide_eq_true HI0.out]; simp
                          have HOK2 := hide hok2
                          clear hok2
                          go_wp2
                          go_roundw
                          case rel => exact ⟨j + 1, hlt, by go_num, HOK2.out, Tq.below HBj, Cz⟩
                          case measure => first | exact idx_m n j hlt | exact idx_m2 n j hlt | exact idx_m3 n j hlt hw1
                    · have hi1 : 0 < i := Nat.pos_of_ne_zero hi0
                      have hi1i : (0 : Int) < (i : Int) := by omega
                      have Di : decide ((0 : Int) < (i : Int)) = true := decide_eq_true hi1i
                      obtain ⟨p, hp, hp1, hp2, hp3, hp4⟩ := pred_w i n hi1 hlt hl
                      obtain ⟨ad', had, v0, v1, v2, v3, v4⟩ := RdM.at5 (hr.below C1) p (by rw [HN.out]; exact hp4)
                      injection had with had
                      subst had
                      obtain ⟨x, hx⟩ : ∃ x, l.getD p zMet = x := ⟨_, rfl⟩
                      rw [hx] at v0 v1 v2 v3 v4
                      rw [hp, hx] at HG
                      have hi0d : decide (i = 0) = false := decide_eq_false hi0
                      have Fx : ∀ w', Below (wr.alloc (mro y)).heap.size (wr.alloc (mro y)) w' → (loadVar 39 (ad.add (p * 5))).run Try.prog w' = .ok (mbv x) w' := fun w' hb => ld39 w' _ x ((hb.cell (World.block_lt_of_cell? _ _ v0)).trans v0) ((hb.cell (World.block_lt_of_cell? _ _ v1)).trans v1) ((hb.cell (World.block_lt_of_cell? _ _ v2)).trans v2) ((hb.cell (World.block_lt_of_cell? _ _ v3)).trans v3) ((hb.cell (World.block_lt_of_cell? _ _ v4)).trans v4)
                      have Fx1 : ∀ w', Below (wr.alloc (mro y)).heap.size (wr.alloc (mro y)) w' → (loadVar 3 ⟨(ad.add (p * 5)).block, (ad.add (p * 5)).off + 1, none⟩).run Try.prog w' = .ok (.int .i64 x.2.1) w' := fun w' hb => ldI w' _ _ ((hb.cell (World.block_lt_of_cell? _ _ v1)).trans v1)
                      have Fx4 : ∀ w', Below (wr.alloc (mro y)).heap.size (wr.alloc (mro y)) w' → (loadVar 9 ⟨(ad.add (p * 5)).block, (ad.add (p * 5)).off + 4, none⟩).run Try.prog w' = .ok (.string x.2.2.2.2) w' := fun w' hb => ldS w' _ _ ((hb.cell (World.block_lt_of_cell? _ _ v4)).trans v4)
                      have hBf := fun W => rbef_any x y W
                      have HNX : Hid (nextM x y = (decide (befM x y) && (decide (y.2.1 = 0) || (decide (¬ y.2.1 = x.2.1) || decide (bl x.2.2.2.2 < bl y.2.2.2.1))))) := hide rfl
                      have HI0 := hide hi0
                      have HI0D := hide hi0d
                      clear hx hp v0 v1 v2 v3 v4 hi0d hi0
                      obtain ⟨bb, hbb⟩ : ∃ b, decide (befM x y) = b := ⟨_, rfl⟩
                      have HBB := hide hbb
                      rw [hbb] at hBf HNX
                      clear hbb
                      cases bb
                      · have hz9 : z = 9 := by
                          rw [← HZ.out]
                          refine HCF.out i (by rw [HN.out]; exact hlt) ?_
                          rw [HVT.out, okM, HOK.out, HG.out]
                          simp [HB1.out, hb2, HI0D.out, HNX.out]
                        go_wp2
                        generalize (wr.alloc (mro y)) = W1 at *
                        refine wp_region_below W1.heap.size W1 (Below.refl _ _) (by kernel_rfl) (by kernel_rfl) ?_
                        repeat (go_big_quiet_step ((intro hb; first | rfl | (refine (hMy _).mono ?_; rintro e w7 ⟨rfl, HB7⟩; exact ⟨rfl, stq hb HB7⟩) | (refine (hBf _).mono ?_; rintro e w7 ⟨rfl, HB7⟩; exact ⟨rfl, stq hb HB7⟩))))
                        try simp only [Db2, Di]
                        repeat (go_big_quiet_step ((intro hb; first | rfl | (refine (hMy _).mono ?_; rintro e w7 ⟨rfl, HB7⟩; exact ⟨rfl, stq hb HB7⟩) | (refine (hBf _).mono ?_; rintro e w7 ⟨rfl, HB7⟩; exact ⟨rfl, stq hb HB7⟩))))
                        try simp only [Db2, Di]
                        repeat (go_big_quiet_step ((intro hb; first | rfl | (refine (hMy _).mono ?_; rintro e w7 ⟨rfl, HB7⟩; exact ⟨rfl, stq hb HB7⟩) | (refine (hBf _).mono ?_; rintro e w7 ⟨rfl, HB7⟩; exact ⟨rfl, stq hb HB7⟩))))
                        try simp only [Db2, Di]
                        repeat (go_big_quiet_step ((intro hb; first | rfl | (refine (hMy _).mono ?_; rintro e w7 ⟨rfl, HB7⟩; exact ⟨rfl, stq hb HB7⟩) | (refine (hBf _).mono ?_; rintro e w7 ⟨rfl, HB7⟩; exact ⟨rfl, stq hb HB7⟩))))
                        refine quiet_loadW (by rfl) 39 _ rfl ⟨wr.heap.size, 0, none⟩ rfl (mbv y) Fy ?_
                        simp only [Act.put, List.setIfInBounds_toArray, List.set_cons_zero, List.set_cons_succ]
                        repeat (go_big_quiet_step ((intro hb; first | rfl | (refine (hMy _).mono ?_; rintro e w7 ⟨rfl, HB7⟩; exact ⟨rfl, stq hb HB7⟩) | (refine (hBf _).mono ?_; rintro e w7 ⟨rfl, HB7⟩; exact ⟨rfl, stq hb HB7⟩))))
                        try simp only [Db2, Di]
                        repeat (go_big_quiet_step ((intro hb; first | rfl | (refine (hMy _).mono ?_; rintro e w7 ⟨rfl, HB7⟩; exact ⟨rfl, stq hb HB7⟩) | (refine (hBf _).mono ?_; rintro e w7 ⟨rfl, HB7⟩; exact ⟨rfl, stq hb HB7⟩))))
                        try simp only [Db2, Di]
                        repeat (go_big_quiet_step ((intro hb; first | rfl | (refine (hMy _).mono ?_; rintro e w7 ⟨rfl, HB7⟩; exact ⟨rfl, stq hb HB7⟩) | (refine (hBf _).mono ?_; rintro e w7 ⟨rfl, HB7⟩; exact ⟨rfl, stq hb HB7⟩))))
                        try simp only [Db2, Di]
                        repeat (go_big_quiet_step ((intro hb; first | rfl | (refine (hMy _).mono ?_; rintro e w7 ⟨rfl, HB7⟩; exact ⟨rfl, stq hb HB7⟩) | (refine (hBf _).mono ?_; rintro e w7 ⟨rfl, HB7⟩; exact ⟨rfl, stq hb HB7⟩))))
                        refine quiet_loadW (by rfl) 3 _ rfl ⟨wr.heap.size, 0, none⟩ rfl (.int .i64 y.1) Fy0 ?_
                        simp only [Act.put, List.setIfInBounds_toArray, List.set_cons_zero, List.set_cons_succ]
                        repeat (go_big_quiet_step ((intro hb; first | rfl | (refine (hMy _).mono ?_; rintro e w7 ⟨rfl, HB7⟩; exact ⟨rfl, stq hb HB7⟩) | (refine (hBf _).mono ?_; rintro e w7 ⟨rfl, HB7⟩; exact ⟨rfl, stq hb HB7⟩))))
                        try simp only [Db2, Di]
                        repeat (go_big_quiet_step ((intro hb; first | rfl | (refine (hMy _).mono ?_; rintro e w7 ⟨rfl, HB7⟩; exact ⟨rfl, stq hb HB7⟩) | (refine (hBf _).mono ?_; rintro e w7 ⟨rfl, HB7⟩; exact ⟨rfl, stq hb HB7⟩))))
                        try simp only [Db2, Di]
                        repeat (go_big_quiet_step ((intro hb; first | rfl | (refine (hMy _).mono ?_; rintro e w7 ⟨rfl, HB7⟩; exact ⟨rfl, stq hb HB7⟩) | (refine (hBf _).mono ?_; rintro e w7 ⟨rfl, HB7⟩; exact ⟨rfl, stq hb HB7⟩))))
                        try simp only [Db2, Di]
                        repeat (go_big_quiet_step ((intro hb; first | rfl | (refine (hMy _).mono ?_; rintro e w7 ⟨rfl, HB7⟩; exact ⟨rfl, stq hb HB7⟩) | (refine (hBf _).mono ?_; rintro e w7 ⟨rfl, HB7⟩; exact ⟨rfl, stq hb HB7⟩))))
                        refine quiet_loadW (by rfl) 3 _ rfl ⟨w.heap.size, 2, none⟩ rfl (.int .i64 nx) Fnx ?_
                        simp only [Act.put, List.setIfInBounds_toArray, List.set_cons_zero, List.set_cons_succ]
                        repeat (go_big_quiet_step ((intro hb; first | rfl | (refine (hMy _).mono ?_; rintro e w7 ⟨rfl, HB7⟩; exact ⟨rfl, stq hb HB7⟩) | (refine (hBf _).mono ?_; rintro e w7 ⟨rfl, HB7⟩; exact ⟨rfl, stq hb HB7⟩))))
                        try simp only [Db2, Di]
                        repeat (go_big_quiet_step ((intro hb; first | rfl | (refine (hMy _).mono ?_; rintro e w7 ⟨rfl, HB7⟩; exact ⟨rfl, stq hb HB7⟩) | (refine (hBf _).mono ?_; rintro e w7 ⟨rfl, HB7⟩; exact ⟨rfl, stq hb HB7⟩))))
                        try simp only [Db2, Di]
                        repeat (go_big_quiet_step ((intro hb; first | rfl | (refine (hMy _).mono ?_; rintro e w7 ⟨rfl, HB7⟩; exact ⟨rfl, stq hb HB7⟩) | (refine (hBf _).mono ?_; rintro e w7 ⟨rfl, HB7⟩; exact ⟨rfl, stq hb HB7⟩))))
                        try simp only [Db2, Di]
                        repeat (go_big_quiet_step ((intro hb; first | rfl | (refine (hMy _).mono ?_; rintro e w7 ⟨rfl, HB7⟩; exact ⟨rfl, stq hb HB7⟩) | (refine (hBf _).mono ?_; rintro e w7 ⟨rfl, HB7⟩; exact ⟨rfl, stq hb HB7⟩))))
                        refine quiet_loadW (by rfl) 22 _ rfl ⟨w.heap.size, 0, none⟩ rfl (.slice (some ad) n c) Fsl ?_
                        simp only [Act.put, List.setIfInBounds_toArray, List.set_cons_zero, List.set_cons_succ]
                        repeat (go_big_quiet_step ((intro hb; first | rfl | (refine (hMy _).mono ?_; rintro e w7 ⟨rfl, HB7⟩; exact ⟨rfl, stq hb HB7⟩) | (refine (hBf _).mono ?_; rintro e w7 ⟨rfl, HB7⟩; exact ⟨rfl, stq hb HB7⟩))))
                        try simp only [Db2, Di]
                        repeat (go_big_quiet_step ((intro hb; first | rfl | (refine (hMy _).mono ?_; rintro e w7 ⟨rfl, HB7⟩; exact ⟨rfl, stq hb HB7⟩) | (refine (hBf _).mono ?_; rintro e w7 ⟨rfl, HB7⟩; exact ⟨rfl, stq hb HB7⟩))))
                        try simp only [Db2, Di]
                        repeat (go_big_quiet_step ((intro hb; first | rfl | (refine (hMy _).mono ?_; rintro e w7 ⟨rfl, HB7⟩; exact ⟨rfl, stq hb HB7⟩) | (refine (hBf _).mono ?_; rintro e w7 ⟨rfl, HB7⟩; exact ⟨rfl, stq hb HB7⟩))))
                        try simp only [Db2, Di]
                        repeat (go_big_quiet_step ((intro hb; first | rfl | (refine (hMy _).mono ?_; rintro e w7 ⟨rfl, HB7⟩; exact ⟨rfl, stq hb HB7⟩) | (refine (hBf _).mono ?_; rintro e w7 ⟨rfl, HB7⟩; exact ⟨rfl, stq hb HB7⟩))))
                        refine quiet_loadW (by rfl) 39 _ rfl (ad.add (p * 5)) rfl (mbv x) Fx ?_
                        simp only [Act.put, List.setIfInBounds_toArray, List.set_cons_zero, List.set_cons_succ]
                        repeat (go_big_quiet_step ((intro hb; first | rfl | (refine (hMy _).mono ?_; rintro e w7 ⟨rfl, HB7⟩; exact ⟨rfl, stq hb HB7⟩) | (refine (hBf _).mono ?_; rintro e w7 ⟨rfl, HB7⟩; exact ⟨rfl, stq hb HB7⟩))))
                        try simp only [Db2, Di]
                        repeat (go_big_quiet_step ((intro hb; first | rfl | (refine (hMy _).mono ?_; rintro e w7 ⟨rfl, HB7⟩; exact ⟨rfl, stq hb HB7⟩) | (refine (hBf _).mono ?_; rintro e w7 ⟨rfl, HB7⟩; exact ⟨rfl, stq hb HB7⟩))))
                        try simp only [Db2, Di]
                        repeat (go_big_quiet_step ((intro hb; first | rfl | (refine (hMy _).mono ?_; rintro e w7 ⟨rfl, HB7⟩; exact ⟨rfl, stq hb HB7⟩) | (refine (hBf _).mono ?_; rintro e w7 ⟨rfl, HB7⟩; exact ⟨rfl, stq hb HB7⟩))))
                        try simp only [Db2, Di]
                        repeat (go_big_quiet_step ((intro hb; first | rfl | (refine (hMy _).mono ?_; rintro e w7 ⟨rfl, HB7⟩; exact ⟨rfl, stq hb HB7⟩) | (refine (hBf _).mono ?_; rintro e w7 ⟨rfl, HB7⟩; exact ⟨rfl, stq hb HB7⟩))))
                        refine quiet_loadW (by rfl) 39 _ rfl ⟨wr.heap.size, 0, none⟩ rfl (mbv y) Fy ?_
                        simp only [Act.put, List.setIfInBounds_toArray, List.set_cons_zero, List.set_cons_succ]
                        repeat (go_big_quiet_step ((intro hb; first | rfl | (refine (hMy _).mono ?_; rintro e w7 ⟨rfl, HB7⟩; exact ⟨rfl, stq hb HB7⟩) | (refine (hBf _).mono ?_; rintro e w7 ⟨rfl, HB7⟩; exact ⟨rfl, stq hb HB7⟩))))
                        try simp only [Db2, Di]
                        repeat (go_big_quiet_step ((intro hb; first | rfl | (refine (hMy _).mono ?_; rintro e w7 ⟨rfl, HB7⟩; exact ⟨rfl, stq hb HB7⟩) | (refine (hBf _).mono ?_; rintro e w7 ⟨rfl, HB7⟩; exact ⟨rfl, stq hb HB7⟩))))
                        try simp only [Db2, Di]
                        repeat (go_big_quiet_step ((intro hb; first | rfl | (refine (hMy _).mono ?_; rintro e w7 ⟨rfl, HB7⟩; exact ⟨rfl, stq hb HB7⟩) | (refine (hBf _).mono ?_; rintro e w7 ⟨rfl, HB7⟩; exact ⟨rfl, stq hb HB7⟩))))
                        try simp only [Db2, Di]
                        repeat (go_big_quiet_step ((intro hb; first | rfl | (refine (hMy _).mono ?_; rintro e w7 ⟨rfl, HB7⟩; exact ⟨rfl, stq hb HB7⟩) | (refine (hBf _).mono ?_; rintro e w7 ⟨rfl, HB7⟩; exact ⟨rfl, stq hb HB7⟩))))
                        refine wpQuiet_nil ?_
                        intro wq HCq
                        have Cq := stq C1 HCq
                        go_wp2
                        go_ret
                        exact ⟨by first | (rw [hz9]; rfl) | rfl, Cq⟩
                      · by_cases hl0 : y.2.1 = 0
                        · obtain ⟨hl1, -, -⟩ := may_lev y HB1.out
                          have hl0i : ¬ (0 : Int) < y.2.1 := by omega
                          have hl0j : y.2.1 ≤ 0 := by omega
                          have Dl : decide ((0 : Int) < y.2.1) = false := decide_eq_false hl0i
                          have HL0 := hide hl0
                          clear hl0 hl1
                          go_wp2
                          generalize (wr.alloc (mro y)) = W1 at *
                          refine wp_region_below W1.heap.size W1 (Below.refl _ _) (by kernel_rfl) (by kernel_rfl) ?_
                          repeat (go_big_quiet_step ((intro hb; first | rfl | (refine (hMy _).mono ?_; rintro e w7 ⟨rfl, HB7⟩; exact ⟨rfl, stq hb HB7⟩) | (refine (hBf _).mono ?_; rintro e w7 ⟨rfl, HB7⟩; exact ⟨rfl, stq hb HB7⟩))))
                          try simp only [Db2, Di, Dl]
                          repeat (go_big_quiet_step ((intro hb; first | rfl | (refine (hMy _).mono ?_; rintro e w7 ⟨rfl, HB7⟩; exact ⟨rfl, stq hb HB7⟩) | (refine (hBf _).mono ?_; rintro e w7 ⟨rfl, HB7⟩; exact ⟨rfl, stq hb HB7⟩))))
                          try simp only [Db2, Di, Dl]
                          repeat (go_big_quiet_step ((intro hb; first | rfl | (refine (hMy _).mono ?_; rintro e w7 ⟨rfl, HB7⟩; exact ⟨rfl, stq hb HB7⟩) | (refine (hBf _).mono ?_; rintro e w7 ⟨rfl, HB7⟩; exact ⟨rfl, stq hb HB7⟩))))
                          try simp only [Db2, Di, Dl]
                          repeat (go_big_quiet_step ((intro hb; first | rfl | (refine (hMy _).mono ?_; rintro e w7 ⟨rfl, HB7⟩; exact ⟨rfl, stq hb HB7⟩) | (refine (hBf _).mono ?_; rintro e w7 ⟨rfl, HB7⟩; exact ⟨rfl, stq hb HB7⟩))))
                          refine quiet_loadW (by rfl) 39 _ rfl ⟨wr.heap.size, 0, none⟩ rfl (mbv y) Fy ?_
                          simp only [Act.put, List.setIfInBounds_toArray, List.set_cons_zero, List.set_cons_succ]
                          repeat (go_big_quiet_step ((intro hb; first | rfl | (refine (hMy _).mono ?_; rintro e w7 ⟨rfl, HB7⟩; exact ⟨rfl, stq hb HB7⟩) | (refine (hBf _).mono ?_; rintro e w7 ⟨rfl, HB7⟩; exact ⟨rfl, stq hb HB7⟩))))
                          try simp only [Db2, Di, Dl]
                          repeat (go_big_quiet_step ((intro hb; first | rfl | (refine (hMy _).mono ?_; rintro e w7 ⟨rfl, HB7⟩; exact ⟨rfl, stq hb HB7⟩) | (refine (hBf _).mono ?_; rintro e w7 ⟨rfl, HB7⟩; exact ⟨rfl, stq hb HB7⟩))))
                          try simp only [Db2, Di, Dl]
                          repeat (go_big_quiet_step ((intro hb; first | rfl | (refine (hMy _).mono ?_; rintro e w7 ⟨rfl, HB7⟩; exact ⟨rfl, stq hb HB7⟩) | (refine (hBf _).mono ?_; rintro e w7 ⟨rfl, HB7⟩; exact ⟨rfl, stq hb HB7⟩))))
                          try simp only [Db2, Di, Dl]
                          repeat (go_big_quiet_step ((intro hb; first | rfl | (refine (hMy _).mono ?_; rintro e w7 ⟨rfl, HB7⟩; exact ⟨rfl, stq hb HB7⟩) | (refine (hBf _).mono ?_; rintro e w7 ⟨rfl, HB7⟩; exact ⟨rfl, stq hb HB7⟩))))
                          refine quiet_loadW (by rfl) 3 _ rfl ⟨wr.heap.size, 0, none⟩ rfl (.int .i64 y.1) Fy0 ?_
                          simp only [Act.put, List.setIfInBounds_toArray, List.set_cons_zero, List.set_cons_succ]
                          repeat (go_big_quiet_step ((intro hb; first | rfl | (refine (hMy _).mono ?_; rintro e w7 ⟨rfl, HB7⟩; exact ⟨rfl, stq hb HB7⟩) | (refine (hBf _).mono ?_; rintro e w7 ⟨rfl, HB7⟩; exact ⟨rfl, stq hb HB7⟩))))
                          try simp only [Db2, Di, Dl]
                          repeat (go_big_quiet_step ((intro hb; first | rfl | (refine (hMy _).mono ?_; rintro e w7 ⟨rfl, HB7⟩; exact ⟨rfl, stq hb HB7⟩) | (refine (hBf _).mono ?_; rintro e w7 ⟨rfl, HB7⟩; exact ⟨rfl, stq hb HB7⟩))))
                          try simp only [Db2, Di, Dl]
                          repeat (go_big_quiet_step ((intro hb; first | rfl | (refine (hMy _).mono ?_; rintro e w7 ⟨rfl, HB7⟩; exact ⟨rfl, stq hb HB7⟩) | (refine (hBf _).mono ?_; rintro e w7 ⟨rfl, HB7⟩; exact ⟨rfl, stq hb HB7⟩))))
                          try simp only [Db2, Di, Dl]
                          repeat (go_big_quiet_step ((intro hb; first | rfl | (refine (hMy _).mono ?_; rintro e w7 ⟨rfl, HB7⟩; exact ⟨rfl, stq hb HB7⟩) | (refine (hBf _).mono ?_; rintro e w7 ⟨rfl, HB7⟩; exact ⟨rfl, stq hb HB7⟩))))
                          refine quiet_loadW (by rfl) 3 _ rfl ⟨w.heap.size, 2, none⟩ rfl (.int .i64 nx) Fnx ?_
                          simp only [Act.put, List.setIfInBounds_toArray, List.set_cons_zero, List.set_cons_succ]
                          repeat (go_big_quiet_step ((intro hb; first | rfl | (refine (hMy _).mono ?_; rintro e w7 ⟨rfl, HB7⟩; exact ⟨rfl, stq hb HB7⟩) | (refine (hBf _).mono ?_; rintro e w7 ⟨rfl, HB7⟩; exact ⟨rfl, stq hb HB7⟩))))
                          try simp only [Db2, Di, Dl]
                          repeat (go_big_quiet_step ((intro hb; first | rfl | (refine (hMy _).mono ?_; rintro e w7 ⟨rfl, HB7⟩; exact ⟨rfl, stq hb HB7⟩) | (refine (hBf _).mono ?_; rintro e w7 ⟨rfl, HB7⟩; exact ⟨rfl, stq hb HB7⟩))))
                          try simp only [Db2, Di, Dl]
                          repeat (go_big_quiet_step ((intro hb; first | rfl | (refine (hMy _).mono ?_; rintro e w7 ⟨rfl, HB7⟩; exact ⟨rfl, stq hb HB7⟩) | (refine (hBf _).mono ?_; rintro e w7 ⟨rfl, HB7⟩; exact ⟨rfl, stq hb HB7⟩))))
                          try simp only [Db2, Di, Dl]
                          repeat (go_big_quiet_step ((intro hb; first | rfl | (refine (hMy _).mono ?_; rintro e w7 ⟨rfl, HB7⟩; exact ⟨rfl, stq hb HB7⟩) | (refine (hBf _).mono ?_; rintro e w7 ⟨rfl, HB7⟩; exact ⟨rfl, stq hb HB7⟩))))
                          refine quiet_loadW (by rfl) 22 _ rfl ⟨w.heap.size, 0, none⟩ rfl (.slice (some ad) n c) Fsl ?_
                          simp only [Act.put, List.setIfInBounds_toArray, List.set_cons_zero, List.set_cons_succ]
                          repeat (go_big_quiet_step ((intro hb; first | rfl | (refine (hMy _).mono ?_; rintro e w7 ⟨rfl, HB7⟩; exact ⟨rfl, stq hb HB7⟩) | (refine (hBf _).mono ?_; rintro e w7 ⟨rfl, HB7⟩; exact ⟨rfl, stq hb HB7⟩))))
                          try simp only [Db2, Di, Dl]
                          repeat (go_big_quiet_step ((intro hb; first | rfl | (refine (hMy _).mono ?_; rintro e w7 ⟨rfl, HB7⟩; exact ⟨rfl, stq hb HB7⟩) | (refine (hBf _).mono ?_; rintro e w7 ⟨rfl, HB7⟩; exact ⟨rfl, stq hb HB7⟩))))
                          try simp only [Db2, Di, Dl]
                          repeat (go_big_quiet_step ((intro hb; first | rfl | (refine (hMy _).mono ?_; rintro e w7 ⟨rfl, HB7⟩; exact ⟨rfl, stq hb HB7⟩) | (refine (hBf _).mono ?_; rintro e w7 ⟨rfl, HB7⟩; exact ⟨rfl, stq hb HB7⟩))))
                          try simp only [Db2, Di, Dl]
                          repeat (go_big_quiet_step ((intro hb; first | rfl | (refine (hMy _).mono ?_; rintro e w7 ⟨rfl, HB7⟩; exact ⟨rfl, stq hb HB7⟩) | (refine (hBf _).mono ?_; rintro e w7 ⟨rfl, HB7⟩; exact ⟨rfl, stq hb HB7⟩))))
                          refine quiet_loadW (by rfl) 39 _ rfl (ad.add (p * 5)) rfl (mbv x) Fx ?_
                          simp only [Act.put, List.setIfInBounds_toArray, List.set_cons_zero, List.set_cons_succ]
                          repeat (go_big_quiet_step ((intro hb; first | rfl | (refine (hMy _).mono ?_; rintro e w7 ⟨rfl, HB7⟩; exact ⟨rfl, stq hb HB7⟩) | (refine (hBf _).mono ?_; rintro e w7 ⟨rfl, HB7⟩; exact ⟨rfl, stq hb HB7⟩))))
                          try simp only [Db2, Di, Dl]
                          repeat (go_big_quiet_step ((intro hb; first | rfl | (refine (hMy _).mono ?_; rintro e w7 ⟨rfl, HB7⟩; exact ⟨rfl, stq hb HB7⟩) | (refine (hBf _).mono ?_; rintro e w7 ⟨rfl, HB7⟩; exact ⟨rfl, stq hb HB7⟩))))
                          try simp only [Db2, Di, Dl]
                          repeat (go_big_quiet_step ((intro hb; first | rfl | (refine (hMy _).mono ?_; rintro e w7 ⟨rfl, HB7⟩; exact ⟨rfl, stq hb HB7⟩) | (refine (hBf _).mono ?_; rintro e w7 ⟨rfl, HB7⟩; exact ⟨rfl, stq hb HB7⟩))))
                          try simp only [Db2, Di, Dl]
                          repeat (go_big_quiet_step ((intro hb; first | rfl | (refine (hMy _).mono ?_; rintro e w7 ⟨rfl, HB7⟩; exact ⟨rfl, stq hb HB7⟩) | (refine (hBf _).mono ?_; rintro e w7 ⟨rfl, HB7⟩; exact ⟨rfl, stq hb HB7⟩))))
                          refine quiet_loadW (by rfl) 39 _ rfl ⟨wr.heap.size, 0, none⟩ rfl (mbv y) Fy ?_
                          simp only [Act.put, List.setIfInBounds_toArray, List.set_cons_zero, List.set_cons_succ]
                          repeat (go_big_quiet_step ((intro hb; first | rfl | (refine (hMy _).mono ?_; rintro e w7 ⟨rfl, HB7⟩; exact ⟨rfl, stq hb HB7⟩) | (refine (hBf _).mono ?_; rintro e w7 ⟨rfl, HB7⟩; exact ⟨rfl, stq hb HB7⟩))))
                          try simp only [Db2, Di, Dl]
                          repeat (go_big_quiet_step ((intro hb; first | rfl | (refine (hMy _).mono ?_; rintro e w7 ⟨rfl, HB7⟩; exact ⟨rfl, stq hb HB7⟩) | (refine (hBf _).mono ?_; rintro e w7 ⟨rfl, HB7⟩; exact ⟨rfl, stq hb HB7⟩))))
                          try simp only [Db2, Di, Dl]
                          repeat (go_big_quiet_step ((intro hb; first | rfl | (refine (hMy _).mono ?_; rintro e w7 ⟨rfl, HB7⟩; exact ⟨rfl, stq hb HB7⟩) | (refine (hBf _).mono ?_; rintro e w7 ⟨rfl, HB7⟩; exact ⟨rfl, stq hb HB7⟩))))
                          try simp only [Db2, Di, Dl]
                          repeat (go_big_quiet_step ((intro hb; first | rfl | (refine (hMy _).mono ?_; rintro e w7 ⟨rfl, HB7⟩; exact ⟨rfl, stq hb HB7⟩) | (refine (hBf _).mono ?_; rintro e w7 ⟨rfl, HB7⟩; exact ⟨rfl, stq hb HB7⟩))))
                          refine quiet_loadW (by rfl) 3 _ rfl ⟨wr.heap.size, 1, none⟩ rfl (.int .i64 y.2.1) Fy1 ?_
                          simp only [Act.put, List.setIfInBounds_toArray, List.set_cons_zero, List.set_cons_succ]
                          repeat (go_big_quiet_step ((intro hb; first | rfl | (refine (hMy _).mono ?_; rintro e w7 ⟨rfl, HB7⟩; exact ⟨rfl, stq hb HB7⟩) | (refine (hBf _).mono ?_; rintro e w7 ⟨rfl, HB7⟩; exact ⟨rfl, stq hb HB7⟩))))
                          try simp only [Db2, Di, Dl]
                          repeat (go_big_quiet_step ((intro hb; first | rfl | (refine (hMy _).mono ?_; rintro e w7 ⟨rfl, HB7⟩; exact ⟨rfl, stq hb HB7⟩) | (refine (hBf _).mono ?_; rintro e w7 ⟨rfl, HB7⟩; exact ⟨rfl, stq hb HB7⟩))))
                          try simp only [Db2, Di, Dl]
                          repeat (go_big_quiet_step ((intro hb; first | rfl | (refine (hMy _).mono ?_; rintro e w7 ⟨rfl, HB7⟩; exact ⟨rfl, stq hb HB7⟩) | (refine (hBf _).mono ?_; rintro e w7 ⟨rfl, HB7⟩; exact ⟨rfl, stq hb HB7⟩))))
                          try simp only [Db2, Di, Dl]
                          repeat (go_big_quiet_step ((intro hb; first | rfl | (refine (hMy _).mono ?_; rintro e w7 ⟨rfl, HB7⟩; exact ⟨rfl, stq hb HB7⟩) | (refine (hBf _).mono ?_; rintro e w7 ⟨rfl, HB7⟩; exact ⟨rfl, stq hb HB7⟩))))
                          refine wpQuiet_nil ?_
                          intro wq HCq
                          have Cq := stq C1 HCq
                          have Tq := T1.below HCq
                          have Mq := M1.below HCq
                          clear Fy Fy0 Fy1 Fy3 Fnx Fsl
                          go_wp2
                          go_loopw [5] (fun jv wz => ∃ j : Nat, j ≤ i ∧ jv = .int .i64 (j : Int) ∧ (∀ t, t < j → ¬ (l.getD t zMet).1 = y.1) ∧ Below wq.heap.size wq wz) (fun jv _ => i - (intOf jv).toNat)
                          case atStart => exact ⟨0, Nat.zero_le _, rfl, fun t h => absurd h (Nat.not_lt_zero _), Below.refl _ _⟩
                          case round =>
                            obtain ⟨j, hj, rfl, hno, HBj⟩ := hrel
                            have HNO := hide hno
                            clear hno
                            have Cz := stq Cq HBj
                            by_cases hji : j < i
                            · have hjii : (j : Int) < (i : Int) := Int.ofNat_lt.2 hji
                              have hjn : j < n := Nat.lt_trans hji hlt
                              have hjni : (j : Int) < (n : Int) := Int.ofNat_lt.2 hjn
                              obtain ⟨hw5, hw6⟩ := idx_w i j hji (by omega)
                              have Tz := Tq.below HBj
                              have Mz := Mq.below HBj
                              obtain ⟨tz0, tz1, tz2⟩ := Tz.read
                              obtain ⟨mz0, mz1, mz2, mz3, mz4⟩ := Mz.read
                              obtain ⟨ad', had, u0, u1, u2, u3, u4⟩ := RdM.at5 (hr.below Cz) j (by rw [HN.out]; exact hjn)
                              injection had with had
                              subst had
                              obtain ⟨u, hu⟩ : ∃ u, l.getD j zMet = u := ⟨_, rfl⟩
                              rw [hu] at u0 u1 u2 u3 u4
                              have HU := hide hu
                              clear hu
                              by_cases he : u.1 = y.1
                              · have heb : (u.1 == y.1) = true := beq_iff_eq.2 he
                                have hz9 : z = 9 := by
                                  rw [← HZ.out]
                                  refine HCF.out i (by rw [HN.out]; exact hlt) ?_
                                  have hs : seenB l i y.1 = true := (seenB_iff l i y.1).2 ⟨j, hji, by rw [HU.out]; exact he.symm⟩
                                  rw [HVT.out, okM, HOK.out, HG.out, hs]
                                  simp
                                clear he
                                go_wp2
                                go_still (by kernel_rfl)
                                go_wp2
                                go_ret
                                exact ⟨by first | (rw [hz9]; rfl) | rfl, Cz.drew⟩
                              · have heb : (u.1 == y.1) = false := beq_eq_false_iff_ne.2 he
                                have HE := hide he
                                clear he
                                go_wp2
                                go_still (by kernel_rfl)
                                go_wp2
                                go_roundw
                                case rel => exact ⟨j + 1, hji, by go_num, ne_next l j y.1 HNO.out (by rw [HU.out]; exact HE.out), HBj.drew⟩
                                case measure => first | exact idx_m i j hji | exact idx_m2 i j hji | exact idx_m3 i j hji hw5
                            · obtain rfl : j = i := Nat.le_antisymm hj (Nat.not_lt.1 hji)
                              have hok2 : okM nx l true (j + 1) = true := by
                                have hs := seenB_not l j y.1 HNO.out
                                rw [okM, HOK.out, HG.out, hs, HB1.out, decide_eq_true hb2]
                                rw [HNX.out, decide_eq_true HL0.out]; simp
                              have HOK2 := hide hok2
                              clear hok2
                              go_wp2
                              go_roundw
                              case rel => exact ⟨j + 1, hlt, by go_num, HOK2.out, Tq.below HBj, Cz⟩
                              case measure => first | exact idx_m n j hlt | exact idx_m2 n j hlt | exact idx_m3 n j hlt hw1
                        · obtain ⟨hl1, -, -⟩ := may_lev y HB1.out
                          have hl0i : (0 : Int) < y.2.1 := by omega
                          have Dl : decide ((0 : Int) < y.2.1) = true := decide_eq_true hl0i
                          have HL0 := hide hl0
                          clear hl0 hl1
                          by_cases hll : x.2.1 = y.2.1
                          · have hllb : (x.2.1 == y.2.1) = true := beq_iff_eq.2 hll
                            have HLL := hide hll
                            have hle := le_or y.2.2.2.1 x.2.2.2.2
                            obtain ⟨q, hq⟩ : ∃ q, decide (bl x.2.2.2.2 < bl y.2.2.2.1) = q := ⟨_, rfl⟩
                            rw [leB, hq] at hle
                            rw [hq] at HNX
                            clear hll hq
                            cases q
                            · have hz9 : z = 9 := by
                                rw [← HZ.out]
                                refine HCF.out i (by rw [HN.out]; exact hlt) ?_
                                rw [HVT.out, okM, HOK.out, HG.out]
                                simp [HB1.out, hb2, HI0D.out, HNX.out, HL0.out, HLL.out]
                              go_wp2
                              generalize (wr.alloc (mro y)) = W1 at *
                              refine wp_region_below W1.heap.size W1 (Below.refl _ _) (by kernel_rfl) (by kernel_rfl) ?_
                              repeat (go_big_quiet_step ((intro hb; first | rfl | (refine (hMy _).mono ?_; rintro e w7 ⟨rfl, HB7⟩; exact ⟨rfl, stq hb HB7⟩) | (refine (hBf _).mono ?_; rintro e w7 ⟨rfl, HB7⟩; exact ⟨rfl, stq hb HB7⟩))))
                              try simp only [Db2, Di, Dl, hllb, hle]
                              repeat (go_big_quiet_step ((intro hb; first | rfl | (refine (hMy _).mono ?_; rintro e w7 ⟨rfl, HB7⟩; exact ⟨rfl, stq hb HB7⟩) | (refine (hBf _).mono ?_; rintro e w7 ⟨rfl, HB7⟩; exact ⟨rfl, stq hb HB7⟩))))
                              try simp only [Db2, Di, Dl, hllb, hle]
                              repeat (go_big_quiet_step ((intro hb; first | rfl | (refine (hMy _).mono ?_; rintro e w7 ⟨rfl, HB7⟩; exact ⟨rfl, stq hb HB7⟩) | (refine (hBf _).mono ?_; rintro e w7 ⟨rfl, HB7⟩; exact ⟨rfl, stq hb HB7⟩))))
                              try simp only [Db2, Di, Dl, hllb, hle]
                              repeat (go_big_quiet_step ((intro hb; first | rfl | (refine (hMy _).mono ?_; rintro e w7 ⟨rfl, HB7⟩; exact ⟨rfl, stq hb HB7⟩) | (refine (hBf _).mono ?_; rintro e w7 ⟨rfl, HB7⟩; exact ⟨rfl, stq hb HB7⟩))))
                              refine quiet_loadW (by rfl) 39 _ rfl ⟨wr.heap.size, 0, none⟩ rfl (mbv y) Fy ?_
                              simp only [Act.put, List.setIfInBounds_toArray, List.set_cons_zero, List.set_cons_succ]
                              repeat (go_big_quiet_step ((intro hb; first | rfl | (refine (hMy _).mono ?_; rintro e w7 ⟨rfl, HB7⟩; exact ⟨rfl, stq hb HB7⟩) | (refine (hBf _).mono ?_; rintro e w7 ⟨rfl, HB7⟩; exact ⟨rfl, stq hb HB7⟩))))
                              try simp only [Db2, Di, Dl, hllb, hle]
                              repeat (go_big_quiet_step ((intro hb; first | rfl | (refine (hMy _).mono ?_; rintro e w7 ⟨rfl, HB7⟩; exact ⟨rfl, stq hb HB7⟩) | (refine (hBf _).mono ?_; rintro e w7 ⟨rfl, HB7⟩; exact ⟨rfl, stq hb HB7⟩))))
                              try simp only [Db2, Di, Dl, hllb, hle]
                              repeat (go_big_quiet_step ((intro hb; first | rfl | (refine (hMy _).mono ?_; rintro e w7 ⟨rfl, HB7⟩; exact ⟨rfl, stq hb HB7⟩) | (refine (hBf _).mono ?_; rintro e w7 ⟨rfl, HB7⟩; exact ⟨rfl, stq hb HB7⟩))))
                              try simp only [Db2, Di, Dl, hllb, hle]
                              repeat (go_big_quiet_step ((intro hb; first | rfl | (refine (hMy _).mono ?_; rintro e w7 ⟨rfl, HB7⟩; exact ⟨rfl, stq hb HB7⟩) | (refine (hBf _).mono ?_; rintro e w7 ⟨rfl, HB7⟩; exact ⟨rfl, stq hb HB7⟩))))
                              refine quiet_loadW (by rfl) 3 _ rfl ⟨wr.heap.size, 0, none⟩ rfl (.int .i64 y.1) Fy0 ?_
                              simp only [Act.put, List.setIfInBounds_toArray, List.set_cons_zero, List.set_cons_succ]
                              repeat (go_big_quiet_step ((intro hb; first | rfl | (refine (hMy _).mono ?_; rintro e w7 ⟨rfl, HB7⟩; exact ⟨rfl, stq hb HB7⟩) | (refine (hBf _).mono ?_; rintro e w7 ⟨rfl, HB7⟩; exact ⟨rfl, stq hb HB7⟩))))
                              try simp only [Db2, Di, Dl, hllb, hle]
                              repeat (go_big_quiet_step ((intro hb; first | rfl | (refine (hMy _).mono ?_; rintro e w7 ⟨rfl, HB7⟩; exact ⟨rfl, stq hb HB7⟩) | (refine (hBf _).mono ?_; rintro e w7 ⟨rfl, HB7⟩; exact ⟨rfl, stq hb HB7⟩))))
                              try simp only [Db2, Di, Dl, hllb, hle]
                              repeat (go_big_quiet_step ((intro hb; first | rfl | (refine (hMy _).mono ?_; rintro e w7 ⟨rfl, HB7⟩; exact ⟨rfl, stq hb HB7⟩) | (refine (hBf _).mono ?_; rintro e w7 ⟨rfl, HB7⟩; exact ⟨rfl, stq hb HB7⟩))))
                              try simp only [Db2, Di, Dl, hllb, hle]
                              repeat (go_big_quiet_step ((intro hb; first | rfl | (refine (hMy _).mono ?_; rintro e w7 ⟨rfl, HB7⟩; exact ⟨rfl, stq hb HB7⟩) | (refine (hBf _).mono ?_; rintro e w7 ⟨rfl, HB7⟩; exact ⟨rfl, stq hb HB7⟩))))
                              refine quiet_loadW (by rfl) 3 _ rfl ⟨w.heap.size, 2, none⟩ rfl (.int .i64 nx) Fnx ?_
                              simp only [Act.put, List.setIfInBounds_toArray, List.set_cons_zero, List.set_cons_succ]
                              repeat (go_big_quiet_step ((intro hb; first | rfl | (refine (hMy _).mono ?_; rintro e w7 ⟨rfl, HB7⟩; exact ⟨rfl, stq hb HB7⟩) | (refine (hBf _).mono ?_; rintro e w7 ⟨rfl, HB7⟩; exact ⟨rfl, stq hb HB7⟩))))
                              try simp only [Db2, Di, Dl, hllb, hle]
                              repeat (go_big_quiet_step ((intro hb; first | rfl | (refine (hMy _).mono ?_; rintro e w7 ⟨rfl, HB7⟩; exact ⟨rfl, stq hb HB7⟩) | (refine (hBf _).mono ?_; rintro e w7 ⟨rfl, HB7⟩; exact ⟨rfl, stq hb HB7⟩))))
                              try simp only [Db2, Di, Dl, hllb, hle]
                              repeat (go_big_quiet_step ((intro hb; first | rfl | (refine (hMy _).mono ?_; rintro e w7 ⟨rfl, HB7⟩; exact ⟨rfl, stq hb HB7⟩) | (refine (hBf _).mono ?_; rintro e w7 ⟨rfl, HB7⟩; exact ⟨rfl, stq hb HB7⟩))))
                              try simp only [Db2, Di, Dl, hllb, hle]
                              repeat (go_big_quiet_step ((intro hb; first | rfl | (refine (hMy _).mono ?_; rintro e w7 ⟨rfl, HB7⟩; exact ⟨rfl, stq hb HB7⟩) | (refine (hBf _).mono ?_; rintro e w7 ⟨rfl, HB7⟩; exact ⟨rfl, stq hb HB7⟩))))
                              refine quiet_loadW (by rfl) 22 _ rfl ⟨w.heap.size, 0, none⟩ rfl (.slice (some ad) n c) Fsl ?_
                              simp only [Act.put, List.setIfInBounds_toArray, List.set_cons_zero, List.set_cons_succ]
                              repeat (go_big_quiet_step ((intro hb; first | rfl | (refine (hMy _).mono ?_; rintro e w7 ⟨rfl, HB7⟩; exact ⟨rfl, stq hb HB7⟩) | (refine (hBf _).mono ?_; rintro e w7 ⟨rfl, HB7⟩; exact ⟨rfl, stq hb HB7⟩))))
                              try simp only [Db2, Di, Dl, hllb, hle]
                              repeat (go_big_quiet_step ((intro hb; first | rfl | (refine (hMy _).mono ?_; rintro e w7 ⟨rfl, HB7⟩; exact ⟨rfl, stq hb HB7⟩) | (refine (hBf _).mono ?_; rintro e w7 ⟨rfl, HB7⟩; exact ⟨rfl, stq hb HB7⟩))))
                              try simp only [Db2, Di, Dl, hllb, hle]
                              repeat (go_big_quiet_step ((intro hb; first | rfl | (refine (hMy _).mono ?_; rintro e w7 ⟨rfl, HB7⟩; exact ⟨rfl, stq hb HB7⟩) | (refine (hBf _).mono ?_; rintro e w7 ⟨rfl, HB7⟩; exact ⟨rfl, stq hb HB7⟩))))
                              try simp only [Db2, Di, Dl, hllb, hle]
                              repeat (go_big_quiet_step ((intro hb; first | rfl | (refine (hMy _).mono ?_; rintro e w7 ⟨rfl, HB7⟩; exact ⟨rfl, stq hb HB7⟩) | (refine (hBf _).mono ?_; rintro e w7 ⟨rfl, HB7⟩; exact ⟨rfl, stq hb HB7⟩))))
                              refine quiet_loadW (by rfl) 39 _ rfl (ad.add (p * 5)) rfl (mbv x) Fx ?_
                              simp only [Act.put, List.setIfInBounds_toArray, List.set_cons_zero, List.set_cons_succ]
                              repeat (go_big_quiet_step ((intro hb; first | rfl | (refine (hMy _).mono ?_; rintro e w7 ⟨rfl, HB7⟩; exact ⟨rfl, stq hb HB7⟩) | (refine (hBf _).mono ?_; rintro e w7 ⟨rfl, HB7⟩; exact ⟨rfl, stq hb HB7⟩))))
                              try simp only [Db2, Di, Dl, hllb, hle]
                              repeat (go_big_quiet_step ((intro hb; first | rfl | (refine (hMy _).mono ?_; rintro e w7 ⟨rfl, HB7⟩; exact ⟨rfl, stq hb HB7⟩) | (refine (hBf _).mono ?_; rintro e w7 ⟨rfl, HB7⟩; exact ⟨rfl, stq hb HB7⟩))))
                              try simp only [Db2, Di, Dl, hllb, hle]
                              repeat (go_big_quiet_step ((intro hb; first | rfl | (refine (hMy _).mono ?_; rintro e w7 ⟨rfl, HB7⟩; exact ⟨rfl, stq hb HB7⟩) | (refine (hBf _).mono ?_; rintro e w7 ⟨rfl, HB7⟩; exact ⟨rfl, stq hb HB7⟩))))
                              try simp only [Db2, Di, Dl, hllb, hle]
                              repeat (go_big_quiet_step ((intro hb; first | rfl | (refine (hMy _).mono ?_; rintro e w7 ⟨rfl, HB7⟩; exact ⟨rfl, stq hb HB7⟩) | (refine (hBf _).mono ?_; rintro e w7 ⟨rfl, HB7⟩; exact ⟨rfl, stq hb HB7⟩))))
                              refine quiet_loadW (by rfl) 39 _ rfl ⟨wr.heap.size, 0, none⟩ rfl (mbv y) Fy ?_
                              simp only [Act.put, List.setIfInBounds_toArray, List.set_cons_zero, List.set_cons_succ]
                              repeat (go_big_quiet_step ((intro hb; first | rfl | (refine (hMy _).mono ?_; rintro e w7 ⟨rfl, HB7⟩; exact ⟨rfl, stq hb HB7⟩) | (refine (hBf _).mono ?_; rintro e w7 ⟨rfl, HB7⟩; exact ⟨rfl, stq hb HB7⟩))))
                              try simp only [Db2, Di, Dl, hllb, hle]
                              repeat (go_big_quiet_step ((intro hb; first | rfl | (refine (hMy _).mono ?_; rintro e w7 ⟨rfl, HB7⟩; exact ⟨rfl, stq hb HB7⟩) | (refine (hBf _).mono ?_; rintro e w7 ⟨rfl, HB7⟩; exact ⟨rfl, stq hb HB7⟩))))
                              try simp only [Db2, Di, Dl, hllb, hle]
                              repeat (go_big_quiet_step ((intro hb; first | rfl | (refine (hMy _).mono ?_; rintro e w7 ⟨rfl, HB7⟩; exact ⟨rfl, stq hb HB7⟩) | (refine (hBf _).mono ?_; rintro e w7 ⟨rfl, HB7⟩; exact ⟨rfl, stq hb HB7⟩))))
                              try simp only [Db2, Di, Dl, hllb, hle]
                              repeat (go_big_quiet_step ((intro hb; first | rfl | (refine (hMy _).mono ?_; rintro e w7 ⟨rfl, HB7⟩; exact ⟨rfl, stq hb HB7⟩) | (refine (hBf _).mono ?_; rintro e w7 ⟨rfl, HB7⟩; exact ⟨rfl, stq hb HB7⟩))))
                              refine quiet_loadW (by rfl) 3 _ rfl ⟨wr.heap.size, 1, none⟩ rfl (.int .i64 y.2.1) Fy1 ?_
                              simp only [Act.put, List.setIfInBounds_toArray, List.set_cons_zero, List.set_cons_succ]
                              repeat (go_big_quiet_step ((intro hb; first | rfl | (refine (hMy _).mono ?_; rintro e w7 ⟨rfl, HB7⟩; exact ⟨rfl, stq hb HB7⟩) | (refine (hBf _).mono ?_; rintro e w7 ⟨rfl, HB7⟩; exact ⟨rfl, stq hb HB7⟩))))
                              try simp only [Db2, Di, Dl, hllb, hle]
                              repeat (go_big_quiet_step ((intro hb; first | rfl | (refine (hMy _).mono ?_; rintro e w7 ⟨rfl, HB7⟩; exact ⟨rfl, stq hb HB7⟩) | (refine (hBf _).mono ?_; rintro e w7 ⟨rfl, HB7⟩; exact ⟨rfl, stq hb HB7⟩))))
                              try simp only [Db2, Di, Dl, hllb, hle]
                              repeat (go_big_quiet_step ((intro hb; first | rfl | (refine (hMy _).mono ?_; rintro e w7 ⟨rfl, HB7⟩; exact ⟨rfl, stq hb HB7⟩) | (refine (hBf _).mono ?_; rintro e w7 ⟨rfl, HB7⟩; exact ⟨rfl, stq hb HB7⟩))))
                              try simp only [Db2, Di, Dl, hllb, hle]
                              repeat (go_big_quiet_step ((intro hb; first | rfl | (refine (hMy _).mono ?_; rintro e w7 ⟨rfl, HB7⟩; exact ⟨rfl, stq hb HB7⟩) | (refine (hBf _).mono ?_; rintro e w7 ⟨rfl, HB7⟩; exact ⟨rfl, stq hb HB7⟩))))
                              refine quiet_loadW (by rfl) 22 _ rfl ⟨w.heap.size, 0, none⟩ rfl (.slice (some ad) n c) Fsl ?_
                              simp only [Act.put, List.setIfInBounds_toArray, List.set_cons_zero, List.set_cons_succ]
                              repeat (go_big_quiet_step ((intro hb; first | rfl | (refine (hMy _).mono ?_; rintro e w7 ⟨rfl, HB7⟩; exact ⟨rfl, stq hb HB7⟩) | (refine (hBf _).mono ?_; rintro e w7 ⟨rfl, HB7⟩; exact ⟨rfl, stq hb HB7⟩))))
                              try simp only [Db2, Di, Dl, hllb, hle]
                              repeat (go_big_quiet_step ((intro hb; first | rfl | (refine (hMy _).mono ?_; rintro e w7 ⟨rfl, HB7⟩; exact ⟨rfl, stq hb HB7⟩) | (refine (hBf _).mono ?_; rintro e w7 ⟨rfl, HB7⟩; exact ⟨rfl, stq hb HB7⟩))))
                              try simp only [Db2, Di, Dl, hllb, hle]
                              repeat (go_big_quiet_step ((intro hb; first | rfl | (refine (hMy _).mono ?_; rintro e w7 ⟨rfl, HB7⟩; exact ⟨rfl, stq hb HB7⟩) | (refine (hBf _).mono ?_; rintro e w7 ⟨rfl, HB7⟩; exact ⟨rfl, stq hb HB7⟩))))
                              try simp only [Db2, Di, Dl, hllb, hle]
                              repeat (go_big_quiet_step ((intro hb; first | rfl | (refine (hMy _).mono ?_; rintro e w7 ⟨rfl, HB7⟩; exact ⟨rfl, stq hb HB7⟩) | (refine (hBf _).mono ?_; rintro e w7 ⟨rfl, HB7⟩; exact ⟨rfl, stq hb HB7⟩))))
                              refine quiet_loadW (by rfl) 3 _ rfl ⟨(ad.add (p * 5)).block, (ad.add (p * 5)).off + 1, none⟩ rfl (.int .i64 x.2.1) Fx1 ?_
                              simp only [Act.put, List.setIfInBounds_toArray, List.set_cons_zero, List.set_cons_succ]
                              repeat (go_big_quiet_step ((intro hb; first | rfl | (refine (hMy _).mono ?_; rintro e w7 ⟨rfl, HB7⟩; exact ⟨rfl, stq hb HB7⟩) | (refine (hBf _).mono ?_; rintro e w7 ⟨rfl, HB7⟩; exact ⟨rfl, stq hb HB7⟩))))
                              try simp only [Db2, Di, Dl, hllb, hle]
                              repeat (go_big_quiet_step ((intro hb; first | rfl | (refine (hMy _).mono ?_; rintro e w7 ⟨rfl, HB7⟩; exact ⟨rfl, stq hb HB7⟩) | (refine (hBf _).mono ?_; rintro e w7 ⟨rfl, HB7⟩; exact ⟨rfl, stq hb HB7⟩))))
                              try simp only [Db2, Di, Dl, hllb, hle]
                              repeat (go_big_quiet_step ((intro hb; first | rfl | (refine (hMy _).mono ?_; rintro e w7 ⟨rfl, HB7⟩; exact ⟨rfl, stq hb HB7⟩) | (refine (hBf _).mono ?_; rintro e w7 ⟨rfl, HB7⟩; exact ⟨rfl, stq hb HB7⟩))))
                              try simp only [Db2, Di, Dl, hllb, hle]
                              repeat (go_big_quiet_step ((intro hb; first | rfl | (refine (hMy _).mono ?_; rintro e w7 ⟨rfl, HB7⟩; exact ⟨rfl, stq hb HB7⟩) | (refine (hBf _).mono ?_; rintro e w7 ⟨rfl, HB7⟩; exact ⟨rfl, stq hb HB7⟩))))
                              refine quiet_loadW (by rfl) 3 _ rfl ⟨wr.heap.size, 1, none⟩ rfl (.int .i64 y.2.1) Fy1 ?_
                              simp only [Act.put, List.setIfInBounds_toArray, List.set_cons_zero, List.set_cons_succ]
                              repeat (go_big_quiet_step ((intro hb; first | rfl | (refine (hMy _).mono ?_; rintro e w7 ⟨rfl, HB7⟩; exact ⟨rfl, stq hb HB7⟩) | (refine (hBf _).mono ?_; rintro e w7 ⟨rfl, HB7⟩; exact ⟨rfl, stq hb HB7⟩))))
                              try simp only [Db2, Di, Dl, hllb, hle]
                              repeat (go_big_quiet_step ((intro hb; first | rfl | (refine (hMy _).mono ?_; rintro e w7 ⟨rfl, HB7⟩; exact ⟨rfl, stq hb HB7⟩) | (refine (hBf _).mono ?_; rintro e w7 ⟨rfl, HB7⟩; exact ⟨rfl, stq hb HB7⟩))))
                              try simp only [Db2, Di, Dl, hllb, hle]
                              repeat (go_big_quiet_step ((intro hb; first | rfl | (refine (hMy _).mono ?_; rintro e w7 ⟨rfl, HB7⟩; exact ⟨rfl, stq hb HB7⟩) | (refine (hBf _).mono ?_; rintro e w7 ⟨rfl, HB7⟩; exact ⟨rfl, stq hb HB7⟩))))
                              try simp only [Db2, Di, Dl, hllb, hle]
                              repeat (go_big_quiet_step ((intro hb; first | rfl | (refine (hMy _).mono ?_; rintro e w7 ⟨rfl, HB7⟩; exact ⟨rfl, stq hb HB7⟩) | (refine (hBf _).mono ?_; rintro e w7 ⟨rfl, HB7⟩; exact ⟨rfl, stq hb HB7⟩))))
                              refine quiet_loadW (by rfl) 9 _ rfl ⟨wr.heap.size, 3, none⟩ rfl (.string y.2.2.2.1) Fy3 ?_
                              simp only [Act.put, List.setIfInBounds_toArray, List.set_cons_zero, List.set_cons_succ]
                              repeat (go_big_quiet_step ((intro hb; first | rfl | (refine (hMy _).mono ?_; rintro e w7 ⟨rfl, HB7⟩; exact ⟨rfl, stq hb HB7⟩) | (refine (hBf _).mono ?_; rintro e w7 ⟨rfl, HB7⟩; exact ⟨rfl, stq hb HB7⟩))))
                              try simp only [Db2, Di, Dl, hllb, hle]
                              repeat (go_big_quiet_step ((intro hb; first | rfl | (refine (hMy _).mono ?_; rintro e w7 ⟨rfl, HB7⟩; exact ⟨rfl, stq hb HB7⟩) | (refine (hBf _).mono ?_; rintro e w7 ⟨rfl, HB7⟩; exact ⟨rfl, stq hb HB7⟩))))
                              try simp only [Db2, Di, Dl, hllb, hle]
                              repeat (go_big_quiet_step ((intro hb; first | rfl | (refine (hMy _).mono ?_; rintro e w7 ⟨rfl, HB7⟩; exact ⟨rfl, stq hb HB7⟩) | (refine (hBf _).mono ?_; rintro e w7 ⟨rfl, HB7⟩; exact ⟨rfl, stq hb HB7⟩))))
                              try simp only [Db2, Di, Dl, hllb, hle]
                              repeat (go_big_quiet_step ((intro hb; first | rfl | (refine (hMy _).mono ?_; rintro e w7 ⟨rfl, HB7⟩; exact ⟨rfl, stq hb HB7⟩) | (refine (hBf _).mono ?_; rintro e w7 ⟨rfl, HB7⟩; exact ⟨rfl, stq hb HB7⟩))))
                              refine quiet_loadW (by rfl) 22 _ rfl ⟨w.heap.size, 0, none⟩ rfl (.slice (some ad) n c) Fsl ?_
                              simp only [Act.put, List.setIfInBounds_toArray, List.set_cons_zero, List.set_cons_succ]
                              repeat (go_big_quiet_step ((intro hb; first | rfl | (refine (hMy _).mono ?_; rintro e w7 ⟨rfl, HB7⟩; exact ⟨rfl, stq hb HB7⟩) | (refine (hBf _).mono ?_; rintro e w7 ⟨rfl, HB7⟩; exact ⟨rfl, stq hb HB7⟩))))
                              try simp only [Db2, Di, Dl, hllb, hle]
                              repeat (go_big_quiet_step ((intro hb; first | rfl | (refine (hMy _).mono ?_; rintro e w7 ⟨rfl, HB7⟩; exact ⟨rfl, stq hb HB7⟩) | (refine (hBf _).mono ?_; rintro e w7 ⟨rfl, HB7⟩; exact ⟨rfl, stq hb HB7⟩))))
                              try simp only [Db2, Di, Dl, hllb, hle]
                              repeat (go_big_quiet_step ((intro hb; first | rfl | (refine (hMy _).mono ?_; rintro e w7 ⟨rfl, HB7⟩; exact ⟨rfl, stq hb HB7⟩) | (refine (hBf _).mono ?_; rintro e w7 ⟨rfl, HB7⟩; exact ⟨rfl, stq hb HB7⟩))))
                              try simp only [Db2, Di, Dl, hllb, hle]
                              repeat (go_big_quiet_step ((intro hb; first | rfl | (refine (hMy _).mono ?_; rintro e w7 ⟨rfl, HB7⟩; exact ⟨rfl, stq hb HB7⟩) | (refine (hBf _).mono ?_; rintro e w7 ⟨rfl, HB7⟩; exact ⟨rfl, stq hb HB7⟩))))
                              refine quiet_loadW (by rfl) 9 _ rfl ⟨(ad.add (p * 5)).block, (ad.add (p * 5)).off + 4, none⟩ rfl (.string x.2.2.2.2) Fx4 ?_
                              simp only [Act.put, List.setIfInBounds_toArray, List.set_cons_zero, List.set_cons_succ]
                              repeat (go_big_quiet_step ((intro hb; first | rfl | (refine (hMy _).mono ?_; rintro e w7 ⟨rfl, HB7⟩; exact ⟨rfl, stq hb HB7⟩) | (refine (hBf _).mono ?_; rintro e w7 ⟨rfl, HB7⟩; exact ⟨rfl, stq hb HB7⟩))))
                              try simp only [Db2, Di, Dl, hllb, hle]
                              repeat (go_big_quiet_step ((intro hb; first | rfl | (refine (hMy _).mono ?_; rintro e w7 ⟨rfl, HB7⟩; exact ⟨rfl, stq hb HB7⟩) | (refine (hBf _).mono ?_; rintro e w7 ⟨rfl, HB7⟩; exact ⟨rfl, stq hb HB7⟩))))
                              try simp only [Db2, Di, Dl, hllb, hle]
                              repeat (go_big_quiet_step ((intro hb; first | rfl | (refine (hMy _).mono ?_; rintro e w7 ⟨rfl, HB7⟩; exact ⟨rfl, stq hb HB7⟩) | (refine (hBf _).mono ?_; rintro e w7 ⟨rfl, HB7⟩; exact ⟨rfl, stq hb HB7⟩))))
                              try simp only [Db2, Di, Dl, hllb, hle]
                              repeat (go_big_quiet_step ((intro hb; first | rfl | (refine (hMy _).mono ?_; rintro e w7 ⟨rfl, HB7⟩; exact ⟨rfl, stq hb HB7⟩) | (refine (hBf _).mono ?_; rintro e w7 ⟨rfl, HB7⟩; exact ⟨rfl, stq hb HB7⟩))))
                              refine wpQuiet_nil ?_
                              intro wq HCq
                              have Cq := stq C1 HCq
                              go_wp2
                              go_ret
                              exact ⟨by first | (rw [hz9]; rfl) | rfl, Cq⟩
                            · go_wp2
                              generalize (wr.alloc (mro y)) = W1 at *
                              refine wp_region_below W1.heap.size W1 (Below.refl _ _) (by kernel_rfl) (by kernel_rfl) ?_
                              repeat (go_big_quiet_step ((intro hb; first | rfl | (refine (hMy _).mono ?_; rintro e w7 ⟨rfl, HB7⟩; exact ⟨rfl, stq hb HB7⟩) | (refine (hBf _).mono ?_; rintro e w7 ⟨rfl, HB7⟩; exact ⟨rfl, stq hb HB7⟩))))
                              try simp only [Db2, Di, Dl, hllb, hle]
                              repeat (go_big_quiet_step ((intro hb; first | rfl | (refine (hMy _).mono ?_; rintro e w7 ⟨rfl, HB7⟩; exact ⟨rfl, stq hb HB7⟩) | (refine (hBf _).mono ?_; rintro e w7 ⟨rfl, HB7⟩; exact ⟨rfl, stq hb HB7⟩))))
                              try simp only [Db2, Di, Dl, hllb, hle]
                              repeat (go_big_quiet_step ((intro hb; first | rfl | (refine (hMy _).mono ?_; rintro e w7 ⟨rfl, HB7⟩; exact ⟨rfl, stq hb HB7⟩) | (refine (hBf _).mono ?_; rintro e w7 ⟨rfl, HB7⟩; exact ⟨rfl, stq hb HB7⟩))))
                              try simp only [Db2, Di, Dl, hllb, hle]
                              repeat (go_big_quiet_step ((intro hb; first | rfl | (refine (hMy _).mono ?_; rintro e w7 ⟨rfl, HB7⟩; exact ⟨rfl, stq hb HB7⟩) | (refine (hBf _).mono ?_; rintro e w7 ⟨rfl, HB7⟩; exact ⟨rfl, stq hb HB7⟩))))
                              refine quiet_loadW (by rfl) 39 _ rfl ⟨wr.heap.size, 0, none⟩ rfl (mbv y) Fy ?_
                              simp only [Act.put, List.setIfInBounds_toArray, List.set_cons_zero, List.set_cons_succ]
                              repeat (go_big_quiet_step ((intro hb; first | rfl | (refine (hMy _).mono ?_; rintro e w7 ⟨rfl, HB7⟩; exact ⟨rfl, stq hb HB7⟩) | (refine (hBf _).mono ?_; rintro e w7 ⟨rfl, HB7⟩; exact ⟨rfl, stq hb HB7⟩))))
                              try simp only [Db2, Di, Dl, hllb, hle]
                              repeat (go_big_quiet_step ((intro hb; first | rfl | (refine (hMy _).mono ?_; rintro e w7 ⟨rfl, HB7⟩; exact ⟨rfl, stq hb HB7⟩) | (refine (hBf _).mono ?_; rintro e w7 ⟨rfl, HB7⟩; exact ⟨rfl, stq hb HB7⟩))))
                              try simp only [Db2, Di, Dl, hllb, hle]
                              repeat (go_big_quiet_step ((intro hb; first | rfl | (refine (hMy _).mono ?_; rintro e w7 ⟨rfl, HB7⟩; exact ⟨rfl, stq hb HB7⟩) | (refine (hBf _).mono ?_; rintro e w7 ⟨rfl, HB7⟩; exact ⟨rfl, stq hb HB7⟩))))
                              try simp only [Db2, Di, Dl, hllb, hle]
                              repeat (go_big_quiet_step ((intro hb; first | rfl | (refine (hMy _).mono ?_; rintro e w7 ⟨rfl, HB7⟩; exact ⟨rfl, stq hb HB7⟩) | (refine (hBf _).mono ?_; rintro e w7 ⟨rfl, HB7⟩; exact ⟨rfl, stq hb HB7⟩))))
                              refine quiet_loadW (by rfl) 3 _ rfl ⟨wr.heap.size, 0, none⟩ rfl (.int .i64 y.1) Fy0 ?_
                              simp only [Act.put, List.setIfInBounds_toArray, List.set_cons_zero, List.set_cons_succ]
                              repeat (go_big_quiet_step ((intro hb; first | rfl | (refine (hMy _).mono ?_; rintro e w7 ⟨rfl, HB7⟩; exact ⟨rfl, stq hb HB7⟩) | (refine (hBf _).mono ?_; rintro e w7 ⟨rfl, HB7⟩; exact ⟨rfl, stq hb HB7⟩))))
                              try simp only [Db2, Di, Dl, hllb, hle]
                              repeat (go_big_quiet_step ((intro hb; first | rfl | (refine (hMy _).mono ?_; rintro e w7 ⟨rfl, HB7⟩; exact ⟨rfl, stq hb HB7⟩) | (refine (hBf _).mono ?_; rintro e w7 ⟨rfl, HB7⟩; exact ⟨rfl, stq hb HB7⟩))))
                              try simp only [Db2, Di, Dl, hllb, hle]
                              repeat (go_big_quiet_step ((intro hb; first | rfl | (refine (hMy _).mono ?_; rintro e w7 ⟨rfl, HB7⟩; exact ⟨rfl, stq hb HB7⟩) | (refine (hBf _).mono ?_; rintro e w7 ⟨rfl, HB7⟩; exact ⟨rfl, stq hb HB7⟩))))
                              try simp only [Db2, Di, Dl, hllb, hle]
                              repeat (go_big_quiet_step ((intro hb; first | rfl | (refine (hMy _).mono ?_; rintro e w7 ⟨rfl, HB7⟩; exact ⟨rfl, stq hb HB7⟩) | (refine (hBf _).mono ?_; rintro e w7 ⟨rfl, HB7⟩; exact ⟨rfl, stq hb HB7⟩))))
                              refine quiet_loadW (by rfl) 3 _ rfl ⟨w.heap.size, 2, none⟩ rfl (.int .i64 nx) Fnx ?_
                              simp only [Act.put, List.setIfInBounds_toArray, List.set_cons_zero, List.set_cons_succ]
                              repeat (go_big_quiet_step ((intro hb; first | rfl | (refine (hMy _).mono ?_; rintro e w7 ⟨rfl, HB7⟩; exact ⟨rfl, stq hb HB7⟩) | (refine (hBf _).mono ?_; rintro e w7 ⟨rfl, HB7⟩; exact ⟨rfl, stq hb HB7⟩))))
                              try simp only [Db2, Di, Dl, hllb, hle]
                              repeat (go_big_quiet_step ((intro hb; first | rfl | (refine (hMy _).mono ?_; rintro e w7 ⟨rfl, HB7⟩; exact ⟨rfl, stq hb HB7⟩) | (refine (hBf _).mono ?_; rintro e w7 ⟨rfl, HB7⟩; exact ⟨rfl, stq hb HB7⟩))))
                              try simp only [Db2, Di, Dl, hllb, hle]
                              repeat (go_big_quiet_step ((intro hb; first | rfl | (refine (hMy _).mono ?_; rintro e w7 ⟨rfl, HB7⟩; exact ⟨rfl, stq hb HB7⟩) | (refine (hBf _).mono ?_; rintro e w7 ⟨rfl, HB7⟩; exact ⟨rfl, stq hb HB7⟩))))
                              try simp only [Db2, Di, Dl, hllb, hle]
                              repeat (go_big_quiet_step ((intro hb; first | rfl | (refine (hMy _).mono ?_; rintro e w7 ⟨rfl, HB7⟩; exact ⟨rfl, stq hb HB7⟩) | (refine (hBf _).mono ?_; rintro e w7 ⟨rfl, HB7⟩; exact ⟨rfl, stq hb HB7⟩))))
                              refine quiet_loadW (by rfl) 22 _ rfl ⟨w.heap.size, 0, none⟩ rfl (.slice (some ad) n c) Fsl ?_
                              simp only [Act.put, List.setIfInBounds_toArray, List.set_cons_zero, List.set_cons_succ]
                              repeat (go_big_quiet_step ((intro hb; first | rfl | (refine (hMy _).mono ?_; rintro e w7 ⟨rfl, HB7⟩; exact ⟨rfl, stq hb HB7⟩) | (refine (hBf _).mono ?_; rintro e w7 ⟨rfl, HB7⟩; exact ⟨rfl, stq hb HB7⟩))))
                              try simp only [Db2, Di, Dl, hllb, hle]
                              repeat (go_big_quiet_step ((intro hb; first | rfl | (refine (hMy _).mono ?_; rintro e w7 ⟨rfl, HB7⟩; exact ⟨rfl, stq hb HB7⟩) | (refine (hBf _).mono ?_; rintro e w7 ⟨rfl, HB7⟩; exact ⟨rfl, stq hb HB7⟩))))
                              try simp only [Db2, Di, Dl, hllb, hle]
                              repeat (go_big_quiet_step ((intro hb; first | rfl | (refine (hMy _).mono ?_; rintro e w7 ⟨rfl, HB7⟩; exact ⟨rfl, stq hb HB7⟩) | (refine (hBf _).mono ?_; rintro e w7 ⟨rfl, HB7⟩; exact ⟨rfl, stq hb HB7⟩))))
                              try simp only [Db2, Di, Dl, hllb, hle]
                              repeat (go_big_quiet_step ((intro hb; first | rfl | (refine (hMy _).mono ?_; rintro e w7 ⟨rfl, HB7⟩; exact ⟨rfl, stq hb HB7⟩) | (refine (hBf _).mono ?_; rintro e w7 ⟨rfl, HB7⟩; exact ⟨rfl, stq hb HB7⟩))))
                              refine quiet_loadW (by rfl) 39 _ rfl (ad.add (p * 5)) rfl (mbv x) Fx ?_
                              simp only [Act.put, List.setIfInBounds_toArray, List.set_cons_zero, List.set_cons_succ]
                              repeat (go_big_quiet_step ((intro hb; first | rfl | (refine (hMy _).mono ?_; rintro e w7 ⟨rfl, HB7⟩; exact ⟨rfl, stq hb HB7⟩) | (refine (hBf _).mono ?_; rintro e w7 ⟨rfl, HB7⟩; exact ⟨rfl, stq hb HB7⟩))))
                              try simp only [Db2, Di, Dl, hllb, hle]
                              repeat (go_big_quiet_step ((intro hb; first | rfl | (refine (hMy _).mono ?_; rintro e w7 ⟨rfl, HB7⟩; exact ⟨rfl, stq hb HB7⟩) | (refine (hBf _).mono ?_; rintro e w7 ⟨rfl, HB7⟩; exact ⟨rfl, stq hb HB7⟩))))
                              try simp only [Db2, Di, Dl, hllb, hle]
                              repeat (go_big_quiet_step ((intro hb; first | rfl | (refine (hMy _).mono ?_; rintro e w7 ⟨rfl, HB7⟩; exact ⟨rfl, stq hb HB7⟩) | (refine (hBf _).mono ?_; rintro e w7 ⟨rfl, HB7⟩; exact ⟨rfl, stq hb HB7⟩))))
                              try simp only [Db2, Di, Dl, hllb, hle]
                              repeat (go_big_quiet_step ((intro hb; first | rfl | (refine (hMy _).mono ?_; rintro e w7 ⟨rfl, HB7⟩; exact ⟨rfl, stq hb HB7⟩) | (refine (hBf _).mono ?_; rintro e w7 ⟨rfl, HB7⟩; exact ⟨rfl, stq hb HB7⟩))))
                              refine quiet_loadW (by rfl) 39 _ rfl ⟨wr.heap.size, 0, none⟩ rfl (mbv y) Fy ?_
                              simp only [Act.put, List.setIfInBounds_toArray, List.set_cons_zero, List.set_cons_succ]
                              repeat (go_big_quiet_step ((intro hb; first | rfl | (refine (hMy _).mono ?_; rintro e w7 ⟨rfl, HB7⟩; exact ⟨rfl, stq hb HB7⟩) | (refine (hBf _).mono ?_; rintro e w7 ⟨rfl, HB7⟩; exact ⟨rfl, stq hb HB7⟩))))
                              try simp only [Db2, Di, Dl, hllb, hle]
                              repeat (go_big_quiet_step ((intro hb; first | rfl | (refine (hMy _).mono ?_; rintro e w7 ⟨rfl, HB7⟩; exact ⟨rfl, stq hb HB7⟩) | (refine (hBf _).mono ?_; rintro e w7 ⟨rfl, HB7⟩; exact ⟨rfl, stq hb HB7⟩))))
                              try simp only [Db2, Di, Dl, hllb, hle]
                              repeat (go_big_quiet_step ((intro hb; first | rfl | (refine (hMy _).mono ?_; rintro e w7 ⟨rfl, HB7⟩; exact ⟨rfl, stq hb HB7⟩) | (refine (hBf _).mono ?_; rintro e w7 ⟨rfl, HB7⟩; exact ⟨rfl, stq hb HB7⟩))))
                              try simp only [Db2, Di, Dl, hllb, hle]
                              repeat (go_big_quiet_step ((intro hb; first | rfl | (refine (hMy _).mono ?_; rintro e w7 ⟨rfl, HB7⟩; exact ⟨rfl, stq hb HB7⟩) | (refine (hBf _).mono ?_; rintro e w7 ⟨rfl, HB7⟩; exact ⟨rfl, stq hb HB7⟩))))
                              refine quiet_loadW (by rfl) 3 _ rfl ⟨wr.heap.size, 1, none⟩ rfl (.int .i64 y.2.1) Fy1 ?_
                              simp only [Act.put, List.setIfInBounds_toArray, List.set_cons_zero, List.set_cons_succ]
                              repeat (go_big_quiet_step ((intro hb; first | rfl | (refine (hMy _).mono ?_; rintro e w7 ⟨rfl, HB7⟩; exact ⟨rfl, stq hb HB7⟩) | (refine (hBf _).mono ?_; rintro e w7 ⟨rfl, HB7⟩; exact ⟨rfl, stq hb HB7⟩))))
                              try simp only [Db2, Di, Dl, hllb, hle]
                              repeat (go_big_quiet_step ((intro hb; first | rfl | (refine (hMy _).mono ?_; rintro e w7 ⟨rfl, HB7⟩; exact ⟨rfl, stq hb HB7⟩) | (refine (hBf _).mono ?_; rintro e w7 ⟨rfl, HB7⟩; exact ⟨rfl, stq hb HB7⟩))))
                              try simp only [Db2, Di, Dl, hllb, hle]
                              repeat (go_big_quiet_step ((intro hb; first | rfl | (refine (hMy _).mono ?_; rintro e w7 ⟨rfl, HB7⟩; exact ⟨rfl, stq hb HB7⟩) | (refine (hBf _).mono ?_; rintro e w7 ⟨rfl, HB7⟩; exact ⟨rfl, stq hb HB7⟩))))
                              try simp only [Db2, Di, Dl, hllb, hle]
                              repeat (go_big_quiet_step ((intro hb; first | rfl | (refine (hMy _).mono ?_; rintro e w7 ⟨rfl, HB7⟩; exact ⟨rfl, stq hb HB7⟩) | (refine (hBf _).mono ?_; rintro e w7 ⟨rfl, HB7⟩; exact ⟨rfl, stq hb HB7⟩))))
                              refine quiet_loadW (by rfl) 22 _ rfl ⟨w.heap.size, 0, none⟩ rfl (.slice (some ad) n c) Fsl ?_
                              simp only [Act.put, List.setIfInBounds_toArray, List.set_cons_zero, List.set_cons_succ]
                              repeat (go_big_quiet_step ((intro hb; first | rfl | (refine (hMy _).mono ?_; rintro e w7 ⟨rfl, HB7⟩; exact ⟨rfl, stq hb HB7⟩) | (refine (hBf _).mono ?_; rintro e w7 ⟨rfl, HB7⟩; exact ⟨rfl, stq hb HB7⟩))))
                              try simp only [Db2, Di, Dl, hllb, hle]
                              repeat (go_big_quiet_step ((intro hb; first | rfl | (refine (hMy _).mono ?_; rintro e w7 ⟨rfl, HB7⟩; exact ⟨rfl, stq hb HB7⟩) | (refine (hBf _).mono ?_; rintro e w7 ⟨rfl, HB7⟩; exact ⟨rfl, stq hb HB7⟩))))
                              try simp only [Db2, Di, Dl, hllb, hle]
                              repeat (go_big_quiet_step ((intro hb; first | rfl | (refine (hMy _).mono ?_; rintro e w7 ⟨rfl, HB7⟩; exact ⟨rfl, stq hb HB7⟩) | (refine (hBf _).mono ?_; rintro e w7 ⟨rfl, HB7⟩; exact ⟨rfl, stq hb HB7⟩))))
                              try simp only [Db2, Di, Dl, hllb, hle]
                              repeat (go_big_quiet_step ((intro hb; first | rfl | (refine (hMy _).mono ?_; rintro e w7 ⟨rfl, HB7⟩; exact ⟨rfl, stq hb HB7⟩) | (refine (hBf _).mono ?_; rintro e w7 ⟨rfl, HB7⟩; exact ⟨rfl, stq hb HB7⟩))))
                              refine quiet_loadW (by rfl) 3 _ rfl ⟨(ad.add (p * 5)).block, (ad.add (p * 5)).off + 1, none⟩ rfl (.int .i64 x.2.1) Fx1 ?_
                              simp only [Act.put, List.setIfInBounds_toArray, List.set_cons_zero, List.set_cons_succ]
                              repeat (go_big_quiet_step ((intro hb; first | rfl | (refine (hMy _).mono ?_; rintro e w7 ⟨rfl, HB7⟩; exact ⟨rfl, stq hb HB7⟩) | (refine (hBf _).mono ?_; rintro e w7 ⟨rfl, HB7⟩; exact ⟨rfl, stq hb HB7⟩))))
                              try simp only [Db2, Di, Dl, hllb, hle]
                              repeat (go_big_quiet_step ((intro hb; first | rfl | (refine (hMy _).mono ?_; rintro e w7 ⟨rfl, HB7⟩; exact ⟨rfl, stq hb HB7⟩) | (refine (hBf _).mono ?_; rintro e w7 ⟨rfl, HB7⟩; exact ⟨rfl, stq hb HB7⟩))))
                              try simp only [Db2, Di, Dl, hllb, hle]
                              repeat (go_big_quiet_step ((intro hb; first | rfl | (refine (hMy _).mono ?_; rintro e w7 ⟨rfl, HB7⟩; exact ⟨rfl, stq hb HB7⟩) | (refine (hBf _).mono ?_; rintro e w7 ⟨rfl, HB7⟩; exact ⟨rfl, stq hb HB7⟩))))
                              try simp only [Db2, Di, Dl, hllb, hle]
                              repeat (go_big_quiet_step ((intro hb; first | rfl | (refine (hMy _).mono ?_; rintro e w7 ⟨rfl, HB7⟩; exact ⟨rfl, stq hb HB7⟩) | (refine (hBf _).mono ?_; rintro e w7 ⟨rfl, HB7⟩; exact ⟨rfl, stq hb HB7⟩))))
                              refine quiet_loadW (by rfl) 3 _ rfl ⟨wr.heap.size, 1, none⟩ rfl (.int .i64 y.2.1) Fy1 ?_
                              simp only [Act.put, List.setIfInBounds_toArray, List.set_cons_zero, List.set_cons_succ]
                              repeat (go_big_quiet_step ((intro hb; first | rfl | (refine (hMy _).mono ?_; rintro e w7 ⟨rfl, HB7⟩; exact ⟨rfl, stq hb HB7⟩) | (refine (hBf _).mono ?_; rintro e w7 ⟨rfl, HB7⟩; exact ⟨rfl, stq hb HB7⟩))))
                              try simp only [Db2, Di, Dl, hllb, hle]
                              repeat (go_big_quiet_step ((intro hb; first | rfl | (refine (hMy _).mono ?_; rintro e w7 ⟨rfl, HB7⟩; exact ⟨rfl, stq hb HB7⟩) | (refine (hBf _).mono ?_; rintro e w7 ⟨rfl, HB7⟩; exact ⟨rfl, stq hb HB7⟩))))
                              try simp only [Db2, Di, Dl, hllb, hle]
                              repeat (go_big_quiet_step ((intro hb; first | rfl | (refine (hMy _).mono ?_; rintro e w7 ⟨rfl, HB7⟩; exact ⟨rfl, stq hb HB7⟩) | (refine (hBf _).mono ?_; rintro e w7 ⟨rfl, HB7⟩; exact ⟨rfl, stq hb HB7⟩))))
                              try simp only [Db2, Di, Dl, hllb, hle]
                              repeat (go_big_quiet_step ((intro hb; first | rfl | (refine (hMy _).mono ?_; rintro e w7 ⟨rfl, HB7⟩; exact ⟨rfl, stq hb HB7⟩) | (refine (hBf _).mono ?_; rintro e w7 ⟨rfl, HB7⟩; exact ⟨rfl, stq hb HB7⟩))))
                              refine quiet_loadW (by rfl) 9 _ rfl ⟨wr.heap.size, 3, none⟩ rfl (.string y.2.2.2.1) Fy3 ?_
                              simp only [Act.put, List.setIfInBounds_toArray, List.set_cons_zero, List.set_cons_succ]
                              repeat (go_big_quiet_step ((intro hb; first | rfl | (refine (hMy _).mono ?_; rintro e w7 ⟨rfl, HB7⟩; exact ⟨rfl, stq hb HB7⟩) | (refine (hBf _).mono ?_; rintro e w7 ⟨rfl, HB7⟩; exact ⟨rfl, stq hb HB7⟩))))
                              try simp only [Db2, Di, Dl, hllb, hle]
                              repeat (go_big_quiet_step ((intro hb; first | rfl | (refine (hMy _).mono ?_; rintro e w7 ⟨rfl, HB7⟩; exact ⟨rfl, stq hb HB7⟩) | (refine (hBf _).mono ?_; rintro e w7 ⟨rfl, HB7⟩; exact ⟨rfl, stq hb HB7⟩))))
                              try simp only [Db2, Di, Dl, hllb, hle]
                              repeat (go_big_quiet_step ((intro hb; first | rfl | (refine (hMy _).mono ?_; rintro e w7 ⟨rfl, HB7⟩; exact ⟨rfl, stq hb HB7⟩) | (refine (hBf _).mono ?_; rintro e w7 ⟨rfl, HB7⟩; exact ⟨rfl, stq hb HB7⟩))))
                              try simp only [Db2, Di, Dl, hllb, hle]
                              repeat (go_big_quiet_step ((intro hb; first | rfl | (refine (hMy _).mono ?_; rintro e w7 ⟨rfl, HB7⟩; exact ⟨rfl, stq hb HB7⟩) | (refine (hBf _).mono ?_; rintro e w7 ⟨rfl, HB7⟩; exact ⟨rfl, stq hb HB7⟩))))
                              refine quiet_loadW (by rfl) 22 _ rfl ⟨w.heap.size, 0, none⟩ rfl (.slice (some ad) n c) Fsl ?_
                              simp only [Act.put, List.setIfInBounds_toArray, List.set_cons_zero, List.set_cons_succ]
                              repeat (go_big_quiet_step ((intro hb; first | rfl | (refine (hMy _).mono ?_; rintro e w7 ⟨rfl, HB7⟩; exact ⟨rfl, stq hb HB7⟩) | (refine (hBf _).mono ?_; rintro e w7 ⟨rfl, HB7⟩; exact ⟨rfl, stq hb HB7⟩))))
                              try simp only [Db2, Di, Dl, hllb, hle]
                              repeat (go_big_quiet_step ((intro hb; first | rfl | (refine (hMy _).mono ?_; rintro e w7 ⟨rfl, HB7⟩; exact ⟨rfl, stq hb HB7⟩) | (refine (hBf _).mono ?_; rintro e w7 ⟨rfl, HB7⟩; exact ⟨rfl, stq hb HB7⟩))))
                              try simp only [Db2, Di, Dl, hllb, hle]
                              repeat (go_big_quiet_step ((intro hb; first | rfl | (refine (hMy _).mono ?_; rintro e w7 ⟨rfl, HB7⟩; exact ⟨rfl, stq hb HB7⟩) | (refine (hBf _).mono ?_; rintro e w7 ⟨rfl, HB7⟩; exact ⟨rfl, stq hb HB7⟩))))
                              try simp only [Db2, Di, Dl, hllb, hle]
                              repeat (go_big_quiet_step ((intro hb; first | rfl | (refine (hMy _).mono ?_; rintro e w7 ⟨rfl, HB7⟩; exact ⟨rfl, stq hb HB7⟩) | (refine (hBf _).mono ?_; rintro e w7 ⟨rfl, HB7⟩; exact ⟨rfl, stq hb HB7⟩))))
                              refine quiet_loadW (by rfl) 9 _ rfl ⟨(ad.add (p * 5)).block, (ad.add (p * 5)).off + 4, none⟩ rfl (.string x.2.2.2.2) Fx4 ?_
                              simp only [Act.put, List.setIfInBounds_toArray, List.set_cons_zero, List.set_cons_succ]
                              repeat (go_big_quiet_step ((intro hb; first | rfl | (refine (hMy _).mono ?_; rintro e w7 ⟨rfl, HB7⟩; exact ⟨rfl, stq hb HB7⟩) | (refine (hBf _).mono ?_; rintro e w7 ⟨rfl, HB7⟩; exact ⟨rfl, stq hb HB7⟩))))
                              try simp only [Db2, Di, Dl, hllb, hle]
                              repeat (go_big_quiet_step ((intro hb; first | rfl | (refine (hMy _).mono ?_; rintro e w7 ⟨rfl, HB7⟩; exact ⟨rfl, stq hb HB7⟩) | (refine (hBf _).mono ?_; rintro e w7 ⟨rfl, HB7⟩; exact ⟨rfl, stq hb HB7⟩))))
                              try simp only [Db2, Di, Dl, hllb, hle]
                              repeat (go_big_quiet_step ((intro hb; first | rfl | (refine (hMy _).mono ?_; rintro e w7 ⟨rfl, HB7⟩; exact ⟨rfl, stq hb HB7⟩) | (refine (hBf _).mono ?_; rintro e w7 ⟨rfl, HB7⟩; exact ⟨rfl, stq hb HB7⟩))))
                              try simp only [Db2, Di, Dl, hllb, hle]
                              repeat (go_big_quiet_step ((intro hb; first | rfl | (refine (hMy _).mono ?_; rintro e w7 ⟨rfl, HB7⟩; exact ⟨rfl, stq hb HB7⟩) | (refine (hBf _).mono ?_; rintro e w7 ⟨rfl, HB7⟩; exact ⟨rfl, stq hb HB7⟩))))
                              refine wpQuiet_nil ?_
                              intro wq HCq
                              have Cq := stq C1 HCq
                              have Tq := T1.below HCq
                              have Mq := M1.below HCq
                              clear Fy Fy0 Fy1 Fy3 Fnx Fsl
                              go_wp2
                              go_loopw [5] (fun jv wz => ∃ j : Nat, j ≤ i ∧ jv = .int .i64 (j : Int) ∧ (∀ t, t < j → ¬ (l.getD t zMet).1 = y.1) ∧ Below wq.heap.size wq wz) (fun jv _ => i - (intOf jv).toNat)
                              case atStart => exact ⟨0, Nat.zero_le _, rfl, fun t h => absurd h (Nat.not_lt_zero _), Below.refl _ _⟩
                              case round =>
                                obtain ⟨j, hj, rfl, hno, HBj⟩ := hrel
                                have HNO := hide hno
                                clear hno
                                have Cz := stq Cq HBj
                                by_cases hji : j < i
                                · have hjii : (j : Int) < (i : Int) := Int.ofNat_lt.2 hji
                                  have hjn : j < n := Nat.lt_trans hji hlt
                                  have hjni : (j : Int) < (n : Int) := Int.ofNat_lt.2 hjn
                                  obtain ⟨hw5, hw6⟩ := idx_w i j hji (by omega)
                                  have Tz := Tq.below HBj
                                  have Mz := Mq.below HBj
                                  obtain ⟨tz0, tz1, tz2⟩ := Tz.read
                                  obtain ⟨mz0, mz1, mz2, mz3, mz4⟩ := Mz.read
                                  obtain ⟨ad', had, u0, u1, u2, u3, u4⟩ := RdM.at5 (hr.below Cz) j (by rw [HN.out]; exact hjn)
                                  injection had with had
                                  subst had
                                  obtain ⟨u, hu⟩ : ∃ u, l.getD j zMet = u := ⟨_, rfl⟩
                                  rw [hu] at u0 u1 u2 u3 u4
                                  have HU := hide hu
                                  clear hu
                                  by_cases he : u.1 = y.1
                                  · have heb : (u.1 == y.1) = true := beq_iff_eq.2 he
                                    have hz9 : z = 9 := by
                                      rw [← HZ.out]
                                      refine HCF.out i (by rw [HN.out]; exact hlt) ?_
                                      have hs : seenB l i y.1 = true := (seenB_iff l i y.1).2 ⟨j, hji, by rw [HU.out]; exact he.symm⟩
                                      rw [HVT.out, okM, HOK.out, HG.out, hs]
                                      simp
                                    clear he
                                    go_wp2
                                    go_still (by kernel_rfl)
                                    go_wp2
                                    go_ret
                                    exact ⟨by first | (rw [hz9]; rfl) | rfl, Cz.drew⟩
                                  · have heb : (u.1 == y.1) = false := beq_eq_false_iff_ne.2 he
                                    have HE := hide he
                                    clear he
                                    go_wp2
                                    go_still (by kernel_rfl)
                                    go_wp2
                                    go_roundw
                                    case rel => exact ⟨j + 1, hji, by go_num, ne_next l j y.1 HNO.out (by rw [HU.out]; exact HE.out), HBj.drew⟩
                                    case measure => first | exact idx_m i j hji | exact idx_m2 i j hji | exact idx_m3 i j hji hw5
                                · obtain rfl : j = i := Nat.le_antisymm hj (Nat.not_lt.1 hji)
                                  have hok2 : okM nx l true (j + 1) = true := by
                                    have hs := seenB_not l j y.1 HNO.out
                                    rw [okM, HOK.out, HG.out, hs, HB1.out, decide_eq_true hb2]
                                    rw [HNX.out]; simp
                                  have HOK2 := hide hok2
                                  clear hok2
                                  go_wp2
                                  go_roundw
                                  case rel => exact ⟨j + 1, hlt, by go_num, HOK2.out, Tq.below HBj, Cz⟩
                                  case measure => first | exact idx_m n j hlt | exact idx_m2 n j hlt | exact idx_m3 n j hlt hw1
                          · have hllb : (x.2.1 == y.2.1) = false := beq_eq_false_iff_ne.2 hll
                            have HLL := hide (show ¬ y.2.1 = x.2.1 from fun h => hll h.symm)
                            clear hll
                            go_wp2
                            generalize (wr.alloc (mro y)) = W1 at *
                            refine wp_region_below W1.heap.size W1 (Below.refl _ _) (by kernel_rfl) (by kernel_rfl) ?_
                            repeat (go_big_quiet_step ((intro hb; first | rfl | (refine (hMy _).mono ?_; rintro e w7 ⟨rfl, HB7⟩; exact ⟨rfl, stq hb HB7⟩) | (refine (hBf _).mono ?_; rintro e w7 ⟨rfl, HB7⟩; exact ⟨rfl, stq hb HB7⟩))))
                            try simp only [Db2, Di, Dl, hllb]
                            repeat (go_big_quiet_step ((intro hb; first | rfl | (refine (hMy _).mono ?_; rintro e w7 ⟨rfl, HB7⟩; exact ⟨rfl, stq hb HB7⟩) | (refine (hBf _).mono ?_; rintro e w7 ⟨rfl, HB7⟩; exact ⟨rfl, stq hb HB7⟩))))
                            try simp only [Db2, Di, Dl, hllb]
                            repeat (go_big_quiet_step ((intro hb; first | rfl | (refine (hMy _).mono ?_; rintro e w7 ⟨rfl, HB7⟩; exact ⟨rfl, stq hb HB7⟩) | (refine (hBf _).mono ?_; rintro e w7 ⟨rfl, HB7⟩; exact ⟨rfl, stq hb HB7⟩))))
                            try simp only [Db2, Di, Dl, hllb]
                            repeat (go_big_quiet_step ((intro hb; first | rfl | (refine (hMy _).mono ?_; rintro e w7 ⟨rfl, HB7⟩; exact ⟨rfl, stq hb HB7⟩) | (refine (hBf _).mono ?_; rintro e w7 ⟨rfl, HB7⟩; exact ⟨rfl, stq hb HB7⟩))))
                            refine quiet_loadW (by rfl) 39 _ rfl ⟨wr.heap.size, 0, none⟩ rfl (mbv y) Fy ?_
                            simp only [Act.put, List.setIfInBounds_toArray, List.set_cons_zero, List.set_cons_succ]
                            repeat (go_big_quiet_step ((intro hb; first | rfl | (refine (hMy _).mono ?_; rintro e w7 ⟨rfl, HB7⟩; exact ⟨rfl, stq hb HB7⟩) | (refine (hBf _).mono ?_; rintro e w7 ⟨rfl, HB7⟩; exact ⟨rfl, stq hb HB7⟩))))
                            try simp only [Db2, Di, Dl, hllb]
                            repeat (go_big_quiet_step ((intro hb; first | rfl | (refine (hMy _).mono ?_; rintro e w7 ⟨rfl, HB7⟩; exact ⟨rfl, stq hb HB7⟩) | (refine (hBf _).mono ?_; rintro e w7 ⟨rfl, HB7⟩; exact ⟨rfl, stq hb HB7⟩))))
                            try simp only [Db2, Di, Dl, hllb]
                            repeat (go_big_quiet_step ((intro hb; first | rfl | (refine (hMy _).mono ?_; rintro e w7 ⟨rfl, HB7⟩; exact ⟨rfl, stq hb HB7⟩) | (refine (hBf _).mono ?_; rintro e w7 ⟨rfl, HB7⟩; exact ⟨rfl, stq hb HB7⟩))))
                            try simp only [Db2, Di, Dl, hllb]
                            repeat (go_big_quiet_step ((intro hb; first | rfl | (refine (hMy _).mono ?_; rintro e w7 ⟨rfl, HB7⟩; exact ⟨rfl, stq hb HB7⟩) | (refine (hBf _).mono ?_; rintro e w7 ⟨rfl, HB7⟩; exact ⟨rfl, stq hb HB7⟩))))
                            refine quiet_loadW (by rfl) 3 _ rfl ⟨wr.heap.size, 0, none⟩ rfl (.int .i64 y.1) Fy0 ?_
                            simp only [Act.put, List.setIfInBounds_toArray, List.set_cons_zero, List.set_cons_succ]
                            repeat (go_big_quiet_step ((intro hb; first | rfl | (refine (hMy _).mono ?_; rintro e w7 ⟨rfl, HB7⟩; exact ⟨rfl, stq hb HB7⟩) | (refine (hBf _).mono ?_; rintro e w7 ⟨rfl, HB7⟩; exact ⟨rfl, stq hb HB7⟩))))
                            try simp only [Db2, Di, Dl, hllb]
                            repeat (go_big_quiet_step ((intro hb; first | rfl | (refine (hMy _).mono ?_; rintro e w7 ⟨rfl, HB7⟩; exact ⟨rfl, stq hb HB7⟩) | (refine (hBf _).mono ?_; rintro e w7 ⟨rfl, HB7⟩; exact ⟨rfl, stq hb HB7⟩))))
                            try simp only [Db2, Di, Dl, hllb]
                            repeat (go_big_quiet_step ((intro hb; first | rfl | (refine (hMy _).mono ?_; rintro e w7 ⟨rfl, HB7⟩; exact ⟨rfl, stq hb HB7⟩) | (refine (hBf _).mono ?_; rintro e w7 ⟨rfl, HB7⟩; exact ⟨rfl, stq hb HB7⟩))))
                            try simp only [Db2, Di, Dl, hllb]
                            repeat (go_big_quiet_step ((intro hb; first | rfl | (refine (hMy _).mono ?_; rintro e w7 ⟨rfl, HB7⟩; exact ⟨rfl, stq hb HB7⟩) | (refine (hBf _).mono ?_; rintro e w7 ⟨rfl, HB7⟩; exact ⟨rfl, stq hb HB7⟩))))
                            refine quiet_loadW (by rfl) 3 _ rfl ⟨w.heap.size, 2, none⟩ rfl (.int .i64 nx) Fnx ?_
                            simp only [Act.put, List.setIfInBounds_toArray, List.set_cons_zero, List.set_cons_succ]
                            repeat (go_big_quiet_step ((intro hb; first | rfl | (refine (hMy _).mono ?_; rintro e w7 ⟨rfl, HB7⟩; exact ⟨rfl, stq hb HB7⟩) | (refine (hBf _).mono ?_; rintro e w7 ⟨rfl, HB7⟩; exact ⟨rfl, stq hb HB7⟩))))
                            try simp only [Db2, Di, Dl, hllb]
                            repeat (go_big_quiet_step ((intro hb; first | rfl | (refine (hMy _).mono ?_; rintro e w7 ⟨rfl, HB7⟩; exact ⟨rfl, stq hb HB7⟩) | (refine (hBf _).mono ?_; rintro e w7 ⟨rfl, HB7⟩; exact ⟨rfl, stq hb HB7⟩))))
                            try simp only [Db2, Di, Dl, hllb]
                            repeat (go_big_quiet_step ((intro hb; first | rfl | (refine (hMy _).mono ?_; rintro e w7 ⟨rfl, HB7⟩; exact ⟨rfl, stq hb HB7⟩) | (refine (hBf _).mono ?_; rintro e w7 ⟨rfl, HB7⟩; exact ⟨rfl, stq hb HB7⟩))))
                            try simp only [Db2, Di, Dl, hllb]
                            repeat (go_big_quiet_step ((intro hb; first | rfl | (refine (hMy _).mono ?_; rintro e w7 ⟨rfl, HB7⟩; exact ⟨rfl, stq hb HB7⟩) | (refine (hBf _).mono ?_; rintro e w7 ⟨rfl, HB7⟩; exact ⟨rfl, stq hb HB7⟩))))
                            refine quiet_loadW (by rfl) 22 _ rfl ⟨w.heap.size, 0, none⟩ rfl (.slice (some ad) n c) Fsl ?_
                            simp only [Act.put, List.setIfInBounds_toArray, List.set_cons_zero, List.set_cons_succ]
                            repeat (go_big_quiet_step ((intro hb; first | rfl | (refine (hMy _).mono ?_; rintro e w7 ⟨rfl, HB7⟩; exact ⟨rfl, stq hb HB7⟩) | (refine (hBf _).mono ?_; rintro e w7 ⟨rfl, HB7⟩; exact ⟨rfl, stq hb HB7⟩))))
                            try simp only [Db2, Di, Dl, hllb]
                            repeat (go_big_quiet_step ((intro hb; first | rfl | (refine (hMy _).mono ?_; rintro e w7 ⟨rfl, HB7⟩; exact ⟨rfl, stq hb HB7⟩) | (refine (hBf _).mono ?_; rintro e w7 ⟨rfl, HB7⟩; exact ⟨rfl, stq hb HB7⟩))))
                            try simp only [Db2, Di, Dl, hllb]
                            repeat (go_big_quiet_step ((intro hb; first | rfl | (refine (hMy _).mono ?_; rintro e w7 ⟨rfl, HB7⟩; exact ⟨rfl, stq hb HB7⟩) | (refine (hBf _).mono ?_; rintro e w7 ⟨rfl, HB7⟩; exact ⟨rfl, stq hb HB7⟩))))
                            try simp only [Db2, Di, Dl, hllb]
                            repeat (go_big_quiet_step ((intro hb; first | rfl | (refine (hMy _).mono ?_; rintro e w7 ⟨rfl, HB7⟩; exact ⟨rfl, stq hb HB7⟩) | (refine (hBf _).mono ?_; rintro e w7 ⟨rfl, HB7⟩; exact ⟨rfl, stq hb HB7⟩))))
                            refine quiet_loadW (by rfl) 39 _ rfl (ad.add (p * 5)) rfl (mbv x) Fx ?_
                            simp only [Act.put, List.setIfInBounds_toArray, List.set_cons_zero, List.set_cons_succ]
                            repeat (go_big_quiet_step ((intro hb; first | rfl | (refine (hMy _).mono ?_; rintro e w7 ⟨rfl, HB7⟩; exact ⟨rfl, stq hb HB7⟩) | (refine (hBf _).mono ?_; rintro e w7 ⟨rfl, HB7⟩; exact ⟨rfl, stq hb HB7⟩))))
                            try simp only [Db2, Di, Dl, hllb]
                            repeat (go_big_quiet_step ((intro hb; first | rfl | (refine (hMy _).mono ?_; rintro e w7 ⟨rfl, HB7⟩; exact ⟨rfl, stq hb HB7⟩) | (refine (hBf _).mono ?_; rintro e w7 ⟨rfl, HB7⟩; exact ⟨rfl, stq hb HB7⟩))))
                            try simp only [Db2, Di, Dl, hllb]
                            repeat (go_big_quiet_step ((intro hb; first | rfl | (refine (hMy _).mono ?_; rintro e w7 ⟨rfl, HB7⟩; exact ⟨rfl, stq hb HB7⟩) | (refine (hBf _).mono ?_; rintro e w7 ⟨rfl, HB7⟩; exact ⟨rfl, stq hb HB7⟩))))
                            try simp only [Db2, Di, Dl, hllb]
                            repeat (go_big_quiet_step ((intro hb; first | rfl | (refine (hMy _).mono ?_; rintro e w7 ⟨rfl, HB7⟩; exact ⟨rfl, stq hb HB7⟩) | (refine (hBf _).mono ?_; rintro e w7 ⟨rfl, HB7⟩; exact ⟨rfl, stq hb HB7⟩))))
                            refine quiet_loadW (by rfl) 39 _ rfl ⟨wr.heap.size, 0, none⟩ rfl (mbv y) Fy ?_
                            simp only [Act.put, List.setIfInBounds_toArray, List.set_cons_zero, List.set_cons_succ]
                            repeat (go_big_quiet_step ((intro hb; first | rfl | (refine (hMy _).mono ?_; rintro e w7 ⟨rfl, HB7⟩; exact ⟨rfl, stq hb HB7⟩) | (refine (hBf _).mono ?_; rintro e w7 ⟨rfl, HB7⟩; exact ⟨rfl, stq hb HB7⟩))))
                            try simp only [Db2, Di, Dl, hllb]
                            repeat (go_big_quiet_step ((intro hb; first | rfl | (refine (hMy _).mono ?_; rintro e w7 ⟨rfl, HB7⟩; exact ⟨rfl, stq hb HB7⟩) | (refine (hBf _).mono ?_; rintro e w7 ⟨rfl, HB7⟩; exact ⟨rfl, stq hb HB7⟩))))
                            try simp only [Db2, Di, Dl, hllb]
                            repeat (go_big_quiet_step ((intro hb; first | rfl | (refine (hMy _).mono ?_; rintro e w7 ⟨rfl, HB7⟩; exact ⟨rfl, stq hb HB7⟩) | (refine (hBf _).mono ?_; rintro e w7 ⟨rfl, HB7⟩; exact ⟨rfl, stq hb HB7⟩))))
                            try simp only [Db2, Di, Dl, hllb]
                            repeat (go_big_quiet_step ((intro hb; first | rfl | (refine (hMy _).mono ?_; rintro e w7 ⟨rfl, HB7⟩; exact ⟨rfl, stq hb HB7⟩) | (refine (hBf _).mono ?_; rintro e w7 ⟨rfl, HB7⟩; exact ⟨rfl, stq hb HB7⟩))))
                            refine quiet_loadW (by rfl) 3 _ rfl ⟨wr.heap.size, 1, none⟩ rfl (.int .i64 y.2.1) Fy1 ?_
                            simp only [Act.put, List.setIfInBounds_toArray, List.set_cons_zero, List.set_cons_succ]
                            repeat (go_big_quiet_step ((intro hb; first | rfl | (refine (hMy _).mono ?_; rintro e w7 ⟨rfl, HB7⟩; exact ⟨rfl, stq hb HB7⟩) | (refine (hBf _).mono ?_; rintro e w7 ⟨rfl, HB7⟩; exact ⟨rfl, stq hb HB7⟩))))
                            try simp only [Db2, Di, Dl, hllb]
                            repeat (go_big_quiet_step ((intro hb; first | rfl | (refine (hMy _).mono ?_; rintro e w7 ⟨rfl, HB7⟩; exact ⟨rfl, stq hb HB7⟩) | (refine (hBf _).mono ?_; rintro e w7 ⟨rfl, HB7⟩; exact ⟨rfl, stq hb HB7⟩))))
                            try simp only [Db2, Di, Dl, hllb]
                            repeat (go_big_quiet_step ((intro hb; first | rfl | (refine (hMy _).mono ?_; rintro e w7 ⟨rfl, HB7⟩; exact ⟨rfl, stq hb HB7⟩) | (refine (hBf _).mono ?_; rintro e w7 ⟨rfl, HB7⟩; exact ⟨rfl, stq hb HB7⟩))))
                            try simp only [Db2, Di, Dl, hllb]
                            repeat (go_big_quiet_step ((intro hb; first | rfl | (refine (hMy _).mono ?_; rintro e w7 ⟨rfl, HB7⟩; exact ⟨rfl, stq hb HB7⟩) | (refine (hBf _).mono ?_; rintro e w7 ⟨rfl, HB7⟩; exact ⟨rfl, stq hb HB7⟩))))
                            refine quiet_loadW (by rfl) 22 _ rfl ⟨w.heap.size, 0, none⟩ rfl (.slice (some ad) n c) Fsl ?_
                            simp only [Act.put, List.setIfInBounds_toArray, List.set_cons_zero, List.set_cons_succ]
                            repeat (go_big_quiet_step ((intro hb; first | rfl | (refine (hMy _).mono ?_; rintro e w7 ⟨rfl, HB7⟩; exact ⟨rfl, stq hb HB7⟩) | (refine (hBf _).mono ?_; rintro e w7 ⟨rfl, HB7⟩; exact ⟨rfl, stq hb HB7⟩))))
                            try simp only [Db2, Di, Dl, hllb]
                            repeat (go_big_quiet_step ((intro hb; first | rfl | (refine (hMy _).mono ?_; rintro e w7 ⟨rfl, HB7⟩; exact ⟨rfl, stq hb HB7⟩) | (refine (hBf _).mono ?_; rintro e w7 ⟨rfl, HB7⟩; exact ⟨rfl, stq hb HB7⟩))))
                            try simp only [Db2, Di, Dl, hllb]
                            repeat (go_big_quiet_step ((intro hb; first | rfl | (refine (hMy _).mono ?_; rintro e w7 ⟨rfl, HB7⟩; exact ⟨rfl, stq hb HB7⟩) | (refine (hBf _).mono ?_; rintro e w7 ⟨rfl, HB7⟩; exact ⟨rfl, stq hb HB7⟩))))
                            try simp only [Db2, Di, Dl, hllb]
                            repeat (go_big_quiet_step ((intro hb; first | rfl | (refine (hMy _).mono ?_; rintro e w7 ⟨rfl, HB7⟩; exact ⟨rfl, stq hb HB7⟩) | (refine (hBf _).mono ?_; rintro e w7 ⟨rfl, HB7⟩; exact ⟨rfl, stq hb HB7⟩))))
                            refine quiet_loadW (by rfl) 3 _ rfl ⟨(ad.add (p * 5)).block, (ad.add (p * 5)).off + 1, none⟩ rfl (.int .i64 x.2.1) Fx1 ?_
                            simp only [Act.put, List.setIfInBounds_toArray, List.set_cons_zero, List.set_cons_succ]
                            repeat (go_big_quiet_step ((intro hb; first | rfl | (refine (hMy _).mono ?_; rintro e w7 ⟨rfl, HB7⟩; exact ⟨rfl, stq hb HB7⟩) | (refine (hBf _).mono ?_; rintro e w7 ⟨rfl, HB7⟩; exact ⟨rfl, stq hb HB7⟩))))
                            try simp only [Db2, Di, Dl, hllb]
                            repeat (go_big_quiet_step ((intro hb; first | rfl | (refine (hMy _).mono ?_; rintro e w7 ⟨rfl, HB7⟩; exact ⟨rfl, stq hb HB7⟩) | (refine (hBf _).mono ?_; rintro e w7 ⟨rfl, HB7⟩; exact ⟨rfl, stq hb HB7⟩))))
                            try simp only [Db2, Di, Dl, hllb]
                            repeat (go_big_quiet_step ((intro hb; first | rfl | (refine (hMy _).mono ?_; rintro e w7 ⟨rfl, HB7⟩; exact ⟨rfl, stq hb HB7⟩) | (refine (hBf _).mono ?_; rintro e w7 ⟨rfl, HB7⟩; exact ⟨rfl, stq hb HB7⟩))))
                            try simp only [Db2, Di, Dl, hllb]
                            repeat (go_big_quiet_step ((intro hb; first | rfl | (refine (hMy _).mono ?_; rintro e w7 ⟨rfl, HB7⟩; exact ⟨rfl, stq hb HB7⟩) | (refine (hBf _).mono ?_; rintro e w7 ⟨rfl, HB7⟩; exact ⟨rfl, stq hb HB7⟩))))
                            refine quiet_loadW (by rfl) 3 _ rfl ⟨wr.heap.size, 1, none⟩ rfl (.int .i64 y.2.1) Fy1 ?_
                            simp only [Act.put, List.setIfInBounds_toArray, List.set_cons_zero, List.set_cons_succ]
                            repeat (go_big_quiet_step ((intro hb; first | rfl | (refine (hMy _).mono ?_; rintro e w7 ⟨rfl, HB7⟩; exact ⟨rfl, stq hb HB7⟩) | (refine (hBf _).mono ?_; rintro e w7 ⟨rfl, HB7⟩; exact ⟨rfl, stq hb HB7⟩))))
                            try simp only [Db2, Di, Dl, hllb]
                            repeat (go_big_quiet_step ((intro hb; first | rfl | (refine (hMy _).mono ?_; rintro e w7 ⟨rfl, HB7⟩; exact ⟨rfl, stq hb HB7⟩) | (refine (hBf _).mono ?_; rintro e w7 ⟨rfl, HB7⟩; exact ⟨rfl, stq hb HB7⟩))))
                            try simp only [Db2, Di, Dl, hllb]
                            repeat (go_big_quiet_step ((intro hb; first | rfl | (refine (hMy _).mono ?_; rintro e w7 ⟨rfl, HB7⟩; exact ⟨rfl, stq hb HB7⟩) | (refine (hBf _).mono ?_; rintro e w7 ⟨rfl, HB7⟩; exact ⟨rfl, stq hb HB7⟩))))
                            try simp only [Db2, Di, Dl, hllb]
                            repeat (go_big_quiet_step ((intro hb; first | rfl | (refine (hMy _).mono ?_; rintro e w7 ⟨rfl, HB7⟩; exact ⟨rfl, stq hb HB7⟩) | (refine (hBf _).mono ?_; rintro e w7 ⟨rfl, HB7⟩; exact ⟨rfl, stq hb HB7⟩))))
                            refine wpQuiet_nil ?_
                            intro wq HCq
                            have Cq := stq C1 HCq
                            have Tq := T1.below HCq
                            have Mq := M1.below HCq
                            clear Fy Fy0 Fy1 Fy3 Fnx Fsl
                            go_wp2
                            go_loopw [5] (fun jv wz => ∃ j : Nat, j ≤ i ∧ jv = .int .i64 (j : Int) ∧ (∀ t, t < j → ¬ (l.getD t zMet).1 = y.1) ∧ Below wq.heap.size wq wz) (fun jv _ => i - (intOf jv).toNat)
                            case atStart => exact ⟨0, Nat.zero_le _, rfl, fun t h => absurd h (Nat.not_lt_zero _), Below.refl _ _⟩
                            case round =>
                              obtain ⟨j, hj, rfl, hno, HBj⟩ := hrel
                              have HNO := hide hno
                              clear hno
                              have Cz := stq Cq HBj
                              by_cases hji : j < i
                              · have hjii : (j : Int) < (i : Int) := Int.ofNat_lt.2 hji
                                have hjn : j < n := Nat.lt_trans hji hlt
                                have hjni : (j : Int) < (n : Int) := Int.ofNat_lt.2 hjn
                                obtain ⟨hw5, hw6⟩ := idx_w i j hji (by omega)
                                have Tz := Tq.below HBj
                                have Mz := Mq.below HBj
                                obtain ⟨tz0, tz1, tz2⟩ := Tz.read
                                obtain ⟨mz0, mz1, mz2, mz3, mz4⟩ := Mz.read
                                obtain ⟨ad', had, u0, u1, u2, u3, u4⟩ := RdM.at5 (hr.below Cz) j (by rw [HN.out]; exact hjn)
                                injection had with had
                                subst had
                                obtain ⟨u, hu⟩ : ∃ u, l.getD j zMet = u := ⟨_, rfl⟩
                                rw [hu] at u0 u1 u2 u3 u4
                                have HU := hide hu
                                clear hu
                                by_cases he : u.1 = y.1
                                · have heb : (u.1 == y.1) = true := beq_iff_eq.2 he
                                  have hz9 : z = 9 := by
                                    rw [← HZ.out]
                                    refine HCF.out i (by rw [HN.out]; exact hlt) ?_
                                    have hs : seenB l i y.1 = true := (seenB_iff l i y.1).2 ⟨j, hji, by rw [HU.out]; exact he.symm⟩
                                    rw [HVT.out, okM, HOK.out, HG.out, hs]
                                    simp
                                  clear he
                                  go_wp2
                                  go_still (by kernel_rfl)
                                  go_wp2
                                  go_ret
                                  exact ⟨by first | (rw [hz9]; rfl) | rfl, Cz.drew⟩
                                · have heb : (u.1 == y.1) = false := beq_eq_false_iff_ne.2 he
                                  have HE := hide he
                                  clear he
                                  go_wp2
                                  go_still (by kernel_rfl)
                                  go_wp2
                                  go_roundw
                                  case rel => exact ⟨j + 1, hji, by go_num, ne_next l j y.1 HNO.out (by rw [HU.out]; exact HE.out), HBj.drew⟩
                                  case measure => first | exact idx_m i j hji | exact idx_m2 i j hji | exact idx_m3 i j hji hw5
                              · obtain rfl : j = i := Nat.le_antisymm hj (Nat.not_lt.1 hji)
                                have hok2 : okM nx l true (j + 1) = true := by
                                  have hs := seenB_not l j y.1 HNO.out
                                  rw [okM, HOK.out, HG.out, hs, HB1.out, decide_eq_true hb2]
                                  rw [HNX.out, decide_eq_true HLL.out]; simp
                                have HOK2 := hide hok2
                                clear hok2
                                go_wp2
                                go_roundw
                                case rel => exact ⟨j + 1, hlt, by go_num, HOK2.out, Tq.below HBj, Cz⟩
                                case measure => first | exact idx_m n j hlt | exact idx_m2 n j hlt | exact idx_m3 n j hlt hw1
                  · have hb2' : nx ≤ y.1 := Int.not_lt.1 hb2
                    have Db2 : decide (nx ≤ y.1) = true := decide_eq_true hb2'
                    have hz9 : z = 9 := by
                      rw [← HZ.out]
                      refine HCF.out i (by rw [HN.out]; exact hlt) ?_
                      rw [HVT.out, okM, HOK.out, HG.out]
                      simp [HB1.out, hb2]
                    go_wp2
                    generalize (wr.alloc (mro y)) = W1 at *
                    refine wp_region_below W1.heap.size W1 (Below.refl _ _) (by kernel_rfl) (by kernel_rfl) ?_
                    repeat (go_big_quiet_step ((intro hb; first | rfl | (refine (hMy _).mono ?_; rintro e w7 ⟨rfl, HB7⟩; exact ⟨rfl, stq hb HB7⟩) | (refine (hBf _).mono ?_; rintro e w7 ⟨rfl, HB7⟩; exact ⟨rfl, stq hb HB7⟩))))
                    try simp only [Db2]
                    repeat (go_big_quiet_step ((intro hb; first | rfl | (refine (hMy _).mono ?_; rintro e w7 ⟨rfl, HB7⟩; exact ⟨rfl, stq hb HB7⟩) | (refine (hBf _).mono ?_; rintro e w7 ⟨rfl, HB7⟩; exact ⟨rfl, stq hb HB7⟩))))
                    try simp only [Db2]
                    repeat (go_big_quiet_step ((intro hb; first | rfl | (refine (hMy _).mono ?_; rintro e w7 ⟨rfl, HB7⟩; exact ⟨rfl, stq hb HB7⟩) | (refine (hBf _).mono ?_; rintro e w7 ⟨rfl, HB7⟩; exact ⟨rfl, stq hb HB7⟩))))
                    try simp only [Db2]
                    repeat (go_big_quiet_step ((intro hb; first | rfl | (refine (hMy _).mono ?_; rintro e w7 ⟨rfl, HB7⟩; exact ⟨rfl, stq hb HB7⟩) | (refine (hBf _).mono ?_; rintro e w7 ⟨rfl, HB7⟩; exact ⟨rfl, stq hb HB7⟩))))
                    refine quiet_loadW (by rfl) 39 _ rfl ⟨wr.heap.size, 0, none⟩ rfl (mbv y) Fy ?_
                    simp only [Act.put, List.setIfInBounds_toArray, List.set_cons_zero, List.set_cons_succ]
                    repeat (go_big_quiet_step ((intro hb; first | rfl | (refine (hMy _).mono ?_; rintro e w7 ⟨rfl, HB7⟩; exact ⟨rfl, stq hb HB7⟩) | (refine (hBf _).mono ?_; rintro e w7 ⟨rfl, HB7⟩; exact ⟨rfl, stq hb HB7⟩))))
                    try simp only [Db2]
                    repeat (go_big_quiet_step ((intro hb; first | rfl | (refine (hMy _).mono ?_; rintro e w7 ⟨rfl, HB7⟩; exact ⟨rfl, stq hb HB7⟩) | (refine (hBf _).mono ?_; rintro e w7 ⟨rfl, HB7⟩; exact ⟨rfl, stq hb HB7⟩))))
                    try simp only [Db2]
                    repeat (go_big_quiet_step ((intro hb; first | rfl | (refine (hMy _).mono ?_; rintro e w7 ⟨rfl, HB7⟩; exact ⟨rfl, stq hb HB7⟩) | (refine (hBf _).mono ?_; rintro e w7 ⟨rfl, HB7⟩; exact ⟨rfl, stq hb HB7⟩))))
                    try simp only [Db2]
                    repeat (go_big_quiet_step ((intro hb; first | rfl | (refine (hMy _).mono ?_; rintro e w7 ⟨rfl, HB7⟩; exact ⟨rfl, stq hb HB7⟩) | (refine (hBf _).mono ?_; rintro e w7 ⟨rfl, HB7⟩; exact ⟨rfl, stq hb HB7⟩))))
                    refine quiet_loadW (by rfl) 3 _ rfl ⟨wr.heap.size, 0, none⟩ rfl (.int .i64 y.1) Fy0 ?_
                    simp only [Act.put, List.setIfInBounds_toArray, List.set_cons_zero, List.set_cons_succ]
                    repeat (go_big_quiet_step ((intro hb; first | rfl | (refine (hMy _).mono ?_; rintro e w7 ⟨rfl, HB7⟩; exact ⟨rfl, stq hb HB7⟩) | (refine (hBf _).mono ?_; rintro e w7 ⟨rfl, HB7⟩; exact ⟨rfl, stq hb HB7⟩))))
                    try simp only [Db2]
                    repeat (go_big_quiet_step ((intro hb; first | rfl | (refine (hMy _).mono ?_; rintro e w7 ⟨rfl, HB7⟩; exact ⟨rfl, stq hb HB7⟩) | (refine (hBf _).mono ?_; rintro e w7 ⟨rfl, HB7⟩; exact ⟨rfl, stq hb HB7⟩))))
                    try simp only [Db2]
                    repeat (go_big_quiet_step ((intro hb; first | rfl | (refine (hMy _).mono ?_; rintro e w7 ⟨rfl, HB7⟩; exact ⟨rfl, stq hb HB7⟩) | (refine (hBf _).mono ?_; rintro e w7 ⟨rfl, HB7⟩; exact ⟨rfl, stq hb HB7⟩))))
                    try simp only [Db2]
                    repeat (go_big_quiet_step ((intro hb; first | rfl | (refine (hMy _).mono ?_; rintro e w7 ⟨rfl, HB7⟩; exact ⟨rfl, stq hb HB7⟩) | (refine (hBf _).mono ?_; rintro e w7 ⟨rfl, HB7⟩; exact ⟨rfl, stq hb HB7⟩))))
                    refine quiet_loadW (by rfl) 3 _ rfl ⟨w.heap.size, 2, none⟩ rfl (.int .i64 nx) Fnx ?_
                    simp only [Act.put, List.setIfInBounds_toArray, List.set_cons_zero, List.set_cons_succ]
                    repeat (go_big_quiet_step ((intro hb; first | rfl | (refine (hMy _).mono ?_; rintro e w7 ⟨rfl, HB7⟩; exact ⟨rfl, stq hb HB7⟩) | (refine (hBf _).mono ?_; rintro e w7 ⟨rfl, HB7⟩; exact ⟨rfl, stq hb HB7⟩))))
                    try simp only [Db2]
                    repeat (go_big_quiet_step ((intro hb; first | rfl | (refine (hMy _).mono ?_; rintro e w7 ⟨rfl, HB7⟩; exact ⟨rfl, stq hb HB7⟩) | (refine (hBf _).mono ?_; rintro e w7 ⟨rfl, HB7⟩; exact ⟨rfl, stq hb HB7⟩))))
                    try simp only [Db2]
                    repeat (go_big_quiet_step ((intro hb; first | rfl | (refine (hMy _).mono ?_; rintro e w7 ⟨rfl, HB7⟩; exact ⟨rfl, stq hb HB7⟩) | (refine (hBf _).mono ?_; rintro e w7 ⟨rfl, HB7⟩; exact ⟨rfl, stq hb HB7⟩))))
                    try simp only [Db2]
                    repeat (go_big_quiet_step ((intro hb; first | rfl | (refine (hMy _).mono ?_; rintro e w7 ⟨rfl, HB7⟩; exact ⟨rfl, stq hb HB7⟩) | (refine (hBf _).mono ?_; rintro e w7 ⟨rfl, HB7⟩; exact ⟨rfl, stq hb HB7⟩))))
                    refine wpQuiet_nil ?_
                    intro wq HCq
                    have Cq := stq C1 HCq
                    go_wp2
                    go_ret
                    exact ⟨by first | (rw [hz9]; rfl) | rfl, Cq⟩
              · obtain rfl : i = n := Nat.le_antisymm hi (Nat.not_lt.1 hlt)
                obtain ⟨tr0, tr1, tr2⟩ := HT.read
                have hz0 : z = 0 := by rw [← HZ.out, HCH.out, HVT.out, HN.out, HOK.out]; rfl
                clear hr
                go_wp2
                go_ret
                exact ⟨by rw [hz0]; rfl, HB⟩
          · have d4 : 1099511627776 < seq := Int.not_le.1 c4
            have hz9 : z = 9 := by rw [← HZ.out]; exact HCB.out (by rw [HVK.out]; simp [c4])
            clear hr
            go_enter Try.func12, Try.ntmps12
            go_wp2
            go_ret
            exact ⟨by first | (rw [hz9]; rfl) | rfl, b0⟩
        · have d3 : seq < 0 := Int.not_le.1 c3
          have hz9 : z = 9 := by rw [← HZ.out]; exact HCB.out (by rw [HVK.out]; simp [c3])
          clear hr
          go_enter Try.func12, Try.ntmps12
          go_wp2
          go_ret
          exact ⟨by first | (rw [hz9]; rfl) | rfl, b0⟩
      · have d2 : 2147483647 < nx := Int.not_le.1 c2
        have hz9 : z = 9 := by rw [← HZ.out]; exact HCB.out (by rw [HVK.out]; simp [c2])
        clear hr
        go_enter Try.func12, Try.ntmps12
        go_wp2
        go_ret
        exact ⟨by first | (rw [hz9]; rfl) | rfl, b0⟩
    · have d1 : nx < 1 := Int.not_le.1 c1
      have hz9 : z = 9 := by rw [← HZ.out]; exact HCB.out (by rw [HVK.out]; simp [c1])
      clear hr
      go_enter Try.func12, Try.ntmps12
      go_wp2
      go_ret
      exact ⟨by first | (rw [hz9]; rfl) | rfl, b0⟩
  · have d0 : (256 : Int) < (n : Int) := by omega
    have hz9 : z = 9 := by rw [← HZ.out]; exact HCB.out (by rw [HVK.out]; simp [c0])
    clear hr
    go_enter Try.func12, Try.ntmps12
    go_wp2
    go_ret
    exact ⟨by first | (rw [hz9]; rfl) | rfl, b0⟩
end Go.Proofs.Ytbhhnlgpbhbcmaa
end

section
/- What is chosen, plainly: it stands on its level and the next; nothing of the next is left out; each once. -/
namespace Go.Proofs.Ytbhhnlgpbhbcmaa
open Go.RowKit Go.Proofs.YtbhhnlgpbhbcmaaW.PrintWords
set_option linter.unusedVariables false

theorem chosen_iff (lv : Nat) (l : List Met) (seq nx : Int) (hz : chkM l seq nx = 0) (hf : firstF lv l) (x : Met) (hx : x ∈ l) : inL (inpG (lv : Int) l (topL lv l)) x.1 = true ↔ (x ∈ topL lv l ∨ x ∈ belG (lv : Int) l (topL lv l)) := by
  constructor
  · intro h
    obtain ⟨a, ha, he⟩ := inp_mem _ l _ _ h
    have hal : a ∈ l := by
      rcases ha with h | h
      · exact (topL_sub lv l hf a h).1
      · exact (belG_sub _ l _ a h).1
    obtain rfl : a = x := ids_one l seq nx hz a x hal hx he
    exact ha
  · intro h
    refine decide_eq_true ?_
    rw [inpG, List.mem_append, idsM, idsM, List.mem_map, List.mem_map]
    rcases h with h | h
    · exact .inl ⟨x, h, rfl⟩
    · exact .inr ⟨x, h, rfl⟩
/-- what is chosen stands on its level or the next -/
theorem whole_lev (lv : Nat) (l : List Met) (seq nx : Int) (hz : chkM l seq nx = 0) (hf : firstF lv l) (x : Met) (hx : x ∈ l) (h : inL (inpG (lv : Int) l (topL lv l)) x.1 = true) : x.2.1 = (lv : Int) ∨ x.2.1 = (lv : Int) + 1 := by
  rcases (chosen_iff lv l seq nx hz hf x hx).1 h with h | h
  · exact .inl (topL_sub lv l hf x h).2
  · exact .inr (belG_sub _ l _ x h).2
/-- of the first level all are chosen -/
theorem whole_first (lv : Nat) (l : List Met) (seq nx : Int) (hz : chkM l seq nx = 0) (hf : firstF lv l) (x : Met) (hx : x ∈ l) (h : inL (inpG (lv : Int) l (topL lv l)) x.1 = false) (h0 : x.2.1 = 0) : lv ≠ 0 := by
  rintro rfl
  have h2 := (chosen_iff 0 l seq nx hz hf x hx).2 (.inl ((atM_mem 0 l x).2 ⟨hx, h0⟩))
  rw [h2] at h
  cases h
/-- none that is left out on the next level has a key of one that is chosen above -/
theorem whole_next (lv : Nat) (l : List Met) (seq nx : Int) (hz : chkM l seq nx = 0) (hf : firstF lv l) (x o : Met) (hx : x ∈ l) (ho : o ∈ l) (h : inL (inpG (lv : Int) l (topL lv l)) x.1 = false) (hl : x.2.1 = (lv : Int) + 1) (hol : o.2.1 = (lv : Int)) (hoi : inL (inpG (lv : Int) l (topL lv l)) o.1 = true) (h1 : leB o.2.2.2.1 x.2.2.2.2 = true) : leB x.2.2.2.1 o.2.2.2.2 = false := by
  refine Bool.eq_false_iff.2 fun h2 => ?_
  have hoL : o ∈ topL lv l := by
    rcases (chosen_iff lv l seq nx hz hf o ho).1 hoi with h3 | h3
    · exact h3
    · have := (belG_sub _ l _ o h3).2
      omega
  obtain ⟨-, -, hab⟩ := may_lev o (chk_may l seq nx hz o ho)
  obtain ⟨-, -, t3⟩ := spM_bd (topL lv l) (((topL lv l).getD 0 zMet).2.2.2.1, ((topL lv l).getD 0 zMet).2.2.2.2)
  obtain ⟨u1, u2⟩ := t3 o hoL
  have hb : x ∈ belG (lv : Int) l (topL lv l) := by
    refine (toM_mem _ _ _ _).2 ⟨(atM_mem _ _ _).2 ⟨hx, hl⟩, ?_⟩
    have u1' : leB (topS (topL lv l)).1 o.2.2.2.1 = true := u1
    have u2' : leB o.2.2.2.2 (topS (topL lv l)).2 = true := u2
    rw [touchM, leB_tr (leB_tr u1' hab) u2', leB_tr h2 u2', leB_tr u1' h1]
    rfl
  have h3 := (chosen_iff lv l seq nx hz hf x hx).2 (.inr hb)
  rw [h3] at h
  cases h
theorem l_nodup (l : List Met) (seq nx : Int) (hz : chkM l seq nx = 0) : l.Nodup := by
  refine List.nodup_iff_pairwise_ne.2 (List.pairwise_iff_getElem.2 fun i j hi hj hij e => ?_)
  have h1 := (chk_facts l seq nx hz).2 j hj
  rw [goodM, Bool.and_eq_true, Bool.and_eq_true, Bool.and_eq_true] at h1
  have at_ : ∀ k (hk : k < l.length), l.getD k zMet = l[k] := fun k hk => by rw [List.getD_eq_getElem?_getD, List.getElem?_eq_getElem hk]; rfl
  have h3 : seenB l j (l.getD j zMet).1 = true := (seenB_iff l j _).2 ⟨i, hij, by rw [at_ i hi, at_ j hj, e]⟩
  have h2 := h1.2.2.1
  rw [h3] at h2
  exact absurd h2 (by decide)
theorem topL_nodup (lv : Nat) (l : List Met) (h : l.Nodup) : (topL lv l).Nodup := by
  match lv with
  | 0 => exact List.Nodup.sublist List.filter_sublist h
  | k + 1 => exact List.nodup_iff_pairwise_ne.2 (List.pairwise_singleton _ _)
theorem topL_pos (lv : Nat) (l : List Met) (h : firstF lv l) : 0 < (topL lv l).length := by
  match lv, h with
  | 0, h => exact full_pos 0 h.1 l h.2.1
  | k + 1, _ => exact Nat.succ_pos _
/-- as many tables are chosen as the plan has numbers, and there is one -/
theorem whole_count (lv : Nat) (l : List Met) (seq nx : Int) (hz : chkM l seq nx = 0) (hf : firstF lv l) : (l.filter (fun x => inL (inpG (lv : Int) l (topL lv l)) x.1)).length = (inpG (lv : Int) l (topL lv l)).length ∧ 0 < (inpG (lv : Int) l (topL lv l)).length := by
  have hn := l_nodup l seq nx hz
  have n1 : (l.filter (fun x => inL (inpG (lv : Int) l (topL lv l)) x.1)).Nodup := List.Nodup.sublist List.filter_sublist hn
  have n2 : (topL lv l ++ belG (lv : Int) l (topL lv l)).Nodup := by
    refine List.nodup_append.2 ⟨topL_nodup lv l hn, ?_, fun a ha b hb e => ?_⟩
    · exact List.Nodup.sublist (List.filter_sublist.trans List.filter_sublist) hn
    · have h1 := (topL_sub lv l hf a ha).2
      have h2 := (belG_sub _ l _ b hb).2
      rw [e] at h1
      omega
  have hp := (List.perm_ext_iff_of_nodup n1 n2).2 (fun a => by
    rw [List.mem_filter, List.mem_append]
    constructor
    · rintro ⟨h1, h2⟩
      exact (chosen_iff lv l seq nx hz hf a h1).1 h2
    · intro h
      have hal : a ∈ l := by
        rcases h with h | h
        · exact (topL_sub lv l hf a h).1
        · exact (belG_sub _ l _ a h).1
      exact ⟨hal, (chosen_iff lv l seq nx hz hf a hal).2 h⟩)
  have hl : (inpG (lv : Int) l (topL lv l)).length = (topL lv l).length + (belG (lv : Int) l (topL lv l)).length := by
    rw [inpG, List.length_append, ids_len, ids_len]
  refine ⟨by rw [hp.length_eq, List.length_append, hl], ?_⟩
  have := topL_pos lv l hf
  omega
end Go.Proofs.Ytbhhnlgpbhbcmaa
end

section
/- The reference's tables of a level, how many versions they hold, which levels are full, which tables a span touches, which is chosen. -/
namespace Go.Proofs.Ytbhhnlgpbhbcmaa
open Go.RowKit Go.Proofs.YtbhhnlgpbhbcmaaW.PrintWords
set_option linter.unusedVariables false

abbrev OwR := Ow kMet 39
theorem info_metr : (Try.prog.info? 39).map (fun i => (i.zero, i.size, i.bytes)) = some (some (.agg #[.int .i64 0, .int .i64 0, .int .i64 0, .string ByteArray.empty, .string ByteArray.empty]), 5, 56) := by kernel_rfl
section
variable {ops : Array Oper} {rest : List Oper} {o : Oper} {a : Act} {Q : Exit → Act → World → Prop} {K : Act → World → Prop}
theorem app_metr {w0 W : World} (base : Nat) (hgd : o.guard = none) (s x : Operand)
    (ho : o.op = .call { callee := .builtin .append, args := #[s, x], argTypes := #[22, 22] })
    (v : Value) (xs : List Met) (c : Met) (hs : a.eval s = v) (hx : a.eval x = .slice (some ⟨W.heap.size, 0, none⟩) 1 1)
    (HO : OwR W base v xs) (HB : Below base w0 W) (hbase : base ≤ W.heap.size) (hl : (xs.length + 1) * 56 ≤ 140737488355328)
    (h : ∀ v1 w1, OwR w1 base v1 (xs ++ [c]) → Below base w0 w1 → W.grownBy w1 v.ownBlock → (v1.ownBlock = v.ownBlock ∨ ∃ b, v1.ownBlock = some b ∧ W.heap.size ≤ b) → wpList Try.prog ops Q rest (a.put o.dst v1) w1) :
    wpList Try.prog ops Q (o :: rest) a (W.alloc (mro c)) :=
  app_ow kMet base hgd s x 22 39 _ 56 ho Try.underlying22 info_metr rfl (by decide) (by decide) v xs c [.int .i64 c.1, .int .i64 c.2.1, .int .i64 c.2.2.1, .string c.2.2.2.1, .string c.2.2.2.2] hs hx (kMet_M _ _ _ _) HO HB hbase hl h
end
set_option maxRecDepth 100000 in
set_option maxHeartbeats 1600000 in
theorem rAt_any (A : Option Addr) (c n : Nat) (seq nx lv : Int) (l : List Met) (w : World) (hn : l.length = n) (hr : RdM w A c l) (hz : chkM l seq nx = 0) :
    Calls Try.prog 50 #[verV A n c seq nx, .int .i64 lv] w fun e w' => ∃ v, e = .returned (.tuple #[v, .int .i64 0]) ∧ OwR w' w.heap.size v (atM lv l) ∧ Below w.heap.size w w' := by
  have b1 := below_alloc w (verR A n c seq nx)
  have T1 : Tr (w.alloc (verR A n c seq nx)) w.heap.size A n c seq nx := heap_alloc_new w (verR A n c seq nx)
  obtain ⟨t0, t1, t2⟩ := T1.read
  have rr := hr.below b1
  have hn256 : n ≤ 256 := by rw [← hn]; exact (chk_facts l seq nx hz).1
  have hCk := fun W (h : RdM W A c l) => rcheck_any A c n seq nx l W hn h (by omega)
  rw [hz] at hCk
  have HN := hide hn
  clear hz hr hn
  go_enter Try.func50, Try.ntmps50
  go_wp2_with (first | (go_at_call 12; (with_reducible refine (hCk _ rr).mono ?_); rintro e w1 ⟨rfl, HB1⟩; have r1 := rr.below HB1; have C1 := stq b1 HB1; have T2 := T1.below HB1; obtain ⟨t10, t11, t12⟩ := T2.read))
  go_loopw [6, 7] (fun v iv wr => ∃ k : Nat, k ≤ n ∧ iv = .int .i64 (k : Int) ∧ OwR wr w1.heap.size v (atM lv (l.take k)) ∧ Below w1.heap.size w1 wr) (fun v iv _ => n - (intOf iv).toNat)
  case atStart => exact ⟨0, Nat.zero_le _, rfl, Ow.zero _ _ _ _, Below.refl _ _⟩
  case round =>
    obtain ⟨k, hk, rfl, HO, HB⟩ := hrel
    have T3 := T2.below HB
    obtain ⟨t30, t31, t32⟩ := T3.read
    by_cases hlt : k < n
    · have hlti : (k : Int) < (n : Int) := Int.ofNat_lt.2 hlt
      obtain ⟨hw1, hw2⟩ := idx_w n k hlt (by omega)
      obtain ⟨ad, rfl, x0, x1, x2, x3, x4⟩ := RdM.at5 (r1.below HB) k (by rw [HN.out]; exact hlt)
      have hnx := at_next lv l k (by rw [HN.out]; exact hlt)
      have hlen : ((atM lv (l.take k)).length + 1) * 56 ≤ 140737488355328 := by have := atM_len lv (l.take k); rw [List.length_take] at this; omega
      obtain ⟨y, hy⟩ : ∃ y, l.getD k zMet = y := ⟨_, rfl⟩
      rw [hy] at x0 x1 x2 x3 x4 hnx
      have HNX := hide hnx
      generalize atM lv (l.take k) = xs at *
      clear hy hnx
      by_cases hyl : y.2.1 = lv
      · have hb : (y.2.1 == lv) = true := beq_iff_eq.2 hyl
        have HNX2 : Hid (atM lv (l.take (k + 1)) = xs ++ [y]) := hide (by rw [HNX.out, if_pos hyl])
        clear hyl
        go_wp2_with (first | (at_builtin; refine app_metr (w0 := w1) w1.heap.size rfl (.tmp 26) (.tmp 32) rfl u6 xs y rfl rfl HO HB HB.size hlen ?_; intro v1 w2 HO2 HB2 hg hat))
        go_roundw
        case rel => exact ⟨k + 1, hlt, by go_num, by rw [HNX2.out]; exact HO2, HB2⟩
        case measure => first | exact idx_m n k hlt | exact idx_m2 n k hlt | exact idx_m3 n k hlt hw1
      · have hb : (y.2.1 == lv) = false := beq_eq_false_iff_ne.2 hyl
        have HNX2 : Hid (atM lv (l.take (k + 1)) = xs) := hide (by rw [HNX.out, if_neg hyl, List.append_nil])
        clear hyl
        go_wp2
        go_roundw
        case rel => exact ⟨k + 1, hlt, by go_num, by rw [HNX2.out]; exact HO, HB⟩
        case measure => first | exact idx_m n k hlt | exact idx_m2 n k hlt | exact idx_m3 n k hlt hw1
    · obtain rfl : k = n := Nat.le_antisymm hk (Nat.not_lt.1 hlt)
      rw [← HN.out, List.take_length] at HO
      go_wp2
      go_ret2
      exact ⟨_, rfl, HO.lower C1.size, C1.trans (HB.mono C1.size)⟩
set_option maxRecDepth 100000 in
set_option maxHeartbeats 1600000 in
theorem rat_any (A : Option Addr) (c n : Nat) (seq nx lv : Int) (l : List Met) (w : World) (hn : l.length = n) (hr : RdM w A c l) (hz : chkM l seq nx = 0) :
    Calls Try.prog 37 #[verV A n c seq nx, .int .i64 lv] w fun e w' => ∃ A' m' c', e = .returned (.slice A' m' c') ∧ (atM lv l).length = m' ∧ OwR w' w.heap.size (.slice A' m' c') (atM lv l) ∧ Below w.heap.size w w' := by
  have b1 := below_alloc w (verR A n c seq nx)
  have T1 : Tr (w.alloc (verR A n c seq nx)) w.heap.size A n c seq nx := heap_alloc_new w (verR A n c seq nx)
  obtain ⟨t0, t1, t2⟩ := T1.read
  have rr := hr.below b1
  have hA := fun W (h : RdM W A c l) => rAt_any A c n seq nx lv l W hn h hz
  clear hz hr hn
  go_enter Try.func37, Try.ntmps37
  go_wp2_with (first | (go_at_call 50; (with_reducible refine (hA _ rr).mono ?_); rintro e w2 ⟨v2, rfl, O2, HB2⟩; have C2 := stq b1 HB2; obtain ⟨A2, c2, hv2, -⟩ := O2.rd; subst hv2))
  go_ret
  exact ⟨A2, _, c2, rfl, rfl, O2.lower b1.size, C2⟩
set_option maxRecDepth 100000 in
set_option maxHeartbeats 1600000 in
theorem rcount_any (A : Option Addr) (c m : Nat) (L : List Met) (w : World) (hm : L.length = m) (hr : RdM w A c L) (hcn : ∀ x ∈ L, 0 ≤ x.2.2.1 ∧ x.2.2.1 ≤ 4096) (hml : m ≤ 256) :
    Calls Try.prog 49 #[.slice A m c] w fun e w' => e = .returned (.int .i64 (sumC L)) ∧ w = w' := by
  have HM := hide hm
  have HCN := hide hcn
  have HSS : Hid (sumC (L.take m) = sumC L) := hide (by rw [← hm, List.take_length])
  clear hm hcn
  go_enter Try.func49, Try.ntmps49
  go_wp2
  go_loopw [3, 4] (fun sv iv wr => ∃ k : Nat, k ≤ m ∧ iv = .int .i64 (k : Int) ∧ sv = .int .i64 (sumC (L.take k)) ∧ wr = w) (fun sv iv _ => m - (intOf iv).toNat)
  case atStart => exact ⟨0, Nat.zero_le _, rfl, rfl, rfl⟩
  case round =>
    obtain ⟨k, hk, rfl, rfl, rfl⟩ := hrel
    by_cases hlt : k < m
    · have hlti : (k : Int) < (m : Int) := Int.ofNat_lt.2 hlt
      obtain ⟨hw1, hw2⟩ := idx_w m k hlt (by omega)
      obtain ⟨ad, rfl, x0, x1, x2, x3, x4⟩ := RdM.at5 hr k (by rw [HM.out]; exact hlt)
      obtain ⟨hw3, hw4⟩ := sum_w L k HCN.out (by rw [HM.out]; exact hlt) (by rw [HM.out]; exact hml)
      obtain ⟨y, hy⟩ : ∃ y, L.getD k zMet = y := ⟨_, rfl⟩
      rw [hy] at x0 x1 x2 x3 x4 hw3 hw4
      generalize sumC (L.take k) = s1 at *
      obtain ⟨s2, hs2⟩ : ∃ s2, sumC (L.take (k + 1)) = s2 := ⟨_, rfl⟩
      rw [hs2] at hw3 hw4
      have HS2 := hide hs2
      clear hy hs2 hr
      go_wp2
      go_roundw
      case rel => exact ⟨k + 1, hlt, by go_num, by rw [HS2.out], by first | rfl | trivial⟩
      case measure => first | exact idx_m m k hlt | exact idx_m2 m k hlt | exact idx_m3 m k hlt hw1
    · obtain rfl : k = m := Nat.le_antisymm hk (Nat.not_lt.1 hlt)
      clear hr
      go_wp2
      go_ret
      exact ⟨by rw [HSS.out]; rfl, rfl⟩
set_option maxRecDepth 100000 in
set_option maxHeartbeats 1600000 in
theorem rfull0_any (A : Option Addr) (c n : Nat) (seq nx : Int) (l : List Met) (w : World) (hn : l.length = n) (hr : RdM w A c l) (hz : chkM l seq nx = 0) :
    Calls Try.prog 35 #[verV A n c seq nx, .int .i64 0] w fun e w' => e = .returned (.bool (fullM 0 l)) ∧ Below w.heap.size w w' := by
  have b1 := below_alloc w (verR A n c seq nx)
  have T1 : Tr (w.alloc (verR A n c seq nx)) w.heap.size A n c seq nx := heap_alloc_new w (verR A n c seq nx)
  obtain ⟨t0, t1, t2⟩ := T1.read
  have rr := hr.below b1
  have hA := fun W (h : RdM W A c l) => rat_any A c n seq nx 0 l W hn h hz
  rw [show fullM 0 l = decide (4 ≤ (atM 0 l).length) from rfl]
  obtain ⟨m, hm⟩ : ∃ m, (atM 0 l).length = m := ⟨_, rfl⟩
  rw [hm]
  have HM := hide hm
  clear hm hr hz hn
  by_cases h4 : 4 ≤ m
  · have h4i : (4 : Int) ≤ (m : Int) := by omega
    rw [decide_eq_true h4]
    go_enter Try.func35, Try.ntmps35
    go_wp2_with (first | (go_at_call 37; (with_reducible refine (hA _ rr).mono ?_); rintro e w2 ⟨A2, m2, c2, rfl, hm2, O2, HB2⟩; rw [HM.out] at hm2; subst hm2))
    go_ret
    exact ⟨by first | rfl | (simp; done) | (simp; omega), stq b1 HB2⟩
  · have h4i : ¬ (4 : Int) ≤ (m : Int) := by omega
    have h4j : (m : Int) < (4 : Int) := by omega
    rw [decide_eq_false h4]
    go_enter Try.func35, Try.ntmps35
    go_wp2_with (first | (go_at_call 37; (with_reducible refine (hA _ rr).mono ?_); rintro e w2 ⟨A2, m2, c2, rfl, hm2, O2, HB2⟩; rw [HM.out] at hm2; subst hm2))
    go_ret
    exact ⟨by first | rfl | (simp; done) | (simp; omega), stq b1 HB2⟩
set_option maxRecDepth 100000 in
set_option maxHeartbeats 1600000 in
theorem rfull1_any (A : Option Addr) (c n : Nat) (seq nx : Int) (l : List Met) (w : World) (hn : l.length = n) (hr : RdM w A c l) (hz : chkM l seq nx = 0) :
    Calls Try.prog 35 #[verV A n c seq nx, .int .i64 1] w fun e w' => e = .returned (.bool (fullM 1 l)) ∧ Below w.heap.size w w' := by
  have b1 := below_alloc w (verR A n c seq nx)
  have T1 : Tr (w.alloc (verR A n c seq nx)) w.heap.size A n c seq nx := heap_alloc_new w (verR A n c seq nx)
  obtain ⟨t0, t1, t2⟩ := T1.read
  have rr := hr.below b1
  have hA := fun W (h : RdM W A c l) => rat_any A c n seq nx 1 l W hn h hz
  have hcn : ∀ x ∈ atM 1 l, 0 ≤ x.2.2.1 ∧ x.2.2.1 ≤ 4096 := fun x hx => may_cnt x (chk_may l seq nx hz x (List.mem_filter.1 hx).1)
  have hml : (atM 1 l).length ≤ 256 := Nat.le_trans (atM_len _ _) (chk_facts l seq nx hz).1
  rw [show fullM 1 l = decide (128 < sumC (atM 1 l)) from rfl]
  generalize atM 1 l = L at *
  have hCo := fun A m c W (hm : L.length = m) (h : RdM W A c L) => rcount_any A c m L W hm h hcn (by omega)
  generalize sumC L = S at *
  clear hr hz hn hcn
  by_cases hb : 128 < S
  · go_enter Try.func35, Try.ntmps35
    go_wp2_with (first | (go_at_call 37; (with_reducible refine (hA _ rr).mono ?_); rintro e w2 ⟨A2, m2, c2, rfl, hm2, O2, HB2⟩; have r2 := O2.rdl) | (go_at_call 49; (with_reducible refine (hCo _ _ _ _ hm2 r2).mono ?_); rintro e w' ⟨rfl, rfl⟩))
    go_ret
    exact ⟨by first | (rw [decide_eq_true hb]; rfl) | (rw [decide_eq_false hb]; rfl) | (simp [hb]; done) | (simp; omega), stq b1 HB2⟩
  · have hb2 : S ≤ 128 := Int.not_lt.1 hb
    go_enter Try.func35, Try.ntmps35
    go_wp2_with (first | (go_at_call 37; (with_reducible refine (hA _ rr).mono ?_); rintro e w2 ⟨A2, m2, c2, rfl, hm2, O2, HB2⟩; have r2 := O2.rdl) | (go_at_call 49; (with_reducible refine (hCo _ _ _ _ hm2 r2).mono ?_); rintro e w' ⟨rfl, rfl⟩))
    go_ret
    exact ⟨by first | (rw [decide_eq_true hb]; rfl) | (rw [decide_eq_false hb]; rfl) | (simp [hb]; done) | (simp; omega), stq b1 HB2⟩
set_option maxRecDepth 100000 in
set_option maxHeartbeats 1600000 in
theorem rfull2_any (A : Option Addr) (c n : Nat) (seq nx : Int) (l : List Met) (w : World) (hn : l.length = n) (hr : RdM w A c l) (hz : chkM l seq nx = 0) :
    Calls Try.prog 35 #[verV A n c seq nx, .int .i64 2] w fun e w' => e = .returned (.bool (fullM 2 l)) ∧ Below w.heap.size w w' := by
  have b1 := below_alloc w (verR A n c seq nx)
  have T1 : Tr (w.alloc (verR A n c seq nx)) w.heap.size A n c seq nx := heap_alloc_new w (verR A n c seq nx)
  obtain ⟨t0, t1, t2⟩ := T1.read
  have rr := hr.below b1
  have hA := fun W (h : RdM W A c l) => rat_any A c n seq nx 2 l W hn h hz
  have hcn : ∀ x ∈ atM 2 l, 0 ≤ x.2.2.1 ∧ x.2.2.1 ≤ 4096 := fun x hx => may_cnt x (chk_may l seq nx hz x (List.mem_filter.1 hx).1)
  have hml : (atM 2 l).length ≤ 256 := Nat.le_trans (atM_len _ _) (chk_facts l seq nx hz).1
  rw [show fullM 2 l = decide (512 < sumC (atM 2 l)) from rfl]
  generalize atM 2 l = L at *
  have hCo := fun A m c W (hm : L.length = m) (h : RdM W A c L) => rcount_any A c m L W hm h hcn (by omega)
  generalize sumC L = S at *
  clear hr hz hn hcn
  by_cases hb : 512 < S
  · go_enter Try.func35, Try.ntmps35
    go_wp2_with (first | (go_at_call 37; (with_reducible refine (hA _ rr).mono ?_); rintro e w2 ⟨A2, m2, c2, rfl, hm2, O2, HB2⟩; have r2 := O2.rdl) | (go_at_call 49; (with_reducible refine (hCo _ _ _ _ hm2 r2).mono ?_); rintro e w' ⟨rfl, rfl⟩))
    go_ret
    exact ⟨by first | (rw [decide_eq_true hb]; rfl) | (rw [decide_eq_false hb]; rfl) | (simp [hb]; done) | (simp; omega), stq b1 HB2⟩
  · have hb2 : S ≤ 512 := Int.not_lt.1 hb
    go_enter Try.func35, Try.ntmps35
    go_wp2_with (first | (go_at_call 37; (with_reducible refine (hA _ rr).mono ?_); rintro e w2 ⟨A2, m2, c2, rfl, hm2, O2, HB2⟩; have r2 := O2.rdl) | (go_at_call 49; (with_reducible refine (hCo _ _ _ _ hm2 r2).mono ?_); rintro e w' ⟨rfl, rfl⟩))
    go_ret
    exact ⟨by first | (rw [decide_eq_true hb]; rfl) | (rw [decide_eq_false hb]; rfl) | (simp [hb]; done) | (simp; omega), stq b1 HB2⟩
theorem rfull_any (k : Nat) (hk : k < 3) (A : Option Addr) (c n : Nat) (seq nx : Int) (l : List Met) (w : World) (hn : l.length = n) (hr : RdM w A c l) (hz : chkM l seq nx = 0) :
    Calls Try.prog 35 #[verV A n c seq nx, .int .i64 (k : Int)] w fun e w' => e = .returned (.bool (fullM k l)) ∧ Below w.heap.size w w' := by
  match k, hk with
  | 0, _ => exact rfull0_any A c n seq nx l w hn hr hz
  | 1, _ => exact rfull1_any A c n seq nx l w hn hr hz
  | 2, _ => exact rfull2_any A c n seq nx l w hn hr hz
theorem chk_nine (l : List Met) (seq nx : Int) (h : ¬ chkM l seq nx = 0) : chkM l seq nx = 9 := by
  rw [chkM] at h ⊢
  split
  · next h2 => rw [if_pos h2] at h; exact absurd rfl h
  · rfl
set_option maxRecDepth 100000 in
set_option maxHeartbeats 3200000 in
theorem rFull_any (A : Option Addr) (c n : Nat) (seq nx : Int) (l : List Met) (w : World) (hn : l.length = n) (hr : RdM w A c l) (hl : l.length * 56 ≤ 140737488351232) :
    Calls Try.prog 15 #[verV A n c seq nx] w fun e w' => ((chkM l seq nx ≠ 0 ∧ e = .returned (.tuple #[.slice none 0 0, .int .i64 (chkM l seq nx)])) ∨ (chkM l seq nx = 0 ∧ ∃ v, e = .returned (.tuple #[v, .int .i64 0]) ∧ OwI w' w.heap.size v (fullsK l 3))) ∧ Below w.heap.size w w' := by
  have b1 := below_alloc w (verR A n c seq nx)
  have T1 : Tr (w.alloc (verR A n c seq nx)) w.heap.size A n c seq nx := heap_alloc_new w (verR A n c seq nx)
  obtain ⟨t0, t1, t2⟩ := T1.read
  have rr := hr.below b1
  have hCk := fun W (h : RdM W A c l) => rcheck_any A c n seq nx l W hn h (by omega)
  by_cases hz : chkM l seq nx = 0
  · have hFu := fun k (hk : k < 3) W (h : RdM W A c l) => rfull_any k hk A c n seq nx l W hn h hz
    rw [hz] at hCk ⊢
    clear hz hr hn
    go_enter Try.func15, Try.ntmps15
    go_wp2_with (first | (go_at_call 12; (with_reducible refine (hCk _ rr).mono ?_); rintro e w1 ⟨rfl, HB1⟩; have r1 := rr.below HB1; have C1 := stq b1 HB1; have T2 := T1.below HB1; obtain ⟨t10, t11, t12⟩ := T2.read))
    go_loopw [4, 5] (fun v iv wr => ∃ k : Nat, k ≤ 3 ∧ iv = .int .i64 (k : Int) ∧ OwI wr w1.heap.size v (fullsK l k) ∧ Below w1.heap.size w1 wr) (fun v iv _ => 3 - (intOf iv).toNat)
    case atStart => exact ⟨0, Nat.zero_le _, rfl, Ow.zero _ _ _ _, Below.refl _ _⟩
    case round =>
      obtain ⟨k, hk, rfl, HO, HB⟩ := hrel
      by_cases hlt : k < 3
      · have hlti : (k : Int) < 3 := by omega
        obtain ⟨hw1, hw2⟩ := idx_w 3 k hlt (by decide)
        have T3 := T2.below HB
        have hC := hFu k hlt wr (r1.below HB)
        have hlen : ((fullsK l k).length + 1) * 8 ≤ 140737488355328 := by have := fullsK_len l k; omega
        have HNX : Hid (fullsK l (k + 1) = fullsK l k ++ (if fullM k l = true then [(k : Int)] else [])) := hide rfl
        obtain ⟨b, hb⟩ : ∃ b, fullM k l = b := ⟨_, rfl⟩
        rw [hb] at hC HNX
        generalize fullsK l k = xs at *
        clear hb hFu
        obtain ⟨t30, t31, t32⟩ := T3.read
        cases b
        · go_wp2_with (first | (go_at_call 35; (with_reducible refine hC.mono ?_); rintro e w6 ⟨rfl, HB6⟩))
          go_roundw
          case rel => exact ⟨k + 1, hlt, by go_num, by rw [HNX.out, if_neg (by decide), List.append_nil]; exact HO.below HB6, stq HB HB6⟩
          case measure => first | exact idx_m 3 k hlt | exact idx_m2 3 k hlt | exact idx_m3 3 k hlt hw1
        · go_wp2_with (first | (go_at_call 35; (with_reducible refine hC.mono ?_); rintro e w6 ⟨rfl, HB6⟩; have HO6 := HO.below HB6; have C6 := stq HB HB6) | (at_builtin; refine app_int (w0 := w1) w1.heap.size rfl (.tmp 16) (.tmp 18) rfl u4 xs (k : Int) rfl rfl HO6 C6 C6.size hlen ?_; intro v1 w7 HO7 HB7 hg hat))
          go_roundw
          case rel => exact ⟨k + 1, hlt, by go_num, by rw [HNX.out, if_pos trivial]; exact HO7, HB7⟩
          case measure => first | exact idx_m 3 k hlt | exact idx_m2 3 k hlt | exact idx_m3 3 k hlt hw1
      · obtain rfl : k = 3 := by omega
        go_wp2
        go_ret2
        exact ⟨.inr ⟨by first | rfl | trivial, _, rfl, HO.lower C1.size⟩, C1.trans (HB.mono C1.size)⟩
  · have h9 := chk_nine l seq nx hz
    rw [h9] at hCk ⊢
    clear hz h9 hr hn
    go_enter Try.func15, Try.ntmps15
    go_wp2_with (first | (go_at_call 12; (with_reducible refine (hCk _ rr).mono ?_); rintro e w1 ⟨rfl, HB1⟩; have C1 := stq b1 HB1))
    go_ret2
    exact ⟨.inl ⟨by decide, rfl⟩, C1⟩
theorem to_next (a b : ByteArray) (L : List Met) (k : Nat) (h : k < L.length) : idsM (toM a b (L.take (k + 1))) = idsM (toM a b (L.take k)) ++ (if touchM a b (L.getD k zMet) = true then [(L.getD k zMet).1] else []) := by
  rw [toM, take_next L k h, List.filter_append, idsM, idsM, List.map_append]
  congr 1
  by_cases h2 : touchM a b (L.getD k zMet) = true
  · rw [if_pos h2, List.filter_cons_of_pos (by simpa using h2)]; rfl
  · rw [if_neg h2, List.filter_cons_of_neg (by simpa using h2)]; rfl
set_option maxRecDepth 100000 in
set_option maxHeartbeats 6400000 in
theorem rTouch_any (a b : ByteArray) (A : Option Addr) (c n : Nat) (seq nx lv : Int) (l : List Met) (w : World) (hn : l.length = n) (hr : RdM w A c l) (hl : l.length * 56 ≤ 140737488351232) :
    Calls Try.prog 18 #[verV A n c seq nx, .int .i64 lv, .string a, .string b] w fun e w' => ((chkM l seq nx ≠ 0 ∧ e = .returned (.tuple #[.slice none 0 0, .int .i64 (chkM l seq nx)])) ∨ (chkM l seq nx = 0 ∧ ∃ v, e = .returned (.tuple #[v, .int .i64 0]) ∧ OwI w' w.heap.size v (idsM (toM a b (atM lv l))))) ∧ Below w.heap.size w w' := by
  have b1 := below_alloc w (verR A n c seq nx)
  have T1 : Tr (w.alloc (verR A n c seq nx)) w.heap.size A n c seq nx := heap_alloc_new w (verR A n c seq nx)
  obtain ⟨t0, t1, t2⟩ := T1.read
  have rr := hr.below b1
  have hCk := fun W (h : RdM W A c l) => rcheck_any A c n seq nx l W hn h (by omega)
  by_cases hz : chkM l seq nx = 0
  · have hA := fun W (h : RdM W A c l) => rat_any A c n seq nx lv l W hn h hz
    have hml : (atM lv l).length ≤ 256 := Nat.le_trans (atM_len _ _) (chk_facts l seq nx hz).1
    rw [hz] at hCk ⊢
    generalize atM lv l = L at *
    clear hz hr hn
    go_enter Try.func18, Try.ntmps18
    go_wp2_with (first | (go_at_call 12; (with_reducible refine (hCk _ rr).mono ?_); rintro e w1 ⟨rfl, HB1⟩; have r1 := rr.below HB1; have C1 := stq b1 HB1; have T2 := T1.below HB1; obtain ⟨t10, t11, t12⟩ := T2.read) | (go_at_call 37; (with_reducible refine (hA _ r1).mono ?_); rintro e w2 ⟨A2, m, c2, rfl, hm2, O2, HB2⟩; have r2 := O2.rdl; have C2 := stq C1 HB2))
    rw [hm2] at hml
    have HM := hide hm2
    clear hm2
    go_loopw [10, 12] (fun v iv wr => ∃ k : Nat, k ≤ m ∧ iv = .int .i64 (k : Int) ∧ OwI wr w2.heap.size v (idsM (toM a b (L.take k))) ∧ Below w2.heap.size w2 wr) (fun v iv _ => m - (intOf iv).toNat)
    case atStart => exact ⟨0, Nat.zero_le _, rfl, Ow.zero _ _ _ _, Below.refl _ _⟩
    case round =>
      obtain ⟨k, hk, rfl, HO, HB⟩ := hrel
      by_cases hlt : k < m
      · have hlti : (k : Int) < (m : Int) := Int.ofNat_lt.2 hlt
        obtain ⟨hw1, hw2⟩ := idx_w m k hlt (by omega)
        obtain ⟨ad, rfl, x0, x1, x2, x3, x4⟩ := RdM.at5 (r2.below HB) k (by rw [HM.out]; exact hlt)
        have hnx := to_next a b L k (by rw [HM.out]; exact hlt)
        have hlen : ((idsM (toM a b (L.take k))).length + 1) * 8 ≤ 140737488355328 := by have := toM_len a b (L.take k); rw [List.length_take] at this; rw [ids_len]; omega
        obtain ⟨y, hy⟩ : ∃ y, L.getD k zMet = y := ⟨_, rfl⟩
        rw [hy] at x0 x1 x2 x3 x4 hnx
        generalize idsM (toM a b (L.take k)) = xs at *
        have e0 : touchM a b y = (leB a b && (leB y.2.2.2.1 b && leB a y.2.2.2.2)) := rfl
        have l1 := le_or a b
        have l2 := le_or y.2.2.2.1 b
        have l3 : Op.bytesLess y.2.2.2.2.toList a.toList = !leB a y.2.2.2.2 := by rw [less_bl, leB, Bool.not_not]
        obtain ⟨q1, hq1⟩ : ∃ z, leB a b = z := ⟨_, rfl⟩
        obtain ⟨q2, hq2⟩ : ∃ z, leB y.2.2.2.1 b = z := ⟨_, rfl⟩
        obtain ⟨q3, hq3⟩ : ∃ z, leB a y.2.2.2.2 = z := ⟨_, rfl⟩
        rw [hq1] at l1
        rw [hq2] at l2
        rw [hq3] at l3
        rw [hq1, hq2, hq3] at e0
        rw [e0] at hnx
        have HNX := hide hnx
        clear hy hnx e0 hq1 hq2 hq3
        cases q1
        · clear l2 l3
          have HNX2 := hide (HNX.out.trans (by rw [if_neg (by simp), List.append_nil]))
          go_wp2
          go_roundw
          case rel => exact ⟨k + 1, hlt, by go_num, by rw [HNX2.out]; exact HO, HB⟩
          case measure => first | exact idx_m m k hlt | exact idx_m2 m k hlt | exact idx_m3 m k hlt hw1
        · cases q2
          · clear l3
            have HNX2 := hide (HNX.out.trans (by rw [if_neg (by simp), List.append_nil]))
            go_wp2
            go_roundw
            case rel => exact ⟨k + 1, hlt, by go_num, by rw [HNX2.out]; exact HO, HB⟩
            case measure => first | exact idx_m m k hlt | exact idx_m2 m k hlt | exact idx_m3 m k hlt hw1
          · cases q3
            · simp only [Bool.not_false] at l3
              have HNX2 := hide (HNX.out.trans (by rw [if_neg (by simp), List.append_nil]))
              go_wp2
              go_roundw
              case rel => exact ⟨k + 1, hlt, by go_num, by rw [HNX2.out]; exact HO, HB⟩
              case measure => first | exact idx_m m k hlt | exact idx_m2 m k hlt | exact idx_m3 m k hlt hw1
            · simp only [Bool.not_true] at l3
              have HNX2 := hide (HNX.out.trans (by rw [if_pos (by simp)]))
              go_wp2_with (first | (at_builtin; refine app_int (w0 := w2) w2.heap.size rfl (.tmp 46) (.tmp 52) rfl u10 xs y.1 rfl rfl HO HB HB.size hlen ?_; intro v1 w7 HO7 HB7 hg hat))
              go_roundw
              case rel => exact ⟨k + 1, hlt, by go_num, by rw [HNX2.out]; exact HO7, HB7⟩
              case measure => first | exact idx_m m k hlt | exact idx_m2 m k hlt | exact idx_m3 m k hlt hw1
      · obtain rfl : k = m := Nat.le_antisymm hk (Nat.not_lt.1 hlt)
        rw [← HM.out, List.take_length] at HO
        go_wp2
        go_ret2
        exact ⟨.inr ⟨by first | rfl | trivial, _, rfl, HO.lower C2.size⟩, C2.trans (HB.mono C2.size)⟩
  · have h9 := chk_nine l seq nx hz
    rw [h9] at hCk ⊢
    clear hz h9 hr hn
    go_enter Try.func18, Try.ntmps18
    go_wp2_with (first | (go_at_call 12; (with_reducible refine (hCk _ rr).mono ?_); rintro e w1 ⟨rfl, HB1⟩; have C1 := stq b1 HB1))
    go_ret2
    exact ⟨.inl ⟨by decide, rfl⟩, C1⟩
end Go.Proofs.Ytbhhnlgpbhbcmaa
end

section
/- The reference's choice of a level's tables. -/
namespace Go.Proofs.Ytbhhnlgpbhbcmaa
open Go.RowKit Go.Proofs.YtbhhnlgpbhbcmaaW.PrintWords
set_option linter.unusedVariables false

set_option maxRecDepth 100000 in
set_option maxHeartbeats 1600000 in
theorem rchosen0_any (A : Option Addr) (c n : Nat) (seq nx : Int) (l : List Met) (w : World) (hn : l.length = n) (hr : RdM w A c l) (hz : chkM l seq nx = 0) (hp : 0 < (atM 0 l).length) :
    Calls Try.prog 36 #[verV A n c seq nx, .int .i64 0] w fun e w' => ∃ ad m' c', e = .returned (.slice (some ad) m' c') ∧ (atM 0 l).length = m' ∧ RdM w' (some ad) c' (atM 0 l) ∧ (w.heap.size ≤ ad.block ∧ ad.block < w'.heap.size) ∧ Below w.heap.size w w' := by
  have b1 := below_alloc w (verR A n c seq nx)
  have T1 : Tr (w.alloc (verR A n c seq nx)) w.heap.size A n c seq nx := heap_alloc_new w (verR A n c seq nx)
  obtain ⟨t0, t1, t2⟩ := T1.read
  have rr := hr.below b1
  have hA := fun W (h : RdM W A c l) => rat_any A c n seq nx 0 l W hn h hz
  clear hz hr hn
  go_enter Try.func36, Try.ntmps36
  go_wp2_with (first | (go_at_call 37; (with_reducible refine (hA _ rr).mono ?_); rintro e w2 ⟨A2, m2, c2, rfl, hm2, O2, HB2⟩))
  obtain ⟨g, rfl, hg1, hg2⟩ := O2.head (by rw [← hm2]; exact hp)
  go_ret
  exact ⟨_, m2, c2, rfl, hm2, O2.rdl, ⟨Nat.le_trans b1.size hg1, hg2⟩, stq b1 HB2⟩
theorem best_pred (L : List Met) (k : Nat) (y z : Met) (hy : L.getD k zMet = y) (hz : z = bestM L (k - 1)) : bestM L (k + 1 - 1) = if z.2.2.1 < y.2.2.1 then y else z := by
  subst hy hz
  cases k with
  | zero =>
    show L.getD 0 zMet = if (L.getD 0 zMet).2.2.1 < (L.getD 0 zMet).2.2.1 then L.getD 0 zMet else L.getD 0 zMet
    rw [if_neg (by omega)]
  | succ k => rfl
theorem mid_one (L : List Met) (b : Nat) (h : b < L.length) : (L.take (b + 1)).drop b = [L.getD b zMet] := by
  rw [List.drop_take, Nat.add_sub_cancel_left, List.take_one, List.head?_drop, List.getD_eq_getElem?_getD, List.getElem?_eq_getElem h]
  rfl
set_option maxRecDepth 100000 in
set_option maxHeartbeats 3200000 in
theorem rchosenK_any (lv : Nat) (hlv : 0 < lv) (A : Option Addr) (c n : Nat) (seq nx : Int) (l : List Met) (w : World) (hn : l.length = n) (hr : RdM w A c l) (hz : chkM l seq nx = 0) (hp : 0 < (atM (lv : Int) l).length) :
    Calls Try.prog 36 #[verV A n c seq nx, .int .i64 (lv : Int)] w fun e w' => ∃ ad c', e = .returned (.slice (some ad) 1 c') ∧ RdM w' (some ad) c' [maxM (atM (lv : Int) l)] ∧ (w.heap.size ≤ ad.block ∧ ad.block < w'.heap.size) ∧ Below w.heap.size w w' := by
  have b1 := below_alloc w (verR A n c seq nx)
  have T1 : Tr (w.alloc (verR A n c seq nx)) w.heap.size A n c seq nx := heap_alloc_new w (verR A n c seq nx)
  obtain ⟨t0, t1, t2⟩ := T1.read
  have rr := hr.below b1
  have hA := fun W (h : RdM W A c l) => rat_any A c n seq nx lv l W hn h hz
  have hml : (atM (lv : Int) l).length ≤ 256 := Nat.le_trans (atM_len _ _) (chk_facts l seq nx hz).1
  have hb0 : ((lv : Int) == 0) = false := beq_eq_false_iff_ne.2 (by omega)
  have hb1 : ¬ (lv : Int) = 0 := by omega
  generalize atM (lv : Int) l = L at *
  clear hz hr hn hlv
  go_enter Try.func36, Try.ntmps36
  go_wp2_with (first | (go_at_call 37; (with_reducible refine (hA _ rr).mono ?_); rintro e w2 ⟨A2, m, c2, rfl, hm2, O2, HB2⟩; have r2 := O2.rdl; have C2 := stq b1 HB2))
  rw [hm2] at hml hp
  have hle := r2.le
  rw [hm2] at hle
  obtain ⟨g, hgA, hg1, hg2⟩ := O2.head hp
  have HGA := hide hgA
  clear hgA
  have HM := hide hm2
  clear hm2
  go_loopw [6, 7] (fun bv iv wr => ∃ k b : Nat, k ≤ m ∧ iv = .int .i64 (k : Int) ∧ bv = .int .i64 (b : Int) ∧ b < m ∧ L.getD b zMet = bestM L (k - 1) ∧ Below w2.heap.size w2 wr) (fun bv iv _ => m - (intOf iv).toNat)
  case atStart => exact ⟨0, 0, Nat.zero_le _, rfl, rfl, hp, rfl, Below.refl _ _⟩
  case round =>
    obtain ⟨k, b, hk, rfl, rfl, hb, hbest, HB⟩ := hrel
    have hbi : (b : Int) < (m : Int) := by omega
    by_cases hlt : k < m
    · have hlti : (k : Int) < (m : Int) := Int.ofNat_lt.2 hlt
      obtain ⟨hw1, hw2⟩ := idx_w m k hlt (by omega)
      obtain ⟨ad, rfl, x0, x1, x2, x3, x4⟩ := RdM.at5 (r2.below HB) k (by rw [HM.out]; exact hlt)
      obtain ⟨ad', e', z0, z1, z2, z3, z4⟩ := RdM.at5 (r2.below HB) b (by rw [HM.out]; exact hb)
      injection e' with e'
      subst e'
      obtain ⟨y, hy⟩ : ∃ y, L.getD k zMet = y := ⟨_, rfl⟩
      obtain ⟨z, hzz⟩ : ∃ y, L.getD b zMet = y := ⟨_, rfl⟩
      have HNX := hide (best_pred L k y z hy (hzz.symm.trans hbest))
      rw [hy] at x0 x1 x2 x3 x4
      rw [hzz] at z0 z1 z2 z3 z4
      have HY := hide hy
      have HZ := hide hzz
      clear hy hzz hbest x0 x1 x3 x4 z0 z1 z3 z4
      by_cases hgt : z.2.2.1 < y.2.2.1
      · go_wp2
        go_still (by kernel_rfl)
        change Exit.then _ _ _ _ wr.drew
        go_wp2
        go_roundw
        case rel => exact ⟨k + 1, k, hlt, by go_num, rfl, hlt, by rw [HNX.out, if_pos hgt, HY.out], HB.drew⟩
        case measure => first | exact idx_m m k hlt | exact idx_m2 m k hlt | exact idx_m3 m k hlt hw1
      · go_wp2
        go_still (by kernel_rfl)
        change Exit.then _ _ _ _ wr.drew
        go_wp2
        go_roundw
        case rel => exact ⟨k + 1, b, hlt, by go_num, rfl, hb, by rw [HNX.out, if_neg (Int.not_lt.2 hgt), HZ.out], HB.drew⟩
        case measure => first | exact idx_m m k hlt | exact idx_m2 m k hlt | exact idx_m3 m k hlt hw1
    · obtain rfl : k = m := Nat.le_antisymm hk (Nat.not_lt.1 hlt)
      have hgA := HGA.out
      subst hgA
      have hbw : wrap64 ((b : Int) + 1) = ((b + 1 : Nat) : Int) := by unfold wrap64; omega
      have hbw2 : IntKind.i64.wrap ((b : Int) + 1) = ((b + 1 : Nat) : Int) := by rw [IntKind.wrap_i64]; omega
      have rm := (r2.below HB).mid b (b + 1) (by omega) (by rw [HM.out]; exact hb)
      rw [mid_one L b (by rw [HM.out]; exact hb), hbest, show bestM L (k - 1) = maxM L by rw [maxM, HM.out]] at rm
      have hsl := fun W => sliceK_lohi (P := Try.prog) 22 39 Try.underlying22 (i := _) rfl 5 rfl (some ⟨g, 0, none⟩) k c2 b (b + 1) (by omega) (by omega) W
      rw [show b + 1 - b = 1 by omega] at hsl
      rw [show cutK kMet.sz (some (⟨g, 0, none⟩ : Addr)) c2 b = some ⟨g, b * 5, none⟩ from by rw [cutK, if_neg (by omega)]; show some ((⟨g, 0, none⟩ : Addr).add (b * 5)) = _; rw [add_plain]] at rm
      go_wp2
      go_ret
      exact ⟨_, _, rfl, rm, ⟨Nat.le_trans b1.size hg1, Nat.lt_of_lt_of_le hg2 HB.size⟩, C2.trans (HB.mono C2.size)⟩
theorem rchosen_any (lv : Nat) (A : Option Addr) (c n : Nat) (seq nx : Int) (l : List Met) (w : World) (hn : l.length = n) (hr : RdM w A c l) (hz : chkM l seq nx = 0) (hf : firstF lv l) :
    Calls Try.prog 36 #[verV A n c seq nx, .int .i64 (lv : Int)] w fun e w' => ∃ ad m' c', e = .returned (.slice (some ad) m' c') ∧ (topL lv l).length = m' ∧ RdM w' (some ad) c' (topL lv l) ∧ (w.heap.size ≤ ad.block ∧ ad.block < w'.heap.size) ∧ Below w.heap.size w w' := by
  cases lv with
  | zero => exact rchosen0_any A c n seq nx l w hn hr hz (full_pos 0 hf.1 l hf.2.1)
  | succ k =>
    refine (rchosenK_any (k + 1) (Nat.succ_pos _) A c n seq nx l w hn hr hz (full_pos (k + 1) hf.1 l hf.2.1)).mono ?_
    rintro e w' ⟨ad, c', rfl, r, hg, HB⟩
    exact ⟨ad, 1, c', rfl, rfl, r, hg, HB⟩
end Go.Proofs.Ytbhhnlgpbhbcmaa
end
