/- The contracts that the laws of this seat share: octets, sums, numbers, records. -/
import Derived.Test.YtefcepjffeiaoaaMgA
import Derived.RangeFuncBound
import Derived.RangeFuncCalls
import Derived.RangeFuncLeaves
import Derived.RangeFuncOwn
import Derived.RangeFuncKeeps
import Derived.RangeFuncNested
import Derived.Shelf.Abstract
import Derived.OwnWalkIn
import Derived.TacticsInMore
import Derived.LoopNIn
import Derived.LoopIn
import Derived.Laws.BitsAllLaws
import Derived.Laws.BitsLemmas
import Derived.StillTailTactics
import Derived.Lib.OwnBridge
import Derived.Lib.SlicesCompact
import Derived.Lib.SliceRun
import Derived.Deep.LoopGhost
import Derived.Deep.Draws
import Derived.Lib.SlBytesConst
import Derived.Deep.RegionHeld3
set_option linter.unusedVariables false
set_option linter.unusedSimpArgs false
section
/- Block: the search, walked. -/
namespace Go.Proofs.Ytefcepjffeiaoaa
open Go.RowKit Go.Proofs.YtefcepjffeiaoaaW.PrintWords
set_option linter.unusedVariables false

set_option maxRecDepth 100000 in
set_option maxHeartbeats 800000 in
theorem cl_any (x y : Ent) (w : World) : Calls Try.prog 90 #[ebv x, ebv y] w fun e w' => e = .returned (.int .i64 (ordN x y)) ∧ Below w.heap.size w w' := by
  obtain ⟨k1, q1, d1, v1⟩ := x
  obtain ⟨k2, q2, d2, v2⟩ := y
  have hX := Eb.new w (k1, q1, d1, v1)
  have hX2 := hX.below (below_alloc (w.alloc (ebo (k1, q1, d1, v1))) (ebo (k2, q2, d2, v2)))
  have hY := Eb.new (w.alloc (ebo (k1, q1, d1, v1))) (k2, q2, d2, v2)
  have HB := ((Below.refl w.heap.size w).alloc (Nat.le_refl _) (ebo (k1, q1, d1, v1))).alloc (below_alloc w (ebo (k1, q1, d1, v1))).size (ebo (k2, q2, d2, v2))
  go_enter Try.func90, Try.ntmps90
  go_wp2
  obtain ⟨x0, x1, -, -, -, -, -, -⟩ := hX2.read
  obtain ⟨y0, y1, -, -, -, -, -, -⟩ := hY.read
  generalize hWo : (w.alloc (ebo (k1, q1, d1, v1))).alloc (ebo (k2, q2, d2, v2)) = Wo at *
  have HWo := hide hWo
  clear hWo hX2 hY hX
  have hs1 : (w.alloc (ebo (k1, q1, d1, v1))).heap.size = w.heap.size + 1 := World.size_alloc _ _
  rw [hs1] at y0 y1
  have l0 := World.block_lt_of_cell? _ _ x0
  have l1 := World.block_lt_of_cell? _ _ y0
  have l2 := World.block_lt_of_cell? _ _ x1
  have l3 := World.block_lt_of_cell? _ _ y1
  obtain ⟨p, hp⟩ : ∃ p, cmpS k1 k2 = p := ⟨_, rfl⟩
  obtain ⟨q, hq⟩ : ∃ q, Lib.compareInt q2 q1 = q := ⟨_, rfl⟩
  have C1 := fun W => cmpS_any k1 k2 W
  have C2 := fun W => cmp_Compare_int q2 q1 W
  rw [hp] at C1
  rw [hq] at C2
  have HR : ordN (k1, q1, d1, v1) (k2, q2, d2, v2) = or2 p q := by rw [ordN, hp, hq]
  have HRR := hide HR
  clear HR hp hq
  have hd : Below w.heap.size w Wo.drew := HB.drew
  have bA := below_alloc Wo.drew (.cells #[.int .i64 p, .int .i64 q] 3)
  have r0 : (Wo.drew.alloc (.cells #[.int .i64 p, .int .i64 q] 3)).heap[Wo.drew.heap.size]? = some (.cells #[.int .i64 p, .int .i64 q] 3 (0, 0)) := heap_alloc_new _ _
  have O1 := Or_any Wo.drew.heap.size p q _ (blk_cell r0 0) (blk_cell r0 1)
  have hda := hd.alloc hd.size (.cells #[.int .i64 p, .int .i64 q] 3)
  have hS0 : Wo.drew.cell? ⟨w.heap.size, 0, none⟩ = some (.string k1) ∧ Wo.drew.cell? ⟨w.heap.size, 1, none⟩ = some (.int .i64 q1) ∧ Wo.drew.cell? ⟨w.heap.size + 1, 0, none⟩ = some (.string k2) ∧ Wo.drew.cell? ⟨w.heap.size + 1, 1, none⟩ = some (.int .i64 q2) := ⟨x0, x1, y0, y1⟩
  have hS1 : (Wo.drew.alloc (.cells #[.int .i64 p, .int .i64 q] 3)).cell? ⟨w.heap.size, 0, none⟩ = some (.string k1) ∧ (Wo.drew.alloc (.cells #[.int .i64 p, .int .i64 q] 3)).cell? ⟨w.heap.size, 1, none⟩ = some (.int .i64 q1) ∧ (Wo.drew.alloc (.cells #[.int .i64 p, .int .i64 q] 3)).cell? ⟨w.heap.size + 1, 0, none⟩ = some (.string k2) ∧ (Wo.drew.alloc (.cells #[.int .i64 p, .int .i64 q] 3)).cell? ⟨w.heap.size + 1, 1, none⟩ = some (.int .i64 q2) := ⟨(bA.cell l0).trans x0, (bA.cell l2).trans x1, (bA.cell l1).trans y0, (bA.cell l3).trans y1⟩
  go_region_held3 (fun w' => w'.cell? ⟨w.heap.size, 0, none⟩ = some (.string k1) ∧ w'.cell? ⟨w.heap.size, 1, none⟩ = some (.int .i64 q1) ∧ w'.cell? ⟨w.heap.size + 1, 0, none⟩ = some (.string k2) ∧ w'.cell? ⟨w.heap.size + 1, 1, none⟩ = some (.int .i64 q2)) (first | exact hS0 | exact hS1 | assumption) (first | (go_at_call 92; (with_reducible refine (C1 _).mono ?_); rintro e w' ⟨rfl, rfl⟩) | (go_at_call 93; (with_reducible refine (C2 _).mono ?_); rintro e w' ⟨rfl, rfl⟩) | (go_at_call 91; (refine O1.mono ?_); rintro e w' ⟨rfl, rfl⟩))
  go_wp2
  go_ret
  exact ⟨by rw [HRR.out]; rfl, hda⟩
theorem mid_facts (i j n : Nat) (h1 : i < j) (h2 : j ≤ n) (h3 : n ≤ 1000000) : ∃ s h : Nat, (i : Int) + (j : Int) = (s : Int) ∧ wrap64 (s : Int) = (s : Int) ∧ IntKind.i64.wrap (s : Int) = (s : Int) ∧ IntKind.u64.wrap (s : Int) = (s : Int) ∧ (s : Int) / 2 = (h : Int) ∧ wrap64 (h : Int) = (h : Int) ∧ IntKind.i64.wrap (h : Int) = (h : Int) ∧ IntKind.u64.wrap (h : Int) = (h : Int) ∧ i ≤ h ∧ h < j := by
  refine ⟨i + j, (i + j) / 2, by omega, ?_, ?_, ?_, by omega, ?_, ?_, ?_, by omega, by omega⟩
  · unfold wrap64; omega
  · rw [IntKind.wrap_i64]; omega
  · rw [IntKind.wrap_u64]; omega
  · unfold wrap64; omega
  · rw [IntKind.wrap_i64]; omega
  · rw [IntKind.wrap_u64]; omega
theorem ms1 (i j h : Nat) (h1 : i ≤ h) (h2 : h < j) : j - (h + 1) < j - i := by omega
theorem ms2 (i j h : Nat) (h1 : i ≤ h) (h2 : h < j) : h - i < j - i := by omega
theorem succ_facts (h n : Nat) (h1 : h < n) (h3 : n ≤ 1000000) : wrap64 ((h : Int) + 1) = ((h + 1 : Nat) : Int) ∧ IntKind.i64.wrap ((h : Int) + 1) = ((h + 1 : Nat) : Int) := ⟨by unfold wrap64; omega, by rw [IntKind.wrap_i64]; omega⟩
set_option maxRecDepth 100000 in
set_option maxHeartbeats 3200000 in
theorem Search_any (A : Option Addr) (c n : Nat) (l : List Ent) (t : Ent) (w : World) (hn : l.length = n) (hr : RdE w A c l) (ho : ordE l = 0) (hl : n ≤ 1000000) :
    Calls Try.prog 89 #[.slice A n c, ebv t, .func (.func 90) #[] #[]] w fun e w' => ∃ (i : Nat) (fb : Bool), e = .returned (.tuple #[.int .i64 (i : Int), .bool fb]) ∧ i ≤ n ∧ (∀ k, k < i → befE (l.getD k zEnt) t) ∧ (i < n → ¬ befE (l.getD i zEnt) t) ∧ Below w.heap.size w w' := by
  have HN := hide hn
  have HOO := hide ho
  have hE := Eb.new w t
  have bA := below_alloc w (ebo t)
  clear hn ho
  go_enter Try.func89, Try.ntmps89
  go_wp2
  go_loopw [9, 10] (fun iv jv wr => ∃ i j : Nat, i ≤ j ∧ j ≤ n ∧ iv = .int .i64 (i : Int) ∧ jv = .int .i64 (j : Int) ∧ (∀ k, k < i → befE (l.getD k zEnt) t) ∧ (∀ k, j ≤ k → k < n → ¬ befE (l.getD k zEnt) t) ∧ Eb wr w.heap.size t ∧ Below w.heap.size w wr) (fun iv jv _ => (intOf jv).toNat - (intOf iv).toNat)
  case atStart => exact ⟨0, n, Nat.zero_le _, Nat.le_refl _, rfl, rfl, fun k h => absurd h (Nat.not_lt_zero _), fun k h1 h2 => absurd h2 (Nat.not_lt.2 h1), hE, bA⟩
  case round =>
    obtain ⟨i, j, hij, hjn, rfl, rfl, hlo, hhi, hEr, HB⟩ := hrel
    obtain ⟨t0, t1, t2, t3, -, -, -, -⟩ := hEr.read
    have HLO := hide hlo
    have HHI := hide hhi
    clear hlo hhi
    by_cases hlt : i < j
    · obtain ⟨s, h, f1, f2, f3, f4, f5, f6, f7, f8, f9, f10⟩ := mid_facts i j n hlt hjn hl
      have hlti : (i : Int) < (j : Int) := Int.ofNat_lt.2 hlt
      have hhn : h < n := Nat.lt_of_lt_of_le f10 hjn
      have hhni : (h : Int) < (n : Int) := Int.ofNat_lt.2 hhn
      obtain ⟨f11, f12⟩ := succ_facts h n hhn hl
      obtain ⟨ad, rfl, x0, x1, x2, x3⟩ := RdE.at4 (hr.below HB) h (by rw [HN.out]; exact hhn)
      obtain ⟨y, hy⟩ : ∃ y, l.getD h zEnt = y := ⟨_, rfl⟩
      have HY := hide hy
      rw [hy] at x0 x1 x2 x3
      have hCl := fun W => cl_any y t W
      have hneg := ordN_neg y t
      obtain ⟨r, hrr⟩ : ∃ r, ordN y t = r := ⟨_, rfl⟩
      rw [hrr] at hCl hneg
      have hd : Below wr.heap.size wr wr.drew := (Below.refl _ _).drew
      have hSk : ∀ W, Below wr.heap.size wr W → Below wr.heap.size wr W ∧ W.cell? (ad.add (h * 4)) = some (.string y.1) ∧ W.cell? ⟨(ad.add (h * 4)).block, (ad.add (h * 4)).off + 1, none⟩ = some (.int .i64 y.2.1) ∧ W.cell? ⟨(ad.add (h * 4)).block, (ad.add (h * 4)).off + 2, none⟩ = some (.int .i64 y.2.2.1) ∧ W.cell? ⟨(ad.add (h * 4)).block, (ad.add (h * 4)).off + 3, none⟩ = some (.string y.2.2.2) ∧ W.cell? ⟨w.heap.size, 0, none⟩ = some (.string t.1) ∧ W.cell? ⟨w.heap.size, 1, none⟩ = some (.int .i64 t.2.1) ∧ W.cell? ⟨w.heap.size, 2, none⟩ = some (.int .i64 t.2.2.1) ∧ W.cell? ⟨w.heap.size, 3, none⟩ = some (.string t.2.2.2) := fun W h => ⟨h, (h.cell (World.block_lt_of_cell? _ _ x0)).trans x0, (h.cell (World.block_lt_of_cell? _ _ x1)).trans x1, (h.cell (World.block_lt_of_cell? _ _ x2)).trans x2, (h.cell (World.block_lt_of_cell? _ _ x3)).trans x3, (h.cell (World.block_lt_of_cell? _ _ t0)).trans t0, (h.cell (World.block_lt_of_cell? _ _ t1)).trans t1, (h.cell (World.block_lt_of_cell? _ _ t2)).trans t2, (h.cell (World.block_lt_of_cell? _ _ t3)).trans t3⟩
      have hS0 := hSk _ hd
      clear hrr hy
      by_cases hb : befE y t
      · have hr0 : r < 0 := by rw [decide_eq_true hb] at hneg; exact of_decide_eq_true hneg
        clear hneg
        go_wp2
        go_region_held3 (fun w' => Below wr.heap.size wr w' ∧ w'.cell? (ad.add (h * 4)) = some (.string y.1) ∧ w'.cell? ⟨(ad.add (h * 4)).block, (ad.add (h * 4)).off + 1, none⟩ = some (.int .i64 y.2.1) ∧ w'.cell? ⟨(ad.add (h * 4)).block, (ad.add (h * 4)).off + 2, none⟩ = some (.int .i64 y.2.2.1) ∧ w'.cell? ⟨(ad.add (h * 4)).block, (ad.add (h * 4)).off + 3, none⟩ = some (.string y.2.2.2) ∧ w'.cell? ⟨w.heap.size, 0, none⟩ = some (.string t.1) ∧ w'.cell? ⟨w.heap.size, 1, none⟩ = some (.int .i64 t.2.1) ∧ w'.cell? ⟨w.heap.size, 2, none⟩ = some (.int .i64 t.2.2.1) ∧ w'.cell? ⟨w.heap.size, 3, none⟩ = some (.string t.2.2.2)) (first | exact hS0 | exact hSk _ HBt | assumption) (first | (go_at_call 90; (with_reducible refine (hCl _).mono ?_); rintro e w6 ⟨rfl, HB6'⟩; have HBt := hd.trans (HB6'.mono hd.size); have HB6 := HB.trans (HBt.mono HB.size)))
        go_wp2
        go_roundw
        case rel =>
          refine ⟨h + 1, j, f10, hjn, by go_num, rfl, fun k hk => ?_, HHI.out, hEr.below HBt, HB6⟩
          rcases Nat.lt_or_ge k h with h5 | h5
          · have := ord_bef l HOO.out h (by rw [HN.out]; exact hhn) k h5
            rw [HY.out] at this
            exact bef_tr this hb
          · obtain rfl : h = k := Nat.le_antisymm h5 (Nat.lt_succ_iff.1 hk)
            rw [HY.out]; exact hb
        case measure =>
          simp only [intOf, Int.toNat_natCast, f11, f12]
          first | exact ms1 i j h f9 f10 | (simp [intOf]; exact ms1 i j h f9 f10)
      · have hr0 : ¬ r < 0 := by rw [decide_eq_false hb] at hneg; exact of_decide_eq_false hneg
        clear hneg
        go_wp2
        go_region_held3 (fun w' => Below wr.heap.size wr w' ∧ w'.cell? (ad.add (h * 4)) = some (.string y.1) ∧ w'.cell? ⟨(ad.add (h * 4)).block, (ad.add (h * 4)).off + 1, none⟩ = some (.int .i64 y.2.1) ∧ w'.cell? ⟨(ad.add (h * 4)).block, (ad.add (h * 4)).off + 2, none⟩ = some (.int .i64 y.2.2.1) ∧ w'.cell? ⟨(ad.add (h * 4)).block, (ad.add (h * 4)).off + 3, none⟩ = some (.string y.2.2.2) ∧ w'.cell? ⟨w.heap.size, 0, none⟩ = some (.string t.1) ∧ w'.cell? ⟨w.heap.size, 1, none⟩ = some (.int .i64 t.2.1) ∧ w'.cell? ⟨w.heap.size, 2, none⟩ = some (.int .i64 t.2.2.1) ∧ w'.cell? ⟨w.heap.size, 3, none⟩ = some (.string t.2.2.2)) (first | exact hS0 | exact hSk _ HBt | assumption) (first | (go_at_call 90; (with_reducible refine (hCl _).mono ?_); rintro e w6 ⟨rfl, HB6'⟩; have HBt := hd.trans (HB6'.mono hd.size); have HB6 := HB.trans (HBt.mono HB.size)))
        go_wp2
        go_roundw
        case rel =>
          refine ⟨i, h, f9, Nat.le_of_lt hhn, rfl, rfl, HLO.out, fun k h1 h2 h3 => ?_, hEr.below HBt, HB6⟩
          rcases Nat.lt_or_ge h k with h5 | h5
          · have := ord_bef l HOO.out k (by rw [HN.out]; exact h2) h h5
            rw [HY.out] at this
            exact hb (bef_tr this h3)
          · obtain rfl : h = k := Nat.le_antisymm h1 h5
            rw [HY.out] at h3; exact hb h3
        case measure =>
          simp only [intOf, Int.toNat_natCast]
          first | exact ms2 i j h f9 f10 | (simp [intOf]; exact ms2 i j h f9 f10)
    · obtain rfl : i = j := Nat.le_antisymm hij (Nat.not_lt.1 hlt)
      clear hlt
      by_cases hin : i < n
      · have hini : (i : Int) < (n : Int) := Int.ofNat_lt.2 hin
        obtain ⟨ad, rfl, x0, x1, x2, x3⟩ := RdE.at4 (hr.below HB) i (by rw [HN.out]; exact hin)
        obtain ⟨y, hy⟩ : ∃ y, l.getD i zEnt = y := ⟨_, rfl⟩
        rw [hy] at x0 x1 x2 x3
        have hCl := fun W => cl_any y t W
        obtain ⟨r, hrr⟩ : ∃ r, ordN y t = r := ⟨_, rfl⟩
        rw [hrr] at hCl
        have hd : Below wr.heap.size wr wr.drew := (Below.refl _ _).drew
        have hSk : ∀ W, Below wr.heap.size wr W → Below wr.heap.size wr W ∧ W.cell? (ad.add (i * 4)) = some (.string y.1) ∧ W.cell? ⟨(ad.add (i * 4)).block, (ad.add (i * 4)).off + 1, none⟩ = some (.int .i64 y.2.1) ∧ W.cell? ⟨(ad.add (i * 4)).block, (ad.add (i * 4)).off + 2, none⟩ = some (.int .i64 y.2.2.1) ∧ W.cell? ⟨(ad.add (i * 4)).block, (ad.add (i * 4)).off + 3, none⟩ = some (.string y.2.2.2) ∧ W.cell? ⟨w.heap.size, 0, none⟩ = some (.string t.1) ∧ W.cell? ⟨w.heap.size, 1, none⟩ = some (.int .i64 t.2.1) ∧ W.cell? ⟨w.heap.size, 2, none⟩ = some (.int .i64 t.2.2.1) ∧ W.cell? ⟨w.heap.size, 3, none⟩ = some (.string t.2.2.2) := fun W h => ⟨h, (h.cell (World.block_lt_of_cell? _ _ x0)).trans x0, (h.cell (World.block_lt_of_cell? _ _ x1)).trans x1, (h.cell (World.block_lt_of_cell? _ _ x2)).trans x2, (h.cell (World.block_lt_of_cell? _ _ x3)).trans x3, (h.cell (World.block_lt_of_cell? _ _ t0)).trans t0, (h.cell (World.block_lt_of_cell? _ _ t1)).trans t1, (h.cell (World.block_lt_of_cell? _ _ t2)).trans t2, (h.cell (World.block_lt_of_cell? _ _ t3)).trans t3⟩
        have hS0 := hSk _ hd
        clear hrr hy
        go_wp2
        go_region_held3 (fun w' => Below wr.heap.size wr w' ∧ w'.cell? (ad.add (i * 4)) = some (.string y.1) ∧ w'.cell? ⟨(ad.add (i * 4)).block, (ad.add (i * 4)).off + 1, none⟩ = some (.int .i64 y.2.1) ∧ w'.cell? ⟨(ad.add (i * 4)).block, (ad.add (i * 4)).off + 2, none⟩ = some (.int .i64 y.2.2.1) ∧ w'.cell? ⟨(ad.add (i * 4)).block, (ad.add (i * 4)).off + 3, none⟩ = some (.string y.2.2.2) ∧ w'.cell? ⟨w.heap.size, 0, none⟩ = some (.string t.1) ∧ w'.cell? ⟨w.heap.size, 1, none⟩ = some (.int .i64 t.2.1) ∧ w'.cell? ⟨w.heap.size, 2, none⟩ = some (.int .i64 t.2.2.1) ∧ w'.cell? ⟨w.heap.size, 3, none⟩ = some (.string t.2.2.2)) (first | exact hS0 | exact hSk _ HBt | assumption) (first | (go_at_call 90; (with_reducible refine (hCl _).mono ?_); rintro e w6 ⟨rfl, HB6'⟩; have HBt := hd.trans (HB6'.mono hd.size); have HB6 := HB.trans (HBt.mono HB.size)))
        go_wp2
        go_ret2
        exact ⟨i, _, rfl, hjn, HLO.out, fun h => HHI.out i (Nat.le_refl _) h, HB6⟩
      · have hini : ¬ (i : Int) < (n : Int) := fun h => hin (Int.ofNat_lt.1 h)
        go_wp2
        refine wp_region_below w.heap.size w HB (by kernel_rfl) (by kernel_rfl) ?_
        repeat (go_big_quiet_step ((intro hb; rfl)))
        refine wpQuiet_nil ?_
        intro w5 HC5
        go_wp2
        go_ret2
        exact ⟨i, _, rfl, hjn, HLO.out, fun h => absurd h hin, HC5⟩
end Go.Proofs.Ytefcepjffeiaoaa
end

section
/- Block: the walks of First and Seek. -/
namespace Go.Proofs.Ytefcepjffeiaoaa
open Go.RowKit Go.Proofs.YtefcepjffeiaoaaW.PrintWords
set_option linter.unusedVariables false

abbrev resV (r : Option Ent) : Value := ebv (resE r).1
theorem First_plain (l : List Ent) (ho : ordE l = 0) (key : ByteArray) (seq : Int) (i : Nat) (hi : i ≤ l.length) (h1 : ∀ k, k < i → befE (l.getD k zEnt) (key, seq, 0, ⟨#[]⟩)) (h2 : i < l.length → ¬ befE (l.getD i zEnt) (key, seq, 0, ⟨#[]⟩)) :
    firstE l key seq = if i < l.length ∧ (l.getD i zEnt).1 = key then some (l.getD i zEnt) else none := first_bs l ho key seq (key, seq, 0, ⟨#[]⟩) rfl rfl i hi h1 h2
/-- where the search halts -/
def bsI (l : List Ent) (t : Ent) : Nat := l.findIdx (fun x => !decide (befE x t))
theorem bsI_uniq (l : List Ent) (t : Ent) (i : Nat) (hi : i ≤ l.length) (h1 : ∀ k, k < i → befE (l.getD k zEnt) t) (h2 : i < l.length → ¬ befE (l.getD i zEnt) t) : bsI l t = i := by
  induction l generalizing i with
  | nil => simp at hi; subst hi; rfl
  | cons x l ih =>
    unfold bsI
    rw [List.findIdx_cons]
    cases i with
    | zero =>
      have := h2 (by simp)
      rw [List.getD_cons_zero] at this
      simp [this]
    | succ i =>
      have h0 := h1 0 (by omega)
      rw [List.getD_cons_zero] at h0
      have := ih i (by simpa using hi) (fun k hk => by have := h1 (k + 1) (by omega); rwa [List.getD_cons_succ] at this) (fun h => by have := h2 (by simpa using h); rwa [List.getD_cons_succ] at this)
      unfold bsI at this
      simp [h0, this]
set_option maxRecDepth 100000 in
set_option maxHeartbeats 3200000 in
theorem First_any (A : Option Addr) (c n : Nat) (l : List Ent) (key : ByteArray) (seq : Int) (w : World) (hn : l.length = n) (hr : RdE w A c l) (ho : ordE l = 0) (hl : n ≤ 1000000) :
    Calls Try.prog 54 #[.slice A n c, .string key, .int .i64 seq] w fun e w' => e = .returned (.tuple #[resV (firstE l key seq), .bool (resE (firstE l key seq)).2]) ∧ Below w.heap.size w w' := by
  have bA := below_alloc w (.cells #[.string ⟨#[]⟩, .int .i64 0, .int .i64 0, .string ⟨#[]⟩] 43)
  have hE := Eb.new w (⟨#[]⟩, 0, 0, ⟨#[]⟩)
  obtain ⟨I, hI⟩ : ∃ I, bsI l (key, seq, 0, ⟨#[]⟩) = I := ⟨_, rfl⟩
  have hS : Calls Try.prog 89 #[.slice A n c, .agg #[.string key, .int .i64 seq, .int .i64 0, .string ⟨#[]⟩], .func (.func 90) #[] #[]] (w.alloc (.cells #[.string ⟨#[]⟩, .int .i64 0, .int .i64 0, .string ⟨#[]⟩] 43)) fun e w' => ∃ fb : Bool, e = .returned (.tuple #[.int .i64 (I : Int), .bool fb]) ∧ (I ≤ n ∧ firstE l key seq = if I < n ∧ (l.getD I zEnt).1 = key then some (l.getD I zEnt) else none) ∧ Below (w.alloc (.cells #[.string ⟨#[]⟩, .int .i64 0, .int .i64 0, .string ⟨#[]⟩] 43)).heap.size (w.alloc (.cells #[.string ⟨#[]⟩, .int .i64 0, .int .i64 0, .string ⟨#[]⟩] 43)) w' := by
    refine (Search_any A c n l (key, seq, 0, ⟨#[]⟩) _ hn (hr.below bA) ho hl).mono ?_
    rintro e w' ⟨i, fb, rfl, hi, hlo, hhi, HB⟩
    rw [← hn] at hi hhi
    have hu := bsI_uniq l _ i hi hlo hhi
    rw [hI] at hu
    subst hu
    have hf := First_plain l ho key seq I hi hlo hhi
    rw [hn] at hi hf
    exact ⟨fb, rfl, ⟨hi, hf⟩, HB⟩
  have HN := hide hn
  clear hI
  by_cases hin : I < n
  · have hini : ¬ (I : Int) = (n : Int) := fun e => by omega
    have hinn : ¬ I = n := by omega
    have hini2 : (I : Int) < (n : Int) := Int.ofNat_lt.2 hin
    obtain ⟨ad, rfl, x0, x1, x2, x3⟩ := RdE.at4 hr I (by rw [hn]; exact hin)
    have hcl := fun W (h : Below w.heap.size w W) => RdE.at4 (hr.below h) I (by rw [hn]; exact hin)
    obtain ⟨⟨xk, xq, xd, xv⟩, hy⟩ : ∃ y, l.getD I zEnt = y := ⟨_, rfl⟩
    simp only [hy] at hS x0 x1 x2 x3 hcl
    clear hn ho hy
    by_cases hk : xk = key
    · subst hk
      have hse : (xk.toList == xk.toList) = true := by simp
      go_enter Try.func54, Try.ntmps54
      go_wp2_with (first | (go_at_call 89; (with_reducible refine hS.mono ?_); rintro e w1 ⟨fb, rfl, ⟨hi, hf⟩, HB1⟩; have HC := bA.trans (HB1.mono bA.size); have hE1 := hE.below HB1; obtain ⟨e0, e1, e2, e3, y0, y1, y2, y3⟩ := hE1.read; obtain ⟨ad', he, z0, z1, z2, z3⟩ := hcl _ HC; cases he; rw [if_pos ⟨hin, rfl⟩] at hf; have HF := hide hf; clear hf))
      have hF := blk_set (blk_set (blk_set (blk_set hE1 0 (.string xk)) 1 (.int .i64 xq)) 2 (.int .i64 xd)) 3 (.string xv)
      refine bodyPost_ret (v := .tuple #[.agg #[.string xk, .int .i64 xq, .int .i64 xd, .string xv], .bool true]) (results_ct Try.results54 _ _ w.heap.size _ _ _ _ rfl hF Try.underlying43 rfl rfl) rfl ⟨?_, ?_⟩
      · rw [HF.out]; rfl
      · exact ((((HC.setCell (p := ⟨w.heap.size, 0, none⟩) (Nat.le_refl _) _).setCell (p := ⟨w.heap.size, 1, none⟩) (Nat.le_refl _) _).setCell (p := ⟨w.heap.size, 2, none⟩) (Nat.le_refl _) _).setCell (p := ⟨w.heap.size, 3, none⟩) (Nat.le_refl _) _)
    · have hse : (xk.toList == key.toList) = false := by rw [same_bl]; exact decide_eq_false (fun e => hk (bl_inj e))
      go_enter Try.func54, Try.ntmps54
      go_wp2_with (first | (go_at_call 89; (with_reducible refine hS.mono ?_); rintro e w1 ⟨fb, rfl, ⟨hi, hf⟩, HB1⟩; have HC := bA.trans (HB1.mono bA.size); have hE1 := hE.below HB1; obtain ⟨e0, e1, e2, e3, y0, y1, y2, y3⟩ := hE1.read; obtain ⟨ad', he, z0, z1, z2, z3⟩ := hcl _ HC; cases he; rw [if_neg (fun h => hk h.2)] at hf; have HF := hide hf; clear hf))
      have hF := blk_set (blk_set (blk_set (blk_set hE1 0 (.string ⟨#[]⟩)) 1 (.int .i64 0)) 2 (.int .i64 0)) 3 (.string ⟨#[]⟩)
      refine bodyPost_ret (v := .tuple #[.agg #[.string ⟨#[]⟩, .int .i64 0, .int .i64 0, .string ⟨#[]⟩], .bool false]) (results_ct Try.results54 _ _ w.heap.size _ _ _ _ rfl hF Try.underlying43 rfl rfl) rfl ⟨?_, ?_⟩
      · rw [HF.out]; rfl
      · exact ((((HC.setCell (p := ⟨w.heap.size, 0, none⟩) (Nat.le_refl _) _).setCell (p := ⟨w.heap.size, 1, none⟩) (Nat.le_refl _) _).setCell (p := ⟨w.heap.size, 2, none⟩) (Nat.le_refl _) _).setCell (p := ⟨w.heap.size, 3, none⟩) (Nat.le_refl _) _)
  · have hS2 := hS
    have hIn : ∀ h : I ≤ n, I = n := fun h => Nat.le_antisymm h (Nat.not_lt.1 hin)
    go_enter Try.func54, Try.ntmps54
    go_wp2_with (first | (go_at_call 89; (with_reducible refine hS.mono ?_); rintro e w1 ⟨fb, rfl, ⟨hi, hf⟩, HB1⟩; have HC := bA.trans (HB1.mono bA.size); have hE1 := hE.below HB1; obtain ⟨e0, e1, e2, e3, y0, y1, y2, y3⟩ := hE1.read; rw [if_neg (fun h => hin h.1)] at hf; have HF := hide hf; clear hf; obtain rfl := hIn hi))
    have hF := blk_set (blk_set (blk_set (blk_set hE1 0 (.string ⟨#[]⟩)) 1 (.int .i64 0)) 2 (.int .i64 0)) 3 (.string ⟨#[]⟩)
    refine bodyPost_ret (v := .tuple #[.agg #[.string ⟨#[]⟩, .int .i64 0, .int .i64 0, .string ⟨#[]⟩], .bool false]) (results_ct Try.results54 _ _ w.heap.size _ _ _ _ rfl hF Try.underlying43 rfl rfl) rfl ⟨?_, ?_⟩
    · rw [HF.out]; rfl
    · exact ((((HC.setCell (p := ⟨w.heap.size, 0, none⟩) (Nat.le_refl _) _).setCell (p := ⟨w.heap.size, 1, none⟩) (Nat.le_refl _) _).setCell (p := ⟨w.heap.size, 2, none⟩) (Nat.le_refl _) _).setCell (p := ⟨w.heap.size, 3, none⟩) (Nat.le_refl _) _)
end Go.Proofs.Ytefcepjffeiaoaa
end

section
/- A range over a function whose iterator hands out memory of its own: the statement, out of the iterator's word and of one round's walk. -/
namespace Go.Proofs.Ytefcepjffeiaoaa
open Go.RowKit Go.Shelf Go.Proofs.YtefcepjffeiaoaaW.PrintWords
set_option linter.unusedVariables false

/-- all blocks but the loop's two (D, D + 1) lie as they lay -/
structure Ap (D : Nat) (A B : World) : Prop where
  below : Below D A B
  past : ∀ j, D + 2 ≤ j → j < A.heap.size → B.heap[j]? = A.heap[j]?
theorem Ap.of_below {D : Nat} {A B : World} (h : Below A.heap.size A B) (hD : D ≤ A.heap.size) : Ap D A B := ⟨h.mono hD, fun j _ hl => h.block j hl⟩
theorem Ap.trans {D : Nat} {A B C : World} (h : Ap D A B) (k : Ap D B C) : Ap D A C := ⟨h.below.trans k.below, fun j hj hl => (k.past j hj (Nat.lt_of_lt_of_le hl h.below.size)).trans (h.past j hj hl)⟩
theorem Ap.put {D : Nat} (A : World) (o : Obj) (hl : D + 1 < A.heap.size) : Ap D A (A.putObj (D + 1) o) :=
  ⟨(Below.refl D A).grown (grownBy_putObj' A (D + 1) o) (by omega) (fun k e => by cases e; omega), fun j hj _ => World.putObj_heap_other (by omega)⟩
/-- what stays where the call's own blocks stay -/
theorem Ap.block {D : Nat} {A B : World} (h : Ap D A B) (j : Nat) (hl : j < A.heap.size) (h0 : j ≠ D) (h1 : j ≠ D + 1) : B.heap[j]? = A.heap[j]? := by
  rcases Nat.lt_or_ge j D with h2 | h2
  · exact h.below.block j h2
  · exact h.past j (by omega) hl
/-- the loop's two blocks stay, and the iterator's -/
structure Keeps (own : Nat → Prop) (D : Nat) (A B : World) : Prop where
  size : A.heap.size ≤ B.heap.size
  block : ∀ j, own j ∨ j = D ∨ j = D + 1 → j < D + 2 → B.heap[j]? = A.heap[j]?

/-- the iterator's word: N rounds, in order, if each goes on; V: what round k's values are, made from a bound on; what is 'own' of the caller's world stays -/
def IterV (P : Program) (gf : Nat) (lb : Array Value) (own : Nat → Prop) (N : Nat) (V : Nat → Nat → Array Value → World → Prop) (w : World) : Prop :=
  ∀ (n l : Nat) (J Jx : Nat → World → Prop) (W : World), (∀ j, own j → j < w.heap.size → W.heap[j]? = w.heap[j]?) → w.heap.size ≤ W.heap.size →
    (∀ k A B, Below A.heap.size A B → J k A → J k B) →
    (∀ k b vs A, k < N → W.heap.size ≤ b → V k b vs A → J k A → YieldAt Fence.wide (n - 1) P l vs A fun e B => (e = .returned (.bool true) ∧ J (k + 1) B ∧ (∀ j, own j → j < w.heap.size → B.heap[j]? = A.heap[j]?) ∧ A.heap.size ≤ B.heap.size) ∨ (e = .returned (.bool false) ∧ Jx k B)) →
    J 0 W → CallsIn Fence.wide n P gf (#[.func (.yield l) #[] #[]] ++ lb) W fun e B => (∃ v, e = .returned v) ∧ (J N B ∨ ∃ k, k < N ∧ Jx k B)

/-- how a round's body may end -/
def roundEndV (own : Nat → Prop) (D : Nat) (I Ix : Nat → World → Prop) (k : Nat) (W : World) : Exit → Act → World → Prop
  | .normal, _, B => Keeps own D W B ∧ I (k + 1) B
  | .ret, _, B => Keeps own D W B ∧ Ix k B
  | _, _, _ => False

theorem range_iterV {n : Nat} {P : Program} {g : Operand} {ps : Array Tmp} {assign body : Code} {Q : Exit → Act → World → Prop} {a : Act} {w : World} {gf : Nat} {lb : Array Value} {N D : Nat} {own : Nat → Prop} {V : Nat → Nat → Array Value → World → Prop}
    (hD : w.heap.size = D) (hg : a.eval g = .func (.func gf) #[] lb) (eg : ∀ args w, (callFunc gf args).run P w = .ok (.enter gf args) w) (hps : ∀ k b vs A, V k b vs A → vs.size = ps.size)
    (hit : IterV P gf lb own N V w) (I Ix : Nat → World → Prop) (hI : ∀ k A B, Ap D A B → I k A → I k B) (hIx : ∀ k A B, Ap D A B → Ix k A → Ix k B) (hV : ∀ k b vs A B, D + 2 ≤ b → Ap D A B → V k b vs A → V k b vs B) (h0 : I 0 w)
    (Asg : Nat → Nat → Act → World → Prop) (hAsg : ∀ k b a₁ A B, D + 2 ≤ b → Ap D A B → Asg k b a₁ A → Asg k b a₁ B)
    (hassign : ∀ (l k b : Nat) (vs : Array Value) (W : World) (K : Act → World → Prop), k < N → D + 2 ≤ b → D + 2 ≤ W.heap.size → V k b vs W → (∀ a₁ W₁, Below W.heap.size W W₁ → Asg k b a₁ W₁ → K a₁ W₁) →
      assign.wpIn (Fence.wide.inRound l) (n - 1 - 1) P (Exit.then K (fun _ _ _ => False)) { tmps := (ps.zip vs).foldl (fun t (p, v) => t.setIfInBounds p v) a.tmps, defers := [] } W)
    (hbody : ∀ (l k b : Nat) (a₁ : Act) (W : World), k < N → D + 2 ≤ b → D + 2 ≤ W.heap.size → Asg k b a₁ W → I k W → body.wpIn (Fence.wide.inRound l) (n - 1 - 1) P (roundEndV own D I Ix k W) a₁ W)
    (hdone : ∀ (W : World), I N W → D ≤ W.heap.size → W.heap[D]? = some (.deferred (some [])) → Q .normal { a with defers := { target := .collected D, args := #[] } :: a.defers } W)
    (hstop : ∀ (k : Nat) (W : World), k < N → Ix k W → D ≤ W.heap.size → W.heap[D]? = some (.deferred (some [])) → Code.ret.wpIn Fence.wide n P Q { a with defers := { target := .collected D, args := #[] } :: a.defers } W) :
    (Code.rangeFunc g ps assign body).wpIn Fence.wide n P Q a w := by
  refine wpIn_rangeFunc fun fn hfn => ?_
  let rec₀ : LoopState → Option Code → Loop := fun st pe => { state := st, pending := pe, fn := fn, tmps := a.tmps, params := ps, assign := assign, body := body, defers := w.heap.size }
  let W1 : World := (w.alloc (.deferred (some []))).alloc (.loop (rec₀ .ready none))
  have s1 : W1.heap.size = D + 2 := by simp [W1, hD]
  have r1 : W1.heap[D + 1]? = some (.loop (rec₀ .ready none)) := by
    have h := World.alloc_heap_new (w.alloc (.deferred (some []))) (.loop (rec₀ .ready none))
    rw [World.size_alloc, hD] at h
    exact h
  have d1 : W1.heap[D]? = some (.deferred (some [])) := by
    rw [← hD]
    exact (Below.heap_alloc _ _ _ (by simp)).trans (World.alloc_heap_new w _)
  have hb1 : Below D w W1 := ((Below.refl _ _).alloc (by omega) _).alloc (by simp; omega) _
  have ha1 : Ap D w W1 := ⟨hb1, fun j hj hl => by omega⟩
  refine ⟨D + 1, [{ target := .collected D, args := #[] }], W1, { target := .fn (.func gf) lb, args := #[.func (.yield (D + 1)) #[] #[]] }, W1, gf, #[.func (.yield (D + 1)) #[] #[]] ++ lb, W1, ?_, ?_, fun _ _ => trivial, ?_, fun h => absurd h (by simp [Fence.wide]), ?_⟩
  · subst hD
    exact run_enterLoop_outer _ _ _ _ _
  · simp only [resolve, hg]
    simp [go_sem]
  · simp [invoke, go_sem, eg]
  · refine (hit (n - 1) (D + 1) (fun k A => I k A ∧ A.heap[D + 1]? = some (.loop (rec₀ .ready none)) ∧ A.heap[D]? = some (.deferred (some [])) ∧ D ≤ A.heap.size)
      (fun k A => Ix k A ∧ A.heap[D + 1]? = some (.loop (rec₀ .done (some .ret))) ∧ A.heap[D]? = some (.deferred (some [])) ∧ D ≤ A.heap.size) W1 (fun j _ hj => hb1.block j (by omega)) (by omega) ?_ ?_
      ⟨hI _ _ _ ha1 h0, r1, d1, by omega⟩).mono ?_
    · rintro k A B hAB ⟨hi, hl, hk, hs⟩
      have hlt : D + 1 < A.heap.size := (Array.getElem?_eq_some_iff.1 hl).1
      exact ⟨hI _ _ _ (Ap.of_below hAB hs) hi, (hAB.block _ hlt).trans hl, (hAB.block _ (by omega)).trans hk, Nat.le_trans hs hAB.size⟩
    · rintro k b vs A hkN hb hVk ⟨hi, hl, hk, hs⟩
      have hlt : D + 1 < A.heap.size := (Array.getElem?_eq_some_iff.1 hl).1
      refine ⟨fn, _, assign, body, run_yield hl (hps _ _ _ _ hVk), roundIn_of_wpIn hfn (hassign _ k b vs A _ hkN (by omega) (by omega) hVk fun a₁ W₁ hb₁ hAsg₁ => ?_)⟩
      have l1 : W₁.heap[D + 1]? = some (.loop (rec₀ .ready none)) := (hb₁.block _ hlt).trans hl
      have k1 : W₁.heap[D]? = some (.deferred (some [])) := (hb₁.block _ (by omega)).trans hk
      have hlt1 : D + 1 < W₁.heap.size := Nat.lt_of_lt_of_le hlt hb₁.size
      refine ⟨_, run_beginRound l1 rfl, ?_⟩
      have l2 : (W₁.putObj (D + 1) (.loop (rec₀ .busy none))).heap[D + 1]? = some (.loop (rec₀ .busy none)) := World.putObj_heap_same hlt1
      have k2 : (W₁.putObj (D + 1) (.loop (rec₀ .busy none))).heap[D]? = some (.deferred (some [])) := (World.putObj_heap_other (by omega)).trans k1
      have hp1 : Ap D W₁ (W₁.putObj (D + 1) (.loop (rec₀ .busy none))) := Ap.put W₁ _ hlt1
      have i2 : I k (W₁.putObj (D + 1) (.loop (rec₀ .busy none))) := hI _ _ _ ((Ap.of_below hb₁ hs).trans hp1) hi
      refine wpIn_mono (hbody _ k b a₁ _ hkN (by omega) (by rw [World.putObj_size]; omega) (hAsg _ _ _ _ _ (by omega) hp1 hAsg₁) i2) ?_
      intro e a3 B hp
      have fin : ∀ (jump : Option Code), Keeps own D (W₁.putObj (D + 1) (.loop (rec₀ .busy none))) B →
          (Instr.endRound (D + 1) jump).run P B = .ok (.bool jump.isNone) (B.putObj (D + 1) (.loop (rec₀ (if jump.isNone then .ready else .done) jump))) ∧
          (B.putObj (D + 1) (.loop (rec₀ (if jump.isNone then .ready else .done) jump))).heap[D + 1]? = some (.loop (rec₀ (if jump.isNone then .ready else .done) jump)) ∧
          (B.putObj (D + 1) (.loop (rec₀ (if jump.isNone then .ready else .done) jump))).heap[D]? = some (.deferred (some [])) ∧ Ap D B (B.putObj (D + 1) (.loop (rec₀ (if jump.isNone then .ready else .done) jump))) ∧
          (∀ j, own j → j < w.heap.size → (B.putObj (D + 1) (.loop (rec₀ (if jump.isNone then .ready else .done) jump))).heap[j]? = A.heap[j]?) ∧ D ≤ (B.putObj (D + 1) (.loop (rec₀ (if jump.isNone then .ready else .done) jump))).heap.size ∧
          A.heap.size ≤ (B.putObj (D + 1) (.loop (rec₀ (if jump.isNone then .ready else .done) jump))).heap.size := fun jump hkp => by
        have sz := hkp.size
        rw [World.putObj_size] at sz
        have szb := hb₁.size
        have l3 := (hkp.block (D + 1) (.inr (.inr rfl)) (by omega)).trans l2
        have k3 := (hkp.block D (.inr (.inl rfl)) (by omega)).trans k2
        refine ⟨run_endRound jump l3, World.putObj_heap_same (by omega), (World.putObj_heap_other (by omega)).trans k3, Ap.put B _ (by omega), fun j h1 h2 => ?_, by rw [World.putObj_size]; omega, by rw [World.putObj_size]; omega⟩
        rw [World.putObj_heap_other (by omega), hkp.block j (.inl h1) (by omega), World.putObj_heap_other (by omega), hb₁.block j (by omega)]
      cases e with
      | normal =>
        obtain ⟨hpa, hin⟩ := hp
        obtain ⟨f1, f2, f3, f4, f5, f6, f7⟩ := fin none hpa
        exact ⟨_, _, f1, .inl ⟨rfl, ⟨hI _ _ _ f4 hin, f2, f3, f6⟩, f5, f7⟩⟩
      | ret =>
        obtain ⟨hpa, hin⟩ := hp
        obtain ⟨f1, f2, f3, f4, f5, f6, f7⟩ := fin (some .ret) hpa
        exact ⟨_, _, f1, .inr ⟨rfl, hIx _ _ _ f4 hin, f2, f3, f6⟩⟩
      | exit id => exact hp.elim
      | goto t => exact hp.elim
      | panic ch => exact hp.elim
      | outgrown => exact hp.elim
    · rintro e B ⟨⟨v, rfl⟩, (⟨hi, hl, hk, hs⟩ | ⟨k, hkN, hi, hl, hk, hs⟩)⟩
      · have hlt : D + 1 < B.heap.size := (Array.getElem?_eq_some_iff.1 hl).1
        refine ⟨none, _, run_endLoop hl (by simp [rec₀]), ?_⟩
        exact hdone _ (hI _ _ _ (Ap.put B _ hlt) hi) (by rw [World.putObj_size]; exact hs) ((World.putObj_heap_other (by omega)).trans hk)
      · have hlt : D + 1 < B.heap.size := (Array.getElem?_eq_some_iff.1 hl).1
        refine ⟨some .ret, _, run_endLoop hl (by simp [rec₀]), ?_⟩
        exact hstop k _ hkN (hIx _ _ _ (Ap.put B _ hlt) hi) (by rw [World.putObj_size]; exact hs) ((World.putObj_heap_other (by omega)).trans hk)
end Go.Proofs.Ytefcepjffeiaoaa
end

section
/- Rows of strings: read, owned; SameStrings, CopyStrings. -/
namespace Go.Proofs.Ytefcepjffeiaoaa.Bl
open Go.RowKit Go.Proofs.YtefcepjffeiaoaaW.PrintWords
set_option linter.unusedVariables false

def estr (s : ByteArray) : Value := .string s
theorem info_str : (Try.prog.info? 9).map (fun i => (i.zero, i.size, i.bytes)) = some (some (.string ByteArray.empty), 1, 16) := by kernel_rfl
/-- a slice of strings that is read -/
def RdS (w : World) (A : Option Addr) (c : Nat) (xs : List ByteArray) : Prop := xs.length ≤ c ∧ ReadsOf estr ByteArray.empty w A xs.length xs
def OwS (w : World) (base : Nat) (v : Value) (xs : List ByteArray) : Prop := w.ownsRow base 9 1 v xs.length (encs estr xs)
theorem RdS.below {w w1 : World} {A : Option Addr} {c : Nat} {xs : List ByteArray} (h : RdS w A c xs) (hb : Below w.heap.size w w1) : RdS w1 A c xs := ⟨h.1, h.2.below hb⟩
theorem RdS.max {w : World} {A : Option Addr} {c : Nat} {xs : List ByteArray} (h : RdS w A c xs) : xs.length ≤ 9223372036854775807 := h.2.2.1
theorem RdS.at_ {w : World} {A : Option Addr} {c : Nat} {xs : List ByteArray} (h : RdS w A c xs) (i : Nat) (hi : i < xs.length) : ∃ ad, A = some ad ∧ w.cell? (ad.add i) = some (.string (xs.getD i ByteArray.empty)) := by
  obtain ⟨ad, e, hc⟩ := h.2.2.2 (by omega)
  exact ⟨ad, e, hc i hi⟩
theorem RdS.zero (w : World) (A : Option Addr) (c : Nat) : RdS w A c [] := ⟨Nat.zero_le _, rfl, Nat.zero_le _, fun h => absurd h (by simp)⟩
theorem OwS.below {w w1 : World} {base : Nat} {v : Value} {xs : List ByteArray} (h : OwS w base v xs) (hb : Below w.heap.size w w1) : OwS w1 base v xs := pw_own_below h hb
theorem OwS.lower {w : World} {base base' : Nat} {v : Value} {xs : List ByteArray} (h : OwS w base v xs) (hb : base' ≤ base) : OwS w base' v xs := own_weaken h hb
theorem OwS.rd {w : World} {base : Nat} {v : Value} {xs : List ByteArray} (h : OwS w base v xs) : ∃ A c, v = .slice A xs.length c ∧ RdS w A c xs := by
  obtain ⟨A, c, hv, hl, hr⟩ := own_reads_of_le (d := ByteArray.empty) h
  exact ⟨A, c, hv, hl, hr⟩
theorem OwS.zero (w : World) (base : Nat) : OwS w base (.slice none 0 0) [] := own_nil _ _ _ _
theorem RdS.take {w : World} {A : Option Addr} {c : Nat} {xs : List ByteArray} (h : RdS w A c xs) (k : Nat) (hk : k ≤ xs.length) : RdS w A c (xs.take k) := by
  have hl : (xs.take k).length = k := by rw [List.length_take]; omega
  refine ⟨by have := h.1; omega, ?_⟩
  rw [hl]
  exact h.2.take_ k hk
section
variable {ops : Array Oper} {rest : List Oper} {o : Oper} {a : Act} {Q : Exit → Act → World → Prop}
theorem app_str {w0 W : World} (base : Nat) (hgd : o.guard = none) (s x : Operand)
    (ho : o.op = .call { callee := .builtin .append, args := #[s, x], argTypes := #[73, 73] })
    (v : Value) (xs : List ByteArray) (y : ByteArray) (hs : a.eval s = v) (hx : a.eval x = .slice (some ⟨W.heap.size, 0, none⟩) 1 1)
    (HO : OwS W base v xs) (HB : Below base w0 W) (hbase : base ≤ W.heap.size) (hl : xs.length + 1 ≤ 8796093022208)
    (h : ∀ v1 w1, OwS w1 base v1 (xs ++ [y]) → Below base w0 w1 → W.grownBy w1 v.ownBlock → (v1.ownBlock = v.ownBlock ∨ ∃ b, v1.ownBlock = some b ∧ W.heap.size ≤ b) → wpList Try.prog ops Q rest (a.put o.dst v1) w1) :
    wpList Try.prog ops Q (o :: rest) a (W.alloc (.cells #[.string y] 9)) :=
  print_append_of estr base hgd s x 73 9 (.string ByteArray.empty) 16 ho Try.underlying73 info_str rfl (by decide) v xs y hs hx rfl HO HB hbase (by omega) h
end
theorem str_ne (s t : ByteArray) : (s.toList == t.toList) = decide (s = t) := by
  rw [Bool.eq_iff_iff]
  simp only [beq_iff_eq, decide_eq_true_eq]
  constructor
  · intro h
    rw [ByteArray.toList_eq, ByteArray.toList_eq] at h
    cases s; cases t
    congr 1
    exact Array.toList_inj.1 h
  · intro h; rw [h]
end Go.Proofs.Ytefcepjffeiaoaa.Bl
end

section
/- The walk of the page's Copied: octets of its holder's own. -/
namespace Go.Proofs.Ytefcepjffeiaoaa.Bl
open Go.RowKit Go.Proofs.YtefcepjffeiaoaaW.PrintWords
end Go.Proofs.Ytefcepjffeiaoaa.Bl
end

section
/- Bloom: the walks of Hash, and the reference's. -/
namespace Go.Proofs.Ytefcepjffeiaoaa.Bl
open Go.RowKit Go.Proofs.YtefcepjffeiaoaaW.PrintWords
set_option linter.unusedVariables false

def fnv1 (h : BitVec 64) (x : UInt8) : BitVec 64 := (h ^^^ BitVec.ofNat 64 x.toNat) * 0x100000001b3#64
def fnv (h : BitVec 64) (xs : List UInt8) : BitVec 64 := xs.foldl fnv1 h
def basis : BitVec 64 := 0xcbf29ce484222325#64
def hash (s : ByteArray) : BitVec 64 := fnv basis s.data.toList
theorem fnv_snoc (h : BitVec 64) (xs : List UInt8) (k : Nat) (hk : k < xs.length) : fnv h (xs.take (k + 1)) = fnv1 (fnv h (xs.take k)) (xs.getD k 0) := by
  rw [List.take_succ_eq_append_getElem hk]
  unfold fnv
  rw [List.foldl_append]
  simp [List.getD_eq_getElem?_getD, List.getElem?_eq_getElem hk]
theorem fnv_int (h : BitVec 64) (x : UInt8) : bits .xor .u64 (h.toNat : Int) (x.toNat : Int) * 1099511628211 % 18446744073709551616 = ((fnv1 h x).toNat : Int) := by
  have hx := x.toNat_lt
  have h1 : x.toNat < 18446744073709551616 := Nat.lt_of_lt_of_le hx (by decide)
  rw [u64_xor_nat h.toNat x.toNat h.isLt h1]
  unfold fnv1
  rw [BitVec.toNat_mul, BitVec.toNat_xor, BitVec.toNat_ofNat, Nat.mod_eq_of_lt h1]
  simp
theorem fnv_int' (h : BitVec 64) (x : UInt8) : IntKind.u64.wrap (bits .xor .u64 (h.toNat : Int) (IntKind.u64.wrap (x.toNat : Int)) * 1099511628211) = ((fnv1 h x).toNat : Int) := by
  have hx := x.toNat_lt
  have e : IntKind.u64.wrap (x.toNat : Int) = (x.toNat : Int) := by rw [IntKind.wrap_u64]; omega
  rw [e, IntKind.wrap_u64, fnv_int]
set_option maxRecDepth 100000 in
set_option maxHeartbeats 400000 in
theorem Hash_any (s : ByteArray) (hs : s.size ≤ 140737488355328) (w : World) : Calls Try.prog 94 #[.string s] w fun e w' => e = .returned (.int .u64 ((hash s).toNat : Int)) ∧ Below w.heap.size w w' := by
  have kb := fun W => print_bytes (P := Try.prog) 9 23 5 Try.underlying9 Try.underlying23 Try.underlying5 s W
  have hr := bytes_reads w 5 s (by omega)
  have hB := bytes_below (Below.refl w.heap.size w) (Nat.le_refl _) 5 s
  have hlen : s.data.toList.length = s.size := data_length s
  go_enter Try.func94, Try.ntmps94
  go_wp2
  generalize Lib.bytesWorld w 5 s = w1 at *
  go_loop [3, 9] (fun h i => ∃ k : Nat, k ≤ s.size ∧ i = .int .i64 (k : Int) ∧ h = .int .u64 ((fnv basis (s.data.toList.take k)).toNat : Int)) (fun _ i => s.size - (intOf i).toNat)
  case atStart => exact ⟨0, by omega, rfl, rfl⟩
  case round =>
    obtain ⟨k, hk, rfl, rfl⟩ := hrel
    by_cases hlt : k < s.size
    · obtain ⟨ad, had, hc⟩ := hr.at_ (k : Int) (by omega) (by omega)
      injection had with had
      subst had
      have hrd : rd (bytesOf s) (k : Int) = ((s.data.toList.getD k 0).toNat : Int) := by
        rw [rd, Int.toNat_natCast, bytesOf]
        simp [List.getD_eq_getElem?_getD, List.getElem?_map, List.getElem?_eq_getElem (show k < s.data.toList.length by omega)]
      rw [hrd] at hc
      have HS := hide (fnv_snoc basis s.data.toList k (by omega))
      obtain ⟨x, hx⟩ : ∃ x, s.data.toList.getD k 0 = x := ⟨_, rfl⟩
      rw [hx] at hc HS
      obtain ⟨h, hh⟩ : ∃ h, fnv basis (s.data.toList.take k) = h := ⟨_, rfl⟩
      rw [hh] at HS ⊢
      have HF := hide (fnv_int' h x)
      clear hrd hx hh
      rw [add_plain, Int.toNat_natCast] at hc
      go_wp2
      go_round
      case rel => exact ⟨k + 1, by omega, by go_num, by rw [HF.out, HS.out]⟩
      case measure => simp [intOf]; omega
    · obtain rfl : k = s.size := by omega
      have hfin : fnv basis (s.data.toList.take s.size) = hash s := by rw [List.take_of_length_le (by omega)]; rfl
      rw [hfin]
      go_wp2
      go_ret
      exact ⟨rfl, hB⟩
end Go.Proofs.Ytefcepjffeiaoaa.Bl
end

section
/- Bloom: filters; the walks of may, the reference's check. -/
namespace Go.Proofs.Ytefcepjffeiaoaa.Bl
open Go.RowKit Go.Proofs.YtefcepjffeiaoaaW.PrintWords
set_option linter.unusedVariables false

/-- a filter as a value -/
def fil (K : Int) (A : Option Addr) (n c : Nat) : Value := .agg #[.int .i64 K, .slice A n c]
def okF (K : Int) (n : Nat) : Prop := 1 ≤ K ∧ K ≤ 8 ∧ 1 ≤ n ∧ n ≤ 8192
instance (K : Int) (n : Nat) : Decidable (okF K n) := by unfold okF; exact inferInstance
theorem may_any (K : Int) (A : Option Addr) (n c : Nat) (w : World) : Calls Try.prog 56 #[fil K A n c] w fun e w' => e = .returned (.bool (decide (okF K n))) ∧ Below w.heap.size w w' := by
  unfold fil
  obtain ⟨z, hz⟩ : ∃ z, decide (okF K n) = z := ⟨_, rfl⟩
  have HZ := hide hz
  rw [hz]
  clear hz
  go_enter Try.func56, Try.ntmps56
  go_wp2
  all_goals (go_ret; refine ⟨?_, (Below.refl _ _).alloc (Nat.le_refl _) _⟩)
  all_goals (rw [← HZ.out]; unfold okF)
  all_goals (refine congrArg Ending.returned (congrArg Value.bool ?_); first | (refine (decide_eq_true ?_).symm; omega) | (refine (decide_eq_false ?_).symm; omega) | (refine decide_eq_decide.2 ?_; omega))
theorem check_any (K : Int) (A : Option Addr) (n c : Nat) (w : World) : Calls Try.prog 80 #[fil K A n c] w fun e w' => e = .returned (.int .i64 (if okF K n then 0 else 9)) ∧ Below w.heap.size w w' := by
  unfold fil
  obtain ⟨z, hz⟩ : ∃ z : Int, (if okF K n then (0 : Int) else 9) = z := ⟨_, rfl⟩
  have HZ := hide hz
  rw [hz]
  clear hz
  go_enter Try.func80, Try.ntmps80
  go_wp2
  all_goals (go_ret; refine ⟨?_, (Below.refl _ _).alloc (Nat.le_refl _) _⟩)
  all_goals (rw [← HZ.out]; first | (rw [if_pos (by unfold okF; omega)]; rfl) | (rw [if_neg (by unfold okF; omega)]; rfl))
end Go.Proofs.Ytefcepjffeiaoaa.Bl
end

section
/- Bloom: the walks of of, same. -/
namespace Go.Proofs.Ytefcepjffeiaoaa.Bl
open Go.RowKit Go.Proofs.YtefcepjffeiaoaaW.PrintWords
set_option linter.unusedVariables false

end Go.Proofs.Ytefcepjffeiaoaa.Bl
end

section
/- Bloom: the walks of Encode, and the reference's. -/
namespace Go.Proofs.Ytefcepjffeiaoaa.Bl
open Go.RowKit Go.Proofs.YtefcepjffeiaoaaW.PrintWords
set_option linter.unusedVariables false

/-- a filter that lies in a variable just laid, a call behind -/
theorem boxedF {w w1 : World} {K : Int} {s : Value} {ty : TypeId} (HB : Below (w.alloc (.cells #[.int .i64 K, s] ty)).heap.size (w.alloc (.cells #[.int .i64 K, s] ty)) w1) :
    w1.cell? ⟨w.heap.size, 0, none⟩ = some (.int .i64 K) ∧ w1.cell? ⟨w.heap.size, 1, none⟩ = some s ∧ Below w.heap.size w w1 := by
  have hs : w.heap.size < (w.alloc (.cells #[.int .i64 K, s] ty)).heap.size := by simp
  refine ⟨?_, ?_, ((Below.refl _ _).alloc (Nat.le_refl _) _).trans (HB.mono (by simp))⟩ <;> (rw [HB.cell hs, World.cell?_alloc_mark]; rfl)
def encF (K : Int) (xs : List UInt8) : List UInt8 := if okF K xs.length then UInt8.ofNat K.toNat :: xs else []
def encE (K : Int) (n : Nat) : Int := if okF K n then 0 else 9
theorem oneK (w : World) (K : Int) (h0 : 0 ≤ K) (h1 : K ≤ 255) : OwB (w.alloc (.cells #[.int .u8 K] 5)) w.heap.size (.slice (some ⟨w.heap.size, 0, none⟩) 1 1) [UInt8.ofNat K.toNat] := by
  have h := own_lit_of (enc := eu8) w w.heap.size 5 [UInt8.ofNat K.toNat] (Nat.le_refl _) (by simp)
  have e : (encs eu8 [UInt8.ofNat K.toNat]).toArray = #[Value.int .u8 K] := by
    simp [encs, eu8]
    omega
  rw [e] at h
  exact h
set_option maxRecDepth 100000 in
set_option maxHeartbeats 800000 in
theorem Encode_any (K : Int) (A : Option Addr) (c : Nat) (xs : List UInt8) (w : World) (hx : RdB w A c xs) :
    Calls Try.prog 33 #[fil K A xs.length c] w fun e w' => ∃ v, e = .returned (.tuple #[v, .int .i64 (encE K xs.length)]) ∧ OwB w' w.heap.size v (encF K xs) ∧ Below w.heap.size w w' := by
  have HM := may_any K A xs.length c
  by_cases hok : okF K xs.length
  · have e1 : encE K xs.length = 0 := by rw [encE, if_pos hok]
    have e2 : encF K xs = UInt8.ofNat K.toNat :: xs := by rw [encF, if_pos hok]
    rw [decide_eq_true hok] at HM
    rw [e1, e2]
    clear e1 e2
    obtain ⟨h1, h2, h3, h4⟩ := hok
    unfold fil at *
    go_enter Try.func33, Try.ntmps33
    go_wp2_with (first | (go_at_call 56; refine (HM _).mono ?_; rintro e w1 ⟨rfl, HB1⟩; obtain ⟨c0, c1, cB⟩ := boxedF HB1; clear HB1; have c2 : (w1.alloc (.cells #[.int .u8 K] 5)).cell? ⟨w.heap.size, 1, none⟩ = some (.slice A xs.length c) := pw_cell_below ((Below.refl w1.heap.size w1).alloc (Nat.le_refl _) _) c1; have HL := oneK w1 K (by omega) (by omega); have hx1 := (hx.below cB).below ((Below.refl w1.heap.size w1).alloc (Nat.le_refl _) (.cells #[.int .u8 K] 5))) | (at_builtin; refine app_row (w0 := w1) w1.heap.size rfl (.tmp 10) (.tmp 12) rfl _ [UInt8.ofNat K.toNat] xs A c rfl rfl HL hx1 ((Below.refl _ _).alloc (Nat.le_refl _) _) (by simp) (by simp; omega) ?_; intro v2 w2 HO2 HB2 hg2 hat2))
    go_ret2
    exact ⟨_, rfl, HO2.lower cB.size, cB.trans (HB2.mono cB.size)⟩
  · have e1 : encE K xs.length = 9 := by rw [encE, if_neg hok]
    have e2 : encF K xs = [] := by rw [encF, if_neg hok]
    rw [decide_eq_false hok] at HM
    rw [e1, e2]
    clear e1 e2
    unfold fil at *
    go_enter Try.func33, Try.ntmps33
    go_wp2_with (first | (go_at_call 56; refine (HM _).mono ?_; rintro e w1 ⟨rfl, HB1⟩; obtain ⟨c0, c1, cB⟩ := boxedF HB1; clear HB1))
    go_ret2
    exact ⟨_, rfl, OwB.zero _ _, cB⟩
end Go.Proofs.Ytefcepjffeiaoaa.Bl
end

section
/- Bloom: the places of a key; the walk of the reference's place. -/
namespace Go.Proofs.Ytefcepjffeiaoaa.Bl
open Go.RowKit Go.Proofs.YtefcepjffeiaoaaW.PrintWords
set_option linter.unusedVariables false

def plow (h : BitVec 64) : Nat := h.toNat % 4294967296
def phigh (h : BitVec 64) : Nat := (h.toNat / 4294967296) ||| 1
/-- the i-th place of a key among m bits -/
def place (s : ByteArray) (m i : Nat) : Nat := (plow (hash s) + i * phigh (hash s)) % 18446744073709551616 % m
theorem phigh_lt (h : BitVec 64) : phigh h < 4294967296 := by
  unfold phigh
  have := h.isLt
  exact Nat.or_lt_two_pow (n := 32) (by omega) (by decide)
theorem low_int (h : BitVec 64) : bits .and .u64 (h.toNat : Int) 4294967295 = (plow h : Int) := by
  have := u64_and_nat h.toNat 4294967295 h.isLt (by decide)
  rw [show (h.toNat &&& 4294967295) = plow h from Nat.and_two_pow_sub_one_eq_mod h.toNat 32] at this
  exact this
theorem high_int (h : BitVec 64) : bits .or .u64 ((h.toNat : Int) / 4294967296) 1 = (phigh h : Int) := by
  have hl := h.isLt
  have := u64_or_nat (h.toNat / 4294967296) 1 (by omega) (by decide)
  rw [show (((h.toNat / 4294967296 : Nat)) : Int) = (h.toNat : Int) / 4294967296 by omega] at this
  exact this
end Go.Proofs.Ytefcepjffeiaoaa.Bl
end

section
/- Bloom: the walk of the reference's Has. -/
namespace Go.Proofs.Ytefcepjffeiaoaa.Bl
open Go.RowKit Go.Proofs.YtefcepjffeiaoaaW.PrintWords
set_option linter.unusedVariables false

def bitN (xs : List UInt8) (p : Nat) : Nat := (xs.getD (p / 8) 0).toNat / 2 ^ (p % 8) % 2
/-- are the first k places of a key set? -/
def hasU (xs : List UInt8) (s : ByteArray) : Nat → Bool
  | 0 => true
  | k + 1 => hasU xs s k && (bitN xs (place s (8 * xs.length) k) != 0)
theorem hasU_no (xs : List UInt8) (s : ByteArray) (k m : Nat) (hk : k < m) (h : bitN xs (place s (8 * xs.length) k) = 0) : hasU xs s m = false := by
  induction m with
  | zero => omega
  | succ m ih =>
    rw [hasU]
    by_cases e : k = m
    · subst e; simp [h]
    · rw [ih (by omega)]; rfl
def hasB (K : Int) (xs : List UInt8) (s : ByteArray) : Bool := decide (okF K xs.length) && hasU xs s K.toNat
end Go.Proofs.Ytefcepjffeiaoaa.Bl
end

section
/- Bloom: the walks of Decode, and the reference's. -/
namespace Go.Proofs.Ytefcepjffeiaoaa.Bl
open Go.RowKit Go.Proofs.YtefcepjffeiaoaaW.PrintWords
set_option linter.unusedVariables false

def decOk (b : List UInt8) : Prop := 2 ≤ b.length ∧ okF ((b.getD 0 0).toNat : Int) (b.length - 1)
instance (b : List UInt8) : Decidable (decOk b) := by unfold decOk; exact inferInstance
/-- two cells of a block just laid, stored -/
theorem two_cells {w : World} {g : Nat} {t : TypeId} {x y u v : Value} (h : w.heap[g]? = some (.cells #[x, y] t (0, 0))) :
    ((w.setCell ⟨g, 0, none⟩ u).setCell ⟨g, 1, none⟩ v).heap[g]? = some (.cells #[u, v] t (0, 0)) := blk_set (blk_set h 0 u) 1 v
theorem two_read {w : World} {g : Nat} {t : TypeId} {x y : Value} (h : w.heap[g]? = some (.cells #[x, y] t (0, 0))) :
    w.cell? ⟨g, 0, none⟩ = some x ∧ w.cell? ⟨g, 1, none⟩ = some y ∧ w.frozen? ⟨g, 0, none⟩ = false ∧ w.frozen? ⟨g, 1, none⟩ = false := ⟨blk_cell h 0, blk_cell h 1, blk_frozen h 0, blk_frozen h 1⟩
end Go.Proofs.Ytefcepjffeiaoaa.Bl
end

section
/- Bloom: a range over a function whose iterator keeps a cell of its own: the statement, out of the iterator's word and of one round's walk. -/
namespace Go.Proofs.Ytefcepjffeiaoaa.Bl
open Go.RowKit Go.Shelf Go.Proofs.YtefcepjffeiaoaaW.PrintWords
set_option linter.unusedVariables false

/-- blocks from c on lie as they lay -/
structure Past (c : Nat) (A B : World) : Prop where
  size : A.heap.size ≤ B.heap.size
  block : ∀ j, c ≤ j → j < A.heap.size → B.heap[j]? = A.heap[j]?
theorem Past.refl (c : Nat) (A : World) : Past c A A := ⟨Nat.le_refl _, fun _ _ _ => rfl⟩
theorem Past.trans {c : Nat} {A B C : World} (h : Past c A B) (k : Past c B C) : Past c A C := ⟨Nat.le_trans h.size k.size, fun j hj hl => (k.block j hj (Nat.lt_of_lt_of_le hl h.size)).trans (h.block j hj hl)⟩
theorem Past.grown {c : Nat} {A B : World} {row : Option Nat} (hg : A.grownBy B row) (hs : A.heap.size ≤ B.heap.size) (hr : ∀ k, row = some k → k < c) : Past c A B :=
  ⟨hs, fun j hj hl => hg.block j hl (fun e => by have := hr j e.symm; omega)⟩
theorem Past.setCell {c : Nat} (A : World) (b i : Nat) (hb : b < c) (v : Value) : Past c A (A.setCell ⟨b, i, none⟩ v) := by
  exact ⟨by rw [World.size_setCell]; exact Nat.le_refl _, fun j hj hl => Below.heap_setCell A ⟨b, i, none⟩ v j (by show j ≠ b; omega)⟩
theorem below_put {c : Nat} (A : World) (j : Nat) (o : Obj) (hj : c ≤ j) (hl : j < A.heap.size) : Below c A (A.putObj j o) :=
  (Below.refl c A).grown (grownBy_putObj' A j o) (by omega) (fun k e => by cases e; omega)

/-- the iterator's word: N rounds with these values, in order, if each goes on; what lies from c0 on of the caller's world is its own -/
def Iter (P : Program) (gf : Nat) (lb : Array Value) (c0 g0 N : Nat) (vals : Nat → Array Value) (w : World) : Prop :=
  ∀ (n l : Nat) (J Jx : Nat → World → Prop) (W : World), (∀ j, c0 ≤ j → j < w.heap.size → W.heap[j]? = w.heap[j]?) → w.heap.size ≤ W.heap.size →
    (∀ k A v, J k A → J k (A.setCell ⟨g0, 0, none⟩ v)) →
    (∀ k A, k < N → J k A → YieldAt Fence.wide (n - 1) P l (vals k) A fun e B => (e = .returned (.bool true) ∧ J (k + 1) B ∧ (∀ j, c0 ≤ j → j < w.heap.size → B.heap[j]? = A.heap[j]?)) ∨ (e = .returned (.bool false) ∧ Jx k B)) →
    J 0 W → CallsIn Fence.wide n P gf (#[.func (.yield l) #[] #[]] ++ lb) W fun e B => (∃ v, e = .returned v) ∧ (J N B ∨ ∃ k, k < N ∧ Jx k B)

/-- how a round's body may end -/
def roundEnd (c0 : Nat) (I Ix : Nat → World → Prop) (k : Nat) (W : World) : Exit → Act → World → Prop
  | .normal, _, B => Past c0 W B ∧ I (k + 1) B
  | .ret, _, B => Past c0 W B ∧ Ix k B
  | _, _, _ => False

theorem range_iter {n : Nat} {P : Program} {g : Operand} {ps : Array Tmp} {assign body : Code} {Q : Exit → Act → World → Prop} {a : Act} {w : World} {gf : Nat} {lb : Array Value} {N c0 g0 : Nat} {vals : Nat → Array Value}
    (hg : a.eval g = .func (.func gf) #[] lb) (eg : ∀ args w, (callFunc gf args).run P w = .ok (.enter gf args) w) (hps : ∀ k, (vals k).size = ps.size) (hc : c0 ≤ w.heap.size) (hg0 : c0 ≤ g0) (hg1 : g0 < w.heap.size)
    (hit : Iter P gf lb c0 g0 N vals w) (I Ix : Nat → World → Prop) (hI : ∀ k A B, Below c0 A B → I k A → I k B) (hIx : ∀ k A B, Below c0 A B → Ix k A → Ix k B) (h0 : I 0 w) (a₁ : Nat → Act)
    (hassign : ∀ (l k : Nat) (W : World) (K : Act → World → Prop), K (a₁ k) W →
      assign.wpIn (Fence.wide.inRound l) (n - 1 - 1) P (Exit.then K (fun _ _ _ => False)) { tmps := (ps.zip (vals k)).foldl (fun t (p, v) => t.setIfInBounds p v) a.tmps, defers := [] } W)
    (hbody : ∀ (l k : Nat) (W : World), k < N → I k W → body.wpIn (Fence.wide.inRound l) (n - 1 - 1) P (roundEnd c0 I Ix k W) (a₁ k) W)
    (hdone : ∀ (W : World), I N W → w.heap.size ≤ W.heap.size → W.heap[w.heap.size]? = some (.deferred (some [])) → Q .normal { a with defers := { target := .collected w.heap.size, args := #[] } :: a.defers } W)
    (hstop : ∀ (k : Nat) (W : World), k < N → Ix k W → w.heap.size ≤ W.heap.size → W.heap[w.heap.size]? = some (.deferred (some [])) → Code.ret.wpIn Fence.wide n P Q { a with defers := { target := .collected w.heap.size, args := #[] } :: a.defers } W) :
    (Code.rangeFunc g ps assign body).wpIn Fence.wide n P Q a w := by
  refine wpIn_rangeFunc fun fn hfn => ?_
  obtain ⟨D, hD⟩ : ∃ D, w.heap.size = D := ⟨_, rfl⟩
  let rec₀ : LoopState → Option Code → Loop := fun st pe => { state := st, pending := pe, fn := fn, tmps := a.tmps, params := ps, assign := assign, body := body, defers := w.heap.size }
  let W1 : World := (w.alloc (.deferred (some []))).alloc (.loop (rec₀ .ready none))
  have s1 : W1.heap.size = D + 2 := by simp [W1, hD]
  have r1 : W1.heap[D + 1]? = some (.loop (rec₀ .ready none)) := by
    have h := World.alloc_heap_new (w.alloc (.deferred (some []))) (.loop (rec₀ .ready none))
    rw [World.size_alloc, hD] at h
    exact h
  have d1 : W1.heap[D]? = some (.deferred (some [])) := by
    rw [← hD]
    exact (Below.heap_alloc _ _ _ (by simp)).trans (World.alloc_heap_new w _)
  have hb1 : Below D w W1 := ((Below.refl _ _).alloc (by omega) _).alloc (by simp; omega) _
  have hd2 : D = w.heap.size := hD.symm
  refine ⟨D + 1, [{ target := .collected D, args := #[] }], W1, { target := .fn (.func gf) lb, args := #[.func (.yield (D + 1)) #[] #[]] }, W1, gf, #[.func (.yield (D + 1)) #[] #[]] ++ lb, W1, ?_, ?_, fun _ _ => trivial, ?_, fun h => absurd h (by simp [Fence.wide]), ?_⟩
  · subst hD
    exact run_enterLoop_outer _ _ _ _ _
  · simp only [resolve, hg]
    simp [go_sem]
  · simp [invoke, go_sem, eg]
  · refine (hit (n - 1) (D + 1) (fun k A => I k A ∧ A.heap[D + 1]? = some (.loop (rec₀ .ready none)) ∧ A.heap[D]? = some (.deferred (some [])) ∧ D ≤ A.heap.size)
      (fun k A => Ix k A ∧ A.heap[D + 1]? = some (.loop (rec₀ .done (some .ret))) ∧ A.heap[D]? = some (.deferred (some [])) ∧ D ≤ A.heap.size) W1 (fun j _ hj => hb1.block j (by omega)) (by omega) ?_ ?_
      ⟨hI _ _ _ (hb1.mono (by omega)) h0, r1, d1, by omega⟩).mono ?_
    · rintro k A v ⟨hi, hl, hk, hs⟩
      have hp := fun j (hj : g0 ≠ j) => Below.heap_setCell A ⟨g0, 0, none⟩ v j (show j ≠ g0 from fun e => hj e.symm)
      exact ⟨hI _ _ _ ((Below.refl c0 A).setCell (p := ⟨g0, 0, none⟩) hg0 v) hi, (hp _ (by omega)).trans hl, (hp _ (by omega)).trans hk, by rw [World.size_setCell]; exact hs⟩
    · rintro k A hkN ⟨hi, hl, hk, hs⟩
      have hlt : D + 1 < A.heap.size := (Array.getElem?_eq_some_iff.1 hl).1
      refine ⟨fn, _, assign, body, run_yield hl (hps k), roundIn_of_wpIn hfn (hassign _ k A _ ⟨_, run_beginRound hl rfl, ?_⟩)⟩
      have l2 : (A.putObj (D + 1) (.loop (rec₀ .busy none))).heap[D + 1]? = some (.loop (rec₀ .busy none)) := World.putObj_heap_same hlt
      have k2 : (A.putObj (D + 1) (.loop (rec₀ .busy none))).heap[D]? = some (.deferred (some [])) := (World.putObj_heap_other (by omega)).trans hk
      have i2 : I k (A.putObj (D + 1) (.loop (rec₀ .busy none))) := hI _ _ _ (below_put A (D + 1) _ (by omega) hlt) hi
      refine wpIn_mono (hbody _ k _ hkN i2) ?_
      intro e a3 B hp
      have fin : ∀ (jump : Option Code), Past c0 (A.putObj (D + 1) (.loop (rec₀ .busy none))) B →
          (Instr.endRound (D + 1) jump).run P B = .ok (.bool jump.isNone) (B.putObj (D + 1) (.loop (rec₀ (if jump.isNone then .ready else .done) jump))) ∧
          (B.putObj (D + 1) (.loop (rec₀ (if jump.isNone then .ready else .done) jump))).heap[D + 1]? = some (.loop (rec₀ (if jump.isNone then .ready else .done) jump)) ∧
          (B.putObj (D + 1) (.loop (rec₀ (if jump.isNone then .ready else .done) jump))).heap[D]? = some (.deferred (some [])) ∧ Below c0 B (B.putObj (D + 1) (.loop (rec₀ (if jump.isNone then .ready else .done) jump))) ∧
          (∀ j, c0 ≤ j → j < w.heap.size → (B.putObj (D + 1) (.loop (rec₀ (if jump.isNone then .ready else .done) jump))).heap[j]? = A.heap[j]?) ∧ D ≤ (B.putObj (D + 1) (.loop (rec₀ (if jump.isNone then .ready else .done) jump))).heap.size := fun jump hpast => by
        have sz := hpast.size
        rw [World.putObj_size] at sz
        have l3 := (hpast.block (D + 1) (by omega) (by rw [World.putObj_size]; exact hlt)).trans l2
        have k3 := (hpast.block D (by omega) (by rw [World.putObj_size]; omega)).trans k2
        refine ⟨run_endRound jump l3, World.putObj_heap_same (by omega), (World.putObj_heap_other (by omega)).trans k3, below_put B (D + 1) _ (by omega) (by omega), fun j h1 h2 => ?_, by rw [World.putObj_size]; omega⟩
        rw [World.putObj_heap_other (by omega), hpast.block j h1 (by rw [World.putObj_size]; omega), World.putObj_heap_other (by omega)]
      cases e with
      | normal =>
        obtain ⟨hpa, hin⟩ := hp
        obtain ⟨f1, f2, f3, f4, f5, f6⟩ := fin none hpa
        exact ⟨_, _, f1, .inl ⟨rfl, ⟨hI _ _ _ f4 hin, f2, f3, f6⟩, f5⟩⟩
      | ret =>
        obtain ⟨hpa, hin⟩ := hp
        obtain ⟨f1, f2, f3, f4, f5, f6⟩ := fin (some .ret) hpa
        exact ⟨_, _, f1, .inr ⟨rfl, hIx _ _ _ f4 hin, f2, f3, f6⟩⟩
      | exit id => exact hp.elim
      | goto t => exact hp.elim
      | panic ch => exact hp.elim
      | outgrown => exact hp.elim
    · rintro e B ⟨⟨v, rfl⟩, (⟨hi, hl, hk, hs⟩ | ⟨k, hkN, hi, hl, hk, hs⟩)⟩
      · have hlt : D + 1 < B.heap.size := (Array.getElem?_eq_some_iff.1 hl).1
        refine ⟨none, _, run_endLoop hl (by simp [rec₀]), ?_⟩
        subst hD
        exact hdone _ (hI _ _ _ (below_put B _ _ (by omega) hlt) hi) (by rw [World.putObj_size]; exact hs) ((World.putObj_heap_other (by omega)).trans hk)
      · have hlt : D + 1 < B.heap.size := (Array.getElem?_eq_some_iff.1 hl).1
        refine ⟨some .ret, _, run_endLoop hl (by simp [rec₀]), ?_⟩
        subst hD
        exact hstop k _ hkN (hIx _ _ _ (below_put B _ _ (by omega) hlt) hi) (by rw [World.putObj_size]; exact hs) ((World.putObj_heap_other (by omega)).trans hk)
end Go.Proofs.Ytefcepjffeiaoaa.Bl
end

section
/- Bloom: the walk of places (the maker of the iterator), and the iterator's word. -/
namespace Go.Proofs.Ytefcepjffeiaoaa.Bl
open Go.RowKit Go.Shelf Go.Proofs.YtefcepjffeiaoaaW.PrintWords
set_option linter.unusedVariables false

/-- the iterator's three boxes: the filter, low, high -/
structure Boxes (w : World) (c0 g0 : Nat) (K : Int) (A : Option Addr) (n c lo hi : Nat) : Prop where
  f : w.heap[c0]? = some (.cells #[.int .i64 K, .slice A n c] 32)
  lo : w.heap[g0]? = some (.cells #[.int .u64 (lo : Int)] 70)
  hi : w.heap[g0 + 1]? = some (.cells #[.int .u64 (hi : Int)] 70)
def iterF (c0 g0 : Nat) : Array Value := #[.pointer (some ⟨c0, 0, none⟩), .pointer (some ⟨g0, 0, none⟩), .pointer (some ⟨g0 + 1, 0, none⟩)]
set_option maxRecDepth 100000 in
set_option maxHeartbeats 800000 in
theorem places_any (K : Int) (A : Option Addr) (n c : Nat) (s : ByteArray) (hs : s.size ≤ 140737488355328) (w : World) :
    Calls Try.prog 57 #[fil K A n c, .string s] w fun e w' => ∃ g0, w.heap.size < g0 ∧ e = .returned (.func (.func 95) #[] (iterF w.heap.size g0)) ∧
      w'.heap.size = g0 + 2 ∧ Boxes w' w.heap.size g0 K A n c (plow (hash s)) (phigh (hash s)) ∧ Below w.heap.size w w' := by
  have hH := Hash_any s hs
  have h1 := low_int (hash s)
  have h2 := high_int (hash s)
  have hl : plow (hash s) < 4294967296 := Nat.mod_lt _ (by decide)
  have hh := phigh_lt (hash s)
  have hb := (hash s).isLt
  obtain ⟨N, hN⟩ : ∃ N, (hash s).toNat = N := ⟨_, rfl⟩
  have e1 : plow (hash s) = N % 4294967296 := by rw [plow, hN]
  rw [e1] at h1 hl ⊢
  rw [hN] at h1 h2 hb
  simp only [hN] at hH
  have e2 : N / 4294967296 < 4294967296 := by omega
  obtain ⟨M, hM⟩ : ∃ M, phigh (hash s) = M := ⟨_, rfl⟩
  rw [hM] at h2 hh ⊢
  have e3 : bits .or .u32 ((N : Int) / 4294967296) 1 = (M : Int) := by
    have h3 := u32_or_nat (N / 4294967296) 1 (by omega) (by decide)
    rw [show (((N / 4294967296 : Nat)) : Int) = (N : Int) / 4294967296 by omega] at h3
    rw [← hM, phigh, hN]
    exact h3
  clear e1 hN hM h1 h2
  unfold fil
  go_enter Try.func57, Try.ntmps57
  go_wp2_with (first | (go_at_call 94; refine (hH _).mono ?_; rintro e w1 ⟨rfl, HB1⟩))
  go_ret
  rw [show (N : Int) % 4294967296 = ((N % 4294967296 : Nat) : Int) by omega]
  have hz := HB1.size
  rw [World.size_alloc] at hz
  have q0 := heap_alloc_new w (.cells #[.int .i64 K, .slice A n c] 32)
  have q1 := (HB1.block w.heap.size (by simp)).trans q0
  have q2 := heap_alloc_new w1 (.cells #[.int .u64 ((N % 4294967296 : Nat) : Int)] 70)
  have q3 := heap_alloc_new (w1.alloc (.cells #[.int .u64 ((N % 4294967296 : Nat) : Int)] 70)) (.cells #[.int .u64 (M : Int)] 70)
  rw [World.size_alloc] at q3
  refine ⟨w1.heap.size, by omega, rfl, by simp, ⟨?_, ?_, q3⟩, ?_⟩
  · exact (Below.heap_alloc _ _ _ (by simp; omega)).trans ((Below.heap_alloc _ _ _ (by omega)).trans q1)
  · exact (Below.heap_alloc _ _ _ (by simp)).trans q2
  · exact ((((Below.refl _ w).alloc (Nat.le_refl _) _).trans (HB1.mono (by simp))).alloc (by omega) _).alloc (by simp; omega) _
theorem Boxes.same {A B : World} {c0 g0 : Nat} {K : Int} {a : Option Addr} {n c lo hi : Nat} (h : Boxes A c0 g0 K a n c lo hi) (h0 : B.heap[c0]? = A.heap[c0]?) (h1 : B.heap[g0]? = A.heap[g0]?) (h2 : B.heap[g0 + 1]? = A.heap[g0 + 1]?) : Boxes B c0 g0 K a n c lo hi :=
  ⟨h0.trans h.f, h1.trans h.lo, h2.trans h.hi⟩
theorem Boxes.set {A : World} {c0 g0 : Nat} {K : Int} {a : Option Addr} {n c lo hi : Nat} (h : Boxes A c0 g0 K a n c lo hi) (hne : c0 < g0) (lo' : Nat) : Boxes (A.setCell ⟨g0, 0, none⟩ (.int .u64 (lo' : Int))) c0 g0 K a n c lo' hi :=
  ⟨(Below.heap_setCell _ _ _ _ (show c0 ≠ g0 by omega)).trans h.f, blk_set h.lo 0 _, (Below.heap_setCell _ _ _ _ (show g0 + 1 ≠ g0 by omega)).trans h.hi⟩
/-- the place of round k -/
def placeL (lo hi n k : Nat) : Nat := (lo + k * hi) % 18446744073709551616 % (8 * n)
def valsF (lo hi n k : Nat) : Array Value := #[.int .i64 ((placeL lo hi n k / 8 : Nat) : Int), .int .u8 ((2 ^ (placeL lo hi n k % 8) : Nat) : Int)]
theorem and7_i64 (n : Int) : bits .and .i64 n 7 = n % 8 := by
  have h7 : (BitVec.ofInt 64 7).toNat = 2 ^ 3 - 1 := by decide
  have key : (BitVec.ofInt 64 n &&& BitVec.ofInt 64 7).toNat = (n % ((2 ^ 64 : Nat) : Int)).toNat % 2 ^ 3 := by
    rw [BitVec.toNat_and, BitVec.toNat_ofInt, h7, Nat.and_two_pow_sub_one_eq_mod]
  show IntKind.i64.wrap ((BitVec.ofInt 64 n &&& BitVec.ofInt 64 7).toNat : Nat) = n % 8
  rw [key, IntKind.wrap_i64]
  omega
theorem pow_bit (r : Nat) (hr : r < 8) : (2 : Int) ^ r % 256 = ((2 ^ r : Nat) : Int) := by
  match r, hr with
  | 0, _ => rfl
  | 1, _ => rfl
  | 2, _ => rfl
  | 3, _ => rfl
  | 4, _ => rfl
  | 5, _ => rfl
  | 6, _ => rfl
  | 7, _ => rfl
theorem wrap_mod (z n p : Nat) (hn : 1 ≤ n) (hn2 : n ≤ 140737488355328) (hp : z % (8 * n) = p) : wrap64 ((z : Int) % (8 * (n : Int))) = (p : Int) := by
  have hl : p < 8 * n := by rw [← hp]; exact Nat.mod_lt _ (by omega)
  rw [show (z : Int) % (8 * (n : Int)) = (p : Int) by rw [← hp]; simp]
  unfold wrap64
  omega
set_option maxRecDepth 100000 in
set_option maxHeartbeats 1600000 in
theorem iter_any (m n c lo hi c0 g0 : Nat) (A : Option Addr) (w : World) (hB : Boxes w c0 g0 (m : Int) A n c lo hi) (hm : m < 1000) (hn : 1 ≤ n) (hn2 : n ≤ 140737488355328) (hlo : lo < 18446744073709551616) (hhi : hi < 18446744073709551616) (hc : c0 < g0) (hg : g0 + 2 ≤ w.heap.size) :
    Iter Try.prog 95 (iterF c0 g0) c0 g0 m (valsF lo hi n) w := by
  intro d l J Jx W hW hsz hJ hR h0
  unfold iterF
  refine callsIn_of_wp Try.func95 rfl trivial ?_ rfl
  simp only [Try.ntmps95, List.size_toArray, List.length_cons, List.length_nil, Nat.reduceAdd, Nat.reduceSub, Array.replicate_succ, Array.replicate_zero, List.push_toArray, List.append_toArray, List.nil_append, List.cons_append]
  have hB1 : Boxes W c0 g0 (m : Int) A n c lo hi := hB.same (hW _ (Nat.le_refl _) (by omega)) (hW _ (by omega) (by omega)) (hW _ (by omega) (by omega))
  obtain ⟨b0, b1, b2, b3⟩ := two_read hB1.f
  gi_wp2
  gi_loopw [8] (fun i wr => ∃ k : Nat, k ≤ m ∧ i = .int .i64 (k : Int) ∧ J k wr ∧ Boxes wr c0 g0 (m : Int) A n c ((lo + k * hi) % 18446744073709551616) hi) (fun i wr => m - (intOf i).toNat)
  case atStart => exact ⟨0, by omega, rfl, h0, by rw [show (lo + 0 * hi) % 18446744073709551616 = lo by omega]; exact hB1⟩
  case round =>
    obtain ⟨k, hk, rfl, hJk, hBk⟩ := hrel
    by_cases hlt : k < m
    · obtain ⟨fn, tmps, assign, body, hy, hRd⟩ := hR k wr hlt hJk
      have hnext : (lo + (k + 1) * hi) % 18446744073709551616 = ((lo + k * hi) % 18446744073709551616 + hi) % 18446744073709551616 := by
        rw [Nat.add_mul, Nat.one_mul]; omega
      unfold valsF placeL at hy
      obtain ⟨z, hz⟩ : ∃ z, (lo + k * hi) % 18446744073709551616 = z := ⟨_, rfl⟩
      have hzl : z < 18446744073709551616 := by rw [← hz]; exact Nat.mod_lt _ (by decide)
      have HZ := hide hz
      rw [hz] at hBk hy hnext
      have HN := hide hnext
      clear hz hnext
      obtain ⟨p, hp⟩ : ∃ p, z % (8 * n) = p := ⟨_, rfl⟩
      have hpl : p < 8 * n := by rw [← hp]; exact Nat.mod_lt _ (by omega)
      rw [hp] at hy
      obtain ⟨a0, a1, a2, a3⟩ := two_read hBk.f
      have a4 := blk_cell hBk.lo 0
      have a5 := blk_frozen hBk.lo 0
      have a6 := blk_cell hBk.hi 0
      have hki : (k : Int) < (m : Int) := by omega
      have hw1 := wrap_mod z n p hn hn2 hp
      obtain ⟨q, hq⟩ : ∃ q, p / 8 = q := ⟨_, rfl⟩
      obtain ⟨r, hr⟩ : ∃ r, p % 8 = r := ⟨_, rfl⟩
      have hr8 : r < 8 := by rw [← hr]; exact Nat.mod_lt _ (by decide)
      have hw2 : (p : Int) / 8 = (q : Int) := by rw [← hq]; simp
      have hw3 : bits .and .i64 (p : Int) 7 = (r : Int) := by rw [and7_i64, ← hr]; simp
      have hw4 := pow_bit r hr8
      rw [hq, hr] at hy
      clear hq hr hp
      have H4 := hide hw4
      clear hw4
      generalize hT : ((2 ^ r : Nat) : Int) = t at *
      have hw4 := H4.out
      gi_wp2
      refine ⟨fun h => absurd h (by simp [Fence.wide]), hRd.mono ?_⟩
      rintro e B (⟨rfl, hJB, hkeep⟩ | ⟨rfl, hJx⟩)
      · have hBB : Boxes B c0 g0 (m : Int) A n c z hi := hBk.same (hkeep _ (Nat.le_refl _) (by omega)) (hkeep _ (by omega) (by omega)) (hkeep _ (by omega) (by omega))
        obtain ⟨d0, d1, d2, d3⟩ := two_read hBB.f
        have d4 := blk_cell hBB.lo 0
        have d5 := blk_frozen hBB.lo 0
        have d6 := blk_cell hBB.hi 0
        gi_wp2
        go_roundw
        case rel => exact ⟨k + 1, by omega, by go_num, hJ _ _ _ hJB, by rw [HN.out]; exact hBB.set hc _⟩
        case measure => simp [intOf]; omega
      · gi_wp2
        refine bodyPost_ret (results_none rfl _ _ _) rfl ?_
        exact ⟨⟨_, rfl⟩, .inr ⟨k, hlt, hJx⟩⟩
    · obtain rfl : k = m := by omega
      gi_wp2
      go_end0
      exact ⟨⟨_, rfl⟩, .inl hJk⟩
end Go.Proofs.Ytefcepjffeiaoaa.Bl
end

section
/- Bloom: the walk of Has. -/
namespace Go.Proofs.Ytefcepjffeiaoaa.Bl
open Go.RowKit Go.Shelf Go.Proofs.YtefcepjffeiaoaaW.PrintWords
set_option linter.unusedVariables false
attribute [local go_sem] Oper.semAt_some

theorem leaves_nil {F : Fence} {n : Nat} {P : Program} {fn : Func} {tmps : Array Value} {R : Ending → World → Prop} {w : World} (v : Value) (h : (results fn tmps).run P w = .ok v w) (hR : R (.returned v) w) : LeavesInM F n P fn tmps R [] .returning w := ⟨v, h, hR⟩
set_option maxRecDepth 100000 in
theorem bit_all : ∀ (n : Fin 256) (r : Fin 8), n.val &&& 2 ^ r.val = n.val / 2 ^ r.val % 2 * 2 ^ r.val := by decide +kernel
theorem bit_and (x : UInt8) (r : Nat) (hr : r < 8) : bits .and .u8 (x.toNat : Int) ((2 ^ r : Nat) : Int) = ((x.toNat / 2 ^ r % 2 * 2 ^ r : Nat) : Int) := by
  have hx := x.toNat_lt
  have h2 : 2 ^ r ≤ 2 ^ 7 := Nat.pow_le_pow_right (by decide) (by omega)
  rw [u8_and_nat x.toNat (2 ^ r) (by omega) (by omega)]
  congr 1
  exact bit_all ⟨x.toNat, by omega⟩ ⟨r, hr⟩
set_option maxRecDepth 100000 in
set_option maxHeartbeats 1600000 in
theorem Has_any (K : Int) (A : Option Addr) (c : Nat) (xs : List UInt8) (s : ByteArray) (hs : s.size ≤ 140737488355328) (w : World) (hx : RdB w A c xs) :
    Calls Try.prog 22 #[fil K A xs.length c, .string s] w fun e w' => e = .returned (.tuple #[.bool (hasB K xs s), .int .i64 (encE K xs.length)]) ∧ Below w.heap.size w w' := by
  have HM := may_any K A xs.length c
  by_cases hok : okF K xs.length
  · have e1 : encE K xs.length = 0 := by rw [encE, if_pos hok]
    have e2 : hasB K xs s = hasU xs s K.toNat := by rw [hasB, decide_eq_true hok]; rfl
    rw [decide_eq_true hok] at HM
    rw [e1, e2]
    clear e1 e2
    obtain ⟨h1, h2, h3, h4⟩ := hok
    obtain ⟨m, rfl⟩ : ∃ m : Nat, K = (m : Int) := ⟨K.toNat, by omega⟩
    rw [Int.toNat_natCast]
    obtain ⟨z, hz⟩ : ∃ z, hasU xs s m = z := ⟨_, rfl⟩
    have HZ := hide hz
    rw [hz]
    clear hz
    have HP := places_any (m : Int) A xs.length c s hs
    have W0 : ∃ W0, ((w.alloc (.cells #[.int .i64 (m : Int), .slice A xs.length c] 32)).alloc (.cells #[.bool false] 4)).alloc (.cells #[.int .i64 0] 26) = W0 := ⟨_, rfl⟩
    obtain ⟨W0, hW0⟩ := W0
    have z0 : W0.heap.size = w.heap.size + 3 := by rw [← hW0]; simp
    have z1 : Below w.heap.size w W0 := by rw [← hW0]; exact (((Below.refl _ _).alloc (Nat.le_refl _) _).alloc (by simp) _).alloc (by simp; omega) _
    have z2 : W0.heap[w.heap.size]? = some (.cells #[.int .i64 (m : Int), .slice A xs.length c] 32) := by
      rw [← hW0, Below.heap_alloc _ _ _ (by simp; omega), Below.heap_alloc _ _ _ (by simp)]; exact heap_alloc_new w _
    have z3 : W0.heap[w.heap.size + 1]? = some (.cells #[.bool false] 4) := by
      rw [← hW0, Below.heap_alloc _ _ _ (by simp)]
      have := heap_alloc_new (w.alloc (.cells #[.int .i64 (m : Int), .slice A xs.length c] 32)) (.cells #[.bool false] 4)
      rwa [World.size_alloc] at this
    have z4 : W0.heap[w.heap.size + 1 + 1]? = some (.cells #[.int .i64 0] 26) := by
      rw [← hW0]
      have := heap_alloc_new ((w.alloc (.cells #[.int .i64 (m : Int), .slice A xs.length c] 32)).alloc (.cells #[.bool false] 4)) (.cells #[.int .i64 0] 26)
      rwa [World.size_alloc, World.size_alloc] at this
    obtain ⟨b0, b1, b2, b3⟩ := two_read z2
    have b4 := blk_cell z3 0
    have b5 := blk_frozen z3 0
    have b6 := blk_cell z4 0
    have b7 := blk_frozen z4 0
    have hall : ∀ W, Below W0.heap.size W0 W → Below w.heap.size w W ∧ W.heap[w.heap.size]? = some (.cells #[.int .i64 (m : Int), .slice A xs.length c] 32) ∧ W.heap[w.heap.size + 1]? = some (.cells #[.bool false] 4) ∧ W.heap[w.heap.size + 1 + 1]? = some (.cells #[.int .i64 0] 26) ∧ w.heap.size + 3 ≤ W.heap.size := fun W h =>
      ⟨z1.trans (h.mono z1.size), (h.block _ (by omega)).trans z2, (h.block _ (by omega)).trans z3, (h.block _ (by omega)).trans z4, by have := h.size; omega⟩
    have Z0 := hide z0
    clear z0
    unfold fil at *
    refine (callsIn_wide (n := 9)).1 ?_
    refine callsIn_of_wp_marks Try.func22 rfl trivial ?_ rfl
    simp only [Try.ntmps22, List.size_toArray, List.length_cons, List.length_nil, Nat.reduceAdd, Nat.reduceSub, Array.replicate_succ, Array.replicate_zero, List.push_toArray, List.append_toArray, List.nil_append, List.cons_append]
    gi_wp2_with (first | (refine ⟨trivial, ?_⟩; gi_at_call 56; refine (callsIn_wide.2 (HM _)).mono ?_; rintro e w1 ⟨rfl, HB1⟩; obtain ⟨B1, q0, q1, q2, q3⟩ := hall _ HB1; obtain ⟨d0, d1, d2, d3⟩ := two_read q0; have d4 := blk_cell q1 0; have d5 := blk_frozen q1 0; have d6 := blk_cell q2 0; have d7 := blk_frozen q2 0) | (refine ⟨trivial, ?_⟩; gi_at_call 57; refine (callsIn_wide.2 (HP _)).mono ?_; rintro e w2 ⟨g0, hg0, rfl, hsz2, hbx, HB2⟩))
    obtain ⟨c0, hc0⟩ : ∃ c0, w1.heap.size = c0 := ⟨_, rfl⟩
    have hw1s := HB1.size
    have hw2s := HB2.size
    rw [hc0] at hbx HB2 hw2s hg0
    have hc0' : w.heap.size + 3 ≤ c0 := by rw [← hc0]; exact q3
    refine range_iter (gf := 95) (lb := iterF c0 g0) (N := m) (c0 := c0) (g0 := g0) (vals := valsF (plow (hash s)) (phigh (hash s)) xs.length) (by rw [hc0]; rfl) (enters_of Try.func95 (by kernel_rfl) rfl) (fun _ => rfl) (by omega) (by omega) (by omega)
      (iter_any m xs.length c _ _ c0 g0 A w2 hbx (by omega) (by omega) (by omega) (Nat.lt_trans (Nat.mod_lt _ (by decide)) (by decide)) (Nat.lt_trans (phigh_lt _) (by decide)) hg0 (by omega))
      (fun k W => Below w.heap.size w W ∧ W.heap[w.heap.size]? = some (.cells #[.int .i64 (m : Int), .slice A xs.length c] 32) ∧ W.heap[w.heap.size + 1]? = some (.cells #[.bool false] 4) ∧ W.heap[w.heap.size + 1 + 1]? = some (.cells #[.int .i64 0] 26) ∧ hasU xs s k = true)
      (fun k W => Below w.heap.size w W ∧ W.heap[w.heap.size + 1]? = some (.cells #[.bool false] 4) ∧ W.heap[w.heap.size + 1 + 1]? = some (.cells #[.int .i64 0] 26) ∧ hasU xs s m = false)
      (fun k X Y h ⟨i1, i2, i3, i4, i5⟩ => ⟨i1.trans (h.mono (by omega)), (h.block _ (by omega)).trans i2, (h.block _ (by omega)).trans i3, (h.block _ (by omega)).trans i4, i5⟩)
      (fun k X Y h ⟨i1, i3, i4, i5⟩ => ⟨i1.trans (h.mono (by omega)), (h.block _ (by omega)).trans i3, (h.block _ (by omega)).trans i4, i5⟩)
      ⟨B1.trans (HB2.mono (by omega)), (HB2.block _ (by omega)).trans q0, (HB2.block _ (by omega)).trans q1, (HB2.block _ (by omega)).trans q2, rfl⟩
      (fun k => { tmps := #[.agg #[.int .i64 (m : Int), .slice A xs.length c], .string s, .pointer (some ⟨w.heap.size, 0, none⟩), undef, .pointer (some ⟨w.heap.size + 1, 0, none⟩), .pointer (some ⟨w.heap.size + 1 + 1, 0, none⟩), .int .i64 ((placeL (plow (hash s)) (phigh (hash s)) xs.length k / 8 : Nat) : Int), .int .u8 ((2 ^ (placeL (plow (hash s)) (phigh (hash s)) xs.length k % 8) : Nat) : Int), .agg #[.int .i64 (m : Int), .slice A xs.length c], .bool true, .bool false, .agg #[.int .i64 (m : Int), .slice A xs.length c], .string s, .func (.func 95) #[] (iterF c0 g0), .int .i64 ((placeL (plow (hash s)) (phigh (hash s)) xs.length k / 8 : Nat) : Int), .int .u8 ((2 ^ (placeL (plow (hash s)) (phigh (hash s)) xs.length k % 8) : Nat) : Int), undef, undef, undef, undef, undef, undef, undef, undef], defers := [] }) ?assign ?body ?done ?stop
    case assign =>
      intro l k W KK hKK
      rw [hc0]
      unfold valsF
      gi_wp2
      exact hKK
    case body =>
      intro l k W hk
      rintro ⟨i1, i2, i3, i4, i5⟩
      have hpl : placeL (plow (hash s)) (phigh (hash s)) xs.length k < 8 * xs.length := Nat.mod_lt _ (by omega)
      have HNO : Hid (bitN xs (placeL (plow (hash s)) (phigh (hash s)) xs.length k) = 0 → hasU xs s m = false) := hide (hasU_no xs s k m hk)
      have HYES : Hid (¬ bitN xs (placeL (plow (hash s)) (phigh (hash s)) xs.length k) = 0 → hasU xs s (k + 1) = true) := fun h => by
        rw [hasU, i5]
        simp only [Bool.true_and, bne_iff_ne, ne_eq]
        exact h
      obtain ⟨j0, j1, j2, j3⟩ := two_read i2
      have j4 := blk_cell i3 0
      have j5 := blk_frozen i3 0
      have j6 := blk_cell i4 0
      have j7 := blk_frozen i4 0
      have hxW := hx.below i1
      generalize placeL (plow (hash s)) (phigh (hash s)) xs.length k = p at *
      obtain ⟨q, hq⟩ : ∃ q, p / 8 = q := ⟨_, rfl⟩
      obtain ⟨r, hr⟩ : ∃ r, p % 8 = r := ⟨_, rfl⟩
      have hr8 : r < 8 := by rw [← hr]; exact Nat.mod_lt _ (by decide)
      obtain ⟨ad, rfl, hcell⟩ := hxW.at_ q (by omega)
      obtain ⟨x, hxx⟩ : ∃ x, xs.getD q 0 = x := ⟨_, rfl⟩
      have hbn : bitN xs p = x.toNat / 2 ^ r % 2 := by rw [bitN, hq, hr, hxx]
      rw [hbn] at HNO HYES
      rw [hxx] at hcell
      have hand := bit_and x r hr8
      rw [hq, hr]
      have hq1 : q < xs.length := by omega
      have hq2 : (q : Int) < (xs.length : Int) := by omega
      have hpw : 0 < 2 ^ r := Nat.pow_pos (by decide)
      obtain ⟨v, hv⟩ : ∃ v, x.toNat / 2 ^ r % 2 * 2 ^ r = v := ⟨_, rfl⟩
      have hv0 : v = 0 ↔ x.toNat / 2 ^ r % 2 = 0 := by
        rw [← hv]
        constructor
        · intro h
          rcases Nat.mul_eq_zero.1 h with h | h
          · exact h
          · omega
        · intro h; rw [h, Nat.zero_mul]
      have HV := hide hv0
      rw [hv] at hand
      clear hq hr hxx hbn hpl hv hv0 i5
      generalize x.toNat / 2 ^ r % 2 = tt at *
      generalize 2 ^ r = t at *
      have hpast : Past c0 W ((W.setCell ⟨w.heap.size + 1, 0, none⟩ (.bool false)).setCell ⟨w.heap.size + 1 + 1, 0, none⟩ (.int .i64 0)) := (Past.setCell W _ 0 (by omega) _).trans (Past.setCell _ _ 0 (by omega) _)
      have hbel : Below w.heap.size w ((W.setCell ⟨w.heap.size + 1, 0, none⟩ (.bool false)).setCell ⟨w.heap.size + 1 + 1, 0, none⟩ (.int .i64 0)) := (i1.setCell (p := ⟨w.heap.size + 1, 0, none⟩) (Nat.le_succ _) _).setCell (p := ⟨w.heap.size + 1 + 1, 0, none⟩) (show w.heap.size ≤ w.heap.size + 1 + 1 by omega) _
      have hs1 : ((W.setCell ⟨w.heap.size + 1, 0, none⟩ (.bool false)).setCell ⟨w.heap.size + 1 + 1, 0, none⟩ (.int .i64 0)).heap[w.heap.size + 1]? = some (.cells #[.bool false] 4) := (Below.heap_setCell _ _ _ _ (show w.heap.size + 1 ≠ w.heap.size + 1 + 1 by omega)).trans (blk_set i3 0 (.bool false))
      have hs2 : ((W.setCell ⟨w.heap.size + 1, 0, none⟩ (.bool false)).setCell ⟨w.heap.size + 1 + 1, 0, none⟩ (.int .i64 0)).heap[w.heap.size + 1 + 1]? = some (.cells #[.int .i64 0] 26) := blk_set ((Below.heap_setCell W ⟨w.heap.size + 1, 0, none⟩ (.bool false) (w.heap.size + 1 + 1) (show w.heap.size + 1 + 1 ≠ w.heap.size + 1 by omega)).trans i4) 0 (.int .i64 0)
      have HP0 := hide hpast
      have HP1 := hide hbel
      have HP2 := hide hs1
      have HP3 := hide hs2
      clear hpast hbel hs1 hs2
      by_cases h0 : v = 0
      · subst h0
        gi_wp2
        exact ⟨HP0.out, HP1.out, HP2.out, HP3.out, HNO.out (HV.out.1 trivial)⟩
      · have h0i : ¬ (v : Int) = 0 := by omega
        gi_wp2
        exact ⟨Past.refl _ _, i1, i2, i3, i4, HYES.out (fun e => h0 (HV.out.2 e))⟩
    case done =>
      intro W hi hsz hD
      obtain ⟨i1, i2, i3, i4, i5⟩ := hi
      have j4 := blk_cell i3 0
      have j5 := blk_frozen i3 0
      have j6 := blk_cell i4 0
      have j7 := blk_frozen i4 0
      have hb2 : Below w.heap.size w ((W.setCell ⟨w.heap.size + 1, 0, none⟩ (.bool true)).setCell ⟨w.heap.size + 1 + 1, 0, none⟩ (.int .i64 0)) := (i1.setCell (p := ⟨w.heap.size + 1, 0, none⟩) (Nat.le_succ _) _).setCell (p := ⟨w.heap.size + 1 + 1, 0, none⟩) (show w.heap.size ≤ w.heap.size + 1 + 1 by omega) _
      have hs1 : ((W.setCell ⟨w.heap.size + 1, 0, none⟩ (.bool true)).setCell ⟨w.heap.size + 1 + 1, 0, none⟩ (.int .i64 0)).heap[w.heap.size + 1]? = some (.cells #[.bool true] 4) := (Below.heap_setCell _ _ _ _ (show w.heap.size + 1 ≠ w.heap.size + 1 + 1 by omega)).trans (blk_set i3 0 (.bool true))
      have hs2 : ((W.setCell ⟨w.heap.size + 1, 0, none⟩ (.bool true)).setCell ⟨w.heap.size + 1 + 1, 0, none⟩ (.int .i64 0)).heap[w.heap.size + 1 + 1]? = some (.cells #[.int .i64 0] 26) := blk_set ((Below.heap_setCell W ⟨w.heap.size + 1, 0, none⟩ (.bool true) (w.heap.size + 1 + 1) (show w.heap.size + 1 + 1 ≠ w.heap.size + 1 by omega)).trans i4) 0 (.int .i64 0)
      have hD2 : ((W.setCell ⟨w.heap.size + 1, 0, none⟩ (.bool true)).setCell ⟨w.heap.size + 1 + 1, 0, none⟩ (.int .i64 0)).heap[w2.heap.size]? = some (.deferred (some [])) := (Below.heap_setCell _ _ _ _ (show w2.heap.size ≠ w.heap.size + 1 + 1 by omega)).trans ((Below.heap_setCell _ _ _ _ (show w2.heap.size ≠ w.heap.size + 1 by omega)).trans hD)
      have HD := hide hD2
      have HS1 := hide hs1
      have HS2 := hide hs2
      have HB := hide hb2
      clear hD2 hs1 hs2 hb2
      gi_wp2
      refine ⟨by simp, .inl ⟨_, _, rfl, run_takeDeferred HD.out, ?_⟩⟩
      have r0 := blk_cell ((World.putObj_heap_other (o := .deferred none) (show w.heap.size + 1 ≠ w2.heap.size by omega)).trans HS1.out) 0
      have r1 := blk_cell ((World.putObj_heap_other (o := .deferred none) (show w.heap.size + 1 + 1 ≠ w2.heap.size by omega)).trans HS2.out) 0
      have hD3 := (Array.getElem?_eq_some_iff.1 HD.out).1
      refine leaves_nil (.tuple #[.bool true, .int .i64 0]) ?_ ⟨by rw [← HZ.out, i5], HB.out.trans (below_put _ _ _ (by omega) hD3)⟩
      simp [results, Try.results22, go_sem, r0, r1]
    case stop =>
      intro k W hk hi hsz hD
      obtain ⟨i1, i3, i4, i5⟩ := hi
      gi_wp2
      refine ⟨by simp, .inl ⟨_, _, rfl, run_takeDeferred hD, ?_⟩⟩
      have r0 := blk_cell ((World.putObj_heap_other (o := .deferred none) (show w.heap.size + 1 ≠ w2.heap.size by omega)).trans i3) 0
      have r1 := blk_cell ((World.putObj_heap_other (o := .deferred none) (show w.heap.size + 1 + 1 ≠ w2.heap.size by omega)).trans i4) 0
      have hD3 := (Array.getElem?_eq_some_iff.1 hD).1
      refine leaves_nil (.tuple #[.bool false, .int .i64 0]) ?_ ⟨by rw [← HZ.out, i5], i1.trans (below_put _ _ _ (by omega) hD3)⟩
      simp [results, Try.results22, go_sem, r0, r1]
  · have e1 : encE K xs.length = 9 := by rw [encE, if_neg hok]
    have e2 : hasB K xs s = false := by rw [hasB, decide_eq_false hok]; rfl
    rw [decide_eq_false hok] at HM
    rw [e1, e2]
    clear e1 e2
    have HP := places_any K A xs.length c s hs
    have W0 : ∃ W0, ((w.alloc (.cells #[.int .i64 K, .slice A xs.length c] 32)).alloc (.cells #[.bool false] 4)).alloc (.cells #[.int .i64 0] 26) = W0 := ⟨_, rfl⟩
    obtain ⟨W0, hW0⟩ := W0
    have z0 : W0.heap.size = w.heap.size + 3 := by rw [← hW0]; simp
    have z1 : Below w.heap.size w W0 := by rw [← hW0]; exact (((Below.refl _ _).alloc (Nat.le_refl _) _).alloc (by simp) _).alloc (by simp; omega) _
    have z2 : W0.heap[w.heap.size]? = some (.cells #[.int .i64 K, .slice A xs.length c] 32) := by
      rw [← hW0, Below.heap_alloc _ _ _ (by simp; omega), Below.heap_alloc _ _ _ (by simp)]; exact heap_alloc_new w _
    have z3 : W0.heap[w.heap.size + 1]? = some (.cells #[.bool false] 4) := by
      rw [← hW0, Below.heap_alloc _ _ _ (by simp)]
      have := heap_alloc_new (w.alloc (.cells #[.int .i64 K, .slice A xs.length c] 32)) (.cells #[.bool false] 4)
      rwa [World.size_alloc] at this
    have z4 : W0.heap[w.heap.size + 1 + 1]? = some (.cells #[.int .i64 0] 26) := by
      rw [← hW0]
      have := heap_alloc_new ((w.alloc (.cells #[.int .i64 K, .slice A xs.length c] 32)).alloc (.cells #[.bool false] 4)) (.cells #[.int .i64 0] 26)
      rwa [World.size_alloc, World.size_alloc] at this
    obtain ⟨b0, b1, b2, b3⟩ := two_read z2
    have b4 := blk_cell z3 0
    have b5 := blk_frozen z3 0
    have b6 := blk_cell z4 0
    have b7 := blk_frozen z4 0
    have hall : ∀ W, Below W0.heap.size W0 W → Below w.heap.size w W ∧ W.heap[w.heap.size]? = some (.cells #[.int .i64 K, .slice A xs.length c] 32) ∧ W.heap[w.heap.size + 1]? = some (.cells #[.bool false] 4) ∧ W.heap[w.heap.size + 1 + 1]? = some (.cells #[.int .i64 0] 26) ∧ w.heap.size + 3 ≤ W.heap.size := fun W h =>
      ⟨z1.trans (h.mono z1.size), (h.block _ (by omega)).trans z2, (h.block _ (by omega)).trans z3, (h.block _ (by omega)).trans z4, by have := h.size; omega⟩
    have Z0 := hide z0
    clear z0
    unfold fil at *
    refine (callsIn_wide (n := 9)).1 ?_
    refine callsIn_of_wp_marks Try.func22 rfl trivial ?_ rfl
    simp only [Try.ntmps22, List.size_toArray, List.length_cons, List.length_nil, Nat.reduceAdd, Nat.reduceSub, Array.replicate_succ, Array.replicate_zero, List.push_toArray, List.append_toArray, List.nil_append, List.cons_append]
    gi_wp2_with (first | (refine ⟨trivial, ?_⟩; gi_at_call 56; refine (callsIn_wide.2 (HM _)).mono ?_; rintro e w1 ⟨rfl, HB1⟩; obtain ⟨B1, q0, q1, q2, q3⟩ := hall _ HB1; obtain ⟨d0, d1, d2, d3⟩ := two_read q0; have d4 := blk_cell q1 0; have d5 := blk_frozen q1 0; have d6 := blk_cell q2 0; have d7 := blk_frozen q2 0) | (refine ⟨trivial, ?_⟩; gi_at_call 57; refine (callsIn_wide.2 (HP _)).mono ?_; rintro e w2 ⟨g0, hg0, rfl, hsz2, hbx, HB2⟩))
    refine leaves_nil (.tuple #[.bool false, .int .i64 9]) ?_ ⟨rfl, (B1.setCell (p := ⟨w.heap.size + 1, 0, none⟩) (Nat.le_succ _) _).setCell (p := ⟨w.heap.size + 1 + 1, 0, none⟩) (show w.heap.size ≤ w.heap.size + 1 + 1 by omega) _⟩
    have r0 := blk_cell (blk_set q1 0 (.bool false)) 0
    have r1 := blk_cell (blk_set ((Below.heap_setCell w1 ⟨w.heap.size + 1, 0, none⟩ (.bool false) (w.heap.size + 1 + 1) (show w.heap.size + 1 + 1 ≠ w.heap.size + 1 by omega)).trans q2) 0 (.int .i64 9)) 0
    simp [results, Try.results22, go_sem, r0, r1]
end Go.Proofs.Ytefcepjffeiaoaa.Bl
end

section
/- Bloom: what a filter of keys is; the marks that a function with ranges over functions leaves with. -/
namespace Go.Proofs.Ytefcepjffeiaoaa.Bl
open Go.RowKit Go.Shelf Go.Proofs.YtefcepjffeiaoaaW.PrintWords
set_option linter.unusedVariables false

def setB (xs : List UInt8) (p : Nat) : List UInt8 := xs.set (p / 8) (xs.getD (p / 8) 0 ||| UInt8.ofNat (2 ^ (p % 8)))
/-- the first k places of a key, set -/
def setU (xs : List UInt8) (s : ByteArray) : Nat → List UInt8
  | 0 => xs
  | k + 1 => setB (setU xs s k) (place s (8 * xs.length) k)
def setAll (m : Nat) : List UInt8 → List ByteArray → List UInt8
  | xs, [] => xs
  | xs, s :: r => setAll m (setU xs s m) r
theorem setB_length (xs : List UInt8) (p : Nat) : (setB xs p).length = xs.length := List.length_set
theorem setU_length (xs : List UInt8) (s : ByteArray) (k : Nat) : (setU xs s k).length = xs.length := by
  induction k with
  | zero => rfl
  | succ k ih => rw [setU, setB_length, ih]
theorem setAll_length (m : Nat) (ss : List ByteArray) (xs : List UInt8) : (setAll m xs ss).length = xs.length := by
  induction ss generalizing xs with
  | nil => rfl
  | cons s r ih => rw [setAll, ih, setU_length]
theorem setAll_append (m : Nat) (ss : List ByteArray) (s : ByteArray) (xs : List UInt8) : setAll m xs (ss ++ [s]) = setU (setAll m xs ss) s m := by
  induction ss generalizing xs with
  | nil => rfl
  | cons t r ih => rw [List.cons_append, setAll, ih, setAll]
theorem or_bit (x : UInt8) (r : Nat) (hr : r < 8) : bits .or .u8 (x.toNat : Int) ((2 ^ r : Nat) : Int) = ((x ||| UInt8.ofNat (2 ^ r)).toNat : Int) := by
  have hx := x.toNat_lt
  have h2 : 2 ^ r ≤ 2 ^ 7 := Nat.pow_le_pow_right (by decide) (by omega)
  generalize 2 ^ r = t at *
  rw [u8_or_nat x.toNat t (by omega) (by omega), UInt8.toNat_or]
  congr 2
  rw [UInt8.toNat_ofNat']
  omega
def makeN (each n : Nat) : Nat := max 1 ((n * each + 7) / 8)
def makeM (each : Nat) : Nat := min 8 (max 1 (7 * each / 10))
def makeOk (each : Int) (n : Nat) : Prop := 1 ≤ each ∧ each ≤ 16 ∧ n ≤ 4096
instance (each : Int) (n : Nat) : Decidable (makeOk each n) := by unfold makeOk; exact inferInstance
def makeK (each : Int) (n : Nat) : Int := if makeOk each n then (makeM each.toNat : Int) else 0
def makeX (each : Int) (ss : List ByteArray) : List UInt8 := if makeOk each ss.length then setAll (makeM each.toNat) (List.replicate (makeN each.toNat ss.length) 0) ss else []
def makeE (each : Int) (n : Nat) : Int := if each < 1 ∨ 16 < each then 4 else if 4096 < n then 3 else 0

/-- a function that leaves with marks alone -/
theorem leaves_marks {F : Fence} {n : Nat} {P : Program} {fn : Func} {tmps : Array Value} {R : Ending → World → Prop} {base : Nat} : ∀ (ds : List Nat) (W : World), ds.Nodup → (∀ D ∈ ds, base ≤ D ∧ W.heap[D]? = some (.deferred (some []))) →
    (∀ W', Below base W W' → LeavesInM F n P fn tmps R [] .returning W') → LeavesInM F n P fn tmps R (ds.map fun D => { target := .collected D, args := #[] }) .returning W := by
  intro ds
  induction ds with
  | nil => exact fun W _ _ h => h W (Below.refl _ _)
  | cons D ds ih =>
    intro W hnd hall hend
    have hD := (hall D (List.mem_cons_self ..)).2
    have hlt := (Array.getElem?_eq_some_iff.1 hD).1
    have hbel : Below base W (W.putObj D (.deferred none)) := below_put W D _ (hall D (List.mem_cons_self ..)).1 hlt
    refine ⟨by simp, .inl ⟨D, _, rfl, run_takeDeferred hD, ih _ (List.nodup_cons.1 hnd).2 (fun E hE => ?_) (fun W' h => hend W' (hbel.trans h))⟩⟩
    have hne : E ≠ D := fun e => (List.nodup_cons.1 hnd).1 (e ▸ hE)
    exact ⟨(hall E (List.mem_cons_of_mem _ hE)).1, (World.putObj_heap_other hne).trans (hall E (List.mem_cons_of_mem _ hE)).2⟩
end Go.Proofs.Ytefcepjffeiaoaa.Bl
end

section
/- Bloom: the walk of Make. -/
namespace Go.Proofs.Ytefcepjffeiaoaa.Bl
open Go.RowKit Go.Shelf Go.Proofs.YtefcepjffeiaoaaW.PrintWords
set_option linter.unusedVariables false
attribute [local go_sem] Oper.semAt_some

theorem max2_nat (k : IntKind) (m n : Nat) : Builtin.max2 (.int k (m : Int)) (.int k (n : Int)) = (pure (.int k ((max m n : Nat) : Int)) : Sem Value) := by
  show (pure (.int k (if (n : Int) > (m : Int) then (n : Int) else (m : Int))) : Sem Value) = _
  by_cases h : m < n
  · rw [if_pos (by omega), show max m n = n from Nat.max_eq_right (by omega)]
  · rw [if_neg (by omega), show max m n = m from Nat.max_eq_left (by omega)]
section
variable {F : Fence} {d : Nat} {P : Program} {ops : Array Oper} {rest : List Oper} {o : Oper} {a : Act} {Q : Exit → Act → World → Prop}
theorem wpIn_max2 {W : World} (hgd : o.guard = none) (x y : Operand) (t1 t2 : TypeId) (ho : o.op = .call { callee := .builtin .max, args := #[x, y], argTypes := #[t1, t2] }) (k : IntKind) (m n : Nat)
    (hx : a.eval x = .int k (m : Int)) (hy : a.eval y = .int k (n : Int)) (hk : wpListIn F d P ops Q rest (a.put o.dst (.int k ((max m n : Nat) : Int))) W) : wpListIn F d P ops Q (o :: rest) a W := by
  refine wpListIn_plain hgd fun K hK' => ?_
  unfold Oper.wpIn
  refine ⟨?_, ?_⟩
  · simp [Oper.about, ho, resolve, Target.leads, Sem.run_pure]
  · rw [Oper.semAt_plain F _ _ (by rw [ho]; intro c hc'; cases hc')]
    have e : (execOp a.eval o).run P W = .ok (.value (.int k ((max m n : Nat) : Int))) W := by
      unfold execOp
      simp only [ho, resolve, invoke, builtin, Sem.run_bind, Sem.run_pure, Result.andThen_ok, List.map_toArray, List.map_cons, List.map_nil, hx, hy, Builtin.max_, List.foldlM_cons, List.foldlM_nil, max2_nat]
    rw [e]
    exact hK' _ _ hk
theorem wpIn_min2 {W : World} (hgd : o.guard = none) (x y : Operand) (t1 t2 : TypeId) (ho : o.op = .call { callee := .builtin .min, args := #[x, y], argTypes := #[t1, t2] }) (k : IntKind) (m n : Nat)
    (hx : a.eval x = .int k (m : Int)) (hy : a.eval y = .int k (n : Int)) (hk : wpListIn F d P ops Q rest (a.put o.dst (.int k ((Nat.min m n : Nat) : Int))) W) : wpListIn F d P ops Q (o :: rest) a W := by
  refine wpListIn_plain hgd fun K hK' => ?_
  unfold Oper.wpIn
  refine ⟨?_, ?_⟩
  · simp [Oper.about, ho, resolve, Target.leads, Sem.run_pure]
  · rw [Oper.semAt_plain F _ _ (by rw [ho]; intro c hc'; cases hc')]
    have e : (execOp a.eval o).run P W = .ok (.value (.int k ((Nat.min m n : Nat) : Int))) W := by
      unfold execOp
      simp only [ho, resolve, invoke, builtin, Sem.run_bind, Sem.run_pure, Result.andThen_ok, List.map_toArray, List.map_cons, List.map_nil, hx, hy, Builtin.min_, List.foldlM_cons, List.foldlM_nil, min2_nat]
    rw [e]
    exact hK' _ _ hk
end
/-- between two keys, and between two places of one: what lies where -/
structure MInv (T : TypeId) (w W : World) (M : Nat) (N : Nat) (bits : List UInt8) (ds : List Nat) : Prop where
  below : Below w.heap.size w W
  res : W.heap[w.heap.size]? = some (.cells #[.int .i64 0, .slice none 0 0] T)
  fil : W.heap[w.heap.size + 1 + 1]? = some (.cells #[.int .i64 (M : Int), .slice (some ⟨w.heap.size + 1, 0, none⟩) N N] T)
  own : OwB W w.heap.size (.slice (some ⟨w.heap.size + 1, 0, none⟩) N N) bits
  nodup : ds.Nodup
  marks : ∀ D ∈ ds, w.heap.size + 3 ≤ D ∧ D < W.heap.size ∧ W.heap[D]? = some (.deferred (some []))
  size : w.heap.size + 3 ≤ W.heap.size
theorem MInv.move {T : TypeId} {w X Y : World} {M N c0 : Nat} {bits : List UInt8} {ds : List Nat} (h : MInv T w X M N bits ds) (hb : Below c0 X Y) (hc : w.heap.size + 3 ≤ c0) (hds : ∀ D ∈ ds, D < c0) : MInv T w Y M N bits ds :=
  ⟨h.below.trans (hb.mono (by omega)), (hb.block _ (by omega)).trans h.res, (hb.block _ (by omega)).trans h.fil,
    own_move h.own (fun k e => hb.block k (by simp [Value.ownBlock] at e; omega)), h.nodup,
    fun D hD => ⟨(h.marks D hD).1, Nat.lt_of_lt_of_le (h.marks D hD).2.1 hb.size, (hb.block D (hds D hD)).trans (h.marks D hD).2.2⟩, Nat.le_trans h.size hb.size⟩
theorem MInv.put {T : TypeId} {w X : World} {M N : Nat} {xs : List UInt8} {ds : List Nat} (h : MInv T w X M N xs ds) (hl : xs.length = N) (p q r : Nat) (hq : p / 8 = q) (hr : p % 8 = r) (hp : p < 8 * N) :
    ∃ (x : UInt8) (y : Nat), X.cell? ⟨w.heap.size + 1, q, none⟩ = some (.int .u8 (x.toNat : Int)) ∧ X.frozen? ⟨w.heap.size + 1, q, none⟩ = false ∧ bits .or .u8 (x.toNat : Int) ((2 ^ r : Nat) : Int) = (y : Int) ∧
      MInv T w (X.setCell ⟨w.heap.size + 1, q, none⟩ (.int .u8 (y : Int))) M N (setB xs p) ds := by
  have hr8 : r < 8 := by rw [← hr]; exact Nat.mod_lt _ (by decide)
  obtain ⟨g, cap, hv, hg1, hg2, hcel, hfro, hput⟩ := h.own.set_ q (by omega)
  rw [hl] at hv
  obtain ⟨rfl, rfl⟩ : w.heap.size + 1 = g ∧ N = cap := by
    injection hv with h1 h2 h3
    injection h1 with h1
    injection h1 with h1
    exact ⟨h1, h3⟩
  obtain ⟨x, hxx⟩ : ∃ x, xs.getD q 0 = x := ⟨_, rfl⟩
  rw [hxx] at hcel
  have hor := or_bit x r hr8
  obtain ⟨hput1, hput2⟩ := hput (x ||| UInt8.ofNat (2 ^ r))
  have hnew : xs.set q (x ||| UInt8.ofNat (2 ^ r)) = setB xs p := by rw [setB, hq, hr, hxx]
  rw [hnew] at hput1
  refine ⟨x, (x ||| UInt8.ofNat (2 ^ r)).toNat, hcel, hfro, hor, ?_⟩
  have hot : ∀ b v, b ≠ w.heap.size + 1 → (X.setCell ⟨w.heap.size + 1, q, none⟩ v).heap[b]? = X.heap[b]? := fun b v hb => Below.heap_setCell _ _ _ _ hb
  exact ⟨h.below.setCell (p := ⟨w.heap.size + 1, q, none⟩) (Nat.le_succ _) _, (hot _ _ (by omega)).trans h.res, (hot _ _ (by omega)).trans h.fil, hput1, h.nodup, fun D hD => ⟨(h.marks D hD).1, by rw [World.size_setCell]; exact (h.marks D hD).2.1, (hot _ _ (by have := (h.marks D hD).1; omega)).trans (h.marks D hD).2.2⟩, by rw [World.size_setCell]; exact h.size⟩
set_option maxRecDepth 100000 in
set_option maxHeartbeats 1600000 in
theorem Make_main (A : Option Addr) (c : Nat) (ss : List ByteArray) (e : Nat) (hss : ∀ s ∈ ss, s.size ≤ 140737488355328) (w : World) (hx : RdS w A c ss) (he1 : 1 ≤ e) (he2 : e ≤ 16) (hn : ss.length ≤ 4096) :
    Calls Try.prog 31 #[.slice A ss.length c, .int .i64 (e : Int)] w fun e' w' => ∃ A' c', e' = .returned (.tuple #[fil (makeM e : Nat) A' (makeN e ss.length) c', .int .i64 0]) ∧ OwB w' w.heap.size (.slice A' (makeN e ss.length) c') (setAll (makeM e) (List.replicate (makeN e ss.length) 0) ss) ∧ Below w.heap.size w w' := by
  obtain ⟨n, hnn⟩ : ∃ n, ss.length = n := ⟨_, rfl⟩
  have HN := hide hnn
  rw [hnn] at hn ⊢
  clear hnn
  unfold fil
  refine (callsIn_wide (n := 9)).1 ?_
  refine callsIn_of_wp_marks Try.func31 rfl trivial ?_ rfl
  simp only [Try.ntmps31, List.size_toArray, List.length_cons, List.length_nil, Nat.reduceAdd, Nat.reduceSub, Array.replicate_succ, Array.replicate_zero, List.push_toArray, List.append_toArray, List.nil_append, List.cons_append]
  have a1 : ¬ (e : Int) < 1 := by omega
  have a2 : ¬ 16 < (e : Int) := by omega
  have a3 : ¬ 4096 < (n : Int) := by omega
  obtain ⟨k7, hk7⟩ : ∃ k7, 7 * e / 10 = k7 := ⟨_, rfl⟩
  obtain ⟨ne, hne⟩ : ∃ ne, n * e = ne := ⟨_, rfl⟩
  have hne2 : ne ≤ 65536 := by rw [← hne]; exact Nat.le_trans (Nat.mul_le_mul hn he2) (by decide)
  obtain ⟨s8, hs8⟩ : ∃ s8, (ne + 7) / 8 = s8 := ⟨_, rfl⟩
  have b1 : 7 * (e : Int) / 10 = (k7 : Int) := by omega
  have b2 : wrap64 ((n : Int) * (e : Int)) = (ne : Int) := by
    rw [show (n : Int) * (e : Int) = (ne : Int) by rw [← hne]; simp]; unfold wrap64; omega
  have b3 : ((ne : Int) + 7) / 8 = (s8 : Int) := by omega
  have hM : Nat.min 8 (max 1 k7) = makeM e := by rw [makeM, hk7]
  have hNN : max 1 s8 = makeN e n := by rw [makeN, hne, hs8]
  have hM2 : 1 ≤ makeM e ∧ makeM e ≤ 8 := by rw [makeM]; omega
  have hN2 : 1 ≤ makeN e n ∧ makeN e n ≤ 8193 := by rw [makeN, hne]; omega
  have hmk := fun W => make_bytes (makeN e n) (by omega) W
  generalize makeM e = M at *
  generalize makeN e n = N at *
  have HM := hide hM
  have HNN := hide hNN
  clear hM hNN hk7 hne hs8
  gi_wp2_with (first | (refine wpIn_max2 rfl (.const (.int .i64 1)) (.tmp 24) 3 3 rfl .i64 1 k7 rfl (congrArg (Value.int .i64) b1) ?_) | (refine wpIn_min2 rfl (.const (.int .i64 8)) (.tmp 25) 3 3 rfl .i64 8 (max 1 k7) rfl rfl ?_; rw [HM.out]) | (refine wpIn_max2 rfl (.const (.int .i64 1)) (.tmp 32) 3 3 rfl .i64 1 s8 rfl rfl ?_; rw [HNN.out]))
  obtain ⟨W0, hW0⟩ : ∃ W0, (((w.alloc (.cells #[.int .i64 0, .slice none 0 0] 32)).alloc (.cells (madeCells #[.int .u8 0] N) 5)).alloc (.cells #[.int .i64 (M : Int), .slice (some ⟨w.heap.size + 1, 0, none⟩) N N] 32)) = W0 := ⟨_, rfl⟩
  rw [hW0]
  have hi0 : MInv 32 w W0 M N (setAll M (List.replicate N 0) (ss.take 0)) [] := by
    rw [← hW0]
    have q0 := heap_alloc_new w (.cells #[.int .i64 0, .slice none 0 0] 32)
    have q2 := heap_alloc_new ((w.alloc (.cells #[.int .i64 0, .slice none 0 0] 32)).alloc (.cells (madeCells #[.int .u8 0] N) 5)) (.cells #[.int .i64 (M : Int), .slice (some ⟨w.heap.size + 1, 0, none⟩) N N] 32)
    rw [World.size_alloc, World.size_alloc] at q2
    have q1 := OwB.made (w.alloc (.cells #[.int .i64 0, .slice none 0 0] 32)) w.heap.size N (by simp) (by omega)
    rw [World.size_alloc] at q1
    refine ⟨(((Below.refl _ _).alloc (Nat.le_refl _) _).alloc (by simp) _).alloc (by simp; omega) _, ?_, q2, ?_, List.nodup_nil, fun D hD => absurd hD (by simp), by simp⟩
    · rw [Below.heap_alloc _ _ _ (by simp; omega), Below.heap_alloc _ _ _ (by simp)]; exact q0
    · exact q1.below ((Below.refl _ _).alloc (Nat.le_refl _) _)
  clear hW0
  refine wpIn_loop (fun a W => ∃ (k : Nat) (ds : List Nat) (u8 u39 u40 u41 u42 u43 u44 u55 : Value), k ≤ n ∧ MInv 32 w W M N (setAll M (List.replicate N 0) (ss.take k)) ds ∧
    a = { tmps := #[.slice A n c, .int .i64 (e : Int), undef, undef, .pointer (some ⟨w.heap.size, 0, none⟩), .int .i64 0, .pointer (some ⟨w.heap.size + 1 + 1, 0, none⟩), undef, u8, undef, undef, .int .i64 (e : Int), .bool false, .bool false, .int .i64 (e : Int), .bool false, .bool false, undef, .slice A n c, .int .i64 (n : Int), .bool false, undef, .int .i64 (e : Int), .int .i64 (7 * (e : Int)), .int .i64 (k7 : Int), .int .i64 ((max 1 k7 : Nat) : Int), .int .i64 (M : Int), .slice A n c, .int .i64 (n : Int), .int .i64 (e : Int), .int .i64 (ne : Int), .int .i64 ((ne : Int) + 7), .int .i64 (s8 : Int), .int .i64 (N : Int), .slice (some ⟨w.heap.size + 1, 0, none⟩) N N, .agg #[.int .i64 (M : Int), .slice (some ⟨w.heap.size + 1, 0, none⟩) N N], .slice A n c, .int .i64 (n : Int), .int .i64 (k : Int), u39, u40, u41, u42, u43, u44, undef, undef, undef, undef, undef, undef, undef, undef, undef, undef, u55, undef], defers := ds.map fun D => { target := .collected D, args := #[] } }) (fun a W => n - (intOf (a.tmps.getD 38 undef)).toNat) ?_ ?_
  · exact ⟨0, [], _, _, _, _, _, _, _, _, by omega, hi0, rfl⟩
  · rintro a W ⟨k, ds, u8, u39, u40, u41, u42, u43, u44, u55, hk, hi, rfl⟩
    by_cases hlt : k < n
    · have hkn : k < ss.length := by rw [HN.out]; exact hlt
      obtain ⟨ad, rfl, hcell⟩ := (hx.below hi.below).at_ k hkn
      obtain ⟨s, hs⟩ : ∃ s, ss.getD k ByteArray.empty = s := ⟨_, rfl⟩
      rw [hs] at hcell
      have hsz : s.size ≤ 140737488355328 := hss s (by rw [← hs, List.getD_eq_getElem?_getD, List.getElem?_eq_getElem hkn]; simp)
      have htake : setAll M (List.replicate N 0) (ss.take (k + 1)) = setU (setAll M (List.replicate N 0) (ss.take k)) s M := by
        rw [← setAll_append, List.take_succ_eq_append_getElem hkn]
        congr 3
        rw [← hs, List.getD_eq_getElem?_getD, List.getElem?_eq_getElem hkn]; rfl
      have HT := hide htake
      have hlen : (setAll M (List.replicate N 0) (ss.take k)).length = N := by rw [setAll_length]; simp
      clear htake hs hi0
      generalize setAll M (List.replicate N 0) (ss.take k) = acc at *
      have HL := hide hlen
      clear hlen
      obtain ⟨f0, f1, f2, f3⟩ := two_read hi.fil
      have HP := places_any (M : Int) (some ⟨w.heap.size + 1, 0, none⟩) N N s hsz
      unfold fil at HP
      have hki : (k : Int) < (n : Int) := by omega
      gi_wp2_with (first | (refine ⟨trivial, ?_⟩; gi_at_call 57; refine (callsIn_wide.2 (HP _)).mono ?_; rintro e w2 ⟨g0, hg0, rfl, hsz2, hbx, HB2⟩))
      obtain ⟨c0, hc0⟩ : ∃ c0, W.heap.size = c0 := ⟨_, rfl⟩
      have hw2s := HB2.size
      rw [hc0] at hbx HB2 hw2s hg0
      have hc0' : w.heap.size + 3 ≤ c0 := by rw [← hc0]; exact hi.size
      have hdsc : ∀ D ∈ ds, D < c0 := fun D hD => by rw [← hc0]; exact (hi.marks D hD).2.1
      have hi2 := hi.move HB2 hc0' hdsc
      rw [hc0]
      refine range_iter (gf := 95) (lb := iterF c0 g0) (N := M) (c0 := c0) (g0 := g0) (vals := valsF (plow (hash s)) (phigh (hash s)) N) rfl (enters_of Try.func95 (by kernel_rfl) rfl) (fun _ => rfl) (by omega) (by omega) (by omega)
        (iter_any M N N _ _ c0 g0 (some ⟨w.heap.size + 1, 0, none⟩) w2 hbx (by omega) (by omega) (by omega) (Nat.lt_trans (Nat.mod_lt _ (by decide)) (by decide)) (Nat.lt_trans (phigh_lt _) (by decide)) hg0 (by omega))
        (fun j X => MInv 32 w X M N (setU acc s j) ds) (fun _ _ => False) (fun j X Y h i => i.move h hc0' hdsc) (fun _ _ _ _ h => h) hi2
        (fun j => { tmps := #[.slice (some ad) n c, .int .i64 (e : Int), undef, undef, .pointer (some ⟨w.heap.size, 0, none⟩), .int .i64 0, .pointer (some ⟨w.heap.size + 1 + 1, 0, none⟩), undef, .string s, .int .i64 ((placeL (plow (hash s)) (phigh (hash s)) N j / 8 : Nat) : Int), .int .u8 ((2 ^ (placeL (plow (hash s)) (phigh (hash s)) N j % 8) : Nat) : Int), .int .i64 (e : Int), .bool false, .bool false, .int .i64 (e : Int), .bool false, .bool false, undef, .slice (some ad) n c, .int .i64 (n : Int), .bool false, undef, .int .i64 (e : Int), .int .i64 (7 * (e : Int)), .int .i64 (k7 : Int), .int .i64 ((max 1 k7 : Nat) : Int), .int .i64 (M : Int), .slice (some ad) n c, .int .i64 (n : Int), .int .i64 (e : Int), .int .i64 (ne : Int), .int .i64 ((ne : Int) + 7), .int .i64 (s8 : Int), .int .i64 (N : Int), .slice (some ⟨w.heap.size + 1, 0, none⟩) N N, .agg #[.int .i64 (M : Int), .slice (some ⟨w.heap.size + 1, 0, none⟩) N N], .slice (some ad) n c, .int .i64 (n : Int), .int .i64 (k : Int), .bool true, .pointer (some (ad.add k)), .string s, .agg #[.int .i64 (M : Int), .slice (some ⟨w.heap.size + 1, 0, none⟩) N N], .string s, .func (.func 95) #[] (iterF c0 g0), .int .i64 ((placeL (plow (hash s)) (phigh (hash s)) N j / 8 : Nat) : Int), .int .u8 ((2 ^ (placeL (plow (hash s)) (phigh (hash s)) N j % 8) : Nat) : Int), undef, undef, undef, undef, undef, undef, undef, undef, u55, undef], defers := [] }) ?assign ?body ?done ?stop
      case assign =>
        intro l j X KK hKK
        unfold valsF
        gi_wp2
        exact hKK
      case body =>
        intro l j X hj hij
        have hpl : placeL (plow (hash s)) (phigh (hash s)) N j < 8 * N := Nat.mod_lt _ (by omega)
        have hset : setU acc s (j + 1) = setB (setU acc s j) (placeL (plow (hash s)) (phigh (hash s)) N j) := by rw [setU, HL.out]; rfl
        have hlenj : (setU acc s j).length = N := by rw [setU_length, HL.out]
        have HSET := hide hset
        clear hset
        obtain ⟨j0, j1, j2, j3⟩ := two_read hij.fil
        generalize placeL (plow (hash s)) (phigh (hash s)) N j = p at *
        obtain ⟨q, hq⟩ : ∃ q, p / 8 = q := ⟨_, rfl⟩
        obtain ⟨r, hr⟩ : ∃ r, p % 8 = r := ⟨_, rfl⟩
        have hr8 : r < 8 := by rw [← hr]; exact Nat.mod_lt _ (by decide)
        have hq1 : q < N := by omega
        obtain ⟨g, cap, hv, hg1, hg2, hcel, hfro, hput⟩ := hij.own.set_ q (by rw [hlenj]; exact hq1)
        rw [hlenj] at hv
        obtain ⟨rfl, rfl⟩ : w.heap.size + 1 = g ∧ N = cap := by
          injection hv with h1 h2 h3
          injection h1 with h1
          injection h1 with h1
          exact ⟨h1, h3⟩
        clear hv hg1
        obtain ⟨x, hxx⟩ : ∃ x, (setU acc s j).getD q 0 = x := ⟨_, rfl⟩
        rw [hxx] at hcel
        have hor := or_bit x r hr8
        obtain ⟨hput1, hput2⟩ := hput (x ||| UInt8.ofNat (2 ^ r))
        have hnew : (setU acc s j).set q (x ||| UInt8.ofNat (2 ^ r)) = setU acc s (j + 1) := by rw [HSET.out, setB, hq, hr, hxx]
        rw [hnew] at hput1
        rw [hq, hr]
        have hq2 : (q : Int) < (N : Int) := by omega
        clear hq hr hxx hpl hput hnew hlenj
        obtain ⟨y, hy⟩ : ∃ y, (x ||| UInt8.ofNat (2 ^ r)).toNat = y := ⟨_, rfl⟩
        rw [hy] at hor hput1 hput2
        clear hy
        generalize 2 ^ r = t at *
        have hbel := hij.below.setCell (p := ⟨w.heap.size + 1, q, none⟩) (Nat.le_succ _) (.int .u8 (y : Int))
        have hot : ∀ b, b ≠ w.heap.size + 1 → (X.setCell ⟨w.heap.size + 1, q, none⟩ (.int .u8 (y : Int))).heap[b]? = X.heap[b]? := fun b hb => Below.heap_setCell _ _ _ _ hb
        have hfin : MInv 32 w (X.setCell ⟨w.heap.size + 1, q, none⟩ (.int .u8 (y : Int))) M N (setU acc s (j + 1)) ds :=
          ⟨hbel, (hot _ (by omega)).trans hij.res, (hot _ (by omega)).trans hij.fil, hput1, hij.nodup, fun D hD => ⟨(hij.marks D hD).1, by rw [World.size_setCell]; exact (hij.marks D hD).2.1, (hot _ (by have := (hij.marks D hD).1; omega)).trans (hij.marks D hD).2.2⟩, by rw [World.size_setCell]; exact hij.size⟩
        have hpa : Past c0 X (X.setCell ⟨w.heap.size + 1, q, none⟩ (.int .u8 (y : Int))) := Past.setCell X _ q (by omega) _
        have HF := hide hfin
        have HPA := hide hpa
        clear hfin hpa hput1 hput2 hbel hot
        gi_wp2
        exact ⟨HPA.out, HF.out⟩
      case done =>
        intro X hiX hszX hDX
        rw [← HT.out] at hiX
        have hnd : w2.heap.size ∉ ds := fun h => by have := hdsc _ h; omega
        have hlt2 := (Array.getElem?_eq_some_iff.1 hDX).1
        have hiX2 : MInv 32 w X M N (setAll M (List.replicate N 0) (ss.take (k + 1))) (w2.heap.size :: ds) := ⟨hiX.below, hiX.res, hiX.fil, hiX.own, List.nodup_cons.2 ⟨hnd, hiX.nodup⟩, fun D hD => by
          rcases List.mem_cons.1 hD with rfl | h
          · exact ⟨by omega, hlt2, hDX⟩
          · exact hiX.marks D h, hiX.size⟩
        gi_wp2
        refine ⟨⟨k + 1, w2.heap.size :: ds, _, _, _, _, _, _, _, _, by omega, hiX2, rfl⟩, ?_⟩
        simp [intOf]; omega
      case stop => exact fun _ _ _ h => h.elim
    · obtain rfl : k = n := by omega
      have hall : ss.take k = ss := List.take_of_length_le (by rw [HN.out]; exact Nat.le_refl _)
      rw [hall] at hi
      obtain ⟨f0, f1, f2, f3⟩ := two_read hi.fil
      obtain ⟨g0, g1, g2, g3⟩ := two_read hi.res
      gi_wp2
      have hr := two_cells (u := .int .i64 (M : Int)) (v := .slice (some ⟨w.heap.size + 1, 0, none⟩) N N) hi.res
      have hne : some w.heap.size ≠ (Value.slice (some ⟨w.heap.size + 1, 0, none⟩) N N).ownBlock := by
        intro h
        simp [Value.ownBlock] at h
      have ho := own_setCell (own_setCell hi.own (p := ⟨w.heap.size, 0, none⟩) hne (.int .i64 (M : Int))) (p := ⟨w.heap.size, 1, none⟩) hne (.slice (some ⟨w.heap.size + 1, 0, none⟩) N N)
      refine leaves_marks (base := w.heap.size + 3) ds _ hi.nodup (fun D hD => ⟨(hi.marks D hD).1, ?_⟩) (fun W' hW' => ?_)
      · have h1 := (hi.marks D hD).1
        exact (Below.heap_setCell _ _ _ _ (show D ≠ w.heap.size by omega)).trans ((Below.heap_setCell _ _ _ _ (show D ≠ w.heap.size by omega)).trans (hi.marks D hD).2.2)
      · obtain ⟨r0, r1, _, _⟩ := two_read ((hW'.block _ (by omega)).trans hr)
        refine leaves_nil (.tuple #[.agg #[.int .i64 (M : Int), .slice (some ⟨w.heap.size + 1, 0, none⟩) N N], .int .i64 0]) ?_ ⟨some ⟨w.heap.size + 1, 0, none⟩, N, rfl, own_move ho (fun b e => hW'.block b (by simp [Value.ownBlock] at e; omega)), ((hi.below.setCell (p := ⟨w.heap.size, 0, none⟩) (Nat.le_refl _) _).setCell (p := ⟨w.heap.size, 1, none⟩) (Nat.le_refl _) _).trans (hW'.mono (by omega))⟩
        simp [results, Try.results31, go_sem, r0, r1]
set_option maxRecDepth 100000 in
set_option maxHeartbeats 800000 in
theorem Make_any (A : Option Addr) (c : Nat) (ss : List ByteArray) (each : Int) (hss : ∀ s ∈ ss, s.size ≤ 140737488355328) (w : World) (hx : RdS w A c ss) :
    Calls Try.prog 31 #[.slice A ss.length c, .int .i64 each] w fun e' w' => ∃ A' c', e' = .returned (.tuple #[fil (makeK each ss.length) A' (makeX each ss).length c', .int .i64 (makeE each ss.length)]) ∧ OwB w' w.heap.size (.slice A' (makeX each ss).length c') (makeX each ss) ∧ Below w.heap.size w w' := by
  by_cases hok : makeOk each ss.length
  · have hk : makeK each ss.length = (makeM each.toNat : Int) := by rw [makeK, if_pos hok]
    have hX : makeX each ss = setAll (makeM each.toNat) (List.replicate (makeN each.toNat ss.length) 0) ss := by rw [makeX, if_pos hok]
    obtain ⟨h1, h2, h3⟩ := hok
    have hE : makeE each ss.length = 0 := by rw [makeE, if_neg (by omega), if_neg (by omega)]
    rw [hk, hX, hE, setAll_length, List.length_replicate]
    obtain ⟨e, rfl⟩ : ∃ e : Nat, each = (e : Int) := ⟨each.toNat, by omega⟩
    rw [Int.toNat_natCast]
    exact Make_main A c ss e hss w hx (by omega) (by omega) h3
  · have hk : makeK each ss.length = 0 := by rw [makeK, if_neg hok]
    have hX : makeX each ss = [] := by rw [makeX, if_neg hok]
    obtain ⟨n, hn⟩ : ∃ n, ss.length = n := ⟨_, rfl⟩
    have hm := hx.max
    rw [hk, hX]
    rw [hn] at hok hm ⊢
    clear hk hX hn
    have hno : each < 1 ∨ 16 < each ∨ (1 ≤ each ∧ each ≤ 16 ∧ 4096 < n) := by unfold makeOk at hok; omega
    refine (callsIn_wide (n := 9)).1 ?_
    refine callsIn_of_wp_marks Try.func31 rfl trivial ?_ rfl
    simp only [Try.ntmps31, List.size_toArray, List.length_cons, List.length_nil, Nat.reduceAdd, Nat.reduceSub, Array.replicate_succ, Array.replicate_zero, List.push_toArray, List.append_toArray, List.nil_append, List.cons_append]
    unfold fil
    rcases hno with h | h | ⟨h1, h2, h3⟩
    · have hE : makeE each n = 4 := by rw [makeE, if_pos (by omega)]
      rw [hE]
      gi_wp2
      refine leaves_nil (.tuple #[.agg #[.int .i64 0, .slice none 0 0], .int .i64 4]) ?_ ⟨none, 0, rfl, OwB.zero _ _, (Below.refl _ _).alloc (Nat.le_refl _) _⟩
      simp [results, Try.results31, go_sem]
    · have hE : makeE each n = 4 := by rw [makeE, if_pos (by omega)]
      rw [hE]
      have h0 : ¬ each < 1 := by omega
      gi_wp2
      refine leaves_nil (.tuple #[.agg #[.int .i64 0, .slice none 0 0], .int .i64 4]) ?_ ⟨none, 0, rfl, OwB.zero _ _, (Below.refl _ _).alloc (Nat.le_refl _) _⟩
      simp [results, Try.results31, go_sem]
    · have hE : makeE each n = 3 := by rw [makeE, if_neg (by omega), if_pos h3]
      rw [hE]
      have h0 : ¬ each < 1 := by omega
      have h4 : ¬ 16 < each := by omega
      have h5 : 4096 < (n : Int) := by omega
      gi_wp2
      refine leaves_nil (.tuple #[.agg #[.int .i64 0, .slice none 0 0], .int .i64 3]) ?_ ⟨none, 0, rfl, OwB.zero _ _, (Below.refl _ _).alloc (Nat.le_refl _) _⟩
      simp [results, Try.results31, go_sem]
end Go.Proofs.Ytefcepjffeiaoaa.Bl
end

section
/- Bloom: the walk of the reference's Make. -/
namespace Go.Proofs.Ytefcepjffeiaoaa.Bl
open Go.RowKit Go.Shelf Go.Proofs.YtefcepjffeiaoaaW.PrintWords
set_option linter.unusedVariables false

end Go.Proofs.Ytefcepjffeiaoaa.Bl
end

section
/- Bloom: plain laws of filters: the order of the places does not matter; what is put in is in. -/
namespace Go.Proofs.Ytefcepjffeiaoaa.Bl
set_option linter.unusedVariables false

/-- no bit of the one lacks in the other -/
structure Le (xs ys : List UInt8) : Prop where
  len : xs.length = ys.length
  bit : ∀ i j, (xs.getD i 0).toNat.testBit j = true → (ys.getD i 0).toNat.testBit j = true
theorem Le.refl (xs : List UInt8) : Le xs xs := ⟨rfl, fun _ _ h => h⟩
theorem Le.trans {xs ys zs : List UInt8} (h : Le xs ys) (k : Le ys zs) : Le xs zs := ⟨h.len.trans k.len, fun i j e => k.bit i j (h.bit i j e)⟩
theorem or_bit_l (a b : UInt8) (j : Nat) (h : a.toNat.testBit j = true) : (a ||| b).toNat.testBit j = true := by
  rw [UInt8.toNat_or, Nat.testBit_or, h, Bool.true_or]
theorem getD_set (xs : List UInt8) (k i : Nat) (v : UInt8) : (xs.set k v).getD i 0 = if k = i ∧ k < xs.length then v else xs.getD i 0 := by
  rw [List.getD_eq_getElem?_getD, List.getD_eq_getElem?_getD, List.getElem?_set]
  by_cases h : k = i
  · subst h
    by_cases hl : k < xs.length
    · simp [hl]
    · rw [if_pos rfl, if_neg hl, if_neg (fun e => hl e.2), List.getElem?_eq_none (by omega)]
  · rw [if_neg h, if_neg (fun e => h e.1)]
theorem Le.or_at (xs : List UInt8) (k : Nat) (b : UInt8) : Le xs (xs.set k (xs.getD k 0 ||| b)) := by
  refine ⟨List.length_set.symm, fun i j h => ?_⟩
  rw [getD_set]
  split
  · next e => rw [e.1]; exact or_bit_l _ _ _ h
  · exact h
theorem Le.setB (xs : List UInt8) (p : Nat) : Le xs (setB xs p) := Le.or_at xs (p / 8) _
theorem Le.setU (xs : List UInt8) (s : ByteArray) (k d : Nat) : Le (setU xs s k) (setU xs s (k + d)) := by
  induction d with
  | zero => exact Le.refl _
  | succ d ih => exact ih.trans (by rw [show k + (d + 1) = (k + d) + 1 by omega, Go.Proofs.Ytefcepjffeiaoaa.Bl.setU]; exact Le.setB _ _)
theorem Le.setAll (m : Nat) (ss : List ByteArray) (xs : List UInt8) : Le xs (setAll m xs ss) := by
  induction ss generalizing xs with
  | nil => exact Le.refl _
  | cons s r ih => exact ((by have := Le.setU xs s 0 m; rw [Nat.zero_add] at this; exact this : Le xs (Go.Proofs.Ytefcepjffeiaoaa.Bl.setU xs s m))).trans (ih _)
theorem bitN_ne (xs : List UInt8) (p : Nat) : bitN xs p ≠ 0 ↔ (xs.getD (p / 8) 0).toNat.testBit (p % 8) = true := by
  unfold bitN
  rw [Nat.testBit_eq_decide_div_mod_eq, decide_eq_true_iff]
  have := Nat.mod_lt ((xs.getD (p / 8) 0).toNat / 2 ^ (p % 8)) (show 0 < 2 by decide)
  omega
theorem bit_setB (xs : List UInt8) (p : Nat) (hp : p < 8 * xs.length) : bitN (setB xs p) p ≠ 0 := by
  rw [bitN_ne]
  unfold setB
  rw [getD_set, if_pos ⟨rfl, by omega⟩, UInt8.toNat_or, Nat.testBit_or]
  have h8 : p % 8 < 8 := Nat.mod_lt _ (by decide)
  have e : (UInt8.ofNat (2 ^ (p % 8))).toNat = 2 ^ (p % 8) := by
    rw [UInt8.toNat_ofNat']
    have : 2 ^ (p % 8) ≤ 2 ^ 7 := Nat.pow_le_pow_right (by decide) (by omega)
    generalize 2 ^ (p % 8) = t at *
    omega
  rw [e, Nat.testBit_two_pow_self, Bool.or_true]
theorem hasU_of (xs : List UInt8) (s : ByteArray) (k : Nat) (h : ∀ j, j < k → bitN xs (place s (8 * xs.length) j) ≠ 0) : hasU xs s k = true := by
  induction k with
  | zero => rfl
  | succ k ih =>
    rw [hasU, ih (fun j hj => h j (by omega))]
    simpa using h k (by omega)
theorem hasU_all (xs : List UInt8) (s : ByteArray) (k : Nat) (h : hasU xs s k = true) (j : Nat) (hj : j < k) : bitN xs (place s (8 * xs.length) j) ≠ 0 := by
  induction k with
  | zero => omega
  | succ k ih =>
    rw [hasU, Bool.and_eq_true] at h
    by_cases e : j = k
    · subst e; simpa using h.2
    · exact ih h.1 (by omega)
theorem hasU_mono {xs ys : List UInt8} (h : Le xs ys) (s : ByteArray) (k : Nat) (hx : hasU xs s k = true) : hasU ys s k = true := by
  refine hasU_of ys s k fun j hj => ?_
  have := hasU_all xs s k hx j hj
  rw [← h.len, bitN_ne]
  exact h.bit _ _ ((bitN_ne _ _).1 this)
theorem hasU_setU (xs : List UInt8) (s : ByteArray) (m : Nat) (hn : 0 < xs.length) : hasU (setU xs s m) s m = true := by
  refine hasU_of _ s m fun j hj => ?_
  rw [setU_length]
  have hp : place s (8 * xs.length) j < 8 * xs.length := Nat.mod_lt _ (by omega)
  have h1 : bitN (setU xs s (j + 1)) (place s (8 * xs.length) j) ≠ 0 := by
    rw [setU]
    exact bit_setB _ _ (by rw [setU_length]; exact hp)
  have h2 := Le.setU xs s (j + 1) (m - (j + 1))
  rw [show j + 1 + (m - (j + 1)) = m by omega] at h2
  rw [bitN_ne]
  exact h2.bit _ _ ((bitN_ne _ _).1 h1)
theorem hasU_setAll (m : Nat) (ss : List ByteArray) (s : ByteArray) (hs : s ∈ ss) (xs : List UInt8) (hn : 0 < xs.length) : hasU (setAll m xs ss) s m = true := by
  induction ss generalizing xs with
  | nil => cases hs
  | cons t r ih =>
    rw [setAll]
    rcases List.mem_cons.1 hs with rfl | h
    · exact hasU_mono (Le.setAll m r _) s m (hasU_setU xs s m hn)
    · exact ih h _ (by rw [setU_length]; exact hn)
theorem has_made (each : Int) (ss : List ByteArray) (s : ByteArray) (hs : s ∈ ss) (hok : makeOk each ss.length) (ys : List UInt8) (hle : Le (makeX each ss) ys) : hasB (makeK each ss.length) ys s = true ∧ encE (makeK each ss.length) ys.length = 0 ∧ ys.length ≤ 8192 := by
  have hk : makeK each ss.length = (makeM each.toNat : Int) := by rw [makeK, if_pos hok]
  have hX : makeX each ss = setAll (makeM each.toNat) (List.replicate (makeN each.toNat ss.length) 0) ss := by rw [makeX, if_pos hok]
  obtain ⟨h1, h2, h3⟩ := hok
  have hM : 1 ≤ makeM each.toNat ∧ makeM each.toNat ≤ 8 := by unfold makeM; omega
  have hne : ss.length * each.toNat ≤ 65536 := Nat.le_trans (Nat.mul_le_mul h3 (show each.toNat ≤ 16 by omega)) (by decide)
  have hN : 1 ≤ makeN each.toNat ss.length ∧ makeN each.toNat ss.length ≤ 8192 := by
    unfold makeN
    generalize ss.length * each.toNat = q at *
    omega
  have hlen : ys.length = makeN each.toNat ss.length := by rw [← hle.len, hX, setAll_length, List.length_replicate]
  have hok2 : okF (makeM each.toNat : Int) ys.length := by rw [hlen]; exact ⟨by omega, by omega, by omega, by omega⟩
  refine ⟨?_, by rw [hk, encE, if_pos hok2], by omega⟩
  rw [hk, hasB, decide_eq_true hok2, Bool.true_and, Int.toNat_natCast]
  rw [hX] at hle
  exact hasU_mono hle s _ (hasU_setAll _ ss s hs _ (by rw [List.length_replicate]; omega))
end Go.Proofs.Ytefcepjffeiaoaa.Bl
end

section
/- Frame: the walk of Put. -/
namespace Go.Proofs.Ytefcepjffeiaoaa.Fr
open Go.RowKit Go.Proofs.YtefcepjffeiaoaaW.PrintWords
set_option linter.unusedVariables false

/-- of three, laid out for the call -/
theorem Concat_three (A1 A2 A3 : Option Addr) (c1 c2 c3 n1 n2 n3 n : Nat) (x1 x2 x3 : List UInt8) (W : World) (hn : W.heap.size = n) (h1 : RdB W A1 c1 x1) (h2 : RdB W A2 c2 x2) (h3 : RdB W A3 c3 x3) (l1 : x1.length = n1) (l2 : x2.length = n2) (l3 : x3.length = n3) (ht : x1.length + x2.length + x3.length ≤ 140737488355328) :
    Calls Try.prog 29 #[.slice (some ⟨n, 0, none⟩) 3 3] (W.alloc (.cells #[.slice A1 n1 c1, .slice A2 n2 c2, .slice A3 n3 c3] 23)) fun e w' => ∃ v, e = .returned v ∧ OwB w' W.heap.size v (x1 ++ (x2 ++ x3)) ∧ Below W.heap.size W w' := by
  subst hn
  subst l1
  subst l2
  subst l3
  have hb : Below W.heap.size W (W.alloc (.cells #[.slice A1 x1.length c1, .slice A2 x2.length c2, .slice A3 x3.length c3] 23)) := (Below.refl _ _).alloc (Nat.le_refl _) _
  refine (Concat_any (some ⟨W.heap.size, 0, none⟩) 3 [(A1, c1, x1), (A2, c2, x2), (A3, c3, x3)] _ ⟨rfl, by simp, fun _ => ⟨_, rfl, fun j hj => ?_⟩⟩ ?_ (by simp [total]; omega)).mono ?_
  · rw [add_plain, World.cell?_alloc_mark]
    have : j = 0 ∨ j = 1 ∨ j = 2 := by simp at hj; omega
    rcases this with rfl | rfl | rfl <;> rfl
  · intro s hs
    simp only [List.mem_cons, List.not_mem_nil, or_false] at hs
    rcases hs with rfl | rfl | rfl
    · exact h1.below hb
    · exact h2.below hb
    · exact h3.below hb
  · rintro e w' ⟨v, rfl, HO, HB⟩
    exact ⟨v, rfl, by simpa [joined] using HO.lower (by simp), hb.trans (HB.mono (by simp))⟩
theorem oneK (w : World) (K : Int) (h0 : 0 ≤ K) (h1 : K ≤ 255) : RdB (w.alloc (.cells #[.int .u8 K] 5)) (some ⟨w.heap.size, 0, none⟩) 1 [UInt8.ofNat K.toNat] := by
  have h : OwB (w.alloc (.cells #[.int .u8 K] 5)) w.heap.size (.slice (some ⟨w.heap.size, 0, none⟩) 1 1) [UInt8.ofNat K.toNat] := by
    have h := own_lit_of (enc := eu8) w w.heap.size 5 [UInt8.ofNat K.toNat] (Nat.le_refl _) (by simp)
    have e : (encs eu8 [UInt8.ofNat K.toNat]).toArray = #[Value.int .u8 K] := by
      simp [encs, eu8]
      omega
    rw [e] at h
    exact h
  exact h.rdl
set_option maxRecDepth 100000 in
set_option maxHeartbeats 1600000 in
theorem Put_ok (K : Int) (A : Option Addr) (c : Nat) (d : List UInt8) (w : World) (hx : RdB w A c d) (h0 : 0 ≤ K) (h1 : K ≤ 255) (hd : d.length ≤ 65536) :
    Calls Try.prog 71 #[fil K A d.length c] w fun e w' => ∃ v, e = .returned (.tuple #[v, .int .i64 0]) ∧ OwB w' w.heap.size v (guarded (bodyF K d)) ∧ Below w.heap.size w w' := by
  obtain ⟨n, hn⟩ : ∃ n, d.length = n := ⟨_, rfl⟩
  have hP0 := fun W => Put_any n (by omega) W
  obtain ⟨p, hp⟩ : ∃ p, put n = p := ⟨_, rfl⟩
  have hpl : p.length ≤ 9 := by rw [← hp, put_length]; exact vsize_le _
  rw [hp] at hP0
  have HBODY : Hid (bodyF K d = p ++ ([UInt8.ofNat K.toNat] ++ d)) := by rw [bodyF, hn, hp]; rfl
  have hbl : (bodyF K d).length + 4 ≤ 140737488355328 := by rw [bodyF_length]; have := vsize_le d.length; omega
  have hGd := fun A c W (h : RdB W A c (bodyF K d)) => Guard_any A c (bodyF K d) W h hbl
  obtain ⟨m, hm⟩ : ∃ m, (bodyF K d).length = m := ⟨_, rfl⟩
  rw [hm] at hGd
  have HM := hide hm
  have HN := hide hn
  rw [hn] at hd ⊢
  clear hn hp hm hbl
  obtain ⟨q, hq⟩ : ∃ q, p.length = q := ⟨_, rfl⟩
  have HQ := hide hq
  rw [hq] at hpl
  clear hq
  unfold fil
  have hx0 := hx.below (below_alloc w (.cells #[.int .i64 K, .slice A n c] 106))
  have X0 := Bx.new w K (.slice A n c) 106
  have B0 := below_alloc w (.cells #[.int .i64 K, .slice A n c] 106)
  have hw1 : K % 256 = K := by omega
  have hw2 : IntKind.u8.wrap K = K := by rw [IntKind.wrap_u8]; omega
  have hw3 : IntKind.u64.wrap (n : Int) = (n : Int) := by rw [IntKind.wrap_u64]; omega
  have hd1 : (n : Int) ≤ 65536 := by omega
  obtain ⟨p0, p1, p2, p3⟩ := X0.read
  go_enter Try.func71, Try.ntmps71
  go_wp2
  generalize w.alloc (.cells #[.int .i64 K, .slice A n c] 106) = W0 at *
  have hS0 : Below W0.heap.size W0 W0.drew ∧ W0.drew.cell? ⟨w.heap.size, 0, none⟩ = some (.int .i64 K) ∧ W0.drew.cell? ⟨w.heap.size, 1, none⟩ = some (.slice A n c) := ⟨(Below.refl _ _).drew, p0, p1⟩
  have hSk : ∀ W, Below W0.heap.size W0 W → W.cell? ⟨w.heap.size, 0, none⟩ = some (.int .i64 K) ∧ W.cell? ⟨w.heap.size, 1, none⟩ = some (.slice A n c) := fun W h => ⟨(h.cell (World.block_lt_of_cell? W0 _ p0)).trans p0, (h.cell (World.block_lt_of_cell? W0 _ p1)).trans p1⟩
  go_region_held3 (fun w' => Below W0.heap.size W0 w' ∧ w'.cell? ⟨w.heap.size, 0, none⟩ = some (.int .i64 K) ∧ w'.cell? ⟨w.heap.size, 1, none⟩ = some (.slice A n c)) (first | exact hS0 | assumption | exact ⟨HBt4, hSk _ HBt4⟩ | exact ⟨HBt3, hSk _ HBt3⟩ | exact ⟨HBt1, hSk _ HBt1⟩ | (have hh := ‹Below W0.heap.size W0 _ ∧ _ ∧ _›; exact ⟨hh.1.alloc hh.1.size _, hSk _ (hh.1.alloc hh.1.size _)⟩)) (first | (go_at_call 30; have hh := ‹Below W0.heap.size W0 _ ∧ _ ∧ _›; (with_reducible refine (hP0 _).mono ?_); rintro e w1 ⟨v1, rfl, HO1, HB1⟩; have HBt1 := hh.1.trans (HB1.mono hh.1.size); obtain ⟨A1, c1, hv1, hr1⟩ := HO1.rd; rw [HQ.out] at hv1; subst hv1) | (go_at_call 29; have hh := ‹Below W0.heap.size W0 _ ∧ _ ∧ _›; (first | (with_reducible refine (Concat_three A1 _ A c1 1 c q 1 n _ p [UInt8.ofNat K.toNat] d (w1.alloc (.cells #[.int .u8 K] 5)) (by simp) (hr1.below (below_alloc _ _)) (oneK w1 K h0 h1) (hx0.below (HBt1.alloc HBt1.size _)) HQ.out rfl HN.out (by rw [HQ.out, HN.out]; simp; omega)).mono ?_) | (with_reducible refine (Concat_three A1 _ A c1 1 c q 1 n _ p [UInt8.ofNat K.toNat] d w1 (by simp) hr1 (((oneK W0 K h0 h1).below (Below.refl _ _).drew).below HB1) (hx0.below HBt1) HQ.out rfl HN.out (by rw [HQ.out, HN.out]; simp; omega)).mono ?_)); rintro e w3 ⟨v3, rfl, HO3, HB3⟩; have HBt3 : Below W0.heap.size W0 w3 := (by first | exact (HBt1.alloc HBt1.size _).trans (HB3.mono (HBt1.alloc HBt1.size _).size) | exact HBt1.trans (HB3.mono HBt1.size)); rw [← HBODY.out] at HO3; obtain ⟨A3, c3, hv3, hr3⟩ := HO3.rd; rw [HM.out] at hv3; subst hv3) | (go_at_call 36; (with_reducible refine (hGd _ _ _ hr3).mono ?_); rintro e w4 ⟨v4, rfl, HO4, HB4⟩; have HBt4 := HBt3.trans (HB4.mono HBt3.size); replace HO4 := HO4.lower HBt3.size))
  all_goals go_wp2
  all_goals go_ret2
  all_goals exact ⟨_, rfl, HO4.lower B0.size, B0.trans (HBt4.mono B0.size)⟩
end Go.Proofs.Ytefcepjffeiaoaa.Fr
end

section
/- Frame: Put of any record; the walk of Get. -/
namespace Go.Proofs.Ytefcepjffeiaoaa.Fr
open Go.RowKit Go.Proofs.YtefcepjffeiaoaaW.PrintWords
set_option linter.unusedVariables false

set_option maxRecDepth 100000 in
set_option maxHeartbeats 800000 in
theorem FPut_any (K : Int) (A : Option Addr) (c : Nat) (d : List UInt8) (w : World) (hx : RdB w A c d) (hK : (Lit.int .i64 K).wf = true) :
    Calls Try.prog 71 #[fil K A d.length c] w fun e w' => ∃ v, e = .returned (.tuple #[v, .int .i64 (putFE K d.length)]) ∧ OwB w' w.heap.size v (putFX K d) ∧ Below w.heap.size w w' := by
  obtain ⟨k1, k2⟩ := i64_of K hK
  by_cases h1 : K < 0 ∨ 255 < K
  · have e1 : putFE K d.length = 22 := by rw [putFE, if_pos h1]
    have e2 : putFX K d = [] := by rw [putFX, e1]; rfl
    rw [e1, e2]
    have hw1 : ¬ K = K % 256 := by omega
    have hw2 : IntKind.u8.wrap K = K % 256 := IntKind.wrap_u8 K
    clear e1 e2
    unfold fil
    go_enter Try.func71, Try.ntmps71
    go_wp2
    go_ret2
    exact ⟨_, rfl, OwB.zero _ _, below_alloc _ _⟩
  · by_cases h2 : 65536 < d.length
    · have e1 : putFE K d.length = 5 := by rw [putFE, if_neg h1, if_pos h2]
      have e2 : putFX K d = [] := by rw [putFX, e1]; rfl
      rw [e1, e2]
      have hw1 : K % 256 = K := by omega
      have hw2 : IntKind.u8.wrap K = K := by rw [IntKind.wrap_u8]; omega
      have hm := hx.max
      have h3 : 65536 < (d.length : Int) := by omega
      clear e1 e2
      unfold fil
      go_enter Try.func71, Try.ntmps71
      go_wp2
      go_ret2
      exact ⟨_, rfl, OwB.zero _ _, below_alloc _ _⟩
    · have e1 : putFE K d.length = 0 := by rw [putFE, if_neg h1, if_neg h2]
      have e2 : putFX K d = guarded (bodyF K d) := by rw [putFX, if_pos e1]
      rw [e1, e2]
      exact Put_ok K A c d w hx (by omega) (by omega) (by omega)
set_option maxRecDepth 100000 in
set_option maxHeartbeats 1600000 in
theorem FGet_any (A : Option Addr) (c : Nat) (b : List UInt8) (w : World) (hx : RdB w A c b) (hl : b.length ≤ 140737488355328) :
    Calls Try.prog 83 #[.slice A b.length c] w fun e w' => ∃ A' c', e = .returned (.tuple #[fil (fgK b) A' (fgX b).length c', .int .i64 (fgS b : Int), .int .i64 (fgE b)]) ∧ OwB w' w.heap.size (.slice A' (fgX b).length c') (fgX b) ∧ Below w.heap.size w w' := by
  have hm := hx.max
  have hV := Get_any A c b _ (hx.below (below_alloc w (.cells #[.int .i64 0, .slice none 0 0] 106)))
  have R0 : (w.alloc (.cells #[.int .i64 0, .slice none 0 0] 106)).heap[w.heap.size]? = some (.cells #[.int .i64 0, .slice none 0 0] 106) := heap_alloc_new w _
  have B0 := below_alloc w (.cells #[.int .i64 0, .slice none 0 0] 106)
  have hlt : w.heap.size < (w.alloc (.cells #[.int .i64 0, .slice none 0 0] 106)).heap.size := by simp
  -- the refusals
  have refuse : fgE b ≠ 0 → fgK b = 0 ∧ fgX b = [] ∧ fgS b = 0 := fun h => ⟨by rw [fgK, if_neg h], by rw [fgX, if_neg h], by rw [fgS, if_neg h]⟩
  unfold fil
  by_cases h1 : getErr b = 0
  · obtain ⟨hk1, hk2⟩ : 1 ≤ gK b ∧ gK b ≤ b.length := by
      rw [gK, if_pos h1]
      exact ⟨by omega, (put_get b h1).2.1⟩
    by_cases h2 : 65536 < gN b
    · have e1 : fgE b = 5 := by rw [fgE, if_neg (fun h => h h1), if_pos h2]
      obtain ⟨r1, r2, r3⟩ := refuse (by rw [e1]; decide)
      rw [e1, r1, r2, r3]
      rw [h1] at hV
      have h2i : 65536 < (gN b : Int) := by omega
      clear e1 r1 r2 r3 refuse h1
      generalize gN b = n at *
      generalize gK b = k at *
      go_enter Try.func83, Try.ntmps83
      go_wp2_with (first | (go_at_call 102; refine hV.mono ?_; rintro e w1 ⟨rfl, HB1⟩; have R1 := (HB1.block _ hlt).trans R0; obtain ⟨k0, k1', k2', k3⟩ := two_read R1; replace B0 := B0.trans (HB1.mono B0.size)))
      obtain ⟨r0, r1, _, _⟩ := two_read (two_cells (u := .int .i64 0) (v := .slice none 0 0) R1)
      refine bodyPost_ret (v := .tuple #[.agg #[.int .i64 0, .slice none 0 0], .int .i64 0, .int .i64 5]) ?_ rfl ⟨none, 0, rfl, OwB.zero _ _, (B0.setCell (p := ⟨w.heap.size, 0, none⟩) (Nat.le_refl _) _).setCell (p := ⟨w.heap.size, 1, none⟩) (Nat.le_refl _) _⟩
      simp [results, Try.results83, go_sem, r0, r1]
    · by_cases h3 : b.length < gK b + 1 + gN b + 4
      · have e1 : fgE b = 8 := by rw [fgE, if_neg (fun h => h h1), if_neg h2, if_pos h3]
        obtain ⟨r1, r2, r3⟩ := refuse (by rw [e1]; decide)
        rw [e1, r1, r2, r3]
        rw [h1] at hV
        have h2i : ¬ 65536 < (gN b : Int) := by omega
        clear e1 r1 r2 r3 refuse h1
        generalize gN b = n at *
        generalize gK b = k at *
        obtain ⟨k1, hk1e⟩ : ∃ k1, k + 1 = k1 := ⟨_, rfl⟩
        obtain ⟨s, hse⟩ : ∃ s, k1 + n + 4 = s := ⟨_, rfl⟩
        have a1 : (k : Int) + 1 = (k1 : Int) := by omega
        have a2 : (k1 : Int) + (n : Int) + 4 = (s : Int) := by omega
        have a3 : (b.length : Int) < (s : Int) := by omega
        clear hse hk1e h3
        go_enter Try.func83, Try.ntmps83
        go_wp2_with (first | (go_at_call 102; refine hV.mono ?_; rintro e w1 ⟨rfl, HB1⟩; have R1 := (HB1.block _ hlt).trans R0; obtain ⟨k0, k1', k2', k3⟩ := two_read R1; replace B0 := B0.trans (HB1.mono B0.size)))
        obtain ⟨r0, r1, _, _⟩ := two_read (two_cells (u := .int .i64 0) (v := .slice none 0 0) R1)
        refine bodyPost_ret (v := .tuple #[.agg #[.int .i64 0, .slice none 0 0], .int .i64 0, .int .i64 8]) ?_ rfl ⟨none, 0, rfl, OwB.zero _ _, (B0.setCell (p := ⟨w.heap.size, 0, none⟩) (Nat.le_refl _) _).setCell (p := ⟨w.heap.size, 1, none⟩) (Nat.le_refl _) _⟩
        simp [results, Try.results83, go_sem, r0, r1]
      · have h2i : ¬ 65536 < (gN b : Int) := by omega
        have hle : gK b + 1 + gN b + 4 ≤ b.length := by omega
        have hxs := hx.take (gK b + 1 + gN b + 4) hle
        have hlen : (b.take (gK b + 1 + gN b + 4)).length = gK b + 1 + gN b + 4 := by rw [List.length_take]; omega
        have hBr := fun W (h : Below w.heap.size w W) => Bare_all A c (b.take (gK b + 1 + gN b + 4)) W (hxs.below h) (by omega)
        rw [hlen] at hBr
        have e0 : fgE b = bareNum (b.take (gK b + 1 + gN b + 4)) := by rw [fgE, if_neg (fun h => h h1), if_neg h2, if_neg h3]
        have hsl := fun W => slice_hi 23 5 Try.underlying23 (i := _) rfl rfl A b.length c (gK b + 1 + gN b + 4) (by have := hx.1; omega) W
        rw [h1] at hV
        by_cases hz : fgE b = 0
        · have e2 : fgK b = ((b.getD (gK b) 0).toNat : Int) := by rw [fgK, if_pos hz]
          have e3 : fgX b = (b.take (gK b + 1 + gN b)).drop (gK b + 1) := by rw [fgX, if_pos hz]
          have e4 : fgS b = gK b + 1 + gN b + 4 := by rw [fgS, if_pos hz]
          rw [← e0, hz] at hBr
          rw [hz, e2, e3, e4]
          obtain ⟨ad, rfl, hcell⟩ := hx.at_ (gK b) (by omega)
          have hxd := (hx.take (gK b + 1 + gN b) (by omega)).drop (gK b + 1) (by rw [List.length_take]; omega)
          have hdl : ((b.take (gK b + 1 + gN b)).drop (gK b + 1)).length = gN b := by rw [List.length_drop, List.length_take]; omega
          have hsl2 := fun W => slice_lohi 23 5 Try.underlying23 (i := _) rfl rfl (some ad) b.length c (gK b + 1) (gK b + 1 + gN b) (by omega) (by have := hx.1; omega) W
          rw [show gK b + 1 + gN b - (gK b + 1) = gN b by omega] at hsl2
          have hCl := fun W (h : Below w.heap.size w W) => Clone_any _ _ _ W (hxd.below h) (by rw [hdl]; omega)
          rw [hdl] at hCl
          have HDL := hide hdl
          rw [hdl]
          clear e0 e2 e3 e4 hz refuse hxs hlen hxd hdl h1 h3
          generalize (b.take (gK b + 1 + gN b)).drop (gK b + 1) = dx at *
          generalize gN b = n at *
          generalize gK b = k at *
          generalize b.getD k 0 = x at *
          generalize cutA (some ad) c (k + 1) = C at *
          obtain ⟨k1, hk1e⟩ : ∃ k1, k + 1 = k1 := ⟨_, rfl⟩
          rw [hk1e] at hsl2 hCl hsl hBr hle ⊢
          obtain ⟨t, hte⟩ : ∃ t, k1 + n = t := ⟨_, rfl⟩
          rw [hte] at hsl2 hsl hBr hle ⊢
          obtain ⟨s, hse⟩ : ∃ s, t + 4 = s := ⟨_, rfl⟩
          rw [hse] at hsl hBr hle ⊢
          have a1 : (k : Int) + 1 = (k1 : Int) := by omega
          have a2 : (k1 : Int) + (n : Int) = (t : Int) := by omega
          have a3 : (t : Int) + 4 = (s : Int) := by omega
          have a4 : (s : Int) - 4 = (t : Int) := by omega
          have a5 : ¬ (b.length : Int) < (s : Int) := by omega
          have a6 : (k : Int) < (b.length : Int) := by omega
          have a7 : k < b.length := by omega
          have hwx : IntKind.i64.wrap (x.toNat : Int) = (x.toNat : Int) := by have := x.toNat_lt; rw [IntKind.wrap_i64]; omega
          have hwk : IntKind.i64.wrap (k1 : Int) = (k1 : Int) := by rw [IntKind.wrap_i64]; omega
          have hwt : IntKind.i64.wrap (t : Int) = (t : Int) := by rw [IntKind.wrap_i64]; omega
          have hblt := World.block_lt_of_cell? w _ hcell
          have hSk : ∀ W, Below w.heap.size w W → W.cell? (ad.add k) = some (.int .u8 (x.toNat : Int)) := fun W h => (h.cell hblt).trans hcell
          clear hk1e hte hse
          go_enter Try.func83, Try.ntmps83
          go_wp2_with (first | (go_at_call 102; refine hV.mono ?_; rintro e w1 ⟨rfl, HB1⟩; have R1 := (HB1.block _ hlt).trans R0; replace B0 := B0.trans (HB1.mono B0.size)) | (go_at_call 46; (with_reducible refine (hBr _ B0).mono ?_); rintro e w2 ⟨v2, rfl, HO2, HB2⟩; have R2 := (HB2.block _ (Array.getElem?_eq_some_iff.1 R1).1).trans R1; replace B0 := B0.trans (HB2.mono B0.size)))
          have hS0 : Below w.heap.size w w2.drew ∧ w2.drew.cell? (ad.add k) = some (.int .u8 (x.toNat : Int)) := ⟨B0.drew, hSk _ B0.drew⟩
          go_region_held3 (fun w' => Below w.heap.size w w' ∧ w'.cell? (ad.add k) = some (.int .u8 (x.toNat : Int))) (first | exact hS0 | exact ⟨HBt, hSk _ HBt⟩ | exact ⟨(HBt.setCell (p := ⟨w.heap.size, 0, none⟩) (Nat.le_refl _) _).setCell (p := ⟨w.heap.size, 1, none⟩) (Nat.le_refl _) _, hSk _ ((HBt.setCell (p := ⟨w.heap.size, 0, none⟩) (Nat.le_refl _) _).setCell (p := ⟨w.heap.size, 1, none⟩) (Nat.le_refl _) _)⟩) (first | (go_at_call 69; (with_reducible refine (hCl _ B0.drew).mono ?_); rintro e w3 ⟨v3, rfl, HO3, HB3⟩; have HBt := B0.drew.trans (HB3.mono B0.drew.size); have R3 : w3.heap[w.heap.size]? = some (.cells #[.int .i64 0, .slice none 0 0] 106) := (HB3.block _ (Array.getElem?_eq_some_iff.1 R2).1).trans R2; obtain ⟨k2, k3, k4, k5⟩ := two_read R3; obtain ⟨A3, c3, hv3, hr3⟩ := HO3.rd; rw [HDL.out] at hv3; subst hv3))
          go_wp2
          obtain ⟨r0, r1, _, _⟩ := two_read (two_cells (u := .int .i64 (x.toNat : Int)) (v := .slice A3 n c3) R3)
          have hne : some w.heap.size ≠ (Value.slice A3 n c3).ownBlock := own_ne HO3 R3 (by decide)
          have HO4 := own_setCell (own_setCell HO3 (p := ⟨w.heap.size, 0, none⟩) hne (.int .i64 (x.toNat : Int))) (p := ⟨w.heap.size, 1, none⟩) hne (.slice A3 n c3)
          refine bodyPost_ret (v := .tuple #[.agg #[.int .i64 (x.toNat : Int), .slice A3 n c3], .int .i64 (s : Int), .int .i64 0]) ?_ rfl ⟨A3, c3, rfl, OwB.lower HO4 B0.drew.size, (HBt.setCell (p := ⟨w.heap.size, 0, none⟩) (Nat.le_refl _) _).setCell (p := ⟨w.heap.size, 1, none⟩) (Nat.le_refl _) _⟩
          simp [results, Try.results83, go_sem, r0, r1]
        · obtain ⟨r1, r2, r3⟩ := refuse hz
          rw [← e0] at hBr
          rw [r1, r2, r3]
          generalize fgE b = z at *
          clear e0 r1 r2 r3 refuse hxs hlen h1 h3
          generalize gN b = n at *
          generalize gK b = k at *
          obtain ⟨k1, hk1e⟩ : ∃ k1, k + 1 = k1 := ⟨_, rfl⟩
          rw [hk1e] at hsl hBr hle
          obtain ⟨s, hse⟩ : ∃ s, k1 + n + 4 = s := ⟨_, rfl⟩
          rw [hse] at hsl hBr hle
          have a1 : (k : Int) + 1 = (k1 : Int) := by omega
          have a2 : (k1 : Int) + (n : Int) + 4 = (s : Int) := by omega
          have a5 : ¬ (b.length : Int) < (s : Int) := by omega
          clear hk1e hse
          go_enter Try.func83, Try.ntmps83
          go_wp2_with (first | (go_at_call 102; refine hV.mono ?_; rintro e w1 ⟨rfl, HB1⟩; have R1 := (HB1.block _ hlt).trans R0; replace B0 := B0.trans (HB1.mono B0.size)) | (go_at_call 46; (with_reducible refine (hBr _ B0).mono ?_); rintro e w2 ⟨v2, rfl, HO2, HB2⟩; have R2 := (HB2.block _ (Array.getElem?_eq_some_iff.1 R1).1).trans R1; obtain ⟨k0, k1', k2', k3⟩ := two_read R2; replace B0 := B0.trans (HB2.mono B0.size)))
          obtain ⟨r0, r1, _, _⟩ := two_read (two_cells (u := .int .i64 0) (v := .slice none 0 0) R2)
          refine bodyPost_ret (v := .tuple #[.agg #[.int .i64 0, .slice none 0 0], .int .i64 0, .int .i64 z]) ?_ rfl ⟨none, 0, rfl, OwB.zero _ _, (B0.setCell (p := ⟨w.heap.size, 0, none⟩) (Nat.le_refl _) _).setCell (p := ⟨w.heap.size, 1, none⟩) (Nat.le_refl _) _⟩
          simp [results, Try.results83, go_sem, r0, r1]
  · have e1 : fgE b = (getErr b : Int) := by rw [fgE, if_pos h1]
    obtain ⟨r1, r2, r3⟩ := refuse (by rw [e1]; omega)
    rw [e1, r1, r2, r3]
    generalize gN b = n at *
    generalize gK b = k at *
    generalize getErr b = x at *
    have hxi : ¬ (x : Int) = 0 := by omega
    clear e1 r1 r2 r3 refuse h1
    go_enter Try.func83, Try.ntmps83
    go_wp2_with (first | (go_at_call 102; refine hV.mono ?_; rintro e w1 ⟨rfl, HB1⟩; have R1 := (HB1.block _ hlt).trans R0; obtain ⟨k0, k1', k2', k3⟩ := two_read R1; replace B0 := B0.trans (HB1.mono B0.size)))
    obtain ⟨r0, r1, _, _⟩ := two_read (two_cells (u := .int .i64 0) (v := .slice none 0 0) R1)
    refine bodyPost_ret (v := .tuple #[.agg #[.int .i64 0, .slice none 0 0], .int .i64 0, .int .i64 (x : Int)]) ?_ rfl ⟨none, 0, rfl, OwB.zero _ _, (B0.setCell (p := ⟨w.heap.size, 0, none⟩) (Nat.le_refl _) _).setCell (p := ⟨w.heap.size, 1, none⟩) (Nat.le_refl _) _⟩
    simp [results, Try.results83, go_sem, r0, r1]
end Go.Proofs.Ytefcepjffeiaoaa.Fr
end

section
/- Frame: the walk of the reference's Put. -/
namespace Go.Proofs.Ytefcepjffeiaoaa.Fr
open Go.RowKit Go.Proofs.YtefcepjffeiaoaaW.PrintWords
set_option linter.unusedVariables false

end Go.Proofs.Ytefcepjffeiaoaa.Fr
end

section
/- Frame: the walk of the reference's Get. -/
namespace Go.Proofs.Ytefcepjffeiaoaa.Fr
open Go.RowKit Go.Proofs.YtefcepjffeiaoaaW.PrintWords
set_option linter.unusedVariables false

end Go.Proofs.Ytefcepjffeiaoaa.Fr
end

section
/- Table: versions as a table's octets, plainly. -/
namespace Go.Proofs.Ytefcepjffeiaoaa
set_option linter.unusedVariables false

/-- the versions of one part -/
def part (l : List Ent) (i : Nat) : List Ent := (l.take (16 * i + 16)).drop (16 * i)
def keyAt (l : List Ent) (i : Nat) : ByteArray := (l.getD i zEnt).1
/-- keys, each once -/
def keysE (l : List Ent) : Nat → List ByteArray
  | 0 => []
  | k + 1 => if k = 0 ∨ keyAt l k ≠ keyAt l (k - 1) then keysE l k ++ [keyAt l k] else keysE l k
def blocksB (l : List Ent) : Nat → List UInt8
  | 0 => []
  | k + 1 => blocksB l k ++ blkX (part l k)
def rowB (l : List Ent) (k : Nat) : List UInt8 := put (blkX (part l k)).length ++ put (keyAt l (16 * k)).size ++ bl (keyAt l (16 * k))
def indexB (l : List Ent) : Nat → List UInt8
  | 0 => []
  | k + 1 => indexB l k ++ rowB l k
def nparts (n : Nat) : Nat := (n + 15) / 16
def fourN (n : Nat) : List UInt8 := [UInt8.ofNat (n / 16777216), UInt8.ofNat (n / 65536), UInt8.ofNat (n / 256), UInt8.ofNat n]
def filK (l : List Ent) : Int := Bl.makeK 10 (keysE l l.length).length
def filX (l : List Ent) : List UInt8 := Bl.makeX 10 (keysE l l.length)
def bodyT (l : List Ent) : List UInt8 := blocksB l (nparts l.length)
def outT (l : List Ent) : List UInt8 := bodyT l ++ putFX 2 (indexB l (nparts l.length))
def markT : List UInt8 := [116, 107, 116, 98]
def endT (l : List Ent) : List UInt8 := markT ++ fourN (bodyT l).length ++ fourN (outT l).length ++ fourN l.length
def tabB (l : List Ent) : List UInt8 := outT l ++ putFX 3 (Bl.encF (filK l) (filX l)) ++ guarded (endT l)
def tabE (l : List Ent) : Int := if l.length < 1 ∨ 4096 < l.length then 3 else ordE l
def tabX (l : List Ent) : List UInt8 := if tabE l = 0 then tabB l else []
/-- the lengths that an index tells -/
def lenL : Nat → List UInt8 → Option (List Nat)
  | 0, _ => some []
  | f + 1, b => if b = [] then some [] else if getErr b ≠ 0 ∨ 16777216 < gN b then none
    else if getErr (b.drop (gK b)) ≠ 0 ∨ ((b.drop (gK b)).drop (gK (b.drop (gK b)))).length < gN (b.drop (gK b)) then none
    else (lenL f ((b.drop (gK b)).drop (gK (b.drop (gK b)) + gN (b.drop (gK b))))).map (gN b :: ·)
/-- the blocks' versions -/
def catP : List Nat → List UInt8 → List Ent → List Ent
  | [], _, acc => acc
  | n :: ns, rest, acc => if rest.length < n ∨ 4096 < acc.length then [] else if unE (rest.take n) ≠ 0 then [] else catP ns (rest.drop n) (acc ++ unL (rest.take n))
def toldP (b : List UInt8) (at_ to_ : Nat) : List Ent :=
  if to_ < at_ ∨ b.length < to_ then [] else if fgE ((b.take to_).drop at_) ≠ 0 then []
  else match lenL (fgX ((b.take to_).drop at_)).length (fgX ((b.take to_).drop at_)) with
    | none => []
    | some sizes => catP sizes (b.take at_) []
def num4 (b : List UInt8) : Nat := (((b.getD 0 0).toNat * 256 + (b.getD 1 0).toNat) * 256 + (b.getD 2 0).toNat) * 256 + (b.getD 3 0).toNat
def footT (b : List UInt8) : List UInt8 := b.drop (b.length - 20)
def toldT (b : List UInt8) : List Ent := toldP b (num4 ((bare (footT b)).drop 4)) (num4 ((bare (footT b)).drop 8))
def openE (b : List UInt8) : Int := if b.length < 20 then 8 else if bareNum (footT b) ≠ 0 then bareNum (footT b) else if (bare (footT b)).take 4 ≠ markT then 22 else if tabE (toldT b) = 0 ∧ tabX (toldT b) = b then 0 else 21
def openL (b : List UInt8) : List Ent := if openE b = 0 then toldT b else []

theorem tabE_ok (l : List Ent) (h : tabE l = 0) : 1 ≤ l.length ∧ l.length ≤ 4096 ∧ ordE l = 0 := by
  unfold tabE at h
  split at h
  · cases h
  · exact ⟨by omega, by omega, h⟩
theorem part_length (l : List Ent) (i : Nat) : (part l i).length = min (16 * i + 16) l.length - 16 * i := by simp [part]
theorem part_getD (l : List Ent) (i j : Nat) (hj : j < 16) : (part l i).getD j zEnt = l.getD (16 * i + j) zEnt := by
  rw [part, List.getD_eq_getElem?_getD, List.getD_eq_getElem?_getD, List.getElem?_drop, List.getElem?_take]
  rw [if_pos (by omega)]
theorem part_chk (l : List Ent) (h : tabE l = 0) (i : Nat) (hi : i < nparts l.length) : chkE (part l i) = 0 ∧ 1 ≤ (part l i).length ∧ (part l i).length ≤ 16 := by
  obtain ⟨h1, h2, h3⟩ := tabE_ok l h
  unfold nparts at hi
  have hl := part_length l i
  have ho : ordE (part l i) = 0 := by
    refine ordL_of _ _ _ fun j _ hj => ?_
    rw [part_getD l i j (by omega)]
    obtain ⟨k1, k2⟩ := ordE_may l h3 (16 * i + j) (by omega)
    refine ⟨k1, fun h0 => ?_⟩
    rw [part_getD l i (j - 1) (by omega)]
    have := k2 (by omega)
    rwa [show 16 * i + j - 1 = 16 * i + (j - 1) by omega] at this
  refine ⟨?_, by omega, by omega⟩
  rw [chkE, if_neg (by omega), ho]
theorem blkX_length (l : List Ent) (h : chkE l = 0) (h16 : l.length ≤ 16) : (blkX l).length ≤ 10500 := by
  obtain ⟨h1, h2, h3⟩ := chkE_ok l h
  have e1 : blkX l = guarded (blkB l) := by rw [blkX, if_pos h]
  have h4 := entsB_length l h3 l.length (Nat.le_refl _)
  have h5 := tailB_length l l.length
  rw [e1, guarded_length, blkB, List.length_append, List.length_append, List.length_singleton]
  omega
theorem blocksB_le (l : List Ent) (h : tabE l = 0) (k : Nat) (hk : k ≤ nparts l.length) : (blocksB l k).length ≤ 10500 * k := by
  induction k with
  | zero => simp [blocksB]
  | succ k ih =>
    have := ih (by omega)
    obtain ⟨h1, h2, h3⟩ := part_chk l h k (by omega)
    have := blkX_length _ h1 h3
    rw [blocksB, List.length_append]; omega
theorem indexB_le (l : List Ent) (h : tabE l = 0) (k : Nat) (hk : k ≤ nparts l.length) : (indexB l k).length ≤ 114 * k := by
  obtain ⟨t1, t2, t3⟩ := tabE_ok l h
  induction k with
  | zero => simp [indexB]
  | succ k ih =>
    have := ih (by omega)
    have v1 := vsize_le (blkX (part l k)).length
    have v2 := vsize_le (keyAt l (16 * k)).size
    obtain ⟨m1, m2, _⟩ := (ordE_may l t3 (16 * k) (by unfold nparts at hk; omega)).1
    have hks : (keyAt l (16 * k)).size ≤ 96 := m2
    rw [indexB, List.length_append, rowB, List.length_append, List.length_append, put_length, put_length, bl_length]; omega
theorem nparts_le (l : List Ent) (h : tabE l = 0) : 1 ≤ nparts l.length ∧ nparts l.length ≤ 256 := by
  obtain ⟨t1, t2, t3⟩ := tabE_ok l h
  unfold nparts; omega
theorem index_put (l : List Ent) (h : tabE l = 0) : putFE 2 (indexB l (nparts l.length)).length = 0 := by
  have h1 := indexB_le l h _ (Nat.le_refl _)
  have h2 := nparts_le l h
  rw [putFE, if_neg (by omega), if_neg (by omega)]
theorem keysE_le (l : List Ent) (k : Nat) : (keysE l k).length ≤ k := by
  induction k with
  | zero => simp [keysE]
  | succ k ih =>
    rw [keysE]
    split
    · rw [List.length_append, List.length_singleton]; omega
    · omega
theorem fil_ok (l : List Ent) (h : tabE l = 0) : Bl.makeOk 10 (keysE l l.length).length ∧ filK l = 7 ∧ 1 ≤ (filX l).length ∧ (filX l).length ≤ 5121 ∧ Bl.okF (filK l) (filX l).length := by
  obtain ⟨t1, t2, t3⟩ := tabE_ok l h
  have h1 := keysE_le l l.length
  have hok : Bl.makeOk 10 (keysE l l.length).length := ⟨by decide, by decide, by omega⟩
  have hK : filK l = 7 := by rw [filK, Bl.makeK, if_pos hok]; rfl
  have hX : (filX l).length = max 1 (((keysE l l.length).length * 10 + 7) / 8) := by
    rw [filX, Bl.makeX, if_pos hok, Bl.setAll_length, List.length_replicate, Bl.makeN]; rfl
  exact ⟨hok, hK, by omega, by omega, by rw [hK]; exact ⟨by decide, by decide, by omega, by omega⟩⟩
theorem fil_put (l : List Ent) (h : tabE l = 0) : putFE 3 (Bl.encF (filK l) (filX l)).length = 0 ∧ (Bl.encF (filK l) (filX l)).length ≤ 5122 := by
  obtain ⟨h1, h2, h3, h4, h5⟩ := fil_ok l h
  have : (Bl.encF (filK l) (filX l)).length ≤ 5122 := by
    rw [Bl.encF, if_pos h5, List.length_cons]; omega
  exact ⟨by rw [putFE, if_neg (by omega), if_neg (by omega)], this⟩
theorem putFX_length (K : Int) (d : List UInt8) (h : putFE K d.length = 0) : (putFX K d).length = vsize d.length + 5 + d.length := by
  rw [putFX, if_pos h, guarded_length, bodyF_length]; omega
theorem outT_le (l : List Ent) (h : tabE l = 0) : (bodyT l).length ≤ (outT l).length ∧ (outT l).length ≤ 2800000 := by
  have h1 := blocksB_le l h _ (Nat.le_refl _)
  have h2 := nparts_le l h
  have h3 := indexB_le l h _ (Nat.le_refl _)
  have h4 := putFX_length 2 _ (index_put l h)
  have h5 := vsize_le (indexB l (nparts l.length)).length
  rw [outT, List.length_append]
  exact ⟨Nat.le_add_right _ _, by rw [bodyT, h4]; omega⟩
theorem endT_length (l : List Ent) : (endT l).length = 16 := rfl
theorem tabB_le (l : List Ent) (h : tabE l = 0) : 20 ≤ (tabB l).length ∧ (tabB l).length ≤ 3000000 := by
  have h1 := outT_le l h
  have h2 := fil_put l h
  have h3 := putFX_length 3 _ h2.1
  have h4 := vsize_le (Bl.encF (filK l) (filX l)).length
  rw [tabB, List.length_append, List.length_append, guarded_length, endT_length]
  omega
theorem num4_four (n : Nat) (hn : n < 4294967296) (r : List UInt8) : num4 (fourN n ++ r) = n := by
  simp only [num4, fourN, List.cons_append, List.getD_cons_zero, List.getD_cons_succ, UInt8.toNat_ofNat']
  omega
theorem foot_tab (l : List Ent) (h : tabE l = 0) : footT (tabB l) = guarded (endT l) := by
  have h2 := tabB_le l h
  have : (tabB l).length - 20 = (outT l ++ putFX 3 (Bl.encF (filK l) (filX l))).length := by
    rw [tabB, List.length_append, guarded_length, endT_length]; omega
  rw [footT, this, tabB, List.drop_left]
theorem nums_end (l : List Ent) (h : tabE l = 0) : num4 ((endT l).drop 4) = (bodyT l).length ∧ num4 ((endT l).drop 8) = (outT l).length ∧ num4 ((endT l).drop 12) = l.length := by
  have h1 := outT_le l h
  have h2 := tabE_ok l h
  refine ⟨?_, ?_, ?_⟩
  · exact num4_four _ (by omega) (fourN (outT l).length ++ fourN l.length)
  · exact num4_four _ (by omega) (fourN l.length)
  · have := num4_four l.length (by omega) []
    rwa [List.append_nil] at this
/-- the rest of the blocks, of the index -/
def blocksS (l : List Ent) : Nat → Nat → List UInt8
  | 0, _ => []
  | n + 1, k => blkX (part l k) ++ blocksS l n (k + 1)
def indexS (l : List Ent) : Nat → Nat → List UInt8
  | 0, _ => []
  | n + 1, k => rowB l k ++ indexS l n (k + 1)
def sizesS (l : List Ent) : Nat → Nat → List Nat
  | 0, _ => []
  | n + 1, k => (blkX (part l k)).length :: sizesS l n (k + 1)
theorem blocksB_add (l : List Ent) (n : Nat) : ∀ k, blocksB l (k + n) = blocksB l k ++ blocksS l n k := by
  induction n with
  | zero => intro k; simp [blocksS]
  | succ n ih =>
    intro k
    rw [show k + (n + 1) = k + 1 + n by omega, ih (k + 1), blocksB, blocksS, List.append_assoc]
theorem indexB_add (l : List Ent) (n : Nat) : ∀ k, indexB l (k + n) = indexB l k ++ indexS l n k := by
  induction n with
  | zero => intro k; simp [indexS]
  | succ n ih =>
    intro k
    rw [show k + (n + 1) = k + 1 + n by omega, ih (k + 1), indexB, indexS, List.append_assoc]
theorem rowB_ne (l : List Ent) (k : Nat) (r : List UInt8) : rowB l k ++ r ≠ [] := by
  intro h
  have := congrArg List.length h
  have h1 := vsize_pos (blkX (part l k)).length
  rw [rowB, List.length_append, List.length_append, List.length_append, put_length] at this
  simp at this
  omega
theorem lenL_index (l : List Ent) (h : tabE l = 0) (n : Nat) : ∀ (k f : Nat), k + n ≤ nparts l.length → n ≤ f → lenL f (indexS l n k) = some (sizesS l n k) := by
  obtain ⟨t1, t2, t3⟩ := tabE_ok l h
  induction n with
  | zero =>
    intro k f _ _
    cases f <;> simp [lenL, indexS, sizesS]
  | succ n ih =>
    intro k f hk hf
    cases f with
    | zero => omega
    | succ f =>
      obtain ⟨p1, p2, p3⟩ := part_chk l h k (by omega)
      have p4 := blkX_length _ p1 p3
      obtain ⟨m1, m2, _⟩ := (ordE_may l t3 (16 * k) (by unfold nparts at hk; omega)).1
      have hks : (keyAt l (16 * k)).size ≤ 96 := m2
      have e0 : indexS l (n + 1) k = put (blkX (part l k)).length ++ (put (keyAt l (16 * k)).size ++ (bl (keyAt l (16 * k)) ++ indexS l n (k + 1))) := by
        rw [indexS, rowB]; simp only [List.append_assoc]
      obtain ⟨g1, g2, g3⟩ := get_put2 (blkX (part l k)).length (by omega) (put (keyAt l (16 * k)).size ++ (bl (keyAt l (16 * k)) ++ indexS l n (k + 1)))
      obtain ⟨g4, g5, g6⟩ := get_put2 (keyAt l (16 * k)).size (by omega) (bl (keyAt l (16 * k)) ++ indexS l n (k + 1))
      have d1 : (indexS l (n + 1) k).drop (gK (indexS l (n + 1) k)) = put (keyAt l (16 * k)).size ++ (bl (keyAt l (16 * k)) ++ indexS l n (k + 1)) := by
        rw [e0, g3, ← put_length, List.drop_left]
      have d2 : (put (keyAt l (16 * k)).size ++ (bl (keyAt l (16 * k)) ++ indexS l n (k + 1))).drop (vsize (keyAt l (16 * k)).size) = bl (keyAt l (16 * k)) ++ indexS l n (k + 1) := by
        rw [← put_length, List.drop_left]
      have d3 : (put (keyAt l (16 * k)).size ++ (bl (keyAt l (16 * k)) ++ indexS l n (k + 1))).drop (vsize (keyAt l (16 * k)).size + (keyAt l (16 * k)).size) = indexS l n (k + 1) := by
        rw [← List.drop_drop, d2]
        have : (keyAt l (16 * k)).size = (bl (keyAt l (16 * k))).length := (bl_length _).symm
        rw [this, List.drop_left]
      have hne : indexS l (n + 1) k ≠ [] := by rw [indexS]; exact rowB_ne l k _
      rw [lenL, if_neg hne]
      rw [← e0] at g1 g2 g3
      rw [if_neg (by rw [g2]; omega), d1, g5, g6, if_neg (by rw [d2, List.length_append, bl_length]; omega), d3, ih (k + 1) f (by omega) (by omega), g2]
      rfl
theorem catP_blocks (l : List Ent) (h : tabE l = 0) (n : Nat) : ∀ k, k + n = nparts l.length → catP (sizesS l n k) (blocksS l n k) (l.take (16 * k)) = l := by
  obtain ⟨t1, t2, t3⟩ := tabE_ok l h
  induction n with
  | zero =>
    intro k hk
    rw [sizesS, catP]
    exact List.take_of_length_le (by unfold nparts at hk; omega)
  | succ n ih =>
    intro k hk
    obtain ⟨p1, p2, p3⟩ := part_chk l h k (by omega)
    obtain ⟨u1, u2⟩ := un_blk _ p1
    rw [sizesS, blocksS, catP, if_neg (by rw [List.length_append, List.length_take]; omega), List.take_left, List.drop_left, if_neg (fun h => h u1), u2]
    have e : l.take (16 * k) ++ part l k = l.take (16 * (k + 1)) := by
      rw [part, show 16 * (k + 1) = 16 * k + 16 by omega]
      conv => rhs; rw [← List.take_append_drop (16 * k) (l.take (16 * k + 16)), List.take_take, Nat.min_eq_left (by omega)]
    rw [e]
    exact ih (k + 1) (by omega)
theorem mid_app (a b c : List UInt8) : ((a ++ b ++ c).take (a ++ b).length).drop a.length = b := by
  rw [List.take_left, List.drop_left]
theorem toldP_tab (l : List Ent) (h : tabE l = 0) : toldP (tabB l) (bodyT l).length (outT l).length = l := by
  have h1 := outT_le l h
  have e0 : tabB l = bodyT l ++ putFX 2 (indexB l (nparts l.length)) ++ (putFX 3 (Bl.encF (filK l) (filX l)) ++ guarded (endT l)) := by rw [tabB, outT]; simp only [List.append_assoc]
  have e1 : ((tabB l).take (outT l).length).drop (bodyT l).length = putFX 2 (indexB l (nparts l.length)) := by rw [e0]; exact mid_app _ _ _
  obtain ⟨g1, g2, g3, g4⟩ := get_frame 2 (indexB l (nparts l.length)) [] (index_put l h)
  rw [List.append_nil] at g1 g3
  have e2 : (tabB l).take (bodyT l).length = bodyT l := by rw [e0, List.append_assoc, List.take_left]
  have e3 : (tabB l).length = (outT l).length + (putFX 3 (Bl.encF (filK l) (filX l)) ++ guarded (endT l)).length := by rw [tabB, List.append_assoc, List.length_append]
  have i1 := indexB_add l (nparts l.length) 0
  have i2 := blocksB_add l (nparts l.length) 0
  rw [Nat.zero_add] at i1 i2
  have e4 : indexB l (nparts l.length) = indexS l (nparts l.length) 0 := by rw [i1, indexB]; rfl
  have e5 : bodyT l = blocksS l (nparts l.length) 0 := by rw [bodyT, i2, blocksB]; rfl
  have hle : ∀ n k, n ≤ (indexS l n k).length := by
    intro n
    induction n with
    | zero => intro k; simp
    | succ n ih =>
      intro k
      have := ih (k + 1)
      have v := vsize_pos (blkX (part l k)).length
      rw [indexS, List.length_append, rowB, List.length_append, List.length_append, put_length]; omega
  rw [toldP, if_neg (by omega), e1, if_neg (fun h => h g1), g3, e2, e4, lenL_index l h _ 0 _ (by omega) (hle _ _)]
  simp only
  rw [e5]
  exact catP_blocks l h _ 0 (by omega)
theorem told_tab (l : List Ent) (h : tabE l = 0) : toldT (tabX l) = l := by
  have e : tabX l = tabB l := by rw [tabX, if_pos h]
  obtain ⟨n1, n2, _⟩ := nums_end l h
  rw [e, toldT, foot_tab l h, bare_guarded, n1, n2]
  exact toldP_tab l h
theorem open_tab (l : List Ent) (h : tabE l = 0) : openE (tabX l) = 0 ∧ openL (tabX l) = l := by
  have e : tabX l = tabB l := by rw [tabX, if_pos h]
  have h2 := tabB_le l h
  have h3 : openE (tabX l) = 0 := by
    rw [openE, told_tab l h, e, foot_tab l h, bareNum_guarded, bare_guarded, if_neg (by omega), if_neg (by simp), if_neg (by intro h; exact h rfl), if_pos ⟨h, rfl⟩]
  exact ⟨h3, by rw [openL, if_pos h3, told_tab l h]⟩
theorem open_ok (b : List UInt8) (h : openE b = 0) : tabE (openL b) = 0 ∧ tabX (openL b) = b := by
  have h' := h
  rw [openE] at h'
  rw [openL, if_pos h]
  split at h'
  · cases h'
  · split at h'
    · next h1 => exact absurd h' h1
    · split at h'
      · cases h'
      · split at h'
        · next h2 => exact h2
        · cases h'
end Go.Proofs.Ytefcepjffeiaoaa
end

section
/- Table: keys, each once. -/
namespace Go.Proofs.Ytefcepjffeiaoaa
open Go.RowKit Go.Lib Go.Sort Go.Proofs.YtefcepjffeiaoaaW.PrintWords
set_option linter.unusedVariables false

theorem store_world_s {w wr : World} {n blk off : Nat} {dk : Array ByteArray} {i : Nat} (hi : i < dk.size) (hwr : wr = putRow Bl.estr (Sort.ahead w n) blk off dk) (x : ByteArray) :
    (wr.setCell ⟨blk, off + i, none⟩ (.string x)).drew = putRow Bl.estr (Sort.ahead w (n + 1)) blk off (dk.setIfInBounds i x) := by
  subst hwr
  have := putRow_set Bl.estr (Sort.ahead w n) blk off dk i x hi
  rw [show Bl.estr x = Value.string x from rfl] at this
  rw [this, ← ahead_drew]
  rfl
theorem less_one (k p n : Nat) (h1 : 1 ≤ k) (hp : k - 1 = p) (hk : k < n) (hn : n ≤ 1000000) : wrap64 ((k : Int) - 1) = (p : Int) ∧ IntKind.i64.wrap ((k : Int) - 1) = (p : Int) ∧ (p : Int) < (n : Int) ∧ p < n := by
  refine ⟨?_, ?_, by omega, by omega⟩
  · unfold wrap64; omega
  · rw [IntKind.wrap_i64]; omega
theorem str_bne {x y : ByteArray} (h : x ≠ y) : (x.toList == y.toList) = false := by rw [Bl.str_ne, decide_eq_false h]
set_option maxRecDepth 100000 in
set_option maxHeartbeats 4000000 in
theorem Compact_arr (blk cap : Nat) (d : Array ByteArray) (w : World) (hH : Holds Bl.estr w blk 0 d) (hsz : d.size ≤ 1000000) (hcap : d.size ≤ cap) :
    Calls Try.prog 70 #[.slice (some ⟨blk, 0, none⟩) d.size cap] w fun e w' => e = .returned (.slice (some ⟨blk, 0, none⟩) (compactUpTo d d.size).length cap) ∧ ∃ q, w' = putRow Bl.estr (Sort.ahead w q) blk 0 (compactUpTo d d.size ++ List.replicate (d.size - (compactUpTo d d.size).length) (⟨#[]⟩ : ByteArray)).toArray := by
  have same : ∀ q, (∀ j, j < d.size → keeps d j = true) → (compactUpTo d d.size).length = d.size ∧ w.drewN q = putRow Bl.estr (Sort.ahead w q) blk 0 (compactUpTo d d.size ++ List.replicate (d.size - (compactUpTo d d.size).length) (⟨#[]⟩ : ByteArray)).toArray := by
    intro q hall
    have e : compactUpTo d d.size = d.toList := by rw [compactUpTo_all d _ hall, range_map_get]
    rw [e]
    refine ⟨by simp, ?_⟩
    simp only [Array.length_toList, Nat.sub_self, List.replicate_zero, List.append_nil, Array.toArray_toList]
    exact (putRow_self Bl.estr (Sort.ahead w q) blk 0 d (holds_ahead Bl.estr w q blk 0 d hH)).symm
  have HS := hide same
  clear same
  by_cases h2 : d.size < 2
  · have HH := hide hH
    clear hH
    go_enter Try.func70, Try.ntmps70
    go_wp2
    go_ret
    obtain ⟨e1, e2⟩ := HS.out 0 (fun j hj => keeps_lt_one d j (by omega))
    exact ⟨by rw [e1]; rfl, 0, e2⟩
  · go_enter Try.func70, Try.ntmps70
    go_wp2
    go_loopg [3] d.size (fun g s3 wr => ∃ k q : Nat, 1 ≤ k ∧ k ≤ d.size ∧ d.size - k ≤ g ∧ s3 = .int .i64 k ∧ wr = w.drewN q ∧ ∀ j, j < k → keeps d j = true)
    case atStart => exact ⟨1, 0, Nat.le_refl _, by omega, by omega, rfl, rfl, keeps_lt_one d⟩
    case round =>
      obtain ⟨k, q, hk1, hk, hg, rfl, hwq, hall⟩ := hrel
      by_cases hlt : k < d.size
      · have hHq : Holds Bl.estr wr blk 0 d := by rw [hwq]; exact hH
        obtain ⟨c1, f1⟩ := hHq k hlt
        obtain ⟨c0, f0⟩ := hHq (k - 1) (by omega)
        clear hHq
        have WQ := hide hwq
        clear hwq
        have A := hide hall
        have HH := hide hH
        clear hall hH
        generalize hx : d[k]! = x at c1
        generalize hy : d[k - 1]! = y at c0
        have B : Hid (d[k]! = x ∧ d[k - 1]! = y) := hide ⟨hx, hy⟩
        clear hx hy
        unfold Bl.estr at c0 c1
        rw [Nat.zero_add] at c0 c1
        obtain ⟨p, hp⟩ : ∃ p, k - 1 = p := ⟨_, rfl⟩
        rw [hp] at c0
        obtain ⟨n1, n2, n3, n4⟩ := less_one k p d.size hk1 hp hlt hsz
        clear hp
        by_cases hdup : x = y
        · subst hdup
          go_wp2
          go_still (by kernel_rfl)
          go_wp2
          clear c0 c1 f0 f1
          go_loopg [3, 5] d.size (fun g s3 s5 wr => ∃ (kk k2 q2 : Nat) (dk : Array ByteArray), s3 = .int .i64 kk ∧ s5 = .int .i64 k2 ∧ 1 ≤ k2 ∧ k + k2 ≤ d.size ∧ d.size - (k + k2) ≤ g ∧ wr = putRow Bl.estr (Sort.ahead w q2) blk 0 dk ∧ CompInv d (k + k2) kk dk)
          case atStart => exact ⟨k, 1, q + 1, d, rfl, rfl, Nat.le_refl _, by omega, by omega, (by rw [WQ.out]; exact (putRow_self Bl.estr (Sort.ahead w (q + 1)) blk 0 d (holds_ahead Bl.estr w (q + 1) blk 0 d HH.out)).symm), CompInv.start A.out (keeps_neg (by omega) (by rw [B.out.1, B.out.2]))⟩
          case round =>
            obtain ⟨kk, k2, q2, dk, rfl, rfl, h1, hle, hg2, hwr, hI⟩ := hrel
            have hkk := hI.lt
            have hds := hI.size
            have hHk : Holds Bl.estr wr blk 0 dk := by rw [hwr]; exact holds_putRow Bl.estr _ blk 0 d dk (holds_ahead Bl.estr w q2 blk 0 d HH.out) hds
            have W2 := hide hwr
            have I2 := hide hI
            clear hwr
            by_cases hlt2 : k + k2 < d.size
            · obtain ⟨cm, _⟩ := hHk (k + k2) (by omega)
              obtain ⟨cp, _⟩ := hHk (k + k2 - 1) (by omega)
              obtain ⟨ck, fk⟩ := hHk kk (by omega)
              rw [hI.high (k + k2) (by omega), Nat.zero_add] at cm
              rw [hI.high (k + k2 - 1) (by omega), show 0 + (k + k2 - 1) = k + (k2 - 1) by omega] at cp
              obtain ⟨p2, hp2⟩ : ∃ p2, k2 - 1 = p2 := ⟨_, rfl⟩
              rw [hp2] at cp
              obtain ⟨m1, m2, m3, m4⟩ := less_one k2 p2 (d.size - k) h1 hp2 (by omega) (by omega)
              clear hp2
              clear hHk hI
              generalize hu : d[k + k2]! = u at cm
              generalize hv : d[k + k2 - 1]! = v at cp
              generalize dk[kk]! = old at ck
              have C : Hid (d[k + k2]! = u ∧ d[k + k2 - 1]! = v) := hide ⟨hu, hv⟩
              clear hu hv
              unfold Bl.estr at cm cp ck
              rw [Nat.zero_add] at ck fk
              by_cases huv : u = v
              · subst huv
                go_wp2
                go_still (by kernel_rfl)
                go_wp2
                go_roundg (d.size - (k + (k2 + 1)))
                case measure => omega
                case rel => exact ⟨kk, k2 + 1, q2 + 1, dk, rfl, by go_num, by omega, by omega, Nat.le_refl _, by rw [W2.out]; rfl, I2.out.skip (keeps_neg (by omega) (by rw [C.out.1, C.out.2]))⟩
              · have hne := str_bne huv
                go_wp2
                go_still (by kernel_rfl)
                go_wp2
                go_roundg (d.size - (k + (k2 + 1)))
                case measure => omega
                case rel => exact ⟨kk + 1, k2 + 1, q2 + 1, dk.setIfInBounds kk u, by go_num, by go_num, by omega, by omega, Nat.le_refl _, (by have := store_world_s (i := kk) (by omega) W2.out u; rwa [Nat.zero_add] at this), by have := I2.out.keep hlt2 (keeps_pos (by rw [C.out.1, C.out.2]; exact huv)); rwa [C.out.1] at this⟩
            · have hend : k + k2 = d.size := by omega
              have hcl : ∀ ty, (Builtin.clear_ #[73] ty #[.slice (some ⟨blk, kk, none⟩) (d.size - kk) (cap - kk)]).run Try.prog wr = .ok (.tuple #[]) (wr.setCells blk kk (List.replicate (d.size - kk) (.string ⟨#[]⟩))) :=
                fun ty => Lib.run_clear_slice wr _ _ ty _ Try.underlying73 (fun w => by kernel_rfl) rfl rfl blk kk _ _ (by omega) (fun j hj => by have := (hHk (kk + j) (by omega)).1; rw [Nat.zero_add] at this; rw [this]; rfl) (fun j hj => by have := (hHk (kk + j) (by omega)).2; rwa [Nat.zero_add] at this)
              clear hHk hI
              go_wp2
              go_ret
              have hI := I2.out
              rw [hend] at hI
              refine ⟨by rw [hI.len]; rfl, q2, ?_⟩
              have hdone := hI.done (⟨#[]⟩ : ByteArray)
              rw [hI.len, ← hdone, ← putRow_setCells Bl.estr _ blk 0 _ dk kk (by simp; omega), ← W2.out, List.map_replicate, Nat.zero_add]
              rfl
        · have hne := str_bne hdup
          go_wp2
          go_still (by kernel_rfl)
          go_wp2
          go_roundg (d.size - (k + 1))
          case measure => omega
          case rel =>
            refine ⟨k + 1, q + 1, by omega, by omega, Nat.le_refl _, by go_num, (by rw [WQ.out]; rfl), fun j hj => ?_⟩
            by_cases e : j = k
            · subst e
              exact keeps_pos (by rw [B.out.1, B.out.2]; exact hdup)
            · exact A.out j (by omega)
      · have : k = d.size := by omega
        subst this
        have HH := hide hH
        clear hH
        go_wp2
        go_ret
        obtain ⟨e1, e2⟩ := HS.out q hall
        exact ⟨by rw [e1]; rfl, q, e2⟩
theorem Compact_any (v : Value) (ss : List ByteArray) (base : Nat) (w : World) (HO : Bl.OwS w base v ss) (hl : ss.length ≤ 1000000) :
    Calls Try.prog 70 #[v] w fun e w' => ∃ v', e = .returned v' ∧ Bl.OwS w' base v' (compact ss) ∧ Below base w w' := by
  by_cases hv : v = .slice none 0 0
  · subst hv
    obtain rfl : ss = [] := by
      obtain ⟨A, c, h1, _⟩ := HO.rd
      injection h1 with _ h2 _
      exact List.length_eq_zero_iff.1 h2.symm
    have h0 := Bl.OwS.zero w base
    have HH := hide h0
    go_enter Try.func70, Try.ntmps70
    go_wp2
    go_ret
    exact ⟨_, rfl, HH.out, Below.refl _ _⟩
  · obtain ⟨g, cap, rfl, h1, h2, h3, h4, h5, h6⟩ := holds_of_ownsRow (enc := Bl.estr) HO hv
    have h := Compact_arr g cap ss.toArray w h6 (by simpa using hl) (by simpa using h3)
    rw [show ss.toArray.size = ss.length from rfl] at h
    refine h.mono ?_
    rintro e w' ⟨rfl, q, rfl⟩
    have hle : (compact ss).length ≤ ss.length := by
      unfold compact compactUpTo
      rw [List.length_map]
      exact Nat.le_trans (List.length_filter_le _ _) (by simp)
    have e0 : compactUpTo ss.toArray ss.length = compact ss := rfl
    rw [e0]
    refine ⟨_, rfl, ?_, below_putRow (Below.refl _ _) h1⟩
    have h7 := ownsRow_putRow (q := q) (ys := compact ss ++ List.replicate (ss.length - (compact ss).length) (⟨#[]⟩ : ByteArray)) (k := (compact ss).length) HO (by rw [List.length_append, List.length_replicate]; omega) hle
    rw [List.take_left] at h7
    exact h7
theorem keys_compact (l : List Ent) (k : Nat) (hk : k ≤ l.length) : compactUpTo (l.map fun x => x.1).toArray k = keysE l k := by
  have hget : ∀ j, j < l.length → (l.map fun x => x.1).toArray[j]! = keyAt l j := by
    intro j hj
    have : j < (l.map fun x => x.1).toArray.size := by simpa using hj
    rw [getElem!_pos (l.map fun x => x.1).toArray j this]
    simp [keyAt, List.getD_eq_getElem?_getD, List.getElem?_eq_getElem hj]
  induction k with
  | zero => rfl
  | succ k ih =>
    rw [compactUpTo_succ, ih (by omega), keysE, hget k (by omega)]
    by_cases h0 : k = 0
    · subst h0
      rw [keeps_lt_one _ 0 (by omega)]; simp
    · by_cases h1 : keyAt l k = keyAt l (k - 1)
      · rw [keeps_neg (by omega) (by rw [hget k (by omega), hget (k - 1) (by omega)]; exact h1), if_neg (by simp), if_neg (by rintro (h | h); exact h0 h; exact h h1), List.append_nil]
      · rw [keeps_pos (by rw [hget k (by omega), hget (k - 1) (by omega)]; exact h1), if_pos rfl, if_pos (.inr h1)]
theorem map_snoc (l : List Ent) (k : Nat) (hk : k < l.length) : (l.take (k + 1)).map (fun x => x.1) = (l.take k).map (fun x => x.1) ++ [(l.getD k zEnt).1] := by
  rw [List.take_succ_eq_append_getElem hk, List.map_append, List.getD_eq_getElem?_getD, List.getElem?_eq_getElem hk]
  rfl
set_option maxRecDepth 100000 in
set_option maxHeartbeats 800000 in
theorem keys_any (A : Option Addr) (c n : Nat) (l : List Ent) (w : World) (hn : l.length = n) (hr : RdE w A c l) (hl : n ≤ 1000000) :
    Calls Try.prog 32 #[.slice A n c] w fun e w' => ∃ v, e = .returned v ∧ Bl.OwS w' w.heap.size v (keysE l n) ∧ Below w.heap.size w w' := by
  have HN := hide hn
  have hC := fun v W HO => Compact_any v (l.map fun x => x.1) w.heap.size W HO (by rw [List.length_map]; omega)
  have hK : compact (l.map fun x => x.1) = keysE l n := by
    rw [compact, List.length_map, keys_compact l _ (Nat.le_refl _), hn]
  rw [hK] at hC
  clear hK hn
  go_enter Try.func32, Try.ntmps32
  go_wp2
  go_loopw [3, 8] (fun ov iv wr => ∃ k : Nat, k ≤ n ∧ iv = .int .i64 (k : Int) ∧ Bl.OwS wr w.heap.size ov ((l.take k).map fun x => x.1) ∧ Below w.heap.size w wr) (fun ov iv _ => n - (RowKit.intOf iv).toNat)
  case atStart => exact ⟨0, Nat.zero_le _, rfl, Bl.OwS.zero _ _, Below.refl _ _⟩
  case round =>
    obtain ⟨k, hk, rfl, HO, HB⟩ := hrel
    by_cases hlt : k < n
    · have hlti : (k : Int) < (n : Int) := Int.ofNat_lt.2 hlt
      obtain ⟨ad, rfl, x0, x1, x2, x3⟩ := RdE.at4 (hr.below HB) k (by rw [HN.out]; exact hlt)
      have hsn := map_snoc l k (by rw [HN.out]; exact hlt)
      obtain ⟨y, hy⟩ : ∃ y, l.getD k zEnt = y := ⟨_, rfl⟩
      rw [hy] at x0 x1 x2 x3 hsn
      clear hy
      have HS := hide hsn
      clear hsn
      have hE := Eb.new wr y
      obtain ⟨y0, -, -, -, -, -, -, -⟩ := hE.read
      have hB2 := HB.alloc HB.size (.cells #[.string y.1, .int .i64 y.2.1, .int .i64 y.2.2.1, .string y.2.2.2] 43)
      have hO2 := HO.below (below_alloc wr (.cells #[.string y.1, .int .i64 y.2.1, .int .i64 y.2.2.1, .string y.2.2.2] 43))
      have hlen : ((l.take k).map fun x => x.1).length + 1 ≤ 8796093022208 := by rw [List.length_map, List.length_take]; omega
      have HL := hide hlen
      clear hlen hE
      go_wp2_with (first | (at_builtin; refine Bl.app_str (w0 := w) (W := wr.alloc (.cells #[.string y.1, .int .i64 y.2.1, .int .i64 y.2.2.1, .string y.2.2.2] 43)) w.heap.size rfl (.tmp 12) (.tmp 15) rfl _ _ y.1 rfl (by rw [World.size_alloc]; rfl) hO2 hB2 hB2.size HL.out ?_; intro v1 w1 HO1 HB1 hg hat))
      go_roundw
      case rel => exact ⟨k + 1, by omega, by go_num, by rw [HS.out]; exact HO1, HB1⟩
      case measure => simp [RowKit.intOf]; omega
    · obtain rfl : k = n := by omega
      have hall : l.take k = l := List.take_of_length_le (by rw [HN.out]; exact Nat.le_refl _)
      rw [hall] at HO
      go_wp2_with (first | (go_at_call 70; refine (hC _ _ HO).mono ?_; rintro e w2 ⟨v', rfl, HO2, HB2⟩))
      go_ret
      exact ⟨_, rfl, HO2, HB.trans HB2⟩
end Go.Proofs.Ytefcepjffeiaoaa
end

section
/- Table: numbers as four octets, framed octets, the mark. -/
namespace Go.Proofs.Ytefcepjffeiaoaa
open Go.RowKit Go.Proofs.YtefcepjffeiaoaaW.PrintWords
set_option linter.unusedVariables false

theorem i64_or_nat (a b : Nat) (ha : a < 9223372036854775808) (hb : b < 9223372036854775808) : bits .or .i64 (a : Int) (b : Int) = ((a ||| b : Nat) : Int) := by
  have key : (BitVec.ofInt 64 (a : Int) ||| BitVec.ofInt 64 (b : Int)).toNat = a ||| b := by
    rw [BitVec.toNat_or, BitVec.toNat_ofInt, BitVec.toNat_ofInt]
    congr 1 <;> omega
  have hlt : a ||| b < 2 ^ 63 := Nat.or_lt_two_pow ha hb
  show IntKind.i64.wrap ((BitVec.ofInt 64 (a : Int) ||| BitVec.ofInt 64 (b : Int)).toNat : Nat) = _
  rw [key, IntKind.wrap_i64]
  omega
theorem or_lo (a : Nat) (x : UInt8) (h : a * 256 + x.toNat < 9223372036854775808) : bits .or .i64 ((a : Int) * 256) (x.toNat : Int) = ((a * 256 + x.toNat : Nat) : Int) := by
  have hx := x.toNat_lt
  have e : (a : Int) * 256 = ((a * 256 : Nat) : Int) := by omega
  have h1 : a * 256 < 9223372036854775808 := Nat.lt_of_le_of_lt (Nat.le_add_right _ _) h
  have h2 : x.toNat < 9223372036854775808 := Nat.lt_of_lt_of_le hx (by decide)
  rw [e, i64_or_nat (a * 256) x.toNat h1 h2]
  congr 1
  have := Nat.shiftLeft_add_eq_or_of_lt (i := 8) (b := x.toNat) (by omega) a
  rw [Nat.shiftLeft_eq] at this
  exact this.symm
/-- the first k octets' number -/
def numK (b : List UInt8) : Nat → Nat
  | 0 => 0
  | k + 1 => numK b k * 256 + (b.getD k 0).toNat
theorem numK_lt (b : List UInt8) (k : Nat) (hk : k ≤ 7) : numK b k < 72057594037927936 ∧ (k ≤ 3 → numK b k < 16777216) := by
  have h : ∀ k, numK b k < 256 ^ k := by
    intro k
    induction k with
    | zero => simp [numK]
    | succ k ih =>
      have := (b.getD k 0).toNat_lt
      rw [numK, Nat.pow_succ]; omega
  refine ⟨Nat.lt_of_lt_of_le (h k) (Nat.pow_le_pow_right (by decide) hk), fun h3 => Nat.lt_of_lt_of_le (h k) (Nat.pow_le_pow_right (by decide) h3)⟩
theorem numK_four (b : List UInt8) : numK b 4 = num4 b := by simp [numK, num4]
theorem num_facts (b : List UInt8) (k : Nat) (hk : k < 4) : ∃ (m x p : Nat), numK b k = m ∧ (b.getD k 0).toNat = x ∧ numK b (k + 1) = p ∧ wrap64 ((m : Int) * 256) = (m : Int) * 256 ∧ wrap64 (x : Int) = (x : Int) ∧ bits .or .i64 ((m : Int) * 256) (x : Int) = (p : Int) := by
  have h1 := (numK_lt b k (by omega)).2 (by omega)
  have h2 := (b.getD k 0).toNat_lt
  refine ⟨_, _, _, rfl, rfl, rfl, ?_, ?_, ?_⟩
  · unfold wrap64; omega
  · unfold wrap64; omega
  · exact or_lo _ _ (by omega)
set_option maxRecDepth 100000 in
set_option maxHeartbeats 800000 in
theorem number_any4 (A : Option Addr) (c n : Nat) (b : List UInt8) (w : World) (hn : b.length = n) (hx : RdB w A c b) (h4 : 4 ≤ n) :
    Calls Try.prog 49 #[.slice A n c] w fun e w' => e = .returned (.int .i64 (num4 b : Int)) ∧ w = w' := by
  have HN := hide hn
  have hc : n ≤ c := by have := hx.1; omega
  have hs := fun W => slice_hi 23 5 Try.underlying23 (i := _) rfl rfl A n c 4 (by omega) W
  clear hn
  go_enter Try.func49, Try.ntmps49
  go_wp2
  go_loop [3, 9] (fun mv iv => ∃ k : Nat, k ≤ 4 ∧ iv = .int .i64 (k : Int) ∧ mv = .int .i64 (numK b k : Int)) (fun mv iv => 4 - (intOf iv).toNat)
  case atStart => exact ⟨0, by omega, rfl, rfl⟩
  case round =>
    obtain ⟨k, hk, rfl, rfl⟩ := hrel
    by_cases hlt : k < 4
    · have hlti : (k : Int) < 4 := Int.ofNat_lt.2 hlt
      obtain ⟨ad, rfl, hcell⟩ := hx.at_ k (by rw [HN.out]; omega)
      obtain ⟨m, x, p, f1, f2, f3, f4, f5, f6⟩ := num_facts b k hlt
      rw [f1]
      rw [f2] at hcell
      have F3 := hide f3
      clear f1 f2 f3 hs
      go_wp2
      go_round
      case rel => exact ⟨k + 1, by omega, by go_num, by rw [F3.out]⟩
      case measure => simp [intOf]; omega
    · obtain rfl : k = 4 := by omega
      have e := numK_four b
      rw [e]
      clear e hs
      go_wp2
      go_ret
      exact ⟨rfl, rfl⟩
theorem fourN_map (n : Nat) (hn : n < 4294967296) : (fourN n).map eu8 = [.int .u8 ((n : Int) / 16777216), .int .u8 ((n : Int) / 65536 % 256), .int .u8 ((n : Int) / 256 % 256), .int .u8 ((n : Int) % 256)] := by
  simp only [fourN, List.map_cons, List.map_nil, eu8, UInt8.toNat_ofNat']
  rw [show ((n / 16777216 % 2 ^ 8 : Nat) : Int) = (n : Int) / 16777216 by omega]
  congr 2
set_option maxRecDepth 100000 in
set_option maxHeartbeats 800000 in
theorem four_any (v : Value) (xs : List UInt8) (base n : Nat) (w0 w : World) (HO : OwB w base v xs) (hn : n < 4294967296) (hl : xs.length ≤ 1000000) (HB : Below base w0 w) (hbase : base ≤ w.heap.size) :
    Calls Try.prog 35 #[v, .int .i64 (n : Int)] w fun e w' => ∃ v', e = .returned v' ∧ OwB w' base v' (xs ++ fourN n) ∧ Below base w0 w' := by
  have h4 := fourN_map n hn
  have hx4 : RdB (w.alloc (.cells #[.int .u8 ((n : Int) / 16777216), .int .u8 ((n : Int) / 65536 % 256), .int .u8 ((n : Int) / 256 % 256), .int .u8 ((n : Int) % 256)] 5)) (some ⟨w.heap.size, 0, none⟩) 4 (fourN n) := RdB_lit (fourN n) w _ _ _ _ rfl h4.symm (by decide : (4 : Nat) ≤ _)
  have hO2 := HO.below (below_alloc w (.cells #[.int .u8 ((n : Int) / 16777216), .int .u8 ((n : Int) / 65536 % 256), .int .u8 ((n : Int) / 256 % 256), .int .u8 ((n : Int) % 256)] 5))
  have hB2 := HB.alloc hbase (.cells #[.int .u8 ((n : Int) / 16777216), .int .u8 ((n : Int) / 65536 % 256), .int .u8 ((n : Int) / 256 % 256), .int .u8 ((n : Int) % 256)] 5)
  have hl4 : xs.length + (fourN n).length ≤ 140737488355328 := by show xs.length + 4 ≤ _; omega
  have hbs : base ≤ (w.alloc (.cells #[.int .u8 ((n : Int) / 16777216), .int .u8 ((n : Int) / 65536 % 256), .int .u8 ((n : Int) / 256 % 256), .int .u8 ((n : Int) % 256)] 5)).heap.size := by rw [World.size_alloc]; omega
  clear h4 hl
  have HL := hide hl4
  clear hl4
  go_enter Try.func35, Try.ntmps35
  go_wp2_with (first | (at_builtin; refine app_row (w0 := w0) (W := w.alloc (.cells #[.int .u8 ((n : Int) / 16777216), .int .u8 ((n : Int) / 65536 % 256), .int .u8 ((n : Int) / 256 % 256), .int .u8 ((n : Int) % 256)] 5)) base rfl (.tmp 5) (.tmp 17) rfl v xs (fourN n) (some ⟨w.heap.size, 0, none⟩) 4 (by rfl) (by rfl) hO2 hx4 hB2 hbs HL.out ?_; intro v1 w1 HO1 HB1 hg1 hat1))
  go_ret
  exact ⟨_, rfl, HO1, HB1⟩
set_option maxRecDepth 100000 in
set_option maxHeartbeats 800000 in
theorem framed_any (K : Int) (A : Option Addr) (c n : Nat) (d : List UInt8) (w : World) (hn : d.length = n) (hx : RdB w A c d) (hK0 : 0 ≤ K) (hK : K ≤ 255) :
    Calls Try.prog 34 #[.int .i64 K, .slice A n c] w fun e w' => ∃ v, e = .returned v ∧ OwB w' w.heap.size v (putFX K d) ∧ Below w.heap.size w w' := by
  have hP := Fr.FPut_any K A c d w hx (by simp [Lit.wf, IntKind.min, IntKind.max, IntKind.signed, IntKind.bits]; omega)
  rw [hn] at hP
  obtain ⟨E, hE⟩ : ∃ E, putFE K n = E := ⟨_, rfl⟩
  rw [hE] at hP
  clear hE hn
  unfold fil at hP
  go_enter Try.func34, Try.ntmps34
  go_wp2_with (first | (go_at_call 71; (with_reducible refine hP.mono ?_); rintro e w1 ⟨v1, rfl, HO1, HB1⟩))
  go_ret
  exact ⟨_, rfl, HO1, HB1⟩
set_option maxRecDepth 100000 in
set_option maxHeartbeats 800000 in
theorem HasPrefix_any (A B : Option Addr) (c d n m : Nat) (xs ys : List UInt8) (w : World) (hn : xs.length = n) (hm : ys.length = m) (hx : RdB w A c xs) (hy : RdB w B d ys) (hmn : m ≤ n) :
    Calls Try.prog 47 #[.slice A n c, .slice B m d] w fun e w' => e = .returned (.bool (decide (xs.take m = ys))) ∧ Below w.heap.size w w' := by
  have hc : m ≤ c := by have := hx.1; omega
  have hs := fun W => slice_hi 23 5 Try.underlying23 (i := _) rfl rfl A n c m (by omega) W
  have hE := Equal_any A B c d m m (xs.take m) ys w (by rw [List.length_take]; omega) hm (hx.take m (by omega)) hy
  have hge : (m : Int) ≤ (n : Int) := Int.ofNat_le.2 hmn
  have hng : ¬ (n : Int) < (m : Int) := by omega
  obtain ⟨r, hr⟩ : ∃ r, decide (xs.take m = ys) = r := ⟨_, rfl⟩
  rw [hr] at hE ⊢
  clear hr hn hm hc
  go_enter Try.func47, Try.ntmps47
  go_wp2_with (first | (go_at_call 50; (with_reducible refine hE.mono ?_); rintro e w1 ⟨rfl, HB1⟩))
  go_ret
  exact ⟨rfl, HB1⟩
end Go.Proofs.Ytefcepjffeiaoaa
end

section
/- Table: the parts, one by one. -/
namespace Go.Proofs.Ytefcepjffeiaoaa
open Go.RowKit Go.Shelf Go.Proofs.YtefcepjffeiaoaaW.PrintWords
set_option linter.unusedVariables false
attribute [local go_sem] Oper.semAt_some

theorem sliceK_lhm {P : Program} (t e : TypeId) {i : TypeInfo} (ht : P.underlying t = some (.slice e)) (hi : P.info? e = some i) (sz : Nat) (hsz : i.size = sz) (A : Option Addr) (n c j k : Nat) (hj : j < k) (hk : k ≤ c) (W : World) :
    (Instr.slice t (.slice A n c) (some (.int .i64 (j : Int))) (some (.int .i64 (k : Int))) (some (.int .i64 (k : Int)))).run P W = .ok (.slice (A.map (·.add (j * sz))) (k - j) (k - j)) W := by
  subst hsz
  have hel : P.elem t = e := by simp [Program.elem, ht]
  have hu : P.underlying t = some (.slice (P.elem t)) := by rw [hel]; exact ht
  rw [run_slice_lhm W t A n c hu .i64 .i64 .i64 (j : Int) (k : Int) (k : Int) (Int.natCast_nonneg _) (by omega) (by omega) (by omega), hel]
  have : ¬ k = j := by omega
  simp [sizeOf, typeInfo, hi, sliced, Result.andThen, this]
def endN (n k : Nat) : Nat := min 16 (n - 16 * k)
/-- round k's values: the part -/
def valsC (A : Option Addr) (n k : Nat) : Array Value := #[.slice (A.map (·.add (16 * k * 4))) (endN n k) (endN n k)]
def iterC (c0 : Nat) : Array Value := #[.pointer (some ⟨c0, 0, none⟩), .pointer (some ⟨c0 + 1, 0, none⟩)]
structure BoxC (w : World) (c0 : Nat) (A : Option Addr) (n c : Nat) : Prop where
  s : w.heap[c0]? = some (.cells #[.slice A n c] 22)
  n : w.heap[c0 + 1]? = some (.cells #[.int .i64 16] 3)
theorem BoxC.same {A B : World} {c0 : Nat} {a : Option Addr} {n c : Nat} (h : BoxC A c0 a n c) (h0 : B.heap[c0]? = A.heap[c0]?) (h1 : B.heap[c0 + 1]? = A.heap[c0 + 1]?) : BoxC B c0 a n c := ⟨h0.trans h.s, h1.trans h.n⟩
set_option maxRecDepth 100000 in
set_option maxHeartbeats 800000 in
theorem Chunk_any (A : Option Addr) (n c : Nat) (w : World) :
    Calls Try.prog 27 #[.slice A n c, .int .i64 16] w fun e w' => e = .returned (.func (.func 64) #[] (iterC w.heap.size)) ∧ w'.heap.size = w.heap.size + 2 ∧ BoxC w' w.heap.size A n c ∧ Below w.heap.size w w' := by
  have q0 := heap_alloc_new w (.cells #[.slice A n c] 22)
  have q1 := heap_alloc_new (w.alloc (.cells #[.slice A n c] 22)) (.cells #[.int .i64 16] 3)
  rw [World.size_alloc] at q1
  have q2 : ((w.alloc (.cells #[.slice A n c] 22)).alloc (.cells #[.int .i64 16] 3)).heap[w.heap.size]? = some (.cells #[.slice A n c] 22) := (Below.heap_alloc _ _ _ (by simp)).trans q0
  have d := blk_cell q1 0
  go_enter Try.func27, Try.ntmps27
  go_wp2
  go_ret
  exact ⟨rfl, by simp, ⟨q2, q1⟩, ((Below.refl _ w).alloc (Nat.le_refl _) _).alloc (by simp) _⟩
theorem chunk_facts (n k : Nat) (hk : 16 * k < n) (hn : n ≤ 1000000) : ∃ i e j : Nat, 16 * k = i ∧ endN n k = e ∧ min 16 (n - i) = e ∧ i + e = j ∧ i < j ∧ j ≤ n ∧ j - i = e ∧ wrap64 ((i : Int) + (e : Int)) = (j : Int) ∧ IntKind.i64.wrap ((i : Int) + (e : Int)) = (j : Int) ∧ (i : Int) + 16 = ((16 * (k + 1) : Nat) : Int) ∧ (i : Int) < (n : Int) ∧ i ≤ n := by
  refine ⟨_, _, _, rfl, rfl, rfl, rfl, ?_, ?_, ?_, ?_, ?_, ?_, ?_, ?_⟩
  · unfold endN; omega
  · unfold endN; omega
  · omega
  · unfold wrap64 endN; omega
  · rw [IntKind.wrap_i64]; unfold endN; omega
  · omega
  · omega
  · omega
set_option maxRecDepth 100000 in
set_option maxHeartbeats 1600000 in
theorem iterC_any (A : Option Addr) (n c c0 : Nat) (w : World) (hB : BoxC w c0 A n c) (hn : n ≤ 1000000) (hc : n ≤ c) (hg : c0 + 2 ≤ w.heap.size) :
    IterV Try.prog 64 (iterC c0) (fun j => j = c0 ∨ j = c0 + 1) (nparts n) (fun k _ vs _ => vs = valsC A n k) w := by
  intro d l J Jx W hW hsz hJ hR h0
  unfold iterC
  refine callsIn_of_wp Try.func64 rfl trivial ?_ rfl
  simp only [Try.ntmps64, List.size_toArray, List.length_cons, List.length_nil, Nat.reduceAdd, Nat.reduceSub, Array.replicate_succ, Array.replicate_zero, List.push_toArray, List.append_toArray, List.nil_append, List.cons_append]
  have hB1 : BoxC W c0 A n c := hB.same (hW _ (.inl rfl) (by omega)) (hW _ (.inr rfl) (by omega))
  gi_wp2
  gi_loopw [4] (fun i wr => ∃ k : Nat, k ≤ nparts n ∧ i = .int .i64 ((16 * k : Nat) : Int) ∧ J k wr ∧ BoxC wr c0 A n c ∧ W.heap.size ≤ wr.heap.size) (fun i wr => n + 16 - (intOf i).toNat)
  case atStart => exact ⟨0, Nat.zero_le _, rfl, h0, hB1, Nat.le_refl _⟩
  case round =>
    obtain ⟨k, hk, rfl, hJk, hBk, hszk⟩ := hrel
    have a0 : wr.cell? ⟨c0, 0, none⟩ = some (.slice A n c) := blk_cell hBk.s 0
    have a1 : wr.cell? ⟨c0 + 1, 0, none⟩ = some (.int .i64 16) := blk_cell hBk.n 0
    by_cases hlt : 16 * k < n
    · have hkN : k < nparts n := by unfold nparts; omega
      obtain ⟨fn, tmps, assign, body, hy, hRd⟩ := hR k W.heap.size _ wr.drew hkN (Nat.le_refl _) rfl (hJ k wr wr.drew (Below.refl _ _).drew hJk)
      obtain ⟨i, e, j, f1, f2, f3, f4, f5, f6, f7, f8, f9, f10, f11, f12⟩ := chunk_facts n k hlt hn
      unfold valsC at hy
      rw [f1, f2] at hy
      rw [f1]
      have F10 := hide f10
      have F1 := hide f1
      have hsl := fun W => sliceK_lhm 22 43 Try.underlying22 (i := _) rfl 4 rfl A n c i j f5 (Nat.le_trans f6 hc) W
      rw [f7] at hsl
      have hsl2 := fun W => sliceK_lo 22 43 Try.underlying22 (i := _) rfl 4 rfl A n c i f12 W
      have hmin : ∀ tys ty W, (Builtin.min_ tys ty #[.int .i64 16, .int .i64 ((n - i : Nat) : Int)]).run Try.prog W = .ok (.int .i64 (e : Int)) W := by
        intro tys ty W
        have h := min2_nat .i64 16 (n - i)
        have e0 : Builtin.min_ tys ty #[.int .i64 16, .int .i64 ((n - i : Nat) : Int)] = Builtin.min2 (.int .i64 ((16 : Nat) : Int)) (.int .i64 ((n - i : Nat) : Int)) := by simp [Builtin.min_]
        rw [e0, h]
        show (pure (Value.int .i64 ((min 16 (n - i) : Nat) : Int)) : Sem Value).run Try.prog W = _
        rw [f3]
        rfl
      clear f1 f2 f3 f4 f7 f10 hlt
      gi_wp2
      gi_region
      all_goals gi_wp2
      refine ⟨fun h => absurd h (by simp [Fence.wide]), hRd.mono ?_⟩
      rintro e1 B (⟨rfl, hJB, hkeep, hsB⟩ | ⟨rfl, hJx⟩)
      · have hBB : BoxC B c0 A n c := (hBk.same (B := wr.drew) rfl rfl).same (hkeep _ (.inl rfl) (by omega)) (hkeep _ (.inr rfl) (by omega))
        have d0 : B.cell? ⟨c0, 0, none⟩ = some (.slice A n c) := blk_cell hBB.s 0
        have d1 : B.cell? ⟨c0 + 1, 0, none⟩ = some (.int .i64 16) := blk_cell hBB.n 0
        gi_wp2
        go_roundw
        case rel => exact ⟨k + 1, hkN, by rw [F10.out], hJB, hBB, Nat.le_trans hszk hsB⟩
        case measure =>
          have := F1.out
          simp [intOf, F10.out]; omega
      · gi_wp2
        refine bodyPost_ret (results_none rfl _ _ _) rfl ?_
        exact ⟨⟨_, rfl⟩, .inr ⟨k, hkN, hJx⟩⟩
    · obtain rfl : k = nparts n := by unfold nparts at *; omega
      have hlt2 : ¬ ((16 * nparts n : Nat) : Int) < (n : Int) := by omega
      gi_wp2
      go_end0
      exact ⟨⟨_, rfl⟩, .inl hJk⟩
end Go.Proofs.Ytefcepjffeiaoaa
end

section
/- Table: appends as runs, four rows concatenated, a part that is read. -/
namespace Go.Proofs.Ytefcepjffeiaoaa
open Go.RowKit Go.Shelf Go.Proofs.YtefcepjffeiaoaaW.PrintWords
set_option linter.unusedVariables false

theorem stp {X Y Z : World} (h : Below X.heap.size X Y) (k : Below Y.heap.size Y Z) : Below X.heap.size X Z := h.trans (k.mono h.size)
set_option maxRecDepth 100000 in
set_option maxHeartbeats 400000 in
theorem row_run {W : World} (base : Nat) (ty : TypeId) (v : Value) (xs ys : List UInt8) (A : Option Addr) (m c : Nat) (hm : ys.length = m) (HO : OwB W base v xs) (HR : RdB W A c ys) (hbase : base ≤ W.heap.size) (hl : xs.length + m ≤ 140737488355328) :
    ∃ v1 w1, (Builtin.append_ #[23, 23] ty #[v, .slice A m c]).run Try.prog W = .ok v1 w1 ∧ OwB w1 base v1 (xs ++ ys) ∧ W.grownBy w1 v.ownBlock ∧ (v1.ownBlock = v.ownBlock ∨ ∃ b, v1.ownBlock = some b ∧ W.heap.size ≤ b) := by
  obtain ⟨i0, hi, hzz⟩ := Option.map_eq_some_iff.1 info_u8
  simp only [Prod.mk.injEq] at hzz
  obtain ⟨hz0, hz1, hz2⟩ := hzz
  subst hm
  rcases A with _ | ad
  · have h0 : ys.length = 0 := by
      rcases Nat.eq_zero_or_pos ys.length with h0 | h0
      · exact h0
      · obtain ⟨ad, h, _⟩ := HR.2.2.2 h0
        cases h
    obtain rfl : ys = [] := List.eq_nil_of_length_eq_zero h0
    refine ⟨v, W, ?_, by simpa using HO, World.grownBy.refl W _, .inl rfl⟩
    rcases HO.2 with ⟨rfl, hn⟩ | ⟨g, cap, cur, rfl, _, _, hnc, _⟩
    · simp [Builtin.append_, run_underlying Try.underlying23, sizeOf, typeInfo, hi, Builtin.lenOf, Builtin.firstCells]
    · simp [Builtin.append_, run_underlying Try.underlying23, sizeOf, typeInfo, hi, Builtin.lenOf, Builtin.firstCells, hnc, storeCells]
  · have hcells : ∀ j u, (encs eu8 ys)[j]? = some u → W.cell? (ad.add j) = some u := by
      intro j u hu
      have hj : j < ys.length := by
        rcases Nat.lt_or_ge j ys.length with h | h
        · exact h
        · simp [encs, List.getElem?_eq_none h] at hu
      obtain ⟨ad', h', hc⟩ := HR.2.2.2 (by omega)
      injection h' with h'
      subst h'
      rw [encs_get (d := 0) ys j hj] at hu
      rw [← hu]
      exact hc j (by omega)
    obtain ⟨v1, w1, hr, h2, h3, _, h5⟩ := run_append_own_at (P := Try.prog) W base 23 ty 5 i0 (.int .u8 0) 1 1 Try.underlying23 hi hz0 hz1 hz2 rfl (by omega) v xs.length (encs eu8 xs) HO ad ys.length c (encs eu8 ys) (by simp [encs]) hcells
      (by intro u hu; simp only [encs, List.mem_map] at hu; obtain ⟨q, _, rfl⟩ := hu; exact eu8_one q) (by simp only [maxLen]; omega) (by omega) hbase
    refine ⟨v1, w1, hr, by simpa [OwB, encs] using h2, h3, ?_⟩
    rcases h5 with h5 | h5
    · exact .inl h5
    · exact .inr ⟨_, h5, Nat.le_refl _⟩
section
variable {F : Fence} {D : Nat} {P : Program} {ops : Array Oper} {rest : List Oper} {o : Oper} {a : Act} {Q : Exit → Act → World → Prop}
theorem app_stepIn {W w1 : World} {v xv v1 : Value} (hgd : o.guard = none) (s x : Operand) (t1 t2 : TypeId) (ho : o.op = .call { callee := .builtin .append, args := #[s, x], argTypes := #[t1, t2] }) (hs : a.eval s = v) (hx : a.eval x = xv)
    (hr : (Builtin.append_ #[t1, t2] o.type #[v, xv]).run P W = .ok v1 w1) (h : wpListIn F D P ops Q rest (a.put o.dst v1) w1) : wpListIn F D P ops Q (o :: rest) a W := by
  refine wpListIn_plain hgd fun K hK' => ?_
  unfold Oper.wpIn
  refine ⟨?_, ?_⟩
  · simp [Oper.about, ho, resolve, Target.leads, Sem.run_pure]
  · rw [Oper.semAt_plain F _ _ (by rw [ho]; intro c hc'; cases hc')]
    have e : (execOp a.eval o).run P W = .ok (.value v1) w1 := by
      unfold execOp
      simp only [ho, resolve, invoke, builtin, Sem.run_bind, Sem.run_pure, Result.andThen_ok, List.map_toArray, List.map_cons, List.map_nil, hs, hx, hr]
    rw [e]
    exact hK' _ _ h
theorem app_step {W w1 : World} {v xv v1 : Value} (hgd : o.guard = none) (s x : Operand) (t1 t2 : TypeId) (ho : o.op = .call { callee := .builtin .append, args := #[s, x], argTypes := #[t1, t2] }) (hs : a.eval s = v) (hx : a.eval x = xv)
    (hr : (Builtin.append_ #[t1, t2] o.type #[v, xv]).run P W = .ok v1 w1) (h : wpList P ops Q rest (a.put o.dst v1) w1) : wpList P ops Q (o :: rest) a W := by
  refine wpList_plain hgd fun K hK => ?_
  unfold Oper.wp execOp
  simp only [ho, resolve, invoke, builtin, Sem.run_bind, Sem.run_pure, Result.andThen_ok, List.map_toArray, List.map_cons, List.map_nil, hs, hx, hr]
  exact hK _ _ h
end
theorem Concat_four (A1 A2 A3 A4 : Option Addr) (c1 c2 c3 c4 n1 n2 n3 n4 n : Nat) (x1 x2 x3 x4 : List UInt8) (W : World) (hn : W.heap.size = n) (h1 : RdB W A1 c1 x1) (h2 : RdB W A2 c2 x2) (h3 : RdB W A3 c3 x3) (h4 : RdB W A4 c4 x4) (l1 : x1.length = n1) (l2 : x2.length = n2) (l3 : x3.length = n3) (l4 : x4.length = n4) (ht : x1.length + x2.length + x3.length + x4.length ≤ 140737488355328) :
    Calls Try.prog 29 #[.slice (some ⟨n, 0, none⟩) 4 4] (W.alloc (.cells #[.slice A1 n1 c1, .slice A2 n2 c2, .slice A3 n3 c3, .slice A4 n4 c4] 23)) fun e w' => ∃ v, e = .returned v ∧ OwB w' W.heap.size v (x1 ++ (x2 ++ (x3 ++ x4))) ∧ Below W.heap.size W w' := by
  subst hn
  subst l1
  subst l2
  subst l3
  subst l4
  have hb : Below W.heap.size W (W.alloc (.cells #[.slice A1 x1.length c1, .slice A2 x2.length c2, .slice A3 x3.length c3, .slice A4 x4.length c4] 23)) := (Below.refl _ _).alloc (Nat.le_refl _) _
  refine (Concat_any (some ⟨W.heap.size, 0, none⟩) 4 [(A1, c1, x1), (A2, c2, x2), (A3, c3, x3), (A4, c4, x4)] _ ⟨rfl, by simp, fun _ => ⟨_, rfl, fun j hj => ?_⟩⟩ ?_ (by simp [total]; omega)).mono ?_
  · rw [add_plain, World.cell?_alloc_mark]
    have : j = 0 ∨ j = 1 ∨ j = 2 ∨ j = 3 := by simp at hj; omega
    rcases this with rfl | rfl | rfl | rfl <;> rfl
  · intro s hs
    simp only [List.mem_cons, List.not_mem_nil, or_false] at hs
    rcases hs with rfl | rfl | rfl | rfl
    · exact h1.below hb
    · exact h2.below hb
    · exact h3.below hb
    · exact h4.below hb
  · rintro e w' ⟨v, rfl, HO, HB⟩
    exact ⟨v, rfl, by simpa [joined] using HO.lower (by simp), hb.trans (HB.mono (by simp))⟩
/-- a mark's world: a constant's octets -/
abbrev mkW (w : World) : World := w.alloc (.cells #[.int .u8 116, .int .u8 107, .int .u8 116, .int .u8 98] 5 (4, 5))
theorem rd_mark (w : World) : RdB (mkW w) (some ⟨w.heap.size, 0, none⟩) 4 markT := RdB_lit markT w _ _ _ _ rfl rfl (by decide)
theorem conv_mark (w : World) : (convert 23 23 (.slice (some ⟨w.heap.size, 0, none⟩) 4 4)).run Try.prog (w.alloc (.cells #[.int .u8 116, .int .u8 107, .int .u8 116, .int .u8 98] 5)) = .ok (.slice (some ⟨w.heap.size, 0, none⟩) 4 4) (mkW w) :=
  Lib.run_convert_bytes_const w 23 5 #[.int .u8 116, .int .u8 107, .int .u8 116, .int .u8 98] 4 4 Try.underlying23 Try.underlying5
set_option maxRecDepth 100000 in
set_option maxHeartbeats 400000 in
/-- four octets appended to four that fill their row -/
theorem full_run {W : World} (ty : TypeId) (ad : Addr) (xs ys : List UInt8) (A : Option Addr) (c : Nat) (hm : xs.length = 4) (hk : ys.length = 4) (hx : RdB W (some ad) 4 xs) (hy : RdB W A c ys) :
    ∃ v1 w1, (Builtin.append_ #[23, 23] ty #[.slice (some ad) 4 4, .slice A 4 c]).run Try.prog W = .ok v1 w1 ∧ OwB w1 W.heap.size v1 (xs ++ ys) ∧ Below W.heap.size W w1 := by
  obtain ⟨i0, hi, hzz⟩ := Option.map_eq_some_iff.1 info_u8
  simp only [Prod.mk.injEq] at hzz
  obtain ⟨hz0, hz1, hz2⟩ := hzz
  obtain ⟨ay, rfl, -⟩ := hy.at_ 0 (by omega)
  have hcells : ∀ (a : Addr) (zs : List UInt8), RdB W (some a) zs.length zs → ∀ j u, (encs eu8 zs)[j]? = some u → W.cell? (a.add j) = some u := by
    intro a zs h j u hu
    have hj : j < zs.length := by
      rcases Nat.lt_or_ge j zs.length with h | h
      · exact h
      · simp [encs, List.getElem?_eq_none h] at hu
    obtain ⟨ad', h', hc⟩ := h.2.2.2 (by omega)
    injection h' with h'
    subst h'
    rw [encs_get (d := 0) zs j hj] at hu
    rw [← hu]
    exact hc j (by omega)
  have hlx : (encs eu8 xs).length = 4 * i0.size := by rw [hz1]; simp [encs, hm]
  have hly : (encs eu8 ys).length = 4 * i0.size := by rw [hz1]; simp [encs, hk]
  have hr := run_append_grow (P := Try.prog) W 23 ty 5 i0 (.int .u8 0) Try.underlying23 hi hz0 ad 4 4 (encs eu8 xs) hlx (hcells ad xs (by rw [hm]; exact hx)) ay 4 c (encs eu8 ys) hly (hcells ay ys ⟨Nat.le_refl _, hy.2⟩) (by decide) (by decide) (by rw [hz2]; decide)
  refine ⟨_, _, hr, ⟨by simp [encs], .inr ⟨W.heap.size, _, _, by rw [List.length_append, hm, hk], Nat.le_refl _, heap_alloc_new W.drew _, ?_, grownCap_le_maxLen W _ _ _ (by decide), ?_, ?_⟩⟩, ((Below.refl _ W).drew).alloc (Nat.le_refl _) _⟩
  · rw [List.length_append, hm, hk]; exact grownCap_ge W 8 4 _
  · have hge := grownCap_ge W (4 + 4) 4 5
    have h1 : (Value.int .u8 0).cells.size = 1 := rfl
    have hlx' : (encs eu8 xs).length = 4 := by simp [encs, hm]
    have hly' : (encs eu8 ys).length = 4 := by simp [encs, hk]
    simp only [Array.size_append, List.size_toArray, size_zeroCells, h1, hlx', hly']
    omega
  · have e1 : encs eu8 (xs ++ ys) = encs eu8 xs ++ encs eu8 ys := by simp [encs]
    have e2 : (xs ++ ys).length * 1 = (encs eu8 xs ++ encs eu8 ys).length := by simp [encs]
    simp only [Array.toList_append, List.append_assoc]
    rw [← List.append_assoc, e1, e2]
    exact List.take_left
set_option maxRecDepth 100000 in
set_option maxHeartbeats 800000 in
theorem four_first (ad : Addr) (xs : List UInt8) (n : Nat) (w : World) (hx : RdB w (some ad) 4 xs) (hm : xs.length = 4) (hn : n < 4294967296) :
    Calls Try.prog 35 #[.slice (some ad) 4 4, .int .i64 (n : Int)] w fun e w' => ∃ v', e = .returned v' ∧ OwB w' w.heap.size v' (xs ++ fourN n) ∧ Below w.heap.size w w' := by
  have h4 := fourN_map n hn
  have hx4 : RdB (w.alloc (.cells #[.int .u8 ((n : Int) / 16777216), .int .u8 ((n : Int) / 65536 % 256), .int .u8 ((n : Int) / 256 % 256), .int .u8 ((n : Int) % 256)] 5)) (some ⟨w.heap.size, 0, none⟩) 4 (fourN n) := RdB_lit (fourN n) w _ _ _ _ rfl h4.symm (by decide : (4 : Nat) ≤ _)
  have hB2 := below_alloc w (.cells #[.int .u8 ((n : Int) / 16777216), .int .u8 ((n : Int) / 65536 % 256), .int .u8 ((n : Int) / 256 % 256), .int .u8 ((n : Int) % 256)] 5)
  obtain ⟨v1, w1, hap, O1, B1⟩ := full_run 23 ad xs (fourN n) _ 4 hm rfl (hx.below hB2) hx4
  have O2 := O1.lower hB2.size
  have B2 := stp hB2 B1
  clear h4 hx hx4
  go_enter Try.func35, Try.ntmps35
  go_wp2_with (first | (at_builtin; refine app_step rfl (.tmp 5) (.tmp 17) 23 23 rfl rfl rfl hap ?_))
  go_ret
  exact ⟨_, rfl, O2, B2⟩
/-- a part that is read -/
theorem part_rd (A : Option Addr) (c n : Nat) (l : List Ent) (w : World) (hn : l.length = n) (hr : RdE w A c l) (k : Nat) (hk : 16 * k < n) : (part l k).length = endN n k ∧ RdE w (A.map (·.add (16 * k * 4))) (endN n k) (part l k) := by
  have h1 : (part l k).length = endN n k := by rw [part_length, endN]; omega
  have hc := hr.le
  have h2 := hr.mid (16 * k) (16 * k + endN n k) (Nat.le_add_right _ _) (by unfold endN; omega)
  have h3 : cutK kEnt.sz A c (16 * k) = A.map (·.add (16 * k * 4)) := by
    rw [cutK, if_neg (by omega)]; rfl
  have h4 : (l.take (16 * k + endN n k)).drop (16 * k) = part l k := by
    rw [part]
    have : l.take (16 * k + endN n k) = l.take (16 * k + 16) := by
      rcases Nat.lt_or_ge (16 * k + 16) n with h | h
      · rw [show endN n k = 16 by unfold endN; omega]
      · rw [List.take_of_length_le (by unfold endN; omega), List.take_of_length_le (by omega)]
    rw [this]
  rw [h3, h4] at h2
  exact ⟨h1, by rw [h1]; exact Nat.le_refl _, h2.2⟩
end Go.Proofs.Ytefcepjffeiaoaa
end

section
/- A region that draws, in a round of a range over a function: by the walk that holds a condition on the world. -/
namespace Go.Proofs.Ytefcepjffeiaoaa
open Go.RowKit Go.Shelf Go.Proofs.YtefcepjffeiaoaaW.PrintWords
set_option linter.unusedVariables false

theorem upon_in {l n : Nat} {P : Program} {o : Oper} {a : Act} {K : Act → World → Prop} {Q : Exit → Act → World → Prop} {r : Result Next} (h : Oper.upon P o a K Q r) : Oper.uponIn (Fence.wide.inRound l) n P o a K Q r := by
  cases r with
  | ok x w' =>
    cases x <;> simp only [Oper.upon, Oper.uponIn] at h ⊢ <;>
      first
        | exact h
        | exact ⟨fun hd => absurd hd (by simp [Fence.wide]), CallsIn.inRound l (callsIn_wide.2 h)⟩
        | exact ⟨fun hd => absurd hd (by simp [Fence.wide]), fun c cs _ => let ⟨v, w1, hr, hs⟩ := h c cs; ⟨v, w1, hr, stepsIn_wide.2 hs⟩⟩
        | exact h.elim
  | halt x w' => cases x <;> simp only [Oper.upon, Oper.uponIn] at h ⊢ <;> exact h
theorem wpOp_in {l n : Nat} {P : Program} {ops : Array Oper} {Q : Exit → Act → World → Prop} (hout : ¬ LetsOut Q) {i : Nat} (hnd : ∀ (o : Oper) (c : Call), ops[i]? = some o → o.op ≠ .defer c) {K : Act → World → Prop} {a : Act} {w : World} (h : wpOp P ops Q i K a w) :
    wpOpIn (Fence.wide.inRound l) n P ops Q i K a w := by
  unfold wpOp at h
  unfold wpOpIn
  cases ho : ops[i]? with
  | none => simpa [ho] using h
  | some o =>
    simp only [ho] at h ⊢
    split
    · next hw =>
      rw [if_pos hw] at h
      rcases h with h | h
      · refine ⟨fun f _ => trivial, ?_⟩
        rw [Oper.semAt_eq _ _ _ (fun c => hnd o c ho)]
        exact upon_in h
      · exact absurd h.2 hout
    · next hw =>
      rw [if_neg hw] at h
      exact ⟨fun f _ => trivial, h⟩
theorem wpAny_in {l n : Nat} {P : Program} {ops : Array Oper} {Q : Exit → Act → World → Prop} {md : Region.Mode} (hout : ¬ LetsOut Q) (hnd : ∀ (i : Nat) (o : Oper) (c : Call), ops[i]? = some o → o.op ≠ .defer c) : ∀ (fuel : Nat) (listed : Array Bool) (a : Act) (w : World), wpAny P md ops Q fuel listed a w → wpAnyIn (Fence.wide.inRound l) n P md ops Q fuel listed a w
  | 0, _, _, _, h => h
  | fuel + 1, listed, a, w, h => ⟨h.1, fun i hi => wpOp_in hout (hnd i) (wpOp_mono (fun a w => wpAny_in hout hnd fuel _ a w) (h.2 i hi))⟩
def noDefer (ops : Array Oper) : Bool := ops.toList.all fun o => match o.op with
  | .defer _ => false
  | _ => true
theorem noDefer_spec {ops : Array Oper} (h : noDefer ops = true) (i : Nat) (o : Oper) (c : Call) (ho : ops[i]? = some o) : o.op ≠ .defer c := by
  intro e
  have hm : o ∈ ops.toList := by
    rw [Array.getElem?_eq_some_iff] at ho
    obtain ⟨hi, rfl⟩ := ho
    simp
  have := List.all_eq_true.1 h o hm
  rw [e] at this
  cases this
/-- the end of a region, normal alone -/
def Nrm (N : Act → World → Prop) : Exit → Act → World → Prop := fun e a w => e = .normal ∧ N a w
theorem Nrm.noOut (N : Act → World → Prop) : ¬ LetsOut (Nrm N) := fun ⟨_, _, h, _⟩ => by cases h
theorem Nrm.noPanic {N : Act → World → Prop} {c : List PanicEntry} {a a' : Act} {w : World} (h : Nrm N (.panic c) a w) : Nrm N (.panic c) a' w := by cases h.1
theorem region_in_round {l n : Nat} {P : Program} {id : Nat} {ops : Array Oper} {Q : Exit → Act → World → Prop} {a : Act} {w : World} (S : World → Prop) (N : Act → World → Prop) (hm : P.follows .mixedOrders = true) (hnd : noDefer ops = true)
    (h : wpAnyH P .any ops (Nrm N) S ops.size (Array.replicate ops.size false) a w.drew) (hN : ∀ a w, N a w → Q .normal a w) : (Code.region id ops true).wpIn (Fence.wide.inRound l) n P Q a w := by
  refine wpIn_mono (wpIn_region_any (Q := Nrm N) hm ?_) (fun e a w h => by obtain ⟨rfl, h⟩ := h; exact hN a w h)
  exact wpAny_in (Nrm.noOut N) (noDefer_spec hnd) _ _ _ _ (wpAny_of_held _ _ _ _ h)
/-! temporaries by what is known of them -/
theorem set_ne {T U : Array Value} {i j : Nat} {v u : Value} (e : T.setIfInBounds i v = U) (h : i ≠ j) (hf : T[j]?.getD undef = u) : U[j]?.getD undef = u := by
  rw [← hf, ← e]
  simp [Array.getElem?_setIfInBounds, h]
theorem set_same {T U : Array Value} {i n : Nat} {v : Value} (e : T.setIfInBounds i v = U) (hs : T.size = n) (h : i < n) : U[i]?.getD undef = v := by
  subst hs
  rw [← e]
  simp [Array.getElem?_setIfInBounds, h]
theorem set_size {T U : Array Value} {i n : Nat} {v : Value} (e : T.setIfInBounds i v = U) (hs : T.size = n) : U.size = n := by rw [← e, Array.size_setIfInBounds, hs]
theorem region_in_round_T {l n : Nat} {P : Program} {id : Nat} {ops : Array Oper} {Q : Exit → Act → World → Prop} {T₀ : Array Value} {ds : List Deferred} {w : World} (S : World → Prop) (N : Act → World → Prop) (hm : P.follows .mixedOrders = true) (hnd : noDefer ops = true)
    (hN : ∀ a w, N a w → Q .normal a w) (h : ∀ T : Array Value, T = T₀ → wpAnyH P .any ops (Nrm N) S ops.size (Array.replicate ops.size false) ⟨T, ds⟩ w.drew) : (Code.region id ops true).wpIn (Fence.wide.inRound l) n P Q ⟨T₀, ds⟩ w :=
  region_in_round S N hm hnd (h T₀ rfl) hN
end Go.Proofs.Ytefcepjffeiaoaa
end
