/- What the law BlockSeeks reaches besides, and its walk. -/
import Derived.Test.YtfclmkbhfpjhjaaMgA
import Derived.Test.YtfclmkbhfpjhjaaMgB
set_option linter.unusedVariables false
set_option linter.unusedSimpArgs false
section
/- Arguments opened: versions. -/
namespace Go.Proofs.Ytfclmkbhfpjhjaa
open Go.ChangeShapes Go.WideShapes Go.ChangeAt Go.RowKit Go.Proofs.YtfclmkbhfpjhjaaW.PrintWords
set_option maxRecDepth 100000
set_option linter.unusedVariables false
instance : Inhabited Ent := ⟨zEnt⟩
theorem open_ents {H : Type} {enc : TypeId × Value → H} {W : World} {base : Nat} {v : Value} {x : DataW H} {p : List MemPlace} (hv : Value.okWide Try.prog W .any base 22 v)
    (h : DataW.Trod enc Try.prog W 0 (fun _ => true) true 22 v x p) : ∃ A c l, v = .slice A l.length c ∧ RdE W A c l ∧ (∀ B, (∀ y ∈ x.weights Try.prog 22, y ≤ B) → l.length * 48 ≤ B) := by
  have o1 := opens_struct Try.underlying36 (d := kEnt) (by kernel_rfl) (opensF_cons rfl (by kernel_rfl) (opens_string Try.underlying9) (opensF_cons rfl (by kernel_rfl) (opens_int Try.underlying3) (opensF_cons rfl (by kernel_rfl) (opens_int Try.underlying3) (opensF_one rfl (by kernel_rfl) (opens_string Try.underlying9)))))
  have o2 := opens_slice (t := 22) Try.underlying22 (by kernel_rfl) o1
  obtain ⟨A, c, l, hv, hl, hC, hS, hU⟩ := open_slice_of Try.underlying22 o2 hv h
  refine ⟨A, c, l, hv, ⟨hl, hC⟩, fun B hB => ?_⟩
  have h1 := (hS B hB).1
  have e : Try.prog.bytesOf 36 = 48 := by kernel_rfl
  rw [e] at h1
  exact h1
end Go.Proofs.Ytfclmkbhfpjhjaa
end

section
/- Block: the search, walked. -/
namespace Go.Proofs.Ytfclmkbhfpjhjaa
open Go.RowKit Go.Proofs.YtfclmkbhfpjhjaaW.PrintWords
set_option linter.unusedVariables false

set_option maxRecDepth 100000 in
set_option maxHeartbeats 800000 in
theorem cl_any (x y : Ent) (w : World) : Calls Try.prog 53 #[ebv x, ebv y] w fun e w' => e = .returned (.int .i64 (ordN x y)) ∧ Below w.heap.size w w' := by
  obtain ⟨k1, q1, d1, v1⟩ := x
  obtain ⟨k2, q2, d2, v2⟩ := y
  have hX := Eb.new w (k1, q1, d1, v1)
  have hX2 := hX.below (below_alloc (w.alloc (ebo (k1, q1, d1, v1))) (ebo (k2, q2, d2, v2)))
  have hY := Eb.new (w.alloc (ebo (k1, q1, d1, v1))) (k2, q2, d2, v2)
  have HB := ((Below.refl w.heap.size w).alloc (Nat.le_refl _) (ebo (k1, q1, d1, v1))).alloc (below_alloc w (ebo (k1, q1, d1, v1))).size (ebo (k2, q2, d2, v2))
  go_enter Try.func53, Try.ntmps53
  go_wp2
  obtain ⟨x0, x1, -, -, -, -, -, -⟩ := hX2.read
  obtain ⟨y0, y1, -, -, -, -, -, -⟩ := hY.read
  generalize hWo : (w.alloc (ebo (k1, q1, d1, v1))).alloc (ebo (k2, q2, d2, v2)) = Wo at *
  have HWo := hide hWo
  clear hWo hX2 hY hX
  have hs1 : (w.alloc (ebo (k1, q1, d1, v1))).heap.size = w.heap.size + 1 := World.size_alloc _ _
  rw [hs1] at y0 y1
  have l0 := World.block_lt_of_cell? _ _ x0
  have l1 := World.block_lt_of_cell? _ _ y0
  have l2 := World.block_lt_of_cell? _ _ x1
  have l3 := World.block_lt_of_cell? _ _ y1
  obtain ⟨p, hp⟩ : ∃ p, cmpS k1 k2 = p := ⟨_, rfl⟩
  obtain ⟨q, hq⟩ : ∃ q, Lib.compareInt q2 q1 = q := ⟨_, rfl⟩
  have C1 := fun W => cmpS_any k1 k2 W
  have C2 := fun W => cmp_Compare_int q2 q1 W
  rw [hp] at C1
  rw [hq] at C2
  have HR : ordN (k1, q1, d1, v1) (k2, q2, d2, v2) = or2 p q := by rw [ordN, hp, hq]
  have HRR := hide HR
  clear HR hp hq
  have hd : Below w.heap.size w Wo.drew := HB.drew
  have bA := below_alloc Wo.drew (.cells #[.int .i64 p, .int .i64 q] 3)
  have r0 : (Wo.drew.alloc (.cells #[.int .i64 p, .int .i64 q] 3)).heap[Wo.drew.heap.size]? = some (.cells #[.int .i64 p, .int .i64 q] 3 (0, 0)) := heap_alloc_new _ _
  have O1 := Or_any Wo.drew.heap.size p q _ (blk_cell r0 0) (blk_cell r0 1)
  have hda := hd.alloc hd.size (.cells #[.int .i64 p, .int .i64 q] 3)
  have hS0 : Wo.drew.cell? ⟨w.heap.size, 0, none⟩ = some (.string k1) ∧ Wo.drew.cell? ⟨w.heap.size, 1, none⟩ = some (.int .i64 q1) ∧ Wo.drew.cell? ⟨w.heap.size + 1, 0, none⟩ = some (.string k2) ∧ Wo.drew.cell? ⟨w.heap.size + 1, 1, none⟩ = some (.int .i64 q2) := ⟨x0, x1, y0, y1⟩
  have hS1 : (Wo.drew.alloc (.cells #[.int .i64 p, .int .i64 q] 3)).cell? ⟨w.heap.size, 0, none⟩ = some (.string k1) ∧ (Wo.drew.alloc (.cells #[.int .i64 p, .int .i64 q] 3)).cell? ⟨w.heap.size, 1, none⟩ = some (.int .i64 q1) ∧ (Wo.drew.alloc (.cells #[.int .i64 p, .int .i64 q] 3)).cell? ⟨w.heap.size + 1, 0, none⟩ = some (.string k2) ∧ (Wo.drew.alloc (.cells #[.int .i64 p, .int .i64 q] 3)).cell? ⟨w.heap.size + 1, 1, none⟩ = some (.int .i64 q2) := ⟨(bA.cell l0).trans x0, (bA.cell l2).trans x1, (bA.cell l1).trans y0, (bA.cell l3).trans y1⟩
  go_region_held3 (fun w' => w'.cell? ⟨w.heap.size, 0, none⟩ = some (.string k1) ∧ w'.cell? ⟨w.heap.size, 1, none⟩ = some (.int .i64 q1) ∧ w'.cell? ⟨w.heap.size + 1, 0, none⟩ = some (.string k2) ∧ w'.cell? ⟨w.heap.size + 1, 1, none⟩ = some (.int .i64 q2)) (first | exact hS0 | exact hS1 | assumption) (first | (go_at_call 55; (with_reducible refine (C1 _).mono ?_); rintro e w' ⟨rfl, rfl⟩) | (go_at_call 56; (with_reducible refine (C2 _).mono ?_); rintro e w' ⟨rfl, rfl⟩) | (go_at_call 54; (refine O1.mono ?_); rintro e w' ⟨rfl, rfl⟩))
  go_wp2
  go_ret
  exact ⟨by rw [HRR.out]; rfl, hda⟩
theorem mid_facts (i j n : Nat) (h1 : i < j) (h2 : j ≤ n) (h3 : n ≤ 1000000) : ∃ s h : Nat, (i : Int) + (j : Int) = (s : Int) ∧ wrap64 (s : Int) = (s : Int) ∧ IntKind.i64.wrap (s : Int) = (s : Int) ∧ IntKind.u64.wrap (s : Int) = (s : Int) ∧ (s : Int) / 2 = (h : Int) ∧ wrap64 (h : Int) = (h : Int) ∧ IntKind.i64.wrap (h : Int) = (h : Int) ∧ IntKind.u64.wrap (h : Int) = (h : Int) ∧ i ≤ h ∧ h < j := by
  refine ⟨i + j, (i + j) / 2, by omega, ?_, ?_, ?_, by omega, ?_, ?_, ?_, by omega, by omega⟩
  · unfold wrap64; omega
  · rw [IntKind.wrap_i64]; omega
  · rw [IntKind.wrap_u64]; omega
  · unfold wrap64; omega
  · rw [IntKind.wrap_i64]; omega
  · rw [IntKind.wrap_u64]; omega
theorem ms1 (i j h : Nat) (h1 : i ≤ h) (h2 : h < j) : j - (h + 1) < j - i := by omega
theorem ms2 (i j h : Nat) (h1 : i ≤ h) (h2 : h < j) : h - i < j - i := by omega
theorem succ_facts (h n : Nat) (h1 : h < n) (h3 : n ≤ 1000000) : wrap64 ((h : Int) + 1) = ((h + 1 : Nat) : Int) ∧ IntKind.i64.wrap ((h : Int) + 1) = ((h + 1 : Nat) : Int) := ⟨by unfold wrap64; omega, by rw [IntKind.wrap_i64]; omega⟩
set_option maxRecDepth 100000 in
set_option maxHeartbeats 3200000 in
theorem Search_any (A : Option Addr) (c n : Nat) (l : List Ent) (t : Ent) (w : World) (hn : l.length = n) (hr : RdE w A c l) (ho : ordE l = 0) (hl : n ≤ 1000000) :
    Calls Try.prog 52 #[.slice A n c, ebv t, .func (.func 53) #[] #[]] w fun e w' => ∃ (i : Nat) (fb : Bool), e = .returned (.tuple #[.int .i64 (i : Int), .bool fb]) ∧ i ≤ n ∧ (∀ k, k < i → befE (l.getD k zEnt) t) ∧ (i < n → ¬ befE (l.getD i zEnt) t) ∧ Below w.heap.size w w' := by
  have HN := hide hn
  have HOO := hide ho
  have hE := Eb.new w t
  have bA := below_alloc w (ebo t)
  clear hn ho
  go_enter Try.func52, Try.ntmps52
  go_wp2
  go_loopw [9, 10] (fun iv jv wr => ∃ i j : Nat, i ≤ j ∧ j ≤ n ∧ iv = .int .i64 (i : Int) ∧ jv = .int .i64 (j : Int) ∧ (∀ k, k < i → befE (l.getD k zEnt) t) ∧ (∀ k, j ≤ k → k < n → ¬ befE (l.getD k zEnt) t) ∧ Eb wr w.heap.size t ∧ Below w.heap.size w wr) (fun iv jv _ => (intOf jv).toNat - (intOf iv).toNat)
  case atStart => exact ⟨0, n, Nat.zero_le _, Nat.le_refl _, rfl, rfl, fun k h => absurd h (Nat.not_lt_zero _), fun k h1 h2 => absurd h2 (Nat.not_lt.2 h1), hE, bA⟩
  case round =>
    obtain ⟨i, j, hij, hjn, rfl, rfl, hlo, hhi, hEr, HB⟩ := hrel
    obtain ⟨t0, t1, t2, t3, -, -, -, -⟩ := hEr.read
    have HLO := hide hlo
    have HHI := hide hhi
    clear hlo hhi
    by_cases hlt : i < j
    · obtain ⟨s, h, f1, f2, f3, f4, f5, f6, f7, f8, f9, f10⟩ := mid_facts i j n hlt hjn hl
      have hlti : (i : Int) < (j : Int) := Int.ofNat_lt.2 hlt
      have hhn : h < n := Nat.lt_of_lt_of_le f10 hjn
      have hhni : (h : Int) < (n : Int) := Int.ofNat_lt.2 hhn
      obtain ⟨f11, f12⟩ := succ_facts h n hhn hl
      obtain ⟨ad, rfl, x0, x1, x2, x3⟩ := RdE.at4 (hr.below HB) h (by rw [HN.out]; exact hhn)
      obtain ⟨y, hy⟩ : ∃ y, l.getD h zEnt = y := ⟨_, rfl⟩
      have HY := hide hy
      rw [hy] at x0 x1 x2 x3
      have hCl := fun W => cl_any y t W
      have hneg := ordN_neg y t
      obtain ⟨r, hrr⟩ : ∃ r, ordN y t = r := ⟨_, rfl⟩
      rw [hrr] at hCl hneg
      have hd : Below wr.heap.size wr wr.drew := (Below.refl _ _).drew
      have hSk : ∀ W, Below wr.heap.size wr W → Below wr.heap.size wr W ∧ W.cell? (ad.add (h * 4)) = some (.string y.1) ∧ W.cell? ⟨(ad.add (h * 4)).block, (ad.add (h * 4)).off + 1, none⟩ = some (.int .i64 y.2.1) ∧ W.cell? ⟨(ad.add (h * 4)).block, (ad.add (h * 4)).off + 2, none⟩ = some (.int .i64 y.2.2.1) ∧ W.cell? ⟨(ad.add (h * 4)).block, (ad.add (h * 4)).off + 3, none⟩ = some (.string y.2.2.2) ∧ W.cell? ⟨w.heap.size, 0, none⟩ = some (.string t.1) ∧ W.cell? ⟨w.heap.size, 1, none⟩ = some (.int .i64 t.2.1) ∧ W.cell? ⟨w.heap.size, 2, none⟩ = some (.int .i64 t.2.2.1) ∧ W.cell? ⟨w.heap.size, 3, none⟩ = some (.string t.2.2.2) := fun W h => ⟨h, (h.cell (World.block_lt_of_cell? _ _ x0)).trans x0, (h.cell (World.block_lt_of_cell? _ _ x1)).trans x1, (h.cell (World.block_lt_of_cell? _ _ x2)).trans x2, (h.cell (World.block_lt_of_cell? _ _ x3)).trans x3, (h.cell (World.block_lt_of_cell? _ _ t0)).trans t0, (h.cell (World.block_lt_of_cell? _ _ t1)).trans t1, (h.cell (World.block_lt_of_cell? _ _ t2)).trans t2, (h.cell (World.block_lt_of_cell? _ _ t3)).trans t3⟩
      have hS0 := hSk _ hd
      clear hrr hy
      by_cases hb : befE y t
      · have hr0 : r < 0 := by rw [decide_eq_true hb] at hneg; exact of_decide_eq_true hneg
        clear hneg
        go_wp2
        go_region_held3 (fun w' => Below wr.heap.size wr w' ∧ w'.cell? (ad.add (h * 4)) = some (.string y.1) ∧ w'.cell? ⟨(ad.add (h * 4)).block, (ad.add (h * 4)).off + 1, none⟩ = some (.int .i64 y.2.1) ∧ w'.cell? ⟨(ad.add (h * 4)).block, (ad.add (h * 4)).off + 2, none⟩ = some (.int .i64 y.2.2.1) ∧ w'.cell? ⟨(ad.add (h * 4)).block, (ad.add (h * 4)).off + 3, none⟩ = some (.string y.2.2.2) ∧ w'.cell? ⟨w.heap.size, 0, none⟩ = some (.string t.1) ∧ w'.cell? ⟨w.heap.size, 1, none⟩ = some (.int .i64 t.2.1) ∧ w'.cell? ⟨w.heap.size, 2, none⟩ = some (.int .i64 t.2.2.1) ∧ w'.cell? ⟨w.heap.size, 3, none⟩ = some (.string t.2.2.2)) (first | exact hS0 | exact hSk _ HBt | assumption) (first | (go_at_call 53; (with_reducible refine (hCl _).mono ?_); rintro e w6 ⟨rfl, HB6'⟩; have HBt := hd.trans (HB6'.mono hd.size); have HB6 := HB.trans (HBt.mono HB.size)))
        go_wp2
        go_roundw
        case rel =>
          refine ⟨h + 1, j, f10, hjn, by go_num, rfl, fun k hk => ?_, HHI.out, hEr.below HBt, HB6⟩
          rcases Nat.lt_or_ge k h with h5 | h5
          · have := ord_bef l HOO.out h (by rw [HN.out]; exact hhn) k h5
            rw [HY.out] at this
            exact bef_tr this hb
          · obtain rfl : h = k := Nat.le_antisymm h5 (Nat.lt_succ_iff.1 hk)
            rw [HY.out]; exact hb
        case measure =>
          simp only [intOf, Int.toNat_natCast, f11, f12]
          first | exact ms1 i j h f9 f10 | (simp [intOf]; exact ms1 i j h f9 f10)
      · have hr0 : ¬ r < 0 := by rw [decide_eq_false hb] at hneg; exact of_decide_eq_false hneg
        clear hneg
        go_wp2
        go_region_held3 (fun w' => Below wr.heap.size wr w' ∧ w'.cell? (ad.add (h * 4)) = some (.string y.1) ∧ w'.cell? ⟨(ad.add (h * 4)).block, (ad.add (h * 4)).off + 1, none⟩ = some (.int .i64 y.2.1) ∧ w'.cell? ⟨(ad.add (h * 4)).block, (ad.add (h * 4)).off + 2, none⟩ = some (.int .i64 y.2.2.1) ∧ w'.cell? ⟨(ad.add (h * 4)).block, (ad.add (h * 4)).off + 3, none⟩ = some (.string y.2.2.2) ∧ w'.cell? ⟨w.heap.size, 0, none⟩ = some (.string t.1) ∧ w'.cell? ⟨w.heap.size, 1, none⟩ = some (.int .i64 t.2.1) ∧ w'.cell? ⟨w.heap.size, 2, none⟩ = some (.int .i64 t.2.2.1) ∧ w'.cell? ⟨w.heap.size, 3, none⟩ = some (.string t.2.2.2)) (first | exact hS0 | exact hSk _ HBt | assumption) (first | (go_at_call 53; (with_reducible refine (hCl _).mono ?_); rintro e w6 ⟨rfl, HB6'⟩; have HBt := hd.trans (HB6'.mono hd.size); have HB6 := HB.trans (HBt.mono HB.size)))
        go_wp2
        go_roundw
        case rel =>
          refine ⟨i, h, f9, Nat.le_of_lt hhn, rfl, rfl, HLO.out, fun k h1 h2 h3 => ?_, hEr.below HBt, HB6⟩
          rcases Nat.lt_or_ge h k with h5 | h5
          · have := ord_bef l HOO.out k (by rw [HN.out]; exact h2) h h5
            rw [HY.out] at this
            exact hb (bef_tr this h3)
          · obtain rfl : h = k := Nat.le_antisymm h1 h5
            rw [HY.out] at h3; exact hb h3
        case measure =>
          simp only [intOf, Int.toNat_natCast]
          first | exact ms2 i j h f9 f10 | (simp [intOf]; exact ms2 i j h f9 f10)
    · obtain rfl : i = j := Nat.le_antisymm hij (Nat.not_lt.1 hlt)
      clear hlt
      by_cases hin : i < n
      · have hini : (i : Int) < (n : Int) := Int.ofNat_lt.2 hin
        obtain ⟨ad, rfl, x0, x1, x2, x3⟩ := RdE.at4 (hr.below HB) i (by rw [HN.out]; exact hin)
        obtain ⟨y, hy⟩ : ∃ y, l.getD i zEnt = y := ⟨_, rfl⟩
        rw [hy] at x0 x1 x2 x3
        have hCl := fun W => cl_any y t W
        obtain ⟨r, hrr⟩ : ∃ r, ordN y t = r := ⟨_, rfl⟩
        rw [hrr] at hCl
        have hd : Below wr.heap.size wr wr.drew := (Below.refl _ _).drew
        have hSk : ∀ W, Below wr.heap.size wr W → Below wr.heap.size wr W ∧ W.cell? (ad.add (i * 4)) = some (.string y.1) ∧ W.cell? ⟨(ad.add (i * 4)).block, (ad.add (i * 4)).off + 1, none⟩ = some (.int .i64 y.2.1) ∧ W.cell? ⟨(ad.add (i * 4)).block, (ad.add (i * 4)).off + 2, none⟩ = some (.int .i64 y.2.2.1) ∧ W.cell? ⟨(ad.add (i * 4)).block, (ad.add (i * 4)).off + 3, none⟩ = some (.string y.2.2.2) ∧ W.cell? ⟨w.heap.size, 0, none⟩ = some (.string t.1) ∧ W.cell? ⟨w.heap.size, 1, none⟩ = some (.int .i64 t.2.1) ∧ W.cell? ⟨w.heap.size, 2, none⟩ = some (.int .i64 t.2.2.1) ∧ W.cell? ⟨w.heap.size, 3, none⟩ = some (.string t.2.2.2) := fun W h => ⟨h, (h.cell (World.block_lt_of_cell? _ _ x0)).trans x0, (h.cell (World.block_lt_of_cell? _ _ x1)).trans x1, (h.cell (World.block_lt_of_cell? _ _ x2)).trans x2, (h.cell (World.block_lt_of_cell? _ _ x3)).trans x3, (h.cell (World.block_lt_of_cell? _ _ t0)).trans t0, (h.cell (World.block_lt_of_cell? _ _ t1)).trans t1, (h.cell (World.block_lt_of_cell? _ _ t2)).trans t2, (h.cell (World.block_lt_of_cell? _ _ t3)).trans t3⟩
        have hS0 := hSk _ hd
        clear hrr hy
        go_wp2
        go_region_held3 (fun w' => Below wr.heap.size wr w' ∧ w'.cell? (ad.add (i * 4)) = some (.string y.1) ∧ w'.cell? ⟨(ad.add (i * 4)).block, (ad.add (i * 4)).off + 1, none⟩ = some (.int .i64 y.2.1) ∧ w'.cell? ⟨(ad.add (i * 4)).block, (ad.add (i * 4)).off + 2, none⟩ = some (.int .i64 y.2.2.1) ∧ w'.cell? ⟨(ad.add (i * 4)).block, (ad.add (i * 4)).off + 3, none⟩ = some (.string y.2.2.2) ∧ w'.cell? ⟨w.heap.size, 0, none⟩ = some (.string t.1) ∧ w'.cell? ⟨w.heap.size, 1, none⟩ = some (.int .i64 t.2.1) ∧ w'.cell? ⟨w.heap.size, 2, none⟩ = some (.int .i64 t.2.2.1) ∧ w'.cell? ⟨w.heap.size, 3, none⟩ = some (.string t.2.2.2)) (first | exact hS0 | exact hSk _ HBt | assumption) (first | (go_at_call 53; (with_reducible refine (hCl _).mono ?_); rintro e w6 ⟨rfl, HB6'⟩; have HBt := hd.trans (HB6'.mono hd.size); have HB6 := HB.trans (HBt.mono HB.size)))
        go_wp2
        go_ret2
        exact ⟨i, _, rfl, hjn, HLO.out, fun h => HHI.out i (Nat.le_refl _) h, HB6⟩
      · have hini : ¬ (i : Int) < (n : Int) := fun h => hin (Int.ofNat_lt.1 h)
        go_wp2
        refine wp_region_below w.heap.size w HB (by kernel_rfl) (by kernel_rfl) ?_
        repeat (go_big_quiet_step ((intro hb; rfl)))
        refine wpQuiet_nil ?_
        intro w5 HC5
        go_wp2
        go_ret2
        exact ⟨i, _, rfl, hjn, HLO.out, fun h => absurd h hin, HC5⟩
end Go.Proofs.Ytfclmkbhfpjhjaa
end

section
/- Block: the walks of First and Seek. -/
namespace Go.Proofs.Ytfclmkbhfpjhjaa
open Go.RowKit Go.Proofs.YtfclmkbhfpjhjaaW.PrintWords
set_option linter.unusedVariables false

abbrev resV (r : Option Ent) : Value := ebv (resE r).1
theorem First_plain (l : List Ent) (ho : ordE l = 0) (key : ByteArray) (seq : Int) (i : Nat) (hi : i ≤ l.length) (h1 : ∀ k, k < i → befE (l.getD k zEnt) (key, seq, 0, ⟨#[]⟩)) (h2 : i < l.length → ¬ befE (l.getD i zEnt) (key, seq, 0, ⟨#[]⟩)) :
    firstE l key seq = if i < l.length ∧ (l.getD i zEnt).1 = key then some (l.getD i zEnt) else none := first_bs l ho key seq (key, seq, 0, ⟨#[]⟩) rfl rfl i hi h1 h2
/-- where the search halts -/
def bsI (l : List Ent) (t : Ent) : Nat := l.findIdx (fun x => !decide (befE x t))
theorem bsI_uniq (l : List Ent) (t : Ent) (i : Nat) (hi : i ≤ l.length) (h1 : ∀ k, k < i → befE (l.getD k zEnt) t) (h2 : i < l.length → ¬ befE (l.getD i zEnt) t) : bsI l t = i := by
  induction l generalizing i with
  | nil => simp at hi; subst hi; rfl
  | cons x l ih =>
    unfold bsI
    rw [List.findIdx_cons]
    cases i with
    | zero =>
      have := h2 (by simp)
      rw [List.getD_cons_zero] at this
      simp [this]
    | succ i =>
      have h0 := h1 0 (by omega)
      rw [List.getD_cons_zero] at h0
      have := ih i (by simpa using hi) (fun k hk => by have := h1 (k + 1) (by omega); rwa [List.getD_cons_succ] at this) (fun h => by have := h2 (by simpa using h); rwa [List.getD_cons_succ] at this)
      unfold bsI at this
      simp [h0, this]
set_option maxRecDepth 100000 in
set_option maxHeartbeats 3200000 in
theorem First_any (A : Option Addr) (c n : Nat) (l : List Ent) (key : ByteArray) (seq : Int) (w : World) (hn : l.length = n) (hr : RdE w A c l) (ho : ordE l = 0) (hl : n ≤ 1000000) :
    Calls Try.prog 37 #[.slice A n c, .string key, .int .i64 seq] w fun e w' => e = .returned (.tuple #[resV (firstE l key seq), .bool (resE (firstE l key seq)).2]) ∧ Below w.heap.size w w' := by
  have bA := below_alloc w (.cells #[.string ⟨#[]⟩, .int .i64 0, .int .i64 0, .string ⟨#[]⟩] 36)
  have hE := Eb.new w (⟨#[]⟩, 0, 0, ⟨#[]⟩)
  obtain ⟨I, hI⟩ : ∃ I, bsI l (key, seq, 0, ⟨#[]⟩) = I := ⟨_, rfl⟩
  have hS : Calls Try.prog 52 #[.slice A n c, .agg #[.string key, .int .i64 seq, .int .i64 0, .string ⟨#[]⟩], .func (.func 53) #[] #[]] (w.alloc (.cells #[.string ⟨#[]⟩, .int .i64 0, .int .i64 0, .string ⟨#[]⟩] 36)) fun e w' => ∃ fb : Bool, e = .returned (.tuple #[.int .i64 (I : Int), .bool fb]) ∧ (I ≤ n ∧ firstE l key seq = if I < n ∧ (l.getD I zEnt).1 = key then some (l.getD I zEnt) else none) ∧ Below (w.alloc (.cells #[.string ⟨#[]⟩, .int .i64 0, .int .i64 0, .string ⟨#[]⟩] 36)).heap.size (w.alloc (.cells #[.string ⟨#[]⟩, .int .i64 0, .int .i64 0, .string ⟨#[]⟩] 36)) w' := by
    refine (Search_any A c n l (key, seq, 0, ⟨#[]⟩) _ hn (hr.below bA) ho hl).mono ?_
    rintro e w' ⟨i, fb, rfl, hi, hlo, hhi, HB⟩
    rw [← hn] at hi hhi
    have hu := bsI_uniq l _ i hi hlo hhi
    rw [hI] at hu
    subst hu
    have hf := First_plain l ho key seq I hi hlo hhi
    rw [hn] at hi hf
    exact ⟨fb, rfl, ⟨hi, hf⟩, HB⟩
  have HN := hide hn
  clear hI
  by_cases hin : I < n
  · have hini : ¬ (I : Int) = (n : Int) := fun e => by omega
    have hinn : ¬ I = n := by omega
    have hini2 : (I : Int) < (n : Int) := Int.ofNat_lt.2 hin
    obtain ⟨ad, rfl, x0, x1, x2, x3⟩ := RdE.at4 hr I (by rw [hn]; exact hin)
    have hcl := fun W (h : Below w.heap.size w W) => RdE.at4 (hr.below h) I (by rw [hn]; exact hin)
    obtain ⟨⟨xk, xq, xd, xv⟩, hy⟩ : ∃ y, l.getD I zEnt = y := ⟨_, rfl⟩
    simp only [hy] at hS x0 x1 x2 x3 hcl
    clear hn ho hy
    by_cases hk : xk = key
    · subst hk
      have hse : (xk.toList == xk.toList) = true := by simp
      go_enter Try.func37, Try.ntmps37
      go_wp2_with (first | (go_at_call 52; (with_reducible refine hS.mono ?_); rintro e w1 ⟨fb, rfl, ⟨hi, hf⟩, HB1⟩; have HC := bA.trans (HB1.mono bA.size); have hE1 := hE.below HB1; obtain ⟨e0, e1, e2, e3, y0, y1, y2, y3⟩ := hE1.read; obtain ⟨ad', he, z0, z1, z2, z3⟩ := hcl _ HC; cases he; rw [if_pos ⟨hin, rfl⟩] at hf; have HF := hide hf; clear hf))
      have hF := blk_set (blk_set (blk_set (blk_set hE1 0 (.string xk)) 1 (.int .i64 xq)) 2 (.int .i64 xd)) 3 (.string xv)
      refine bodyPost_ret (v := .tuple #[.agg #[.string xk, .int .i64 xq, .int .i64 xd, .string xv], .bool true]) (results_ct Try.results37 _ _ w.heap.size _ _ _ _ rfl hF Try.underlying36 rfl rfl) rfl ⟨?_, ?_⟩
      · rw [HF.out]; rfl
      · exact ((((HC.setCell (p := ⟨w.heap.size, 0, none⟩) (Nat.le_refl _) _).setCell (p := ⟨w.heap.size, 1, none⟩) (Nat.le_refl _) _).setCell (p := ⟨w.heap.size, 2, none⟩) (Nat.le_refl _) _).setCell (p := ⟨w.heap.size, 3, none⟩) (Nat.le_refl _) _)
    · have hse : (xk.toList == key.toList) = false := by rw [same_bl]; exact decide_eq_false (fun e => hk (bl_inj e))
      go_enter Try.func37, Try.ntmps37
      go_wp2_with (first | (go_at_call 52; (with_reducible refine hS.mono ?_); rintro e w1 ⟨fb, rfl, ⟨hi, hf⟩, HB1⟩; have HC := bA.trans (HB1.mono bA.size); have hE1 := hE.below HB1; obtain ⟨e0, e1, e2, e3, y0, y1, y2, y3⟩ := hE1.read; obtain ⟨ad', he, z0, z1, z2, z3⟩ := hcl _ HC; cases he; rw [if_neg (fun h => hk h.2)] at hf; have HF := hide hf; clear hf))
      have hF := blk_set (blk_set (blk_set (blk_set hE1 0 (.string ⟨#[]⟩)) 1 (.int .i64 0)) 2 (.int .i64 0)) 3 (.string ⟨#[]⟩)
      refine bodyPost_ret (v := .tuple #[.agg #[.string ⟨#[]⟩, .int .i64 0, .int .i64 0, .string ⟨#[]⟩], .bool false]) (results_ct Try.results37 _ _ w.heap.size _ _ _ _ rfl hF Try.underlying36 rfl rfl) rfl ⟨?_, ?_⟩
      · rw [HF.out]; rfl
      · exact ((((HC.setCell (p := ⟨w.heap.size, 0, none⟩) (Nat.le_refl _) _).setCell (p := ⟨w.heap.size, 1, none⟩) (Nat.le_refl _) _).setCell (p := ⟨w.heap.size, 2, none⟩) (Nat.le_refl _) _).setCell (p := ⟨w.heap.size, 3, none⟩) (Nat.le_refl _) _)
  · have hS2 := hS
    have hIn : ∀ h : I ≤ n, I = n := fun h => Nat.le_antisymm h (Nat.not_lt.1 hin)
    go_enter Try.func37, Try.ntmps37
    go_wp2_with (first | (go_at_call 52; (with_reducible refine hS.mono ?_); rintro e w1 ⟨fb, rfl, ⟨hi, hf⟩, HB1⟩; have HC := bA.trans (HB1.mono bA.size); have hE1 := hE.below HB1; obtain ⟨e0, e1, e2, e3, y0, y1, y2, y3⟩ := hE1.read; rw [if_neg (fun h => hin h.1)] at hf; have HF := hide hf; clear hf; obtain rfl := hIn hi))
    have hF := blk_set (blk_set (blk_set (blk_set hE1 0 (.string ⟨#[]⟩)) 1 (.int .i64 0)) 2 (.int .i64 0)) 3 (.string ⟨#[]⟩)
    refine bodyPost_ret (v := .tuple #[.agg #[.string ⟨#[]⟩, .int .i64 0, .int .i64 0, .string ⟨#[]⟩], .bool false]) (results_ct Try.results37 _ _ w.heap.size _ _ _ _ rfl hF Try.underlying36 rfl rfl) rfl ⟨?_, ?_⟩
    · rw [HF.out]; rfl
    · exact ((((HC.setCell (p := ⟨w.heap.size, 0, none⟩) (Nat.le_refl _) _).setCell (p := ⟨w.heap.size, 1, none⟩) (Nat.le_refl _) _).setCell (p := ⟨w.heap.size, 2, none⟩) (Nat.le_refl _) _).setCell (p := ⟨w.heap.size, 3, none⟩) (Nat.le_refl _) _)
end Go.Proofs.Ytfclmkbhfpjhjaa
end

section
/- Block: the walks of both Seeks. -/
namespace Go.Proofs.Ytfclmkbhfpjhjaa
open Go.RowKit Go.Proofs.YtfclmkbhfpjhjaaW.PrintWords
set_option linter.unusedVariables false

set_option maxRecDepth 100000 in
set_option maxHeartbeats 3200000 in
theorem Seek_any (A : Option Addr) (c n : Nat) (b : List UInt8) (key : ByteArray) (seq : Int) (w : World) (hn : b.length = n) (hx : RdB w A c b) (hl : n ≤ 140737488355328) :
    Calls Try.prog 21 #[.slice A n c, .string key, .int .i64 seq] w fun e w' => e = .returned (.tuple #[resV (firstE (unL b) key seq), .bool (resE (firstE (unL b) key seq)).2, .int .i64 (unE b)]) ∧ Below w.heap.size w w' := by
  have bA := below_alloc w (.cells #[.string ⟨#[]⟩, .int .i64 0, .int .i64 0, .string ⟨#[]⟩] 36)
  have hE := Eb.new w (⟨#[]⟩, 0, 0, ⟨#[]⟩)
  have hD := Decode_any A c n b (w.alloc (.cells #[.string ⟨#[]⟩, .int .i64 0, .int .i64 0, .string ⟨#[]⟩] 36)) hn (hx.below bA) hl
  have hun := un_ok b
  have hul : unE b ≠ 0 → unL b = [] := fun h => by rw [unL, if_neg h]
  have hlu : (unL b).length ≤ 65 := by
    unfold unL
    split
    · exact toldE_len _
    · simp
  by_cases h0 : unE b = 0
  · obtain ⟨g1, g2⟩ := hun h0
    obtain ⟨g3, g4, g5⟩ := chkE_ok _ g1
    have hF := fun A c W (h : RdE W A c (unL b)) => First_any A c (unL b).length (unL b) key seq W rfl h g5 (Nat.le_trans hlu (by decide))
    rw [h0] at hD
    rw [h0]
    generalize unL b = U at *
    obtain ⟨nu, hnu⟩ : ∃ nu, U.length = nu := ⟨_, rfl⟩
    have HNU := hide hnu
    rw [hnu] at hF
    obtain ⟨⟨⟨xk, xq, xd, xv⟩, fb⟩, hy⟩ : ∃ y, resE (firstE U key seq) = y := ⟨_, rfl⟩
    unfold resV at *
    rw [hy]
    simp only [hy] at hF
    clear hun hul hn g1 g2 g3 g4 g5 h0 hnu hlu hy
    go_enter Try.func21, Try.ntmps21
    go_wp2_with (first | (go_at_call 12; (with_reducible refine hD.mono ?_); rintro e w1 ⟨v1, rfl, HO1, HB1⟩; obtain ⟨A1, c1, hv1, hr1⟩ := HO1.rd; rw [HNU.out] at hv1; subst hv1; have HC1 := bA.trans (HB1.mono bA.size); have hE1 := hE.below HB1) | (go_at_call 37; (with_reducible refine (hF _ _ _ hr1).mono ?_); rintro e w2 ⟨rfl, HB2⟩; have HC2 := HC1.trans (HB2.mono HC1.size); have hE2 := hE1.below HB2; have b2 := below_alloc w2 (.cells #[.string xk, .int .i64 xq, .int .i64 xd, .string xv] 36); have hE3 := hE2.below b2; have hZ := Eb.new w2 (xk, xq, xd, xv); have HC3 := HC2.trans (b2.mono HC2.size); obtain ⟨e0, e1, e2, e3, y0, y1, y2, y3⟩ := hE3.read; obtain ⟨z0, z1, z2, z3, -, -, -, -⟩ := hZ.read))
    have hFF := blk_set (blk_set (blk_set (blk_set hE3 0 (.string xk)) 1 (.int .i64 xq)) 2 (.int .i64 xd)) 3 (.string xv)
    refine bodyPost_ret (v := .tuple #[.agg #[.string xk, .int .i64 xq, .int .i64 xd, .string xv], .bool fb, .int .i64 0]) (results_ctt Try.results21 _ _ w.heap.size _ _ _ _ rfl hFF Try.underlying36 rfl rfl) rfl ⟨rfl, ?_⟩
    exact ((((HC3.setCell (p := ⟨w.heap.size, 0, none⟩) (Nat.le_refl _) _).setCell (p := ⟨w.heap.size, 1, none⟩) (Nat.le_refl _) _).setCell (p := ⟨w.heap.size, 2, none⟩) (Nat.le_refl _) _).setCell (p := ⟨w.heap.size, 3, none⟩) (Nat.le_refl _) _)
  · have h1 := hul h0
    rw [h1]
    have hy : resE (firstE [] key seq) = ((⟨#[]⟩, 0, 0, ⟨#[]⟩), false) := rfl
    unfold resV
    rw [hy]
    generalize unE b = z at *
    generalize unL b = U at *
    clear hun hul hn h1 hlu hy
    go_enter Try.func21, Try.ntmps21
    go_wp2_with (first | (go_at_call 12; (with_reducible refine hD.mono ?_); rintro e w1 ⟨v1, rfl, HO1, HB1⟩; have HC1 := bA.trans (HB1.mono bA.size); have hE1 := hE.below HB1; obtain ⟨e0, e1, e2, e3, y0, y1, y2, y3⟩ := hE1.read))
    have hFF := blk_set (blk_set (blk_set (blk_set hE1 0 (.string ⟨#[]⟩)) 1 (.int .i64 0)) 2 (.int .i64 0)) 3 (.string ⟨#[]⟩)
    refine bodyPost_ret (v := .tuple #[.agg #[.string ⟨#[]⟩, .int .i64 0, .int .i64 0, .string ⟨#[]⟩], .bool false, .int .i64 z]) (results_ctt Try.results21 _ _ w.heap.size _ _ _ _ rfl hFF Try.underlying36 rfl rfl) rfl ⟨rfl, ?_⟩
    exact ((((HC1.setCell (p := ⟨w.heap.size, 0, none⟩) (Nat.le_refl _) _).setCell (p := ⟨w.heap.size, 1, none⟩) (Nat.le_refl _) _).setCell (p := ⟨w.heap.size, 2, none⟩) (Nat.le_refl _) _).setCell (p := ⟨w.heap.size, 3, none⟩) (Nat.le_refl _) _)
set_option maxRecDepth 100000 in
set_option maxHeartbeats 3200000 in
theorem rSeek_any (A : Option Addr) (c n : Nat) (b : List UInt8) (key : ByteArray) (seq : Int) (w : World) (hn : b.length = n) (hx : RdB w A c b) (hl : n ≤ 140737488355328) :
    Calls Try.prog 22 #[.slice A n c, .string key, .int .i64 seq] w fun e w' => e = .returned (.tuple #[resV (firstE (unL b) key seq), .bool (resE (firstE (unL b) key seq)).2, .int .i64 (unE b)]) ∧ Below w.heap.size w w' := by
  have bA := below_alloc w (.cells #[.string ⟨#[]⟩, .int .i64 0, .int .i64 0, .string ⟨#[]⟩] 36)
  have hE := Eb.new w (⟨#[]⟩, 0, 0, ⟨#[]⟩)
  have hD := rDecode_any A c n b (w.alloc (.cells #[.string ⟨#[]⟩, .int .i64 0, .int .i64 0, .string ⟨#[]⟩] 36)) hn (hx.below bA) hl
  have hun := un_ok b
  have hul : unE b ≠ 0 → unL b = [] := fun h => by rw [unL, if_neg h]
  have hlu : (unL b).length ≤ 65 := by
    unfold unL
    split
    · exact toldE_len _
    · simp
  by_cases h0 : unE b = 0
  · obtain ⟨g1, g2⟩ := hun h0
    obtain ⟨g3, g4, g5⟩ := chkE_ok _ g1
    have hF := fun A c W (h : RdE W A c (unL b)) => rFirst_any A c (unL b).length (unL b) key seq W rfl h (Nat.le_trans hlu (by decide))
    rw [h0] at hD
    rw [h0]
    generalize unL b = U at *
    obtain ⟨nu, hnu⟩ : ∃ nu, U.length = nu := ⟨_, rfl⟩
    have HNU := hide hnu
    rw [hnu] at hF
    obtain ⟨⟨⟨xk, xq, xd, xv⟩, fb⟩, hy⟩ : ∃ y, resE (firstE U key seq) = y := ⟨_, rfl⟩
    unfold resV at *
    rw [hy]
    simp only [hy] at hF
    clear hun hul hn g1 g2 g3 g4 g5 h0 hnu hlu hy
    go_enter Try.func22, Try.ntmps22
    go_wp2_with (first | (go_at_call 17; (with_reducible refine hD.mono ?_); rintro e w1 ⟨v1, rfl, HO1, HB1⟩; obtain ⟨A1, c1, hv1, hr1⟩ := HO1.rd; rw [HNU.out] at hv1; subst hv1; have HC1 := bA.trans (HB1.mono bA.size); have hE1 := hE.below HB1) | (go_at_call 38; (with_reducible refine (hF _ _ _ hr1).mono ?_); rintro e w2 ⟨rfl, HB2⟩; have HC2 := HC1.trans (HB2.mono HC1.size); have hE2 := hE1.below HB2; have b2 := below_alloc w2 (.cells #[.string xk, .int .i64 xq, .int .i64 xd, .string xv] 36); have hE3 := hE2.below b2; have hZ := Eb.new w2 (xk, xq, xd, xv); have HC3 := HC2.trans (b2.mono HC2.size); obtain ⟨e0, e1, e2, e3, y0, y1, y2, y3⟩ := hE3.read; obtain ⟨z0, z1, z2, z3, -, -, -, -⟩ := hZ.read))
    have hFF := blk_set (blk_set (blk_set (blk_set hE3 0 (.string xk)) 1 (.int .i64 xq)) 2 (.int .i64 xd)) 3 (.string xv)
    refine bodyPost_ret (v := .tuple #[.agg #[.string xk, .int .i64 xq, .int .i64 xd, .string xv], .bool fb, .int .i64 0]) (results_ctt Try.results22 _ _ w.heap.size _ _ _ _ rfl hFF Try.underlying36 rfl rfl) rfl ⟨rfl, ?_⟩
    exact ((((HC3.setCell (p := ⟨w.heap.size, 0, none⟩) (Nat.le_refl _) _).setCell (p := ⟨w.heap.size, 1, none⟩) (Nat.le_refl _) _).setCell (p := ⟨w.heap.size, 2, none⟩) (Nat.le_refl _) _).setCell (p := ⟨w.heap.size, 3, none⟩) (Nat.le_refl _) _)
  · have h1 := hul h0
    rw [h1]
    have hy : resE (firstE [] key seq) = ((⟨#[]⟩, 0, 0, ⟨#[]⟩), false) := rfl
    unfold resV
    rw [hy]
    generalize unE b = z at *
    generalize unL b = U at *
    clear hun hul hn h1 hlu hy
    go_enter Try.func22, Try.ntmps22
    go_wp2_with (first | (go_at_call 17; (with_reducible refine hD.mono ?_); rintro e w1 ⟨v1, rfl, HO1, HB1⟩; have HC1 := bA.trans (HB1.mono bA.size); have hE1 := hE.below HB1; obtain ⟨e0, e1, e2, e3, y0, y1, y2, y3⟩ := hE1.read))
    have hFF := blk_set (blk_set (blk_set (blk_set hE1 0 (.string ⟨#[]⟩)) 1 (.int .i64 0)) 2 (.int .i64 0)) 3 (.string ⟨#[]⟩)
    refine bodyPost_ret (v := .tuple #[.agg #[.string ⟨#[]⟩, .int .i64 0, .int .i64 0, .string ⟨#[]⟩], .bool false, .int .i64 z]) (results_ctt Try.results22 _ _ w.heap.size _ _ _ _ rfl hFF Try.underlying36 rfl rfl) rfl ⟨rfl, ?_⟩
    exact ((((HC1.setCell (p := ⟨w.heap.size, 0, none⟩) (Nat.le_refl _) _).setCell (p := ⟨w.heap.size, 1, none⟩) (Nat.le_refl _) _).setCell (p := ⟨w.heap.size, 2, none⟩) (Nat.le_refl _) _).setCell (p := ⟨w.heap.size, 3, none⟩) (Nat.le_refl _) _)
end Go.Proofs.Ytfclmkbhfpjhjaa
end

section
/- The walk of BlockSeeks: the plain part; the walk up to the loop. -/
namespace Go.Proofs.Ytfclmkbhfpjhjaa
open Go.RowKit Go.Proofs.YtfclmkbhfpjhjaaW.PrintWords
set_option linter.unusedVariables false

/-- what is looked for is one of them just where something is told -/
theorem seek_mem (l : List Ent) (ho : ordE l = 0) (key : ByteArray) (seq : Int) : ((resE (firstE l key seq)).2 = true ↔ ∃ j, j < l.length ∧ l.getD j zEnt = (resE (firstE l key seq)).1) := by
  cases hf : firstE l key seq with
  | none =>
    constructor
    · intro h; cases h
    · rintro ⟨j, hj, he⟩
      have := (ordE_may l ho j hj).1.1
      rw [he] at this
      exact absurd this (by decide)
  | some x =>
    refine ⟨fun _ => ?_, fun _ => rfl⟩
    obtain ⟨hm, -, -⟩ := first_some l key seq x hf
    obtain ⟨j, hj, he⟩ := List.getElem_of_mem hm
    exact ⟨j, hj, by rw [List.getD_eq_getElem?_getD, List.getElem?_eq_getElem hj]; exact he⟩
/-- nothing that is told is another key's, or too young -/
theorem seek_is (l : List Ent) (key : ByteArray) (seq : Int) (h : (resE (firstE l key seq)).2 = true) : (resE (firstE l key seq)).1.1 = key ∧ (resE (firstE l key seq)).1.2.1 ≤ seq := by
  cases hf : firstE l key seq with
  | none => rw [hf] at h; cases h
  | some x => exact (first_some l key seq x hf).2
/-- none of the others is nearer -/
theorem seek_near (l : List Ent) (ho : ordE l = 0) (key : ByteArray) (seq : Int) (j : Nat) (hj : j < l.length) (h1 : (l.getD j zEnt).1 = key) (h2 : (l.getD j zEnt).2.1 ≤ seq) : (resE (firstE l key seq)).2 = true ∧ (l.getD j zEnt).2.1 ≤ (resE (firstE l key seq)).1.2.1 := by
  obtain ⟨x, hx, hle⟩ := first_near l ho key seq j hj h1 h2
  rw [hx]
  exact ⟨rfl, hle⟩
theorem run_loadVar_str {P : Program} (w : World) (ty : TypeId) (hu : P.underlying ty = some .string) (a : Addr) (v : Value) (hc : w.cell? a = some v) : (loadVar ty a).run P w = .ok v w := by
  have hagg : (isAgg ty).run P w = .ok false w := by
    unfold isAgg
    rw [Sem.run_bind, run_underlying hu w]
    simp
  simp [loadVar, Sem.run_bind, hagg, hc]
theorem run_loadVar_num {P : Program} (w : World) (ty : TypeId) (k : IntKind) (hu : P.underlying ty = some (.int k)) (a : Addr) (v : Value) (hc : w.cell? a = some v) : (loadVar ty a).run P w = .ok v w := by
  have hagg : (isAgg ty).run P w = .ok false w := by
    unfold isAgg
    rw [Sem.run_bind, run_underlying hu w]
    simp
  simp [loadVar, Sem.run_bind, hagg, hc]
/-- a variable read under a guard that is true, in a quiet walk -/
theorem quiet_loadW {P : Program} {ops : Array Oper} {C : World → Prop} {Q : Act → Prop} {o : Oper} {rest : List Oper} {a : Act} (hw : Region.wanted o (yielded ops a.tmps) = true) (ty : TypeId) (x : Operand) (ho : o.op = .load ty x)
    (ad : Addr) (hx : a.eval x = .pointer (some ad)) (v : Value) (h : ∀ w, C w → (loadVar ty ad).run P w = .ok v w) (hk : wpQuiet P ops C Q rest (a.put o.dst v)) : wpQuiet P ops C Q (o :: rest) a :=
  wpQuiet_step fun K hK => by
    rw [if_pos hw]
    refine ⟨v, fun w hC => ?_, hK _ hk⟩
    have hr : (execOp a.eval o).run P w = .ok (.value v) w := by
      unfold execOp
      simp only [ho, hx, Instr.loadAt, Instr.sureAddr, Sem.run_bind, Sem.run_pure, Result.andThen_ok, h w hC]
    unfold Oper.quietAt
    rw [hr]
    exact ⟨rfl, rfl⟩
theorem eqb_iff (yk xk yv xv : ByteArray) (yq xq yd xd : Int) : ((yk.toList == xk.toList && (yq == xq && (yd == xd && yv.toList == xv.toList))) = true) = (((yk, yq, yd, yv) : Ent) = (xk, xq, xd, xv)) := by
  apply propext
  simp only [Bool.and_eq_true, beq_iff_eq, Prod.mk.injEq]
  constructor
  · rintro ⟨h1, h2, h3, h4⟩
    exact ⟨toList_inj h1, h2, h3, toList_inj h4⟩
  · rintro ⟨h1, h2, h3, h4⟩
    exact ⟨by rw [h1], h2, h3, by rw [h4]⟩
theorem fnd_snoc (P : Nat → Prop) (k : Nat) (f f2 : Bool) (h : f = true ↔ ∃ j, j < k ∧ P j) (h2 : f2 = true ↔ (f = true ∨ P k)) : f2 = true ↔ ∃ j, j < k + 1 ∧ P j := by
  rw [h2, h]
  constructor
  · rintro (⟨j, hj, hp⟩ | hp)
    · exact ⟨j, Nat.lt_succ_of_lt hj, hp⟩
    · exact ⟨k, Nat.lt_succ_self k, hp⟩
  · rintro ⟨j, hj, hp⟩
    rcases Nat.lt_or_ge j k with h5 | h5
    · exact .inl ⟨j, h5, hp⟩
    · obtain rfl : j = k := by omega
      exact .inr hp
theorem sk_meas (n k : Nat) (h : k < n) : n - (k + 1) < n - k := by omega
theorem blkX_small (l : List Ent) (h : chkE l = 0) : (blkX l).length ≤ 42000 := by
  have h2 := entsB_length l (chkE_ok l h).2.2 l.length (Nat.le_refl _)
  have h3 := tailB_length l l.length
  have h4 := (chkE_ok l h).2.1
  rw [blkX, if_pos h, guarded_length, blkB, List.length_append, List.length_append, List.length_singleton]
  omega
set_option maxRecDepth 100000 in
set_option maxHeartbeats 3200000 in
theorem seeks_walk (A : Option Addr) (c : Nat) (l : List Ent) (key : ByteArray) (seq : Int) (w : World) (hr : RdE w A c l) (hl : l.length * 48 ≤ 140737488351232) (hkey : key.size ≤ 140737488351232) (hseq : (Lit.int .i64 seq).wf = true) :
    Calls Try.prog 8 #[.slice A l.length c, .string key, .int .i64 seq] w fun e w' => e = .returned (.bool true) ∧ Below w.heap.size w w' := by
  have hE := fun W (h : RdE W A c l) => Encode_any A c l.length l W rfl h (by omega)
  by_cases h1 : chkE l = 0
  · obtain ⟨u1, u2⟩ := un_blk l h1
    obtain ⟨-, hnb, ho⟩ := chkE_ok l h1
    have hsm := blkX_small l h1
    have hK := fun B d W (h : RdB W B d (blkX l)) => Seek_any B d (blkX l).length (blkX l) key seq W rfl h (by omega)
    have hmem := seek_mem l ho key seq
    have his := seek_is l key seq
    have hnear := seek_near l ho key seq
    rw [h1] at hE
    rw [u1, u2] at hK
    generalize blkX l = X at *
    unfold resV at *
    obtain ⟨⟨⟨xk, xq, xd, xv⟩, fb⟩, hy⟩ : ∃ y, resE (firstE l key seq) = y := ⟨_, rfl⟩
    simp only [hy] at hK hmem his hnear
    obtain ⟨n, hn⟩ : ∃ n, l.length = n := ⟨_, rfl⟩
    obtain ⟨nx, hnx⟩ : ∃ nx, X.length = nx := ⟨_, rfl⟩
    have HN := hide hn
    have HNX := hide hnx
    rw [hnx] at hK
    rw [hn] at hE hmem hnear hnb ⊢
    have HMEM := hide hmem
    have HNEAR := hide hnear
    have HIS := hide his
    clear hn hnx hy hmem hnear his hl hkey hseq h1 u1 u2 ho hsm
    cases fb with
    | true =>
      obtain ⟨i1, i2⟩ := HIS.out rfl
      subst i1
      have i3 : ¬ seq < xq := Int.not_lt.2 i2
      have hse : (xk.toList == xk.toList) = true := by simp
      go_enter Try.func8, Try.ntmps8
      go_wp2_with (first | (go_at_call 9; refine (alive_any _).mono ?_; rintro e w1 ⟨rfl, HB1⟩) | (go_at_call 11; refine (num_any _ _).mono ?_; rintro e w' ⟨rfl, rfl⟩) | (go_at_call 10; (with_reducible refine (hE _ (hr.below HB1)).mono ?_); rintro e w2 ⟨v2, rfl, HO2, HB2⟩; obtain ⟨A2, c2, hv2, hr2⟩ := HO2.rd; rw [HNX.out] at hv2; subst hv2; have HC2 := HB1.trans (HB2.mono HB1.size)) | (go_at_call 21; (with_reducible refine (hK _ _ _ hr2).mono ?_); rintro e w3 ⟨rfl, HB3⟩; have HC3 := HC2.trans (HB3.mono HC2.size); have Z3 := Eb.new w3 (xk, xq, xd, xv); have HC4 := HC3.alloc HC3.size (.cells #[.string xk, .int .i64 xq, .int .i64 xd, .string xv] 36); obtain ⟨z0, z1, z2, z3, -, -, -, -⟩ := Z3.read))
      go_loopw [12, 13] (fun fv iv wr => ∃ (k : Nat) (f : Bool), k ≤ n ∧ iv = .int .i64 (k : Int) ∧ fv = .bool f ∧ (f = true ↔ ∃ j, j < k ∧ l.getD j zEnt = (xk, xq, xd, xv)) ∧ Eb wr w3.heap.size (xk, xq, xd, xv) ∧ Below w.heap.size w wr) (fun _ iv _ => n - (intOf iv).toNat)
      case atStart => exact ⟨0, false, Nat.zero_le _, rfl, rfl, ⟨fun h => (by cases h), fun ⟨j, hj, _⟩ => absurd hj (Nat.not_lt_zero _)⟩, Z3, HC4⟩
      case round =>
        obtain ⟨k, f, hk, rfl, rfl, hf, hE3, HB⟩ := hrel
        have HF := hide hf
        clear hf
        obtain ⟨t0, t1, t2, t3, -, -, -, -⟩ := hE3.read
        by_cases hlt : k < n
        · have hlti : (k : Int) < (n : Int) := Int.ofNat_lt.2 hlt
          have hwk := wrap64_succ k (by omega)
          obtain ⟨ad, rfl, x0, x1, x2, x3⟩ := RdE.at4 (hr.below HB) k (by rw [HN.out]; exact hlt)
          obtain ⟨⟨yk, yq, yd, yv⟩, hy⟩ : ∃ y, l.getD k zEnt = y := ⟨_, rfl⟩
          have HY := hide hy
          simp only [hy] at x0 x1 x2 x3
          clear hy
          have Lk : ∀ w', Below wr.heap.size wr w' → (loadVar 9 (ad.add (k * 4))).run Try.prog w' = .ok (.string yk) w' := fun w' hb => run_loadVar_str w' 9 Try.underlying9 _ _ ((hb.cell (World.block_lt_of_cell? _ _ x0)).trans x0)
          have Lq : ∀ w', Below wr.heap.size wr w' → (loadVar 3 ⟨(ad.add (k * 4)).block, (ad.add (k * 4)).off + 1, none⟩).run Try.prog w' = .ok (.int .i64 yq) w' := fun w' hb => run_loadVar_num w' 3 _ Try.underlying3 _ _ ((hb.cell (World.block_lt_of_cell? _ _ x1)).trans x1)
          have Lx : ∀ w', Below wr.heap.size wr w' → (loadVar 3 ⟨w3.heap.size, 1, none⟩).run Try.prog w' = .ok (.int .i64 xq) w' := fun w' hb => run_loadVar_num w' 3 _ Try.underlying3 _ _ ((hb.cell (World.block_lt_of_cell? _ _ t1)).trans t1)
          cases f with
          | true =>
            go_wp2
            refine wp_region_below wr.heap.size wr (Below.refl _ _) (by kernel_rfl) (by kernel_rfl) ?_
            repeat (go_big_quiet_step ((intro hb; rfl)))
            refine wpQuiet_nil ?_
            intro wq HW
            have HF2 := hide (fnd_snoc (fun j => l.getD j zEnt = (xk, xq, xd, xv)) k true true (by simpa using HF.out) (by simp))
            by_cases hyk : yk = xk
            · subst hyk
              have hkk : (yk.toList == yk.toList) = true := by simp
              by_cases hq : yq ≤ seq
              · have hn := (HNEAR.out k hlt (by rw [HY.out]) (by rw [HY.out]; exact hq)).2
                rw [HY.out] at hn
                have hqq : yq ≤ seq := hq
                have hqx : ¬ xq < yq := Int.not_lt.2 hn
                clear HNEAR HMEM HF hq hn
                go_wp2
                refine wp_region_below wr.heap.size wr HW (by kernel_rfl) (by kernel_rfl) ?_
                repeat (go_big_quiet_step ((intro hb; rfl)))
                refine quiet_load rfl 9 _ rfl (ad.add (k * 4)) rfl (.string yk) Lk ?_
                simp only [Act.put, List.setIfInBounds_toArray, List.set_cons_zero, List.set_cons_succ]
                repeat (go_big_quiet_step ((intro hb; rfl)))
                refine quiet_loadW (by rfl) 3 _ rfl ⟨(ad.add (k * 4)).block, (ad.add (k * 4)).off + 1, none⟩ rfl (.int .i64 yq) Lq ?_
                simp only [Act.put, List.setIfInBounds_toArray, List.set_cons_zero, List.set_cons_succ]
                repeat (go_big_quiet_step ((intro hb; rfl)))
                refine quiet_loadW (by rfl) 3 _ rfl ⟨(ad.add (k * 4)).block, (ad.add (k * 4)).off + 1, none⟩ rfl (.int .i64 yq) Lq ?_
                simp only [Act.put, List.setIfInBounds_toArray, List.set_cons_zero, List.set_cons_succ]
                repeat (go_big_quiet_step ((intro hb; rfl)))
                refine quiet_loadW (by rfl) 3 _ rfl ⟨w3.heap.size, 1, none⟩ rfl (.int .i64 xq) Lx ?_
                simp only [Act.put, List.setIfInBounds_toArray, List.set_cons_zero, List.set_cons_succ]
                repeat (go_big_quiet_step ((intro hb; rfl)))
                refine wpQuiet_nil ?_
                intro w5 HC5
                have HB5 := HB.trans (HC5.mono HB.size)
                go_wp2
                go_roundw
                case rel => exact ⟨k + 1, true, hlt, by go_num, rfl, by first | exact HF2.out | (have := HF2.out; simpa using this), hE3.below HC5, HB5⟩
                case measure =>
                  first | exact sk_meas n k hlt | (simp [intOf]; exact sk_meas n k hlt)
              · have hqq : ¬ yq ≤ seq := hq
                have hqd : decide (yq ≤ seq) = false := decide_eq_false hq
                have hql : seq < yq := Int.not_le.1 hq
                clear HNEAR HMEM HF hq
                go_wp2
                refine wp_region_below wr.heap.size wr HW (by kernel_rfl) (by kernel_rfl) ?_
                repeat (go_big_quiet_step ((intro hb; rfl)))
                refine quiet_load rfl 9 _ rfl (ad.add (k * 4)) rfl (.string yk) Lk ?_
                simp only [Act.put, List.setIfInBounds_toArray, List.set_cons_zero, List.set_cons_succ]
                repeat (go_big_quiet_step ((intro hb; rfl)))
                refine quiet_loadW (by rfl) 3 _ rfl ⟨(ad.add (k * 4)).block, (ad.add (k * 4)).off + 1, none⟩ rfl (.int .i64 yq) Lq ?_
                simp only [Act.put, List.setIfInBounds_toArray, List.set_cons_zero, List.set_cons_succ]
                repeat (go_big_quiet_step ((intro hb; rfl)))
                refine wpQuiet_nil ?_
                intro w5 HC5
                have HB5 := HB.trans (HC5.mono HB.size)
                go_wp2
                go_roundw
                case rel => exact ⟨k + 1, true, hlt, by go_num, rfl, by first | exact HF2.out | (have := HF2.out; simpa using this), hE3.below HC5, HB5⟩
                case measure =>
                  first | exact sk_meas n k hlt | (simp [intOf]; exact sk_meas n k hlt)
            · have hkk : (yk.toList == xk.toList) = false := by rw [same_bl]; exact decide_eq_false (fun e => hyk (bl_inj e))
              clear HNEAR HMEM HF
              go_wp2
              refine wp_region_below wr.heap.size wr HW (by kernel_rfl) (by kernel_rfl) ?_
              repeat (go_big_quiet_step ((intro hb; rfl)))
              refine quiet_load rfl 9 _ rfl (ad.add (k * 4)) rfl (.string yk) Lk ?_
              simp only [Act.put, List.setIfInBounds_toArray, List.set_cons_zero, List.set_cons_succ]
              repeat (go_big_quiet_step ((intro hb; rfl)))
              refine wpQuiet_nil ?_
              intro w5 HC5
              have HB5 := HB.trans (HC5.mono HB.size)
              go_wp2
              go_roundw
              case rel => exact ⟨k + 1, true, hlt, by go_num, rfl, by first | exact HF2.out | (have := HF2.out; simpa using this), hE3.below HC5, HB5⟩
              case measure =>
                first | exact sk_meas n k hlt | (simp [intOf]; exact sk_meas n k hlt)
          | false =>
            have hEq := fun d W => PB.eqA36 d W yk xk yq xq yd xd yv xv
            have hS0 : wr.drew.cell? (ad.add (k * 4)) = some (.string yk) ∧ wr.drew.cell? ⟨(ad.add (k * 4)).block, (ad.add (k * 4)).off + 1, none⟩ = some (.int .i64 yq) ∧ wr.drew.cell? ⟨(ad.add (k * 4)).block, (ad.add (k * 4)).off + 2, none⟩ = some (.int .i64 yd) ∧ wr.drew.cell? ⟨(ad.add (k * 4)).block, (ad.add (k * 4)).off + 3, none⟩ = some (.string yv) ∧ wr.drew.cell? ⟨w3.heap.size, 0, none⟩ = some (.string xk) ∧ wr.drew.cell? ⟨w3.heap.size, 1, none⟩ = some (.int .i64 xq) ∧ wr.drew.cell? ⟨w3.heap.size, 2, none⟩ = some (.int .i64 xd) ∧ wr.drew.cell? ⟨w3.heap.size, 3, none⟩ = some (.string xv) := ⟨x0, x1, x2, x3, t0, t1, t2, t3⟩
            go_wp2
            go_region_held3 (fun w' => w'.cell? (ad.add (k * 4)) = some (.string yk) ∧ w'.cell? ⟨(ad.add (k * 4)).block, (ad.add (k * 4)).off + 1, none⟩ = some (.int .i64 yq) ∧ w'.cell? ⟨(ad.add (k * 4)).block, (ad.add (k * 4)).off + 2, none⟩ = some (.int .i64 yd) ∧ w'.cell? ⟨(ad.add (k * 4)).block, (ad.add (k * 4)).off + 3, none⟩ = some (.string yv) ∧ w'.cell? ⟨w3.heap.size, 0, none⟩ = some (.string xk) ∧ w'.cell? ⟨w3.heap.size, 1, none⟩ = some (.int .i64 xq) ∧ w'.cell? ⟨w3.heap.size, 2, none⟩ = some (.int .i64 xd) ∧ w'.cell? ⟨w3.heap.size, 3, none⟩ = some (.string xv)) (first | exact hS0 | assumption) (first | (go_at_call 23))
            have HW : Below wr.heap.size wr wr.drew := (Below.refl _ _).drew
            clear hEq hS0
            have HF2 := hide (fnd_snoc (fun j => l.getD j zEnt = (xk, xq, xd, xv)) k false (yk.toList == xk.toList && (yq == xq && (yd == xd && yv.toList == xv.toList))) (by simpa using HF.out) (by rw [HY.out, eqb_iff]; simp))
            by_cases hyk : yk = xk
            · subst hyk
              have hkk : (yk.toList == yk.toList) = true := by simp
              by_cases hq : yq ≤ seq
              · have hn := (HNEAR.out k hlt (by rw [HY.out]) (by rw [HY.out]; exact hq)).2
                rw [HY.out] at hn
                have hqq : yq ≤ seq := hq
                have hqx : ¬ xq < yq := Int.not_lt.2 hn
                clear HNEAR HMEM HF hq hn
                go_wp2
                refine wp_region_below wr.heap.size wr HW (by kernel_rfl) (by kernel_rfl) ?_
                repeat (go_big_quiet_step ((intro hb; rfl)))
                refine quiet_load rfl 9 _ rfl (ad.add (k * 4)) rfl (.string yk) Lk ?_
                simp only [Act.put, List.setIfInBounds_toArray, List.set_cons_zero, List.set_cons_succ]
                repeat (go_big_quiet_step ((intro hb; rfl)))
                refine quiet_loadW (by rfl) 3 _ rfl ⟨(ad.add (k * 4)).block, (ad.add (k * 4)).off + 1, none⟩ rfl (.int .i64 yq) Lq ?_
                simp only [Act.put, List.setIfInBounds_toArray, List.set_cons_zero, List.set_cons_succ]
                repeat (go_big_quiet_step ((intro hb; rfl)))
                refine quiet_loadW (by rfl) 3 _ rfl ⟨(ad.add (k * 4)).block, (ad.add (k * 4)).off + 1, none⟩ rfl (.int .i64 yq) Lq ?_
                simp only [Act.put, List.setIfInBounds_toArray, List.set_cons_zero, List.set_cons_succ]
                repeat (go_big_quiet_step ((intro hb; rfl)))
                refine quiet_loadW (by rfl) 3 _ rfl ⟨w3.heap.size, 1, none⟩ rfl (.int .i64 xq) Lx ?_
                simp only [Act.put, List.setIfInBounds_toArray, List.set_cons_zero, List.set_cons_succ]
                repeat (go_big_quiet_step ((intro hb; rfl)))
                refine wpQuiet_nil ?_
                intro w5 HC5
                have HB5 := HB.trans (HC5.mono HB.size)
                go_wp2
                go_roundw
                case rel => exact ⟨k + 1, _, hlt, by go_num, rfl, by first | exact HF2.out | (have := HF2.out; simpa using this), hE3.below HC5, HB5⟩
                case measure =>
                  first | exact sk_meas n k hlt | (simp [intOf]; exact sk_meas n k hlt)
              · have hqq : ¬ yq ≤ seq := hq
                have hqd : decide (yq ≤ seq) = false := decide_eq_false hq
                have hql : seq < yq := Int.not_le.1 hq
                clear HNEAR HMEM HF hq
                go_wp2
                refine wp_region_below wr.heap.size wr HW (by kernel_rfl) (by kernel_rfl) ?_
                repeat (go_big_quiet_step ((intro hb; rfl)))
                refine quiet_load rfl 9 _ rfl (ad.add (k * 4)) rfl (.string yk) Lk ?_
                simp only [Act.put, List.setIfInBounds_toArray, List.set_cons_zero, List.set_cons_succ]
                repeat (go_big_quiet_step ((intro hb; rfl)))
                refine quiet_loadW (by rfl) 3 _ rfl ⟨(ad.add (k * 4)).block, (ad.add (k * 4)).off + 1, none⟩ rfl (.int .i64 yq) Lq ?_
                simp only [Act.put, List.setIfInBounds_toArray, List.set_cons_zero, List.set_cons_succ]
                repeat (go_big_quiet_step ((intro hb; rfl)))
                refine wpQuiet_nil ?_
                intro w5 HC5
                have HB5 := HB.trans (HC5.mono HB.size)
                go_wp2
                go_roundw
                case rel => exact ⟨k + 1, _, hlt, by go_num, rfl, by first | exact HF2.out | (have := HF2.out; simpa using this), hE3.below HC5, HB5⟩
                case measure =>
                  first | exact sk_meas n k hlt | (simp [intOf]; exact sk_meas n k hlt)
            · have hkk : (yk.toList == xk.toList) = false := by rw [same_bl]; exact decide_eq_false (fun e => hyk (bl_inj e))
              clear HNEAR HMEM HF
              go_wp2
              refine wp_region_below wr.heap.size wr HW (by kernel_rfl) (by kernel_rfl) ?_
              repeat (go_big_quiet_step ((intro hb; rfl)))
              refine quiet_load rfl 9 _ rfl (ad.add (k * 4)) rfl (.string yk) Lk ?_
              simp only [Act.put, List.setIfInBounds_toArray, List.set_cons_zero, List.set_cons_succ]
              repeat (go_big_quiet_step ((intro hb; rfl)))
              refine wpQuiet_nil ?_
              intro w5 HC5
              have HB5 := HB.trans (HC5.mono HB.size)
              go_wp2
              go_roundw
              case rel => exact ⟨k + 1, _, hlt, by go_num, rfl, by first | exact HF2.out | (have := HF2.out; simpa using this), hE3.below HC5, HB5⟩
              case measure =>
                first | exact sk_meas n k hlt | (simp [intOf]; exact sk_meas n k hlt)
        · obtain rfl : k = n := Nat.le_antisymm hk (Nat.not_lt.1 hlt)
          have hft : f = true := HF.out.2 (HMEM.out.1 trivial)
          subst hft
          go_wp2
          go_ret
          exact ⟨rfl, HB⟩
    | false =>
      go_enter Try.func8, Try.ntmps8
      go_wp2_with (first | (go_at_call 9; refine (alive_any _).mono ?_; rintro e w1 ⟨rfl, HB1⟩) | (go_at_call 11; refine (num_any _ _).mono ?_; rintro e w' ⟨rfl, rfl⟩) | (go_at_call 10; (with_reducible refine (hE _ (hr.below HB1)).mono ?_); rintro e w2 ⟨v2, rfl, HO2, HB2⟩; obtain ⟨A2, c2, hv2, hr2⟩ := HO2.rd; rw [HNX.out] at hv2; subst hv2; have HC2 := HB1.trans (HB2.mono HB1.size)) | (go_at_call 21; (with_reducible refine (hK _ _ _ hr2).mono ?_); rintro e w3 ⟨rfl, HB3⟩; have HC3 := HC2.trans (HB3.mono HC2.size); have Z3 := Eb.new w3 (xk, xq, xd, xv); have HC4 := HC3.alloc HC3.size (.cells #[.string xk, .int .i64 xq, .int .i64 xd, .string xv] 36); obtain ⟨z0, z1, z2, z3, -, -, -, -⟩ := Z3.read))
      go_loopw [12, 13] (fun fv iv wr => ∃ (k : Nat) (f : Bool), k ≤ n ∧ iv = .int .i64 (k : Int) ∧ fv = .bool f ∧ (f = true ↔ ∃ j, j < k ∧ l.getD j zEnt = (xk, xq, xd, xv)) ∧ Eb wr w3.heap.size (xk, xq, xd, xv) ∧ Below w.heap.size w wr) (fun _ iv _ => n - (intOf iv).toNat)
      case atStart => exact ⟨0, false, Nat.zero_le _, rfl, rfl, ⟨fun h => (by cases h), fun ⟨j, hj, _⟩ => absurd hj (Nat.not_lt_zero _)⟩, Z3, HC4⟩
      case round =>
        obtain ⟨k, f, hk, rfl, rfl, hf, hE3, HB⟩ := hrel
        have HF := hide hf
        clear hf
        obtain ⟨t0, t1, t2, t3, -, -, -, -⟩ := hE3.read
        by_cases hlt : k < n
        · have hlti : (k : Int) < (n : Int) := Int.ofNat_lt.2 hlt
          have hwk := wrap64_succ k (by omega)
          obtain ⟨ad, rfl, x0, x1, x2, x3⟩ := RdE.at4 (hr.below HB) k (by rw [HN.out]; exact hlt)
          obtain ⟨⟨yk, yq, yd, yv⟩, hy⟩ : ∃ y, l.getD k zEnt = y := ⟨_, rfl⟩
          have HY := hide hy
          simp only [hy] at x0 x1 x2 x3
          clear hy
          have Lk : ∀ w', Below wr.heap.size wr w' → (loadVar 9 (ad.add (k * 4))).run Try.prog w' = .ok (.string yk) w' := fun w' hb => run_loadVar_str w' 9 Try.underlying9 _ _ ((hb.cell (World.block_lt_of_cell? _ _ x0)).trans x0)
          have Lq : ∀ w', Below wr.heap.size wr w' → (loadVar 3 ⟨(ad.add (k * 4)).block, (ad.add (k * 4)).off + 1, none⟩).run Try.prog w' = .ok (.int .i64 yq) w' := fun w' hb => run_loadVar_num w' 3 _ Try.underlying3 _ _ ((hb.cell (World.block_lt_of_cell? _ _ x1)).trans x1)
          have Lx : ∀ w', Below wr.heap.size wr w' → (loadVar 3 ⟨w3.heap.size, 1, none⟩).run Try.prog w' = .ok (.int .i64 xq) w' := fun w' hb => run_loadVar_num w' 3 _ Try.underlying3 _ _ ((hb.cell (World.block_lt_of_cell? _ _ t1)).trans t1)
          cases f with
          | true =>
            go_wp2
            refine wp_region_below wr.heap.size wr (Below.refl _ _) (by kernel_rfl) (by kernel_rfl) ?_
            repeat (go_big_quiet_step ((intro hb; rfl)))
            refine wpQuiet_nil ?_
            intro wq HW
            have HF2 := hide (fnd_snoc (fun j => l.getD j zEnt = (xk, xq, xd, xv)) k true true (by simpa using HF.out) (by simp))
            by_cases hyk : yk = key
            · subst hyk
              have hkk : (yk.toList == yk.toList) = true := by simp
              by_cases hq : yq ≤ seq
              · exact absurd (HNEAR.out k hlt (by rw [HY.out]) (by rw [HY.out]; exact hq)).1 (by simp)
              · have hqq : ¬ yq ≤ seq := hq
                have hqd : decide (yq ≤ seq) = false := decide_eq_false hq
                have hql : seq < yq := Int.not_le.1 hq
                clear HNEAR HMEM HF hq
                go_wp2
                refine wp_region_below wr.heap.size wr HW (by kernel_rfl) (by kernel_rfl) ?_
                repeat (go_big_quiet_step ((intro hb; rfl)))
                refine quiet_load rfl 9 _ rfl (ad.add (k * 4)) rfl (.string yk) Lk ?_
                simp only [Act.put, List.setIfInBounds_toArray, List.set_cons_zero, List.set_cons_succ]
                repeat (go_big_quiet_step ((intro hb; rfl)))
                refine quiet_loadW (by rfl) 3 _ rfl ⟨(ad.add (k * 4)).block, (ad.add (k * 4)).off + 1, none⟩ rfl (.int .i64 yq) Lq ?_
                simp only [Act.put, List.setIfInBounds_toArray, List.set_cons_zero, List.set_cons_succ]
                repeat (go_big_quiet_step ((intro hb; rfl)))
                refine wpQuiet_nil ?_
                intro w5 HC5
                have HB5 := HB.trans (HC5.mono HB.size)
                go_wp2
                go_roundw
                case rel => exact ⟨k + 1, true, hlt, by go_num, rfl, by first | exact HF2.out | (have := HF2.out; simpa using this), hE3.below HC5, HB5⟩
                case measure =>
                  first | exact sk_meas n k hlt | (simp [intOf]; exact sk_meas n k hlt)
            · have hkk : (yk.toList == key.toList) = false := by rw [same_bl]; exact decide_eq_false (fun e => hyk (bl_inj e))
              clear HNEAR HMEM HF
              go_wp2
              refine wp_region_below wr.heap.size wr HW (by kernel_rfl) (by kernel_rfl) ?_
              repeat (go_big_quiet_step ((intro hb; rfl)))
              refine quiet_load rfl 9 _ rfl (ad.add (k * 4)) rfl (.string yk) Lk ?_
              simp only [Act.put, List.setIfInBounds_toArray, List.set_cons_zero, List.set_cons_succ]
              repeat (go_big_quiet_step ((intro hb; rfl)))
              refine wpQuiet_nil ?_
              intro w5 HC5
              have HB5 := HB.trans (HC5.mono HB.size)
              go_wp2
              go_roundw
              case rel => exact ⟨k + 1, true, hlt, by go_num, rfl, by first | exact HF2.out | (have := HF2.out; simpa using this), hE3.below HC5, HB5⟩
              case measure =>
                first | exact sk_meas n k hlt | (simp [intOf]; exact sk_meas n k hlt)
          | false =>
            have hEq := fun d W => PB.eqA36 d W yk xk yq xq yd xd yv xv
            have hS0 : wr.drew.cell? (ad.add (k * 4)) = some (.string yk) ∧ wr.drew.cell? ⟨(ad.add (k * 4)).block, (ad.add (k * 4)).off + 1, none⟩ = some (.int .i64 yq) ∧ wr.drew.cell? ⟨(ad.add (k * 4)).block, (ad.add (k * 4)).off + 2, none⟩ = some (.int .i64 yd) ∧ wr.drew.cell? ⟨(ad.add (k * 4)).block, (ad.add (k * 4)).off + 3, none⟩ = some (.string yv) ∧ wr.drew.cell? ⟨w3.heap.size, 0, none⟩ = some (.string xk) ∧ wr.drew.cell? ⟨w3.heap.size, 1, none⟩ = some (.int .i64 xq) ∧ wr.drew.cell? ⟨w3.heap.size, 2, none⟩ = some (.int .i64 xd) ∧ wr.drew.cell? ⟨w3.heap.size, 3, none⟩ = some (.string xv) := ⟨x0, x1, x2, x3, t0, t1, t2, t3⟩
            go_wp2
            go_region_held3 (fun w' => w'.cell? (ad.add (k * 4)) = some (.string yk) ∧ w'.cell? ⟨(ad.add (k * 4)).block, (ad.add (k * 4)).off + 1, none⟩ = some (.int .i64 yq) ∧ w'.cell? ⟨(ad.add (k * 4)).block, (ad.add (k * 4)).off + 2, none⟩ = some (.int .i64 yd) ∧ w'.cell? ⟨(ad.add (k * 4)).block, (ad.add (k * 4)).off + 3, none⟩ = some (.string yv) ∧ w'.cell? ⟨w3.heap.size, 0, none⟩ = some (.string xk) ∧ w'.cell? ⟨w3.heap.size, 1, none⟩ = some (.int .i64 xq) ∧ w'.cell? ⟨w3.heap.size, 2, none⟩ = some (.int .i64 xd) ∧ w'.cell? ⟨w3.heap.size, 3, none⟩ = some (.string xv)) (first | exact hS0 | assumption) (first | (go_at_call 23))
            have HW : Below wr.heap.size wr wr.drew := (Below.refl _ _).drew
            clear hEq hS0
            have HF2 := hide (fnd_snoc (fun j => l.getD j zEnt = (xk, xq, xd, xv)) k false (yk.toList == xk.toList && (yq == xq && (yd == xd && yv.toList == xv.toList))) (by simpa using HF.out) (by rw [HY.out, eqb_iff]; simp))
            by_cases hyk : yk = key
            · subst hyk
              have hkk : (yk.toList == yk.toList) = true := by simp
              by_cases hq : yq ≤ seq
              · exact absurd (HNEAR.out k hlt (by rw [HY.out]) (by rw [HY.out]; exact hq)).1 (by simp)
              · have hqq : ¬ yq ≤ seq := hq
                have hqd : decide (yq ≤ seq) = false := decide_eq_false hq
                have hql : seq < yq := Int.not_le.1 hq
                clear HNEAR HMEM HF hq
                go_wp2
                refine wp_region_below wr.heap.size wr HW (by kernel_rfl) (by kernel_rfl) ?_
                repeat (go_big_quiet_step ((intro hb; rfl)))
                refine quiet_load rfl 9 _ rfl (ad.add (k * 4)) rfl (.string yk) Lk ?_
                simp only [Act.put, List.setIfInBounds_toArray, List.set_cons_zero, List.set_cons_succ]
                repeat (go_big_quiet_step ((intro hb; rfl)))
                refine quiet_loadW (by rfl) 3 _ rfl ⟨(ad.add (k * 4)).block, (ad.add (k * 4)).off + 1, none⟩ rfl (.int .i64 yq) Lq ?_
                simp only [Act.put, List.setIfInBounds_toArray, List.set_cons_zero, List.set_cons_succ]
                repeat (go_big_quiet_step ((intro hb; rfl)))
                refine wpQuiet_nil ?_
                intro w5 HC5
                have HB5 := HB.trans (HC5.mono HB.size)
                go_wp2
                go_roundw
                case rel => exact ⟨k + 1, _, hlt, by go_num, rfl, by first | exact HF2.out | (have := HF2.out; simpa using this), hE3.below HC5, HB5⟩
                case measure =>
                  first | exact sk_meas n k hlt | (simp [intOf]; exact sk_meas n k hlt)
            · have hkk : (yk.toList == key.toList) = false := by rw [same_bl]; exact decide_eq_false (fun e => hyk (bl_inj e))
              clear HNEAR HMEM HF
              go_wp2
              refine wp_region_below wr.heap.size wr HW (by kernel_rfl) (by kernel_rfl) ?_
              repeat (go_big_quiet_step ((intro hb; rfl)))
              refine quiet_load rfl 9 _ rfl (ad.add (k * 4)) rfl (.string yk) Lk ?_
              simp only [Act.put, List.setIfInBounds_toArray, List.set_cons_zero, List.set_cons_succ]
              repeat (go_big_quiet_step ((intro hb; rfl)))
              refine wpQuiet_nil ?_
              intro w5 HC5
              have HB5 := HB.trans (HC5.mono HB.size)
              go_wp2
              go_roundw
              case rel => exact ⟨k + 1, _, hlt, by go_num, rfl, by first | exact HF2.out | (have := HF2.out; simpa using this), hE3.below HC5, HB5⟩
              case measure =>
                first | exact sk_meas n k hlt | (simp [intOf]; exact sk_meas n k hlt)
        · obtain rfl : k = n := Nat.le_antisymm hk (Nat.not_lt.1 hlt)
          have hft : f = false := by
            cases f with
            | false => rfl
            | true => exact absurd (HMEM.out.2 (HF.out.1 rfl)) (by simp)
          subst hft
          go_wp2
          go_ret
          exact ⟨rfl, HB⟩
  · have hxe : blkX l = [] := by rw [blkX, if_neg h1]
    rw [hxe] at hE
    generalize chkE l = z at *
    obtain ⟨n, hn⟩ : ∃ n, l.length = n := ⟨_, rfl⟩
    rw [hn] at hE ⊢
    clear hn hl hkey hseq hxe
    go_enter Try.func8, Try.ntmps8
    go_wp2_with (first | (go_at_call 9; refine (alive_any _).mono ?_; rintro e w1 ⟨rfl, HB1⟩) | (go_at_call 11; refine (num_any _ _).mono ?_; rintro e w' ⟨rfl, rfl⟩) | (go_at_call 10; (with_reducible refine (hE _ (hr.below HB1)).mono ?_); rintro e w2 ⟨v2, rfl, HO2, HB2⟩; obtain ⟨A2, c2, hv2, hr2⟩ := HO2.rd; subst hv2; have HC2 := HB1.trans (HB2.mono HB1.size)))
    go_ret
    exact ⟨rfl, HC2⟩
end Go.Proofs.Ytfclmkbhfpjhjaa
end
