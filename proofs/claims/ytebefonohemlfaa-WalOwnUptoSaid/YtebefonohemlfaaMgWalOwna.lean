/- What the law WalOwn reaches besides, and its walk. -/
import Derived.Test.YtebefonohemlfaaMgA
import Derived.Test.YtebefonohemlfaaMgB
set_option linter.unusedVariables false
set_option linter.unusedSimpArgs false
section
/- Arguments opened: a batch; batches. -/
namespace Go.Proofs.Ytebefonohemlfaa
open Go.ChangeShapes Go.WideShapes Go.ChangeAt Go.RowKit Go.Proofs.YtebefonohemlfaaW.PrintWords
set_option maxRecDepth 100000
set_option linter.unusedVariables false
set_option maxRecDepth 100000 in
theorem open_bat {H : Type} {enc : TypeId × Value → H} {W : World} {base : Nat} {v : Value} {x : DataW H} {p : List MemPlace} (hv : Value.okWide Try.prog W .any base 24 v)
    (h : DataW.Trod enc Try.prog W 0 (fun _ => true) true 24 v x p) : ∃ q A c l, v = .agg #[.int .i64 q, .slice A l.length c] ∧ RdC W A c l ∧ (∀ B, (∀ y ∈ x.weights Try.prog 24, y ≤ B) → (Lit.int .i64 q).wf = true ∧ l.length * 40 ≤ B) ∧ l.length ≤ Rows.uptoBulk x := by
  have o1 := opens_struct Try.underlying35 (d := kChg) (by kernel_rfl) (opensF_cons rfl (by kernel_rfl) (opens_string Try.underlying9) (opensF_cons rfl (by kernel_rfl) (opens_bool Try.underlying4) (opensF_one rfl (by kernel_rfl) (opens_string Try.underlying9))))
  have o2 := opens_slice (t := 22) Try.underlying22 (by kernel_rfl) o1
  have o3 := opens_struct Try.underlying24 (d := kBat) (by kernel_rfl) (opensF_cons rfl (by kernel_rfl) (opens_int Try.underlying3) (opensF_one rfl (by kernel_rfl) o2))
  obtain ⟨⟨q, l⟩, cs, hv, hk, hS, hU⟩ := open_struct_of Try.underlying24 o3 hv h
  obtain ⟨A, c, hcs, hr⟩ := kBat_K hk
  refine ⟨q, A, c, l, ?_, hr, fun B hB => ?_, ?_⟩
  · rw [hv]
    congr 1
    apply Array.ext'
    exact hcs
  · obtain ⟨h1, h2, h3⟩ := hS B hB
    have e : Try.prog.bytesOf 35 = 40 := by kernel_rfl
    rw [e] at h2
    exact ⟨h1, h2⟩
  · have h1 : ∀ m : List Chg, m.length ≤ (m.map fun a : Chg => a.1.size + 1 + (1 + (a.2.2.size + 1)) + 1).sum := by
      intro m
      induction m with
      | nil => simp
      | cons y r ih => simp only [List.length_cons, List.map_cons, List.sum_cons]; omega
    have h2 := h1 l
    simp only at hU
    omega
end Go.Proofs.Ytebefonohemlfaa
end

section
/- The walk of WalOwn. -/
namespace Go.Proofs.Ytebefonohemlfaa
open Go.RowKit Go.Proofs.YtebefonohemlfaaW.PrintWords
set_option linter.unusedVariables false

theorem Bx.far {w w1 : World} {b : Nat} {K : Int} {s : Value} {ty : TypeId} (h : Bx w b K s ty) {base : Nat} {e : TypeId} {size n : Nat} {v : Value} {xs : List Value} (HO : w.ownsRow base e size v n xs) (ht : e ≠ ty) (hg : w.grownBy w1 v.ownBlock) : Bx w1 b K s ty := blk_grown h hg (own_ne HO h ht)
set_option maxRecDepth 100000 in
set_option maxHeartbeats 3200000 in
theorem own_walk (B : Option Addr) (d : Nat) (log : List UInt8) (q : Int) (A : Option Addr) (c : Nat) (l : List Chg) (w : World) (hb : RdB w B d log) (hlog : log.length ≤ 1048576) (hr : RdC w A c l) (hl : l.length ≤ 1048576) :
    Calls Try.prog 4 #[.slice B log.length d, .agg #[.int .i64 q, .slice A l.length c]] w fun e w' => e = .returned (.bool true) ∧ Below w.heap.size w w' := by
  have hCp := fun W (h : RdB W B d log) => CopyBytes_any B d log W h (by omega)
  have hOf := fun W (h : RdC W A c l) => of_any q A c l.length l W rfl h (by omega)
  have hAd := fun B d A c W (h : RdB W B d log) (h' : RdC W A c l) => Add_any B d log q A c l.length log.length l W rfl rfl h h' (by omega) (by omega)
  have hRa := fun W (h : RdB W B d log) (h' : RdC W A c l) => rAdd_any B d log q A c l.length log.length l W rfl rfl h h' (by omega) (by omega)
  have hS := fun A B c d W (h : RdB W A c (addX log q l)) (h' : RdB W B d (addX log q l)) => SameBytes_at A B c d _ _ (addX log q l) (addX log q l) W rfl rfl h h'
  simp only [decide_true] at hS
  have hm := hr.max
  obtain ⟨n, hn⟩ : ∃ n, l.length = n := ⟨_, rfl⟩
  obtain ⟨m, hmm⟩ : ∃ m, log.length = m := ⟨_, rfl⟩
  have HN := hide hn
  have HM := hide hmm
  rw [hn] at hOf hAd hRa hm hl ⊢
  rw [hmm] at hCp hAd hRa hlog ⊢
  generalize addX log q l = X at *
  generalize chkB q l = z at *
  obtain ⟨x, hx⟩ : ∃ x, X.length = x := ⟨_, rfl⟩
  have HX := hide hx
  rw [hx] at hS
  clear hn hmm hx
  have hr0 := hr.below (below_alloc w (.cells #[.int .i64 q, .slice A n c] 24))
  have hb0 := hb.below (below_alloc w (.cells #[.int .i64 q, .slice A n c] 24))
  have X0 := Bx.new w q (.slice A n c) 24
  have B0 := below_alloc w (.cells #[.int .i64 q, .slice A n c] 24)
  obtain ⟨p0, p1, p2, p3⟩ := X0.read
  go_enter Try.func4, Try.ntmps4
  go_wp2_with (first | (go_at_call 9; refine (alive_any _).mono ?_; rintro e w1 ⟨rfl, HB1⟩; have X1 := X0.below HB1; have B1 := B0.trans (HB1.mono B0.size); have hr1 := hr0.below HB1; have hb1 := hb0.below HB1; obtain ⟨s0, s1, s2, s3⟩ := X1.read))
  have hS0 : Below w1.heap.size w1 w1.drew ∧ w1.drew.cell? ⟨w.heap.size, 0, none⟩ = some (.int .i64 q) ∧ w1.drew.cell? ⟨w.heap.size, 1, none⟩ = some (.slice A n c) := ⟨(Below.refl _ _).drew, s0, s1⟩
  have hSk : ∀ W, Below w1.heap.size w1 W → W.cell? ⟨w.heap.size, 0, none⟩ = some (.int .i64 q) ∧ W.cell? ⟨w.heap.size, 1, none⟩ = some (.slice A n c) := fun W h => ⟨(h.cell (World.block_lt_of_cell? w1 _ s0)).trans s0, (h.cell (World.block_lt_of_cell? w1 _ s1)).trans s1⟩
  have hsz1 := B1.size
  have hAl : ∀ W o, (Below w1.heap.size w1 W ∧ W.cell? ⟨w.heap.size, 0, none⟩ = some (.int .i64 q) ∧ W.cell? ⟨w.heap.size, 1, none⟩ = some (.slice A n c)) → (Below w1.heap.size w1 (W.alloc o) ∧ (W.alloc o).cell? ⟨w.heap.size, 0, none⟩ = some (.int .i64 q) ∧ (W.alloc o).cell? ⟨w.heap.size, 1, none⟩ = some (.slice A n c)) := fun W o h => ⟨h.1.alloc h.1.size _, hSk _ (h.1.alloc h.1.size _)⟩
  have hCp' : ∀ W, (Below w1.heap.size w1 W ∧ W.cell? ⟨w.heap.size, 0, none⟩ = some (.int .i64 q) ∧ W.cell? ⟨w.heap.size, 1, none⟩ = some (.slice A n c)) → Calls Try.prog 14 #[.slice B m d] W fun e w' => ∃ v, e = .returned v ∧ OwB w' w1.heap.size v log ∧ Below w1.heap.size w1 w' ∧ Below W.heap.size W w' := fun W hW => (hCp W (hb1.below hW.1)).mono (fun e w' ⟨v, he, HO, HB⟩ => ⟨v, he, HO.lower hW.1.size, hW.1.trans (HB.mono hW.1.size), HB⟩)
  have hOf' : ∀ W, (Below w1.heap.size w1 W ∧ W.cell? ⟨w.heap.size, 0, none⟩ = some (.int .i64 q) ∧ W.cell? ⟨w.heap.size, 1, none⟩ = some (.slice A n c)) → Calls Try.prog 11 #[.agg #[.int .i64 q, .slice A n c]] W fun e w' => ∃ A' c', e = .returned (.agg #[.int .i64 q, .slice A' n c']) ∧ OwC w' w1.heap.size (.slice A' n c') l ∧ Below w1.heap.size w1 w' ∧ Below W.heap.size W w' := fun W hW => (hOf W (hr1.below hW.1)).mono (fun e w' ⟨A', c', he, HO, HB⟩ => ⟨A', c', he, HO.lower hW.1.size, hW.1.trans (HB.mono hW.1.size), HB⟩)
  have hSw : Below w1.heap.size w1 w1 ∧ w1.cell? ⟨w.heap.size, 0, none⟩ = some (.int .i64 q) ∧ w1.cell? ⟨w.heap.size, 1, none⟩ = some (.slice A n c) := ⟨Below.refl _ _, s0, s1⟩
  have hDr : ∀ W, (Below w1.heap.size w1 W ∧ W.cell? ⟨w.heap.size, 0, none⟩ = some (.int .i64 q) ∧ W.cell? ⟨w.heap.size, 1, none⟩ = some (.slice A n c)) → (Below w1.heap.size w1 W.drew ∧ W.drew.cell? ⟨w.heap.size, 0, none⟩ = some (.int .i64 q) ∧ W.drew.cell? ⟨w.heap.size, 1, none⟩ = some (.slice A n c)) := fun W h => ⟨h.1.drew, h.2.1, h.2.2⟩
  have hzb1 : (w1.alloc (.cells #[.int .i64 0, .slice none 0 0] 30)).drew.heap[w1.heap.size]? = some (.cells #[.int .i64 0, .slice none 0 0] 30 (0, 0)) := heap_alloc_new w1 _
  have hlt1 : w.heap.size < w1.heap.size := X1.lt
  have hne1 : ¬ w.heap.size = w1.heap.size := by omega
  go_cut [5, 6] (fun v5 v6 wc => ∃ (g6 : Nat) (A3 : Option Addr) (c3 : Nat), v6 = .pointer (some ⟨g6, 0, none⟩) ∧ OwB wc w1.heap.size v5 log ∧ OwC wc w1.heap.size (.slice A3 n c3) l ∧ Bx wc g6 q (.slice A3 n c3) 30 ∧ Below w1.heap.size w1 wc)
  case first =>
    go_region_with (first | (go_at_call 14; (with_reducible refine (hCp' _ ?_).mono ?_); (first | exact hS0 | exact hDr _ (hAl _ _ hSw)); rintro e w2 ⟨v2, rfl, HO2, HBt2, HB2⟩; obtain ⟨s20, s21⟩ := hSk _ HBt2; have hz2 := HBt2.size; have hne2 : ¬ w.heap.size = w2.heap.size := (by omega); (try (have zb2 := blk_below hzb1 HB2))) | (go_at_call 11; (with_reducible refine (hOf' _ ?_).mono ?_); (first | exact ⟨HBt2, s20, s21⟩ | exact hAl _ _ ⟨HBt2, s20, s21⟩); rintro e w3 ⟨A3, c3, rfl, HO3, HBt3, HB3⟩; (first | (have zb3 := blk_below zb2 HB3; have HB23 := HB3) | (have zb3 := blk_below (heap_alloc_new w2 (.cells #[.int .i64 0, .slice none 0 0] 30)) HB3; have HB23 := (below_alloc w2 (.cells #[.int .i64 0, .slice none 0 0] 30)).trans (HB3.mono (by simp))) | (have HB23 := HB3)); (try (have f0 := blk_cell zb3 0; have f1 := blk_cell zb3 1; have f2 := blk_frozen zb3 0; have f3 := blk_frozen zb3 1))))
    all_goals go_wp2
    all_goals go_meet
    all_goals (
      have hz3 := HBt3.size
      replace HO2 := HO2.below HB23
      first
      | exact ⟨w3.heap.size, A3, c3, rfl, HO2.below (below_alloc _ _), HO3.below (below_alloc _ _), Bx.new w3 q (.slice A3 n c3) 30, HBt3.alloc HBt3.size _⟩
      | exact ⟨w2.heap.size, A3, c3, rfl, own_setCell (own_setCell HO2 (p := ⟨w2.heap.size, 0, none⟩) (own_ne HO2 zb3 (by decide)) _) (p := ⟨w2.heap.size, 1, none⟩) (own_ne HO2 zb3 (by decide)) _, (HO3.setCell zb3 (by decide) 0 _).setCell (blk_set zb3 0 _) (by decide) 1 _, two_cells zb3, (HBt3.setCell (p := ⟨w2.heap.size, 0, none⟩) hz2 _).setCell (p := ⟨w2.heap.size, 1, none⟩) hz2 _⟩
      | exact ⟨w1.heap.size, A3, c3, rfl, own_setCell (own_setCell HO2 (p := ⟨w1.heap.size, 0, none⟩) (own_ne HO2 zb3 (by decide)) _) (p := ⟨w1.heap.size, 1, none⟩) (own_ne HO2 zb3 (by decide)) _, (HO3.setCell zb3 (by decide) 0 _).setCell (blk_set zb3 0 _) (by decide) 1 _, two_cells zb3, (HBt3.setCell (p := ⟨w1.heap.size, 0, none⟩) (Nat.le_refl _) _).setCell (p := ⟨w1.heap.size, 1, none⟩) (Nat.le_refl _) _⟩)
  case rest =>
    obtain ⟨g6, A3, c3, rfl, HO5, HO6, X6, B5⟩ := hcut
    clear hCp' hOf' hAl hSw hzb1 hDr hS0 X0 p0 p1 p2 p3 hr0 hb0
    obtain ⟨A5, c5, hv5, hr5⟩ := HO5.rd
    rw [HM.out] at hv5
    subst hv5
    obtain ⟨x60, x61, x62, x63⟩ := X6.read
    have hr6 := HO6.rdl
    have hlt59 := HO5.lt
    obtain ⟨s50, s51⟩ := hSk _ B5
    have hzw := B5.size
    have X15 := X1.below B5
    go_wp2_with (first | (go_at_call 15; (with_reducible refine (hAd _ _ _ _ _ hr5 hr6).mono ?_); rintro e w7 ⟨v7, rfl, HO7, HB7⟩; replace HO5 := HO5.below HB7; replace HO6 := HO6.below HB7; replace X6 := X6.below HB7; have B7 := B5.trans (HB7.mono hzw); have hz7 := HB7.size; obtain ⟨s70, s71⟩ := hSk _ B7; have hlt5 := X15.lt; replace X15 := X15.below HB7) | (go_at_call 16; (with_reducible refine (hRa _ (hb1.below B7) (hr1.below B7)).mono ?_); rintro e w8 ⟨v8, rfl, HO8, HB8⟩; replace HO5 := HO5.below HB8; replace HO6 := HO6.below HB8; replace X6 := X6.below HB8; replace HO7 := HO7.below HB8; have B8 := B7.trans (HB8.mono B7.size); have hz8 := HB8.size; replace X15 := X15.below HB8) | (go_at_call 17; (with_reducible refine (Spoil_any _ _ log w8 HO5).mono ?_); rintro e w9 ⟨rfl, HO9, HG9⟩; have HO79 := HO7.other HO5 (fun k hk => hlt59 k hk) HG9; have HO89 := HO8.other HO5 (fun k hk => Nat.lt_of_lt_of_le (hlt59 k hk) hz7) HG9; have HO69 := Ow.over HO6 HO5.ow (by decide) HG9; have X69 := X6.far HO5 (by decide) HG9; have B9 := B1.trans ((HO5.grown B8 (by omega) HG9).mono hsz1)))
    go_loopw [11] (fun i wr => ∃ k : Nat, k ≤ n ∧ i = .int .i64 (k : Int) ∧ (∃ l' : List Chg, l'.length = n ∧ OwC wr w1.heap.size (.slice A3 n c3) l') ∧ OwB wr wc.heap.size v7 X ∧ OwB wr w7.heap.size v8 X ∧ Bx wr g6 q (.slice A3 n c3) 30 ∧ Below w.heap.size w wr ∧ w1.heap.size ≤ wr.heap.size) (fun i _ => n - (intOf i).toNat)
    case atStart => exact ⟨0, by omega, rfl, ⟨l, HN.out, HO69⟩, HO79, HO89, X69, B9, Nat.le_trans hzw (Nat.le_trans hz7 (Nat.le_trans hz8 HG9.size))⟩
    case round =>
      obtain ⟨k, hk, rfl, ⟨l', hl', HOl⟩, HOp, HOq, Xr, Br, hzr⟩ := hrel
      obtain ⟨y0, y1, y2, y3⟩ := Xr.read
      by_cases hlt : k < n
      · have hlti : (k : Int) < (n : Int) := by omega
        have HL' := hide hl'
        obtain ⟨g, rfl, hgb, hgl⟩ := HOl.head (by omega)
        have hone : ∀ u ∈ [Value.string ByteArray.empty, .bool false, .string ByteArray.empty], u.oneCell' = true := by decide
        have HONE := hide hone
        clear hl' hone
        go_wp2_with (first | (refine store_ow (P := Try.prog) kChg zChg (w0 := wr) w1.heap.size rfl rfl 35 (.tmp 43) (.tmp 42) rfl 35 (g := g) (n := n) (cap := c3) k l' zChg (.agg #[.string ByteArray.empty, .bool false, .string ByteArray.empty]) [.string ByteArray.empty, .bool false, .string ByteArray.empty] (by rfl) (by rfl) rfl rfl HONE.out rfl (kChg_M _ _ _ zChg) HOl hlt (Below.refl _ _) ?_; intro w10 HOl2 HB10 HG10))
        have HGo : wr.grownBy w10 (Value.slice (some ⟨g, 0, none⟩) n c3).ownBlock := HG10
        have HOp2 := (Ow.over HOp.ow HOl (by decide) HGo).owB
        have HOq2 := (Ow.over HOq.ow HOl (by decide) HGo).owB
        obtain ⟨inner, hown⟩ := Kd.R_own HOl
        have Xr2 := Xr.far hown (by decide) HGo
        have Br2 := Br.trans (HB10.mono hsz1)
        have hz10 := HB10.size
        clear hown
        go_roundw
        case rel => exact ⟨k + 1, by omega, by go_num, ⟨_, by rw [List.length_set]; exact HL'.out, HOl2⟩, HOp2, HOq2, Xr2, Br2, by omega⟩
        case measure => simp [intOf]; omega
      · obtain rfl : k = n := by omega
        obtain ⟨A7, c7, hv7, hr7⟩ := HOp.rd
        obtain ⟨A8, c8, hv8, hr8⟩ := HOq.rd
        rw [HX.out] at hv7 hv8
        subst hv7
        subst hv8
        clear hl'
        go_wp2_with (first | (go_at_call 12; refine (num_any _ _).mono ?_; rintro e w' ⟨rfl, rfl⟩) | (go_at_call 18; (with_reducible refine (hS _ _ _ _ _ hr7 hr8).mono ?_); rintro e w' ⟨rfl, rfl⟩))
        go_ret
        exact ⟨by simp, Br⟩
end Go.Proofs.Ytebefonohemlfaa
end
