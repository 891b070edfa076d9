/- What the law TableOwn reaches besides, and its walk. -/
import Derived.Test.YtefcepjffeiaoaaMgA
import Derived.Test.YtefcepjffeiaoaaMgC
import Derived.Test.YtefcepjffeiaoaaMgB
set_option linter.unusedVariables false
set_option linter.unusedSimpArgs false
section
/- Arguments opened: versions. -/
namespace Go.Proofs.Ytefcepjffeiaoaa
open Go.ChangeShapes Go.WideShapes Go.ChangeAt Go.RowKit Go.Proofs.YtefcepjffeiaoaaW.PrintWords
set_option maxRecDepth 100000
set_option linter.unusedVariables false
instance : Inhabited Ent := ⟨zEnt⟩
theorem open_ents {H : Type} {enc : TypeId × Value → H} {W : World} {base : Nat} {v : Value} {x : DataW H} {p : List MemPlace} (hv : Value.okWide Try.prog W .any base 22 v)
    (h : DataW.Trod enc Try.prog W 0 (fun _ => true) true 22 v x p) : ∃ A c l, v = .slice A l.length c ∧ RdE W A c l ∧ (∀ B, (∀ y ∈ x.weights Try.prog 22, y ≤ B) → l.length * 48 ≤ B) := by
  have o1 := opens_struct Try.underlying43 (d := kEnt) (by kernel_rfl) (opensF_cons rfl (by kernel_rfl) (opens_string Try.underlying9) (opensF_cons rfl (by kernel_rfl) (opens_int Try.underlying3) (opensF_cons rfl (by kernel_rfl) (opens_int Try.underlying3) (opensF_one rfl (by kernel_rfl) (opens_string Try.underlying9)))))
  have o2 := opens_slice (t := 22) Try.underlying22 (by kernel_rfl) o1
  obtain ⟨A, c, l, hv, hl, hC, hS, hU⟩ := open_slice_of Try.underlying22 o2 hv h
  refine ⟨A, c, l, hv, ⟨hl, hC⟩, fun B hB => ?_⟩
  have h1 := (hS B hB).1
  have e : Try.prog.bytesOf 43 = 48 := by kernel_rfl
  rw [e] at h1
  exact h1
end Go.Proofs.Ytefcepjffeiaoaa
end

section
/- Table: the reference's keys and four octets, out of the printed contracts. -/
namespace Go.Proofs.Ytefcepjffeiaoaa
open Go.RowKit Go.Proofs.YtefcepjffeiaoaaW.PrintWords
set_option linter.unusedVariables false

theorem wrap64_pred (i : Nat) (h0 : 0 < i) (h : i < 9223372036854775807) : wrap64 ((i : Int) - 1) = ((i - 1 : Nat) : Int) := by
  unfold wrap64
  omega
theorem rKeys_l0 (l : List Ent) (hl : l.length ≤ 1000000) : ∀ d i, l.length - i = d → i ≤ l.length → Ev (fun k => PB.ticklerref10_Keys.l0 k (l.map mkE) (keysE l i) (i : Int)) (keysE l l.length) := by
  intro d
  induction d with
  | zero =>
    intro i hd hi
    obtain rfl : i = l.length := by omega
    refine Ev.now' fun k => ?_
    rw [PB.ticklerref10_Keys.l0, if_neg (by rw [List.length_map]; omega)]
  | succ d ih =>
    intro i hd hi
    have hlt : i < l.length := by omega
    have h1 := ih (i + 1) (by omega) (by omega)
    have hle := keysE_le l i
    refine Ev.step (fun k => ?_) h1
    rw [PB.ticklerref10_Keys.l0, if_pos (by rw [List.length_map]; omega), wrap64_succ i (by omega)]
    by_cases h0 : i = 0
    · subst h0
      rw [if_pos (by rfl), if_pos (by omega), if_pos (by omega), rdE_map l 0 hlt]
      rfl
    · rw [if_neg (by omega), if_pos (by omega), wrap64_pred i (by omega) (by omega), if_pos (by omega), if_pos (by rw [List.length_map]; omega), rdE_map l i hlt, rdE_map l (i - 1) (by omega)]
      by_cases h2 : keyAt l i = keyAt l (i - 1)
      · have e : keysE l (i + 1) = keysE l i := by rw [keysE, if_neg (by rintro (h | h); exact h0 h; exact h h2)]
        rw [e, if_pos (show (mkE (l.getD i zEnt)).f0.toList = (mkE (l.getD (i - 1) zEnt)).f0.toList by show (keyAt l i).toList = (keyAt l (i - 1)).toList; rw [h2])]
      · have e : keysE l (i + 1) = keysE l i ++ [keyAt l i] := by rw [keysE, if_pos (.inr h2)]
        rw [e, if_neg (show ¬ (mkE (l.getD i zEnt)).f0.toList = (mkE (l.getD (i - 1) zEnt)).f0.toList from fun h => h2 (toList_inj h)), if_pos (by omega)]
        rfl
theorem rKeys_any (A : Option Addr) (c n : Nat) (l : List Ent) (w : World) (hn : l.length = n) (hr : RdE w A c l) (hl : n ≤ 1000000) :
    Calls Try.prog 42 #[.slice A n c] w fun e w' => ∃ v, e = .returned v ∧ Bl.OwS w' w.heap.size v (keysE l n) ∧ Below w.heap.size w w' := by
  subst hn
  obtain ⟨k, hk⟩ := (rKeys_l0 l hl _ 0 rfl (Nat.zero_le _)).rounds
  have h := PB.ticklerref10_Keys.calls k A c (l.map mkE) _ w hr.mk.2 hr.mk.1 hk
  rw [List.length_map] at h
  refine h.mono ?_
  rintro e w' ⟨v, rfl, HR, HB⟩
  exact ⟨v, rfl, Kd.own_of_R HR, HB⟩
theorem rfour_any (n : Nat) (w : World) : Calls Try.prog 44 #[.int .i64 (n : Int)] w fun e w' => ∃ v, e = .returned v ∧ OwB w' w.heap.size v (fourN n) ∧ Below w.heap.size w w' := by
  refine (PB.ticklerref10_four.calls (n : Int) _ w rfl).mono ?_
  rintro e w' ⟨v, rfl, HR, HB⟩
  refine ⟨v, rfl, ?_, HB⟩
  have h := Kd.own_of_R HR
  have e : encs (fun x : Int => Value.int .u8 x) [(n : Int) / 16777216 % 256, (n : Int) / 65536 % 256, (n : Int) / 256 % 256, (n : Int) % 256] = encs eu8 (fourN n) := by
    simp only [encs, fourN, List.map_cons, List.map_nil, eu8, UInt8.toNat_ofNat']
    congr 2
  rw [show OwB w' w.heap.size v (fourN n) = w'.ownsRow w.heap.size 5 1 v (fourN n).length (encs eu8 (fourN n)) from rfl, ← e]
  exact h
end Go.Proofs.Ytefcepjffeiaoaa
end

section
/- Table: the reference's Build, walked. -/
namespace Go.Proofs.Ytefcepjffeiaoaa
open Go.RowKit Go.Proofs.YtefcepjffeiaoaaW.PrintWords
set_option linter.unusedVariables false

theorem ref_facts (n k : Nat) (hk : 16 * k < n) (hn : n ≤ 1000000) : ∃ i i16 j : Nat, 16 * k = i ∧ (i : Int) + 16 = (i16 : Int) ∧ min i16 n = j ∧ j - i = endN n k ∧ i ≤ j ∧ j ≤ n ∧ (i : Int) < (n : Int) ∧ i < n ∧ i16 = 16 * (k + 1) := by
  refine ⟨_, 16 * k + 16, _, rfl, by omega, rfl, ?_, ?_, ?_, by omega, hk, by omega⟩
  · unfold endN; omega
  · omega
  · omega
theorem ref_min (a b j : Nat) (h : min a b = j) : ∀ tys ty W, (Builtin.min_ tys ty #[.int .i64 (a : Int), .int .i64 (b : Int)]).run Try.prog W = .ok (.int .i64 (j : Int)) W := by
  intro tys ty W
  have h2 := min2_nat .i64 a b
  have e0 : Builtin.min_ tys ty #[.int .i64 (a : Int), .int .i64 (b : Int)] = Builtin.min2 (.int .i64 (a : Int)) (.int .i64 (b : Int)) := by simp [Builtin.min_]
  rw [e0, h2]
  show (pure (Value.int .i64 ((min a b : Nat) : Int)) : Sem Value).run Try.prog W = _
  rw [h]
  rfl
/-- a part that is read, as the reference cuts it -/
theorem part_rd2 (A : Option Addr) (c n i j : Nat) (l : List Ent) (w : World) (hn : l.length = n) (hr : RdE w A c l) (k : Nat) (hi : 16 * k = i) (hj : j - i = endN n k) (hij : i ≤ j) (hjn : j ≤ n) (hlt : i < n) : (part l k).length = endN n k ∧ RdE w (cutK 4 A c i) (c - i) (part l k) := by
  subst hi
  obtain ⟨h1, h2⟩ := part_rd A c n l w hn hr k hlt
  have h3 := hr.mid (16 * k) j hij (by omega)
  have h4 : (l.take j).drop (16 * k) = part l k := by
    rw [part]
    have e : j = 16 * k + endN n k := by omega
    have : l.take j = l.take (16 * k + 16) := by
      rw [e]
      rcases Nat.lt_or_ge (16 * k + 16) n with h | h
      · rw [show endN n k = 16 by unfold endN; omega]
      · rw [List.take_of_length_le (by unfold endN; omega), List.take_of_length_le (by omega)]
    rw [this]
  rw [h4] at h3
  exact ⟨h1, h3⟩
theorem rfilt_any (A : Option Addr) (c kn : Nat) (l : List Ent) (W : World) (hT : tabE l = 0) (hk : (keysE l l.length).length = kn) (h : Bl.RdS W A c (keysE l l.length)) :
    Calls Try.prog 41 #[.slice A kn c, .int .i64 10] W fun e' w' => ∃ A' c', e' = .returned (.tuple #[.agg #[.int .i64 (filK l), .slice A' (filX l).length c'], .int .i64 0]) ∧ OwB w' W.heap.size (.slice A' (filX l).length c') (filX l) ∧ Below W.heap.size W w' := by
  obtain ⟨t1, t2, t3⟩ := tabE_ok l hT
  obtain ⟨f1, f2, f3, f4, f5⟩ := fil_ok l hT
  have fE : Bl.makeE 10 (keysE l l.length).length = 0 := by
    have h0 := f1.2.2
    rw [Bl.makeE, if_neg (by decide), if_neg (by omega)]
  have hM := Bl.rMake_any A c (keysE l l.length) 10 (fun s hs => Nat.le_trans (keys_small l t3 _ (Nat.le_refl _) s hs) (by decide)) W h
  rw [fE] at hM
  unfold Bl.fil at hM
  rw [← hk]
  exact hM
set_option maxRecDepth 100000 in
set_option maxHeartbeats 6400000 in
theorem rBuild_ok (A : Option Addr) (c n : Nat) (l : List Ent) (w : World) (hn : l.length = n) (hr : RdE w A c l) (hT : tabE l = 0) :
    Calls Try.prog 12 #[.slice A n c] w fun e w' => ∃ v, e = .returned (.tuple #[v, .int .i64 0]) ∧ OwB w' w.heap.size v (tabB l) ∧ Below w.heap.size w w' := by
  obtain ⟨t1, t2, t3⟩ := tabE_ok l hT
  have HN := hide hn
  have hOr := rOrdered_any A c n l w hn hr (by omega)
  rw [t3] at hOr
  rw [hn] at t1 t2
  have hn6 : n ≤ 1000000 := by omega
  have hnp : nparts n = nparts l.length := by rw [hn]
  have i1 : ¬ (n : Int) < 1 := by omega
  have i2 : ¬ 4096 < (n : Int) := by omega
  have hle := hr.le
  have hnc : n ≤ c := by rw [← hn]; exact hle
  clear hn hle
  go_enter Try.func12, Try.ntmps12
  go_wp2_with (first | (go_at_call 37; (with_reducible refine hOr.mono ?_); rintro e w1 ⟨rfl, HB1⟩))
  clear hOr i1 i2
  go_loopw [5, 6, 7] (fun bv xv iv wr => ∃ k : Nat, k ≤ nparts n ∧ iv = .int .i64 ((16 * k : Nat) : Int) ∧ OwB wr w.heap.size bv (blocksB l k) ∧ OwB wr w.heap.size xv (indexB l k) ∧ Dis bv xv ∧ Below w.heap.size w wr) (fun bv xv iv _ => n + 16 - (intOf iv).toNat)
  case atStart => exact ⟨0, Nat.zero_le _, rfl, OwB.zero _ _, OwB.zero _ _, Dis.nil _, HB1⟩
  case round =>
    obtain ⟨k, hk, rfl, O5, O6, D56, HB⟩ := hrel
    by_cases hlt : 16 * k < n
    · have hkN : k < nparts l.length := by rw [← hnp]; unfold nparts; omega
      have hkn1 : k + 1 ≤ nparts n := by rw [hnp]; exact hkN
      obtain ⟨i, i16, j, f1, f2, f3, f4, f5, f6, f7, f8, f9⟩ := ref_facts n k hlt hn6
      have hmn := ref_min i16 n j f3
      have hsl := fun W => sliceK_lohi 22 43 Try.underlying22 (i := _) rfl 4 rfl A n c i j f5 (Nat.le_trans f6 hnc) W
      rw [f4] at hsl
      obtain ⟨p1, p2⟩ := part_rd2 A c n i j l wr HN.out (hr.below HB) k f1 f4 f5 f6 f8
      obtain ⟨c1, -, -⟩ := part_chk l hT k hkN
      obtain ⟨m1, m2, m3, m4⟩ := blocks_fit l hT k hkN
      have hEn := rEncode_any _ (c - i) (endN n k) (part l k) wr p1 p2 (Nat.le_trans (Nat.min_le_left _ _) (by decide))
      rw [c1] at hEn
      have H5 := hide (show blocksB l (k + 1) = blocksB l k ++ blkX (part l k) from rfl)
      have H6 : Hid (indexB l (k + 1) = indexB l k ++ put (blkX (part l k)).length ++ put (keyAt l (16 * k)).size ++ bl (keyAt l (16 * k))) := hide (by rw [indexB, rowB]; simp only [List.append_assoc])
      obtain ⟨ad, rfl, x0w, -, -, -⟩ := hr.at4 i (by rw [HN.out]; exact f8)
      have x0l := World.block_lt_of_cell? _ _ x0w
      have hkw : (l.getD i zEnt).1 = keyAt l (16 * k) := by rw [f1]; rfl
      rw [hkw] at x0w
      obtain ⟨X8, hX8⟩ : ∃ X8, blkX (part l k) = X8 := ⟨_, rfl⟩
      obtain ⟨ky, hky⟩ : ∃ ky, keyAt l (16 * k) = ky := ⟨_, rfl⟩
      rw [hX8] at hEn m1 m2 m3 H5 H6
      rw [hky] at m2 m4 H6 x0w
      obtain ⟨n8, hn8⟩ : ∃ n8, X8.length = n8 := ⟨_, rfl⟩
      rw [hn8] at m1 m2 m3 H6
      have hP8 := fun W => rPut_any n8 (by omega) W
      have hPk := fun W => rPut_any ky.size (by omega) W
      obtain ⟨z1, z2, z3, z4⟩ := u64_facts n8 ky.size (by omega) (by omega)
      obtain ⟨L8, hL8⟩ : ∃ L8, (put n8).length = L8 := ⟨_, rfl⟩
      obtain ⟨Lk, hLk⟩ : ∃ Lk, (put ky.size).length = Lk := ⟨_, rfl⟩
      rw [hL8, hLk, bl_length] at m2
      have q1 : (blocksB l k).length + n8 ≤ 140737488355328 := m1
      have q2 : (indexB l k).length + L8 ≤ 140737488355328 := by omega
      have q3 : (indexB l k ++ put n8).length + Lk ≤ 140737488355328 := by rw [List.length_append, hL8]; omega
      have q4 : (indexB l k ++ put n8 ++ put ky.size).length + ky.size ≤ 140737488355328 := by rw [List.length_append, List.length_append, hL8, hLk]; omega
      have G1 := hide q1
      have G2 := hide q2
      have G3 := hide q3
      have G4 := hide q4
      have E8 := hide hn8
      have EL8 := hide hL8
      have ELk := hide hLk
      have F9 := hide f9
      have F1 := hide f1
      have F8 := hide f8
      rw [f1]
      clear q1 q2 q3 q4 m1 m2 m3 m4 hn8 hL8 hLk c1 hX8 hky hkw p1 p2 f1 f3 f4 f5 f6 f8 f9 hlt hkN hk
      go_wp2_with (first | (go_at_call 38; (with_reducible refine hEn.mono ?_); rintro e w2 ⟨v8, rfl, O8, HB2⟩; obtain ⟨A8, c8, hv8, r8⟩ := O8.rd; rw [E8.out] at hv8; subst hv8; have C2 := HB.trans (HB2.mono HB.size); have O52 := O5.below HB2; have O62 := O6.below HB2; obtain ⟨v53, w3, hap3, O53, hg3, hat3⟩ := row_run (W := w2) w.heap.size 23 _ (blocksB l k) X8 A8 n8 c8 E8.out O52 r8 C2.size G1.out; have C3 := C2.grown hg3 C2.size (fun j e => own_base O52 j e); have O63 := O62.apart D56 hg3; have D3 := D56.step hat3 O62) | (go_at_call 39; (with_reducible refine (hP8 _).mono ?_); rintro e w4 ⟨v4, rfl, O4, HB4⟩; obtain ⟨A4, c4, hv4, r4⟩ := O4.rd; rw [EL8.out] at hv4; subst hv4; have C4 := C3.trans (HB4.mono C3.size); have O54 := O53.below HB4; have O64 := O63.below HB4; obtain ⟨v65, w5, hap5, O65, hg5, hat5⟩ := row_run (W := w4) w.heap.size 23 _ (indexB l k) (put n8) A4 L8 c4 EL8.out O64 r4 C4.size G2.out; have C5 := C4.grown hg5 C4.size (fun j e => own_base O64 j e); have O55 := O54.apart D3.symm hg5; have D5 := D3.symm.step hat5 O54; have x5 := (C5.cell x0l).trans x0w) | (go_at_call 39; (with_reducible refine (hPk _).mono ?_); rintro e w6 ⟨v6, rfl, O6_, HB6⟩; obtain ⟨A6, c6, hv6, r6⟩ := O6_.rd; rw [ELk.out] at hv6; subst hv6; have C6 := C5.trans (HB6.mono C5.size); have O56 := O55.below HB6; have O66 := O65.below HB6; obtain ⟨v67, w7, hap7, O67, hg7, hat7⟩ := row_run (W := w6) w.heap.size 23 _ (indexB l k ++ put n8) (put ky.size) A6 Lk c6 ELk.out O66 r6 C6.size G3.out; have C7 := C6.grown hg7 C6.size (fun j e => own_base O66 j e); have O57 := O56.apart D5 hg7; have D7 := D5.step hat7 O56; have x7 := (C7.cell x0l).trans x0w; obtain ⟨v68, w8, hap8, O68, C8, hg8, hat8⟩ := str_run (w0 := w) (W := w7) w.heap.size 23 _ (indexB l k ++ put n8 ++ put ky.size) ky O67 C7 C7.size G4.out; have O58 := O57.apart D7 hg8; have D8 := D7.step hat8 O57) | (at_builtin; refine app_step rfl (.tmp 50) (.tmp 51) 23 23 rfl rfl rfl hap3 ?_) | (at_builtin; refine app_step rfl (.tmp 53) (.tmp 57) 23 23 rfl rfl rfl hap5 ?_) | (at_builtin; refine app_step rfl (.tmp 59) (.tmp 67) 23 23 rfl rfl rfl hap7 ?_) | (at_builtin; refine app_step rfl (.tmp 69) (.tmp 74) 23 9 rfl rfl rfl hap8 ?_))
      rw [← H6.out] at O68
      rw [← H5.out] at O58
      go_roundw
      case rel => exact ⟨k + 1, hkn1, by rw [← F9.out], O58, O68, D8.symm, C8⟩
      case measure =>
        have h1 := F9.out
        have h2 := F1.out
        have h3 := F8.out
        simp only [intOf, Int.toNat_natCast]
        omega
    · obtain rfl : k = nparts n := by unfold nparts at *; omega
      have hlt2 : ¬ ((16 * nparts n : Nat) : Int) < (n : Int) := by omega
      have hT5 : blocksB l (nparts n) = bodyT l := by rw [hnp]; rfl
      have hT6 : indexB l (nparts n) = indexB l (nparts l.length) := by rw [hnp]
      rw [hT5] at O5
      rw [hT6] at O6
      obtain ⟨A5, c5, hv5, r5⟩ := O5.rd
      obtain ⟨A6, c6, hv6, r6⟩ := O6.rd
      obtain ⟨n5, hn5⟩ : ∃ n5, (bodyT l).length = n5 := ⟨_, rfl⟩
      obtain ⟨IX, hIX⟩ : ∃ IX, indexB l (nparts l.length) = IX := ⟨_, rfl⟩
      rw [hIX] at O6 r6 hv6
      obtain ⟨n6, hn6x⟩ : ∃ n6, IX.length = n6 := ⟨_, rfl⟩
      rw [hn5] at hv5
      rw [hn6x] at hv6
      subst hv5
      subst hv6
      have o1 := outT_le l hT
      have tb := (tabB_le l hT).2
      have ip := index_put l hT
      have fp := (fil_put l hT).1
      obtain ⟨f1, f2, f3, f4, f5⟩ := fil_ok l hT
      have hF2 := fun W (h : RdB W A6 c6 IX) => Fr.rFPut_any 2 A6 c6 IX W h
      rw [hn6x] at hF2
      rw [hIX, hn6x] at ip
      rw [ip] at hF2
      have hO : outT l = bodyT l ++ putFX 2 IX := by rw [outT, hIX]
      obtain ⟨nF, hnF⟩ : ∃ nF, (putFX 2 IX).length = nF := ⟨_, rfl⟩
      obtain ⟨n9, hn9⟩ : ∃ n9, (outT l).length = n9 := ⟨_, rfl⟩
      have hn9s : n9 = n5 + nF := by rw [← hn9, hO, List.length_append, hn5, hnF]
      obtain ⟨kn, hkn⟩ : ∃ kn, (keysE l l.length).length = kn := ⟨_, rfl⟩
      have hKy := fun W (r : RdE W A c l) => rKeys_any A c n l W HN.out r hn6
      have hMk := fun A7 c7 W (r : Bl.RdS W A7 c7 (keysE l l.length)) => rfilt_any A7 c7 kn l W hT hkn r
      rw [HN.out] at hMk hkn
      have fE2 : Bl.encE (filK l) (filX l).length = 0 := by rw [Bl.encE, if_pos f5]
      have hEc := fun A' c' X (h : RdB X A' c' (filX l)) => Bl.rEncode_any (filK l) A' c' (filX l) X h
      rw [fE2] at hEc
      unfold Bl.fil at hEc
      obtain ⟨K, hK0⟩ : ∃ K, filK l = K := ⟨_, rfl⟩
      obtain ⟨FX, hFX⟩ : ∃ FX, filX l = FX := ⟨_, rfl⟩
      rw [hK0, hFX] at hMk hEc fp
      obtain ⟨fn, hfn⟩ : ∃ fn, FX.length = fn := ⟨_, rfl⟩
      rw [hfn] at hMk hEc
      obtain ⟨EX, hEX⟩ : ∃ EX, Bl.encF K FX = EX := ⟨_, rfl⟩
      rw [hEX] at hEc fp
      obtain ⟨n7, hn7⟩ : ∃ n7, EX.length = n7 := ⟨_, rfl⟩
      rw [hn7] at fp
      have hF3 := fun A' c' W (h : RdB W A' c' EX) => Fr.rFPut_any 3 A' c' EX W h
      rw [hn7, fp] at hF3
      unfold fil at hF2 hF3
      obtain ⟨nG, hnG⟩ : ∃ nG, (putFX 3 EX).length = nG := ⟨_, rfl⟩
      obtain ⟨nP, hnP⟩ : ∃ nP, (outT l ++ putFX 3 EX).length = nP := ⟨_, rfl⟩
      have hfin : outT l ++ putFX 3 EX ++ guarded (markT ++ fourN n5 ++ fourN n9 ++ fourN n) = tabB l := by rw [tabB, hK0, hFX, hEX, endT, hn5, hn9, HN.out]
      have g20 : (guarded (markT ++ fourN n5 ++ fourN n9 ++ fourN n)).length = 20 := rfl
      have htot : nP + 20 ≤ 140737488355328 := by rw [← hfin, List.length_append, g20, hnP] at tb; omega
      have hq1 : (bodyT l).length + nF ≤ 140737488355328 := by rw [hn5]; omega
      have hq2 : (outT l).length + nG ≤ 140737488355328 := by have h := hnP; rw [List.length_append, hnG] at h; omega
      have Zhn5 := hide hn5
      have Zhn6x := hide hn6x
      have ZhnF := hide hnF
      have Zhn9 := hide hn9
      have Zhkn := hide hkn
      have Zhfn := hide hfn
      have Zhn7 := hide hn7
      have ZhnG := hide hnG
      have ZhnP := hide hnP
      have Zhfin := hide hfin
      have Zhtot := hide htot
      have Zhq1 := hide hq1
      have Zhq2 := hide hq2
      have ZhO := hide hO
      have hGd : ∀ A c X, RdB X A c (markT ++ fourN n5 ++ fourN n9 ++ fourN n) → Calls Try.prog 45 #[.slice A 16 c] X fun e w' => ∃ v, e = .returned v ∧ OwB w' X.heap.size v (guarded (markT ++ fourN n5 ++ fourN n9 ++ fourN n)) ∧ Below X.heap.size X w' := fun A c X h => rGuard_any A c _ X h (by show 16 + 4 ≤ 140737488355328; decide)
      clear hn5 hn6x hnF hn9 hkn hfn hn7 hnG hnP hfin htot hq1 hq2 hO o1 tb ip fp f1 f2 f3 f4 f5 fE2 hK0 hFX hEX hIX hn9s g20 hT5 hT6 hlt hk D56 hnc t1 t2
      go_wp2_with (first | (go_at_call 40; (with_reducible refine (hF2 _ r6).mono ?_); rintro e w2 ⟨v2, rfl, O2, HB2⟩; obtain ⟨A2, c2, hv2, r2⟩ := O2.rd; rw [ZhnF.out] at hv2; subst hv2; have C2 := HB.trans (HB2.mono HB.size); have O52 := O5.below HB2; obtain ⟨v3, w3, hapA, O53, hg3, hat3⟩ := row_run (W := w2) w.heap.size 23 _ (bodyT l) (putFX 2 IX) A2 nF c2 ZhnF.out O52 r2 C2.size Zhq1.out; have C3 := C2.grown hg3 C2.size (fun j e => own_base O52 j e); rw [← ZhO.out] at O53; obtain ⟨A3, c3, hv3, -⟩ := O53.rd; rw [Zhn9.out] at hv3; subst hv3) | (go_at_call 42; (with_reducible refine (hKy _ (hr.below C3)).mono ?_); rintro e w4 ⟨v4, rfl, O4, HB4⟩; obtain ⟨A4, c4, hv4, r4⟩ := O4.rd; rw [Zhkn.out] at hv4; subst hv4; have C4 := C3.trans (HB4.mono C3.size); have O54 := O53.below HB4) | (go_at_call 41; (with_reducible refine (hMk A4 c4 _ r4).mono ?_); rintro e w5 ⟨A7, c7, rfl, O7, HB5⟩; have b5 := below_alloc w5 (.cells #[.int .i64 K, .slice A7 fn c7] 37); have C5 := stp (C4.trans (HB5.mono C4.size)) b5; have O55 := (O54.below HB5).below b5; have r7 := (O7.rdl).below b5; obtain ⟨y0, y1, -, -⟩ := (Bx.new w5 K (.slice A7 fn c7) 37).read) | (go_at_call 43; (with_reducible refine (hEc A7 c7 _ r7).mono ?_); rintro e w6 ⟨v6, rfl, O6x, HB6⟩; obtain ⟨A8, c8, hv6, r8⟩ := O6x.rd; rw [Zhn7.out] at hv6; subst hv6; have C6 := stp C5 HB6; have O56 := O55.below HB6) | (go_at_call 40; (with_reducible refine (hF3 A8 c8 _ r8).mono ?_); rintro e w7 ⟨v7, rfl, O7x, HB7⟩; obtain ⟨A9, c9, hv7, r9⟩ := O7x.rd; rw [ZhnG.out] at hv7; subst hv7; have C7 := stp C6 HB7; have O57 := O56.below HB7; obtain ⟨v8, w8, hapB, O58, hg8, hat8⟩ := row_run (W := w7) w.heap.size 23 _ (outT l) (putFX 3 EX) A9 nG c9 ZhnG.out O57 r9 C7.size Zhq2.out; have C8 := C7.grown hg8 C7.size (fun j e => own_base O57 j e); obtain ⟨Ap, cp, hv8, -⟩ := O58.rd; rw [ZhnP.out] at hv8; subst hv8; have hcv := conv_mark w8; have Bm : Below w8.heap.size w8 (mkW w8) := below_alloc w8 _; have C8m := stp C8 Bm; have O58m := O58.below Bm) | (go_at_call 44; (with_reducible refine (rfour_any n5 _).mono ?_); rintro e w9 ⟨v9, rfl, O9, HB9⟩; obtain ⟨Aa, ca, hv9, ra⟩ := O9.rd; replace hv9 : v9 = .slice Aa 4 ca := hv9; subst hv9; obtain ⟨v10, w10, hapC, O10, B10⟩ := full_run 23 ⟨w8.heap.size, 0, none⟩ markT (fourN n5) Aa ca rfl rfl ((rd_mark w8).below HB9) ra; have C9 := stp C8m HB9; have O59 := O58m.below HB9) | (go_at_call 44; (with_reducible refine (rfour_any n9 _).mono ?_); rintro e w11 ⟨v11, rfl, Oxa, HBxa⟩; obtain ⟨Axa, cxa, hvxa, rxa⟩ := Oxa.rd; replace hvxa : v11 = .slice Axa 4 cxa := hvxa; subst hvxa; have Bpa := stp B10 HBxa; obtain ⟨v12, w12, hapD, Ora, hgra, -⟩ := row_run (W := w11) w9.heap.size 23 _ (markT ++ fourN n5) (fourN n9) Axa 4 cxa rfl (O10.below HBxa) rxa (Bpa).size (by show 8 + 4 ≤ 140737488355328; decide); have Bqa : Below w9.heap.size w9 w12 := (Bpa).grown hgra (Bpa).size (fun j e => own_base (O10.below HBxa) j e)) | (go_at_call 44; (with_reducible refine (rfour_any n _).mono ?_); rintro e w13 ⟨v13, rfl, Oxb, HBxb⟩; obtain ⟨Axb, cxb, hvxb, rxb⟩ := Oxb.rd; replace hvxb : v13 = .slice Axb 4 cxb := hvxb; subst hvxb; have Bpb := stp Bqa HBxb; obtain ⟨v14, w14, hapE, Orb, hgrb, -⟩ := row_run (W := w13) w9.heap.size 23 _ (markT ++ fourN n5 ++ fourN n9) (fourN n) Axb 4 cxb rfl (Ora.below HBxb) rxb (Bpb).size (by show 12 + 4 ≤ 140737488355328; decide); have Bqb : Below w9.heap.size w9 w14 := (Bpb).grown hgrb (Bpb).size (fun j e => own_base (Ora.below HBxb) j e); obtain ⟨A14, c14, hv14, r14⟩ := Orb.rd; replace hv14 : v14 = .slice A14 16 c14 := hv14; subst hv14) | (go_at_call 45; (with_reducible refine (hGd A14 c14 _ r14).mono ?_); rintro e w15 ⟨v15, rfl, O15, HB15⟩; obtain ⟨A15, c15, hv15, r15⟩ := O15.rd; replace hv15 : v15 = .slice A15 20 c15 := hv15; subst hv15; have B15 := stp Bqb HB15; have O515 := O59.below B15; have C15 := C9.trans (B15.mono C9.size); obtain ⟨v16, w16, hapF, O16, hg16, -⟩ := row_run (W := w15) w.heap.size 23 _ (outT l ++ putFX 3 EX) (guarded (markT ++ fourN n5 ++ fourN n9 ++ fourN n)) A15 20 c15 rfl O515 r15 C15.size (by rw [ZhnP.out]; exact Zhtot.out); have C16 := C15.grown hg16 C15.size (fun j e => own_base O515 j e)) | (at_builtin; refine app_step rfl (.tmp 84) (.tmp 85) 23 23 rfl rfl rfl hapA ?_) | (at_builtin; refine app_step rfl (.tmp 106) (.tmp 107) 23 23 rfl rfl rfl hapB ?_) | (at_builtin; refine app_step rfl (.tmp 110) (.tmp 112) 23 23 rfl rfl rfl hapC ?_) | (at_builtin; refine app_step rfl (.tmp 114) (.tmp 116) 23 23 rfl rfl rfl hapD ?_) | (at_builtin; refine app_step rfl (.tmp 119) (.tmp 122) 23 23 rfl rfl rfl hapE ?_) | (at_builtin; refine app_step rfl (.tmp 118) (.tmp 124) 23 23 rfl rfl rfl hapF ?_))
      go_ret2
      rw [Zhfin.out] at O16
      exact ⟨_, rfl, O16, C16⟩
end Go.Proofs.Ytefcepjffeiaoaa
end

section
/- Table: the reference's Build of any versions. -/
namespace Go.Proofs.Ytefcepjffeiaoaa
open Go.RowKit Go.Proofs.YtefcepjffeiaoaaW.PrintWords
set_option linter.unusedVariables false

set_option maxRecDepth 100000 in
set_option maxHeartbeats 1600000 in
theorem rBuild_any (A : Option Addr) (c n : Nat) (l : List Ent) (w : World) (hn : l.length = n) (hr : RdE w A c l) (hl : n ≤ 140737488351232) :
    Calls Try.prog 12 #[.slice A n c] w fun e w' => ∃ v, e = .returned (.tuple #[v, .int .i64 (tabE l)]) ∧ OwB w' w.heap.size v (tabX l) ∧ Below w.heap.size w w' := by
  by_cases hT : tabE l = 0
  · have e : tabX l = tabB l := by rw [tabX, if_pos hT]
    rw [hT, e]
    exact rBuild_ok A c n l w hn hr hT
  · have e : tabX l = [] := by rw [tabX, if_neg hT]
    rw [e]
    have hOr := rOrdered_any A c n l w hn hr (by omega)
    have E : tabE l = if n < 1 ∨ 4096 < n then 3 else ordE l := by rw [tabE, hn]
    by_cases h1 : n < 1 ∨ 4096 < n
    · rw [if_pos h1] at E
      rw [E]
      have h2 : (n : Int) < 1 ∨ (1 ≤ (n : Int) ∧ 4096 < (n : Int)) := by omega
      clear E hT e h1
      rcases h2 with h2 | ⟨h2, h3⟩
      · go_enter Try.func12, Try.ntmps12
        go_wp2
        go_ret2
        exact ⟨_, rfl, OwB.zero _ _, Below.refl _ _⟩
      · have h4 : ¬ (n : Int) < 1 := by omega
        go_enter Try.func12, Try.ntmps12
        go_wp2
        go_ret2
        exact ⟨_, rfl, OwB.zero _ _, Below.refl _ _⟩
    · rw [if_neg h1] at E
      rw [E] at hT ⊢
      have h2 : ¬ (n : Int) < 1 := by omega
      have h3 : ¬ 4096 < (n : Int) := by omega
      clear E e h1
      generalize ordE l = E at *
      go_enter Try.func12, Try.ntmps12
      go_wp2_with (first | (go_at_call 37; (with_reducible refine hOr.mono ?_); rintro e w1 ⟨rfl, HB1⟩))
      go_ret2
      exact ⟨_, rfl, OwB.zero _ _, HB1⟩
end Go.Proofs.Ytefcepjffeiaoaa
end

section
/- The walk of TableOwn. -/
namespace Go.Proofs.Ytefcepjffeiaoaa
open Go.RowKit Go.Proofs.YtefcepjffeiaoaaW.PrintWords
set_option linter.unusedVariables false

theorem tld6o (i n : Nat) (h : i < n) : n - (intOf (.int .i64 ((i : Int) + 1))).toNat < n - (intOf (.int .i64 (i : Int))).toNat := by
  show n - (i + 1) < n - i
  omega
theorem tld7o (i n : Nat) (h : i < n) (hn : n ≤ 140737488351232) : n - (intOf (.int .i64 (wrap64 ((i : Int) + 1)))).toNat < n - (intOf (.int .i64 (i : Int))).toNat := by
  rw [tld4 i n h (by omega)]
  show n - (i + 1) < n - i
  omega
set_option maxRecDepth 100000 in
set_option maxHeartbeats 6400000 in
theorem own_walk (A : Option Addr) (c : Nat) (l : List Ent) (w : World) (hr : RdE w A c l) (hl : l.length * 48 ≤ 140737488351232) :
    Calls Try.prog 7 #[.slice A l.length c] w fun e w' => e = .returned (.bool true) ∧ Below w.heap.size w w' := by
  have hCp := fun W (h : RdE W A c l) => CopyE_any A c l.length l W rfl h hl
  have hE := fun A c W (h : RdE W A c l) => Build_any A c l.length l W rfl h (by omega)
  have hR := fun W (h : RdE W A c l) => rBuild_any A c l.length l W rfl h (by omega)
  have hS := fun A B c d W (h : RdE W A c l) (h' : RdE W B d l) => SameE_any A B c d l.length l W rfl h h' (by omega)
  have hQ := fun A B c d W (h : RdB W A c (tabX l)) (h' : RdB W B d (tabX l)) => SameBytes_at A B c d _ _ (tabX l) (tabX l) W rfl rfl h h'
  simp only [decide_true] at hQ
  obtain ⟨n, hn⟩ : ∃ n, l.length = n := ⟨_, rfl⟩
  have hxl : (tabX l).length ≤ 3000000 := by
    by_cases h : tabE l = 0
    · exact (tabX_size l h).1
    · rw [tabX, if_neg h]; simp
  have hO := fun A c W (h : RdB W A c (tabX l)) => Open_any A c (tabX l).length (tabX l) W rfl h (Nat.le_trans hxl (by decide))
  unfold tabV at hO
  have hn48 : n ≤ 140737488351232 := by omega
  rw [hn] at hCp hE hR hS hl ⊢
  by_cases h1 : tabE l = 0
  · obtain ⟨x1, x2⟩ := open_tab l h1
    rw [h1] at hE hR
    rw [x1, x2, hn] at hO
    generalize openK (tabX l) = K5 at *
    generalize openX (tabX l) = F5 at *
    generalize F5.length = nf5 at *
    generalize tabX l = X at *
    obtain ⟨nx, hnx⟩ : ∃ nx, X.length = nx := ⟨_, rfl⟩
    have HNX := hide hnx
    have HN := hide hn
    rw [hnx] at hO hQ
    clear hnx hn x1 x2 h1 hxl
    go_enter Try.func7, Try.ntmps7
    go_wp2_with (first | (go_at_call 21; refine (alive_any _).mono ?_; rintro e w1 ⟨rfl, HB1⟩) | (go_at_call 18; refine (num_any _ _).mono ?_; rintro e w' ⟨rfl, rfl⟩) | (go_at_call 9; (with_reducible refine (hCp _ (hr.below HB1)).mono ?_); rintro e w2 ⟨v2, rfl, O2, HB2⟩; obtain ⟨A2, c2, hv2, r2⟩ := O2.rd; rw [HN.out] at hv2; subst hv2; have C2 := HB1.trans (HB2.mono HB1.size)) | (go_at_call 11; (with_reducible refine (hE _ _ _ r2).mono ?_); rintro e w3 ⟨v3, rfl, O3, HB3⟩; obtain ⟨A3, c3, hv3, r3⟩ := O3.rd; rw [HNX.out] at hv3; subst hv3; have C3 := C2.trans (HB3.mono C2.size)) | (go_at_call 12; (with_reducible refine (hR _ (hr.below C3)).mono ?_); rintro e w4 ⟨v4, rfl, O4, HB4⟩; obtain ⟨A4, c4, hv4, r4⟩ := O4.rd; rw [HNX.out] at hv4; subst hv4; have C4 := C3.trans (HB4.mono C3.size)))
    have s1 := HB1.size
    have s2 := HB2.size
    have s3 := HB3.size
    have s4 := HB4.size
    have P2 : OwE w4 w1.heap.size (.slice A2 n c2) l := (O2.below HB3).below HB4
    have P3 : OwB w4 w1.heap.size (.slice A3 nx c3) X := (O3.below HB4).lower s2
    have P4 : OwB w4 w1.heap.size (.slice A4 nx c4) X := O4.lower (Nat.le_trans s2 s3)
    have B14 : Below w1.heap.size w1 w4 := stp (stp HB2 HB3) HB4
    clear O2 O3 O4 r2 r3 r4 C2 C3 C4 HB2 HB3 HB4 hCp hE hR
    go_loopw [8] (fun iv wr => ∃ k : Nat, k ≤ n ∧ iv = .int .i64 (k : Int) ∧ (∃ l2 : List Ent, l2.length = n ∧ OwE wr w1.heap.size (.slice A2 n c2) l2) ∧ OwB wr w1.heap.size (.slice A3 nx c3) X ∧ OwB wr w1.heap.size (.slice A4 nx c4) X ∧ Below w1.heap.size w1 wr) (fun iv _ => n - (intOf iv).toNat)
    case atStart => exact ⟨0, Nat.zero_le _, rfl, ⟨l, HN.out, P2⟩, P3, P4, B14⟩
    case round =>
      obtain ⟨k, hk, rfl, ⟨l2, hl2, HOl⟩, K3, K4, HBl⟩ := hrel
      by_cases hlt : k < n
      · have hlti : (k : Int) < (n : Int) := Int.ofNat_lt.2 hlt
        have HL2 := hide hl2
        obtain ⟨g, rfl, hgb, hgl⟩ := HOl.head (Nat.lt_of_le_of_lt (Nat.zero_le _) hlt)
        have HONE : Hid (∀ u ∈ [Value.string ByteArray.empty, .int .i64 0, .int .i64 0, .string ByteArray.empty], u.oneCell' = true) := hide (by decide)
        clear hl2 hQ hO hS
        go_wp2_with (first | (refine store_ow (P := Try.prog) kEnt zEnt (w0 := w1) w1.heap.size rfl rfl 43 (.tmp 34) (.tmp 33) rfl 43 (g := g) (n := n) (cap := c2) k l2 zEnt (.agg #[.string ByteArray.empty, .int .i64 0, .int .i64 0, .string ByteArray.empty]) [.string ByteArray.empty, .int .i64 0, .int .i64 0, .string ByteArray.empty] (by rfl) (by rfl) rfl rfl HONE.out rfl (kEnt_M _ _ _ zEnt) HOl hlt HBl ?_; intro w10 HOl2 HB10 HG10))
        have K32 := (Ow.over K3.ow HOl (one_ne (by decide)) HG10).owB
        have K42 := (Ow.over K4.ow HOl (one_ne (by decide)) HG10).owB
        go_roundw
        case rel => exact ⟨k + 1, hlt, by go_num, ⟨_, by rw [List.length_set]; exact HL2.out, HOl2⟩, K32, K42, HB10⟩
        case measure => first | exact tld6o k n hlt | exact tld7o k n hlt hn48
      · obtain rfl : k = n := Nat.le_antisymm hk (Nat.not_lt.1 hlt)
        clear hl2 HOl
        have Cr : Below w.heap.size w wr := HB1.trans (HBl.mono s1)
        have k3 := K3.rdl
        have k4 := K4.rdl
        go_wp2_with (first | (go_at_call 18; refine (num_any _ _).mono ?_; rintro e w' ⟨rfl, rfl⟩) | (go_at_call 17; (with_reducible refine (hQ _ _ _ _ _ k3 k4).mono ?_); rintro e w9 ⟨rfl, rfl⟩) | (go_at_call 13; (with_reducible refine (hO _ _ _ k3).mono ?_); rintro e w5 ⟨A5, c5, A6, c6, rfl, O5, O6, HB5⟩; have b5 := below_alloc w5 (.cells #[.slice A5 k c5, .int .i64 K5, .slice A6 nf5 c6] 34); have Q5 := stp HB5 b5; have hT5 := heap_alloc_new w5 (.cells #[.slice A5 k c5, .int .i64 K5, .slice A6 nf5 c6] 34); have K35 := K3.below Q5; have O5b := O5.below b5; have C5 : Below w.heap.size w _ := Cr.trans (Q5.mono Cr.size)) | (go_at_call 23; (with_reducible refine (Spoil_any _ _ X _ K35).mono ?_); rintro e w6 ⟨rfl, O36, HG6⟩; have C6 := C5.grown HG6 C5.size (fun j e => Nat.le_trans s1 (own_base K35 j e)); have O56 := Ow.over O5b K35.ow (one_ne (by decide)) HG6; have hT6 := (HG6.block _ (blk_lt hT5) (fun e => by have h1 := K3.lt _ e.symm; have h2 := HB5.size; omega)).trans hT5; have y0 := blk_cell hT6 0; have r56 := Ow.rdl O56) | (go_at_call 20; (with_reducible refine (hS _ _ _ _ _ r56 (hr.below C6)).mono ?_); rintro e w7 ⟨rfl, HB7⟩; have C7 := C6.trans (HB7.mono C6.size)))
        go_ret
        exact ⟨rfl, C7⟩
  · generalize openL (tabX l) = L5 at *
    generalize L5.length = nl5 at *
    generalize openK (tabX l) = K5 at *
    generalize openX (tabX l) = F5 at *
    generalize F5.length = nf5 at *
    generalize openE (tabX l) = E5 at *
    generalize tabX l = X at *
    generalize tabE l = z at *
    obtain ⟨nx, hnx⟩ : ∃ nx, X.length = nx := ⟨_, rfl⟩
    have HNX := hide hnx
    have HN := hide hn
    rw [hnx] at hO hQ
    clear hnx hn hxl
    go_enter Try.func7, Try.ntmps7
    go_wp2_with (first | (go_at_call 21; refine (alive_any _).mono ?_; rintro e w1 ⟨rfl, HB1⟩) | (go_at_call 18; refine (num_any _ _).mono ?_; rintro e w' ⟨rfl, rfl⟩) | (go_at_call 9; (with_reducible refine (hCp _ (hr.below HB1)).mono ?_); rintro e w2 ⟨v2, rfl, O2, HB2⟩; obtain ⟨A2, c2, hv2, r2⟩ := O2.rd; rw [HN.out] at hv2; subst hv2; have C2 := HB1.trans (HB2.mono HB1.size)) | (go_at_call 11; (with_reducible refine (hE _ _ _ r2).mono ?_); rintro e w3 ⟨v3, rfl, O3, HB3⟩; obtain ⟨A3, c3, hv3, r3⟩ := O3.rd; rw [HNX.out] at hv3; subst hv3; have C3 := C2.trans (HB3.mono C2.size)) | (go_at_call 12; (with_reducible refine (hR _ (hr.below C3)).mono ?_); rintro e w4 ⟨v4, rfl, O4, HB4⟩; obtain ⟨A4, c4, hv4, r4⟩ := O4.rd; rw [HNX.out] at hv4; subst hv4; have C4 := C3.trans (HB4.mono C3.size)))
    have s1 := HB1.size
    have s2 := HB2.size
    have s3 := HB3.size
    have s4 := HB4.size
    have P2 : OwE w4 w1.heap.size (.slice A2 n c2) l := (O2.below HB3).below HB4
    have P3 : OwB w4 w1.heap.size (.slice A3 nx c3) X := (O3.below HB4).lower s2
    have P4 : OwB w4 w1.heap.size (.slice A4 nx c4) X := O4.lower (Nat.le_trans s2 s3)
    have B14 : Below w1.heap.size w1 w4 := stp (stp HB2 HB3) HB4
    clear O2 O3 O4 r2 r3 r4 C2 C3 C4 HB2 HB3 HB4 hCp hE hR
    go_loopw [8] (fun iv wr => ∃ k : Nat, k ≤ n ∧ iv = .int .i64 (k : Int) ∧ (∃ l2 : List Ent, l2.length = n ∧ OwE wr w1.heap.size (.slice A2 n c2) l2) ∧ OwB wr w1.heap.size (.slice A3 nx c3) X ∧ OwB wr w1.heap.size (.slice A4 nx c4) X ∧ Below w1.heap.size w1 wr) (fun iv _ => n - (intOf iv).toNat)
    case atStart => exact ⟨0, Nat.zero_le _, rfl, ⟨l, HN.out, P2⟩, P3, P4, B14⟩
    case round =>
      obtain ⟨k, hk, rfl, ⟨l2, hl2, HOl⟩, K3, K4, HBl⟩ := hrel
      by_cases hlt : k < n
      · have hlti : (k : Int) < (n : Int) := Int.ofNat_lt.2 hlt
        have HL2 := hide hl2
        obtain ⟨g, rfl, hgb, hgl⟩ := HOl.head (Nat.lt_of_le_of_lt (Nat.zero_le _) hlt)
        have HONE : Hid (∀ u ∈ [Value.string ByteArray.empty, .int .i64 0, .int .i64 0, .string ByteArray.empty], u.oneCell' = true) := hide (by decide)
        clear hl2 hQ hO hS
        go_wp2_with (first | (refine store_ow (P := Try.prog) kEnt zEnt (w0 := w1) w1.heap.size rfl rfl 43 (.tmp 34) (.tmp 33) rfl 43 (g := g) (n := n) (cap := c2) k l2 zEnt (.agg #[.string ByteArray.empty, .int .i64 0, .int .i64 0, .string ByteArray.empty]) [.string ByteArray.empty, .int .i64 0, .int .i64 0, .string ByteArray.empty] (by rfl) (by rfl) rfl rfl HONE.out rfl (kEnt_M _ _ _ zEnt) HOl hlt HBl ?_; intro w10 HOl2 HB10 HG10))
        have K32 := (Ow.over K3.ow HOl (one_ne (by decide)) HG10).owB
        have K42 := (Ow.over K4.ow HOl (one_ne (by decide)) HG10).owB
        go_roundw
        case rel => exact ⟨k + 1, hlt, by go_num, ⟨_, by rw [List.length_set]; exact HL2.out, HOl2⟩, K32, K42, HB10⟩
        case measure => first | exact tld6o k n hlt | exact tld7o k n hlt hn48
      · obtain rfl : k = n := Nat.le_antisymm hk (Nat.not_lt.1 hlt)
        clear hl2 HOl
        have Cr : Below w.heap.size w wr := HB1.trans (HBl.mono s1)
        have k3 := K3.rdl
        have k4 := K4.rdl
        go_wp2_with (first | (go_at_call 18; refine (num_any _ _).mono ?_; rintro e w' ⟨rfl, rfl⟩) | (go_at_call 17; (with_reducible refine (hQ _ _ _ _ _ k3 k4).mono ?_); rintro e w9 ⟨rfl, rfl⟩) | (go_at_call 13; (with_reducible refine (hO _ _ _ k3).mono ?_); rintro e w5 ⟨A5, c5, A6, c6, rfl, O5, O6, HB5⟩; have b5 := below_alloc w5 (.cells #[.slice A5 nl5 c5, .int .i64 K5, .slice A6 nf5 c6] 34); have Q5 := stp HB5 b5; have hT5 := heap_alloc_new w5 (.cells #[.slice A5 nl5 c5, .int .i64 K5, .slice A6 nf5 c6] 34); have K35 := K3.below Q5; have O5b := O5.below b5; have C5 : Below w.heap.size w _ := Cr.trans (Q5.mono Cr.size)) | (go_at_call 23; (with_reducible refine (Spoil_any _ _ X _ K35).mono ?_); rintro e w6 ⟨rfl, O36, HG6⟩; have C6 := C5.grown HG6 C5.size (fun j e => Nat.le_trans s1 (own_base K35 j e)); have O56 := Ow.over O5b K35.ow (one_ne (by decide)) HG6; have hT6 := (HG6.block _ (blk_lt hT5) (fun e => by have h1 := K3.lt _ e.symm; have h2 := HB5.size; omega)).trans hT5; have y0 := blk_cell hT6 0; have r56 := Ow.rdl O56))
        go_ret
        exact ⟨rfl, C6⟩
end Go.Proofs.Ytefcepjffeiaoaa
end
