/- The contracts that the laws of this seat share: octets, sums, numbers, records. -/
import Derived.Test.YtebefonohemlfaaMgA
set_option linter.unusedVariables false
set_option linter.unusedSimpArgs false
section
/- Wal: the walk of Entries. -/
namespace Go.Proofs.Ytebefonohemlfaa
open Go.RowKit Go.Proofs.YtebefonohemlfaaW.PrintWords
set_option linter.unusedVariables false

def entC (q : Int) (i : Nat) (c : Chg) : Ent := (c.1, q + (i : Int), if c.2.1 = true then 2 else 1, c.2.2)
def entL (q : Int) (l : List Chg) : List Ent := (List.range l.length).map fun i => entC q i (l.getD i zChg)
theorem entL_length (q : Int) (l : List Chg) : (entL q l).length = l.length := by simp [entL]
theorem entL_get (q : Int) (l : List Chg) (i : Nat) (h : i < l.length) : (entL q l).getD i zEnt = entC q i (l.getD i zChg) := by
  rw [List.getD_eq_getElem?_getD, entL, List.getElem?_map, List.getElem?_range h]
  rfl
theorem entL_take (q : Int) (l : List Chg) (k : Nat) (h : k < l.length) : entL q (l.take (k + 1)) = entL q (l.take k) ++ [entC q k (l.getD k zChg)] := by
  have e : l.getD k zChg = l[k] := by rw [List.getD_eq_getElem?_getD, List.getElem?_eq_getElem h]; rfl
  have hl : (l.take k).length = k := by rw [List.length_take]; omega
  rw [List.take_succ_eq_append_getElem h, entL, entL, List.length_append, List.length_singleton, List.range_succ, List.map_append, hl]
  congr 1
  · apply List.map_congr_left
    intro j hj
    have hj' := List.mem_range.1 hj
    rw [List.getD_eq_getElem?_getD, List.getElem?_append_left (by omega), ← List.getD_eq_getElem?_getD]
  · rw [e]
    simp only [List.map_cons, List.map_nil]
    rw [List.getD_eq_getElem?_getD, List.getElem?_append_right (by omega), hl]
    simp
set_option maxRecDepth 100000 in
set_option maxHeartbeats 1600000 in
theorem Entries_ok (q : Int) (A : Option Addr) (c : Nat) (l : List Chg) (w : World) (hr : RdC w A c l) (hk : chkB q l = 0) :
    Calls Try.prog 10 #[.agg #[.int .i64 q, .slice A l.length c]] w fun e w' => ∃ v, e = .returned (.tuple #[v, .int .i64 0]) ∧ OwE w' w.heap.size v (entL q l) ∧ Below w.heap.size w w' := by
  obtain ⟨q1, q2, h1, h64, hall⟩ := chkB_ok q l hk
  have hCk := fun W (h : RdC W A c l) => Check_any q A c l.length l W rfl h (by omega)
  rw [hk] at hCk
  have HT := hide (entL_take q l)
  have hEL := fun k => entL_length q (l.take k)
  have HEL := hide hEL
  obtain ⟨n, hn⟩ : ∃ n, l.length = n := ⟨_, rfl⟩
  have HN := hide hn
  rw [hn] at hCk h1 h64 ⊢
  have hm := hr.max
  rw [hn] at hm
  clear hk hn hall hEL
  have hr0 := hr.below (below_alloc w (.cells #[.int .i64 q, .slice A n c] 30))
  have X0 := Bx.new w q (.slice A n c) 30
  have B0 := below_alloc w (.cells #[.int .i64 q, .slice A n c] 30)
  obtain ⟨p0, p1', p2', p3⟩ := X0.read
  go_enter Try.func10, Try.ntmps10
  go_wp2_with (first | (go_at_call 26; (with_reducible refine (hCk _ hr0).mono ?_); rintro e w1 ⟨rfl, HB1⟩; have X1 := X0.below HB1; have B1 := B0.trans (HB1.mono B0.size); have hr1 := hr0.below HB1; obtain ⟨s0, s1, s2, s3⟩ := X1.read))
  have hsz1 := B1.size
  go_loopw [5, 17] (fun out i wr => ∃ k : Nat, k ≤ n ∧ i = .int .i64 (k : Int) ∧ OwE wr w1.heap.size out (entL q (l.take k)) ∧ Below w1.heap.size w1 wr) (fun _ i _ => n - (intOf i).toNat)
  case atStart => exact ⟨0, by omega, rfl, Ow.zero _ _ _ _, Below.refl _ _⟩
  case round =>
    obtain ⟨k, hk, rfl, HO, HB⟩ := hrel
    have hel := HEL.out k
    by_cases hlt : k < n
    · have hlti : (k : Int) < (n : Int) := by omega
      obtain ⟨ad, rfl, e0, e1, e2⟩ := RdC.at3 (hr1.below HB) k (by rw [HN.out]; exact hlt)
      have hTk := HT.out k (by rw [HN.out]; exact hlt)
      have hl48 : ((entL q (l.take k)).length + 1) * 48 ≤ 140737488355328 := by rw [hel, List.length_take]; omega
      have HL := hide hl48
      generalize l.getD k zChg = x at *
      obtain ⟨key, del, val⟩ := x
      simp only at e0 e1 e2
      have t0 : wr.cell? ⟨w.heap.size, 0, none⟩ = some (.int .i64 q) := (HB.cell (World.block_lt_of_cell? w1 _ s0)).trans s0
      have hlt0 := X1.lt
      have hsk := HB.size
      have hlt1 : w.heap.size < wr.heap.size := by omega
      have hne1 : ¬ w.heap.size = wr.heap.size := by omega
      have hne2 : ¬ w.heap.size = wr.heap.size + 1 := by omega
      generalize entL q (l.take k) = es at *
      clear hel hl48
      cases del with
      | true =>
        have HTk : Hid (entL q (l.take (k + 1)) = es ++ [((key, q + (k : Int), 2, val) : Ent)]) := by rw [hTk]; exact hide rfl
        clear hTk
        have b1 : Below wr.heap.size wr ((wr.alloc (.cells #[.string key, .bool true, .string val] 35)).alloc (.cells #[.string key, .int .i64 (q + (k : Int)), .int .i64 2, .string val] 37)) := ((Below.refl _ _).alloc (Nat.le_refl _) _).alloc (by simp) _
        have HO2 := HO.below b1
        have HB2 := HB.trans (b1.mono HB.size)
        go_wp2_with (first | (at_builtin; refine app_ent (w0 := w1) (W := (wr.alloc (.cells #[.string key, .bool true, .string val] 35)).alloc (.cells #[.string key, .int .i64 (q + (k : Int)), .int .i64 2, .string val] 37)) w1.heap.size rfl (.tmp 34) (.tmp 36) rfl u5 es (key, q + (k : Int), 2, val) (by rfl) (by simp [Act.eval, Array.getD]) HO2 HB2 HB2.size HL.out ?_; intro v5 w5 HO5 HB5 hg5 hat5))
        go_roundw
        case rel => exact ⟨k + 1, by omega, by go_num, by rw [HTk.out]; exact HO5, HB5⟩
        case measure => simp [intOf]; omega
      | false =>
        have HTk : Hid (entL q (l.take (k + 1)) = es ++ [((key, q + (k : Int), 1, val) : Ent)]) := by rw [hTk]; exact hide rfl
        clear hTk
        have b1 : Below wr.heap.size wr ((wr.alloc (.cells #[.string key, .bool false, .string val] 35)).alloc (.cells #[.string key, .int .i64 (q + (k : Int)), .int .i64 1, .string val] 37)) := ((Below.refl _ _).alloc (Nat.le_refl _) _).alloc (by simp) _
        have HO2 := HO.below b1
        have HB2 := HB.trans (b1.mono HB.size)
        go_wp2_with (first | (at_builtin; refine app_ent (w0 := w1) (W := (wr.alloc (.cells #[.string key, .bool false, .string val] 35)).alloc (.cells #[.string key, .int .i64 (q + (k : Int)), .int .i64 1, .string val] 37)) w1.heap.size rfl (.tmp 34) (.tmp 36) rfl u5 es (key, q + (k : Int), 1, val) (by rfl) (by simp [Act.eval, Array.getD]) HO2 HB2 HB2.size HL.out ?_; intro v5 w5 HO5 HB5 hg5 hat5))
        go_roundw
        case rel => exact ⟨k + 1, by omega, by go_num, by rw [HTk.out]; exact HO5, HB5⟩
        case measure => simp [intOf]; omega
    · obtain rfl : k = n := by omega
      rw [List.take_of_length_le (by rw [HN.out]; exact Nat.le_refl _)] at HO
      go_wp2
      go_ret2
      exact ⟨_, rfl, HO.lower hsz1, B1.trans (HB.mono hsz1)⟩
set_option maxRecDepth 100000 in
set_option maxHeartbeats 800000 in
theorem Entries_any (q : Int) (A : Option Addr) (c n : Nat) (l : List Chg) (w : World) (hn : l.length = n) (hr : RdC w A c l) (hl : l.length ≤ 9223372036854775806) :
    Calls Try.prog 10 #[.agg #[.int .i64 q, .slice A n c]] w fun e w' => ∃ v, e = .returned (.tuple #[v, .int .i64 (chkB q l)]) ∧ OwE w' w.heap.size v (if chkB q l = 0 then entL q l else []) ∧ Below w.heap.size w w' := by
  subst hn
  by_cases hk : chkB q l = 0
  · rw [if_pos hk, hk]
    exact Entries_ok q A c l w hr hk
  · have hCk := fun W (h : RdC W A c l) => Check_any q A c l.length l W rfl h hl
    rw [if_neg hk]
    obtain ⟨n, hn⟩ : ∃ n, l.length = n := ⟨_, rfl⟩
    rw [hn] at hCk hl ⊢
    generalize chkB q l = z at *
    clear hn
    have hr0 := hr.below (below_alloc w (.cells #[.int .i64 q, .slice A n c] 30))
    have X0 := Bx.new w q (.slice A n c) 30
    have B0 := below_alloc w (.cells #[.int .i64 q, .slice A n c] 30)
    obtain ⟨p0, p1', p2', p3⟩ := X0.read
    go_enter Try.func10, Try.ntmps10
    go_wp2_with (first | (go_at_call 26; (with_reducible refine (hCk _ hr0).mono ?_); rintro e w1 ⟨rfl, HB1⟩; have B1 := B0.trans (HB1.mono B0.size)))
    go_ret2
    exact ⟨_, rfl, Ow.zero _ _ _ _, B1⟩
/-- the page's example -/
theorem enc_ex : chkB 1 [((⟨#[97]⟩ : ByteArray), false, (⟨#[120]⟩ : ByteArray))] = 0 ∧ encX 1 [((⟨#[97]⟩ : ByteArray), false, (⟨#[120]⟩ : ByteArray))] = [1, 1, 1, 1, 97, 1, 120] := by decide +kernel
theorem str_ex : ((strB [1, 1, 1, 1, 97, 1, 120]).toList == ({ data := #[1, 1, 1, 1, 97, 1, 120] } : ByteArray).toList) = true := by decide +kernel
set_option maxRecDepth 100000 in
set_option maxHeartbeats 800000 in
theorem alive_any (w : World) : Calls Try.prog 9 #[] w fun e w' => e = .returned (.bool true) ∧ Below w.heap.size w w' := by
  obtain ⟨h1, h2⟩ := enc_ex
  have hr : RdC (w.alloc (.cells #[.string ⟨#[97]⟩, .bool false, .string ⟨#[120]⟩] 35)) (some ⟨w.heap.size, 0, none⟩) 1 [((⟨#[97]⟩ : ByteArray), false, (⟨#[120]⟩ : ByteArray))] := by
    refine ⟨by simp, rfl, by simp, fun _ => ⟨_, rfl, fun j p hj => ?_⟩⟩
    have hj0 : j = 0 := by
      have := (List.getElem?_eq_some_iff.1 hj).1
      simp at this
      exact this
    subst hj0
    have hp : ((⟨#[97]⟩ : ByteArray), false, (⟨#[120]⟩ : ByteArray)) = p := by simpa using hj
    subst hp
    refine ⟨_, rfl, kChg_mk _ _, fun i u hu => ?_⟩
    rw [add_plain]
    show (w.alloc (.cells #[.string ⟨#[97]⟩, .bool false, .string ⟨#[120]⟩] 35)).cell? ⟨w.heap.size, 0 * 3 + i, none⟩ = _
    rw [World.cell?_alloc_mark, Nat.zero_mul, Nat.zero_add]
    rw [← hu]
    simp
  have hE := Encode_any 1 _ 1 1 _ _ rfl hr (by simp)
  rw [h1, h2] at hE
  have hst := str_ex
  have hC := fun A c W (h : RdB W A c [1, 1, 1, 1, 97, 1, 120]) => h.toStr (P := Try.prog) 39 5 9 Try.underlying39 Try.underlying5 Try.underlying9
  clear h1 h2
  go_enter Try.func9, Try.ntmps9
  go_wp2_with (first | (go_at_call 19; refine hE.mono ?_; rintro e w1 ⟨v1, rfl, HO1, HB1⟩; obtain ⟨A1, c1, hv1, hr1⟩ := HO1.rd; subst hv1; have hc1 : Sem.run Try.prog (convert 39 9 (.slice A1 7 c1)) w1 = .ok (.string (strB [1, 1, 1, 1, 97, 1, 120])) w1 := hC A1 c1 w1 hr1) | (go_at_call 12; refine (num_any _ _).mono ?_; rintro e w' ⟨rfl, rfl⟩))
  go_ret
  refine ⟨?_, ?_⟩
  · have hb : ((strB [1, 1, 1, 1, 97, 1, 120]).toList == [1, 1, 1, 1, 97, 1, 120]) = true := by decide +kernel
    exact congrArg (fun b => Ending.returned (Value.bool b)) hb
  exact (below_alloc w _).trans (HB1.mono (by simp))
end Go.Proofs.Ytebefonohemlfaa
end

section
/- Wal: the walk of the reference's Encode. -/
namespace Go.Proofs.Ytebefonohemlfaa
open Go.RowKit Go.Proofs.YtebefonohemlfaaW.PrintWords
set_option linter.unusedVariables false

set_option maxRecDepth 100000 in
set_option maxHeartbeats 3200000 in
theorem rEncode_ok (q : Int) (A : Option Addr) (c : Nat) (l : List Chg) (w : World) (hr : RdC w A c l) (hk : chkB q l = 0) :
    Calls Try.prog 30 #[.agg #[.int .i64 q, .slice A l.length c]] w fun e w' => ∃ v, e = .returned (.tuple #[v, .int .i64 0]) ∧ OwB w' w.heap.size v (encB q l) ∧ Below w.heap.size w w' := by
  obtain ⟨q1, q2, h1, h64, hall⟩ := chkB_ok q l hk
  have hCk := fun W (h : RdC W A c l) => rCheck_any q A c l.length l W rfl h (by omega)
  rw [hk] at hCk
  obtain ⟨qn, rfl⟩ : ∃ qn : Nat, q = (qn : Int) := ⟨q.toNat, by omega⟩
  have hP1 := fun W => rPut_any qn (by omega) W
  have hP2 := fun W => rPut_any l.length (by omega) W
  have hPn := fun n (h : n ≤ 1000) W => rPut_any n (by omega) W
  have hpl1 := put_length qn
  have hpl2 := put_length l.length
  have hv1 := vsize_le qn
  have hv2 := vsize_le l.length
  have hE : encB (qn : Int) l = (put qn ++ put l.length) ++ encCs l := by rw [encB, Int.toNat_natCast]
  have HE := hide hE
  have HT := hide (encCs_take l)
  have HTL := hide (fun k => encCs_take_len l k hall h64)
  have HALL := hide hall
  obtain ⟨n, hn⟩ : ∃ n, l.length = n := ⟨_, rfl⟩
  have HN := hide hn
  rw [hn] at hCk hP2 HE h1 h64 hpl2 hv2 ⊢
  obtain ⟨p1, hp1⟩ : ∃ p, put qn = p := ⟨_, rfl⟩
  obtain ⟨p2, hp2⟩ : ∃ p, put n = p := ⟨_, rfl⟩
  rw [hp1] at hP1 HE hpl1
  rw [hp2] at hP2 HE hpl2
  have hpp : p1.length + p2.length ≤ 140737488355328 := by omega
  have HPP := hide hpp
  have hplen : (p1 ++ p2).length ≤ 18 := by rw [List.length_append]; omega
  obtain ⟨m2, hm2⟩ : ∃ m, p2.length = m := ⟨_, rfl⟩
  have HM2 := hide hm2
  have hw1 : IntKind.u64.wrap (qn : Int) = (qn : Int) := by rw [IntKind.wrap_u64]; omega
  have hw2 : IntKind.u64.wrap (n : Int) = (n : Int) := by rw [IntKind.wrap_u64]; omega
  have hm := hr.max
  rw [hn] at hm
  clear hk hE hn hp1 hp2 hpl1 hpl2 hm2 hall hv1 hv2 q1 hpp
  have hr0 := hr.below (below_alloc w (.cells #[.int .i64 (qn : Int), .slice A n c] 24))
  have X0 := Bx.new w (qn : Int) (.slice A n c) 24
  have B0 := below_alloc w (.cells #[.int .i64 (qn : Int), .slice A n c] 24)
  obtain ⟨p0, p1', p2', p3⟩ := X0.read
  go_enter Try.func30, Try.ntmps30
  go_wp2_with (first | (go_at_call 13; (with_reducible refine (hCk _ hr0).mono ?_); rintro e w1 ⟨rfl, HB1⟩; have X1 := X0.below HB1; have B1 := B0.trans (HB1.mono B0.size); have hr1 := hr0.below HB1; obtain ⟨s0, s1, s2, s3⟩ := X1.read))
  have hS0 : Below w1.heap.size w1 w1.drew ∧ w1.drew.cell? ⟨w.heap.size, 0, none⟩ = some (.int .i64 (qn : Int)) ∧ w1.drew.cell? ⟨w.heap.size, 1, none⟩ = some (.slice A n c) := ⟨(Below.refl _ _).drew, s0, s1⟩
  have hSk : ∀ W, Below w1.heap.size w1 W → W.cell? ⟨w.heap.size, 0, none⟩ = some (.int .i64 (qn : Int)) ∧ W.cell? ⟨w.heap.size, 1, none⟩ = some (.slice A n c) := fun W h => ⟨(h.cell (World.block_lt_of_cell? w1 _ s0)).trans s0, (h.cell (World.block_lt_of_cell? w1 _ s1)).trans s1⟩
  have hsz1 := B1.size
  go_region_held3 (fun w' => Below w1.heap.size w1 w' ∧ w'.cell? ⟨w.heap.size, 0, none⟩ = some (.int .i64 (qn : Int)) ∧ w'.cell? ⟨w.heap.size, 1, none⟩ = some (.slice A n c)) (first | exact hS0 | assumption | exact ⟨HBt4, hSk _ HBt4⟩ | exact ⟨HBt3, hSk _ HBt3⟩ | exact ⟨HBt2, hSk _ HBt2⟩) (first | (go_at_call 44; have hh := ‹Below w1.heap.size w1 _ ∧ _ ∧ _›; (with_reducible refine (hP1 _).mono ?_); rintro e w2 ⟨v2, rfl, HO2, HB2⟩; have HBt2 := hh.1.trans (HB2.mono hh.1.size); replace HO2 := HO2.lower hh.1.size) | (go_at_call 44; (with_reducible refine (hP2 _).mono ?_); rintro e w3 ⟨v3, rfl, HO3, HB3⟩; have HBt3 := HBt2.trans (HB3.mono HBt2.size); obtain ⟨A3, c3, hv3, hr3⟩ := HO3.rd; rw [HM2.out] at hv3; subst hv3; replace HO2 := HO2.below HB3) | ((refine step_row (w0 := w1) (W := w3) w1.heap.size (by rfl) (.tmp 17) (.tmp 22) rfl v2 p1 p2 A3 c3 (by rfl) (by rw [HM2.out]; rfl) HO2 hr3 HBt3 HBt3.size HPP.out ?_); intro v4 w4 HO4 HBt4 hg4))
  all_goals (
    have B4 := B1.trans (HBt4.mono hsz1)
    have HO4' := HO4
    have hr4 := hr1.below HBt4
    have h0l : (p1 ++ p2) = (p1 ++ p2) ++ encCs (l.take 0) := (by simp [encCs])
    rw [h0l] at HO4'
    have hSk4 : ∀ W, Below w1.heap.size w1 W → W.cell? ⟨w.heap.size, 1, none⟩ = some (.slice A n c) := fun W h => (hSk W h).2
    clear h0l hSk hS0 p0 p1' p2' p3 s0 s1 s2 s3 X1 X0 hr0 hP1 hP2 hCk hw1 hw2 hr3 HO2 HO3 HB2 HB3 HO4 HBt2 HBt3 hh q2 HM2 HPP
    generalize p1 ++ p2 = pp at *)
  all_goals (
    go_wp2
    go_loopw [5, 6] (fun out i wr => ∃ k : Nat, k ≤ n ∧ i = .int .i64 (k : Int) ∧ OwB wr w1.heap.size out (pp ++ encCs (l.take k)) ∧ Below w1.heap.size w1 wr) (fun _ i _ => n - (intOf i).toNat)
    case atStart => exact ⟨0, by omega, rfl, HO4', HBt4⟩
    case round =>
      obtain ⟨k, hk, rfl, HO, HB⟩ := hrel
      have hEl := HTL.out k
      have hxl : (pp ++ encCs (l.take k)).length ≤ 40200 := by rw [List.length_append]; omega
      have t1 := hSk4 _ HB
      by_cases hlt : k < n
      · have hlti : (k : Int) < (n : Int) := by omega
        obtain ⟨ad, rfl, e0, e1, e2⟩ := RdC.at3 (hr1.below HB) k (by rw [HN.out]; exact hlt)
        have hTk := HT.out k (by rw [HN.out]; exact hlt)
        have hck := HALL.out (l.getD k zChg) (by rw [List.getD_eq_getElem?_getD, List.getElem?_eq_getElem (by rw [HN.out]; exact hlt)]; exact List.getElem_mem _)
        generalize l.getD k zChg = x at *
        obtain ⟨key, del, val⟩ := x
        obtain ⟨c1', c2', c3', c4'⟩ := chkC_ok _ hck
        simp only at e0 e1 e2 c1' c2' c3' c4'
        have X1 : Cb (wr.alloc (.cells #[.string key, .bool del, .string val] 35)) wr.heap.size (key, del, val) := Cb.new wr (key, del, val)
        have b1 := below_alloc wr (.cells #[.string key, .bool del, .string val] 35)
        have HB1 := HB.trans (b1.mono HB.size)
        have HO1 := HO.below b1
        obtain ⟨x0, x1, x2⟩ := X1.read
        simp only at x0 x1 x2
        have hz1 := HB1.size
        generalize encCs (l.take k) = pre at *
        obtain ⟨kn, hkn⟩ : ∃ kn, key.size = kn := ⟨_, rfl⟩
        obtain ⟨vn, hvn⟩ : ∃ vn, val.size = vn := ⟨_, rfl⟩
        have hPk := hPn kn (by omega)
        have hPv := hPn vn (by omega)
        have hkl := put_length kn
        have hvl := put_length vn
        have hkv := vsize_le kn
        have hvv := vsize_le vn
        have hTe : encT key = put kn ++ bl key := by rw [encT, hkn]
        have hTv : encT val = put vn ++ bl val := by rw [encT, hvn]
        obtain ⟨pk, hpk⟩ : ∃ p, put kn = p := ⟨_, rfl⟩
        obtain ⟨pv, hpv⟩ : ∃ p, put vn = p := ⟨_, rfl⟩
        rw [hpk] at hPk hkl hTe
        rw [hpv] at hPv hvl hTv
        obtain ⟨mk, hmk⟩ : ∃ m, pk.length = m := ⟨_, rfl⟩
        obtain ⟨mv, hmv⟩ : ∃ m, pv.length = m := ⟨_, rfl⟩
        have HMK := hide hmk
        have HMV := hide hmv
        have hwk : IntKind.u64.wrap (kn : Int) = (kn : Int) := by rw [IntKind.wrap_u64]; omega
        have hwv : IntKind.u64.wrap (vn : Int) = (vn : Int) := by rw [IntKind.wrap_u64]; omega
        have HKN := hide hkn
        have HVN := hide hvn
        have hkn' : (kn : Int) ≤ 96 := by omega
        have hvn' : (vn : Int) ≤ 512 := by omega
        have hmk9 : mk ≤ 9 := by omega
        have hmv9 : mv ≤ 9 := by omega
        have hks : (key.size : Int) = (kn : Int) := by omega
        have hvs : (val.size : Int) = (vn : Int) := by omega
        have hks' : key.size = kn := hkn
        have hvs' : val.size = vn := hvn
        have hl2 : ∀ kd : UInt8, (pp ++ pre).length + [kd].length ≤ 140737488355328 := fun kd => by simp only [List.length_singleton]; omega
        have HL2 := hide hl2
        have hl3 : ∀ kd : UInt8, ((pp ++ pre) ++ [kd]).length + pk.length ≤ 140737488355328 := fun kd => by rw [List.length_append]; simp only [List.length_singleton]; omega
        have HL3 := hide hl3
        have hl4 : ∀ kd : UInt8, (((pp ++ pre) ++ [kd]) ++ pk).length + key.size ≤ 140737488355328 := fun kd => by rw [List.length_append, List.length_append]; simp only [List.length_singleton]; omega
        have HL4 := hide hl4
        have hl5 : ∀ kd : UInt8, ((((pp ++ pre) ++ [kd]) ++ pk) ++ bl key).length + pv.length ≤ 140737488355328 := fun kd => by rw [List.length_append, List.length_append, List.length_append, bl_length]; simp only [List.length_singleton]; omega
        have HL5 := hide hl5
        have hl6 : ∀ kd : UInt8, (((((pp ++ pre) ++ [kd]) ++ pk) ++ bl key) ++ pv).length + val.size ≤ 140737488355328 := fun kd => by rw [List.length_append, List.length_append, List.length_append, List.length_append, bl_length]; simp only [List.length_singleton]; omega
        have HL6 := hide hl6
        clear hl2 hl3 hl4 hl5 hl6 hkn hvn hpk hpv hmk hmv hkl hvl hkv hvv hPn
        cases del with
        | true =>
          have hx1 : encC (key, true, val) = [2] ++ encT key := by simp [encC]
          have HTk : Hid (pp ++ encCs (l.take (k + 1)) = (((pp ++ pre) ++ [2]) ++ pk) ++ bl key) := by rw [hTk, hx1, hTe]; exact hide (by simp only [List.append_assoc])
          clear hTk hx1 hck hTe hTv
          have HO2 : OwB ((wr.alloc (.cells #[.string key, .bool true, .string val] 35)).alloc (.cells #[.int .u8 2] 5)) w1.heap.size u5 (pp ++ pre) := HO1.below (below_alloc _ _)
          have HR2 : RdB ((wr.alloc (.cells #[.string key, .bool true, .string val] 35)).alloc (.cells #[.int .u8 2] 5)) (some ⟨wr.heap.size + 1, 0, none⟩) 1 [2] := by
            have h := lit1 (wr.alloc (.cells #[.string key, .bool true, .string val] 35)) 2 2 rfl
            rw [World.size_alloc] at h
            exact h
          have HB2 : Below w1.heap.size w1 ((wr.alloc (.cells #[.string key, .bool true, .string val] 35)).alloc (.cells #[.int .u8 2] 5)) := HB1.alloc HB1.size _
          have X2 : Cb ((wr.alloc (.cells #[.string key, .bool true, .string val] 35)).alloc (.cells #[.int .u8 2] 5)) wr.heap.size (key, true, val) := blk_alloc X1 _
          go_wp2_with (first | (at_builtin; refine app_row (w0 := w1) w1.heap.size rfl (.tmp 38) (.tmp 40) rfl u5 (pp ++ pre) [2] _ 1 (by rfl) (by rfl) HO2 HR2 HB2 HB2.size (HL2.out 2) ?_; intro v3 w3 HO3 HB3 hg3 _; have X3 := Cb.grown X2 HO2 hg3; obtain ⟨y0, y1, y2⟩ := X3.read) | (go_at_call 44; (with_reducible refine (hPk _).mono ?_); rintro e w4 ⟨v4, rfl, HO4, HB4⟩; obtain ⟨A4, c4, hv4, hr4⟩ := HO4.rd; rw [HMK.out] at hv4; subst hv4; replace HO3 := HO3.below HB4; have HB5 := HB3.trans (HB4.mono HB3.size); have X4 : Cb w4 wr.heap.size (key, true, val) := blk_below X3 HB4) | (at_builtin; refine app_row (w0 := w1) w1.heap.size rfl (.tmp 42) (.tmp 47) rfl v3 ((pp ++ pre) ++ [2]) pk A4 c4 (by rfl) (by rw [HMK.out]; rfl) HO3 hr4 HB5 HB5.size (HL3.out 2) ?_; intro v6 w6 HO6 HB6 hg6 _; have X6 := Cb.grown X4 HO3 hg6; obtain ⟨z0, z1, z2⟩ := Cb.read X6) | (at_builtin; refine app_str (w0 := w1) w1.heap.size rfl (.tmp 49) (.tmp 51) rfl v6 (((pp ++ pre) ++ [2]) ++ pk) key (by rfl) (by rfl) HO6 HB6 HB6.size (HL4.out 2) ?_; intro v7 w7 HO7 HB7 hg7; have X7 := Cb.grown X6 HO6 hg7; obtain ⟨y70, y71, y72⟩ := Cb.read X7))
          go_roundw
          case rel => exact ⟨k + 1, by omega, by go_num, by rw [HTk.out]; exact HO7, HB7⟩
          case measure => simp [intOf]; omega
        | false =>
          have hx1 : encC (key, false, val) = [1] ++ (encT key ++ encT val) := by simp [encC]
          have HTk : Hid (pp ++ encCs (l.take (k + 1)) = (((((pp ++ pre) ++ [1]) ++ pk) ++ bl key) ++ pv) ++ bl val) := by rw [hTk, hx1, hTe, hTv]; exact hide (by simp only [List.append_assoc])
          clear hTk hx1 hck hTe hTv
          have HO2 : OwB ((wr.alloc (.cells #[.string key, .bool false, .string val] 35)).alloc (.cells #[.int .u8 1] 5)) w1.heap.size u5 (pp ++ pre) := HO1.below (below_alloc _ _)
          have HR2 : RdB ((wr.alloc (.cells #[.string key, .bool false, .string val] 35)).alloc (.cells #[.int .u8 1] 5)) (some ⟨wr.heap.size + 1, 0, none⟩) 1 [1] := by
            have h := lit1 (wr.alloc (.cells #[.string key, .bool false, .string val] 35)) 1 1 rfl
            rw [World.size_alloc] at h
            exact h
          have HB2 : Below w1.heap.size w1 ((wr.alloc (.cells #[.string key, .bool false, .string val] 35)).alloc (.cells #[.int .u8 1] 5)) := HB1.alloc HB1.size _
          have X2 : Cb ((wr.alloc (.cells #[.string key, .bool false, .string val] 35)).alloc (.cells #[.int .u8 1] 5)) wr.heap.size (key, false, val) := blk_alloc X1 _
          go_wp2_with (first | (at_builtin; refine app_row (w0 := w1) w1.heap.size rfl (.tmp 38) (.tmp 40) rfl u5 (pp ++ pre) [1] _ 1 (by rfl) (by rfl) HO2 HR2 HB2 HB2.size (HL2.out 1) ?_; intro v3 w3 HO3 HB3 hg3 _; have X3 := Cb.grown X2 HO2 hg3; obtain ⟨y0, y1, y2⟩ := X3.read) | (go_at_call 44; (with_reducible refine (hPk _).mono ?_); rintro e w4 ⟨v4, rfl, HO4, HB4⟩; obtain ⟨A4, c4, hv4, hr4⟩ := HO4.rd; rw [HMK.out] at hv4; subst hv4; replace HO3 := HO3.below HB4; have HB5 := HB3.trans (HB4.mono HB3.size); have X4 : Cb w4 wr.heap.size (key, false, val) := blk_below X3 HB4) | (at_builtin; refine app_row (w0 := w1) w1.heap.size rfl (.tmp 42) (.tmp 47) rfl v3 ((pp ++ pre) ++ [1]) pk A4 c4 (by rfl) (by rw [HMK.out]; rfl) HO3 hr4 HB5 HB5.size (HL3.out 1) ?_; intro v6 w6 HO6 HB6 hg6 _; have X6 := Cb.grown X4 HO3 hg6; obtain ⟨z0, z1, z2⟩ := Cb.read X6) | (at_builtin; refine app_str (w0 := w1) w1.heap.size rfl (.tmp 49) (.tmp 51) rfl v6 (((pp ++ pre) ++ [1]) ++ pk) key (by rfl) (by rfl) HO6 HB6 HB6.size (HL4.out 1) ?_; intro v7 w7 HO7 HB7 hg7; have X7 := Cb.grown X6 HO6 hg7; obtain ⟨y70, y71, y72⟩ := Cb.read X7) | (go_at_call 44; (with_reducible refine (hPv _).mono ?_); rintro e w8 ⟨v8, rfl, HO8, HB8⟩; obtain ⟨A8, c8, hv8, hr8⟩ := HO8.rd; rw [HMV.out] at hv8; subst hv8; replace HO7 := HO7.below HB8; have HB9 := HB7.trans (HB8.mono HB7.size); have X8 : Cb w8 wr.heap.size (key, false, val) := blk_below X7 HB8) | (at_builtin; refine app_row (w0 := w1) w1.heap.size rfl (.tmp 56) (.tmp 61) rfl v7 ((((pp ++ pre) ++ [1]) ++ pk) ++ bl key) pv A8 c8 (by rfl) (by rw [HMV.out]; rfl) HO7 hr8 HB9 HB9.size (HL5.out 1) ?_; intro v10 w10 HO10 HB10 hg10 _; have X10 := Cb.grown X8 HO7 hg10; obtain ⟨z100, z101, z102⟩ := Cb.read X10) | (at_builtin; refine app_str (w0 := w1) w1.heap.size rfl (.tmp 63) (.tmp 65) rfl v10 (((((pp ++ pre) ++ [1]) ++ pk) ++ bl key) ++ pv) val (by rfl) (by rfl) HO10 HB10 HB10.size (HL6.out 1) ?_; intro v11 w11 HO11 HB11 hg11))
          go_roundw
          case rel => exact ⟨k + 1, by omega, by go_num, by rw [HTk.out]; exact HO11, HB11⟩
          case measure => simp [intOf]; omega
      · obtain rfl : k = n := by omega
        have hTa : pp ++ encCs (l.take k) = pp ++ encCs l := by rw [List.take_of_length_le (by rw [HN.out]; exact Nat.le_refl _)]
        rw [hTa, ← HE.out] at HO
        clear hTa hxl hEl
        go_wp2
        go_ret2
        exact ⟨_, rfl, HO.lower hsz1, B1.trans (HB.mono hsz1)⟩)
set_option maxRecDepth 100000 in
set_option maxHeartbeats 800000 in
theorem rEncode_any (q : Int) (A : Option Addr) (c n : Nat) (l : List Chg) (w : World) (hn : l.length = n) (hr : RdC w A c l) (hl : l.length ≤ 9223372036854775806) :
    Calls Try.prog 30 #[.agg #[.int .i64 q, .slice A n c]] w fun e w' => ∃ v, e = .returned (.tuple #[v, .int .i64 (chkB q l)]) ∧ OwB w' w.heap.size v (encX q l) ∧ Below w.heap.size w w' := by
  subst hn
  by_cases hk : chkB q l = 0
  · rw [encX, if_pos hk, hk]
    exact rEncode_ok q A c l w hr hk
  · have hCk := fun W (h : RdC W A c l) => rCheck_any q A c l.length l W rfl h hl
    rw [encX, if_neg hk]
    obtain ⟨n, hn⟩ : ∃ n, l.length = n := ⟨_, rfl⟩
    rw [hn] at hCk hl ⊢
    generalize chkB q l = z at *
    clear hn
    have hr0 := hr.below (below_alloc w (.cells #[.int .i64 q, .slice A n c] 24))
    have X0 := Bx.new w q (.slice A n c) 24
    have B0 := below_alloc w (.cells #[.int .i64 q, .slice A n c] 24)
    obtain ⟨p0, p1', p2', p3⟩ := X0.read
    go_enter Try.func30, Try.ntmps30
    go_wp2_with (first | (go_at_call 13; (with_reducible refine (hCk _ hr0).mono ?_); rintro e w1 ⟨rfl, HB1⟩; have B1 := B0.trans (HB1.mono B0.size)))
    go_ret2
    exact ⟨_, rfl, OwB.zero _ _, B1⟩
end Go.Proofs.Ytebefonohemlfaa
end

section
/- Wal: the walks of Add, the program's and the reference's. -/
namespace Go.Proofs.Ytebefonohemlfaa
open Go.RowKit Go.Proofs.YtebefonohemlfaaW.PrintWords
set_option linter.unusedVariables false

def addX (log : List UInt8) (q : Int) (l : List Chg) : List UInt8 := if chkB q l = 0 then log ++ putFX 1 (encB q l) else []
theorem putFE_enc (q : Int) (l : List Chg) (h : chkB q l = 0) : putFE 1 (encB q l).length = 0 ∧ (encB q l).length ≤ 40146 := by
  have h1 := encX_length q l
  rw [encX, if_pos h] at h1
  refine ⟨?_, h1⟩
  unfold putFE
  rw [if_neg (by decide), if_neg (by omega)]
theorem putFX_enc (q : Int) (l : List Chg) (h : chkB q l = 0) : (putFX 1 (encB q l)).length ≤ 40160 := by
  obtain ⟨h1, h2⟩ := putFE_enc q l h
  rw [putFX, if_pos h1, guarded_length, bodyF_length]
  have := vsize_le (encB q l).length
  omega
set_option maxRecDepth 100000 in
set_option maxHeartbeats 1600000 in
theorem Add_any (B : Option Addr) (d : Nat) (log : List UInt8) (q : Int) (A : Option Addr) (c n m : Nat) (l : List Chg) (w : World) (hn : l.length = n) (hm : log.length = m) (hb : RdB w B d log) (hr : RdC w A c l) (hl : l.length ≤ 9223372036854775806) (hlog : log.length ≤ 140737488300000) :
    Calls Try.prog 15 #[.slice B m d, .agg #[.int .i64 q, .slice A n c]] w fun e w' => ∃ v, e = .returned (.tuple #[v, .int .i64 (chkB q l)]) ∧ OwB w' w.heap.size v (addX log q l) ∧ Below w.heap.size w w' := by
  have hE := fun W (h : RdC W A c l) => Encode_any q A c n l W hn h hl
  subst hm
  have hr0 := hr.below (below_alloc w (.cells #[.int .i64 q, .slice A n c] 30))
  have hb0 := hb.below (below_alloc w (.cells #[.int .i64 q, .slice A n c] 30))
  have X0 := Bx.new w q (.slice A n c) 30
  have B0 := below_alloc w (.cells #[.int .i64 q, .slice A n c] 30)
  obtain ⟨p0, p1', p2', p3⟩ := X0.read
  by_cases hk : chkB q l = 0
  · obtain ⟨h1, h2⟩ := putFE_enc q l hk
    have h3 := putFX_enc q l hk
    rw [encX, if_pos hk, hk] at hE
    have hA : addX log q l = log ++ putFX 1 (encB q l) := by rw [addX, if_pos hk]
    have HA := hide hA
    rw [hk]
    have hP := fun A c W (h : RdB W A c (encB q l)) => FPut_any 1 A c (encB q l) W h (by decide)
    rw [h1] at hP
    unfold fil at hP
    generalize putFX 1 (encB q l) = P at *
    generalize encB q l = E at *
    obtain ⟨x, hx⟩ : ∃ x, E.length = x := ⟨_, rfl⟩
    obtain ⟨y, hy⟩ : ∃ y, P.length = y := ⟨_, rfl⟩
    obtain ⟨z, hz⟩ : ∃ z, log.length = z := ⟨_, rfl⟩
    rw [hx] at hP
    rw [hz]
    have HX := hide hx
    have HY := hide hy
    have HZ := hide hz
    have hsum : log.length + P.length ≤ 140737488355328 := by omega
    have HS := hide hsum
    clear hn hl hk h1 h2 h3 hA hx hy hz hsum hlog
    go_enter Try.func15, Try.ntmps15
    go_wp2_with (first | (go_at_call 19; (with_reducible refine (hE _ hr0).mono ?_); rintro e w1 ⟨v1, rfl, HO1, HB1⟩; obtain ⟨A1, c1, hv1, hr1⟩ := HO1.rd; rw [HX.out] at hv1; subst hv1; have B1 := B0.trans (HB1.mono B0.size); have hb1 := hb0.below HB1) | (go_at_call 28; (with_reducible refine (hP _ _ _ hr1).mono ?_); rintro e w2 ⟨v2, rfl, HO2, HB2⟩; obtain ⟨A2, c2, hv2, hr2⟩ := HO2.rd; rw [HY.out] at hv2; subst hv2; have B2 := B1.trans (HB2.mono B1.size); have hb2 := hb1.below HB2) | (go_at_call 29; (with_reducible refine (Concat_two _ _ _ _ _ _ _ log P w2 rfl hb2 hr2 HZ.out HY.out HS.out).mono ?_); rintro e w3 ⟨v3, rfl, HO3, HB3⟩; have B3 := B2.trans (HB3.mono B2.size)))
    go_ret2
    rw [← HA.out] at HO3
    exact ⟨_, rfl, HO3.lower B2.size, B3⟩
  · have hA : addX log q l = [] := by rw [addX, if_neg hk]
    rw [hA]
    rw [encX, if_neg hk] at hE
    generalize chkB q l = z at *
    obtain ⟨y, hy⟩ : ∃ y, log.length = y := ⟨_, rfl⟩
    rw [hy]
    clear hn hl hlog hA hy
    go_enter Try.func15, Try.ntmps15
    go_wp2_with (first | (go_at_call 19; (with_reducible refine (hE _ hr0).mono ?_); rintro e w1 ⟨v1, rfl, HO1, HB1⟩; have B1 := B0.trans (HB1.mono B0.size)))
    go_ret2
    exact ⟨_, rfl, OwB.zero _ _, B1⟩
set_option maxRecDepth 100000 in
set_option maxHeartbeats 1600000 in
theorem rAdd_any (B : Option Addr) (d : Nat) (log : List UInt8) (q : Int) (A : Option Addr) (c n m : Nat) (l : List Chg) (w : World) (hn : l.length = n) (hm : log.length = m) (hb : RdB w B d log) (hr : RdC w A c l) (hl : l.length ≤ 9223372036854775806) (hlog : log.length ≤ 140737488300000) :
    Calls Try.prog 16 #[.slice B m d, .agg #[.int .i64 q, .slice A n c]] w fun e w' => ∃ v, e = .returned (.tuple #[v, .int .i64 (chkB q l)]) ∧ OwB w' w.heap.size v (addX log q l) ∧ Below w.heap.size w w' := by
  have hE := fun W (h : RdC W A c l) => rEncode_any q A c n l W hn h hl
  subst hm
  have hr0 := hr.below (below_alloc w (.cells #[.int .i64 q, .slice A n c] 24))
  have hb0 := hb.below (below_alloc w (.cells #[.int .i64 q, .slice A n c] 24))
  have X0 := Bx.new w q (.slice A n c) 24
  have B0 := below_alloc w (.cells #[.int .i64 q, .slice A n c] 24)
  obtain ⟨p0, p1', p2', p3⟩ := X0.read
  by_cases hk : chkB q l = 0
  · obtain ⟨h1, h2⟩ := putFE_enc q l hk
    have h3 := putFX_enc q l hk
    rw [encX, if_pos hk, hk] at hE
    have hA : addX log q l = log ++ putFX 1 (encB q l) := by rw [addX, if_pos hk]
    have HA := hide hA
    rw [hk]
    have hP := fun A c W (h : RdB W A c (encB q l)) => rFPut_any 1 A c (encB q l) W h
    rw [h1] at hP
    unfold fil at hP
    have hCp := fun W (h : RdB W B d log) => Copied_any B d log W h (by omega)
    generalize putFX 1 (encB q l) = P at *
    generalize encB q l = E at *
    obtain ⟨x, hx⟩ : ∃ x, E.length = x := ⟨_, rfl⟩
    obtain ⟨y, hy⟩ : ∃ y, P.length = y := ⟨_, rfl⟩
    obtain ⟨z, hz⟩ : ∃ z, log.length = z := ⟨_, rfl⟩
    rw [hx] at hP
    rw [hz] at hCp ⊢
    have HX := hide hx
    have HY := hide hy
    have hsum : log.length + P.length ≤ 140737488355328 := by omega
    have HS := hide hsum
    clear hn hl hk h1 h2 h3 hA hx hy hz hsum hlog
    go_enter Try.func16, Try.ntmps16
    go_wp2_with (first | (go_at_call 30; (with_reducible refine (hE _ hr0).mono ?_); rintro e w1 ⟨v1, rfl, HO1, HB1⟩; obtain ⟨A1, c1, hv1, hr1⟩ := HO1.rd; rw [HX.out] at hv1; subst hv1; have B1 := B0.trans (HB1.mono B0.size); have hb1 := hb0.below HB1) | (go_at_call 31; (with_reducible refine (hP _ _ _ hr1).mono ?_); rintro e w2 ⟨v2, rfl, HO2, HB2⟩; obtain ⟨A2, c2, hv2, hr2⟩ := HO2.rd; rw [HY.out] at hv2; subst hv2; have B2 := B1.trans (HB2.mono B1.size); have hb2 := hb1.below HB2) | (go_at_call 32; (with_reducible refine (hCp _ hb2).mono ?_); rintro e w3 ⟨v3, rfl, HO3, HB3⟩; have B3 := B2.trans (HB3.mono B2.size); have hr3 := hr2.below HB3) | (at_builtin; refine app_row (w0 := w2) w2.heap.size rfl (.tmp 25) (.tmp 26) rfl v3 log P A2 c2 (by rfl) (by rw [HY.out]; rfl) HO3 hr3 HB3 HB3.size HS.out ?_; intro v4 w4 HO4 HB4 hg4 _; have B4 := B2.trans (HB4.mono B2.size)))
    go_ret2
    rw [← HA.out] at HO4
    exact ⟨_, rfl, HO4.lower B2.size, B4⟩
  · have hA : addX log q l = [] := by rw [addX, if_neg hk]
    rw [hA]
    rw [encX, if_neg hk] at hE
    generalize chkB q l = z at *
    obtain ⟨y, hy⟩ : ∃ y, log.length = y := ⟨_, rfl⟩
    rw [hy]
    clear hn hl hlog hA hy
    go_enter Try.func16, Try.ntmps16
    go_wp2_with (first | (go_at_call 30; (with_reducible refine (hE _ hr0).mono ?_); rintro e w1 ⟨v1, rfl, HO1, HB1⟩; have B1 := B0.trans (HB1.mono B0.size)))
    go_ret2
    exact ⟨_, rfl, OwB.zero _ _, B1⟩
end Go.Proofs.Ytebefonohemlfaa
end
