/- The contracts that the laws of this seat share: octets, sums, numbers, records. -/
import Derived.Test.YtebefonohemlfaaMgA
import Derived.WalkLawsBesides
import Derived.Deep.RegionLaw
import Derived.RegionDies
import Derived.Defers
import Derived.Recover
import Derived.Deep.RegionHeld3
set_option linter.unusedVariables false
set_option linter.unusedSimpArgs false
section
/- Wal: the walk of Entries. -/
namespace Go.Proofs.Ytebefonohemlfaa
open Go.RowKit Go.Proofs.YtebefonohemlfaaW.PrintWords
set_option linter.unusedVariables false

def entC (q : Int) (i : Nat) (c : Chg) : Ent := (c.1, q + (i : Int), if c.2.1 = true then 2 else 1, c.2.2)
def entL (q : Int) (l : List Chg) : List Ent := (List.range l.length).map fun i => entC q i (l.getD i zChg)
theorem entL_length (q : Int) (l : List Chg) : (entL q l).length = l.length := by simp [entL]
theorem entL_get (q : Int) (l : List Chg) (i : Nat) (h : i < l.length) : (entL q l).getD i zEnt = entC q i (l.getD i zChg) := by
  rw [List.getD_eq_getElem?_getD, entL, List.getElem?_map, List.getElem?_range h]
  rfl
theorem entL_take (q : Int) (l : List Chg) (k : Nat) (h : k < l.length) : entL q (l.take (k + 1)) = entL q (l.take k) ++ [entC q k (l.getD k zChg)] := by
  have e : l.getD k zChg = l[k] := by rw [List.getD_eq_getElem?_getD, List.getElem?_eq_getElem h]; rfl
  have hl : (l.take k).length = k := by rw [List.length_take]; omega
  rw [List.take_succ_eq_append_getElem h, entL, entL, List.length_append, List.length_singleton, List.range_succ, List.map_append, hl]
  congr 1
  · apply List.map_congr_left
    intro j hj
    have hj' := List.mem_range.1 hj
    rw [List.getD_eq_getElem?_getD, List.getElem?_append_left (by omega), ← List.getD_eq_getElem?_getD]
  · rw [e]
    simp only [List.map_cons, List.map_nil]
    rw [List.getD_eq_getElem?_getD, List.getElem?_append_right (by omega), hl]
    simp
set_option maxRecDepth 100000 in
set_option maxHeartbeats 1600000 in
theorem Entries_ok (q : Int) (A : Option Addr) (c : Nat) (l : List Chg) (w : World) (hr : RdC w A c l) (hk : chkB q l = 0) :
    Calls Try.prog 10 #[.agg #[.int .i64 q, .slice A l.length c]] w fun e w' => ∃ v, e = .returned (.tuple #[v, .int .i64 0]) ∧ OwE w' w.heap.size v (entL q l) ∧ Below w.heap.size w w' := by
  obtain ⟨q1, q2, h1, h64, hall⟩ := chkB_ok q l hk
  have hCk := fun W (h : RdC W A c l) => Check_any q A c l.length l W rfl h (by omega)
  rw [hk] at hCk
  have HT := hide (entL_take q l)
  have hEL := fun k => entL_length q (l.take k)
  have HEL := hide hEL
  obtain ⟨n, hn⟩ : ∃ n, l.length = n := ⟨_, rfl⟩
  have HN := hide hn
  rw [hn] at hCk h1 h64 ⊢
  have hm := hr.max
  rw [hn] at hm
  clear hk hn hall hEL
  have hr0 := hr.below (below_alloc w (.cells #[.int .i64 q, .slice A n c] 30))
  have X0 := Bx.new w q (.slice A n c) 30
  have B0 := below_alloc w (.cells #[.int .i64 q, .slice A n c] 30)
  obtain ⟨p0, p1', p2', p3⟩ := X0.read
  go_enter Try.func10, Try.ntmps10
  go_wp2_with (first | (go_at_call 26; (with_reducible refine (hCk _ hr0).mono ?_); rintro e w1 ⟨rfl, HB1⟩; have X1 := X0.below HB1; have B1 := B0.trans (HB1.mono B0.size); have hr1 := hr0.below HB1; obtain ⟨s0, s1, s2, s3⟩ := X1.read))
  have hsz1 := B1.size
  go_loopw [5, 17] (fun out i wr => ∃ k : Nat, k ≤ n ∧ i = .int .i64 (k : Int) ∧ OwE wr w1.heap.size out (entL q (l.take k)) ∧ Below w1.heap.size w1 wr) (fun _ i _ => n - (intOf i).toNat)
  case atStart => exact ⟨0, by omega, rfl, Ow.zero _ _ _ _, Below.refl _ _⟩
  case round =>
    obtain ⟨k, hk, rfl, HO, HB⟩ := hrel
    have hel := HEL.out k
    by_cases hlt : k < n
    · have hlti : (k : Int) < (n : Int) := by omega
      obtain ⟨ad, rfl, e0, e1, e2⟩ := RdC.at3 (hr1.below HB) k (by rw [HN.out]; exact hlt)
      have hTk := HT.out k (by rw [HN.out]; exact hlt)
      have hl48 : ((entL q (l.take k)).length + 1) * 48 ≤ 140737488355328 := by rw [hel, List.length_take]; omega
      have HL := hide hl48
      generalize l.getD k zChg = x at *
      obtain ⟨key, del, val⟩ := x
      simp only at e0 e1 e2
      have t0 : wr.cell? ⟨w.heap.size, 0, none⟩ = some (.int .i64 q) := (HB.cell (World.block_lt_of_cell? w1 _ s0)).trans s0
      have hlt0 := X1.lt
      have hsk := HB.size
      have hlt1 : w.heap.size < wr.heap.size := by omega
      have hne1 : ¬ w.heap.size = wr.heap.size := by omega
      have hne2 : ¬ w.heap.size = wr.heap.size + 1 := by omega
      generalize entL q (l.take k) = es at *
      clear hel hl48
      cases del with
      | true =>
        have HTk : Hid (entL q (l.take (k + 1)) = es ++ [((key, q + (k : Int), 2, val) : Ent)]) := by rw [hTk]; exact hide rfl
        clear hTk
        have b1 : Below wr.heap.size wr ((wr.alloc (.cells #[.string key, .bool true, .string val] 35)).alloc (.cells #[.string key, .int .i64 (q + (k : Int)), .int .i64 2, .string val] 37)) := ((Below.refl _ _).alloc (Nat.le_refl _) _).alloc (by simp) _
        have HO2 := HO.below b1
        have HB2 := HB.trans (b1.mono HB.size)
        go_wp2_with (first | (at_builtin; refine app_ent (w0 := w1) (W := (wr.alloc (.cells #[.string key, .bool true, .string val] 35)).alloc (.cells #[.string key, .int .i64 (q + (k : Int)), .int .i64 2, .string val] 37)) w1.heap.size rfl (.tmp 34) (.tmp 36) rfl u5 es (key, q + (k : Int), 2, val) (by rfl) (by simp [Act.eval, Array.getD]) HO2 HB2 HB2.size HL.out ?_; intro v5 w5 HO5 HB5 hg5 hat5))
        go_roundw
        case rel => exact ⟨k + 1, by omega, by go_num, by rw [HTk.out]; exact HO5, HB5⟩
        case measure => simp [intOf]; omega
      | false =>
        have HTk : Hid (entL q (l.take (k + 1)) = es ++ [((key, q + (k : Int), 1, val) : Ent)]) := by rw [hTk]; exact hide rfl
        clear hTk
        have b1 : Below wr.heap.size wr ((wr.alloc (.cells #[.string key, .bool false, .string val] 35)).alloc (.cells #[.string key, .int .i64 (q + (k : Int)), .int .i64 1, .string val] 37)) := ((Below.refl _ _).alloc (Nat.le_refl _) _).alloc (by simp) _
        have HO2 := HO.below b1
        have HB2 := HB.trans (b1.mono HB.size)
        go_wp2_with (first | (at_builtin; refine app_ent (w0 := w1) (W := (wr.alloc (.cells #[.string key, .bool false, .string val] 35)).alloc (.cells #[.string key, .int .i64 (q + (k : Int)), .int .i64 1, .string val] 37)) w1.heap.size rfl (.tmp 34) (.tmp 36) rfl u5 es (key, q + (k : Int), 1, val) (by rfl) (by simp [Act.eval, Array.getD]) HO2 HB2 HB2.size HL.out ?_; intro v5 w5 HO5 HB5 hg5 hat5))
        go_roundw
        case rel => exact ⟨k + 1, by omega, by go_num, by rw [HTk.out]; exact HO5, HB5⟩
        case measure => simp [intOf]; omega
    · obtain rfl : k = n := by omega
      rw [List.take_of_length_le (by rw [HN.out]; exact Nat.le_refl _)] at HO
      go_wp2
      go_ret2
      exact ⟨_, rfl, HO.lower hsz1, B1.trans (HB.mono hsz1)⟩
set_option maxRecDepth 100000 in
set_option maxHeartbeats 800000 in
theorem Entries_any (q : Int) (A : Option Addr) (c n : Nat) (l : List Chg) (w : World) (hn : l.length = n) (hr : RdC w A c l) (hl : l.length ≤ 9223372036854775806) :
    Calls Try.prog 10 #[.agg #[.int .i64 q, .slice A n c]] w fun e w' => ∃ v, e = .returned (.tuple #[v, .int .i64 (chkB q l)]) ∧ OwE w' w.heap.size v (if chkB q l = 0 then entL q l else []) ∧ Below w.heap.size w w' := by
  subst hn
  by_cases hk : chkB q l = 0
  · rw [if_pos hk, hk]
    exact Entries_ok q A c l w hr hk
  · have hCk := fun W (h : RdC W A c l) => Check_any q A c l.length l W rfl h hl
    rw [if_neg hk]
    obtain ⟨n, hn⟩ : ∃ n, l.length = n := ⟨_, rfl⟩
    rw [hn] at hCk hl ⊢
    generalize chkB q l = z at *
    clear hn
    have hr0 := hr.below (below_alloc w (.cells #[.int .i64 q, .slice A n c] 30))
    have X0 := Bx.new w q (.slice A n c) 30
    have B0 := below_alloc w (.cells #[.int .i64 q, .slice A n c] 30)
    obtain ⟨p0, p1', p2', p3⟩ := X0.read
    go_enter Try.func10, Try.ntmps10
    go_wp2_with (first | (go_at_call 26; (with_reducible refine (hCk _ hr0).mono ?_); rintro e w1 ⟨rfl, HB1⟩; have B1 := B0.trans (HB1.mono B0.size)))
    go_ret2
    exact ⟨_, rfl, Ow.zero _ _ _ _, B1⟩
/-- the page's example -/
theorem enc_ex : chkB 1 [((⟨#[97]⟩ : ByteArray), false, (⟨#[120]⟩ : ByteArray))] = 0 ∧ encX 1 [((⟨#[97]⟩ : ByteArray), false, (⟨#[120]⟩ : ByteArray))] = [1, 1, 1, 1, 97, 1, 120] := by decide +kernel
theorem str_ex : ((strB [1, 1, 1, 1, 97, 1, 120]).toList == ({ data := #[1, 1, 1, 1, 97, 1, 120] } : ByteArray).toList) = true := by decide +kernel
set_option maxRecDepth 100000 in
set_option maxHeartbeats 800000 in
theorem alive_any (w : World) : Calls Try.prog 9 #[] w fun e w' => e = .returned (.bool true) ∧ Below w.heap.size w w' := by
  obtain ⟨h1, h2⟩ := enc_ex
  have hr : RdC (w.alloc (.cells #[.string ⟨#[97]⟩, .bool false, .string ⟨#[120]⟩] 35)) (some ⟨w.heap.size, 0, none⟩) 1 [((⟨#[97]⟩ : ByteArray), false, (⟨#[120]⟩ : ByteArray))] := by
    refine ⟨by simp, rfl, by simp, fun _ => ⟨_, rfl, fun j p hj => ?_⟩⟩
    have hj0 : j = 0 := by
      have := (List.getElem?_eq_some_iff.1 hj).1
      simp at this
      exact this
    subst hj0
    have hp : ((⟨#[97]⟩ : ByteArray), false, (⟨#[120]⟩ : ByteArray)) = p := by simpa using hj
    subst hp
    refine ⟨_, rfl, kChg_mk _ _, fun i u hu => ?_⟩
    rw [add_plain]
    show (w.alloc (.cells #[.string ⟨#[97]⟩, .bool false, .string ⟨#[120]⟩] 35)).cell? ⟨w.heap.size, 0 * 3 + i, none⟩ = _
    rw [World.cell?_alloc_mark, Nat.zero_mul, Nat.zero_add]
    rw [← hu]
    simp
  have hE := Encode_any 1 _ 1 1 _ _ rfl hr (by simp)
  rw [h1, h2] at hE
  have hst := str_ex
  have hC := fun A c W (h : RdB W A c [1, 1, 1, 1, 97, 1, 120]) => h.toStr (P := Try.prog) 39 5 9 Try.underlying39 Try.underlying5 Try.underlying9
  clear h1 h2
  go_enter Try.func9, Try.ntmps9
  go_wp2_with (first | (go_at_call 19; refine hE.mono ?_; rintro e w1 ⟨v1, rfl, HO1, HB1⟩; obtain ⟨A1, c1, hv1, hr1⟩ := HO1.rd; subst hv1; have hc1 : Sem.run Try.prog (convert 39 9 (.slice A1 7 c1)) w1 = .ok (.string (strB [1, 1, 1, 1, 97, 1, 120])) w1 := hC A1 c1 w1 hr1) | (go_at_call 12; refine (num_any _ _).mono ?_; rintro e w' ⟨rfl, rfl⟩))
  go_ret
  refine ⟨?_, ?_⟩
  · have hb : ((strB [1, 1, 1, 1, 97, 1, 120]).toList == [1, 1, 1, 1, 97, 1, 120]) = true := by decide +kernel
    exact congrArg (fun b => Ending.returned (Value.bool b)) hb
  exact (below_alloc w _).trans (HB1.mono (by simp))
end Go.Proofs.Ytebefonohemlfaa
end

section
/- Wal: the walk of the reference's Encode. -/
namespace Go.Proofs.Ytebefonohemlfaa
open Go.RowKit Go.Proofs.YtebefonohemlfaaW.PrintWords
set_option linter.unusedVariables false

set_option maxRecDepth 100000 in
set_option maxHeartbeats 3200000 in
theorem rEncode_ok (q : Int) (A : Option Addr) (c : Nat) (l : List Chg) (w : World) (hr : RdC w A c l) (hk : chkB q l = 0) :
    Calls Try.prog 30 #[.agg #[.int .i64 q, .slice A l.length c]] w fun e w' => ∃ v, e = .returned (.tuple #[v, .int .i64 0]) ∧ OwB w' w.heap.size v (encB q l) ∧ Below w.heap.size w w' := by
  obtain ⟨q1, q2, h1, h64, hall⟩ := chkB_ok q l hk
  have hCk := fun W (h : RdC W A c l) => rCheck_any q A c l.length l W rfl h (by omega)
  rw [hk] at hCk
  obtain ⟨qn, rfl⟩ : ∃ qn : Nat, q = (qn : Int) := ⟨q.toNat, by omega⟩
  have hP1 := fun W => rPut_any qn (by omega) W
  have hP2 := fun W => rPut_any l.length (by omega) W
  have hPn := fun n (h : n ≤ 1000) W => rPut_any n (by omega) W
  have hpl1 := put_length qn
  have hpl2 := put_length l.length
  have hv1 := vsize_le qn
  have hv2 := vsize_le l.length
  have hE : encB (qn : Int) l = (put qn ++ put l.length) ++ encCs l := by rw [encB, Int.toNat_natCast]
  have HE := hide hE
  have HT := hide (encCs_take l)
  have HTL := hide (fun k => encCs_take_len l k hall h64)
  have HALL := hide hall
  obtain ⟨n, hn⟩ : ∃ n, l.length = n := ⟨_, rfl⟩
  have HN := hide hn
  rw [hn] at hCk hP2 HE h1 h64 hpl2 hv2 ⊢
  obtain ⟨p1, hp1⟩ : ∃ p, put qn = p := ⟨_, rfl⟩
  obtain ⟨p2, hp2⟩ : ∃ p, put n = p := ⟨_, rfl⟩
  rw [hp1] at hP1 HE hpl1
  rw [hp2] at hP2 HE hpl2
  have hpp : p1.length + p2.length ≤ 140737488355328 := by omega
  have HPP := hide hpp
  have hplen : (p1 ++ p2).length ≤ 18 := by rw [List.length_append]; omega
  obtain ⟨m2, hm2⟩ : ∃ m, p2.length = m := ⟨_, rfl⟩
  have HM2 := hide hm2
  have hw1 : IntKind.u64.wrap (qn : Int) = (qn : Int) := by rw [IntKind.wrap_u64]; omega
  have hw2 : IntKind.u64.wrap (n : Int) = (n : Int) := by rw [IntKind.wrap_u64]; omega
  have hm := hr.max
  rw [hn] at hm
  clear hk hE hn hp1 hp2 hpl1 hpl2 hm2 hall hv1 hv2 q1 hpp
  have hr0 := hr.below (below_alloc w (.cells #[.int .i64 (qn : Int), .slice A n c] 24))
  have X0 := Bx.new w (qn : Int) (.slice A n c) 24
  have B0 := below_alloc w (.cells #[.int .i64 (qn : Int), .slice A n c] 24)
  obtain ⟨p0, p1', p2', p3⟩ := X0.read
  go_enter Try.func30, Try.ntmps30
  go_wp2_with (first | (go_at_call 13; (with_reducible refine (hCk _ hr0).mono ?_); rintro e w1 ⟨rfl, HB1⟩; have X1 := X0.below HB1; have B1 := B0.trans (HB1.mono B0.size); have hr1 := hr0.below HB1; obtain ⟨s0, s1, s2, s3⟩ := X1.read))
  have hS0 : Below w1.heap.size w1 w1.drew ∧ w1.drew.cell? ⟨w.heap.size, 0, none⟩ = some (.int .i64 (qn : Int)) ∧ w1.drew.cell? ⟨w.heap.size, 1, none⟩ = some (.slice A n c) := ⟨(Below.refl _ _).drew, s0, s1⟩
  have hSk : ∀ W, Below w1.heap.size w1 W → W.cell? ⟨w.heap.size, 0, none⟩ = some (.int .i64 (qn : Int)) ∧ W.cell? ⟨w.heap.size, 1, none⟩ = some (.slice A n c) := fun W h => ⟨(h.cell (World.block_lt_of_cell? w1 _ s0)).trans s0, (h.cell (World.block_lt_of_cell? w1 _ s1)).trans s1⟩
  have hsz1 := B1.size
  go_region_held3 (fun w' => Below w1.heap.size w1 w' ∧ w'.cell? ⟨w.heap.size, 0, none⟩ = some (.int .i64 (qn : Int)) ∧ w'.cell? ⟨w.heap.size, 1, none⟩ = some (.slice A n c)) (first | exact hS0 | assumption | exact ⟨HBt4, hSk _ HBt4⟩ | exact ⟨HBt3, hSk _ HBt3⟩ | exact ⟨HBt2, hSk _ HBt2⟩) (first | (go_at_call 44; have hh := ‹Below w1.heap.size w1 _ ∧ _ ∧ _›; (with_reducible refine (hP1 _).mono ?_); rintro e w2 ⟨v2, rfl, HO2, HB2⟩; have HBt2 := hh.1.trans (HB2.mono hh.1.size); replace HO2 := HO2.lower hh.1.size) | (go_at_call 44; (with_reducible refine (hP2 _).mono ?_); rintro e w3 ⟨v3, rfl, HO3, HB3⟩; have HBt3 := HBt2.trans (HB3.mono HBt2.size); obtain ⟨A3, c3, hv3, hr3⟩ := HO3.rd; rw [HM2.out] at hv3; subst hv3; replace HO2 := HO2.below HB3) | ((refine step_row (w0 := w1) (W := w3) w1.heap.size (by rfl) (.tmp 17) (.tmp 22) rfl v2 p1 p2 A3 c3 (by rfl) (by rw [HM2.out]; rfl) HO2 hr3 HBt3 HBt3.size HPP.out ?_); intro v4 w4 HO4 HBt4 hg4))
  all_goals (
    have B4 := B1.trans (HBt4.mono hsz1)
    have HO4' := HO4
    have hr4 := hr1.below HBt4
    have h0l : (p1 ++ p2) = (p1 ++ p2) ++ encCs (l.take 0) := (by simp [encCs])
    rw [h0l] at HO4'
    have hSk4 : ∀ W, Below w1.heap.size w1 W → W.cell? ⟨w.heap.size, 1, none⟩ = some (.slice A n c) := fun W h => (hSk W h).2
    clear h0l hSk hS0 p0 p1' p2' p3 s0 s1 s2 s3 X1 X0 hr0 hP1 hP2 hCk hw1 hw2 hr3 HO2 HO3 HB2 HB3 HO4 HBt2 HBt3 hh q2 HM2 HPP
    generalize p1 ++ p2 = pp at *)
  all_goals (
    go_wp2
    go_loopw [5, 6] (fun out i wr => ∃ k : Nat, k ≤ n ∧ i = .int .i64 (k : Int) ∧ OwB wr w1.heap.size out (pp ++ encCs (l.take k)) ∧ Below w1.heap.size w1 wr) (fun _ i _ => n - (intOf i).toNat)
    case atStart => exact ⟨0, by omega, rfl, HO4', HBt4⟩
    case round =>
      obtain ⟨k, hk, rfl, HO, HB⟩ := hrel
      have hEl := HTL.out k
      have hxl : (pp ++ encCs (l.take k)).length ≤ 40200 := by rw [List.length_append]; omega
      have t1 := hSk4 _ HB
      by_cases hlt : k < n
      · have hlti : (k : Int) < (n : Int) := by omega
        obtain ⟨ad, rfl, e0, e1, e2⟩ := RdC.at3 (hr1.below HB) k (by rw [HN.out]; exact hlt)
        have hTk := HT.out k (by rw [HN.out]; exact hlt)
        have hck := HALL.out (l.getD k zChg) (by rw [List.getD_eq_getElem?_getD, List.getElem?_eq_getElem (by rw [HN.out]; exact hlt)]; exact List.getElem_mem _)
        generalize l.getD k zChg = x at *
        obtain ⟨key, del, val⟩ := x
        obtain ⟨c1', c2', c3', c4'⟩ := chkC_ok _ hck
        simp only at e0 e1 e2 c1' c2' c3' c4'
        have X1 : Cb (wr.alloc (.cells #[.string key, .bool del, .string val] 35)) wr.heap.size (key, del, val) := Cb.new wr (key, del, val)
        have b1 := below_alloc wr (.cells #[.string key, .bool del, .string val] 35)
        have HB1 := HB.trans (b1.mono HB.size)
        have HO1 := HO.below b1
        obtain ⟨x0, x1, x2⟩ := X1.read
        simp only at x0 x1 x2
        have hz1 := HB1.size
        generalize encCs (l.take k) = pre at *
        obtain ⟨kn, hkn⟩ : ∃ kn, key.size = kn := ⟨_, rfl⟩
        obtain ⟨vn, hvn⟩ : ∃ vn, val.size = vn := ⟨_, rfl⟩
        have hPk := hPn kn (by omega)
        have hPv := hPn vn (by omega)
        have hkl := put_length kn
        have hvl := put_length vn
        have hkv := vsize_le kn
        have hvv := vsize_le vn
        have hTe : encT key = put kn ++ bl key := by rw [encT, hkn]
        have hTv : encT val = put vn ++ bl val := by rw [encT, hvn]
        obtain ⟨pk, hpk⟩ : ∃ p, put kn = p := ⟨_, rfl⟩
        obtain ⟨pv, hpv⟩ : ∃ p, put vn = p := ⟨_, rfl⟩
        rw [hpk] at hPk hkl hTe
        rw [hpv] at hPv hvl hTv
        obtain ⟨mk, hmk⟩ : ∃ m, pk.length = m := ⟨_, rfl⟩
        obtain ⟨mv, hmv⟩ : ∃ m, pv.length = m := ⟨_, rfl⟩
        have HMK := hide hmk
        have HMV := hide hmv
        have hwk : IntKind.u64.wrap (kn : Int) = (kn : Int) := by rw [IntKind.wrap_u64]; omega
        have hwv : IntKind.u64.wrap (vn : Int) = (vn : Int) := by rw [IntKind.wrap_u64]; omega
        have HKN := hide hkn
        have HVN := hide hvn
        have hkn' : (kn : Int) ≤ 96 := by omega
        have hvn' : (vn : Int) ≤ 512 := by omega
        have hmk9 : mk ≤ 9 := by omega
        have hmv9 : mv ≤ 9 := by omega
        have hks : (key.size : Int) = (kn : Int) := by omega
        have hvs : (val.size : Int) = (vn : Int) := by omega
        have hks' : key.size = kn := hkn
        have hvs' : val.size = vn := hvn
        have hl2 : ∀ kd : UInt8, (pp ++ pre).length + [kd].length ≤ 140737488355328 := fun kd => by simp only [List.length_singleton]; omega
        have HL2 := hide hl2
        have hl3 : ∀ kd : UInt8, ((pp ++ pre) ++ [kd]).length + pk.length ≤ 140737488355328 := fun kd => by rw [List.length_append]; simp only [List.length_singleton]; omega
        have HL3 := hide hl3
        have hl4 : ∀ kd : UInt8, (((pp ++ pre) ++ [kd]) ++ pk).length + key.size ≤ 140737488355328 := fun kd => by rw [List.length_append, List.length_append]; simp only [List.length_singleton]; omega
        have HL4 := hide hl4
        have hl5 : ∀ kd : UInt8, ((((pp ++ pre) ++ [kd]) ++ pk) ++ bl key).length + pv.length ≤ 140737488355328 := fun kd => by rw [List.length_append, List.length_append, List.length_append, bl_length]; simp only [List.length_singleton]; omega
        have HL5 := hide hl5
        have hl6 : ∀ kd : UInt8, (((((pp ++ pre) ++ [kd]) ++ pk) ++ bl key) ++ pv).length + val.size ≤ 140737488355328 := fun kd => by rw [List.length_append, List.length_append, List.length_append, List.length_append, bl_length]; simp only [List.length_singleton]; omega
        have HL6 := hide hl6
        clear hl2 hl3 hl4 hl5 hl6 hkn hvn hpk hpv hmk hmv hkl hvl hkv hvv hPn
        cases del with
        | true =>
          have hx1 : encC (key, true, val) = [2] ++ encT key := by simp [encC]
          have HTk : Hid (pp ++ encCs (l.take (k + 1)) = (((pp ++ pre) ++ [2]) ++ pk) ++ bl key) := by rw [hTk, hx1, hTe]; exact hide (by simp only [List.append_assoc])
          clear hTk hx1 hck hTe hTv
          have HO2 : OwB ((wr.alloc (.cells #[.string key, .bool true, .string val] 35)).alloc (.cells #[.int .u8 2] 5)) w1.heap.size u5 (pp ++ pre) := HO1.below (below_alloc _ _)
          have HR2 : RdB ((wr.alloc (.cells #[.string key, .bool true, .string val] 35)).alloc (.cells #[.int .u8 2] 5)) (some ⟨wr.heap.size + 1, 0, none⟩) 1 [2] := by
            have h := lit1 (wr.alloc (.cells #[.string key, .bool true, .string val] 35)) 2 2 rfl
            rw [World.size_alloc] at h
            exact h
          have HB2 : Below w1.heap.size w1 ((wr.alloc (.cells #[.string key, .bool true, .string val] 35)).alloc (.cells #[.int .u8 2] 5)) := HB1.alloc HB1.size _
          have X2 : Cb ((wr.alloc (.cells #[.string key, .bool true, .string val] 35)).alloc (.cells #[.int .u8 2] 5)) wr.heap.size (key, true, val) := blk_alloc X1 _
          go_wp2_with (first | (at_builtin; refine app_row (w0 := w1) w1.heap.size rfl (.tmp 38) (.tmp 40) rfl u5 (pp ++ pre) [2] _ 1 (by rfl) (by rfl) HO2 HR2 HB2 HB2.size (HL2.out 2) ?_; intro v3 w3 HO3 HB3 hg3 _; have X3 := Cb.grown X2 HO2 hg3; obtain ⟨y0, y1, y2⟩ := X3.read) | (go_at_call 44; (with_reducible refine (hPk _).mono ?_); rintro e w4 ⟨v4, rfl, HO4, HB4⟩; obtain ⟨A4, c4, hv4, hr4⟩ := HO4.rd; rw [HMK.out] at hv4; subst hv4; replace HO3 := HO3.below HB4; have HB5 := HB3.trans (HB4.mono HB3.size); have X4 : Cb w4 wr.heap.size (key, true, val) := blk_below X3 HB4) | (at_builtin; refine app_row (w0 := w1) w1.heap.size rfl (.tmp 42) (.tmp 47) rfl v3 ((pp ++ pre) ++ [2]) pk A4 c4 (by rfl) (by rw [HMK.out]; rfl) HO3 hr4 HB5 HB5.size (HL3.out 2) ?_; intro v6 w6 HO6 HB6 hg6 _; have X6 := Cb.grown X4 HO3 hg6; obtain ⟨z0, z1, z2⟩ := Cb.read X6) | (at_builtin; refine app_str (w0 := w1) w1.heap.size rfl (.tmp 49) (.tmp 51) rfl v6 (((pp ++ pre) ++ [2]) ++ pk) key (by rfl) (by rfl) HO6 HB6 HB6.size (HL4.out 2) ?_; intro v7 w7 HO7 HB7 hg7; have X7 := Cb.grown X6 HO6 hg7; obtain ⟨y70, y71, y72⟩ := Cb.read X7))
          go_roundw
          case rel => exact ⟨k + 1, by omega, by go_num, by rw [HTk.out]; exact HO7, HB7⟩
          case measure => simp [intOf]; omega
        | false =>
          have hx1 : encC (key, false, val) = [1] ++ (encT key ++ encT val) := by simp [encC]
          have HTk : Hid (pp ++ encCs (l.take (k + 1)) = (((((pp ++ pre) ++ [1]) ++ pk) ++ bl key) ++ pv) ++ bl val) := by rw [hTk, hx1, hTe, hTv]; exact hide (by simp only [List.append_assoc])
          clear hTk hx1 hck hTe hTv
          have HO2 : OwB ((wr.alloc (.cells #[.string key, .bool false, .string val] 35)).alloc (.cells #[.int .u8 1] 5)) w1.heap.size u5 (pp ++ pre) := HO1.below (below_alloc _ _)
          have HR2 : RdB ((wr.alloc (.cells #[.string key, .bool false, .string val] 35)).alloc (.cells #[.int .u8 1] 5)) (some ⟨wr.heap.size + 1, 0, none⟩) 1 [1] := by
            have h := lit1 (wr.alloc (.cells #[.string key, .bool false, .string val] 35)) 1 1 rfl
            rw [World.size_alloc] at h
            exact h
          have HB2 : Below w1.heap.size w1 ((wr.alloc (.cells #[.string key, .bool false, .string val] 35)).alloc (.cells #[.int .u8 1] 5)) := HB1.alloc HB1.size _
          have X2 : Cb ((wr.alloc (.cells #[.string key, .bool false, .string val] 35)).alloc (.cells #[.int .u8 1] 5)) wr.heap.size (key, false, val) := blk_alloc X1 _
          go_wp2_with (first | (at_builtin; refine app_row (w0 := w1) w1.heap.size rfl (.tmp 38) (.tmp 40) rfl u5 (pp ++ pre) [1] _ 1 (by rfl) (by rfl) HO2 HR2 HB2 HB2.size (HL2.out 1) ?_; intro v3 w3 HO3 HB3 hg3 _; have X3 := Cb.grown X2 HO2 hg3; obtain ⟨y0, y1, y2⟩ := X3.read) | (go_at_call 44; (with_reducible refine (hPk _).mono ?_); rintro e w4 ⟨v4, rfl, HO4, HB4⟩; obtain ⟨A4, c4, hv4, hr4⟩ := HO4.rd; rw [HMK.out] at hv4; subst hv4; replace HO3 := HO3.below HB4; have HB5 := HB3.trans (HB4.mono HB3.size); have X4 : Cb w4 wr.heap.size (key, false, val) := blk_below X3 HB4) | (at_builtin; refine app_row (w0 := w1) w1.heap.size rfl (.tmp 42) (.tmp 47) rfl v3 ((pp ++ pre) ++ [1]) pk A4 c4 (by rfl) (by rw [HMK.out]; rfl) HO3 hr4 HB5 HB5.size (HL3.out 1) ?_; intro v6 w6 HO6 HB6 hg6 _; have X6 := Cb.grown X4 HO3 hg6; obtain ⟨z0, z1, z2⟩ := Cb.read X6) | (at_builtin; refine app_str (w0 := w1) w1.heap.size rfl (.tmp 49) (.tmp 51) rfl v6 (((pp ++ pre) ++ [1]) ++ pk) key (by rfl) (by rfl) HO6 HB6 HB6.size (HL4.out 1) ?_; intro v7 w7 HO7 HB7 hg7; have X7 := Cb.grown X6 HO6 hg7; obtain ⟨y70, y71, y72⟩ := Cb.read X7) | (go_at_call 44; (with_reducible refine (hPv _).mono ?_); rintro e w8 ⟨v8, rfl, HO8, HB8⟩; obtain ⟨A8, c8, hv8, hr8⟩ := HO8.rd; rw [HMV.out] at hv8; subst hv8; replace HO7 := HO7.below HB8; have HB9 := HB7.trans (HB8.mono HB7.size); have X8 : Cb w8 wr.heap.size (key, false, val) := blk_below X7 HB8) | (at_builtin; refine app_row (w0 := w1) w1.heap.size rfl (.tmp 56) (.tmp 61) rfl v7 ((((pp ++ pre) ++ [1]) ++ pk) ++ bl key) pv A8 c8 (by rfl) (by rw [HMV.out]; rfl) HO7 hr8 HB9 HB9.size (HL5.out 1) ?_; intro v10 w10 HO10 HB10 hg10 _; have X10 := Cb.grown X8 HO7 hg10; obtain ⟨z100, z101, z102⟩ := Cb.read X10) | (at_builtin; refine app_str (w0 := w1) w1.heap.size rfl (.tmp 63) (.tmp 65) rfl v10 (((((pp ++ pre) ++ [1]) ++ pk) ++ bl key) ++ pv) val (by rfl) (by rfl) HO10 HB10 HB10.size (HL6.out 1) ?_; intro v11 w11 HO11 HB11 hg11))
          go_roundw
          case rel => exact ⟨k + 1, by omega, by go_num, by rw [HTk.out]; exact HO11, HB11⟩
          case measure => simp [intOf]; omega
      · obtain rfl : k = n := by omega
        have hTa : pp ++ encCs (l.take k) = pp ++ encCs l := by rw [List.take_of_length_le (by rw [HN.out]; exact Nat.le_refl _)]
        rw [hTa, ← HE.out] at HO
        clear hTa hxl hEl
        go_wp2
        go_ret2
        exact ⟨_, rfl, HO.lower hsz1, B1.trans (HB.mono hsz1)⟩)
set_option maxRecDepth 100000 in
set_option maxHeartbeats 800000 in
theorem rEncode_any (q : Int) (A : Option Addr) (c n : Nat) (l : List Chg) (w : World) (hn : l.length = n) (hr : RdC w A c l) (hl : l.length ≤ 9223372036854775806) :
    Calls Try.prog 30 #[.agg #[.int .i64 q, .slice A n c]] w fun e w' => ∃ v, e = .returned (.tuple #[v, .int .i64 (chkB q l)]) ∧ OwB w' w.heap.size v (encX q l) ∧ Below w.heap.size w w' := by
  subst hn
  by_cases hk : chkB q l = 0
  · rw [encX, if_pos hk, hk]
    exact rEncode_ok q A c l w hr hk
  · have hCk := fun W (h : RdC W A c l) => rCheck_any q A c l.length l W rfl h hl
    rw [encX, if_neg hk]
    obtain ⟨n, hn⟩ : ∃ n, l.length = n := ⟨_, rfl⟩
    rw [hn] at hCk hl ⊢
    generalize chkB q l = z at *
    clear hn
    have hr0 := hr.below (below_alloc w (.cells #[.int .i64 q, .slice A n c] 24))
    have X0 := Bx.new w q (.slice A n c) 24
    have B0 := below_alloc w (.cells #[.int .i64 q, .slice A n c] 24)
    obtain ⟨p0, p1', p2', p3⟩ := X0.read
    go_enter Try.func30, Try.ntmps30
    go_wp2_with (first | (go_at_call 13; (with_reducible refine (hCk _ hr0).mono ?_); rintro e w1 ⟨rfl, HB1⟩; have B1 := B0.trans (HB1.mono B0.size)))
    go_ret2
    exact ⟨_, rfl, OwB.zero _ _, B1⟩
end Go.Proofs.Ytebefonohemlfaa
end

section
/- Wal: the walks of Add, the program's and the reference's. -/
namespace Go.Proofs.Ytebefonohemlfaa
open Go.RowKit Go.Proofs.YtebefonohemlfaaW.PrintWords
set_option linter.unusedVariables false

def addX (log : List UInt8) (q : Int) (l : List Chg) : List UInt8 := if chkB q l = 0 then log ++ putFX 1 (encB q l) else []
theorem putFE_enc (q : Int) (l : List Chg) (h : chkB q l = 0) : putFE 1 (encB q l).length = 0 ∧ (encB q l).length ≤ 40146 := by
  have h1 := encX_length q l
  rw [encX, if_pos h] at h1
  refine ⟨?_, h1⟩
  unfold putFE
  rw [if_neg (by decide), if_neg (by omega)]
theorem putFX_enc (q : Int) (l : List Chg) (h : chkB q l = 0) : (putFX 1 (encB q l)).length ≤ 40160 := by
  obtain ⟨h1, h2⟩ := putFE_enc q l h
  rw [putFX, if_pos h1, guarded_length, bodyF_length]
  have := vsize_le (encB q l).length
  omega
set_option maxRecDepth 100000 in
set_option maxHeartbeats 1600000 in
theorem Add_any (B : Option Addr) (d : Nat) (log : List UInt8) (q : Int) (A : Option Addr) (c n m : Nat) (l : List Chg) (w : World) (hn : l.length = n) (hm : log.length = m) (hb : RdB w B d log) (hr : RdC w A c l) (hl : l.length ≤ 9223372036854775806) (hlog : log.length ≤ 140737488300000) :
    Calls Try.prog 15 #[.slice B m d, .agg #[.int .i64 q, .slice A n c]] w fun e w' => ∃ v, e = .returned (.tuple #[v, .int .i64 (chkB q l)]) ∧ OwB w' w.heap.size v (addX log q l) ∧ Below w.heap.size w w' := by
  have hE := fun W (h : RdC W A c l) => Encode_any q A c n l W hn h hl
  subst hm
  have hr0 := hr.below (below_alloc w (.cells #[.int .i64 q, .slice A n c] 30))
  have hb0 := hb.below (below_alloc w (.cells #[.int .i64 q, .slice A n c] 30))
  have X0 := Bx.new w q (.slice A n c) 30
  have B0 := below_alloc w (.cells #[.int .i64 q, .slice A n c] 30)
  obtain ⟨p0, p1', p2', p3⟩ := X0.read
  by_cases hk : chkB q l = 0
  · obtain ⟨h1, h2⟩ := putFE_enc q l hk
    have h3 := putFX_enc q l hk
    rw [encX, if_pos hk, hk] at hE
    have hA : addX log q l = log ++ putFX 1 (encB q l) := by rw [addX, if_pos hk]
    have HA := hide hA
    rw [hk]
    have hP := fun A c W (h : RdB W A c (encB q l)) => FPut_any 1 A c (encB q l) W h (by decide)
    rw [h1] at hP
    unfold fil at hP
    generalize putFX 1 (encB q l) = P at *
    generalize encB q l = E at *
    obtain ⟨x, hx⟩ : ∃ x, E.length = x := ⟨_, rfl⟩
    obtain ⟨y, hy⟩ : ∃ y, P.length = y := ⟨_, rfl⟩
    obtain ⟨z, hz⟩ : ∃ z, log.length = z := ⟨_, rfl⟩
    rw [hx] at hP
    rw [hz]
    have HX := hide hx
    have HY := hide hy
    have HZ := hide hz
    have hsum : log.length + P.length ≤ 140737488355328 := by omega
    have HS := hide hsum
    clear hn hl hk h1 h2 h3 hA hx hy hz hsum hlog
    go_enter Try.func15, Try.ntmps15
    go_wp2_with (first | (go_at_call 19; (with_reducible refine (hE _ hr0).mono ?_); rintro e w1 ⟨v1, rfl, HO1, HB1⟩; obtain ⟨A1, c1, hv1, hr1⟩ := HO1.rd; rw [HX.out] at hv1; subst hv1; have B1 := B0.trans (HB1.mono B0.size); have hb1 := hb0.below HB1) | (go_at_call 28; (with_reducible refine (hP _ _ _ hr1).mono ?_); rintro e w2 ⟨v2, rfl, HO2, HB2⟩; obtain ⟨A2, c2, hv2, hr2⟩ := HO2.rd; rw [HY.out] at hv2; subst hv2; have B2 := B1.trans (HB2.mono B1.size); have hb2 := hb1.below HB2) | (go_at_call 29; (with_reducible refine (Concat_two _ _ _ _ _ _ _ log P w2 rfl hb2 hr2 HZ.out HY.out HS.out).mono ?_); rintro e w3 ⟨v3, rfl, HO3, HB3⟩; have B3 := B2.trans (HB3.mono B2.size)))
    go_ret2
    rw [← HA.out] at HO3
    exact ⟨_, rfl, HO3.lower B2.size, B3⟩
  · have hA : addX log q l = [] := by rw [addX, if_neg hk]
    rw [hA]
    rw [encX, if_neg hk] at hE
    generalize chkB q l = z at *
    obtain ⟨y, hy⟩ : ∃ y, log.length = y := ⟨_, rfl⟩
    rw [hy]
    clear hn hl hlog hA hy
    go_enter Try.func15, Try.ntmps15
    go_wp2_with (first | (go_at_call 19; (with_reducible refine (hE _ hr0).mono ?_); rintro e w1 ⟨v1, rfl, HO1, HB1⟩; have B1 := B0.trans (HB1.mono B0.size)))
    go_ret2
    exact ⟨_, rfl, OwB.zero _ _, B1⟩
set_option maxRecDepth 100000 in
set_option maxHeartbeats 1600000 in
theorem rAdd_any (B : Option Addr) (d : Nat) (log : List UInt8) (q : Int) (A : Option Addr) (c n m : Nat) (l : List Chg) (w : World) (hn : l.length = n) (hm : log.length = m) (hb : RdB w B d log) (hr : RdC w A c l) (hl : l.length ≤ 9223372036854775806) (hlog : log.length ≤ 140737488300000) :
    Calls Try.prog 16 #[.slice B m d, .agg #[.int .i64 q, .slice A n c]] w fun e w' => ∃ v, e = .returned (.tuple #[v, .int .i64 (chkB q l)]) ∧ OwB w' w.heap.size v (addX log q l) ∧ Below w.heap.size w w' := by
  have hE := fun W (h : RdC W A c l) => rEncode_any q A c n l W hn h hl
  subst hm
  have hr0 := hr.below (below_alloc w (.cells #[.int .i64 q, .slice A n c] 24))
  have hb0 := hb.below (below_alloc w (.cells #[.int .i64 q, .slice A n c] 24))
  have X0 := Bx.new w q (.slice A n c) 24
  have B0 := below_alloc w (.cells #[.int .i64 q, .slice A n c] 24)
  obtain ⟨p0, p1', p2', p3⟩ := X0.read
  by_cases hk : chkB q l = 0
  · obtain ⟨h1, h2⟩ := putFE_enc q l hk
    have h3 := putFX_enc q l hk
    rw [encX, if_pos hk, hk] at hE
    have hA : addX log q l = log ++ putFX 1 (encB q l) := by rw [addX, if_pos hk]
    have HA := hide hA
    rw [hk]
    have hP := fun A c W (h : RdB W A c (encB q l)) => rFPut_any 1 A c (encB q l) W h
    rw [h1] at hP
    unfold fil at hP
    have hCp := fun W (h : RdB W B d log) => Copied_any B d log W h (by omega)
    generalize putFX 1 (encB q l) = P at *
    generalize encB q l = E at *
    obtain ⟨x, hx⟩ : ∃ x, E.length = x := ⟨_, rfl⟩
    obtain ⟨y, hy⟩ : ∃ y, P.length = y := ⟨_, rfl⟩
    obtain ⟨z, hz⟩ : ∃ z, log.length = z := ⟨_, rfl⟩
    rw [hx] at hP
    rw [hz] at hCp ⊢
    have HX := hide hx
    have HY := hide hy
    have hsum : log.length + P.length ≤ 140737488355328 := by omega
    have HS := hide hsum
    clear hn hl hk h1 h2 h3 hA hx hy hz hsum hlog
    go_enter Try.func16, Try.ntmps16
    go_wp2_with (first | (go_at_call 30; (with_reducible refine (hE _ hr0).mono ?_); rintro e w1 ⟨v1, rfl, HO1, HB1⟩; obtain ⟨A1, c1, hv1, hr1⟩ := HO1.rd; rw [HX.out] at hv1; subst hv1; have B1 := B0.trans (HB1.mono B0.size); have hb1 := hb0.below HB1) | (go_at_call 31; (with_reducible refine (hP _ _ _ hr1).mono ?_); rintro e w2 ⟨v2, rfl, HO2, HB2⟩; obtain ⟨A2, c2, hv2, hr2⟩ := HO2.rd; rw [HY.out] at hv2; subst hv2; have B2 := B1.trans (HB2.mono B1.size); have hb2 := hb1.below HB2) | (go_at_call 32; (with_reducible refine (hCp _ hb2).mono ?_); rintro e w3 ⟨v3, rfl, HO3, HB3⟩; have B3 := B2.trans (HB3.mono B2.size); have hr3 := hr2.below HB3) | (at_builtin; refine app_row (w0 := w2) w2.heap.size rfl (.tmp 25) (.tmp 26) rfl v3 log P A2 c2 (by rfl) (by rw [HY.out]; rfl) HO3 hr3 HB3 HB3.size HS.out ?_; intro v4 w4 HO4 HB4 hg4 _; have B4 := B2.trans (HB4.mono B2.size)))
    go_ret2
    rw [← HA.out] at HO4
    exact ⟨_, rfl, HO4.lower B2.size, B4⟩
  · have hA : addX log q l = [] := by rw [addX, if_neg hk]
    rw [hA]
    rw [encX, if_neg hk] at hE
    generalize chkB q l = z at *
    obtain ⟨y, hy⟩ : ∃ y, log.length = y := ⟨_, rfl⟩
    rw [hy]
    clear hn hl hlog hA hy
    go_enter Try.func16, Try.ntmps16
    go_wp2_with (first | (go_at_call 30; (with_reducible refine (hE _ hr0).mono ?_); rintro e w1 ⟨v1, rfl, HO1, HB1⟩; have B1 := B0.trans (HB1.mono B0.size)))
    go_ret2
    exact ⟨_, rfl, OwB.zero _ _, B1⟩
end Go.Proofs.Ytebefonohemlfaa
end

section
/- Frame: octets scanned, plainly. -/
namespace Go.Proofs.Ytebefonohemlfaa
set_option linter.unusedVariables false

theorem fg_ok (b : List UInt8) (h : fgE b = 0) : 5 ≤ fgS b ∧ fgS b ≤ b.length ∧ (fgX b).length + 5 ≤ fgS b := by
  have h' := h
  unfold fgE at h
  split at h
  · next h1 => omega
  · next h1 =>
    split at h
    · omega
    · split at h
      · omega
      · next h2 h3 =>
        have h4 : getErr b = 0 := by simpa using h1
        have h5 : fgX b = (b.take (gK b + 1 + gN b)).drop (gK b + 1) := by rw [fgX, if_pos h']
        rw [fgS, if_pos h', h5, List.length_drop, List.length_take]
        omega
def pos (b : List UInt8) : Nat → Nat
  | 0 => 0
  | k + 1 => pos b k + fgS (b.drop (pos b k))
def recAt (b : List UInt8) (k : Nat) : Int × List UInt8 := (fgK (b.drop (pos b k)), fgX (b.drop (pos b k)))
def okAt (b : List UInt8) (k : Nat) : Prop := fgE (b.drop (pos b k)) = 0
theorem pos_le (b : List UInt8) (k : Nat) (h : ∀ j, j < k → okAt b j) : 5 * k ≤ pos b k ∧ pos b k ≤ b.length := by
  induction k with
  | zero => exact ⟨Nat.le_refl _, Nat.zero_le _⟩
  | succ k ih =>
    have h1 := ih (fun j hj => h j (by omega))
    have h2 := fg_ok _ (h k (by omega))
    rw [List.length_drop] at h2
    show 5 * (k + 1) ≤ pos b k + fgS (b.drop (pos b k)) ∧ pos b k + fgS (b.drop (pos b k)) ≤ b.length
    omega
theorem scan_ex (b : List UInt8) : ∃ N, (∀ k, k < N → okAt b k) ∧ ¬ okAt b N := by
  have key : ∀ m k, (∀ j, j < k → okAt b j) → b.length + 1 - k ≤ m → ∃ N, (∀ k, k < N → okAt b k) ∧ ¬ okAt b N := by
    intro m
    induction m with
    | zero =>
      intro k hk hm
      have := pos_le b k hk
      omega
    | succ m ih =>
      intro k hk hm
      by_cases h : okAt b k
      · refine ih (k + 1) (fun j hj => ?_) (by omega)
        rcases Nat.lt_or_ge j k with h1 | h1
        · exact hk j h1
        · obtain rfl : j = k := by omega
          exact h
      · exact ⟨k, hk, h⟩
  exact key (b.length + 1) 0 (fun j hj => by omega) (by omega)
noncomputable def scanN (b : List UInt8) : Nat := Classical.choose (scan_ex b)
theorem scanN_spec (b : List UInt8) : (∀ k, k < scanN b → okAt b k) ∧ ¬ okAt b (scanN b) := Classical.choose_spec (scan_ex b)
theorem scanN_eq (b : List UInt8) (N : Nat) (h : ∀ k, k < N → okAt b k) (h' : ¬ okAt b N) : scanN b = N := by
  have hs := scanN_spec b
  rcases Nat.lt_or_ge (scanN b) N with h1 | h1
  · exact absurd (h _ h1) hs.2
  · rcases Nat.lt_or_ge N (scanN b) with h2 | h2
    · exact absurd (hs.1 _ h2) h'
    · omega
def recsTo (b : List UInt8) (k : Nat) : List (Int × List UInt8) := (List.range k).map (recAt b)
theorem recsTo_succ (b : List UInt8) (k : Nat) : recsTo b (k + 1) = recsTo b k ++ [recAt b k] := by
  rw [recsTo, recsTo, List.range_succ, List.map_append]; rfl
theorem recsTo_length (b : List UInt8) (k : Nat) : (recsTo b k).length = k := by simp [recsTo]
noncomputable def scanRs (b : List UInt8) : List (Int × List UInt8) := recsTo b (scanN b)
noncomputable def scanEnd (b : List UInt8) : Nat := pos b (scanN b)
end Go.Proofs.Ytebefonohemlfaa
end

section
/- Frame: records one behind the other, scanned; and cut off, plainly. -/
namespace Go.Proofs.Ytebefonohemlfaa
set_option linter.unusedVariables false

theorem getNum_lt' (b : List UInt8) (h : getErr b = 0) : getNum b < 18446744073709551616 := by
  obtain ⟨-, hlen, hs⟩ := put_get b h
  rw [getNum]
  have h9 := ones8_le (oct0 b)
  have hk : ((b.take (ones8 (oct0 b) + 1)).drop 1).length = ones8 (oct0 b) := by rw [List.length_drop, List.length_take]; omega
  have hb := (back8 (oct0 b)).2
  obtain ⟨e1, e2⟩ := num8_split ((oct0 b &&& mask8 (ones8 (oct0 b) + 1)).toNat) ((b.take (ones8 (oct0 b) + 1)).drop 1)
  rw [hk] at e1 e2
  rw [e1]
  generalize (oct0 b &&& mask8 (ones8 (oct0 b) + 1)).toNat = x at *
  generalize num8 0 ((b.take (ones8 (oct0 b) + 1)).drop 1) = y at *
  generalize ones8 (oct0 b) = k at *
  unfold room at hb
  have : k = 0 ∨ k = 1 ∨ k = 2 ∨ k = 3 ∨ k = 4 ∨ k = 5 ∨ k = 6 ∨ k = 7 ∨ k = 8 := by omega
  rcases this with rfl | rfl | rfl | rfl | rfl | rfl | rfl | rfl | rfl <;> simp at hb e2 ⊢ <;> omega
theorem fg_nil : fgE [] ≠ 0 := by decide
/-- a record cut off ahead of its end is none -/
theorem get_cutF (K : Int) (d : List UInt8) (h : putFE K d.length = 0) (m : Nat) (hm : m < (putFX K d).length) : fgE ((putFX K d).take m) ≠ 0 := by
  intro h0
  obtain ⟨h1, h2, h3⟩ := putFE_ok K d.length h
  have e : putFX K d = guarded (bodyF K d) := by rw [putFX, if_pos h]
  have hlen : (putFX K d).length = vsize d.length + 1 + d.length + 4 := by rw [e, guarded_length, bodyF_length]
  have hp : putFX K d = put d.length ++ (UInt8.ofNat K.toNat :: d ++ four (crc ones (bodyF K d))) := by rw [e, guarded, bodyF]; simp
  obtain ⟨b, hb⟩ : ∃ b, (putFX K d).take m = b := ⟨_, rfl⟩
  have hbl : b.length = m := by rw [← hb, List.length_take]; omega
  have hsp : putFX K d = b ++ (putFX K d).drop m := by rw [← hb, List.take_append_drop]
  rw [hb] at h0
  have h0' := h0
  unfold fgE at h0
  split at h0
  · next q => omega
  · next q =>
    split at h0
    · omega
    · split at h0
      · omega
      · next q2 q3 =>
        have q4 : getErr b = 0 := by simpa using q
        obtain ⟨p1, p2, p3⟩ := put_get b q4
        have q5 : gN b = getNum b := by rw [gN, if_pos q4]
        have hN := getNum_lt' b q4
        have hsp2 : putFX K d = put (getNum b) ++ (b.drop (ones8 (oct0 b) + 1) ++ (putFX K d).drop m) := by
          rw [p1, ← List.append_assoc, List.take_append_drop]
          exact hsp
        obtain ⟨r1, r2, r3⟩ := get_put2 (getNum b) hN (b.drop (ones8 (oct0 b) + 1) ++ (putFX K d).drop m)
        rw [← hsp2] at r1 r2 r3
        obtain ⟨s1, s2, s3⟩ := get_put2 d.length (by omega) (UInt8.ofNat K.toNat :: d ++ four (crc ones (bodyF K d)))
        rw [← hp] at s1 s2 s3
        obtain ⟨t1, t2, t3⟩ := get_put2 (getNum b) hN (b.drop (ones8 (oct0 b) + 1))
        rw [p1, List.take_append_drop] at t1 t2 t3
        omega
def okR (r : Int × List UInt8) : Prop := putFE r.1 r.2.length = 0
def catF (rs : List (Int × List UInt8)) : List UInt8 := rs.flatMap fun r => putFX r.1 r.2
def endF (rs : List (Int × List UInt8)) (k : Nat) : Nat := (catF (rs.take k)).length
theorem catF_nil : catF [] = [] := rfl
theorem catF_snoc (rs : List (Int × List UInt8)) (r : Int × List UInt8) : catF (rs ++ [r]) = catF rs ++ putFX r.1 r.2 := by simp [catF]
theorem catF_app (a b : List (Int × List UInt8)) : catF (a ++ b) = catF a ++ catF b := by simp [catF]
theorem catF_cons (r : Int × List UInt8) (b : List (Int × List UInt8)) : catF (r :: b) = putFX r.1 r.2 ++ catF b := by simp [catF]
theorem catF_at (rs : List (Int × List UInt8)) (k : Nat) (h : k < rs.length) : (catF rs).drop (endF rs k) = putFX rs[k].1 rs[k].2 ++ catF (rs.drop (k + 1)) := by
  have e : catF rs = catF (rs.take k) ++ (putFX rs[k].1 rs[k].2 ++ catF (rs.drop (k + 1))) := by
    rw [← catF_cons, ← catF_app, ← List.drop_eq_getElem_cons h, List.take_append_drop]
  rw [e, endF, List.drop_left]
theorem endF_succ (rs : List (Int × List UInt8)) (k : Nat) (h : k < rs.length) : endF rs (k + 1) = endF rs k + (putFX rs[k].1 rs[k].2).length := by
  rw [endF, endF, List.take_succ_eq_append_getElem h, catF_snoc, List.length_append]
theorem endF_all (rs : List (Int × List UInt8)) : endF rs rs.length = (catF rs).length := by rw [endF, List.take_length]
theorem endF_le (rs : List (Int × List UInt8)) (k : Nat) : endF rs k ≤ (catF rs).length := by
  have e : catF rs = catF (rs.take k) ++ catF (rs.drop k) := by rw [← catF_app, List.take_append_drop]
  rw [endF, e, List.length_append]
  omega
/-- what is ahead of a cut is scanned -/
theorem scan_cut (rs : List (Int × List UInt8)) (hok : ∀ r ∈ rs, okR r) (at_ k : Nat) (hk : k ≤ rs.length) (h1 : endF rs k ≤ at_) (h2 : ∀ h : k < rs.length, at_ < endF rs (k + 1)) :
    scanRs ((catF rs).take at_) = rs.take k ∧ scanEnd ((catF rs).take at_) = endF rs k := by
  obtain ⟨b, hb⟩ : ∃ b, (catF rs).take at_ = b := ⟨_, rfl⟩
  have hmono : ∀ j i, j ≤ i → endF rs j ≤ endF rs i := by
    intro j i hji
    rw [endF, endF]
    have : catF (rs.take i) = catF (rs.take j) ++ catF ((rs.take i).drop j) := by
      rw [← catF_app]
      have := List.take_append_drop j (rs.take i)
      rw [List.take_take, Nat.min_eq_left hji] at this
      rw [this]
    rw [this, List.length_append]
    omega
  have hd : ∀ j (hj : j < k), ∃ more, b.drop (endF rs j) = putFX (rs[j]'(by omega)).1 (rs[j]'(by omega)).2 ++ more := by
    intro j hj
    have e1 := catF_at rs j (by omega)
    have e2 := endF_succ rs j (by omega)
    have e3 := hmono (j + 1) k (by omega)
    rw [← hb, List.drop_take, e1, List.take_append, List.take_of_length_le (by omega)]
    exact ⟨_, rfl⟩
  have key : ∀ j, j ≤ k → pos b j = endF rs j := by
    intro j
    induction j with
    | zero => intro _; simp [pos, endF, catF]
    | succ j ih =>
      intro hj
      have e1 := ih (by omega)
      obtain ⟨more, e2⟩ := hd j (by omega)
      obtain ⟨g1, g2, g3, g4⟩ := get_frame (rs[j]'(by omega)).1 (rs[j]'(by omega)).2 more (hok _ (List.getElem_mem _))
      show pos b j + fgS (b.drop (pos b j)) = _
      rw [e1, e2, g4, endF_succ rs j (by omega)]
  have hrec : ∀ j (hj : j < k), okAt b j ∧ recAt b j = rs[j]'(by omega) := by
    intro j hj
    obtain ⟨more, e2⟩ := hd j hj
    obtain ⟨g1, g2, g3, g4⟩ := get_frame (rs[j]'(by omega)).1 (rs[j]'(by omega)).2 more (hok _ (List.getElem_mem _))
    unfold okAt recAt
    rw [key j (by omega), e2, g1, g2, g3]
    exact ⟨rfl, rfl⟩
  have hno : ¬ okAt b k := by
    unfold okAt
    rw [key k (Nat.le_refl _), ← hb, List.drop_take]
    rcases Nat.lt_or_ge k rs.length with hlt | hge
    · have e1 := catF_at rs k hlt
      have e2 := endF_succ rs k hlt
      have e3 := h2 hlt
      rw [e1, List.take_append_of_le_length (by omega)]
      exact get_cutF _ _ (hok _ (List.getElem_mem _)) _ (by omega)
    · obtain rfl : k = rs.length := by omega
      rw [endF_all, List.drop_of_length_le (Nat.le_refl _), List.take_nil]
      exact fg_nil
  have hN := scanN_eq b k (fun j hj => (hrec j hj).1) hno
  rw [hb]
  unfold scanRs scanEnd
  rw [hN]
  refine ⟨?_, key k (Nat.le_refl _)⟩
  apply List.ext_getElem
  · rw [recsTo_length, List.length_take]; omega
  · intro i hi1 hi2
    rw [recsTo_length] at hi1
    rw [List.getElem_take, ← (hrec i hi1).2]
    simp [recsTo]
theorem scan_all (rs : List (Int × List UInt8)) (hok : ∀ r ∈ rs, okR r) : scanRs (catF rs) = rs ∧ scanEnd (catF rs) = (catF rs).length := by
  have h := scan_cut rs hok (catF rs).length rs.length (Nat.le_refl _) (endF_le rs _) (fun h => absurd h (Nat.lt_irrefl _))
  rw [List.take_length, List.take_length, endF_all] at h
  exact h
theorem catF_len (rs : List (Int × List UInt8)) : (catF rs).length ≤ 65550 * rs.length := by
  induction rs with
  | nil => simp [catF]
  | cons r t ih =>
    rw [catF_cons, List.length_append, List.length_cons]
    have h1 : (putFX r.1 r.2).length ≤ 65550 := by
      unfold putFX
      split
      · next h =>
        obtain ⟨h1, h2, h3⟩ := putFE_ok r.1 r.2.length h
        rw [guarded_length, bodyF_length]
        have := vsize_le r.2.length
        omega
      · simp
    omega
end Go.Proofs.Ytebefonohemlfaa
end

section
/- Wal: octets as a batch, plainly: what is read, what is left; or an error. -/
namespace Go.Proofs.Ytebefonohemlfaa
set_option linter.unusedVariables false

abbrev Rdr (α : Type) := Except Int (α × List UInt8)
def rdNum (most : Nat) (code : Int) (b : List UInt8) : Rdr Nat := if getErr b ≠ 0 then .error (getErr b : Int) else if most < gN b then .error code else .ok (gN b, b.drop (gK b))
def rdTake (n : Nat) (b : List UInt8) : Rdr (List UInt8) := if b.length < n then .error 8 else .ok (b.take n, b.drop n)
def rdText (b : List UInt8) : Rdr ByteArray := match rdNum 65536 5 b with
  | .error e => .error e
  | .ok (n, r) => match rdTake n r with
    | .error e => .error e
    | .ok (s, r2) => .ok (⟨s.toArray⟩, r2)
def rdChange (b : List UInt8) : Rdr Chg := match rdTake 1 b with
  | .error e => .error e
  | .ok (k, r) => if k.getD 0 0 ≠ 1 ∧ k.getD 0 0 ≠ 2 then .error 22 else match rdText r with
    | .error e => .error e
    | .ok (key, r2) => if k.getD 0 0 = 2 then .ok ((key, true, ByteArray.empty), r2) else match rdText r2 with
      | .error e => .error e
      | .ok (val, r3) => .ok ((key, false, val), r3)
/-- so many, one behind the other -/
def rdMany : Nat → List UInt8 → Rdr (List Chg)
  | 0, b => .ok ([], b)
  | n + 1, b => match rdMany n b with
    | .error e => .error e
    | .ok (cs, r) => match rdChange r with
      | .error e => .error e
      | .ok (c, r2) => .ok (cs ++ [c], r2)
def rdBatch (b : List UInt8) : Except Int (Nat × List Chg) := match rdNum 1099511627776 4 b with
  | .error e => .error e
  | .ok (q, r) => match rdNum 1099511627776 4 r with
    | .error e => .error e
    | .ok (n, r2) => if 64 < n then .error 3 else match rdMany n r2 with
      | .error e => .error e
      | .ok (cs, r3) => if 0 < r3.length then .error 23 else .ok (q, cs)
/-- a batch by its octets: the error, its number, its changes -/
def decE (b : List UInt8) : Int := match rdBatch b with
  | .error e => e
  | .ok (q, cs) => chkB (q : Int) cs
def decQ (b : List UInt8) : Int := if decE b = 0 then (match rdBatch b with
  | .error _ => 0
  | .ok (q, _) => (q : Int)) else 0
def decL (b : List UInt8) : List Chg := if decE b = 0 then (match rdBatch b with
  | .error _ => []
  | .ok (_, cs) => cs) else []
theorem rdNum_err (most : Nat) (code : Int) (b : List UInt8) (e : Int) (h : rdNum most code b = .error e) : (e = getErr b ∧ getErr b ≠ 0) ∨ (getErr b = 0 ∧ most < gN b ∧ e = code) := by
  unfold rdNum at h
  split at h
  · next h1 => injection h with h; exact .inl ⟨h.symm, h1⟩
  · next h1 =>
    split at h
    · next h2 => injection h with h; exact .inr ⟨by simpa using h1, h2, h.symm⟩
    · cases h
theorem rdNum_ok (most : Nat) (code : Int) (b : List UInt8) (n : Nat) (r : List UInt8) (h : rdNum most code b = .ok (n, r)) : getErr b = 0 ∧ gN b ≤ most ∧ n = gN b ∧ r = b.drop (gK b) := by
  unfold rdNum at h
  split at h
  · cases h
  · next h1 =>
    split at h
    · cases h
    · next h2 =>
      injection h with h
      injection h with h3 h4
      exact ⟨by simpa using h1, by omega, h3.symm, h4.symm⟩
theorem gK_le (b : List UInt8) (h : getErr b = 0) : gK b ≤ b.length ∧ 1 ≤ gK b ∧ put (gN b) ++ b.drop (gK b) = b := by
  obtain ⟨p1, p2, p3⟩ := put_get b h
  have e1 : gK b = ones8 (oct0 b) + 1 := by rw [gK, if_pos h]
  have e2 : gN b = getNum b := by rw [gN, if_pos h]
  rw [e1, e2, p1, List.take_append_drop]
  exact ⟨p2, by omega, rfl⟩
theorem rdNum_ne (most : Nat) (code : Int) (hc : code ≠ 0) (b : List UInt8) (e : Int) (h : rdNum most code b = .error e) : e ≠ 0 := by
  rcases rdNum_err most code b e h with ⟨rfl, h1⟩ | ⟨_, _, rfl⟩
  · omega
  · exact hc
theorem rdTake_ne (n : Nat) (b : List UInt8) (e : Int) (h : rdTake n b = .error e) : e ≠ 0 := by
  unfold rdTake at h
  split at h
  · injection h with h; omega
  · cases h
theorem rdText_ne (b : List UInt8) (e : Int) (h : rdText b = .error e) : e ≠ 0 := by
  unfold rdText at h
  split at h
  · next e1 h1 => injection h with h; subst h; exact rdNum_ne _ _ (by decide) _ _ h1
  · split at h
    · next e1 h1 => injection h with h; subst h; exact rdTake_ne _ _ _ h1
    · cases h
theorem rdChange_ne (b : List UInt8) (e : Int) (h : rdChange b = .error e) : e ≠ 0 := by
  unfold rdChange at h
  split at h
  · next e1 h1 => injection h with h; subst h; exact rdTake_ne _ _ _ h1
  · split at h
    · injection h with h; omega
    · split at h
      · next e1 h1 => injection h with h; subst h; exact rdText_ne _ _ h1
      · split at h
        · cases h
        · split at h
          · next e1 h1 => injection h with h; subst h; exact rdText_ne _ _ h1
          · cases h
theorem rdMany_ne (n : Nat) (b : List UInt8) (e : Int) (h : rdMany n b = .error e) : e ≠ 0 := by
  induction n with
  | zero => cases h
  | succ n ih =>
    unfold rdMany at h
    split at h
    · next e1 h1 => injection h with h; subst h; exact ih h1
    · split at h
      · next e1 h1 => injection h with h; subst h; exact rdChange_ne _ _ h1
      · cases h
theorem rdBatch_ne (b : List UInt8) (e : Int) (h : rdBatch b = .error e) : e ≠ 0 := by
  unfold rdBatch at h
  split at h
  · next e1 h1 => injection h with h; subst h; exact rdNum_ne _ _ (by decide) _ _ h1
  · split at h
    · next e1 h1 => injection h with h; subst h; exact rdNum_ne _ _ (by decide) _ _ h1
    · split at h
      · injection h with h; omega
      · split at h
        · next e1 h1 => injection h with h; subst h; exact rdMany_ne _ _ _ h1
        · split at h
          · injection h with h; omega
          · cases h
/-- what is read was written so -/
theorem rdText_ok (b : List UInt8) (s : ByteArray) (r : List UInt8) (h : rdText b = .ok (s, r)) : encT s ++ r = b := by
  unfold rdText at h
  split at h
  · cases h
  · next n r1 h1 =>
    obtain ⟨g1, g2, g3, g4⟩ := rdNum_ok _ _ _ _ _ h1
    unfold rdTake at h
    split at h
    · cases h
    · next s' r2 h2 =>
      split at h2
      · cases h2
      · next h3 =>
        injection h2 with h2
        injection h2 with h4 h5
        injection h with h
        injection h with h6 h7
        subst h4 h5 h6 h7
        have hs : (⟨(r1.take n).toArray⟩ : ByteArray).size = n := by
          show (r1.take n).toArray.size = n
          rw [List.size_toArray, List.length_take]; omega
        rw [encT, hs, bl_mk, List.append_assoc, List.take_append_drop, g4, g3]
        exact (gK_le b g1).2.2
theorem rdChange_ok (b : List UInt8) (c : Chg) (r : List UInt8) (h : rdChange b = .ok (c, r)) : encC c ++ r = b := by
  unfold rdChange at h
  split at h
  · cases h
  · next k r1 h1 =>
    unfold rdTake at h1
    split at h1
    · cases h1
    · next hl =>
      injection h1 with h1
      injection h1 with h2 h3
      subst h2 h3
      obtain ⟨x, t, rfl⟩ : ∃ x t, b = x :: t := by
        cases b with
        | nil => simp at hl
        | cons x t => exact ⟨x, t, rfl⟩
      simp only [List.take_succ_cons, List.take_zero, List.getD_cons_zero, List.drop_succ_cons, List.drop_zero] at h
      split at h
      · cases h
      · next hk =>
        split at h
        · cases h
        · next key r2 h4 =>
          have t1 := rdText_ok _ _ _ h4
          split at h
          · next h5 =>
            injection h with h
            injection h with h6 h7
            subst h6 h7 h5
            simp [encC, t1]
          · next h5 =>
            have hx : x = 1 := by
              rcases Decidable.em (x = 1) with h | h
              · exact h
              · exact absurd ⟨h, h5⟩ hk
            split at h
            · cases h
            · next val r3 h8 =>
              have t2 := rdText_ok _ _ _ h8
              injection h with h
              injection h with h6 h7
              subst h6 h7 hx
              simp [encC, t1, t2]
theorem rdMany_ok (n : Nat) (b : List UInt8) (cs : List Chg) (r : List UInt8) (h : rdMany n b = .ok (cs, r)) : encCs cs ++ r = b ∧ cs.length = n := by
  induction n generalizing cs r with
  | zero =>
    injection h with h
    injection h with h1 h2
    subst h1 h2
    exact ⟨by simp [encCs], rfl⟩
  | succ n ih =>
    unfold rdMany at h
    split at h
    · cases h
    · next cs1 r1 h1 =>
      obtain ⟨i1, i2⟩ := ih _ _ h1
      split at h
      · cases h
      · next c r2 h2 =>
        have t := rdChange_ok _ _ _ h2
        injection h with h
        injection h with h3 h4
        subst h3 h4
        rw [encCs_snoc, List.append_assoc, t]
        exact ⟨i1, by rw [List.length_append, List.length_singleton, i2]⟩
theorem rdBatch_ok (b : List UInt8) (q : Nat) (cs : List Chg) (h : rdBatch b = .ok (q, cs)) : encB (q : Int) cs = b ∧ cs.length ≤ 64 := by
  unfold rdBatch at h
  split at h
  · cases h
  · next q1 r1 h1 =>
    obtain ⟨g1, g2, g3, g4⟩ := rdNum_ok _ _ _ _ _ h1
    split at h
    · cases h
    · next n r2 h2 =>
      obtain ⟨k1, k2, k3, k4⟩ := rdNum_ok _ _ _ _ _ h2
      split at h
      · cases h
      · next hn =>
        split at h
        · cases h
        · next cs1 r3 h3 =>
          obtain ⟨m1, m2⟩ := rdMany_ok _ _ _ _ h3
          split at h
          · cases h
          · next h4 =>
            injection h with h
            injection h with h5 h6
            subst h5 h6
            have hr3 : r3 = [] := List.eq_nil_of_length_eq_zero (by omega)
            rw [hr3, List.append_nil] at m1
            refine ⟨?_, by omega⟩
            rw [encB, Int.toNat_natCast, m1, m2, List.append_assoc, k3, k4, (gK_le _ k1).2.2, g3, g4, (gK_le _ g1).2.2]
/-- what was written is read -/
theorem rdNum_put (most n : Nat) (code : Int) (h : n ≤ most) (hn : n < 18446744073709551616) (r : List UInt8) : rdNum most code (put n ++ r) = .ok (n, r) := by
  obtain ⟨g1, g2, g3⟩ := get_put2 n hn r
  rw [rdNum, if_neg (by rw [g1]; simp), g2, if_neg (by omega), g3, ← put_length, List.drop_left]
theorem rdText_enc (s : ByteArray) (h : s.size ≤ 65536) (r : List UInt8) : rdText (encT s ++ r) = .ok (s, r) := by
  rw [rdText, encT, List.append_assoc, rdNum_put 65536 s.size 5 h (by omega)]
  simp only [rdTake]
  rw [if_neg (by rw [List.length_append, bl_length]; omega)]
  simp only
  rw [← bl_length s, List.take_left, List.drop_left]
  congr 2
theorem rdChange_enc (c : Chg) (h : chkC c = 0) (r : List UInt8) : rdChange (encC c ++ r) = .ok (c, r) := by
  obtain ⟨h1, h2, h3, h4⟩ := chkC_ok c h
  obtain ⟨key, del, val⟩ := c
  simp only at h1 h2 h3 h4
  have t1 := fun r => rdText_enc key (by omega) r
  have t2 := fun r => rdText_enc val (by omega) r
  cases del with
  | true =>
    have hv : val = ByteArray.empty := by
      apply ByteArray.ext
      exact Array.eq_empty_of_size_eq_zero (h4 rfl)
    subst hv
    simp [encC, rdChange, rdTake, t1]
  | false => simp [encC, rdChange, rdTake, t1, t2]
theorem rdMany_enc (cs : List Chg) (h : ∀ c ∈ cs, chkC c = 0) (n : Nat) (hn : n ≤ cs.length) (r : List UInt8) : rdMany n (encCs cs ++ r) = .ok (cs.take n, encCs (cs.drop n) ++ r) := by
  induction n with
  | zero => simp [rdMany]
  | succ n ih =>
    have hlt : n < cs.length := by omega
    rw [rdMany, ih (by omega)]
    simp only
    have e : encCs (cs.drop n) ++ r = encC cs[n] ++ (encCs (cs.drop (n + 1)) ++ r) := by
      have e2 : ∀ m : List Chg, m = cs[n] :: cs.drop (n + 1) → encCs m ++ r = encC cs[n] ++ (encCs (cs.drop (n + 1)) ++ r) := by
        intro m hm
        subst hm
        rw [encCs, List.flatMap_cons, List.append_assoc]
        rfl
      exact e2 _ (List.drop_eq_getElem_cons hlt)
    rw [e, rdChange_enc _ (h _ (List.getElem_mem _))]
    simp only
    rw [List.take_succ_eq_append_getElem hlt]
theorem dec_enc (q : Int) (l : List Chg) (h : chkB q l = 0) : decE (encB q l) = 0 ∧ decQ (encB q l) = q ∧ decL (encB q l) = l := by
  obtain ⟨h1, h2, h3, h4, h5⟩ := chkB_ok q l h
  have hb : rdBatch (encB q l) = .ok (q.toNat, l) := by
    have hm := rdMany_enc l h5 l.length (Nat.le_refl _) []
    rw [List.append_nil, List.take_length, List.drop_of_length_le (Nat.le_refl _)] at hm
    rw [rdBatch, encB, List.append_assoc, rdNum_put _ _ _ (by omega) (by omega)]
    simp only
    rw [rdNum_put _ _ _ (by omega) (by omega)]
    simp only
    rw [if_neg (by omega), hm]
    simp [encCs]
  have hq : ((q.toNat : Nat) : Int) = q := by omega
  have hE : decE (encB q l) = 0 := by rw [decE, hb]; simp only; rw [hq]; exact h
  exact ⟨hE, by rw [decQ, if_pos hE, hb]; exact hq, by rw [decL, if_pos hE, hb]⟩
theorem dec_ok (b : List UInt8) (h : decE b = 0) : chkB (decQ b) (decL b) = 0 ∧ encB (decQ b) (decL b) = b := by
  have hd : ∃ q cs, rdBatch b = .ok (q, cs) := by
    cases hb : rdBatch b with
    | error e =>
      have h' := h
      rw [decE, hb] at h'
      simp only at h'
      exact absurd h' (rdBatch_ne b e hb)
    | ok p => exact ⟨p.1, p.2, rfl⟩
  obtain ⟨q, cs, hb⟩ := hd
  have e1 : decQ b = q := by rw [decQ, if_pos h, hb]
  have e2 : decL b = cs := by rw [decL, if_pos h, hb]
  rw [e1, e2]
  refine ⟨?_, (rdBatch_ok b q cs hb).1⟩
  rw [decE, hb] at h
  exact h
end Go.Proofs.Ytebefonohemlfaa
end

section
/- Wal: the walks of the scanner: number, take, text, change. -/
namespace Go.Proofs.Ytebefonohemlfaa
open Go.RowKit Go.Proofs.YtebefonohemlfaaW.PrintWords
set_option linter.unusedVariables false

/-- octets that are read whatever was made since -/
def St (w0 : World) (A : Option Addr) (c : Nat) (b : List UInt8) : Prop := ∀ W, Below w0.heap.size w0 W → RdB W A c b
theorem St.of {w : World} {A : Option Addr} {c : Nat} {b : List UInt8} (h : RdB w A c b) : St w A c b := fun W hb => h.below hb
theorem St.drop {w0 : World} {A : Option Addr} {c : Nat} {b : List UInt8} (h : St w0 A c b) (k : Nat) (hk : k ≤ b.length) : St w0 (cutA A c k) (c - k) (b.drop k) := fun W hb => (h W hb).drop k hk
/-- a scanner: what is left -/
def Sc (w0 : World) (g : Nat) (b : List UInt8) (W : World) : Prop := ∃ A c, W.heap[g]? = some (.cells #[.slice A b.length c] 79 (0, 0)) ∧ St w0 A c b
theorem Sc.below {w0 : World} {g : Nat} {b : List UInt8} {W W' : World} (h : Sc w0 g b W) (hb : Below W.heap.size W W') : Sc w0 g b W' := by
  obtain ⟨A, c, h1, h2⟩ := h
  exact ⟨A, c, blk_below h1 hb, h2⟩
abbrev stopV (e : Int) : List PanicEntry := [{ v := .iface 77 (.int .i64 e), recovered := false }]
/-- the scanner's block, and what is new, is all that has turned -/
def Gb (g : Nat) (w0 W W' : World) : Prop := W.grownBy W' (some g) ∧ (∀ B, B ≤ g → B ≤ W.heap.size → Below B W W')
theorem Gb.of_below {g : Nat} {w0 W W' : World} (h : Below W.heap.size W W') : Gb g w0 W W' := ⟨grown_of_below h _, fun B _ h2 => h.mono h2⟩
theorem Gb.refl (g : Nat) (w0 W : World) : Gb g w0 W W := Gb.of_below (Below.refl _ _)
theorem Gb.trans {g : Nat} {w0 W W1 W2 : World} (h : Gb g w0 W W1) (k : Gb g w0 W1 W2) : Gb g w0 W W2 := ⟨World.grownBy.trans h.1 k.1, fun B h1 h2 => (h.2 B h1 h2).trans (k.2 B h1 (Nat.le_trans h2 h.1.size))⟩
theorem Gb.set_ {g : Nat} {w0 W W1 : World} (h : Gb g w0 W W1) (j : Nat) (v : Value) : Gb g w0 W (W1.setCell ⟨g, j, none⟩ v) :=
  ⟨⟨h.1.os, h.1.tape, h.1.output, by simpa [World.setCell] using h.1.size, fun i hi hne => (Below.heap_setCell W1 ⟨g, j, none⟩ v i (fun e => hne (by rw [e]))).trans (h.1.block i hi hne)⟩, fun B h1 h2 => (h.2 B h1 h2).setCell (p := ⟨g, j, none⟩) h1 v⟩

set_option maxRecDepth 100000 in
set_option maxHeartbeats 800000 in
theorem number_ok (w0 : World) (g most : Nat) (mi : Int) (hmi0 : mi = (most : Int)) (code : Int) (b : List UInt8) (w : World) (hs : Sc w0 g b w) (hB : Below w0.heap.size w0 w) (hm : most ≤ 1099511627776) (n : Nat) (r : List UInt8) (hr : rdNum most code b = .ok (n, r)) :
    Calls Try.prog 48 #[.pointer (some ⟨g, 0, none⟩), .int .i64 mi, .int .i64 code] w fun e w' => e = .returned (.int .i64 (n : Int)) ∧ Sc w0 g r w' ∧ Gb g w0 w w' := by
  subst hmi0
  obtain ⟨g1, g2, g3, g4⟩ := rdNum_ok _ _ _ _ _ hr
  obtain ⟨A, c, h1, h2⟩ := hs
  have hx := h2 w hB
  have hG := Get_any A c b w hx
  obtain ⟨k1, k2, k3⟩ := gK_le b g1
  rw [← g3] at hG g2
  have hle := hx.le
  have hSt := h2.drop (gK b) k1
  rw [← g4] at hSt
  have hrl : r.length = b.length - gK b := by rw [g4, List.length_drop]
  rw [g1] at hG
  have hsl := fun W => slice_lo 79 5 Try.underlying79 (i := _) rfl rfl A b.length c (gK b) k1 W
  generalize gK b = k at *
  obtain ⟨m, hm2⟩ : ∃ m, b.length = m := ⟨_, rfl⟩
  rw [hm2] at hG hsl h1 k1 hle hrl
  have HRL := hide hrl
  have hlt := blk_lt h1
  have f0 := blk_cell h1 0
  have f1 := blk_frozen h1 0
  have hn : (n : Int) ≤ 1099511627776 := by omega
  have hmi : (most : Int) ≤ 1099511627776 := by omega
  have hnm : (n : Int) ≤ (most : Int) := by omega
  clear hr g1 g3 g4 hm2 hrl
  go_enter Try.func48, Try.ntmps48
  go_wp2_with (first | (go_at_call 50; (with_reducible refine hG.mono ?_); rintro e w1 ⟨rfl, HB1⟩; have h11 := blk_below h1 HB1; have f10 := blk_cell h11 0; have f11 := blk_frozen h11 0))
  go_ret
  refine ⟨rfl, ⟨cutA A c k, c - k, ?_, hSt⟩, (Gb.of_below HB1).set_ 0 _⟩
  rw [HRL.out]
  exact blk_set h11 0 _
set_option maxRecDepth 100000 in
set_option maxHeartbeats 800000 in
theorem number_err (w0 : World) (g most : Nat) (mi : Int) (hmi0 : mi = (most : Int)) (code : Int) (b : List UInt8) (w : World) (hs : Sc w0 g b w) (hB : Below w0.heap.size w0 w) (hm : most ≤ 1099511627776) (z : Int) (hr : rdNum most code b = .error z) :
    Calls Try.prog 48 #[.pointer (some ⟨g, 0, none⟩), .int .i64 mi, .int .i64 code] w fun e w' => e = .panicked (stopV z) ∧ Gb g w0 w w' := by
  subst hmi0
  obtain ⟨A, c, h1, h2⟩ := hs
  have hx := h2 w hB
  have hG := Get_any A c b w hx
  have hlt := blk_lt h1
  have f0 := blk_cell h1 0
  have f1 := blk_frozen h1 0
  have hmi : (most : Int) ≤ 1099511627776 := by omega
  obtain ⟨m, hm2⟩ : ∃ m, b.length = m := ⟨_, rfl⟩
  rcases rdNum_err _ _ _ _ hr with ⟨rfl, h3⟩ | ⟨h3, h4, rfl⟩
  · have h3i : ¬ (getErr b : Int) = 0 := by omega
    generalize getErr b = e0 at *
    generalize gK b = k at *
    generalize gN b = n at *
    rw [hm2] at hG h1 f0
    clear hr hm2 h3
    go_enter Try.func48, Try.ntmps48
    go_wp2_with (first | (go_at_call 50; (with_reducible refine hG.mono ?_); rintro e w1 ⟨rfl, HB1⟩))
    exact ⟨rfl, rfl, Gb.of_below HB1⟩
  · rw [h3] at hG
    have h4i : (most : Int) < (gN b : Int) := by omega
    have hN := getNum_lt' b h3
    have e2 : gN b = getNum b := by rw [gN, if_pos h3]
    rw [← e2] at hN
    have hNi : (gN b : Int) < 18446744073709551616 := by omega
    generalize gK b = k at *
    generalize gN b = n at *
    rw [hm2] at hG h1 f0
    have hwm : IntKind.u64.wrap (most : Int) = (most : Int) := by rw [IntKind.wrap_u64]; omega
    clear hr hm2 h3 e2 h4 hN hNi
    go_enter Try.func48, Try.ntmps48
    go_wp2_with (first | (go_at_call 50; (with_reducible refine hG.mono ?_); rintro e w1 ⟨rfl, HB1⟩))
    exact ⟨rfl, rfl, Gb.of_below HB1⟩
set_option maxRecDepth 100000 in
set_option maxHeartbeats 800000 in
theorem take_ok (w0 : World) (g n : Nat) (ni : Int) (hni0 : ni = (n : Int)) (b : List UInt8) (w : World) (hs : Sc w0 g b w) (hB : Below w0.heap.size w0 w) (hn : n ≤ b.length) :
    Calls Try.prog 62 #[.pointer (some ⟨g, 0, none⟩), .int .i64 ni] w fun e w' => (∃ A c, e = .returned (.slice A n c) ∧ St w0 A c (b.take n)) ∧ Sc w0 g (b.drop n) w' ∧ Gb g w0 w w' := by
  subst hni0
  obtain ⟨A, c, h1, h2⟩ := hs
  have hx := h2 w hB
  have hle := hx.le
  have hmx := hx.max
  have hSt := h2.drop n hn
  have hSt2 : St w0 A c (b.take n) := fun W hb => (h2 W hb).take n hn
  have hsl := fun W => slice_lo 79 5 Try.underlying79 (i := _) rfl rfl A b.length c n hn W
  have hsh := fun W => slice_hi 79 5 Try.underlying79 (i := _) rfl rfl A b.length c n (by omega) W
  have hrl : (b.drop n).length = b.length - n := List.length_drop
  obtain ⟨m, hm2⟩ : ∃ m, b.length = m := ⟨_, rfl⟩
  rw [hm2] at hsl hsh h1 hn hle hrl hmx
  have HRL := hide hrl
  have f0 := blk_cell h1 0
  have f1 := blk_frozen h1 0
  have hni : ¬ (m : Int) < (n : Int) := by omega
  clear hm2 hrl
  go_enter Try.func62, Try.ntmps62
  go_wp2
  go_ret
  refine ⟨⟨A, c, rfl, hSt2⟩, ⟨cutA A c n, c - n, ?_, hSt⟩, (Gb.refl g w0 w).set_ 0 _⟩
  rw [HRL.out]
  exact blk_set h1 0 _
set_option maxRecDepth 100000 in
set_option maxHeartbeats 800000 in
theorem take_err (w0 : World) (g n : Nat) (ni : Int) (hni0 : ni = (n : Int)) (b : List UInt8) (w : World) (hs : Sc w0 g b w) (hB : Below w0.heap.size w0 w) (hn : b.length < n) :
    Calls Try.prog 62 #[.pointer (some ⟨g, 0, none⟩), .int .i64 ni] w fun e w' => e = .panicked (stopV 8) ∧ Gb g w0 w w' := by
  subst hni0
  obtain ⟨A, c, h1, h2⟩ := hs
  obtain ⟨m, hm2⟩ : ∃ m, b.length = m := ⟨_, rfl⟩
  rw [hm2] at h1 hn
  have f0 := blk_cell h1 0
  have f1 := blk_frozen h1 0
  have hni : (m : Int) < (n : Int) := by omega
  clear hm2
  go_enter Try.func62, Try.ntmps62
  go_wp2
  exact ⟨rfl, rfl, Gb.refl g w0 w⟩
set_option maxRecDepth 100000 in
set_option maxHeartbeats 800000 in
theorem stext_ok (w0 : World) (g : Nat) (b : List UInt8) (w : World) (hs : Sc w0 g b w) (hB : Below w0.heap.size w0 w) (hg : w0.heap.size ≤ g) (s : ByteArray) (r : List UInt8) (hr : rdText b = .ok (s, r)) :
    Calls Try.prog 63 #[.pointer (some ⟨g, 0, none⟩)] w fun e w' => e = .returned (.string s) ∧ Sc w0 g r w' ∧ Gb g w0 w w' := by
  unfold rdText at hr
  split at hr
  · cases hr
  · next n r1 h1 =>
    unfold rdTake at hr
    split at hr
    · cases hr
    · next s' r2 h2 =>
      split at h2
      · cases h2
      · next h3 =>
        injection h2 with h2
        injection h2 with h4 h5
        injection hr with hr
        injection hr with h6 h7
        subst h4 h5 h6 h7
        have hN := number_ok w0 g 65536 65536 rfl 5 b w hs hB (by omega) n r1 h1
        have hT := fun W (h : Sc w0 g r1 W) (h' : Below w0.heap.size w0 W) => take_ok w0 g n (n : Int) rfl r1 W h h' (by omega)
        have hCv := fun A c W (h : RdB W A c (r1.take n)) => h.toStr (P := Try.prog) 39 5 9 Try.underlying39 Try.underlying5 Try.underlying9
        have htl : (r1.take n).length = n := by rw [List.length_take]; omega
        rw [htl] at hCv
        have hstr : strB (r1.take n) = ⟨(r1.take n).toArray⟩ := rfl
        rw [← hstr]
        clear h1 htl hstr h3
        go_enter Try.func63, Try.ntmps63
        go_wp2_with (first | (go_at_call 48; (with_reducible refine hN.mono ?_); rintro e w1 ⟨rfl, hs1, hg1⟩; have HB1 := hB.trans (hg1.2 _ hg hB.size)) | (go_at_call 62; (with_reducible refine (hT _ hs1 HB1).mono ?_); rintro e w2 ⟨⟨A2, c2, rfl, hst2⟩, hs2, hg2⟩; have HB2 := HB1.trans (hg2.2 _ hg HB1.size); have hcv := hCv A2 c2 w2 (hst2 _ HB2)))
        go_ret
        exact ⟨rfl, hs2, hg1.trans hg2⟩
set_option maxRecDepth 100000 in
set_option maxHeartbeats 800000 in
theorem stext_err (w0 : World) (g : Nat) (b : List UInt8) (w : World) (hs : Sc w0 g b w) (hB : Below w0.heap.size w0 w) (hg : w0.heap.size ≤ g) (z : Int) (hr : rdText b = .error z) :
    Calls Try.prog 63 #[.pointer (some ⟨g, 0, none⟩)] w fun e w' => e = .panicked (stopV z) ∧ Gb g w0 w w' := by
  unfold rdText at hr
  split at hr
  · next z' h1 =>
    injection hr with hr
    subst hr
    have hN := number_err w0 g 65536 65536 rfl 5 b w hs hB (by omega) z' h1
    clear h1
    go_enter Try.func63, Try.ntmps63
    go_wp2_with (first | (go_at_call 48; (with_reducible refine hN.mono ?_); rintro e w1 ⟨rfl, hg1⟩))
    exact ⟨rfl, rfl, hg1⟩
  · next n r1 h1 =>
    have hN := number_ok w0 g 65536 65536 rfl 5 b w hs hB (by omega) n r1 h1
    unfold rdTake at hr
    split at hr
    · next z' h2 =>
      split at h2
      · next h3 =>
        injection h2 with h2
        injection hr with hr
        subst h2 hr
        have hT := fun W (h : Sc w0 g r1 W) (h' : Below w0.heap.size w0 W) => take_err w0 g n (n : Int) rfl r1 W h h' h3
        clear h1 h3
        go_enter Try.func63, Try.ntmps63
        go_wp2_with (first | (go_at_call 48; (with_reducible refine hN.mono ?_); rintro e w1 ⟨rfl, hs1, hg1⟩; have HB1 := hB.trans (hg1.2 _ hg hB.size)) | (go_at_call 62; (with_reducible refine (hT _ hs1 HB1).mono ?_); rintro e w2 ⟨rfl, hg2⟩))
        exact ⟨rfl, rfl, hg1.trans hg2⟩
      · cases h2
    · cases hr
end Go.Proofs.Ytebefonohemlfaa
end

section
/- Wal: the walks of the scanner: change, batch. -/
namespace Go.Proofs.Ytebefonohemlfaa
open Go.RowKit Go.Proofs.YtebefonohemlfaaW.PrintWords
set_option linter.unusedVariables false

theorem rdB_head {w : World} {A : Option Addr} {c : Nat} {x : UInt8} {t : List UInt8} (h : RdB w A c (x :: t)) : ∃ ad, A = some ad ∧ w.cell? ad = some (.int .u8 (x.toNat : Int)) := by
  obtain ⟨ad, e, hc⟩ := h.at_ 0 (by simp)
  refine ⟨ad, e, ?_⟩
  have : ad.add 0 = ad := by simp [Addr.add]
  rw [this] at hc
  exact hc
/-- a change being read: its block -/
def Cz (w : World) (g : Nat) (a b c : Value) : Prop := w.heap[g]? = some (.cells #[a, b, c] 35 (0, 0))
theorem Cz.read {w : World} {g : Nat} {a b c : Value} (h : Cz w g a b c) : w.cell? ⟨g, 0, none⟩ = some a ∧ w.cell? ⟨g, 1, none⟩ = some b ∧ w.cell? ⟨g, 2, none⟩ = some c ∧ w.frozen? ⟨g, 0, none⟩ = false ∧ w.frozen? ⟨g, 1, none⟩ = false ∧ w.frozen? ⟨g, 2, none⟩ = false := ⟨blk_cell h 0, blk_cell h 1, blk_cell h 2, blk_frozen h 0, blk_frozen h 1, blk_frozen h 2⟩
theorem Cz.gb {w w1 w0 : World} {g b : Nat} {x y z : Value} (h : Cz w b x y z) (hg : Gb g w0 w w1) (hne : g ≠ b) : Cz w1 b x y z := blk_grown h hg.1 (fun e => by injection e with e; exact hne e.symm)
theorem sc_far {w0 W : World} {g gb j : Nat} {b : List UInt8} {v : Value} (h : Sc w0 g b W) (hne : g ≠ gb) : Sc w0 g b (W.setCell ⟨gb, j, none⟩ v) := by
  obtain ⟨A, c, h1, h2⟩ := h
  exact ⟨A, c, blk_far h1 (p := ⟨gb, j, none⟩) hne v, h2⟩
theorem gb_new {g : Nat} {w0 W W1 : World} {gb j : Nat} {v : Value} (h : Gb g w0 W W1) (hg : W.heap.size ≤ gb) : Gb g w0 W (W1.setCell ⟨gb, j, none⟩ v) :=
  ⟨⟨h.1.os, h.1.tape, h.1.output, by simpa [World.setCell] using h.1.size, fun i hi hne => (Below.heap_setCell W1 ⟨gb, j, none⟩ v i (show i ≠ gb by omega)).trans (h.1.block i hi hne)⟩, fun B h1 h2 => (h.2 B h1 h2).setCell (p := ⟨gb, j, none⟩) (show B ≤ gb by omega) v⟩
theorem chg_end {W : World} {gb : Nat} {a b c : Value} (h : Cz W gb a b c) (x y z : Value) : Cz (((((W.setCell ⟨gb, 0, none⟩ x).setCell ⟨gb, 1, none⟩ y).setCell ⟨gb, 0, none⟩ x).setCell ⟨gb, 1, none⟩ y).setCell ⟨gb, 2, none⟩ z) gb x y z := blk_set (blk_set (blk_set (blk_set (blk_set h 0 _) 1 _) 0 _) 1 _) 2 _
theorem chg_end2 {W : World} {gb : Nat} {a b c : Value} (h : Cz W gb a b c) (x y z : Value) : Cz ((((W.setCell ⟨gb, 2, none⟩ z).setCell ⟨gb, 0, none⟩ x).setCell ⟨gb, 1, none⟩ y).setCell ⟨gb, 2, none⟩ z) gb x y z := blk_set (blk_set (blk_set (blk_set h 2 _) 0 _) 1 _) 2 _
set_option maxRecDepth 100000 in
set_option maxHeartbeats 1600000 in
theorem change_ok (w0 : World) (g : Nat) (b : List UInt8) (w : World) (hs : Sc w0 g b w) (hB : Below w0.heap.size w0 w) (hg : w0.heap.size ≤ g) (c : Chg) (r : List UInt8) (hr : rdChange b = .ok (c, r)) :
    Calls Try.prog 49 #[.pointer (some ⟨g, 0, none⟩)] w fun e w' => e = .returned (aggC c) ∧ Sc w0 g r w' ∧ Gb g w0 w w' := by
  obtain ⟨x, t, rfl⟩ : ∃ x t, b = x :: t := by
    cases b with
    | nil => simp [rdChange, rdTake] at hr
    | cons x t => exact ⟨x, t, rfl⟩
  have hgw : g < w.heap.size := by obtain ⟨A, c, h1, _⟩ := hs; exact blk_lt h1
  simp only [rdChange, rdTake, List.length_cons, List.take_succ_cons, List.take_zero, List.drop_succ_cons, List.drop_zero, List.getD_cons_zero] at hr
  rw [if_neg (by omega)] at hr
  simp only at hr
  have b1 := below_alloc w (.cells #[.string ⟨#[]⟩, .bool false, .string ⟨#[]⟩] 35)
  have hs1 := hs.below b1
  have hB1 := hB.trans (b1.mono hB.size)
  have hT := take_ok w0 g 1 1 rfl (x :: t) _ hs1 hB1 (by simp)
  simp only [List.take_succ_cons, List.take_zero, List.drop_succ_cons, List.drop_zero] at hT
  have X1 : Cz (w.alloc (.cells #[.string ⟨#[]⟩, .bool false, .string ⟨#[]⟩] 35)) w.heap.size (.string ⟨#[]⟩) (.bool false) (.string ⟨#[]⟩) := heap_alloc_new w _
  have G1 : Gb g w0 w (w.alloc (.cells #[.string ⟨#[]⟩, .bool false, .string ⟨#[]⟩] 35)) := Gb.of_below b1
  have hne : g ≠ w.heap.size := by omega
  have hx256 := x.toNat_lt
  split at hr
  · cases hr
  · next hk =>
    split at hr
    · cases hr
    · next key r2 h4 =>
      have hK := fun W (h : Sc w0 g t W) (h' : Below w0.heap.size w0 W) => stext_ok w0 g t W h h' hg key r2 h4
      split at hr
      · next h5 =>
        injection hr with hr
        injection hr with h6 h7
        subst h6 h7 h5
        clear hk h4 hx256
        go_enter Try.func49, Try.ntmps49
        go_wp2_with (first | (go_at_call 62; (with_reducible refine hT.mono ?_); rintro e w2 ⟨⟨A2, c2, rfl, hst2⟩, hs2, hg2⟩; have HB2 := hB1.trans (hg2.2 _ hg hB1.size); obtain ⟨ad, rfl, hc2⟩ := rdB_head (hst2 _ HB2); have X2 := X1.gb hg2 hne; have G2 := G1.trans hg2) | (go_at_call 63; (with_reducible refine (hK _ hs2 HB2).mono ?_); rintro e w3 ⟨rfl, hs3, hg3⟩; have X3 := X2.gb hg3 hne; have G3 := G2.trans hg3; obtain ⟨y0, y1, y2, y3, y4, y5⟩ := X3.read))
        refine bodyPost_ret (v := aggC (key, true, ByteArray.empty)) ?_ rfl ⟨rfl, ?_, ?_⟩
        · have z := chg_end X3 (.string key) (.bool true) (.string ⟨#[]⟩)
          obtain ⟨z0, z1, z2, _, _, _⟩ := z.read
          simp [results, Try.results49, go_sem, z0, z1, z2, aggC]
          rfl
        · exact sc_far (sc_far (sc_far (sc_far (sc_far hs3 hne) hne) hne) hne) hne
        · exact gb_new (gb_new (gb_new (gb_new (gb_new G3 (Nat.le_refl _)) (Nat.le_refl _)) (Nat.le_refl _)) (Nat.le_refl _)) (Nat.le_refl _)
      · next h5 =>
        have hx1 : x = 1 := by
          rcases Decidable.em (x = 1) with h | h
          · exact h
          · exact absurd ⟨h, h5⟩ hk
        subst hx1
        split at hr
        · cases hr
        · next val r3 h8 =>
          have hV := fun W (h : Sc w0 g r2 W) (h' : Below w0.heap.size w0 W) => stext_ok w0 g r2 W h h' hg val r3 h8
          injection hr with hr
          injection hr with h6 h7
          subst h6 h7
          clear hk h4 h8 h5 hx256
          go_enter Try.func49, Try.ntmps49
          go_wp2_with (first | (go_at_call 62; (with_reducible refine hT.mono ?_); rintro e w2 ⟨⟨A2, c2, rfl, hst2⟩, hs2, hg2⟩; have HB2 := hB1.trans (hg2.2 _ hg hB1.size); obtain ⟨ad, rfl, hc2⟩ := rdB_head (hst2 _ HB2); have X2 := X1.gb hg2 hne; have G2 := G1.trans hg2) | (go_at_call 63; (with_reducible refine (hK _ hs2 HB2).mono ?_); rintro e w3 ⟨rfl, hs3, hg3⟩; have X3 := X2.gb hg3 hne; have G3 := G2.trans hg3; obtain ⟨y0, y1, y2, y3, y4, y5⟩ := X3.read; have HB3 := HB2.trans (hg3.2 _ hg HB2.size); have X33 : Cz ((w3.setCell ⟨w.heap.size, 0, none⟩ (.string key)).setCell ⟨w.heap.size, 1, none⟩ (.bool false)) w.heap.size (.string key) (.bool false) (.string ⟨#[]⟩) := blk_set (blk_set X3 0 _) 1 _; have hs33 : Sc w0 g r2 ((w3.setCell ⟨w.heap.size, 0, none⟩ (.string key)).setCell ⟨w.heap.size, 1, none⟩ (.bool false)) := sc_far (sc_far hs3 hne) hne; have G33 : Gb g w0 w ((w3.setCell ⟨w.heap.size, 0, none⟩ (.string key)).setCell ⟨w.heap.size, 1, none⟩ (.bool false)) := gb_new (gb_new G3 (Nat.le_refl _)) (Nat.le_refl _); have HB33 : Below w0.heap.size w0 ((w3.setCell ⟨w.heap.size, 0, none⟩ (.string key)).setCell ⟨w.heap.size, 1, none⟩ (.bool false)) := (HB3.setCell (p := ⟨w.heap.size, 0, none⟩) hB.size _).setCell (p := ⟨w.heap.size, 1, none⟩) hB.size _) | (go_at_call 63; (with_reducible refine (hV _ hs33 HB33).mono ?_); rintro e w4 ⟨rfl, hs4, hg4⟩; have X4 := X33.gb hg4 hne; have G4 := G33.trans hg4; obtain ⟨z0, z1, z2, z3, z4, z5⟩ := X4.read))
          refine bodyPost_ret (v := aggC (key, false, val)) ?_ rfl ⟨rfl, ?_, ?_⟩
          · have z := chg_end2 X4 (.string key) (.bool false) (.string val)
            obtain ⟨q0, q1, q2, _, _, _⟩ := z.read
            simp [results, Try.results49, go_sem, q0, q1, q2, aggC]
          · exact sc_far (sc_far (sc_far (sc_far hs4 hne) hne) hne) hne
          · exact gb_new (gb_new (gb_new (gb_new G4 (Nat.le_refl _)) (Nat.le_refl _)) (Nat.le_refl _)) (Nat.le_refl _)
set_option maxRecDepth 100000 in
set_option maxHeartbeats 1600000 in
theorem change_err (w0 : World) (g : Nat) (b : List UInt8) (w : World) (hs : Sc w0 g b w) (hB : Below w0.heap.size w0 w) (hg : w0.heap.size ≤ g) (z : Int) (hr : rdChange b = .error z) :
    Calls Try.prog 49 #[.pointer (some ⟨g, 0, none⟩)] w fun e w' => e = .panicked (stopV z) ∧ Gb g w0 w w' := by
  have hgw : g < w.heap.size := by obtain ⟨A, c, h1, _⟩ := hs; exact blk_lt h1
  have b1 := below_alloc w (.cells #[.string ⟨#[]⟩, .bool false, .string ⟨#[]⟩] 35)
  have hs1 := hs.below b1
  have hB1 := hB.trans (b1.mono hB.size)
  have X1 : Cz (w.alloc (.cells #[.string ⟨#[]⟩, .bool false, .string ⟨#[]⟩] 35)) w.heap.size (.string ⟨#[]⟩) (.bool false) (.string ⟨#[]⟩) := heap_alloc_new w _
  have G1 : Gb g w0 w (w.alloc (.cells #[.string ⟨#[]⟩, .bool false, .string ⟨#[]⟩] 35)) := Gb.of_below b1
  have hne : g ≠ w.heap.size := by omega
  cases b with
  | nil =>
    have hz : z = 8 := by
      simp [rdChange, rdTake] at hr
      exact hr.symm
    subst hz
    have hT := take_err w0 g 1 1 rfl [] _ hs1 hB1 (by simp)
    clear hr
    go_enter Try.func49, Try.ntmps49
    go_wp2_with (first | (go_at_call 62; (with_reducible refine hT.mono ?_); rintro e w2 ⟨rfl, hg2⟩))
    exact ⟨rfl, rfl, G1.trans hg2⟩
  | cons x t =>
    simp only [rdChange, rdTake, List.length_cons, List.take_succ_cons, List.take_zero, List.drop_succ_cons, List.drop_zero, List.getD_cons_zero] at hr
    rw [if_neg (by omega)] at hr
    simp only at hr
    have hT := take_ok w0 g 1 1 rfl (x :: t) _ hs1 hB1 (by simp)
    simp only [List.take_succ_cons, List.take_zero, List.drop_succ_cons, List.drop_zero] at hT
    have hx256 := x.toNat_lt
    split at hr
    · next hk =>
      injection hr with hr
      subst hr
      have k1 : ¬ (x.toNat : Int) = 1 := fun h => hk.1 (UInt8.toNat_inj.1 (by show x.toNat = 1; omega))
      have k2 : ¬ (x.toNat : Int) = 2 := fun h => hk.2 (UInt8.toNat_inj.1 (by show x.toNat = 2; omega))
      have k3 : ((x.toNat : Int) != 1) = true := by rw [bne_iff_ne]; exact k1
      have k4 : ((x.toNat : Int) != 2) = true := by rw [bne_iff_ne]; exact k2
      clear hk
      go_enter Try.func49, Try.ntmps49
      go_wp2_with (first | (go_at_call 62; (with_reducible refine hT.mono ?_); rintro e w2 ⟨⟨A2, c2, rfl, hst2⟩, hs2, hg2⟩; have HB2 := hB1.trans (hg2.2 _ hg hB1.size); obtain ⟨ad, rfl, hc2⟩ := rdB_head (hst2 _ HB2); have X2 := X1.gb hg2 hne; have G2 := G1.trans hg2))
      exact ⟨rfl, rfl, G2⟩
    · next hk =>
      split at hr
      · next z' h4 =>
        injection hr with hr
        subst hr
        have hK := fun W (h : Sc w0 g t W) (h' : Below w0.heap.size w0 W) => stext_err w0 g t W h h' hg z' h4
        have hk2 : x = 1 ∨ x = 2 := by
          rcases Decidable.em (x = 1) with h | h
          · exact .inl h
          · rcases Decidable.em (x = 2) with h' | h'
            · exact .inr h'
            · exact absurd ⟨h, h'⟩ hk
        clear hk h4 hx256
        rcases hk2 with rfl | rfl
        all_goals (
          go_enter Try.func49, Try.ntmps49
          go_wp2_with (first | (go_at_call 62; (with_reducible refine hT.mono ?_); rintro e w2 ⟨⟨A2, c2, rfl, hst2⟩, hs2, hg2⟩; have HB2 := hB1.trans (hg2.2 _ hg hB1.size); obtain ⟨ad, rfl, hc2⟩ := rdB_head (hst2 _ HB2); have X2 := X1.gb hg2 hne; have G2 := G1.trans hg2) | (go_at_call 63; (with_reducible refine (hK _ hs2 HB2).mono ?_); rintro e w3 ⟨rfl, hg3⟩))
          exact ⟨rfl, rfl, G2.trans hg3⟩)
      · next key r2 h4 =>
        have hK := fun W (h : Sc w0 g t W) (h' : Below w0.heap.size w0 W) => stext_ok w0 g t W h h' hg key r2 h4
        split at hr
        · cases hr
        · next h5 =>
          have hx1 : x = 1 := by
            rcases Decidable.em (x = 1) with h | h
            · exact h
            · exact absurd ⟨h, h5⟩ hk
          subst hx1
          split at hr
          · next z' h8 =>
            injection hr with hr
            subst hr
            have hV := fun W (h : Sc w0 g r2 W) (h' : Below w0.heap.size w0 W) => stext_err w0 g r2 W h h' hg z' h8
            clear hk h4 h8 h5 hx256
            go_enter Try.func49, Try.ntmps49
            go_wp2_with (first | (go_at_call 62; (with_reducible refine hT.mono ?_); rintro e w2 ⟨⟨A2, c2, rfl, hst2⟩, hs2, hg2⟩; have HB2 := hB1.trans (hg2.2 _ hg hB1.size); obtain ⟨ad, rfl, hc2⟩ := rdB_head (hst2 _ HB2); have X2 := X1.gb hg2 hne; have G2 := G1.trans hg2) | (go_at_call 63; (with_reducible refine (hK _ hs2 HB2).mono ?_); rintro e w3 ⟨rfl, hs3, hg3⟩; have X3 := X2.gb hg3 hne; have G3 := G2.trans hg3; obtain ⟨y0, y1, y2, y3, y4, y5⟩ := X3.read; have HB3 := HB2.trans (hg3.2 _ hg HB2.size); have X33 : Cz ((w3.setCell ⟨w.heap.size, 0, none⟩ (.string key)).setCell ⟨w.heap.size, 1, none⟩ (.bool false)) w.heap.size (.string key) (.bool false) (.string ⟨#[]⟩) := blk_set (blk_set X3 0 _) 1 _; have hs33 : Sc w0 g r2 ((w3.setCell ⟨w.heap.size, 0, none⟩ (.string key)).setCell ⟨w.heap.size, 1, none⟩ (.bool false)) := sc_far (sc_far hs3 hne) hne; have G33 : Gb g w0 w ((w3.setCell ⟨w.heap.size, 0, none⟩ (.string key)).setCell ⟨w.heap.size, 1, none⟩ (.bool false)) := gb_new (gb_new G3 (Nat.le_refl _)) (Nat.le_refl _); have HB33 : Below w0.heap.size w0 ((w3.setCell ⟨w.heap.size, 0, none⟩ (.string key)).setCell ⟨w.heap.size, 1, none⟩ (.bool false)) := (HB3.setCell (p := ⟨w.heap.size, 0, none⟩) hB.size _).setCell (p := ⟨w.heap.size, 1, none⟩) hB.size _) | (go_at_call 63; (with_reducible refine (hV _ hs33 HB33).mono ?_); rintro e w4 ⟨rfl, hg4⟩))
            exact ⟨rfl, rfl, G33.trans hg4⟩
          · cases hr
end Go.Proofs.Ytebefonohemlfaa
end

section
/- Wal: the walk of the scanner's batch. -/
namespace Go.Proofs.Ytebefonohemlfaa
open Go.RowKit Go.Proofs.YtebefonohemlfaaW.PrintWords
set_option linter.unusedVariables false

/-- a batch being read: its block -/
def Bt (w : World) (g : Nat) (q : Int) (v : Value) : Prop := w.heap[g]? = some (.cells #[.int .i64 q, v] 30 (0, 0))
theorem Bt.read {w : World} {g : Nat} {q : Int} {v : Value} (h : Bt w g q v) : w.cell? ⟨g, 0, none⟩ = some (.int .i64 q) ∧ w.cell? ⟨g, 1, none⟩ = some v ∧ w.frozen? ⟨g, 0, none⟩ = false ∧ w.frozen? ⟨g, 1, none⟩ = false := ⟨blk_cell h 0, blk_cell h 1, blk_frozen h 0, blk_frozen h 1⟩
theorem Bt.gb {w w1 w0 : World} {g b : Nat} {q : Int} {v : Value} (h : Bt w b q v) (hg : Gb g w0 w w1) (hne : g ≠ b) : Bt w1 b q v := blk_grown h hg.1 (fun e => by injection e with e; exact hne e.symm)
theorem Ow.gb {α : Type} {d : Kd α} {e g : Nat} {w w1 w0 : World} {base : Nat} {v : Value} {xs : List α} (h : Ow d e w base v xs) {t : TypeId} {cells : Array Value} (hb : w.heap[g]? = some (.cells cells t (0, 0))) (ht : ∀ q, q ∈ e :: d.E → q ≠ t) (hg : Gb g w0 w w1) : Ow d e w1 base v xs :=
  Kd.R_mono (Kd.R_grown (Kd.R_types h hb ht) hg.1 (fun k hk e => hk.2 (by injection e))) (fun _ _ => trivial)
theorem Sc.blk {w0 W : World} {g : Nat} {b : List UInt8} (h : Sc w0 g b W) : ∃ cells, W.heap[g]? = some (.cells cells 79 (0, 0)) := by
  obtain ⟨A, c, h1, _⟩ := h
  exact ⟨_, h1⟩
theorem Sc.lt {w0 W : World} {g : Nat} {b : List UInt8} (h : Sc w0 g b W) : g < W.heap.size := by
  obtain ⟨A, c, h1, _⟩ := h
  exact blk_lt h1
theorem Sc.row {w0 W W1 : World} {g : Nat} {b : List UInt8} {base : Nat} {v : Value} {l : List Chg} (h : Sc w0 g b W) (HO : OwC W base v l) (hg : W.grownBy W1 v.ownBlock) : Sc w0 g b W1 := by
  obtain ⟨A, c, h1, h2⟩ := h
  exact ⟨A, c, blk_grown h1 hg (Kd.R_ne HO h1 (by decide)), h2⟩
theorem Bt.row {W W1 : World} {g : Nat} {q : Int} {u : Value} {base : Nat} {v : Value} {l : List Chg} (h : Bt W g q u) (HO : OwC W base v l) (hg : W.grownBy W1 v.ownBlock) : Bt W1 g q u := blk_grown h hg (Kd.R_ne HO h (by decide))
theorem Gb.row {g : Nat} {w0 W W1 W2 : World} {v : Value} {l : List Chg} (h : Gb g w0 W W1) (HO : OwC W1 W.heap.size v l) (hg : W1.grownBy W2 v.ownBlock) : Gb g w0 W W2 :=
  ⟨⟨hg.os.trans h.1.os, hg.tape.trans h.1.tape, hg.output.trans h.1.output, Nat.le_trans h.1.size hg.size, fun i hi hne => (hg.block i (Nat.lt_of_lt_of_le hi h.1.size) (fun e => by have := HO.ge i e.symm; omega)).trans (h.1.block i hi hne)⟩, fun B h1 h2 => (h.2 B h1 h2).grown hg (Nat.le_trans h2 h.1.size) (fun k hk => Nat.le_trans h2 (HO.ge k hk))⟩
section
variable {ops : Array Oper} {o : Oper} {a : Act} {Q : Exit → Act → World → Prop} {K : Act → World → Prop}
theorem step_chg {w0 W : World} (base : Nat) (hw : Region.wanted o (yielded ops a.tmps) = true) (s x : Operand)
    (ho : o.op = .call { callee := .builtin .append, args := #[s, x], argTypes := #[22, 22] })
    (v : Value) (xs : List Chg) (c : Chg) (hs : a.eval s = v) (hx : a.eval x = .slice (some ⟨W.heap.size, 0, none⟩) 1 1)
    (HO : OwC W base v xs) (HB : Below base w0 W) (hbase : base ≤ W.heap.size) (hl : (xs.length + 1) * 40 ≤ 140737488355328)
    (h : ∀ v1 w1, OwC w1 base v1 (xs ++ [c]) → Below base w0 w1 → W.grownBy w1 v.ownBlock → K (a.put o.dst v1) w1) :
    if Region.wanted o (yielded ops a.tmps) = true then Oper.wp Try.prog o a (W.alloc (.cells #[.string c.1, .bool c.2.1, .string c.2.2] 35)) K Q else K (a.put o.dst undef) (W.alloc (.cells #[.string c.1, .bool c.2.1, .string c.2.2] 35)) :=
  Kd.R_append_step (P := Try.prog) kChg base hw s x 22 35 _ 40 ho Try.underlying22 info_chg rfl (by decide) (by decide) v xs c [.string c.1, .bool c.2.1, .string c.2.2] (fun _ => True) (fun _ => False) hs hx (kChg_M _ _ _ _) (fun _ h => h.elim) (fun _ _ => trivial) HO HB hbase hl (fun v1 w1 h1 h2 h3 _ => h v1 w1 h1 h2 h3)
end
theorem rdMany_pre (n : Nat) (b : List UInt8) (cs : List Chg) (r : List UInt8) (h : rdMany n b = .ok (cs, r)) (k : Nat) (hk : k ≤ n) : ∃ ds t, rdMany k b = .ok (ds, t) := by
  induction n generalizing cs r with
  | zero => obtain rfl : k = 0 := by omega
            exact ⟨_, _, h⟩
  | succ n ih =>
    rcases Nat.lt_or_ge n k with h1 | h1
    · obtain rfl : k = n + 1 := by omega
      exact ⟨_, _, h⟩
    · unfold rdMany at h
      split at h
      · cases h
      · next ds t h2 => exact ih _ _ h2 h1
theorem rdMany_step (k : Nat) (b : List UInt8) (cs ds : List Chg) (r t : List UInt8) (h : rdMany k b = .ok (cs, r)) (h' : rdMany (k + 1) b = .ok (ds, t)) : ∃ c, rdChange r = .ok (c, t) ∧ ds = cs ++ [c] := by
  rw [rdMany, h] at h'
  simp only at h'
  split at h'
  · cases h'
  · next c t2 h2 =>
    injection h' with h'
    injection h' with h3 h4
    exact ⟨c, by rw [h2, h4], h3.symm⟩
theorem rdMany_stop (n : Nat) (b : List UInt8) (z : Int) (h : rdMany n b = .error z) (k : Nat) (hk : k < n) (cs : List Chg) (r : List UInt8) (h1 : rdMany k b = .ok (cs, r)) (z' : Int) (h2 : rdChange r = .error z') : z' = z := by
  have e : rdMany (k + 1) b = .error z' := by rw [rdMany, h1]; simp only; rw [h2]
  have key : ∀ j, k + 1 + j ≤ n → rdMany (k + 1 + j) b = .error z' := by
    intro j
    induction j with
    | zero => intro _; exact e
    | succ j ih => intro hj; rw [show k + 1 + (j + 1) = (k + 1 + j) + 1 by omega, rdMany, ih (by omega)]
  have := key (n - (k + 1)) (by omega)
  rw [show k + 1 + (n - (k + 1)) = n by omega, h] at this
  injection this with this
  exact this.symm
set_option maxRecDepth 100000 in
set_option maxHeartbeats 3200000 in
theorem batch_ok0 (w0 : World) (g : Nat) (b : List UInt8) (w : World) (hs : Sc w0 g b w) (hB : Below w0.heap.size w0 w) (hg : w0.heap.size ≤ g) (q n : Nat) (r1 r2 r3 : List UInt8) (cs0 : List Chg) (h1 : rdNum 1099511627776 4 b = .ok (q, r1)) (h2 : rdNum 1099511627776 4 r1 = .ok (n, r2)) (hn : n ≤ 64) (h3 : rdMany n r2 = .ok (cs0, r3)) (h4 : r3.length = 0) :
    Calls Try.prog 36 #[.pointer (some ⟨g, 0, none⟩)] w fun e w' => (∃ A c, e = .returned (.agg #[.int .i64 (q : Int), .slice A cs0.length c]) ∧ OwC w' w.heap.size (.slice A cs0.length c) cs0) ∧ Gb g w0 w w' := by
  have hN1 := fun W (h : Sc w0 g b W) (h' : Below w0.heap.size w0 W) => number_ok w0 g 1099511627776 1099511627776 rfl 4 b W h h' (Nat.le_refl _) q r1 h1
  have hN2 := fun W (h : Sc w0 g r1 W) (h' : Below w0.heap.size w0 W) => number_ok w0 g 1099511627776 1099511627776 rfl 4 r1 W h h' (Nat.le_refl _) n r2 h2
  have hgw := hs.lt
  have hne : g ≠ w.heap.size := by omega
  have b1 := below_alloc w (.cells #[.int .i64 0, .slice none 0 0] 30)
  have hs1 := hs.below b1
  have hB1 := hB.trans (b1.mono hB.size)
  have X1 : Bt (w.alloc (.cells #[.int .i64 0, .slice none 0 0] 30)) w.heap.size 0 (.slice none 0 0) := heap_alloc_new w _
  have G1 : Gb g w0 w (w.alloc (.cells #[.int .i64 0, .slice none 0 0] 30)) := Gb.of_below b1
  have hni : ¬ 64 < (n : Int) := by omega
  have hni2 : (n : Int) ≤ 64 := by omega
  have H3 := hide h3
  clear h1 h2 h3
  go_enter Try.func36, Try.ntmps36
  go_wp2_with (first | (go_at_call 48; (with_reducible refine (hN1 _ hs1 hB1).mono ?_); rintro e w2 ⟨rfl, hs2, hg2⟩; have HB2 := hB1.trans (hg2.2 _ hg hB1.size); have X2 := X1.gb hg2 hne; have G2 := G1.trans hg2; obtain ⟨x20, x21, x22, x23⟩ := X2.read; have X3 : Bt (w2.setCell ⟨w.heap.size, 0, none⟩ (.int .i64 (q : Int))) w.heap.size (q : Int) (.slice none 0 0) := blk_set X2 0 _; have hs3 : Sc w0 g r1 (w2.setCell ⟨w.heap.size, 0, none⟩ (.int .i64 (q : Int))) := sc_far hs2 hne; have G3 : Gb g w0 w (w2.setCell ⟨w.heap.size, 0, none⟩ (.int .i64 (q : Int))) := gb_new G2 (Nat.le_refl _); have HB3 : Below w0.heap.size w0 (w2.setCell ⟨w.heap.size, 0, none⟩ (.int .i64 (q : Int))) := HB2.setCell (p := ⟨w.heap.size, 0, none⟩) hB.size _; clear hN1) | (go_at_call 48; (with_reducible refine (hN2 _ hs3 HB3).mono ?_); rintro e w4 ⟨rfl, hs4, hg4⟩; have HB4 := HB3.trans (hg4.2 _ hg HB3.size); have X4 := X3.gb hg4 hne; have G4 := G3.trans hg4; obtain ⟨x40, x41, x42, x43⟩ := X4.read))
  go_loopw [13] (fun i wr => ∃ (k : Nat) (cs : List Chg) (r : List UInt8) (v : Value), k ≤ n ∧ i = .int .i64 (k : Int) ∧ rdMany k r2 = .ok (cs, r) ∧ cs.length = k ∧ Sc w0 g r wr ∧ Bt wr w.heap.size (q : Int) v ∧ OwC wr w.heap.size v cs ∧ Gb g w0 w wr) (fun i _ => n - (intOf i).toNat)
  case atStart => exact ⟨0, [], r2, .slice none 0 0, by omega, rfl, rfl, rfl, hs4, X4, Ow.zero _ _ _ _, G4⟩
  case round =>
    obtain ⟨k, cs, r, v, hk, rfl, hrm, hcl, hsr, Xr, HOr, Gr⟩ := hrel
    have HBr := hB.trans (Gr.2 _ hg hB.size)
    obtain ⟨y0, y1, y2, y3⟩ := Xr.read
    by_cases hlt : k < n
    · have hlti : (k : Int) < (n : Int) := by omega
      obtain ⟨ds, t, hrm2⟩ := rdMany_pre n r2 cs0 r3 H3.out (k + 1) hlt
      obtain ⟨c, hch, rfl⟩ := rdMany_step k r2 cs ds r t hrm hrm2
      have hCh := fun W (h : Sc w0 g r W) (h' : Below w0.heap.size w0 W) => change_ok w0 g r W h h' hg c t hch
      have HRM := hide hrm2
      have hcl2 : (cs ++ [c]).length = k + 1 := by rw [List.length_append, List.length_singleton, hcl]
      have HCL := hide hcl2
      have h40 : (cs.length + 1) * 40 ≤ 140737488355328 := by omega
      have H40 := hide h40
      clear hrm hrm2 hch hcl hcl2 h40
      unfold aggC at hCh
      go_wp2
      have hsd : Sc w0 g r wr.drew := hsr.below (Below.refl _ _).drew
      have Gd : Gb g w0 w wr.drew := Gr.trans (Gb.of_below (Below.refl _ _).drew)
      have HOd : OwC wr.drew w.heap.size v cs := HOr.below (Below.refl _ _).drew
      go_region_law (first | ((refine step_chg (w0 := w5) (W := w5) w.heap.size (by rfl) (.tmp 16) (.tmp 19) rfl v cs c (by rfl) (by rfl) HO5 (Below.refl _ _) G5.1.size H40.out ?_); intro v6 w6 HO6 HB6 hg6; obtain ⟨A6, c6, hv6, hr6⟩ := HO6.rd; rw [HCL.out] at hv6; subst hv6; have X6 := Bt.row X55 HO5 hg6; obtain ⟨x60, x61, x62, x63⟩ := X6.read; have hs6 := Sc.row hs5 HO5 hg6; have G6 := Gb.row G5 HO5 hg6) | (go_simp; go_at_call 49; (with_reducible refine (hCh _ hsd HBr.drew).mono ?_); rintro e w5 ⟨rfl, hs5, hg5⟩; have X55 : Bt w5 w.heap.size (q : Int) v := Bt.gb (w := wr.drew) Xr hg5 hne; obtain ⟨x550, x551, x552, x553⟩ := X55.read; have X5 : Bt (w5.alloc (.cells #[.string c.1, .bool c.2.1, .string c.2.2] 35)) w.heap.size (q : Int) v := blk_alloc X55 _; obtain ⟨x50, x51, x52, x53⟩ := X5.read; have HO5 : OwC w5 w.heap.size v cs := (by obtain ⟨cells, hcells⟩ := hsd.blk; exact Ow.gb HOd hcells (by decide) hg5); have G5 := Gd.trans hg5; go_wp2))
      all_goals (try go_wp2)
      all_goals refine ⟨⟨k + 1, _, t, _, hlt, by go_num, HRM.out, HCL.out, sc_far hs6 hne, blk_set X6 1 _, Ow.setCell HO6 X6 (by decide) 1 _, gb_new G6 (Nat.le_refl _)⟩, ?_⟩
      all_goals (simp [intOf]; omega)
    · obtain rfl : k = n := by omega
      have hee : cs = cs0 ∧ r = r3 := by
        have := H3.out
        rw [hrm] at this
        injection this with this
        injection this with e1 e2
        exact ⟨e1, e2⟩
      obtain ⟨rfl, rfl⟩ := hee
      obtain ⟨A5, c5, hv5, hr5⟩ := HOr.rd
      subst hv5
      obtain ⟨As, cs', hsb, hst⟩ := hsr
      rw [h4] at hsb
      have u0 := blk_cell hsb 0
      have u1 := blk_frozen hsb 0
      clear hrm hcl h4
      go_wp2
      refine bodyPost_ret (v := .agg #[.int .i64 (q : Int), .slice A5 cs.length c5]) ?_ rfl ⟨⟨A5, c5, rfl, ?_⟩, ?_⟩
      · have z := blk_set (blk_set Xr 0 (.int .i64 (q : Int))) 1 (.slice A5 cs.length c5)
        have z0 := blk_cell z 0
        have z1 := blk_cell z 1
        simp [results, Try.results36, go_sem, z0, z1]
      · exact Ow.setCell (Ow.setCell HOr Xr (by decide) 0 _) (blk_set Xr 0 _) (by decide) 1 _
      · exact gb_new (gb_new Gr (Nat.le_refl _)) (Nat.le_refl _)
end Go.Proofs.Ytebefonohemlfaa
end

section
/- Wal: the walk of the scanner's batch, where it stops. -/
namespace Go.Proofs.Ytebefonohemlfaa
open Go.RowKit Go.Proofs.YtebefonohemlfaaW.PrintWords
set_option linter.unusedVariables false

theorem rdMany_fail (k : Nat) (b : List UInt8) (cs : List Chg) (r : List UInt8) (h : rdMany k b = .ok (cs, r)) (z : Int) (h' : rdMany (k + 1) b = .error z) : rdChange r = .error z := by
  rw [rdMany, h] at h'
  simp only at h'
  split at h'
  · next z2 h2 => rw [h2]; injection h' with h'; rw [h']
  · cases h'
set_option maxRecDepth 100000 in
set_option maxHeartbeats 1600000 in
theorem batch_err1 (w0 : World) (g : Nat) (b : List UInt8) (w : World) (hs : Sc w0 g b w) (hB : Below w0.heap.size w0 w) (hg : w0.heap.size ≤ g) (z : Int) (h1 : rdNum 1099511627776 4 b = .error z) :
    Calls Try.prog 36 #[.pointer (some ⟨g, 0, none⟩)] w fun e w' => e = .panicked (stopV z) ∧ Gb g w0 w w' := by
  have hE1 := fun W (h : Sc w0 g b W) (h' : Below w0.heap.size w0 W) => number_err w0 g 1099511627776 1099511627776 rfl 4 b W h h' (Nat.le_refl _) z h1
  have hgw := hs.lt
  have hne : g ≠ w.heap.size := by omega
  have b1 := below_alloc w (.cells #[.int .i64 0, .slice none 0 0] 30)
  have hs1 := hs.below b1
  have hB1 := hB.trans (b1.mono hB.size)
  have X1 : Bt (w.alloc (.cells #[.int .i64 0, .slice none 0 0] 30)) w.heap.size 0 (.slice none 0 0) := heap_alloc_new w _
  have G1 : Gb g w0 w (w.alloc (.cells #[.int .i64 0, .slice none 0 0] 30)) := Gb.of_below b1
  clear h1
  go_enter Try.func36, Try.ntmps36
  go_wp2_with (first | (go_at_call 48; (with_reducible refine (hE1 _ hs1 hB1).mono ?_); rintro e w2 ⟨rfl, hg2⟩; have G2 := G1.trans hg2))
  exact ⟨rfl, rfl, G2⟩
set_option maxRecDepth 100000 in
set_option maxHeartbeats 1600000 in
theorem batch_err2 (w0 : World) (g : Nat) (b : List UInt8) (w : World) (hs : Sc w0 g b w) (hB : Below w0.heap.size w0 w) (hg : w0.heap.size ≤ g) (z : Int) (q : Nat) (r1 : List UInt8) (h1 : rdNum 1099511627776 4 b = .ok (q, r1)) (h2 : rdNum 1099511627776 4 r1 = .error z) :
    Calls Try.prog 36 #[.pointer (some ⟨g, 0, none⟩)] w fun e w' => e = .panicked (stopV z) ∧ Gb g w0 w w' := by
  have hN1 := fun W (h : Sc w0 g b W) (h' : Below w0.heap.size w0 W) => number_ok w0 g 1099511627776 1099511627776 rfl 4 b W h h' (Nat.le_refl _) q r1 h1
  have hE2 := fun W (h : Sc w0 g r1 W) (h' : Below w0.heap.size w0 W) => number_err w0 g 1099511627776 1099511627776 rfl 4 r1 W h h' (Nat.le_refl _) z h2
  have hgw := hs.lt
  have hne : g ≠ w.heap.size := by omega
  have b1 := below_alloc w (.cells #[.int .i64 0, .slice none 0 0] 30)
  have hs1 := hs.below b1
  have hB1 := hB.trans (b1.mono hB.size)
  have X1 : Bt (w.alloc (.cells #[.int .i64 0, .slice none 0 0] 30)) w.heap.size 0 (.slice none 0 0) := heap_alloc_new w _
  have G1 : Gb g w0 w (w.alloc (.cells #[.int .i64 0, .slice none 0 0] 30)) := Gb.of_below b1
  clear h1 h2
  go_enter Try.func36, Try.ntmps36
  go_wp2_with (first | (go_at_call 48; (with_reducible refine (hN1 _ hs1 hB1).mono ?_); rintro e w2 ⟨rfl, hs2, hg2⟩; have HB2 := hB1.trans (hg2.2 _ hg hB1.size); have X2 := X1.gb hg2 hne; have G2 := G1.trans hg2; obtain ⟨x20, x21, x22, x23⟩ := X2.read; have X3 : Bt (w2.setCell ⟨w.heap.size, 0, none⟩ (.int .i64 (q : Int))) w.heap.size (q : Int) (.slice none 0 0) := blk_set X2 0 _; have hs3 : Sc w0 g r1 (w2.setCell ⟨w.heap.size, 0, none⟩ (.int .i64 (q : Int))) := sc_far hs2 hne; have G3 : Gb g w0 w (w2.setCell ⟨w.heap.size, 0, none⟩ (.int .i64 (q : Int))) := gb_new G2 (Nat.le_refl _); have HB3 : Below w0.heap.size w0 (w2.setCell ⟨w.heap.size, 0, none⟩ (.int .i64 (q : Int))) := HB2.setCell (p := ⟨w.heap.size, 0, none⟩) hB.size _; clear hN1) | (go_at_call 48; (with_reducible refine (hE2 _ hs3 HB3).mono ?_); rintro e w4 ⟨rfl, hg4⟩; have G4 := G3.trans hg4))
  exact ⟨rfl, rfl, G4⟩
set_option maxRecDepth 100000 in
set_option maxHeartbeats 1600000 in
theorem batch_err3 (w0 : World) (g : Nat) (b : List UInt8) (w : World) (hs : Sc w0 g b w) (hB : Below w0.heap.size w0 w) (hg : w0.heap.size ≤ g) (q n : Nat) (r1 r2 : List UInt8) (h1 : rdNum 1099511627776 4 b = .ok (q, r1)) (h2 : rdNum 1099511627776 4 r1 = .ok (n, r2)) (hn : 64 < n) :
    Calls Try.prog 36 #[.pointer (some ⟨g, 0, none⟩)] w fun e w' => e = .panicked (stopV 3) ∧ Gb g w0 w w' := by
  have hN1 := fun W (h : Sc w0 g b W) (h' : Below w0.heap.size w0 W) => number_ok w0 g 1099511627776 1099511627776 rfl 4 b W h h' (Nat.le_refl _) q r1 h1
  have hN2 := fun W (h : Sc w0 g r1 W) (h' : Below w0.heap.size w0 W) => number_ok w0 g 1099511627776 1099511627776 rfl 4 r1 W h h' (Nat.le_refl _) n r2 h2
  have hgw := hs.lt
  have hne : g ≠ w.heap.size := by omega
  have b1 := below_alloc w (.cells #[.int .i64 0, .slice none 0 0] 30)
  have hs1 := hs.below b1
  have hB1 := hB.trans (b1.mono hB.size)
  have X1 : Bt (w.alloc (.cells #[.int .i64 0, .slice none 0 0] 30)) w.heap.size 0 (.slice none 0 0) := heap_alloc_new w _
  have G1 : Gb g w0 w (w.alloc (.cells #[.int .i64 0, .slice none 0 0] 30)) := Gb.of_below b1
  have hni : 64 < (n : Int) := by omega
  clear h1 h2
  go_enter Try.func36, Try.ntmps36
  go_wp2_with (first | (go_at_call 48; (with_reducible refine (hN1 _ hs1 hB1).mono ?_); rintro e w2 ⟨rfl, hs2, hg2⟩; have HB2 := hB1.trans (hg2.2 _ hg hB1.size); have X2 := X1.gb hg2 hne; have G2 := G1.trans hg2; obtain ⟨x20, x21, x22, x23⟩ := X2.read; have X3 : Bt (w2.setCell ⟨w.heap.size, 0, none⟩ (.int .i64 (q : Int))) w.heap.size (q : Int) (.slice none 0 0) := blk_set X2 0 _; have hs3 : Sc w0 g r1 (w2.setCell ⟨w.heap.size, 0, none⟩ (.int .i64 (q : Int))) := sc_far hs2 hne; have G3 : Gb g w0 w (w2.setCell ⟨w.heap.size, 0, none⟩ (.int .i64 (q : Int))) := gb_new G2 (Nat.le_refl _); have HB3 : Below w0.heap.size w0 (w2.setCell ⟨w.heap.size, 0, none⟩ (.int .i64 (q : Int))) := HB2.setCell (p := ⟨w.heap.size, 0, none⟩) hB.size _; clear hN1) | (go_at_call 48; (with_reducible refine (hN2 _ hs3 HB3).mono ?_); rintro e w4 ⟨rfl, hs4, hg4⟩; have HB4 := HB3.trans (hg4.2 _ hg HB3.size); have X4 := X3.gb hg4 hne; have G4 := G3.trans hg4; obtain ⟨x40, x41, x42, x43⟩ := X4.read))
  exact ⟨rfl, rfl, G4⟩
set_option maxRecDepth 100000 in
set_option maxHeartbeats 3200000 in
theorem batch_err4 (w0 : World) (g : Nat) (b : List UInt8) (w : World) (hs : Sc w0 g b w) (hB : Below w0.heap.size w0 w) (hg : w0.heap.size ≤ g) (z : Int) (q n : Nat) (r1 r2 : List UInt8) (h1 : rdNum 1099511627776 4 b = .ok (q, r1)) (h2 : rdNum 1099511627776 4 r1 = .ok (n, r2)) (hn : n ≤ 64) (h3 : rdMany n r2 = .error z) :
    Calls Try.prog 36 #[.pointer (some ⟨g, 0, none⟩)] w fun e w' => e = .panicked (stopV z) ∧ Gb g w0 w w' := by
  have hN1 := fun W (h : Sc w0 g b W) (h' : Below w0.heap.size w0 W) => number_ok w0 g 1099511627776 1099511627776 rfl 4 b W h h' (Nat.le_refl _) q r1 h1
  have hN2 := fun W (h : Sc w0 g r1 W) (h' : Below w0.heap.size w0 W) => number_ok w0 g 1099511627776 1099511627776 rfl 4 r1 W h h' (Nat.le_refl _) n r2 h2
  have hgw := hs.lt
  have hne : g ≠ w.heap.size := by omega
  have b1 := below_alloc w (.cells #[.int .i64 0, .slice none 0 0] 30)
  have hs1 := hs.below b1
  have hB1 := hB.trans (b1.mono hB.size)
  have X1 : Bt (w.alloc (.cells #[.int .i64 0, .slice none 0 0] 30)) w.heap.size 0 (.slice none 0 0) := heap_alloc_new w _
  have G1 : Gb g w0 w (w.alloc (.cells #[.int .i64 0, .slice none 0 0] 30)) := Gb.of_below b1
  have hni : ¬ 64 < (n : Int) := by omega
  have hni2 : (n : Int) ≤ 64 := by omega
  have H3 := hide h3
  clear h1 h2 h3
  go_enter Try.func36, Try.ntmps36
  go_wp2_with (first | (go_at_call 48; (with_reducible refine (hN1 _ hs1 hB1).mono ?_); rintro e w2 ⟨rfl, hs2, hg2⟩; have HB2 := hB1.trans (hg2.2 _ hg hB1.size); have X2 := X1.gb hg2 hne; have G2 := G1.trans hg2; obtain ⟨x20, x21, x22, x23⟩ := X2.read; have X3 : Bt (w2.setCell ⟨w.heap.size, 0, none⟩ (.int .i64 (q : Int))) w.heap.size (q : Int) (.slice none 0 0) := blk_set X2 0 _; have hs3 : Sc w0 g r1 (w2.setCell ⟨w.heap.size, 0, none⟩ (.int .i64 (q : Int))) := sc_far hs2 hne; have G3 : Gb g w0 w (w2.setCell ⟨w.heap.size, 0, none⟩ (.int .i64 (q : Int))) := gb_new G2 (Nat.le_refl _); have HB3 : Below w0.heap.size w0 (w2.setCell ⟨w.heap.size, 0, none⟩ (.int .i64 (q : Int))) := HB2.setCell (p := ⟨w.heap.size, 0, none⟩) hB.size _; clear hN1) | (go_at_call 48; (with_reducible refine (hN2 _ hs3 HB3).mono ?_); rintro e w4 ⟨rfl, hs4, hg4⟩; have HB4 := HB3.trans (hg4.2 _ hg HB3.size); have X4 := X3.gb hg4 hne; have G4 := G3.trans hg4; obtain ⟨x40, x41, x42, x43⟩ := X4.read))
  go_loopw [13] (fun i wr => ∃ (k : Nat) (cs : List Chg) (r : List UInt8) (v : Value), k ≤ n ∧ i = .int .i64 (k : Int) ∧ rdMany k r2 = .ok (cs, r) ∧ cs.length = k ∧ Sc w0 g r wr ∧ Bt wr w.heap.size (q : Int) v ∧ OwC wr w.heap.size v cs ∧ Gb g w0 w wr) (fun i _ => n - (intOf i).toNat)
  case atStart => exact ⟨0, [], r2, .slice none 0 0, by omega, rfl, rfl, rfl, hs4, X4, Ow.zero _ _ _ _, G4⟩
  case round =>
    obtain ⟨k, cs, r, v, hk, rfl, hrm, hcl, hsr, Xr, HOr, Gr⟩ := hrel
    have HBr := hB.trans (Gr.2 _ hg hB.size)
    obtain ⟨y0, y1, y2, y3⟩ := Xr.read
    by_cases hlt : k < n
    · have hlti : (k : Int) < (n : Int) := by omega
      rcases hrm2 : rdMany (k + 1) r2 with z' | ⟨ds, t⟩
      · have hch := rdMany_fail k r2 cs r hrm z' hrm2
        obtain rfl := rdMany_stop n r2 z H3.out k hlt cs r hrm z' hch
        have hCh := fun W (h : Sc w0 g r W) (h' : Below w0.heap.size w0 W) => change_err w0 g r W h h' hg z' hch
        clear hrm hrm2 hch hcl
        go_wp2
        have hsd : Sc w0 g r wr.drew := hsr.below (Below.refl _ _).drew
        have Gd : Gb g w0 w wr.drew := Gr.trans (Gb.of_below (Below.refl _ _).drew)
        go_region_dies
        all_goals (refine (hCh _ hsd HBr.drew).mono ?_; rintro e w5 ⟨rfl, hg5⟩; go_wp2; exact ⟨rfl, rfl, Gd.trans hg5⟩)
      · obtain ⟨c, hch, rfl⟩ := rdMany_step k r2 cs ds r t hrm hrm2
        have hCh := fun W (h : Sc w0 g r W) (h' : Below w0.heap.size w0 W) => change_ok w0 g r W h h' hg c t hch
        have HRM := hide hrm2
        have hcl2 : (cs ++ [c]).length = k + 1 := by rw [List.length_append, List.length_singleton, hcl]
        have HCL := hide hcl2
        have h40 : (cs.length + 1) * 40 ≤ 140737488355328 := by omega
        have H40 := hide h40
        clear hrm hrm2 hch hcl hcl2 h40
        unfold aggC at hCh
        go_wp2
        have hsd : Sc w0 g r wr.drew := hsr.below (Below.refl _ _).drew
        have Gd : Gb g w0 w wr.drew := Gr.trans (Gb.of_below (Below.refl _ _).drew)
        have HOd : OwC wr.drew w.heap.size v cs := HOr.below (Below.refl _ _).drew
        go_region_law (first | ((refine step_chg (w0 := w5) (W := w5) w.heap.size (by rfl) (.tmp 16) (.tmp 19) rfl v cs c (by rfl) (by rfl) HO5 (Below.refl _ _) G5.1.size H40.out ?_); intro v6 w6 HO6 HB6 hg6; obtain ⟨A6, c6, hv6, hr6⟩ := HO6.rd; rw [HCL.out] at hv6; subst hv6; have X6 := Bt.row X55 HO5 hg6; obtain ⟨x60, x61, x62, x63⟩ := X6.read; have hs6 := Sc.row hs5 HO5 hg6; have G6 := Gb.row G5 HO5 hg6) | (go_simp; go_at_call 49; (with_reducible refine (hCh _ hsd HBr.drew).mono ?_); rintro e w5 ⟨rfl, hs5, hg5⟩; have X55 : Bt w5 w.heap.size (q : Int) v := Bt.gb (w := wr.drew) Xr hg5 hne; obtain ⟨x550, x551, x552, x553⟩ := X55.read; have X5 : Bt (w5.alloc (.cells #[.string c.1, .bool c.2.1, .string c.2.2] 35)) w.heap.size (q : Int) v := blk_alloc X55 _; obtain ⟨x50, x51, x52, x53⟩ := X5.read; have HO5 : OwC w5 w.heap.size v cs := (by obtain ⟨cells, hcells⟩ := hsd.blk; exact Ow.gb HOd hcells (by decide) hg5); have G5 := Gd.trans hg5; go_wp2))
        all_goals (try go_wp2)
        all_goals refine ⟨⟨k + 1, _, t, _, hlt, by go_num, HRM.out, HCL.out, sc_far hs6 hne, blk_set X6 1 _, Ow.setCell HO6 X6 (by decide) 1 _, gb_new G6 (Nat.le_refl _)⟩, ?_⟩
        all_goals (simp [intOf]; omega)
    · obtain rfl : k = n := by omega
      have := H3.out
      rw [hrm] at this
      cases this
set_option maxRecDepth 100000 in
set_option maxHeartbeats 3200000 in
theorem batch_err5 (w0 : World) (g : Nat) (b : List UInt8) (w : World) (hs : Sc w0 g b w) (hB : Below w0.heap.size w0 w) (hg : w0.heap.size ≤ g) (q n : Nat) (r1 r2 r3 : List UInt8) (cs0 : List Chg) (h1 : rdNum 1099511627776 4 b = .ok (q, r1)) (h2 : rdNum 1099511627776 4 r1 = .ok (n, r2)) (hn : n ≤ 64) (h3 : rdMany n r2 = .ok (cs0, r3)) (h4 : 0 < r3.length) :
    Calls Try.prog 36 #[.pointer (some ⟨g, 0, none⟩)] w fun e w' => e = .panicked (stopV 23) ∧ Gb g w0 w w' := by
  have hN1 := fun W (h : Sc w0 g b W) (h' : Below w0.heap.size w0 W) => number_ok w0 g 1099511627776 1099511627776 rfl 4 b W h h' (Nat.le_refl _) q r1 h1
  have hN2 := fun W (h : Sc w0 g r1 W) (h' : Below w0.heap.size w0 W) => number_ok w0 g 1099511627776 1099511627776 rfl 4 r1 W h h' (Nat.le_refl _) n r2 h2
  have hgw := hs.lt
  have hne : g ≠ w.heap.size := by omega
  have b1 := below_alloc w (.cells #[.int .i64 0, .slice none 0 0] 30)
  have hs1 := hs.below b1
  have hB1 := hB.trans (b1.mono hB.size)
  have X1 : Bt (w.alloc (.cells #[.int .i64 0, .slice none 0 0] 30)) w.heap.size 0 (.slice none 0 0) := heap_alloc_new w _
  have G1 : Gb g w0 w (w.alloc (.cells #[.int .i64 0, .slice none 0 0] 30)) := Gb.of_below b1
  have hni : ¬ 64 < (n : Int) := by omega
  have hni2 : (n : Int) ≤ 64 := by omega
  have H3 := hide h3
  clear h1 h2 h3
  go_enter Try.func36, Try.ntmps36
  go_wp2_with (first | (go_at_call 48; (with_reducible refine (hN1 _ hs1 hB1).mono ?_); rintro e w2 ⟨rfl, hs2, hg2⟩; have HB2 := hB1.trans (hg2.2 _ hg hB1.size); have X2 := X1.gb hg2 hne; have G2 := G1.trans hg2; obtain ⟨x20, x21, x22, x23⟩ := X2.read; have X3 : Bt (w2.setCell ⟨w.heap.size, 0, none⟩ (.int .i64 (q : Int))) w.heap.size (q : Int) (.slice none 0 0) := blk_set X2 0 _; have hs3 : Sc w0 g r1 (w2.setCell ⟨w.heap.size, 0, none⟩ (.int .i64 (q : Int))) := sc_far hs2 hne; have G3 : Gb g w0 w (w2.setCell ⟨w.heap.size, 0, none⟩ (.int .i64 (q : Int))) := gb_new G2 (Nat.le_refl _); have HB3 : Below w0.heap.size w0 (w2.setCell ⟨w.heap.size, 0, none⟩ (.int .i64 (q : Int))) := HB2.setCell (p := ⟨w.heap.size, 0, none⟩) hB.size _; clear hN1) | (go_at_call 48; (with_reducible refine (hN2 _ hs3 HB3).mono ?_); rintro e w4 ⟨rfl, hs4, hg4⟩; have HB4 := HB3.trans (hg4.2 _ hg HB3.size); have X4 := X3.gb hg4 hne; have G4 := G3.trans hg4; obtain ⟨x40, x41, x42, x43⟩ := X4.read))
  go_loopw [13] (fun i wr => ∃ (k : Nat) (cs : List Chg) (r : List UInt8) (v : Value), k ≤ n ∧ i = .int .i64 (k : Int) ∧ rdMany k r2 = .ok (cs, r) ∧ cs.length = k ∧ Sc w0 g r wr ∧ Bt wr w.heap.size (q : Int) v ∧ OwC wr w.heap.size v cs ∧ Gb g w0 w wr) (fun i _ => n - (intOf i).toNat)
  case atStart => exact ⟨0, [], r2, .slice none 0 0, by omega, rfl, rfl, rfl, hs4, X4, Ow.zero _ _ _ _, G4⟩
  case round =>
    obtain ⟨k, cs, r, v, hk, rfl, hrm, hcl, hsr, Xr, HOr, Gr⟩ := hrel
    have HBr := hB.trans (Gr.2 _ hg hB.size)
    obtain ⟨y0, y1, y2, y3⟩ := Xr.read
    by_cases hlt : k < n
    · have hlti : (k : Int) < (n : Int) := by omega
      obtain ⟨ds, t, hrm2⟩ := rdMany_pre n r2 cs0 r3 H3.out (k + 1) hlt
      obtain ⟨c, hch, rfl⟩ := rdMany_step k r2 cs ds r t hrm hrm2
      have hCh := fun W (h : Sc w0 g r W) (h' : Below w0.heap.size w0 W) => change_ok w0 g r W h h' hg c t hch
      have HRM := hide hrm2
      have hcl2 : (cs ++ [c]).length = k + 1 := by rw [List.length_append, List.length_singleton, hcl]
      have HCL := hide hcl2
      have h40 : (cs.length + 1) * 40 ≤ 140737488355328 := by omega
      have H40 := hide h40
      clear hrm hrm2 hch hcl hcl2 h40
      unfold aggC at hCh
      go_wp2
      have hsd : Sc w0 g r wr.drew := hsr.below (Below.refl _ _).drew
      have Gd : Gb g w0 w wr.drew := Gr.trans (Gb.of_below (Below.refl _ _).drew)
      have HOd : OwC wr.drew w.heap.size v cs := HOr.below (Below.refl _ _).drew
      go_region_law (first | ((refine step_chg (w0 := w5) (W := w5) w.heap.size (by rfl) (.tmp 16) (.tmp 19) rfl v cs c (by rfl) (by rfl) HO5 (Below.refl _ _) G5.1.size H40.out ?_); intro v6 w6 HO6 HB6 hg6; obtain ⟨A6, c6, hv6, hr6⟩ := HO6.rd; rw [HCL.out] at hv6; subst hv6; have X6 := Bt.row X55 HO5 hg6; obtain ⟨x60, x61, x62, x63⟩ := X6.read; have hs6 := Sc.row hs5 HO5 hg6; have G6 := Gb.row G5 HO5 hg6) | (go_simp; go_at_call 49; (with_reducible refine (hCh _ hsd HBr.drew).mono ?_); rintro e w5 ⟨rfl, hs5, hg5⟩; have X55 : Bt w5 w.heap.size (q : Int) v := Bt.gb (w := wr.drew) Xr hg5 hne; obtain ⟨x550, x551, x552, x553⟩ := X55.read; have X5 : Bt (w5.alloc (.cells #[.string c.1, .bool c.2.1, .string c.2.2] 35)) w.heap.size (q : Int) v := blk_alloc X55 _; obtain ⟨x50, x51, x52, x53⟩ := X5.read; have HO5 : OwC w5 w.heap.size v cs := (by obtain ⟨cells, hcells⟩ := hsd.blk; exact Ow.gb HOd hcells (by decide) hg5); have G5 := Gd.trans hg5; go_wp2))
      all_goals (try go_wp2)
      all_goals refine ⟨⟨k + 1, _, t, _, hlt, by go_num, HRM.out, HCL.out, sc_far hs6 hne, blk_set X6 1 _, Ow.setCell HO6 X6 (by decide) 1 _, gb_new G6 (Nat.le_refl _)⟩, ?_⟩
      all_goals (simp [intOf]; omega)
    · obtain rfl : k = n := by omega
      have hee : cs = cs0 ∧ r = r3 := by
        have := H3.out
        rw [hrm] at this
        injection this with this
        injection this with e1 e2
        exact ⟨e1, e2⟩
      obtain ⟨rfl, rfl⟩ := hee
      obtain ⟨As, cs', hsb, hst⟩ := hsr
      have u0 := blk_cell hsb 0
      have u1 := blk_frozen hsb 0
      have h4i : (0 : Int) < (r.length : Int) := by omega
      clear hrm hcl h4
      go_wp2
      exact ⟨rfl, rfl, Gr⟩
theorem batch_err (w0 : World) (g : Nat) (b : List UInt8) (w : World) (hs : Sc w0 g b w) (hB : Below w0.heap.size w0 w) (hg : w0.heap.size ≤ g) (z : Int) (hr : rdBatch b = .error z) :
    Calls Try.prog 36 #[.pointer (some ⟨g, 0, none⟩)] w fun e w' => e = .panicked (stopV z) ∧ Gb g w0 w w' := by
  unfold rdBatch at hr
  split at hr
  · next z1 h1 => injection hr with hr; subst hr; exact batch_err1 w0 g b w hs hB hg _ h1
  · next q r1 h1 =>
    split at hr
    · next z1 h2 => injection hr with hr; subst hr; exact batch_err2 w0 g b w hs hB hg _ q r1 h1 h2
    · next n r2 h2 =>
      split at hr
      · next h3 => injection hr with hr; subst hr; exact batch_err3 w0 g b w hs hB hg q n r1 r2 h1 h2 h3
      · next h3 =>
        split at hr
        · next z1 h4 => injection hr with hr; subst hr; exact batch_err4 w0 g b w hs hB hg _ q n r1 r2 h1 h2 (by omega) h4
        · next cs r3 h4 =>
          split at hr
          · next h5 => injection hr with hr; subst hr; exact batch_err5 w0 g b w hs hB hg q n r1 r2 r3 cs h1 h2 (by omega) h4 h5
          · cases hr
theorem batch_ok (w0 : World) (g : Nat) (b : List UInt8) (w : World) (hs : Sc w0 g b w) (hB : Below w0.heap.size w0 w) (hg : w0.heap.size ≤ g) (q : Nat) (cs : List Chg) (hr : rdBatch b = .ok (q, cs)) :
    Calls Try.prog 36 #[.pointer (some ⟨g, 0, none⟩)] w fun e w' => (∃ A c, e = .returned (.agg #[.int .i64 (q : Int), .slice A cs.length c]) ∧ OwC w' w.heap.size (.slice A cs.length c) cs) ∧ Gb g w0 w w' := by
  unfold rdBatch at hr
  split at hr
  · cases hr
  · next q r1 h1 =>
    split at hr
    · cases hr
    · next n r2 h2 =>
      split at hr
      · cases hr
      · next h3 =>
        split at hr
        · cases hr
        · next cs r3 h4 =>
          split at hr
          · cases hr
          · next h5 =>
            injection hr with hr
            injection hr with e1 e2
            subst e1 e2
            exact batch_ok0 w0 g b w hs hB hg q n r1 r2 r3 cs h1 h2 (by omega) h4 (by omega)
end Go.Proofs.Ytebefonohemlfaa
end

section
/- Wal: Decode: the scanner's stop is caught. -/
namespace Go.Proofs.Ytebefonohemlfaa
open Go.RowKit Go.Proofs.YtebefonohemlfaaW.PrintWords
set_option linter.unusedVariables false

section
variable {P : Program} {ops : Array Oper} {Q : Exit → Act → List Frame → World → Prop} {i : Nat} {rest : List Nat} {a : Act} {cs cs' : List Frame} {w : World}
theorem opsS_step (o : Oper) (v : Value) (w' : World) (a' : Act)
    (ho : ops[i]? = some o) (hw : Region.wanted o (yielded ops a.tmps) = true) (hr : (execOp a.eval o).run P w = .ok (.value v) w') (ha : a.put o.dst v = a') (h : wpOpsS P ops Q rest a' cs w') : wpOpsS P ops Q (i :: rest) a cs w := by
  simp only [wpOpsS, ho, hw, if_true, hr, Oper.upon, ha]
  exact h
theorem opsS_skip (o : Oper) (w' : World) (a' : Act)
    (ho : ops[i]? = some o) (hw : Region.wanted o (yielded ops a.tmps) = true) (hr : (execOp a.eval o).run P w = .ok .skip w') (ha : a.put o.dst undef = a') (h : wpOpsS P ops Q rest a' cs w') : wpOpsS P ops Q (i :: rest) a cs w := by
  simp only [wpOpsS, ho, hw, if_true, hr, Oper.upon, ha]
  exact h
theorem opsS_rec (o : Oper) (v : Value) (cs' : List Frame) (a' : Act)
    (ho : ops[i]? = some o) (hw : Region.wanted o (yielded ops a.tmps) = true) (hr : (execOp a.eval o).run P w = .ok .recover w) (hc : recoverD cs = some (v, cs')) (ha : a.put o.dst v = a') (h : wpOpsS P ops Q rest a' cs' w) : wpOpsS P ops Q (i :: rest) a cs w := by
  simp only [wpOpsS, ho, hw, if_true, hr, hc, ha]
  exact h
theorem opsS_norec (o : Oper) (a' : Act)
    (ho : ops[i]? = some o) (hw : Region.wanted o (yielded ops a.tmps) = true) (hr : (execOp a.eval o).run P w = .ok .recover w) (hc : recoverD cs = none) (ha : a.put o.dst .nilIface = a') (h : wpOpsS P ops Q rest a' cs w) : wpOpsS P ops Q (i :: rest) a cs w := by
  simp only [wpOpsS, ho, hw, if_true, hr, hc, ha]
  exact h
end
theorem hta (z : Int) (w : World) : (Instr.typeAssert (.iface 77 (.int .i64 z)) 20 77 true).run Try.prog w = .ok (.tuple #[.int .i64 z, .bool true]) w := by
  kernel_rfl
theorem hta0 (w : World) : (Instr.typeAssert .nilIface 20 77 true).run Try.prog w = .ok (.tuple #[.int .i64 0, .bool false]) w := by
  kernel_rfl
set_option maxRecDepth 100000 in
set_option maxHeartbeats 800000 in
theorem rec_stop (b g : Nat) (q : Int) (v : Value) (f : Int) (z : Int) (w : World) (hb : Bt w b q v) (hg : w.heap[g]? = some (.cells #[.int .i64 f] 27 (0, 0))) (hne : b ≠ g) :
    CallsD Try.prog 35 #[.pointer (some ⟨b, 0, none⟩), .pointer (some ⟨g, 0, none⟩)] (.panicking (stopV z)) w fun e u' w' =>
      e = .returned (.tuple #[]) ∧ u' = .panicking [{ v := .iface 77 (.int .i64 z), recovered := true }] ∧ w' = ((w.setCell ⟨b, 0, none⟩ (.int .i64 0)).setCell ⟨b, 1, none⟩ (.slice none 0 0)).setCell ⟨g, 0, none⟩ (.int .i64 z) := by
  obtain ⟨x0, x1, x2, x3⟩ := hb.read
  have g0 : w.cell? ⟨g, 0, none⟩ = some (.int .i64 f) := blk_cell hg 0
  have g1 := blk_frozen hg 0
  refine callsD_of_wpS Try.func35 rfl fun c₀ cs hu => ?_
  apply wpS_seq
  apply wpS_region
  show wpOpsS _ _ _ [0, 1, 2, 3, 4, 5, 6] { tmps := #[.pointer (some ⟨b, 0, none⟩), .pointer (some ⟨g, 0, none⟩), undef, undef, undef, undef, undef, undef, undef, undef, undef, undef], defers := [] } _ _
  refine opsS_rec _ (.iface 77 (.int .i64 z)) ({ c₀ with mode := .panicking [{ v := .iface 77 (.int .i64 z), recovered := true }] } :: cs) { tmps := #[.pointer (some ⟨b, 0, none⟩), .pointer (some ⟨g, 0, none⟩), undef, undef, undef, .iface 77 (.int .i64 z), undef, undef, undef, undef, undef, undef], defers := [] } rfl rfl rfl (by simp only [recoverD, hu]) rfl ?_
  refine opsS_step _ (.tuple #[.int .i64 z, .bool true]) (w) { tmps := #[.pointer (some ⟨b, 0, none⟩), .pointer (some ⟨g, 0, none⟩), undef, undef, undef, .iface 77 (.int .i64 z), .tuple #[.int .i64 z, .bool true], undef, undef, undef, undef, undef], defers := [] } rfl rfl ?_ rfl ?_
  · kernel_rfl
  refine opsS_step _ (.tuple #[.int .i64 z, .bool true]) (w) { tmps := #[.pointer (some ⟨b, 0, none⟩), .pointer (some ⟨g, 0, none⟩), undef, undef, .tuple #[.int .i64 z, .bool true], .iface 77 (.int .i64 z), .tuple #[.int .i64 z, .bool true], undef, undef, undef, undef, undef], defers := [] } rfl rfl ?_ rfl ?_
  · exact rfl
  refine opsS_step _ (.int .i64 z) (w) { tmps := #[.pointer (some ⟨b, 0, none⟩), .pointer (some ⟨g, 0, none⟩), undef, undef, .tuple #[.int .i64 z, .bool true], .iface 77 (.int .i64 z), .tuple #[.int .i64 z, .bool true], .int .i64 z, undef, undef, undef, undef], defers := [] } rfl rfl ?_ rfl ?_
  · exact rfl
  refine opsS_step _ (.bool true) (w) { tmps := #[.pointer (some ⟨b, 0, none⟩), .pointer (some ⟨g, 0, none⟩), undef, undef, .tuple #[.int .i64 z, .bool true], .iface 77 (.int .i64 z), .tuple #[.int .i64 z, .bool true], .int .i64 z, .bool true, undef, undef, undef], defers := [] } rfl rfl ?_ rfl ?_
  · exact rfl
  refine opsS_step _ (.int .i64 z) (w) { tmps := #[.pointer (some ⟨b, 0, none⟩), .pointer (some ⟨g, 0, none⟩), .int .i64 z, undef, .tuple #[.int .i64 z, .bool true], .iface 77 (.int .i64 z), .tuple #[.int .i64 z, .bool true], .int .i64 z, .bool true, undef, undef, undef], defers := [] } rfl rfl ?_ rfl ?_
  · exact rfl
  refine opsS_step _ (.bool true) (w) { tmps := #[.pointer (some ⟨b, 0, none⟩), .pointer (some ⟨g, 0, none⟩), .int .i64 z, .bool true, .tuple #[.int .i64 z, .bool true], .iface 77 (.int .i64 z), .tuple #[.int .i64 z, .bool true], .int .i64 z, .bool true, undef, undef, undef], defers := [] } rfl rfl ?_ rfl ?_
  · exact rfl
  apply wpS_seq
  apply wpS_region
  show wpOpsS _ _ _ [0] _ _ _
  refine opsS_step _ (.bool true) (w) { tmps := #[.pointer (some ⟨b, 0, none⟩), .pointer (some ⟨g, 0, none⟩), .int .i64 z, .bool true, .tuple #[.int .i64 z, .bool true], .iface 77 (.int .i64 z), .tuple #[.int .i64 z, .bool true], .int .i64 z, .bool true, .bool true, undef, undef], defers := [] } rfl rfl ?_ rfl ?_
  · exact rfl
  refine wpS_cond (t := true) rfl ?_
  simp only [if_true]
  apply wpS_region
  show wpOpsS _ _ _ [0, 1, 2, 3] _ _ _
  refine opsS_step _ (.agg #[.int .i64 0, .slice none 0 0]) (w) { tmps := #[.pointer (some ⟨b, 0, none⟩), .pointer (some ⟨g, 0, none⟩), .int .i64 z, .bool true, .tuple #[.int .i64 z, .bool true], .iface 77 (.int .i64 z), .tuple #[.int .i64 z, .bool true], .int .i64 z, .bool true, .bool true, .agg #[.int .i64 0, .slice none 0 0], undef], defers := [] } rfl rfl ?_ rfl ?_
  · kernel_rfl
  refine opsS_step _ (.int .i64 z) (w) { tmps := #[.pointer (some ⟨b, 0, none⟩), .pointer (some ⟨g, 0, none⟩), .int .i64 z, .bool true, .tuple #[.int .i64 z, .bool true], .iface 77 (.int .i64 z), .tuple #[.int .i64 z, .bool true], .int .i64 z, .bool true, .bool true, .agg #[.int .i64 0, .slice none 0 0], .int .i64 z], defers := [] } rfl rfl ?_ rfl ?_
  · exact rfl
  refine opsS_skip _ ((w.setCell ⟨b, 0, none⟩ (.int .i64 0)).setCell ⟨b, 1, none⟩ (.slice none 0 0)) { tmps := #[.pointer (some ⟨b, 0, none⟩), .pointer (some ⟨g, 0, none⟩), .int .i64 z, .bool true, .tuple #[.int .i64 z, .bool true], .iface 77 (.int .i64 z), .tuple #[.int .i64 z, .bool true], .int .i64 z, .bool true, .bool true, .agg #[.int .i64 0, .slice none 0 0], .int .i64 z], defers := [] } rfl rfl ?_ rfl ?_
  · simp [execOp, go_sem, x0, x1, x2, x3, g0, g1]
  refine opsS_skip _ (((w.setCell ⟨b, 0, none⟩ (.int .i64 0)).setCell ⟨b, 1, none⟩ (.slice none 0 0)).setCell ⟨g, 0, none⟩ (.int .i64 z)) { tmps := #[.pointer (some ⟨b, 0, none⟩), .pointer (some ⟨g, 0, none⟩), .int .i64 z, .bool true, .tuple #[.int .i64 z, .bool true], .iface 77 (.int .i64 z), .tuple #[.int .i64 z, .bool true], .int .i64 z, .bool true, .bool true, .agg #[.int .i64 0, .slice none 0 0], .int .i64 z], defers := [] } rfl rfl ?_ rfl ?_
  · simp [execOp, go_sem, x0, x1, x2, x3, g0, g1]
  exact ⟨rfl, _, rfl, _, by simp [results, Try.results35, go_sem], rfl, rfl, rfl⟩
set_option maxRecDepth 100000 in
set_option maxHeartbeats 800000 in
theorem rec_idle (b g : Nat) (w : World) :
    CallsD Try.prog 35 #[.pointer (some ⟨b, 0, none⟩), .pointer (some ⟨g, 0, none⟩)] .returning w fun e u' w' => e = .returned (.tuple #[]) ∧ u' = .returning ∧ w' = w := by
  refine callsD_of_wpS Try.func35 rfl fun c₀ cs hu => ?_
  apply wpS_seq
  apply wpS_region
  show wpOpsS _ _ _ [0, 1, 2, 3, 4, 5, 6] { tmps := #[.pointer (some ⟨b, 0, none⟩), .pointer (some ⟨g, 0, none⟩), undef, undef, undef, undef, undef, undef, undef, undef, undef, undef], defers := [] } _ _
  refine opsS_norec _ { tmps := #[.pointer (some ⟨b, 0, none⟩), .pointer (some ⟨g, 0, none⟩), undef, undef, undef, .nilIface, undef, undef, undef, undef, undef, undef], defers := [] } rfl rfl rfl (by simp only [recoverD, hu]) rfl ?_
  refine opsS_step _ (.tuple #[.int .i64 0, .bool false]) (w) { tmps := #[.pointer (some ⟨b, 0, none⟩), .pointer (some ⟨g, 0, none⟩), undef, undef, undef, .nilIface, .tuple #[.int .i64 0, .bool false], undef, undef, undef, undef, undef], defers := [] } rfl rfl ?_ rfl ?_
  · kernel_rfl
  refine opsS_step _ (.tuple #[.int .i64 0, .bool false]) (w) { tmps := #[.pointer (some ⟨b, 0, none⟩), .pointer (some ⟨g, 0, none⟩), undef, undef, .tuple #[.int .i64 0, .bool false], .nilIface, .tuple #[.int .i64 0, .bool false], undef, undef, undef, undef, undef], defers := [] } rfl rfl ?_ rfl ?_
  · exact rfl
  refine opsS_step _ (.int .i64 0) (w) { tmps := #[.pointer (some ⟨b, 0, none⟩), .pointer (some ⟨g, 0, none⟩), undef, undef, .tuple #[.int .i64 0, .bool false], .nilIface, .tuple #[.int .i64 0, .bool false], .int .i64 0, undef, undef, undef, undef], defers := [] } rfl rfl ?_ rfl ?_
  · exact rfl
  refine opsS_step _ (.bool false) (w) { tmps := #[.pointer (some ⟨b, 0, none⟩), .pointer (some ⟨g, 0, none⟩), undef, undef, .tuple #[.int .i64 0, .bool false], .nilIface, .tuple #[.int .i64 0, .bool false], .int .i64 0, .bool false, undef, undef, undef], defers := [] } rfl rfl ?_ rfl ?_
  · exact rfl
  refine opsS_step _ (.int .i64 0) (w) { tmps := #[.pointer (some ⟨b, 0, none⟩), .pointer (some ⟨g, 0, none⟩), .int .i64 0, undef, .tuple #[.int .i64 0, .bool false], .nilIface, .tuple #[.int .i64 0, .bool false], .int .i64 0, .bool false, undef, undef, undef], defers := [] } rfl rfl ?_ rfl ?_
  · exact rfl
  refine opsS_step _ (.bool false) (w) { tmps := #[.pointer (some ⟨b, 0, none⟩), .pointer (some ⟨g, 0, none⟩), .int .i64 0, .bool false, .tuple #[.int .i64 0, .bool false], .nilIface, .tuple #[.int .i64 0, .bool false], .int .i64 0, .bool false, undef, undef, undef], defers := [] } rfl rfl ?_ rfl ?_
  · exact rfl
  apply wpS_seq
  apply wpS_region
  show wpOpsS _ _ _ [0] _ _ _
  refine opsS_step _ (.bool false) (w) { tmps := #[.pointer (some ⟨b, 0, none⟩), .pointer (some ⟨g, 0, none⟩), .int .i64 0, .bool false, .tuple #[.int .i64 0, .bool false], .nilIface, .tuple #[.int .i64 0, .bool false], .int .i64 0, .bool false, .bool false, undef, undef], defers := [] } rfl rfl ?_ rfl ?_
  · exact rfl
  refine wpS_cond (t := false) rfl ?_
  simp only [Bool.false_eq_true, if_false]
  refine wpS_of_wp (wp_skip ?_)
  cases c₀
  exact ⟨rfl, _, by simp_all, _, by simp [results, Try.results35, go_sem], rfl, rfl, rfl⟩
end Go.Proofs.Ytebefonohemlfaa
end

section
/- Wal: Decode: what it answers. -/
namespace Go.Proofs.Ytebefonohemlfaa
open Go.RowKit Go.Proofs.YtebefonohemlfaaW.PrintWords
set_option linter.unusedVariables false

/-- an error's block -/
def Eb1 (w : World) (g : Nat) (z : Int) : Prop := w.heap[g]? = some (.cells #[.int .i64 z] 27 (0, 0))
theorem Eb1.read {w : World} {g : Nat} {z : Int} (h : Eb1 w g z) : w.cell? ⟨g, 0, none⟩ = some (.int .i64 z) ∧ w.frozen? ⟨g, 0, none⟩ = false := ⟨blk_cell h 0, blk_frozen h 0⟩
theorem Eb1.gb {w w1 w0 : World} {g b : Nat} {z : Int} (h : Eb1 w b z) (hg : Gb g w0 w w1) (hne : g ≠ b) : Eb1 w1 b z := blk_grown h hg.1 (fun e => by injection e with e; exact hne e.symm)
abbrev dW1 (w : World) : World := w.alloc (.cells #[.int .i64 0, .slice none 0 0] 30)
abbrev dW2 (w : World) : World := (dW1 w).alloc (.cells #[.int .i64 0] 27)
abbrev dW3 (w : World) (v : Value) : World := (dW2 w).alloc (.cells #[v] 79)
/-- the scanner at work -/
theorem dW_sc (w : World) (A : Option Addr) (c n : Nat) (x : List UInt8) (hn : x.length = n) (hx : RdB w A c x) :
    Sc w (w.heap.size + 1 + 1) x (dW3 w (.slice A n c)) ∧ Bt (dW3 w (.slice A n c)) w.heap.size 0 (.slice none 0 0) ∧ Eb1 (dW3 w (.slice A n c)) (w.heap.size + 1) 0 ∧ Below w.heap.size w (dW3 w (.slice A n c)) := by
  subst hn
  have s1 : (dW1 w).heap.size = w.heap.size + 1 := Array.size_push _
  have s2 : (dW2 w).heap.size = w.heap.size + 1 + 1 := by rw [show (dW2 w).heap.size = (dW1 w).heap.size + 1 from Array.size_push _, s1]
  have X1 : Bt (dW1 w) w.heap.size 0 (.slice none 0 0) := heap_alloc_new w _
  have X2 : Eb1 (dW2 w) (dW1 w).heap.size 0 := heap_alloc_new (dW1 w) _
  have X3 : (dW3 w (.slice A x.length c)).heap[(dW2 w).heap.size]? = some (.cells #[.slice A x.length c] 79 (0, 0)) := heap_alloc_new (dW2 w) _
  rw [s1] at X2
  rw [s2] at X3
  have b1 := below_alloc w (.cells #[.int .i64 0, .slice none 0 0] 30)
  have b2 := below_alloc (dW1 w) (.cells #[.int .i64 0] 27)
  have b3 := below_alloc (dW2 w) (.cells #[.slice A x.length c] 79)
  exact ⟨⟨A, c, X3, St.of hx⟩, blk_below (blk_below X1 b2) b3, blk_below X2 b3, (b1.trans (b2.mono (by omega))).trans (b3.mono (by omega))⟩
theorem bt_set {z : Int} {w : World} {b g : Nat} {q : Int} {v : Value} (h : Bt w b q v) (h' : Eb1 w g z) (hne : b ≠ g) (q' : Int) (v' : Value) (z' : Int) : Bt (((w.setCell ⟨b, 0, none⟩ (.int .i64 q')).setCell ⟨b, 1, none⟩ v').setCell ⟨g, 0, none⟩ (.int .i64 z')) b q' v' ∧ Eb1 (((w.setCell ⟨b, 0, none⟩ (.int .i64 q')).setCell ⟨b, 1, none⟩ v').setCell ⟨g, 0, none⟩ (.int .i64 z')) g z' :=
  ⟨blk_far (blk_set (blk_set h 0 _) 1 _) (p := ⟨g, 0, none⟩) hne _, blk_set (blk_far (blk_far h' (p := ⟨b, 0, none⟩) hne.symm _) (p := ⟨b, 1, none⟩) hne.symm _) 0 _⟩
set_option maxRecDepth 100000 in
set_option maxHeartbeats 800000 in
theorem Decode_stop (A : Option Addr) (c n : Nat) (x : List UInt8) (w : World) (hn : x.length = n) (hx : RdB w A c x) (z : Int) (hr : rdBatch x = .error z) :
    Calls Try.prog 20 #[.slice A n c] w fun e w' => e = .returned (.tuple #[.agg #[.int .i64 0, .slice none 0 0], .int .i64 z]) ∧ Below w.heap.size w w' := by
  have hmf : ∀ (fn : Fn) (first cap : Array Value) (w : World), (Instr.makeFunc fn first cap).run Try.prog w = .ok (.func fn first cap) w := fun _ _ _ _ => rfl
  obtain ⟨hs, X, E1, B⟩ := dW_sc w A c n x hn hx
  have hb := batch_err w (w.heap.size + 1 + 1) x _ hs B (by omega) z hr
  have hne : w.heap.size + 1 + 1 ≠ w.heap.size := by omega
  have hne2 : w.heap.size + 1 + 1 ≠ w.heap.size + 1 := by omega
  have hne3 : w.heap.size ≠ w.heap.size + 1 := by omega
  clear hx hr
  go_enter_defers Try.func20, Try.ntmps20
  go_wp2_with (first | (go_at_call 36; (with_reducible refine hb.mono ?_); rintro e w5 ⟨rfl, hg5⟩; have X5 := X.gb hg5 hne; have E5 := E1.gb hg5 hne2; have B5 := B.trans (hg5.2 _ (by omega) B.size)))
  show Leaves Try.prog Try.f20 _ _ _ _ _
  refine leaves_cons (f := 35) (args := #[.pointer (some ⟨w.heap.size, 0, none⟩), .pointer (some ⟨w.heap.size + 1, 0, none⟩)]) (by simp) (by simp [go_sem]) ?_
  refine (rec_stop w.heap.size (w.heap.size + 1) _ _ _ z w5 X5 E5 hne3).mono ?_
  rintro e u' w'' ⟨rfl, rfl, rfl⟩
  obtain ⟨Y, F⟩ := bt_set X5 E5 hne3 0 (.slice none 0 0) z
  obtain ⟨y0, y1, _, _⟩ := Y.read
  obtain ⟨f0, _⟩ := F.read
  simp [Leaves, settle, results, Try.results20, go_sem, y0, y1, f0]
  exact ((B5.setCell (p := ⟨_, 0, none⟩) (Nat.le_refl _) _).setCell (p := ⟨_, 1, none⟩) (Nat.le_refl _) _).setCell (p := ⟨_, 0, none⟩) (Nat.le_succ _) _
theorem bt_put {z : Int} {w : World} {b g : Nat} {q : Int} {v : Value} (h : Bt w b q v) (h' : Eb1 w g z) (hne : b ≠ g) (q' : Int) (v' : Value) : Bt ((w.setCell ⟨b, 0, none⟩ (.int .i64 q')).setCell ⟨b, 1, none⟩ v') b q' v' ∧ Eb1 ((w.setCell ⟨b, 0, none⟩ (.int .i64 q')).setCell ⟨b, 1, none⟩ v') g z :=
  ⟨blk_set (blk_set h 0 _) 1 _, blk_far (blk_far h' (p := ⟨b, 0, none⟩) hne.symm _) (p := ⟨b, 1, none⟩) hne.symm _⟩
theorem eb_put {z : Int} {w : World} {b g : Nat} {q : Int} {v : Value} (h : Bt w b q v) (h' : Eb1 w g z) (hne : b ≠ g) (z' : Int) : Bt (w.setCell ⟨g, 0, none⟩ (.int .i64 z')) b q v ∧ Eb1 (w.setCell ⟨g, 0, none⟩ (.int .i64 z')) g z' :=
  ⟨blk_far h (p := ⟨g, 0, none⟩) hne _, blk_set h' 0 _⟩
theorem Bt.below {w w1 : World} {g : Nat} {q : Int} {v : Value} (h : Bt w g q v) (hb : Below w.heap.size w w1) : Bt w1 g q v := blk_below h hb
theorem Eb1.below {w w1 : World} {g : Nat} {z : Int} (h : Eb1 w g z) (hb : Below w.heap.size w w1) : Eb1 w1 g z := blk_below h hb
set_option maxRecDepth 100000 in
set_option maxHeartbeats 1600000 in
theorem Decode_good (A : Option Addr) (c n : Nat) (x : List UInt8) (w : World) (hn : x.length = n) (hx : RdB w A c x) (q : Nat) (cs : List Chg) (hr : rdBatch x = .ok (q, cs)) (hz : chkB (q : Int) cs = 0) :
    Calls Try.prog 20 #[.slice A n c] w fun e w' => (∃ A' c', e = .returned (.tuple #[.agg #[.int .i64 (q : Int), .slice A' cs.length c'], .int .i64 0]) ∧ OwC w' w.heap.size (.slice A' cs.length c') cs) ∧ Below w.heap.size w w' := by
  have hmf : ∀ (fn : Fn) (first cap : Array Value) (w : World), (Instr.makeFunc fn first cap).run Try.prog w = .ok (.func fn first cap) w := fun _ _ _ _ => rfl
  have hle := (rdBatch_ok x q cs hr).2
  have hle2 : cs.length ≤ 9223372036854775806 := by omega
  obtain ⟨hs, X, E1, B⟩ := dW_sc w A c n x hn hx
  have hb := batch_ok w (w.heap.size + 1 + 1) x _ hs B (by omega) q cs hr
  have hne : w.heap.size + 1 + 1 ≠ w.heap.size := by omega
  have hne2 : w.heap.size + 1 + 1 ≠ w.heap.size + 1 := by omega
  have hne3 : w.heap.size ≠ w.heap.size + 1 := by omega
  have hSB : w.heap.size ≤ (dW3 w (.slice A n c)).heap.size := B.size
  clear hx hr
  go_enter_defers Try.func20, Try.ntmps20
  go_wp2_with (first | (go_at_call 36; (with_reducible refine hb.mono ?_); rintro e w5 ⟨⟨A5, c5, rfl, HO5⟩, hg5⟩; have X5 := X.gb hg5 hne; have E5 := E1.gb hg5 hne2; have B5 := B.trans (hg5.2 _ (by omega) B.size); obtain ⟨x50, x51, x52, x53⟩ := X5.read; obtain ⟨Y, F⟩ := bt_put X5 E5 hne3 (q : Int) (.slice A5 cs.length c5); obtain ⟨y0, y1, y2, y3⟩ := Y.read; obtain ⟨f0, f1⟩ := F.read; have HO6 : OwC ((w5.setCell ⟨w.heap.size, 0, none⟩ (.int .i64 (q : Int))).setCell ⟨w.heap.size, 1, none⟩ (.slice A5 cs.length c5)) _ _ cs := Ow.setCell (Ow.setCell HO5 X5 (by decide) 0 _) (blk_set X5 0 _) (by decide) 1 _; have B6 := (B5.setCell (p := ⟨w.heap.size, 0, none⟩) (Nat.le_refl _) (.int .i64 (q : Int))).setCell (p := ⟨w.heap.size, 1, none⟩) (Nat.le_refl _) (.slice A5 cs.length c5)) | (go_at_call 26; (with_reducible refine (Check_any _ _ _ _ cs _ rfl HO6.rdl hle2).mono ?_); rw [hz]; rintro e w7 ⟨rfl, B7⟩; have Y7 := Y.below B7; have F7 := F.below B7; obtain ⟨g0, g1⟩ := F7.read; obtain ⟨Z, G⟩ := eb_put Y7 F7 hne3 0; obtain ⟨z0, z1, z2, z3⟩ := Z.read; obtain ⟨h0, h1⟩ := G.read; have HO7 := HO6.below B7; have B7' := B6.trans (B7.mono B6.size)))
  show Leaves Try.prog Try.f20 _ _ _ _ _
  refine leaves_cons (f := 35) (args := #[.pointer (some ⟨w.heap.size, 0, none⟩), .pointer (some ⟨w.heap.size + 1, 0, none⟩)]) (by simp) (by simp [go_sem]) ?_
  refine (rec_idle w.heap.size (w.heap.size + 1) _).mono ?_
  rintro e u' w'' ⟨rfl, rfl, rfl⟩
  obtain ⟨V, U⟩ := bt_set Z G hne3 (q : Int) (.slice A5 cs.length c5) 0
  have HO8 := Ow.setCell (Ow.setCell (Ow.setCell (Ow.setCell HO7 F7 (by decide) 0 (.int .i64 0)) Z (by decide) 0 (.int .i64 (q : Int))) (blk_set Z 0 _) (by decide) 1 (.slice A5 cs.length c5)) (blk_far (blk_far G (p := ⟨w.heap.size, 0, none⟩) hne3.symm _) (p := ⟨w.heap.size, 1, none⟩) hne3.symm _) (by decide) 0 (.int .i64 0)
  obtain ⟨v0, v1, _, _⟩ := V.read
  obtain ⟨u0, _⟩ := U.read
  simp [Leaves, settle, results, Try.results20, go_sem, v0, v1, u0]
  exact ⟨⟨A5, c5, ⟨rfl, rfl⟩, HO8.lower hSB⟩, ((((B7'.setCell (p := ⟨w.heap.size + 1, 0, none⟩) (Nat.le_succ _) (.int .i64 0)).setCell (p := ⟨w.heap.size, 0, none⟩) (Nat.le_refl _) (.int .i64 (q : Int))).setCell (p := ⟨w.heap.size, 1, none⟩) (Nat.le_refl _) (.slice A5 cs.length c5)).setCell (p := ⟨w.heap.size + 1, 0, none⟩) (Nat.le_succ _) (.int .i64 0))⟩
set_option maxRecDepth 100000 in
set_option maxHeartbeats 1600000 in
theorem Decode_bad (A : Option Addr) (c n : Nat) (x : List UInt8) (w : World) (hn : x.length = n) (hx : RdB w A c x) (q : Nat) (cs : List Chg) (hr : rdBatch x = .ok (q, cs)) (z : Int) (hz : chkB (q : Int) cs = z) (hz0 : ¬ z = 0) :
    Calls Try.prog 20 #[.slice A n c] w fun e w' => e = .returned (.tuple #[.agg #[.int .i64 0, .slice none 0 0], .int .i64 z]) ∧ Below w.heap.size w w' := by
  have hmf : ∀ (fn : Fn) (first cap : Array Value) (w : World), (Instr.makeFunc fn first cap).run Try.prog w = .ok (.func fn first cap) w := fun _ _ _ _ => rfl
  have hle := (rdBatch_ok x q cs hr).2
  have hle2 : cs.length ≤ 9223372036854775806 := by omega
  obtain ⟨hs, X, E1, B⟩ := dW_sc w A c n x hn hx
  have hb := batch_ok w (w.heap.size + 1 + 1) x _ hs B (by omega) q cs hr
  have hne : w.heap.size + 1 + 1 ≠ w.heap.size := by omega
  have hne2 : w.heap.size + 1 + 1 ≠ w.heap.size + 1 := by omega
  have hne3 : w.heap.size ≠ w.heap.size + 1 := by omega
  have hSB : w.heap.size ≤ (dW3 w (.slice A n c)).heap.size := B.size
  clear hx hr
  go_enter_defers Try.func20, Try.ntmps20
  go_wp2_with (first | (go_at_call 36; (with_reducible refine hb.mono ?_); rintro e w5 ⟨⟨A5, c5, rfl, HO5⟩, hg5⟩; have X5 := X.gb hg5 hne; have E5 := E1.gb hg5 hne2; have B5 := B.trans (hg5.2 _ (by omega) B.size); obtain ⟨x50, x51, x52, x53⟩ := X5.read; obtain ⟨Y, F⟩ := bt_put X5 E5 hne3 (q : Int) (.slice A5 cs.length c5); obtain ⟨y0, y1, y2, y3⟩ := Y.read; obtain ⟨f0, f1⟩ := F.read; have HO6 : OwC ((w5.setCell ⟨w.heap.size, 0, none⟩ (.int .i64 (q : Int))).setCell ⟨w.heap.size, 1, none⟩ (.slice A5 cs.length c5)) _ _ cs := Ow.setCell (Ow.setCell HO5 X5 (by decide) 0 _) (blk_set X5 0 _) (by decide) 1 _; have B6 := (B5.setCell (p := ⟨w.heap.size, 0, none⟩) (Nat.le_refl _) (.int .i64 (q : Int))).setCell (p := ⟨w.heap.size, 1, none⟩) (Nat.le_refl _) (.slice A5 cs.length c5)) | (go_at_call 26; (with_reducible refine (Check_any _ _ _ _ cs _ rfl HO6.rdl hle2).mono ?_); rw [hz]; rintro e w7 ⟨rfl, B7⟩; have Y7 := Y.below B7; have F7 := F.below B7; obtain ⟨g0, g1⟩ := F7.read; obtain ⟨Z, G⟩ := eb_put Y7 F7 hne3 z; obtain ⟨z0, z1, z2, z3⟩ := Z.read; obtain ⟨h0, h1⟩ := G.read; have HO7 := HO6.below B7; have B7' := B6.trans (B7.mono B6.size)))
  go_region
  all_goals go_wp2
  show Leaves Try.prog Try.f20 _ _ _ _ _
  refine leaves_cons (f := 35) (args := #[.pointer (some ⟨w.heap.size, 0, none⟩), .pointer (some ⟨w.heap.size + 1, 0, none⟩)]) (by simp) (by simp [go_sem]) ?_
  refine (rec_idle w.heap.size (w.heap.size + 1) _).mono ?_
  rintro e u' w'' ⟨rfl, rfl, rfl⟩
  obtain ⟨V, U⟩ := bt_set Z G hne3 0 (.slice none 0 0) z
  obtain ⟨v0, v1, _, _⟩ := V.read
  obtain ⟨u0, _⟩ := U.read
  simp [Leaves, settle, results, Try.results20, go_sem, v0, v1, u0]
  exact ((((B7'.setCell (p := ⟨w.heap.size + 1, 0, none⟩) (Nat.le_succ _) (.int .i64 z)).setCell (p := ⟨w.heap.size, 0, none⟩) (Nat.le_refl _) (.int .i64 0)).setCell (p := ⟨w.heap.size, 1, none⟩) (Nat.le_refl _) (.slice none 0 0)).setCell (p := ⟨w.heap.size + 1, 0, none⟩) (Nat.le_succ _) (.int .i64 z)).drew
/-- the answer -/
theorem Decode_any (A : Option Addr) (c n : Nat) (x : List UInt8) (w : World) (hn : x.length = n) (hx : RdB w A c x) :
    Calls Try.prog 20 #[.slice A n c] w fun e w' => (∃ A' c', e = .returned (.tuple #[.agg #[.int .i64 (decQ x), .slice A' (decL x).length c'], .int .i64 (decE x)]) ∧ OwC w' w.heap.size (.slice A' (decL x).length c') (decL x)) ∧ Below w.heap.size w w' := by
  cases hr : rdBatch x with
  | error z =>
    have hz := rdBatch_ne x z hr
    have e1 : decE x = z := by rw [decE, hr]
    have e2 : decQ x = 0 := by rw [decQ, if_neg (by rw [e1]; exact hz)]
    have e3 : decL x = [] := by rw [decL, if_neg (by rw [e1]; exact hz)]
    refine (Decode_stop A c n x w hn hx z hr).mono ?_
    rintro e w' ⟨rfl, hb⟩
    rw [e1, e2, e3]
    exact ⟨⟨none, 0, rfl, Ow.zero _ _ _ _⟩, hb⟩
  | ok p =>
    obtain ⟨q, cs⟩ := p
    by_cases hz : chkB (q : Int) cs = 0
    · have e1 : decE x = 0 := by rw [decE, hr]; exact hz
      have e2 : decQ x = q := by rw [decQ, if_pos e1, hr]
      have e3 : decL x = cs := by rw [decL, if_pos e1, hr]
      rw [e1, e2, e3]
      exact Decode_good A c n x w hn hx q cs hr hz
    · have e1 : decE x = chkB (q : Int) cs := by rw [decE, hr]
      have e2 : decQ x = 0 := by rw [decQ, if_neg (by rw [e1]; exact hz)]
      have e3 : decL x = [] := by rw [decL, if_neg (by rw [e1]; exact hz)]
      refine (Decode_bad A c n x w hn hx q cs hr _ rfl hz).mono ?_
      rintro e w' ⟨rfl, hb⟩
      rw [e1, e2, e3]
      exact ⟨⟨none, 0, rfl, Ow.zero _ _ _ _⟩, hb⟩
end Go.Proofs.Ytebefonohemlfaa
end

section
/- Wal: the walks of the reference's reader: Num, Take, Text. -/
namespace Go.Proofs.Ytebefonohemlfaa
open Go.RowKit Go.Proofs.YtebefonohemlfaaW.PrintWords
set_option linter.unusedVariables false

/-- a reader's block: what it goes over, how far it is, its error -/
def Rs (g : Nat) (A : Option Addr) (c n p : Nat) (e : Int) (W : World) : Prop := W.heap[g]? = some (.cells #[.slice A n c, .int .i64 (p : Int), .int .i64 e] 104 (0, 0))
theorem Rs.read {g : Nat} {A : Option Addr} {c n p : Nat} {e : Int} {W : World} (h : Rs g A c n p e W) : W.cell? ⟨g, 0, none⟩ = some (.slice A n c) ∧ W.cell? ⟨g, 1, none⟩ = some (.int .i64 (p : Int)) ∧ W.cell? ⟨g, 2, none⟩ = some (.int .i64 e) ∧ W.frozen? ⟨g, 0, none⟩ = false ∧ W.frozen? ⟨g, 1, none⟩ = false ∧ W.frozen? ⟨g, 2, none⟩ = false := ⟨blk_cell h 0, blk_cell h 1, blk_cell h 2, blk_frozen h 0, blk_frozen h 1, blk_frozen h 2⟩
theorem Rs.below {g : Nat} {A : Option Addr} {c n p : Nat} {e : Int} {W W' : World} (h : Rs g A c n p e W) (hb : Below W.heap.size W W') : Rs g A c n p e W' := blk_below h hb
theorem Rs.far {g : Nat} {A : Option Addr} {c n p : Nat} {e : Int} {W : World} (h : Rs g A c n p e W) {b j : Nat} (hne : g ≠ b) (v : Value) : Rs g A c n p e (W.setCell ⟨b, j, none⟩ v) := blk_far h (p := ⟨b, j, none⟩) hne v
theorem Rs.at1 {g : Nat} {A : Option Addr} {c n p : Nat} {e : Int} {W : World} (h : Rs g A c n p e W) (q : Nat) : Rs g A c n q e (W.setCell ⟨g, 1, none⟩ (.int .i64 (q : Int))) := blk_set h 1 _
theorem Rs.er {g : Nat} {A : Option Addr} {c n p : Nat} {e : Int} {W : World} (h : Rs g A c n p e W) (z : Int) : Rs g A c n p z (W.setCell ⟨g, 2, none⟩ (.int .i64 z)) := blk_set h 2 _
theorem Rs.lt {g : Nat} {A : Option Addr} {c n p : Nat} {e : Int} {W : World} (h : Rs g A c n p e W) : g < W.heap.size := blk_lt h

set_option maxRecDepth 100000 in
set_option maxHeartbeats 800000 in
theorem rNum_off (w0 : World) (g : Nat) (A : Option Addr) (c n p : Nat) (e : Int) (he : e ≠ 0) (mi : Int) (code : Int) (w : World) (hs : Rs g A c n p e w) :
    Calls Try.prog 54 #[.pointer (some ⟨g, 0, none⟩), .int .u64 mi, .int .i64 code] w fun e1 w' => e1 = .returned (.int .i64 0) ∧ Rs g A c n p e w' ∧ Gb g w0 w w' := by
  obtain ⟨x0, x1, x2, x3, x4, x5⟩ := hs.read
  go_enter Try.func54, Try.ntmps54
  go_wp2
  go_ret
  exact ⟨rfl, hs, Gb.refl _ _ _⟩
set_option maxRecDepth 100000 in
set_option maxHeartbeats 800000 in
theorem rNum_ok (w0 : World) (g : Nat) (A : Option Addr) (c n p : Nat) (x : List UInt8) (hx : St w0 A c x) (hn : x.length = n) (hn2 : n ≤ 140737488355328) (hp : p ≤ n) (most : Nat) (mi : Int) (hmi0 : mi = (most : Int)) (hm : most ≤ 1099511627776) (code : Int) (w : World) (hs : Rs g A c n p 0 w) (hB : Below w0.heap.size w0 w) (k : Nat) (r : List UInt8) (hr : rdNum most code (x.drop p) = .ok (k, r)) :
    Calls Try.prog 54 #[.pointer (some ⟨g, 0, none⟩), .int .u64 mi, .int .i64 code] w fun e1 w' => e1 = .returned (.int .i64 (k : Int)) ∧ (∃ p', p' ≤ n ∧ x.drop p' = r ∧ Rs g A c n p' 0 w') ∧ Gb g w0 w w' := by
  subst hmi0
  obtain ⟨g1, g2, g3, g4⟩ := rdNum_ok _ _ _ _ _ hr
  obtain ⟨k1, k2, k3⟩ := gK_le _ g1
  obtain ⟨x0, x1, x2, x3, x4, x5⟩ := hs.read
  have hG := fun W (h : Below w0.heap.size w0 W) => rGet_any _ _ (x.drop p) W ((hx W h).drop p (by omega))
  have hsl := fun W => slice_lo 39 5 Try.underlying39 (i := _) rfl rfl A x.length c p (by omega) W
  have hle := (hx w hB).le
  rw [g1, ← g3] at hG
  rw [← g3] at g2
  rw [List.length_drop] at k1 hG
  have hr2 : x.drop (p + gK (x.drop p)) = r := by rw [g4, List.drop_drop]
  rw [hn] at hsl k1 hG hle
  generalize gK (x.drop p) = d at *
  obtain ⟨p2, hp2⟩ : ∃ p2, p + d = p2 := ⟨_, rfl⟩
  rw [hp2] at hr2
  have hp2i : (p : Int) + (d : Int) = (p2 : Int) := by omega
  have hle2 : p2 ≤ n := by omega
  have hni : (n : Int) ≤ 140737488355328 := by omega
  have hp2n : (p2 : Int) ≤ 140737488355328 := by omega
  have hpn : (p : Int) ≤ (n : Int) := by omega
  have hki : (k : Int) ≤ 1099511627776 := by omega
  have hmi : (most : Int) ≤ 1099511627776 := by omega
  have hkm : (k : Int) ≤ (most : Int) := by omega
  have HR2 := hide hr2
  clear hr g1 g3 g4 k1 k2 k3 hr2 hp2 hn
  go_enter Try.func54, Try.ntmps54
  go_wp2
  have hS0 : w.drew.cell? ⟨g, 0, none⟩ = some (.slice A n c) ∧ w.drew.cell? ⟨g, 1, none⟩ = some (.int .i64 (p : Int)) ∧ Below w.heap.size w w.drew := ⟨x0, x1, (Below.refl _ _).drew⟩
  have hSk : ∀ W, Below w.heap.size w W → W.cell? ⟨g, 0, none⟩ = some (.slice A n c) ∧ W.cell? ⟨g, 1, none⟩ = some (.int .i64 (p : Int)) ∧ Below w.heap.size w W := fun W h => ⟨(h.cell (World.block_lt_of_cell? w _ x0)).trans x0, (h.cell (World.block_lt_of_cell? w _ x1)).trans x1, h⟩
  go_region_held3 (fun w' => w'.cell? ⟨g, 0, none⟩ = some (.slice A n c) ∧ w'.cell? ⟨g, 1, none⟩ = some (.int .i64 (p : Int)) ∧ Below w.heap.size w w') (first | exact hS0 | exact hSk _ HB1 | assumption) (first | (go_at_call 52; (with_reducible refine (hG _ hB.drew).mono ?_); rintro e w1 ⟨rfl, HB1'⟩; have HB1 : Below w.heap.size w w1 := (Below.refl _ _).drew.trans HB1'))
  have hs1 := hs.below HB1
  obtain ⟨y0, y1, y2, y3, y4, y5⟩ := hs1.read
  go_wp2
  go_ret
  exact ⟨rfl, ⟨p2, hle2, HR2.out, hs1.at1 p2⟩, (Gb.of_below HB1).set_ 1 _⟩
set_option maxRecDepth 100000 in
set_option maxHeartbeats 800000 in
theorem rNum_err (w0 : World) (g : Nat) (A : Option Addr) (c n p : Nat) (x : List UInt8) (hx : St w0 A c x) (hn : x.length = n) (hn2 : n ≤ 140737488355328) (hp : p ≤ n) (most : Nat) (mi : Int) (hmi0 : mi = (most : Int)) (hm : most ≤ 1099511627776) (code : Int) (w : World) (hs : Rs g A c n p 0 w) (hB : Below w0.heap.size w0 w) (z : Int) (hr : rdNum most code (x.drop p) = .error z) :
    Calls Try.prog 54 #[.pointer (some ⟨g, 0, none⟩), .int .u64 mi, .int .i64 code] w fun e1 w' => e1 = .returned (.int .i64 0) ∧ Rs g A c n p z w' ∧ Gb g w0 w w' := by
  subst hmi0
  obtain ⟨x0, x1, x2, x3, x4, x5⟩ := hs.read
  have hG := fun W (h : Below w0.heap.size w0 W) => rGet_any _ _ (x.drop p) W ((hx W h).drop p (by omega))
  have hsl := fun W => slice_lo 39 5 Try.underlying39 (i := _) rfl rfl A x.length c p (by omega) W
  have hle := (hx w hB).le
  rw [List.length_drop] at hG
  have herr := rdNum_err _ _ _ _ hr
  generalize getErr (x.drop p) = ge at *
  generalize gN (x.drop p) = k at *
  generalize gK (x.drop p) = d at *
  rw [hn] at hsl hG hle
  have hpn : (p : Int) ≤ (n : Int) := by omega
  have hni : (n : Int) ≤ 140737488355328 := by omega
  have hmi : (most : Int) ≤ 1099511627776 := by omega
  have hS0 : w.drew.cell? ⟨g, 0, none⟩ = some (.slice A n c) ∧ w.drew.cell? ⟨g, 1, none⟩ = some (.int .i64 (p : Int)) ∧ Below w.heap.size w w.drew := ⟨x0, x1, (Below.refl _ _).drew⟩
  have hSk : ∀ W, Below w.heap.size w W → W.cell? ⟨g, 0, none⟩ = some (.slice A n c) ∧ W.cell? ⟨g, 1, none⟩ = some (.int .i64 (p : Int)) ∧ Below w.heap.size w W := fun W h => ⟨(h.cell (World.block_lt_of_cell? w _ x0)).trans x0, (h.cell (World.block_lt_of_cell? w _ x1)).trans x1, h⟩
  clear hr hn
  rcases herr with ⟨rfl, h1⟩ | ⟨h1, h2, rfl⟩
  · have h1i : ¬ (ge : Int) = 0 := by omega
    go_enter Try.func54, Try.ntmps54
    go_wp2
    go_region_held3 (fun w' => w'.cell? ⟨g, 0, none⟩ = some (.slice A n c) ∧ w'.cell? ⟨g, 1, none⟩ = some (.int .i64 (p : Int)) ∧ Below w.heap.size w w') (first | exact hS0 | exact hSk _ HB1 | assumption) (first | (go_at_call 52; (with_reducible refine (hG _ hB.drew).mono ?_); rintro e w1 ⟨rfl, HB1'⟩; have HB1 : Below w.heap.size w w1 := (Below.refl _ _).drew.trans HB1'))
    have hs1 := hs.below HB1
    obtain ⟨y0, y1, y2, y3, y4, y5⟩ := hs1.read
    go_wp2
    go_ret
    exact ⟨rfl, hs1.er _, (Gb.of_below HB1).set_ 2 _⟩
  · rw [h1] at hG
    have h2i : (most : Int) < (k : Int) := by omega
    clear h1 h2
    go_enter Try.func54, Try.ntmps54
    go_wp2
    go_region_held3 (fun w' => w'.cell? ⟨g, 0, none⟩ = some (.slice A n c) ∧ w'.cell? ⟨g, 1, none⟩ = some (.int .i64 (p : Int)) ∧ Below w.heap.size w w') (first | exact hS0 | exact hSk _ HB1 | assumption) (first | (go_at_call 52; (with_reducible refine (hG _ hB.drew).mono ?_); rintro e w1 ⟨rfl, HB1'⟩; have HB1 : Below w.heap.size w w1 := (Below.refl _ _).drew.trans HB1'))
    have hs1 := hs.below HB1
    obtain ⟨y0, y1, y2, y3, y4, y5⟩ := hs1.read
    go_wp2
    go_ret
    exact ⟨rfl, hs1.er _, (Gb.of_below HB1).set_ 2 _⟩
set_option maxRecDepth 100000 in
set_option maxHeartbeats 800000 in
theorem rTake_off (w0 : World) (g : Nat) (A : Option Addr) (c n p : Nat) (e : Int) (he : e ≠ 0) (mi : Int) (w : World) (hs : Rs g A c n p e w) :
    Calls Try.prog 55 #[.pointer (some ⟨g, 0, none⟩), .int .i64 mi] w fun e1 w' => e1 = .returned (.slice none 0 0) ∧ Rs g A c n p e w' ∧ Gb g w0 w w' := by
  obtain ⟨x0, x1, x2, x3, x4, x5⟩ := hs.read
  go_enter Try.func55, Try.ntmps55
  go_wp2
  go_ret
  exact ⟨rfl, hs, Gb.refl _ _ _⟩
set_option maxRecDepth 100000 in
set_option maxHeartbeats 800000 in
theorem rTake_err (w0 : World) (g : Nat) (A : Option Addr) (c n p m : Nat) (mi : Int) (hmi0 : mi = (m : Int)) (hp : p ≤ n) (hn2 : n ≤ 140737488355328) (hm : n - p < m) (hm2 : m ≤ 1099511627776) (w : World) (hs : Rs g A c n p 0 w) :
    Calls Try.prog 55 #[.pointer (some ⟨g, 0, none⟩), .int .i64 mi] w fun e1 w' => e1 = .returned (.slice none 0 0) ∧ Rs g A c n p 8 w' ∧ Gb g w0 w w' := by
  subst hmi0
  obtain ⟨x0, x1, x2, x3, x4, x5⟩ := hs.read
  obtain ⟨d, hd⟩ : ∃ d, n - p = d := ⟨_, rfl⟩
  have hdi : (n : Int) - (p : Int) = (d : Int) := by omega
  have hdm : (d : Int) < (m : Int) := by omega
  have hwd : IntKind.i64.wrap (d : Int) = (d : Int) := by rw [IntKind.wrap_i64]; omega
  have hpi : (p : Int) ≤ (n : Int) := by omega
  have hni : (n : Int) ≤ 140737488355328 := by omega
  have hS0 : w.drew.cell? ⟨g, 0, none⟩ = some (.slice A n c) ∧ w.drew.cell? ⟨g, 1, none⟩ = some (.int .i64 (p : Int)) := ⟨x0, x1⟩
  clear hd hm
  go_enter Try.func55, Try.ntmps55
  go_wp2
  go_region_held3 (fun w' => w'.cell? ⟨g, 0, none⟩ = some (.slice A n c) ∧ w'.cell? ⟨g, 1, none⟩ = some (.int .i64 (p : Int))) (first | exact hS0 | assumption) (fail)
  go_wp2
  go_ret
  exact ⟨rfl, Rs.er (W := w.drew) hs _, (Gb.of_below (Below.refl _ _).drew).set_ 2 _⟩
set_option maxRecDepth 100000 in
set_option maxHeartbeats 800000 in
theorem rTake_ok (w0 : World) (g : Nat) (A : Option Addr) (c n p m : Nat) (x : List UInt8) (hx : St w0 A c x) (hn : x.length = n) (hn2 : n ≤ 140737488355328) (hp : p ≤ n) (mi : Int) (hmi0 : mi = (m : Int)) (hm : m ≤ n - p) (w : World) (hs : Rs g A c n p 0 w) (hB : Below w0.heap.size w0 w) (hg : w0.heap.size ≤ g) :
    Calls Try.prog 55 #[.pointer (some ⟨g, 0, none⟩), .int .i64 mi] w fun e1 w' => (∃ v, e1 = .returned v ∧ OwB w' w.heap.size v ((x.drop p).take m)) ∧ Rs g A c n (p + m) 0 w' ∧ Gb g w0 w w' := by
  subst hmi0
  obtain ⟨x0, x1, x2, x3, x4, x5⟩ := hs.read
  obtain ⟨d, hd⟩ : ∃ d, n - p = d := ⟨_, rfl⟩
  obtain ⟨p2, hp2⟩ : ∃ p2, p + m = p2 := ⟨_, rfl⟩
  have hC := fun W (h : Below w0.heap.size w0 W) => Copied_any _ _ _ W (((hx W h).drop p (by omega)).take m (by rw [List.length_drop]; omega)) (by simp; omega)
  have hlen : ((x.drop p).take m).length = m := by rw [List.length_take, List.length_drop]; omega
  have hsl := fun W => slice_lohi 39 5 Try.underlying39 (i := _) rfl rfl A n c p p2 (by omega) (by have := (hx w hB).le; omega) W
  have hp2i : (p : Int) + (m : Int) = (p2 : Int) := by omega
  have hp2j : (p2 : Int) - (m : Int) = (p : Int) := by omega
  have hp2k : p2 - p = m := by omega
  have hdi : (n : Int) - (p : Int) = (d : Int) := by omega
  have hdm : ¬ (d : Int) < (m : Int) := by omega
  have hwd : IntKind.i64.wrap (d : Int) = (d : Int) := by rw [IntKind.wrap_i64]; omega
  have hwp : IntKind.i64.wrap (p : Int) = (p : Int) := by rw [IntKind.wrap_i64]; omega
  have hpi : (p : Int) ≤ (n : Int) := by omega
  have hp2n : (p2 : Int) ≤ (n : Int) := by omega
  have hni : (n : Int) ≤ 140737488355328 := by omega
  rw [hlen] at hC
  rw [hp2k] at hsl
  have hS0 : w.drew.cell? ⟨g, 0, none⟩ = some (.slice A n c) ∧ w.drew.cell? ⟨g, 1, none⟩ = some (.int .i64 (p : Int)) := ⟨x0, x1⟩
  have hs2 : Rs g A c n p2 0 (w.setCell ⟨g, 1, none⟩ (.int .i64 (p2 : Int))) := hs.at1 p2
  obtain ⟨y0, y1, y2, y3, y4, y5⟩ := hs2.read
  have hB2 : Below w0.heap.size w0 (w.setCell ⟨g, 1, none⟩ (.int .i64 (p2 : Int))).drew.drew := (hB.setCell (p := ⟨g, 1, none⟩) hg _).drew.drew
  have hs3 : Rs g A c n p2 0 (w.setCell ⟨g, 1, none⟩ (.int .i64 (p2 : Int))).drew.drew := hs2
  have hS1 : (w.setCell ⟨g, 1, none⟩ (.int .i64 (p2 : Int))).drew.drew.cell? ⟨g, 0, none⟩ = some (.slice A n c) ∧ (w.setCell ⟨g, 1, none⟩ (.int .i64 (p2 : Int))).drew.drew.cell? ⟨g, 1, none⟩ = some (.int .i64 (p2 : Int)) := ⟨y0, y1⟩
  rw [hp2]
  clear hd hp2 hm hlen hp2k
  go_enter Try.func55, Try.ntmps55
  go_wp2
  go_region_held3 (fun w' => w'.cell? ⟨g, 0, none⟩ = some (.slice A n c) ∧ w'.cell? ⟨g, 1, none⟩ = some (.int .i64 (p : Int))) (first | exact hS0 | assumption) (fail)
  go_wp2
  go_region_held3 (fun w' => w'.cell? ⟨g, 0, none⟩ = some (.slice A n c) ∧ w'.cell? ⟨g, 1, none⟩ = some (.int .i64 (p2 : Int))) (first | exact hS1 | exact hS2 | assumption) (first | (go_at_call 32; (with_reducible refine (hC _ hB2).mono ?_); rintro e w1 ⟨v1, rfl, HO1, HB1⟩; have hs4 := hs3.below HB1; obtain ⟨z0, z1, z2, z3, z4, z5⟩ := hs4.read; have hS2 := And.intro z0 z1))
  go_wp2
  go_ret
  exact ⟨⟨v1, rfl, HO1.lower ((Gb.refl g w0 w).set_ 1 (.int .i64 (p2 : Int))).1.size⟩, hs4, ((Gb.refl g w0 w).set_ 1 (.int .i64 (p2 : Int))).trans (Gb.of_below ((Below.refl _ _).drew.drew.trans HB1))⟩
end Go.Proofs.Ytebefonohemlfaa
end

section
/- Wal: the walk of the reference's Text. -/
namespace Go.Proofs.Ytebefonohemlfaa
open Go.RowKit Go.Proofs.YtebefonohemlfaaW.PrintWords
set_option linter.unusedVariables false

set_option maxRecDepth 100000 in
set_option maxHeartbeats 800000 in
theorem rText_off (w0 : World) (g : Nat) (A : Option Addr) (c n p : Nat) (e : Int) (he : e ≠ 0) (mi : Int) (code : Int) (w : World) (hs : Rs g A c n p e w) :
    Calls Try.prog 56 #[.pointer (some ⟨g, 0, none⟩), .int .u64 mi, .int .i64 code] w fun e1 w' => e1 = .returned (.string ⟨#[]⟩) ∧ Rs g A c n p e w' ∧ Gb g w0 w w' := by
  have hN := rNum_off w0 g A c n p e he mi code w hs
  have hT := fun W (h : Rs g A c n p e W) => rTake_off w0 g A c n p e he 0 W h
  have hCv := fun W => (RdB.zero W none 0).toStr (P := Try.prog) 39 5 9 Try.underlying39 Try.underlying5 Try.underlying9
  rw [show (([] : List UInt8).length : Nat) = 0 from rfl, show strB [] = ⟨#[]⟩ from rfl] at hCv
  go_enter Try.func56, Try.ntmps56
  go_wp2_with (first | (go_at_call 54; (with_reducible refine hN.mono ?_); rintro e w1 ⟨rfl, hs1, hg1⟩) | (go_at_call 55; (with_reducible refine (hT _ hs1).mono ?_); rintro e w2 ⟨rfl, hs2, hg2⟩; have hcv := hCv w2))
  go_ret
  exact ⟨rfl, hs2, hg1.trans hg2⟩
set_option maxRecDepth 100000 in
set_option maxHeartbeats 800000 in
theorem rText_err (w0 : World) (g : Nat) (A : Option Addr) (c n p : Nat) (x : List UInt8) (hx : St w0 A c x) (hn : x.length = n) (hn2 : n ≤ 140737488355328) (hp : p ≤ n) (w : World) (hs : Rs g A c n p 0 w) (hB : Below w0.heap.size w0 w) (hg : w0.heap.size ≤ g) (z : Int) (hr : rdText (x.drop p) = .error z) :
    Calls Try.prog 56 #[.pointer (some ⟨g, 0, none⟩), .int .u64 65536, .int .i64 5] w fun e1 w' => e1 = .returned (.string ⟨#[]⟩) ∧ (∃ p', Rs g A c n p' z w') ∧ Gb g w0 w w' := by
  have hz := rdText_ne _ _ hr
  have hCv := fun W => (RdB.zero W none 0).toStr (P := Try.prog) 39 5 9 Try.underlying39 Try.underlying5 Try.underlying9
  rw [show (([] : List UInt8).length : Nat) = 0 from rfl, show strB [] = ⟨#[]⟩ from rfl] at hCv
  unfold rdText at hr
  split at hr
  · next z' h1 =>
    injection hr with hr
    subst hr
    have hN := rNum_err w0 g A c n p x hx hn hn2 hp 65536 65536 rfl (by omega) 5 w hs hB z' h1
    have hT := fun W (h : Rs g A c n p z' W) => rTake_off w0 g A c n p z' hz 0 W h
    clear h1
    go_enter Try.func56, Try.ntmps56
    go_wp2_with (first | (go_at_call 54; (with_reducible refine hN.mono ?_); rintro e w1 ⟨rfl, hs1, hg1⟩) | (go_at_call 55; (with_reducible refine (hT _ hs1).mono ?_); rintro e w2 ⟨rfl, hs2, hg2⟩; have hcv := hCv w2))
    go_ret
    exact ⟨rfl, ⟨_, hs2⟩, hg1.trans hg2⟩
  · next k r1 h1 =>
    have hN := rNum_ok w0 g A c n p x hx hn hn2 hp 65536 65536 rfl (by omega) 5 w hs hB k r1 h1
    obtain ⟨g1, g2, g3, g4⟩ := rdNum_ok _ _ _ _ _ h1
    unfold rdTake at hr
    split at hr
    · next z' h2 =>
      split at h2
      · next h3 =>
        injection h2 with h2
        injection hr with hr
        subst h2 hr
        have hT := fun p1 W (hp1 : p1 ≤ n) (h4 : x.drop p1 = r1) (h : Rs g A c n p1 0 W) => rTake_err w0 g A c n p1 k (k : Int) rfl hp1 hn2 (by rw [← hn, ← List.length_drop, h4]; exact h3) (by omega) W h
        clear h1 h3 g1 g2 g3 g4
        go_enter Try.func56, Try.ntmps56
        go_wp2_with (first | (go_at_call 54; (with_reducible refine hN.mono ?_); rintro e w1 ⟨rfl, ⟨p1, hp1, hd1, hs1⟩, hg1⟩) | (go_at_call 55; (with_reducible refine (hT _ _ hp1 hd1 hs1).mono ?_); rintro e w2 ⟨rfl, hs2, hg2⟩; have hcv := hCv w2))
        go_ret
        exact ⟨rfl, ⟨_, hs2⟩, hg1.trans hg2⟩
      · cases h2
    · cases hr
set_option maxRecDepth 100000 in
set_option maxHeartbeats 800000 in
theorem rText_ok (w0 : World) (g : Nat) (A : Option Addr) (c n p : Nat) (x : List UInt8) (hx : St w0 A c x) (hn : x.length = n) (hn2 : n ≤ 140737488355328) (hp : p ≤ n) (w : World) (hs : Rs g A c n p 0 w) (hB : Below w0.heap.size w0 w) (hg : w0.heap.size ≤ g) (s : ByteArray) (r : List UInt8) (hr : rdText (x.drop p) = .ok (s, r)) :
    Calls Try.prog 56 #[.pointer (some ⟨g, 0, none⟩), .int .u64 65536, .int .i64 5] w fun e1 w' => e1 = .returned (.string s) ∧ (∃ p', p' ≤ n ∧ x.drop p' = r ∧ Rs g A c n p' 0 w') ∧ Gb g w0 w w' := by
  unfold rdText at hr
  split at hr
  · cases hr
  · next k r1 h1 =>
    have hN := rNum_ok w0 g A c n p x hx hn hn2 hp 65536 65536 rfl (by omega) 5 w hs hB k r1 h1
    unfold rdTake at hr
    split at hr
    · cases hr
    · next s' r2 h2 =>
      split at h2
      · cases h2
      · next h3 =>
        injection h2 with h2
        injection h2 with h4 h5
        injection hr with hr
        injection hr with h6 h7
        subst h4 h5 h6 h7
        have hle2 : ∀ p1, x.drop p1 = r1 → k ≤ n - p1 := fun p1 h4 => by
          have : r1.length = n - p1 := by rw [← h4, List.length_drop, hn]
          omega
        have hT := fun p1 W (hp1 : p1 ≤ n) (h4 : x.drop p1 = r1) (h : Rs g A c n p1 0 W) (hb : Below w0.heap.size w0 W) => rTake_ok w0 g A c n p1 k x hx hn hn2 hp1 (k : Int) rfl (hle2 p1 h4) W h hb hg
        have hle : ∀ p1, p1 ≤ n → x.drop p1 = r1 → p1 + k ≤ n ∧ x.drop (p1 + k) = r1.drop k := fun p1 hp1 h4 => by
          have : r1.length = n - p1 := by rw [← h4, List.length_drop, hn]
          exact ⟨by omega, by rw [← h4, List.drop_drop]⟩
        have hCv := fun A c W (h : RdB W A c (r1.take k)) => h.toStr (P := Try.prog) 39 5 9 Try.underlying39 Try.underlying5 Try.underlying9
        have htl : (r1.take k).length = k := by rw [List.length_take]; omega
        have HTL := hide htl
        rw [htl] at hCv
        have hstr : strB (r1.take k) = ⟨(r1.take k).toArray⟩ := rfl
        rw [← hstr]
        clear h1 htl hstr h3
        go_enter Try.func56, Try.ntmps56
        go_wp2_with (first | (go_at_call 54; (with_reducible refine hN.mono ?_); rintro e w1 ⟨rfl, ⟨p1, hp1, hd1, hs1⟩, hg1⟩; have HB1 := hB.trans (hg1.2 _ hg hB.size)) | (go_at_call 55; (with_reducible refine (hT _ _ hp1 hd1 hs1 HB1).mono ?_); rintro e w2 ⟨⟨v2, rfl, HO2⟩, hs2, hg2⟩; rw [hd1] at HO2; obtain ⟨A2, c2, hv2, hr2⟩ := HO2.rd; rw [HTL.out] at hv2; subst hv2; have hcv := hCv A2 c2 w2 hr2))
        go_ret
        exact ⟨rfl, ⟨p1 + k, (hle p1 hp1 hd1).1, (hle p1 hp1 hd1).2, hs2⟩, hg1.trans hg2⟩
end Go.Proofs.Ytebefonohemlfaa
end

section
/- Wal: a log replayed, plainly. -/
namespace Go.Proofs.Ytebefonohemlfaa
set_option linter.unusedVariables false

/-- what ends a replay -/
def rStop (b : List UInt8) (nx : Int) : Prop := fgE b ≠ 0 ∨ fgK b ≠ 1 ∨ decE (fgX b) ≠ 0 ∨ (0 < nx ∧ decQ (fgX b) ≠ nx)
instance (b : List UInt8) (nx : Int) : Decidable (rStop b nx) := by unfold rStop; infer_instance
def rpl : Nat → List UInt8 → Int → List (Int × List Chg) × Nat
  | 0, _, _ => ([], 0)
  | f + 1, b, nx => if rStop b nx then ([], 0) else
    ((decQ (fgX b), decL (fgX b)) :: (rpl f (b.drop (fgS b)) (decQ (fgX b) + (decL (fgX b)).length)).1, fgS b + (rpl f (b.drop (fgS b)) (decQ (fgX b) + (decL (fgX b)).length)).2)
def rplN (b : List UInt8) (nx : Int) : List (Int × List Chg) × Nat := rpl (b.length + 1) b nx
theorem rStop_ok {b : List UInt8} {nx : Int} (h : ¬ rStop b nx) : fgE b = 0 ∧ fgK b = 1 ∧ decE (fgX b) = 0 ∧ (0 < nx → decQ (fgX b) = nx) := by
  unfold rStop at h
  simp only [not_or, Decidable.not_not, not_and] at h
  exact h
theorem rpl_fuel (f : Nat) : ∀ g b nx, b.length < f → b.length < g → rpl f b nx = rpl g b nx := by
  induction f with
  | zero => intro g b nx h; omega
  | succ f ih =>
    intro g b nx h h'
    cases g with
    | zero => omega
    | succ g =>
      rw [rpl, rpl]
      by_cases hs : rStop b nx
      · rw [if_pos hs, if_pos hs]
      · rw [if_neg hs, if_neg hs]
        obtain ⟨h1, _⟩ := rStop_ok hs
        obtain ⟨h2, h3, _⟩ := fg_ok b h1
        rw [ih g (b.drop (fgS b)) _ (by rw [List.length_drop]; omega) (by rw [List.length_drop]; omega)]
theorem rplN_stop {b : List UInt8} {nx : Int} (h : rStop b nx) : rplN b nx = ([], 0) := by rw [rplN, rpl, if_pos h]
theorem rplN_go {b : List UInt8} {nx : Int} (h : ¬ rStop b nx) : rplN b nx = ((decQ (fgX b), decL (fgX b)) :: (rplN (b.drop (fgS b)) (decQ (fgX b) + (decL (fgX b)).length)).1, fgS b + (rplN (b.drop (fgS b)) (decQ (fgX b) + (decL (fgX b)).length)).2) := by
  obtain ⟨h1, _⟩ := rStop_ok h
  obtain ⟨h2, h3, _⟩ := fg_ok b h1
  have e := rpl_fuel b.length (b.length - fgS b + 1) (b.drop (fgS b)) (decQ (fgX b) + (decL (fgX b)).length) (by rw [List.length_drop]; omega) (by rw [List.length_drop]; omega)
  have e2 : rplN (b.drop (fgS b)) (decQ (fgX b) + (decL (fgX b)).length) = rpl b.length (b.drop (fgS b)) (decQ (fgX b) + (decL (fgX b)).length) := by
    rw [rplN, List.length_drop, e]
  rw [e2, rplN, rpl, if_neg h]
/-- a batch that is read has a number and changes in bounds -/
theorem dec_bounds (x : List UInt8) : 0 ≤ decQ x ∧ decQ x ≤ 1099511627776 ∧ (decL x).length ≤ 64 ∧ (decE x = 0 → 1 ≤ decQ x ∧ 1 ≤ (decL x).length) := by
  by_cases h : decE x = 0
  · obtain ⟨h1, h2⟩ := dec_ok x h
    have h3 := h1
    unfold chkB at h1
    split at h1
    · cases h1
    · next g1 =>
      split at h1
      · cases h1
      · next g2 =>
        simp only [not_or] at g1 g2
        exact ⟨by omega, by omega, by omega, fun _ => ⟨by omega, by omega⟩⟩
  · rw [decQ, decL, if_neg h, if_neg h]
    exact ⟨by omega, by omega, by simp, fun h' => absurd h' h⟩
end Go.Proofs.Ytebefonohemlfaa
end

section
/- Wal: the walk of Replay. -/
namespace Go.Proofs.Ytebefonohemlfaa
open Go.RowKit Go.Proofs.YtebefonohemlfaaW.PrintWords
set_option linter.unusedVariables false

theorem wrap_in (n : Int) (h : -9223372036854775808 ≤ n) (h2 : n ≤ 9223372036854775807) : IntKind.i64.wrap n = n := by rw [IntKind.wrap_i64]; omega
theorem wrap_in' (n : Int) (h : -9223372036854775808 ≤ n) (h2 : n ≤ 9223372036854775807) : wrap64 n = n := by unfold wrap64; omega
theorem rp_arith (p S s m N2 n3 pl : Nat) (dq : Int) (hs : p + S = s) (f1 : 5 ≤ S) (f2 : S ≤ m - p) (hp : p ≤ m) (hl : m ≤ 17592186044416) (d2 : dq ≤ 1099511627776) (d3 : n3 ≤ 64) (hN2 : dq + (n3 : Int) = (N2 : Int)) (hpl : pl * 5 ≤ p) :
    (p : Int) + (S : Int) = (s : Int) ∧ s ≤ m ∧ p < s ∧ N2 ≤ 1099511627840 ∧ (pl + 1) * 32 ≤ 140737488355328 ∧ pl * 5 + 5 ≤ s := by omega
theorem rp_wraps (s N2 m : Nat) (h1 : s ≤ m) (hl : m ≤ 17592186044416) (h2 : N2 ≤ 1099511627840) : wrap64 (s : Int) = (s : Int) ∧ IntKind.i64.wrap (s : Int) = (s : Int) ∧ wrap64 (N2 : Int) = (N2 : Int) ∧ IntKind.i64.wrap (N2 : Int) = (N2 : Int) :=
  ⟨wrap_in' _ (by omega) (by omega), wrap_in _ (by omega) (by omega), wrap_in' _ (by omega) (by omega), wrap_in _ (by omega) (by omega)⟩
theorem info_bat : (Try.prog.info? 30).map (fun i => (i.zero, i.size, i.bytes)) = some (some (.agg #[.int .i64 0, .slice none 0 0]), 2, 32) := by kernel_rfl
theorem info_rbat : (Try.prog.info? 24).map (fun i => (i.zero, i.size, i.bytes)) = some (some (.agg #[.int .i64 0, .slice none 0 0]), 2, 32) := by kernel_rfl
/-- a batch made: its changes lie from a bound on -/
theorem kBat_M {w : World} {base : Nat} {ok : Nat → Prop} {q : Int} {v : Value} {l : List Chg} (h : OwC w base v l) (hok : ∀ k, v.ownBlock = some k → ok k) : kBat.M w base ok (q, l) [.int .i64 q, v] :=
  ⟨[.int .i64 q], [v], rfl, rfl, v, rfl, Kd.R_reok rfl h hok⟩
/-- batches made -/
def OwBt (e : Nat) (w : World) (base : Nat) (v : Value) (bs : List (Int × List Chg)) : Prop := kBat.R e w base (fun _ => True) v bs
theorem OwBt.below {e : Nat} {w w1 : World} {base : Nat} {v : Value} {bs : List (Int × List Chg)} (h : OwBt e w base v bs) (hb : Below w.heap.size w w1) : OwBt e w1 base v bs := Kd.R_below h hb
theorem OwBt.zero (e : Nat) (w : World) (base : Nat) : OwBt e w base (.slice none 0 0) [] := Kd.R_nil _ _ _ _ _
theorem OwBt.rd {e : Nat} {w : World} {base : Nat} {v : Value} {bs : List (Int × List Chg)} (h : OwBt e w base v bs) : ∃ A c, v = .slice A bs.length c ∧ RdBt w A c bs := by
  obtain ⟨A, c, hv, hl, hC⟩ := Kd.R_reads h
  exact ⟨A, c, hv, hl, hC⟩
theorem OwBt.lt {e : Nat} {w : World} {base : Nat} {v : Value} {bs : List (Int × List Chg)} (h : OwBt e w base v bs) (k : Nat) (hk : v.ownBlock = some k) : k < w.heap.size := by
  obtain ⟨_, inner, ho, _⟩ := h
  exact own_lt ho k hk
section
variable {ops : Array Oper} {rest : List Oper} {o : Oper} {a : Act} {Q : Exit → Act → World → Prop} {K : Act → World → Prop}
/-- a batch appended: its changes are younger than the row -/
theorem app_bat {w0 W : World} (e t : TypeId) (base lo : Nat) (hgd : o.guard = none) (s x : Operand)
    (ho : o.op = .call { callee := .builtin .append, args := #[s, x], argTypes := #[t, t] }) (ht : Try.prog.underlying t = some (.slice e))
    (hi : (Try.prog.info? e).map (fun i => (i.zero, i.size, i.bytes)) = some (some (.agg #[.int .i64 0, .slice none 0 0]), 2, 32))
    (v : Value) (bs : List (Int × List Chg)) (q : Int) (u : Value) (l : List Chg) (hs : a.eval s = v) (hx : a.eval x = .slice (some ⟨W.heap.size, 0, none⟩) 1 1)
    (HO : OwBt e W base v bs) (hu : OwC W lo u l) (hbl : base ≤ lo) (hlo : ∀ k, v.ownBlock = some k → k < lo) (HB : Below base w0 W) (hbase : base ≤ W.heap.size) (hl : (bs.length + 1) * 32 ≤ 140737488355328)
    (h : ∀ v1 w1, OwBt e w1 base v1 (bs ++ [(q, l)]) → Below base w0 w1 → wpList Try.prog ops Q rest (a.put o.dst v1) w1) :
    wpList Try.prog ops Q (o :: rest) a (W.alloc (.cells #[.int .i64 q, u] e)) :=
  Kd.R_append (P := Try.prog) kBat (w0 := w0) base hgd s x t e (.agg #[.int .i64 0, .slice none 0 0]) 32 ho ht hi rfl (by decide) (by decide) v bs (q, l) [.int .i64 q, u] (fun _ => True) (fun k => lo ≤ k) hs hx
    (kBat_M (hu.lower hbl) (fun k hk => hu.ge k hk)) (fun k hk => ⟨trivial, fun e => by have := hlo k e.symm; omega⟩) (fun _ _ => trivial) HO HB hbase hl (fun v1 w1 h1 h2 _ _ => h v1 w1 h1 h2)
theorem step_bat {w0 W : World} (e t : TypeId) (base lo : Nat) (hw : Region.wanted o (yielded ops a.tmps) = true) (s x : Operand)
    (ho : o.op = .call { callee := .builtin .append, args := #[s, x], argTypes := #[t, t] }) (ht : Try.prog.underlying t = some (.slice e))
    (hi : (Try.prog.info? e).map (fun i => (i.zero, i.size, i.bytes)) = some (some (.agg #[.int .i64 0, .slice none 0 0]), 2, 32))
    (v : Value) (bs : List (Int × List Chg)) (q : Int) (u : Value) (l : List Chg) (hs : a.eval s = v) (hx : a.eval x = .slice (some ⟨W.heap.size, 0, none⟩) 1 1)
    (HO : OwBt e W base v bs) (hu : OwC W lo u l) (hbl : base ≤ lo) (hlo : ∀ k, v.ownBlock = some k → k < lo) (HB : Below base w0 W) (hbase : base ≤ W.heap.size) (hl : (bs.length + 1) * 32 ≤ 140737488355328)
    (h : ∀ v1 w1, OwBt e w1 base v1 (bs ++ [(q, l)]) → Below base w0 w1 → W.grownBy w1 v.ownBlock → K (a.put o.dst v1) w1) :
    if Region.wanted o (yielded ops a.tmps) = true then Oper.wp Try.prog o a (W.alloc (.cells #[.int .i64 q, u] e)) K Q else K (a.put o.dst undef) (W.alloc (.cells #[.int .i64 q, u] e)) :=
  Kd.R_append_step (P := Try.prog) kBat (w0 := w0) base hw s x t e (.agg #[.int .i64 0, .slice none 0 0]) 32 ho ht hi rfl (by decide) (by decide) v bs (q, l) [.int .i64 q, u] (fun _ => True) (fun k => lo ≤ k) hs hx
    (kBat_M (hu.lower hbl) (fun k hk => hu.ge k hk)) (fun k hk => ⟨trivial, fun e => by have := hlo k e.symm; omega⟩) (fun _ _ => trivial) HO HB hbase hl (fun v1 w1 h1 h2 h3 _ => h v1 w1 h1 h2 h3)
end
set_option maxRecDepth 100000 in
set_option maxHeartbeats 3200000 in
theorem Replay_any (A : Option Addr) (c : Nat) (b : List UInt8) (w : World) (hx : RdB w A c b) (hl : b.length ≤ 17592186044416) :
    Calls Try.prog 22 #[.slice A b.length c] w fun e w' => ∃ v, e = .returned (.tuple #[v, .int .i64 ((rplN b 0).2 : Int)]) ∧ OwBt 30 w' w.heap.size v (rplN b 0).1 ∧ Below w.heap.size w w' := by
  have hm := hx.max
  rcases hR : rplN b 0 with ⟨L, G⟩
  obtain ⟨m, hbm⟩ : ∃ m, b.length = m := ⟨_, rfl⟩
  have HM := hide hbm
  rw [hbm] at hl hm ⊢
  have hcm : m ≤ c := by have := hx.le; omega
  clear hbm
  go_enter Try.func22, Try.ntmps22
  go_wp2
  go_loopw [2, 3, 4] (fun out i nx wr => ∃ (p : Nat) (N : Nat) (pre : List (Int × List Chg)), p ≤ m ∧ i = .int .i64 (p : Int) ∧ nx = .int .i64 (N : Int) ∧ N ≤ 1099511627840 ∧ pre.length * 5 ≤ p ∧ L = pre ++ (rplN (b.drop p) N).1 ∧ G = p + (rplN (b.drop p) N).2 ∧ OwBt 30 wr w.heap.size out pre ∧ Below w.heap.size w wr) (fun _ i _ _ => m + 1 - (intOf i).toNat)
  case atStart => exact ⟨0, 0, [], by omega, rfl, rfl, by omega, by simp, by rw [List.drop_zero]; simp [hR], by rw [List.drop_zero]; simp [hR], OwBt.zero _ _ _, Below.refl _ _⟩
  case round =>
    obtain ⟨p, N, pre, hp, rfl, rfl, hN, hpl, hL, hG2, HO, HB⟩ := hrel
    have hdr := fun W (h : Below w.heap.size w W) => (hx.below h).drop p (by rw [HM.out]; exact hp)
    have hdl : (b.drop p).length = m - p := by rw [List.length_drop, HM.out]
    have hsl := fun W => slice_lo 39 5 Try.underlying39 (i := _) rfl rfl A m c p hp W
    have hG := fun W (h : Below w.heap.size w W) => FGet_any (cutA A c p) (c - p) (b.drop p) W (hdr W h) (by rw [hdl]; omega)
    have hD := fun A c W (h : RdB W A c (fgX (b.drop p))) => Decode_any A c _ (fgX (b.drop p)) W rfl h
    have hfg := fg_ok (b.drop p)
    have hdb := dec_bounds (fgX (b.drop p))
    rw [hdl] at hG hfg
    unfold fil at hG
    by_cases hst : rStop (b.drop p) N
    · rw [rplN_stop hst] at hL hG2
      simp only [List.append_nil, Nat.add_zero] at hL hG2
      replace hL := hL.symm
      replace hG2 := hG2.symm
      subst hL hG2
      unfold rStop at hst
      clear hR HM hx
      generalize fgE (b.drop p) = E at *
      generalize fgK (b.drop p) = K at *
      generalize fgS (b.drop p) = S at *
      generalize decE (fgX (b.drop p)) = de at *
      generalize decQ (fgX (b.drop p)) = dq at *
      generalize decL (fgX (b.drop p)) = dl at *
      generalize fgX (b.drop p) = X at *
      by_cases h1 : E = 0
      · subst h1
        by_cases h2 : K = 1
        · subst h2
          by_cases h3 : de = 0
          · subst h3
            have h4 : 0 < (N : Int) ∧ dq ≠ (N : Int) := by rcases hst with h | h | h | h <;> first | exact absurd rfl h | exact h
            obtain ⟨h5, h6⟩ := h4
            clear hst hdb
            obtain ⟨n, hn⟩ : ∃ n, X.length = n := ⟨_, rfl⟩
            obtain ⟨q, hq⟩ : ∃ q, m - p = q := ⟨_, rfl⟩
            obtain ⟨n3, hn3⟩ : ∃ n3, dl.length = n3 := ⟨_, rfl⟩
            rw [hn] at hG hD
            rw [hn3] at hD
            rw [hq] at hsl hG
            have HN3 := hide hn3
            clear hn hq hdl hfg hdr hn3
            go_wp2_with (first | (go_at_call 38; (with_reducible refine (hG _ HB).mono ?_); rintro e w1 ⟨A1, c1, rfl, HO1, HB1⟩; have b1 := below_alloc w1 (.cells #[.int .i64 1, .slice A1 n c1] 69); have X1 := Bx.new w1 1 (.slice A1 n c1) 69; obtain ⟨x10, x11, x12, x13⟩ := X1.read; have HO2 := (HO.below HB1).below b1; have HO12 := HO1.rdl.below b1; have HB2 := (HB.trans (HB1.mono HB.size)).alloc (HB.trans (HB1.mono HB.size)).size (.cells #[.int .i64 1, .slice A1 n c1] 69)) | (go_at_call 20; (with_reducible refine (hD _ _ _ HO12).mono ?_); rintro e w3 ⟨⟨A3, c3, rfl, HO3⟩, HB3⟩; have b3 := below_alloc w3 (.cells #[.int .i64 dq, .slice A3 n3 c3] 30); have X3 := Bx.new w3 dq (.slice A3 n3 c3) 30; obtain ⟨x30, x31, x32, x33⟩ := X3.read; have HO4 := (HO2.below HB3).below b3; have HO34 := HO3.below b3; have HB4 := (HB2.trans (HB3.mono HB2.size)).alloc (HB2.trans (HB3.mono HB2.size)).size (.cells #[.int .i64 dq, .slice A3 n3 c3] 30)))
            go_ret2
            exact ⟨_, rfl, HO4, HB4⟩
          · clear hst hdb
            obtain ⟨n, hn⟩ : ∃ n, X.length = n := ⟨_, rfl⟩
            obtain ⟨q, hq⟩ : ∃ q, m - p = q := ⟨_, rfl⟩
            obtain ⟨n3, hn3⟩ : ∃ n3, dl.length = n3 := ⟨_, rfl⟩
            rw [hn] at hG hD
            rw [hn3] at hD
            rw [hq] at hsl hG
            have HN3 := hide hn3
            clear hn hq hdl hfg hdr hn3
            go_wp2_with (first | (go_at_call 38; (with_reducible refine (hG _ HB).mono ?_); rintro e w1 ⟨A1, c1, rfl, HO1, HB1⟩; have b1 := below_alloc w1 (.cells #[.int .i64 1, .slice A1 n c1] 69); have X1 := Bx.new w1 1 (.slice A1 n c1) 69; obtain ⟨x10, x11, x12, x13⟩ := X1.read; have HO2 := (HO.below HB1).below b1; have HO12 := HO1.rdl.below b1; have HB2 := (HB.trans (HB1.mono HB.size)).alloc (HB.trans (HB1.mono HB.size)).size (.cells #[.int .i64 1, .slice A1 n c1] 69)) | (go_at_call 20; (with_reducible refine (hD _ _ _ HO12).mono ?_); rintro e w3 ⟨⟨A3, c3, rfl, HO3⟩, HB3⟩; have b3 := below_alloc w3 (.cells #[.int .i64 dq, .slice A3 n3 c3] 30); have X3 := Bx.new w3 dq (.slice A3 n3 c3) 30; obtain ⟨x30, x31, x32, x33⟩ := X3.read; have HO4 := (HO2.below HB3).below b3; have HO34 := HO3.below b3; have HB4 := (HB2.trans (HB3.mono HB2.size)).alloc (HB2.trans (HB3.mono HB2.size)).size (.cells #[.int .i64 dq, .slice A3 n3 c3] 30)))
            go_ret2
            exact ⟨_, rfl, HO4, HB4⟩
        · clear hst hD hdb
          obtain ⟨n, hn⟩ : ∃ n, X.length = n := ⟨_, rfl⟩
          obtain ⟨q, hq⟩ : ∃ q, m - p = q := ⟨_, rfl⟩
          rw [hn] at hG
          rw [hq] at hsl hG
          clear hn hq hdl hfg hdr
          go_wp2_with (first | (go_at_call 38; (with_reducible refine (hG _ HB).mono ?_); rintro e w1 ⟨A1, c1, rfl, HO1, HB1⟩; have b1 := below_alloc w1 (.cells #[.int .i64 K, .slice A1 n c1] 69); have X1 := Bx.new w1 K (.slice A1 n c1) 69; obtain ⟨x10, x11, x12, x13⟩ := X1.read; have HO2 := (HO.below HB1).below b1; have HO12 := HO1.rdl.below b1; have HB2 := (HB.trans (HB1.mono HB.size)).alloc (HB.trans (HB1.mono HB.size)).size (.cells #[.int .i64 K, .slice A1 n c1] 69)))
          go_ret2
          exact ⟨_, rfl, HO2, HB2⟩
      · clear hst hD hdb
        obtain ⟨n, hn⟩ : ∃ n, X.length = n := ⟨_, rfl⟩
        obtain ⟨q, hq⟩ : ∃ q, m - p = q := ⟨_, rfl⟩
        rw [hn] at hG
        rw [hq] at hsl hG
        clear hn hq hdl hfg hdr
        go_wp2_with (first | (go_at_call 38; (with_reducible refine (hG _ HB).mono ?_); rintro e w1 ⟨A1, c1, rfl, HO1, HB1⟩; have b1 := below_alloc w1 (.cells #[.int .i64 K, .slice A1 n c1] 69); have X1 := Bx.new w1 K (.slice A1 n c1) 69; obtain ⟨x10, x11, x12, x13⟩ := X1.read; have HO2 := (HO.below HB1).below b1; have HO12 := HO1.rdl.below b1; have HB2 := (HB.trans (HB1.mono HB.size)).alloc (HB.trans (HB1.mono HB.size)).size (.cells #[.int .i64 K, .slice A1 n c1] 69)))
        go_ret2
        exact ⟨_, rfl, HO2, HB2⟩
    · rw [rplN_go hst] at hL hG2
      obtain ⟨r1, r2, r3, r4⟩ := rStop_ok hst
      obtain ⟨d1, d2, d3, d4⟩ := hdb
      obtain ⟨d5, d6⟩ := d4 r3
      obtain ⟨f1, f2, f3⟩ := hfg r1
      rw [List.drop_drop] at hL hG2
      simp only at hL hG2
      rw [r1, r2] at hG
      rw [r3] at hD
      clear hst hR r1 r2 r3
      generalize fgE (b.drop p) = E at *
      generalize fgK (b.drop p) = K at *
      generalize fgS (b.drop p) = S at *
      generalize decE (fgX (b.drop p)) = de at *
      generalize decQ (fgX (b.drop p)) = dq at *
      generalize decL (fgX (b.drop p)) = dl at *
      generalize fgX (b.drop p) = X at *
      obtain ⟨n, hn⟩ : ∃ n, X.length = n := ⟨_, rfl⟩
      obtain ⟨q, hq⟩ : ∃ q, m - p = q := ⟨_, rfl⟩
      obtain ⟨n3, hn3⟩ : ∃ n3, dl.length = n3 := ⟨_, rfl⟩
      obtain ⟨s, hs⟩ : ∃ s, p + S = s := ⟨_, rfl⟩
      obtain ⟨N2, hN2⟩ : ∃ N2 : Nat, dq + (n3 : Int) = (N2 : Int) := ⟨(dq + (n3 : Int)).toNat, by omega⟩
      rw [hn] at hG hD
      rw [hn3] at hD hL hG2 d3
      rw [hN2] at hL hG2
      rw [hq] at hsl hG
      rw [hs] at hL hG2
      obtain ⟨a1, s1, s2, hN2b, hpre, hpre2⟩ := rp_arith p S s m N2 n3 pre.length dq hs f1 f2 hp hl d2 d3 hN2 hpl
      obtain ⟨w1_, w2_, w3_, w4_⟩ := rp_wraps s N2 m s1 hl hN2b
      have hNq : ¬ (0 < (N : Int) ∧ ¬ dq = (N : Int)) := fun h => h.2 (r4 h.1)
      have HPRE := hide hpre
      have HP2 := hide hpre2
      have HL := hide hL
      have hG3 : G = s + (rplN (b.drop s) N2).2 := by rw [hG2, ← Nat.add_assoc, hs]
      have HG := hide hG3
      clear hn hq hdl hfg hdr hn3 hs hpre hpre2 hL hG2 hG3 hpl d1 d2 d3 d4 d5 d6 f1 f2 f3
      by_cases hN0 : 0 < (N : Int)
      · obtain rfl := r4 hN0
        clear r4 hNq
        have hOl := HO.lt
        go_wp2_with (first | (go_at_call 38; (with_reducible refine (hG _ HB).mono ?_); rintro e w1 ⟨A1, c1, rfl, HO1, HB1⟩; have b1 := below_alloc w1 (.cells #[.int .i64 1, .slice A1 n c1] 69); have X1 := Bx.new w1 1 (.slice A1 n c1) 69; obtain ⟨x10, x11, x12, x13⟩ := X1.read; have HO2 := (HO.below HB1).below b1; have HO12 := HO1.rdl.below b1; have HB2 := (HB.trans (HB1.mono HB.size)).alloc (HB.trans (HB1.mono HB.size)).size (.cells #[.int .i64 1, .slice A1 n c1] 69)) | (go_at_call 20; (with_reducible refine (hD _ _ _ HO12).mono ?_); rintro e w3 ⟨⟨A3, c3, rfl, HO3⟩, HB3⟩; have b3 := below_alloc w3 (.cells #[.int .i64 (N : Int), .slice A3 n3 c3] 30); have X3 := Bx.new w3 (N : Int) (.slice A3 n3 c3) 30; obtain ⟨x30, x31, x32, x33⟩ := X3.read; have HO4 := (HO2.below HB3).below b3; have HO34 := HO3.below b3; have HB4 := (HB2.trans (HB3.mono HB2.size)).alloc (HB2.trans (HB3.mono HB2.size)).size (.cells #[.int .i64 (N : Int), .slice A3 n3 c3] 30)))
        have hne := X3.lt
        have X3d : Bx (w3.alloc (.cells #[.int .i64 (N : Int), .slice A3 n3 c3] 30)).drew w3.heap.size (N : Int) (.slice A3 n3 c3) 30 := X3
        have hS0 : (w3.alloc (.cells #[.int .i64 (N : Int), .slice A3 n3 c3] 30)).drew.cell? ⟨w3.heap.size, 0, none⟩ = some (.int .i64 (N : Int)) ∧ (w3.alloc (.cells #[.int .i64 (N : Int), .slice A3 n3 c3] 30)).drew.cell? ⟨w3.heap.size, 1, none⟩ = some (.slice A3 n3 c3) := ⟨x30, x31⟩
        have X5 := X3d.below (below_alloc _ (.cells #[.int .i64 (N : Int), .slice A3 n3 c3] 30))
        obtain ⟨x50, x51, _, _⟩ := X5.read
        have hS5 := And.intro x50 x51
        have hlo : ∀ k, Value.ownBlock u2 = some k → k < (w1.alloc (.cells #[.int .i64 1, .slice A1 n c1] 69)).heap.size := fun k hk => Nat.lt_of_lt_of_le (hOl k hk) (Nat.le_trans HB1.size b1.size)
        have hlo3 : ∀ k, Value.ownBlock u2 = some k → k < w3.heap.size := fun k hk => Nat.lt_of_lt_of_le (hlo k hk) HB3.size
        go_region_held3 (fun w' => w'.cell? ⟨w3.heap.size, 0, none⟩ = some (.int .i64 (N : Int)) ∧ w'.cell? ⟨w3.heap.size, 1, none⟩ = some (.slice A3 n3 c3)) (first | exact hS0 | exact hS5 | exact hS6 | assumption) (first | ((refine step_bat (w0 := w) (W := (w3.alloc (.cells #[.int .i64 (N : Int), .slice A3 n3 c3] 30)).drew) 30 53 w.heap.size (w1.alloc (.cells #[.int .i64 1, .slice A1 n c1] 69)).heap.size (by rfl) (.tmp 46) (.tmp 48) rfl Try.underlying53 info_bat u2 pre (N : Int) (.slice A3 n3 c3) dl (by rfl) (by show _ = Value.slice (some ⟨(w3.alloc _).heap.size, 0, none⟩) 1 1; rw [World.size_alloc]; rfl) (HO4.below (Below.refl _ _).drew) (HO34.below (Below.refl _ _).drew) HB2.size hlo HB4.drew HB4.drew.size HPRE.out ?_); intro v6 w6 HO6 HB6 hg6; have X6 := X3d.grown hg6 hlo3; obtain ⟨x60, x61, _, _⟩ := X6.read; have hS6 := And.intro x60 x61))
        go_wp2
        go_roundw
        case rel => exact ⟨s, N2, pre ++ [((N : Int), dl)], s1, by go_num, by go_num, hN2b, by rw [List.length_append, List.length_singleton]; have := HP2.out; omega, by rw [HL.out]; simp, HG.out, HO6, HB6⟩
        case measure => simp [intOf]; omega
      · have hN00 : (N : Int) = 0 := Int.le_antisymm (Int.not_lt.1 hN0) (Int.natCast_nonneg _)
        clear r4 hNq
        have hOl := HO.lt
        go_wp2_with (first | (go_at_call 38; (with_reducible refine (hG _ HB).mono ?_); rintro e w1 ⟨A1, c1, rfl, HO1, HB1⟩; have b1 := below_alloc w1 (.cells #[.int .i64 1, .slice A1 n c1] 69); have X1 := Bx.new w1 1 (.slice A1 n c1) 69; obtain ⟨x10, x11, x12, x13⟩ := X1.read; have HO2 := (HO.below HB1).below b1; have HO12 := HO1.rdl.below b1; have HB2 := (HB.trans (HB1.mono HB.size)).alloc (HB.trans (HB1.mono HB.size)).size (.cells #[.int .i64 1, .slice A1 n c1] 69)) | (go_at_call 20; (with_reducible refine (hD _ _ _ HO12).mono ?_); rintro e w3 ⟨⟨A3, c3, rfl, HO3⟩, HB3⟩; have b3 := below_alloc w3 (.cells #[.int .i64 dq, .slice A3 n3 c3] 30); have X3 := Bx.new w3 dq (.slice A3 n3 c3) 30; obtain ⟨x30, x31, x32, x33⟩ := X3.read; have HO4 := (HO2.below HB3).below b3; have HO34 := HO3.below b3; have HB4 := (HB2.trans (HB3.mono HB2.size)).alloc (HB2.trans (HB3.mono HB2.size)).size (.cells #[.int .i64 dq, .slice A3 n3 c3] 30)))
        have hne := X3.lt
        have X3d : Bx (w3.alloc (.cells #[.int .i64 dq, .slice A3 n3 c3] 30)).drew w3.heap.size dq (.slice A3 n3 c3) 30 := X3
        have hS0 : (w3.alloc (.cells #[.int .i64 dq, .slice A3 n3 c3] 30)).drew.cell? ⟨w3.heap.size, 0, none⟩ = some (.int .i64 dq) ∧ (w3.alloc (.cells #[.int .i64 dq, .slice A3 n3 c3] 30)).drew.cell? ⟨w3.heap.size, 1, none⟩ = some (.slice A3 n3 c3) := ⟨x30, x31⟩
        have X5 := X3d.below (below_alloc _ (.cells #[.int .i64 dq, .slice A3 n3 c3] 30))
        obtain ⟨x50, x51, _, _⟩ := X5.read
        have hS5 := And.intro x50 x51
        have hlo : ∀ k, Value.ownBlock u2 = some k → k < (w1.alloc (.cells #[.int .i64 1, .slice A1 n c1] 69)).heap.size := fun k hk => Nat.lt_of_lt_of_le (hOl k hk) (Nat.le_trans HB1.size b1.size)
        have hlo3 : ∀ k, Value.ownBlock u2 = some k → k < w3.heap.size := fun k hk => Nat.lt_of_lt_of_le (hlo k hk) HB3.size
        go_region_held3 (fun w' => w'.cell? ⟨w3.heap.size, 0, none⟩ = some (.int .i64 dq) ∧ w'.cell? ⟨w3.heap.size, 1, none⟩ = some (.slice A3 n3 c3)) (first | exact hS0 | exact hS5 | exact hS6 | assumption) (first | ((refine step_bat (w0 := w) (W := (w3.alloc (.cells #[.int .i64 dq, .slice A3 n3 c3] 30)).drew) 30 53 w.heap.size (w1.alloc (.cells #[.int .i64 1, .slice A1 n c1] 69)).heap.size (by rfl) (.tmp 46) (.tmp 48) rfl Try.underlying53 info_bat u2 pre dq (.slice A3 n3 c3) dl (by rfl) (by show _ = Value.slice (some ⟨(w3.alloc _).heap.size, 0, none⟩) 1 1; rw [World.size_alloc]; rfl) (HO4.below (Below.refl _ _).drew) (HO34.below (Below.refl _ _).drew) HB2.size hlo HB4.drew HB4.drew.size HPRE.out ?_); intro v6 w6 HO6 HB6 hg6; have X6 := X3d.grown hg6 hlo3; obtain ⟨x60, x61, _, _⟩ := X6.read; have hS6 := And.intro x60 x61))
        go_wp2
        go_roundw
        case rel => exact ⟨s, N2, pre ++ [(dq, dl)], s1, by go_num, by go_num, hN2b, by rw [List.length_append, List.length_singleton]; have := HP2.out; omega, by rw [HL.out]; simp, HG.out, HO6, HB6⟩
        case measure => simp [intOf]; omega
end Go.Proofs.Ytebefonohemlfaa
end

section
/- Wal: batches put one behind the other, replayed; and cut off, plainly. -/
namespace Go.Proofs.Ytebefonohemlfaa
set_option linter.unusedVariables false

/-- a batch as a record -/
def fr (b : Int × List Chg) : Int × List UInt8 := (1, encB b.1 b.2)
def catB (G : List (Int × List Chg)) : List UInt8 := catF (G.map fr)
def endB (G : List (Int × List Chg)) (k : Nat) : Nat := endF (G.map fr) k
def nextOf : Int → List (Int × List Chg) → Int
  | n, [] => n
  | n, (_, l) :: r => nextOf (n + l.length) r
def linked : Int → List (Int × List Chg) → Prop
  | _, [] => True
  | n, (q, l) :: r => q = n ∧ linked (n + l.length) r
theorem nextOf_snoc (n : Int) (G : List (Int × List Chg)) (q : Int) (l : List Chg) : nextOf n (G ++ [(q, l)]) = nextOf n G + l.length := by
  induction G generalizing n with
  | nil => rfl
  | cons b r ih => obtain ⟨q2, l2⟩ := b; exact ih _
theorem linked_snoc (n : Int) (G : List (Int × List Chg)) (q : Int) (l : List Chg) (h : linked n G) (hq : q = nextOf n G) : linked n (G ++ [(q, l)]) := by
  induction G generalizing n with
  | nil => exact ⟨hq, trivial⟩
  | cons b r ih => obtain ⟨q2, l2⟩ := b; exact ⟨h.1, ih _ h.2 hq⟩
theorem linked_take (n : Int) (G : List (Int × List Chg)) (k : Nat) (h : linked n G) : linked n (G.take k) := by
  induction G generalizing n k with
  | nil => simp [linked]
  | cons b r ih =>
    obtain ⟨q2, l2⟩ := b
    cases k with
    | zero => trivial
    | succ k => exact ⟨h.1, ih _ _ h.2⟩
theorem rpl_good (G : List (Int × List Chg)) (rest : List UInt8) (hr : fgE rest ≠ 0) : ∀ (n nx : Int), linked n G → (∀ b ∈ G, chkB b.1 b.2 = 0) → (nx = 0 ∨ nx = n) → rplN (catB G ++ rest) nx = (G, (catB G).length) := by
  induction G with
  | nil => intro n nx _ _ _; exact rplN_stop (.inl hr)
  | cons b r ih =>
    intro n nx hl hc hn
    obtain ⟨q, l⟩ := b
    obtain ⟨rfl, hl⟩ := hl
    have hk : chkB q l = 0 := hc (q, l) List.mem_cons_self
    obtain ⟨d1, d2, d3⟩ := dec_enc q l hk
    have e : catB ((q, l) :: r) = putFX 1 (encB q l) ++ catB r := by rw [catB, List.map_cons, catF_cons]; rfl
    obtain ⟨g1, g2, g3, g4⟩ := get_frame 1 (encB q l) (catB r ++ rest) (putFE_enc q l hk).1
    rw [e, List.append_assoc]
    have hno : ¬ rStop (putFX 1 (encB q l) ++ (catB r ++ rest)) nx := by
      unfold rStop
      rw [g1, g2, g3, d1, d2]
      rintro (h | h | h | ⟨h, h'⟩)
      · exact h rfl
      · exact h rfl
      · exact h rfl
      · rcases hn with rfl | rfl
        · omega
        · exact h' rfl
    rw [rplN_go hno, g3, g4, d2, d3, List.drop_left, ih (q + l.length) (q + l.length) hl (fun b hb => hc b (List.mem_cons_of_mem _ hb)) (.inr rfl), List.length_append]
theorem catB_take (G : List (Int × List Chg)) (k : Nat) : endB G k = (catB (G.take k)).length := by rw [endB, endF, ← List.map_take, catB]
/-- what is ahead of a cut is replayed -/
theorem rpl_cut (G : List (Int × List Chg)) (hl : linked 1 G) (hc : ∀ b ∈ G, chkB b.1 b.2 = 0) (at_ k : Nat) (hk : k ≤ G.length) (h1 : endB G k ≤ at_) (h2 : k < G.length → at_ < endB G (k + 1)) :
    rplN ((catB G).take at_) 0 = (G.take k, endB G k) := by
  have e : catB G = catB (G.take k) ++ catB (G.drop k) := by rw [catB, catB, catB, ← catF_app, ← List.map_append, List.take_append_drop]
  rw [catB_take] at h1 ⊢
  rw [e, List.take_append, List.take_of_length_le h1]
  refine rpl_good (G.take k) _ ?_ 1 0 (linked_take 1 G k hl) (fun b hb => hc b (List.mem_of_mem_take hb)) (.inl rfl)
  rcases Nat.lt_or_ge k G.length with hlt | hge
  · have h3 := h2 hlt
    have e2 : catB (G.drop k) = putFX 1 (encB G[k].1 G[k].2) ++ catB (G.drop (k + 1)) := by rw [List.drop_eq_getElem_cons hlt, catB, List.map_cons, catF_cons]; rfl
    have e3 : endB G (k + 1) = (catB (G.take k)).length + (putFX 1 (encB G[k].1 G[k].2)).length := by
      rw [catB_take, List.take_succ_eq_append_getElem hlt, catB, List.map_append, catF_app, List.length_append]
      simp [catF, fr, catB]
    rw [e2, List.take_append_of_le_length (by omega)]
    exact get_cutF 1 _ (putFE_enc _ _ (hc _ (List.getElem_mem hlt))).1 _ (by omega)
  · rw [List.drop_of_length_le hge]
    show fgE (List.take _ []) ≠ 0
    rw [List.take_nil]
    exact fg_nil
theorem rpl_all (G : List (Int × List Chg)) (hl : linked 1 G) (hc : ∀ b ∈ G, chkB b.1 b.2 = 0) : rplN (catB G) 0 = (G, (catB G).length) := by
  have := rpl_good G [] fg_nil 1 0 hl hc (.inl rfl)
  rwa [List.append_nil] at this
/-- the chain of a list's first k: its next number, its batches -/
def chS (l : List (Int × List Chg)) : Nat → Int × List (Int × List Chg)
  | 0 => (1, [])
  | k + 1 => if chkB (chS l k).1 (l.getD k (0, [])).2 = 0 then ((chS l k).1 + (l.getD k (0, [])).2.length, (chS l k).2 ++ [((chS l k).1, (l.getD k (0, [])).2)]) else chS l k
theorem chkB_len (q : Int) (l : List Chg) (h : chkB q l = 0) : 1 ≤ l.length ∧ l.length ≤ 64 ∧ 1 ≤ q ∧ q ≤ 1099511627712 := by
  unfold chkB at h
  split at h
  · cases h
  · next g1 =>
    split at h
    · cases h
    · next g2 =>
      simp only [not_or] at g1 g2
      omega
theorem chS_ok (l : List (Int × List Chg)) (k : Nat) : linked 1 (chS l k).2 ∧ nextOf 1 (chS l k).2 = (chS l k).1 ∧ (∀ b ∈ (chS l k).2, chkB b.1 b.2 = 0) ∧ (chS l k).2.length ≤ k ∧ 1 ≤ (chS l k).1 ∧ (chS l k).1 ≤ 1 + 64 * k := by
  induction k with
  | zero => simp [chS, linked, nextOf]
  | succ k ih =>
    obtain ⟨i1, i2, i3, i4, i5, i6⟩ := ih
    rw [chS]
    generalize chS l k = s at *
    generalize l.getD k (0, []) = b at *
    obtain ⟨nx, G⟩ := s
    have i4' : G.length ≤ k := i4
    simp only at *
    split
    · next h =>
      have hb := chkB_len _ _ h
      refine ⟨linked_snoc _ _ _ _ i1 i2.symm, by rw [nextOf_snoc, i2], fun c hc => ?_, by simp; omega, by omega, by simp only; omega⟩
      rcases List.mem_append.1 hc with h1 | h1
      · exact i3 c h1
      · rw [List.mem_singleton.1 h1]; exact h
    · exact ⟨i1, i2, i3, Nat.le_succ_of_le i4', i5, by simp only; omega⟩
def endsB (G : List (Int × List Chg)) : List Int := (List.range G.length).map fun j => (endB G (j + 1) : Int)
theorem endsB_length (G : List (Int × List Chg)) : (endsB G).length = G.length := by simp [endsB]
theorem endsB_get (G : List (Int × List Chg)) (j : Nat) (h : j < G.length) : (endsB G).getD j 0 = (endB G (j + 1) : Int) := by
  rw [List.getD_eq_getElem?_getD, endsB, List.getElem?_map, List.getElem?_range h]
  rfl
theorem catB_snoc (G : List (Int × List Chg)) (q : Int) (l : List Chg) : catB (G ++ [(q, l)]) = catB G ++ putFX 1 (encB q l) := by rw [catB, List.map_append, catF_app]; simp [catF, fr, catB]
theorem endsB_snoc (G : List (Int × List Chg)) (r : Int × List Chg) : endsB (G ++ [r]) = endsB G ++ [((catB (G ++ [r])).length : Int)] := by
  rw [endsB, endsB, List.length_append, List.length_singleton, List.range_succ, List.map_append]
  congr 1
  · apply List.map_congr_left
    intro j hj
    have hj' := List.mem_range.1 hj
    rw [catB_take, catB_take, List.take_append_of_le_length (by omega)]
  · simp only [List.map_cons, List.map_nil]
    rw [catB_take, show G.length + 1 = (G ++ [r]).length by simp, List.take_length]
theorem catB_len (G : List (Int × List Chg)) : (catB G).length ≤ 65550 * G.length := by have := catF_len (G.map fr); rw [List.length_map] at this; exact this
theorem endB_le (G : List (Int × List Chg)) (k : Nat) : endB G k ≤ (catB G).length := endF_le _ _
end Go.Proofs.Ytebefonohemlfaa
end

section
/- Wal: the walk of the chain. -/
namespace Go.Proofs.Ytebefonohemlfaa
open Go.RowKit Go.Proofs.YtebefonohemlfaaW.PrintWords
set_option linter.unusedVariables false

/-- rows of batches whose changes came in -/
abbrev bFix (w : World) : Kd Bat := Kd.fixed kBat w
theorem bfix_rd {w wr : World} {A : Option Addr} {c : Nat} {bs : List Bat} (h : Rd (bFix w) wr A c bs) (hb : Below w.heap.size w wr) : RdBt wr A c bs :=
  ⟨h.1, ReadsRow.imp_ h.2 (Below.refl _ _) (fun _ _ hk => kBat.K_below hb hk)⟩
theorem bat_at {w : World} {A : Option Addr} {c : Nat} {bs : List Bat} (h : RdBt w A c bs) (i : Nat) (hi : i < bs.length) :
    ∃ ad A' c', A = some ad ∧ w.cell? (ad.add (i * 2)) = some (.int .i64 (bs.getD i zBat).1) ∧ w.cell? ⟨(ad.add (i * 2)).block, (ad.add (i * 2)).off + 1, none⟩ = some (.slice A' (bs.getD i zBat).2.length c') ∧ RdC w A' c' (bs.getD i zBat).2 := by
  obtain ⟨ad, cs, e, hk, hl, hcell⟩ := h.at_ zBat i hi
  obtain ⟨A', c', hcs, hr⟩ := kBat_K hk
  refine ⟨ad, A', c', e, ?_, ?_, hr⟩
  · exact hcell 0 _ (by rw [hcs]; rfl)
  · have := hcell 1 _ (by rw [hcs]; rfl)
    rw [← add_field ad (i * 2) 1 (by decide)]
    exact this
section
variable {ops : Array Oper} {rest : List Oper} {o : Oper} {a : Act} {Q : Exit → Act → World → Prop}
theorem app_bfix {w w0 W : World} (base : Nat) (hgd : o.guard = none) (s x : Operand)
    (ho : o.op = .call { callee := .builtin .append, args := #[s, x], argTypes := #[56, 56] })
    (v : Value) (bs : List Bat) (q : Int) (l : List Chg) (A : Option Addr) (n c : Nat) (hs : a.eval s = v) (hx : a.eval x = .slice (some ⟨W.heap.size, 0, none⟩) 1 1)
    (hK : kBat.K w (q, l) [.int .i64 q, .slice A n c])
    (HO : Ow (bFix w) 24 W base v bs) (HB : Below base w0 W) (hbase : base ≤ W.heap.size) (hl : (bs.length + 1) * 32 ≤ 140737488355328)
    (h : ∀ v1 w1, Ow (bFix w) 24 w1 base v1 (bs ++ [(q, l)]) → Below base w0 w1 → W.grownBy w1 v.ownBlock → (v1.ownBlock = v.ownBlock ∨ ∃ b, v1.ownBlock = some b ∧ W.heap.size ≤ b) → wpList Try.prog ops Q rest (a.put o.dst v1) w1) :
    wpList Try.prog ops Q (o :: rest) a (W.alloc (.cells #[.int .i64 q, .slice A n c] 24)) :=
  app_ow (bFix w) base hgd s x 56 24 _ 32 ho Try.underlying56 info_rbat rfl (Nat.succ_pos 1) (by decide) v bs (q, l) [.int .i64 q, .slice A n c] hs hx hK HO HB hbase hl h
end
theorem chain_yes (l : List Bat) (k : Nat) (nx : Int) (G : List Bat) (h : chS l k = (nx, G)) (hk : chkB nx (l.getD k zBat).2 = 0) : chS l (k + 1) = (nx + (l.getD k zBat).2.length, G ++ [(nx, (l.getD k zBat).2)]) := by
  rw [chS, h]
  exact if_pos hk
theorem chain_no (l : List Bat) (k : Nat) (nx : Int) (G : List Bat) (h : chS l k = (nx, G)) (hk : ¬ chkB nx (l.getD k zBat).2 = 0) : chS l (k + 1) = (nx, G) := by
  rw [chS, h]
  exact if_neg hk
set_option maxRecDepth 100000 in
set_option maxHeartbeats 3200000 in
theorem chain_any (A : Option Addr) (c : Nat) (l : List Bat) (w : World) (hx : RdBt w A c l) (hll : ∀ b ∈ l, b.2.length * 40 ≤ 140737488351232) :
    Calls Try.prog 25 #[.slice A l.length c] w fun e w' => ∃ (k : Nat) (v al en : Value), k ≤ 20 ∧ e = .returned (.tuple #[v, al, en, .bool true]) ∧ OwB w' w.heap.size al (catB (chS l k).2) ∧ Ow kInt 3 w' w.heap.size en (endsB (chS l k).2) ∧ Ow (bFix w) 24 w' w.heap.size v (chS l k).2 ∧ Below w.heap.size w w' := by
  have hm := hx.max
  obtain ⟨n, hn⟩ : ∃ n, l.length = n := ⟨_, rfl⟩
  have HN := hide hn
  rw [hn] at hm ⊢
  have HR := hide hll
  clear hn hll
  go_enter Try.func25, Try.ntmps25
  go_wp2
  go_loopw [6, 7, 8, 9, 10] (fun go al en nv i wr => ∃ k : Nat, k ≤ n ∧ k ≤ 20 ∧ i = .int .i64 (k : Int) ∧ nv = .int .i64 (chS l k).1 ∧ OwB wr w.heap.size al (catB (chS l k).2) ∧ Ow kInt 3 wr w.heap.size en (endsB (chS l k).2) ∧ Ow (bFix w) 24 wr w.heap.size go (chS l k).2 ∧ Below w.heap.size w wr) (fun _ _ _ _ i _ => n - (intOf i).toNat)
  case atStart => exact ⟨0, by omega, by omega, rfl, rfl, OwB.zero _ _, Ow.zero _ _ _ _, Ow.zero _ _ _ _, Below.refl _ _⟩
  case round =>
    obtain ⟨k, hk, hk20, rfl, rfl, HO1, HO2, HO3, HB⟩ := hrel
    by_cases hlt : k < n ∧ k < 20
    · obtain ⟨hlt, hl20⟩ := hlt
      obtain ⟨ad, A1, c1, rfl, e0, e1, er⟩ := bat_at hx k (by rw [HN.out]; exact hlt)
      have hlti : (k : Int) < (n : Int) := by omega
      have hl20i : (k : Int) < 20 := by omega
      obtain ⟨i1, i2, i3, i4, i5, i6⟩ := chS_ok l k
      have hchl := HR.out (l.getD k zBat) (by rw [List.getD_eq_getElem?_getD, List.getElem?_eq_getElem (by rw [HN.out]; exact hlt)]; exact List.getElem_mem _)
      rcases hS : chS l k with ⟨nx, G⟩
      rw [hS] at HO1 HO2 HO3 i4 i5 i6
      simp only at HO1 HO2 HO3 i4 i5 i6
      have hyes := chain_yes l k nx G hS
      have hno := chain_no l k nx G hS
      have hCS := catB_snoc G nx (l.getD k zBat).2
      have hES := endsB_snoc G (nx, (l.getD k zBat).2)
      have hCL := catB_len G
      have hGL := endsB_length G
      generalize l.getD k zBat = x at *
      obtain ⟨q0, ch⟩ := x
      simp only at hyes hno e0 e1 er hCS hES hchl
      obtain ⟨m, hm1⟩ : ∃ m, ch.length = m := ⟨_, rfl⟩
      have l0 := World.block_lt_of_cell? w _ e0
      have l1 := World.block_lt_of_cell? w _ e1
      have erw := er.below HB
      have X1 := Bx.new wr nx (.slice A1 m c1) 24
      have b1 := below_alloc wr (.cells #[.int .i64 nx, .slice A1 m c1] 24)
      have er1 := erw.below b1
      have HO11 := HO1.below b1
      have HO21 := HO2.below b1
      have HO31 := HO3.below b1
      have HB1 := HB.trans (b1.mono HB.size)
      rw [hm1] at e1
      have g0 : wr.cell? (ad.add (k * 2)) = some (.int .i64 q0) := (HB.cell l0).trans e0
      have g1 : wr.cell? ⟨(ad.add (k * 2)).block, (ad.add (k * 2)).off + 1, none⟩ = some (.slice A1 m c1) := (HB.cell l1).trans e1
      have hCk := fun W (h : RdC W A1 c1 ch) => rCheck_any nx A1 c1 m ch W hm1 h (by omega)
      obtain ⟨x10, x11, x12, x13⟩ := X1.read
      by_cases hz : chkB nx ch = 0
      · have hY := hide (hyes hz)
        obtain ⟨z1, z2, z3, z4⟩ := chkB_len nx ch hz
        have hOf := fun W (h : RdC W A1 c1 ch) => of_any nx A1 c1 m ch W hm1 h hchl
        have hAd := fun A7 c7 A2 c2 W (h : RdB W A7 c7 (catB G)) (h' : RdC W A2 c2 ch) => Add_any A7 c7 (catB G) nx A2 c2 m (catB G).length ch W hm1 rfl h h' (by omega) (by omega)
        rw [hz] at hCk hAd
        rw [addX, if_pos hz, ← hCS] at hAd
        have HESr := hide hES
        have hKK : kBat.K w (nx, ch) [.int .i64 nx, .slice A1 m c1] := by rw [← hm1]; exact kBat_mk er
        have HKK := hide hKK
        have hel : ((endsB G).length + 1) * 8 ≤ 140737488355328 := by omega
        have HEL := hide hel
        have hgl : (G.length + 1) * 32 ≤ 140737488355328 := by omega
        have HGL := hide hgl
        obtain ⟨L, hL⟩ : ∃ L, (catB G).length = L := ⟨_, rfl⟩
        have HL := hide hL
        rw [hL] at hAd
        obtain ⟨A7, c7, hv7, hr7⟩ := HO11.rd
        rw [hL] at hv7
        subst hv7
        rw [hm1] at z1 z2 hY
        obtain ⟨m6, hm6⟩ : ∃ m6, (catB (G ++ [(nx, ch)])).length = m6 := ⟨_, rfl⟩
        have HM6 := hide hm6
        rw [hm6] at HESr
        have hmi : (m : Int) ≤ 64 := by omega
        have hsum := wrap_in' (nx + (m : Int)) (by omega) (by omega)
        clear hyes hno hz hES hCS hKK hel hgl hL hm1 hm6 hCL hGL z1 z2 z3 z4 hchl hS hm i1 i2 i3 i4
        go_wp2_with (first | (go_at_call 13; (with_reducible refine (hCk _ er1).mono ?_); rintro e w2 ⟨rfl, HB2⟩; have X2 := X1.below HB2; obtain ⟨x20, x21, x22, x23⟩ := X2.read; have er2 := er1.below HB2; have HO22 := HO21.below HB2; have HO32 := HO31.below HB2; have hr72 := hr7.below HB2; have HB2' := HB1.trans (HB2.mono HB1.size)) | (go_at_call 11; (with_reducible refine (hOf _ er2).mono ?_); rintro e w3 ⟨A3, c3, rfl, HO4, HB3⟩; have X3 := X2.below HB3; have HO23 := HO22.below HB3; have HO33 := HO32.below HB3; have hr73 := hr72.below HB3; have HB3' := HB2'.trans (HB3.mono HB2'.size)) | (go_at_call 15; (with_reducible refine (hAd _ _ _ _ _ hr73 HO4.rdl).mono ?_); rintro e w5 ⟨v5, rfl, HO5, HB5⟩; have X5 := X3.below HB5; obtain ⟨x50, x51, x52, x53⟩ := X5.read; have HO25 := HO23.below HB5; have HO35 := HO33.below HB5; have HB5' := HB3'.trans (HB5.mono HB3'.size); have HO55 := HO5.lower HB3'.size; obtain ⟨A5, c5, hv5, hr5⟩ := HO5.rd; rw [HM6.out] at hv5; subst hv5) | (go_at_call 12; refine (num_any _ _).mono ?_; rintro e w' ⟨rfl, rfl⟩) | (at_builtin; refine app_bfix (w := w) (w0 := w) w.heap.size rfl (.tmp 49) (.tmp 51) rfl u6 G nx ch A1 m c1 (by rfl) (by rfl) HKK.out HO35 HB5' HB5'.size HGL.out ?_; intro v6 w6 HO6 HB6 hg6 hat6; have HO56 := HO55.ow.over HO35 (by decide) hg6; have HO26 := HO25.over HO35 (by decide) hg6) | (at_builtin; refine app_int (w0 := w) w.heap.size rfl (.tmp 53) (.tmp 56) rfl _ (endsB G) (m6 : Int) rfl rfl HO26 HB6 HB6.size HEL.out ?_; intro v7 w7 HO7 HB7 hg7 hat7; rw [← HESr.out] at HO7; have HO57 := HO56.over HO26 (by decide) hg7; have HO67 := HO6.over HO26 (one_ne (by decide)) hg7))
        go_roundw
        case rel => exact ⟨k + 1, by omega, by omega, by go_num, by rw [hY.out], by rw [hY.out]; exact HO57.owB, by rw [hY.out]; exact HO7, by rw [hY.out]; exact HO67, HB7⟩
        case measure => simp [intOf]; omega
      · have hY := hide (hno hz)
        clear hyes hno hES hCS hCL hGL hchl hS hm i1 i2 i3 i4
        generalize chkB nx ch = z at *
        go_wp2_with (first | (go_at_call 13; (with_reducible refine (hCk _ er1).mono ?_); rintro e w2 ⟨rfl, HB2⟩; have HO12 := HO11.below HB2; have HO22 := HO21.below HB2; have HO32 := HO31.below HB2; have HB2' := HB1.trans (HB2.mono HB1.size)))
        go_roundw
        case rel => exact ⟨k + 1, by omega, by omega, by go_num, by rw [hY.out], by rw [hY.out]; exact HO12, by rw [hY.out]; exact HO22, by rw [hY.out]; exact HO32, HB2'⟩
        case measure => simp [intOf]; omega
    · have hex : n ≤ k ∨ (k < n ∧ 20 ≤ k) := by omega
      rcases hex with hge | ⟨hlt2, hge⟩
      all_goals go_wp2
      all_goals (refine bodyPost_ret (v := .tuple #[u6, u7, u8, .bool true]) ?_ rfl ⟨k, u6, u7, u8, hk20, rfl, HO1, HO2, HO3, HB⟩; simp [results, Try.results25, go_sem])
end Go.Proofs.Ytebefonohemlfaa
end

section
/- Wal: the walk of the reference's Decode. -/
namespace Go.Proofs.Ytebefonohemlfaa
open Go.RowKit Go.Proofs.YtebefonohemlfaaW.PrintWords
set_option linter.unusedVariables false

theorem Bx.gb {w w1 w0 : World} {g b : Nat} {K : Int} {s : Value} {ty : TypeId} (h : Bx w b K s ty) (hg : Gb g w0 w w1) (hne : g ≠ b) : Bx w1 b K s ty := blk_grown h hg.1 (fun e => by injection e with e; exact hne e.symm)
theorem Bx.set0 {w : World} {b : Nat} {K : Int} {s : Value} {ty : TypeId} (h : Bx w b K s ty) (q : Int) : Bx (w.setCell ⟨b, 0, none⟩ (.int .i64 q)) b q s ty := blk_set h 0 _
theorem Bx.set1 {w : World} {b : Nat} {K : Int} {s : Value} {ty : TypeId} (h : Bx w b K s ty) (v : Value) : Bx (w.setCell ⟨b, 1, none⟩ v) b K v ty := blk_set h 1 _
theorem Bx.away {w : World} {b g j : Nat} {K : Int} {s : Value} {ty : TypeId} (h : Bx w b K s ty) (hne : b ≠ g) (v : Value) : Bx (w.setCell ⟨g, j, none⟩ v) b K s ty := blk_far h (p := ⟨g, j, none⟩) hne v
theorem Cz.away {w : World} {b g j : Nat} {x y z : Value} (h : Cz w b x y z) (hne : b ≠ g) (v : Value) : Cz (w.setCell ⟨g, j, none⟩ v) b x y z := blk_far h (p := ⟨g, j, none⟩) hne v
theorem Rs.row {g : Nat} {A : Option Addr} {c n p : Nat} {e : Int} {W W1 : World} {base : Nat} {v : Value} {l : List Chg} (h : Rs g A c n p e W) (HO : OwC W base v l) (hg : W.grownBy W1 v.ownBlock) : Rs g A c n p e W1 := blk_grown h hg (Kd.R_ne HO h (by decide))
theorem Bx.row {g : Nat} {K : Int} {s : Value} {W W1 : World} {base : Nat} {v : Value} {l : List Chg} (h : Bx W g K s 24) (HO : OwC W base v l) (hg : W.grownBy W1 v.ownBlock) : Bx W1 g K s 24 := blk_grown h hg (Kd.R_ne HO h (by decide))
theorem OwC.farSet {W : World} {base : Nat} {v : Value} {l : List Chg} {g j : Nat} (h : OwC W base v l) (hne : ∀ k, v.ownBlock = some k → k < g) (u : Value) : OwC (W.setCell ⟨g, j, none⟩ u) base v l :=
  Kd.R_grown2 h rfl ((Gb.refl g W W).set_ j u).1 (fun k hk e => by injection hk with hk; subst hk; exact Nat.lt_irrefl _ (hne _ e.symm))
abbrev rW1 (w : World) : World := w.alloc (.cells #[.int .i64 0, .slice none 0 0] 24)
abbrev rW2 (w : World) (v : Value) : World := (rW1 w).alloc (.cells #[v, .int .i64 0, .int .i64 0] 104)
abbrev rW3 (w : World) (v : Value) : World := (rW2 w v).alloc (.cells #[.int .i64 0, .slice none 0 0] 24)
theorem rW_at (w : World) (A : Option Addr) (c n : Nat) : Rs (w.heap.size + 1) A c n 0 0 (rW3 w (.slice A n c)) ∧ Bx (rW3 w (.slice A n c)) w.heap.size 0 (.slice none 0 0) 24 ∧ Bx (rW3 w (.slice A n c)) (w.heap.size + 1 + 1) 0 (.slice none 0 0) 24 ∧ Below w.heap.size w (rW3 w (.slice A n c)) := by
  have s1 : (rW1 w).heap.size = w.heap.size + 1 := Array.size_push _
  have s2 : (rW2 w (.slice A n c)).heap.size = w.heap.size + 1 + 1 := by rw [show (rW2 w (.slice A n c)).heap.size = (rW1 w).heap.size + 1 from Array.size_push _, s1]
  have X1 : Bx (rW1 w) w.heap.size 0 (.slice none 0 0) 24 := Bx.new w _ _ _
  have X2 : Rs (rW1 w).heap.size A c n 0 0 (rW2 w (.slice A n c)) := heap_alloc_new (rW1 w) _
  have X3 : Bx (rW3 w (.slice A n c)) (rW2 w (.slice A n c)).heap.size 0 (.slice none 0 0) 24 := Bx.new (rW2 w (.slice A n c)) _ _ _
  rw [s1] at X2
  rw [s2] at X3
  have b1 := below_alloc w (.cells #[.int .i64 0, .slice none 0 0] 24)
  have b2 := below_alloc (rW1 w) (.cells #[.slice A n c, .int .i64 0, .int .i64 0] 104)
  have b3 := below_alloc (rW2 w (.slice A n c)) (.cells #[.int .i64 0, .slice none 0 0] 24)
  exact ⟨X2.below b3, (X1.below b2).below b3, X3, (b1.trans (b2.mono (by omega))).trans (b3.mono (by omega))⟩
theorem drop_at (x : List UInt8) (n p : Nat) (hn : x.length = n) (y : UInt8) (t : List UInt8) (h : x.drop p = y :: t) : p + 1 ≤ n ∧ x.drop (p + 1) = t := by
  have h1 : (x.drop p).length = n - p := by rw [List.length_drop, hn]
  rw [h, List.length_cons] at h1
  exact ⟨by omega, by rw [← List.drop_drop, h, List.drop_succ_cons, List.drop_zero]⟩
theorem rdChange_okD (b : List UInt8) (c : Chg) (r : List UInt8) (h : rdChange b = .ok (c, r)) : ∃ y t key t1, b = y :: t ∧ rdText t = .ok (key, t1) ∧ ((y = 2 ∧ c = (key, true, ByteArray.empty) ∧ r = t1) ∨ (y = 1 ∧ ∃ val, rdText t1 = .ok (val, r) ∧ c = (key, false, val))) := by
  cases b with
  | nil => simp [rdChange, rdTake] at h
  | cons y t =>
    simp only [rdChange, rdTake, List.length_cons, List.take_succ_cons, List.take_zero, List.drop_succ_cons, List.drop_zero, List.getD_cons_zero] at h
    rw [if_neg (by omega)] at h
    simp only at h
    split at h
    · cases h
    · next hk =>
      split at h
      · cases h
      · next key t1 h4 =>
        split at h
        · next h5 =>
          injection h with h
          injection h with h6 h7
          exact ⟨y, t, key, t1, rfl, h4, .inl ⟨h5, h6.symm, h7.symm⟩⟩
        · next h5 =>
          have hy : y = 1 := by
            rcases Decidable.em (y = 1) with h | h
            · exact h
            · exact absurd ⟨h, h5⟩ hk
          split at h
          · cases h
          · next val t2 h8 =>
            injection h with h
            injection h with h6 h7
            subst h7
            exact ⟨y, t, key, t1, rfl, h4, .inr ⟨hy, val, h8, h6.symm⟩⟩
theorem rdChange_errD (b : List UInt8) (z : Int) (h : rdChange b = .error z) : (b = [] ∧ z = 8) ∨ ∃ y t, b = y :: t ∧ ((y ≠ 1 ∧ y ≠ 2 ∧ z = 22) ∨ ((y = 1 ∨ y = 2) ∧ rdText t = .error z) ∨ (y = 1 ∧ ∃ key t1, rdText t = .ok (key, t1) ∧ rdText t1 = .error z)) := by
  cases b with
  | nil => simp [rdChange, rdTake] at h; exact .inl ⟨rfl, h.symm⟩
  | cons y t =>
    refine .inr ⟨y, t, rfl, ?_⟩
    simp only [rdChange, rdTake, List.length_cons, List.take_succ_cons, List.take_zero, List.drop_succ_cons, List.drop_zero, List.getD_cons_zero] at h
    rw [if_neg (by omega)] at h
    simp only at h
    split at h
    · next hk => injection h with h; exact .inl ⟨hk.1, hk.2, h.symm⟩
    · next hk =>
      have hy : y = 1 ∨ y = 2 := by
        rcases Decidable.em (y = 1) with h | h
        · exact .inl h
        · rcases Decidable.em (y = 2) with h' | h'
          · exact .inr h'
          · exact absurd ⟨h, h'⟩ hk
      split at h
      · next z' h4 => injection h with h; subst h; exact .inr (.inl ⟨hy, h4⟩)
      · next key t1 h4 =>
        split at h
        · cases h
        · next h5 =>
          split at h
          · next z' h8 => injection h with h; subst h; exact .inr (.inr ⟨hy.resolve_right h5, key, t1, h4, h8⟩)
          · cases h
set_option maxRecDepth 100000 in
set_option maxHeartbeats 3200000 in
theorem rDecode_tail (A : Option Addr) (c n : Nat) (x : List UInt8) (w : World) (hn : x.length = n) (hx : RdB w A c x) (hn2 : n ≤ 140737488355328) (q N : Nat) (r1 r2 r3 : List UInt8) (cs0 : List Chg) (h1 : rdNum 1099511627776 4 x = .ok (q, r1)) (h2 : rdNum 1099511627776 4 r1 = .ok (N, r2)) (hN : N ≤ 64) (h3 : rdMany N r2 = .ok (cs0, r3)) (h4 : 0 < r3.length) :
    Calls Try.prog 40 #[.slice A n c] w fun e w' => e = .returned (.tuple #[.agg #[.int .i64 0, .slice none 0 0], .int .i64 23]) ∧ Below w.heap.size w w' := by
  obtain ⟨R0, Z0, Y0, B0⟩ := rW_at w A c n
  have hst := St.of hx
  have ne10 : w.heap.size + 1 ≠ w.heap.size := by omega
  have ne12 : w.heap.size + 1 ≠ w.heap.size + 1 + 1 := by omega
  have ne02 : w.heap.size ≠ w.heap.size + 1 + 1 := by omega
  have hg1 : w.heap.size ≤ w.heap.size + 1 := Nat.le_succ _
  have hg2 : w.heap.size ≤ w.heap.size + 1 + 1 := Nat.le_succ_of_le (Nat.le_succ _)
  have hN1 := fun W (h : Rs (w.heap.size + 1) A c n 0 0 W) (hb : Below w.heap.size w W) => rNum_ok w (w.heap.size + 1) A c n 0 x hst hn hn2 (Nat.zero_le _) 1099511627776 1099511627776 rfl (Nat.le_refl _) 4 W h hb q r1 (by rw [List.drop_zero]; exact h1)
  have hN2 := fun p W (hp : p ≤ n) (hd : x.drop p = r1) (h : Rs (w.heap.size + 1) A c n p 0 W) (hb : Below w.heap.size w W) => rNum_ok w (w.heap.size + 1) A c n p x hst hn hn2 hp 1099511627776 1099511627776 rfl (Nat.le_refl _) 4 W h hb N r2 (by rw [hd]; exact h2)
  have hni : ¬ 64 < (N : Int) := by omega
  have hni2 : (N : Int) ≤ 64 := by omega
  have H3 := hide h3
  have HN0 := hide hn
  clear h1 h2 h3 hx hn
  go_enter Try.func40, Try.ntmps40
  go_wp2_with (first | (go_at_call 54; (with_reducible refine (hN1 _ R0 B0).mono ?_); rintro e w2 ⟨rfl, ⟨p1, hp1, hd1, R2⟩, hg_2⟩; have Z2 := Z0.gb hg_2 ne10; have Y2 := Y0.gb hg_2 ne12; have B2 := B0.trans (hg_2.2 _ hg1 B0.size); obtain ⟨y20, y21, y22, y23⟩ := Y2.read; have Y3 := Y2.set0 (q : Int); have Z3 := Z2.away (j := 0) ne02 (.int .i64 (q : Int)); have R3 := R2.far (j := 0) ne12 (.int .i64 (q : Int)); have B3 := B2.setCell (p := ⟨w.heap.size + 1 + 1, 0, none⟩) hg2 (.int .i64 (q : Int))) | (go_at_call 54; (with_reducible refine (hN2 _ _ hp1 hd1 R3 B3).mono ?_); rintro e w4 ⟨rfl, ⟨p2, hp2, hd2, R4⟩, hg_4⟩; have Z4 := Z3.gb hg_4 ne10; have Y4 := Y3.gb hg_4 ne12; have B4 := B3.trans (hg_4.2 _ hg1 B3.size); obtain ⟨r40, r41, r42, r43, r44, r45⟩ := R4.read; obtain ⟨y40, y41, y42, y43⟩ := Y4.read))
  go_loopw [7] (fun i wr => ∃ (k p : Nat) (cs : List Chg) (v : Value), k ≤ N ∧ i = .int .i64 (k : Int) ∧ p ≤ n ∧ rdMany k r2 = .ok (cs, x.drop p) ∧ cs.length = k ∧ Rs (w.heap.size + 1) A c n p 0 wr ∧ Bx wr w.heap.size 0 (.slice none 0 0) 24 ∧ Bx wr (w.heap.size + 1 + 1) (q : Int) v 24 ∧ OwC wr w.heap.size v cs ∧ Below w.heap.size w wr) (fun i _ => N - (intOf i).toNat)
  case atStart => exact ⟨0, p2, [], .slice none 0 0, by omega, rfl, hp2, by rw [hd2]; rfl, rfl, R4, Z4, Y4, Ow.zero _ _ _ _, B4⟩
  case round =>
    obtain ⟨k, p, cs, v, hk, rfl, hp, hrm, hcl, Rr, Zr, Yr, HOr, Br⟩ := hrel
    obtain ⟨rr0, rr1, rr2, rr3, rr4, rr5⟩ := Rr.read
    by_cases hlt : k < N
    · have hlti : (k : Int) < (N : Int) := by omega
      obtain ⟨ds, t, hrm2⟩ := rdMany_pre N r2 cs0 r3 H3.out (k + 1) hlt
      obtain ⟨cc, hch, rfl⟩ := rdMany_step k r2 cs ds (x.drop p) t hrm hrm2
      obtain ⟨y, t0, key, t1, hxy, hk1, hcase⟩ := rdChange_okD _ _ _ hch
      obtain ⟨hpn, hpd⟩ := drop_at x n p HN0.out y t0 hxy
      have hTk := fun W (h : Rs (w.heap.size + 1) A c n p 0 W) (hb : Below w.heap.size w W) => rTake_ok w (w.heap.size + 1) A c n p 1 x hst HN0.out hn2 hp 1 rfl (by omega) W h hb hg1
      rw [hxy, List.take_succ_cons, List.take_zero] at hTk
      have hT1 := fun W (h : Rs (w.heap.size + 1) A c n (p + 1) 0 W) (hb : Below w.heap.size w W) => rText_ok w (w.heap.size + 1) A c n (p + 1) x hst HN0.out hn2 hpn W h hb hg1 key t1 (by rw [hpd]; exact hk1)
      have h40 : (cs.length + 1) * 40 ≤ 140737488355328 := by omega
      have H40 := hide h40
      have HRM := hide hrm2
      have HCL := hide hcl
      have hcl2 : ∀ c' : Chg, (cs ++ [c']).length = k + 1 := fun c' => by rw [List.length_append, List.length_singleton, hcl]
      have HCL2 := hide hcl2
      rcases hcase with ⟨rfl, rfl, rfl⟩ | ⟨rfl, val, hv1, rfl⟩
      · clear hrm hrm2 hch hcl hcl2 h40 hk1 hpd hxy
        go_wp2_with (first | (go_at_call 55; (with_reducible refine (hTk _ Rr Br).mono ?_); rintro e w5 ⟨⟨v5, rfl, HO5⟩, R5, hg_5⟩; obtain ⟨A5, c5, hv5, hr5⟩ := HO5.rd; rw [List.length_singleton] at hv5; subst hv5; obtain ⟨ad, rfl, hc5⟩ := rdB_head hr5; have hadg : wr.heap.size ≤ ad.block := HO5.ge _ rfl; have hadl := World.block_lt_of_cell? w5 _ hc5; have Z5 := Zr.gb hg_5 ne10; have Y5 := Yr.gb hg_5 ne12; have B5 := Br.trans (hg_5.2 _ hg1 Br.size); have HOc5 := Ow.gb HOr Rr (by decide) hg_5; obtain ⟨r50, r51, r52, r53, r54, r55⟩ := R5.read; have b6 := below_alloc w5 (.cells #[.string ⟨#[]⟩, .bool false, .string ⟨#[]⟩] 35); have C6 : Cz (w5.alloc (.cells #[.string ⟨#[]⟩, .bool false, .string ⟨#[]⟩] 35)) w5.heap.size (.string ⟨#[]⟩) (.bool false) (.string ⟨#[]⟩) := heap_alloc_new w5 _; have R6 := R5.below b6; have Y6 := Y5.below b6; have Z6 := Z5.below b6; have B6 := B5.trans (b6.mono B5.size); have HOc6 := HOc5.below b6; have hc6 := (b6.cell hadl).trans hc5; have hl5 := R5.lt; have hl5' := Y5.lt; have hl5'' := Z5.lt; have n15 : w.heap.size + 1 ≠ w5.heap.size := Nat.ne_of_lt hl5; have n25 : w.heap.size + 1 + 1 ≠ w5.heap.size := Nat.ne_of_lt hl5'; have n05 : w.heap.size ≠ w5.heap.size := Nat.ne_of_lt hl5''; have hvl : (∀ k, Value.ownBlock v = some k → k < w5.heap.size) := (fun k hk => Nat.lt_of_lt_of_le (HOr.lt k hk) hg_5.1.size); have nad : ¬ ad.block = w5.heap.size := Nat.ne_of_lt hadl; have nad1 : some ad.block ≠ some (w.heap.size + 1) := (fun e => Nat.ne_of_gt (Nat.lt_of_lt_of_le Rr.lt hadg) (by injection e))) | (go_at_call 56; (with_reducible refine (hT1 _ R6 B6).mono ?_); rintro e w7 ⟨rfl, ⟨p7, hp7, hd7, R7⟩, hg_7⟩; have C7 := C6.gb hg_7 n15; have Y7 := Y6.gb hg_7 ne12; have Z7 := Z6.gb hg_7 ne10; have B7 := B6.trans (hg_7.2 _ hg1 B6.size); have HOc7 := Ow.gb HOc6 R6 (by decide) hg_7; have hc7 := (hg_7.1.cell_far ad (Nat.lt_of_lt_of_le hadl b6.size) nad1).trans hc6; have hc8 := (((Gb.refl w5.heap.size w7 w7).set_ 0 (.string key)).1.cell_far ad (Nat.lt_of_lt_of_le (Nat.lt_of_lt_of_le hadl b6.size) hg_7.1.size) (fun e => nad (by injection e))).trans hc7; obtain ⟨c70, c71, c72, c73, c74, c75⟩ := C7.read; obtain ⟨r70, r71, r72, r73, r74, r75⟩ := R7.read; obtain ⟨y70, y71, y72, y73⟩ := Y7.read; have HOg_0 := OwC.farSet (j := 0) HOc7 hvl (.string key); have Cg_0 := blk_set C7 0 (.string key); have Rg_0 := R7.far (j := 0) n15 (.string key); have Yg_0 := Y7.away (j := 0) n25 (.string key); have Zg_0 := Z7.away (j := 0) n05 (.string key); have Bg_0 := B7.setCell (p := ⟨w5.heap.size, 0, none⟩) (Nat.le_of_lt hl5'') (.string key); have HOg_1 := OwC.farSet (j := 1) HOg_0 hvl (.bool true); have Cg_1 := blk_set Cg_0 1 (.bool true); have Rg_1 := Rg_0.far (j := 1) n15 (.bool true); have Yg_1 := Yg_0.away (j := 1) n25 (.bool true); have Zg_1 := Zg_0.away (j := 1) n05 (.bool true); have Bg_1 := Bg_0.setCell (p := ⟨w5.heap.size, 1, none⟩) (Nat.le_of_lt hl5'') (.bool true)) | (at_builtin; refine app_chg (w0 := w) (W := ((w7).setCell ⟨w5.heap.size, 0, none⟩ (.string key)).setCell ⟨w5.heap.size, 1, none⟩ (.bool true)) w.heap.size rfl (.tmp 95) (.tmp 97) rfl v cs (key, true, ByteArray.empty) (by rfl) (by show _ = Value.slice (some ⟨(((w7).setCell ⟨w5.heap.size, 0, none⟩ (.string key)).setCell ⟨w5.heap.size, 1, none⟩ (.bool true)).heap.size, 0, none⟩) 1 1; rw [World.size_setCell, World.size_setCell]; rfl) HOg_1 Bg_1 Bg_1.size H40.out ?_; intro v10 w10 HO10 HB10 hg10 hat10; obtain ⟨A10, c10, hv10, hr10⟩ := HO10.rd; rw [HCL2.out] at hv10; subst hv10; have R10 := Rg_1.row HOg_1 hg10; have Y10 := Yg_1.row HOg_1 hg10; have Z10 := Zg_1.row HOg_1 hg10; obtain ⟨y100, y101, y102, y103⟩ := Y10.read))
        go_roundw
        case rel => exact ⟨k + 1, p7, _, _, hlt, by go_num, hp7, by rw [hd7]; exact HRM.out, by rw [List.length_append, List.length_singleton, HCL.out], R10.far ne12 _, Z10.away ne02 _, Y10.set1 _, Ow.setCell HO10 Y10 (by decide) 1 _, HB10.setCell (p := ⟨w.heap.size + 1 + 1, 1, none⟩) hg2 _⟩
        case measure => simp [intOf]; omega
      · have hT2 := fun p7 W (hp7 : p7 ≤ n) (hd7 : x.drop p7 = t1) (h : Rs (w.heap.size + 1) A c n p7 0 W) (hb : Below w.heap.size w W) => rText_ok w (w.heap.size + 1) A c n p7 x hst HN0.out hn2 hp7 W h hb hg1 val t (by rw [hd7]; exact hv1)
        clear hrm hrm2 hch hcl hcl2 h40 hk1 hpd hxy hv1
        go_wp2_with (first | (go_at_call 55; (with_reducible refine (hTk _ Rr Br).mono ?_); rintro e w5 ⟨⟨v5, rfl, HO5⟩, R5, hg_5⟩; obtain ⟨A5, c5, hv5, hr5⟩ := HO5.rd; rw [List.length_singleton] at hv5; subst hv5; obtain ⟨ad, rfl, hc5⟩ := rdB_head hr5; have hadg : wr.heap.size ≤ ad.block := HO5.ge _ rfl; have hadl := World.block_lt_of_cell? w5 _ hc5; have Z5 := Zr.gb hg_5 ne10; have Y5 := Yr.gb hg_5 ne12; have B5 := Br.trans (hg_5.2 _ hg1 Br.size); have HOc5 := Ow.gb HOr Rr (by decide) hg_5; obtain ⟨r50, r51, r52, r53, r54, r55⟩ := R5.read; have b6 := below_alloc w5 (.cells #[.string ⟨#[]⟩, .bool false, .string ⟨#[]⟩] 35); have C6 : Cz (w5.alloc (.cells #[.string ⟨#[]⟩, .bool false, .string ⟨#[]⟩] 35)) w5.heap.size (.string ⟨#[]⟩) (.bool false) (.string ⟨#[]⟩) := heap_alloc_new w5 _; have R6 := R5.below b6; have Y6 := Y5.below b6; have Z6 := Z5.below b6; have B6 := B5.trans (b6.mono B5.size); have HOc6 := HOc5.below b6; have hc6 := (b6.cell hadl).trans hc5; have hl5 := R5.lt; have hl5' := Y5.lt; have hl5'' := Z5.lt; have n15 : w.heap.size + 1 ≠ w5.heap.size := Nat.ne_of_lt hl5; have n25 : w.heap.size + 1 + 1 ≠ w5.heap.size := Nat.ne_of_lt hl5'; have n05 : w.heap.size ≠ w5.heap.size := Nat.ne_of_lt hl5''; have hvl : (∀ k, Value.ownBlock v = some k → k < w5.heap.size) := (fun k hk => Nat.lt_of_lt_of_le (HOr.lt k hk) hg_5.1.size); have nad : ¬ ad.block = w5.heap.size := Nat.ne_of_lt hadl; have nad1 : some ad.block ≠ some (w.heap.size + 1) := (fun e => Nat.ne_of_gt (Nat.lt_of_lt_of_le Rr.lt hadg) (by injection e))) | (go_at_call 56; (with_reducible refine (hT1 _ R6 B6).mono ?_); rintro e w7 ⟨rfl, ⟨p7, hp7, hd7, R7⟩, hg_7⟩; have C7 := C6.gb hg_7 n15; have Y7 := Y6.gb hg_7 ne12; have Z7 := Z6.gb hg_7 ne10; have B7 := B6.trans (hg_7.2 _ hg1 B6.size); have HOc7 := Ow.gb HOc6 R6 (by decide) hg_7; have hc7 := (hg_7.1.cell_far ad (Nat.lt_of_lt_of_le hadl b6.size) nad1).trans hc6; have hc8 := (((Gb.refl w5.heap.size w7 w7).set_ 0 (.string key)).1.cell_far ad (Nat.lt_of_lt_of_le (Nat.lt_of_lt_of_le hadl b6.size) hg_7.1.size) (fun e => nad (by injection e))).trans hc7; obtain ⟨c70, c71, c72, c73, c74, c75⟩ := C7.read; obtain ⟨r70, r71, r72, r73, r74, r75⟩ := R7.read; obtain ⟨y70, y71, y72, y73⟩ := Y7.read; have HOg_0 := OwC.farSet (j := 0) HOc7 hvl (.string key); have Cg_0 := blk_set C7 0 (.string key); have Rg_0 := R7.far (j := 0) n15 (.string key); have Yg_0 := Y7.away (j := 0) n25 (.string key); have Zg_0 := Z7.away (j := 0) n05 (.string key); have Bg_0 := B7.setCell (p := ⟨w5.heap.size, 0, none⟩) (Nat.le_of_lt hl5'') (.string key); have HOg_1 := OwC.farSet (j := 1) HOg_0 hvl (.bool false); have Cg_1 := blk_set Cg_0 1 (.bool false); have Rg_1 := Rg_0.far (j := 1) n15 (.bool false); have Yg_1 := Yg_0.away (j := 1) n25 (.bool false); have Zg_1 := Zg_0.away (j := 1) n05 (.bool false); have Bg_1 := Bg_0.setCell (p := ⟨w5.heap.size, 1, none⟩) (Nat.le_of_lt hl5'') (.bool false)) | (go_at_call 56; (with_reducible refine (hT2 _ _ hp7 hd7 Rg_1 Bg_1).mono ?_); rintro e w9 ⟨rfl, ⟨p9, hp9, hd9, R9⟩, hg_9⟩; have C9 := Cz.gb (x := .string key) (y := .bool false) (z := .string ⟨#[]⟩) Cg_1 hg_9 n15; have Y9 := Yg_1.gb hg_9 ne12; have Z9 := Zg_1.gb hg_9 ne10; have B9 := Bg_1.trans (hg_9.2 _ hg1 Bg_1.size); have HOc9 := Ow.gb HOg_1 Rg_1 (by decide) hg_9; obtain ⟨c90, c91, c92, c93, c94, c95⟩ := C9.read; obtain ⟨y90, y91, y92, y93⟩ := Y9.read; have HOh_0 := OwC.farSet (j := 2) HOc9 hvl (.string val); have Ch_0 := blk_set C9 2 (.string val); have Rh_0 := R9.far (j := 2) n15 (.string val); have Yh_0 := Y9.away (j := 2) n25 (.string val); have Zh_0 := Z9.away (j := 2) n05 (.string val); have Bh_0 := B9.setCell (p := ⟨w5.heap.size, 2, none⟩) (Nat.le_of_lt hl5'') (.string val)) | (at_builtin; refine app_chg (w0 := w) (W := (w9).setCell ⟨w5.heap.size, 2, none⟩ (.string val)) w.heap.size rfl (.tmp 95) (.tmp 97) rfl v cs (key, false, val) (by rfl) (by show _ = Value.slice (some ⟨((w9).setCell ⟨w5.heap.size, 2, none⟩ (.string val)).heap.size, 0, none⟩) 1 1; rw [World.size_setCell]; rfl) HOh_0 Bh_0 Bh_0.size H40.out ?_; intro v10 w10 HO10 HB10 hg10 hat10; obtain ⟨A10, c10, hv10, hr10⟩ := HO10.rd; rw [HCL2.out] at hv10; subst hv10; have R10 := Rh_0.row HOh_0 hg10; have Y10 := Yh_0.row HOh_0 hg10; have Z10 := Zh_0.row HOh_0 hg10; obtain ⟨y100, y101, y102, y103⟩ := Y10.read))
        go_roundw
        case rel => exact ⟨k + 1, p9, _, _, hlt, by go_num, hp9, by rw [hd9]; exact HRM.out, by rw [List.length_append, List.length_singleton, HCL.out], R10.far ne12 _, Z10.away ne02 _, Y10.set1 _, Ow.setCell HO10 Y10 (by decide) 1 _, HB10.setCell (p := ⟨w.heap.size + 1 + 1, 1, none⟩) hg2 _⟩
        case measure => simp [intOf]; omega
    · obtain rfl : k = N := by omega
      have hee := H3.out
      rw [hrm] at hee
      injection hee with hee
      injection hee with e1 e2
      have hpl := congrArg List.length e2
      rw [List.length_drop, HN0.out] at hpl
      have hpi : (p : Int) < (n : Int) := by omega
      obtain ⟨zz0, zz1, zz2, zz3⟩ := Zr.read
      clear hrm hcl e1 e2 hpl h4
      go_wp2
      have V := (Zr.set0 0).set1 (.slice none 0 0)
      obtain ⟨v0, v1, _, _⟩ := V.read
      refine bodyPost_ret (v := .tuple #[.agg #[.int .i64 0, .slice none 0 0], .int .i64 23]) ?_ rfl ⟨rfl, ?_⟩
      · simp [results, Try.results40, go_sem, v0, v1]
      · exact (Br.setCell (p := ⟨_, 0, none⟩) (Nat.le_refl _) _).setCell (p := ⟨_, 1, none⟩) (Nat.le_refl _) _

set_option maxRecDepth 100000 in
set_option maxHeartbeats 3200000 in
theorem rDecode_bad (A : Option Addr) (c n : Nat) (x : List UInt8) (w : World) (hn : x.length = n) (hx : RdB w A c x) (hn2 : n ≤ 140737488355328) (q N : Nat) (r1 r2 r3 : List UInt8) (cs0 : List Chg) (h1 : rdNum 1099511627776 4 x = .ok (q, r1)) (h2 : rdNum 1099511627776 4 r1 = .ok (N, r2)) (hN : N ≤ 64) (h3 : rdMany N r2 = .ok (cs0, r3)) (h4 : r3.length = 0) (z : Int) (hz : chkB (q : Int) cs0 = z) (hz0 : ¬ z = 0) :
    Calls Try.prog 40 #[.slice A n c] w fun e w' => e = .returned (.tuple #[.agg #[.int .i64 0, .slice none 0 0], .int .i64 z]) ∧ Below w.heap.size w w' := by
  obtain ⟨R0, Z0, Y0, B0⟩ := rW_at w A c n
  have hst := St.of hx
  have ne10 : w.heap.size + 1 ≠ w.heap.size := by omega
  have ne12 : w.heap.size + 1 ≠ w.heap.size + 1 + 1 := by omega
  have ne02 : w.heap.size ≠ w.heap.size + 1 + 1 := by omega
  have hg1 : w.heap.size ≤ w.heap.size + 1 := Nat.le_succ _
  have hg2 : w.heap.size ≤ w.heap.size + 1 + 1 := Nat.le_succ_of_le (Nat.le_succ _)
  have hN1 := fun W (h : Rs (w.heap.size + 1) A c n 0 0 W) (hb : Below w.heap.size w W) => rNum_ok w (w.heap.size + 1) A c n 0 x hst hn hn2 (Nat.zero_le _) 1099511627776 1099511627776 rfl (Nat.le_refl _) 4 W h hb q r1 (by rw [List.drop_zero]; exact h1)
  have hN2 := fun p W (hp : p ≤ n) (hd : x.drop p = r1) (h : Rs (w.heap.size + 1) A c n p 0 W) (hb : Below w.heap.size w W) => rNum_ok w (w.heap.size + 1) A c n p x hst hn hn2 hp 1099511627776 1099511627776 rfl (Nat.le_refl _) 4 W h hb N r2 (by rw [hd]; exact h2)
  have hni : ¬ 64 < (N : Int) := by omega
  have hni2 : (N : Int) ≤ 64 := by omega
  have H3 := hide h3
  have HN0 := hide hn
  clear h1 h2 h3 hx hn
  go_enter Try.func40, Try.ntmps40
  go_wp2_with (first | (go_at_call 54; (with_reducible refine (hN1 _ R0 B0).mono ?_); rintro e w2 ⟨rfl, ⟨p1, hp1, hd1, R2⟩, hg_2⟩; have Z2 := Z0.gb hg_2 ne10; have Y2 := Y0.gb hg_2 ne12; have B2 := B0.trans (hg_2.2 _ hg1 B0.size); obtain ⟨y20, y21, y22, y23⟩ := Y2.read; have Y3 := Y2.set0 (q : Int); have Z3 := Z2.away (j := 0) ne02 (.int .i64 (q : Int)); have R3 := R2.far (j := 0) ne12 (.int .i64 (q : Int)); have B3 := B2.setCell (p := ⟨w.heap.size + 1 + 1, 0, none⟩) hg2 (.int .i64 (q : Int))) | (go_at_call 54; (with_reducible refine (hN2 _ _ hp1 hd1 R3 B3).mono ?_); rintro e w4 ⟨rfl, ⟨p2, hp2, hd2, R4⟩, hg_4⟩; have Z4 := Z3.gb hg_4 ne10; have Y4 := Y3.gb hg_4 ne12; have B4 := B3.trans (hg_4.2 _ hg1 B3.size); obtain ⟨r40, r41, r42, r43, r44, r45⟩ := R4.read; obtain ⟨y40, y41, y42, y43⟩ := Y4.read))
  go_loopw [7] (fun i wr => ∃ (k p : Nat) (cs : List Chg) (v : Value), k ≤ N ∧ i = .int .i64 (k : Int) ∧ p ≤ n ∧ rdMany k r2 = .ok (cs, x.drop p) ∧ cs.length = k ∧ Rs (w.heap.size + 1) A c n p 0 wr ∧ Bx wr w.heap.size 0 (.slice none 0 0) 24 ∧ Bx wr (w.heap.size + 1 + 1) (q : Int) v 24 ∧ OwC wr w.heap.size v cs ∧ Below w.heap.size w wr) (fun i _ => N - (intOf i).toNat)
  case atStart => exact ⟨0, p2, [], .slice none 0 0, by omega, rfl, hp2, by rw [hd2]; rfl, rfl, R4, Z4, Y4, Ow.zero _ _ _ _, B4⟩
  case round =>
    obtain ⟨k, p, cs, v, hk, rfl, hp, hrm, hcl, Rr, Zr, Yr, HOr, Br⟩ := hrel
    obtain ⟨rr0, rr1, rr2, rr3, rr4, rr5⟩ := Rr.read
    by_cases hlt : k < N
    · have hlti : (k : Int) < (N : Int) := by omega
      obtain ⟨ds, t, hrm2⟩ := rdMany_pre N r2 cs0 r3 H3.out (k + 1) hlt
      obtain ⟨cc, hch, rfl⟩ := rdMany_step k r2 cs ds (x.drop p) t hrm hrm2
      obtain ⟨y, t0, key, t1, hxy, hk1, hcase⟩ := rdChange_okD _ _ _ hch
      obtain ⟨hpn, hpd⟩ := drop_at x n p HN0.out y t0 hxy
      have hTk := fun W (h : Rs (w.heap.size + 1) A c n p 0 W) (hb : Below w.heap.size w W) => rTake_ok w (w.heap.size + 1) A c n p 1 x hst HN0.out hn2 hp 1 rfl (by omega) W h hb hg1
      rw [hxy, List.take_succ_cons, List.take_zero] at hTk
      have hT1 := fun W (h : Rs (w.heap.size + 1) A c n (p + 1) 0 W) (hb : Below w.heap.size w W) => rText_ok w (w.heap.size + 1) A c n (p + 1) x hst HN0.out hn2 hpn W h hb hg1 key t1 (by rw [hpd]; exact hk1)
      have h40 : (cs.length + 1) * 40 ≤ 140737488355328 := by omega
      have H40 := hide h40
      have HRM := hide hrm2
      have HCL := hide hcl
      have hcl2 : ∀ c' : Chg, (cs ++ [c']).length = k + 1 := fun c' => by rw [List.length_append, List.length_singleton, hcl]
      have HCL2 := hide hcl2
      rcases hcase with ⟨rfl, rfl, rfl⟩ | ⟨rfl, val, hv1, rfl⟩
      · clear hrm hrm2 hch hcl hcl2 h40 hk1 hpd hxy
        go_wp2_with (first | (go_at_call 55; (with_reducible refine (hTk _ Rr Br).mono ?_); rintro e w5 ⟨⟨v5, rfl, HO5⟩, R5, hg_5⟩; obtain ⟨A5, c5, hv5, hr5⟩ := HO5.rd; rw [List.length_singleton] at hv5; subst hv5; obtain ⟨ad, rfl, hc5⟩ := rdB_head hr5; have hadg : wr.heap.size ≤ ad.block := HO5.ge _ rfl; have hadl := World.block_lt_of_cell? w5 _ hc5; have Z5 := Zr.gb hg_5 ne10; have Y5 := Yr.gb hg_5 ne12; have B5 := Br.trans (hg_5.2 _ hg1 Br.size); have HOc5 := Ow.gb HOr Rr (by decide) hg_5; obtain ⟨r50, r51, r52, r53, r54, r55⟩ := R5.read; have b6 := below_alloc w5 (.cells #[.string ⟨#[]⟩, .bool false, .string ⟨#[]⟩] 35); have C6 : Cz (w5.alloc (.cells #[.string ⟨#[]⟩, .bool false, .string ⟨#[]⟩] 35)) w5.heap.size (.string ⟨#[]⟩) (.bool false) (.string ⟨#[]⟩) := heap_alloc_new w5 _; have R6 := R5.below b6; have Y6 := Y5.below b6; have Z6 := Z5.below b6; have B6 := B5.trans (b6.mono B5.size); have HOc6 := HOc5.below b6; have hc6 := (b6.cell hadl).trans hc5; have hl5 := R5.lt; have hl5' := Y5.lt; have hl5'' := Z5.lt; have n15 : w.heap.size + 1 ≠ w5.heap.size := Nat.ne_of_lt hl5; have n25 : w.heap.size + 1 + 1 ≠ w5.heap.size := Nat.ne_of_lt hl5'; have n05 : w.heap.size ≠ w5.heap.size := Nat.ne_of_lt hl5''; have hvl : (∀ k, Value.ownBlock v = some k → k < w5.heap.size) := (fun k hk => Nat.lt_of_lt_of_le (HOr.lt k hk) hg_5.1.size); have nad : ¬ ad.block = w5.heap.size := Nat.ne_of_lt hadl; have nad1 : some ad.block ≠ some (w.heap.size + 1) := (fun e => Nat.ne_of_gt (Nat.lt_of_lt_of_le Rr.lt hadg) (by injection e))) | (go_at_call 56; (with_reducible refine (hT1 _ R6 B6).mono ?_); rintro e w7 ⟨rfl, ⟨p7, hp7, hd7, R7⟩, hg_7⟩; have C7 := C6.gb hg_7 n15; have Y7 := Y6.gb hg_7 ne12; have Z7 := Z6.gb hg_7 ne10; have B7 := B6.trans (hg_7.2 _ hg1 B6.size); have HOc7 := Ow.gb HOc6 R6 (by decide) hg_7; have hc7 := (hg_7.1.cell_far ad (Nat.lt_of_lt_of_le hadl b6.size) nad1).trans hc6; have hc8 := (((Gb.refl w5.heap.size w7 w7).set_ 0 (.string key)).1.cell_far ad (Nat.lt_of_lt_of_le (Nat.lt_of_lt_of_le hadl b6.size) hg_7.1.size) (fun e => nad (by injection e))).trans hc7; obtain ⟨c70, c71, c72, c73, c74, c75⟩ := C7.read; obtain ⟨r70, r71, r72, r73, r74, r75⟩ := R7.read; obtain ⟨y70, y71, y72, y73⟩ := Y7.read; have HOg_0 := OwC.farSet (j := 0) HOc7 hvl (.string key); have Cg_0 := blk_set C7 0 (.string key); have Rg_0 := R7.far (j := 0) n15 (.string key); have Yg_0 := Y7.away (j := 0) n25 (.string key); have Zg_0 := Z7.away (j := 0) n05 (.string key); have Bg_0 := B7.setCell (p := ⟨w5.heap.size, 0, none⟩) (Nat.le_of_lt hl5'') (.string key); have HOg_1 := OwC.farSet (j := 1) HOg_0 hvl (.bool true); have Cg_1 := blk_set Cg_0 1 (.bool true); have Rg_1 := Rg_0.far (j := 1) n15 (.bool true); have Yg_1 := Yg_0.away (j := 1) n25 (.bool true); have Zg_1 := Zg_0.away (j := 1) n05 (.bool true); have Bg_1 := Bg_0.setCell (p := ⟨w5.heap.size, 1, none⟩) (Nat.le_of_lt hl5'') (.bool true)) | (at_builtin; refine app_chg (w0 := w) (W := ((w7).setCell ⟨w5.heap.size, 0, none⟩ (.string key)).setCell ⟨w5.heap.size, 1, none⟩ (.bool true)) w.heap.size rfl (.tmp 95) (.tmp 97) rfl v cs (key, true, ByteArray.empty) (by rfl) (by show _ = Value.slice (some ⟨(((w7).setCell ⟨w5.heap.size, 0, none⟩ (.string key)).setCell ⟨w5.heap.size, 1, none⟩ (.bool true)).heap.size, 0, none⟩) 1 1; rw [World.size_setCell, World.size_setCell]; rfl) HOg_1 Bg_1 Bg_1.size H40.out ?_; intro v10 w10 HO10 HB10 hg10 hat10; obtain ⟨A10, c10, hv10, hr10⟩ := HO10.rd; rw [HCL2.out] at hv10; subst hv10; have R10 := Rg_1.row HOg_1 hg10; have Y10 := Yg_1.row HOg_1 hg10; have Z10 := Zg_1.row HOg_1 hg10; obtain ⟨y100, y101, y102, y103⟩ := Y10.read))
        go_roundw
        case rel => exact ⟨k + 1, p7, _, _, hlt, by go_num, hp7, by rw [hd7]; exact HRM.out, by rw [List.length_append, List.length_singleton, HCL.out], R10.far ne12 _, Z10.away ne02 _, Y10.set1 _, Ow.setCell HO10 Y10 (by decide) 1 _, HB10.setCell (p := ⟨w.heap.size + 1 + 1, 1, none⟩) hg2 _⟩
        case measure => simp [intOf]; omega
      · have hT2 := fun p7 W (hp7 : p7 ≤ n) (hd7 : x.drop p7 = t1) (h : Rs (w.heap.size + 1) A c n p7 0 W) (hb : Below w.heap.size w W) => rText_ok w (w.heap.size + 1) A c n p7 x hst HN0.out hn2 hp7 W h hb hg1 val t (by rw [hd7]; exact hv1)
        clear hrm hrm2 hch hcl hcl2 h40 hk1 hpd hxy hv1
        go_wp2_with (first | (go_at_call 55; (with_reducible refine (hTk _ Rr Br).mono ?_); rintro e w5 ⟨⟨v5, rfl, HO5⟩, R5, hg_5⟩; obtain ⟨A5, c5, hv5, hr5⟩ := HO5.rd; rw [List.length_singleton] at hv5; subst hv5; obtain ⟨ad, rfl, hc5⟩ := rdB_head hr5; have hadg : wr.heap.size ≤ ad.block := HO5.ge _ rfl; have hadl := World.block_lt_of_cell? w5 _ hc5; have Z5 := Zr.gb hg_5 ne10; have Y5 := Yr.gb hg_5 ne12; have B5 := Br.trans (hg_5.2 _ hg1 Br.size); have HOc5 := Ow.gb HOr Rr (by decide) hg_5; obtain ⟨r50, r51, r52, r53, r54, r55⟩ := R5.read; have b6 := below_alloc w5 (.cells #[.string ⟨#[]⟩, .bool false, .string ⟨#[]⟩] 35); have C6 : Cz (w5.alloc (.cells #[.string ⟨#[]⟩, .bool false, .string ⟨#[]⟩] 35)) w5.heap.size (.string ⟨#[]⟩) (.bool false) (.string ⟨#[]⟩) := heap_alloc_new w5 _; have R6 := R5.below b6; have Y6 := Y5.below b6; have Z6 := Z5.below b6; have B6 := B5.trans (b6.mono B5.size); have HOc6 := HOc5.below b6; have hc6 := (b6.cell hadl).trans hc5; have hl5 := R5.lt; have hl5' := Y5.lt; have hl5'' := Z5.lt; have n15 : w.heap.size + 1 ≠ w5.heap.size := Nat.ne_of_lt hl5; have n25 : w.heap.size + 1 + 1 ≠ w5.heap.size := Nat.ne_of_lt hl5'; have n05 : w.heap.size ≠ w5.heap.size := Nat.ne_of_lt hl5''; have hvl : (∀ k, Value.ownBlock v = some k → k < w5.heap.size) := (fun k hk => Nat.lt_of_lt_of_le (HOr.lt k hk) hg_5.1.size); have nad : ¬ ad.block = w5.heap.size := Nat.ne_of_lt hadl; have nad1 : some ad.block ≠ some (w.heap.size + 1) := (fun e => Nat.ne_of_gt (Nat.lt_of_lt_of_le Rr.lt hadg) (by injection e))) | (go_at_call 56; (with_reducible refine (hT1 _ R6 B6).mono ?_); rintro e w7 ⟨rfl, ⟨p7, hp7, hd7, R7⟩, hg_7⟩; have C7 := C6.gb hg_7 n15; have Y7 := Y6.gb hg_7 ne12; have Z7 := Z6.gb hg_7 ne10; have B7 := B6.trans (hg_7.2 _ hg1 B6.size); have HOc7 := Ow.gb HOc6 R6 (by decide) hg_7; have hc7 := (hg_7.1.cell_far ad (Nat.lt_of_lt_of_le hadl b6.size) nad1).trans hc6; have hc8 := (((Gb.refl w5.heap.size w7 w7).set_ 0 (.string key)).1.cell_far ad (Nat.lt_of_lt_of_le (Nat.lt_of_lt_of_le hadl b6.size) hg_7.1.size) (fun e => nad (by injection e))).trans hc7; obtain ⟨c70, c71, c72, c73, c74, c75⟩ := C7.read; obtain ⟨r70, r71, r72, r73, r74, r75⟩ := R7.read; obtain ⟨y70, y71, y72, y73⟩ := Y7.read; have HOg_0 := OwC.farSet (j := 0) HOc7 hvl (.string key); have Cg_0 := blk_set C7 0 (.string key); have Rg_0 := R7.far (j := 0) n15 (.string key); have Yg_0 := Y7.away (j := 0) n25 (.string key); have Zg_0 := Z7.away (j := 0) n05 (.string key); have Bg_0 := B7.setCell (p := ⟨w5.heap.size, 0, none⟩) (Nat.le_of_lt hl5'') (.string key); have HOg_1 := OwC.farSet (j := 1) HOg_0 hvl (.bool false); have Cg_1 := blk_set Cg_0 1 (.bool false); have Rg_1 := Rg_0.far (j := 1) n15 (.bool false); have Yg_1 := Yg_0.away (j := 1) n25 (.bool false); have Zg_1 := Zg_0.away (j := 1) n05 (.bool false); have Bg_1 := Bg_0.setCell (p := ⟨w5.heap.size, 1, none⟩) (Nat.le_of_lt hl5'') (.bool false)) | (go_at_call 56; (with_reducible refine (hT2 _ _ hp7 hd7 Rg_1 Bg_1).mono ?_); rintro e w9 ⟨rfl, ⟨p9, hp9, hd9, R9⟩, hg_9⟩; have C9 := Cz.gb (x := .string key) (y := .bool false) (z := .string ⟨#[]⟩) Cg_1 hg_9 n15; have Y9 := Yg_1.gb hg_9 ne12; have Z9 := Zg_1.gb hg_9 ne10; have B9 := Bg_1.trans (hg_9.2 _ hg1 Bg_1.size); have HOc9 := Ow.gb HOg_1 Rg_1 (by decide) hg_9; obtain ⟨c90, c91, c92, c93, c94, c95⟩ := C9.read; obtain ⟨y90, y91, y92, y93⟩ := Y9.read; have HOh_0 := OwC.farSet (j := 2) HOc9 hvl (.string val); have Ch_0 := blk_set C9 2 (.string val); have Rh_0 := R9.far (j := 2) n15 (.string val); have Yh_0 := Y9.away (j := 2) n25 (.string val); have Zh_0 := Z9.away (j := 2) n05 (.string val); have Bh_0 := B9.setCell (p := ⟨w5.heap.size, 2, none⟩) (Nat.le_of_lt hl5'') (.string val)) | (at_builtin; refine app_chg (w0 := w) (W := (w9).setCell ⟨w5.heap.size, 2, none⟩ (.string val)) w.heap.size rfl (.tmp 95) (.tmp 97) rfl v cs (key, false, val) (by rfl) (by show _ = Value.slice (some ⟨((w9).setCell ⟨w5.heap.size, 2, none⟩ (.string val)).heap.size, 0, none⟩) 1 1; rw [World.size_setCell]; rfl) HOh_0 Bh_0 Bh_0.size H40.out ?_; intro v10 w10 HO10 HB10 hg10 hat10; obtain ⟨A10, c10, hv10, hr10⟩ := HO10.rd; rw [HCL2.out] at hv10; subst hv10; have R10 := Rh_0.row HOh_0 hg10; have Y10 := Yh_0.row HOh_0 hg10; have Z10 := Zh_0.row HOh_0 hg10; obtain ⟨y100, y101, y102, y103⟩ := Y10.read))
        go_roundw
        case rel => exact ⟨k + 1, p9, _, _, hlt, by go_num, hp9, by rw [hd9]; exact HRM.out, by rw [List.length_append, List.length_singleton, HCL.out], R10.far ne12 _, Z10.away ne02 _, Y10.set1 _, Ow.setCell HO10 Y10 (by decide) 1 _, HB10.setCell (p := ⟨w.heap.size + 1 + 1, 1, none⟩) hg2 _⟩
        case measure => simp [intOf]; omega
    · obtain rfl : k = N := by omega
      have hee := H3.out
      rw [hrm] at hee
      injection hee with hee
      injection hee with e1 e2
      have hpl := congrArg List.length e2
      rw [List.length_drop, HN0.out] at hpl
      have hpi : ¬ (p : Int) < (n : Int) := by omega
      subst e1
      obtain ⟨A5, c5, hv5, hr5⟩ := HOr.rd
      subst hv5
      obtain ⟨yr0, yr1, yr2, yr3⟩ := Yr.read
      have hCk := fun W (h : RdC W A5 c5 cs) => rCheck_any (q : Int) A5 c5 cs.length cs W rfl h (by omega)
      rw [hz] at hCk
      clear hrm hcl e2 hpl h4
      go_wp2_with (first | (go_at_call 13; (with_reducible refine (hCk _ hr5).mono ?_); rintro e w9 ⟨rfl, HB9⟩; have Z9 := Zr.below HB9; have Y9 := Yr.below HB9; have HO9 := HOr.below HB9; have B9 := Br.trans (HB9.mono Br.size); obtain ⟨y90, y91, y92, y93⟩ := Y9.read; obtain ⟨z90, z91, z92, z93⟩ := Z9.read))
      have V := (Z9.set0 0).set1 (.slice none 0 0)
      obtain ⟨v0, v1, _, _⟩ := V.read
      refine bodyPost_ret (v := .tuple #[.agg #[.int .i64 0, .slice none 0 0], .int .i64 z]) ?_ rfl ⟨rfl, ?_⟩
      · simp [results, Try.results40, go_sem, v0, v1]
      · exact (B9.setCell (p := ⟨_, 0, none⟩) (Nat.le_refl _) _).setCell (p := ⟨_, 1, none⟩) (Nat.le_refl _) _

set_option maxRecDepth 100000 in
set_option maxHeartbeats 3200000 in
theorem rDecode_good (A : Option Addr) (c n : Nat) (x : List UInt8) (w : World) (hn : x.length = n) (hx : RdB w A c x) (hn2 : n ≤ 140737488355328) (q N : Nat) (r1 r2 r3 : List UInt8) (cs0 : List Chg) (h1 : rdNum 1099511627776 4 x = .ok (q, r1)) (h2 : rdNum 1099511627776 4 r1 = .ok (N, r2)) (hN : N ≤ 64) (h3 : rdMany N r2 = .ok (cs0, r3)) (h4 : r3.length = 0) (hz : chkB (q : Int) cs0 = 0) :
    Calls Try.prog 40 #[.slice A n c] w fun e w' => (∃ A' c', e = .returned (.tuple #[.agg #[.int .i64 (q : Int), .slice A' cs0.length c'], .int .i64 0]) ∧ OwC w' w.heap.size (.slice A' cs0.length c') cs0) ∧ Below w.heap.size w w' := by
  obtain ⟨R0, Z0, Y0, B0⟩ := rW_at w A c n
  have hst := St.of hx
  have ne10 : w.heap.size + 1 ≠ w.heap.size := by omega
  have ne12 : w.heap.size + 1 ≠ w.heap.size + 1 + 1 := by omega
  have ne02 : w.heap.size ≠ w.heap.size + 1 + 1 := by omega
  have hg1 : w.heap.size ≤ w.heap.size + 1 := Nat.le_succ _
  have hg2 : w.heap.size ≤ w.heap.size + 1 + 1 := Nat.le_succ_of_le (Nat.le_succ _)
  have hN1 := fun W (h : Rs (w.heap.size + 1) A c n 0 0 W) (hb : Below w.heap.size w W) => rNum_ok w (w.heap.size + 1) A c n 0 x hst hn hn2 (Nat.zero_le _) 1099511627776 1099511627776 rfl (Nat.le_refl _) 4 W h hb q r1 (by rw [List.drop_zero]; exact h1)
  have hN2 := fun p W (hp : p ≤ n) (hd : x.drop p = r1) (h : Rs (w.heap.size + 1) A c n p 0 W) (hb : Below w.heap.size w W) => rNum_ok w (w.heap.size + 1) A c n p x hst hn hn2 hp 1099511627776 1099511627776 rfl (Nat.le_refl _) 4 W h hb N r2 (by rw [hd]; exact h2)
  have hni : ¬ 64 < (N : Int) := by omega
  have hni2 : (N : Int) ≤ 64 := by omega
  have H3 := hide h3
  have HN0 := hide hn
  clear h1 h2 h3 hx hn
  go_enter Try.func40, Try.ntmps40
  go_wp2_with (first | (go_at_call 54; (with_reducible refine (hN1 _ R0 B0).mono ?_); rintro e w2 ⟨rfl, ⟨p1, hp1, hd1, R2⟩, hg_2⟩; have Z2 := Z0.gb hg_2 ne10; have Y2 := Y0.gb hg_2 ne12; have B2 := B0.trans (hg_2.2 _ hg1 B0.size); obtain ⟨y20, y21, y22, y23⟩ := Y2.read; have Y3 := Y2.set0 (q : Int); have Z3 := Z2.away (j := 0) ne02 (.int .i64 (q : Int)); have R3 := R2.far (j := 0) ne12 (.int .i64 (q : Int)); have B3 := B2.setCell (p := ⟨w.heap.size + 1 + 1, 0, none⟩) hg2 (.int .i64 (q : Int))) | (go_at_call 54; (with_reducible refine (hN2 _ _ hp1 hd1 R3 B3).mono ?_); rintro e w4 ⟨rfl, ⟨p2, hp2, hd2, R4⟩, hg_4⟩; have Z4 := Z3.gb hg_4 ne10; have Y4 := Y3.gb hg_4 ne12; have B4 := B3.trans (hg_4.2 _ hg1 B3.size); obtain ⟨r40, r41, r42, r43, r44, r45⟩ := R4.read; obtain ⟨y40, y41, y42, y43⟩ := Y4.read))
  go_loopw [7] (fun i wr => ∃ (k p : Nat) (cs : List Chg) (v : Value), k ≤ N ∧ i = .int .i64 (k : Int) ∧ p ≤ n ∧ rdMany k r2 = .ok (cs, x.drop p) ∧ cs.length = k ∧ Rs (w.heap.size + 1) A c n p 0 wr ∧ Bx wr w.heap.size 0 (.slice none 0 0) 24 ∧ Bx wr (w.heap.size + 1 + 1) (q : Int) v 24 ∧ OwC wr w.heap.size v cs ∧ Below w.heap.size w wr) (fun i _ => N - (intOf i).toNat)
  case atStart => exact ⟨0, p2, [], .slice none 0 0, by omega, rfl, hp2, by rw [hd2]; rfl, rfl, R4, Z4, Y4, Ow.zero _ _ _ _, B4⟩
  case round =>
    obtain ⟨k, p, cs, v, hk, rfl, hp, hrm, hcl, Rr, Zr, Yr, HOr, Br⟩ := hrel
    obtain ⟨rr0, rr1, rr2, rr3, rr4, rr5⟩ := Rr.read
    by_cases hlt : k < N
    · have hlti : (k : Int) < (N : Int) := by omega
      obtain ⟨ds, t, hrm2⟩ := rdMany_pre N r2 cs0 r3 H3.out (k + 1) hlt
      obtain ⟨cc, hch, rfl⟩ := rdMany_step k r2 cs ds (x.drop p) t hrm hrm2
      obtain ⟨y, t0, key, t1, hxy, hk1, hcase⟩ := rdChange_okD _ _ _ hch
      obtain ⟨hpn, hpd⟩ := drop_at x n p HN0.out y t0 hxy
      have hTk := fun W (h : Rs (w.heap.size + 1) A c n p 0 W) (hb : Below w.heap.size w W) => rTake_ok w (w.heap.size + 1) A c n p 1 x hst HN0.out hn2 hp 1 rfl (by omega) W h hb hg1
      rw [hxy, List.take_succ_cons, List.take_zero] at hTk
      have hT1 := fun W (h : Rs (w.heap.size + 1) A c n (p + 1) 0 W) (hb : Below w.heap.size w W) => rText_ok w (w.heap.size + 1) A c n (p + 1) x hst HN0.out hn2 hpn W h hb hg1 key t1 (by rw [hpd]; exact hk1)
      have h40 : (cs.length + 1) * 40 ≤ 140737488355328 := by omega
      have H40 := hide h40
      have HRM := hide hrm2
      have HCL := hide hcl
      have hcl2 : ∀ c' : Chg, (cs ++ [c']).length = k + 1 := fun c' => by rw [List.length_append, List.length_singleton, hcl]
      have HCL2 := hide hcl2
      rcases hcase with ⟨rfl, rfl, rfl⟩ | ⟨rfl, val, hv1, rfl⟩
      · clear hrm hrm2 hch hcl hcl2 h40 hk1 hpd hxy
        go_wp2_with (first | (go_at_call 55; (with_reducible refine (hTk _ Rr Br).mono ?_); rintro e w5 ⟨⟨v5, rfl, HO5⟩, R5, hg_5⟩; obtain ⟨A5, c5, hv5, hr5⟩ := HO5.rd; rw [List.length_singleton] at hv5; subst hv5; obtain ⟨ad, rfl, hc5⟩ := rdB_head hr5; have hadg : wr.heap.size ≤ ad.block := HO5.ge _ rfl; have hadl := World.block_lt_of_cell? w5 _ hc5; have Z5 := Zr.gb hg_5 ne10; have Y5 := Yr.gb hg_5 ne12; have B5 := Br.trans (hg_5.2 _ hg1 Br.size); have HOc5 := Ow.gb HOr Rr (by decide) hg_5; obtain ⟨r50, r51, r52, r53, r54, r55⟩ := R5.read; have b6 := below_alloc w5 (.cells #[.string ⟨#[]⟩, .bool false, .string ⟨#[]⟩] 35); have C6 : Cz (w5.alloc (.cells #[.string ⟨#[]⟩, .bool false, .string ⟨#[]⟩] 35)) w5.heap.size (.string ⟨#[]⟩) (.bool false) (.string ⟨#[]⟩) := heap_alloc_new w5 _; have R6 := R5.below b6; have Y6 := Y5.below b6; have Z6 := Z5.below b6; have B6 := B5.trans (b6.mono B5.size); have HOc6 := HOc5.below b6; have hc6 := (b6.cell hadl).trans hc5; have hl5 := R5.lt; have hl5' := Y5.lt; have hl5'' := Z5.lt; have n15 : w.heap.size + 1 ≠ w5.heap.size := Nat.ne_of_lt hl5; have n25 : w.heap.size + 1 + 1 ≠ w5.heap.size := Nat.ne_of_lt hl5'; have n05 : w.heap.size ≠ w5.heap.size := Nat.ne_of_lt hl5''; have hvl : (∀ k, Value.ownBlock v = some k → k < w5.heap.size) := (fun k hk => Nat.lt_of_lt_of_le (HOr.lt k hk) hg_5.1.size); have nad : ¬ ad.block = w5.heap.size := Nat.ne_of_lt hadl; have nad1 : some ad.block ≠ some (w.heap.size + 1) := (fun e => Nat.ne_of_gt (Nat.lt_of_lt_of_le Rr.lt hadg) (by injection e))) | (go_at_call 56; (with_reducible refine (hT1 _ R6 B6).mono ?_); rintro e w7 ⟨rfl, ⟨p7, hp7, hd7, R7⟩, hg_7⟩; have C7 := C6.gb hg_7 n15; have Y7 := Y6.gb hg_7 ne12; have Z7 := Z6.gb hg_7 ne10; have B7 := B6.trans (hg_7.2 _ hg1 B6.size); have HOc7 := Ow.gb HOc6 R6 (by decide) hg_7; have hc7 := (hg_7.1.cell_far ad (Nat.lt_of_lt_of_le hadl b6.size) nad1).trans hc6; have hc8 := (((Gb.refl w5.heap.size w7 w7).set_ 0 (.string key)).1.cell_far ad (Nat.lt_of_lt_of_le (Nat.lt_of_lt_of_le hadl b6.size) hg_7.1.size) (fun e => nad (by injection e))).trans hc7; obtain ⟨c70, c71, c72, c73, c74, c75⟩ := C7.read; obtain ⟨r70, r71, r72, r73, r74, r75⟩ := R7.read; obtain ⟨y70, y71, y72, y73⟩ := Y7.read; have HOg_0 := OwC.farSet (j := 0) HOc7 hvl (.string key); have Cg_0 := blk_set C7 0 (.string key); have Rg_0 := R7.far (j := 0) n15 (.string key); have Yg_0 := Y7.away (j := 0) n25 (.string key); have Zg_0 := Z7.away (j := 0) n05 (.string key); have Bg_0 := B7.setCell (p := ⟨w5.heap.size, 0, none⟩) (Nat.le_of_lt hl5'') (.string key); have HOg_1 := OwC.farSet (j := 1) HOg_0 hvl (.bool true); have Cg_1 := blk_set Cg_0 1 (.bool true); have Rg_1 := Rg_0.far (j := 1) n15 (.bool true); have Yg_1 := Yg_0.away (j := 1) n25 (.bool true); have Zg_1 := Zg_0.away (j := 1) n05 (.bool true); have Bg_1 := Bg_0.setCell (p := ⟨w5.heap.size, 1, none⟩) (Nat.le_of_lt hl5'') (.bool true)) | (at_builtin; refine app_chg (w0 := w) (W := ((w7).setCell ⟨w5.heap.size, 0, none⟩ (.string key)).setCell ⟨w5.heap.size, 1, none⟩ (.bool true)) w.heap.size rfl (.tmp 95) (.tmp 97) rfl v cs (key, true, ByteArray.empty) (by rfl) (by show _ = Value.slice (some ⟨(((w7).setCell ⟨w5.heap.size, 0, none⟩ (.string key)).setCell ⟨w5.heap.size, 1, none⟩ (.bool true)).heap.size, 0, none⟩) 1 1; rw [World.size_setCell, World.size_setCell]; rfl) HOg_1 Bg_1 Bg_1.size H40.out ?_; intro v10 w10 HO10 HB10 hg10 hat10; obtain ⟨A10, c10, hv10, hr10⟩ := HO10.rd; rw [HCL2.out] at hv10; subst hv10; have R10 := Rg_1.row HOg_1 hg10; have Y10 := Yg_1.row HOg_1 hg10; have Z10 := Zg_1.row HOg_1 hg10; obtain ⟨y100, y101, y102, y103⟩ := Y10.read))
        go_roundw
        case rel => exact ⟨k + 1, p7, _, _, hlt, by go_num, hp7, by rw [hd7]; exact HRM.out, by rw [List.length_append, List.length_singleton, HCL.out], R10.far ne12 _, Z10.away ne02 _, Y10.set1 _, Ow.setCell HO10 Y10 (by decide) 1 _, HB10.setCell (p := ⟨w.heap.size + 1 + 1, 1, none⟩) hg2 _⟩
        case measure => simp [intOf]; omega
      · have hT2 := fun p7 W (hp7 : p7 ≤ n) (hd7 : x.drop p7 = t1) (h : Rs (w.heap.size + 1) A c n p7 0 W) (hb : Below w.heap.size w W) => rText_ok w (w.heap.size + 1) A c n p7 x hst HN0.out hn2 hp7 W h hb hg1 val t (by rw [hd7]; exact hv1)
        clear hrm hrm2 hch hcl hcl2 h40 hk1 hpd hxy hv1
        go_wp2_with (first | (go_at_call 55; (with_reducible refine (hTk _ Rr Br).mono ?_); rintro e w5 ⟨⟨v5, rfl, HO5⟩, R5, hg_5⟩; obtain ⟨A5, c5, hv5, hr5⟩ := HO5.rd; rw [List.length_singleton] at hv5; subst hv5; obtain ⟨ad, rfl, hc5⟩ := rdB_head hr5; have hadg : wr.heap.size ≤ ad.block := HO5.ge _ rfl; have hadl := World.block_lt_of_cell? w5 _ hc5; have Z5 := Zr.gb hg_5 ne10; have Y5 := Yr.gb hg_5 ne12; have B5 := Br.trans (hg_5.2 _ hg1 Br.size); have HOc5 := Ow.gb HOr Rr (by decide) hg_5; obtain ⟨r50, r51, r52, r53, r54, r55⟩ := R5.read; have b6 := below_alloc w5 (.cells #[.string ⟨#[]⟩, .bool false, .string ⟨#[]⟩] 35); have C6 : Cz (w5.alloc (.cells #[.string ⟨#[]⟩, .bool false, .string ⟨#[]⟩] 35)) w5.heap.size (.string ⟨#[]⟩) (.bool false) (.string ⟨#[]⟩) := heap_alloc_new w5 _; have R6 := R5.below b6; have Y6 := Y5.below b6; have Z6 := Z5.below b6; have B6 := B5.trans (b6.mono B5.size); have HOc6 := HOc5.below b6; have hc6 := (b6.cell hadl).trans hc5; have hl5 := R5.lt; have hl5' := Y5.lt; have hl5'' := Z5.lt; have n15 : w.heap.size + 1 ≠ w5.heap.size := Nat.ne_of_lt hl5; have n25 : w.heap.size + 1 + 1 ≠ w5.heap.size := Nat.ne_of_lt hl5'; have n05 : w.heap.size ≠ w5.heap.size := Nat.ne_of_lt hl5''; have hvl : (∀ k, Value.ownBlock v = some k → k < w5.heap.size) := (fun k hk => Nat.lt_of_lt_of_le (HOr.lt k hk) hg_5.1.size); have nad : ¬ ad.block = w5.heap.size := Nat.ne_of_lt hadl; have nad1 : some ad.block ≠ some (w.heap.size + 1) := (fun e => Nat.ne_of_gt (Nat.lt_of_lt_of_le Rr.lt hadg) (by injection e))) | (go_at_call 56; (with_reducible refine (hT1 _ R6 B6).mono ?_); rintro e w7 ⟨rfl, ⟨p7, hp7, hd7, R7⟩, hg_7⟩; have C7 := C6.gb hg_7 n15; have Y7 := Y6.gb hg_7 ne12; have Z7 := Z6.gb hg_7 ne10; have B7 := B6.trans (hg_7.2 _ hg1 B6.size); have HOc7 := Ow.gb HOc6 R6 (by decide) hg_7; have hc7 := (hg_7.1.cell_far ad (Nat.lt_of_lt_of_le hadl b6.size) nad1).trans hc6; have hc8 := (((Gb.refl w5.heap.size w7 w7).set_ 0 (.string key)).1.cell_far ad (Nat.lt_of_lt_of_le (Nat.lt_of_lt_of_le hadl b6.size) hg_7.1.size) (fun e => nad (by injection e))).trans hc7; obtain ⟨c70, c71, c72, c73, c74, c75⟩ := C7.read; obtain ⟨r70, r71, r72, r73, r74, r75⟩ := R7.read; obtain ⟨y70, y71, y72, y73⟩ := Y7.read; have HOg_0 := OwC.farSet (j := 0) HOc7 hvl (.string key); have Cg_0 := blk_set C7 0 (.string key); have Rg_0 := R7.far (j := 0) n15 (.string key); have Yg_0 := Y7.away (j := 0) n25 (.string key); have Zg_0 := Z7.away (j := 0) n05 (.string key); have Bg_0 := B7.setCell (p := ⟨w5.heap.size, 0, none⟩) (Nat.le_of_lt hl5'') (.string key); have HOg_1 := OwC.farSet (j := 1) HOg_0 hvl (.bool false); have Cg_1 := blk_set Cg_0 1 (.bool false); have Rg_1 := Rg_0.far (j := 1) n15 (.bool false); have Yg_1 := Yg_0.away (j := 1) n25 (.bool false); have Zg_1 := Zg_0.away (j := 1) n05 (.bool false); have Bg_1 := Bg_0.setCell (p := ⟨w5.heap.size, 1, none⟩) (Nat.le_of_lt hl5'') (.bool false)) | (go_at_call 56; (with_reducible refine (hT2 _ _ hp7 hd7 Rg_1 Bg_1).mono ?_); rintro e w9 ⟨rfl, ⟨p9, hp9, hd9, R9⟩, hg_9⟩; have C9 := Cz.gb (x := .string key) (y := .bool false) (z := .string ⟨#[]⟩) Cg_1 hg_9 n15; have Y9 := Yg_1.gb hg_9 ne12; have Z9 := Zg_1.gb hg_9 ne10; have B9 := Bg_1.trans (hg_9.2 _ hg1 Bg_1.size); have HOc9 := Ow.gb HOg_1 Rg_1 (by decide) hg_9; obtain ⟨c90, c91, c92, c93, c94, c95⟩ := C9.read; obtain ⟨y90, y91, y92, y93⟩ := Y9.read; have HOh_0 := OwC.farSet (j := 2) HOc9 hvl (.string val); have Ch_0 := blk_set C9 2 (.string val); have Rh_0 := R9.far (j := 2) n15 (.string val); have Yh_0 := Y9.away (j := 2) n25 (.string val); have Zh_0 := Z9.away (j := 2) n05 (.string val); have Bh_0 := B9.setCell (p := ⟨w5.heap.size, 2, none⟩) (Nat.le_of_lt hl5'') (.string val)) | (at_builtin; refine app_chg (w0 := w) (W := (w9).setCell ⟨w5.heap.size, 2, none⟩ (.string val)) w.heap.size rfl (.tmp 95) (.tmp 97) rfl v cs (key, false, val) (by rfl) (by show _ = Value.slice (some ⟨((w9).setCell ⟨w5.heap.size, 2, none⟩ (.string val)).heap.size, 0, none⟩) 1 1; rw [World.size_setCell]; rfl) HOh_0 Bh_0 Bh_0.size H40.out ?_; intro v10 w10 HO10 HB10 hg10 hat10; obtain ⟨A10, c10, hv10, hr10⟩ := HO10.rd; rw [HCL2.out] at hv10; subst hv10; have R10 := Rh_0.row HOh_0 hg10; have Y10 := Yh_0.row HOh_0 hg10; have Z10 := Zh_0.row HOh_0 hg10; obtain ⟨y100, y101, y102, y103⟩ := Y10.read))
        go_roundw
        case rel => exact ⟨k + 1, p9, _, _, hlt, by go_num, hp9, by rw [hd9]; exact HRM.out, by rw [List.length_append, List.length_singleton, HCL.out], R10.far ne12 _, Z10.away ne02 _, Y10.set1 _, Ow.setCell HO10 Y10 (by decide) 1 _, HB10.setCell (p := ⟨w.heap.size + 1 + 1, 1, none⟩) hg2 _⟩
        case measure => simp [intOf]; omega
    · obtain rfl : k = N := by omega
      have hee := H3.out
      rw [hrm] at hee
      injection hee with hee
      injection hee with e1 e2
      have hpl := congrArg List.length e2
      rw [List.length_drop, HN0.out] at hpl
      have hpi : ¬ (p : Int) < (n : Int) := by omega
      subst e1
      obtain ⟨A5, c5, hv5, hr5⟩ := HOr.rd
      subst hv5
      obtain ⟨yr0, yr1, yr2, yr3⟩ := Yr.read
      have hCk := fun W (h : RdC W A5 c5 cs) => rCheck_any (q : Int) A5 c5 cs.length cs W rfl h (by omega)
      rw [hz] at hCk
      clear hrm hcl e2 hpl h4
      go_wp2_with (first | (go_at_call 13; (with_reducible refine (hCk _ hr5).mono ?_); rintro e w9 ⟨rfl, HB9⟩; have Z9 := Zr.below HB9; have Y9 := Yr.below HB9; have HO9 := HOr.below HB9; have B9 := Br.trans (HB9.mono Br.size); obtain ⟨y90, y91, y92, y93⟩ := Y9.read; obtain ⟨z90, z91, z92, z93⟩ := Z9.read))
      have V := (Z9.set0 (q : Int)).set1 (.slice A5 cs.length c5)
      obtain ⟨v0, v1, _, _⟩ := V.read
      refine bodyPost_ret (v := .tuple #[.agg #[.int .i64 (q : Int), .slice A5 cs.length c5], .int .i64 0]) ?_ rfl ⟨⟨A5, c5, rfl, ?_⟩, ?_⟩
      · simp [results, Try.results40, go_sem, v0, v1]
      · exact Ow.setCell (Ow.setCell HO9 Z9 (by decide) 0 _) (Z9.set0 (q : Int)) (by decide) 1 _
      · exact (B9.setCell (p := ⟨_, 0, none⟩) (Nat.le_refl _) _).setCell (p := ⟨_, 1, none⟩) (Nat.le_refl _) _

end Go.Proofs.Ytebefonohemlfaa
end
