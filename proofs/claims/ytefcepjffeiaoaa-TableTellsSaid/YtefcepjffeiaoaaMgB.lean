/- The contracts that the laws of this seat share: octets, sums, numbers, records. -/
import Derived.Test.YtefcepjffeiaoaaQPBx
import Derived.Test.YtefcepjffeiaoaaMgA
import Derived.Test.YtefcepjffeiaoaaQShcmpCompareint
import Derived.Deep.RegionHeld3
import Derived.Lib.AppendStr
import Derived.RangeFuncBound
import Derived.RangeFuncCalls
import Derived.RangeFuncLeaves
import Derived.RangeFuncOwn
import Derived.RangeFuncKeeps
import Derived.RangeFuncNested
import Derived.Shelf.Abstract
import Derived.OwnWalkIn
import Derived.TacticsInMore
import Derived.LoopNIn
import Derived.LoopIn
import Derived.Laws.BitsAllLaws
import Derived.Laws.BitsLemmas
import Derived.StillTailTactics
set_option linter.unusedVariables false
set_option linter.unusedSimpArgs false
section
/- Block: may versions be, in order; versions copied and compared: the printed contracts, told over. -/
namespace Go.Proofs.Ytefcepjffeiaoaa
open Go.RowKit Go.Proofs.YtefcepjffeiaoaaW.PrintWords
set_option linter.unusedVariables false

abbrev SE := PB.S43
def mkE (c : Ent) : SE := ⟨c.1, c.2.1, c.2.2.1, c.2.2.2⟩
def ofE (s : SE) : Ent := (s.f0, s.f1, s.f2, s.f3)
theorem ofE_mk (l : List Ent) : (l.map mkE).map ofE = l := by rw [List.map_map]; exact List.map_id l
theorem mkE_K {w : World} {c : Ent} {cs : List Value} (h : kEnt.K w c cs) : PB.k43.K w (mkE c) cs := h
theorem RdE.mk {w : World} {A : Option Addr} {c : Nat} {l : List Ent} (h : RdE w A c l) : Rd PB.k43 w A c (l.map mkE) := Rd_map (d := kEnt) (d' := PB.k43) rfl mkE (fun x cs h => mkE_K h) h
theorem OwE.of {w : World} {base : Nat} {v : Value} {l : List SE} (h : PB.k43.R 43 w base (fun _ => True) v l) : OwE w base v (l.map ofE) := R_map (d := PB.k43) (d' := kEnt) rfl ofE (fun _ _ _ _ _ h => h) h
theorem rdE_map (l : List Ent) (i : Nat) (h : i < l.length) : PB.rd_T43 (l.map mkE) (i : Int) = mkE (l.getD i zEnt) := by
  rw [PB.rd_T43, Int.toNat_natCast, rd_map mkE l zEnt _ i h]
theorem eqL_size (s : ByteArray) : (s.toList == ([] : List UInt8)) = decide (s.size = 0) := by
  by_cases h : s.size = 0
  · rw [decide_eq_true h]; exact beq_iff_eq.2 ((toList_nil s).2 h)
  · rw [decide_eq_false h]; exact beq_eq_false_iff_ne.2 (fun e => h ((toList_nil s).1 e))
theorem rMay_f (x : Ent) : PB.ticklerref07_May.f x.1 x.2.1 x.2.2.1 x.2.2.2 = some (decide (mayE x)) := by
  obtain ⟨k, q, d, v⟩ := x
  simp only [PB.ticklerref07_May.f, eqL_size, mayE]
  repeat' split
  all_goals (congr 1; symm; first | (apply decide_eq_true; omega) | (apply decide_eq_false; omega) | (apply decide_eq_decide.2; omega))
theorem May_f (x : Ent) : PB.skip_May.f x.1 x.2.1 x.2.2.1 x.2.2.2 = some (decide (mayE x)) := by
  obtain ⟨k, q, d, v⟩ := x
  have hb : (d == 2) = decide (d = 2) := by
    by_cases h : d = 2
    · rw [decide_eq_true h, h]; rfl
    · rw [decide_eq_false h]; exact beq_eq_false_iff_ne.2 h
  simp only [PB.skip_May.f, toList_nil, hb, mayE]
  repeat' split
  all_goals (congr 1; symm; first | (apply decide_eq_true; omega) | (apply decide_eq_false; omega) | (apply decide_eq_decide.2; omega))
theorem less_bl (a b : ByteArray) : Op.bytesLess a.toList b.toList = decide (bl a < bl b) := by rw [bytesLess_eq, Lib.toList_data, Lib.toList_data]; rfl
theorem toL_bl (a b : ByteArray) : a.toList = b.toList ↔ bl a = bl b := by rw [Lib.toList_data, Lib.toList_data]; exact Iff.rfl
theorem rBef_f (x y : Ent) : PB.ticklerref07_Before.f x.1 x.2.1 x.2.2.1 x.2.2.2 y.1 y.2.1 y.2.2.1 y.2.2.2 = some (decide (befE x y)) := by
  rw [PB.ticklerref07_Before.f, less_bl]
  unfold befE
  by_cases h1 : bl x.1 < bl y.1
  · simp [h1]
  · by_cases h2 : bl x.1 = bl y.1
    · rw [if_neg (by simp [h1]), if_pos ((toL_bl _ _).2 h2)]
      simp [h2, lt_ir]
    · rw [if_neg (by simp [h1]), if_neg (fun e => h2 ((toL_bl _ _).1 e))]
      simp [h1, h2]
theorem May_any (x : Ent) (w : World) : Calls Try.prog 62 #[.agg #[.string x.1, .int .i64 x.2.1, .int .i64 x.2.2.1, .string x.2.2.2]] w fun e w' => e = .returned (.bool (decide (mayE x))) ∧ Below w.heap.size w w' := PB.skip_May.calls _ _ _ _ _ w (May_f x)
theorem rOrd_l0 (l : List Ent) (hl : l.length ≤ 9223372036854775806) : ∀ d i, l.length - i = d → i ≤ l.length → Ev (fun k => PB.ticklerref09_Ordered.l0 k (l.map mkE) (i : Int)) (ordL l d i) := by
  intro d
  induction d with
  | zero =>
    intro i hd hi
    obtain rfl : i = l.length := by omega
    refine Ev.now' fun k => ?_
    rw [PB.ticklerref09_Ordered.l0, if_neg (by rw [List.length_map]; omega)]
    rfl
  | succ d ih =>
    intro i hd hi
    have hlt : i < l.length := by omega
    have h1 := ih (i + 1) (by omega) (by omega)
    rw [ordL]
    refine Ev.step (f := fun k => if mayE (l.getD i zEnt) then (if 0 < i ∧ ¬ befE (l.getD (i - 1) zEnt) (l.getD i zEnt) then some 81 else PB.ticklerref09_Ordered.l0 k (l.map mkE) (((i + 1 : Nat) : Int))) else some 1) (fun k => ?_) ?_
    · rw [PB.ticklerref09_Ordered.l0, if_pos (by rw [List.length_map]; omega), if_pos (by omega), wrap64_succ i (by omega), rdE_map l i hlt]
      have hm := rMay_f (l.getD i zEnt)
      rw [show (mkE (l.getD i zEnt)).f0 = (l.getD i zEnt).1 from rfl, show (mkE (l.getD i zEnt)).f1 = (l.getD i zEnt).2.1 from rfl, show (mkE (l.getD i zEnt)).f2 = (l.getD i zEnt).2.2.1 from rfl, show (mkE (l.getD i zEnt)).f3 = (l.getD i zEnt).2.2.2 from rfl, hm]
      simp only [Option.bind_some, decide_eq_true_eq]
      by_cases h2 : mayE (l.getD i zEnt)
      · rw [if_pos h2, if_pos h2]
        by_cases h3 : 0 < i
        · have hw : wrap64 ((i : Int) - 1) = ((i - 1 : Nat) : Int) := by unfold wrap64; omega
          rw [if_pos (by omega), hw, if_pos (by omega), if_pos (by rw [List.length_map]; omega), rdE_map l (i - 1) (by omega)]
          have hbf := rBef_f (l.getD (i - 1) zEnt) (l.getD i zEnt)
          rw [show (mkE (l.getD (i - 1) zEnt)).f0 = (l.getD (i - 1) zEnt).1 from rfl, show (mkE (l.getD (i - 1) zEnt)).f1 = (l.getD (i - 1) zEnt).2.1 from rfl, show (mkE (l.getD (i - 1) zEnt)).f2 = (l.getD (i - 1) zEnt).2.2.1 from rfl, show (mkE (l.getD (i - 1) zEnt)).f3 = (l.getD (i - 1) zEnt).2.2.2 from rfl, hbf]
          simp only [Option.bind_some, decide_eq_true_eq]
          by_cases h4 : befE (l.getD (i - 1) zEnt) (l.getD i zEnt)
          · rw [if_pos h4, if_neg (fun h => h.2 h4)]
          · rw [if_neg h4, if_pos ⟨h3, h4⟩]
        · rw [if_neg (by omega), if_neg (fun h => h3 h.1)]
      · rw [if_neg h2, if_neg h2]
    · by_cases h2 : mayE (l.getD i zEnt)
      · simp only [h2, not_true, if_true, if_false]
        by_cases h4 : 0 < i ∧ ¬ befE (l.getD (i - 1) zEnt) (l.getD i zEnt)
        · simp only [h4, if_true]
          exact Ev.now _
        · simp only [h4, if_false]
          exact h1
      · simp only [h2, not_false_eq_true, if_true, if_false]
        exact Ev.now _
theorem rOrdered_any (A : Option Addr) (c n : Nat) (l : List Ent) (w : World) (hn : l.length = n) (hr : RdE w A c l) (hl : l.length ≤ 9223372036854775806) :
    Calls Try.prog 37 #[.slice A n c] w fun e w' => e = .returned (.int .i64 (ordE l)) ∧ Below w.heap.size w w' := by
  subst hn
  obtain ⟨k, hk⟩ := (rOrd_l0 l hl _ 0 rfl (Nat.zero_le _)).rounds
  have h := PB.ticklerref09_Ordered.calls k A c (l.map mkE) (ordE l) w hr.mk.2 hr.mk.1 hk
  rw [List.length_map] at h
  exact h
theorem rCheck_any (A : Option Addr) (c n : Nat) (l : List Ent) (w : World) (hn : l.length = n) (hr : RdE w A c l) (hl : l.length ≤ 9223372036854775806) :
    Calls Try.prog 76 #[.slice A n c] w fun e w' => e = .returned (.int .i64 (chkE l)) ∧ Below w.heap.size w w' := by
  subst hn
  obtain ⟨k, hk⟩ := (rOrd_l0 l hl _ 0 rfl (Nat.zero_le _)).rounds
  have hf : PB.ticklerref09_Check.f k (l.map mkE) = some (chkE l) := by
    rw [PB.ticklerref09_Check.f, chkE, List.length_map]
    by_cases h1 : l.length < 1
    · rw [if_pos (by omega), if_pos (.inl h1)]
    · rw [if_neg (by omega)]
      by_cases h2 : 64 < l.length
      · rw [if_pos (by omega), if_pos (.inr h2)]
      · rw [if_neg (by omega), if_neg (by omega), PB.ticklerref09_Ordered.f]
        have hk' : PB.ticklerref09_Ordered.l0 k (l.map mkE) 0 = some (ordE l) := hk
        rw [hk']
        rfl
  have h := PB.ticklerref09_Check.calls k A c (l.map mkE) (chkE l) w hr.mk.2 hr.mk.1 hf
  rw [List.length_map] at h
  exact h
theorem sameE_l0 (l : List Ent) (hl : l.length ≤ 9223372036854775806) : ∀ d i, l.length - i = d → i ≤ l.length → Ev (fun k => PB.ticklerplain_SameEntries.l0 k (l.map mkE) (l.map mkE) (i : Int)) true := by
  intro d
  induction d with
  | zero =>
    intro i hd hi
    obtain rfl : i = l.length := by omega
    refine Ev.now' fun k => ?_
    rw [PB.ticklerplain_SameEntries.l0, if_neg (by rw [List.length_map]; omega)]
  | succ d ih =>
    intro i hd hi
    have hlt : i < l.length := by omega
    refine Ev.step (fun k => ?_) (ih (i + 1) (by omega) (by omega))
    rw [PB.ticklerplain_SameEntries.l0, if_pos (by rw [List.length_map]; omega), if_pos (by omega), if_pos (by rw [List.length_map]; omega), if_neg (by simp), wrap64_succ i (by omega)]
theorem SameE_any (A B : Option Addr) (c d n : Nat) (l : List Ent) (w : World) (hn : l.length = n) (hr : RdE w A c l) (hs : RdE w B d l) (hl : l.length ≤ 9223372036854775806) :
    Calls Try.prog 20 #[.slice A n c, .slice B n d] w fun e w' => e = .returned (.bool true) ∧ Below w.heap.size w w' := by
  subst hn
  obtain ⟨k, hk⟩ := (sameE_l0 l hl _ 0 rfl (Nat.zero_le _)).rounds
  have hf : PB.ticklerplain_SameEntries.f k (l.map mkE) (l.map mkE) = some true := by rw [PB.ticklerplain_SameEntries.f, if_pos rfl]; exact hk
  have h := PB.ticklerplain_SameEntries.calls k A c (l.map mkE) B d (l.map mkE) true w hr.mk.2 hr.mk.1 hs.mk.2 hs.mk.1 hf
  rw [List.length_map] at h
  exact h.mono (fun e w' ⟨h1, h2⟩ => ⟨h1, h2.below⟩)
theorem CopyE_any (A : Option Addr) (c n : Nat) (l : List Ent) (w : World) (hn : l.length = n) (hr : RdE w A c l) (hl : l.length * 48 ≤ 140737488351232) :
    Calls Try.prog 9 #[.slice A n c] w fun e w' => ∃ v, e = .returned v ∧ OwE w' w.heap.size v l ∧ Below w.heap.size w w' := by
  subst hn
  have hf : PB.ticklerplain_CopyEntries.f (l.map mkE) = some (l.map mkE) := by rw [PB.ticklerplain_CopyEntries.f, if_pos (by rw [List.length_map, List.length_nil]; omega)]; rfl
  have h := PB.ticklerplain_CopyEntries.calls A c (l.map mkE) (l.map mkE) w hr.mk.2 hr.mk.1 hf
  rw [List.length_map] at h
  refine h.mono ?_
  rintro e w' ⟨v, rfl, HR, HB⟩
  have := OwE.of HR
  rw [ofE_mk] at this
  exact ⟨v, rfl, this, HB⟩
def resE : Option Ent → Ent × Bool
  | some x => (x, true)
  | none => ((⟨#[]⟩, 0, 0, ⟨#[]⟩), false)
theorem rFirst_l0 (l : List Ent) (key : ByteArray) (seq : Int) (hl : l.length ≤ 9223372036854775806) : ∀ d i, l.length - i = d → i ≤ l.length → Ev (fun k => PB.ticklerref07_First.l0 k (l.map mkE) key seq (i : Int)) ((resE (firstE (l.drop i) key seq)).1.1, (resE (firstE (l.drop i) key seq)).1.2.1, (resE (firstE (l.drop i) key seq)).1.2.2.1, (resE (firstE (l.drop i) key seq)).1.2.2.2, (resE (firstE (l.drop i) key seq)).2) := by
  intro d
  induction d with
  | zero =>
    intro i hd hi
    obtain rfl : i = l.length := by omega
    refine Ev.now' fun k => ?_
    rw [PB.ticklerref07_First.l0, if_neg (by rw [List.length_map]; omega), drop_all]
    rfl
  | succ d ih =>
    intro i hd hi
    have hlt : i < l.length := by omega
    have h1 := ih (i + 1) (by omega) (by omega)
    by_cases h2 : isV key seq (l.getD i zEnt) = true
    · have e : firstE (l.drop i) key seq = some (l.getD i zEnt) := by rw [drop_get l zEnt i hlt, firstE, List.find?_cons_of_pos h2]
      rw [e]
      unfold isV at h2
      rw [Bool.and_eq_true, decide_eq_true_eq, decide_eq_true_eq] at h2
      refine Ev.now' fun k => ?_
      rw [PB.ticklerref07_First.l0, if_pos (by rw [List.length_map]; omega), if_pos (by omega), rdE_map l i hlt, if_pos (show (mkE (l.getD i zEnt)).f0.toList = key.toList by rw [← h2.1]; rfl), if_pos (show (mkE (l.getD i zEnt)).f1 ≤ seq from h2.2)]
      rfl
    · have e : firstE (l.drop i) key seq = firstE (l.drop (i + 1)) key seq := by rw [drop_get l zEnt i hlt, firstE, List.find?_cons_of_neg h2]; rfl
      rw [e]
      refine Ev.step (fun k => ?_) h1
      rw [PB.ticklerref07_First.l0, if_pos (by rw [List.length_map]; omega), if_pos (by omega), rdE_map l i hlt, wrap64_succ i (by omega)]
      by_cases h3 : (l.getD i zEnt).1.toList = key.toList
      · rw [if_pos (show (mkE (l.getD i zEnt)).f0.toList = key.toList from h3), if_neg (fun h4 => h2 (by unfold isV; rw [decide_eq_true (toList_inj h3), decide_eq_true (show (l.getD i zEnt).2.1 ≤ seq from h4)]; rfl))]
      · rw [if_neg (show ¬ (mkE (l.getD i zEnt)).f0.toList = key.toList from h3)]
theorem rFirst_any (A : Option Addr) (c n : Nat) (l : List Ent) (key : ByteArray) (seq : Int) (w : World) (hn : l.length = n) (hr : RdE w A c l) (hl : l.length ≤ 9223372036854775806) :
    Calls Try.prog 55 #[.slice A n c, .string key, .int .i64 seq] w fun e w' => e = .returned (.tuple #[.agg #[.string (resE (firstE l key seq)).1.1, .int .i64 (resE (firstE l key seq)).1.2.1, .int .i64 (resE (firstE l key seq)).1.2.2.1, .string (resE (firstE l key seq)).1.2.2.2], .bool (resE (firstE l key seq)).2]) ∧ Below w.heap.size w w' := by
  subst hn
  obtain ⟨k, hk⟩ := (rFirst_l0 l key seq hl _ 0 rfl (Nat.zero_le _)).rounds
  rw [List.drop_zero] at hk
  have h := PB.ticklerref07_First.calls k A c (l.map mkE) key seq _ _ _ _ _ w hr.mk.2 hr.mk.1 hk
  rw [List.length_map] at h
  exact h
theorem rcommon_l0 (a b : ByteArray) (ha : a.size ≤ 9223372036854775806) : ∀ d i, a.size - i = d → i ≤ a.size → i ≤ b.size → Ev (fun k => PB.ticklerref09_common.l0 k a b (i : Int)) (((i + comm ((bl a).drop i) ((bl b).drop i) : Nat)) : Int) := by
  have hbt : ∀ (s : ByteArray) (i : Nat) (h : i < s.size), bt s (i : Int) = (((bl s).getD i 0).toNat : Int) := by
    intro s i h
    have hl : i < (bl s).length := by rw [bl_length]; exact h
    rw [bt, dif_pos (by rw [Int.toNat_natCast]; exact h), List.getD_eq_getElem?_getD, List.getElem?_eq_getElem hl]
    rfl
  intro d
  induction d with
  | zero =>
    intro i hd hi hj
    obtain rfl : i = a.size := by omega
    refine Ev.now' fun k => ?_
    rw [PB.ticklerref09_common.l0, if_neg (by omega)]
    have : (bl a).drop a.size = [] := by rw [← bl_length]; exact drop_all _
    rw [this]
    simp [comm]
  | succ d ih =>
    intro i hd hi hj
    have hlt : i < a.size := by omega
    by_cases hb : i < b.size
    · have e1 := drop_get (bl a) 0 i (by rw [bl_length]; exact hlt)
      have e2 := drop_get (bl b) 0 i (by rw [bl_length]; exact hb)
      by_cases h : (bl a).getD i 0 = (bl b).getD i 0
      · have ec : i + comm ((bl a).drop i) ((bl b).drop i) = (i + 1) + comm ((bl a).drop (i + 1)) ((bl b).drop (i + 1)) := by rw [e1, e2, comm, if_pos h]; omega
        rw [ec]
        refine Ev.step (fun k => ?_) (ih (i + 1) (by omega) (by omega) (by omega))
        rw [PB.ticklerref09_common.l0, if_pos (by omega), if_pos (by omega), if_pos (by omega), hbt a i hlt, hbt b i hb, if_pos (by rw [h]), wrap64_succ i (by omega)]
      · have ec : i + comm ((bl a).drop i) ((bl b).drop i) = i := by rw [e1, e2, comm, if_neg h]; rfl
        rw [ec]
        refine Ev.now' fun k => ?_
        rw [PB.ticklerref09_common.l0, if_pos (by omega), if_pos (by omega), if_pos (by omega), hbt a i hlt, hbt b i hb, if_neg (fun e => h (UInt8.toNat_inj.1 (Int.ofNat_inj.1 e)))]
    · refine Ev.now' fun k => ?_
      rw [PB.ticklerref09_common.l0, if_pos (by omega), if_neg (by omega)]
      have : (bl b).drop i = [] := List.drop_eq_nil_iff.2 (by rw [bl_length]; omega)
      rw [this]
      cases (bl a).drop i <;> simp [comm]
theorem rcommon_any (a b : ByteArray) (w : World) (ha : a.size ≤ 9223372036854775806) :
    Calls Try.prog 77 #[.string a, .string b] w fun e w' => e = .returned (.int .i64 ((comm (bl a) (bl b) : Nat) : Int)) ∧ Below w.heap.size w w' := by
  obtain ⟨k, hk⟩ := (rcommon_l0 a b ha _ 0 rfl (Nat.zero_le _) (Nat.zero_le _)).rounds
  rw [List.drop_zero, List.drop_zero, Nat.zero_add] at hk
  have h := PB.ticklerref09_common.calls k a b _ w hk
  exact h.mono (fun e w' ⟨h1, h2⟩ => ⟨h1, h2.below⟩)
end Go.Proofs.Ytefcepjffeiaoaa
end

section
/- Block: the order of versions, walked. -/
namespace Go.Proofs.Ytefcepjffeiaoaa
open Go.RowKit Go.Proofs.YtefcepjffeiaoaaW.PrintWords
set_option linter.unusedVariables false

theorem same_bl (a b : ByteArray) : (a.toList == b.toList) = decide (bl a = bl b) := by
  rw [Lib.toList_data, Lib.toList_data]
  by_cases h : bl a = bl b
  · rw [decide_eq_true h]; exact beq_iff_eq.2 h
  · rw [decide_eq_false h]; exact beq_eq_false_iff_ne.2 h
def cmpS (a b : ByteArray) : Int := if bl a < bl b then -1 else if bl b < bl a then 1 else 0
theorem nanS_any (a : ByteArray) (w : World) : Calls Try.prog 106 #[.string a] w fun e w' => e = .returned (.bool false) ∧ w = w' := by
  have h := same_bl a a
  rw [decide_eq_true rfl] at h
  go_enter Try.func106, Try.ntmps106
  go_wp2
  go_ret
  exact ⟨by simp, rfl⟩
set_option maxRecDepth 100000 in
set_option maxHeartbeats 800000 in
theorem cmpS_any (a b : ByteArray) (w : World) : Calls Try.prog 92 #[.string a, .string b] w fun e w' => e = .returned (.int .i64 (cmpS a b)) ∧ w = w' := by
  have h1 := less_bl a b
  have h2 := same_bl a b
  rcases lt_tri (bl a) (bl b) with h | h | h
  · rw [decide_eq_true h] at h1
    have e : cmpS a b = -1 := by rw [cmpS, if_pos h]
    rw [e]
    clear h2
    go_enter Try.func92, Try.ntmps92
    go_wp2_with (first | (go_at_call 106; refine (nanS_any _ _).mono ?_; rintro e w' ⟨rfl, rfl⟩))
    go_ret
    exact ⟨rfl, rfl⟩
  · rw [decide_eq_false (by rw [h]; exact lt_ir _)] at h1
    rw [decide_eq_true h] at h2
    have e : cmpS a b = 0 := by rw [cmpS, if_neg (by rw [h]; exact lt_ir _), if_neg (by rw [h]; exact lt_ir _)]
    rw [e]
    go_enter Try.func92, Try.ntmps92
    go_wp2_with (first | (go_at_call 106; refine (nanS_any _ _).mono ?_; rintro e w' ⟨rfl, rfl⟩))
    go_ret
    exact ⟨rfl, rfl⟩
  · rw [decide_eq_false (lt_as h)] at h1
    rw [decide_eq_false (fun e => by rw [e] at h; exact lt_ir _ h)] at h2
    have e : cmpS a b = 1 := by rw [cmpS, if_neg (lt_as h), if_pos h]
    rw [e]
    go_enter Try.func92, Try.ntmps92
    go_wp2_with (first | (go_at_call 106; refine (nanS_any _ _).mono ?_; rintro e w' ⟨rfl, rfl⟩))
    go_ret
    exact ⟨rfl, rfl⟩
/-- the first that is not 0, of two -/
def or2 (p q : Int) : Int := if p ≠ 0 then p else q
set_option maxRecDepth 100000 in
set_option maxHeartbeats 800000 in
theorem Or_any (g : Nat) (p q : Int) (w : World) (h0 : w.cell? ⟨g, 0, none⟩ = some (.int .i64 p)) (h1 : w.cell? ⟨g, 1, none⟩ = some (.int .i64 q)) :
    Calls Try.prog 91 #[.slice (some ⟨g, 0, none⟩) 2 2] w fun e w' => e = .returned (.int .i64 (or2 p q)) ∧ w = w' := by
  go_enter Try.func91, Try.ntmps91
  go_wp2
  go_loopw [8] (fun i wr => wr = w ∧ ∃ j : Nat, j ≤ 2 ∧ i = .int .i64 (j : Int) ∧ (0 < j → p = 0) ∧ (1 < j → q = 0)) (fun i _ => 2 - (intOf i).toNat)
  case atStart => exact ⟨rfl, 0, by omega, rfl, fun h => by omega, fun h => by omega⟩
  case round =>
    obtain ⟨rfl, j, hj, rfl, hp, hq⟩ := hrel
    rcases Nat.lt_trichotomy j 1 with h | h | h
    · obtain rfl : j = 0 := by omega
      clear hp hq hj h
      by_cases hp0 : p = 0
      · subst hp0
        go_wp2
        go_roundw
        case rel => exact ⟨by trivial, 1, by omega, by go_num, by simp, by simp⟩
        case measure => simp [intOf]
      · have hb1 : (p != 0) = true := bne_iff_ne.2 hp0
        have hb2 : (p == 0) = false := beq_eq_false_iff_ne.2 hp0
        go_wp2
        go_ret
        exact ⟨by rw [or2, if_pos hp0]; rfl, rfl⟩
    · subst h
      have hp0 := hp (by omega)
      subst hp0
      clear hp hq hj
      by_cases hq0 : q = 0
      · subst hq0
        go_wp2
        go_roundw
        case rel => exact ⟨by trivial, 2, by omega, by go_num, by simp, by simp⟩
        case measure => simp [intOf]
      · have hb1 : (q != 0) = true := bne_iff_ne.2 hq0
        have hb2 : (q == 0) = false := beq_eq_false_iff_ne.2 hq0
        go_wp2
        go_ret
        exact ⟨by rw [or2, if_neg (by simp)]; rfl, rfl⟩
    · obtain rfl : j = 2 := by omega
      have hp0 := hp (by omega)
      have hq0 := hq (by omega)
      subst hp0 hq0
      clear hp hq hj h
      go_wp2
      go_ret
      exact ⟨rfl, rfl⟩
/-- the order of versions, as a number -/
def ordN (x y : Ent) : Int := or2 (cmpS x.1 y.1) (Lib.compareInt y.2.1 x.2.1)
theorem ordN_neg (x y : Ent) : decide (ordN x y < 0) = decide (befE x y) := by
  unfold ordN or2 cmpS Lib.compareInt befE
  by_cases h1 : bl x.1 < bl y.1
  · rw [if_pos h1]; simp [h1]
  · rw [if_neg h1]
    by_cases h2 : bl y.1 < bl x.1
    · have h3 : ¬ bl x.1 = bl y.1 := fun e => by rw [e] at h2; exact lt_ir _ h2
      rw [if_pos h2]; simp [h1, h3]
    · have h3 : bl x.1 = bl y.1 := by
        rcases lt_tri (bl x.1) (bl y.1) with h | h | h
        · exact absurd h h1
        · exact h
        · exact absurd h h2
      rw [if_neg h2]
      by_cases h4 : y.2.1 < x.2.1
      · rw [if_pos h4]; simp [h3, h4]
      · rw [if_neg h4]
        by_cases h5 : y.2.1 > x.2.1
        · rw [if_pos h5]; simp [h1, h4]
        · rw [if_neg h5]; simp [h1, h4]
abbrev ebv (x : Ent) : Value := .agg #[.string x.1, .int .i64 x.2.1, .int .i64 x.2.2.1, .string x.2.2.2]
abbrev ebo (x : Ent) : Obj := .cells #[.string x.1, .int .i64 x.2.1, .int .i64 x.2.2.1, .string x.2.2.2] 43
set_option maxRecDepth 100000 in
set_option maxHeartbeats 800000 in
theorem order_any (x y : Ent) (w : World) : Calls Try.prog 97 #[ebv x, ebv y] w fun e w' => e = .returned (.int .i64 (ordN x y)) ∧ Below w.heap.size w w' := by
  obtain ⟨k1, q1, d1, v1⟩ := x
  obtain ⟨k2, q2, d2, v2⟩ := y
  have hX := Eb.new w (k1, q1, d1, v1)
  have hX2 := hX.below (below_alloc (w.alloc (ebo (k1, q1, d1, v1))) (ebo (k2, q2, d2, v2)))
  have hY := Eb.new (w.alloc (ebo (k1, q1, d1, v1))) (k2, q2, d2, v2)
  have HB := ((Below.refl w.heap.size w).alloc (Nat.le_refl _) (ebo (k1, q1, d1, v1))).alloc (below_alloc w (ebo (k1, q1, d1, v1))).size (ebo (k2, q2, d2, v2))
  go_enter Try.func97, Try.ntmps97
  go_wp2
  obtain ⟨x0, x1, -, -, -, -, -, -⟩ := hX2.read
  obtain ⟨y0, y1, -, -, -, -, -, -⟩ := hY.read
  generalize hWo : (w.alloc (ebo (k1, q1, d1, v1))).alloc (ebo (k2, q2, d2, v2)) = Wo at *
  have HWo := hide hWo
  clear hWo hX2 hY hX
  have hs1 : (w.alloc (ebo (k1, q1, d1, v1))).heap.size = w.heap.size + 1 := World.size_alloc _ _
  rw [hs1] at y0 y1
  have l0 := World.block_lt_of_cell? _ _ x0
  have l1 := World.block_lt_of_cell? _ _ y0
  have l2 := World.block_lt_of_cell? _ _ x1
  have l3 := World.block_lt_of_cell? _ _ y1
  obtain ⟨p, hp⟩ : ∃ p, cmpS k1 k2 = p := ⟨_, rfl⟩
  obtain ⟨q, hq⟩ : ∃ q, Lib.compareInt q2 q1 = q := ⟨_, rfl⟩
  have C1 := fun W => cmpS_any k1 k2 W
  have C2 := fun W => cmp_Compare_int q2 q1 W
  rw [hp] at C1
  rw [hq] at C2
  have HR : ordN (k1, q1, d1, v1) (k2, q2, d2, v2) = or2 p q := by rw [ordN, hp, hq]
  have HRR := hide HR
  clear HR hp hq
  have hd : Below w.heap.size w Wo.drew := HB.drew
  have bA := below_alloc Wo.drew (.cells #[.int .i64 p, .int .i64 q] 3)
  have r0 : (Wo.drew.alloc (.cells #[.int .i64 p, .int .i64 q] 3)).heap[Wo.drew.heap.size]? = some (.cells #[.int .i64 p, .int .i64 q] 3 (0, 0)) := heap_alloc_new _ _
  have O1 := Or_any Wo.drew.heap.size p q _ (blk_cell r0 0) (blk_cell r0 1)
  have hda := hd.alloc hd.size (.cells #[.int .i64 p, .int .i64 q] 3)
  have hS0 : Wo.drew.cell? ⟨w.heap.size, 0, none⟩ = some (.string k1) ∧ Wo.drew.cell? ⟨w.heap.size, 1, none⟩ = some (.int .i64 q1) ∧ Wo.drew.cell? ⟨w.heap.size + 1, 0, none⟩ = some (.string k2) ∧ Wo.drew.cell? ⟨w.heap.size + 1, 1, none⟩ = some (.int .i64 q2) := ⟨x0, x1, y0, y1⟩
  have hS1 : (Wo.drew.alloc (.cells #[.int .i64 p, .int .i64 q] 3)).cell? ⟨w.heap.size, 0, none⟩ = some (.string k1) ∧ (Wo.drew.alloc (.cells #[.int .i64 p, .int .i64 q] 3)).cell? ⟨w.heap.size, 1, none⟩ = some (.int .i64 q1) ∧ (Wo.drew.alloc (.cells #[.int .i64 p, .int .i64 q] 3)).cell? ⟨w.heap.size + 1, 0, none⟩ = some (.string k2) ∧ (Wo.drew.alloc (.cells #[.int .i64 p, .int .i64 q] 3)).cell? ⟨w.heap.size + 1, 1, none⟩ = some (.int .i64 q2) := ⟨(bA.cell l0).trans x0, (bA.cell l2).trans x1, (bA.cell l1).trans y0, (bA.cell l3).trans y1⟩
  go_region_held3 (fun w' => w'.cell? ⟨w.heap.size, 0, none⟩ = some (.string k1) ∧ w'.cell? ⟨w.heap.size, 1, none⟩ = some (.int .i64 q1) ∧ w'.cell? ⟨w.heap.size + 1, 0, none⟩ = some (.string k2) ∧ w'.cell? ⟨w.heap.size + 1, 1, none⟩ = some (.int .i64 q2)) (first | exact hS0 | exact hS1 | assumption) (first | (go_at_call 92; (with_reducible refine (C1 _).mono ?_); rintro e w' ⟨rfl, rfl⟩) | (go_at_call 93; (with_reducible refine (C2 _).mono ?_); rintro e w' ⟨rfl, rfl⟩) | (go_at_call 91; (refine O1.mono ?_); rintro e w' ⟨rfl, rfl⟩))
  go_wp2
  go_ret
  exact ⟨by rw [HRR.out]; rfl, hda⟩
set_option maxRecDepth 100000 in
set_option maxHeartbeats 800000 in
theorem Before_any (x y : Ent) (w : World) : Calls Try.prog 63 #[ebv x, ebv y] w fun e w' => e = .returned (.bool (decide (befE x y))) ∧ Below w.heap.size w w' := by
  have hX := Eb.new w x
  have bY := below_alloc (w.alloc (ebo x)) (ebo y)
  have hX2 := hX.below bY
  have hY := Eb.new (w.alloc (ebo x)) y
  have HB := ((Below.refl w.heap.size w).alloc (Nat.le_refl _) (ebo x)).alloc (below_alloc w (ebo x)).size (ebo y)
  have hs1 : (w.alloc (ebo x)).heap.size = w.heap.size + 1 := World.size_alloc _ _
  obtain ⟨x0, x1, x2, x3, -, -, -, -⟩ := hX2.read
  obtain ⟨y0, y1, y2, y3, -, -, -, -⟩ := hY.read
  rw [hs1] at y0 y1 y2 y3
  have hO := fun W => order_any x y W
  have hneg := ordN_neg x y
  go_enter Try.func63, Try.ntmps63
  go_wp2_with (first | (go_at_call 97; (with_reducible refine (hO _).mono ?_); rintro e w1 ⟨rfl, HB1⟩))
  go_ret
  exact ⟨by rw [← hneg]; rfl, HB.trans (HB1.mono HB.size)⟩
end Go.Proofs.Ytefcepjffeiaoaa
end

section
/- Block: may versions be, in order: the program's, walked. -/
namespace Go.Proofs.Ytefcepjffeiaoaa
open Go.RowKit Go.Proofs.YtefcepjffeiaoaaW.PrintWords
set_option linter.unusedVariables false

set_option maxRecDepth 100000 in
set_option maxHeartbeats 1600000 in
theorem Ordered_any (A : Option Addr) (c n : Nat) (l : List Ent) (w : World) (hn : l.length = n) (hr : RdE w A c l) (hl : n ≤ 9223372036854775806) :
    Calls Try.prog 26 #[.slice A n c] w fun e w' => e = .returned (.int .i64 (ordE l)) ∧ Below w.heap.size w w' := by
  have HN := hide hn
  obtain ⟨R, hR⟩ : ∃ R, ordE l = R := ⟨_, rfl⟩
  have HR := hide hR
  rw [hR]
  clear hn hR
  go_enter Try.func26, Try.ntmps26
  go_wp2
  go_loopw [7] (fun i wr => ∃ k : Nat, k ≤ n ∧ i = .int .i64 (k : Int) ∧ R = ordL l (n - k) k ∧ Below w.heap.size w wr) (fun i _ => n - (intOf i).toNat)
  case atStart => exact ⟨0, Nat.zero_le _, rfl, by rw [← HR.out, ordE, HN.out]; rfl, Below.refl _ _⟩
  case round =>
    obtain ⟨k, hk, rfl, hres, HB⟩ := hrel
    by_cases hlt : k < n
    · have hlti : (k : Int) < (n : Int) := Int.ofNat_lt.2 hlt
      have hrr := hr.below HB
      obtain ⟨ad, rfl, x0, x1, x2, x3⟩ := RdE.at4 hrr k (by rw [HN.out]; exact hlt)
      rw [show n - k = (n - (k + 1)) + 1 by omega, ordL] at hres
      have hM := fun W => May_any (l.getD k zEnt) W
      obtain ⟨x, hx⟩ : ∃ x, l.getD k zEnt = x := ⟨_, rfl⟩
      rw [hx] at hres x0 x1 x2 x3 hM
      have hE := Eb.new wr x
      obtain ⟨y0, y1, y2, y3, -, -, -, -⟩ := hE.read
      have HB2 := HB.alloc HB.size (.cells #[.string x.1, .int .i64 x.2.1, .int .i64 x.2.2.1, .string x.2.2.2] 43)
      by_cases hm : mayE x
      · rw [if_neg (fun h => h hm)] at hres
        rw [decide_eq_true hm] at hM
        by_cases hk0 : k = 0
        · rw [if_neg (fun h => by omega)] at hres
          have hk0i : ¬ (0 : Int) < (k : Int) := by omega
          have hk0n : ¬ 0 < k := by omega
          have HRES := hide hres
          clear hres hk0
          go_wp2_with (first | (go_at_call 62; (with_reducible refine (hM _).mono ?_); rintro e w1 ⟨rfl, HB1⟩; have hE1 := hE.below HB1; have HB3 := HB2.trans (HB1.mono HB2.size)))
          refine wp_region_below w1.heap.size _ (Below.refl _ _) (by kernel_rfl) (by kernel_rfl) ?_
          repeat (go_big_quiet_step ((intro hb; rfl)))
          refine wpQuiet_nil ?_
          intro w5 HC5
          have HB5 := HB3.trans (HC5.mono HB3.size)
          go_wp2
          go_roundw
          case rel => exact ⟨k + 1, hlt, by go_num, HRES.out, HB5⟩
          case measure => simp [intOf]; omega
        · have hk0' : 0 < k := Nat.pos_of_ne_zero hk0
          have hk1 : wrap64 ((k : Int) - 1) = ((k - 1 : Nat) : Int) := by unfold wrap64; omega
          have hk2 : IntKind.i64.wrap ((k : Int) - 1) = ((k - 1 : Nat) : Int) := by rw [IntKind.wrap_i64]; omega
          have hk0i : (0 : Int) < (k : Int) := by omega
          obtain ⟨j, hj⟩ : ∃ j, k - 1 = j := ⟨_, rfl⟩
          rw [hj] at hk1 hk2 hres
          obtain ⟨ad', e', p0, p1, p2, p3⟩ := RdE.at4 hrr j (by rw [HN.out]; omega)
          cases e'
          obtain ⟨y, hy⟩ : ∃ y, l.getD j zEnt = y := ⟨_, rfl⟩
          rw [hy] at hres p0 p1 p2 p3
          have hBf := fun W => Before_any y x W
          have hjn : (j : Int) < (n : Int) := by omega
          have hjn2 : j < n := by omega
          by_cases hbf : befE y x
          · rw [if_neg (fun h => h.2 hbf)] at hres
            rw [decide_eq_true hbf] at hBf
            have HRES := hide hres
            clear hres hy hj hx
            go_wp2_with (first | (go_at_call 62; (with_reducible refine (hM _).mono ?_); rintro e w1 ⟨rfl, HB1⟩; have hE1 := hE.below HB1; have HB3 := HB2.trans (HB1.mono HB2.size); have bb := (below_alloc wr (.cells #[.string x.1, .int .i64 x.2.1, .int .i64 x.2.2.1, .string x.2.2.2] 43)).trans (HB1.mono (below_alloc wr (.cells #[.string x.1, .int .i64 x.2.1, .int .i64 x.2.2.1, .string x.2.2.2] 43)).size)))
            have t0 := (bb.cell (World.block_lt_of_cell? _ _ p0)).trans p0
            have t1 := (bb.cell (World.block_lt_of_cell? _ _ p1)).trans p1
            have t2 := (bb.cell (World.block_lt_of_cell? _ _ p2)).trans p2
            have t3 := (bb.cell (World.block_lt_of_cell? _ _ p3)).trans p3
            obtain ⟨u0, u1, u2_, u3, -, -, -, -⟩ := hE1.read
            have hd : Below w1.heap.size w1 w1.drew := (Below.refl _ _).drew
            have hSk : ∀ W, Below w1.heap.size w1 W → Below w1.heap.size w1 W ∧ W.cell? (ad.add (j * 4)) = some (.string y.1) ∧ W.cell? ⟨(ad.add (j * 4)).block, (ad.add (j * 4)).off + 1, none⟩ = some (.int .i64 y.2.1) ∧ W.cell? ⟨(ad.add (j * 4)).block, (ad.add (j * 4)).off + 2, none⟩ = some (.int .i64 y.2.2.1) ∧ W.cell? ⟨(ad.add (j * 4)).block, (ad.add (j * 4)).off + 3, none⟩ = some (.string y.2.2.2) ∧ W.cell? ⟨wr.heap.size, 0, none⟩ = some (.string x.1) ∧ W.cell? ⟨wr.heap.size, 1, none⟩ = some (.int .i64 x.2.1) ∧ W.cell? ⟨wr.heap.size, 2, none⟩ = some (.int .i64 x.2.2.1) ∧ W.cell? ⟨wr.heap.size, 3, none⟩ = some (.string x.2.2.2) := fun W h => ⟨h, (h.cell (World.block_lt_of_cell? _ _ t0)).trans t0, (h.cell (World.block_lt_of_cell? _ _ t1)).trans t1, (h.cell (World.block_lt_of_cell? _ _ t2)).trans t2, (h.cell (World.block_lt_of_cell? _ _ t3)).trans t3, (h.cell (World.block_lt_of_cell? _ _ u0)).trans u0, (h.cell (World.block_lt_of_cell? _ _ u1)).trans u1, (h.cell (World.block_lt_of_cell? _ _ u2_)).trans u2_, (h.cell (World.block_lt_of_cell? _ _ u3)).trans u3⟩
            have hS0 := hSk _ hd
            go_region_held3 (fun w' => Below w1.heap.size w1 w' ∧ w'.cell? (ad.add (j * 4)) = some (.string y.1) ∧ w'.cell? ⟨(ad.add (j * 4)).block, (ad.add (j * 4)).off + 1, none⟩ = some (.int .i64 y.2.1) ∧ w'.cell? ⟨(ad.add (j * 4)).block, (ad.add (j * 4)).off + 2, none⟩ = some (.int .i64 y.2.2.1) ∧ w'.cell? ⟨(ad.add (j * 4)).block, (ad.add (j * 4)).off + 3, none⟩ = some (.string y.2.2.2) ∧ w'.cell? ⟨wr.heap.size, 0, none⟩ = some (.string x.1) ∧ w'.cell? ⟨wr.heap.size, 1, none⟩ = some (.int .i64 x.2.1) ∧ w'.cell? ⟨wr.heap.size, 2, none⟩ = some (.int .i64 x.2.2.1) ∧ w'.cell? ⟨wr.heap.size, 3, none⟩ = some (.string x.2.2.2)) (first | exact hS0 | exact hSk _ HBt | assumption) (first | (go_at_call 63; (with_reducible refine (hBf _).mono ?_); rintro e w6 ⟨rfl, HB6'⟩; have HBt := hd.trans (HB6'.mono hd.size); have HB6 := HB3.trans (HBt.mono HB3.size)))
            go_wp2
            go_roundw
            case rel => exact ⟨k + 1, hlt, by go_num, HRES.out, HB6⟩
            case measure => simp [intOf]; omega
          · rw [if_pos ⟨hk0', hbf⟩] at hres
            rw [decide_eq_false hbf] at hBf
            subst hres
            clear hy hj hx
            go_wp2_with (first | (go_at_call 62; (with_reducible refine (hM _).mono ?_); rintro e w1 ⟨rfl, HB1⟩; have hE1 := hE.below HB1; have HB3 := HB2.trans (HB1.mono HB2.size); have bb := (below_alloc wr (.cells #[.string x.1, .int .i64 x.2.1, .int .i64 x.2.2.1, .string x.2.2.2] 43)).trans (HB1.mono (below_alloc wr (.cells #[.string x.1, .int .i64 x.2.1, .int .i64 x.2.2.1, .string x.2.2.2] 43)).size)))
            have t0 := (bb.cell (World.block_lt_of_cell? _ _ p0)).trans p0
            have t1 := (bb.cell (World.block_lt_of_cell? _ _ p1)).trans p1
            have t2 := (bb.cell (World.block_lt_of_cell? _ _ p2)).trans p2
            have t3 := (bb.cell (World.block_lt_of_cell? _ _ p3)).trans p3
            obtain ⟨u0, u1, u2_, u3, -, -, -, -⟩ := hE1.read
            have hd : Below w1.heap.size w1 w1.drew := (Below.refl _ _).drew
            have hSk : ∀ W, Below w1.heap.size w1 W → Below w1.heap.size w1 W ∧ W.cell? (ad.add (j * 4)) = some (.string y.1) ∧ W.cell? ⟨(ad.add (j * 4)).block, (ad.add (j * 4)).off + 1, none⟩ = some (.int .i64 y.2.1) ∧ W.cell? ⟨(ad.add (j * 4)).block, (ad.add (j * 4)).off + 2, none⟩ = some (.int .i64 y.2.2.1) ∧ W.cell? ⟨(ad.add (j * 4)).block, (ad.add (j * 4)).off + 3, none⟩ = some (.string y.2.2.2) ∧ W.cell? ⟨wr.heap.size, 0, none⟩ = some (.string x.1) ∧ W.cell? ⟨wr.heap.size, 1, none⟩ = some (.int .i64 x.2.1) ∧ W.cell? ⟨wr.heap.size, 2, none⟩ = some (.int .i64 x.2.2.1) ∧ W.cell? ⟨wr.heap.size, 3, none⟩ = some (.string x.2.2.2) := fun W h => ⟨h, (h.cell (World.block_lt_of_cell? _ _ t0)).trans t0, (h.cell (World.block_lt_of_cell? _ _ t1)).trans t1, (h.cell (World.block_lt_of_cell? _ _ t2)).trans t2, (h.cell (World.block_lt_of_cell? _ _ t3)).trans t3, (h.cell (World.block_lt_of_cell? _ _ u0)).trans u0, (h.cell (World.block_lt_of_cell? _ _ u1)).trans u1, (h.cell (World.block_lt_of_cell? _ _ u2_)).trans u2_, (h.cell (World.block_lt_of_cell? _ _ u3)).trans u3⟩
            have hS0 := hSk _ hd
            go_region_held3 (fun w' => Below w1.heap.size w1 w' ∧ w'.cell? (ad.add (j * 4)) = some (.string y.1) ∧ w'.cell? ⟨(ad.add (j * 4)).block, (ad.add (j * 4)).off + 1, none⟩ = some (.int .i64 y.2.1) ∧ w'.cell? ⟨(ad.add (j * 4)).block, (ad.add (j * 4)).off + 2, none⟩ = some (.int .i64 y.2.2.1) ∧ w'.cell? ⟨(ad.add (j * 4)).block, (ad.add (j * 4)).off + 3, none⟩ = some (.string y.2.2.2) ∧ w'.cell? ⟨wr.heap.size, 0, none⟩ = some (.string x.1) ∧ w'.cell? ⟨wr.heap.size, 1, none⟩ = some (.int .i64 x.2.1) ∧ w'.cell? ⟨wr.heap.size, 2, none⟩ = some (.int .i64 x.2.2.1) ∧ w'.cell? ⟨wr.heap.size, 3, none⟩ = some (.string x.2.2.2)) (first | exact hS0 | exact hSk _ HBt | assumption) (first | (go_at_call 63; (with_reducible refine (hBf _).mono ?_); rintro e w6 ⟨rfl, HB6'⟩; have HBt := hd.trans (HB6'.mono hd.size); have HB6 := HB3.trans (HBt.mono HB3.size)))
            go_wp2
            go_ret
            exact ⟨rfl, HB6⟩
      · rw [if_pos hm] at hres
        rw [decide_eq_false hm] at hM
        subst hres
        clear hx
        go_wp2_with (first | (go_at_call 62; (with_reducible refine (hM _).mono ?_); rintro e w1 ⟨rfl, HB1⟩; have HB3 := HB2.trans (HB1.mono HB2.size)))
        go_ret
        exact ⟨rfl, HB3⟩
    · obtain rfl : k = n := Nat.le_antisymm hk (Nat.not_lt.1 hlt)
      rw [Nat.sub_self, ordL] at hres
      subst hres
      go_wp2
      go_ret
      exact ⟨rfl, HB⟩
theorem Check_any (A : Option Addr) (c n : Nat) (l : List Ent) (w : World) (hn : l.length = n) (hr : RdE w A c l) (hl : n ≤ 9223372036854775806) :
    Calls Try.prog 65 #[.slice A n c] w fun e w' => e = .returned (.int .i64 (chkE l)) ∧ Below w.heap.size w w' := by
  have hO := fun W (h : RdE W A c l) => Ordered_any A c n l W hn h hl
  have hz : chkE l = if n < 1 ∨ 64 < n then 3 else ordE l := by rw [chkE, hn]
  rw [hz]
  clear hz hn
  by_cases h1 : n < 1
  · rw [if_pos (.inl h1)]
    have h1i : (n : Int) < 1 := by omega
    go_enter Try.func65, Try.ntmps65
    go_wp2
    go_ret
    exact ⟨rfl, Below.refl _ _⟩
  · have h1i : ¬ (n : Int) < 1 := by omega
    by_cases h2 : 64 < n
    · rw [if_pos (.inr h2)]
      have h2i : 64 < (n : Int) := by omega
      go_enter Try.func65, Try.ntmps65
      go_wp2
      go_ret
      exact ⟨rfl, Below.refl _ _⟩
    · rw [if_neg (by omega)]
      have h2i : ¬ 64 < (n : Int) := by omega
      generalize ordE l = z at *
      go_enter Try.func65, Try.ntmps65
      go_wp2_with (first | (go_at_call 26; (with_reducible refine (hO _ hr).mono ?_); rintro e w1 ⟨rfl, HB1⟩))
      go_ret
      exact ⟨rfl, HB1⟩
end Go.Proofs.Ytefcepjffeiaoaa
end

section
/- Block: how much two keys have in common, walked. -/
namespace Go.Proofs.Ytefcepjffeiaoaa
open Go.RowKit Go.Proofs.YtefcepjffeiaoaaW.PrintWords
set_option linter.unusedVariables false

theorem bl_at (s : ByteArray) (i : Nat) (h : i < s.size) : (bl s).getD i 0 = s[i]'h := by
  have hl : i < (bl s).length := by rw [bl_length]; exact h
  rw [List.getD_eq_getElem?_getD, List.getElem?_eq_getElem hl]
  rfl
set_option maxRecDepth 100000 in
set_option maxHeartbeats 1600000 in
theorem common_any (a b : ByteArray) (w : World) (ha : a.size ≤ 9223372036854775806) (hb : b.size ≤ 9223372036854775806) :
    Calls Try.prog 66 #[.string a, .string b] w fun e w' => e = .returned (.int .i64 ((comm (bl a) (bl b) : Nat) : Int)) ∧ Below w.heap.size w w' := by
  obtain ⟨R, hR⟩ : ∃ R, comm (bl a) (bl b) = R := ⟨_, rfl⟩
  have HR := hide hR
  rw [hR]
  clear hR
  obtain ⟨M, hM⟩ : ∃ M, min a.size b.size = M := ⟨_, rfl⟩
  have hMi : min (a.size : Int) (b.size : Int) = (M : Int) := by omega
  have HM := hide hM
  clear hM
  go_enter Try.func66, Try.ntmps66
  go_wp2
  go_loopw [5] (fun i wr => ∃ j : Nat, j ≤ M ∧ i = .int .i64 (j : Int) ∧ R = j + comm ((bl a).drop j) ((bl b).drop j) ∧ Below w.heap.size w wr) (fun i _ => M - (intOf i).toNat)
  case atStart => exact ⟨0, Nat.zero_le _, rfl, by rw [← HR.out, List.drop_zero, List.drop_zero, Nat.zero_add], Below.refl _ _⟩
  case round =>
    obtain ⟨j, hj, rfl, hres, HB⟩ := hrel
    by_cases hlt : j < M
    · have hlti : (j : Int) < (M : Int) := Int.ofNat_lt.2 hlt
      have h1 : j < a.size := by have := HM.out; omega
      have h2 : j < b.size := by have := HM.out; omega
      have h1i : (j : Int) < (a.size : Int) := Int.ofNat_lt.2 h1
      have h2i : (j : Int) < (b.size : Int) := Int.ofNat_lt.2 h2
      have e1 := drop_get (bl a) 0 j (by rw [bl_length]; exact h1)
      have e2 := drop_get (bl b) 0 j (by rw [bl_length]; exact h2)
      rw [e1, e2, comm, bl_at a j h1, bl_at b j h2] at hres
      clear e1 e2
      by_cases hab : a[j]'h1 = b[j]'h2
      · have hq : (((a[j]'h1).toNat : Int) == ((b[j]'h2).toNat : Int)) = true := by rw [hab]; simp
        rw [if_pos hab] at hres
        have hres2 : R = (j + 1) + comm ((bl a).drop (j + 1)) ((bl b).drop (j + 1)) := by rw [hres]; omega
        have HRES := hide hres2
        clear hres hres2 hab
        go_wp2
        go_region_held3 (fun w' => Below w.heap.size w w') (first | exact HB.drew | assumption) (first | (go_at_call 77))
        all_goals go_wp2
        all_goals go_roundw
        all_goals first | exact ⟨j + 1, hlt, by go_num, HRES.out, HB.drew⟩ | (simp [intOf]; omega)
      · have hq : (((a[j]'h1).toNat : Int) == ((b[j]'h2).toNat : Int)) = false := beq_eq_false_iff_ne.2 (fun e => hab (UInt8.toNat_inj.1 (Int.ofNat_inj.1 e)))
        rw [if_neg hab, Nat.add_zero] at hres
        subst hres
        clear hab
        go_wp2
        go_region_held3 (fun w' => Below w.heap.size w w') (first | exact HB.drew | assumption) (first | (go_at_call 77))
        all_goals go_wp2
        all_goals go_ret
        all_goals exact ⟨rfl, HB.drew⟩
    · obtain rfl : j = M := Nat.le_antisymm hj (Nat.not_lt.1 hlt)
      have hres2 : R = j := by
        have hm := HM.out
        rw [hres]
        have : comm ((bl a).drop j) ((bl b).drop j) = 0 := by
          rcases Nat.le_total a.size b.size with h | h
          · have : (bl a).drop j = [] := List.drop_eq_nil_iff.2 (by rw [bl_length]; omega)
            rw [this]; rfl
          · have : (bl b).drop j = [] := List.drop_eq_nil_iff.2 (by rw [bl_length]; omega)
            rw [this]; cases (bl a).drop j <;> rfl
        rw [this, Nat.add_zero]
      clear hres
      subst hres2
      go_wp2
      refine wp_region_below w.heap.size w HB (by kernel_rfl) (by kernel_rfl) ?_
      repeat (go_big_quiet_step ((intro hb; rfl)))
      refine wpQuiet_nil ?_
      intro w5 HC5
      go_wp2
      go_ret
      exact ⟨rfl, HC5⟩
end Go.Proofs.Ytefcepjffeiaoaa
end

section
/- Block: octets and texts appended, and where the row then lies; rows apart. -/
namespace Go.Proofs.Ytefcepjffeiaoaa
open Go.RowKit Go.Proofs.YtefcepjffeiaoaaW.PrintWords
set_option linter.unusedVariables false

/-- two rows that do not share their block -/
def Dis (v v' : Value) : Prop := ∀ k, v.ownBlock = some k → v'.ownBlock ≠ some k
theorem Dis.nil (v' : Value) : Dis (.slice none 0 0) v' := fun k h => by cases h
theorem Dis.symm {v v' : Value} (h : Dis v v') : Dis v' v := fun k h1 h2 => h k h2 h1
theorem Dis.step {W : World} {base : Nat} {v v1 vt : Value} {xs : List UInt8} (D : Dis v vt) (hat : v1.ownBlock = v.ownBlock ∨ ∃ b, v1.ownBlock = some b ∧ W.heap.size ≤ b) (h : OwB W base vt xs) : Dis v1 vt := by
  intro k hk h2
  rcases hat with e | ⟨b, e, hb⟩
  · exact D k (e ▸ hk) h2
  · have := h.lt k h2
    rw [e] at hk
    injection hk with hk
    omega
theorem OwB.apart {w w1 : World} {base : Nat} {v vt : Value} {xs : List UInt8} (h : OwB w base vt xs) (D : Dis v vt) (hg : w.grownBy w1 v.ownBlock) : OwB w1 base vt xs :=
  own_other h hg (by
    cases hv : vt.ownBlock with
    | none => exact .inl rfl
    | some k => exact .inr fun e => D k e.symm hv)
theorem str_hat {P : Program} (w : World) (base : Nat) (t u ty e : TypeId) (i : TypeInfo) (ht : P.underlying t = some (.slice e)) (hu : P.underlying u = some .string) (hi : P.info? e = some i) (hz : i.zero = some (.int .u8 0))
    (hsize : i.size = 1) (hby : i.bytes = 1) (v : Value) (n : Nat) (xs : List Value) (hown : w.ownsRow base e 1 v n xs) (s : ByteArray) (h63 : n + s.size ≤ maxLen) (hbytes : n + s.size ≤ 140737488355328)
    (v' : Value) (w' : World) (hr : (Builtin.append_ #[t, u] ty #[v, .string s]).run P w = .ok v' w') : v'.ownBlock = v.ownBlock ∨ ∃ b, v'.ownBlock = some b ∧ w.heap.size ≤ b := by
  have hsmall : n + s.size ≤ 9223372036854775807 := by simp only [maxLen] at h63; omega
  have hxl : xs.length = n := by simpa using hown.1
  rcases hown.2 with ⟨rfl, rfl⟩ | ⟨g, cap, cur, rfl, hbg, hg, hnc, hcm, hcs, htake⟩
  · by_cases hm : s.size = 0
    · have hf := Lib.run_firstCells_string (P := P) w 1 s
      rw [hm] at hf
      simp [Builtin.append_, run_underlying ht, run_underlying hu, sizeOf, typeInfo, hi, hsize, Builtin.lenOf, hm, hf] at hr
      rw [← hr.1]
      exact .inl rfl
    · have h2 := run_append_nil_string (P := P) w t u ty e i (.int .u8 0) ht hu hi hz s (by omega) (by omega) (by rw [hby]; omega)
      rw [h2] at hr
      injection hr with h3 h4
      rw [← h3]
      exact .inr ⟨w.heap.size, rfl, Nat.le_refl _⟩
  · by_cases hroom : n + s.size ≤ cap
    · have hcs' : cur.size = cap := by simpa using hcs
      have h2 := Lib.run_append_room_string (P := P) w t u ty e i ht hu hi hsize g n cap cur hg s hroom (by omega)
      rw [h2] at hr
      injection hr with h3 h4
      rw [← h3]
      exact .inl rfl
    · have holds : ∀ j u, xs[j]? = some u → w.cell? ((⟨g, 0, none⟩ : Addr).add j) = some u := hown.cells (g := g) rfl
      have h2 := Lib.run_append_grow_string (P := P) w t u ty e i (.int .u8 0) ht hu hi hz ⟨g, 0, none⟩ n cap xs (by rw [hsize]; simpa using hxl) holds s (by omega) (by omega) (by rw [hby]; exact growslice_fits (by omega) (by omega))
      rw [h2] at hr
      injection hr with h3 h4
      rw [← h3]
      exact .inr ⟨w.heap.size, rfl, Nat.le_refl _⟩
set_option maxRecDepth 100000 in
/-- a text appended: the run -/
theorem str_run {w0 W : World} (base : Nat) (ty : TypeId) (v : Value) (xs : List UInt8) (y : ByteArray) (HO : OwB W base v xs) (HB : Below base w0 W) (hbase : base ≤ W.heap.size) (hl : xs.length + y.size ≤ 140737488355328) :
    ∃ v1 w1, (Builtin.append_ #[23, 9] ty #[v, .string y]).run Try.prog W = .ok v1 w1 ∧ OwB w1 base v1 (xs ++ bl y) ∧ Below base w0 w1 ∧ W.grownBy w1 v.ownBlock ∧ (v1.ownBlock = v.ownBlock ∨ ∃ b, v1.ownBlock = some b ∧ W.heap.size ≤ b) := by
  obtain ⟨i0, hi, hzz⟩ := Option.map_eq_some_iff.1 info_u8
  simp only [Prod.mk.injEq] at hzz
  obtain ⟨hz0, hz1, hz2⟩ := hzz
  have HO' : W.ownsRow base 5 1 v xs.length (nums .u8 (xs.map fun b => (b.toNat : Int))) := by rw [nums_eu8]; exact HO
  obtain ⟨v1, w1, hr, h2, h3, -⟩ := Lib.run_append_own_string (P := Try.prog) W base 23 9 ty 5 i0 Try.underlying23 Try.underlying9 hi hz0 hz1 hz2 v xs.length _ HO' y (by simp only [maxLen]; omega) hl hbase
  have hat := str_hat (P := Try.prog) W base 23 9 ty 5 i0 Try.underlying23 Try.underlying9 hi hz0 hz1 hz2 v xs.length _ HO' y (by simp only [maxLen]; omega) hl v1 w1 hr
  refine ⟨v1, w1, hr, ?_, HB.grown h3 hbase (own_base HO), h3, hat⟩
  have hl2 : (xs ++ bl y).length = xs.length + y.size := by rw [List.length_append, bl_length]
  have hc : nums .u8 (xs.map fun b => (b.toNat : Int)) ++ Lib.strCells y = nums .u8 ((xs ++ bl y).map fun b => (b.toNat : Int)) := by
    rw [List.map_append, nums_append]
    congr 1
    simp [nums, bl, Lib.strCells]
  rw [hc, ← hl2] at h2
  rw [nums_eu8] at h2
  exact h2
section
variable {ops : Array Oper} {rest : List Oper} {o : Oper} {a : Act} {Q : Exit → Act → World → Prop} {K : Act → World → Prop}
theorem app_strH {w0 W : World} (base : Nat) (hgd : o.guard = none) (s x : Operand)
    (ho : o.op = .call { callee := .builtin .append, args := #[s, x], argTypes := #[23, 9] })
    (v : Value) (xs : List UInt8) (y : ByteArray) (hs : a.eval s = v) (hx : a.eval x = .string y)
    (HO : OwB W base v xs) (HB : Below base w0 W) (hbase : base ≤ W.heap.size) (hl : xs.length + y.size ≤ 140737488355328)
    (h : ∀ v1 w1, OwB w1 base v1 (xs ++ bl y) → Below base w0 w1 → W.grownBy w1 v.ownBlock → (v1.ownBlock = v.ownBlock ∨ ∃ b, v1.ownBlock = some b ∧ W.heap.size ≤ b) → wpList Try.prog ops Q rest (a.put o.dst v1) w1) :
    wpList Try.prog ops Q (o :: rest) a W := by
  refine wpList_plain hgd fun K hK => ?_
  obtain ⟨v1, w1, hr, h1, h2, h3, h4⟩ := str_run (w0 := w0) base o.type v xs y HO HB hbase hl
  unfold Oper.wp execOp
  simp only [ho, resolve, invoke, builtin, Sem.run_bind, Sem.run_pure, Result.andThen_ok, List.map_toArray, List.map_cons, List.map_nil, hs, hx, hr]
  exact hK _ _ (h v1 w1 h1 h2 h3 h4)
theorem step_strH {w0 W : World} (base : Nat) (hw : Region.wanted o (yielded ops a.tmps) = true) (s x : Operand)
    (ho : o.op = .call { callee := .builtin .append, args := #[s, x], argTypes := #[23, 9] })
    (v : Value) (xs : List UInt8) (y : ByteArray) (hs : a.eval s = v) (hx : a.eval x = .string y)
    (HO : OwB W base v xs) (HB : Below base w0 W) (hbase : base ≤ W.heap.size) (hl : xs.length + y.size ≤ 140737488355328)
    (h : ∀ v1 w1, OwB w1 base v1 (xs ++ bl y) → Below base w0 w1 → W.grownBy w1 v.ownBlock → (v1.ownBlock = v.ownBlock ∨ ∃ b, v1.ownBlock = some b ∧ W.heap.size ≤ b) → K (a.put o.dst v1) w1) :
    if Region.wanted o (yielded ops a.tmps) = true then Oper.wp Try.prog o a W K Q else K (a.put o.dst undef) W := by
  rw [if_pos hw]
  obtain ⟨v1, w1, hr, h1, h2, h3, h4⟩ := str_run (w0 := w0) base o.type v xs y HO HB hbase hl
  unfold Oper.wp execOp
  simp only [ho, resolve, invoke, builtin, Sem.run_bind, Sem.run_pure, Result.andThen_ok, List.map_toArray, List.map_cons, List.map_nil, hs, hx, hr]
  exact h v1 w1 h1 h2 h3 h4
theorem step_rowH {w0 W : World} (base : Nat) (hw : Region.wanted o (yielded ops a.tmps) = true) (s x : Operand)
    (ho : o.op = .call { callee := .builtin .append, args := #[s, x], argTypes := #[23, 23] })
    (v : Value) (xs ys : List UInt8) (A : Option Addr) (c : Nat) (hs : a.eval s = v) (hx : a.eval x = .slice A ys.length c)
    (HO : OwB W base v xs) (HR : RdB W A c ys) (HB : Below base w0 W) (hbase : base ≤ W.heap.size) (hl : xs.length + ys.length ≤ 140737488355328)
    (h : ∀ v1 w1, OwB w1 base v1 (xs ++ ys) → Below base w0 w1 → W.grownBy w1 v.ownBlock → (v1.ownBlock = v.ownBlock ∨ ∃ b, v1.ownBlock = some b ∧ W.heap.size ≤ b) → K (a.put o.dst v1) w1) :
    if Region.wanted o (yielded ops a.tmps) = true then Oper.wp Try.prog o a W K Q else K (a.put o.dst undef) W :=
  Kd.R_append_rows_step kU8 (Rr := fun (x : UInt8) cs => cs = [eu8 x]) base hw s x 23 5 (.int .u8 0) 1 ho Try.underlying23 info_u8 rfl (by decide) (by decide) v xs ys A ys.length c (fun _ => True) (fun _ => False) hs hx
    (Kd.R_of_own HO (fun _ _ => trivial)) (rrow_of HR.2) (fun _ _ h => h) (fun _ h => h.elim) (fun _ _ => trivial) HB hbase (by omega) (fun v1 w1 h1 h2 h3 h4 => h v1 w1 (Kd.own_of_R h1) h2 h3 h4)
end
end Go.Proofs.Ytefcepjffeiaoaa
end

section
/- Block: three texts of octets put together. -/
namespace Go.Proofs.Ytefcepjffeiaoaa
open Go.RowKit Go.Proofs.YtefcepjffeiaoaaW.PrintWords
set_option linter.unusedVariables false

/-- of three, laid out for the call -/
theorem Concat_three (A1 A2 A3 : Option Addr) (c1 c2 c3 n1 n2 n3 n : Nat) (x1 x2 x3 : List UInt8) (W : World) (hn : W.heap.size = n) (h1 : RdB W A1 c1 x1) (h2 : RdB W A2 c2 x2) (h3 : RdB W A3 c3 x3) (l1 : x1.length = n1) (l2 : x2.length = n2) (l3 : x3.length = n3) (ht : x1.length + x2.length + x3.length ≤ 140737488355328) :
    Calls Try.prog 29 #[.slice (some ⟨n, 0, none⟩) 3 3] (W.alloc (.cells #[.slice A1 n1 c1, .slice A2 n2 c2, .slice A3 n3 c3] 23)) fun e w' => ∃ v, e = .returned v ∧ OwB w' W.heap.size v (x1 ++ (x2 ++ x3)) ∧ Below W.heap.size W w' := by
  subst hn
  subst l1
  subst l2
  subst l3
  have hb : Below W.heap.size W (W.alloc (.cells #[.slice A1 x1.length c1, .slice A2 x2.length c2, .slice A3 x3.length c3] 23)) := (Below.refl _ _).alloc (Nat.le_refl _) _
  refine (Concat_any (some ⟨W.heap.size, 0, none⟩) 3 [(A1, c1, x1), (A2, c2, x2), (A3, c3, x3)] _ ⟨rfl, by simp, fun _ => ⟨_, rfl, fun j hj => ?_⟩⟩ ?_ (by simp [total]; omega)).mono ?_
  · rw [add_plain, World.cell?_alloc_mark]
    have : j = 0 ∨ j = 1 ∨ j = 2 := by simp at hj; omega
    rcases this with rfl | rfl | rfl <;> rfl
  · intro s hs
    simp only [List.mem_cons, List.not_mem_nil, or_false] at hs
    rcases hs with rfl | rfl | rfl
    · exact h1.below hb
    · exact h2.below hb
    · exact h3.below hb
  · rintro e w' ⟨v, rfl, HO, HB⟩
    exact ⟨v, rfl, by simpa [joined] using HO.lower (by simp), hb.trans (HB.mono (by simp))⟩
end Go.Proofs.Ytefcepjffeiaoaa
end

section
/- Block: the walk of Encode. -/
namespace Go.Proofs.Ytefcepjffeiaoaa
open Go.RowKit Go.Proofs.YtefcepjffeiaoaaW.PrintWords
set_option linter.unusedVariables false

theorem keep_last (l : List Ent) (k : Nat) (s : ByteArray) (h : k % 4 ≠ 0 → s = (l.getD (k - 1) zEnt).1) (hk : k % 4 ≠ 0) : comm (bl s) (bl (l.getD k zEnt).1) = keepE l k := by rw [keepE, if_neg hk, h hk]
theorem keep_zero (l : List Ent) (k : Nat) (hk : k % 4 = 0) : comm (bl ⟨#[]⟩) (bl (l.getD k zEnt).1) = keepE l k := by rw [keepE, if_pos hk]; rfl
theorem rem4 (k : Nat) : (k : Int).tmod 4 = ((k % 4 : Nat) : Int) := by rw [Int.tmod_eq_emod_of_nonneg (by omega)]; omega
/-- a version that may be, in natural numbers -/
theorem may_nat (y : Ent) (h : mayE y) : ∃ (xk xv : ByteArray) (qn : Nat) (kd : UInt8), y = (xk, (qn : Int), (kd.toNat : Int), xv) ∧ xk.size ≤ 96 ∧ xv.size ≤ 512 ∧ qn ≤ 1099511627776 := by
  obtain ⟨k, q, d, v⟩ := y
  obtain ⟨h1, h2, h3, h4, h5, h6, h7⟩ := h
  simp only at h1 h2 h3 h4 h5 h6 h7
  refine ⟨k, v, q.toNat, UInt8.ofNat d.toNat, ?_, h2, h6, by omega⟩
  have e1 : ((q.toNat : Nat) : Int) = q := by omega
  have e2 : ((UInt8.ofNat d.toNat).toNat : Int) = d := by rcases h5 with h | h <;> rw [h] <;> rfl
  rw [e1, e2]
/-- the numbers ahead of a version -/
def preE (q sq qn vn : Nat) : Nat → List UInt8
  | 0 => []
  | 1 => put q
  | 2 => put q ++ put sq
  | 3 => put q ++ put sq ++ put qn
  | _ => put q ++ put sq ++ put qn ++ put vn
theorem preE_le (q sq qn vn m : Nat) : (preE q sq qn vn m).length ≤ 36 := by
  have h1 := vsize_le q
  have h2 := vsize_le sq
  have h3 := vsize_le qn
  have h4 := vsize_le vn
  unfold preE
  split <;> simp only [List.length_append, put_length, List.length_nil] <;> omega
theorem wrap_u8n (t : UInt8) : IntKind.u8.wrap (t.toNat : Int) = (t.toNat : Int) := by have := t.toNat_lt; rw [IntKind.wrap_u8]; omega
theorem u8_hi (lb : Nat) (h : lb ≤ 65535) : (lb : Int) / 256 = ((UInt8.ofNat (lb / 256)).toNat : Int) := by rw [UInt8.toNat_ofNat']; omega
theorem u8_lo (lb : Nat) : (lb : Int) % 256 = ((UInt8.ofNat lb).toNat : Int) := by rw [UInt8.toNat_ofNat']; omega
theorem Eb.aside {w w1 : World} {g : Nat} {x : Ent} (h : Eb w g x) {base : Nat} {v : Value} {xs : List UInt8} (HO : OwB w base v xs) (hg : w.grownBy w1 v.ownBlock) : Eb w1 g x := h.grown hg (own_ne HO h (by decide))
theorem ext_drop (s : ByteArray) (q : Nat) : bl (s.extract q s.size) = (bl s).drop q := by
  simp [bl]
  rw [List.take_of_length_le]
  rw [List.length_drop, Array.length_toList]
  exact Nat.le_refl _
theorem idx4 (a b c d : Value) (W : World) : (Instr.index 100 (.agg #[a, b, c, d]) (.int .i64 0)).run Try.prog W = .ok a W ∧ (Instr.index 100 (.agg #[a, b, c, d]) (.int .i64 1)).run Try.prog W = .ok b W ∧ (Instr.index 100 (.agg #[a, b, c, d]) (.int .i64 2)).run Try.prog W = .ok c W ∧ (Instr.index 100 (.agg #[a, b, c, d]) (.int .i64 3)).run Try.prog W = .ok d W := by
  have hs : (Try.prog.info? 3).map (·.size) = some 1 := by kernel_rfl
  obtain ⟨i0, hi, h1⟩ := Option.map_eq_some_iff.1 hs
  refine ⟨?_, ?_, ?_, ?_⟩ <;> simp [Instr.index, run_underlying Try.underlying100, asIntOf, go_sem, sizeOf, typeInfo, hi, h1]
set_option maxRecDepth 100000 in
set_option maxHeartbeats 6400000 in
theorem Encode_any (A : Option Addr) (c n : Nat) (l : List Ent) (w : World) (hn : l.length = n) (hr : RdE w A c l) (hl : n ≤ 9223372036854775806) :
    Calls Try.prog 28 #[.slice A n c] w fun e w' => ∃ v, e = .returned (.tuple #[v, .int .i64 (chkE l)]) ∧ OwB w' w.heap.size v (blkX l) ∧ Below w.heap.size w w' := by
  have hC := Check_any A c n l w hn hr hl
  by_cases hz : chkE l = 0
  · obtain ⟨hn1, hn2, ho⟩ := chkE_ok l hz
    rw [hz] at hC
    have hX : blkX l = guarded (blkB l) := by rw [blkX, if_pos hz]
    rw [hz, hX]
    have HX := hide hX
    rw [hn] at hn1 hn2
    have HN := hide hn
    have HO_ := hide ho
    clear hz hX hn ho
    go_enter Try.func28, Try.ntmps28
    go_wp2_with (first | (go_at_call 65; (with_reducible refine hC.mono ?_); rintro e w1 ⟨rfl, HB1⟩))
    clear hC
    go_loopw [20, 5, 6, 7] (fun i vb vt la wr => ∃ (k : Nat) (s : ByteArray), k ≤ n ∧ i = .int .i64 (k : Int) ∧ OwB wr w.heap.size vb (entsB l k) ∧ OwB wr w.heap.size vt (tailB l k) ∧ Dis vb vt ∧ la = .string s ∧ (k % 4 ≠ 0 → s = (l.getD (k - 1) zEnt).1) ∧ s.size ≤ 96 ∧ Below w.heap.size w wr) (fun i _ _ _ _ => n - (intOf i).toNat)
    case atStart => exact ⟨0, ⟨#[]⟩, Nat.zero_le _, rfl, OwB.zero _ _, OwB.zero _ _, Dis.nil _, rfl, fun h => absurd rfl h, Nat.zero_le _, HB1⟩
    case round =>
      obtain ⟨k, s, hk, rfl, HOb, HOt, HD, rfl, hs, hsz, HB⟩ := hrel
      obtain ⟨wo, rfl⟩ : ∃ z : World, z = wr := ⟨wr, rfl⟩
      obtain ⟨Ab, cb, hvb, hrb⟩ := HOb.rd
      subst hvb
      obtain ⟨At, ct, hvt, hrt⟩ := HOt.rd
      subst hvt
      by_cases hlt : k < n
      · have hlti : (k : Int) < (n : Int) := Int.ofNat_lt.2 hlt
        obtain ⟨ad, rfl, x0, x1, x2, x3⟩ := RdE.at4 (hr.below HB) k (by rw [HN.out]; exact hlt)
        obtain ⟨hm, -⟩ := ordE_may l HO_.out k (by rw [HN.out]; exact hlt)
        have hkl := keep_last l k s hs
        have hkz := keep_zero l k
        obtain ⟨kp1, kp2, kp3⟩ := keepE_le l k
        have htl : tailB l (k + 1) = if k % 4 = 0 then tailB l k ++ [UInt8.ofNat ((entsB l k).length / 256), UInt8.ofNat (entsB l k).length] else tailB l k := rfl
        have hel : entsB l (k + 1) = entsB l k ++ entB (keepE l k) (l.getD k zEnt) := rfl
        have hlb := entsB_length l HO_.out k (by rw [HN.out]; exact hk)
        have hltl := tailB_length l k
        obtain ⟨xk, xv, qn, kd, hx, hxk, hxv, hqn⟩ := may_nat _ hm
        have HXK := hide hx
        rw [hx] at hm hkl hkz kp1 x0 x1 x2 x3 hel
        simp only at hm hkl hkz kp1 x0 x1 x2 x3 hel
        obtain ⟨q, hq⟩ : ∃ q, keepE l k = q := ⟨_, rfl⟩
        rw [hq] at kp1 hkl hkz hel
        obtain ⟨lb, hlbe⟩ : ∃ lb, (entsB l k).length = lb := ⟨_, rfl⟩
        obtain ⟨lt, hlte⟩ : ∃ lt, (tailB l k).length = lt := ⟨_, rfl⟩
        obtain ⟨xs, hxs⟩ : ∃ xs, xk.size = xs := ⟨_, rfl⟩
        obtain ⟨vn, hvn⟩ : ∃ vn, xv.size = vn := ⟨_, rfl⟩
        obtain ⟨sq, hsq⟩ : ∃ sq, xs - q = sq := ⟨_, rfl⟩
        rw [hxs] at kp1 hxk
        rw [hvn] at hxv
        have hsqi : (xs : Int) - (q : Int) = (sq : Int) := by omega
        have hlb2 : lb ≤ 41536 := by omega
        have hlt2 : lt ≤ 64 := by omega
        have u1 := u8_hi lb (by omega)
        have u2_ := u8_lo lb
        obtain ⟨t1, ht1⟩ : ∃ t1, UInt8.ofNat (lb / 256) = t1 := ⟨_, rfl⟩
        obtain ⟨t2, ht2⟩ : ∃ t2, UInt8.ofNat lb = t2 := ⟨_, rfl⟩
        rw [hlbe, ht1, ht2] at htl
        rw [ht1] at u1
        rw [ht2] at u2_
        have wt1 := wrap_u8n t1
        have wt2 := wrap_u8n t2
        have wkd := wrap_u8n kd
        generalize entsB l k = Bk at *
        generalize tailB l k = Tk at *
        have HEL := hide hel
        have HTL := hide htl
        have hE9 : Eb _ wo.heap.size (xk, (qn : Int), (kd.toNat : Int), xv) := Eb.new wo (xk, (qn : Int), (kd.toNat : Int), xv)
        have bA := below_alloc wo (.cells #[.string xk, .int .i64 (qn : Int), .int .i64 (kd.toNat : Int), .string xv] 43)
        have HBa := HB.trans (bA.mono HB.size)
        have HOb1 := HOb.below bA
        have HOt1 := HOt.below bA
        have HKL := hide hkl
        have HKZ := hide hkz
        have HLB := hide hlbe
        have HLT := hide hlte
        have hP := fun (N : Nat) (h : N ≤ 1099511627776) W => Put_any N (Nat.lt_of_le_of_lt h (by decide)) W
        have HXS := hide hxs
        have HVN := hide hvn
        have HSQ := hide hsq
        rw [hlbe] at HOb HOb1 HD ⊢
        rw [hlte] at HOt HOt1 HD ⊢
        clear hel htl hs kp2 kp3 hq hkl hkz hm hx hlb hltl hlbe hlte hrb hrt ht1 ht2 HOb HOt
        by_cases h4 : k % 4 = 0
        · have r4 : (k : Int).tmod 4 = 0 := by rw [rem4, h4]; rfl
          have hkz := HKZ.out h4
          have hcm := fun W => common_any ⟨#[]⟩ xk W (by decide) (by rw [HXS.out]; omega)
          have htl := HTL.out
          rw [if_pos h4] at htl
          have HTZ := hide htl
          rw [hkz] at hcm
          clear hkz htl h4
          have bT := below_alloc (wo.alloc (.cells #[.string xk, .int .i64 (qn : Int), .int .i64 (kd.toNat : Int), .string xv] 43)) (.cells #[.int .u8 (t1.toNat : Int), .int .u8 (t2.toNat : Int)] 5)
          obtain ⟨ltt, hltt⟩ : ∃ ltt, (Tk ++ [t1, t2]).length = ltt := ⟨_, rfl⟩
          have HLTT := hide hltt
          clear hltt
          have HOt2 := HOt1.below bT
          have HOb2 := HOb1.below bT
          have hE2 := hE9.below bT
          have HBt := HBa.alloc HBa.size (.cells #[.int .u8 (t1.toNat : Int), .int .u8 (t2.toNat : Int)] 5)
          go_wp2_with (first | (at_builtin; refine app_row (w0 := w) (W := ((wo.alloc (.cells #[.string xk, .int .i64 (qn : Int), .int .i64 (kd.toNat : Int), .string xv] 43)).alloc (.cells #[.int .u8 (t1.toNat : Int), .int .u8 (t2.toNat : Int)] 5))) w.heap.size rfl (.tmp 28) (.tmp 36) rfl (.slice At lt ct) Tk [t1, t2] (some ⟨wo.heap.size + 1, 0, none⟩) 2 (by rfl) (by rfl) HOt2 (RdB_lit [t1, t2] _ #[.int .u8 (t1.toNat : Int), .int .u8 (t2.toNat : Int)] 5 (0, 0) _ (World.size_alloc _ _) rfl (by show 2 ≤ 9223372036854775807; decide)) HBt HBt.size (by rw [HLT.out]; show lt + 2 ≤ _; omega) ?_; intro vt1 wt HOt3 HBt3 hgt hatt; obtain ⟨At1, ct1, hvt1, -⟩ := HOt3.rd; rw [HLTT.out] at hvt1; subst hvt1; have HOb3 := HOb2.apart HD.symm hgt; have HD3 := (Dis.step HD.symm hatt HOb2).symm; have hE3 := hE2.aside HOt2 hgt; obtain ⟨y80, y81, y82, y83, -, -, -, -⟩ := hE3.read) | (go_at_call 66; (with_reducible refine (hcm _).mono ?_); rintro e w2 ⟨rfl, HB2⟩; have HObZ := HOb3.below HB2; have HOtZ := HOt3.below HB2; have HDZ := HD3; have hEZ := hE3.below HB2; have HBZ := HBt3.trans (HB2.mono HBt3.size); obtain ⟨y90, y91, y92, y93, -, -, -, -⟩ := hEZ.read))
          go_loopw [54, 5] (fun iv vb wi => ∃ m : Nat, m ≤ 4 ∧ iv = .int .i64 (m : Int) ∧ OwB wi w.heap.size vb (Bk ++ preE q sq qn vn m) ∧ OwB wi w.heap.size (.slice At1 ltt ct1) (Tk ++ [t1, t2]) ∧ Dis vb (.slice At1 ltt ct1) ∧ Eb wi wo.heap.size (xk, (qn : Int), (kd.toNat : Int), xv) ∧ Below w.heap.size w wi) (fun iv _ _ => 4 - (intOf iv).toNat)
          case atStart => exact ⟨0, by decide, rfl, by rw [show Bk ++ preE q sq qn vn 0 = Bk from List.append_nil _]; exact HObZ, HOtZ, HDZ, hEZ, HBZ⟩
          case round =>
            obtain ⟨m, hm4, rfl, HObi, HOti, HDi, hEi, HBi⟩ := hrel
            obtain ⟨Ai, ci, hvi, -⟩ := HObi.rd
            subst hvi
            have hpl := preE_le q sq qn vn m
            obtain ⟨li, hli⟩ : ∃ li, (Bk ++ preE q sq qn vn m).length = li := ⟨_, rfl⟩
            have hli2 : li ≤ 41572 := by rw [← hli, List.length_append, HLB.out]; omega
            have HLI := hide hli
            rw [hli] at HObi HDi ⊢
            clear hli hpl HObZ HOtZ HDZ hEZ HBZ
            rcases (show m = 0 ∨ m = 1 ∨ m = 2 ∨ m = 3 ∨ m = 4 by omega) with rfl | rfl | rfl | rfl | rfl
            · have hix := fun a b c d W => (idx4 a b c d W).1
              have hPm := hP q (by omega)
              have hu64 : IntKind.u64.wrap (q : Int) = (q : Int) := by rw [IntKind.wrap_u64]; omega
              have hvs := vsize_le q
              go_wp2_with (first | (go_at_call 30; (with_reducible refine (hPm _).mono ?_); rintro e w5 ⟨v5, rfl, HO5, HB5⟩; obtain ⟨A5, c5, hv5, hr5⟩ := HO5.rd; subst hv5; have HB6 := HBi.trans (HB5.mono HBi.size)) | (at_builtin; refine app_row (w0 := w) (W := w5) w.heap.size rfl (.tmp 57) (.tmp 60) rfl (.slice Ai li ci) (Bk ++ preE q sq qn vn 0) (put q) A5 c5 (by rfl) (by rfl) (HObi.below HB5) hr5 HB6 HB6.size (by rw [HLI.out, put_length]; omega) ?_; intro v7 w7 HO7 HB7 hg7 hat7))
              go_roundw
              case rel => exact ⟨1, by decide, by go_num, by rw [List.append_assoc] at HO7; exact HO7, (HOti.below HB5).apart HDi hg7, Dis.step HDi hat7 (HOti.below HB5), (hEi.below HB5).aside (HObi.below HB5) hg7, HB7⟩
              case measure => simp [intOf]
            · have hix := fun a b c d W => (idx4 a b c d W).2.1
              have hPm := hP sq (by omega)
              have hu64 : IntKind.u64.wrap (sq : Int) = (sq : Int) := by rw [IntKind.wrap_u64]; omega
              have hvs := vsize_le sq
              go_wp2_with (first | (go_at_call 30; (with_reducible refine (hPm _).mono ?_); rintro e w5 ⟨v5, rfl, HO5, HB5⟩; obtain ⟨A5, c5, hv5, hr5⟩ := HO5.rd; subst hv5; have HB6 := HBi.trans (HB5.mono HBi.size)) | (at_builtin; refine app_row (w0 := w) (W := w5) w.heap.size rfl (.tmp 57) (.tmp 60) rfl (.slice Ai li ci) (Bk ++ preE q sq qn vn 1) (put sq) A5 c5 (by rfl) (by rfl) (HObi.below HB5) hr5 HB6 HB6.size (by rw [HLI.out, put_length]; omega) ?_; intro v7 w7 HO7 HB7 hg7 hat7))
              go_roundw
              case rel => exact ⟨2, by decide, by go_num, by rw [List.append_assoc] at HO7; exact HO7, (HOti.below HB5).apart HDi hg7, Dis.step HDi hat7 (HOti.below HB5), (hEi.below HB5).aside (HObi.below HB5) hg7, HB7⟩
              case measure => simp [intOf]
            · have hix := fun a b c d W => (idx4 a b c d W).2.2.1
              have hPm := hP qn (hqn)
              have hu64 : IntKind.u64.wrap (qn : Int) = (qn : Int) := by rw [IntKind.wrap_u64]; omega
              have hvs := vsize_le qn
              go_wp2_with (first | (go_at_call 30; (with_reducible refine (hPm _).mono ?_); rintro e w5 ⟨v5, rfl, HO5, HB5⟩; obtain ⟨A5, c5, hv5, hr5⟩ := HO5.rd; subst hv5; have HB6 := HBi.trans (HB5.mono HBi.size)) | (at_builtin; refine app_row (w0 := w) (W := w5) w.heap.size rfl (.tmp 57) (.tmp 60) rfl (.slice Ai li ci) (Bk ++ preE q sq qn vn 2) (put qn) A5 c5 (by rfl) (by rfl) (HObi.below HB5) hr5 HB6 HB6.size (by rw [HLI.out, put_length]; omega) ?_; intro v7 w7 HO7 HB7 hg7 hat7))
              go_roundw
              case rel => exact ⟨3, by decide, by go_num, by rw [List.append_assoc] at HO7; exact HO7, (HOti.below HB5).apart HDi hg7, Dis.step HDi hat7 (HOti.below HB5), (hEi.below HB5).aside (HObi.below HB5) hg7, HB7⟩
              case measure => simp [intOf]
            · have hix := fun a b c d W => (idx4 a b c d W).2.2.2
              have hPm := hP vn (by omega)
              have hu64 : IntKind.u64.wrap (vn : Int) = (vn : Int) := by rw [IntKind.wrap_u64]; omega
              have hvs := vsize_le vn
              go_wp2_with (first | (go_at_call 30; (with_reducible refine (hPm _).mono ?_); rintro e w5 ⟨v5, rfl, HO5, HB5⟩; obtain ⟨A5, c5, hv5, hr5⟩ := HO5.rd; subst hv5; have HB6 := HBi.trans (HB5.mono HBi.size)) | (at_builtin; refine app_row (w0 := w) (W := w5) w.heap.size rfl (.tmp 57) (.tmp 60) rfl (.slice Ai li ci) (Bk ++ preE q sq qn vn 3) (put vn) A5 c5 (by rfl) (by rfl) (HObi.below HB5) hr5 HB6 HB6.size (by rw [HLI.out, put_length]; omega) ?_; intro v7 w7 HO7 HB7 hg7 hat7))
              go_roundw
              case rel => exact ⟨4, by decide, by go_num, by rw [List.append_assoc] at HO7; exact HO7, (HOti.below HB5).apart HDi hg7, Dis.step HDi hat7 (HOti.below HB5), (hEi.below HB5).aside (HObi.below HB5) hg7, HB7⟩
              case measure => simp [intOf]
            · have hE0 := hEi
              obtain ⟨y0, y1, y2, y3, -, -, -, -⟩ := hE0.read
              go_wp2
              have hlk : li + 1 + xs + vn ≤ 140737488355328 := by omega
              have hqs : (q : Int) ≤ (xs : Int) := by omega
              have hSl : bl (xk.extract q xs) = (bl xk).drop q := by rw [← HXS.out]; exact ext_drop xk q
              have hSls : (xk.extract q xs).size ≤ xs := by rw [← bl_length, hSl, List.length_drop, bl_length, HXS.out]; omega
              have HSL := hide hSl
              have HSS := hide hSls
              clear hSl hSls
              have dOb : OwB wr.drew w.heap.size (.slice Ai li ci) (Bk ++ preE q sq qn vn 4) := HObi
              have dOt : OwB wr.drew w.heap.size (.slice At1 ltt ct1) (Tk ++ [t1, t2]) := HOti
              have dE : Eb wr.drew wo.heap.size (xk, (qn : Int), (kd.toNat : Int), xv) := hEi
              have dB := HBi.drew
              have bK := below_alloc wr.drew (.cells #[.int .u8 (kd.toNat : Int)] 5)
              have dOb1 := dOb.below bK
              have dOt1 := dOt.below bK
              have dE1 := dE.below bK
              have dB1 := dB.alloc dB.size (.cells #[.int .u8 (kd.toNat : Int)] 5)
              have hS0 : wr.drew.cell? ⟨wo.heap.size, 0, none⟩ = some (.string xk) ∧ wr.drew.cell? ⟨wo.heap.size, 2, none⟩ = some (.int .i64 (kd.toNat : Int)) ∧ wr.drew.cell? ⟨wo.heap.size, 3, none⟩ = some (.string xv) := ⟨y0, y2, y3⟩
              have hS1 : (wr.drew.alloc (.cells #[.int .u8 (kd.toNat : Int)] 5)).cell? ⟨wo.heap.size, 0, none⟩ = some (.string xk) ∧ (wr.drew.alloc (.cells #[.int .u8 (kd.toNat : Int)] 5)).cell? ⟨wo.heap.size, 2, none⟩ = some (.int .i64 (kd.toNat : Int)) ∧ (wr.drew.alloc (.cells #[.int .u8 (kd.toNat : Int)] 5)).cell? ⟨wo.heap.size, 3, none⟩ = some (.string xv) := ⟨dE1.read.1, dE1.read.2.2.1, dE1.read.2.2.2.1⟩
              go_region_held3 (fun w' => w'.cell? ⟨wo.heap.size, 0, none⟩ = some (.string xk) ∧ w'.cell? ⟨wo.heap.size, 2, none⟩ = some (.int .i64 (kd.toNat : Int)) ∧ w'.cell? ⟨wo.heap.size, 3, none⟩ = some (.string xv)) (first | exact hS0 | exact hS1 | exact hS2 | exact hS3 | exact hS4 | assumption) (first | ((refine step_rowH (w0 := w) (W := wr.drew.alloc (.cells #[.int .u8 (kd.toNat : Int)] 5)) w.heap.size (by rfl) (.tmp 63) (.tmp 67) rfl (.slice Ai li ci) (Bk ++ preE q sq qn vn 4) [kd] (some ⟨wr.drew.heap.size, 0, none⟩) 1 (by rfl) (by rfl) dOb1 (RdB_lit [kd] _ #[.int .u8 (kd.toNat : Int)] 5 (0, 0) _ rfl rfl (by show 1 ≤ 9223372036854775807; decide)) dB1 dB1.size (by rw [HLI.out]; show li + 1 ≤ _; omega) ?_); intro v6 w6 HO6 HB6 hg6 hat6; have dOt2 := dOt1.apart HDi hg6; have D6 := Dis.step HDi hat6 dOt1; have dE2 := dE1.aside dOb1 hg6; have hS2 : w6.cell? ⟨wo.heap.size, 0, none⟩ = some (.string xk) ∧ w6.cell? ⟨wo.heap.size, 2, none⟩ = some (.int .i64 (kd.toNat : Int)) ∧ w6.cell? ⟨wo.heap.size, 3, none⟩ = some (.string xv) := ⟨dE2.read.1, dE2.read.2.2.1, dE2.read.2.2.2.1⟩) | ((refine step_strH (w0 := w) (W := w6) w.heap.size (by rfl) (.tmp 68) (.tmp 72) rfl v6 (Bk ++ preE q sq qn vn 4 ++ [kd]) (xk.extract q xs) (by rfl) (by rfl) HO6 HB6 HB6.size (by rw [List.length_append, HLI.out]; have := HSS.out; show li + 1 + _ ≤ _; omega) ?_); intro v7 w7 HO7 HB7 hg7 hat7; have dOt3 := dOt2.apart D6 hg7; have D7 := Dis.step D6 hat7 dOt2; have dE3 := dE2.aside HO6 hg7; have hS3 : w7.cell? ⟨wo.heap.size, 0, none⟩ = some (.string xk) ∧ w7.cell? ⟨wo.heap.size, 2, none⟩ = some (.int .i64 (kd.toNat : Int)) ∧ w7.cell? ⟨wo.heap.size, 3, none⟩ = some (.string xv) := ⟨dE3.read.1, dE3.read.2.2.1, dE3.read.2.2.2.1⟩) | ((refine step_strH (w0 := w) (W := w7) w.heap.size (by rfl) (.tmp 73) (.tmp 75) rfl v7 (Bk ++ preE q sq qn vn 4 ++ [kd] ++ bl (xk.extract q xs)) xv (by rfl) (by rfl) HO7 HB7 HB7.size (by rw [List.length_append, List.length_append, HLI.out, bl_length]; have := HSS.out; show li + 1 + _ + _ ≤ _; omega) ?_); intro v8 w8 HO8 HB8 hg8 hat8; have dOt4 := dOt3.apart D7 hg8; have D8 := Dis.step D7 hat8 dOt3; have dE4 := dE3.aside HO7 hg8; have hS4 : w8.cell? ⟨wo.heap.size, 0, none⟩ = some (.string xk) ∧ w8.cell? ⟨wo.heap.size, 2, none⟩ = some (.int .i64 (kd.toNat : Int)) ∧ w8.cell? ⟨wo.heap.size, 3, none⟩ = some (.string xv) := ⟨dE4.read.1, dE4.read.2.2.1, dE4.read.2.2.2.1⟩))
              go_wp2
              go_roundw
              case rel =>
                refine ⟨k + 1, xk, hlt, by go_num, ?_, ?_, D8, rfl, fun _ => ?_, by rw [HXS.out]; exact hxk, HB8⟩
                · rw [HEL.out]
                  have e : entB q (xk, (qn : Int), (kd.toNat : Int), xv) = preE q sq qn vn 4 ++ [kd] ++ bl (xk.extract q xs) ++ bl xv := by
                    rw [HSL.out]
                    unfold entB preE
                    simp only [HXS.out, HVN.out, HSQ.out, Int.toNat_natCast, UInt8.ofNat_toNat]
                  rw [e]
                  simpa only [List.append_assoc] using HO8
                · rw [HTZ.out]; exact dOt4
                · rw [Nat.add_sub_cancel, HXK.out]
              case measure => simp [intOf]; omega
        · have h4p := rem4 k
          obtain ⟨rr, hrr⟩ : ∃ rr, k % 4 = rr := ⟨_, rfl⟩
          rw [hrr] at h4p
          have h4i : ¬ (rr : Int) = 0 := by omega
          have h4n : ¬ rr = 0 := by omega
          have hkl := HKL.out h4
          have hcm := fun W => common_any s xk W (by omega) (by rw [HXS.out]; omega)
          have htl := HTL.out
          rw [if_neg h4] at htl
          have HTZ := hide htl
          rw [hkl] at hcm
          clear hkl htl h4 hrr
          obtain ⟨y90, y91, y92, y93, -, -, -, -⟩ := hE9.read
          go_wp2_with (first | (go_at_call 66; (with_reducible refine (hcm _).mono ?_); rintro e w2 ⟨rfl, HB2⟩; have HObZ := HOb1.below HB2; have HOtZ := HOt1.below HB2; have HDZ := HD; have hEZ := hE9.below HB2; have HBZ := HBa.trans (HB2.mono HBa.size); obtain ⟨y90, y91, y92, y93, -, -, -, -⟩ := hEZ.read))
          go_loopw [54, 5] (fun iv vb wi => ∃ m : Nat, m ≤ 4 ∧ iv = .int .i64 (m : Int) ∧ OwB wi w.heap.size vb (Bk ++ preE q sq qn vn m) ∧ OwB wi w.heap.size (.slice At lt ct) Tk ∧ Dis vb (.slice At lt ct) ∧ Eb wi wo.heap.size (xk, (qn : Int), (kd.toNat : Int), xv) ∧ Below w.heap.size w wi) (fun iv _ _ => 4 - (intOf iv).toNat)
          case atStart => exact ⟨0, by decide, rfl, by rw [show Bk ++ preE q sq qn vn 0 = Bk from List.append_nil _]; exact HObZ, HOtZ, HDZ, hEZ, HBZ⟩
          case round =>
            obtain ⟨m, hm4, rfl, HObi, HOti, HDi, hEi, HBi⟩ := hrel
            obtain ⟨Ai, ci, hvi, -⟩ := HObi.rd
            subst hvi
            have hpl := preE_le q sq qn vn m
            obtain ⟨li, hli⟩ : ∃ li, (Bk ++ preE q sq qn vn m).length = li := ⟨_, rfl⟩
            have hli2 : li ≤ 41572 := by rw [← hli, List.length_append, HLB.out]; omega
            have HLI := hide hli
            rw [hli] at HObi HDi ⊢
            clear hli hpl HObZ HOtZ HDZ hEZ HBZ
            rcases (show m = 0 ∨ m = 1 ∨ m = 2 ∨ m = 3 ∨ m = 4 by omega) with rfl | rfl | rfl | rfl | rfl
            · have hix := fun a b c d W => (idx4 a b c d W).1
              have hPm := hP q (by omega)
              have hu64 : IntKind.u64.wrap (q : Int) = (q : Int) := by rw [IntKind.wrap_u64]; omega
              have hvs := vsize_le q
              go_wp2_with (first | (go_at_call 30; (with_reducible refine (hPm _).mono ?_); rintro e w5 ⟨v5, rfl, HO5, HB5⟩; obtain ⟨A5, c5, hv5, hr5⟩ := HO5.rd; subst hv5; have HB6 := HBi.trans (HB5.mono HBi.size)) | (at_builtin; refine app_row (w0 := w) (W := w5) w.heap.size rfl (.tmp 57) (.tmp 60) rfl (.slice Ai li ci) (Bk ++ preE q sq qn vn 0) (put q) A5 c5 (by rfl) (by rfl) (HObi.below HB5) hr5 HB6 HB6.size (by rw [HLI.out, put_length]; omega) ?_; intro v7 w7 HO7 HB7 hg7 hat7))
              go_roundw
              case rel => exact ⟨1, by decide, by go_num, by rw [List.append_assoc] at HO7; exact HO7, (HOti.below HB5).apart HDi hg7, Dis.step HDi hat7 (HOti.below HB5), (hEi.below HB5).aside (HObi.below HB5) hg7, HB7⟩
              case measure => simp [intOf]
            · have hix := fun a b c d W => (idx4 a b c d W).2.1
              have hPm := hP sq (by omega)
              have hu64 : IntKind.u64.wrap (sq : Int) = (sq : Int) := by rw [IntKind.wrap_u64]; omega
              have hvs := vsize_le sq
              go_wp2_with (first | (go_at_call 30; (with_reducible refine (hPm _).mono ?_); rintro e w5 ⟨v5, rfl, HO5, HB5⟩; obtain ⟨A5, c5, hv5, hr5⟩ := HO5.rd; subst hv5; have HB6 := HBi.trans (HB5.mono HBi.size)) | (at_builtin; refine app_row (w0 := w) (W := w5) w.heap.size rfl (.tmp 57) (.tmp 60) rfl (.slice Ai li ci) (Bk ++ preE q sq qn vn 1) (put sq) A5 c5 (by rfl) (by rfl) (HObi.below HB5) hr5 HB6 HB6.size (by rw [HLI.out, put_length]; omega) ?_; intro v7 w7 HO7 HB7 hg7 hat7))
              go_roundw
              case rel => exact ⟨2, by decide, by go_num, by rw [List.append_assoc] at HO7; exact HO7, (HOti.below HB5).apart HDi hg7, Dis.step HDi hat7 (HOti.below HB5), (hEi.below HB5).aside (HObi.below HB5) hg7, HB7⟩
              case measure => simp [intOf]
            · have hix := fun a b c d W => (idx4 a b c d W).2.2.1
              have hPm := hP qn (hqn)
              have hu64 : IntKind.u64.wrap (qn : Int) = (qn : Int) := by rw [IntKind.wrap_u64]; omega
              have hvs := vsize_le qn
              go_wp2_with (first | (go_at_call 30; (with_reducible refine (hPm _).mono ?_); rintro e w5 ⟨v5, rfl, HO5, HB5⟩; obtain ⟨A5, c5, hv5, hr5⟩ := HO5.rd; subst hv5; have HB6 := HBi.trans (HB5.mono HBi.size)) | (at_builtin; refine app_row (w0 := w) (W := w5) w.heap.size rfl (.tmp 57) (.tmp 60) rfl (.slice Ai li ci) (Bk ++ preE q sq qn vn 2) (put qn) A5 c5 (by rfl) (by rfl) (HObi.below HB5) hr5 HB6 HB6.size (by rw [HLI.out, put_length]; omega) ?_; intro v7 w7 HO7 HB7 hg7 hat7))
              go_roundw
              case rel => exact ⟨3, by decide, by go_num, by rw [List.append_assoc] at HO7; exact HO7, (HOti.below HB5).apart HDi hg7, Dis.step HDi hat7 (HOti.below HB5), (hEi.below HB5).aside (HObi.below HB5) hg7, HB7⟩
              case measure => simp [intOf]
            · have hix := fun a b c d W => (idx4 a b c d W).2.2.2
              have hPm := hP vn (by omega)
              have hu64 : IntKind.u64.wrap (vn : Int) = (vn : Int) := by rw [IntKind.wrap_u64]; omega
              have hvs := vsize_le vn
              go_wp2_with (first | (go_at_call 30; (with_reducible refine (hPm _).mono ?_); rintro e w5 ⟨v5, rfl, HO5, HB5⟩; obtain ⟨A5, c5, hv5, hr5⟩ := HO5.rd; subst hv5; have HB6 := HBi.trans (HB5.mono HBi.size)) | (at_builtin; refine app_row (w0 := w) (W := w5) w.heap.size rfl (.tmp 57) (.tmp 60) rfl (.slice Ai li ci) (Bk ++ preE q sq qn vn 3) (put vn) A5 c5 (by rfl) (by rfl) (HObi.below HB5) hr5 HB6 HB6.size (by rw [HLI.out, put_length]; omega) ?_; intro v7 w7 HO7 HB7 hg7 hat7))
              go_roundw
              case rel => exact ⟨4, by decide, by go_num, by rw [List.append_assoc] at HO7; exact HO7, (HOti.below HB5).apart HDi hg7, Dis.step HDi hat7 (HOti.below HB5), (hEi.below HB5).aside (HObi.below HB5) hg7, HB7⟩
              case measure => simp [intOf]
            · have hE0 := hEi
              obtain ⟨y0, y1, y2, y3, -, -, -, -⟩ := hE0.read
              go_wp2
              have hlk : li + 1 + xs + vn ≤ 140737488355328 := by omega
              have hqs : (q : Int) ≤ (xs : Int) := by omega
              have hSl : bl (xk.extract q xs) = (bl xk).drop q := by rw [← HXS.out]; exact ext_drop xk q
              have hSls : (xk.extract q xs).size ≤ xs := by rw [← bl_length, hSl, List.length_drop, bl_length, HXS.out]; omega
              have HSL := hide hSl
              have HSS := hide hSls
              clear hSl hSls
              have dOb : OwB wr.drew w.heap.size (.slice Ai li ci) (Bk ++ preE q sq qn vn 4) := HObi
              have dOt : OwB wr.drew w.heap.size (.slice At lt ct) Tk := HOti
              have dE : Eb wr.drew wo.heap.size (xk, (qn : Int), (kd.toNat : Int), xv) := hEi
              have dB := HBi.drew
              have bK := below_alloc wr.drew (.cells #[.int .u8 (kd.toNat : Int)] 5)
              have dOb1 := dOb.below bK
              have dOt1 := dOt.below bK
              have dE1 := dE.below bK
              have dB1 := dB.alloc dB.size (.cells #[.int .u8 (kd.toNat : Int)] 5)
              have hS0 : wr.drew.cell? ⟨wo.heap.size, 0, none⟩ = some (.string xk) ∧ wr.drew.cell? ⟨wo.heap.size, 2, none⟩ = some (.int .i64 (kd.toNat : Int)) ∧ wr.drew.cell? ⟨wo.heap.size, 3, none⟩ = some (.string xv) := ⟨y0, y2, y3⟩
              have hS1 : (wr.drew.alloc (.cells #[.int .u8 (kd.toNat : Int)] 5)).cell? ⟨wo.heap.size, 0, none⟩ = some (.string xk) ∧ (wr.drew.alloc (.cells #[.int .u8 (kd.toNat : Int)] 5)).cell? ⟨wo.heap.size, 2, none⟩ = some (.int .i64 (kd.toNat : Int)) ∧ (wr.drew.alloc (.cells #[.int .u8 (kd.toNat : Int)] 5)).cell? ⟨wo.heap.size, 3, none⟩ = some (.string xv) := ⟨dE1.read.1, dE1.read.2.2.1, dE1.read.2.2.2.1⟩
              go_region_held3 (fun w' => w'.cell? ⟨wo.heap.size, 0, none⟩ = some (.string xk) ∧ w'.cell? ⟨wo.heap.size, 2, none⟩ = some (.int .i64 (kd.toNat : Int)) ∧ w'.cell? ⟨wo.heap.size, 3, none⟩ = some (.string xv)) (first | exact hS0 | exact hS1 | exact hS2 | exact hS3 | exact hS4 | assumption) (first | ((refine step_rowH (w0 := w) (W := wr.drew.alloc (.cells #[.int .u8 (kd.toNat : Int)] 5)) w.heap.size (by rfl) (.tmp 63) (.tmp 67) rfl (.slice Ai li ci) (Bk ++ preE q sq qn vn 4) [kd] (some ⟨wr.drew.heap.size, 0, none⟩) 1 (by rfl) (by rfl) dOb1 (RdB_lit [kd] _ #[.int .u8 (kd.toNat : Int)] 5 (0, 0) _ rfl rfl (by show 1 ≤ 9223372036854775807; decide)) dB1 dB1.size (by rw [HLI.out]; show li + 1 ≤ _; omega) ?_); intro v6 w6 HO6 HB6 hg6 hat6; have dOt2 := dOt1.apart HDi hg6; have D6 := Dis.step HDi hat6 dOt1; have dE2 := dE1.aside dOb1 hg6; have hS2 : w6.cell? ⟨wo.heap.size, 0, none⟩ = some (.string xk) ∧ w6.cell? ⟨wo.heap.size, 2, none⟩ = some (.int .i64 (kd.toNat : Int)) ∧ w6.cell? ⟨wo.heap.size, 3, none⟩ = some (.string xv) := ⟨dE2.read.1, dE2.read.2.2.1, dE2.read.2.2.2.1⟩) | ((refine step_strH (w0 := w) (W := w6) w.heap.size (by rfl) (.tmp 68) (.tmp 72) rfl v6 (Bk ++ preE q sq qn vn 4 ++ [kd]) (xk.extract q xs) (by rfl) (by rfl) HO6 HB6 HB6.size (by rw [List.length_append, HLI.out]; have := HSS.out; show li + 1 + _ ≤ _; omega) ?_); intro v7 w7 HO7 HB7 hg7 hat7; have dOt3 := dOt2.apart D6 hg7; have D7 := Dis.step D6 hat7 dOt2; have dE3 := dE2.aside HO6 hg7; have hS3 : w7.cell? ⟨wo.heap.size, 0, none⟩ = some (.string xk) ∧ w7.cell? ⟨wo.heap.size, 2, none⟩ = some (.int .i64 (kd.toNat : Int)) ∧ w7.cell? ⟨wo.heap.size, 3, none⟩ = some (.string xv) := ⟨dE3.read.1, dE3.read.2.2.1, dE3.read.2.2.2.1⟩) | ((refine step_strH (w0 := w) (W := w7) w.heap.size (by rfl) (.tmp 73) (.tmp 75) rfl v7 (Bk ++ preE q sq qn vn 4 ++ [kd] ++ bl (xk.extract q xs)) xv (by rfl) (by rfl) HO7 HB7 HB7.size (by rw [List.length_append, List.length_append, HLI.out, bl_length]; have := HSS.out; show li + 1 + _ + _ ≤ _; omega) ?_); intro v8 w8 HO8 HB8 hg8 hat8; have dOt4 := dOt3.apart D7 hg8; have D8 := Dis.step D7 hat8 dOt3; have dE4 := dE3.aside HO7 hg8; have hS4 : w8.cell? ⟨wo.heap.size, 0, none⟩ = some (.string xk) ∧ w8.cell? ⟨wo.heap.size, 2, none⟩ = some (.int .i64 (kd.toNat : Int)) ∧ w8.cell? ⟨wo.heap.size, 3, none⟩ = some (.string xv) := ⟨dE4.read.1, dE4.read.2.2.1, dE4.read.2.2.2.1⟩))
              go_wp2
              go_roundw
              case rel =>
                refine ⟨k + 1, xk, hlt, by go_num, ?_, ?_, D8, rfl, fun _ => ?_, by rw [HXS.out]; exact hxk, HB8⟩
                · rw [HEL.out]
                  have e : entB q (xk, (qn : Int), (kd.toNat : Int), xv) = preE q sq qn vn 4 ++ [kd] ++ bl (xk.extract q xs) ++ bl xv := by
                    rw [HSL.out]
                    unfold entB preE
                    simp only [HXS.out, HVN.out, HSQ.out, Int.toNat_natCast, UInt8.ofNat_toNat]
                  rw [e]
                  simpa only [List.append_assoc] using HO8
                · rw [HTZ.out]; exact dOt4
                · rw [Nat.add_sub_cancel, HXK.out]
              case measure => simp [intOf]; omega
      · obtain rfl : k = n := Nat.le_antisymm hk (Nat.not_lt.1 hlt)
        have hlb := entsB_length l HO_.out k (by rw [HN.out]; exact Nat.le_refl _)
        have hltl := tailB_length l k
        have hlk := HN.out
        have hbk : blkB l = entsB l k ++ (tailB l k ++ [UInt8.ofNat ((tailB l k).length / 2)]) := by rw [blkB, hlk, List.append_assoc]
        obtain ⟨lb, hlbe⟩ : ∃ lb, (entsB l k).length = lb := ⟨_, rfl⟩
        obtain ⟨lt, hlte⟩ : ∃ lt, (tailB l k).length = lt := ⟨_, rfl⟩
        rw [hlte] at hbk hltl
        rw [hlbe] at hlb
        have hlt2 : lt ≤ 64 := by omega
        have hlb2 : lb ≤ 41536 := by omega
        have hd2 : (lt : Int) / 2 = ((UInt8.ofNat (lt / 2)).toNat : Int) := by rw [UInt8.toNat_ofNat']; omega
        have hd3 : (lt : Int).tdiv 2 = ((UInt8.ofNat (lt / 2)).toNat : Int) := by rw [UInt8.toNat_ofNat', Int.tdiv_eq_ediv_of_nonneg (by omega)]; omega
        obtain ⟨t, ht⟩ : ∃ t, UInt8.ofNat (lt / 2) = t := ⟨_, rfl⟩
        rw [ht] at hd2 hd3 hbk
        have wt := wrap_u8n t
        generalize entsB l k = Bk at *
        generalize tailB l k = Tk at *
        have HBK := hide hbk
        have HLB := hide hlbe
        have HLT := hide hlte
        have bK := below_alloc wo (.cells #[.int .u8 (t.toNat : Int)] 5)
        have HOb1 := HOb.below bK
        have HOt1 := HOt.below bK
        have HB1' := HB.alloc HB.size (.cells #[.int .u8 (t.toNat : Int)] 5)
        have hC3 := Concat_three Ab At (some ⟨wo.heap.size, 0, none⟩) cb ct 1 lb lt 1 (wo.heap.size + 1) Bk Tk [t] (wo.alloc (.cells #[.int .u8 (t.toNat : Int)] 5)) (World.size_alloc _ _) HOb1.rdl HOt1.rdl (RdB_lit [t] wo #[.int .u8 (t.toNat : Int)] 5 (0, 0) _ rfl rfl (by show 1 ≤ 9223372036854775807; decide)) hlbe hlte rfl (by rw [hlbe, hlte]; show lb + lt + 1 ≤ _; omega)
        have hlen : (Bk ++ (Tk ++ [t])).length = lb + lt + 1 := by rw [List.length_append, List.length_append, hlbe, hlte]; show lb + (lt + 1) = _; omega
        rw [← hbk] at hC3 hlen
        have hGd := fun A c W (h : RdB W A c (blkB l)) => Guard_any A c (blkB l) W h (by omega)
        have HLEN := hide hlen
        rw [hlbe] at HOb HOb1 ⊢
        rw [hlte] at HOt HOt1 ⊢
        clear hlb hltl hbk hlbe hlte ht hs hlen hlk hrb hrt
        go_wp2_with (first | (go_at_call 29; (refine hC3.mono ?_); rintro e w3 ⟨v3, rfl, HO3, HB3⟩; obtain ⟨A3, c3, hv3, hr3⟩ := HO3.rd; subst hv3; have HB4 := HB1'.trans (HB3.mono HB1'.size)) | (go_at_call 36; (refine (hGd _ _ _ hr3).mono ?_); rintro e w5 ⟨v5, rfl, HO5, HB5⟩))
        go_ret2
        exact ⟨_, rfl, HO5.lower HB4.size, HB4.trans (HB5.mono HB4.size)⟩
  · have hX : blkX l = [] := by rw [blkX, if_neg hz]
    rw [hX]
    generalize chkE l = z at *
    go_enter Try.func28, Try.ntmps28
    go_wp2_with (first | (go_at_call 65; (with_reducible refine hC.mono ?_); rintro e w1 ⟨rfl, HB1⟩))
    go_ret2
    exact ⟨_, rfl, OwB.zero _ _, HB1⟩
end Go.Proofs.Ytefcepjffeiaoaa
end

section
/- Block: the walk of the reference's Encode. -/
namespace Go.Proofs.Ytefcepjffeiaoaa
open Go.RowKit Go.Proofs.YtefcepjffeiaoaaW.PrintWords
set_option linter.unusedVariables false

theorem RdE.cells {w : World} {ad : Addr} {c : Nat} {xs : List Ent} (h : RdE w (some ad) c xs) (i : Nat) (hi : i < xs.length) {x : Ent} (hx : xs.getD i zEnt = x) : w.cell? (ad.add (i * 4)) = some (.string x.1) ∧ w.cell? ⟨(ad.add (i * 4)).block, (ad.add (i * 4)).off + 1, none⟩ = some (.int .i64 x.2.1) ∧ w.cell? ⟨(ad.add (i * 4)).block, (ad.add (i * 4)).off + 2, none⟩ = some (.int .i64 x.2.2.1) ∧ w.cell? ⟨(ad.add (i * 4)).block, (ad.add (i * 4)).off + 3, none⟩ = some (.string x.2.2.2) := by
  obtain ⟨ad', e, h0, h1, h2, h3⟩ := RdE.at4 h i hi
  cases e
  rw [hx] at h0 h1 h2 h3
  exact ⟨h0, h1, h2, h3⟩
theorem nat_u64 (N : Nat) (h : N ≤ 1099511627776) : IntKind.u64.wrap (N : Int) = (N : Int) := by rw [IntKind.wrap_u64]; omega
theorem small_le (N : Nat) (h : N ≤ 512) : N ≤ 1099511627776 := by omega
theorem row_le (li v : Nat) (h : li ≤ 41572) (h2 : v ≤ 9) : li + v ≤ 140737488355328 := by omega
theorem out_le1 (li : Nat) (h : li ≤ 41572) : li + 1 ≤ 140737488355328 := by omega
theorem out_le2 (li xs z : Nat) (h : li ≤ 41572) (h2 : xs ≤ 96) (h3 : z ≤ xs) : li + 1 + z ≤ 140737488355328 := by omega
theorem out_le3 (li xs vn z : Nat) (h : li ≤ 41572) (h2 : xs ≤ 96) (h3 : vn ≤ 512) (h4 : z ≤ xs) : li + 1 + z + vn ≤ 140737488355328 := by omega
theorem li_le (lb p : Nat) (h : lb ≤ 41536) (h2 : p ≤ 36) : lb + p ≤ 41572 := by omega
theorem meas_lt (n k : Nat) (h : k < n) : n - (k + 1) < n - k := by omega
theorem sq_wraps (n : Nat) (h : n ≤ 96) : wrap64 (n : Int) = (n : Int) ∧ IntKind.i64.wrap (n : Int) = (n : Int) := ⟨by unfold wrap64; omega, by rw [IntKind.wrap_i64]; omega⟩
theorem dec_wraps (k j : Nat) (h0 : 0 < k) (hk : k ≤ 64) (h : k - 1 = j) : wrap64 ((k : Int) - 1) = (j : Int) ∧ IntKind.i64.wrap ((k : Int) - 1) = (j : Int) := ⟨by unfold wrap64; omega, by rw [IntKind.wrap_i64]; omega⟩
/-- four numbers in a row -/
def Nb (w : World) (g : Nat) (a b c d : Int) : Prop := w.heap[g]? = some (.cells #[.int .i64 a, .int .i64 b, .int .i64 c, .int .i64 d] 3 (0, 0))
theorem Nb.below {w w1 : World} {g : Nat} {a b c d : Int} (h : Nb w g a b c d) (hb : Below w.heap.size w w1) : Nb w1 g a b c d := blk_below h hb
theorem Nb.aside {w w1 : World} {g : Nat} {a b c d : Int} (h : Nb w g a b c d) {base : Nat} {v : Value} {xs : List UInt8} (HO : OwB w base v xs) (hg : w.grownBy w1 v.ownBlock) : Nb w1 g a b c d := blk_grown h hg (own_ne HO h (by decide))
theorem Nb.read {w : World} {g : Nat} {a b c d : Int} (h : Nb w g a b c d) : w.cell? ⟨g, 0, none⟩ = some (.int .i64 a) ∧ w.cell? ⟨g, 1, none⟩ = some (.int .i64 b) ∧ w.cell? ⟨g, 2, none⟩ = some (.int .i64 c) ∧ w.cell? ⟨g, 3, none⟩ = some (.int .i64 d) := ⟨blk_cell h 0, blk_cell h 1, blk_cell h 2, blk_cell h 3⟩
set_option maxRecDepth 100000 in
set_option maxHeartbeats 6400000 in
theorem rEncode_any (A : Option Addr) (c n : Nat) (l : List Ent) (w : World) (hn : l.length = n) (hr : RdE w A c l) (hl : n ≤ 9223372036854775806) :
    Calls Try.prog 38 #[.slice A n c] w fun e w' => ∃ v, e = .returned (.tuple #[v, .int .i64 (chkE l)]) ∧ OwB w' w.heap.size v (blkX l) ∧ Below w.heap.size w w' := by
  have hC := rCheck_any A c n l w hn hr (by rw [hn]; exact hl)
  by_cases hz : chkE l = 0
  · obtain ⟨hn1, hn2, ho⟩ := chkE_ok l hz
    rw [hz] at hC
    have hX : blkX l = guarded (blkB l) := by rw [blkX, if_pos hz]
    rw [hz, hX]
    have HX := hide hX
    rw [hn] at hn1 hn2
    have HN := hide hn
    have HO_ := hide ho
    clear hz hX hn ho
    go_enter Try.func38, Try.ntmps38
    go_wp2_with (first | (go_at_call 76; (with_reducible refine hC.mono ?_); rintro e w1 ⟨rfl, HB1⟩))
    clear hC
    go_loopw [7, 5, 6] (fun i vb vt wr => ∃ k : Nat, k ≤ n ∧ i = .int .i64 (k : Int) ∧ OwB wr w.heap.size vb (entsB l k) ∧ OwB wr w.heap.size vt (tailB l k) ∧ Dis vb vt ∧ Below w.heap.size w wr) (fun i _ _ _ => n - (intOf i).toNat)
    case atStart => exact ⟨0, Nat.zero_le _, rfl, OwB.zero _ _, OwB.zero _ _, Dis.nil _, HB1⟩
    case round =>
      obtain ⟨k, hk, rfl, HOb, HOt, HD, HB⟩ := hrel
      obtain ⟨wo, rfl⟩ : ∃ z : World, z = wr := ⟨wr, rfl⟩
      obtain ⟨Ab, cb, hvb, hrb⟩ := HOb.rd
      subst hvb
      obtain ⟨At, ct, hvt, hrt⟩ := HOt.rd
      subst hvt
      by_cases hlt : k < n
      · have hlti : (k : Int) < (n : Int) := Int.ofNat_lt.2 hlt
        obtain ⟨ad, rfl, x0, x1, x2, x3⟩ := RdE.at4 (hr.below HB) k (by rw [HN.out]; exact hlt)
        obtain ⟨hm, -⟩ := ordE_may l HO_.out k (by rw [HN.out]; exact hlt)
        obtain ⟨kp1, kp2, kp3⟩ := keepE_le l k
        have htl : tailB l (k + 1) = if k % 4 = 0 then tailB l k ++ [UInt8.ofNat ((entsB l k).length / 256), UInt8.ofNat (entsB l k).length] else tailB l k := rfl
        have hel : entsB l (k + 1) = entsB l k ++ entB (keepE l k) (l.getD k zEnt) := rfl
        have hke : keepE l k = if k % 4 = 0 then 0 else comm (bl (l.getD (k - 1) zEnt).1) (bl (l.getD k zEnt).1) := rfl
        have hlb := entsB_length l HO_.out k (by rw [HN.out]; exact hk)
        have hltl := tailB_length l k
        obtain ⟨xk, xv, qn, kd, hx, hxk, hxv, hqn⟩ := may_nat _ hm
        have HXK := hide hx
        have hcl := fun W (h : Below w.heap.size w W) => RdE.cells (hr.below h) k (by rw [HN.out]; exact hlt) HXK.out
        rw [hx] at hm kp1 x0 x1 x2 x3 hel hke
        simp only at hm kp1 x0 x1 x2 x3 hel hke
        obtain ⟨q, hq⟩ : ∃ q, keepE l k = q := ⟨_, rfl⟩
        rw [hq] at kp1 hel hke
        obtain ⟨lb, hlbe⟩ : ∃ lb, (entsB l k).length = lb := ⟨_, rfl⟩
        obtain ⟨lt, hlte⟩ : ∃ lt, (tailB l k).length = lt := ⟨_, rfl⟩
        obtain ⟨xs, hxs⟩ : ∃ xs, xk.size = xs := ⟨_, rfl⟩
        obtain ⟨vn, hvn⟩ : ∃ vn, xv.size = vn := ⟨_, rfl⟩
        obtain ⟨sq, hsq⟩ : ∃ sq, xs - q = sq := ⟨_, rfl⟩
        rw [hxs] at kp1 hxk
        rw [hvn] at hxv
        have hsqi : (xs : Int) - (q : Int) = (sq : Int) := by omega
        obtain ⟨hsqw, hsqw2⟩ := sq_wraps sq (by rw [← hsq]; exact Nat.le_trans (Nat.sub_le _ _) hxk)
        have hb0 : q ≤ 1099511627776 := small_le _ (Nat.le_trans kp1 (Nat.le_trans hxk (by decide)))
        have hb1 : sq ≤ 1099511627776 := small_le _ (by rw [← hsq]; exact Nat.le_trans (Nat.sub_le _ _) (Nat.le_trans hxk (by decide)))
        have hb3 : vn ≤ 1099511627776 := small_le _ hxv
        have hqs0 : (q : Int) ≤ (xs : Int) := Int.ofNat_le.2 kp1
        have hlb2 : lb ≤ 41536 := by omega
        have hlt2 : lt ≤ 64 := by omega
        have u1 := u8_hi lb (by omega)
        have u2_ := u8_lo lb
        obtain ⟨t1, ht1⟩ : ∃ t1, UInt8.ofNat (lb / 256) = t1 := ⟨_, rfl⟩
        obtain ⟨t2, ht2⟩ : ∃ t2, UInt8.ofNat lb = t2 := ⟨_, rfl⟩
        rw [hlbe, ht1, ht2] at htl
        rw [ht1] at u1
        rw [ht2] at u2_
        have wt1 := wrap_u8n t1
        have wt2 := wrap_u8n t2
        have wkd := wrap_u8n kd
        generalize entsB l k = Bk at *
        generalize tailB l k = Tk at *
        have HEL := hide hel
        have HTL := hide htl
        have HLB := hide hlbe
        have HLT := hide hlte
        have HKE := hide hke
        have hP := fun (N : Nat) (h : N ≤ 1099511627776) W => rPut_any N (Nat.lt_of_le_of_lt h (by decide)) W
        have HXS := hide hxs
        have HVN := hide hvn
        have HSQ := hide hsq
        rw [hlbe] at HOb HD ⊢
        rw [hlte] at HOt HD ⊢
        clear hel htl kp2 kp3 hq hm hx hlb hltl hlbe hlte hrb hrt ht1 ht2 hke
        by_cases h4 : k % 4 = 0
        · have r4 : (k : Int).tmod 4 = 0 := by rw [rem4, h4]; rfl
          have hke := HKE.out
          rw [if_pos h4] at hke
          subst hke
          obtain rfl : xs = sq := by have h0 := HSQ.out; rw [Nat.sub_zero] at h0; exact h0
          have htl := HTL.out
          rw [if_pos h4] at htl
          have HTZ := hide htl
          clear htl h4
          have bT := below_alloc wo (.cells #[.int .u8 (t1.toNat : Int), .int .u8 (t2.toNat : Int)] 5)
          obtain ⟨ltt, hltt⟩ : ∃ ltt, (Tk ++ [t1, t2]).length = ltt := ⟨_, rfl⟩
          have HLTT := hide hltt
          clear hltt
          have HOt2 := HOt.below bT
          have HOb2 := HOb.below bT
          have HBt := HB.alloc HB.size (.cells #[.int .u8 (t1.toNat : Int), .int .u8 (t2.toNat : Int)] 5)
          go_wp2_with (first | (at_builtin; refine app_row (w0 := w) (W := (wo.alloc (.cells #[.int .u8 (t1.toNat : Int), .int .u8 (t2.toNat : Int)] 5))) w.heap.size rfl (.tmp 25) (.tmp 33) rfl (.slice At lt ct) Tk [t1, t2] (some ⟨wo.heap.size, 0, none⟩) 2 (by rfl) (by rfl) HOt2 (RdB_lit [t1, t2] _ #[.int .u8 (t1.toNat : Int), .int .u8 (t2.toNat : Int)] 5 (0, 0) _ rfl rfl (by show 2 ≤ 9223372036854775807; decide)) HBt HBt.size (by rw [HLT.out]; show lt + 2 ≤ _; omega) ?_; intro vt1 wt HOtZ HBZ hgt hatt; obtain ⟨At1, ct1, hvt1, -⟩ := HOtZ.rd; rw [HLTT.out] at hvt1; subst hvt1; have HObZ := HOb2.apart HD.symm hgt; have HDZ := (Dis.step HD.symm hatt HOb2).symm))
          have dB := HBZ.drew
          have dOb : OwB wt.drew w.heap.size (.slice Ab lb cb) Bk := HObZ
          have dOt : OwB wt.drew w.heap.size (.slice At1 ltt ct1) (Tk ++ [t1, t2]) := HOtZ
          have bN := below_alloc wt.drew (.cells #[.int .i64 0, .int .i64 (xs : Int), .int .i64 (qn : Int), .int .i64 (vn : Int)] 3)
          have HObN := dOb.below bN
          have HOtN := dOt.below bN
          have HBN := dB.alloc dB.size (.cells #[.int .i64 0, .int .i64 (xs : Int), .int .i64 (qn : Int), .int .i64 (vn : Int)] 3)
          have hNb : Nb (wt.drew.alloc (.cells #[.int .i64 0, .int .i64 (xs : Int), .int .i64 (qn : Int), .int .i64 (vn : Int)] 3)) wt.heap.size 0 (xs : Int) (qn : Int) (vn : Int) := heap_alloc_new _ _
          obtain ⟨z0, z1, z2, z3⟩ := hcl _ HBZ
          obtain ⟨z4, z5, z6, z7⟩ := hcl _ HBN
          have hS0 : wt.drew.cell? (ad.add (k * 4)) = some (.string xk) ∧ wt.drew.cell? ⟨(ad.add (k * 4)).block, (ad.add (k * 4)).off + 1, none⟩ = some (.int .i64 (qn : Int)) ∧ wt.drew.cell? ⟨(ad.add (k * 4)).block, (ad.add (k * 4)).off + 3, none⟩ = some (.string xv) := ⟨z0, z1, z3⟩
          have hS1 : (wt.drew.alloc (.cells #[.int .i64 0, .int .i64 (xs : Int), .int .i64 (qn : Int), .int .i64 (vn : Int)] 3)).cell? (ad.add (k * 4)) = some (.string xk) ∧ (wt.drew.alloc (.cells #[.int .i64 0, .int .i64 (xs : Int), .int .i64 (qn : Int), .int .i64 (vn : Int)] 3)).cell? ⟨(ad.add (k * 4)).block, (ad.add (k * 4)).off + 1, none⟩ = some (.int .i64 (qn : Int)) ∧ (wt.drew.alloc (.cells #[.int .i64 0, .int .i64 (xs : Int), .int .i64 (qn : Int), .int .i64 (vn : Int)] 3)).cell? ⟨(ad.add (k * 4)).block, (ad.add (k * 4)).off + 3, none⟩ = some (.string xv) := ⟨z4, z5, z7⟩
          go_region_held3 (fun w' => w'.cell? (ad.add (k * 4)) = some (.string xk) ∧ w'.cell? ⟨(ad.add (k * 4)).block, (ad.add (k * 4)).off + 1, none⟩ = some (.int .i64 (qn : Int)) ∧ w'.cell? ⟨(ad.add (k * 4)).block, (ad.add (k * 4)).off + 3, none⟩ = some (.string xv)) (first | exact hS0 | exact hS1 | assumption) (first | (go_at_call 77))
          go_wp2
          go_loopw [10, 5] (fun iv vb wi => ∃ m : Nat, m ≤ 4 ∧ iv = .int .i64 (m : Int) ∧ OwB wi w.heap.size vb (Bk ++ preE 0 xs qn vn m) ∧ OwB wi w.heap.size (.slice At1 ltt ct1) (Tk ++ [t1, t2]) ∧ Dis vb (.slice At1 ltt ct1) ∧ Nb wi wt.heap.size 0 (xs : Int) (qn : Int) (vn : Int) ∧ Below w.heap.size w wi) (fun iv _ _ => 4 - (intOf iv).toNat)
          case atStart => exact ⟨0, by decide, rfl, by rw [show Bk ++ preE 0 xs qn vn 0 = Bk from List.append_nil _]; exact HObN, HOtN, HDZ, hNb, HBN⟩
          case round =>
            obtain ⟨m, hm4, rfl, HObi, HOti, HDi, hNi, HBi⟩ := hrel
            obtain ⟨Ai, ci, hvi, -⟩ := HObi.rd
            subst hvi
            have hpl := preE_le 0 xs qn vn m
            obtain ⟨li, hli⟩ : ∃ li, (Bk ++ preE 0 xs qn vn m).length = li := ⟨_, rfl⟩
            have hli2 : li ≤ 41572 := by rw [← hli, List.length_append, HLB.out]; exact li_le _ _ hlb2 hpl
            have HLI := hide hli
            obtain ⟨i0, i1, i2, i3⟩ := hNi.read
            obtain ⟨z0, z1, z2, z3⟩ := hcl _ HBi
            rw [hli] at HObi HDi ⊢
            clear hli hpl
            rcases (show m = 0 ∨ m = 1 ∨ m = 2 ∨ m = 3 ∨ m = 4 by omega) with rfl | rfl | rfl | rfl | rfl
            · have hPm : ∀ W, Calls Try.prog 39 #[.int .u64 0] W fun e w' => ∃ v, e = .returned v ∧ OwB w' W.heap.size v (put 0) ∧ Below W.heap.size W w' := hP 0 hb0
              have hu64 : IntKind.u64.wrap 0 = 0 := nat_u64 _ (hb0)
              have hvs := vsize_le 0
              go_wp2_with (first | (go_at_call 39; (with_reducible refine (hPm _).mono ?_); rintro e w5 ⟨v5, rfl, HO5, HB5⟩; obtain ⟨A5, c5, hv5, hr5⟩ := HO5.rd; subst hv5; have HB6 := HBi.trans (HB5.mono HBi.size)) | (at_builtin; refine app_row (w0 := w) (W := w5) w.heap.size rfl (.tmp 74) (.tmp 80) rfl (.slice Ai li ci) (Bk ++ preE 0 xs qn vn 0) (put 0) A5 c5 (by rfl) (by rfl) (HObi.below HB5) hr5 HB6 HB6.size (by rw [HLI.out, put_length]; exact row_le _ _ hli2 hvs) ?_; intro v7 w7 HO7 HB7 hg7 hat7))
              go_roundw
              case rel => exact ⟨1, by decide, by go_num, by rw [List.append_assoc] at HO7; exact HO7, (HOti.below HB5).apart HDi hg7, Dis.step HDi hat7 (HOti.below HB5), (hNi.below HB5).aside (HObi.below HB5) hg7, HB7⟩
              case measure => simp [intOf]
            · have hPm := hP xs (hb1)
              have hu64 : IntKind.u64.wrap (xs : Int) = (xs : Int) := nat_u64 _ (hb1)
              have hvs := vsize_le xs
              go_wp2_with (first | (go_at_call 39; (with_reducible refine (hPm _).mono ?_); rintro e w5 ⟨v5, rfl, HO5, HB5⟩; obtain ⟨A5, c5, hv5, hr5⟩ := HO5.rd; subst hv5; have HB6 := HBi.trans (HB5.mono HBi.size)) | (at_builtin; refine app_row (w0 := w) (W := w5) w.heap.size rfl (.tmp 74) (.tmp 80) rfl (.slice Ai li ci) (Bk ++ preE 0 xs qn vn 1) (put xs) A5 c5 (by rfl) (by rfl) (HObi.below HB5) hr5 HB6 HB6.size (by rw [HLI.out, put_length]; exact row_le _ _ hli2 hvs) ?_; intro v7 w7 HO7 HB7 hg7 hat7))
              go_roundw
              case rel => exact ⟨2, by decide, by go_num, by rw [List.append_assoc] at HO7; exact HO7, (HOti.below HB5).apart HDi hg7, Dis.step HDi hat7 (HOti.below HB5), (hNi.below HB5).aside (HObi.below HB5) hg7, HB7⟩
              case measure => simp [intOf]
            · have hPm := hP qn (hqn)
              have hu64 : IntKind.u64.wrap (qn : Int) = (qn : Int) := nat_u64 _ (hqn)
              have hvs := vsize_le qn
              go_wp2_with (first | (go_at_call 39; (with_reducible refine (hPm _).mono ?_); rintro e w5 ⟨v5, rfl, HO5, HB5⟩; obtain ⟨A5, c5, hv5, hr5⟩ := HO5.rd; subst hv5; have HB6 := HBi.trans (HB5.mono HBi.size)) | (at_builtin; refine app_row (w0 := w) (W := w5) w.heap.size rfl (.tmp 74) (.tmp 80) rfl (.slice Ai li ci) (Bk ++ preE 0 xs qn vn 2) (put qn) A5 c5 (by rfl) (by rfl) (HObi.below HB5) hr5 HB6 HB6.size (by rw [HLI.out, put_length]; exact row_le _ _ hli2 hvs) ?_; intro v7 w7 HO7 HB7 hg7 hat7))
              go_roundw
              case rel => exact ⟨3, by decide, by go_num, by rw [List.append_assoc] at HO7; exact HO7, (HOti.below HB5).apart HDi hg7, Dis.step HDi hat7 (HOti.below HB5), (hNi.below HB5).aside (HObi.below HB5) hg7, HB7⟩
              case measure => simp [intOf]
            · have hPm := hP vn (hb3)
              have hu64 : IntKind.u64.wrap (vn : Int) = (vn : Int) := nat_u64 _ (hb3)
              have hvs := vsize_le vn
              go_wp2_with (first | (go_at_call 39; (with_reducible refine (hPm _).mono ?_); rintro e w5 ⟨v5, rfl, HO5, HB5⟩; obtain ⟨A5, c5, hv5, hr5⟩ := HO5.rd; subst hv5; have HB6 := HBi.trans (HB5.mono HBi.size)) | (at_builtin; refine app_row (w0 := w) (W := w5) w.heap.size rfl (.tmp 74) (.tmp 80) rfl (.slice Ai li ci) (Bk ++ preE 0 xs qn vn 3) (put vn) A5 c5 (by rfl) (by rfl) (HObi.below HB5) hr5 HB6 HB6.size (by rw [HLI.out, put_length]; exact row_le _ _ hli2 hvs) ?_; intro v7 w7 HO7 HB7 hg7 hat7))
              go_roundw
              case rel => exact ⟨4, by decide, by go_num, by rw [List.append_assoc] at HO7; exact HO7, (HOti.below HB5).apart HDi hg7, Dis.step HDi hat7 (HOti.below HB5), (hNi.below HB5).aside (HObi.below HB5) hg7, HB7⟩
              case measure => simp [intOf]
            · have hqs : 0 ≤ (xs : Int) := hqs0
              have hSl : bl (xk.extract 0 xs) = (bl xk).drop 0 := by rw [← HXS.out]; exact ext_drop xk 0
              have hSls : (xk.extract 0 xs).size ≤ xs := by rw [← bl_length, hSl, List.length_drop, bl_length, HXS.out]; exact Nat.sub_le _ _
              have HSL := hide hSl
              have HSS := hide hSls
              clear hSl hSls
              have bK := below_alloc wr (.cells #[.int .u8 (kd.toNat : Int)] 5)
              have HOb1 := HObi.below bK
              have HOt1 := HOti.below bK
              have HBK := HBi.alloc HBi.size (.cells #[.int .u8 (kd.toNat : Int)] 5)
              go_wp2_with (first | (at_builtin; refine app_row (w0 := w) (W := wr.alloc (.cells #[.int .u8 (kd.toNat : Int)] 5)) w.heap.size rfl (.tmp 82) (.tmp 89) rfl (.slice Ai li ci) (Bk ++ preE 0 xs qn vn 4) [kd] (some ⟨wr.heap.size, 0, none⟩) 1 (by rfl) (by rfl) HOb1 (RdB_lit [kd] _ #[.int .u8 (kd.toNat : Int)] 5 (0, 0) _ rfl rfl (by show 1 ≤ 9223372036854775807; decide)) HBK HBK.size (by rw [HLI.out]; exact out_le1 li hli2) ?_; intro v6 w6 HO6 HB6 hg6 hat6; have HOt2 := HOt1.apart HDi hg6; have D6 := Dis.step HDi hat6 HOt1; obtain ⟨y0, y1, y2, y3⟩ := hcl _ HB6) | (at_builtin; refine app_strH (w0 := w) (W := w6) w.heap.size rfl (.tmp 91) (.tmp 98) rfl v6 (Bk ++ preE 0 xs qn vn 4 ++ [kd]) (xk.extract 0 xs) (by rfl) (by rfl) HO6 HB6 HB6.size (by rw [List.length_append, HLI.out]; exact out_le2 li xs _ hli2 hxk HSS.out) ?_; intro v7 w7 HO7 HB7 hg7 hat7; have HOt3 := HOt2.apart D6 hg7; have D7 := Dis.step D6 hat7 HOt2; obtain ⟨y4, y5, y6, y7⟩ := hcl _ HB7) | (at_builtin; refine app_strH (w0 := w) (W := w7) w.heap.size rfl (.tmp 100) (.tmp 105) rfl v7 (Bk ++ preE 0 xs qn vn 4 ++ [kd] ++ bl (xk.extract 0 xs)) xv (by rfl) (by rfl) HO7 HB7 HB7.size (by rw [List.length_append, List.length_append, HLI.out, bl_length, HVN.out]; exact out_le3 li xs vn _ hli2 hxk hxv HSS.out) ?_; intro v8 w8 HO8 HB8 hg8 hat8; have HOt4 := HOt3.apart D7 hg8; have D8 := Dis.step D7 hat8 HOt3))
              go_roundw
              case rel =>
                refine ⟨k + 1, hlt, by go_num, ?_, ?_, D8, HB8⟩
                · rw [HEL.out]
                  have e : entB 0 (xk, (qn : Int), (kd.toNat : Int), xv) = preE 0 xs qn vn 4 ++ [kd] ++ bl (xk.extract 0 xs) ++ bl xv := by
                    rw [HSL.out]
                    unfold entB preE
                    simp only [HXS.out, HVN.out, HSQ.out, Int.toNat_natCast, UInt8.ofNat_toNat, Nat.sub_zero]
                  rw [e]
                  simpa only [List.append_assoc] using HO8
                · rw [HTZ.out]; exact HOt4
              case measure =>
                simp only [intOf, Int.toNat_natCast]
                first | exact meas_lt n k hlt | (simp [intOf]; omega)
        · have h4p := rem4 k
          obtain ⟨rr, hrr⟩ : ∃ rr, k % 4 = rr := ⟨_, rfl⟩
          have hk0 : 0 < k := Nat.pos_of_ne_zero (fun e => h4 (by rw [e]))
          rw [hrr] at h4p
          have h4i : ¬ (rr : Int) = 0 := by omega
          have h4n : ¬ rr = 0 := by omega
          have hke := HKE.out
          rw [if_neg h4] at hke
          obtain ⟨j, hj⟩ : ∃ j, k - 1 = j := ⟨_, rfl⟩
          rw [hj] at hke
          obtain ⟨hk1, hk2⟩ := dec_wraps k j hk0 (Nat.le_trans hk hn2) hj
          have hjn : (j : Int) < (n : Int) := by omega
          have hjn2 : j < n := by omega
          obtain ⟨p0, p1, p2, p3⟩ := RdE.cells (hr.below HB) j (by rw [HN.out]; exact hjn2) rfl
          have hpz := (ordE_may l HO_.out j (by rw [HN.out]; exact hjn2)).1.2.1
          obtain ⟨s, hs⟩ : ∃ s, (l.getD j zEnt).1 = s := ⟨_, rfl⟩
          rw [hs] at p0 hke hpz
          have hcm := fun W => rcommon_any s xk W (by omega)
          rw [← hke] at hcm
          have htl := HTL.out
          rw [if_neg h4] at htl
          have HTZ := hide htl
          clear htl h4 hrr hke hj hs p1 p2 p3 hk0
          go_wp2
          have hd : Below wo.heap.size wo wo.drew := (Below.refl _ _).drew
          have hSk : ∀ W, Below wo.heap.size wo W → Below wo.heap.size wo W ∧ W.cell? (ad.add (j * 4)) = some (.string s) ∧ W.cell? (ad.add (k * 4)) = some (.string xk) := fun W h => ⟨h, (h.cell (World.block_lt_of_cell? _ _ p0)).trans p0, (h.cell (World.block_lt_of_cell? _ _ x0)).trans x0⟩
          have hS9 := hSk _ hd
          go_region_held3 (fun w' => Below wo.heap.size wo w' ∧ w'.cell? (ad.add (j * 4)) = some (.string s) ∧ w'.cell? (ad.add (k * 4)) = some (.string xk)) (first | exact hS9 | exact hSk _ HBt | assumption) (first | (go_at_call 77; (with_reducible refine (hcm _).mono ?_); rintro e w2 ⟨rfl, HB2'⟩; have HBt := hd.trans (HB2'.mono hd.size)))
          have HObZ := HOb.below HBt
          have HOtZ := HOt.below HBt
          have HDZ := HD
          have HBZ := HB.trans (HBt.mono HB.size)
          go_wp2
          have dB := HBZ.drew
          have dOb : OwB w2.drew w.heap.size (.slice Ab lb cb) Bk := HObZ
          have dOt : OwB w2.drew w.heap.size (.slice At lt ct) Tk := HOtZ
          have bN := below_alloc w2.drew (.cells #[.int .i64 (q : Int), .int .i64 (sq : Int), .int .i64 (qn : Int), .int .i64 (vn : Int)] 3)
          have HObN := dOb.below bN
          have HOtN := dOt.below bN
          have HBN := dB.alloc dB.size (.cells #[.int .i64 (q : Int), .int .i64 (sq : Int), .int .i64 (qn : Int), .int .i64 (vn : Int)] 3)
          have hNb : Nb (w2.drew.alloc (.cells #[.int .i64 (q : Int), .int .i64 (sq : Int), .int .i64 (qn : Int), .int .i64 (vn : Int)] 3)) w2.heap.size (q : Int) (sq : Int) (qn : Int) (vn : Int) := heap_alloc_new _ _
          obtain ⟨z0, z1, z2, z3⟩ := hcl _ HBZ
          obtain ⟨z4, z5, z6, z7⟩ := hcl _ HBN
          have hS0 : w2.drew.cell? (ad.add (k * 4)) = some (.string xk) ∧ w2.drew.cell? ⟨(ad.add (k * 4)).block, (ad.add (k * 4)).off + 1, none⟩ = some (.int .i64 (qn : Int)) ∧ w2.drew.cell? ⟨(ad.add (k * 4)).block, (ad.add (k * 4)).off + 3, none⟩ = some (.string xv) := ⟨z0, z1, z3⟩
          have hS1 : (w2.drew.alloc (.cells #[.int .i64 (q : Int), .int .i64 (sq : Int), .int .i64 (qn : Int), .int .i64 (vn : Int)] 3)).cell? (ad.add (k * 4)) = some (.string xk) ∧ (w2.drew.alloc (.cells #[.int .i64 (q : Int), .int .i64 (sq : Int), .int .i64 (qn : Int), .int .i64 (vn : Int)] 3)).cell? ⟨(ad.add (k * 4)).block, (ad.add (k * 4)).off + 1, none⟩ = some (.int .i64 (qn : Int)) ∧ (w2.drew.alloc (.cells #[.int .i64 (q : Int), .int .i64 (sq : Int), .int .i64 (qn : Int), .int .i64 (vn : Int)] 3)).cell? ⟨(ad.add (k * 4)).block, (ad.add (k * 4)).off + 3, none⟩ = some (.string xv) := ⟨z4, z5, z7⟩
          go_region_held3 (fun w' => w'.cell? (ad.add (k * 4)) = some (.string xk) ∧ w'.cell? ⟨(ad.add (k * 4)).block, (ad.add (k * 4)).off + 1, none⟩ = some (.int .i64 (qn : Int)) ∧ w'.cell? ⟨(ad.add (k * 4)).block, (ad.add (k * 4)).off + 3, none⟩ = some (.string xv)) (first | exact hS0 | exact hS1 | assumption) (first | (go_at_call 77))
          go_wp2
          go_loopw [10, 5] (fun iv vb wi => ∃ m : Nat, m ≤ 4 ∧ iv = .int .i64 (m : Int) ∧ OwB wi w.heap.size vb (Bk ++ preE q sq qn vn m) ∧ OwB wi w.heap.size (.slice At lt ct) Tk ∧ Dis vb (.slice At lt ct) ∧ Nb wi w2.heap.size (q : Int) (sq : Int) (qn : Int) (vn : Int) ∧ Below w.heap.size w wi) (fun iv _ _ => 4 - (intOf iv).toNat)
          case atStart => exact ⟨0, by decide, rfl, by rw [show Bk ++ preE q sq qn vn 0 = Bk from List.append_nil _]; exact HObN, HOtN, HDZ, hNb, HBN⟩
          case round =>
            obtain ⟨m, hm4, rfl, HObi, HOti, HDi, hNi, HBi⟩ := hrel
            obtain ⟨Ai, ci, hvi, -⟩ := HObi.rd
            subst hvi
            have hpl := preE_le q sq qn vn m
            obtain ⟨li, hli⟩ : ∃ li, (Bk ++ preE q sq qn vn m).length = li := ⟨_, rfl⟩
            have hli2 : li ≤ 41572 := by rw [← hli, List.length_append, HLB.out]; exact li_le _ _ hlb2 hpl
            have HLI := hide hli
            obtain ⟨i0, i1, i2, i3⟩ := hNi.read
            obtain ⟨z0, z1, z2, z3⟩ := hcl _ HBi
            rw [hli] at HObi HDi ⊢
            clear hli hpl
            rcases (show m = 0 ∨ m = 1 ∨ m = 2 ∨ m = 3 ∨ m = 4 by omega) with rfl | rfl | rfl | rfl | rfl
            · have hPm := hP q (hb0)
              have hu64 : IntKind.u64.wrap (q : Int) = (q : Int) := nat_u64 _ (hb0)
              have hvs := vsize_le q
              go_wp2_with (first | (go_at_call 39; (with_reducible refine (hPm _).mono ?_); rintro e w5 ⟨v5, rfl, HO5, HB5⟩; obtain ⟨A5, c5, hv5, hr5⟩ := HO5.rd; subst hv5; have HB6 := HBi.trans (HB5.mono HBi.size)) | (at_builtin; refine app_row (w0 := w) (W := w5) w.heap.size rfl (.tmp 74) (.tmp 80) rfl (.slice Ai li ci) (Bk ++ preE q sq qn vn 0) (put q) A5 c5 (by rfl) (by rfl) (HObi.below HB5) hr5 HB6 HB6.size (by rw [HLI.out, put_length]; exact row_le _ _ hli2 hvs) ?_; intro v7 w7 HO7 HB7 hg7 hat7))
              go_roundw
              case rel => exact ⟨1, by decide, by go_num, by rw [List.append_assoc] at HO7; exact HO7, (HOti.below HB5).apart HDi hg7, Dis.step HDi hat7 (HOti.below HB5), (hNi.below HB5).aside (HObi.below HB5) hg7, HB7⟩
              case measure => simp [intOf]
            · have hPm := hP sq (hb1)
              have hu64 : IntKind.u64.wrap (sq : Int) = (sq : Int) := nat_u64 _ (hb1)
              have hvs := vsize_le sq
              go_wp2_with (first | (go_at_call 39; (with_reducible refine (hPm _).mono ?_); rintro e w5 ⟨v5, rfl, HO5, HB5⟩; obtain ⟨A5, c5, hv5, hr5⟩ := HO5.rd; subst hv5; have HB6 := HBi.trans (HB5.mono HBi.size)) | (at_builtin; refine app_row (w0 := w) (W := w5) w.heap.size rfl (.tmp 74) (.tmp 80) rfl (.slice Ai li ci) (Bk ++ preE q sq qn vn 1) (put sq) A5 c5 (by rfl) (by rfl) (HObi.below HB5) hr5 HB6 HB6.size (by rw [HLI.out, put_length]; exact row_le _ _ hli2 hvs) ?_; intro v7 w7 HO7 HB7 hg7 hat7))
              go_roundw
              case rel => exact ⟨2, by decide, by go_num, by rw [List.append_assoc] at HO7; exact HO7, (HOti.below HB5).apart HDi hg7, Dis.step HDi hat7 (HOti.below HB5), (hNi.below HB5).aside (HObi.below HB5) hg7, HB7⟩
              case measure => simp [intOf]
            · have hPm := hP qn (hqn)
              have hu64 : IntKind.u64.wrap (qn : Int) = (qn : Int) := nat_u64 _ (hqn)
              have hvs := vsize_le qn
              go_wp2_with (first | (go_at_call 39; (with_reducible refine (hPm _).mono ?_); rintro e w5 ⟨v5, rfl, HO5, HB5⟩; obtain ⟨A5, c5, hv5, hr5⟩ := HO5.rd; subst hv5; have HB6 := HBi.trans (HB5.mono HBi.size)) | (at_builtin; refine app_row (w0 := w) (W := w5) w.heap.size rfl (.tmp 74) (.tmp 80) rfl (.slice Ai li ci) (Bk ++ preE q sq qn vn 2) (put qn) A5 c5 (by rfl) (by rfl) (HObi.below HB5) hr5 HB6 HB6.size (by rw [HLI.out, put_length]; exact row_le _ _ hli2 hvs) ?_; intro v7 w7 HO7 HB7 hg7 hat7))
              go_roundw
              case rel => exact ⟨3, by decide, by go_num, by rw [List.append_assoc] at HO7; exact HO7, (HOti.below HB5).apart HDi hg7, Dis.step HDi hat7 (HOti.below HB5), (hNi.below HB5).aside (HObi.below HB5) hg7, HB7⟩
              case measure => simp [intOf]
            · have hPm := hP vn (hb3)
              have hu64 : IntKind.u64.wrap (vn : Int) = (vn : Int) := nat_u64 _ (hb3)
              have hvs := vsize_le vn
              go_wp2_with (first | (go_at_call 39; (with_reducible refine (hPm _).mono ?_); rintro e w5 ⟨v5, rfl, HO5, HB5⟩; obtain ⟨A5, c5, hv5, hr5⟩ := HO5.rd; subst hv5; have HB6 := HBi.trans (HB5.mono HBi.size)) | (at_builtin; refine app_row (w0 := w) (W := w5) w.heap.size rfl (.tmp 74) (.tmp 80) rfl (.slice Ai li ci) (Bk ++ preE q sq qn vn 3) (put vn) A5 c5 (by rfl) (by rfl) (HObi.below HB5) hr5 HB6 HB6.size (by rw [HLI.out, put_length]; exact row_le _ _ hli2 hvs) ?_; intro v7 w7 HO7 HB7 hg7 hat7))
              go_roundw
              case rel => exact ⟨4, by decide, by go_num, by rw [List.append_assoc] at HO7; exact HO7, (HOti.below HB5).apart HDi hg7, Dis.step HDi hat7 (HOti.below HB5), (hNi.below HB5).aside (HObi.below HB5) hg7, HB7⟩
              case measure => simp [intOf]
            · have hqs : (q : Int) ≤ (xs : Int) := hqs0
              have hSl : bl (xk.extract q xs) = (bl xk).drop q := by rw [← HXS.out]; exact ext_drop xk q
              have hSls : (xk.extract q xs).size ≤ xs := by rw [← bl_length, hSl, List.length_drop, bl_length, HXS.out]; exact Nat.sub_le _ _
              have HSL := hide hSl
              have HSS := hide hSls
              clear hSl hSls
              have bK := below_alloc wr (.cells #[.int .u8 (kd.toNat : Int)] 5)
              have HOb1 := HObi.below bK
              have HOt1 := HOti.below bK
              have HBK := HBi.alloc HBi.size (.cells #[.int .u8 (kd.toNat : Int)] 5)
              go_wp2_with (first | (at_builtin; refine app_row (w0 := w) (W := wr.alloc (.cells #[.int .u8 (kd.toNat : Int)] 5)) w.heap.size rfl (.tmp 82) (.tmp 89) rfl (.slice Ai li ci) (Bk ++ preE q sq qn vn 4) [kd] (some ⟨wr.heap.size, 0, none⟩) 1 (by rfl) (by rfl) HOb1 (RdB_lit [kd] _ #[.int .u8 (kd.toNat : Int)] 5 (0, 0) _ rfl rfl (by show 1 ≤ 9223372036854775807; decide)) HBK HBK.size (by rw [HLI.out]; exact out_le1 li hli2) ?_; intro v6 w6 HO6 HB6 hg6 hat6; have HOt2 := HOt1.apart HDi hg6; have D6 := Dis.step HDi hat6 HOt1; obtain ⟨y0, y1, y2, y3⟩ := hcl _ HB6) | (at_builtin; refine app_strH (w0 := w) (W := w6) w.heap.size rfl (.tmp 91) (.tmp 98) rfl v6 (Bk ++ preE q sq qn vn 4 ++ [kd]) (xk.extract q xs) (by rfl) (by rfl) HO6 HB6 HB6.size (by rw [List.length_append, HLI.out]; exact out_le2 li xs _ hli2 hxk HSS.out) ?_; intro v7 w7 HO7 HB7 hg7 hat7; have HOt3 := HOt2.apart D6 hg7; have D7 := Dis.step D6 hat7 HOt2; obtain ⟨y4, y5, y6, y7⟩ := hcl _ HB7) | (at_builtin; refine app_strH (w0 := w) (W := w7) w.heap.size rfl (.tmp 100) (.tmp 105) rfl v7 (Bk ++ preE q sq qn vn 4 ++ [kd] ++ bl (xk.extract q xs)) xv (by rfl) (by rfl) HO7 HB7 HB7.size (by rw [List.length_append, List.length_append, HLI.out, bl_length, HVN.out]; exact out_le3 li xs vn _ hli2 hxk hxv HSS.out) ?_; intro v8 w8 HO8 HB8 hg8 hat8; have HOt4 := HOt3.apart D7 hg8; have D8 := Dis.step D7 hat8 HOt3))
              go_roundw
              case rel =>
                refine ⟨k + 1, hlt, by go_num, ?_, ?_, D8, HB8⟩
                · rw [HEL.out]
                  have e : entB q (xk, (qn : Int), (kd.toNat : Int), xv) = preE q sq qn vn 4 ++ [kd] ++ bl (xk.extract q xs) ++ bl xv := by
                    rw [HSL.out]
                    unfold entB preE
                    simp only [HXS.out, HVN.out, HSQ.out, Int.toNat_natCast, UInt8.ofNat_toNat]
                  rw [e]
                  simpa only [List.append_assoc] using HO8
                · rw [HTZ.out]; exact HOt4
              case measure =>
                simp only [intOf, Int.toNat_natCast]
                first | exact meas_lt n k hlt | (simp [intOf]; omega)
      · obtain rfl : k = n := Nat.le_antisymm hk (Nat.not_lt.1 hlt)
        have hlb := entsB_length l HO_.out k (by rw [HN.out]; exact Nat.le_refl _)
        have hltl := tailB_length l k
        have hlk := HN.out
        have hbk : blkB l = entsB l k ++ tailB l k ++ [UInt8.ofNat ((tailB l k).length / 2)] := by rw [blkB, hlk]
        obtain ⟨lb, hlbe⟩ : ∃ lb, (entsB l k).length = lb := ⟨_, rfl⟩
        obtain ⟨lt, hlte⟩ : ∃ lt, (tailB l k).length = lt := ⟨_, rfl⟩
        rw [hlte] at hbk hltl
        rw [hlbe] at hlb
        have hlt2 : lt ≤ 64 := by omega
        have hlb2 : lb ≤ 41536 := by omega
        have hd2 : (lt : Int) / 2 = ((UInt8.ofNat (lt / 2)).toNat : Int) := by rw [UInt8.toNat_ofNat']; omega
        have hd3 : (lt : Int).tdiv 2 = ((UInt8.ofNat (lt / 2)).toNat : Int) := by rw [UInt8.toNat_ofNat', Int.tdiv_eq_ediv_of_nonneg (by omega)]; omega
        obtain ⟨t, ht⟩ : ∃ t, UInt8.ofNat (lt / 2) = t := ⟨_, rfl⟩
        rw [ht] at hd2 hd3 hbk
        have wt := wrap_u8n t
        generalize entsB l k = Bk at *
        generalize tailB l k = Tk at *
        have HBK := hide hbk
        have HLB := hide hlbe
        have HLT := hide hlte
        have hlen : (blkB l).length = lb + lt + 1 := by rw [hbk, List.length_append, List.length_append, hlbe, hlte]; rfl
        have hGd := fun A c W (h : RdB W A c (blkB l)) => rGuard_any A c (blkB l) W h (by omega)
        have HLEN := hide hlen
        rw [hlbe] at HOb ⊢
        rw [hlte] at HOt ⊢
        clear hlb hltl hbk hlbe hlte ht hlen hlk hrb hrt
        go_wp2_with (first | (at_builtin; refine app_row (w0 := w) (W := wo) w.heap.size rfl (.tmp 107) (.tmp 108) rfl (.slice Ab lb cb) Bk Tk At ct (by rfl) (by show _ = Value.slice At Tk.length ct; rw [HLT.out]; rfl) HOb HOt.rdl HB HB.size (by rw [HLB.out, HLT.out]; omega) ?_; intro v6 w6 HO6 HB6 hg6 hat6; have bK := below_alloc w6 (.cells #[.int .u8 (t.toNat : Int)] 5); have HO7 := HO6.below bK; have HB7 := HB6.alloc HB6.size (.cells #[.int .u8 (t.toNat : Int)] 5)) | (at_builtin; refine app_row (w0 := w) (W := w6.alloc (.cells #[.int .u8 (t.toNat : Int)] 5)) w.heap.size rfl (.tmp 110) (.tmp 115) rfl v6 (Bk ++ Tk) [t] (some ⟨w6.heap.size, 0, none⟩) 1 (by rfl) (by rfl) HO7 (RdB_lit [t] _ #[.int .u8 (t.toNat : Int)] 5 (0, 0) _ rfl rfl (by show 1 ≤ 9223372036854775807; decide)) HB7 HB7.size (by rw [List.length_append, HLB.out, HLT.out]; show lb + lt + 1 ≤ _; omega) ?_; intro v8 w8 HO8 HB8 hg8 hat8; rw [← HBK.out] at HO8; obtain ⟨A8, c8, hv8, hr8⟩ := HO8.rd; subst hv8) | (go_at_call 45; (refine (hGd _ _ _ hr8).mono ?_); rintro e w9 ⟨v9, rfl, HO9, HB9⟩))
        go_ret2
        exact ⟨_, rfl, HO9.lower HB8.size, HB8.trans (HB9.mono HB8.size)⟩
  · have hX : blkX l = [] := by rw [blkX, if_neg hz]
    rw [hX]
    generalize chkE l = z at *
    go_enter Try.func38, Try.ntmps38
    go_wp2_with (first | (go_at_call 76; (with_reducible refine hC.mono ?_); rintro e w1 ⟨rfl, HB1⟩))
    go_ret2
    exact ⟨_, rfl, OwB.zero _ _, HB1⟩
end Go.Proofs.Ytefcepjffeiaoaa
end

section
/- Block: the walks of both Decodes. -/
namespace Go.Proofs.Ytefcepjffeiaoaa
open Go.RowKit Go.Proofs.YtefcepjffeiaoaaW.PrintWords
set_option linter.unusedVariables false

theorem rdEs_len (f : Nat) : ∀ (key b : List UInt8) (l : List Ent), rdEs f key b = some l → l.length ≤ f := by
  induction f with
  | zero => intro key b l h; rw [rdEs] at h; injection h with h; subst h; simp
  | succ f ih =>
    intro key b l h
    rw [rdEs] at h
    split at h
    · injection h with h; subst h; simp
    · split at h
      · cases h
      · next x r _ =>
        rw [Option.map_eq_some_iff] at h
        obtain ⟨l', h1, rfl⟩ := h
        have := ih _ _ _ h1
        rw [List.length_cons]; omega
theorem toldE_len (b : List UInt8) : (toldE b).length ≤ 65 := by
  unfold toldE
  split
  · simp
  · split
    · simp
    · cases h : rdEs 65 [] (b.take (b.length - 1 - 2 * (b.getD (b.length - 1) 0).toNat)) with
      | none => simp
      | some l => exact rdEs_len _ _ _ _ h
theorem bare_le (b : List UInt8) : (bare b).length ≤ b.length := by
  unfold bare
  split
  · rw [List.length_take]; omega
  · simp
theorem strB_same (xs ys : List UInt8) : ((strB xs).toList == (strB ys).toList) = decide (xs = ys) := by
  rw [same_bl]
  by_cases h : xs = ys
  · rw [decide_eq_true h, decide_eq_true (by rw [h])]
  · rw [decide_eq_false h, decide_eq_false (fun e => h (by simpa [bl, strB] using e))]
set_option maxRecDepth 100000 in
set_option maxHeartbeats 800000 in
theorem Equal_any (A B : Option Addr) (c d n m : Nat) (xs ys : List UInt8) (w : World) (hn : xs.length = n) (hm : ys.length = m) (hx : RdB w A c xs) (hy : RdB w B d ys) :
    Calls Try.prog 50 #[.slice A n c, .slice B m d] w fun e w' => e = .returned (.bool (decide (xs = ys))) ∧ Below w.heap.size w w' := by
  subst hn
  subst hm
  have c1 := hx.toStr (P := Try.prog) 23 5 9 Try.underlying23 Try.underlying5 Try.underlying9
  have c2 := hy.toStr (P := Try.prog) 23 5 9 Try.underlying23 Try.underlying5 Try.underlying9
  have hs := strB_same xs ys
  go_enter Try.func50, Try.ntmps50
  go_wp2
  go_ret
  exact ⟨rfl, Below.refl _ _⟩
set_option maxRecDepth 100000 in
set_option maxHeartbeats 1600000 in
theorem Decode_any (A : Option Addr) (c n : Nat) (b : List UInt8) (w : World) (hn : b.length = n) (hx : RdB w A c b) (hl : n ≤ 140737488355328) :
    Calls Try.prog 85 #[.slice A n c] w fun e w' => ∃ v, e = .returned (.tuple #[v, .int .i64 (unE b)]) ∧ OwE w' w.heap.size v (unL b) ∧ Below w.heap.size w w' := by
  subst hn
  have hB := Bare_all A c b w hx hl
  have hun : unE b = if bareNum b ≠ 0 then bareNum b else if chkE (toldE (bare b)) = 0 ∧ blkX (toldE (bare b)) = b then 0 else 21 := rfl
  have hul : unL b = if unE b = 0 then toldE (bare b) else [] := rfl
  have hbl := bare_le b
  have hT := fun A c W (h : RdB W A c (bare b)) => told_any A c (bare b) W h (Nat.le_trans hbl hl)
  have htl := toldE_len (bare b)
  have hE := fun A c W (h : RdE W A c (toldE (bare b))) => Encode_any A c _ (toldE (bare b)) W rfl h (by omega)
  obtain ⟨n, hn⟩ : ∃ n, b.length = n := ⟨_, rfl⟩
  have HN := hide hn
  rw [hn] at hB hl ⊢
  by_cases h0 : bareNum b = 0
  · rw [if_neg (fun h => h h0)] at hun
    rw [h0] at hB
    generalize bare b = x at *
    generalize toldE x = L at *
    obtain ⟨nx, hnx⟩ : ∃ nx, x.length = nx := ⟨_, rfl⟩
    obtain ⟨nL, hnL⟩ : ∃ nL, L.length = nL := ⟨_, rfl⟩
    have HNX := hide hnx
    have HNL := hide hnL
    rw [hnx] at hT
    rw [hnL] at hE
    clear hn h0 hnx hnL htl hbl
    by_cases h1 : chkE L = 0
    · rw [h1] at hE
      by_cases h2 : blkX L = b
      · rw [if_pos ⟨h1, h2⟩] at hun
        rw [hun, if_pos rfl] at hul
        rw [hun, hul]
        have hQ := fun A B c d W (h : RdB W A c b) (h' : RdB W B d b) => Equal_any A B c d n n b b W HN.out HN.out h h'
        simp only [decide_true] at hQ
        rw [h2] at hE
        clear hun hul h1 h2
        go_enter Try.func85, Try.ntmps85
        go_wp2_with (first | (go_at_call 46; (with_reducible refine hB.mono ?_); rintro e w1 ⟨v1, rfl, HO1, HB1⟩; obtain ⟨A1, c1, hv1, hr1⟩ := HO1.rd; rw [HNX.out] at hv1; subst hv1) | (go_at_call 103; (with_reducible refine (hT _ _ _ hr1).mono ?_); rintro e w2 ⟨v2, rfl, HO2, HB2⟩; obtain ⟨A2, c2, hv2, hr2⟩ := HO2.rd; rw [HNL.out] at hv2; subst hv2; have HC2 := HB1.trans (HB2.mono HB1.size)) | (go_at_call 28; (with_reducible refine (hE _ _ _ hr2).mono ?_); rintro e w3 ⟨v3, rfl, HO3, HB3⟩; obtain ⟨A3, c3, hv3, hr3⟩ := HO3.rd; rw [HN.out] at hv3; subst hv3; have HC3 := HC2.trans (HB3.mono HC2.size)) | (go_at_call 50; (with_reducible refine (hQ _ _ _ _ _ hr3 (hx.below HC3)).mono ?_); rintro e w4 ⟨rfl, HB4⟩; have HC4 := HC3.trans (HB4.mono HC3.size)))
        go_ret2
        exact ⟨_, rfl, ((HO2.lower HB1.size).below HB3).below HB4, HC4⟩
      · rw [if_neg (fun h => h2 h.2)] at hun
        rw [hun, if_neg (by decide)] at hul
        rw [hun, hul]
        generalize blkX L = y at *
        obtain ⟨ny, hny⟩ : ∃ ny, y.length = ny := ⟨_, rfl⟩
        have HNY := hide hny
        have hQ := fun A B c d W (h : RdB W A c y) (h' : RdB W B d b) => Equal_any A B c d ny n y b W HNY.out HN.out h h'
        simp only [h2, decide_false] at hQ
        clear hun hul h1 h2 hny
        go_enter Try.func85, Try.ntmps85
        go_wp2_with (first | (go_at_call 46; (with_reducible refine hB.mono ?_); rintro e w1 ⟨v1, rfl, HO1, HB1⟩; obtain ⟨A1, c1, hv1, hr1⟩ := HO1.rd; rw [HNX.out] at hv1; subst hv1) | (go_at_call 103; (with_reducible refine (hT _ _ _ hr1).mono ?_); rintro e w2 ⟨v2, rfl, HO2, HB2⟩; obtain ⟨A2, c2, hv2, hr2⟩ := HO2.rd; rw [HNL.out] at hv2; subst hv2; have HC2 := HB1.trans (HB2.mono HB1.size)) | (go_at_call 28; (with_reducible refine (hE _ _ _ hr2).mono ?_); rintro e w3 ⟨v3, rfl, HO3, HB3⟩; obtain ⟨A3, c3, hv3, hr3⟩ := HO3.rd; rw [HNY.out] at hv3; subst hv3; have HC3 := HC2.trans (HB3.mono HC2.size)) | (go_at_call 50; (with_reducible refine (hQ _ _ _ _ _ hr3 (hx.below HC3)).mono ?_); rintro e w4 ⟨rfl, HB4⟩; have HC4 := HC3.trans (HB4.mono HC3.size)))
        go_ret2
        exact ⟨_, rfl, Ow.zero _ _ _ _, HC4⟩
    · rw [if_neg (fun h => h1 h.1)] at hun
      rw [hun, if_neg (by decide)] at hul
      rw [hun, hul]
      generalize blkX L = y at *
      generalize chkE L = z at *
      clear hun hul
      go_enter Try.func85, Try.ntmps85
      go_wp2_with (first | (go_at_call 46; (with_reducible refine hB.mono ?_); rintro e w1 ⟨v1, rfl, HO1, HB1⟩; obtain ⟨A1, c1, hv1, hr1⟩ := HO1.rd; rw [HNX.out] at hv1; subst hv1) | (go_at_call 103; (with_reducible refine (hT _ _ _ hr1).mono ?_); rintro e w2 ⟨v2, rfl, HO2, HB2⟩; obtain ⟨A2, c2, hv2, hr2⟩ := HO2.rd; rw [HNL.out] at hv2; subst hv2; have HC2 := HB1.trans (HB2.mono HB1.size)) | (go_at_call 28; (with_reducible refine (hE _ _ _ hr2).mono ?_); rintro e w3 ⟨v3, rfl, HO3, HB3⟩; have HC3 := HC2.trans (HB3.mono HC2.size)))
      go_ret2
      exact ⟨_, rfl, Ow.zero _ _ _ _, HC3⟩
  · rw [if_pos h0] at hun
    rw [hun] at hul
    rw [if_neg h0] at hul
    rw [hun, hul]
    generalize bareNum b = z at *
    clear hun hul hn hT hE htl hbl
    go_enter Try.func85, Try.ntmps85
    go_wp2_with (first | (go_at_call 46; (with_reducible refine hB.mono ?_); rintro e w1 ⟨v1, rfl, HO1, HB1⟩))
    go_ret2
    exact ⟨_, rfl, Ow.zero _ _ _ _, HB1⟩
end Go.Proofs.Ytefcepjffeiaoaa
end

section
/- Block: the walk of the reference's Decode. -/
namespace Go.Proofs.Ytefcepjffeiaoaa
open Go.RowKit Go.Proofs.YtefcepjffeiaoaaW.PrintWords
set_option linter.unusedVariables false

set_option maxRecDepth 100000 in
set_option maxHeartbeats 1600000 in
theorem rDecode_any (A : Option Addr) (c n : Nat) (b : List UInt8) (w : World) (hn : b.length = n) (hx : RdB w A c b) (hl : n ≤ 140737488355328) :
    Calls Try.prog 88 #[.slice A n c] w fun e w' => ∃ v, e = .returned (.tuple #[v, .int .i64 (unE b)]) ∧ OwE w' w.heap.size v (unL b) ∧ Below w.heap.size w w' := by
  subst hn
  have hB := rBare_all A c b w hx hl
  have hun : unE b = if bareNum b ≠ 0 then bareNum b else if chkE (toldE (bare b)) = 0 ∧ blkX (toldE (bare b)) = b then 0 else 21 := rfl
  have hul : unL b = if unE b = 0 then toldE (bare b) else [] := rfl
  have hbl := bare_le b
  have hT := fun A c W (h : RdB W A c (bare b)) => rtold_any A c (bare b) W h (Nat.le_trans hbl hl)
  have htl := toldE_len (bare b)
  have hE := fun A c W (h : RdE W A c (toldE (bare b))) => rEncode_any A c _ (toldE (bare b)) W rfl h (by omega)
  obtain ⟨n, hn⟩ : ∃ n, b.length = n := ⟨_, rfl⟩
  have HN := hide hn
  rw [hn] at hB hl ⊢
  by_cases h0 : bareNum b = 0
  · rw [if_neg (fun h => h h0)] at hun
    rw [h0] at hB
    generalize bare b = x at *
    generalize toldE x = L at *
    obtain ⟨nx, hnx⟩ : ∃ nx, x.length = nx := ⟨_, rfl⟩
    obtain ⟨nL, hnL⟩ : ∃ nL, L.length = nL := ⟨_, rfl⟩
    have HNX := hide hnx
    have HNL := hide hnL
    rw [hnx] at hT
    rw [hnL] at hE
    clear hn h0 hnx hnL htl hbl
    by_cases h1 : chkE L = 0
    · rw [h1] at hE
      by_cases h2 : blkX L = b
      · rw [if_pos ⟨h1, h2⟩] at hun
        rw [hun, if_pos rfl] at hul
        rw [hun, hul]
        have hQ : ((strB b).toList == (strB b).toList) = true := by rw [strB_same]; exact decide_eq_true rfl
        rw [h2] at hE
        clear hun hul h1 h2
        go_enter Try.func88, Try.ntmps88
        go_wp2_with (first | (go_at_call 51; (with_reducible refine hB.mono ?_); rintro e w1 ⟨v1, rfl, HO1, HB1⟩; obtain ⟨A1, c1, hv1, hr1⟩ := HO1.rd; rw [HNX.out] at hv1; subst hv1) | (go_at_call 105; (with_reducible refine (hT _ _ _ hr1).mono ?_); rintro e w2 ⟨v2, rfl, HO2, HB2⟩; obtain ⟨A2, c2, hv2, hr2⟩ := HO2.rd; rw [HNL.out] at hv2; subst hv2; have HC2 := HB1.trans (HB2.mono HB1.size)) | (go_at_call 38; (with_reducible refine (hE _ _ _ hr2).mono ?_); rintro e w3 ⟨v3, rfl, HO3, HB3⟩; obtain ⟨A3, c3, hv3, hr3⟩ := HO3.rd; rw [HN.out] at hv3; subst hv3; have HC3 := HC2.trans (HB3.mono HC2.size); have cv3 := hr3.toStr (P := Try.prog) 23 5 9 Try.underlying23 Try.underlying5 Try.underlying9; rw [HN.out] at cv3; have cvb := (hx.below HC3).toStr (P := Try.prog) 23 5 9 Try.underlying23 Try.underlying5 Try.underlying9; rw [HN.out] at cvb))
        go_ret2
        exact ⟨_, rfl, (HO2.lower HB1.size).below HB3, HC3⟩
      · rw [if_neg (fun h => h2 h.2)] at hun
        rw [hun, if_neg (by decide)] at hul
        rw [hun, hul]
        generalize blkX L = y at *
        obtain ⟨ny, hny⟩ : ∃ ny, y.length = ny := ⟨_, rfl⟩
        have HNY := hide hny
        have hQ : ((strB y).toList == (strB b).toList) = false := by rw [strB_same]; exact decide_eq_false h2
        clear hun hul h1 h2 hny
        go_enter Try.func88, Try.ntmps88
        go_wp2_with (first | (go_at_call 51; (with_reducible refine hB.mono ?_); rintro e w1 ⟨v1, rfl, HO1, HB1⟩; obtain ⟨A1, c1, hv1, hr1⟩ := HO1.rd; rw [HNX.out] at hv1; subst hv1) | (go_at_call 105; (with_reducible refine (hT _ _ _ hr1).mono ?_); rintro e w2 ⟨v2, rfl, HO2, HB2⟩; obtain ⟨A2, c2, hv2, hr2⟩ := HO2.rd; rw [HNL.out] at hv2; subst hv2; have HC2 := HB1.trans (HB2.mono HB1.size)) | (go_at_call 38; (with_reducible refine (hE _ _ _ hr2).mono ?_); rintro e w3 ⟨v3, rfl, HO3, HB3⟩; obtain ⟨A3, c3, hv3, hr3⟩ := HO3.rd; rw [HNY.out] at hv3; subst hv3; have HC3 := HC2.trans (HB3.mono HC2.size); have cv3 := hr3.toStr (P := Try.prog) 23 5 9 Try.underlying23 Try.underlying5 Try.underlying9; rw [HNY.out] at cv3; have cvb := (hx.below HC3).toStr (P := Try.prog) 23 5 9 Try.underlying23 Try.underlying5 Try.underlying9; rw [HN.out] at cvb))
        go_ret2
        exact ⟨_, rfl, Ow.zero _ _ _ _, HC3⟩
    · rw [if_neg (fun h => h1 h.1)] at hun
      rw [hun, if_neg (by decide)] at hul
      rw [hun, hul]
      generalize blkX L = y at *
      generalize chkE L = z at *
      clear hun hul
      go_enter Try.func88, Try.ntmps88
      go_wp2_with (first | (go_at_call 51; (with_reducible refine hB.mono ?_); rintro e w1 ⟨v1, rfl, HO1, HB1⟩; obtain ⟨A1, c1, hv1, hr1⟩ := HO1.rd; rw [HNX.out] at hv1; subst hv1) | (go_at_call 105; (with_reducible refine (hT _ _ _ hr1).mono ?_); rintro e w2 ⟨v2, rfl, HO2, HB2⟩; obtain ⟨A2, c2, hv2, hr2⟩ := HO2.rd; rw [HNL.out] at hv2; subst hv2; have HC2 := HB1.trans (HB2.mono HB1.size)) | (go_at_call 38; (with_reducible refine (hE _ _ _ hr2).mono ?_); rintro e w3 ⟨v3, rfl, HO3, HB3⟩; have HC3 := HC2.trans (HB3.mono HC2.size)))
      go_ret2
      exact ⟨_, rfl, Ow.zero _ _ _ _, HC3⟩
  · rw [if_pos h0] at hun
    rw [hun] at hul
    rw [if_neg h0] at hul
    rw [hun, hul]
    generalize bareNum b = z at *
    clear hun hul hn hT hE htl hbl
    go_enter Try.func88, Try.ntmps88
    go_wp2_with (first | (go_at_call 51; (with_reducible refine hB.mono ?_); rintro e w1 ⟨v1, rfl, HO1, HB1⟩))
    go_ret2
    exact ⟨_, rfl, Ow.zero _ _ _ _, HB1⟩
end Go.Proofs.Ytefcepjffeiaoaa
end

section
/- Block: the search, walked. -/
namespace Go.Proofs.Ytefcepjffeiaoaa
open Go.RowKit Go.Proofs.YtefcepjffeiaoaaW.PrintWords
set_option linter.unusedVariables false

set_option maxRecDepth 100000 in
set_option maxHeartbeats 800000 in
theorem cl_any (x y : Ent) (w : World) : Calls Try.prog 90 #[ebv x, ebv y] w fun e w' => e = .returned (.int .i64 (ordN x y)) ∧ Below w.heap.size w w' := by
  obtain ⟨k1, q1, d1, v1⟩ := x
  obtain ⟨k2, q2, d2, v2⟩ := y
  have hX := Eb.new w (k1, q1, d1, v1)
  have hX2 := hX.below (below_alloc (w.alloc (ebo (k1, q1, d1, v1))) (ebo (k2, q2, d2, v2)))
  have hY := Eb.new (w.alloc (ebo (k1, q1, d1, v1))) (k2, q2, d2, v2)
  have HB := ((Below.refl w.heap.size w).alloc (Nat.le_refl _) (ebo (k1, q1, d1, v1))).alloc (below_alloc w (ebo (k1, q1, d1, v1))).size (ebo (k2, q2, d2, v2))
  go_enter Try.func90, Try.ntmps90
  go_wp2
  obtain ⟨x0, x1, -, -, -, -, -, -⟩ := hX2.read
  obtain ⟨y0, y1, -, -, -, -, -, -⟩ := hY.read
  generalize hWo : (w.alloc (ebo (k1, q1, d1, v1))).alloc (ebo (k2, q2, d2, v2)) = Wo at *
  have HWo := hide hWo
  clear hWo hX2 hY hX
  have hs1 : (w.alloc (ebo (k1, q1, d1, v1))).heap.size = w.heap.size + 1 := World.size_alloc _ _
  rw [hs1] at y0 y1
  have l0 := World.block_lt_of_cell? _ _ x0
  have l1 := World.block_lt_of_cell? _ _ y0
  have l2 := World.block_lt_of_cell? _ _ x1
  have l3 := World.block_lt_of_cell? _ _ y1
  obtain ⟨p, hp⟩ : ∃ p, cmpS k1 k2 = p := ⟨_, rfl⟩
  obtain ⟨q, hq⟩ : ∃ q, Lib.compareInt q2 q1 = q := ⟨_, rfl⟩
  have C1 := fun W => cmpS_any k1 k2 W
  have C2 := fun W => cmp_Compare_int q2 q1 W
  rw [hp] at C1
  rw [hq] at C2
  have HR : ordN (k1, q1, d1, v1) (k2, q2, d2, v2) = or2 p q := by rw [ordN, hp, hq]
  have HRR := hide HR
  clear HR hp hq
  have hd : Below w.heap.size w Wo.drew := HB.drew
  have bA := below_alloc Wo.drew (.cells #[.int .i64 p, .int .i64 q] 3)
  have r0 : (Wo.drew.alloc (.cells #[.int .i64 p, .int .i64 q] 3)).heap[Wo.drew.heap.size]? = some (.cells #[.int .i64 p, .int .i64 q] 3 (0, 0)) := heap_alloc_new _ _
  have O1 := Or_any Wo.drew.heap.size p q _ (blk_cell r0 0) (blk_cell r0 1)
  have hda := hd.alloc hd.size (.cells #[.int .i64 p, .int .i64 q] 3)
  have hS0 : Wo.drew.cell? ⟨w.heap.size, 0, none⟩ = some (.string k1) ∧ Wo.drew.cell? ⟨w.heap.size, 1, none⟩ = some (.int .i64 q1) ∧ Wo.drew.cell? ⟨w.heap.size + 1, 0, none⟩ = some (.string k2) ∧ Wo.drew.cell? ⟨w.heap.size + 1, 1, none⟩ = some (.int .i64 q2) := ⟨x0, x1, y0, y1⟩
  have hS1 : (Wo.drew.alloc (.cells #[.int .i64 p, .int .i64 q] 3)).cell? ⟨w.heap.size, 0, none⟩ = some (.string k1) ∧ (Wo.drew.alloc (.cells #[.int .i64 p, .int .i64 q] 3)).cell? ⟨w.heap.size, 1, none⟩ = some (.int .i64 q1) ∧ (Wo.drew.alloc (.cells #[.int .i64 p, .int .i64 q] 3)).cell? ⟨w.heap.size + 1, 0, none⟩ = some (.string k2) ∧ (Wo.drew.alloc (.cells #[.int .i64 p, .int .i64 q] 3)).cell? ⟨w.heap.size + 1, 1, none⟩ = some (.int .i64 q2) := ⟨(bA.cell l0).trans x0, (bA.cell l2).trans x1, (bA.cell l1).trans y0, (bA.cell l3).trans y1⟩
  go_region_held3 (fun w' => w'.cell? ⟨w.heap.size, 0, none⟩ = some (.string k1) ∧ w'.cell? ⟨w.heap.size, 1, none⟩ = some (.int .i64 q1) ∧ w'.cell? ⟨w.heap.size + 1, 0, none⟩ = some (.string k2) ∧ w'.cell? ⟨w.heap.size + 1, 1, none⟩ = some (.int .i64 q2)) (first | exact hS0 | exact hS1 | assumption) (first | (go_at_call 92; (with_reducible refine (C1 _).mono ?_); rintro e w' ⟨rfl, rfl⟩) | (go_at_call 93; (with_reducible refine (C2 _).mono ?_); rintro e w' ⟨rfl, rfl⟩) | (go_at_call 91; (refine O1.mono ?_); rintro e w' ⟨rfl, rfl⟩))
  go_wp2
  go_ret
  exact ⟨by rw [HRR.out]; rfl, hda⟩
theorem mid_facts (i j n : Nat) (h1 : i < j) (h2 : j ≤ n) (h3 : n ≤ 1000000) : ∃ s h : Nat, (i : Int) + (j : Int) = (s : Int) ∧ wrap64 (s : Int) = (s : Int) ∧ IntKind.i64.wrap (s : Int) = (s : Int) ∧ IntKind.u64.wrap (s : Int) = (s : Int) ∧ (s : Int) / 2 = (h : Int) ∧ wrap64 (h : Int) = (h : Int) ∧ IntKind.i64.wrap (h : Int) = (h : Int) ∧ IntKind.u64.wrap (h : Int) = (h : Int) ∧ i ≤ h ∧ h < j := by
  refine ⟨i + j, (i + j) / 2, by omega, ?_, ?_, ?_, by omega, ?_, ?_, ?_, by omega, by omega⟩
  · unfold wrap64; omega
  · rw [IntKind.wrap_i64]; omega
  · rw [IntKind.wrap_u64]; omega
  · unfold wrap64; omega
  · rw [IntKind.wrap_i64]; omega
  · rw [IntKind.wrap_u64]; omega
theorem ms1 (i j h : Nat) (h1 : i ≤ h) (h2 : h < j) : j - (h + 1) < j - i := by omega
theorem ms2 (i j h : Nat) (h1 : i ≤ h) (h2 : h < j) : h - i < j - i := by omega
theorem succ_facts (h n : Nat) (h1 : h < n) (h3 : n ≤ 1000000) : wrap64 ((h : Int) + 1) = ((h + 1 : Nat) : Int) ∧ IntKind.i64.wrap ((h : Int) + 1) = ((h + 1 : Nat) : Int) := ⟨by unfold wrap64; omega, by rw [IntKind.wrap_i64]; omega⟩
set_option maxRecDepth 100000 in
set_option maxHeartbeats 3200000 in
theorem Search_any (A : Option Addr) (c n : Nat) (l : List Ent) (t : Ent) (w : World) (hn : l.length = n) (hr : RdE w A c l) (ho : ordE l = 0) (hl : n ≤ 1000000) :
    Calls Try.prog 89 #[.slice A n c, ebv t, .func (.func 90) #[] #[]] w fun e w' => ∃ (i : Nat) (fb : Bool), e = .returned (.tuple #[.int .i64 (i : Int), .bool fb]) ∧ i ≤ n ∧ (∀ k, k < i → befE (l.getD k zEnt) t) ∧ (i < n → ¬ befE (l.getD i zEnt) t) ∧ Below w.heap.size w w' := by
  have HN := hide hn
  have HOO := hide ho
  have hE := Eb.new w t
  have bA := below_alloc w (ebo t)
  clear hn ho
  go_enter Try.func89, Try.ntmps89
  go_wp2
  go_loopw [9, 10] (fun iv jv wr => ∃ i j : Nat, i ≤ j ∧ j ≤ n ∧ iv = .int .i64 (i : Int) ∧ jv = .int .i64 (j : Int) ∧ (∀ k, k < i → befE (l.getD k zEnt) t) ∧ (∀ k, j ≤ k → k < n → ¬ befE (l.getD k zEnt) t) ∧ Eb wr w.heap.size t ∧ Below w.heap.size w wr) (fun iv jv _ => (intOf jv).toNat - (intOf iv).toNat)
  case atStart => exact ⟨0, n, Nat.zero_le _, Nat.le_refl _, rfl, rfl, fun k h => absurd h (Nat.not_lt_zero _), fun k h1 h2 => absurd h2 (Nat.not_lt.2 h1), hE, bA⟩
  case round =>
    obtain ⟨i, j, hij, hjn, rfl, rfl, hlo, hhi, hEr, HB⟩ := hrel
    obtain ⟨t0, t1, t2, t3, -, -, -, -⟩ := hEr.read
    have HLO := hide hlo
    have HHI := hide hhi
    clear hlo hhi
    by_cases hlt : i < j
    · obtain ⟨s, h, f1, f2, f3, f4, f5, f6, f7, f8, f9, f10⟩ := mid_facts i j n hlt hjn hl
      have hlti : (i : Int) < (j : Int) := Int.ofNat_lt.2 hlt
      have hhn : h < n := Nat.lt_of_lt_of_le f10 hjn
      have hhni : (h : Int) < (n : Int) := Int.ofNat_lt.2 hhn
      obtain ⟨f11, f12⟩ := succ_facts h n hhn hl
      obtain ⟨ad, rfl, x0, x1, x2, x3⟩ := RdE.at4 (hr.below HB) h (by rw [HN.out]; exact hhn)
      obtain ⟨y, hy⟩ : ∃ y, l.getD h zEnt = y := ⟨_, rfl⟩
      have HY := hide hy
      rw [hy] at x0 x1 x2 x3
      have hCl := fun W => cl_any y t W
      have hneg := ordN_neg y t
      obtain ⟨r, hrr⟩ : ∃ r, ordN y t = r := ⟨_, rfl⟩
      rw [hrr] at hCl hneg
      have hd : Below wr.heap.size wr wr.drew := (Below.refl _ _).drew
      have hSk : ∀ W, Below wr.heap.size wr W → Below wr.heap.size wr W ∧ W.cell? (ad.add (h * 4)) = some (.string y.1) ∧ W.cell? ⟨(ad.add (h * 4)).block, (ad.add (h * 4)).off + 1, none⟩ = some (.int .i64 y.2.1) ∧ W.cell? ⟨(ad.add (h * 4)).block, (ad.add (h * 4)).off + 2, none⟩ = some (.int .i64 y.2.2.1) ∧ W.cell? ⟨(ad.add (h * 4)).block, (ad.add (h * 4)).off + 3, none⟩ = some (.string y.2.2.2) ∧ W.cell? ⟨w.heap.size, 0, none⟩ = some (.string t.1) ∧ W.cell? ⟨w.heap.size, 1, none⟩ = some (.int .i64 t.2.1) ∧ W.cell? ⟨w.heap.size, 2, none⟩ = some (.int .i64 t.2.2.1) ∧ W.cell? ⟨w.heap.size, 3, none⟩ = some (.string t.2.2.2) := fun W h => ⟨h, (h.cell (World.block_lt_of_cell? _ _ x0)).trans x0, (h.cell (World.block_lt_of_cell? _ _ x1)).trans x1, (h.cell (World.block_lt_of_cell? _ _ x2)).trans x2, (h.cell (World.block_lt_of_cell? _ _ x3)).trans x3, (h.cell (World.block_lt_of_cell? _ _ t0)).trans t0, (h.cell (World.block_lt_of_cell? _ _ t1)).trans t1, (h.cell (World.block_lt_of_cell? _ _ t2)).trans t2, (h.cell (World.block_lt_of_cell? _ _ t3)).trans t3⟩
      have hS0 := hSk _ hd
      clear hrr hy
      by_cases hb : befE y t
      · have hr0 : r < 0 := by rw [decide_eq_true hb] at hneg; exact of_decide_eq_true hneg
        clear hneg
        go_wp2
        go_region_held3 (fun w' => Below wr.heap.size wr w' ∧ w'.cell? (ad.add (h * 4)) = some (.string y.1) ∧ w'.cell? ⟨(ad.add (h * 4)).block, (ad.add (h * 4)).off + 1, none⟩ = some (.int .i64 y.2.1) ∧ w'.cell? ⟨(ad.add (h * 4)).block, (ad.add (h * 4)).off + 2, none⟩ = some (.int .i64 y.2.2.1) ∧ w'.cell? ⟨(ad.add (h * 4)).block, (ad.add (h * 4)).off + 3, none⟩ = some (.string y.2.2.2) ∧ w'.cell? ⟨w.heap.size, 0, none⟩ = some (.string t.1) ∧ w'.cell? ⟨w.heap.size, 1, none⟩ = some (.int .i64 t.2.1) ∧ w'.cell? ⟨w.heap.size, 2, none⟩ = some (.int .i64 t.2.2.1) ∧ w'.cell? ⟨w.heap.size, 3, none⟩ = some (.string t.2.2.2)) (first | exact hS0 | exact hSk _ HBt | assumption) (first | (go_at_call 90; (with_reducible refine (hCl _).mono ?_); rintro e w6 ⟨rfl, HB6'⟩; have HBt := hd.trans (HB6'.mono hd.size); have HB6 := HB.trans (HBt.mono HB.size)))
        go_wp2
        go_roundw
        case rel =>
          refine ⟨h + 1, j, f10, hjn, by go_num, rfl, fun k hk => ?_, HHI.out, hEr.below HBt, HB6⟩
          rcases Nat.lt_or_ge k h with h5 | h5
          · have := ord_bef l HOO.out h (by rw [HN.out]; exact hhn) k h5
            rw [HY.out] at this
            exact bef_tr this hb
          · obtain rfl : h = k := Nat.le_antisymm h5 (Nat.lt_succ_iff.1 hk)
            rw [HY.out]; exact hb
        case measure =>
          simp only [intOf, Int.toNat_natCast, f11, f12]
          first | exact ms1 i j h f9 f10 | (simp [intOf]; exact ms1 i j h f9 f10)
      · have hr0 : ¬ r < 0 := by rw [decide_eq_false hb] at hneg; exact of_decide_eq_false hneg
        clear hneg
        go_wp2
        go_region_held3 (fun w' => Below wr.heap.size wr w' ∧ w'.cell? (ad.add (h * 4)) = some (.string y.1) ∧ w'.cell? ⟨(ad.add (h * 4)).block, (ad.add (h * 4)).off + 1, none⟩ = some (.int .i64 y.2.1) ∧ w'.cell? ⟨(ad.add (h * 4)).block, (ad.add (h * 4)).off + 2, none⟩ = some (.int .i64 y.2.2.1) ∧ w'.cell? ⟨(ad.add (h * 4)).block, (ad.add (h * 4)).off + 3, none⟩ = some (.string y.2.2.2) ∧ w'.cell? ⟨w.heap.size, 0, none⟩ = some (.string t.1) ∧ w'.cell? ⟨w.heap.size, 1, none⟩ = some (.int .i64 t.2.1) ∧ w'.cell? ⟨w.heap.size, 2, none⟩ = some (.int .i64 t.2.2.1) ∧ w'.cell? ⟨w.heap.size, 3, none⟩ = some (.string t.2.2.2)) (first | exact hS0 | exact hSk _ HBt | assumption) (first | (go_at_call 90; (with_reducible refine (hCl _).mono ?_); rintro e w6 ⟨rfl, HB6'⟩; have HBt := hd.trans (HB6'.mono hd.size); have HB6 := HB.trans (HBt.mono HB.size)))
        go_wp2
        go_roundw
        case rel =>
          refine ⟨i, h, f9, Nat.le_of_lt hhn, rfl, rfl, HLO.out, fun k h1 h2 h3 => ?_, hEr.below HBt, HB6⟩
          rcases Nat.lt_or_ge h k with h5 | h5
          · have := ord_bef l HOO.out k (by rw [HN.out]; exact h2) h h5
            rw [HY.out] at this
            exact hb (bef_tr this h3)
          · obtain rfl : h = k := Nat.le_antisymm h1 h5
            rw [HY.out] at h3; exact hb h3
        case measure =>
          simp only [intOf, Int.toNat_natCast]
          first | exact ms2 i j h f9 f10 | (simp [intOf]; exact ms2 i j h f9 f10)
    · obtain rfl : i = j := Nat.le_antisymm hij (Nat.not_lt.1 hlt)
      clear hlt
      by_cases hin : i < n
      · have hini : (i : Int) < (n : Int) := Int.ofNat_lt.2 hin
        obtain ⟨ad, rfl, x0, x1, x2, x3⟩ := RdE.at4 (hr.below HB) i (by rw [HN.out]; exact hin)
        obtain ⟨y, hy⟩ : ∃ y, l.getD i zEnt = y := ⟨_, rfl⟩
        rw [hy] at x0 x1 x2 x3
        have hCl := fun W => cl_any y t W
        obtain ⟨r, hrr⟩ : ∃ r, ordN y t = r := ⟨_, rfl⟩
        rw [hrr] at hCl
        have hd : Below wr.heap.size wr wr.drew := (Below.refl _ _).drew
        have hSk : ∀ W, Below wr.heap.size wr W → Below wr.heap.size wr W ∧ W.cell? (ad.add (i * 4)) = some (.string y.1) ∧ W.cell? ⟨(ad.add (i * 4)).block, (ad.add (i * 4)).off + 1, none⟩ = some (.int .i64 y.2.1) ∧ W.cell? ⟨(ad.add (i * 4)).block, (ad.add (i * 4)).off + 2, none⟩ = some (.int .i64 y.2.2.1) ∧ W.cell? ⟨(ad.add (i * 4)).block, (ad.add (i * 4)).off + 3, none⟩ = some (.string y.2.2.2) ∧ W.cell? ⟨w.heap.size, 0, none⟩ = some (.string t.1) ∧ W.cell? ⟨w.heap.size, 1, none⟩ = some (.int .i64 t.2.1) ∧ W.cell? ⟨w.heap.size, 2, none⟩ = some (.int .i64 t.2.2.1) ∧ W.cell? ⟨w.heap.size, 3, none⟩ = some (.string t.2.2.2) := fun W h => ⟨h, (h.cell (World.block_lt_of_cell? _ _ x0)).trans x0, (h.cell (World.block_lt_of_cell? _ _ x1)).trans x1, (h.cell (World.block_lt_of_cell? _ _ x2)).trans x2, (h.cell (World.block_lt_of_cell? _ _ x3)).trans x3, (h.cell (World.block_lt_of_cell? _ _ t0)).trans t0, (h.cell (World.block_lt_of_cell? _ _ t1)).trans t1, (h.cell (World.block_lt_of_cell? _ _ t2)).trans t2, (h.cell (World.block_lt_of_cell? _ _ t3)).trans t3⟩
        have hS0 := hSk _ hd
        clear hrr hy
        go_wp2
        go_region_held3 (fun w' => Below wr.heap.size wr w' ∧ w'.cell? (ad.add (i * 4)) = some (.string y.1) ∧ w'.cell? ⟨(ad.add (i * 4)).block, (ad.add (i * 4)).off + 1, none⟩ = some (.int .i64 y.2.1) ∧ w'.cell? ⟨(ad.add (i * 4)).block, (ad.add (i * 4)).off + 2, none⟩ = some (.int .i64 y.2.2.1) ∧ w'.cell? ⟨(ad.add (i * 4)).block, (ad.add (i * 4)).off + 3, none⟩ = some (.string y.2.2.2) ∧ w'.cell? ⟨w.heap.size, 0, none⟩ = some (.string t.1) ∧ w'.cell? ⟨w.heap.size, 1, none⟩ = some (.int .i64 t.2.1) ∧ w'.cell? ⟨w.heap.size, 2, none⟩ = some (.int .i64 t.2.2.1) ∧ w'.cell? ⟨w.heap.size, 3, none⟩ = some (.string t.2.2.2)) (first | exact hS0 | exact hSk _ HBt | assumption) (first | (go_at_call 90; (with_reducible refine (hCl _).mono ?_); rintro e w6 ⟨rfl, HB6'⟩; have HBt := hd.trans (HB6'.mono hd.size); have HB6 := HB.trans (HBt.mono HB.size)))
        go_wp2
        go_ret2
        exact ⟨i, _, rfl, hjn, HLO.out, fun h => HHI.out i (Nat.le_refl _) h, HB6⟩
      · have hini : ¬ (i : Int) < (n : Int) := fun h => hin (Int.ofNat_lt.1 h)
        go_wp2
        refine wp_region_below w.heap.size w HB (by kernel_rfl) (by kernel_rfl) ?_
        repeat (go_big_quiet_step ((intro hb; rfl)))
        refine wpQuiet_nil ?_
        intro w5 HC5
        go_wp2
        go_ret2
        exact ⟨i, _, rfl, hjn, HLO.out, fun h => absurd h hin, HC5⟩
end Go.Proofs.Ytefcepjffeiaoaa
end

section
/- Block: the walks of First and Seek. -/
namespace Go.Proofs.Ytefcepjffeiaoaa
open Go.RowKit Go.Proofs.YtefcepjffeiaoaaW.PrintWords
set_option linter.unusedVariables false

abbrev resV (r : Option Ent) : Value := ebv (resE r).1
theorem First_plain (l : List Ent) (ho : ordE l = 0) (key : ByteArray) (seq : Int) (i : Nat) (hi : i ≤ l.length) (h1 : ∀ k, k < i → befE (l.getD k zEnt) (key, seq, 0, ⟨#[]⟩)) (h2 : i < l.length → ¬ befE (l.getD i zEnt) (key, seq, 0, ⟨#[]⟩)) :
    firstE l key seq = if i < l.length ∧ (l.getD i zEnt).1 = key then some (l.getD i zEnt) else none := first_bs l ho key seq (key, seq, 0, ⟨#[]⟩) rfl rfl i hi h1 h2
/-- where the search halts -/
def bsI (l : List Ent) (t : Ent) : Nat := l.findIdx (fun x => !decide (befE x t))
theorem bsI_uniq (l : List Ent) (t : Ent) (i : Nat) (hi : i ≤ l.length) (h1 : ∀ k, k < i → befE (l.getD k zEnt) t) (h2 : i < l.length → ¬ befE (l.getD i zEnt) t) : bsI l t = i := by
  induction l generalizing i with
  | nil => simp at hi; subst hi; rfl
  | cons x l ih =>
    unfold bsI
    rw [List.findIdx_cons]
    cases i with
    | zero =>
      have := h2 (by simp)
      rw [List.getD_cons_zero] at this
      simp [this]
    | succ i =>
      have h0 := h1 0 (by omega)
      rw [List.getD_cons_zero] at h0
      have := ih i (by simpa using hi) (fun k hk => by have := h1 (k + 1) (by omega); rwa [List.getD_cons_succ] at this) (fun h => by have := h2 (by simpa using h); rwa [List.getD_cons_succ] at this)
      unfold bsI at this
      simp [h0, this]
set_option maxRecDepth 100000 in
set_option maxHeartbeats 3200000 in
theorem First_any (A : Option Addr) (c n : Nat) (l : List Ent) (key : ByteArray) (seq : Int) (w : World) (hn : l.length = n) (hr : RdE w A c l) (ho : ordE l = 0) (hl : n ≤ 1000000) :
    Calls Try.prog 54 #[.slice A n c, .string key, .int .i64 seq] w fun e w' => e = .returned (.tuple #[resV (firstE l key seq), .bool (resE (firstE l key seq)).2]) ∧ Below w.heap.size w w' := by
  have bA := below_alloc w (.cells #[.string ⟨#[]⟩, .int .i64 0, .int .i64 0, .string ⟨#[]⟩] 43)
  have hE := Eb.new w (⟨#[]⟩, 0, 0, ⟨#[]⟩)
  obtain ⟨I, hI⟩ : ∃ I, bsI l (key, seq, 0, ⟨#[]⟩) = I := ⟨_, rfl⟩
  have hS : Calls Try.prog 89 #[.slice A n c, .agg #[.string key, .int .i64 seq, .int .i64 0, .string ⟨#[]⟩], .func (.func 90) #[] #[]] (w.alloc (.cells #[.string ⟨#[]⟩, .int .i64 0, .int .i64 0, .string ⟨#[]⟩] 43)) fun e w' => ∃ fb : Bool, e = .returned (.tuple #[.int .i64 (I : Int), .bool fb]) ∧ (I ≤ n ∧ firstE l key seq = if I < n ∧ (l.getD I zEnt).1 = key then some (l.getD I zEnt) else none) ∧ Below (w.alloc (.cells #[.string ⟨#[]⟩, .int .i64 0, .int .i64 0, .string ⟨#[]⟩] 43)).heap.size (w.alloc (.cells #[.string ⟨#[]⟩, .int .i64 0, .int .i64 0, .string ⟨#[]⟩] 43)) w' := by
    refine (Search_any A c n l (key, seq, 0, ⟨#[]⟩) _ hn (hr.below bA) ho hl).mono ?_
    rintro e w' ⟨i, fb, rfl, hi, hlo, hhi, HB⟩
    rw [← hn] at hi hhi
    have hu := bsI_uniq l _ i hi hlo hhi
    rw [hI] at hu
    subst hu
    have hf := First_plain l ho key seq I hi hlo hhi
    rw [hn] at hi hf
    exact ⟨fb, rfl, ⟨hi, hf⟩, HB⟩
  have HN := hide hn
  clear hI
  by_cases hin : I < n
  · have hini : ¬ (I : Int) = (n : Int) := fun e => by omega
    have hinn : ¬ I = n := by omega
    have hini2 : (I : Int) < (n : Int) := Int.ofNat_lt.2 hin
    obtain ⟨ad, rfl, x0, x1, x2, x3⟩ := RdE.at4 hr I (by rw [hn]; exact hin)
    have hcl := fun W (h : Below w.heap.size w W) => RdE.at4 (hr.below h) I (by rw [hn]; exact hin)
    obtain ⟨⟨xk, xq, xd, xv⟩, hy⟩ : ∃ y, l.getD I zEnt = y := ⟨_, rfl⟩
    simp only [hy] at hS x0 x1 x2 x3 hcl
    clear hn ho hy
    by_cases hk : xk = key
    · subst hk
      have hse : (xk.toList == xk.toList) = true := by simp
      go_enter Try.func54, Try.ntmps54
      go_wp2_with (first | (go_at_call 89; (with_reducible refine hS.mono ?_); rintro e w1 ⟨fb, rfl, ⟨hi, hf⟩, HB1⟩; have HC := bA.trans (HB1.mono bA.size); have hE1 := hE.below HB1; obtain ⟨e0, e1, e2, e3, y0, y1, y2, y3⟩ := hE1.read; obtain ⟨ad', he, z0, z1, z2, z3⟩ := hcl _ HC; cases he; rw [if_pos ⟨hin, rfl⟩] at hf; have HF := hide hf; clear hf))
      have hF := blk_set (blk_set (blk_set (blk_set hE1 0 (.string xk)) 1 (.int .i64 xq)) 2 (.int .i64 xd)) 3 (.string xv)
      refine bodyPost_ret (v := .tuple #[.agg #[.string xk, .int .i64 xq, .int .i64 xd, .string xv], .bool true]) (results_ct Try.results54 _ _ w.heap.size _ _ _ _ rfl hF Try.underlying43 rfl rfl) rfl ⟨?_, ?_⟩
      · rw [HF.out]; rfl
      · exact ((((HC.setCell (p := ⟨w.heap.size, 0, none⟩) (Nat.le_refl _) _).setCell (p := ⟨w.heap.size, 1, none⟩) (Nat.le_refl _) _).setCell (p := ⟨w.heap.size, 2, none⟩) (Nat.le_refl _) _).setCell (p := ⟨w.heap.size, 3, none⟩) (Nat.le_refl _) _)
    · have hse : (xk.toList == key.toList) = false := by rw [same_bl]; exact decide_eq_false (fun e => hk (bl_inj e))
      go_enter Try.func54, Try.ntmps54
      go_wp2_with (first | (go_at_call 89; (with_reducible refine hS.mono ?_); rintro e w1 ⟨fb, rfl, ⟨hi, hf⟩, HB1⟩; have HC := bA.trans (HB1.mono bA.size); have hE1 := hE.below HB1; obtain ⟨e0, e1, e2, e3, y0, y1, y2, y3⟩ := hE1.read; obtain ⟨ad', he, z0, z1, z2, z3⟩ := hcl _ HC; cases he; rw [if_neg (fun h => hk h.2)] at hf; have HF := hide hf; clear hf))
      have hF := blk_set (blk_set (blk_set (blk_set hE1 0 (.string ⟨#[]⟩)) 1 (.int .i64 0)) 2 (.int .i64 0)) 3 (.string ⟨#[]⟩)
      refine bodyPost_ret (v := .tuple #[.agg #[.string ⟨#[]⟩, .int .i64 0, .int .i64 0, .string ⟨#[]⟩], .bool false]) (results_ct Try.results54 _ _ w.heap.size _ _ _ _ rfl hF Try.underlying43 rfl rfl) rfl ⟨?_, ?_⟩
      · rw [HF.out]; rfl
      · exact ((((HC.setCell (p := ⟨w.heap.size, 0, none⟩) (Nat.le_refl _) _).setCell (p := ⟨w.heap.size, 1, none⟩) (Nat.le_refl _) _).setCell (p := ⟨w.heap.size, 2, none⟩) (Nat.le_refl _) _).setCell (p := ⟨w.heap.size, 3, none⟩) (Nat.le_refl _) _)
  · have hS2 := hS
    have hIn : ∀ h : I ≤ n, I = n := fun h => Nat.le_antisymm h (Nat.not_lt.1 hin)
    go_enter Try.func54, Try.ntmps54
    go_wp2_with (first | (go_at_call 89; (with_reducible refine hS.mono ?_); rintro e w1 ⟨fb, rfl, ⟨hi, hf⟩, HB1⟩; have HC := bA.trans (HB1.mono bA.size); have hE1 := hE.below HB1; obtain ⟨e0, e1, e2, e3, y0, y1, y2, y3⟩ := hE1.read; rw [if_neg (fun h => hin h.1)] at hf; have HF := hide hf; clear hf; obtain rfl := hIn hi))
    have hF := blk_set (blk_set (blk_set (blk_set hE1 0 (.string ⟨#[]⟩)) 1 (.int .i64 0)) 2 (.int .i64 0)) 3 (.string ⟨#[]⟩)
    refine bodyPost_ret (v := .tuple #[.agg #[.string ⟨#[]⟩, .int .i64 0, .int .i64 0, .string ⟨#[]⟩], .bool false]) (results_ct Try.results54 _ _ w.heap.size _ _ _ _ rfl hF Try.underlying43 rfl rfl) rfl ⟨?_, ?_⟩
    · rw [HF.out]; rfl
    · exact ((((HC.setCell (p := ⟨w.heap.size, 0, none⟩) (Nat.le_refl _) _).setCell (p := ⟨w.heap.size, 1, none⟩) (Nat.le_refl _) _).setCell (p := ⟨w.heap.size, 2, none⟩) (Nat.le_refl _) _).setCell (p := ⟨w.heap.size, 3, none⟩) (Nat.le_refl _) _)
end Go.Proofs.Ytefcepjffeiaoaa
end

section
/- A range over a function whose iterator hands out memory of its own: the statement, out of the iterator's word and of one round's walk. -/
namespace Go.Proofs.Ytefcepjffeiaoaa
open Go.RowKit Go.Shelf Go.Proofs.YtefcepjffeiaoaaW.PrintWords
set_option linter.unusedVariables false

/-- all blocks but the loop's two (D, D + 1) lie as they lay -/
structure Ap (D : Nat) (A B : World) : Prop where
  below : Below D A B
  past : ∀ j, D + 2 ≤ j → j < A.heap.size → B.heap[j]? = A.heap[j]?
theorem Ap.of_below {D : Nat} {A B : World} (h : Below A.heap.size A B) (hD : D ≤ A.heap.size) : Ap D A B := ⟨h.mono hD, fun j _ hl => h.block j hl⟩
theorem Ap.trans {D : Nat} {A B C : World} (h : Ap D A B) (k : Ap D B C) : Ap D A C := ⟨h.below.trans k.below, fun j hj hl => (k.past j hj (Nat.lt_of_lt_of_le hl h.below.size)).trans (h.past j hj hl)⟩
theorem Ap.put {D : Nat} (A : World) (o : Obj) (hl : D + 1 < A.heap.size) : Ap D A (A.putObj (D + 1) o) :=
  ⟨(Below.refl D A).grown (grownBy_putObj' A (D + 1) o) (by omega) (fun k e => by cases e; omega), fun j hj _ => World.putObj_heap_other (by omega)⟩
/-- what stays where the call's own blocks stay -/
theorem Ap.block {D : Nat} {A B : World} (h : Ap D A B) (j : Nat) (hl : j < A.heap.size) (h0 : j ≠ D) (h1 : j ≠ D + 1) : B.heap[j]? = A.heap[j]? := by
  rcases Nat.lt_or_ge j D with h2 | h2
  · exact h.below.block j h2
  · exact h.past j (by omega) hl
/-- the loop's two blocks stay, and the iterator's -/
structure Keeps (own : Nat → Prop) (D : Nat) (A B : World) : Prop where
  size : A.heap.size ≤ B.heap.size
  block : ∀ j, own j ∨ j = D ∨ j = D + 1 → j < D + 2 → B.heap[j]? = A.heap[j]?

/-- the iterator's word: N rounds, in order, if each goes on; V: what round k's values are, made from a bound on; what is 'own' of the caller's world stays -/
def IterV (P : Program) (gf : Nat) (lb : Array Value) (own : Nat → Prop) (N : Nat) (V : Nat → Nat → Array Value → World → Prop) (w : World) : Prop :=
  ∀ (n l : Nat) (J Jx : Nat → World → Prop) (W : World), (∀ j, own j → j < w.heap.size → W.heap[j]? = w.heap[j]?) → w.heap.size ≤ W.heap.size →
    (∀ k A B, Below A.heap.size A B → J k A → J k B) →
    (∀ k b vs A, k < N → W.heap.size ≤ b → V k b vs A → J k A → YieldAt Fence.wide (n - 1) P l vs A fun e B => (e = .returned (.bool true) ∧ J (k + 1) B ∧ (∀ j, own j → j < w.heap.size → B.heap[j]? = A.heap[j]?) ∧ A.heap.size ≤ B.heap.size) ∨ (e = .returned (.bool false) ∧ Jx k B)) →
    J 0 W → CallsIn Fence.wide n P gf (#[.func (.yield l) #[] #[]] ++ lb) W fun e B => (∃ v, e = .returned v) ∧ (J N B ∨ ∃ k, k < N ∧ Jx k B)

/-- how a round's body may end -/
def roundEndV (own : Nat → Prop) (D : Nat) (I Ix : Nat → World → Prop) (k : Nat) (W : World) : Exit → Act → World → Prop
  | .normal, _, B => Keeps own D W B ∧ I (k + 1) B
  | .ret, _, B => Keeps own D W B ∧ Ix k B
  | _, _, _ => False

theorem range_iterV {n : Nat} {P : Program} {g : Operand} {ps : Array Tmp} {assign body : Code} {Q : Exit → Act → World → Prop} {a : Act} {w : World} {gf : Nat} {lb : Array Value} {N D : Nat} {own : Nat → Prop} {V : Nat → Nat → Array Value → World → Prop}
    (hD : w.heap.size = D) (hg : a.eval g = .func (.func gf) #[] lb) (eg : ∀ args w, (callFunc gf args).run P w = .ok (.enter gf args) w) (hps : ∀ k b vs A, V k b vs A → vs.size = ps.size)
    (hit : IterV P gf lb own N V w) (I Ix : Nat → World → Prop) (hI : ∀ k A B, Ap D A B → I k A → I k B) (hIx : ∀ k A B, Ap D A B → Ix k A → Ix k B) (hV : ∀ k b vs A B, D + 2 ≤ b → Ap D A B → V k b vs A → V k b vs B) (h0 : I 0 w)
    (Asg : Nat → Nat → Act → World → Prop) (hAsg : ∀ k b a₁ A B, D + 2 ≤ b → Ap D A B → Asg k b a₁ A → Asg k b a₁ B)
    (hassign : ∀ (l k b : Nat) (vs : Array Value) (W : World) (K : Act → World → Prop), k < N → D + 2 ≤ b → D + 2 ≤ W.heap.size → V k b vs W → (∀ a₁ W₁, Below W.heap.size W W₁ → Asg k b a₁ W₁ → K a₁ W₁) →
      assign.wpIn (Fence.wide.inRound l) (n - 1 - 1) P (Exit.then K (fun _ _ _ => False)) { tmps := (ps.zip vs).foldl (fun t (p, v) => t.setIfInBounds p v) a.tmps, defers := [] } W)
    (hbody : ∀ (l k b : Nat) (a₁ : Act) (W : World), k < N → D + 2 ≤ b → D + 2 ≤ W.heap.size → Asg k b a₁ W → I k W → body.wpIn (Fence.wide.inRound l) (n - 1 - 1) P (roundEndV own D I Ix k W) a₁ W)
    (hdone : ∀ (W : World), I N W → D ≤ W.heap.size → W.heap[D]? = some (.deferred (some [])) → Q .normal { a with defers := { target := .collected D, args := #[] } :: a.defers } W)
    (hstop : ∀ (k : Nat) (W : World), k < N → Ix k W → D ≤ W.heap.size → W.heap[D]? = some (.deferred (some [])) → Code.ret.wpIn Fence.wide n P Q { a with defers := { target := .collected D, args := #[] } :: a.defers } W) :
    (Code.rangeFunc g ps assign body).wpIn Fence.wide n P Q a w := by
  refine wpIn_rangeFunc fun fn hfn => ?_
  let rec₀ : LoopState → Option Code → Loop := fun st pe => { state := st, pending := pe, fn := fn, tmps := a.tmps, params := ps, assign := assign, body := body, defers := w.heap.size }
  let W1 : World := (w.alloc (.deferred (some []))).alloc (.loop (rec₀ .ready none))
  have s1 : W1.heap.size = D + 2 := by simp [W1, hD]
  have r1 : W1.heap[D + 1]? = some (.loop (rec₀ .ready none)) := by
    have h := World.alloc_heap_new (w.alloc (.deferred (some []))) (.loop (rec₀ .ready none))
    rw [World.size_alloc, hD] at h
    exact h
  have d1 : W1.heap[D]? = some (.deferred (some [])) := by
    rw [← hD]
    exact (Below.heap_alloc _ _ _ (by simp)).trans (World.alloc_heap_new w _)
  have hb1 : Below D w W1 := ((Below.refl _ _).alloc (by omega) _).alloc (by simp; omega) _
  have ha1 : Ap D w W1 := ⟨hb1, fun j hj hl => by omega⟩
  refine ⟨D + 1, [{ target := .collected D, args := #[] }], W1, { target := .fn (.func gf) lb, args := #[.func (.yield (D + 1)) #[] #[]] }, W1, gf, #[.func (.yield (D + 1)) #[] #[]] ++ lb, W1, ?_, ?_, fun _ _ => trivial, ?_, fun h => absurd h (by simp [Fence.wide]), ?_⟩
  · subst hD
    exact run_enterLoop_outer _ _ _ _ _
  · simp only [resolve, hg]
    simp [go_sem]
  · simp [invoke, go_sem, eg]
  · refine (hit (n - 1) (D + 1) (fun k A => I k A ∧ A.heap[D + 1]? = some (.loop (rec₀ .ready none)) ∧ A.heap[D]? = some (.deferred (some [])) ∧ D ≤ A.heap.size)
      (fun k A => Ix k A ∧ A.heap[D + 1]? = some (.loop (rec₀ .done (some .ret))) ∧ A.heap[D]? = some (.deferred (some [])) ∧ D ≤ A.heap.size) W1 (fun j _ hj => hb1.block j (by omega)) (by omega) ?_ ?_
      ⟨hI _ _ _ ha1 h0, r1, d1, by omega⟩).mono ?_
    · rintro k A B hAB ⟨hi, hl, hk, hs⟩
      have hlt : D + 1 < A.heap.size := (Array.getElem?_eq_some_iff.1 hl).1
      exact ⟨hI _ _ _ (Ap.of_below hAB hs) hi, (hAB.block _ hlt).trans hl, (hAB.block _ (by omega)).trans hk, Nat.le_trans hs hAB.size⟩
    · rintro k b vs A hkN hb hVk ⟨hi, hl, hk, hs⟩
      have hlt : D + 1 < A.heap.size := (Array.getElem?_eq_some_iff.1 hl).1
      refine ⟨fn, _, assign, body, run_yield hl (hps _ _ _ _ hVk), roundIn_of_wpIn hfn (hassign _ k b vs A _ hkN (by omega) (by omega) hVk fun a₁ W₁ hb₁ hAsg₁ => ?_)⟩
      have l1 : W₁.heap[D + 1]? = some (.loop (rec₀ .ready none)) := (hb₁.block _ hlt).trans hl
      have k1 : W₁.heap[D]? = some (.deferred (some [])) := (hb₁.block _ (by omega)).trans hk
      have hlt1 : D + 1 < W₁.heap.size := Nat.lt_of_lt_of_le hlt hb₁.size
      refine ⟨_, run_beginRound l1 rfl, ?_⟩
      have l2 : (W₁.putObj (D + 1) (.loop (rec₀ .busy none))).heap[D + 1]? = some (.loop (rec₀ .busy none)) := World.putObj_heap_same hlt1
      have k2 : (W₁.putObj (D + 1) (.loop (rec₀ .busy none))).heap[D]? = some (.deferred (some [])) := (World.putObj_heap_other (by omega)).trans k1
      have hp1 : Ap D W₁ (W₁.putObj (D + 1) (.loop (rec₀ .busy none))) := Ap.put W₁ _ hlt1
      have i2 : I k (W₁.putObj (D + 1) (.loop (rec₀ .busy none))) := hI _ _ _ ((Ap.of_below hb₁ hs).trans hp1) hi
      refine wpIn_mono (hbody _ k b a₁ _ hkN (by omega) (by rw [World.putObj_size]; omega) (hAsg _ _ _ _ _ (by omega) hp1 hAsg₁) i2) ?_
      intro e a3 B hp
      have fin : ∀ (jump : Option Code), Keeps own D (W₁.putObj (D + 1) (.loop (rec₀ .busy none))) B →
          (Instr.endRound (D + 1) jump).run P B = .ok (.bool jump.isNone) (B.putObj (D + 1) (.loop (rec₀ (if jump.isNone then .ready else .done) jump))) ∧
          (B.putObj (D + 1) (.loop (rec₀ (if jump.isNone then .ready else .done) jump))).heap[D + 1]? = some (.loop (rec₀ (if jump.isNone then .ready else .done) jump)) ∧
          (B.putObj (D + 1) (.loop (rec₀ (if jump.isNone then .ready else .done) jump))).heap[D]? = some (.deferred (some [])) ∧ Ap D B (B.putObj (D + 1) (.loop (rec₀ (if jump.isNone then .ready else .done) jump))) ∧
          (∀ j, own j → j < w.heap.size → (B.putObj (D + 1) (.loop (rec₀ (if jump.isNone then .ready else .done) jump))).heap[j]? = A.heap[j]?) ∧ D ≤ (B.putObj (D + 1) (.loop (rec₀ (if jump.isNone then .ready else .done) jump))).heap.size ∧
          A.heap.size ≤ (B.putObj (D + 1) (.loop (rec₀ (if jump.isNone then .ready else .done) jump))).heap.size := fun jump hkp => by
        have sz := hkp.size
        rw [World.putObj_size] at sz
        have szb := hb₁.size
        have l3 := (hkp.block (D + 1) (.inr (.inr rfl)) (by omega)).trans l2
        have k3 := (hkp.block D (.inr (.inl rfl)) (by omega)).trans k2
        refine ⟨run_endRound jump l3, World.putObj_heap_same (by omega), (World.putObj_heap_other (by omega)).trans k3, Ap.put B _ (by omega), fun j h1 h2 => ?_, by rw [World.putObj_size]; omega, by rw [World.putObj_size]; omega⟩
        rw [World.putObj_heap_other (by omega), hkp.block j (.inl h1) (by omega), World.putObj_heap_other (by omega), hb₁.block j (by omega)]
      cases e with
      | normal =>
        obtain ⟨hpa, hin⟩ := hp
        obtain ⟨f1, f2, f3, f4, f5, f6, f7⟩ := fin none hpa
        exact ⟨_, _, f1, .inl ⟨rfl, ⟨hI _ _ _ f4 hin, f2, f3, f6⟩, f5, f7⟩⟩
      | ret =>
        obtain ⟨hpa, hin⟩ := hp
        obtain ⟨f1, f2, f3, f4, f5, f6, f7⟩ := fin (some .ret) hpa
        exact ⟨_, _, f1, .inr ⟨rfl, hIx _ _ _ f4 hin, f2, f3, f6⟩⟩
      | exit id => exact hp.elim
      | goto t => exact hp.elim
      | panic ch => exact hp.elim
      | outgrown => exact hp.elim
    · rintro e B ⟨⟨v, rfl⟩, (⟨hi, hl, hk, hs⟩ | ⟨k, hkN, hi, hl, hk, hs⟩)⟩
      · have hlt : D + 1 < B.heap.size := (Array.getElem?_eq_some_iff.1 hl).1
        refine ⟨none, _, run_endLoop hl (by simp [rec₀]), ?_⟩
        exact hdone _ (hI _ _ _ (Ap.put B _ hlt) hi) (by rw [World.putObj_size]; exact hs) ((World.putObj_heap_other (by omega)).trans hk)
      · have hlt : D + 1 < B.heap.size := (Array.getElem?_eq_some_iff.1 hl).1
        refine ⟨some .ret, _, run_endLoop hl (by simp [rec₀]), ?_⟩
        exact hstop k _ hkN (hIx _ _ _ (Ap.put B _ hlt) hi) (by rw [World.putObj_size]; exact hs) ((World.putObj_heap_other (by omega)).trans hk)
end Go.Proofs.Ytefcepjffeiaoaa
end

section
/- Rows of strings: read, owned; SameStrings, CopyStrings. -/
namespace Go.Proofs.Ytefcepjffeiaoaa.Bl
open Go.RowKit Go.Proofs.YtefcepjffeiaoaaW.PrintWords
set_option linter.unusedVariables false

def estr (s : ByteArray) : Value := .string s
theorem info_str : (Try.prog.info? 9).map (fun i => (i.zero, i.size, i.bytes)) = some (some (.string ByteArray.empty), 1, 16) := by kernel_rfl
/-- a slice of strings that is read -/
def RdS (w : World) (A : Option Addr) (c : Nat) (xs : List ByteArray) : Prop := xs.length ≤ c ∧ ReadsOf estr ByteArray.empty w A xs.length xs
def OwS (w : World) (base : Nat) (v : Value) (xs : List ByteArray) : Prop := w.ownsRow base 9 1 v xs.length (encs estr xs)
theorem RdS.below {w w1 : World} {A : Option Addr} {c : Nat} {xs : List ByteArray} (h : RdS w A c xs) (hb : Below w.heap.size w w1) : RdS w1 A c xs := ⟨h.1, h.2.below hb⟩
theorem RdS.max {w : World} {A : Option Addr} {c : Nat} {xs : List ByteArray} (h : RdS w A c xs) : xs.length ≤ 9223372036854775807 := h.2.2.1
theorem RdS.at_ {w : World} {A : Option Addr} {c : Nat} {xs : List ByteArray} (h : RdS w A c xs) (i : Nat) (hi : i < xs.length) : ∃ ad, A = some ad ∧ w.cell? (ad.add i) = some (.string (xs.getD i ByteArray.empty)) := by
  obtain ⟨ad, e, hc⟩ := h.2.2.2 (by omega)
  exact ⟨ad, e, hc i hi⟩
theorem RdS.zero (w : World) (A : Option Addr) (c : Nat) : RdS w A c [] := ⟨Nat.zero_le _, rfl, Nat.zero_le _, fun h => absurd h (by simp)⟩
theorem OwS.below {w w1 : World} {base : Nat} {v : Value} {xs : List ByteArray} (h : OwS w base v xs) (hb : Below w.heap.size w w1) : OwS w1 base v xs := pw_own_below h hb
theorem OwS.lower {w : World} {base base' : Nat} {v : Value} {xs : List ByteArray} (h : OwS w base v xs) (hb : base' ≤ base) : OwS w base' v xs := own_weaken h hb
theorem OwS.rd {w : World} {base : Nat} {v : Value} {xs : List ByteArray} (h : OwS w base v xs) : ∃ A c, v = .slice A xs.length c ∧ RdS w A c xs := by
  obtain ⟨A, c, hv, hl, hr⟩ := own_reads_of_le (d := ByteArray.empty) h
  exact ⟨A, c, hv, hl, hr⟩
theorem OwS.zero (w : World) (base : Nat) : OwS w base (.slice none 0 0) [] := own_nil _ _ _ _
theorem RdS.take {w : World} {A : Option Addr} {c : Nat} {xs : List ByteArray} (h : RdS w A c xs) (k : Nat) (hk : k ≤ xs.length) : RdS w A c (xs.take k) := by
  have hl : (xs.take k).length = k := by rw [List.length_take]; omega
  refine ⟨by have := h.1; omega, ?_⟩
  rw [hl]
  exact h.2.take_ k hk
section
variable {ops : Array Oper} {rest : List Oper} {o : Oper} {a : Act} {Q : Exit → Act → World → Prop}
theorem app_str {w0 W : World} (base : Nat) (hgd : o.guard = none) (s x : Operand)
    (ho : o.op = .call { callee := .builtin .append, args := #[s, x], argTypes := #[73, 73] })
    (v : Value) (xs : List ByteArray) (y : ByteArray) (hs : a.eval s = v) (hx : a.eval x = .slice (some ⟨W.heap.size, 0, none⟩) 1 1)
    (HO : OwS W base v xs) (HB : Below base w0 W) (hbase : base ≤ W.heap.size) (hl : xs.length + 1 ≤ 8796093022208)
    (h : ∀ v1 w1, OwS w1 base v1 (xs ++ [y]) → Below base w0 w1 → W.grownBy w1 v.ownBlock → (v1.ownBlock = v.ownBlock ∨ ∃ b, v1.ownBlock = some b ∧ W.heap.size ≤ b) → wpList Try.prog ops Q rest (a.put o.dst v1) w1) :
    wpList Try.prog ops Q (o :: rest) a (W.alloc (.cells #[.string y] 9)) :=
  print_append_of estr base hgd s x 73 9 (.string ByteArray.empty) 16 ho Try.underlying73 info_str rfl (by decide) v xs y hs hx rfl HO HB hbase (by omega) h
end
theorem str_ne (s t : ByteArray) : (s.toList == t.toList) = decide (s = t) := by
  rw [Bool.eq_iff_iff]
  simp only [beq_iff_eq, decide_eq_true_eq]
  constructor
  · intro h
    rw [ByteArray.toList_eq, ByteArray.toList_eq] at h
    cases s; cases t
    congr 1
    exact Array.toList_inj.1 h
  · intro h; rw [h]
end Go.Proofs.Ytefcepjffeiaoaa.Bl
end

section
/- The walk of the page's Copied: octets of its holder's own. -/
namespace Go.Proofs.Ytefcepjffeiaoaa.Bl
open Go.RowKit Go.Proofs.YtefcepjffeiaoaaW.PrintWords
set_option maxRecDepth 100000 in
set_option maxHeartbeats 400000 in
theorem Copied_any (A : Option Addr) (c : Nat) (xs : List UInt8) (w : World) (hr : RdB w A c xs) (hl : xs.length ≤ 140737488355328) :
    Calls Try.prog 82 #[.slice A xs.length c] w fun e w' => ∃ v, e = .returned v ∧ OwB w' w.heap.size v xs ∧ Below w.heap.size w w' := by
  have hm := hr.max
  go_enter Try.func82, Try.ntmps82
  go_wp2_with (first | (at_builtin; refine app_row (w0 := w) w.heap.size rfl _ _ rfl (.slice .none 0 0) [] xs A c rfl rfl (OwB.zero _ _) hr (Below.refl _ _) (Nat.le_refl _) (by simp; omega) ?_; intro v1 w1 HO1 HB1 hg hat))
  go_ret
  exact ⟨_, rfl, HO1, HB1⟩
end Go.Proofs.Ytefcepjffeiaoaa.Bl
end

section
/- Bloom: the walks of Hash, and the reference's. -/
namespace Go.Proofs.Ytefcepjffeiaoaa.Bl
open Go.RowKit Go.Proofs.YtefcepjffeiaoaaW.PrintWords
set_option linter.unusedVariables false

def fnv1 (h : BitVec 64) (x : UInt8) : BitVec 64 := (h ^^^ BitVec.ofNat 64 x.toNat) * 0x100000001b3#64
def fnv (h : BitVec 64) (xs : List UInt8) : BitVec 64 := xs.foldl fnv1 h
def basis : BitVec 64 := 0xcbf29ce484222325#64
def hash (s : ByteArray) : BitVec 64 := fnv basis s.data.toList
theorem fnv_snoc (h : BitVec 64) (xs : List UInt8) (k : Nat) (hk : k < xs.length) : fnv h (xs.take (k + 1)) = fnv1 (fnv h (xs.take k)) (xs.getD k 0) := by
  rw [List.take_succ_eq_append_getElem hk]
  unfold fnv
  rw [List.foldl_append]
  simp [List.getD_eq_getElem?_getD, List.getElem?_eq_getElem hk]
theorem fnv_int (h : BitVec 64) (x : UInt8) : bits .xor .u64 (h.toNat : Int) (x.toNat : Int) * 1099511628211 % 18446744073709551616 = ((fnv1 h x).toNat : Int) := by
  have hx := x.toNat_lt
  have h1 : x.toNat < 18446744073709551616 := Nat.lt_of_lt_of_le hx (by decide)
  rw [u64_xor_nat h.toNat x.toNat h.isLt h1]
  unfold fnv1
  rw [BitVec.toNat_mul, BitVec.toNat_xor, BitVec.toNat_ofNat, Nat.mod_eq_of_lt h1]
  simp
theorem fnv_int' (h : BitVec 64) (x : UInt8) : IntKind.u64.wrap (bits .xor .u64 (h.toNat : Int) (IntKind.u64.wrap (x.toNat : Int)) * 1099511628211) = ((fnv1 h x).toNat : Int) := by
  have hx := x.toNat_lt
  have e : IntKind.u64.wrap (x.toNat : Int) = (x.toNat : Int) := by rw [IntKind.wrap_u64]; omega
  rw [e, IntKind.wrap_u64, fnv_int]
set_option maxRecDepth 100000 in
set_option maxHeartbeats 400000 in
theorem Hash_any (s : ByteArray) (hs : s.size ≤ 140737488355328) (w : World) : Calls Try.prog 94 #[.string s] w fun e w' => e = .returned (.int .u64 ((hash s).toNat : Int)) ∧ Below w.heap.size w w' := by
  have kb := fun W => print_bytes (P := Try.prog) 9 23 5 Try.underlying9 Try.underlying23 Try.underlying5 s W
  have hr := bytes_reads w 5 s (by omega)
  have hB := bytes_below (Below.refl w.heap.size w) (Nat.le_refl _) 5 s
  have hlen : s.data.toList.length = s.size := data_length s
  go_enter Try.func94, Try.ntmps94
  go_wp2
  generalize Lib.bytesWorld w 5 s = w1 at *
  go_loop [3, 9] (fun h i => ∃ k : Nat, k ≤ s.size ∧ i = .int .i64 (k : Int) ∧ h = .int .u64 ((fnv basis (s.data.toList.take k)).toNat : Int)) (fun _ i => s.size - (intOf i).toNat)
  case atStart => exact ⟨0, by omega, rfl, rfl⟩
  case round =>
    obtain ⟨k, hk, rfl, rfl⟩ := hrel
    by_cases hlt : k < s.size
    · obtain ⟨ad, had, hc⟩ := hr.at_ (k : Int) (by omega) (by omega)
      injection had with had
      subst had
      have hrd : rd (bytesOf s) (k : Int) = ((s.data.toList.getD k 0).toNat : Int) := by
        rw [rd, Int.toNat_natCast, bytesOf]
        simp [List.getD_eq_getElem?_getD, List.getElem?_map, List.getElem?_eq_getElem (show k < s.data.toList.length by omega)]
      rw [hrd] at hc
      have HS := hide (fnv_snoc basis s.data.toList k (by omega))
      obtain ⟨x, hx⟩ : ∃ x, s.data.toList.getD k 0 = x := ⟨_, rfl⟩
      rw [hx] at hc HS
      obtain ⟨h, hh⟩ : ∃ h, fnv basis (s.data.toList.take k) = h := ⟨_, rfl⟩
      rw [hh] at HS ⊢
      have HF := hide (fnv_int' h x)
      clear hrd hx hh
      rw [add_plain, Int.toNat_natCast] at hc
      go_wp2
      go_round
      case rel => exact ⟨k + 1, by omega, by go_num, by rw [HF.out, HS.out]⟩
      case measure => simp [intOf]; omega
    · obtain rfl : k = s.size := by omega
      have hfin : fnv basis (s.data.toList.take s.size) = hash s := by rw [List.take_of_length_le (by omega)]; rfl
      rw [hfin]
      go_wp2
      go_ret
      exact ⟨rfl, hB⟩
theorem oct_at (s : ByteArray) (k : Nat) (h : k < s.size) : s.data.toList.getD k 0 = s[k]'h := by
  have hl : k < s.data.toList.length := by rw [data_length]; exact h
  rw [List.getD_eq_getElem?_getD, List.getElem?_eq_getElem hl]
  simp [ByteArray.getElem_eq_getElem_data]
set_option maxRecDepth 100000 in
set_option maxHeartbeats 400000 in
theorem rHash_any (s : ByteArray) (hs : s.size ≤ 140737488355328) (w : World) : Calls Try.prog 100 #[.string s] w fun e w' => e = .returned (.int .u64 ((hash s).toNat : Int)) ∧ w = w' := by
  have hlen : s.data.toList.length = s.size := data_length s
  go_enter Try.func100, Try.ntmps100
  go_wp2
  go_loop [3, 4] (fun h i => ∃ k : Nat, k ≤ s.size ∧ i = .int .i64 (k : Int) ∧ h = .int .u64 ((fnv basis (s.data.toList.take k)).toNat : Int)) (fun _ i => s.size - (intOf i).toNat)
  case atStart => exact ⟨0, by omega, rfl, rfl⟩
  case round =>
    obtain ⟨k, hk, rfl, rfl⟩ := hrel
    by_cases hlt : k < s.size
    · have HS := hide (fnv_snoc basis s.data.toList k (by omega))
      have hx := oct_at s k hlt
      rw [hx] at HS
      obtain ⟨h, hh⟩ : ∃ h, fnv basis (s.data.toList.take k) = h := ⟨_, rfl⟩
      rw [hh] at HS ⊢
      have HF := hide (fnv_int' h (s[k]'hlt))
      have hki : (k : Int) < (s.size : Int) := by omega
      clear hx hh
      go_wp2
      go_round
      case rel => exact ⟨k + 1, by omega, by go_num, by rw [HF.out, HS.out]⟩
      case measure => simp [intOf]; omega
    · obtain rfl : k = s.size := by omega
      have hfin : fnv basis (s.data.toList.take s.size) = hash s := by rw [List.take_of_length_le (by omega)]; rfl
      rw [hfin]
      go_wp2
      go_ret
      exact ⟨rfl, rfl⟩
end Go.Proofs.Ytefcepjffeiaoaa.Bl
end

section
/- Bloom: filters; the walks of may, the reference's check. -/
namespace Go.Proofs.Ytefcepjffeiaoaa.Bl
open Go.RowKit Go.Proofs.YtefcepjffeiaoaaW.PrintWords
set_option linter.unusedVariables false

/-- a filter as a value -/
def fil (K : Int) (A : Option Addr) (n c : Nat) : Value := .agg #[.int .i64 K, .slice A n c]
def okF (K : Int) (n : Nat) : Prop := 1 ≤ K ∧ K ≤ 8 ∧ 1 ≤ n ∧ n ≤ 8192
instance (K : Int) (n : Nat) : Decidable (okF K n) := by unfold okF; exact inferInstance
theorem may_any (K : Int) (A : Option Addr) (n c : Nat) (w : World) : Calls Try.prog 56 #[fil K A n c] w fun e w' => e = .returned (.bool (decide (okF K n))) ∧ Below w.heap.size w w' := by
  unfold fil
  obtain ⟨z, hz⟩ : ∃ z, decide (okF K n) = z := ⟨_, rfl⟩
  have HZ := hide hz
  rw [hz]
  clear hz
  go_enter Try.func56, Try.ntmps56
  go_wp2
  all_goals (go_ret; refine ⟨?_, (Below.refl _ _).alloc (Nat.le_refl _) _⟩)
  all_goals (rw [← HZ.out]; unfold okF)
  all_goals (refine congrArg Ending.returned (congrArg Value.bool ?_); first | (refine (decide_eq_true ?_).symm; omega) | (refine (decide_eq_false ?_).symm; omega) | (refine decide_eq_decide.2 ?_; omega))
theorem check_any (K : Int) (A : Option Addr) (n c : Nat) (w : World) : Calls Try.prog 80 #[fil K A n c] w fun e w' => e = .returned (.int .i64 (if okF K n then 0 else 9)) ∧ Below w.heap.size w w' := by
  unfold fil
  obtain ⟨z, hz⟩ : ∃ z : Int, (if okF K n then (0 : Int) else 9) = z := ⟨_, rfl⟩
  have HZ := hide hz
  rw [hz]
  clear hz
  go_enter Try.func80, Try.ntmps80
  go_wp2
  all_goals (go_ret; refine ⟨?_, (Below.refl _ _).alloc (Nat.le_refl _) _⟩)
  all_goals (rw [← HZ.out]; first | (rw [if_pos (by unfold okF; omega)]; rfl) | (rw [if_neg (by unfold okF; omega)]; rfl))
end Go.Proofs.Ytefcepjffeiaoaa.Bl
end

section
/- Bloom: the walks of of, same. -/
namespace Go.Proofs.Ytefcepjffeiaoaa.Bl
open Go.RowKit Go.Proofs.YtefcepjffeiaoaaW.PrintWords
set_option linter.unusedVariables false

end Go.Proofs.Ytefcepjffeiaoaa.Bl
end

section
/- Bloom: the walks of Encode, and the reference's. -/
namespace Go.Proofs.Ytefcepjffeiaoaa.Bl
open Go.RowKit Go.Proofs.YtefcepjffeiaoaaW.PrintWords
set_option linter.unusedVariables false

/-- a filter that lies in a variable just laid, a call behind -/
theorem boxedF {w w1 : World} {K : Int} {s : Value} {ty : TypeId} (HB : Below (w.alloc (.cells #[.int .i64 K, s] ty)).heap.size (w.alloc (.cells #[.int .i64 K, s] ty)) w1) :
    w1.cell? ⟨w.heap.size, 0, none⟩ = some (.int .i64 K) ∧ w1.cell? ⟨w.heap.size, 1, none⟩ = some s ∧ Below w.heap.size w w1 := by
  have hs : w.heap.size < (w.alloc (.cells #[.int .i64 K, s] ty)).heap.size := by simp
  refine ⟨?_, ?_, ((Below.refl _ _).alloc (Nat.le_refl _) _).trans (HB.mono (by simp))⟩ <;> (rw [HB.cell hs, World.cell?_alloc_mark]; rfl)
def encF (K : Int) (xs : List UInt8) : List UInt8 := if okF K xs.length then UInt8.ofNat K.toNat :: xs else []
def encE (K : Int) (n : Nat) : Int := if okF K n then 0 else 9
theorem oneK (w : World) (K : Int) (h0 : 0 ≤ K) (h1 : K ≤ 255) : OwB (w.alloc (.cells #[.int .u8 K] 5)) w.heap.size (.slice (some ⟨w.heap.size, 0, none⟩) 1 1) [UInt8.ofNat K.toNat] := by
  have h := own_lit_of (enc := eu8) w w.heap.size 5 [UInt8.ofNat K.toNat] (Nat.le_refl _) (by simp)
  have e : (encs eu8 [UInt8.ofNat K.toNat]).toArray = #[Value.int .u8 K] := by
    simp [encs, eu8]
    omega
  rw [e] at h
  exact h
set_option maxRecDepth 100000 in
set_option maxHeartbeats 800000 in
theorem Encode_any (K : Int) (A : Option Addr) (c : Nat) (xs : List UInt8) (w : World) (hx : RdB w A c xs) :
    Calls Try.prog 33 #[fil K A xs.length c] w fun e w' => ∃ v, e = .returned (.tuple #[v, .int .i64 (encE K xs.length)]) ∧ OwB w' w.heap.size v (encF K xs) ∧ Below w.heap.size w w' := by
  have HM := may_any K A xs.length c
  by_cases hok : okF K xs.length
  · have e1 : encE K xs.length = 0 := by rw [encE, if_pos hok]
    have e2 : encF K xs = UInt8.ofNat K.toNat :: xs := by rw [encF, if_pos hok]
    rw [decide_eq_true hok] at HM
    rw [e1, e2]
    clear e1 e2
    obtain ⟨h1, h2, h3, h4⟩ := hok
    unfold fil at *
    go_enter Try.func33, Try.ntmps33
    go_wp2_with (first | (go_at_call 56; refine (HM _).mono ?_; rintro e w1 ⟨rfl, HB1⟩; obtain ⟨c0, c1, cB⟩ := boxedF HB1; clear HB1; have c2 : (w1.alloc (.cells #[.int .u8 K] 5)).cell? ⟨w.heap.size, 1, none⟩ = some (.slice A xs.length c) := pw_cell_below ((Below.refl w1.heap.size w1).alloc (Nat.le_refl _) _) c1; have HL := oneK w1 K (by omega) (by omega); have hx1 := (hx.below cB).below ((Below.refl w1.heap.size w1).alloc (Nat.le_refl _) (.cells #[.int .u8 K] 5))) | (at_builtin; refine app_row (w0 := w1) w1.heap.size rfl (.tmp 10) (.tmp 12) rfl _ [UInt8.ofNat K.toNat] xs A c rfl rfl HL hx1 ((Below.refl _ _).alloc (Nat.le_refl _) _) (by simp) (by simp; omega) ?_; intro v2 w2 HO2 HB2 hg2 hat2))
    go_ret2
    exact ⟨_, rfl, HO2.lower cB.size, cB.trans (HB2.mono cB.size)⟩
  · have e1 : encE K xs.length = 9 := by rw [encE, if_neg hok]
    have e2 : encF K xs = [] := by rw [encF, if_neg hok]
    rw [decide_eq_false hok] at HM
    rw [e1, e2]
    clear e1 e2
    unfold fil at *
    go_enter Try.func33, Try.ntmps33
    go_wp2_with (first | (go_at_call 56; refine (HM _).mono ?_; rintro e w1 ⟨rfl, HB1⟩; obtain ⟨c0, c1, cB⟩ := boxedF HB1; clear HB1))
    go_ret2
    exact ⟨_, rfl, OwB.zero _ _, cB⟩
set_option maxRecDepth 100000 in
set_option maxHeartbeats 800000 in
theorem rEncode_any (K : Int) (A : Option Addr) (c : Nat) (xs : List UInt8) (w : World) (hx : RdB w A c xs) :
    Calls Try.prog 43 #[fil K A xs.length c] w fun e w' => ∃ v, e = .returned (.tuple #[v, .int .i64 (encE K xs.length)]) ∧ OwB w' w.heap.size v (encF K xs) ∧ Below w.heap.size w w' := by
  have HM := check_any K A xs.length c
  by_cases hok : okF K xs.length
  · have e1 : encE K xs.length = 0 := by rw [encE, if_pos hok]
    have e2 : encF K xs = UInt8.ofNat K.toNat :: xs := by rw [encF, if_pos hok]
    rw [if_pos hok] at HM
    rw [e1, e2]
    clear e1 e2
    obtain ⟨h1, h2, h3, h4⟩ := hok
    unfold fil at *
    go_enter Try.func43, Try.ntmps43
    go_wp2_with (first | (go_at_call 80; refine (HM _).mono ?_; rintro e w1 ⟨rfl, HB1⟩; obtain ⟨c0, c1, cB⟩ := boxedF HB1; clear HB1; have c2 : (w1.alloc (.cells #[.int .u8 K] 5)).cell? ⟨w.heap.size, 1, none⟩ = some (.slice A xs.length c) := pw_cell_below ((Below.refl w1.heap.size w1).alloc (Nat.le_refl _) _) c1; have HL := oneK w1 K (by omega) (by omega); have hx1 := (hx.below cB).below ((Below.refl w1.heap.size w1).alloc (Nat.le_refl _) (.cells #[.int .u8 K] 5))) | (at_builtin; refine app_row (w0 := w1) w1.heap.size rfl (.tmp 10) (.tmp 12) rfl _ [UInt8.ofNat K.toNat] xs A c rfl rfl HL hx1 ((Below.refl _ _).alloc (Nat.le_refl _) _) (by simp) (by simp; omega) ?_; intro v2 w2 HO2 HB2 hg2 hat2))
    go_ret2
    exact ⟨_, rfl, HO2.lower cB.size, cB.trans (HB2.mono cB.size)⟩
  · have e1 : encE K xs.length = 9 := by rw [encE, if_neg hok]
    have e2 : encF K xs = [] := by rw [encF, if_neg hok]
    rw [if_neg hok] at HM
    rw [e1, e2]
    clear e1 e2
    unfold fil at *
    go_enter Try.func43, Try.ntmps43
    go_wp2_with (first | (go_at_call 80; refine (HM _).mono ?_; rintro e w1 ⟨rfl, HB1⟩; obtain ⟨c0, c1, cB⟩ := boxedF HB1; clear HB1))
    go_ret2
    exact ⟨_, rfl, OwB.zero _ _, cB⟩
end Go.Proofs.Ytefcepjffeiaoaa.Bl
end

section
/- Bloom: the places of a key; the walk of the reference's place. -/
namespace Go.Proofs.Ytefcepjffeiaoaa.Bl
open Go.RowKit Go.Proofs.YtefcepjffeiaoaaW.PrintWords
set_option linter.unusedVariables false

def plow (h : BitVec 64) : Nat := h.toNat % 4294967296
def phigh (h : BitVec 64) : Nat := (h.toNat / 4294967296) ||| 1
/-- the i-th place of a key among m bits -/
def place (s : ByteArray) (m i : Nat) : Nat := (plow (hash s) + i * phigh (hash s)) % 18446744073709551616 % m
theorem phigh_lt (h : BitVec 64) : phigh h < 4294967296 := by
  unfold phigh
  have := h.isLt
  exact Nat.or_lt_two_pow (n := 32) (by omega) (by decide)
theorem low_int (h : BitVec 64) : bits .and .u64 (h.toNat : Int) 4294967295 = (plow h : Int) := by
  have := u64_and_nat h.toNat 4294967295 h.isLt (by decide)
  rw [show (h.toNat &&& 4294967295) = plow h from Nat.and_two_pow_sub_one_eq_mod h.toNat 32] at this
  exact this
theorem high_int (h : BitVec 64) : bits .or .u64 ((h.toNat : Int) / 4294967296) 1 = (phigh h : Int) := by
  have hl := h.isLt
  have := u64_or_nat (h.toNat / 4294967296) 1 (by omega) (by decide)
  rw [show (((h.toNat / 4294967296 : Nat)) : Int) = (h.toNat : Int) / 4294967296 by omega] at this
  exact this
theorem rplace_any (s : ByteArray) (hs : s.size ≤ 140737488355328) (i m : Nat) (hi : i < 9223372036854775808) (hm : 0 < m) (hm2 : m < 9223372036854775808) (w : World) :
    Calls Try.prog 79 #[.string s, .int .i64 (i : Int), .int .i64 (m : Int)] w fun e w' => e = .returned (.int .i64 (place s m i : Int)) ∧ w = w' := by
  have hH := rHash_any s hs
  have h1 := low_int (hash s)
  have h2 := high_int (hash s)
  unfold place
  have hl : plow (hash s) < 4294967296 := Nat.mod_lt _ (by decide)
  have hh := phigh_lt (hash s)
  generalize plow (hash s) = lo at *
  generalize phigh (hash s) = hi2 at *
  have H1 := hide h1
  have H2 := hide h2
  clear h1 h2
  go_enter Try.func79, Try.ntmps79
  go_wp2_with (first | (go_at_call 100; refine (hH _).mono ?_; rintro e w' ⟨rfl, rfl⟩))
  go_ret
  refine ⟨congrArg Ending.returned (congrArg (Value.int .i64) ?_), rfl⟩
  rw [H1.out, H2.out, IntKind.wrap_u64, IntKind.wrap_u64]
  obtain ⟨t, ht⟩ : ∃ t, i * hi2 = t := ⟨_, rfl⟩
  rw [show (i : Int) * (hi2 : Int) = (t : Int) by rw [← ht]; simp, ht]
  rw [show ((lo : Int) + (t : Int) % 18446744073709551616) % 18446744073709551616 = (((lo + t) % 18446744073709551616 : Nat) : Int) by omega]
  generalize (lo + t) % 18446744073709551616 = q
  have e : ((q : Int)).tmod (m : Int) = ((q % m : Nat) : Int) := by rw [Int.tmod_eq_emod_of_nonneg (by omega)]; simp
  have hlt : q % m < m := Nat.mod_lt _ hm
  rw [e]
  unfold wrap64
  omega
end Go.Proofs.Ytefcepjffeiaoaa.Bl
end

section
/- Bloom: the walk of the reference's Has. -/
namespace Go.Proofs.Ytefcepjffeiaoaa.Bl
open Go.RowKit Go.Proofs.YtefcepjffeiaoaaW.PrintWords
set_option linter.unusedVariables false

def bitN (xs : List UInt8) (p : Nat) : Nat := (xs.getD (p / 8) 0).toNat / 2 ^ (p % 8) % 2
/-- are the first k places of a key set? -/
def hasU (xs : List UInt8) (s : ByteArray) : Nat → Bool
  | 0 => true
  | k + 1 => hasU xs s k && (bitN xs (place s (8 * xs.length) k) != 0)
theorem hasU_no (xs : List UInt8) (s : ByteArray) (k m : Nat) (hk : k < m) (h : bitN xs (place s (8 * xs.length) k) = 0) : hasU xs s m = false := by
  induction m with
  | zero => omega
  | succ m ih =>
    rw [hasU]
    by_cases e : k = m
    · subst e; simp [h]
    · rw [ih (by omega)]; rfl
def hasB (K : Int) (xs : List UInt8) (s : ByteArray) : Bool := decide (okF K xs.length) && hasU xs s K.toNat
end Go.Proofs.Ytefcepjffeiaoaa.Bl
end

section
/- Bloom: the walks of Decode, and the reference's. -/
namespace Go.Proofs.Ytefcepjffeiaoaa.Bl
open Go.RowKit Go.Proofs.YtefcepjffeiaoaaW.PrintWords
set_option linter.unusedVariables false

def decOk (b : List UInt8) : Prop := 2 ≤ b.length ∧ okF ((b.getD 0 0).toNat : Int) (b.length - 1)
instance (b : List UInt8) : Decidable (decOk b) := by unfold decOk; exact inferInstance
/-- two cells of a block just laid, stored -/
theorem two_cells {w : World} {g : Nat} {t : TypeId} {x y u v : Value} (h : w.heap[g]? = some (.cells #[x, y] t (0, 0))) :
    ((w.setCell ⟨g, 0, none⟩ u).setCell ⟨g, 1, none⟩ v).heap[g]? = some (.cells #[u, v] t (0, 0)) := blk_set (blk_set h 0 u) 1 v
theorem two_read {w : World} {g : Nat} {t : TypeId} {x y : Value} (h : w.heap[g]? = some (.cells #[x, y] t (0, 0))) :
    w.cell? ⟨g, 0, none⟩ = some x ∧ w.cell? ⟨g, 1, none⟩ = some y ∧ w.frozen? ⟨g, 0, none⟩ = false ∧ w.frozen? ⟨g, 1, none⟩ = false := ⟨blk_cell h 0, blk_cell h 1, blk_frozen h 0, blk_frozen h 1⟩
end Go.Proofs.Ytefcepjffeiaoaa.Bl
end

section
/- Bloom: a range over a function whose iterator keeps a cell of its own: the statement, out of the iterator's word and of one round's walk. -/
namespace Go.Proofs.Ytefcepjffeiaoaa.Bl
open Go.RowKit Go.Shelf Go.Proofs.YtefcepjffeiaoaaW.PrintWords
set_option linter.unusedVariables false

/-- blocks from c on lie as they lay -/
structure Past (c : Nat) (A B : World) : Prop where
  size : A.heap.size ≤ B.heap.size
  block : ∀ j, c ≤ j → j < A.heap.size → B.heap[j]? = A.heap[j]?
theorem Past.refl (c : Nat) (A : World) : Past c A A := ⟨Nat.le_refl _, fun _ _ _ => rfl⟩
theorem Past.trans {c : Nat} {A B C : World} (h : Past c A B) (k : Past c B C) : Past c A C := ⟨Nat.le_trans h.size k.size, fun j hj hl => (k.block j hj (Nat.lt_of_lt_of_le hl h.size)).trans (h.block j hj hl)⟩
theorem Past.grown {c : Nat} {A B : World} {row : Option Nat} (hg : A.grownBy B row) (hs : A.heap.size ≤ B.heap.size) (hr : ∀ k, row = some k → k < c) : Past c A B :=
  ⟨hs, fun j hj hl => hg.block j hl (fun e => by have := hr j e.symm; omega)⟩
theorem Past.setCell {c : Nat} (A : World) (b i : Nat) (hb : b < c) (v : Value) : Past c A (A.setCell ⟨b, i, none⟩ v) := by
  exact ⟨by rw [World.size_setCell]; exact Nat.le_refl _, fun j hj hl => Below.heap_setCell A ⟨b, i, none⟩ v j (by show j ≠ b; omega)⟩
theorem below_put {c : Nat} (A : World) (j : Nat) (o : Obj) (hj : c ≤ j) (hl : j < A.heap.size) : Below c A (A.putObj j o) :=
  (Below.refl c A).grown (grownBy_putObj' A j o) (by omega) (fun k e => by cases e; omega)

/-- the iterator's word: N rounds with these values, in order, if each goes on; what lies from c0 on of the caller's world is its own -/
def Iter (P : Program) (gf : Nat) (lb : Array Value) (c0 g0 N : Nat) (vals : Nat → Array Value) (w : World) : Prop :=
  ∀ (n l : Nat) (J Jx : Nat → World → Prop) (W : World), (∀ j, c0 ≤ j → j < w.heap.size → W.heap[j]? = w.heap[j]?) → w.heap.size ≤ W.heap.size →
    (∀ k A v, J k A → J k (A.setCell ⟨g0, 0, none⟩ v)) →
    (∀ k A, k < N → J k A → YieldAt Fence.wide (n - 1) P l (vals k) A fun e B => (e = .returned (.bool true) ∧ J (k + 1) B ∧ (∀ j, c0 ≤ j → j < w.heap.size → B.heap[j]? = A.heap[j]?)) ∨ (e = .returned (.bool false) ∧ Jx k B)) →
    J 0 W → CallsIn Fence.wide n P gf (#[.func (.yield l) #[] #[]] ++ lb) W fun e B => (∃ v, e = .returned v) ∧ (J N B ∨ ∃ k, k < N ∧ Jx k B)

/-- how a round's body may end -/
def roundEnd (c0 : Nat) (I Ix : Nat → World → Prop) (k : Nat) (W : World) : Exit → Act → World → Prop
  | .normal, _, B => Past c0 W B ∧ I (k + 1) B
  | .ret, _, B => Past c0 W B ∧ Ix k B
  | _, _, _ => False

theorem range_iter {n : Nat} {P : Program} {g : Operand} {ps : Array Tmp} {assign body : Code} {Q : Exit → Act → World → Prop} {a : Act} {w : World} {gf : Nat} {lb : Array Value} {N c0 g0 : Nat} {vals : Nat → Array Value}
    (hg : a.eval g = .func (.func gf) #[] lb) (eg : ∀ args w, (callFunc gf args).run P w = .ok (.enter gf args) w) (hps : ∀ k, (vals k).size = ps.size) (hc : c0 ≤ w.heap.size) (hg0 : c0 ≤ g0) (hg1 : g0 < w.heap.size)
    (hit : Iter P gf lb c0 g0 N vals w) (I Ix : Nat → World → Prop) (hI : ∀ k A B, Below c0 A B → I k A → I k B) (hIx : ∀ k A B, Below c0 A B → Ix k A → Ix k B) (h0 : I 0 w) (a₁ : Nat → Act)
    (hassign : ∀ (l k : Nat) (W : World) (K : Act → World → Prop), K (a₁ k) W →
      assign.wpIn (Fence.wide.inRound l) (n - 1 - 1) P (Exit.then K (fun _ _ _ => False)) { tmps := (ps.zip (vals k)).foldl (fun t (p, v) => t.setIfInBounds p v) a.tmps, defers := [] } W)
    (hbody : ∀ (l k : Nat) (W : World), k < N → I k W → body.wpIn (Fence.wide.inRound l) (n - 1 - 1) P (roundEnd c0 I Ix k W) (a₁ k) W)
    (hdone : ∀ (W : World), I N W → w.heap.size ≤ W.heap.size → W.heap[w.heap.size]? = some (.deferred (some [])) → Q .normal { a with defers := { target := .collected w.heap.size, args := #[] } :: a.defers } W)
    (hstop : ∀ (k : Nat) (W : World), k < N → Ix k W → w.heap.size ≤ W.heap.size → W.heap[w.heap.size]? = some (.deferred (some [])) → Code.ret.wpIn Fence.wide n P Q { a with defers := { target := .collected w.heap.size, args := #[] } :: a.defers } W) :
    (Code.rangeFunc g ps assign body).wpIn Fence.wide n P Q a w := by
  refine wpIn_rangeFunc fun fn hfn => ?_
  obtain ⟨D, hD⟩ : ∃ D, w.heap.size = D := ⟨_, rfl⟩
  let rec₀ : LoopState → Option Code → Loop := fun st pe => { state := st, pending := pe, fn := fn, tmps := a.tmps, params := ps, assign := assign, body := body, defers := w.heap.size }
  let W1 : World := (w.alloc (.deferred (some []))).alloc (.loop (rec₀ .ready none))
  have s1 : W1.heap.size = D + 2 := by simp [W1, hD]
  have r1 : W1.heap[D + 1]? = some (.loop (rec₀ .ready none)) := by
    have h := World.alloc_heap_new (w.alloc (.deferred (some []))) (.loop (rec₀ .ready none))
    rw [World.size_alloc, hD] at h
    exact h
  have d1 : W1.heap[D]? = some (.deferred (some [])) := by
    rw [← hD]
    exact (Below.heap_alloc _ _ _ (by simp)).trans (World.alloc_heap_new w _)
  have hb1 : Below D w W1 := ((Below.refl _ _).alloc (by omega) _).alloc (by simp; omega) _
  have hd2 : D = w.heap.size := hD.symm
  refine ⟨D + 1, [{ target := .collected D, args := #[] }], W1, { target := .fn (.func gf) lb, args := #[.func (.yield (D + 1)) #[] #[]] }, W1, gf, #[.func (.yield (D + 1)) #[] #[]] ++ lb, W1, ?_, ?_, fun _ _ => trivial, ?_, fun h => absurd h (by simp [Fence.wide]), ?_⟩
  · subst hD
    exact run_enterLoop_outer _ _ _ _ _
  · simp only [resolve, hg]
    simp [go_sem]
  · simp [invoke, go_sem, eg]
  · refine (hit (n - 1) (D + 1) (fun k A => I k A ∧ A.heap[D + 1]? = some (.loop (rec₀ .ready none)) ∧ A.heap[D]? = some (.deferred (some [])) ∧ D ≤ A.heap.size)
      (fun k A => Ix k A ∧ A.heap[D + 1]? = some (.loop (rec₀ .done (some .ret))) ∧ A.heap[D]? = some (.deferred (some [])) ∧ D ≤ A.heap.size) W1 (fun j _ hj => hb1.block j (by omega)) (by omega) ?_ ?_
      ⟨hI _ _ _ (hb1.mono (by omega)) h0, r1, d1, by omega⟩).mono ?_
    · rintro k A v ⟨hi, hl, hk, hs⟩
      have hp := fun j (hj : g0 ≠ j) => Below.heap_setCell A ⟨g0, 0, none⟩ v j (show j ≠ g0 from fun e => hj e.symm)
      exact ⟨hI _ _ _ ((Below.refl c0 A).setCell (p := ⟨g0, 0, none⟩) hg0 v) hi, (hp _ (by omega)).trans hl, (hp _ (by omega)).trans hk, by rw [World.size_setCell]; exact hs⟩
    · rintro k A hkN ⟨hi, hl, hk, hs⟩
      have hlt : D + 1 < A.heap.size := (Array.getElem?_eq_some_iff.1 hl).1
      refine ⟨fn, _, assign, body, run_yield hl (hps k), roundIn_of_wpIn hfn (hassign _ k A _ ⟨_, run_beginRound hl rfl, ?_⟩)⟩
      have l2 : (A.putObj (D + 1) (.loop (rec₀ .busy none))).heap[D + 1]? = some (.loop (rec₀ .busy none)) := World.putObj_heap_same hlt
      have k2 : (A.putObj (D + 1) (.loop (rec₀ .busy none))).heap[D]? = some (.deferred (some [])) := (World.putObj_heap_other (by omega)).trans hk
      have i2 : I k (A.putObj (D + 1) (.loop (rec₀ .busy none))) := hI _ _ _ (below_put A (D + 1) _ (by omega) hlt) hi
      refine wpIn_mono (hbody _ k _ hkN i2) ?_
      intro e a3 B hp
      have fin : ∀ (jump : Option Code), Past c0 (A.putObj (D + 1) (.loop (rec₀ .busy none))) B →
          (Instr.endRound (D + 1) jump).run P B = .ok (.bool jump.isNone) (B.putObj (D + 1) (.loop (rec₀ (if jump.isNone then .ready else .done) jump))) ∧
          (B.putObj (D + 1) (.loop (rec₀ (if jump.isNone then .ready else .done) jump))).heap[D + 1]? = some (.loop (rec₀ (if jump.isNone then .ready else .done) jump)) ∧
          (B.putObj (D + 1) (.loop (rec₀ (if jump.isNone then .ready else .done) jump))).heap[D]? = some (.deferred (some [])) ∧ Below c0 B (B.putObj (D + 1) (.loop (rec₀ (if jump.isNone then .ready else .done) jump))) ∧
          (∀ j, c0 ≤ j → j < w.heap.size → (B.putObj (D + 1) (.loop (rec₀ (if jump.isNone then .ready else .done) jump))).heap[j]? = A.heap[j]?) ∧ D ≤ (B.putObj (D + 1) (.loop (rec₀ (if jump.isNone then .ready else .done) jump))).heap.size := fun jump hpast => by
        have sz := hpast.size
        rw [World.putObj_size] at sz
        have l3 := (hpast.block (D + 1) (by omega) (by rw [World.putObj_size]; exact hlt)).trans l2
        have k3 := (hpast.block D (by omega) (by rw [World.putObj_size]; omega)).trans k2
        refine ⟨run_endRound jump l3, World.putObj_heap_same (by omega), (World.putObj_heap_other (by omega)).trans k3, below_put B (D + 1) _ (by omega) (by omega), fun j h1 h2 => ?_, by rw [World.putObj_size]; omega⟩
        rw [World.putObj_heap_other (by omega), hpast.block j h1 (by rw [World.putObj_size]; omega), World.putObj_heap_other (by omega)]
      cases e with
      | normal =>
        obtain ⟨hpa, hin⟩ := hp
        obtain ⟨f1, f2, f3, f4, f5, f6⟩ := fin none hpa
        exact ⟨_, _, f1, .inl ⟨rfl, ⟨hI _ _ _ f4 hin, f2, f3, f6⟩, f5⟩⟩
      | ret =>
        obtain ⟨hpa, hin⟩ := hp
        obtain ⟨f1, f2, f3, f4, f5, f6⟩ := fin (some .ret) hpa
        exact ⟨_, _, f1, .inr ⟨rfl, hIx _ _ _ f4 hin, f2, f3, f6⟩⟩
      | exit id => exact hp.elim
      | goto t => exact hp.elim
      | panic ch => exact hp.elim
      | outgrown => exact hp.elim
    · rintro e B ⟨⟨v, rfl⟩, (⟨hi, hl, hk, hs⟩ | ⟨k, hkN, hi, hl, hk, hs⟩)⟩
      · have hlt : D + 1 < B.heap.size := (Array.getElem?_eq_some_iff.1 hl).1
        refine ⟨none, _, run_endLoop hl (by simp [rec₀]), ?_⟩
        subst hD
        exact hdone _ (hI _ _ _ (below_put B _ _ (by omega) hlt) hi) (by rw [World.putObj_size]; exact hs) ((World.putObj_heap_other (by omega)).trans hk)
      · have hlt : D + 1 < B.heap.size := (Array.getElem?_eq_some_iff.1 hl).1
        refine ⟨some .ret, _, run_endLoop hl (by simp [rec₀]), ?_⟩
        subst hD
        exact hstop k _ hkN (hIx _ _ _ (below_put B _ _ (by omega) hlt) hi) (by rw [World.putObj_size]; exact hs) ((World.putObj_heap_other (by omega)).trans hk)
end Go.Proofs.Ytefcepjffeiaoaa.Bl
end

section
/- Bloom: the walk of places (the maker of the iterator), and the iterator's word. -/
namespace Go.Proofs.Ytefcepjffeiaoaa.Bl
open Go.RowKit Go.Shelf Go.Proofs.YtefcepjffeiaoaaW.PrintWords
set_option linter.unusedVariables false

/-- the iterator's three boxes: the filter, low, high -/
structure Boxes (w : World) (c0 g0 : Nat) (K : Int) (A : Option Addr) (n c lo hi : Nat) : Prop where
  f : w.heap[c0]? = some (.cells #[.int .i64 K, .slice A n c] 32)
  lo : w.heap[g0]? = some (.cells #[.int .u64 (lo : Int)] 70)
  hi : w.heap[g0 + 1]? = some (.cells #[.int .u64 (hi : Int)] 70)
def iterF (c0 g0 : Nat) : Array Value := #[.pointer (some ⟨c0, 0, none⟩), .pointer (some ⟨g0, 0, none⟩), .pointer (some ⟨g0 + 1, 0, none⟩)]
set_option maxRecDepth 100000 in
set_option maxHeartbeats 800000 in
theorem places_any (K : Int) (A : Option Addr) (n c : Nat) (s : ByteArray) (hs : s.size ≤ 140737488355328) (w : World) :
    Calls Try.prog 57 #[fil K A n c, .string s] w fun e w' => ∃ g0, w.heap.size < g0 ∧ e = .returned (.func (.func 95) #[] (iterF w.heap.size g0)) ∧
      w'.heap.size = g0 + 2 ∧ Boxes w' w.heap.size g0 K A n c (plow (hash s)) (phigh (hash s)) ∧ Below w.heap.size w w' := by
  have hH := Hash_any s hs
  have h1 := low_int (hash s)
  have h2 := high_int (hash s)
  have hl : plow (hash s) < 4294967296 := Nat.mod_lt _ (by decide)
  have hh := phigh_lt (hash s)
  have hb := (hash s).isLt
  obtain ⟨N, hN⟩ : ∃ N, (hash s).toNat = N := ⟨_, rfl⟩
  have e1 : plow (hash s) = N % 4294967296 := by rw [plow, hN]
  rw [e1] at h1 hl ⊢
  rw [hN] at h1 h2 hb
  simp only [hN] at hH
  have e2 : N / 4294967296 < 4294967296 := by omega
  obtain ⟨M, hM⟩ : ∃ M, phigh (hash s) = M := ⟨_, rfl⟩
  rw [hM] at h2 hh ⊢
  have e3 : bits .or .u32 ((N : Int) / 4294967296) 1 = (M : Int) := by
    have h3 := u32_or_nat (N / 4294967296) 1 (by omega) (by decide)
    rw [show (((N / 4294967296 : Nat)) : Int) = (N : Int) / 4294967296 by omega] at h3
    rw [← hM, phigh, hN]
    exact h3
  clear e1 hN hM h1 h2
  unfold fil
  go_enter Try.func57, Try.ntmps57
  go_wp2_with (first | (go_at_call 94; refine (hH _).mono ?_; rintro e w1 ⟨rfl, HB1⟩))
  go_ret
  rw [show (N : Int) % 4294967296 = ((N % 4294967296 : Nat) : Int) by omega]
  have hz := HB1.size
  rw [World.size_alloc] at hz
  have q0 := heap_alloc_new w (.cells #[.int .i64 K, .slice A n c] 32)
  have q1 := (HB1.block w.heap.size (by simp)).trans q0
  have q2 := heap_alloc_new w1 (.cells #[.int .u64 ((N % 4294967296 : Nat) : Int)] 70)
  have q3 := heap_alloc_new (w1.alloc (.cells #[.int .u64 ((N % 4294967296 : Nat) : Int)] 70)) (.cells #[.int .u64 (M : Int)] 70)
  rw [World.size_alloc] at q3
  refine ⟨w1.heap.size, by omega, rfl, by simp, ⟨?_, ?_, q3⟩, ?_⟩
  · exact (Below.heap_alloc _ _ _ (by simp; omega)).trans ((Below.heap_alloc _ _ _ (by omega)).trans q1)
  · exact (Below.heap_alloc _ _ _ (by simp)).trans q2
  · exact ((((Below.refl _ w).alloc (Nat.le_refl _) _).trans (HB1.mono (by simp))).alloc (by omega) _).alloc (by simp; omega) _
theorem Boxes.same {A B : World} {c0 g0 : Nat} {K : Int} {a : Option Addr} {n c lo hi : Nat} (h : Boxes A c0 g0 K a n c lo hi) (h0 : B.heap[c0]? = A.heap[c0]?) (h1 : B.heap[g0]? = A.heap[g0]?) (h2 : B.heap[g0 + 1]? = A.heap[g0 + 1]?) : Boxes B c0 g0 K a n c lo hi :=
  ⟨h0.trans h.f, h1.trans h.lo, h2.trans h.hi⟩
theorem Boxes.set {A : World} {c0 g0 : Nat} {K : Int} {a : Option Addr} {n c lo hi : Nat} (h : Boxes A c0 g0 K a n c lo hi) (hne : c0 < g0) (lo' : Nat) : Boxes (A.setCell ⟨g0, 0, none⟩ (.int .u64 (lo' : Int))) c0 g0 K a n c lo' hi :=
  ⟨(Below.heap_setCell _ _ _ _ (show c0 ≠ g0 by omega)).trans h.f, blk_set h.lo 0 _, (Below.heap_setCell _ _ _ _ (show g0 + 1 ≠ g0 by omega)).trans h.hi⟩
/-- the place of round k -/
def placeL (lo hi n k : Nat) : Nat := (lo + k * hi) % 18446744073709551616 % (8 * n)
def valsF (lo hi n k : Nat) : Array Value := #[.int .i64 ((placeL lo hi n k / 8 : Nat) : Int), .int .u8 ((2 ^ (placeL lo hi n k % 8) : Nat) : Int)]
theorem and7_i64 (n : Int) : bits .and .i64 n 7 = n % 8 := by
  have h7 : (BitVec.ofInt 64 7).toNat = 2 ^ 3 - 1 := by decide
  have key : (BitVec.ofInt 64 n &&& BitVec.ofInt 64 7).toNat = (n % ((2 ^ 64 : Nat) : Int)).toNat % 2 ^ 3 := by
    rw [BitVec.toNat_and, BitVec.toNat_ofInt, h7, Nat.and_two_pow_sub_one_eq_mod]
  show IntKind.i64.wrap ((BitVec.ofInt 64 n &&& BitVec.ofInt 64 7).toNat : Nat) = n % 8
  rw [key, IntKind.wrap_i64]
  omega
theorem pow_bit (r : Nat) (hr : r < 8) : (2 : Int) ^ r % 256 = ((2 ^ r : Nat) : Int) := by
  match r, hr with
  | 0, _ => rfl
  | 1, _ => rfl
  | 2, _ => rfl
  | 3, _ => rfl
  | 4, _ => rfl
  | 5, _ => rfl
  | 6, _ => rfl
  | 7, _ => rfl
theorem wrap_mod (z n p : Nat) (hn : 1 ≤ n) (hn2 : n ≤ 140737488355328) (hp : z % (8 * n) = p) : wrap64 ((z : Int) % (8 * (n : Int))) = (p : Int) := by
  have hl : p < 8 * n := by rw [← hp]; exact Nat.mod_lt _ (by omega)
  rw [show (z : Int) % (8 * (n : Int)) = (p : Int) by rw [← hp]; simp]
  unfold wrap64
  omega
set_option maxRecDepth 100000 in
set_option maxHeartbeats 1600000 in
theorem iter_any (m n c lo hi c0 g0 : Nat) (A : Option Addr) (w : World) (hB : Boxes w c0 g0 (m : Int) A n c lo hi) (hm : m < 1000) (hn : 1 ≤ n) (hn2 : n ≤ 140737488355328) (hlo : lo < 18446744073709551616) (hhi : hi < 18446744073709551616) (hc : c0 < g0) (hg : g0 + 2 ≤ w.heap.size) :
    Iter Try.prog 95 (iterF c0 g0) c0 g0 m (valsF lo hi n) w := by
  intro d l J Jx W hW hsz hJ hR h0
  unfold iterF
  refine callsIn_of_wp Try.func95 rfl trivial ?_ rfl
  simp only [Try.ntmps95, List.size_toArray, List.length_cons, List.length_nil, Nat.reduceAdd, Nat.reduceSub, Array.replicate_succ, Array.replicate_zero, List.push_toArray, List.append_toArray, List.nil_append, List.cons_append]
  have hB1 : Boxes W c0 g0 (m : Int) A n c lo hi := hB.same (hW _ (Nat.le_refl _) (by omega)) (hW _ (by omega) (by omega)) (hW _ (by omega) (by omega))
  obtain ⟨b0, b1, b2, b3⟩ := two_read hB1.f
  gi_wp2
  gi_loopw [8] (fun i wr => ∃ k : Nat, k ≤ m ∧ i = .int .i64 (k : Int) ∧ J k wr ∧ Boxes wr c0 g0 (m : Int) A n c ((lo + k * hi) % 18446744073709551616) hi) (fun i wr => m - (intOf i).toNat)
  case atStart => exact ⟨0, by omega, rfl, h0, by rw [show (lo + 0 * hi) % 18446744073709551616 = lo by omega]; exact hB1⟩
  case round =>
    obtain ⟨k, hk, rfl, hJk, hBk⟩ := hrel
    by_cases hlt : k < m
    · obtain ⟨fn, tmps, assign, body, hy, hRd⟩ := hR k wr hlt hJk
      have hnext : (lo + (k + 1) * hi) % 18446744073709551616 = ((lo + k * hi) % 18446744073709551616 + hi) % 18446744073709551616 := by
        rw [Nat.add_mul, Nat.one_mul]; omega
      unfold valsF placeL at hy
      obtain ⟨z, hz⟩ : ∃ z, (lo + k * hi) % 18446744073709551616 = z := ⟨_, rfl⟩
      have hzl : z < 18446744073709551616 := by rw [← hz]; exact Nat.mod_lt _ (by decide)
      have HZ := hide hz
      rw [hz] at hBk hy hnext
      have HN := hide hnext
      clear hz hnext
      obtain ⟨p, hp⟩ : ∃ p, z % (8 * n) = p := ⟨_, rfl⟩
      have hpl : p < 8 * n := by rw [← hp]; exact Nat.mod_lt _ (by omega)
      rw [hp] at hy
      obtain ⟨a0, a1, a2, a3⟩ := two_read hBk.f
      have a4 := blk_cell hBk.lo 0
      have a5 := blk_frozen hBk.lo 0
      have a6 := blk_cell hBk.hi 0
      have hki : (k : Int) < (m : Int) := by omega
      have hw1 := wrap_mod z n p hn hn2 hp
      obtain ⟨q, hq⟩ : ∃ q, p / 8 = q := ⟨_, rfl⟩
      obtain ⟨r, hr⟩ : ∃ r, p % 8 = r := ⟨_, rfl⟩
      have hr8 : r < 8 := by rw [← hr]; exact Nat.mod_lt _ (by decide)
      have hw2 : (p : Int) / 8 = (q : Int) := by rw [← hq]; simp
      have hw3 : bits .and .i64 (p : Int) 7 = (r : Int) := by rw [and7_i64, ← hr]; simp
      have hw4 := pow_bit r hr8
      rw [hq, hr] at hy
      clear hq hr hp
      have H4 := hide hw4
      clear hw4
      generalize hT : ((2 ^ r : Nat) : Int) = t at *
      have hw4 := H4.out
      gi_wp2
      refine ⟨fun h => absurd h (by simp [Fence.wide]), hRd.mono ?_⟩
      rintro e B (⟨rfl, hJB, hkeep⟩ | ⟨rfl, hJx⟩)
      · have hBB : Boxes B c0 g0 (m : Int) A n c z hi := hBk.same (hkeep _ (Nat.le_refl _) (by omega)) (hkeep _ (by omega) (by omega)) (hkeep _ (by omega) (by omega))
        obtain ⟨d0, d1, d2, d3⟩ := two_read hBB.f
        have d4 := blk_cell hBB.lo 0
        have d5 := blk_frozen hBB.lo 0
        have d6 := blk_cell hBB.hi 0
        gi_wp2
        go_roundw
        case rel => exact ⟨k + 1, by omega, by go_num, hJ _ _ _ hJB, by rw [HN.out]; exact hBB.set hc _⟩
        case measure => simp [intOf]; omega
      · gi_wp2
        refine bodyPost_ret (results_none rfl _ _ _) rfl ?_
        exact ⟨⟨_, rfl⟩, .inr ⟨k, hlt, hJx⟩⟩
    · obtain rfl : k = m := by omega
      gi_wp2
      go_end0
      exact ⟨⟨_, rfl⟩, .inl hJk⟩
end Go.Proofs.Ytefcepjffeiaoaa.Bl
end

section
/- Bloom: the walk of Has. -/
namespace Go.Proofs.Ytefcepjffeiaoaa.Bl
open Go.RowKit Go.Shelf Go.Proofs.YtefcepjffeiaoaaW.PrintWords
set_option linter.unusedVariables false
attribute [local go_sem] Oper.semAt_some

theorem leaves_nil {F : Fence} {n : Nat} {P : Program} {fn : Func} {tmps : Array Value} {R : Ending → World → Prop} {w : World} (v : Value) (h : (results fn tmps).run P w = .ok v w) (hR : R (.returned v) w) : LeavesInM F n P fn tmps R [] .returning w := ⟨v, h, hR⟩
set_option maxRecDepth 100000 in
theorem bit_all : ∀ (n : Fin 256) (r : Fin 8), n.val &&& 2 ^ r.val = n.val / 2 ^ r.val % 2 * 2 ^ r.val := by decide +kernel
theorem bit_and (x : UInt8) (r : Nat) (hr : r < 8) : bits .and .u8 (x.toNat : Int) ((2 ^ r : Nat) : Int) = ((x.toNat / 2 ^ r % 2 * 2 ^ r : Nat) : Int) := by
  have hx := x.toNat_lt
  have h2 : 2 ^ r ≤ 2 ^ 7 := Nat.pow_le_pow_right (by decide) (by omega)
  rw [u8_and_nat x.toNat (2 ^ r) (by omega) (by omega)]
  congr 1
  exact bit_all ⟨x.toNat, by omega⟩ ⟨r, hr⟩
set_option maxRecDepth 100000 in
set_option maxHeartbeats 1600000 in
theorem Has_any (K : Int) (A : Option Addr) (c : Nat) (xs : List UInt8) (s : ByteArray) (hs : s.size ≤ 140737488355328) (w : World) (hx : RdB w A c xs) :
    Calls Try.prog 22 #[fil K A xs.length c, .string s] w fun e w' => e = .returned (.tuple #[.bool (hasB K xs s), .int .i64 (encE K xs.length)]) ∧ Below w.heap.size w w' := by
  have HM := may_any K A xs.length c
  by_cases hok : okF K xs.length
  · have e1 : encE K xs.length = 0 := by rw [encE, if_pos hok]
    have e2 : hasB K xs s = hasU xs s K.toNat := by rw [hasB, decide_eq_true hok]; rfl
    rw [decide_eq_true hok] at HM
    rw [e1, e2]
    clear e1 e2
    obtain ⟨h1, h2, h3, h4⟩ := hok
    obtain ⟨m, rfl⟩ : ∃ m : Nat, K = (m : Int) := ⟨K.toNat, by omega⟩
    rw [Int.toNat_natCast]
    obtain ⟨z, hz⟩ : ∃ z, hasU xs s m = z := ⟨_, rfl⟩
    have HZ := hide hz
    rw [hz]
    clear hz
    have HP := places_any (m : Int) A xs.length c s hs
    have W0 : ∃ W0, ((w.alloc (.cells #[.int .i64 (m : Int), .slice A xs.length c] 32)).alloc (.cells #[.bool false] 4)).alloc (.cells #[.int .i64 0] 26) = W0 := ⟨_, rfl⟩
    obtain ⟨W0, hW0⟩ := W0
    have z0 : W0.heap.size = w.heap.size + 3 := by rw [← hW0]; simp
    have z1 : Below w.heap.size w W0 := by rw [← hW0]; exact (((Below.refl _ _).alloc (Nat.le_refl _) _).alloc (by simp) _).alloc (by simp; omega) _
    have z2 : W0.heap[w.heap.size]? = some (.cells #[.int .i64 (m : Int), .slice A xs.length c] 32) := by
      rw [← hW0, Below.heap_alloc _ _ _ (by simp; omega), Below.heap_alloc _ _ _ (by simp)]; exact heap_alloc_new w _
    have z3 : W0.heap[w.heap.size + 1]? = some (.cells #[.bool false] 4) := by
      rw [← hW0, Below.heap_alloc _ _ _ (by simp)]
      have := heap_alloc_new (w.alloc (.cells #[.int .i64 (m : Int), .slice A xs.length c] 32)) (.cells #[.bool false] 4)
      rwa [World.size_alloc] at this
    have z4 : W0.heap[w.heap.size + 1 + 1]? = some (.cells #[.int .i64 0] 26) := by
      rw [← hW0]
      have := heap_alloc_new ((w.alloc (.cells #[.int .i64 (m : Int), .slice A xs.length c] 32)).alloc (.cells #[.bool false] 4)) (.cells #[.int .i64 0] 26)
      rwa [World.size_alloc, World.size_alloc] at this
    obtain ⟨b0, b1, b2, b3⟩ := two_read z2
    have b4 := blk_cell z3 0
    have b5 := blk_frozen z3 0
    have b6 := blk_cell z4 0
    have b7 := blk_frozen z4 0
    have hall : ∀ W, Below W0.heap.size W0 W → Below w.heap.size w W ∧ W.heap[w.heap.size]? = some (.cells #[.int .i64 (m : Int), .slice A xs.length c] 32) ∧ W.heap[w.heap.size + 1]? = some (.cells #[.bool false] 4) ∧ W.heap[w.heap.size + 1 + 1]? = some (.cells #[.int .i64 0] 26) ∧ w.heap.size + 3 ≤ W.heap.size := fun W h =>
      ⟨z1.trans (h.mono z1.size), (h.block _ (by omega)).trans z2, (h.block _ (by omega)).trans z3, (h.block _ (by omega)).trans z4, by have := h.size; omega⟩
    have Z0 := hide z0
    clear z0
    unfold fil at *
    refine (callsIn_wide (n := 9)).1 ?_
    refine callsIn_of_wp_marks Try.func22 rfl trivial ?_ rfl
    simp only [Try.ntmps22, List.size_toArray, List.length_cons, List.length_nil, Nat.reduceAdd, Nat.reduceSub, Array.replicate_succ, Array.replicate_zero, List.push_toArray, List.append_toArray, List.nil_append, List.cons_append]
    gi_wp2_with (first | (refine ⟨trivial, ?_⟩; gi_at_call 56; refine (callsIn_wide.2 (HM _)).mono ?_; rintro e w1 ⟨rfl, HB1⟩; obtain ⟨B1, q0, q1, q2, q3⟩ := hall _ HB1; obtain ⟨d0, d1, d2, d3⟩ := two_read q0; have d4 := blk_cell q1 0; have d5 := blk_frozen q1 0; have d6 := blk_cell q2 0; have d7 := blk_frozen q2 0) | (refine ⟨trivial, ?_⟩; gi_at_call 57; refine (callsIn_wide.2 (HP _)).mono ?_; rintro e w2 ⟨g0, hg0, rfl, hsz2, hbx, HB2⟩))
    obtain ⟨c0, hc0⟩ : ∃ c0, w1.heap.size = c0 := ⟨_, rfl⟩
    have hw1s := HB1.size
    have hw2s := HB2.size
    rw [hc0] at hbx HB2 hw2s hg0
    have hc0' : w.heap.size + 3 ≤ c0 := by rw [← hc0]; exact q3
    refine range_iter (gf := 95) (lb := iterF c0 g0) (N := m) (c0 := c0) (g0 := g0) (vals := valsF (plow (hash s)) (phigh (hash s)) xs.length) (by rw [hc0]; rfl) (enters_of Try.func95 (by kernel_rfl) rfl) (fun _ => rfl) (by omega) (by omega) (by omega)
      (iter_any m xs.length c _ _ c0 g0 A w2 hbx (by omega) (by omega) (by omega) (Nat.lt_trans (Nat.mod_lt _ (by decide)) (by decide)) (Nat.lt_trans (phigh_lt _) (by decide)) hg0 (by omega))
      (fun k W => Below w.heap.size w W ∧ W.heap[w.heap.size]? = some (.cells #[.int .i64 (m : Int), .slice A xs.length c] 32) ∧ W.heap[w.heap.size + 1]? = some (.cells #[.bool false] 4) ∧ W.heap[w.heap.size + 1 + 1]? = some (.cells #[.int .i64 0] 26) ∧ hasU xs s k = true)
      (fun k W => Below w.heap.size w W ∧ W.heap[w.heap.size + 1]? = some (.cells #[.bool false] 4) ∧ W.heap[w.heap.size + 1 + 1]? = some (.cells #[.int .i64 0] 26) ∧ hasU xs s m = false)
      (fun k X Y h ⟨i1, i2, i3, i4, i5⟩ => ⟨i1.trans (h.mono (by omega)), (h.block _ (by omega)).trans i2, (h.block _ (by omega)).trans i3, (h.block _ (by omega)).trans i4, i5⟩)
      (fun k X Y h ⟨i1, i3, i4, i5⟩ => ⟨i1.trans (h.mono (by omega)), (h.block _ (by omega)).trans i3, (h.block _ (by omega)).trans i4, i5⟩)
      ⟨B1.trans (HB2.mono (by omega)), (HB2.block _ (by omega)).trans q0, (HB2.block _ (by omega)).trans q1, (HB2.block _ (by omega)).trans q2, rfl⟩
      (fun k => { tmps := #[.agg #[.int .i64 (m : Int), .slice A xs.length c], .string s, .pointer (some ⟨w.heap.size, 0, none⟩), undef, .pointer (some ⟨w.heap.size + 1, 0, none⟩), .pointer (some ⟨w.heap.size + 1 + 1, 0, none⟩), .int .i64 ((placeL (plow (hash s)) (phigh (hash s)) xs.length k / 8 : Nat) : Int), .int .u8 ((2 ^ (placeL (plow (hash s)) (phigh (hash s)) xs.length k % 8) : Nat) : Int), .agg #[.int .i64 (m : Int), .slice A xs.length c], .bool true, .bool false, .agg #[.int .i64 (m : Int), .slice A xs.length c], .string s, .func (.func 95) #[] (iterF c0 g0), .int .i64 ((placeL (plow (hash s)) (phigh (hash s)) xs.length k / 8 : Nat) : Int), .int .u8 ((2 ^ (placeL (plow (hash s)) (phigh (hash s)) xs.length k % 8) : Nat) : Int), undef, undef, undef, undef, undef, undef, undef, undef], defers := [] }) ?assign ?body ?done ?stop
    case assign =>
      intro l k W KK hKK
      rw [hc0]
      unfold valsF
      gi_wp2
      exact hKK
    case body =>
      intro l k W hk
      rintro ⟨i1, i2, i3, i4, i5⟩
      have hpl : placeL (plow (hash s)) (phigh (hash s)) xs.length k < 8 * xs.length := Nat.mod_lt _ (by omega)
      have HNO : Hid (bitN xs (placeL (plow (hash s)) (phigh (hash s)) xs.length k) = 0 → hasU xs s m = false) := hide (hasU_no xs s k m hk)
      have HYES : Hid (¬ bitN xs (placeL (plow (hash s)) (phigh (hash s)) xs.length k) = 0 → hasU xs s (k + 1) = true) := fun h => by
        rw [hasU, i5]
        simp only [Bool.true_and, bne_iff_ne, ne_eq]
        exact h
      obtain ⟨j0, j1, j2, j3⟩ := two_read i2
      have j4 := blk_cell i3 0
      have j5 := blk_frozen i3 0
      have j6 := blk_cell i4 0
      have j7 := blk_frozen i4 0
      have hxW := hx.below i1
      generalize placeL (plow (hash s)) (phigh (hash s)) xs.length k = p at *
      obtain ⟨q, hq⟩ : ∃ q, p / 8 = q := ⟨_, rfl⟩
      obtain ⟨r, hr⟩ : ∃ r, p % 8 = r := ⟨_, rfl⟩
      have hr8 : r < 8 := by rw [← hr]; exact Nat.mod_lt _ (by decide)
      obtain ⟨ad, rfl, hcell⟩ := hxW.at_ q (by omega)
      obtain ⟨x, hxx⟩ : ∃ x, xs.getD q 0 = x := ⟨_, rfl⟩
      have hbn : bitN xs p = x.toNat / 2 ^ r % 2 := by rw [bitN, hq, hr, hxx]
      rw [hbn] at HNO HYES
      rw [hxx] at hcell
      have hand := bit_and x r hr8
      rw [hq, hr]
      have hq1 : q < xs.length := by omega
      have hq2 : (q : Int) < (xs.length : Int) := by omega
      have hpw : 0 < 2 ^ r := Nat.pow_pos (by decide)
      obtain ⟨v, hv⟩ : ∃ v, x.toNat / 2 ^ r % 2 * 2 ^ r = v := ⟨_, rfl⟩
      have hv0 : v = 0 ↔ x.toNat / 2 ^ r % 2 = 0 := by
        rw [← hv]
        constructor
        · intro h
          rcases Nat.mul_eq_zero.1 h with h | h
          · exact h
          · omega
        · intro h; rw [h, Nat.zero_mul]
      have HV := hide hv0
      rw [hv] at hand
      clear hq hr hxx hbn hpl hv hv0 i5
      generalize x.toNat / 2 ^ r % 2 = tt at *
      generalize 2 ^ r = t at *
      have hpast : Past c0 W ((W.setCell ⟨w.heap.size + 1, 0, none⟩ (.bool false)).setCell ⟨w.heap.size + 1 + 1, 0, none⟩ (.int .i64 0)) := (Past.setCell W _ 0 (by omega) _).trans (Past.setCell _ _ 0 (by omega) _)
      have hbel : Below w.heap.size w ((W.setCell ⟨w.heap.size + 1, 0, none⟩ (.bool false)).setCell ⟨w.heap.size + 1 + 1, 0, none⟩ (.int .i64 0)) := (i1.setCell (p := ⟨w.heap.size + 1, 0, none⟩) (Nat.le_succ _) _).setCell (p := ⟨w.heap.size + 1 + 1, 0, none⟩) (show w.heap.size ≤ w.heap.size + 1 + 1 by omega) _
      have hs1 : ((W.setCell ⟨w.heap.size + 1, 0, none⟩ (.bool false)).setCell ⟨w.heap.size + 1 + 1, 0, none⟩ (.int .i64 0)).heap[w.heap.size + 1]? = some (.cells #[.bool false] 4) := (Below.heap_setCell _ _ _ _ (show w.heap.size + 1 ≠ w.heap.size + 1 + 1 by omega)).trans (blk_set i3 0 (.bool false))
      have hs2 : ((W.setCell ⟨w.heap.size + 1, 0, none⟩ (.bool false)).setCell ⟨w.heap.size + 1 + 1, 0, none⟩ (.int .i64 0)).heap[w.heap.size + 1 + 1]? = some (.cells #[.int .i64 0] 26) := blk_set ((Below.heap_setCell W ⟨w.heap.size + 1, 0, none⟩ (.bool false) (w.heap.size + 1 + 1) (show w.heap.size + 1 + 1 ≠ w.heap.size + 1 by omega)).trans i4) 0 (.int .i64 0)
      have HP0 := hide hpast
      have HP1 := hide hbel
      have HP2 := hide hs1
      have HP3 := hide hs2
      clear hpast hbel hs1 hs2
      by_cases h0 : v = 0
      · subst h0
        gi_wp2
        exact ⟨HP0.out, HP1.out, HP2.out, HP3.out, HNO.out (HV.out.1 trivial)⟩
      · have h0i : ¬ (v : Int) = 0 := by omega
        gi_wp2
        exact ⟨Past.refl _ _, i1, i2, i3, i4, HYES.out (fun e => h0 (HV.out.2 e))⟩
    case done =>
      intro W hi hsz hD
      obtain ⟨i1, i2, i3, i4, i5⟩ := hi
      have j4 := blk_cell i3 0
      have j5 := blk_frozen i3 0
      have j6 := blk_cell i4 0
      have j7 := blk_frozen i4 0
      have hb2 : Below w.heap.size w ((W.setCell ⟨w.heap.size + 1, 0, none⟩ (.bool true)).setCell ⟨w.heap.size + 1 + 1, 0, none⟩ (.int .i64 0)) := (i1.setCell (p := ⟨w.heap.size + 1, 0, none⟩) (Nat.le_succ _) _).setCell (p := ⟨w.heap.size + 1 + 1, 0, none⟩) (show w.heap.size ≤ w.heap.size + 1 + 1 by omega) _
      have hs1 : ((W.setCell ⟨w.heap.size + 1, 0, none⟩ (.bool true)).setCell ⟨w.heap.size + 1 + 1, 0, none⟩ (.int .i64 0)).heap[w.heap.size + 1]? = some (.cells #[.bool true] 4) := (Below.heap_setCell _ _ _ _ (show w.heap.size + 1 ≠ w.heap.size + 1 + 1 by omega)).trans (blk_set i3 0 (.bool true))
      have hs2 : ((W.setCell ⟨w.heap.size + 1, 0, none⟩ (.bool true)).setCell ⟨w.heap.size + 1 + 1, 0, none⟩ (.int .i64 0)).heap[w.heap.size + 1 + 1]? = some (.cells #[.int .i64 0] 26) := blk_set ((Below.heap_setCell W ⟨w.heap.size + 1, 0, none⟩ (.bool true) (w.heap.size + 1 + 1) (show w.heap.size + 1 + 1 ≠ w.heap.size + 1 by omega)).trans i4) 0 (.int .i64 0)
      have hD2 : ((W.setCell ⟨w.heap.size + 1, 0, none⟩ (.bool true)).setCell ⟨w.heap.size + 1 + 1, 0, none⟩ (.int .i64 0)).heap[w2.heap.size]? = some (.deferred (some [])) := (Below.heap_setCell _ _ _ _ (show w2.heap.size ≠ w.heap.size + 1 + 1 by omega)).trans ((Below.heap_setCell _ _ _ _ (show w2.heap.size ≠ w.heap.size + 1 by omega)).trans hD)
      have HD := hide hD2
      have HS1 := hide hs1
      have HS2 := hide hs2
      have HB := hide hb2
      clear hD2 hs1 hs2 hb2
      gi_wp2
      refine ⟨by simp, .inl ⟨_, _, rfl, run_takeDeferred HD.out, ?_⟩⟩
      have r0 := blk_cell ((World.putObj_heap_other (o := .deferred none) (show w.heap.size + 1 ≠ w2.heap.size by omega)).trans HS1.out) 0
      have r1 := blk_cell ((World.putObj_heap_other (o := .deferred none) (show w.heap.size + 1 + 1 ≠ w2.heap.size by omega)).trans HS2.out) 0
      have hD3 := (Array.getElem?_eq_some_iff.1 HD.out).1
      refine leaves_nil (.tuple #[.bool true, .int .i64 0]) ?_ ⟨by rw [← HZ.out, i5], HB.out.trans (below_put _ _ _ (by omega) hD3)⟩
      simp [results, Try.results22, go_sem, r0, r1]
    case stop =>
      intro k W hk hi hsz hD
      obtain ⟨i1, i3, i4, i5⟩ := hi
      gi_wp2
      refine ⟨by simp, .inl ⟨_, _, rfl, run_takeDeferred hD, ?_⟩⟩
      have r0 := blk_cell ((World.putObj_heap_other (o := .deferred none) (show w.heap.size + 1 ≠ w2.heap.size by omega)).trans i3) 0
      have r1 := blk_cell ((World.putObj_heap_other (o := .deferred none) (show w.heap.size + 1 + 1 ≠ w2.heap.size by omega)).trans i4) 0
      have hD3 := (Array.getElem?_eq_some_iff.1 hD).1
      refine leaves_nil (.tuple #[.bool false, .int .i64 0]) ?_ ⟨by rw [← HZ.out, i5], i1.trans (below_put _ _ _ (by omega) hD3)⟩
      simp [results, Try.results22, go_sem, r0, r1]
  · have e1 : encE K xs.length = 9 := by rw [encE, if_neg hok]
    have e2 : hasB K xs s = false := by rw [hasB, decide_eq_false hok]; rfl
    rw [decide_eq_false hok] at HM
    rw [e1, e2]
    clear e1 e2
    have HP := places_any K A xs.length c s hs
    have W0 : ∃ W0, ((w.alloc (.cells #[.int .i64 K, .slice A xs.length c] 32)).alloc (.cells #[.bool false] 4)).alloc (.cells #[.int .i64 0] 26) = W0 := ⟨_, rfl⟩
    obtain ⟨W0, hW0⟩ := W0
    have z0 : W0.heap.size = w.heap.size + 3 := by rw [← hW0]; simp
    have z1 : Below w.heap.size w W0 := by rw [← hW0]; exact (((Below.refl _ _).alloc (Nat.le_refl _) _).alloc (by simp) _).alloc (by simp; omega) _
    have z2 : W0.heap[w.heap.size]? = some (.cells #[.int .i64 K, .slice A xs.length c] 32) := by
      rw [← hW0, Below.heap_alloc _ _ _ (by simp; omega), Below.heap_alloc _ _ _ (by simp)]; exact heap_alloc_new w _
    have z3 : W0.heap[w.heap.size + 1]? = some (.cells #[.bool false] 4) := by
      rw [← hW0, Below.heap_alloc _ _ _ (by simp)]
      have := heap_alloc_new (w.alloc (.cells #[.int .i64 K, .slice A xs.length c] 32)) (.cells #[.bool false] 4)
      rwa [World.size_alloc] at this
    have z4 : W0.heap[w.heap.size + 1 + 1]? = some (.cells #[.int .i64 0] 26) := by
      rw [← hW0]
      have := heap_alloc_new ((w.alloc (.cells #[.int .i64 K, .slice A xs.length c] 32)).alloc (.cells #[.bool false] 4)) (.cells #[.int .i64 0] 26)
      rwa [World.size_alloc, World.size_alloc] at this
    obtain ⟨b0, b1, b2, b3⟩ := two_read z2
    have b4 := blk_cell z3 0
    have b5 := blk_frozen z3 0
    have b6 := blk_cell z4 0
    have b7 := blk_frozen z4 0
    have hall : ∀ W, Below W0.heap.size W0 W → Below w.heap.size w W ∧ W.heap[w.heap.size]? = some (.cells #[.int .i64 K, .slice A xs.length c] 32) ∧ W.heap[w.heap.size + 1]? = some (.cells #[.bool false] 4) ∧ W.heap[w.heap.size + 1 + 1]? = some (.cells #[.int .i64 0] 26) ∧ w.heap.size + 3 ≤ W.heap.size := fun W h =>
      ⟨z1.trans (h.mono z1.size), (h.block _ (by omega)).trans z2, (h.block _ (by omega)).trans z3, (h.block _ (by omega)).trans z4, by have := h.size; omega⟩
    have Z0 := hide z0
    clear z0
    unfold fil at *
    refine (callsIn_wide (n := 9)).1 ?_
    refine callsIn_of_wp_marks Try.func22 rfl trivial ?_ rfl
    simp only [Try.ntmps22, List.size_toArray, List.length_cons, List.length_nil, Nat.reduceAdd, Nat.reduceSub, Array.replicate_succ, Array.replicate_zero, List.push_toArray, List.append_toArray, List.nil_append, List.cons_append]
    gi_wp2_with (first | (refine ⟨trivial, ?_⟩; gi_at_call 56; refine (callsIn_wide.2 (HM _)).mono ?_; rintro e w1 ⟨rfl, HB1⟩; obtain ⟨B1, q0, q1, q2, q3⟩ := hall _ HB1; obtain ⟨d0, d1, d2, d3⟩ := two_read q0; have d4 := blk_cell q1 0; have d5 := blk_frozen q1 0; have d6 := blk_cell q2 0; have d7 := blk_frozen q2 0) | (refine ⟨trivial, ?_⟩; gi_at_call 57; refine (callsIn_wide.2 (HP _)).mono ?_; rintro e w2 ⟨g0, hg0, rfl, hsz2, hbx, HB2⟩))
    refine leaves_nil (.tuple #[.bool false, .int .i64 9]) ?_ ⟨rfl, (B1.setCell (p := ⟨w.heap.size + 1, 0, none⟩) (Nat.le_succ _) _).setCell (p := ⟨w.heap.size + 1 + 1, 0, none⟩) (show w.heap.size ≤ w.heap.size + 1 + 1 by omega) _⟩
    have r0 := blk_cell (blk_set q1 0 (.bool false)) 0
    have r1 := blk_cell (blk_set ((Below.heap_setCell w1 ⟨w.heap.size + 1, 0, none⟩ (.bool false) (w.heap.size + 1 + 1) (show w.heap.size + 1 + 1 ≠ w.heap.size + 1 by omega)).trans q2) 0 (.int .i64 9)) 0
    simp [results, Try.results22, go_sem, r0, r1]
end Go.Proofs.Ytefcepjffeiaoaa.Bl
end

section
/- Bloom: what a filter of keys is; the marks that a function with ranges over functions leaves with. -/
namespace Go.Proofs.Ytefcepjffeiaoaa.Bl
open Go.RowKit Go.Shelf Go.Proofs.YtefcepjffeiaoaaW.PrintWords
set_option linter.unusedVariables false

def setB (xs : List UInt8) (p : Nat) : List UInt8 := xs.set (p / 8) (xs.getD (p / 8) 0 ||| UInt8.ofNat (2 ^ (p % 8)))
/-- the first k places of a key, set -/
def setU (xs : List UInt8) (s : ByteArray) : Nat → List UInt8
  | 0 => xs
  | k + 1 => setB (setU xs s k) (place s (8 * xs.length) k)
def setAll (m : Nat) : List UInt8 → List ByteArray → List UInt8
  | xs, [] => xs
  | xs, s :: r => setAll m (setU xs s m) r
theorem setB_length (xs : List UInt8) (p : Nat) : (setB xs p).length = xs.length := List.length_set
theorem setU_length (xs : List UInt8) (s : ByteArray) (k : Nat) : (setU xs s k).length = xs.length := by
  induction k with
  | zero => rfl
  | succ k ih => rw [setU, setB_length, ih]
theorem setAll_length (m : Nat) (ss : List ByteArray) (xs : List UInt8) : (setAll m xs ss).length = xs.length := by
  induction ss generalizing xs with
  | nil => rfl
  | cons s r ih => rw [setAll, ih, setU_length]
theorem setAll_append (m : Nat) (ss : List ByteArray) (s : ByteArray) (xs : List UInt8) : setAll m xs (ss ++ [s]) = setU (setAll m xs ss) s m := by
  induction ss generalizing xs with
  | nil => rfl
  | cons t r ih => rw [List.cons_append, setAll, ih, setAll]
theorem or_bit (x : UInt8) (r : Nat) (hr : r < 8) : bits .or .u8 (x.toNat : Int) ((2 ^ r : Nat) : Int) = ((x ||| UInt8.ofNat (2 ^ r)).toNat : Int) := by
  have hx := x.toNat_lt
  have h2 : 2 ^ r ≤ 2 ^ 7 := Nat.pow_le_pow_right (by decide) (by omega)
  generalize 2 ^ r = t at *
  rw [u8_or_nat x.toNat t (by omega) (by omega), UInt8.toNat_or]
  congr 2
  rw [UInt8.toNat_ofNat']
  omega
def makeN (each n : Nat) : Nat := max 1 ((n * each + 7) / 8)
def makeM (each : Nat) : Nat := min 8 (max 1 (7 * each / 10))
def makeOk (each : Int) (n : Nat) : Prop := 1 ≤ each ∧ each ≤ 16 ∧ n ≤ 4096
instance (each : Int) (n : Nat) : Decidable (makeOk each n) := by unfold makeOk; exact inferInstance
def makeK (each : Int) (n : Nat) : Int := if makeOk each n then (makeM each.toNat : Int) else 0
def makeX (each : Int) (ss : List ByteArray) : List UInt8 := if makeOk each ss.length then setAll (makeM each.toNat) (List.replicate (makeN each.toNat ss.length) 0) ss else []
def makeE (each : Int) (n : Nat) : Int := if each < 1 ∨ 16 < each then 4 else if 4096 < n then 3 else 0

/-- a function that leaves with marks alone -/
theorem leaves_marks {F : Fence} {n : Nat} {P : Program} {fn : Func} {tmps : Array Value} {R : Ending → World → Prop} {base : Nat} : ∀ (ds : List Nat) (W : World), ds.Nodup → (∀ D ∈ ds, base ≤ D ∧ W.heap[D]? = some (.deferred (some []))) →
    (∀ W', Below base W W' → LeavesInM F n P fn tmps R [] .returning W') → LeavesInM F n P fn tmps R (ds.map fun D => { target := .collected D, args := #[] }) .returning W := by
  intro ds
  induction ds with
  | nil => exact fun W _ _ h => h W (Below.refl _ _)
  | cons D ds ih =>
    intro W hnd hall hend
    have hD := (hall D (List.mem_cons_self ..)).2
    have hlt := (Array.getElem?_eq_some_iff.1 hD).1
    have hbel : Below base W (W.putObj D (.deferred none)) := below_put W D _ (hall D (List.mem_cons_self ..)).1 hlt
    refine ⟨by simp, .inl ⟨D, _, rfl, run_takeDeferred hD, ih _ (List.nodup_cons.1 hnd).2 (fun E hE => ?_) (fun W' h => hend W' (hbel.trans h))⟩⟩
    have hne : E ≠ D := fun e => (List.nodup_cons.1 hnd).1 (e ▸ hE)
    exact ⟨(hall E (List.mem_cons_of_mem _ hE)).1, (World.putObj_heap_other hne).trans (hall E (List.mem_cons_of_mem _ hE)).2⟩
end Go.Proofs.Ytefcepjffeiaoaa.Bl
end

section
/- Bloom: the walk of Make. -/
namespace Go.Proofs.Ytefcepjffeiaoaa.Bl
open Go.RowKit Go.Shelf Go.Proofs.YtefcepjffeiaoaaW.PrintWords
set_option linter.unusedVariables false
attribute [local go_sem] Oper.semAt_some

theorem max2_nat (k : IntKind) (m n : Nat) : Builtin.max2 (.int k (m : Int)) (.int k (n : Int)) = (pure (.int k ((max m n : Nat) : Int)) : Sem Value) := by
  show (pure (.int k (if (n : Int) > (m : Int) then (n : Int) else (m : Int))) : Sem Value) = _
  by_cases h : m < n
  · rw [if_pos (by omega), show max m n = n from Nat.max_eq_right (by omega)]
  · rw [if_neg (by omega), show max m n = m from Nat.max_eq_left (by omega)]
section
variable {F : Fence} {d : Nat} {P : Program} {ops : Array Oper} {rest : List Oper} {o : Oper} {a : Act} {Q : Exit → Act → World → Prop}
theorem wpIn_max2 {W : World} (hgd : o.guard = none) (x y : Operand) (t1 t2 : TypeId) (ho : o.op = .call { callee := .builtin .max, args := #[x, y], argTypes := #[t1, t2] }) (k : IntKind) (m n : Nat)
    (hx : a.eval x = .int k (m : Int)) (hy : a.eval y = .int k (n : Int)) (hk : wpListIn F d P ops Q rest (a.put o.dst (.int k ((max m n : Nat) : Int))) W) : wpListIn F d P ops Q (o :: rest) a W := by
  refine wpListIn_plain hgd fun K hK' => ?_
  unfold Oper.wpIn
  refine ⟨?_, ?_⟩
  · simp [Oper.about, ho, resolve, Target.leads, Sem.run_pure]
  · rw [Oper.semAt_plain F _ _ (by rw [ho]; intro c hc'; cases hc')]
    have e : (execOp a.eval o).run P W = .ok (.value (.int k ((max m n : Nat) : Int))) W := by
      unfold execOp
      simp only [ho, resolve, invoke, builtin, Sem.run_bind, Sem.run_pure, Result.andThen_ok, List.map_toArray, List.map_cons, List.map_nil, hx, hy, Builtin.max_, List.foldlM_cons, List.foldlM_nil, max2_nat]
    rw [e]
    exact hK' _ _ hk
theorem wpIn_min2 {W : World} (hgd : o.guard = none) (x y : Operand) (t1 t2 : TypeId) (ho : o.op = .call { callee := .builtin .min, args := #[x, y], argTypes := #[t1, t2] }) (k : IntKind) (m n : Nat)
    (hx : a.eval x = .int k (m : Int)) (hy : a.eval y = .int k (n : Int)) (hk : wpListIn F d P ops Q rest (a.put o.dst (.int k ((Nat.min m n : Nat) : Int))) W) : wpListIn F d P ops Q (o :: rest) a W := by
  refine wpListIn_plain hgd fun K hK' => ?_
  unfold Oper.wpIn
  refine ⟨?_, ?_⟩
  · simp [Oper.about, ho, resolve, Target.leads, Sem.run_pure]
  · rw [Oper.semAt_plain F _ _ (by rw [ho]; intro c hc'; cases hc')]
    have e : (execOp a.eval o).run P W = .ok (.value (.int k ((Nat.min m n : Nat) : Int))) W := by
      unfold execOp
      simp only [ho, resolve, invoke, builtin, Sem.run_bind, Sem.run_pure, Result.andThen_ok, List.map_toArray, List.map_cons, List.map_nil, hx, hy, Builtin.min_, List.foldlM_cons, List.foldlM_nil, min2_nat]
    rw [e]
    exact hK' _ _ hk
end
/-- between two keys, and between two places of one: what lies where -/
structure MInv (T : TypeId) (w W : World) (M : Nat) (N : Nat) (bits : List UInt8) (ds : List Nat) : Prop where
  below : Below w.heap.size w W
  res : W.heap[w.heap.size]? = some (.cells #[.int .i64 0, .slice none 0 0] T)
  fil : W.heap[w.heap.size + 1 + 1]? = some (.cells #[.int .i64 (M : Int), .slice (some ⟨w.heap.size + 1, 0, none⟩) N N] T)
  own : OwB W w.heap.size (.slice (some ⟨w.heap.size + 1, 0, none⟩) N N) bits
  nodup : ds.Nodup
  marks : ∀ D ∈ ds, w.heap.size + 3 ≤ D ∧ D < W.heap.size ∧ W.heap[D]? = some (.deferred (some []))
  size : w.heap.size + 3 ≤ W.heap.size
theorem MInv.move {T : TypeId} {w X Y : World} {M N c0 : Nat} {bits : List UInt8} {ds : List Nat} (h : MInv T w X M N bits ds) (hb : Below c0 X Y) (hc : w.heap.size + 3 ≤ c0) (hds : ∀ D ∈ ds, D < c0) : MInv T w Y M N bits ds :=
  ⟨h.below.trans (hb.mono (by omega)), (hb.block _ (by omega)).trans h.res, (hb.block _ (by omega)).trans h.fil,
    own_move h.own (fun k e => hb.block k (by simp [Value.ownBlock] at e; omega)), h.nodup,
    fun D hD => ⟨(h.marks D hD).1, Nat.lt_of_lt_of_le (h.marks D hD).2.1 hb.size, (hb.block D (hds D hD)).trans (h.marks D hD).2.2⟩, Nat.le_trans h.size hb.size⟩
theorem MInv.put {T : TypeId} {w X : World} {M N : Nat} {xs : List UInt8} {ds : List Nat} (h : MInv T w X M N xs ds) (hl : xs.length = N) (p q r : Nat) (hq : p / 8 = q) (hr : p % 8 = r) (hp : p < 8 * N) :
    ∃ (x : UInt8) (y : Nat), X.cell? ⟨w.heap.size + 1, q, none⟩ = some (.int .u8 (x.toNat : Int)) ∧ X.frozen? ⟨w.heap.size + 1, q, none⟩ = false ∧ bits .or .u8 (x.toNat : Int) ((2 ^ r : Nat) : Int) = (y : Int) ∧
      MInv T w (X.setCell ⟨w.heap.size + 1, q, none⟩ (.int .u8 (y : Int))) M N (setB xs p) ds := by
  have hr8 : r < 8 := by rw [← hr]; exact Nat.mod_lt _ (by decide)
  obtain ⟨g, cap, hv, hg1, hg2, hcel, hfro, hput⟩ := h.own.set_ q (by omega)
  rw [hl] at hv
  obtain ⟨rfl, rfl⟩ : w.heap.size + 1 = g ∧ N = cap := by
    injection hv with h1 h2 h3
    injection h1 with h1
    injection h1 with h1
    exact ⟨h1, h3⟩
  obtain ⟨x, hxx⟩ : ∃ x, xs.getD q 0 = x := ⟨_, rfl⟩
  rw [hxx] at hcel
  have hor := or_bit x r hr8
  obtain ⟨hput1, hput2⟩ := hput (x ||| UInt8.ofNat (2 ^ r))
  have hnew : xs.set q (x ||| UInt8.ofNat (2 ^ r)) = setB xs p := by rw [setB, hq, hr, hxx]
  rw [hnew] at hput1
  refine ⟨x, (x ||| UInt8.ofNat (2 ^ r)).toNat, hcel, hfro, hor, ?_⟩
  have hot : ∀ b v, b ≠ w.heap.size + 1 → (X.setCell ⟨w.heap.size + 1, q, none⟩ v).heap[b]? = X.heap[b]? := fun b v hb => Below.heap_setCell _ _ _ _ hb
  exact ⟨h.below.setCell (p := ⟨w.heap.size + 1, q, none⟩) (Nat.le_succ _) _, (hot _ _ (by omega)).trans h.res, (hot _ _ (by omega)).trans h.fil, hput1, h.nodup, fun D hD => ⟨(h.marks D hD).1, by rw [World.size_setCell]; exact (h.marks D hD).2.1, (hot _ _ (by have := (h.marks D hD).1; omega)).trans (h.marks D hD).2.2⟩, by rw [World.size_setCell]; exact h.size⟩
set_option maxRecDepth 100000 in
set_option maxHeartbeats 1600000 in
theorem Make_main (A : Option Addr) (c : Nat) (ss : List ByteArray) (e : Nat) (hss : ∀ s ∈ ss, s.size ≤ 140737488355328) (w : World) (hx : RdS w A c ss) (he1 : 1 ≤ e) (he2 : e ≤ 16) (hn : ss.length ≤ 4096) :
    Calls Try.prog 31 #[.slice A ss.length c, .int .i64 (e : Int)] w fun e' w' => ∃ A' c', e' = .returned (.tuple #[fil (makeM e : Nat) A' (makeN e ss.length) c', .int .i64 0]) ∧ OwB w' w.heap.size (.slice A' (makeN e ss.length) c') (setAll (makeM e) (List.replicate (makeN e ss.length) 0) ss) ∧ Below w.heap.size w w' := by
  obtain ⟨n, hnn⟩ : ∃ n, ss.length = n := ⟨_, rfl⟩
  have HN := hide hnn
  rw [hnn] at hn ⊢
  clear hnn
  unfold fil
  refine (callsIn_wide (n := 9)).1 ?_
  refine callsIn_of_wp_marks Try.func31 rfl trivial ?_ rfl
  simp only [Try.ntmps31, List.size_toArray, List.length_cons, List.length_nil, Nat.reduceAdd, Nat.reduceSub, Array.replicate_succ, Array.replicate_zero, List.push_toArray, List.append_toArray, List.nil_append, List.cons_append]
  have a1 : ¬ (e : Int) < 1 := by omega
  have a2 : ¬ 16 < (e : Int) := by omega
  have a3 : ¬ 4096 < (n : Int) := by omega
  obtain ⟨k7, hk7⟩ : ∃ k7, 7 * e / 10 = k7 := ⟨_, rfl⟩
  obtain ⟨ne, hne⟩ : ∃ ne, n * e = ne := ⟨_, rfl⟩
  have hne2 : ne ≤ 65536 := by rw [← hne]; exact Nat.le_trans (Nat.mul_le_mul hn he2) (by decide)
  obtain ⟨s8, hs8⟩ : ∃ s8, (ne + 7) / 8 = s8 := ⟨_, rfl⟩
  have b1 : 7 * (e : Int) / 10 = (k7 : Int) := by omega
  have b2 : wrap64 ((n : Int) * (e : Int)) = (ne : Int) := by
    rw [show (n : Int) * (e : Int) = (ne : Int) by rw [← hne]; simp]; unfold wrap64; omega
  have b3 : ((ne : Int) + 7) / 8 = (s8 : Int) := by omega
  have hM : Nat.min 8 (max 1 k7) = makeM e := by rw [makeM, hk7]
  have hNN : max 1 s8 = makeN e n := by rw [makeN, hne, hs8]
  have hM2 : 1 ≤ makeM e ∧ makeM e ≤ 8 := by rw [makeM]; omega
  have hN2 : 1 ≤ makeN e n ∧ makeN e n ≤ 8193 := by rw [makeN, hne]; omega
  have hmk := fun W => make_bytes (makeN e n) (by omega) W
  generalize makeM e = M at *
  generalize makeN e n = N at *
  have HM := hide hM
  have HNN := hide hNN
  clear hM hNN hk7 hne hs8
  gi_wp2_with (first | (refine wpIn_max2 rfl (.const (.int .i64 1)) (.tmp 24) 3 3 rfl .i64 1 k7 rfl (congrArg (Value.int .i64) b1) ?_) | (refine wpIn_min2 rfl (.const (.int .i64 8)) (.tmp 25) 3 3 rfl .i64 8 (max 1 k7) rfl rfl ?_; rw [HM.out]) | (refine wpIn_max2 rfl (.const (.int .i64 1)) (.tmp 32) 3 3 rfl .i64 1 s8 rfl rfl ?_; rw [HNN.out]))
  obtain ⟨W0, hW0⟩ : ∃ W0, (((w.alloc (.cells #[.int .i64 0, .slice none 0 0] 32)).alloc (.cells (madeCells #[.int .u8 0] N) 5)).alloc (.cells #[.int .i64 (M : Int), .slice (some ⟨w.heap.size + 1, 0, none⟩) N N] 32)) = W0 := ⟨_, rfl⟩
  rw [hW0]
  have hi0 : MInv 32 w W0 M N (setAll M (List.replicate N 0) (ss.take 0)) [] := by
    rw [← hW0]
    have q0 := heap_alloc_new w (.cells #[.int .i64 0, .slice none 0 0] 32)
    have q2 := heap_alloc_new ((w.alloc (.cells #[.int .i64 0, .slice none 0 0] 32)).alloc (.cells (madeCells #[.int .u8 0] N) 5)) (.cells #[.int .i64 (M : Int), .slice (some ⟨w.heap.size + 1, 0, none⟩) N N] 32)
    rw [World.size_alloc, World.size_alloc] at q2
    have q1 := OwB.made (w.alloc (.cells #[.int .i64 0, .slice none 0 0] 32)) w.heap.size N (by simp) (by omega)
    rw [World.size_alloc] at q1
    refine ⟨(((Below.refl _ _).alloc (Nat.le_refl _) _).alloc (by simp) _).alloc (by simp; omega) _, ?_, q2, ?_, List.nodup_nil, fun D hD => absurd hD (by simp), by simp⟩
    · rw [Below.heap_alloc _ _ _ (by simp; omega), Below.heap_alloc _ _ _ (by simp)]; exact q0
    · exact q1.below ((Below.refl _ _).alloc (Nat.le_refl _) _)
  clear hW0
  refine wpIn_loop (fun a W => ∃ (k : Nat) (ds : List Nat) (u8 u39 u40 u41 u42 u43 u44 u55 : Value), k ≤ n ∧ MInv 32 w W M N (setAll M (List.replicate N 0) (ss.take k)) ds ∧
    a = { tmps := #[.slice A n c, .int .i64 (e : Int), undef, undef, .pointer (some ⟨w.heap.size, 0, none⟩), .int .i64 0, .pointer (some ⟨w.heap.size + 1 + 1, 0, none⟩), undef, u8, undef, undef, .int .i64 (e : Int), .bool false, .bool false, .int .i64 (e : Int), .bool false, .bool false, undef, .slice A n c, .int .i64 (n : Int), .bool false, undef, .int .i64 (e : Int), .int .i64 (7 * (e : Int)), .int .i64 (k7 : Int), .int .i64 ((max 1 k7 : Nat) : Int), .int .i64 (M : Int), .slice A n c, .int .i64 (n : Int), .int .i64 (e : Int), .int .i64 (ne : Int), .int .i64 ((ne : Int) + 7), .int .i64 (s8 : Int), .int .i64 (N : Int), .slice (some ⟨w.heap.size + 1, 0, none⟩) N N, .agg #[.int .i64 (M : Int), .slice (some ⟨w.heap.size + 1, 0, none⟩) N N], .slice A n c, .int .i64 (n : Int), .int .i64 (k : Int), u39, u40, u41, u42, u43, u44, undef, undef, undef, undef, undef, undef, undef, undef, undef, undef, u55, undef], defers := ds.map fun D => { target := .collected D, args := #[] } }) (fun a W => n - (intOf (a.tmps.getD 38 undef)).toNat) ?_ ?_
  · exact ⟨0, [], _, _, _, _, _, _, _, _, by omega, hi0, rfl⟩
  · rintro a W ⟨k, ds, u8, u39, u40, u41, u42, u43, u44, u55, hk, hi, rfl⟩
    by_cases hlt : k < n
    · have hkn : k < ss.length := by rw [HN.out]; exact hlt
      obtain ⟨ad, rfl, hcell⟩ := (hx.below hi.below).at_ k hkn
      obtain ⟨s, hs⟩ : ∃ s, ss.getD k ByteArray.empty = s := ⟨_, rfl⟩
      rw [hs] at hcell
      have hsz : s.size ≤ 140737488355328 := hss s (by rw [← hs, List.getD_eq_getElem?_getD, List.getElem?_eq_getElem hkn]; simp)
      have htake : setAll M (List.replicate N 0) (ss.take (k + 1)) = setU (setAll M (List.replicate N 0) (ss.take k)) s M := by
        rw [← setAll_append, List.take_succ_eq_append_getElem hkn]
        congr 3
        rw [← hs, List.getD_eq_getElem?_getD, List.getElem?_eq_getElem hkn]; rfl
      have HT := hide htake
      have hlen : (setAll M (List.replicate N 0) (ss.take k)).length = N := by rw [setAll_length]; simp
      clear htake hs hi0
      generalize setAll M (List.replicate N 0) (ss.take k) = acc at *
      have HL := hide hlen
      clear hlen
      obtain ⟨f0, f1, f2, f3⟩ := two_read hi.fil
      have HP := places_any (M : Int) (some ⟨w.heap.size + 1, 0, none⟩) N N s hsz
      unfold fil at HP
      have hki : (k : Int) < (n : Int) := by omega
      gi_wp2_with (first | (refine ⟨trivial, ?_⟩; gi_at_call 57; refine (callsIn_wide.2 (HP _)).mono ?_; rintro e w2 ⟨g0, hg0, rfl, hsz2, hbx, HB2⟩))
      obtain ⟨c0, hc0⟩ : ∃ c0, W.heap.size = c0 := ⟨_, rfl⟩
      have hw2s := HB2.size
      rw [hc0] at hbx HB2 hw2s hg0
      have hc0' : w.heap.size + 3 ≤ c0 := by rw [← hc0]; exact hi.size
      have hdsc : ∀ D ∈ ds, D < c0 := fun D hD => by rw [← hc0]; exact (hi.marks D hD).2.1
      have hi2 := hi.move HB2 hc0' hdsc
      rw [hc0]
      refine range_iter (gf := 95) (lb := iterF c0 g0) (N := M) (c0 := c0) (g0 := g0) (vals := valsF (plow (hash s)) (phigh (hash s)) N) rfl (enters_of Try.func95 (by kernel_rfl) rfl) (fun _ => rfl) (by omega) (by omega) (by omega)
        (iter_any M N N _ _ c0 g0 (some ⟨w.heap.size + 1, 0, none⟩) w2 hbx (by omega) (by omega) (by omega) (Nat.lt_trans (Nat.mod_lt _ (by decide)) (by decide)) (Nat.lt_trans (phigh_lt _) (by decide)) hg0 (by omega))
        (fun j X => MInv 32 w X M N (setU acc s j) ds) (fun _ _ => False) (fun j X Y h i => i.move h hc0' hdsc) (fun _ _ _ _ h => h) hi2
        (fun j => { tmps := #[.slice (some ad) n c, .int .i64 (e : Int), undef, undef, .pointer (some ⟨w.heap.size, 0, none⟩), .int .i64 0, .pointer (some ⟨w.heap.size + 1 + 1, 0, none⟩), undef, .string s, .int .i64 ((placeL (plow (hash s)) (phigh (hash s)) N j / 8 : Nat) : Int), .int .u8 ((2 ^ (placeL (plow (hash s)) (phigh (hash s)) N j % 8) : Nat) : Int), .int .i64 (e : Int), .bool false, .bool false, .int .i64 (e : Int), .bool false, .bool false, undef, .slice (some ad) n c, .int .i64 (n : Int), .bool false, undef, .int .i64 (e : Int), .int .i64 (7 * (e : Int)), .int .i64 (k7 : Int), .int .i64 ((max 1 k7 : Nat) : Int), .int .i64 (M : Int), .slice (some ad) n c, .int .i64 (n : Int), .int .i64 (e : Int), .int .i64 (ne : Int), .int .i64 ((ne : Int) + 7), .int .i64 (s8 : Int), .int .i64 (N : Int), .slice (some ⟨w.heap.size + 1, 0, none⟩) N N, .agg #[.int .i64 (M : Int), .slice (some ⟨w.heap.size + 1, 0, none⟩) N N], .slice (some ad) n c, .int .i64 (n : Int), .int .i64 (k : Int), .bool true, .pointer (some (ad.add k)), .string s, .agg #[.int .i64 (M : Int), .slice (some ⟨w.heap.size + 1, 0, none⟩) N N], .string s, .func (.func 95) #[] (iterF c0 g0), .int .i64 ((placeL (plow (hash s)) (phigh (hash s)) N j / 8 : Nat) : Int), .int .u8 ((2 ^ (placeL (plow (hash s)) (phigh (hash s)) N j % 8) : Nat) : Int), undef, undef, undef, undef, undef, undef, undef, undef, u55, undef], defers := [] }) ?assign ?body ?done ?stop
      case assign =>
        intro l j X KK hKK
        unfold valsF
        gi_wp2
        exact hKK
      case body =>
        intro l j X hj hij
        have hpl : placeL (plow (hash s)) (phigh (hash s)) N j < 8 * N := Nat.mod_lt _ (by omega)
        have hset : setU acc s (j + 1) = setB (setU acc s j) (placeL (plow (hash s)) (phigh (hash s)) N j) := by rw [setU, HL.out]; rfl
        have hlenj : (setU acc s j).length = N := by rw [setU_length, HL.out]
        have HSET := hide hset
        clear hset
        obtain ⟨j0, j1, j2, j3⟩ := two_read hij.fil
        generalize placeL (plow (hash s)) (phigh (hash s)) N j = p at *
        obtain ⟨q, hq⟩ : ∃ q, p / 8 = q := ⟨_, rfl⟩
        obtain ⟨r, hr⟩ : ∃ r, p % 8 = r := ⟨_, rfl⟩
        have hr8 : r < 8 := by rw [← hr]; exact Nat.mod_lt _ (by decide)
        have hq1 : q < N := by omega
        obtain ⟨g, cap, hv, hg1, hg2, hcel, hfro, hput⟩ := hij.own.set_ q (by rw [hlenj]; exact hq1)
        rw [hlenj] at hv
        obtain ⟨rfl, rfl⟩ : w.heap.size + 1 = g ∧ N = cap := by
          injection hv with h1 h2 h3
          injection h1 with h1
          injection h1 with h1
          exact ⟨h1, h3⟩
        clear hv hg1
        obtain ⟨x, hxx⟩ : ∃ x, (setU acc s j).getD q 0 = x := ⟨_, rfl⟩
        rw [hxx] at hcel
        have hor := or_bit x r hr8
        obtain ⟨hput1, hput2⟩ := hput (x ||| UInt8.ofNat (2 ^ r))
        have hnew : (setU acc s j).set q (x ||| UInt8.ofNat (2 ^ r)) = setU acc s (j + 1) := by rw [HSET.out, setB, hq, hr, hxx]
        rw [hnew] at hput1
        rw [hq, hr]
        have hq2 : (q : Int) < (N : Int) := by omega
        clear hq hr hxx hpl hput hnew hlenj
        obtain ⟨y, hy⟩ : ∃ y, (x ||| UInt8.ofNat (2 ^ r)).toNat = y := ⟨_, rfl⟩
        rw [hy] at hor hput1 hput2
        clear hy
        generalize 2 ^ r = t at *
        have hbel := hij.below.setCell (p := ⟨w.heap.size + 1, q, none⟩) (Nat.le_succ _) (.int .u8 (y : Int))
        have hot : ∀ b, b ≠ w.heap.size + 1 → (X.setCell ⟨w.heap.size + 1, q, none⟩ (.int .u8 (y : Int))).heap[b]? = X.heap[b]? := fun b hb => Below.heap_setCell _ _ _ _ hb
        have hfin : MInv 32 w (X.setCell ⟨w.heap.size + 1, q, none⟩ (.int .u8 (y : Int))) M N (setU acc s (j + 1)) ds :=
          ⟨hbel, (hot _ (by omega)).trans hij.res, (hot _ (by omega)).trans hij.fil, hput1, hij.nodup, fun D hD => ⟨(hij.marks D hD).1, by rw [World.size_setCell]; exact (hij.marks D hD).2.1, (hot _ (by have := (hij.marks D hD).1; omega)).trans (hij.marks D hD).2.2⟩, by rw [World.size_setCell]; exact hij.size⟩
        have hpa : Past c0 X (X.setCell ⟨w.heap.size + 1, q, none⟩ (.int .u8 (y : Int))) := Past.setCell X _ q (by omega) _
        have HF := hide hfin
        have HPA := hide hpa
        clear hfin hpa hput1 hput2 hbel hot
        gi_wp2
        exact ⟨HPA.out, HF.out⟩
      case done =>
        intro X hiX hszX hDX
        rw [← HT.out] at hiX
        have hnd : w2.heap.size ∉ ds := fun h => by have := hdsc _ h; omega
        have hlt2 := (Array.getElem?_eq_some_iff.1 hDX).1
        have hiX2 : MInv 32 w X M N (setAll M (List.replicate N 0) (ss.take (k + 1))) (w2.heap.size :: ds) := ⟨hiX.below, hiX.res, hiX.fil, hiX.own, List.nodup_cons.2 ⟨hnd, hiX.nodup⟩, fun D hD => by
          rcases List.mem_cons.1 hD with rfl | h
          · exact ⟨by omega, hlt2, hDX⟩
          · exact hiX.marks D h, hiX.size⟩
        gi_wp2
        refine ⟨⟨k + 1, w2.heap.size :: ds, _, _, _, _, _, _, _, _, by omega, hiX2, rfl⟩, ?_⟩
        simp [intOf]; omega
      case stop => exact fun _ _ _ h => h.elim
    · obtain rfl : k = n := by omega
      have hall : ss.take k = ss := List.take_of_length_le (by rw [HN.out]; exact Nat.le_refl _)
      rw [hall] at hi
      obtain ⟨f0, f1, f2, f3⟩ := two_read hi.fil
      obtain ⟨g0, g1, g2, g3⟩ := two_read hi.res
      gi_wp2
      have hr := two_cells (u := .int .i64 (M : Int)) (v := .slice (some ⟨w.heap.size + 1, 0, none⟩) N N) hi.res
      have hne : some w.heap.size ≠ (Value.slice (some ⟨w.heap.size + 1, 0, none⟩) N N).ownBlock := by
        intro h
        simp [Value.ownBlock] at h
      have ho := own_setCell (own_setCell hi.own (p := ⟨w.heap.size, 0, none⟩) hne (.int .i64 (M : Int))) (p := ⟨w.heap.size, 1, none⟩) hne (.slice (some ⟨w.heap.size + 1, 0, none⟩) N N)
      refine leaves_marks (base := w.heap.size + 3) ds _ hi.nodup (fun D hD => ⟨(hi.marks D hD).1, ?_⟩) (fun W' hW' => ?_)
      · have h1 := (hi.marks D hD).1
        exact (Below.heap_setCell _ _ _ _ (show D ≠ w.heap.size by omega)).trans ((Below.heap_setCell _ _ _ _ (show D ≠ w.heap.size by omega)).trans (hi.marks D hD).2.2)
      · obtain ⟨r0, r1, _, _⟩ := two_read ((hW'.block _ (by omega)).trans hr)
        refine leaves_nil (.tuple #[.agg #[.int .i64 (M : Int), .slice (some ⟨w.heap.size + 1, 0, none⟩) N N], .int .i64 0]) ?_ ⟨some ⟨w.heap.size + 1, 0, none⟩, N, rfl, own_move ho (fun b e => hW'.block b (by simp [Value.ownBlock] at e; omega)), ((hi.below.setCell (p := ⟨w.heap.size, 0, none⟩) (Nat.le_refl _) _).setCell (p := ⟨w.heap.size, 1, none⟩) (Nat.le_refl _) _).trans (hW'.mono (by omega))⟩
        simp [results, Try.results31, go_sem, r0, r1]
set_option maxRecDepth 100000 in
set_option maxHeartbeats 800000 in
theorem Make_any (A : Option Addr) (c : Nat) (ss : List ByteArray) (each : Int) (hss : ∀ s ∈ ss, s.size ≤ 140737488355328) (w : World) (hx : RdS w A c ss) :
    Calls Try.prog 31 #[.slice A ss.length c, .int .i64 each] w fun e' w' => ∃ A' c', e' = .returned (.tuple #[fil (makeK each ss.length) A' (makeX each ss).length c', .int .i64 (makeE each ss.length)]) ∧ OwB w' w.heap.size (.slice A' (makeX each ss).length c') (makeX each ss) ∧ Below w.heap.size w w' := by
  by_cases hok : makeOk each ss.length
  · have hk : makeK each ss.length = (makeM each.toNat : Int) := by rw [makeK, if_pos hok]
    have hX : makeX each ss = setAll (makeM each.toNat) (List.replicate (makeN each.toNat ss.length) 0) ss := by rw [makeX, if_pos hok]
    obtain ⟨h1, h2, h3⟩ := hok
    have hE : makeE each ss.length = 0 := by rw [makeE, if_neg (by omega), if_neg (by omega)]
    rw [hk, hX, hE, setAll_length, List.length_replicate]
    obtain ⟨e, rfl⟩ : ∃ e : Nat, each = (e : Int) := ⟨each.toNat, by omega⟩
    rw [Int.toNat_natCast]
    exact Make_main A c ss e hss w hx (by omega) (by omega) h3
  · have hk : makeK each ss.length = 0 := by rw [makeK, if_neg hok]
    have hX : makeX each ss = [] := by rw [makeX, if_neg hok]
    obtain ⟨n, hn⟩ : ∃ n, ss.length = n := ⟨_, rfl⟩
    have hm := hx.max
    rw [hk, hX]
    rw [hn] at hok hm ⊢
    clear hk hX hn
    have hno : each < 1 ∨ 16 < each ∨ (1 ≤ each ∧ each ≤ 16 ∧ 4096 < n) := by unfold makeOk at hok; omega
    refine (callsIn_wide (n := 9)).1 ?_
    refine callsIn_of_wp_marks Try.func31 rfl trivial ?_ rfl
    simp only [Try.ntmps31, List.size_toArray, List.length_cons, List.length_nil, Nat.reduceAdd, Nat.reduceSub, Array.replicate_succ, Array.replicate_zero, List.push_toArray, List.append_toArray, List.nil_append, List.cons_append]
    unfold fil
    rcases hno with h | h | ⟨h1, h2, h3⟩
    · have hE : makeE each n = 4 := by rw [makeE, if_pos (by omega)]
      rw [hE]
      gi_wp2
      refine leaves_nil (.tuple #[.agg #[.int .i64 0, .slice none 0 0], .int .i64 4]) ?_ ⟨none, 0, rfl, OwB.zero _ _, (Below.refl _ _).alloc (Nat.le_refl _) _⟩
      simp [results, Try.results31, go_sem]
    · have hE : makeE each n = 4 := by rw [makeE, if_pos (by omega)]
      rw [hE]
      have h0 : ¬ each < 1 := by omega
      gi_wp2
      refine leaves_nil (.tuple #[.agg #[.int .i64 0, .slice none 0 0], .int .i64 4]) ?_ ⟨none, 0, rfl, OwB.zero _ _, (Below.refl _ _).alloc (Nat.le_refl _) _⟩
      simp [results, Try.results31, go_sem]
    · have hE : makeE each n = 3 := by rw [makeE, if_neg (by omega), if_pos h3]
      rw [hE]
      have h0 : ¬ each < 1 := by omega
      have h4 : ¬ 16 < each := by omega
      have h5 : 4096 < (n : Int) := by omega
      gi_wp2
      refine leaves_nil (.tuple #[.agg #[.int .i64 0, .slice none 0 0], .int .i64 3]) ?_ ⟨none, 0, rfl, OwB.zero _ _, (Below.refl _ _).alloc (Nat.le_refl _) _⟩
      simp [results, Try.results31, go_sem]
end Go.Proofs.Ytefcepjffeiaoaa.Bl
end

section
/- Bloom: the walk of the reference's Make. -/
namespace Go.Proofs.Ytefcepjffeiaoaa.Bl
open Go.RowKit Go.Shelf Go.Proofs.YtefcepjffeiaoaaW.PrintWords
set_option linter.unusedVariables false

theorem wp_max2 {P : Program} {ops : Array Oper} {rest : List Oper} {o : Oper} {a : Act} {Q : Exit → Act → World → Prop} {W : World} (hgd : o.guard = none) (x y : Operand) (t1 t2 : TypeId) (ho : o.op = .call { callee := .builtin .max, args := #[x, y], argTypes := #[t1, t2] }) (k : IntKind) (m n : Nat)
    (hx : a.eval x = .int k (m : Int)) (hy : a.eval y = .int k (n : Int)) (hk : wpList P ops Q rest (a.put o.dst (.int k ((max m n : Nat) : Int))) W) : wpList P ops Q (o :: rest) a W :=
  wp_known hgd _ (by
    unfold execOp
    simp only [ho, resolve, invoke, builtin, Sem.run_bind, Sem.run_pure, Result.andThen_ok, List.map_toArray, List.map_cons, List.map_nil, hx, hy, Builtin.max_, List.foldlM_cons, List.foldlM_nil, max2_nat]) hk
theorem run_loadVar_str {P : Program} (w : World) (ty : TypeId) (hu : P.underlying ty = some .string) (a : Addr) (v : Value) (hc : w.cell? a = some v) : (loadVar ty a).run P w = .ok v w := by
  have hagg : (isAgg ty).run P w = .ok false w := by
    unfold isAgg
    rw [Sem.run_bind, run_underlying hu w]
    simp
  simp [loadVar, Sem.run_bind, hagg, hc]
theorem run_loadVar_slice {P : Program} (w : World) (ty e : TypeId) (hu : P.underlying ty = some (.slice e)) (a : Addr) (v : Value) (hc : w.cell? a = some v) : (loadVar ty a).run P w = .ok v w := by
  have hagg : (isAgg ty).run P w = .ok false w := by
    unfold isAgg
    rw [Sem.run_bind, run_underlying hu w]
    simp
  simp [loadVar, Sem.run_bind, hagg, hc]
set_option maxRecDepth 100000 in
set_option maxHeartbeats 1600000 in
theorem rMake_main (A : Option Addr) (c : Nat) (ss : List ByteArray) (e : Nat) (hss : ∀ s ∈ ss, s.size ≤ 140737488355328) (w : World) (hx : RdS w A c ss) (he1 : 1 ≤ e) (he2 : e ≤ 16) (hn : ss.length ≤ 4096) :
    Calls Try.prog 41 #[.slice A ss.length c, .int .i64 (e : Int)] w fun e' w' => ∃ A' c', e' = .returned (.tuple #[fil (makeM e : Nat) A' (makeN e ss.length) c', .int .i64 0]) ∧ OwB w' w.heap.size (.slice A' (makeN e ss.length) c') (setAll (makeM e) (List.replicate (makeN e ss.length) 0) ss) ∧ Below w.heap.size w w' := by
  obtain ⟨n, hnn⟩ : ∃ n, ss.length = n := ⟨_, rfl⟩
  have HN := hide hnn
  rw [hnn] at hn ⊢
  clear hnn
  unfold fil
  have a1 : ¬ (e : Int) < 1 := by omega
  have a2 : ¬ 16 < (e : Int) := by omega
  have a3 : ¬ 4096 < (n : Int) := by omega
  obtain ⟨k7, hk7⟩ : ∃ k7, 7 * e / 10 = k7 := ⟨_, rfl⟩
  obtain ⟨ne, hne⟩ : ∃ ne, n * e = ne := ⟨_, rfl⟩
  have hne2 : ne ≤ 65536 := by rw [← hne]; exact Nat.le_trans (Nat.mul_le_mul hn he2) (by decide)
  obtain ⟨s8, hs8⟩ : ∃ s8, (ne + 7) / 8 = s8 := ⟨_, rfl⟩
  have b1 : (e : Int) * 7 / 10 = (k7 : Int) := by omega
  have b2 : wrap64 ((n : Int) * (e : Int)) = (ne : Int) := by
    rw [show (n : Int) * (e : Int) = (ne : Int) by rw [← hne]; simp]; unfold wrap64; omega
  have b3 : ((ne : Int) + 7) / 8 = (s8 : Int) := by omega
  have hM : Nat.min 8 (max 1 k7) = makeM e := by rw [makeM, hk7]
  have hNN : max 1 s8 = makeN e n := by rw [makeN, hne, hs8]
  have hM2 : 1 ≤ makeM e ∧ makeM e ≤ 8 := by rw [makeM]; omega
  have hN2 : 1 ≤ makeN e n ∧ makeN e n ≤ 8193 := by rw [makeN, hne]; omega
  have hmk := fun W => make_bytes (makeN e n) (by omega) W
  generalize makeM e = M at *
  generalize makeN e n = N at *
  have HM := hide hM
  have HNN := hide hNN
  clear hM hNN hk7 hne hs8
  go_enter Try.func41, Try.ntmps41
  go_wp2_with (first | (refine wp_max2 rfl (.const (.int .i64 1)) (.tmp 25) 3 3 rfl .i64 1 k7 rfl (congrArg (Value.int .i64) b1) ?_) | (refine wp_min2 rfl (.const (.int .i64 8)) (.tmp 26) 3 3 rfl .i64 8 (max 1 k7) rfl rfl ?_; rw [HM.out]) | (refine wp_max2 rfl (.const (.int .i64 1)) (.tmp 33) 3 3 rfl .i64 1 s8 rfl (congrArg (Value.int .i64) b3) ?_; rw [HNN.out]))
  obtain ⟨W0, hW0⟩ : ∃ W0, (((w.alloc (.cells #[.int .i64 0, .slice none 0 0] 37)).alloc (.cells (madeCells #[.int .u8 0] N) 5)).alloc (.cells #[.int .i64 (M : Int), .slice (some ⟨w.heap.size + 1, 0, none⟩) N N] 37)) = W0 := ⟨_, rfl⟩
  rw [hW0]
  have hi0 : MInv 37 w W0 M N (setAll M (List.replicate N 0) (ss.take 0)) [] := by
    rw [← hW0]
    have q0 := heap_alloc_new w (.cells #[.int .i64 0, .slice none 0 0] 37)
    have q2 := heap_alloc_new ((w.alloc (.cells #[.int .i64 0, .slice none 0 0] 37)).alloc (.cells (madeCells #[.int .u8 0] N) 5)) (.cells #[.int .i64 (M : Int), .slice (some ⟨w.heap.size + 1, 0, none⟩) N N] 37)
    rw [World.size_alloc, World.size_alloc] at q2
    have q1 := OwB.made (w.alloc (.cells #[.int .i64 0, .slice none 0 0] 37)) w.heap.size N (by simp) (by omega)
    rw [World.size_alloc] at q1
    refine ⟨(((Below.refl _ _).alloc (Nat.le_refl _) _).alloc (by simp) _).alloc (by simp; omega) _, ?_, q2, ?_, List.nodup_nil, fun D hD => absurd hD (by simp), by simp⟩
    · rw [Below.heap_alloc _ _ _ (by simp; omega), Below.heap_alloc _ _ _ (by simp)]; exact q0
    · exact q1.below ((Below.refl _ _).alloc (Nat.le_refl _) _)
  clear hW0
  go_loopw [7] (fun u wr => ∃ k : Nat, k ≤ n ∧ u = .int .i64 (k : Int) ∧ MInv 37 w wr M N (setAll M (List.replicate N 0) (ss.take k)) []) (fun u wr => n - (intOf u).toNat)
  case atStart => exact ⟨0, by omega, rfl, hi0⟩
  case round =>
    obtain ⟨k, hk, rfl, hi⟩ := hrel
    by_cases hlt : k < n
    · have hkn : k < ss.length := by rw [HN.out]; exact hlt
      obtain ⟨ad, rfl, hcell⟩ := (hx.below hi.below).at_ k hkn
      obtain ⟨s, hs⟩ : ∃ s, ss.getD k ByteArray.empty = s := ⟨_, rfl⟩
      have hsz : s.size ≤ 140737488355328 := hss s (by rw [← hs, List.getD_eq_getElem?_getD, List.getElem?_eq_getElem hkn]; simp)
      have htake : setAll M (List.replicate N 0) (ss.take (k + 1)) = setU (setAll M (List.replicate N 0) (ss.take k)) s M := by
        rw [← setAll_append, List.take_succ_eq_append_getElem hkn]
        congr 3
        rw [← hs, List.getD_eq_getElem?_getD, List.getElem?_eq_getElem hkn]; rfl
      have HT := hide htake
      have HS := hide hs
      have hlen : (setAll M (List.replicate N 0) (ss.take k)).length = N := by rw [setAll_length]; simp
      clear htake hs hi0 hcell
      generalize setAll M (List.replicate N 0) (ss.take k) = acc at *
      have HL := hide hlen
      clear hlen
      have HP := fun j (hj : j < M) => rplace_any s hsz j (8 * N) (by omega) (by omega) (by omega)
      have hki : (k : Int) < (n : Int) := by omega
      go_wp2
      go_loopw [8] (fun u wr => ∃ j : Nat, j ≤ M ∧ u = .int .i64 (j : Int) ∧ MInv 37 w wr M N (setU acc s j) []) (fun u wr => M - (intOf u).toNat)
      case atStart => exact ⟨0, by omega, rfl, hi⟩
      case round =>
        obtain ⟨j, hj, rfl, hij⟩ := hrel
        obtain ⟨f0, f1, f2, f3⟩ := two_read hij.fil
        by_cases hjl : j < M
        · have HPj := HP j hjl
          have hcw : wr.cell? (ad.add k) = some (.string s) := by
            obtain ⟨ad2, h2, h3⟩ := (hx.below hij.below).at_ k hkn
            cases h2
            rw [HS.out] at h3
            exact h3
          have hset : setU acc s (j + 1) = setB (setU acc s j) (place s (8 * N) j) := by rw [setU, HL.out]
          have hpl : place s (8 * N) j < 8 * N := Nat.mod_lt _ (by omega)
          rw [show ((8 * N : Nat) : Int) = 8 * (N : Int) by omega] at HPj
          have hlenj : (setU acc s j).length = N := by rw [setU_length, HL.out]
          generalize place s (8 * N) j = p at *
          have HSET := hide hset
          obtain ⟨q, hq⟩ : ∃ q, p / 8 = q := ⟨_, rfl⟩
          obtain ⟨r, hr⟩ : ∃ r, p % 8 = r := ⟨_, rfl⟩
          have hr8 : r < 8 := by rw [← hr]; exact Nat.mod_lt _ (by decide)
          have hq1 : q < N := by omega
          have hq2 : (q : Int) < (N : Int) := by omega
          have hw1 : (p : Int) / 8 = (q : Int) := by omega
          have hw2 : IntKind.i64.wrap (q : Int) = (q : Int) := by rw [IntKind.wrap_i64]; omega
          have hw3 : (p : Int).tmod 8 = (r : Int) := by rw [Int.tmod_eq_emod_of_nonneg (by omega)]; omega
          have hji : (j : Int) < (M : Int) := by omega
          have hr64 : (r : Int) ≤ 64 := by omega
          have L0 : ∀ w', Below wr.heap.size wr w' → (loadVar 9 (ad.add k)).run Try.prog w' = .ok (.string s) w' := fun w' hb => run_loadVar_str w' 9 Try.underlying9 _ _ ((hb.cell (World.block_lt_of_cell? wr _ hcw)).trans hcw)
          have L1 : ∀ w', Below wr.heap.size wr w' → (loadVar 23 ⟨w.heap.size + 1 + 1, 1, none⟩).run Try.prog w' = .ok (.slice (some ⟨w.heap.size + 1, 0, none⟩) N N) w' := fun w' hb => run_loadVar_slice w' 23 5 Try.underlying23 _ _ ((hb.cell (World.block_lt_of_cell? wr _ f1)).trans f1)
          have hmv := fun w' (hb : Below wr.heap.size wr w') => hij.move hb hij.size (fun D hD => absurd hD (by simp))
          clear hset HP
          go_wp2
          refine wp_region_below wr.heap.size wr (Below.refl _ _) (by kernel_rfl) (by kernel_rfl) ?_
          repeat (go_big_quiet_step ((intro hb; first | rfl | (refine (HPj _).mono ?_; rintro e w7 ⟨rfl, rfl⟩; exact ⟨rfl, hb⟩))))
          refine quiet_load rfl 9 _ rfl (ad.add k) rfl (.string s) L0 ?_
          simp only [Act.put, List.setIfInBounds_toArray, List.set_cons_zero, List.set_cons_succ]
          repeat (go_big_quiet_step ((intro hb; first | rfl | (refine (HPj _).mono ?_; rintro e w7 ⟨rfl, rfl⟩; exact ⟨rfl, hb⟩))))
          refine quiet_load rfl 23 _ rfl ⟨w.heap.size + 1 + 1, 1, none⟩ rfl (.slice (some ⟨w.heap.size + 1, 0, none⟩) N N) L1 ?_
          simp only [Act.put, List.setIfInBounds_toArray, List.set_cons_zero, List.set_cons_succ]
          repeat (go_big_quiet_step ((intro hb; first | rfl | (refine (HPj _).mono ?_; rintro e w7 ⟨rfl, rfl⟩; exact ⟨rfl, hb⟩))))
          refine wpQuiet_nil ?_
          intro w1 HC1
          have hd1 := hmv w1 HC1
          have hd2 := hd1.move (Below.refl w1.heap.size w1).drew hd1.size (fun D hD => absurd hD (by simp))
          obtain ⟨x, y, hcx, hfx, hor, hfin⟩ := hd2.put hlenj p q r hq hr (by omega)
          rw [← HSET.out] at hfin
          obtain ⟨e0, e1, e2, e3⟩ := two_read hd1.fil
          have hcx1 : w1.cell? ⟨w.heap.size + 1, q, none⟩ = some (.int .u8 (x.toNat : Int)) := hcx
          have HF := hide hfin
          have HOR := hide hor
          clear hor hfin hd1 hd2 hq hr hlenj L0 L1 hmv HPj hij f0 f1 f2 f3 hcw
          go_wp2
          go_still_tail 15, (by kernel_rfl)
          change wpList _ _ _ _ _ w1.drew
          generalize w1.drew = wd at *
          go_wp2
          go_roundw
          case rel => exact ⟨j + 1, by omega, by go_num, by rw [pow_bit r hr8, HOR.out]; exact HF.out⟩
          case measure => simp [intOf]; omega
        · obtain rfl : j = M := by omega
          go_wp2
          go_roundw
          case rel => exact ⟨k + 1, by omega, by go_num, by rw [HT.out]; exact hij⟩
          case measure => simp [intOf]; omega
    · obtain rfl : k = n := by omega
      have hall : ss.take k = ss := List.take_of_length_le (by rw [HN.out]; exact Nat.le_refl _)
      rw [hall] at hi
      obtain ⟨f0, f1, f2, f3⟩ := two_read hi.fil
      obtain ⟨g0, g1, g2, g3⟩ := two_read hi.res
      go_wp2
      have hr := two_cells (u := .int .i64 (M : Int)) (v := .slice (some ⟨w.heap.size + 1, 0, none⟩) N N) hi.res
      have hne : some w.heap.size ≠ (Value.slice (some ⟨w.heap.size + 1, 0, none⟩) N N).ownBlock := by
        intro h
        simp [Value.ownBlock] at h
      have ho := own_setCell (own_setCell hi.own (p := ⟨w.heap.size, 0, none⟩) hne (.int .i64 (M : Int))) (p := ⟨w.heap.size, 1, none⟩) hne (.slice (some ⟨w.heap.size + 1, 0, none⟩) N N)
      obtain ⟨r0, r1, _, _⟩ := two_read hr
      refine bodyPost_ret (v := .tuple #[.agg #[.int .i64 (M : Int), .slice (some ⟨w.heap.size + 1, 0, none⟩) N N], .int .i64 0]) ?_ rfl ⟨some ⟨w.heap.size + 1, 0, none⟩, N, rfl, ho, (hi.below.setCell (p := ⟨w.heap.size, 0, none⟩) (Nat.le_refl _) _).setCell (p := ⟨w.heap.size, 1, none⟩) (Nat.le_refl _) _⟩
      simp [results, Try.results41, go_sem, r0, r1]
set_option maxRecDepth 100000 in
set_option maxHeartbeats 800000 in
theorem rMake_any (A : Option Addr) (c : Nat) (ss : List ByteArray) (each : Int) (hss : ∀ s ∈ ss, s.size ≤ 140737488355328) (w : World) (hx : RdS w A c ss) :
    Calls Try.prog 41 #[.slice A ss.length c, .int .i64 each] w fun e' w' => ∃ A' c', e' = .returned (.tuple #[fil (makeK each ss.length) A' (makeX each ss).length c', .int .i64 (makeE each ss.length)]) ∧ OwB w' w.heap.size (.slice A' (makeX each ss).length c') (makeX each ss) ∧ Below w.heap.size w w' := by
  by_cases hok : makeOk each ss.length
  · have hk : makeK each ss.length = (makeM each.toNat : Int) := by rw [makeK, if_pos hok]
    have hX : makeX each ss = setAll (makeM each.toNat) (List.replicate (makeN each.toNat ss.length) 0) ss := by rw [makeX, if_pos hok]
    obtain ⟨h1, h2, h3⟩ := hok
    have hE : makeE each ss.length = 0 := by rw [makeE, if_neg (by omega), if_neg (by omega)]
    rw [hk, hX, hE, setAll_length, List.length_replicate]
    obtain ⟨e, rfl⟩ : ∃ e : Nat, each = (e : Int) := ⟨each.toNat, by omega⟩
    rw [Int.toNat_natCast]
    exact rMake_main A c ss e hss w hx (by omega) (by omega) h3
  · have hk : makeK each ss.length = 0 := by rw [makeK, if_neg hok]
    have hX : makeX each ss = [] := by rw [makeX, if_neg hok]
    obtain ⟨n, hn⟩ : ∃ n, ss.length = n := ⟨_, rfl⟩
    have hm := hx.max
    rw [hk, hX]
    rw [hn] at hok hm ⊢
    clear hk hX hn
    have hno : each < 1 ∨ 16 < each ∨ (1 ≤ each ∧ each ≤ 16 ∧ 4096 < n) := by unfold makeOk at hok; omega
    unfold fil
    rcases hno with h | h | ⟨h1, h2, h3⟩
    · have hE : makeE each n = 4 := by rw [makeE, if_pos (by omega)]
      rw [hE]
      go_enter Try.func41, Try.ntmps41
      go_wp2
      refine bodyPost_ret (v := .tuple #[.agg #[.int .i64 0, .slice none 0 0], .int .i64 4]) ?_ rfl ⟨none, 0, rfl, OwB.zero _ _, (Below.refl _ _).alloc (Nat.le_refl _) _⟩
      simp [results, Try.results41, go_sem]
    · have hE : makeE each n = 4 := by rw [makeE, if_pos (by omega)]
      rw [hE]
      have h0 : ¬ each < 1 := by omega
      go_enter Try.func41, Try.ntmps41
      go_wp2
      refine bodyPost_ret (v := .tuple #[.agg #[.int .i64 0, .slice none 0 0], .int .i64 4]) ?_ rfl ⟨none, 0, rfl, OwB.zero _ _, (Below.refl _ _).alloc (Nat.le_refl _) _⟩
      simp [results, Try.results41, go_sem]
    · have hE : makeE each n = 3 := by rw [makeE, if_neg (by omega), if_pos h3]
      rw [hE]
      have h0 : ¬ each < 1 := by omega
      have h4 : ¬ 16 < each := by omega
      have h5 : 4096 < (n : Int) := by omega
      go_enter Try.func41, Try.ntmps41
      go_wp2
      refine bodyPost_ret (v := .tuple #[.agg #[.int .i64 0, .slice none 0 0], .int .i64 3]) ?_ rfl ⟨none, 0, rfl, OwB.zero _ _, (Below.refl _ _).alloc (Nat.le_refl _) _⟩
      simp [results, Try.results41, go_sem]
end Go.Proofs.Ytefcepjffeiaoaa.Bl
end

section
/- Bloom: plain laws of filters: the order of the places does not matter; what is put in is in. -/
namespace Go.Proofs.Ytefcepjffeiaoaa.Bl
set_option linter.unusedVariables false

/-- no bit of the one lacks in the other -/
structure Le (xs ys : List UInt8) : Prop where
  len : xs.length = ys.length
  bit : ∀ i j, (xs.getD i 0).toNat.testBit j = true → (ys.getD i 0).toNat.testBit j = true
theorem Le.refl (xs : List UInt8) : Le xs xs := ⟨rfl, fun _ _ h => h⟩
theorem Le.trans {xs ys zs : List UInt8} (h : Le xs ys) (k : Le ys zs) : Le xs zs := ⟨h.len.trans k.len, fun i j e => k.bit i j (h.bit i j e)⟩
theorem or_bit_l (a b : UInt8) (j : Nat) (h : a.toNat.testBit j = true) : (a ||| b).toNat.testBit j = true := by
  rw [UInt8.toNat_or, Nat.testBit_or, h, Bool.true_or]
theorem getD_set (xs : List UInt8) (k i : Nat) (v : UInt8) : (xs.set k v).getD i 0 = if k = i ∧ k < xs.length then v else xs.getD i 0 := by
  rw [List.getD_eq_getElem?_getD, List.getD_eq_getElem?_getD, List.getElem?_set]
  by_cases h : k = i
  · subst h
    by_cases hl : k < xs.length
    · simp [hl]
    · rw [if_pos rfl, if_neg hl, if_neg (fun e => hl e.2), List.getElem?_eq_none (by omega)]
  · rw [if_neg h, if_neg (fun e => h e.1)]
theorem Le.or_at (xs : List UInt8) (k : Nat) (b : UInt8) : Le xs (xs.set k (xs.getD k 0 ||| b)) := by
  refine ⟨List.length_set.symm, fun i j h => ?_⟩
  rw [getD_set]
  split
  · next e => rw [e.1]; exact or_bit_l _ _ _ h
  · exact h
theorem Le.setB (xs : List UInt8) (p : Nat) : Le xs (setB xs p) := Le.or_at xs (p / 8) _
theorem Le.setU (xs : List UInt8) (s : ByteArray) (k d : Nat) : Le (setU xs s k) (setU xs s (k + d)) := by
  induction d with
  | zero => exact Le.refl _
  | succ d ih => exact ih.trans (by rw [show k + (d + 1) = (k + d) + 1 by omega, Go.Proofs.Ytefcepjffeiaoaa.Bl.setU]; exact Le.setB _ _)
theorem Le.setAll (m : Nat) (ss : List ByteArray) (xs : List UInt8) : Le xs (setAll m xs ss) := by
  induction ss generalizing xs with
  | nil => exact Le.refl _
  | cons s r ih => exact ((by have := Le.setU xs s 0 m; rw [Nat.zero_add] at this; exact this : Le xs (Go.Proofs.Ytefcepjffeiaoaa.Bl.setU xs s m))).trans (ih _)
theorem bitN_ne (xs : List UInt8) (p : Nat) : bitN xs p ≠ 0 ↔ (xs.getD (p / 8) 0).toNat.testBit (p % 8) = true := by
  unfold bitN
  rw [Nat.testBit_eq_decide_div_mod_eq, decide_eq_true_iff]
  have := Nat.mod_lt ((xs.getD (p / 8) 0).toNat / 2 ^ (p % 8)) (show 0 < 2 by decide)
  omega
theorem bit_setB (xs : List UInt8) (p : Nat) (hp : p < 8 * xs.length) : bitN (setB xs p) p ≠ 0 := by
  rw [bitN_ne]
  unfold setB
  rw [getD_set, if_pos ⟨rfl, by omega⟩, UInt8.toNat_or, Nat.testBit_or]
  have h8 : p % 8 < 8 := Nat.mod_lt _ (by decide)
  have e : (UInt8.ofNat (2 ^ (p % 8))).toNat = 2 ^ (p % 8) := by
    rw [UInt8.toNat_ofNat']
    have : 2 ^ (p % 8) ≤ 2 ^ 7 := Nat.pow_le_pow_right (by decide) (by omega)
    generalize 2 ^ (p % 8) = t at *
    omega
  rw [e, Nat.testBit_two_pow_self, Bool.or_true]
theorem hasU_of (xs : List UInt8) (s : ByteArray) (k : Nat) (h : ∀ j, j < k → bitN xs (place s (8 * xs.length) j) ≠ 0) : hasU xs s k = true := by
  induction k with
  | zero => rfl
  | succ k ih =>
    rw [hasU, ih (fun j hj => h j (by omega))]
    simpa using h k (by omega)
theorem hasU_all (xs : List UInt8) (s : ByteArray) (k : Nat) (h : hasU xs s k = true) (j : Nat) (hj : j < k) : bitN xs (place s (8 * xs.length) j) ≠ 0 := by
  induction k with
  | zero => omega
  | succ k ih =>
    rw [hasU, Bool.and_eq_true] at h
    by_cases e : j = k
    · subst e; simpa using h.2
    · exact ih h.1 (by omega)
theorem hasU_mono {xs ys : List UInt8} (h : Le xs ys) (s : ByteArray) (k : Nat) (hx : hasU xs s k = true) : hasU ys s k = true := by
  refine hasU_of ys s k fun j hj => ?_
  have := hasU_all xs s k hx j hj
  rw [← h.len, bitN_ne]
  exact h.bit _ _ ((bitN_ne _ _).1 this)
theorem hasU_setU (xs : List UInt8) (s : ByteArray) (m : Nat) (hn : 0 < xs.length) : hasU (setU xs s m) s m = true := by
  refine hasU_of _ s m fun j hj => ?_
  rw [setU_length]
  have hp : place s (8 * xs.length) j < 8 * xs.length := Nat.mod_lt _ (by omega)
  have h1 : bitN (setU xs s (j + 1)) (place s (8 * xs.length) j) ≠ 0 := by
    rw [setU]
    exact bit_setB _ _ (by rw [setU_length]; exact hp)
  have h2 := Le.setU xs s (j + 1) (m - (j + 1))
  rw [show j + 1 + (m - (j + 1)) = m by omega] at h2
  rw [bitN_ne]
  exact h2.bit _ _ ((bitN_ne _ _).1 h1)
theorem hasU_setAll (m : Nat) (ss : List ByteArray) (s : ByteArray) (hs : s ∈ ss) (xs : List UInt8) (hn : 0 < xs.length) : hasU (setAll m xs ss) s m = true := by
  induction ss generalizing xs with
  | nil => cases hs
  | cons t r ih =>
    rw [setAll]
    rcases List.mem_cons.1 hs with rfl | h
    · exact hasU_mono (Le.setAll m r _) s m (hasU_setU xs s m hn)
    · exact ih h _ (by rw [setU_length]; exact hn)
theorem has_made (each : Int) (ss : List ByteArray) (s : ByteArray) (hs : s ∈ ss) (hok : makeOk each ss.length) (ys : List UInt8) (hle : Le (makeX each ss) ys) : hasB (makeK each ss.length) ys s = true ∧ encE (makeK each ss.length) ys.length = 0 ∧ ys.length ≤ 8192 := by
  have hk : makeK each ss.length = (makeM each.toNat : Int) := by rw [makeK, if_pos hok]
  have hX : makeX each ss = setAll (makeM each.toNat) (List.replicate (makeN each.toNat ss.length) 0) ss := by rw [makeX, if_pos hok]
  obtain ⟨h1, h2, h3⟩ := hok
  have hM : 1 ≤ makeM each.toNat ∧ makeM each.toNat ≤ 8 := by unfold makeM; omega
  have hne : ss.length * each.toNat ≤ 65536 := Nat.le_trans (Nat.mul_le_mul h3 (show each.toNat ≤ 16 by omega)) (by decide)
  have hN : 1 ≤ makeN each.toNat ss.length ∧ makeN each.toNat ss.length ≤ 8192 := by
    unfold makeN
    generalize ss.length * each.toNat = q at *
    omega
  have hlen : ys.length = makeN each.toNat ss.length := by rw [← hle.len, hX, setAll_length, List.length_replicate]
  have hok2 : okF (makeM each.toNat : Int) ys.length := by rw [hlen]; exact ⟨by omega, by omega, by omega, by omega⟩
  refine ⟨?_, by rw [hk, encE, if_pos hok2], by omega⟩
  rw [hk, hasB, decide_eq_true hok2, Bool.true_and, Int.toNat_natCast]
  rw [hX] at hle
  exact hasU_mono hle s _ (hasU_setAll _ ss s hs _ (by rw [List.length_replicate]; omega))
end Go.Proofs.Ytefcepjffeiaoaa.Bl
end
