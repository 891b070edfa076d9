/- What the law WalNumbers reaches besides, and its walk. -/
import Derived.Test.YtebefonohemlfaaPWAx
import Derived.Test.YtebefonohemlfaaMgA

section
/- Wal: may a batch be; batches copied and compared: the printed contracts, told over. -/
namespace Go.Proofs.Ytebefonohemlfaa
open Go.RowKit Go.Proofs.YtebefonohemlfaaW.PrintWords
set_option linter.unusedVariables false

def mkC (c : Chg) : PWA.S35 := ⟨c.1, c.2.1, c.2.2⟩
def ofC (s : PWA.S35) : Chg := (s.f0, s.f1, s.f2)
theorem ofC_mk (l : List Chg) : (l.map mkC).map ofC = l := by rw [List.map_map]; exact List.map_id l
theorem mkC_K {w : World} {c : Chg} {cs : List Value} (h : kChg.K w c cs) : PWA.k35.K w (mkC c) cs := h
theorem RdC.mk {w : World} {A : Option Addr} {c : Nat} {l : List Chg} (h : RdC w A c l) : Rd PWA.k35 w A c (l.map mkC) := Rd_map (d := kChg) (d' := PWA.k35) rfl mkC (fun x cs h => mkC_K h) h
theorem OwC.of {w : World} {base : Nat} {v : Value} {l : List PWA.S35} (h : PWA.k35.R 35 w base (fun _ => True) v l) : OwC w base v (l.map ofC) := R_map (d := PWA.k35) (d' := kChg) rfl ofC (fun _ _ _ _ _ h => h) h
/-- may a change be -/
theorem check_ev' (a : ByteArray) (d : Bool) (b : ByteArray) : Ev (fun k => PWA.wal_check.f k a d b) (chkC (a, d, b)) := by
  refine Ev.now' fun k => ?_
  simp only [PWA.wal_check.f, PWA.wal_check.j0, toList_nil, if_true, chkC, decide_eq_true_eq]
  generalize a.size = n
  generalize b.size = m
  cases d
  all_goals simp only [true_and, false_and, Bool.false_eq_true, if_true, if_false, ne_eq]
  all_goals (repeat' split)
  all_goals first | rfl | omega
theorem check_ev (c : Chg) : Ev (fun k => PWA.wal_check.f k (mkC c).f0 (mkC c).f1 (mkC c).f2) (chkC c) := check_ev' c.1 c.2.1 c.2.2
theorem Check_l0 (l : List Chg) (hl : l.length ≤ 9223372036854775806) : ∀ d i, l.length - i = d → i ≤ l.length → Ev (fun k => PWA.wal_Check.l0 k (l.map mkC) (((l.map mkC).length : Nat) : Int) (i : Int)) (chkL (l.drop i)) := by
  intro d
  induction d with
  | zero =>
    intro i hd hi
    obtain rfl : i = l.length := by omega
    refine Ev.now' fun k => ?_
    rw [drop_all, PWA.wal_Check.l0, if_neg (by rw [List.length_map]; omega)]
    rfl
  | succ d ih =>
    intro i hd hi
    have hlt : i < l.length := by omega
    have h1 := ih (i + 1) (by omega) (by omega)
    have h2 := check_ev (l.getD i zChg)
    rw [drop_get l zChg i hlt, chkL]
    refine Ev.step (f := fun k => (PWA.wal_check.f k (mkC (l.getD i zChg)).f0 (mkC (l.getD i zChg)).f1 (mkC (l.getD i zChg)).f2).bind fun t => if t = 0 then PWA.wal_Check.l0 k (l.map mkC) (((l.map mkC).length : Nat) : Int) (((i + 1 : Nat) : Int)) else some t) (fun k => ?_) ?_
    · rw [PWA.wal_Check.l0, if_pos (by rw [List.length_map]; omega), if_pos (by omega), if_pos (by rw [List.length_map]; omega), wrap64_succ i (by omega)]
      simp only [PWA.rd_T35, Int.toNat_natCast]
      rw [rd_map mkC l zChg _ i hlt]
    · refine Ev.bind h2 ?_
      by_cases h0 : chkC (l.getD i zChg) = 0
      · simp only [h0, if_true]
        exact h1
      · simp only [h0, if_false]
        exact Ev.now _
theorem Check_ev (q : Int) (l : List Chg) (hl : l.length ≤ 9223372036854775806) : Ev (fun k => PWA.wal_Check.f k q (l.map mkC)) (chkB q l) := by
  obtain ⟨K, hK⟩ := Check_l0 l hl _ 0 rfl (Nat.zero_le _)
  refine ⟨K + 2, fun k hk => ?_⟩
  obtain ⟨j, rfl⟩ : ∃ j, k = j + 2 := ⟨k - 2, by omega⟩
  have hj0 := hK j (by omega)
  simp only [List.drop_zero, List.length_map] at hj0
  have hj : PWA.wal_Check.l0 j (l.map mkC) (l.length : Int) 0 = some (chkL l) := hj0
  simp only [PWA.wal_Check.f, PWA.wal_Check.j0, PWA.wal_Check.j1, chkB, if_true, List.length_map, decide_eq_true_eq]
  rw [hj]
  generalize chkL l = z
  generalize l.length = n
  repeat' split
  all_goals first | rfl | omega
theorem Check_any (q : Int) (A : Option Addr) (c n : Nat) (l : List Chg) (w : World) (hn : l.length = n) (hr : RdC w A c l) (hl : l.length ≤ 9223372036854775806) :
    Calls Try.prog 26 #[.agg #[.int .i64 q, .slice A n c]] w fun e w' => e = .returned (.int .i64 (chkB q l)) ∧ Below w.heap.size w w' := by
  subst hn
  obtain ⟨k, hk⟩ := (Check_ev q l hl).rounds
  have h := PWA.wal_Check.calls k q A c (l.map mkC) (chkB q l) w hr.mk.2 hr.mk.1 hk
  rw [List.length_map] at h
  exact h
/-- the reference's -/
theorem rStep (j : Nat) (i q : Int) (L : List PWA.S35) (a : ByteArray) (d : Bool) (b : ByteArray) :
    (if (a.size : Int) < 1 then PWA.ticklerref06_Check.j2 (j + 1) i true q L a d b else PWA.ticklerref06_Check.j2 (j + 1) i (decide ((a.size : Int) > 96)) q L a d b) = if chkC (a, d, b) = 0 then PWA.ticklerref06_Check.l0 j (wrap64 (i + 1)) q L else some (chkC (a, d, b)) := by
  simp only [PWA.ticklerref06_Check.j2, toList_nil, if_true, chkC, decide_eq_true_eq]
  generalize a.size = n
  generalize b.size = m
  cases d
  all_goals simp only [true_and, false_and, Bool.false_eq_true, if_true, if_false, ne_eq]
  all_goals (repeat' split)
  all_goals first | rfl | omega
theorem rCheck_l0 (q : Int) (l : List Chg) (hl : l.length ≤ 9223372036854775806) : ∀ d i, l.length - i = d → i ≤ l.length → Ev (fun k => PWA.ticklerref06_Check.l0 k (i : Int) q (l.map mkC)) (chkL (l.drop i)) := by
  intro d
  induction d with
  | zero =>
    intro i hd hi
    obtain rfl : i = l.length := by omega
    refine Ev.now' fun k => ?_
    rw [drop_all, PWA.ticklerref06_Check.l0, if_neg (by rw [List.length_map]; omega)]
    rfl
  | succ d ih =>
    intro i hd hi
    have hlt : i < l.length := by omega
    obtain ⟨K, hK⟩ := ih (i + 1) (by omega) (by omega)
    rw [drop_get l zChg i hlt, chkL]
    refine ⟨K + 2, fun k hk => ?_⟩
    obtain ⟨j, rfl⟩ : ∃ j, k = j + 2 := ⟨k - 2, by omega⟩
    have hj := hK j (by omega)
    have hg : PWA.rd_T35 (l.map mkC) (i : Int) = mkC (l.getD i zChg) := by
      simp only [PWA.rd_T35, Int.toNat_natCast]
      exact rd_map mkC l zChg _ i hlt
    show PWA.ticklerref06_Check.l0 (j + 2) (i : Int) q (l.map mkC) = _
    rw [PWA.ticklerref06_Check.l0, if_pos (by rw [List.length_map]; omega), if_pos (by omega), hg]
    refine (rStep j (i : Int) q (l.map mkC) (l.getD i zChg).1 (l.getD i zChg).2.1 (l.getD i zChg).2.2).trans ?_
    rw [wrap64_succ i (by omega)]
    by_cases h0 : chkC (l.getD i zChg) = 0
    · rw [if_pos h0, if_pos h0]
      exact hj
    · rw [if_neg h0, if_neg h0]
theorem rCheck_ev (q : Int) (l : List Chg) (hl : l.length ≤ 9223372036854775806) : Ev (fun k => PWA.ticklerref06_Check.f k q (l.map mkC)) (chkB q l) := by
  obtain ⟨K, hK⟩ := rCheck_l0 q l hl _ 0 rfl (Nat.zero_le _)
  refine ⟨K + 1, fun k hk => ?_⟩
  obtain ⟨j, rfl⟩ : ∃ j, k = j + 1 := ⟨k - 1, by omega⟩
  have hj0 := hK j (by omega)
  simp only [List.drop_zero] at hj0
  have hj : PWA.ticklerref06_Check.l0 j 0 q (l.map mkC) = some (chkL l) := hj0
  simp only [PWA.ticklerref06_Check.f, PWA.ticklerref06_Check.j0, chkB, if_true, List.length_map, decide_eq_true_eq]
  rw [hj]
  generalize chkL l = z
  generalize l.length = n
  repeat' split
  all_goals first | rfl | omega
theorem rCheck_any (q : Int) (A : Option Addr) (c n : Nat) (l : List Chg) (w : World) (hn : l.length = n) (hr : RdC w A c l) (hl : l.length ≤ 9223372036854775806) :
    Calls Try.prog 13 #[.agg #[.int .i64 q, .slice A n c]] w fun e w' => e = .returned (.int .i64 (chkB q l)) ∧ Below w.heap.size w w' := by
  subst hn
  obtain ⟨k, hk⟩ := (rCheck_ev q l hl).rounds
  have h := PWA.ticklerref06_Check.calls k q A c (l.map mkC) (chkB q l) w hr.mk.2 hr.mk.1 hk
  rw [List.length_map] at h
  exact h
/-- copies -/
theorem of_any (q : Int) (A : Option Addr) (c n : Nat) (l : List Chg) (w : World) (hn : l.length = n) (hr : RdC w A c l) (hl : l.length * 40 ≤ 140737488351232) :
    Calls Try.prog 11 #[.agg #[.int .i64 q, .slice A n c]] w fun e w' => ∃ A' c', e = .returned (.agg #[.int .i64 q, .slice A' n c']) ∧ OwC w' w.heap.size (.slice A' n c') l ∧ Below w.heap.size w w' := by
  subst hn
  have hf : PWA.ticklerlaw06_of.f q (l.map mkC) = some (q, l.map mkC) := by
    have h3 : ([] : List PWA.S35).length + (l.map mkC).length < 3518437208883 := by rw [List.length_map, List.length_nil]; omega
    rw [PWA.ticklerlaw06_of.f, PWA.ticklerplain_CopyChanges.f, if_pos h3]
    rfl
  have h := PWA.ticklerlaw06_of.calls q A c (l.map mkC) q (l.map mkC) w hr.mk.2 hr.mk.1 hf
  rw [List.length_map] at h
  refine h.mono ?_
  rintro e w' ⟨v, rfl, HO, HB⟩
  have HO' := OwC.of HO
  rw [ofC_mk] at HO'
  obtain ⟨A', c', rfl, _⟩ := HO'.rd
  exact ⟨A', c', rfl, HO', HB⟩
/-- batches are one -/
theorem same_l0 (l : List Chg) (hl : l.length ≤ 9223372036854775806) : ∀ d i, l.length - i = d → i ≤ l.length → Ev (fun k => PWA.ticklerplain_SameChanges.l0 k (l.map mkC) (l.map mkC) (i : Int)) true := by
  intro d
  induction d with
  | zero =>
    intro i hd hi
    obtain rfl : i = l.length := by omega
    refine Ev.now' fun k => ?_
    rw [PWA.ticklerplain_SameChanges.l0, if_neg (by rw [List.length_map]; omega)]
  | succ d ih =>
    intro i hd hi
    have hlt : i < l.length := by omega
    refine Ev.step (fun k => ?_) (ih (i + 1) (by omega) (by omega))
    rw [PWA.ticklerplain_SameChanges.l0, if_pos (by rw [List.length_map]; omega), if_pos (by omega), if_pos (by rw [List.length_map]; omega), if_neg (by simp), wrap64_succ i (by omega)]
theorem same_ev (q : Int) (l : List Chg) (hl : l.length ≤ 9223372036854775806) : Ev (fun k => PWA.ticklerlaw06_same.f k q (l.map mkC) q (l.map mkC)) true := by
  simp only [PWA.ticklerlaw06_same.f, PWA.ticklerplain_SameChanges.f, if_true]
  refine Ev.bind (same_l0 l hl _ 0 rfl (Nat.zero_le _)) (Ev.now _)
theorem same_any (q : Int) (A B : Option Addr) (c d n : Nat) (l : List Chg) (w : World) (hn : l.length = n) (hr : RdC w A c l) (hs : RdC w B d l) (hl : l.length ≤ 9223372036854775806) :
    Calls Try.prog 21 #[.agg #[.int .i64 q, .slice A n c], .agg #[.int .i64 q, .slice B n d]] w fun e w' => e = .returned (.bool true) ∧ Below w.heap.size w w' := by
  subst hn
  obtain ⟨k, hk⟩ := (same_ev q l hl).rounds
  have h := PWA.ticklerlaw06_same.calls k q A c (l.map mkC) q B d (l.map mkC) true w hr.mk.2 hr.mk.1 hs.mk.2 hs.mk.1 hk
  rw [List.length_map] at h
  exact h
/-- rows of batches -/
abbrev Bat := Int × List Chg
def kBat : Kd Bat := Kd.pair kInt (Kd.slice 35 kChg)
def zBat : Bat := (0, [])
def mkB (b : Bat) : PWA.S30 := ⟨b.1, b.2.map mkC⟩
def mkR (b : Bat) : PWA.S24 := ⟨b.1, b.2.map mkC⟩
theorem kBat_K {w : World} {b : Bat} {cs : List Value} (h : kBat.K w b cs) : ∃ A c, cs = [.int .i64 b.1, .slice A b.2.length c] ∧ RdC w A c b.2 := by
  obtain ⟨c0, c1, rfl, h0, A, c, h1, hl, hC⟩ := h
  have h0' : c0 = [.int .i64 b.1] := h0
  subst h0'
  subst h1
  exact ⟨A, c, rfl, hl, hC⟩
theorem kBat_mk {w : World} {q : Int} {l : List Chg} {A : Option Addr} {c : Nat} (h : RdC w A c l) : kBat.K w (q, l) [.int .i64 q, .slice A l.length c] := ⟨[.int .i64 q], [.slice A l.length c], rfl, rfl, A, c, rfl, h.1, h.2⟩
theorem mkB_K {w : World} {b : Bat} {cs : List Value} (h : kBat.K w b cs) : PWA.k30.K w (mkB b) cs := by
  obtain ⟨A, c, rfl, hr⟩ := kBat_K h
  have := hr.mk
  refine ⟨[.int .i64 b.1], [.slice A b.2.length c], rfl, rfl, A, c, ?_, this.1, this.2⟩
  show [Value.slice A b.2.length c] = [Value.slice A (b.2.map mkC).length c]
  rw [List.length_map]
theorem mkR_K {w : World} {b : Bat} {cs : List Value} (h : kBat.K w b cs) : PWA.k24.K w (mkR b) cs := by
  obtain ⟨A, c, rfl, hr⟩ := kBat_K h
  have := hr.mk
  refine ⟨[.int .i64 b.1], [.slice A b.2.length c], rfl, rfl, A, c, ?_, this.1, this.2⟩
  show [Value.slice A b.2.length c] = [Value.slice A (b.2.map mkC).length c]
  rw [List.length_map]
abbrev RdBt := Rd kBat
theorem sameAll_l0 (bs : List Bat) (hl : bs.length ≤ 9223372036854775806) (hb : ∀ b ∈ bs, b.2.length ≤ 9223372036854775806) : ∀ d i, bs.length - i = d → i ≤ bs.length → Ev (fun k => PWA.ticklerlaw06_sameAll.l0 k (bs.map mkB) (bs.map mkR) (i : Int)) true := by
  intro d
  induction d with
  | zero =>
    intro i hd hi
    obtain rfl : i = bs.length := by omega
    refine Ev.now' fun k => ?_
    rw [PWA.ticklerlaw06_sameAll.l0, if_neg (by rw [List.length_map]; omega)]
  | succ d ih =>
    intro i hd hi
    have hlt : i < bs.length := by omega
    have hm : bs.getD i zBat ∈ bs := by
      rw [List.getD_eq_getElem?_getD, List.getElem?_eq_getElem hlt]
      simp
    refine Ev.step (f := fun k => (PWA.ticklerlaw06_same.f k (bs.getD i zBat).1 ((bs.getD i zBat).2.map mkC) (bs.getD i zBat).1 ((bs.getD i zBat).2.map mkC)).bind fun t => if t = true then PWA.ticklerlaw06_sameAll.l0 k (bs.map mkB) (bs.map mkR) (((i + 1 : Nat) : Int)) else some false) (fun k => ?_) ?_
    · rw [PWA.ticklerlaw06_sameAll.l0, if_pos (by rw [List.length_map]; omega), if_pos (by omega), if_pos (by rw [List.length_map]; omega), wrap64_succ i (by omega)]
      simp only [PWA.rd_T30, PWA.rd_T24, Int.toNat_natCast]
      rw [rd_map mkB bs zBat _ i hlt, rd_map mkR bs zBat _ i hlt]
      rfl
    · refine Ev.bind (same_ev _ _ (hb _ hm)) ?_
      simp only [if_true]
      exact ih (i + 1) (by omega) (by omega)
theorem sameAll_any (A B : Option Addr) (c d n : Nat) (bs : List Bat) (w : World) (hn : bs.length = n) (hr : RdBt w A c bs) (hs : RdBt w B d bs) (hl : bs.length ≤ 9223372036854775806) (hb : ∀ b ∈ bs, b.2.length ≤ 9223372036854775806) :
    Calls Try.prog 24 #[.slice A n c, .slice B n d] w fun e w' => e = .returned (.bool true) ∧ Below w.heap.size w w' := by
  subst hn
  have h0 : Ev (fun k => PWA.ticklerlaw06_sameAll.f k (bs.map mkB) (bs.map mkR)) true := by
    simp only [PWA.ticklerlaw06_sameAll.f, List.length_map, if_true]
    exact sameAll_l0 bs hl hb _ 0 rfl (Nat.zero_le _)
  obtain ⟨k, hk⟩ := h0.rounds
  have h1 := Rd_map (d := kBat) (d' := PWA.k30) rfl mkB (fun x cs h => mkB_K h) hr
  have h2 := Rd_map (d := kBat) (d' := PWA.k24) rfl mkR (fun x cs h => mkR_K h) hs
  have h := PWA.ticklerlaw06_sameAll.calls k A c (bs.map mkB) B d (bs.map mkR) true w h1.2 h1.1 h2.2 h2.1 hk
  rw [List.length_map, List.length_map] at h
  exact h
theorem num_any (n : Int) (w : World) : Calls Try.prog 12 #[.int .i64 n] w fun e w' => e = .returned (.int .i64 n) ∧ w = w' := by
  go_enter Try.func12, Try.ntmps12
  go_wp2
  go_ret
  exact ⟨rfl, rfl⟩
end Go.Proofs.Ytebefonohemlfaa
end

section
/- Arguments opened: a batch; batches. -/
namespace Go.Proofs.Ytebefonohemlfaa
open Go.ChangeShapes Go.WideShapes Go.ChangeAt Go.RowKit Go.Proofs.YtebefonohemlfaaW.PrintWords
set_option maxRecDepth 100000
set_option linter.unusedVariables false
set_option maxRecDepth 100000 in
theorem open_bat {H : Type} {enc : TypeId × Value → H} {W : World} {base : Nat} {v : Value} {x : DataW H} {p : List MemPlace} (hv : Value.okWide Try.prog W .any base 24 v)
    (h : DataW.Trod enc Try.prog W 0 (fun _ => true) true 24 v x p) : ∃ q A c l, v = .agg #[.int .i64 q, .slice A l.length c] ∧ RdC W A c l ∧ (∀ B, (∀ y ∈ x.weights Try.prog 24, y ≤ B) → (Lit.int .i64 q).wf = true ∧ l.length * 40 ≤ B) ∧ l.length ≤ Rows.uptoBulk x := by
  have o1 := opens_struct Try.underlying35 (d := kChg) (by kernel_rfl) (opensF_cons rfl (by kernel_rfl) (opens_string Try.underlying9) (opensF_cons rfl (by kernel_rfl) (opens_bool Try.underlying4) (opensF_one rfl (by kernel_rfl) (opens_string Try.underlying9))))
  have o2 := opens_slice (t := 22) Try.underlying22 (by kernel_rfl) o1
  have o3 := opens_struct Try.underlying24 (d := kBat) (by kernel_rfl) (opensF_cons rfl (by kernel_rfl) (opens_int Try.underlying3) (opensF_one rfl (by kernel_rfl) o2))
  obtain ⟨⟨q, l⟩, cs, hv, hk, hS, hU⟩ := open_struct_of Try.underlying24 o3 hv h
  obtain ⟨A, c, hcs, hr⟩ := kBat_K hk
  refine ⟨q, A, c, l, ?_, hr, fun B hB => ?_, ?_⟩
  · rw [hv]
    congr 1
    apply Array.ext'
    exact hcs
  · obtain ⟨h1, h2, h3⟩ := hS B hB
    have e : Try.prog.bytesOf 35 = 40 := by kernel_rfl
    rw [e] at h2
    exact ⟨h1, h2⟩
  · have h1 : ∀ m : List Chg, m.length ≤ (m.map fun a : Chg => a.1.size + 1 + (1 + (a.2.2.size + 1)) + 1).sum := by
      intro m
      induction m with
      | nil => simp
      | cons y r ih => simp only [List.length_cons, List.map_cons, List.sum_cons]; omega
    have h2 := h1 l
    simp only at hU
    omega
end Go.Proofs.Ytebefonohemlfaa
end

section
/- A text's octets appended; worlds that grew, one behind the other. -/
namespace Go.Proofs.Ytebefonohemlfaa
open Go.RowKit Go.Proofs.YtebefonohemlfaaW.PrintWords
set_option linter.unusedVariables false

theorem nums_eu8 (xs : List UInt8) : nums .u8 (xs.map fun b => (b.toNat : Int)) = encs eu8 xs := by
  simp only [nums, encs, List.map_map]
  rfl
theorem bytesOf_bl (s : ByteArray) : bytesOf s = (bl s).map fun b => (b.toNat : Int) := rfl
section
variable {ops : Array Oper} {rest : List Oper} {o : Oper} {a : Act} {Q : Exit → Act → World → Prop}
theorem app_str {w0 W : World} (base : Nat) (hgd : o.guard = none) (s x : Operand)
    (ho : o.op = .call { callee := .builtin .append, args := #[s, x], argTypes := #[39, 9] })
    (v : Value) (xs : List UInt8) (y : ByteArray) (hs : a.eval s = v) (hx : a.eval x = .string y)
    (HO : OwB W base v xs) (HB : Below base w0 W) (hbase : base ≤ W.heap.size) (hl : xs.length + y.size ≤ 140737488355328)
    (h : ∀ v1 w1, OwB w1 base v1 (xs ++ bl y) → Below base w0 w1 → W.grownBy w1 v.ownBlock → wpList Try.prog ops Q rest (a.put o.dst v1) w1) :
    wpList Try.prog ops Q (o :: rest) a W := by
  refine print_append_str (w0 := w0) base hgd s x 39 9 5 ho Try.underlying39 Try.underlying9 info_u8 v (xs.map fun b => (b.toNat : Int)) y hs hx ?_ HB hbase (by rw [List.length_map]; exact hl) ?_
  · rw [nums_eu8, List.length_map]
    exact HO
  · intro v1 w1 h1 h2 h3
    refine h v1 w1 ?_ h2 h3
    rw [bytesOf_bl, ← List.map_append, nums_eu8, List.length_map] at h1
    exact h1
end
theorem grown_then {w w1 w2 : World} {row row2 : Option Nat} (h : w.grownBy w1 row) (k : w1.grownBy w2 row2) (hr : row2 = row ∨ ∃ b, row2 = some b ∧ w.heap.size ≤ b) : w.grownBy w2 row :=
  ⟨k.os.trans h.os, k.tape.trans h.tape, k.output.trans h.output, Nat.le_trans h.size k.size, fun i hi hne => (k.block i (Nat.lt_of_lt_of_le hi h.size) (by
    rcases hr with rfl | ⟨b, rfl, hb⟩
    · exact hne
    · intro e
      injection e with e
      omega)).trans (h.block i hi hne)⟩
theorem below_grown {w w1 w2 : World} {row : Option Nat} (h : Below w.heap.size w w1) (k : w1.grownBy w2 row) : w.grownBy w2 row := grown_then (grown_of_below h row) k (.inl rfl)
end Go.Proofs.Ytebefonohemlfaa
end

section
/- Wal: a text as octets: the walk of text. -/
namespace Go.Proofs.Ytebefonohemlfaa
open Go.RowKit Go.Proofs.YtebefonohemlfaaW.PrintWords
set_option linter.unusedVariables false

set_option maxRecDepth 100000 in
set_option maxHeartbeats 800000 in
/-- text: appended to octets of the call's own or its caller's -/
theorem text_any (base0 : Nat) (v : Value) (xs : List UInt8) (s : ByteArray) (w w0 : World) (HO : OwB w base0 v xs) (hs : s.size ≤ 1000000) (hl : xs.length ≤ 1000000) (HB : Below base0 w0 w) (hb : base0 ≤ w.heap.size) :
    Calls Try.prog 34 #[v, .string s] w fun e w' => ∃ v1, e = .returned v1 ∧ OwB w' base0 v1 (xs ++ encT s) ∧ Below base0 w0 w' ∧ w.grownBy w' v.ownBlock := by
  obtain ⟨n, hn⟩ : ∃ n, s.size = n := ⟨_, rfl⟩
  have hP := fun W => Put_any n (by omega) W
  have hpl := put_length n
  have hvs := vsize_le n
  have hE : xs ++ encT s = (xs ++ put n) ++ bl s := by rw [encT, hn, List.append_assoc]
  have HE := hide hE
  obtain ⟨p, hp⟩ : ∃ p, put n = p := ⟨_, rfl⟩
  rw [hp] at hP hpl HE
  have hpl2 : xs.length + p.length ≤ 140737488355328 := by omega
  have hpl3 : (xs ++ p).length + s.size ≤ 140737488355328 := by rw [List.length_append]; omega
  have HPL := hide hpl2
  have HPL3 := hide hpl3
  have hw3 : IntKind.u64.wrap (n : Int) = (n : Int) := by rw [IntKind.wrap_u64]; omega
  obtain ⟨q, hq⟩ : ∃ q, p.length = q := ⟨_, rfl⟩
  have HQ := hide hq
  clear hE hp hpl2 hpl3 hq hpl
  go_enter Try.func34, Try.ntmps34
  go_wp2_with (first | (go_at_call 33; (with_reducible refine (hP _).mono ?_); rintro e w1 ⟨v1, rfl, HO1, HB1⟩; obtain ⟨A1, c1, hv1, hr1⟩ := HO1.rd; rw [HQ.out] at hv1; subst hv1; have HO2 := HO.below HB1; have HB2 := HB.trans (HB1.mono hb)) | (at_builtin; refine app_row (w0 := w0) base0 rfl (.tmp 5) (.tmp 9) rfl v xs p A1 c1 (by rfl) (by rw [HQ.out]; rfl) HO2 hr1 HB2 (Nat.le_trans hb HB1.size) HPL.out ?_; intro v3 w3 HO3 HB3 hg3 hat3) | (at_builtin; refine app_str (w0 := w0) base0 rfl (.tmp 10) (.tmp 11) rfl v3 (xs ++ p) s (by rfl) (by rfl) HO3 HB3 (Nat.le_trans hb (Nat.le_trans HB1.size hg3.size)) HPL3.out ?_; intro v4 w4 HO4 HB4 hg4))
  go_ret
  rw [← HE.out] at HO4
  exact ⟨_, rfl, HO4, HB4, grown_then (below_grown HB1 hg3) hg4 (by
    rcases hat3 with h | ⟨b, h1, h2⟩
    · exact .inl h
    · exact .inr ⟨b, h1, Nat.le_trans HB1.size h2⟩)⟩
end Go.Proofs.Ytebefonohemlfaa
end

section
/- Wal: the walk of Encode. -/
namespace Go.Proofs.Ytebefonohemlfaa
open Go.RowKit Go.Proofs.YtebefonohemlfaaW.PrintWords
set_option linter.unusedVariables false

theorem lit1 (W : World) (x : UInt8) (y : Int) (h : y = (x.toNat : Int)) : RdB (W.alloc (.cells #[.int .u8 y] 5)) (some ⟨W.heap.size, 0, none⟩) 1 [x] := by
  subst h
  exact RdB_lit [x] W #[.int .u8 (x.toNat : Int)] 5 (0, 0) _ rfl rfl (by simp)
/-- a change in a variable just laid -/
def Cb (w : World) (g : Nat) (c : Chg) : Prop := w.heap[g]? = some (.cells #[.string c.1, .bool c.2.1, .string c.2.2] 35 (0, 0))
theorem Cb.new (w : World) (c : Chg) : Cb (w.alloc (.cells #[.string c.1, .bool c.2.1, .string c.2.2] 35)) w.heap.size c := heap_alloc_new w _
theorem Cb.read {w : World} {g : Nat} {c : Chg} (h : Cb w g c) : w.cell? ⟨g, 0, none⟩ = some (.string c.1) ∧ w.cell? ⟨g, 1, none⟩ = some (.bool c.2.1) ∧ w.cell? ⟨g, 2, none⟩ = some (.string c.2.2) := ⟨blk_cell h 0, blk_cell h 1, blk_cell h 2⟩
theorem Cb.grown {w w1 : World} {g : Nat} {c : Chg} {base : Nat} {v : Value} {xs : List UInt8} (h : Cb w g c) (HO : OwB w base v xs) (hg : w.grownBy w1 v.ownBlock) : Cb w1 g c := blk_grown h hg (own_ne HO h (by decide))
theorem encCs_take (l : List Chg) (k : Nat) (h : k < l.length) : encCs (l.take (k + 1)) = encCs (l.take k) ++ encC (l.getD k zChg) := by
  have e : l.getD k zChg = l[k] := by rw [List.getD_eq_getElem?_getD, List.getElem?_eq_getElem h]; rfl
  rw [List.take_succ_eq_append_getElem h, encCs_snoc, e]
theorem encCs_take_len (l : List Chg) (k : Nat) (h : ∀ c ∈ l, chkC c = 0) (h64 : l.length ≤ 64) : (encCs (l.take k)).length ≤ 40128 := by
  have h1 := encCs_length (l.take k) (fun c hc => h c (List.mem_of_mem_take hc))
  have h2 : (l.take k).length ≤ l.length := List.length_take_le' _ _
  omega
set_option maxRecDepth 100000 in
set_option maxHeartbeats 3200000 in
theorem Encode_ok (q : Int) (A : Option Addr) (c : Nat) (l : List Chg) (w : World) (hr : RdC w A c l) (hk : chkB q l = 0) :
    Calls Try.prog 19 #[.agg #[.int .i64 q, .slice A l.length c]] w fun e w' => ∃ v, e = .returned (.tuple #[v, .int .i64 0]) ∧ OwB w' w.heap.size v (encB q l) ∧ Below w.heap.size w w' := by
  obtain ⟨q1, q2, h1, h64, hall⟩ := chkB_ok q l hk
  have hCk := fun W (h : RdC W A c l) => Check_any q A c l.length l W rfl h (by omega)
  rw [hk] at hCk
  obtain ⟨qn, rfl⟩ : ∃ qn : Nat, q = (qn : Int) := ⟨q.toNat, by omega⟩
  have hP1 := fun W => Put_any qn (by omega) W
  have hP2 := fun W => Put_any l.length (by omega) W
  have hpl1 := put_length qn
  have hpl2 := put_length l.length
  have hv1 := vsize_le qn
  have hv2 := vsize_le l.length
  have hE : encB (qn : Int) l = (put qn ++ put l.length) ++ encCs l := by rw [encB, Int.toNat_natCast]
  have HE := hide hE
  have HT := hide (encCs_take l)
  have HTL := hide (fun k => encCs_take_len l k hall h64)
  have HALL := hide hall
  obtain ⟨n, hn⟩ : ∃ n, l.length = n := ⟨_, rfl⟩
  have HN := hide hn
  rw [hn] at hCk hP2 HE h1 h64 hpl2 hv2 ⊢
  obtain ⟨p1, hp1⟩ : ∃ p, put qn = p := ⟨_, rfl⟩
  obtain ⟨p2, hp2⟩ : ∃ p, put n = p := ⟨_, rfl⟩
  rw [hp1] at hP1 HE hpl1
  rw [hp2] at hP2 HE hpl2
  obtain ⟨m1, hm1⟩ : ∃ m, p1.length = m := ⟨_, rfl⟩
  obtain ⟨m2, hm2⟩ : ∃ m, p2.length = m := ⟨_, rfl⟩
  have hm1l : m1 ≤ 9 := by omega
  have hm2l : m2 ≤ 9 := by omega
  have HM1 := hide hm1
  have HM2 := hide hm2
  have hw1 : IntKind.u64.wrap (qn : Int) = (qn : Int) := by rw [IntKind.wrap_u64]; omega
  have hw2 : IntKind.u64.wrap (n : Int) = (n : Int) := by rw [IntKind.wrap_u64]; omega
  have hm := hr.max
  rw [hn] at hm
  clear hk hE hn hp1 hp2 hpl1 hpl2 hm1 hm2 hall hv1 hv2 q1
  have hr0 := hr.below (below_alloc w (.cells #[.int .i64 (qn : Int), .slice A n c] 30))
  have X0 := Bx.new w (qn : Int) (.slice A n c) 30
  have B0 := below_alloc w (.cells #[.int .i64 (qn : Int), .slice A n c] 30)
  obtain ⟨p0, p1', p2', p3⟩ := X0.read
  go_enter Try.func19, Try.ntmps19
  go_wp2_with (first | (go_at_call 26; (with_reducible refine (hCk _ hr0).mono ?_); rintro e w1 ⟨rfl, HB1⟩; have X1 := X0.below HB1; have B1 := B0.trans (HB1.mono B0.size); have hr1 := hr0.below HB1; obtain ⟨s0, s1, s2, s3⟩ := X1.read))
  have hS0 : Below w1.heap.size w1 w1.drew ∧ w1.drew.cell? ⟨w.heap.size, 0, none⟩ = some (.int .i64 (qn : Int)) ∧ w1.drew.cell? ⟨w.heap.size, 1, none⟩ = some (.slice A n c) := ⟨(Below.refl _ _).drew, s0, s1⟩
  have hSk : ∀ W, Below w1.heap.size w1 W → W.cell? ⟨w.heap.size, 0, none⟩ = some (.int .i64 (qn : Int)) ∧ W.cell? ⟨w.heap.size, 1, none⟩ = some (.slice A n c) := fun W h => ⟨(h.cell (World.block_lt_of_cell? w1 _ s0)).trans s0, (h.cell (World.block_lt_of_cell? w1 _ s1)).trans s1⟩
  have hsz1 := B1.size
  go_region_held3 (fun w' => Below w1.heap.size w1 w' ∧ w'.cell? ⟨w.heap.size, 0, none⟩ = some (.int .i64 (qn : Int)) ∧ w'.cell? ⟨w.heap.size, 1, none⟩ = some (.slice A n c)) (first | exact hS0 | assumption | exact ⟨HBt4, hSk _ HBt4⟩ | exact ⟨HBt3, hSk _ HBt3⟩ | exact ⟨HBt2, hSk _ HBt2⟩ | (have hh := ‹Below w1.heap.size w1 _ ∧ _ ∧ _›; exact ⟨hh.1.alloc hh.1.size _, hSk _ (hh.1.alloc hh.1.size _)⟩)) (first | (go_at_call 33; have hh := ‹Below w1.heap.size w1 _ ∧ _ ∧ _›; (with_reducible refine (hP1 _).mono ?_); rintro e w2 ⟨v2, rfl, HO2, HB2⟩; have HBt2 := hh.1.trans (HB2.mono hh.1.size); obtain ⟨A2, c2, hv2, hr2⟩ := HO2.rd; rw [HM1.out] at hv2; subst hv2) | (go_at_call 33; (with_reducible refine (hP2 _).mono ?_); rintro e w3 ⟨v3, rfl, HO3, HB3⟩; have HBt3 := HBt2.trans (HB3.mono HBt2.size); obtain ⟨A3, c3, hv3, hr3⟩ := HO3.rd; rw [HM2.out] at hv3; subst hv3; replace hr2 := hr2.below HB3) | (go_at_call 29; (with_reducible refine (Concat_two A2 A3 c2 c3 m1 m2 _ p1 p2 w3 rfl hr2 hr3 HM1.out HM2.out (by rw [HM1.out, HM2.out]; omega)).mono ?_); rintro e w4 ⟨v4, rfl, HO4, HB4⟩; have HBt4 := HBt3.trans (HB4.mono HBt3.size); replace HO4 := HO4.lower HBt3.size))
  all_goals (
    have B4 := B1.trans (HBt4.mono hsz1)
    have HO4' := HO4.lower hsz1
    have hr4 := hr1.below HBt4
    have h0l : (p1 ++ p2) = (p1 ++ p2) ++ encCs (l.take 0) := (by simp [encCs])
    rw [h0l] at HO4'
    obtain ⟨t0, t1⟩ := hSk _ HBt4
    have hplen : (p1 ++ p2).length ≤ 18 := by rw [List.length_append, HM1.out, HM2.out]; omega
    clear h0l hSk hS0 p0 p1' p2' p3 s0 s1 s2 s3 X1 X0 hr0 hP1 hP2 hCk hw1 hw2 hr2 hr3 HO2 HO3 HB2 HB3 HB4 HO4 HBt2 HBt3 hh q2 HM1 HM2
    generalize p1 ++ p2 = pp at *)
  all_goals (
    go_wp2
    go_loopw [5, 27] (fun out i wr => ∃ k : Nat, k ≤ n ∧ i = .int .i64 (k : Int) ∧ OwB wr w.heap.size out (pp ++ encCs (l.take k)) ∧ Below w.heap.size w wr) (fun _ i _ => n - (intOf i).toNat)
    case atStart => exact ⟨0, by omega, rfl, HO4', B4⟩
    case round =>
      obtain ⟨k, hk, rfl, HO, HB⟩ := hrel
      have hEl := HTL.out k
      have hxl : (pp ++ encCs (l.take k)).length ≤ 40200 := by rw [List.length_append]; omega
      by_cases hlt : k < n
      · have hlti : (k : Int) < (n : Int) := by omega
        obtain ⟨ad, rfl, e0, e1, e2⟩ := RdC.at3 (hr.below HB) k (by rw [HN.out]; exact hlt)
        have hTk := HT.out k (by rw [HN.out]; exact hlt)
        have hck := HALL.out (l.getD k zChg) (by rw [List.getD_eq_getElem?_getD, List.getElem?_eq_getElem (by rw [HN.out]; exact hlt)]; exact List.getElem_mem _)
        generalize l.getD k zChg = x at *
        obtain ⟨key, del, val⟩ := x
        obtain ⟨c1', c2', c3', c4'⟩ := chkC_ok _ hck
        simp only at e0 e1 e2 c1' c2' c3' c4'
        have X1 : Cb (wr.alloc (.cells #[.string key, .bool del, .string val] 35)) wr.heap.size (key, del, val) := Cb.new wr (key, del, val)
        have b1 := below_alloc wr (.cells #[.string key, .bool del, .string val] 35)
        have HB1 := HB.trans (b1.mono HB.size)
        have HO1 := HO.below b1
        obtain ⟨x0, x1, x2⟩ := X1.read
        simp only at x0 x1 x2
        have hTx := fun v xs s W h h1 h2 h3 h4 => text_any w.heap.size v xs s W w h h1 h2 h3 h4
        have hz1 := HB1.size
        generalize encCs (l.take k) = pre at *
        cases del with
        | true =>
          have hx1 : encC (key, true, val) = [2] ++ encT key := by simp [encC]
          have HTk : Hid (pp ++ encCs (l.take (k + 1)) = ((pp ++ pre) ++ [2]) ++ encT key) := by rw [hTk, hx1]; exact hide (by simp only [List.append_assoc])
          clear hTk hx1 hck
          go_wp2
          generalize wr.alloc (.cells #[.string key, .bool true, .string val] 35) = W1 at *
          have hS0 : Cb W1.drew wr.heap.size (key, true, val) ∧ W1.drew.cell? ⟨wr.heap.size, 0, none⟩ = some (.string key) := ⟨X1, x0⟩
          have hSk : ∀ W, Cb W wr.heap.size (key, true, val) → Cb W wr.heap.size (key, true, val) ∧ W.cell? ⟨wr.heap.size, 0, none⟩ = some (.string key) := fun W h => ⟨h, h.read.1⟩
          have HO2 : OwB (W1.alloc (.cells #[.int .u8 2] 5)).drew w.heap.size u5 (pp ++ pre) := (HO1.below (below_alloc _ _)).below (Below.refl _ _).drew
          have HR2 : RdB (W1.alloc (.cells #[.int .u8 2] 5)).drew (some ⟨W1.heap.size, 0, none⟩) 1 [2] := (lit1 W1 2 2 rfl).below (Below.refl _ _).drew
          have HB2 : Below w.heap.size w (W1.alloc (.cells #[.int .u8 2] 5)).drew := (HB1.alloc HB1.size _).drew
          have X2 : Cb (W1.alloc (.cells #[.int .u8 2] 5)).drew wr.heap.size (key, true, val) := blk_alloc X1 _
          have hl2 : (pp ++ pre).length + [(2 : UInt8)].length ≤ 140737488355328 := by simp only [List.length_singleton]; omega
          have HL2 := hide hl2
          have hl3 : ((pp ++ pre) ++ [(2 : UInt8)]).length ≤ 1000000 := by rw [List.length_append]; simp only [List.length_singleton]; omega
          have HL3 := hide hl3
          have hks : key.size ≤ 1000000 := by omega
          clear hl2 hl3
          go_region_held3 (fun w' => Cb w' wr.heap.size (key, true, val) ∧ w'.cell? ⟨wr.heap.size, 0, none⟩ = some (.string key)) (first | exact hS0 | assumption | exact hSk _ X6 | exact hSk _ X5 | (have hh := ‹Cb _ wr.heap.size _ ∧ _›; exact hSk _ (blk_alloc hh.1 _))) (first | ((refine step_row (w0 := w) (W := (W1.alloc (.cells #[.int .u8 2] 5)).drew) w.heap.size (by rfl) (.tmp 33) (.tmp 34) rfl u5 (pp ++ pre) [2] _ 1 (by rfl) (by rfl) HO2 HR2 HB2 HB2.size HL2.out ?_; intro v5 w5 HO5 HB5 hg5; have X5 := X2.grown HO2 hg5)) | (go_at_call 34; (with_reducible refine (hTx _ _ _ _ HO5 hks HL3.out HB5 HB5.size).mono ?_); rintro e w6 ⟨v6, rfl, HO6, HB6, hg6⟩; have X6 := X5.grown HO5 hg6))
          go_wp2
          go_roundw
          case rel => exact ⟨k + 1, by omega, by go_num, by rw [HTk.out]; exact HO6, HB6⟩
          case measure => simp [intOf]; omega
        | false =>
          have hx1 : encC (key, false, val) = [1] ++ (encT key ++ encT val) := by simp [encC]
          have HTk : Hid (pp ++ encCs (l.take (k + 1)) = (((pp ++ pre) ++ [1]) ++ encT key) ++ encT val) := by rw [hTk, hx1]; exact hide (by simp only [List.append_assoc])
          clear hTk hx1 hck
          go_wp2
          generalize wr.alloc (.cells #[.string key, .bool false, .string val] 35) = W1 at *
          have hS0 : Cb W1.drew wr.heap.size (key, false, val) ∧ W1.drew.cell? ⟨wr.heap.size, 0, none⟩ = some (.string key) ∧ W1.drew.cell? ⟨wr.heap.size, 2, none⟩ = some (.string val) := ⟨X1, x0, x2⟩
          have hSk : ∀ W, Cb W wr.heap.size (key, false, val) → Cb W wr.heap.size (key, false, val) ∧ W.cell? ⟨wr.heap.size, 0, none⟩ = some (.string key) ∧ W.cell? ⟨wr.heap.size, 2, none⟩ = some (.string val) := fun W h => ⟨h, h.read.1, h.read.2.2⟩
          have HO2 : OwB (W1.alloc (.cells #[.int .u8 1] 5)).drew w.heap.size u5 (pp ++ pre) := (HO1.below (below_alloc _ _)).below (Below.refl _ _).drew
          have HR2 : RdB (W1.alloc (.cells #[.int .u8 1] 5)).drew (some ⟨W1.heap.size, 0, none⟩) 1 [1] := (lit1 W1 1 1 rfl).below (Below.refl _ _).drew
          have HB2 : Below w.heap.size w (W1.alloc (.cells #[.int .u8 1] 5)).drew := (HB1.alloc HB1.size _).drew
          have X2 : Cb (W1.alloc (.cells #[.int .u8 1] 5)).drew wr.heap.size (key, false, val) := blk_alloc X1 _
          have hl2 : (pp ++ pre).length + [(1 : UInt8)].length ≤ 140737488355328 := by simp only [List.length_singleton]; omega
          have HL2 := hide hl2
          have hl3 : ((pp ++ pre) ++ [(1 : UInt8)]).length ≤ 1000000 := by rw [List.length_append]; simp only [List.length_singleton]; omega
          have HL3 := hide hl3
          have hks : key.size ≤ 1000000 := by omega
          have hl4 : (((pp ++ pre) ++ [(1 : UInt8)]) ++ encT key).length ≤ 1000000 := by rw [List.length_append, List.length_append, encT_length]; have := vsize_le key.size; simp only [List.length_singleton]; omega
          have HL4 := hide hl4
          have hvs : val.size ≤ 1000000 := by omega
          clear hl2 hl3 hl4
          go_region_held3 (fun w' => Cb w' wr.heap.size (key, false, val) ∧ w'.cell? ⟨wr.heap.size, 0, none⟩ = some (.string key) ∧ w'.cell? ⟨wr.heap.size, 2, none⟩ = some (.string val)) (first | exact hS0 | assumption | exact hSk _ X7 | exact hSk _ X6 | exact hSk _ X5 | (have hh := ‹Cb _ wr.heap.size _ ∧ _›; exact hSk _ (blk_alloc hh.1 _))) (first | ((refine step_row (w0 := w) (W := (W1.alloc (.cells #[.int .u8 1] 5)).drew) w.heap.size (by rfl) (.tmp 39) (.tmp 40) rfl u5 (pp ++ pre) [1] _ 1 (by rfl) (by rfl) HO2 HR2 HB2 HB2.size HL2.out ?_; intro v5 w5 HO5 HB5 hg5; have X5 := X2.grown HO2 hg5)) | (go_at_call 34; (with_reducible refine (hTx v5 _ key _ HO5 hks HL3.out HB5 HB5.size).mono ?_); rintro e w6 ⟨v6, rfl, HO6, HB6, hg6⟩; have X6 := X5.grown HO5 hg6) | (go_at_call 34; (with_reducible refine (hTx v6 _ val _ HO6 hvs HL4.out HB6 HB6.size).mono ?_); rintro e w7 ⟨v7, rfl, HO7, HB7, hg7⟩; have X7 := X6.grown HO6 hg7))
          go_wp2
          go_roundw
          case rel => exact ⟨k + 1, by omega, by go_num, by rw [HTk.out]; exact HO7, HB7⟩
          case measure => simp [intOf]; omega
      · obtain rfl : k = n := by omega
        have hTa : pp ++ encCs (l.take k) = pp ++ encCs l := by rw [List.take_of_length_le (by rw [HN.out]; exact Nat.le_refl _)]
        rw [hTa, ← HE.out] at HO
        clear hTa hxl hEl
        go_wp2
        go_ret2
        exact ⟨_, rfl, HO, HB⟩)
set_option maxRecDepth 100000 in
set_option maxHeartbeats 800000 in
theorem Encode_any (q : Int) (A : Option Addr) (c n : Nat) (l : List Chg) (w : World) (hn : l.length = n) (hr : RdC w A c l) (hl : l.length ≤ 9223372036854775806) :
    Calls Try.prog 19 #[.agg #[.int .i64 q, .slice A n c]] w fun e w' => ∃ v, e = .returned (.tuple #[v, .int .i64 (chkB q l)]) ∧ OwB w' w.heap.size v (encX q l) ∧ Below w.heap.size w w' := by
  subst hn
  by_cases hk : chkB q l = 0
  · rw [encX, if_pos hk, hk]
    exact Encode_ok q A c l w hr hk
  · have hCk := fun W (h : RdC W A c l) => Check_any q A c l.length l W rfl h hl
    rw [encX, if_neg hk]
    obtain ⟨n, hn⟩ : ∃ n, l.length = n := ⟨_, rfl⟩
    rw [hn] at hCk hl ⊢
    generalize chkB q l = z at *
    clear hn
    have hr0 := hr.below (below_alloc w (.cells #[.int .i64 q, .slice A n c] 30))
    have X0 := Bx.new w q (.slice A n c) 30
    have B0 := below_alloc w (.cells #[.int .i64 q, .slice A n c] 30)
    obtain ⟨p0, p1', p2', p3⟩ := X0.read
    go_enter Try.func19, Try.ntmps19
    go_wp2_with (first | (go_at_call 26; (with_reducible refine (hCk _ hr0).mono ?_); rintro e w1 ⟨rfl, HB1⟩; have B1 := B0.trans (HB1.mono B0.size)))
    go_ret2
    exact ⟨_, rfl, OwB.zero _ _, B1⟩
end Go.Proofs.Ytebefonohemlfaa
end

section
/- Wal: the walk of Entries. -/
namespace Go.Proofs.Ytebefonohemlfaa
open Go.RowKit Go.Proofs.YtebefonohemlfaaW.PrintWords
set_option linter.unusedVariables false

def entC (q : Int) (i : Nat) (c : Chg) : Ent := (c.1, q + (i : Int), if c.2.1 = true then 2 else 1, c.2.2)
def entL (q : Int) (l : List Chg) : List Ent := (List.range l.length).map fun i => entC q i (l.getD i zChg)
theorem entL_length (q : Int) (l : List Chg) : (entL q l).length = l.length := by simp [entL]
theorem entL_get (q : Int) (l : List Chg) (i : Nat) (h : i < l.length) : (entL q l).getD i zEnt = entC q i (l.getD i zChg) := by
  rw [List.getD_eq_getElem?_getD, entL, List.getElem?_map, List.getElem?_range h]
  rfl
theorem entL_take (q : Int) (l : List Chg) (k : Nat) (h : k < l.length) : entL q (l.take (k + 1)) = entL q (l.take k) ++ [entC q k (l.getD k zChg)] := by
  have e : l.getD k zChg = l[k] := by rw [List.getD_eq_getElem?_getD, List.getElem?_eq_getElem h]; rfl
  have hl : (l.take k).length = k := by rw [List.length_take]; omega
  rw [List.take_succ_eq_append_getElem h, entL, entL, List.length_append, List.length_singleton, List.range_succ, List.map_append, hl]
  congr 1
  · apply List.map_congr_left
    intro j hj
    have hj' := List.mem_range.1 hj
    rw [List.getD_eq_getElem?_getD, List.getElem?_append_left (by omega), ← List.getD_eq_getElem?_getD]
  · rw [e]
    simp only [List.map_cons, List.map_nil]
    rw [List.getD_eq_getElem?_getD, List.getElem?_append_right (by omega), hl]
    simp
set_option maxRecDepth 100000 in
set_option maxHeartbeats 1600000 in
theorem Entries_ok (q : Int) (A : Option Addr) (c : Nat) (l : List Chg) (w : World) (hr : RdC w A c l) (hk : chkB q l = 0) :
    Calls Try.prog 10 #[.agg #[.int .i64 q, .slice A l.length c]] w fun e w' => ∃ v, e = .returned (.tuple #[v, .int .i64 0]) ∧ OwE w' w.heap.size v (entL q l) ∧ Below w.heap.size w w' := by
  obtain ⟨q1, q2, h1, h64, hall⟩ := chkB_ok q l hk
  have hCk := fun W (h : RdC W A c l) => Check_any q A c l.length l W rfl h (by omega)
  rw [hk] at hCk
  have HT := hide (entL_take q l)
  have hEL := fun k => entL_length q (l.take k)
  have HEL := hide hEL
  obtain ⟨n, hn⟩ : ∃ n, l.length = n := ⟨_, rfl⟩
  have HN := hide hn
  rw [hn] at hCk h1 h64 ⊢
  have hm := hr.max
  rw [hn] at hm
  clear hk hn hall hEL
  have hr0 := hr.below (below_alloc w (.cells #[.int .i64 q, .slice A n c] 30))
  have X0 := Bx.new w q (.slice A n c) 30
  have B0 := below_alloc w (.cells #[.int .i64 q, .slice A n c] 30)
  obtain ⟨p0, p1', p2', p3⟩ := X0.read
  go_enter Try.func10, Try.ntmps10
  go_wp2_with (first | (go_at_call 26; (with_reducible refine (hCk _ hr0).mono ?_); rintro e w1 ⟨rfl, HB1⟩; have X1 := X0.below HB1; have B1 := B0.trans (HB1.mono B0.size); have hr1 := hr0.below HB1; obtain ⟨s0, s1, s2, s3⟩ := X1.read))
  have hsz1 := B1.size
  go_loopw [5, 17] (fun out i wr => ∃ k : Nat, k ≤ n ∧ i = .int .i64 (k : Int) ∧ OwE wr w1.heap.size out (entL q (l.take k)) ∧ Below w1.heap.size w1 wr) (fun _ i _ => n - (intOf i).toNat)
  case atStart => exact ⟨0, by omega, rfl, Ow.zero _ _ _ _, Below.refl _ _⟩
  case round =>
    obtain ⟨k, hk, rfl, HO, HB⟩ := hrel
    have hel := HEL.out k
    by_cases hlt : k < n
    · have hlti : (k : Int) < (n : Int) := by omega
      obtain ⟨ad, rfl, e0, e1, e2⟩ := RdC.at3 (hr1.below HB) k (by rw [HN.out]; exact hlt)
      have hTk := HT.out k (by rw [HN.out]; exact hlt)
      have hl48 : ((entL q (l.take k)).length + 1) * 48 ≤ 140737488355328 := by rw [hel, List.length_take]; omega
      have HL := hide hl48
      generalize l.getD k zChg = x at *
      obtain ⟨key, del, val⟩ := x
      simp only at e0 e1 e2
      have t0 : wr.cell? ⟨w.heap.size, 0, none⟩ = some (.int .i64 q) := (HB.cell (World.block_lt_of_cell? w1 _ s0)).trans s0
      have hlt0 := X1.lt
      have hsk := HB.size
      have hlt1 : w.heap.size < wr.heap.size := by omega
      have hne1 : ¬ w.heap.size = wr.heap.size := by omega
      have hne2 : ¬ w.heap.size = wr.heap.size + 1 := by omega
      generalize entL q (l.take k) = es at *
      clear hel hl48
      cases del with
      | true =>
        have HTk : Hid (entL q (l.take (k + 1)) = es ++ [((key, q + (k : Int), 2, val) : Ent)]) := by rw [hTk]; exact hide rfl
        clear hTk
        have b1 : Below wr.heap.size wr ((wr.alloc (.cells #[.string key, .bool true, .string val] 35)).alloc (.cells #[.string key, .int .i64 (q + (k : Int)), .int .i64 2, .string val] 37)) := ((Below.refl _ _).alloc (Nat.le_refl _) _).alloc (by simp) _
        have HO2 := HO.below b1
        have HB2 := HB.trans (b1.mono HB.size)
        go_wp2_with (first | (at_builtin; refine app_ent (w0 := w1) (W := (wr.alloc (.cells #[.string key, .bool true, .string val] 35)).alloc (.cells #[.string key, .int .i64 (q + (k : Int)), .int .i64 2, .string val] 37)) w1.heap.size rfl (.tmp 34) (.tmp 36) rfl u5 es (key, q + (k : Int), 2, val) (by rfl) (by simp [Act.eval, Array.getD]) HO2 HB2 HB2.size HL.out ?_; intro v5 w5 HO5 HB5 hg5 hat5))
        go_roundw
        case rel => exact ⟨k + 1, by omega, by go_num, by rw [HTk.out]; exact HO5, HB5⟩
        case measure => simp [intOf]; omega
      | false =>
        have HTk : Hid (entL q (l.take (k + 1)) = es ++ [((key, q + (k : Int), 1, val) : Ent)]) := by rw [hTk]; exact hide rfl
        clear hTk
        have b1 : Below wr.heap.size wr ((wr.alloc (.cells #[.string key, .bool false, .string val] 35)).alloc (.cells #[.string key, .int .i64 (q + (k : Int)), .int .i64 1, .string val] 37)) := ((Below.refl _ _).alloc (Nat.le_refl _) _).alloc (by simp) _
        have HO2 := HO.below b1
        have HB2 := HB.trans (b1.mono HB.size)
        go_wp2_with (first | (at_builtin; refine app_ent (w0 := w1) (W := (wr.alloc (.cells #[.string key, .bool false, .string val] 35)).alloc (.cells #[.string key, .int .i64 (q + (k : Int)), .int .i64 1, .string val] 37)) w1.heap.size rfl (.tmp 34) (.tmp 36) rfl u5 es (key, q + (k : Int), 1, val) (by rfl) (by simp [Act.eval, Array.getD]) HO2 HB2 HB2.size HL.out ?_; intro v5 w5 HO5 HB5 hg5 hat5))
        go_roundw
        case rel => exact ⟨k + 1, by omega, by go_num, by rw [HTk.out]; exact HO5, HB5⟩
        case measure => simp [intOf]; omega
    · obtain rfl : k = n := by omega
      rw [List.take_of_length_le (by rw [HN.out]; exact Nat.le_refl _)] at HO
      go_wp2
      go_ret2
      exact ⟨_, rfl, HO.lower hsz1, B1.trans (HB.mono hsz1)⟩
set_option maxRecDepth 100000 in
set_option maxHeartbeats 800000 in
theorem Entries_any (q : Int) (A : Option Addr) (c n : Nat) (l : List Chg) (w : World) (hn : l.length = n) (hr : RdC w A c l) (hl : l.length ≤ 9223372036854775806) :
    Calls Try.prog 10 #[.agg #[.int .i64 q, .slice A n c]] w fun e w' => ∃ v, e = .returned (.tuple #[v, .int .i64 (chkB q l)]) ∧ OwE w' w.heap.size v (if chkB q l = 0 then entL q l else []) ∧ Below w.heap.size w w' := by
  subst hn
  by_cases hk : chkB q l = 0
  · rw [if_pos hk, hk]
    exact Entries_ok q A c l w hr hk
  · have hCk := fun W (h : RdC W A c l) => Check_any q A c l.length l W rfl h hl
    rw [if_neg hk]
    obtain ⟨n, hn⟩ : ∃ n, l.length = n := ⟨_, rfl⟩
    rw [hn] at hCk hl ⊢
    generalize chkB q l = z at *
    clear hn
    have hr0 := hr.below (below_alloc w (.cells #[.int .i64 q, .slice A n c] 30))
    have X0 := Bx.new w q (.slice A n c) 30
    have B0 := below_alloc w (.cells #[.int .i64 q, .slice A n c] 30)
    obtain ⟨p0, p1', p2', p3⟩ := X0.read
    go_enter Try.func10, Try.ntmps10
    go_wp2_with (first | (go_at_call 26; (with_reducible refine (hCk _ hr0).mono ?_); rintro e w1 ⟨rfl, HB1⟩; have B1 := B0.trans (HB1.mono B0.size)))
    go_ret2
    exact ⟨_, rfl, Ow.zero _ _ _ _, B1⟩
/-- the page's example -/
theorem enc_ex : chkB 1 [((⟨#[97]⟩ : ByteArray), false, (⟨#[120]⟩ : ByteArray))] = 0 ∧ encX 1 [((⟨#[97]⟩ : ByteArray), false, (⟨#[120]⟩ : ByteArray))] = [1, 1, 1, 1, 97, 1, 120] := by decide +kernel
theorem str_ex : ((strB [1, 1, 1, 1, 97, 1, 120]).toList == ({ data := #[1, 1, 1, 1, 97, 1, 120] } : ByteArray).toList) = true := by decide +kernel
set_option maxRecDepth 100000 in
set_option maxHeartbeats 800000 in
theorem alive_any (w : World) : Calls Try.prog 9 #[] w fun e w' => e = .returned (.bool true) ∧ Below w.heap.size w w' := by
  obtain ⟨h1, h2⟩ := enc_ex
  have hr : RdC (w.alloc (.cells #[.string ⟨#[97]⟩, .bool false, .string ⟨#[120]⟩] 35)) (some ⟨w.heap.size, 0, none⟩) 1 [((⟨#[97]⟩ : ByteArray), false, (⟨#[120]⟩ : ByteArray))] := by
    refine ⟨by simp, rfl, by simp, fun _ => ⟨_, rfl, fun j p hj => ?_⟩⟩
    have hj0 : j = 0 := by
      have := (List.getElem?_eq_some_iff.1 hj).1
      simp at this
      exact this
    subst hj0
    have hp : ((⟨#[97]⟩ : ByteArray), false, (⟨#[120]⟩ : ByteArray)) = p := by simpa using hj
    subst hp
    refine ⟨_, rfl, kChg_mk _ _, fun i u hu => ?_⟩
    rw [add_plain]
    show (w.alloc (.cells #[.string ⟨#[97]⟩, .bool false, .string ⟨#[120]⟩] 35)).cell? ⟨w.heap.size, 0 * 3 + i, none⟩ = _
    rw [World.cell?_alloc_mark, Nat.zero_mul, Nat.zero_add]
    rw [← hu]
    simp
  have hE := Encode_any 1 _ 1 1 _ _ rfl hr (by simp)
  rw [h1, h2] at hE
  have hst := str_ex
  have hC := fun A c W (h : RdB W A c [1, 1, 1, 1, 97, 1, 120]) => h.toStr (P := Try.prog) 39 5 9 Try.underlying39 Try.underlying5 Try.underlying9
  clear h1 h2
  go_enter Try.func9, Try.ntmps9
  go_wp2_with (first | (go_at_call 19; refine hE.mono ?_; rintro e w1 ⟨v1, rfl, HO1, HB1⟩; obtain ⟨A1, c1, hv1, hr1⟩ := HO1.rd; subst hv1; have hc1 : Sem.run Try.prog (convert 39 9 (.slice A1 7 c1)) w1 = .ok (.string (strB [1, 1, 1, 1, 97, 1, 120])) w1 := hC A1 c1 w1 hr1) | (go_at_call 12; refine (num_any _ _).mono ?_; rintro e w' ⟨rfl, rfl⟩))
  go_ret
  refine ⟨?_, ?_⟩
  · have hb : ((strB [1, 1, 1, 1, 97, 1, 120]).toList == [1, 1, 1, 1, 97, 1, 120]) = true := by decide +kernel
    exact congrArg (fun b => Ending.returned (Value.bool b)) hb
  exact (below_alloc w _).trans (HB1.mono (by simp))
end Go.Proofs.Ytebefonohemlfaa
end

section
/- The walk of WalNumbers. -/
namespace Go.Proofs.Ytebefonohemlfaa
open Go.RowKit Go.Proofs.YtebefonohemlfaaW.PrintWords
set_option linter.unusedVariables false

set_option maxRecDepth 100000 in
set_option maxHeartbeats 3200000 in
theorem numbers_walk (q : Int) (A : Option Addr) (c : Nat) (l : List Chg) (w : World) (hr : RdC w A c l) (hl : l.length * 40 ≤ 140737488351232) :
    Calls Try.prog 3 #[.agg #[.int .i64 q, .slice A l.length c]] w fun e w' => e = .returned (.bool true) ∧ Below w.heap.size w w' := by
  have hOf := fun W (h : RdC W A c l) => of_any q A c l.length l W rfl h hl
  have hEn := fun A' c' W (h : RdC W A' c' l) => Entries_any q A' c' l.length l W rfl h (by omega)
  have hRc := fun W (h : RdC W A c l) => rCheck_any q A c l.length l W rfl h (by omega)
  have hm := hr.max
  have hr0 := hr.below (below_alloc w (.cells #[.int .i64 q, .slice A l.length c] 24))
  have X0 := Bx.new w q (.slice A l.length c) 24
  have B0 := below_alloc w (.cells #[.int .i64 q, .slice A l.length c] 24)
  by_cases hk : chkB q l = 0
  · obtain ⟨q1, q2, h1, h64, hall⟩ := chkB_ok q l hk
    simp only [hk, if_true] at hEn
    have hEL := entL_length q l
    have HG := hide (entL_get q l)
    obtain ⟨n, hn⟩ : ∃ n, l.length = n := ⟨_, rfl⟩
    have HN := hide hn
    rw [hn] at hOf hEn hEL h1 h64 hm hr0 X0 B0 ⊢
    have HEL := hide hEL
    clear hk hn hall hEL hRc hl
    obtain ⟨p0, p1, p2, p3⟩ := X0.read
    go_enter Try.func3, Try.ntmps3
    go_wp2_with (first | (go_at_call 9; refine (alive_any _).mono ?_; rintro e w1 ⟨rfl, HB1⟩; have X1 := X0.below HB1; have B1 := B0.trans (HB1.mono B0.size); have hr1 := hr0.below HB1; obtain ⟨s0, s1, s2, s3⟩ := X1.read) | (go_at_call 11; (with_reducible refine (hOf _ hr1).mono ?_); rintro e w2 ⟨A2, c2, rfl, HO2, HB2⟩; have hr2 := HO2.rdl; have X2 := X1.below HB2; have B2 := B1.trans (HB2.mono B1.size); have hr12 := hr1.below HB2) | (go_at_call 10; (with_reducible refine (hEn _ _ _ hr2).mono ?_); rintro e w3 ⟨v3, rfl, HO3, HB3⟩; have X3 := X2.below HB3; have B3 := B2.trans (HB3.mono B2.size); have hr3 := hr12.below HB3; obtain ⟨A3, c3, hv3, hE3⟩ := HO3.rd; rw [HEL.out] at hv3; subst hv3; obtain ⟨t0, t1, t2, t3⟩ := X3.read) | (go_at_call 12; refine (num_any _ _).mono ?_; rintro e w' ⟨rfl, rfl⟩))
    go_loopw [5] (fun i wr => ∃ k : Nat, k ≤ n ∧ i = .int .i64 (k : Int) ∧ Below w3.heap.size w3 wr) (fun i _ => n - (intOf i).toNat)
    case atStart => exact ⟨0, by omega, rfl, Below.refl _ _⟩
    case round =>
      obtain ⟨k, hk, rfl, HB⟩ := hrel
      by_cases hlt : k < n
      · have hlti : (k : Int) < (n : Int) := by omega
        obtain ⟨ad, rfl, e0, e1, e2⟩ := RdC.at3 (hr3.below HB) k (by rw [HN.out]; exact hlt)
        have hG := HG.out k (by rw [HN.out]; exact hlt)
        obtain ⟨⟨key, del, val⟩, hx⟩ : ∃ x, l.getD k zChg = x := ⟨_, rfl⟩
        rw [hx] at e0 e1 e2 hG
        simp only at e0 e1 e2
        have b1 := below_alloc wr (.cells #[.string key, .bool del, .string val] 35)
        have HB1' := HB.trans (b1.mono HB.size)
        obtain ⟨ed, hed, f0, f1, f2, f3⟩ := RdE.at4 (hE3.below HB1') k (by rw [HEL.out]; exact hlt)
        rw [hG] at f0 f1 f2 f3
        subst hed
        obtain ⟨u0, u1, u2, u3⟩ := (X3.below HB).read
        obtain ⟨y0, y1, y2, y3⟩ := (X3.below HB1').read
        obtain ⟨x0, x1, x2⟩ := (Cb.new wr (key, del, val)).read
        simp only [entC] at f0 f1 f2 f3 x0 x1 x2
        clear hG hx
        cases del with
        | true =>
          simp only [if_true] at f2
          go_wp2
          generalize wr.alloc (.cells #[.string key, .bool true, .string val] 35) = W1 at *
          go_quiet (fail)
          go_wp2
          go_roundw
          case rel => exact ⟨k + 1, by omega, by go_num, pw_below_drewN HB1' _⟩
          case measure => simp [intOf]; omega
        | false =>
          have f2' : (wr.alloc (.cells #[.string key, .bool false, .string val] 35)).cell? ⟨(ed.add (k * 4)).block, (ed.add (k * 4)).off + 2, none⟩ = some (.int .i64 1) := f2
          clear f2
          go_wp2
          generalize wr.alloc (.cells #[.string key, .bool false, .string val] 35) = W1 at *
          go_quiet (fail)
          go_wp2
          go_roundw
          case rel => exact ⟨k + 1, by omega, by go_num, pw_below_drewN HB1' _⟩
          case measure => simp [intOf]; omega
      · obtain rfl : k = n := by omega
        go_wp2
        go_ret
        exact ⟨rfl, B3.trans (HB.mono B3.size)⟩
  · have hz : chkB q l ≠ 0 := hk
    simp only [hk, if_false] at hEn
    obtain ⟨n, hn⟩ : ∃ n, l.length = n := ⟨_, rfl⟩
    rw [hn] at hOf hEn hRc hm hr0 X0 B0 ⊢
    generalize chkB q l = z at *
    clear hn hl hk
    obtain ⟨p0, p1, p2, p3⟩ := X0.read
    go_enter Try.func3, Try.ntmps3
    go_wp2_with (first | (go_at_call 9; refine (alive_any _).mono ?_; rintro e w1 ⟨rfl, HB1⟩; have X1 := X0.below HB1; have B1 := B0.trans (HB1.mono B0.size); have hr1 := hr0.below HB1; obtain ⟨s0, s1, s2, s3⟩ := X1.read) | (go_at_call 11; (with_reducible refine (hOf _ hr1).mono ?_); rintro e w2 ⟨A2, c2, rfl, HO2, HB2⟩; have hr2 := HO2.rdl; have X2 := X1.below HB2; have B2 := B1.trans (HB2.mono B1.size); have hr12 := hr1.below HB2) | (go_at_call 10; (with_reducible refine (hEn _ _ _ hr2).mono ?_); rintro e w3 ⟨v3, rfl, HO3, HB3⟩; have X3 := X2.below HB3; have B3 := B2.trans (HB3.mono B2.size); have hr3 := hr12.below HB3; obtain ⟨A3, c3, hv3, hE3⟩ := HO3.rd; rw [List.length_nil] at hv3; subst hv3; obtain ⟨t0, t1, t2, t3⟩ := X3.read) | (go_at_call 12; refine (num_any _ _).mono ?_; rintro e w' ⟨rfl, rfl⟩) | (go_at_call 13; (with_reducible refine (hRc _ hr3).mono ?_); rintro e w4 ⟨rfl, HB4⟩; have B4 := B3.trans (HB4.mono B3.size)))
    go_ret
    exact ⟨by simp [hz], B4⟩
end Go.Proofs.Ytebefonohemlfaa
end
