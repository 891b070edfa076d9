/- What the law MergeSame reaches besides, and its walk. -/
import Derived.Test.YthfalpibhcjpgaaMzA
import Derived.Deep.RegionHeld3
set_option linter.unusedVariables false
set_option linter.unusedSimpArgs false
section
/- Merge: pairs of a key and a value; rows of them the same; numbers copied. -/
namespace Go.Proofs.Ythfalpibhcjpgaa
open Go.RowKit Go.Proofs.YthfalpibhcjpgaaW.PrintWords
set_option linter.unusedVariables false

abbrev Pr := ByteArray × ByteArray
def kPr : Kd Pr := Kd.pair kStr kStr
theorem info_pr : (Try.prog.info? 55).map (fun i => (i.zero, i.size, i.bytes)) = some (some (.agg #[.string ByteArray.empty, .string ByteArray.empty]), 2, 32) := by kernel_rfl
theorem kPr_mk (w : World) (c : Pr) : kPr.K w c [.string c.1, .string c.2] := ⟨[.string c.1], [.string c.2], rfl, rfl, rfl⟩
theorem kPr_M (w : World) (base : Nat) (ok : Nat → Prop) (c : Pr) : kPr.M w base ok c [.string c.1, .string c.2] := ⟨[.string c.1], [.string c.2], rfl, rfl, rfl⟩
abbrev RdP := Rd kPr
abbrev OwP := Ow kPr 55
def mkP (c : Pr) : PB.S55 := ⟨c.1, c.2⟩
theorem RdP.mk {w : World} {A : Option Addr} {c : Nat} {l : List Pr} (h : RdP w A c l) : Rd PB.k55 w A c (l.map mkP) := Rd_map (d := kPr) (d' := PB.k55) rfl mkP (fun x cs h => h) h
theorem samePr_l0 (l : List Pr) (hl : l.length ≤ 9223372036854775806) : ∀ d i, l.length - i = d → i ≤ l.length → Ev (fun k => PB.ticklerplain_SamePairs.l0 k (l.map mkP) (l.map mkP) (i : Int)) true := by
  intro d
  induction d with
  | zero =>
    intro i hd hi
    obtain rfl : i = l.length := by omega
    refine Ev.now' fun k => ?_
    rw [PB.ticklerplain_SamePairs.l0, if_neg (by rw [List.length_map]; omega)]
  | succ d ih =>
    intro i hd hi
    have hlt : i < l.length := by omega
    refine Ev.step (fun k => ?_) (ih (i + 1) (by omega) (by omega))
    rw [PB.ticklerplain_SamePairs.l0, if_pos (by rw [List.length_map]; omega), if_pos (by omega), if_pos (by rw [List.length_map]; omega), if_neg (by simp), wrap64_succ i (by omega)]
theorem SamePr_any (A B : Option Addr) (c d n : Nat) (l : List Pr) (w : World) (hn : l.length = n) (hr : RdP w A c l) (hs : RdP w B d l) (hl : l.length ≤ 9223372036854775806) :
    Calls Try.prog 15 #[.slice A n c, .slice B n d] w fun e w' => e = .returned (.bool true) ∧ Below w.heap.size w w' := by
  subst hn
  obtain ⟨k, hk⟩ := (samePr_l0 l hl _ 0 rfl (Nat.zero_le _)).rounds
  have hf : PB.ticklerplain_SamePairs.f k (l.map mkP) (l.map mkP) = some true := by rw [PB.ticklerplain_SamePairs.f, if_pos rfl]; exact hk
  have h := PB.ticklerplain_SamePairs.calls k A c (l.map mkP) B d (l.map mkP) true w hr.mk.2 hr.mk.1 hs.mk.2 hs.mk.1 hf
  rw [List.length_map] at h
  exact h.mono (fun e w' ⟨h1, h2⟩ => ⟨h1, h2.below⟩)
theorem CopyI_any (A : Option Addr) (c n : Nat) (l : List Int) (w : World) (hn : l.length = n) (hr : RdI w A c l) (hl : l.length ≤ 16) :
    Calls Try.prog 13 #[.slice A n c] w fun e w' => ∃ v, e = .returned v ∧ Ow kInt 3 w' w.heap.size v l ∧ Below w.heap.size w w' := by
  subst hn
  have hf : PB.ticklerplain_CopyInts.f l = some l := by rw [PB.ticklerplain_CopyInts.f, if_pos (by rw [List.length_nil]; omega), List.nil_append]
  exact PB.ticklerplain_CopyInts.calls A c l l w hr.2 hr.1 hf
end Go.Proofs.Ythfalpibhcjpgaa
end

section
/- A region that draws, in a round of a range over a function: by the walk that holds a condition on the world. -/
namespace Go.Proofs.Ythfalpibhcjpgaa
open Go.RowKit Go.Shelf Go.Proofs.YthfalpibhcjpgaaW.PrintWords
set_option linter.unusedVariables false

theorem upon_in {l n : Nat} {P : Program} {o : Oper} {a : Act} {K : Act → World → Prop} {Q : Exit → Act → World → Prop} {r : Result Next} (h : Oper.upon P o a K Q r) : Oper.uponIn (Fence.wide.inRound l) n P o a K Q r := by
  cases r with
  | ok x w' =>
    cases x <;> simp only [Oper.upon, Oper.uponIn] at h ⊢ <;>
      first
        | exact h
        | exact ⟨fun hd => absurd hd (by simp [Fence.wide]), CallsIn.inRound l (callsIn_wide.2 h)⟩
        | exact ⟨fun hd => absurd hd (by simp [Fence.wide]), fun c cs _ => let ⟨v, w1, hr, hs⟩ := h c cs; ⟨v, w1, hr, stepsIn_wide.2 hs⟩⟩
        | exact h.elim
  | halt x w' => cases x <;> simp only [Oper.upon, Oper.uponIn] at h ⊢ <;> exact h
theorem wpOp_in {l n : Nat} {P : Program} {ops : Array Oper} {Q : Exit → Act → World → Prop} (hout : ¬ LetsOut Q) {i : Nat} (hnd : ∀ (o : Oper) (c : Call), ops[i]? = some o → o.op ≠ .defer c) {K : Act → World → Prop} {a : Act} {w : World} (h : wpOp P ops Q i K a w) :
    wpOpIn (Fence.wide.inRound l) n P ops Q i K a w := by
  unfold wpOp at h
  unfold wpOpIn
  cases ho : ops[i]? with
  | none => simpa [ho] using h
  | some o =>
    simp only [ho] at h ⊢
    split
    · next hw =>
      rw [if_pos hw] at h
      rcases h with h | h
      · refine ⟨fun f _ => trivial, ?_⟩
        rw [Oper.semAt_eq _ _ _ (fun c => hnd o c ho)]
        exact upon_in h
      · exact absurd h.2 hout
    · next hw =>
      rw [if_neg hw] at h
      exact ⟨fun f _ => trivial, h⟩
theorem wpAny_in {l n : Nat} {P : Program} {ops : Array Oper} {Q : Exit → Act → World → Prop} {md : Region.Mode} (hout : ¬ LetsOut Q) (hnd : ∀ (i : Nat) (o : Oper) (c : Call), ops[i]? = some o → o.op ≠ .defer c) : ∀ (fuel : Nat) (listed : Array Bool) (a : Act) (w : World), wpAny P md ops Q fuel listed a w → wpAnyIn (Fence.wide.inRound l) n P md ops Q fuel listed a w
  | 0, _, _, _, h => h
  | fuel + 1, listed, a, w, h => ⟨h.1, fun i hi => wpOp_in hout (hnd i) (wpOp_mono (fun a w => wpAny_in hout hnd fuel _ a w) (h.2 i hi))⟩
def noDefer (ops : Array Oper) : Bool := ops.toList.all fun o => match o.op with
  | .defer _ => false
  | _ => true
theorem noDefer_spec {ops : Array Oper} (h : noDefer ops = true) (i : Nat) (o : Oper) (c : Call) (ho : ops[i]? = some o) : o.op ≠ .defer c := by
  intro e
  have hm : o ∈ ops.toList := by
    rw [Array.getElem?_eq_some_iff] at ho
    obtain ⟨hi, rfl⟩ := ho
    simp
  have := List.all_eq_true.1 h o hm
  rw [e] at this
  cases this
/-- the end of a region, normal alone -/
def Nrm (N : Act → World → Prop) : Exit → Act → World → Prop := fun e a w => e = .normal ∧ N a w
theorem Nrm.noOut (N : Act → World → Prop) : ¬ LetsOut (Nrm N) := fun ⟨_, _, h, _⟩ => by cases h
theorem Nrm.noPanic {N : Act → World → Prop} {c : List PanicEntry} {a a' : Act} {w : World} (h : Nrm N (.panic c) a w) : Nrm N (.panic c) a' w := by cases h.1
theorem region_in_round {l n : Nat} {P : Program} {id : Nat} {ops : Array Oper} {Q : Exit → Act → World → Prop} {a : Act} {w : World} (S : World → Prop) (N : Act → World → Prop) (hm : P.follows .mixedOrders = true) (hnd : noDefer ops = true)
    (h : wpAnyH P .any ops (Nrm N) S ops.size (Array.replicate ops.size false) a w.drew) (hN : ∀ a w, N a w → Q .normal a w) : (Code.region id ops true).wpIn (Fence.wide.inRound l) n P Q a w := by
  refine wpIn_mono (wpIn_region_any (Q := Nrm N) hm ?_) (fun e a w h => by obtain ⟨rfl, h⟩ := h; exact hN a w h)
  exact wpAny_in (Nrm.noOut N) (noDefer_spec hnd) _ _ _ _ (wpAny_of_held _ _ _ _ h)
/-! temporaries by what is known of them -/
theorem set_ne {T U : Array Value} {i j : Nat} {v u : Value} (e : T.setIfInBounds i v = U) (h : i ≠ j) (hf : T[j]?.getD undef = u) : U[j]?.getD undef = u := by
  rw [← hf, ← e]
  simp [Array.getElem?_setIfInBounds, h]
theorem set_same {T U : Array Value} {i n : Nat} {v : Value} (e : T.setIfInBounds i v = U) (hs : T.size = n) (h : i < n) : U[i]?.getD undef = v := by
  subst hs
  rw [← e]
  simp [Array.getElem?_setIfInBounds, h]
theorem set_size {T U : Array Value} {i n : Nat} {v : Value} (e : T.setIfInBounds i v = U) (hs : T.size = n) : U.size = n := by rw [← e, Array.size_setIfInBounds, hs]
theorem region_in_round_T {l n : Nat} {P : Program} {id : Nat} {ops : Array Oper} {Q : Exit → Act → World → Prop} {T₀ : Array Value} {ds : List Deferred} {w : World} (S : World → Prop) (N : Act → World → Prop) (hm : P.follows .mixedOrders = true) (hnd : noDefer ops = true)
    (hN : ∀ a w, N a w → Q .normal a w) (h : ∀ T : Array Value, T = T₀ → wpAnyH P .any ops (Nrm N) S ops.size (Array.replicate ops.size false) ⟨T, ds⟩ w.drew) : (Code.region id ops true).wpIn (Fence.wide.inRound l) n P Q ⟨T₀, ds⟩ w :=
  region_in_round S N hm hnd (h T₀ rfl) hN
end Go.Proofs.Ythfalpibhcjpgaa
end

section
/- Merge: what a number sees, walked. -/
namespace Go.Proofs.Ythfalpibhcjpgaa
open Go.RowKit Go.Shelf Go.Proofs.YthfalpibhcjpgaaW.PrintWords
set_option linter.unusedVariables false
attribute [local go_sem] Oper.semAt_some

theorem see_cases (G : List Ent) (h : G.Pairwise befE) (s : Int) : (seeI s G = -1 ∧ seG s G = []) ∨ ∃ i x, i < G.length ∧ seeI s G = (i : Int) ∧ G.getD i zEnt = x ∧ seG s G = if x.2.2.1 = 2 then [] else [(x.1, x.2.2.2)] := by
  by_cases hi : G.findIdx (upto s) < G.length
  · right
    have e : seeI s G = ((G.findIdx (upto s) : Nat) : Int) := by rw [seeI, if_pos hi]
    have h2 := (see_iff G h s _ hi).1 e.symm
    refine ⟨_, _, hi, e, rfl, ?_⟩
    have e3 : G.getD (G.findIdx (upto s)) zEnt = G[G.findIdx (upto s)] := by rw [List.getD_eq_getElem?_getD, List.getElem?_eq_getElem hi]; rfl
    rw [seG, h2, e3]
  · left
    refine ⟨by rw [seeI, if_neg hi], ?_⟩
    have h2 : seesE G s = none := by
      unfold seesE
      rw [List.find?_eq_none]
      intro x hx hp
      exact hi (List.findIdx_lt_length.2 ⟨x, hx, hp⟩)
    rw [seG, h2]
set_option maxRecDepth 100000 in
set_option maxHeartbeats 12800000 in
theorem Seen_ok (A : Option Addr) (c n : Nat) (l : List Ent) (s : Int) (w : World) (hn : l.length = n) (hr : RdE w A c l) (hl : n * 48 ≤ 140737488351232) (ho : ordE l = 0) :
    Calls Try.prog 14 #[.slice A n c, .int .i64 s] w fun e w' => ∃ v, e = .returned (.tuple #[v, .int .i64 0]) ∧ OwP w' w.heap.size v (seen s l) ∧ Below w.heap.size w w' := by
  have B0 := below_alloc w (.cells #[.int .i64 s] 3)
  have s0 : Bs (w.alloc (.cells #[.int .i64 s] 3)) w.heap.size (.int .i64 s) 3 := heap_alloc_new w _
  have mixed : Try.prog.follows .mixedOrders = true := by kernel_rfl
  have hC := fun W (h : RdE W A c l) => MCheck_any A c n l W hn h (by omega)
  rw [ho] at hC
  have r0 := hr.below B0
  have HPW := hide (ord_pw l ho)
  have HN := hide hn
  have HR0 := hide hr
  have hl2 : n ≤ 140737488351232 := by omega
  have z0 : (w.alloc (.cells #[.int .i64 s] 3)).heap.size = w.heap.size + 1 := World.size_alloc ..
  clear hn hr ho
  refine (callsIn_wide (n := 9)).1 ?_
  refine callsIn_of_wp_marks Try.func14 rfl trivial ?_ rfl
  simp only [Try.ntmps14, List.size_toArray, List.length_cons, List.length_nil, Nat.reduceAdd, Nat.reduceSub, Array.replicate_succ, Array.replicate_zero, List.push_toArray, List.append_toArray, List.nil_append, List.cons_append]
  gi_wp2_with (first | (refine ⟨trivial, ?_⟩; gi_at_call 12; refine (callsIn_wide.2 (hC _ r0)).mono ?_; rintro e w1 ⟨rfl, HB1⟩) | (refine ⟨trivial, ?_⟩; gi_at_call 18; refine (callsIn_wide.2 (byKey_any A n c (w1.alloc (.cells #[.slice none 0 0] 39)))).mono ?_; rintro e w2 ⟨rfl, hs2, hbx, HB2⟩))
  obtain ⟨g9, hg9⟩ : ∃ g, w1.heap.size = g := ⟨_, rfl⟩
  simp only [World.size_alloc, hg9] at hs2 hbx HB2 ⊢
  have hB1 := HB1.size
  rw [z0, hg9] at hB1
  have q9 : w2.heap[g9]? = some (.cells #[.slice none 0 0] 39) := by
    rw [HB2.block g9 (by omega), ← hg9]; exact heap_alloc_new w1 _
  have B2 : Below g9 w1 w2 := ((Below.refl g9 w1).alloc (by omega) _).trans (HB2.mono (by omega))
  have e0 : Bs w1 w.heap.size (.int .i64 s) 3 := blk_below s0 HB1
  have hx2 : RdE w2 A c l := (r0.below HB1).below (by rw [hg9]; exact B2)
  have hAb : ∀ ad, A = some ad → 0 < l.length → ad.block < w.heap.size := fun ad e h => by
    obtain ⟨ad', e', hc, -, -, -⟩ := RdE.at4 HR0.out 0 h
    rw [e] at e'
    injection e' with e'
    subst e'
    have h1 := World.block_lt_of_cell? w _ hc
    rw [Nat.zero_mul, add_zero_] at h1
    exact h1
  have B1w : Below w.heap.size w w1 := stq B0 HB1
  obtain ⟨T, hT⟩ : ∃ T, seen s l = T := ⟨_, rfl⟩
  have HT := hide hT
  have HL := hide (And.intro hl hl2)
  have HQ := hide (And.intro hB1 (And.intro hs2 (And.intro e0 (And.intro hAb B1w))))
  clear hT hC r0 s0 B0 HB1 hg9
  refine range_iterG (c0 := g9 + 1) (D := g9 + 2) (m := l.length) (gf := 24) (lb := #[.pointer (some ⟨g9 + 1, 0, none⟩)]) (next := nextK l) (own := fun j => j = g9 + 1 ∨ ∃ a0, A = some a0 ∧ j = a0.block) (V := valsK A l) (by rw [hs2]) (by omega) rfl (enters_of Try.func24 (by kernel_rfl) rfl) (fun k vs W ⟨Ax, cx, e, _⟩ => by rw [e]; rfl)
    (iterK_any A c l (g9 + 1) _ w2 (by rw [HN.out]; exact hbx) hx2 (by rw [HN.out]; exact hl2) (.inl rfl) (fun ad e h => ⟨by have := hAb ad e h; omega, .inr ⟨ad, e, rfl⟩, by have := hAb ad e h; omega⟩))
    (fun p W => Below g9 w1 W ∧ g9 + 2 ≤ W.heap.size ∧ ∃ v out, W.heap[g9]? = some (.cells #[v] 39) ∧ OwP W (g9 + 4) v out ∧ out ++ seen s (l.drop p) = T ∧ out.length ≤ p)
    (fun p X Y h ⟨i1, i2, v, out, i3, i4, i5, i6⟩ => ⟨i1.trans (h.below (by omega) (by omega) (by omega)), Nat.le_trans i2 h.size, v, out, (h.block g9 (by omega) (by omega) (by omega) (by omega)).trans i3, Ow.keep i4 (fun j h1 h2 => h.block j (by omega) (by omega) (by omega) h2), i5, i6⟩)
    ⟨B2, by omega, _, [], q9, Ow.zero _ _ _ _, by rw [List.drop_zero]; exact HT.out, Nat.zero_le _⟩ ?round ?done
  case round =>
    intro l1 p vs W hp hDW hV hI
    obtain ⟨Ax, cx, rfl, hx, hblk⟩ := hV
    gi_wp2
    refine ⟨Below.refl _ _, fun W2 hAc hI2 => ?_⟩
    obtain ⟨hB1, hs2, e0, hAb, B1w⟩ := HQ.out
    have hxW : RdE W2 Ax cx ((l.drop p).take (runK (l.drop p))) := RdE.same hx (fun ad e h => by
      obtain ⟨a0, ha, hb⟩ := hblk ad e
      have hb2 := hAb a0 ha (by omega)
      rw [hb]
      exact hAc.block _ (by omega) (by omega) (by omega) (by omega))
    obtain ⟨i1, i2, v, out, i3, i4, i5, i6⟩ := hI2
    have hsz := hAc.size
    have hcut := byK_next (seG s) l p hp
    have hnl := next_le l p hp
    have hnx : nextK l p = p + runK (l.drop p) := rfl
    have hGp := ((HPW.out.sublist (List.drop_sublist p l)).sublist (List.take_sublist (runK (l.drop p)) _))
    have hGl : ((l.drop p).take (runK (l.drop p))).length = runK (l.drop p) := by rw [List.length_take]; have := run_le (l.drop p); omega
    generalize (l.drop p).take (runK (l.drop p)) = G at *
    generalize runK (l.drop p) = q at *
    rw [seen, hcut, ← List.append_assoc] at i5
    have hqn : q ≤ n := by rw [← HN.out]; omega
    have f0 : Bs W2 w.heap.size (.int .i64 s) 3 := (i1.block _ (by omega)).trans e0
    have r0 : W2.cell? ⟨w.heap.size, 0, none⟩ = some (.int .i64 s) := blk_cell f0 0
    have hSee := sees_any s Ax cx q G W2 hGl hxW (by omega)
    have hSC := see_cases G hGp s
    have HH := hide (And.intro i5 (And.intro i6 (And.intro hnx (And.intro hnl (And.intro hGp (And.intro hqn hGl))))))
    have HP := hide hp
    have HGR : Hid (∀ Z, (∀ j, j < g9 → Z.heap[j]? = W2.heap[j]?) → RdE Z Ax cx G) := hide (fun Z h => RdE.same hxW (fun ad e h0 => by
      obtain ⟨a0, ha, hb⟩ := hblk ad e
      have hb2 := hAb a0 ha (by omega)
      rw [hb]
      exact h _ (by omega)))
    have HNB : Hid (∀ a0, A = some a0 → a0.block ≠ g9) := hide (fun a0 ha e => by have := hAb a0 ha (by omega); omega)
    have HXB : Hid (∀ ad, Ax = some ad → ad.block < g9) := hide (fun ad e => by
      obtain ⟨a0, ha, hb⟩ := hblk ad e
      have hb2 := hAb a0 ha (by omega)
      rw [hb]; omega)
    have hW4 : g9 + 4 ≤ W2.heap.size := Nat.le_trans hDW hsz
    clear hcut hx hblk hI i5 i6 hnx hnl hGp hAc hp
    obtain ⟨Ao, co, hv, -⟩ := i4.rd
    obtain ⟨k0, hk0⟩ : ∃ k, out.length = k := ⟨_, rfl⟩
    rw [hk0] at hv
    subst hv
    have HK0 := hide hk0
    have HEND : Hid (∀ Z, Below W2.heap.size W2 Z → seG s G = [] → Keeps (fun j => j = g9 + 1 ∨ ∃ a0, A = some a0 ∧ j = a0.block) (g9 + 2) W2 Z ∧ Below g9 w1 Z ∧ g9 + 2 ≤ Z.heap.size ∧ ∃ v out, Z.heap[g9]? = some (.cells #[v] 39) ∧ OwP Z (g9 + 4) v out ∧ out ++ seen s (l.drop (nextK l p)) = T ∧ out.length ≤ nextK l p) := hide (fun Z hZ hE => by
      obtain ⟨h1, h2, h3, h4, -, -, -⟩ := HH.out
      rw [hE, List.append_nil] at h1
      exact ⟨⟨hZ.size, fun j _ hl0 => hZ.block j (by omega)⟩, i1.trans (hZ.mono (by omega)), Nat.le_trans i2 hZ.size, _, out, (hZ.block g9 (by omega)).trans i3, i4.below hZ, h1, by omega⟩)
    clear hk0
    rcases hSC with ⟨hz, hE⟩ | ⟨i, x, hi, hz, hx, hE⟩
    · rw [hz] at hSee
      have HE := hide hE
      clear hz hE i3 i4
      gi_wp2_with (first | (refine ⟨trivial, ?_⟩; gi_at_call 19; refine (CallsIn.inRound l1 (callsIn_wide.2 hSee)).mono ?_; rintro e w6 ⟨rfl, HB6⟩))
      exact HEND.out _ HB6 HE.out
    · rw [hz] at hSee
      rw [hGl] at hi
      have hii : (i : Int) < (q : Int) := Int.ofNat_lt.2 hi
      have hi0 : (0 : Int) ≤ (i : Int) := Int.natCast_nonneg i
      have HI := hide hi
      have HX := hide hx
      clear hz hx
      by_cases hk2 : x.2.2.1 = 2
      · have hxb : (x.2.2.1 == 2) = true := beq_iff_eq.2 hk2
        have HE : Hid (seG s G = []) := hide (by rw [hE, if_pos hk2])
        clear hE hk2 i3 i4
        gi_wp2_with (first | (refine ⟨trivial, ?_⟩; gi_at_call 19; refine (CallsIn.inRound l1 (callsIn_wide.2 hSee)).mono ?_; rintro e w6 ⟨rfl, HB6⟩; obtain ⟨ad, ea, x0, x1, x2, x3⟩ := RdE.at4 (hxW.below HB6) i (by rw [HH.out.2.2.2.2.2.2]; exact HI.out); rw [HX.out] at x0 x1 x2 x3; subst ea))
        exact HEND.out _ HB6 HE.out
      · have hxb : (x.2.2.1 == 2) = false := beq_eq_false_iff_ne.2 hk2
        have HE : Hid (seG s G = [(x.1, x.2.2.2)]) := hide (by rw [hE, if_neg hk2])
        clear hE hk2
        gi_wp2_with (first | (refine ⟨trivial, ?_⟩; gi_at_call 19; refine (CallsIn.inRound l1 (callsIn_wide.2 hSee)).mono ?_; rintro e w6 ⟨rfl, HB6⟩; obtain ⟨ad, ea, x0, x1, x2, x3⟩ := RdE.at4 (hxW.below HB6) i (by rw [HH.out.2.2.2.2.2.2]; exact HI.out); rw [HX.out] at x0 x1 x2 x3; subst ea))
        -- REGION
        have HWS := HB6.size
        have lv6 := (HB6.block g9 (by omega)).trans i3
        have O6 := i4.below HB6
        have hadb : (ad.add (i * 4)).block = ad.block := by unfold Addr.add; split <;> rfl
        have hblt : (ad.add (i * 4)).block < g9 := by rw [hadb]; exact HXB.out ad rfl
        have i16 := i1.trans (HB6.mono (by omega))
        refine region_in_round_T (fun Y => Y.cell? (ad.add (i * 4)) = some (.string x.1) ∧ Y.cell? ⟨(ad.add (i * 4)).block, (ad.add (i * 4)).off + 3, none⟩ = some (.string x.2.2.2)) _ mixed (by kernel_rfl) (fun _ _ h => h) (fun U hU => ?_)
        obtain ⟨w7, hw7⟩ : ∃ z, w6.drew = z := ⟨_, rfl⟩
        rw [hw7]
        have D7 : Below w6.heap.size w6 w7 := by rw [← hw7]; exact (Below.refl _ _).drew
        have lv7 := (D7.block g9 (blk_lt lv6)).trans lv6
        have O7 := O6.below D7
        have S7 : w7.cell? (ad.add (i * 4)) = some (.string x.1) ∧ w7.cell? ⟨(ad.add (i * 4)).block, (ad.add (i * 4)).off + 3, none⟩ = some (.string x.2.2.2) := ⟨(D7.cell (World.block_lt_of_cell? _ _ x0)).trans x0, (D7.cell (World.block_lt_of_cell? _ _ x3)).trans x3⟩
        have C0 : w7.cell? ⟨g9, 0, none⟩ = some (.slice Ao k0 co) := blk_cell lv7 0
        have b8 := below_alloc w7 (.cells #[.string x.1, .string x.2.2.2] 55)
        have C1 : (w7.alloc (.cells #[.string x.1, .string x.2.2.2] 55)).cell? ⟨g9, 0, none⟩ = some (.slice Ao k0 co) := (b8.cell (World.block_lt_of_cell? _ _ C0)).trans C0
        have S8 : (w7.alloc (.cells #[.string x.1, .string x.2.2.2] 55)).cell? (ad.add (i * 4)) = some (.string x.1) ∧ (w7.alloc (.cells #[.string x.1, .string x.2.2.2] 55)).cell? ⟨(ad.add (i * 4)).block, (ad.add (i * 4)).off + 3, none⟩ = some (.string x.2.2.2) := ⟨(b8.cell (World.block_lt_of_cell? _ _ S7.1)).trans S7.1, (b8.cell (World.block_lt_of_cell? _ _ S7.2)).trans S7.2⟩
        have h74 : g9 + 4 ≤ w7.heap.size := Nat.le_trans (Nat.le_trans hW4 HWS) D7.size
        have hfit : (out.length + 1) * 32 ≤ 140737488355328 := by obtain ⟨-, h2, h3, ⟨-, h4⟩, -, -, -⟩ := HH.out; have := HN.out; have := HL.out.1; have := HP.out; omega
        have HFIN : Hid (∀ w8 A8 c8 k8, Below (g9 + 4) w7 w8 → OwP w8 (g9 + 4) (.slice A8 k8 c8) (out ++ [(x.1, x.2.2.2)]) → Keeps (fun j => j = g9 + 1 ∨ ∃ a0, A = some a0 ∧ j = a0.block) (g9 + 2) W2 (w8.setCell ⟨g9, 0, none⟩ (.slice A8 k8 c8)) ∧ Below g9 w1 (w8.setCell ⟨g9, 0, none⟩ (.slice A8 k8 c8)) ∧ g9 + 2 ≤ (w8.setCell ⟨g9, 0, none⟩ (.slice A8 k8 c8)).heap.size ∧ ∃ v out, (w8.setCell ⟨g9, 0, none⟩ (.slice A8 k8 c8)).heap[g9]? = some (.cells #[v] 39) ∧ OwP (w8.setCell ⟨g9, 0, none⟩ (.slice A8 k8 c8)) (g9 + 4) v out ∧ out ++ seen s (l.drop (nextK l p)) = T ∧ out.length ≤ nextK l p) := hide (fun w8 A8 c8 k8 HB8 O8 => by
          obtain ⟨h1, h2, h3, h4, -, -, -⟩ := HH.out
          have hs7 := D7.size
          have hs8 := HB8.size
          have lv8 := (HB8.block g9 (by omega)).trans lv7
          rw [HE.out] at h1
          refine ⟨⟨by rw [World.size_setCell]; omega, fun j hj hlj => ?_⟩, ((i16.trans (D7.mono (by omega))).trans (HB8.mono (by omega))).setCell (p := ⟨g9, 0, none⟩) (Nat.le_refl _) _, by rw [World.size_setCell]; omega, _, _, blk_set lv8 0 _, Ow.setCell O8 lv8 (by decide) 0 _, h1, by rw [List.length_append, List.length_singleton]; omega⟩
          have hjg : j ≠ g9 ∧ j < g9 + 4 := by
            rcases hj with (rfl | ⟨a0, ha, rfl⟩) | rfl | rfl
            · omega
            · exact ⟨HNB.out a0 ha, by omega⟩
            · omega
            · omega
          rw [Below.heap_setCell _ _ _ _ hjg.1, HB8.block j hjg.2, D7.block j (by omega), HB6.block j (by omega)])
        have sz : Hid (U.size = 46) := by rw [hU]; exact hide rfl
        have f7 : U[7]?.getD undef = .pointer (some ⟨g9, 0, none⟩) := by rw [hU]; rfl
        have f8 : U[8]?.getD undef = .slice (some ad) q cx := by rw [hU]; rfl
        have f9 : U[9]?.getD undef = .int .i64 (i : Int) := by rw [hU]; rfl
        clear hU hw7 lv6 O6 x0 x1 x2 x3 hSee hxW r0 f0 hsz i16 hadb
        refine wpAnyH_take (i := 1) (oi := _) (v := .slice (some ad) q cx) rfl (by kernel_rfl) (by kernel_rfl) (by kernel_rfl) (fun _ _ _ h => Nrm.noPanic h) (Or.inl ⟨by rfl, ?hy1⟩) S7 ?rest1
        case hy1 =>
          intro Y hY
          obtain ⟨hY1, hY2⟩ := hY
          go_simp
        case rest1 =>
          change wpAnyH _ _ _ _ _ _ _ ⟨Array.setIfInBounds U 32 (.slice (some ad) q cx), _⟩ _
          generalize hTU1 : Array.setIfInBounds U 32 (.slice (some ad) q cx) = U1
          have g7 := set_ne hTU1 (by decide) f7
          have g8 := set_ne hTU1 (by decide) f8
          have g9 := set_ne hTU1 (by decide) f9
          have g32 := set_same hTU1 sz.out (by decide)
          have szU1 := hide (set_size hTU1 sz.out)
          clear f7 f8 f9 hTU1 sz
          have f7 := g7
          have f8 := g8
          have f9 := g9
          have f32 := g32
          clear g7 g8 g9 g32
          refine wpAnyH_take (i := 2) (oi := _) (v := .int .i64 (i : Int)) rfl (by kernel_rfl) (by kernel_rfl) (by kernel_rfl) (fun _ _ _ h => Nrm.noPanic h) (Or.inl ⟨by rfl, ?hy2⟩) S7 ?rest2
          case hy2 =>
            intro Y hY
            obtain ⟨hY1, hY2⟩ := hY
            go_simp
          case rest2 =>
            change wpAnyH _ _ _ _ _ _ _ ⟨Array.setIfInBounds U1 33 (.int .i64 (i : Int)), _⟩ _
            generalize hTU2 : Array.setIfInBounds U1 33 (.int .i64 (i : Int)) = U2
            have g7 := set_ne hTU2 (by decide) f7
            have g8 := set_ne hTU2 (by decide) f8
            have g9 := set_ne hTU2 (by decide) f9
            have g32 := set_ne hTU2 (by decide) f32
            have g33 := set_same hTU2 szU1.out (by decide)
            have szU2 := hide (set_size hTU2 szU1.out)
            clear f7 f8 f9 f32 hTU2 szU1
            have f7 := g7
            have f8 := g8
            have f9 := g9
            have f32 := g32
            have f33 := g33
            clear g7 g8 g9 g32 g33
            refine wpAnyH_take (i := 3) (oi := _) (v := .pointer (some (ad.add (i * 4)))) rfl (by kernel_rfl) (by kernel_rfl) (by kernel_rfl) (fun _ _ _ h => Nrm.noPanic h) (Or.inl ⟨by rfl, ?hy3⟩) S7 ?rest3
            case hy3 =>
              intro Y hY
              obtain ⟨hY1, hY2⟩ := hY
              go_simp
            case rest3 =>
              change wpAnyH _ _ _ _ _ _ _ ⟨Array.setIfInBounds U2 34 (.pointer (some (ad.add (i * 4)))), _⟩ _
              generalize hTU3 : Array.setIfInBounds U2 34 (.pointer (some (ad.add (i * 4)))) = U3
              have g7 := set_ne hTU3 (by decide) f7
              have g8 := set_ne hTU3 (by decide) f8
              have g9 := set_ne hTU3 (by decide) f9
              have g34 := set_same hTU3 szU2.out (by decide)
              have szU3 := hide (set_size hTU3 szU2.out)
              clear f7 f8 f9 f32 f33 hTU3 szU2
              have f7 := g7
              have f8 := g8
              have f9 := g9
              have f34 := g34
              clear g7 g8 g9 g34
              refine wpAnyH_take (i := 4) (oi := _) (v := .pointer (some (ad.add (i * 4)))) rfl (by kernel_rfl) (by kernel_rfl) (by kernel_rfl) (fun _ _ _ h => Nrm.noPanic h) (Or.inl ⟨by rfl, ?hy4⟩) S7 ?rest4
              case hy4 =>
                intro Y hY
                obtain ⟨hY1, hY2⟩ := hY
                go_simp
              case rest4 =>
                change wpAnyH _ _ _ _ _ _ _ ⟨Array.setIfInBounds U3 35 (.pointer (some (ad.add (i * 4)))), _⟩ _
                generalize hTU4 : Array.setIfInBounds U3 35 (.pointer (some (ad.add (i * 4)))) = U4
                have g7 := set_ne hTU4 (by decide) f7
                have g8 := set_ne hTU4 (by decide) f8
                have g9 := set_ne hTU4 (by decide) f9
                have g35 := set_same hTU4 szU3.out (by decide)
                have szU4 := hide (set_size hTU4 szU3.out)
                clear f7 f8 f9 f34 hTU4 szU3
                have f7 := g7
                have f8 := g8
                have f9 := g9
                have f35 := g35
                clear g7 g8 g9 g35
                refine wpAnyH_take (i := 5) (oi := _) (v := .string x.1) rfl (by kernel_rfl) (by kernel_rfl) (by kernel_rfl) (fun _ _ _ h => Nrm.noPanic h) (Or.inl ⟨by rfl, ?hy5⟩) S7 ?rest5
                case hy5 =>
                  intro Y hY
                  obtain ⟨hY1, hY2⟩ := hY
                  go_simp
                case rest5 =>
                  change wpAnyH _ _ _ _ _ _ _ ⟨Array.setIfInBounds U4 36 (.string x.1), _⟩ _
                  generalize hTU5 : Array.setIfInBounds U4 36 (.string x.1) = U5
                  have g7 := set_ne hTU5 (by decide) f7
                  have g8 := set_ne hTU5 (by decide) f8
                  have g9 := set_ne hTU5 (by decide) f9
                  have g36 := set_same hTU5 szU4.out (by decide)
                  have szU5 := hide (set_size hTU5 szU4.out)
                  clear f7 f8 f9 f35 hTU5 szU4
                  have f7 := g7
                  have f8 := g8
                  have f9 := g9
                  have f36 := g36
                  clear g7 g8 g9 g36
                  refine wpAnyH_take (i := 6) (oi := _) (v := .slice (some ad) q cx) rfl (by kernel_rfl) (by kernel_rfl) (by kernel_rfl) (fun _ _ _ h => Nrm.noPanic h) (Or.inl ⟨by rfl, ?hy6⟩) S7 ?rest6
                  case hy6 =>
                    intro Y hY
                    obtain ⟨hY1, hY2⟩ := hY
                    go_simp
                  case rest6 =>
                    change wpAnyH _ _ _ _ _ _ _ ⟨Array.setIfInBounds U5 37 (.slice (some ad) q cx), _⟩ _
                    generalize hTU6 : Array.setIfInBounds U5 37 (.slice (some ad) q cx) = U6
                    have g7 := set_ne hTU6 (by decide) f7
                    have g9 := set_ne hTU6 (by decide) f9
                    have g36 := set_ne hTU6 (by decide) f36
                    have g37 := set_same hTU6 szU5.out (by decide)
                    have szU6 := hide (set_size hTU6 szU5.out)
                    clear f7 f8 f9 f36 hTU6 szU5
                    have f7 := g7
                    have f9 := g9
                    have f36 := g36
                    have f37 := g37
                    clear g7 g9 g36 g37
                    refine wpAnyH_take (i := 7) (oi := _) (v := .int .i64 (i : Int)) rfl (by kernel_rfl) (by kernel_rfl) (by kernel_rfl) (fun _ _ _ h => Nrm.noPanic h) (Or.inl ⟨by rfl, ?hy7⟩) S7 ?rest7
                    case hy7 =>
                      intro Y hY
                      obtain ⟨hY1, hY2⟩ := hY
                      go_simp
                    case rest7 =>
                      change wpAnyH _ _ _ _ _ _ _ ⟨Array.setIfInBounds U6 38 (.int .i64 (i : Int)), _⟩ _
                      generalize hTU7 : Array.setIfInBounds U6 38 (.int .i64 (i : Int)) = U7
                      have g7 := set_ne hTU7 (by decide) f7
                      have g36 := set_ne hTU7 (by decide) f36
                      have g37 := set_ne hTU7 (by decide) f37
                      have g38 := set_same hTU7 szU6.out (by decide)
                      have szU7 := hide (set_size hTU7 szU6.out)
                      clear f7 f9 f36 f37 hTU7 szU6
                      have f7 := g7
                      have f36 := g36
                      have f37 := g37
                      have f38 := g38
                      clear g7 g36 g37 g38
                      refine wpAnyH_take (i := 8) (oi := _) (v := .pointer (some (ad.add (i * 4)))) rfl (by kernel_rfl) (by kernel_rfl) (by kernel_rfl) (fun _ _ _ h => Nrm.noPanic h) (Or.inl ⟨by rfl, ?hy8⟩) S7 ?rest8
                      case hy8 =>
                        intro Y hY
                        obtain ⟨hY1, hY2⟩ := hY
                        go_simp
                      case rest8 =>
                        change wpAnyH _ _ _ _ _ _ _ ⟨Array.setIfInBounds U7 39 (.pointer (some (ad.add (i * 4)))), _⟩ _
                        generalize hTU8 : Array.setIfInBounds U7 39 (.pointer (some (ad.add (i * 4)))) = U8
                        have g7 := set_ne hTU8 (by decide) f7
                        have g36 := set_ne hTU8 (by decide) f36
                        have g39 := set_same hTU8 szU7.out (by decide)
                        have szU8 := hide (set_size hTU8 szU7.out)
                        clear f7 f36 f37 f38 hTU8 szU7
                        have f7 := g7
                        have f36 := g36
                        have f39 := g39
                        clear g7 g36 g39
                        refine wpAnyH_take (i := 9) (oi := _) (v := .pointer (some ⟨(ad.add (i * 4)).block, (ad.add (i * 4)).off + 3, none⟩)) rfl (by kernel_rfl) (by kernel_rfl) (by kernel_rfl) (fun _ _ _ h => Nrm.noPanic h) (Or.inl ⟨by rfl, ?hy9⟩) S7 ?rest9
                        case hy9 =>
                          intro Y hY
                          obtain ⟨hY1, hY2⟩ := hY
                          go_simp
                        case rest9 =>
                          change wpAnyH _ _ _ _ _ _ _ ⟨Array.setIfInBounds U8 40 (.pointer (some ⟨(ad.add (i * 4)).block, (ad.add (i * 4)).off + 3, none⟩)), _⟩ _
                          generalize hTU9 : Array.setIfInBounds U8 40 (.pointer (some ⟨(ad.add (i * 4)).block, (ad.add (i * 4)).off + 3, none⟩)) = U9
                          have g7 := set_ne hTU9 (by decide) f7
                          have g36 := set_ne hTU9 (by decide) f36
                          have g40 := set_same hTU9 szU8.out (by decide)
                          have szU9 := hide (set_size hTU9 szU8.out)
                          clear f7 f36 f39 hTU9 szU8
                          have f7 := g7
                          have f36 := g36
                          have f40 := g40
                          clear g7 g36 g40
                          refine wpAnyH_take (i := 10) (oi := _) (v := .string x.2.2.2) rfl (by kernel_rfl) (by kernel_rfl) (by kernel_rfl) (fun _ _ _ h => Nrm.noPanic h) (Or.inl ⟨by rfl, ?hy10⟩) S7 ?rest10
                          case hy10 =>
                            intro Y hY
                            obtain ⟨hY1, hY2⟩ := hY
                            go_simp
                          case rest10 =>
                            change wpAnyH _ _ _ _ _ _ _ ⟨Array.setIfInBounds U9 41 (.string x.2.2.2), _⟩ _
                            generalize hTU10 : Array.setIfInBounds U9 41 (.string x.2.2.2) = U10
                            have g7 := set_ne hTU10 (by decide) f7
                            have g36 := set_ne hTU10 (by decide) f36
                            have g41 := set_same hTU10 szU9.out (by decide)
                            have szU10 := hide (set_size hTU10 szU9.out)
                            clear f7 f36 f40 hTU10 szU9
                            have f7 := g7
                            have f36 := g36
                            have f41 := g41
                            clear g7 g36 g41
                            refine wpAnyH_take (i := 11) (oi := _) (v := .agg #[.string x.1, .string x.2.2.2]) rfl (by kernel_rfl) (by kernel_rfl) (by kernel_rfl) (fun _ _ _ h => Nrm.noPanic h) (Or.inl ⟨by rfl, ?hy11⟩) S7 ?rest11
                            case hy11 =>
                              intro Y hY
                              obtain ⟨hY1, hY2⟩ := hY
                              go_simp
                            case rest11 =>
                              change wpAnyH _ _ _ _ _ _ _ ⟨Array.setIfInBounds U10 42 (.agg #[.string x.1, .string x.2.2.2]), _⟩ _
                              generalize hTU11 : Array.setIfInBounds U10 42 (.agg #[.string x.1, .string x.2.2.2]) = U11
                              have g7 := set_ne hTU11 (by decide) f7
                              have g42 := set_same hTU11 szU10.out (by decide)
                              have szU11 := hide (set_size hTU11 szU10.out)
                              clear f7 f36 f41 hTU11 szU10
                              have f7 := g7
                              have f42 := g42
                              clear g7 g42
                              refine wpAnyH_ready (rs := [0, 12]) (by kernel_rfl) (by simp) ?_
                              refine AllReadyH.cons (o := _) rfl (fun K hK => ?_) ?_
                              · go_simp
                                refine hK.out _ _ S7 (fun _ => ?_)
                                clear hK K
                                change wpAnyH _ _ _ _ _ _ _ ⟨Array.setIfInBounds U11 31 (.slice Ao k0 co), _⟩ _
                                generalize hTU12 : Array.setIfInBounds U11 31 (.slice Ao k0 co) = U12
                                have g7 := set_ne hTU12 (by decide) f7
                                have g42 := set_ne hTU12 (by decide) f42
                                have g31 := set_same hTU12 szU11.out (by decide)
                                have szU12 := hide (set_size hTU12 szU11.out)
                                clear f7 f42 hTU12 szU11
                                have f7 := g7
                                have f42 := g42
                                have f31 := g31
                                clear g7 g42 g31
                                refine wpAnyH_ready (rs := [12]) (by kernel_rfl) (by simp) ?_
                                refine AllReadyH.cons (o := _) rfl (fun K hK => ?_) AllReadyH.nil
                                go_simp
                                refine hK.out _ _ S8 (fun _ => ?_)
                                clear hK K
                                change wpAnyH _ _ _ _ _ _ _ ⟨Array.setIfInBounds U12 43 (.slice (some ⟨w7.heap.size, 0, none⟩) 1 1), _⟩ _
                                generalize hTU13 : Array.setIfInBounds U12 43 (.slice (some ⟨w7.heap.size, 0, none⟩) 1 1) = U13
                                have g7 := set_ne hTU13 (by decide) f7
                                have g31 := set_ne hTU13 (by decide) f31
                                have g43 := set_same hTU13 szU12.out (by decide)
                                have szU13 := hide (set_size hTU13 szU12.out)
                                clear f7 f42 f31 hTU13 szU12
                                have f7 := g7
                                have f31 := g31
                                have f43 := g43
                                clear g7 g31 g43
                                refine wpAnyH_ready (rs := [13]) (by kernel_rfl) (by simp) ?_
                                refine AllReadyH.cons (o := _) rfl (fun K hK => ?_) AllReadyH.nil
                                refine Kd.R_append_step (P := Try.prog) kPr (w0 := w7) (W := w7) (g9 + 4) (by rfl) (.tmp 31) (.tmp 43) 39 55 _ 32 rfl Try.underlying39 info_pr rfl (by decide) (by decide) (.slice Ao k0 co) out (x.1, x.2.2.2) [.string x.1, .string x.2.2.2] (fun _ => True) (fun _ => False) (by first | exact f31 | (simp [Act.eval, f31]; done) | go_simp) (by first | exact f43 | (simp [Act.eval, f43]; done) | go_simp) (kPr_M _ _ _ _) (fun _ h => h.elim) (fun _ _ => trivial) O7 (Below.refl _ _) h74 hfit ?_
                                intro v1 w8 O8 HB8 hg8 _
                                have lv8 := (HB8.block g9 (by omega)).trans lv7
                                have d0 := blk_cell lv8 0
                                have d1 := blk_frozen lv8 0
                                have S9 : w8.cell? (ad.add (i * 4)) = some (.string x.1) ∧ w8.cell? ⟨(ad.add (i * 4)).block, (ad.add (i * 4)).off + 3, none⟩ = some (.string x.2.2.2) := ⟨(HB8.cell (Nat.lt_of_lt_of_le hblt (Nat.le_add_right _ _))).trans S7.1, (HB8.cell (show Addr.block ⟨(ad.add (i * 4)).block, (ad.add (i * 4)).off + 3, none⟩ < g9 + 4 from Nat.lt_of_lt_of_le hblt (Nat.le_add_right _ _))).trans S7.2⟩
                                obtain ⟨A8, c8, hv8, -⟩ := Ow.rd O8
                                obtain ⟨k8, hk8⟩ : ∃ k, (out ++ [(x.1, x.2.2.2)]).length = k := ⟨_, rfl⟩
                                rw [hk8] at hv8
                                subst hv8
                                have S10 : (w8.setCell ⟨g9, 0, none⟩ (.slice A8 k8 c8)).cell? (ad.add (i * 4)) = some (.string x.1) ∧ (w8.setCell ⟨g9, 0, none⟩ (.slice A8 k8 c8)).cell? ⟨(ad.add (i * 4)).block, (ad.add (i * 4)).off + 3, none⟩ = some (.string x.2.2.2) := ⟨(World.cell?_of_block (Below.heap_setCell _ _ _ _ (Nat.ne_of_lt hblt))).trans S9.1, (World.cell?_of_block (Below.heap_setCell _ _ _ _ (show Addr.block ⟨(ad.add (i * 4)).block, (ad.add (i * 4)).off + 3, none⟩ ≠ g9 from Nat.ne_of_lt hblt))).trans S9.2⟩
                                have R1 := HFIN.out w8 A8 c8 k8 HB8 O8
                                clear hk8
                                refine hK.out _ _ S9 (fun _ => ?_)
                                clear hK K
                                change wpAnyH _ _ _ _ _ _ _ ⟨Array.setIfInBounds U13 44 (.slice A8 k8 c8), _⟩ _
                                generalize hTU14 : Array.setIfInBounds U13 44 (.slice A8 k8 c8) = U14
                                have g7 := set_ne hTU14 (by decide) f7
                                have g44 := set_same hTU14 szU13.out (by decide)
                                have szU14 := hide (set_size hTU14 szU13.out)
                                clear f7 f31 f43 hTU14 szU13
                                have f7 := g7
                                have f44 := g44
                                clear g7 g44
                                refine wpAnyH_ready (rs := [14]) (by kernel_rfl) (by simp) ?_
                                refine AllReadyH.cons (o := _) rfl (fun K hK => ?_) AllReadyH.nil
                                go_simp
                                refine hK.out _ _ S10 (fun _ => ?_)
                                refine wpAnyH_done (by kernel_rfl) ⟨rfl, ?_⟩ _
                                exact R1
                              refine AllReadyH.cons (o := _) rfl (fun K hK => ?_) ?_
                              · go_simp
                                refine hK.out _ _ S8 (fun _ => ?_)
                                clear hK K
                                change wpAnyH _ _ _ _ _ _ _ ⟨Array.setIfInBounds U11 43 (.slice (some ⟨w7.heap.size, 0, none⟩) 1 1), _⟩ _
                                generalize hTU15 : Array.setIfInBounds U11 43 (.slice (some ⟨w7.heap.size, 0, none⟩) 1 1) = U15
                                have g7 := set_ne hTU15 (by decide) f7
                                have g43 := set_same hTU15 szU11.out (by decide)
                                have szU15 := hide (set_size hTU15 szU11.out)
                                clear f7 f42 hTU15 szU11
                                have f7 := g7
                                have f43 := g43
                                clear g7 g43
                                refine wpAnyH_ready (rs := [0]) (by kernel_rfl) (by simp) ?_
                                refine AllReadyH.cons (o := _) rfl (fun K hK => ?_) AllReadyH.nil
                                go_simp
                                refine hK.out _ _ S8 (fun _ => ?_)
                                clear hK K
                                change wpAnyH _ _ _ _ _ _ _ ⟨Array.setIfInBounds U15 31 (.slice Ao k0 co), _⟩ _
                                generalize hTU16 : Array.setIfInBounds U15 31 (.slice Ao k0 co) = U16
                                have g7 := set_ne hTU16 (by decide) f7
                                have g43 := set_ne hTU16 (by decide) f43
                                have g31 := set_same hTU16 szU15.out (by decide)
                                have szU16 := hide (set_size hTU16 szU15.out)
                                clear f7 f43 hTU16 szU15
                                have f7 := g7
                                have f43 := g43
                                have f31 := g31
                                clear g7 g43 g31
                                refine wpAnyH_ready (rs := [13]) (by kernel_rfl) (by simp) ?_
                                refine AllReadyH.cons (o := _) rfl (fun K hK => ?_) AllReadyH.nil
                                refine Kd.R_append_step (P := Try.prog) kPr (w0 := w7) (W := w7) (g9 + 4) (by rfl) (.tmp 31) (.tmp 43) 39 55 _ 32 rfl Try.underlying39 info_pr rfl (by decide) (by decide) (.slice Ao k0 co) out (x.1, x.2.2.2) [.string x.1, .string x.2.2.2] (fun _ => True) (fun _ => False) (by first | exact f31 | (simp [Act.eval, f31]; done) | go_simp) (by first | exact f43 | (simp [Act.eval, f43]; done) | go_simp) (kPr_M _ _ _ _) (fun _ h => h.elim) (fun _ _ => trivial) O7 (Below.refl _ _) h74 hfit ?_
                                intro v1 w8 O8 HB8 hg8 _
                                have lv8 := (HB8.block g9 (by omega)).trans lv7
                                have d0 := blk_cell lv8 0
                                have d1 := blk_frozen lv8 0
                                have S9 : w8.cell? (ad.add (i * 4)) = some (.string x.1) ∧ w8.cell? ⟨(ad.add (i * 4)).block, (ad.add (i * 4)).off + 3, none⟩ = some (.string x.2.2.2) := ⟨(HB8.cell (Nat.lt_of_lt_of_le hblt (Nat.le_add_right _ _))).trans S7.1, (HB8.cell (show Addr.block ⟨(ad.add (i * 4)).block, (ad.add (i * 4)).off + 3, none⟩ < g9 + 4 from Nat.lt_of_lt_of_le hblt (Nat.le_add_right _ _))).trans S7.2⟩
                                obtain ⟨A8, c8, hv8, -⟩ := Ow.rd O8
                                obtain ⟨k8, hk8⟩ : ∃ k, (out ++ [(x.1, x.2.2.2)]).length = k := ⟨_, rfl⟩
                                rw [hk8] at hv8
                                subst hv8
                                have S10 : (w8.setCell ⟨g9, 0, none⟩ (.slice A8 k8 c8)).cell? (ad.add (i * 4)) = some (.string x.1) ∧ (w8.setCell ⟨g9, 0, none⟩ (.slice A8 k8 c8)).cell? ⟨(ad.add (i * 4)).block, (ad.add (i * 4)).off + 3, none⟩ = some (.string x.2.2.2) := ⟨(World.cell?_of_block (Below.heap_setCell _ _ _ _ (Nat.ne_of_lt hblt))).trans S9.1, (World.cell?_of_block (Below.heap_setCell _ _ _ _ (show Addr.block ⟨(ad.add (i * 4)).block, (ad.add (i * 4)).off + 3, none⟩ ≠ g9 from Nat.ne_of_lt hblt))).trans S9.2⟩
                                have R1 := HFIN.out w8 A8 c8 k8 HB8 O8
                                clear hk8
                                refine hK.out _ _ S9 (fun _ => ?_)
                                clear hK K
                                change wpAnyH _ _ _ _ _ _ _ ⟨Array.setIfInBounds U16 44 (.slice A8 k8 c8), _⟩ _
                                generalize hTU17 : Array.setIfInBounds U16 44 (.slice A8 k8 c8) = U17
                                have g7 := set_ne hTU17 (by decide) f7
                                have g44 := set_same hTU17 szU16.out (by decide)
                                have szU17 := hide (set_size hTU17 szU16.out)
                                clear f7 f43 f31 hTU17 szU16
                                have f7 := g7
                                have f44 := g44
                                clear g7 g44
                                refine wpAnyH_ready (rs := [14]) (by kernel_rfl) (by simp) ?_
                                refine AllReadyH.cons (o := _) rfl (fun K hK => ?_) AllReadyH.nil
                                go_simp
                                refine hK.out _ _ S10 (fun _ => ?_)
                                refine wpAnyH_done (by kernel_rfl) ⟨rfl, ?_⟩ _
                                exact R1
                              exact AllReadyH.nil
  case done =>
    intro W hI hsz hD
    obtain ⟨hB1, hs2, e0, hAb, B1w⟩ := HQ.out
    obtain ⟨i1, i2, v, out, i3, i4, i5, i6⟩ := hI
    rw [show seen s (l.drop l.length) = [] from byK_end (seG s) l, List.append_nil] at i5
    subst i5
    obtain ⟨Av, cv, hv, -⟩ := i4.rd
    obtain ⟨kv, hkv⟩ : ∃ kv, out.length = kv := ⟨_, rfl⟩
    rw [hkv] at hv
    subst hv
    have c0 : W.cell? ⟨g9, 0, none⟩ = some (.slice Av kv cv) := blk_cell i3 0
    clear hkv
    gi_wp2
    refine ⟨by simp, .inl ⟨_, _, rfl, run_takeDeferred hD, ?_⟩⟩
    have hD3 := (Array.getElem?_eq_some_iff.1 hD).1
    refine leaves_nil (.tuple #[.slice Av kv cv, .int .i64 0]) ?_ ⟨.slice Av kv cv, rfl, ?_, ?_⟩
    · simp [results, Try.results14, go_sem]
    · rw [HT.out]
      exact (Ow.keep i4 (fun j h1 h2 => World.putObj_heap_other (by omega))).lower (by omega)
    · exact (B1w.trans (i1.mono (by omega))).trans ((Below.refl w.heap.size W).grown (grownBy_putObj' W (g9 + 2) _) (by omega) (fun k e => by cases e; omega))
end Go.Proofs.Ythfalpibhcjpgaa
end

section
/- The walk of MergeSame: what a snapshot sees, or a reader of now, is the same behind Thin. -/
namespace Go.Proofs.Ythfalpibhcjpgaa
open Go.RowKit Go.Proofs.YthfalpibhcjpgaaW.PrintWords
set_option linter.unusedVariables false

theorem all_sees (l : List Ent) (S : List Int) (b : Bool) (hz : thinErr l S = 0) (j : Nat) (hj : j < (S ++ [1099511627776]).length) : seen ((S ++ [1099511627776]).getD j 0) (thn S b l) = seen ((S ++ [1099511627776]).getD j 0) l := by
  have ho := (thin_ord l S hz).1
  refine seen_thn S b l (ord_pw l ho) _ ?_
  by_cases h : j < S.length
  · left
    rw [List.getD_eq_getElem?_getD, List.getElem?_append_left h, List.getElem?_eq_getElem h]
    exact List.getElem_mem _
  · right
    intro x hx
    have hj' : j = S.length := by rw [List.length_append, List.length_singleton] at hj; omega
    subst hj'
    rw [List.getD_eq_getElem?_getD, List.getElem?_append_right (Nat.le_refl _), Nat.sub_self]
    exact (ord_all l ho x hx).2.2.2.1
theorem seen_len (s : Int) (l : List Ent) (hl : l.Pairwise befE) : (seen s l).length ≤ l.length := by
  refine grp_ind (C := fun l => (seen s l).length ≤ l.length) (by rw [seen, byK]; exact Nat.le_refl _) ?_ l.length l (Nat.le_refl _) hl
  intro k g r hg0 hg hr hp ih
  have e : seen s (g ++ r) = seG s g ++ seen s r := byK_app _ rfl k g r hg (key_ne hr)
  rw [e, List.length_append, List.length_append]
  have h1 : (seG s g).length ≤ 1 := by
    unfold seG
    split
    · simp
    · split <;> simp
  have h2 : 0 < g.length := List.length_pos_iff.2 hg0
  omega
set_option maxRecDepth 100000 in
set_option maxHeartbeats 3200000 in
theorem same_walk (A : Option Addr) (c : Nat) (l : List Ent) (B : Option Addr) (d : Nat) (S : List Int) (b : Bool) (w : World) (hr : RdE w A c l) (hl : l.length * 48 ≤ 140737488351232) (hs : RdI w B d S) (hl2 : S.length ≤ 140737488351232) :
    Calls Try.prog 6 #[.slice A l.length c, .slice B S.length d, .bool b] w fun e w' => e = .returned (.bool true) ∧ Below w.heap.size w w' := by
  have hT := fun W (h : RdE W A c l) (h2 : RdI W B d S) => Thin_any A B c d _ _ l S b W rfl rfl h h2 hl hl2
  by_cases hz : thinErr l S = 0
  · simp only [hz, ne_eq, not_true, false_and, false_or, true_and] at hT
    obtain ⟨ho, h16⟩ := thin_ord l S hz
    have hoT := thn_ord S b l ho
    have hle := thn_len S b l hz
    have hAll := all_sees l S b hz
    have hsl := fun s => seen_len s l (ord_pw l ho)
    obtain ⟨T, hTT⟩ : ∃ T, thn S b l = T := ⟨_, rfl⟩
    rw [hTT] at hT hoT hle hAll
    obtain ⟨m, hm⟩ : ∃ m, S.length = m := ⟨_, rfl⟩
    obtain ⟨n, hn⟩ : ∃ n, l.length = n := ⟨_, rfl⟩
    obtain ⟨q, hq⟩ : ∃ q, T.length = q := ⟨_, rfl⟩
    rw [hn] at hl hle hsl
    rw [hq] at hle
    have hCp := fun W (h : RdI W B d S) => CopyI_any B d m S W hm h h16
    have hS1 := fun s W (h : RdE W A c l) => Seen_ok A c n l s W hn h hl ho
    have hS2 := fun A c s W (h : RdE W A c T) => Seen_ok A c q T s W hq h (by omega) hoT
    have hP := fun A C c d s W (h1 : RdP W A c (seen s l)) (h2 : RdP W C d (seen s l)) => SamePr_any A C c d _ (seen s l) W rfl h1 h2 (by have := hsl s; omega)
    have hqn : (q : Int) ≤ (n : Int) := by omega
    have hqn2 : q ≤ n := hle
    obtain ⟨L, hL⟩ : ∃ L, S ++ [(1099511627776 : Int)] = L := ⟨_, rfl⟩
    rw [hL] at hAll
    obtain ⟨m1, hm1⟩ : ∃ m1, L.length = m1 := ⟨_, rfl⟩
    rw [hm1] at hAll
    have hm17 : m1 ≤ 17 := by rw [← hm1, ← hL, List.length_append, List.length_singleton]; omega
    have hb8 : (S.length + 1) * 8 ≤ 140737488355328 := by omega
    have hmw : m1 ≤ 140737488351232 := by omega
    rw [hm, hn] at hT ⊢
    have HQ := hide hq
    have HALL := hide hAll
    have HL := hide hL
    have HM1 := hide hm1
    clear hz hle hTT hm hn hq hl hl2 hAll hsl ho h16 hoT hL hm1
    go_enter Try.func6, Try.ntmps6
    go_wp2_with (first
      | (go_at_call 7; (with_reducible refine (alive_any _).mono ?_); rintro e w1 ⟨rfl, HB1⟩; have r1 := hr.below HB1; have s1 := hs.below HB1)
      | (go_at_call 8; (with_reducible refine (hT _ r1 s1).mono ?_); rintro e w2 ⟨⟨v2, rfl, O2⟩, HB2⟩; obtain ⟨A2, c2, hv2, r2⟩ := O2.rd; rw [HQ.out] at hv2; subst hv2; have C2 := stq HB1 HB2; have s2 := s1.below HB2; have rl2 := r1.below HB2)
      | (go_at_call 13; (with_reducible refine (hCp _ s2).mono ?_); rintro e w3 ⟨v3, rfl, O3, HB3⟩)
      | (at_builtin; refine app_int (w0 := w2) w2.heap.size rfl (.tmp 31) (.tmp 32) rfl v3 S 1099511627776 rfl rfl O3 HB3 HB3.size hb8 ?_; intro v4 w4 O4 HB4 hg hat; rw [HL.out] at O4; obtain ⟨A4, c4, hv4, r4⟩ := O4.rd; rw [HM1.out] at hv4; subst hv4)
      | (go_at_call 9; (with_reducible refine (num_any _ _).mono ?_); rintro e w' ⟨rfl, rfl⟩))
    have C4 := stq C2 HB4
    have rl4 := rl2.below HB4
    have rT4 := r2.below HB4
    go_loopw [10] (fun iv wr => ∃ i : Nat, i ≤ m1 ∧ iv = .int .i64 (i : Int) ∧ Below w4.heap.size w4 wr) (fun iv _ => m1 - (intOf iv).toNat)
    case atStart => exact ⟨0, Nat.zero_le _, rfl, Below.refl _ _⟩
    case round =>
      obtain ⟨i, hi, rfl, HB⟩ := hrel
      by_cases hlt : i < m1
      · have hlti : (i : Int) < (m1 : Int) := Int.ofNat_lt.2 hlt
        obtain ⟨hw1, hw2⟩ := idx_w m1 i hlt hmw
        obtain ⟨ad, e1, x0⟩ := Rd.int_at (r4.below HB) i (by rw [HM1.out]; exact hlt)
        subst e1
        have hA := HALL.out i hlt
        obtain ⟨s, hs⟩ : ∃ s, L.getD i 0 = s := ⟨_, rfl⟩
        rw [hs] at x0 hA
        have rl5 := rl4.below HB
        have rT5 := rT4.below HB
        have HA := hide hA
        clear hs hA
        go_wp2_with (first
          | (go_at_call 14; (with_reducible refine (hS1 s _ rl5).mono ?_); rintro e w5 ⟨v5, rfl, O5, HB5⟩; obtain ⟨A5, c5, hv5, r5⟩ := O5.rd; have C5 := stq HB HB5; have y0 := (HB5.cell (World.block_lt_of_cell? _ _ x0)).trans x0; have rT6 := rT5.below HB5; subst hv5)
          | (go_at_call 14; (with_reducible refine (hS2 _ _ s _ rT6).mono ?_); rintro e w6 ⟨v6, rfl, O6, HB6⟩; rw [HA.out] at O6; obtain ⟨A6, c6, hv6, r6⟩ := O6.rd; have C6 := stq C5 HB6; have r56 := r5.below HB6; subst hv6)
          | (go_at_call 15; (with_reducible refine (hP _ _ _ _ s _ r56 r6).mono ?_); rintro e w7 ⟨rfl, HB7⟩; have C7 := stq C6 HB7)
          | (go_at_call 9; (with_reducible refine (num_any _ _).mono ?_); rintro e w' ⟨rfl, rfl⟩))
        go_roundw
        case rel => exact ⟨i + 1, hlt, by go_num, C7⟩
        case measure => first | exact idx_m m1 i hlt | exact idx_m2 m1 i hlt | exact idx_m3 m1 i hlt hw1
      · obtain rfl : i = m1 := Nat.le_antisymm hi (Nat.not_lt.1 hlt)
        clear hlt
        go_wp2
        go_ret
        exact ⟨by first | rfl | (simp; done) | (simp; omega), stq C4 HB⟩
  · simp only [hz, ne_eq, not_false_eq_true, true_and, false_and, or_false] at hT
    generalize thinErr l S = z at *
    have hzb : (z == 0) = false := beq_eq_false_iff_ne.2 hz
    generalize S.length = m at *
    generalize l.length = n at *
    go_enter Try.func6, Try.ntmps6
    go_wp2_with (first
      | (go_at_call 7; (with_reducible refine (alive_any _).mono ?_); rintro e w1 ⟨rfl, HB1⟩; have r1 := hr.below HB1; have s1 := hs.below HB1)
      | (go_at_call 8; (with_reducible refine (hT _ r1 s1).mono ?_); rintro e w2 ⟨rfl, HB2⟩; have C2 := stq HB1 HB2)
      | (go_at_call 9; (with_reducible refine (num_any _ _).mono ?_); rintro e w' ⟨rfl, rfl⟩))
    go_ret
    exact ⟨by first | rfl | simp, C2⟩
end Go.Proofs.Ythfalpibhcjpgaa
end
