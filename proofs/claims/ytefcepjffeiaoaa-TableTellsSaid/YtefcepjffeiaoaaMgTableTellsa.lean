/- What the law TableTells reaches besides, and its walk. -/
import Derived.Test.YtefcepjffeiaoaaMgA
import Derived.Test.YtefcepjffeiaoaaMgC
import Derived.Test.YtefcepjffeiaoaaMgB
import Derived.Test.YtefcepjffeiaoaaMgD
set_option linter.unusedVariables false
set_option linter.unusedSimpArgs false
section
/- Arguments opened: versions. -/
namespace Go.Proofs.Ytefcepjffeiaoaa
open Go.ChangeShapes Go.WideShapes Go.ChangeAt Go.RowKit Go.Proofs.YtefcepjffeiaoaaW.PrintWords
set_option maxRecDepth 100000
set_option linter.unusedVariables false
instance : Inhabited Ent := ⟨zEnt⟩
theorem open_ents {H : Type} {enc : TypeId × Value → H} {W : World} {base : Nat} {v : Value} {x : DataW H} {p : List MemPlace} (hv : Value.okWide Try.prog W .any base 22 v)
    (h : DataW.Trod enc Try.prog W 0 (fun _ => true) true 22 v x p) : ∃ A c l, v = .slice A l.length c ∧ RdE W A c l ∧ (∀ B, (∀ y ∈ x.weights Try.prog 22, y ≤ B) → l.length * 48 ≤ B) := by
  have o1 := opens_struct Try.underlying43 (d := kEnt) (by kernel_rfl) (opensF_cons rfl (by kernel_rfl) (opens_string Try.underlying9) (opensF_cons rfl (by kernel_rfl) (opens_int Try.underlying3) (opensF_cons rfl (by kernel_rfl) (opens_int Try.underlying3) (opensF_one rfl (by kernel_rfl) (opens_string Try.underlying9)))))
  have o2 := opens_slice (t := 22) Try.underlying22 (by kernel_rfl) o1
  obtain ⟨A, c, l, hv, hl, hC, hS, hU⟩ := open_slice_of Try.underlying22 o2 hv h
  refine ⟨A, c, l, hv, ⟨hl, hC⟩, fun B hB => ?_⟩
  have h1 := (hS B hB).1
  have e : Try.prog.bytesOf 43 = 48 := by kernel_rfl
  rw [e] at h1
  exact h1
end Go.Proofs.Ytefcepjffeiaoaa
end

section
/- Table: what the page tells of octets, plainly. -/
namespace Go.Proofs.Ytefcepjffeiaoaa
set_option linter.unusedVariables false

/-- the blocks' versions, the index being read on the way -/
def rcat (b : List UInt8) (at_ : Nat) : Nat → List UInt8 → Nat → List Ent → List Ent
  | 0, _, _, acc => acc
  | f + 1, x, pos, acc => if x = [] ∨ 4096 < acc.length then acc else if getErr x ≠ 0 ∨ at_ - pos < gN x then []
    else if getErr (x.drop (gK x)) ≠ 0 ∨ (x.drop (gK x)).length - gK (x.drop (gK x)) < gN (x.drop (gK x)) then []
    else if unE ((b.take (pos + gN x)).drop pos) ≠ 0 then []
    else rcat b at_ f ((x.drop (gK x)).drop (gK (x.drop (gK x)) + gN (x.drop (gK x)))) (pos + gN x) (acc ++ unL ((b.take (pos + gN x)).drop pos))
def rtoldP (b : List UInt8) (at_ to_ : Nat) : List Ent :=
  if to_ < at_ ∨ b.length < to_ then [] else if fgE ((b.take to_).drop at_) ≠ 0 then []
  else rcat b at_ (fgX ((b.take to_).drop at_)).length (fgX ((b.take to_).drop at_)) 0 []
def rtoldT (b : List UInt8) : List Ent := rtoldP b (num4 ((bare (footT b)).drop 4)) (num4 ((bare (footT b)).drop 8))
theorem idx_row (l : List Ent) (h : tabE l = 0) (n k : Nat) (hk : k + (n + 1) ≤ nparts l.length) : ∃ x1, indexS l (n + 1) k ≠ [] ∧ getErr (indexS l (n + 1) k) = 0 ∧ gN (indexS l (n + 1) k) = (blkX (part l k)).length ∧ (indexS l (n + 1) k).drop (gK (indexS l (n + 1) k)) = x1 ∧
    getErr x1 = 0 ∧ ¬ x1.length - gK x1 < gN x1 ∧ x1.drop (gK x1 + gN x1) = indexS l n (k + 1) := by
  obtain ⟨t1, t2, t3⟩ := tabE_ok l h
  obtain ⟨p1, p2, p3⟩ := part_chk l h k (by omega)
  have p4 := blkX_length _ p1 p3
  obtain ⟨m1, m2, _⟩ := (ordE_may l t3 (16 * k) (by unfold nparts at hk; omega)).1
  have hks : (keyAt l (16 * k)).size ≤ 96 := m2
  have e0 : indexS l (n + 1) k = put (blkX (part l k)).length ++ (put (keyAt l (16 * k)).size ++ (bl (keyAt l (16 * k)) ++ indexS l n (k + 1))) := by
    rw [indexS, rowB]; simp only [List.append_assoc]
  obtain ⟨g1, g2, g3⟩ := get_put2 (blkX (part l k)).length (by omega) (put (keyAt l (16 * k)).size ++ (bl (keyAt l (16 * k)) ++ indexS l n (k + 1)))
  obtain ⟨g4, g5, g6⟩ := get_put2 (keyAt l (16 * k)).size (by omega) (bl (keyAt l (16 * k)) ++ indexS l n (k + 1))
  have d2 : (put (keyAt l (16 * k)).size ++ (bl (keyAt l (16 * k)) ++ indexS l n (k + 1))).drop (vsize (keyAt l (16 * k)).size) = bl (keyAt l (16 * k)) ++ indexS l n (k + 1) := by
    rw [← put_length, List.drop_left]
  refine ⟨put (keyAt l (16 * k)).size ++ (bl (keyAt l (16 * k)) ++ indexS l n (k + 1)), ?_, ?_, ?_, ?_, g4, ?_, ?_⟩
  · rw [indexS]; exact rowB_ne l k _
  · rw [e0]; exact g1
  · rw [e0]; exact g2
  · rw [e0, g3, ← put_length, List.drop_left]
  · rw [g5, g6, List.length_append, put_length, List.length_append, bl_length]; omega
  · rw [g5, g6, ← List.drop_drop, d2]
    have : (keyAt l (16 * k)).size = (bl (keyAt l (16 * k))).length := (bl_length _).symm
    rw [this, List.drop_left]
theorem rcat_nil (b : List UInt8) (at_ f pos : Nat) (acc : List Ent) : rcat b at_ f [] pos acc = acc := by
  cases f with
  | zero => rfl
  | succ f => rw [rcat, if_pos (Or.inl rfl)]
theorem rcat_blocks (l : List Ent) (h : tabE l = 0) (rest : List UInt8) (n : Nat) : ∀ k f, k + n = nparts l.length → n ≤ f → rcat (bodyT l ++ rest) (bodyT l).length f (indexS l n k) (blocksB l k).length (l.take (16 * k)) = l := by
  obtain ⟨t1, t2, t3⟩ := tabE_ok l h
  induction n with
  | zero =>
    intro k f hk _
    rw [indexS, rcat_nil]
    exact List.take_of_length_le (by unfold nparts at hk; omega)
  | succ n ih =>
    intro k f hk hf
    obtain ⟨f, rfl⟩ : ∃ f', f = f' + 1 := ⟨f - 1, by omega⟩
    obtain ⟨x1, i1, i2, i3, i4, i5, i6, i7⟩ := idx_row l h n k (by omega)
    obtain ⟨p1, p2, p3⟩ := part_chk l h k (by omega)
    obtain ⟨u1, u2⟩ := un_blk _ p1
    have hb : bodyT l = blocksB l k ++ (blkX (part l k) ++ blocksS l n (k + 1)) := by
      have := blocksB_add l (n + 1) k
      rw [hk] at this
      rw [bodyT, this, blocksS]
    have hbl : (bodyT l).length = (blocksB l k).length + ((blkX (part l k)).length + (blocksS l n (k + 1)).length) := by rw [hb, List.length_append, List.length_append]
    have hcut : ((bodyT l ++ rest).take ((blocksB l k).length + (blkX (part l k)).length)).drop (blocksB l k).length = blkX (part l k) := by
      have e : bodyT l ++ rest = blocksB l k ++ blkX (part l k) ++ (blocksS l n (k + 1) ++ rest) := by rw [hb]; simp only [List.append_assoc]
      rw [e, ← List.length_append]
      exact mid_app _ _ _
    have e : l.take (16 * k) ++ part l k = l.take (16 * (k + 1)) := by
      rw [part, show 16 * (k + 1) = 16 * k + 16 by omega]
      conv => rhs; rw [← List.take_append_drop (16 * k) (l.take (16 * k + 16)), List.take_take, Nat.min_eq_left (by omega)]
    have hp : (blocksB l k).length + (blkX (part l k)).length = (blocksB l (k + 1)).length := by rw [blocksB, List.length_append]
    rw [rcat, if_neg (by rw [List.length_take]; rintro (h1 | h1); exact i1 h1; omega), i3, if_neg (by rw [hbl]; rintro (h1 | h1); exact h1 i2; omega), i4, if_neg (by rintro (h1 | h1); exact h1 i5; exact i6 h1), hcut, if_neg (fun h => h u1), u2, i7, e, hp]
    exact ih (k + 1) f (by omega) (by omega)
theorem rtoldP_tab (l : List Ent) (h : tabE l = 0) : rtoldP (tabB l) (bodyT l).length (outT l).length = l := by
  have h1 := outT_le l h
  have e0 : tabB l = bodyT l ++ putFX 2 (indexB l (nparts l.length)) ++ (putFX 3 (Bl.encF (filK l) (filX l)) ++ guarded (endT l)) := by rw [tabB, outT]; simp only [List.append_assoc]
  have e1 : ((tabB l).take (outT l).length).drop (bodyT l).length = putFX 2 (indexB l (nparts l.length)) := by rw [e0]; exact mid_app _ _ _
  obtain ⟨g1, g2, g3, g4⟩ := get_frame 2 (indexB l (nparts l.length)) [] (index_put l h)
  rw [List.append_nil] at g1 g3
  have e3 : (tabB l).length = (outT l).length + (putFX 3 (Bl.encF (filK l) (filX l)) ++ guarded (endT l)).length := by rw [tabB, List.append_assoc, List.length_append]
  have i1 := indexB_add l (nparts l.length) 0
  rw [Nat.zero_add] at i1
  have e4 : indexB l (nparts l.length) = indexS l (nparts l.length) 0 := by rw [i1, indexB]; rfl
  have hle : ∀ n k, n ≤ (indexS l n k).length := by
    intro n
    induction n with
    | zero => intro k; simp
    | succ n ih =>
      intro k
      have := ih (k + 1)
      have v := vsize_pos (blkX (part l k)).length
      rw [indexS, List.length_append, rowB, List.length_append, List.length_append, put_length]; omega
  rw [rtoldP, if_neg (by omega), e1, if_neg (fun h => h g1), g3, e4, e0, List.append_assoc]
  exact rcat_blocks l h _ (nparts l.length) 0 _ (by omega) (hle _ _)
theorem rtold_tab (l : List Ent) (h : tabE l = 0) : rtoldT (tabX l) = l := by
  have e : tabX l = tabB l := by rw [tabX, if_pos h]
  obtain ⟨n1, n2, _⟩ := nums_end l h
  rw [e, rtoldT, foot_tab l h, bare_guarded, n1, n2]
  exact rtoldP_tab l h
/-- the page's Open and the program's agree -/
theorem ropen_iff (b : List UInt8) : (tabE (rtoldT b) = 0 ∧ tabX (rtoldT b) = b) ↔ (tabE (toldT b) = 0 ∧ tabX (toldT b) = b) := by
  constructor
  · rintro ⟨h1, h2⟩
    have := told_tab _ h1
    rw [h2] at this
    rw [this]; exact ⟨h1, h2⟩
  · rintro ⟨h1, h2⟩
    have := rtold_tab _ h1
    rw [h2] at this
    rw [this]; exact ⟨h1, h2⟩
theorem ropen_same (b : List UInt8) (h : tabE (rtoldT b) = 0 ∧ tabX (rtoldT b) = b) : toldT b = rtoldT b := by
  have := told_tab _ h.1
  rw [h.2] at this
  exact this
theorem rcat_le (b : List UInt8) (at_ : Nat) (f : Nat) : ∀ x pos acc, acc.length ≤ 4160 → (∀ c, (unL c).length ≤ 64) → (rcat b at_ f x pos acc).length ≤ 4160 := by
  induction f with
  | zero => intro x pos acc h _; exact h
  | succ f ih =>
    intro x pos acc h hu
    rw [rcat]
    split
    · exact h
    · split
      · simp
      · split
        · simp
        · split
          · simp
          · refine ih _ _ _ ?_ hu
            have := hu ((b.take (pos + gN x)).drop pos)
            rw [List.length_append]; omega
end Go.Proofs.Ytefcepjffeiaoaa
end

section
/- Table: what the page tells of octets, walked. -/
namespace Go.Proofs.Ytefcepjffeiaoaa
open Go.RowKit Go.Proofs.YtefcepjffeiaoaaW.PrintWords
set_option linter.unusedVariables false

theorem rsm (a b : Nat) (ha : a ≤ 140737488355328) (hb : b ≤ 140737488355328) : ∃ J : Nat, a + b = J ∧ wrap64 ((a : Int) + (b : Int)) = (J : Int) ∧ IntKind.i64.wrap ((a : Int) + (b : Int)) = (J : Int) := by
  refine ⟨_, rfl, ?_, ?_⟩
  · unfold wrap64; omega
  · rw [IntKind.wrap_i64]; omega
theorem rsd (a b : Nat) (h : b ≤ a) (ha : a ≤ 140737488355328) : ∃ d : Nat, a - b = d ∧ wrap64 ((a : Int) - (b : Int)) = (d : Int) ∧ IntKind.i64.wrap ((a : Int) - (b : Int)) = (d : Int) ∧ IntKind.u64.wrap (d : Int) = (d : Int) := by
  refine ⟨_, rfl, ?_, ?_, ?_⟩
  · unfold wrap64; omega
  · rw [IntKind.wrap_i64]; omega
  · rw [IntKind.wrap_u64]; omega
theorem rsw (a : Nat) (ha : a ≤ 140737488355328) : IntKind.i64.wrap (a : Int) = (a : Int) := by rw [IntKind.wrap_i64]; omega
theorem rse (m al : Nat) (h : ¬ (m = 0 ∨ 4096 < al)) : 0 < m ∧ (0 : Int) < (m : Int) ∧ al ≤ 4096 ∧ (al : Int) ≤ 4096 := by omega
theorem rs0 (E d N : Nat) (h : E ≠ 0 ∨ d < N) : (¬ (E : Int) = 0) ∨ (E = 0 ∧ (d : Int) < (N : Int)) := by omega
theorem rs1 (E d N : Nat) (h : ¬ (E ≠ 0 ∨ d < N)) : E = 0 ∧ N ≤ d ∧ ¬ (d : Int) < (N : Int) := by omega
theorem rs2 (p N d a n : Nat) (h : N ≤ d) (hd : a - p = d) (hp : p ≤ a) (ha : a ≤ n) : p + N ≤ a ∧ p + N ≤ n ∧ p ≤ p + N := by omega
theorem rs3 (m K m3 K3 m4 N3 J f : Nat) (hm : m - K = m3) (h4 : m3 - K3 = m4) (h : N3 ≤ m4) (hq : K3 ≤ m3) (hJ : K3 + N3 = J) (h1 : 1 ≤ K) (h2 : K ≤ m) (hf : m ≤ f + 1) : J ≤ m3 ∧ m3 - J ≤ f ∧ m3 - J < m := by omega
set_option maxRecDepth 100000 in
set_option maxHeartbeats 6400000 in
theorem rtold_any10 (A : Option Addr) (c n at_ to_ : Nat) (b : List UInt8) (w : World) (hn : b.length = n) (hx : RdB w A c b) (hl : n ≤ 140737488355328) :
    Calls Try.prog 52 #[.slice A n c, .int .i64 (at_ : Int), .int .i64 (to_ : Int)] w fun e w' => ∃ v, e = .returned v ∧ OwE w' w.heap.size v (rtoldP b at_ to_) ∧ Below w.heap.size w w' := by
  rw [rtoldP, hn]
  by_cases h1 : to_ < at_ ∨ n < to_
  · rw [if_pos h1]
    have h2 : (to_ : Int) < (at_ : Int) ∨ (¬ (to_ : Int) < (at_ : Int) ∧ (n : Int) < (to_ : Int)) := by omega
    clear h1 hn hl
    rcases h2 with h2 | ⟨h2, h3⟩
    · go_enter Try.func52, Try.ntmps52
      go_wp2
      go_ret
      exact ⟨_, rfl, Ow.zero _ _ _ _, Below.refl _ _⟩
    · go_enter Try.func52, Try.ntmps52
      go_wp2
      go_ret
      exact ⟨_, rfl, Ow.zero _ _ _ _, Below.refl _ _⟩
  · rw [if_neg h1]
    obtain ⟨h2, h3⟩ : at_ ≤ to_ ∧ to_ ≤ n := by omega
    have h2i : ¬ (to_ : Int) < (at_ : Int) := by omega
    have h3i : ¬ (n : Int) < (to_ : Int) := by omega
    have hle := hx.le
    have hnc : n ≤ c := by rw [← hn]; exact hle
    have hsub := (hx.take to_ (by rw [hn]; exact h3)).drop at_ (by rw [List.length_take, hn]; omega)
    have hsl := fun W => slice_lohi 23 5 Try.underlying23 (i := _) rfl rfl A n c at_ to_ h2 (Nat.le_trans h3 hnc) W
    have hls : ((b.take to_).drop at_).length = to_ - at_ := by rw [List.length_drop, List.length_take, hn]; omega
    obtain ⟨A2, hA2⟩ : ∃ A2, cutA A c at_ = A2 := ⟨_, rfl⟩
    obtain ⟨c2, hc2⟩ : ∃ c2, c - at_ = c2 := ⟨_, rfl⟩
    obtain ⟨m2, hm2⟩ : ∃ m2, to_ - at_ = m2 := ⟨_, rfl⟩
    rw [hA2, hc2] at hsub hsl
    rw [hm2] at hsl hls
    have hm2l : m2 ≤ 140737488355328 := by omega
    have hatl : at_ ≤ 140737488355328 := by omega
    have hatn : at_ ≤ n := by omega
    have hxv : ∀ p q, p ≤ q → q ≤ n → RdB w (cutA A c p) (c - p) ((b.take q).drop p) ∧ ((b.take q).drop p).length = q - p := fun p q hpq hq => ⟨(hx.take q (by rw [hn]; exact hq)).drop p (by rw [List.length_take, hn]; omega), by rw [List.length_drop, List.length_take, hn]; omega⟩
    generalize (b.take to_).drop at_ = sub at *
    have hG := fun W (h : RdB W A2 c2 sub) => Fr.rFGet_any A2 c2 sub W h (by rw [hls]; exact hm2l)
    rw [hls] at hG
    unfold fil at hG
    have hXl := fgX_le sub
    clear hA2 hc2 hm2 hm2l h1 h2 h3 hle hls hn
    by_cases h4 : fgE sub = 0
    · rw [if_neg (fun h => h h4)]
      rw [h4] at hG
      obtain ⟨K, hK⟩ : ∃ K, fgK sub = K := ⟨_, rfl⟩
      obtain ⟨X, hX⟩ : ∃ X, fgX sub = X := ⟨_, rfl⟩
      obtain ⟨S, hS⟩ : ∃ S, fgS sub = S := ⟨_, rfl⟩
      rw [hX] at hXl ⊢
      rw [hK, hX, hS] at hG
      obtain ⟨nx, hnx⟩ : ∃ nx, X.length = nx := ⟨_, rfl⟩
      rw [hnx] at hXl hG ⊢
      obtain ⟨res, hres⟩ : ∃ res, rcat b at_ nx X 0 [] = res := ⟨_, rfl⟩
      rw [hres]
      have HR := hide hres
      have HNX := hide hnx
      clear hK hX hS h4 hnx hres
      go_enter Try.func52, Try.ntmps52
      go_wp2_with (first | (go_at_call 86; (with_reducible refine (hG _ hsub).mono ?_); rintro e w1 ⟨A3, c3, rfl, HO1, HB1⟩; have r1 := (HO1.rdl).below (below_alloc w1 (.cells #[.int .i64 K, .slice A3 nx c3] 81)); obtain ⟨b0, b1, b2, b3⟩ := (Bx.new w1 K (.slice A3 nx c3) 81).read))
      have HB3 : Below w.heap.size w (w1.alloc (.cells #[.int .i64 K, .slice A3 nx c3] 81)) := HB1.trans ((below_alloc w1 _).mono HB1.size)
      clear HO1 b0 b1 b2 b3 HB1 hG hsl hsub
      generalize w1.alloc (.cells #[.int .i64 K, .slice A3 nx c3] 81) = w3 at *
      go_loopw [10, 11, 12] (fun ov xv pv wr => ∃ (f : Nat) (x : List UInt8) (pos : Nat) (acc : List Ent) (A2 : Option Addr) (c2 m : Nat), x.length = m ∧ m ≤ f ∧ m ≤ 65536 ∧ pos ≤ at_ ∧ xv = .slice A2 m c2 ∧ RdB w3 A2 c2 x ∧ pv = .int .i64 (pos : Int) ∧ OwE wr w3.heap.size ov acc ∧ res = rcat b at_ f x pos acc ∧ Below w3.heap.size w3 wr) (fun ov xv pv _ => lenV xv)
      case atStart => exact ⟨nx, X, 0, [], A3, c3, nx, HNX.out, Nat.le_refl _, hXl, Nat.zero_le _, rfl, r1, rfl, Ow.zero _ _ _ _, HR.out.symm, Below.refl _ _⟩
      case round =>
        obtain ⟨f, x, pos, acc, A5, c5, m, hm, hmf, hmx, hpa, rfl, hrs, rfl, HO, hres, HB⟩ := hrel
        obtain ⟨Ao, co, hvo, -⟩ := HO.rd
        subst hvo
        obtain ⟨al, hal⟩ : ∃ al, acc.length = al := ⟨_, rfl⟩
        rw [hal] at HO ⊢
        by_cases h5 : m = 0 ∨ 4096 < al
        · have hE : res = acc := by
            rw [hres]
            cases f with
            | zero => rfl
            | succ f => rw [rcat, if_pos]; rcases h5 with h5 | h5; exact Or.inl (List.eq_nil_of_length_eq_zero (by rw [hm]; exact h5)); exact Or.inr (by rw [hal]; exact h5)
          have HEND := hide hE
          have HLOW := hide (HO.lower HB3.size)
          have HTO := hide (HB3.trans (HB.mono HB3.size))
          clear hres hE hxv HO
          by_cases h6 : m = 0
          · subst h6
            clear h5
            go_wp2
            go_ret
            exact ⟨.slice Ao al co, rfl, by rw [HEND.out]; exact HLOW.out, HTO.out⟩
          · have h7 : (0 : Int) < (m : Int) := by omega
            have h8 : ¬ (al : Int) ≤ 4096 := by omega
            clear h5 h6
            go_wp2
            go_ret
            exact ⟨.slice Ao al co, rfl, by rw [HEND.out]; exact HLOW.out, HTO.out⟩
        · obtain ⟨h6, h6i, h7, h7i⟩ := rse m al h5
          obtain ⟨f, rfl⟩ : ∃ f', f = f' + 1 := ⟨f - 1, by omega⟩
          rw [rcat, if_neg (by rw [hal]; rintro (h | h); exact h5 (Or.inl (by rw [← hm, h]; rfl)); exact h5 (Or.inr h))] at hres
          have hGx := fun W (h : RdB W A5 c5 x) => rGet_any A5 c5 x W h
          rw [hm] at hGx
          obtain ⟨d, hd, d1, d2, d3⟩ := rsd at_ pos hpa hatl
          rw [hd] at hres
          have hr2 := hrs.below HB
          by_cases h8 : getErr x ≠ 0 ∨ d < gN x
          · rw [if_pos h8] at hres
            have HEND := hide hres
            have HTO := hide (HB3.trans (HB.mono HB3.size))
            have h9 := rs0 (getErr x) d (gN x) h8
            clear hres h8 hxv h5 hal hd h7 h6 hmf
            obtain ⟨N, hN⟩ : ∃ N, gN x = N := ⟨_, rfl⟩
            rw [hN] at hGx h9
            generalize gK x = Kx at *
            rcases h9 with h9 | ⟨h9, h10⟩
            · generalize getErr x = E at *
              clear hN
              go_wp2_with (first | (go_at_call 87; (with_reducible refine (hGx _ hr2).mono ?_); rintro e w5 ⟨rfl, HB5⟩))
              go_ret
              exact ⟨_, rfl, by rw [HEND.out]; exact Ow.zero _ _ _ _, HTO.out.trans (HB5.mono HTO.out.size)⟩
            · rw [h9] at hGx
              clear hN h9
              go_wp2_with (first | (go_at_call 87; (with_reducible refine (hGx _ hr2).mono ?_); rintro e w5 ⟨rfl, HB5⟩))
              go_ret
              exact ⟨_, rfl, by rw [HEND.out]; exact Ow.zero _ _ _ _, HTO.out.trans (HB5.mono HTO.out.size)⟩
          · rw [if_neg h8] at hres
            obtain ⟨h9, hNd, hNdi⟩ := rs1 (getErr x) d (gN x) h8
            obtain ⟨k1, k2, -⟩ := gK_le x h9
            rw [h9] at hGx
            rw [hm] at k1
            obtain ⟨N, hN⟩ : ∃ N, gN x = N := ⟨_, rfl⟩
            obtain ⟨Kx, hKx⟩ : ∃ Kx, gK x = Kx := ⟨_, rfl⟩
            rw [hN] at hGx hres hNd hNdi
            rw [hKx] at hGx hres k1 k2
            have hr3w := hrs.drop Kx (by rw [hm]; exact k1)
            have hslx := fun W => slice_lo 23 5 Try.underlying23 (i := _) rfl rfl A5 m c5 Kx k1 W
            obtain ⟨A6, hA6⟩ : ∃ A6, cutA A5 c5 Kx = A6 := ⟨_, rfl⟩
            obtain ⟨c6, hc6⟩ : ∃ c6, c5 - Kx = c6 := ⟨_, rfl⟩
            obtain ⟨m3, hm3⟩ : ∃ m3, m - Kx = m3 := ⟨_, rfl⟩
            obtain ⟨b3, hb3⟩ : ∃ b3, x.drop Kx = b3 := ⟨_, rfl⟩
            have hl3 : b3.length = m3 := by rw [← hb3, List.length_drop, hm, hm3]
            rw [hA6, hc6, hb3] at hr3w
            rw [hA6, hc6, hm3] at hslx
            rw [hb3] at hres
            have hG3 := fun W (h : RdB W A6 c6 b3) => rGet_any A6 c6 b3 W h
            rw [hl3] at hG3 hres
            have hr3 := hr3w.below HB
            have hm3x : m3 ≤ 65536 := by omega
            clear hA6 hc6 hN hKx h8 h9 h5
            by_cases h10 : getErr b3 ≠ 0 ∨ m3 - gK b3 < gN b3
            · rw [if_pos h10] at hres
              have HEND := hide hres
              have HTO := hide (HB3.trans (HB.mono HB3.size))
              by_cases h11 : getErr b3 = 0
              · obtain ⟨q1, q2, -⟩ := gK_le b3 h11
                rw [hl3] at q1
                rw [h11] at hG3
                have h12 : m3 - gK b3 < gN b3 := by omega
                obtain ⟨m4, hm4, a1, a2, a3⟩ := rsd m3 (gK b3) q1 (Nat.le_trans hm3x (by decide))
                rw [hm4] at h12
                have h12i : (m4 : Int) < (gN b3 : Int) := by omega
                generalize gN b3 = N3 at *
                generalize gK b3 = K3 at *
                clear hres h10 h11 hxv hal hd h7 h6 hmf hm4 h12 q1 q2 hm3x hm3 k1 k2 hNd
                go_wp2_with (first | (go_at_call 87; (with_reducible refine (hGx _ hr2).mono ?_); rintro e w5 ⟨rfl, HB5⟩; have hr4 := hr3.below HB5) | (go_at_call 87; (with_reducible refine (hG3 _ hr4).mono ?_); rintro e w6 ⟨rfl, HB6⟩))
                go_ret
                exact ⟨_, rfl, by rw [HEND.out]; exact Ow.zero _ _ _ _, HTO.out.trans ((HB5.trans (HB6.mono HB5.size)).mono HTO.out.size)⟩
              · have h11i : ¬ (getErr b3 : Int) = 0 := by omega
                generalize getErr b3 = E3 at *
                generalize gN b3 = N3 at *
                generalize gK b3 = K3 at *
                clear hres h10 h11 hxv hal hd h7 h6 hmf hm3x hm3 k1 k2 hNd
                go_wp2_with (first | (go_at_call 87; (with_reducible refine (hGx _ hr2).mono ?_); rintro e w5 ⟨rfl, HB5⟩; have hr4 := hr3.below HB5) | (go_at_call 87; (with_reducible refine (hG3 _ hr4).mono ?_); rintro e w6 ⟨rfl, HB6⟩))
                go_ret
                exact ⟨_, rfl, by rw [HEND.out]; exact Ow.zero _ _ _ _, HTO.out.trans ((HB5.trans (HB6.mono HB5.size)).mono HTO.out.size)⟩
            · rw [if_neg h10] at hres
              obtain ⟨h11, hN3, hN3i⟩ := rs1 (getErr b3) (m3 - gK b3) (gN b3) h10
              obtain ⟨q1, q2, -⟩ := gK_le b3 h11
              rw [hl3] at q1
              rw [h11] at hG3
              obtain ⟨N3, hN3'⟩ : ∃ N3, gN b3 = N3 := ⟨_, rfl⟩
              obtain ⟨K3, hK3'⟩ : ∃ K3, gK b3 = K3 := ⟨_, rfl⟩
              simp only [hN3', hK3'] at hG3 hN3 hN3i hres
              rw [hK3'] at q1 q2
              obtain ⟨m4, hm4, a1, a2, a3⟩ := rsd m3 K3 q1 (Nat.le_trans hm3x (by decide))
              rw [hm4] at hN3 hN3i
              have hK3s : K3 ≤ 140737488355328 := by omega
              have hN3s : N3 ≤ 140737488355328 := by omega
              obtain ⟨J, hJ, e5, e6⟩ := rsm K3 N3 hK3s hN3s
              have e4 := rsw N3 hN3s
              rw [hJ] at hres
              obtain ⟨j1, j2, j3⟩ := rs3 m Kx m3 K3 m4 N3 J f hm3 hm4 hN3 q1 hJ k2 k1 hmf
              have hr5w := hr3w.drop J (by rw [hl3]; exact j1)
              have hsl3 := fun W => slice_lo 23 5 Try.underlying23 (i := _) rfl rfl A6 m3 c6 J j1 W
              have hl5 : (b3.drop J).length = m3 - J := by rw [List.length_drop, hl3]
              obtain ⟨p1, p2, p3⟩ := rs2 pos N d at_ n hNd hd hpa hatn
              have hNs : N ≤ 140737488355328 := by omega
              have hps : pos ≤ 140737488355328 := by omega
              obtain ⟨P, hP, f5, f6⟩ := rsm pos N hps hNs
              have f4 := rsw N hNs
              rw [hP] at hres p1 p2 p3
              have hslD := fun W => slice_lohi 23 5 Try.underlying23 (i := _) rfl rfl A n c pos P p3 (Nat.le_trans p2 hnc) W
              obtain ⟨rD, lD⟩ := hxv pos P p3 p2
              have hPN : P - pos = N := by omega
              rw [hPN] at lD hslD
              obtain ⟨A7, hA7⟩ : ∃ A7, cutA A c pos = A7 := ⟨_, rfl⟩
              obtain ⟨c7, hc7⟩ : ∃ c7, c - pos = c7 := ⟨_, rfl⟩
              rw [hA7, hc7] at rD hslD
              generalize (b.take P).drop pos = D at *
              have hD := fun W (h : RdB W A7 c7 D) => rDecode_any A7 c7 N D W lD h hNs
              have hul := unL_le D
              have rD3 := rD.below (HB3.trans (HB.mono HB3.size))
              have HRW := hide hr5w
              have HL5 := hide hl5
              have HJ := hide (And.intro j2 j3)
              have HM3 := hide (show m3 - J ≤ 65536 by omega)
              have HP1 := hide p1
              clear hA7 hc7 hPN hP p1 p2 p3 hNs hps hl5 j1 j2 j3 hJ hm4 hK3s hN3s hm3 hm3x k1 k2 q1 q2 hN3' hK3' h10 h11 hd hNd hmf hm rD lD hr3w hrs hr5w hN3
              by_cases h12 : unE D = 0
              · rw [if_neg (fun h => h h12)] at hres
                rw [h12] at hD
                obtain ⟨ys, hys⟩ : ∃ ys, unL D = ys := ⟨_, rfl⟩
                rw [hys] at hD hul hres
                obtain ⟨yl, hyl⟩ : ∃ yl, ys.length = yl := ⟨_, rfl⟩
                have hfit : (acc.length + ys.length) * 48 ≤ 140737488355328 := by rw [hal]; exact tld1 al ys.length 0 h7 hul
                have HFIT := hide hfit
                have HYL := hide hyl
                have HAL := hide hal
                have HRES := hide hres
                have HMX := hide hmx
                have HPA := hide hpa
                clear hfit hyl hal hres h12 hys hul hxv hmx hpa h7 h6 hatl hatn hnc
                go_wp2_with (first | (go_at_call 87; (with_reducible refine (hGx _ hr2).mono ?_); rintro e w5 ⟨rfl, HB5⟩; have hr4 := hr3.below HB5) | (go_at_call 87; (with_reducible refine (hG3 _ hr4).mono ?_); rintro e w6 ⟨rfl, HB6⟩; have rD5 := (rD3.below HB5).below HB6) | (go_at_call 88; (with_reducible refine (hD _ rD5).mono ?_); rintro e w7 ⟨v7, rfl, HO7, HB7⟩; obtain ⟨A8, c8, hv7, hr8⟩ := HO7.rd; rw [HYL.out] at hv7; subst hv7; have HBx := stp HB (stp HB5 (stp HB6 HB7)); have HOx := ((HO.below HB5).below HB6).below HB7) | (at_builtin; refine app_ents (w0 := w3) (W := w7) w3.heap.size rfl (.tmp 105) (.tmp 106) rfl _ acc ys A8 c8 (by rfl) (by rw [HYL.out]; rfl) HOx hr8 HBx HBx.size HFIT.out ?_; intro v9 w9 HO9 HB9 hg9 hd9; clear hd9; obtain ⟨A9, c9, hv9, -⟩ := HO9.rd; generalize (acc ++ ys).length = n9 at hv9; subst hv9))
                go_roundw
                case rel => exact ⟨f, b3.drop J, P, acc ++ ys, _, _, m3 - J, HL5.out, HJ.out.1, HM3.out, HP1.out, rfl, HRW.out, rfl, HO9, HRES.out, HB9⟩
                case measure => exact HJ.out.2
              · rw [if_pos h12] at hres
                have HEND := hide hres
                have HTO := hide (HB3.trans (HB.mono HB3.size))
                generalize unE D = E at *
                generalize unL D = ys at *
                clear hres hul hxv hal h7 h6 hatl hatn hnc hmx hpa
                go_wp2_with (first | (go_at_call 87; (with_reducible refine (hGx _ hr2).mono ?_); rintro e w5 ⟨rfl, HB5⟩; have hr4 := hr3.below HB5) | (go_at_call 87; (with_reducible refine (hG3 _ hr4).mono ?_); rintro e w6 ⟨rfl, HB6⟩; have rD5 := (rD3.below HB5).below HB6) | (go_at_call 88; (with_reducible refine (hD _ rD5).mono ?_); rintro e w7 ⟨v7, rfl, HO7, HB7⟩; obtain ⟨A8, c8, hv7, hr8⟩ := HO7.rd; generalize ys.length = yl at hv7; subst hv7))
                go_ret
                exact ⟨_, rfl, by rw [HEND.out]; exact Ow.zero _ _ _ _, stp HTO.out (stp HB5 (stp HB6 HB7))⟩
    · rw [if_pos h4]
      have h4i : ¬ fgE sub = 0 := h4
      generalize fgE sub = E at *
      generalize fgK sub = K at *
      generalize fgS sub = S at *
      generalize fgX sub = X at *
      generalize X.length = nx at *
      clear hxv
      go_enter Try.func52, Try.ntmps52
      go_wp2_with (first | (go_at_call 86; (with_reducible refine (hG _ hsub).mono ?_); rintro e w1 ⟨A3, c3, rfl, HO1, HB1⟩; obtain ⟨b0, b1, b2, b3⟩ := (Bx.new w1 K (.slice A3 nx c3) 81).read))
      go_ret
      exact ⟨_, rfl, Ow.zero _ _ _ _, HB1.trans ((below_alloc w1 _).mono HB1.size)⟩
end Go.Proofs.Ytefcepjffeiaoaa
end

section
/- Table: the page's number, walked. -/
namespace Go.Proofs.Ytefcepjffeiaoaa
open Go.RowKit Go.Proofs.YtefcepjffeiaoaaW.PrintWords
set_option linter.unusedVariables false

theorem rnum_bits (a b c d : Nat) (ha : a < 256) (hb : b < 256) (hc : c < 256) (hd : d < 256) :
    bits .or .i64 (bits .or .i64 (bits .or .i64 ((a : Int) * 16777216) ((b : Int) * 65536)) ((c : Int) * 256)) (d : Int) = ((((a * 256 + b) * 256 + c) * 256 + d : Nat) : Int) := by
  have key : ∀ (x y k : Nat), y < 2 ^ k → x * 2 ^ k < 9223372036854775808 → y < 9223372036854775808 → bits .or .i64 ((x * 2 ^ k : Nat) : Int) (y : Int) = ((x * 2 ^ k + y : Nat) : Int) := by
    intro x y k hy hx hy2
    rw [i64_or_nat _ _ hx hy2]
    congr 1
    have := Nat.shiftLeft_add_eq_or_of_lt (i := k) (b := y) hy x
    rw [Nat.shiftLeft_eq] at this
    exact this.symm
  have k1 := key a (b * 65536) 24 (by omega) (by omega) (by omega)
  have k2 := key (a * 256 + b) (c * 256) 16 (by omega) (by omega) (by omega)
  have k3 := key ((a * 256 + b) * 256 + c) d 8 (by omega) (by omega) (by omega)
  have e1 : (a : Int) * 16777216 = ((a * 2 ^ 24 : Nat) : Int) := by omega
  have e2 : (b : Int) * 65536 = ((b * 65536 : Nat) : Int) := by omega
  have e3 : (c : Int) * 256 = ((c * 256 : Nat) : Int) := by omega
  rw [e1, e2, k1, e3]
  rw [show a * 2 ^ 24 + b * 65536 = (a * 256 + b) * 2 ^ 16 by omega, k2, show (a * 256 + b) * 2 ^ 16 + c * 256 = ((a * 256 + b) * 256 + c) * 2 ^ 8 by omega, k3]
set_option maxRecDepth 100000 in
set_option maxHeartbeats 800000 in
theorem rnum_any (A : Option Addr) (c : Nat) (b : List UInt8) (w : World) (hn : b.length = 4) (hx : RdB w A c b) :
    Calls Try.prog 53 #[.slice A 4 c] w fun e w' => e = .returned (.int .i64 (num4 b : Int)) ∧ Below w.heap.size w w' := by
  obtain ⟨ad, rfl, hc⟩ := hx.2.2.2 (by omega)
  have hb := rnum_bits (b.getD 0 0).toNat (b.getD 1 0).toNat (b.getD 2 0).toNat (b.getD 3 0).toNat (b.getD 0 0).toNat_lt (b.getD 1 0).toNat_lt (b.getD 2 0).toNat_lt (b.getD 3 0).toNat_lt
  have x0 := hc 0 (by omega)
  have x1 := hc 1 (by omega)
  have x2 := hc 2 (by omega)
  have x3 := hc 3 (by omega)
  simp only [eu8] at x0 x1 x2 x3
  rcases ad with ⟨bk, off, spot⟩
  cases spot with
  | some sp =>
    exfalso
    simp [Addr.add, World.cell?] at x0
    split at x0 <;> simp at x0
  | none =>
  have za : ∀ j, (⟨bk, off, none⟩ : Addr).add j = ⟨bk, off + j, none⟩ := fun j => by unfold Addr.add; split <;> simp_all
  rw [za] at x0 x1 x2 x3
  rw [Nat.add_zero] at x0
  have e0 : num4 b = (((b.getD 0 0).toNat * 256 + (b.getD 1 0).toNat) * 256 + (b.getD 2 0).toNat) * 256 + (b.getD 3 0).toNat := rfl
  rw [e0]
  have l0 := (b.getD 0 0).toNat_lt
  have l1 := (b.getD 1 0).toNat_lt
  have l2 := (b.getD 2 0).toNat_lt
  have l3 := (b.getD 3 0).toNat_lt
  generalize (b.getD 0 0).toNat = a0 at *
  generalize (b.getD 1 0).toNat = a1 at *
  generalize (b.getD 2 0).toNat = a2 at *
  generalize (b.getD 3 0).toNat = a3 at *
  have w0 : IntKind.i64.wrap (a0 : Int) = (a0 : Int) := by rw [IntKind.wrap_i64]; omega
  have w1 : IntKind.i64.wrap (a1 : Int) = (a1 : Int) := by rw [IntKind.wrap_i64]; omega
  have w2 : IntKind.i64.wrap (a2 : Int) = (a2 : Int) := by rw [IntKind.wrap_i64]; omega
  have w3 : IntKind.i64.wrap (a3 : Int) = (a3 : Int) := by rw [IntKind.wrap_i64]; omega
  have v0 : IntKind.i64.wrap ((a0 : Int) * 16777216) = (a0 : Int) * 16777216 := by rw [IntKind.wrap_i64]; omega
  have v1 : IntKind.i64.wrap ((a1 : Int) * 65536) = (a1 : Int) * 65536 := by rw [IntKind.wrap_i64]; omega
  have v2 : IntKind.i64.wrap ((a2 : Int) * 256) = (a2 : Int) * 256 := by rw [IntKind.wrap_i64]; omega
  clear hc hx hn e0 l0 l1 l2 l3 za
  go_enter Try.func53, Try.ntmps53
  go_wp2
  go_still (by kernel_rfl)
  go_wp2
  go_ret
  exact ⟨by simp only [Int.natCast_add, Int.natCast_mul]; rfl, (Below.refl _ _).drew⟩
end Go.Proofs.Ytefcepjffeiaoaa
end

section
/- Table: the reference's keys and four octets, out of the printed contracts. -/
namespace Go.Proofs.Ytefcepjffeiaoaa
open Go.RowKit Go.Proofs.YtefcepjffeiaoaaW.PrintWords
set_option linter.unusedVariables false

theorem wrap64_pred (i : Nat) (h0 : 0 < i) (h : i < 9223372036854775807) : wrap64 ((i : Int) - 1) = ((i - 1 : Nat) : Int) := by
  unfold wrap64
  omega
theorem rKeys_l0 (l : List Ent) (hl : l.length ≤ 1000000) : ∀ d i, l.length - i = d → i ≤ l.length → Ev (fun k => PB.ticklerref10_Keys.l0 k (l.map mkE) (keysE l i) (i : Int)) (keysE l l.length) := by
  intro d
  induction d with
  | zero =>
    intro i hd hi
    obtain rfl : i = l.length := by omega
    refine Ev.now' fun k => ?_
    rw [PB.ticklerref10_Keys.l0, if_neg (by rw [List.length_map]; omega)]
  | succ d ih =>
    intro i hd hi
    have hlt : i < l.length := by omega
    have h1 := ih (i + 1) (by omega) (by omega)
    have hle := keysE_le l i
    refine Ev.step (fun k => ?_) h1
    rw [PB.ticklerref10_Keys.l0, if_pos (by rw [List.length_map]; omega), wrap64_succ i (by omega)]
    by_cases h0 : i = 0
    · subst h0
      rw [if_pos (by rfl), if_pos (by omega), if_pos (by omega), rdE_map l 0 hlt]
      rfl
    · rw [if_neg (by omega), if_pos (by omega), wrap64_pred i (by omega) (by omega), if_pos (by omega), if_pos (by rw [List.length_map]; omega), rdE_map l i hlt, rdE_map l (i - 1) (by omega)]
      by_cases h2 : keyAt l i = keyAt l (i - 1)
      · have e : keysE l (i + 1) = keysE l i := by rw [keysE, if_neg (by rintro (h | h); exact h0 h; exact h h2)]
        rw [e, if_pos (show (mkE (l.getD i zEnt)).f0.toList = (mkE (l.getD (i - 1) zEnt)).f0.toList by show (keyAt l i).toList = (keyAt l (i - 1)).toList; rw [h2])]
      · have e : keysE l (i + 1) = keysE l i ++ [keyAt l i] := by rw [keysE, if_pos (.inr h2)]
        rw [e, if_neg (show ¬ (mkE (l.getD i zEnt)).f0.toList = (mkE (l.getD (i - 1) zEnt)).f0.toList from fun h => h2 (toList_inj h)), if_pos (by omega)]
        rfl
theorem rKeys_any (A : Option Addr) (c n : Nat) (l : List Ent) (w : World) (hn : l.length = n) (hr : RdE w A c l) (hl : n ≤ 1000000) :
    Calls Try.prog 42 #[.slice A n c] w fun e w' => ∃ v, e = .returned v ∧ Bl.OwS w' w.heap.size v (keysE l n) ∧ Below w.heap.size w w' := by
  subst hn
  obtain ⟨k, hk⟩ := (rKeys_l0 l hl _ 0 rfl (Nat.zero_le _)).rounds
  have h := PB.ticklerref10_Keys.calls k A c (l.map mkE) _ w hr.mk.2 hr.mk.1 hk
  rw [List.length_map] at h
  refine h.mono ?_
  rintro e w' ⟨v, rfl, HR, HB⟩
  exact ⟨v, rfl, Kd.own_of_R HR, HB⟩
theorem rfour_any (n : Nat) (w : World) : Calls Try.prog 44 #[.int .i64 (n : Int)] w fun e w' => ∃ v, e = .returned v ∧ OwB w' w.heap.size v (fourN n) ∧ Below w.heap.size w w' := by
  refine (PB.ticklerref10_four.calls (n : Int) _ w rfl).mono ?_
  rintro e w' ⟨v, rfl, HR, HB⟩
  refine ⟨v, rfl, ?_, HB⟩
  have h := Kd.own_of_R HR
  have e : encs (fun x : Int => Value.int .u8 x) [(n : Int) / 16777216 % 256, (n : Int) / 65536 % 256, (n : Int) / 256 % 256, (n : Int) % 256] = encs eu8 (fourN n) := by
    simp only [encs, fourN, List.map_cons, List.map_nil, eu8, UInt8.toNat_ofNat']
    congr 2
  rw [show OwB w' w.heap.size v (fourN n) = w'.ownsRow w.heap.size 5 1 v (fourN n).length (encs eu8 (fourN n)) from rfl, ← e]
  exact h
end Go.Proofs.Ytefcepjffeiaoaa
end

section
/- Table: the reference's Build, walked. -/
namespace Go.Proofs.Ytefcepjffeiaoaa
open Go.RowKit Go.Proofs.YtefcepjffeiaoaaW.PrintWords
set_option linter.unusedVariables false

theorem ref_facts (n k : Nat) (hk : 16 * k < n) (hn : n ≤ 1000000) : ∃ i i16 j : Nat, 16 * k = i ∧ (i : Int) + 16 = (i16 : Int) ∧ min i16 n = j ∧ j - i = endN n k ∧ i ≤ j ∧ j ≤ n ∧ (i : Int) < (n : Int) ∧ i < n ∧ i16 = 16 * (k + 1) := by
  refine ⟨_, 16 * k + 16, _, rfl, by omega, rfl, ?_, ?_, ?_, by omega, hk, by omega⟩
  · unfold endN; omega
  · omega
  · omega
theorem ref_min (a b j : Nat) (h : min a b = j) : ∀ tys ty W, (Builtin.min_ tys ty #[.int .i64 (a : Int), .int .i64 (b : Int)]).run Try.prog W = .ok (.int .i64 (j : Int)) W := by
  intro tys ty W
  have h2 := min2_nat .i64 a b
  have e0 : Builtin.min_ tys ty #[.int .i64 (a : Int), .int .i64 (b : Int)] = Builtin.min2 (.int .i64 (a : Int)) (.int .i64 (b : Int)) := by simp [Builtin.min_]
  rw [e0, h2]
  show (pure (Value.int .i64 ((min a b : Nat) : Int)) : Sem Value).run Try.prog W = _
  rw [h]
  rfl
/-- a part that is read, as the reference cuts it -/
theorem part_rd2 (A : Option Addr) (c n i j : Nat) (l : List Ent) (w : World) (hn : l.length = n) (hr : RdE w A c l) (k : Nat) (hi : 16 * k = i) (hj : j - i = endN n k) (hij : i ≤ j) (hjn : j ≤ n) (hlt : i < n) : (part l k).length = endN n k ∧ RdE w (cutK 4 A c i) (c - i) (part l k) := by
  subst hi
  obtain ⟨h1, h2⟩ := part_rd A c n l w hn hr k hlt
  have h3 := hr.mid (16 * k) j hij (by omega)
  have h4 : (l.take j).drop (16 * k) = part l k := by
    rw [part]
    have e : j = 16 * k + endN n k := by omega
    have : l.take j = l.take (16 * k + 16) := by
      rw [e]
      rcases Nat.lt_or_ge (16 * k + 16) n with h | h
      · rw [show endN n k = 16 by unfold endN; omega]
      · rw [List.take_of_length_le (by unfold endN; omega), List.take_of_length_le (by omega)]
    rw [this]
  rw [h4] at h3
  exact ⟨h1, h3⟩
theorem rfilt_any (A : Option Addr) (c kn : Nat) (l : List Ent) (W : World) (hT : tabE l = 0) (hk : (keysE l l.length).length = kn) (h : Bl.RdS W A c (keysE l l.length)) :
    Calls Try.prog 41 #[.slice A kn c, .int .i64 10] W fun e' w' => ∃ A' c', e' = .returned (.tuple #[.agg #[.int .i64 (filK l), .slice A' (filX l).length c'], .int .i64 0]) ∧ OwB w' W.heap.size (.slice A' (filX l).length c') (filX l) ∧ Below W.heap.size W w' := by
  obtain ⟨t1, t2, t3⟩ := tabE_ok l hT
  obtain ⟨f1, f2, f3, f4, f5⟩ := fil_ok l hT
  have fE : Bl.makeE 10 (keysE l l.length).length = 0 := by
    have h0 := f1.2.2
    rw [Bl.makeE, if_neg (by decide), if_neg (by omega)]
  have hM := Bl.rMake_any A c (keysE l l.length) 10 (fun s hs => Nat.le_trans (keys_small l t3 _ (Nat.le_refl _) s hs) (by decide)) W h
  rw [fE] at hM
  unfold Bl.fil at hM
  rw [← hk]
  exact hM
set_option maxRecDepth 100000 in
set_option maxHeartbeats 6400000 in
theorem rBuild_ok (A : Option Addr) (c n : Nat) (l : List Ent) (w : World) (hn : l.length = n) (hr : RdE w A c l) (hT : tabE l = 0) :
    Calls Try.prog 12 #[.slice A n c] w fun e w' => ∃ v, e = .returned (.tuple #[v, .int .i64 0]) ∧ OwB w' w.heap.size v (tabB l) ∧ Below w.heap.size w w' := by
  obtain ⟨t1, t2, t3⟩ := tabE_ok l hT
  have HN := hide hn
  have hOr := rOrdered_any A c n l w hn hr (by omega)
  rw [t3] at hOr
  rw [hn] at t1 t2
  have hn6 : n ≤ 1000000 := by omega
  have hnp : nparts n = nparts l.length := by rw [hn]
  have i1 : ¬ (n : Int) < 1 := by omega
  have i2 : ¬ 4096 < (n : Int) := by omega
  have hle := hr.le
  have hnc : n ≤ c := by rw [← hn]; exact hle
  clear hn hle
  go_enter Try.func12, Try.ntmps12
  go_wp2_with (first | (go_at_call 37; (with_reducible refine hOr.mono ?_); rintro e w1 ⟨rfl, HB1⟩))
  clear hOr i1 i2
  go_loopw [5, 6, 7] (fun bv xv iv wr => ∃ k : Nat, k ≤ nparts n ∧ iv = .int .i64 ((16 * k : Nat) : Int) ∧ OwB wr w.heap.size bv (blocksB l k) ∧ OwB wr w.heap.size xv (indexB l k) ∧ Dis bv xv ∧ Below w.heap.size w wr) (fun bv xv iv _ => n + 16 - (intOf iv).toNat)
  case atStart => exact ⟨0, Nat.zero_le _, rfl, OwB.zero _ _, OwB.zero _ _, Dis.nil _, HB1⟩
  case round =>
    obtain ⟨k, hk, rfl, O5, O6, D56, HB⟩ := hrel
    by_cases hlt : 16 * k < n
    · have hkN : k < nparts l.length := by rw [← hnp]; unfold nparts; omega
      have hkn1 : k + 1 ≤ nparts n := by rw [hnp]; exact hkN
      obtain ⟨i, i16, j, f1, f2, f3, f4, f5, f6, f7, f8, f9⟩ := ref_facts n k hlt hn6
      have hmn := ref_min i16 n j f3
      have hsl := fun W => sliceK_lohi 22 43 Try.underlying22 (i := _) rfl 4 rfl A n c i j f5 (Nat.le_trans f6 hnc) W
      rw [f4] at hsl
      obtain ⟨p1, p2⟩ := part_rd2 A c n i j l wr HN.out (hr.below HB) k f1 f4 f5 f6 f8
      obtain ⟨c1, -, -⟩ := part_chk l hT k hkN
      obtain ⟨m1, m2, m3, m4⟩ := blocks_fit l hT k hkN
      have hEn := rEncode_any _ (c - i) (endN n k) (part l k) wr p1 p2 (Nat.le_trans (Nat.min_le_left _ _) (by decide))
      rw [c1] at hEn
      have H5 := hide (show blocksB l (k + 1) = blocksB l k ++ blkX (part l k) from rfl)
      have H6 : Hid (indexB l (k + 1) = indexB l k ++ put (blkX (part l k)).length ++ put (keyAt l (16 * k)).size ++ bl (keyAt l (16 * k))) := hide (by rw [indexB, rowB]; simp only [List.append_assoc])
      obtain ⟨ad, rfl, x0w, -, -, -⟩ := hr.at4 i (by rw [HN.out]; exact f8)
      have x0l := World.block_lt_of_cell? _ _ x0w
      have hkw : (l.getD i zEnt).1 = keyAt l (16 * k) := by rw [f1]; rfl
      rw [hkw] at x0w
      obtain ⟨X8, hX8⟩ : ∃ X8, blkX (part l k) = X8 := ⟨_, rfl⟩
      obtain ⟨ky, hky⟩ : ∃ ky, keyAt l (16 * k) = ky := ⟨_, rfl⟩
      rw [hX8] at hEn m1 m2 m3 H5 H6
      rw [hky] at m2 m4 H6 x0w
      obtain ⟨n8, hn8⟩ : ∃ n8, X8.length = n8 := ⟨_, rfl⟩
      rw [hn8] at m1 m2 m3 H6
      have hP8 := fun W => rPut_any n8 (by omega) W
      have hPk := fun W => rPut_any ky.size (by omega) W
      obtain ⟨z1, z2, z3, z4⟩ := u64_facts n8 ky.size (by omega) (by omega)
      obtain ⟨L8, hL8⟩ : ∃ L8, (put n8).length = L8 := ⟨_, rfl⟩
      obtain ⟨Lk, hLk⟩ : ∃ Lk, (put ky.size).length = Lk := ⟨_, rfl⟩
      rw [hL8, hLk, bl_length] at m2
      have q1 : (blocksB l k).length + n8 ≤ 140737488355328 := m1
      have q2 : (indexB l k).length + L8 ≤ 140737488355328 := by omega
      have q3 : (indexB l k ++ put n8).length + Lk ≤ 140737488355328 := by rw [List.length_append, hL8]; omega
      have q4 : (indexB l k ++ put n8 ++ put ky.size).length + ky.size ≤ 140737488355328 := by rw [List.length_append, List.length_append, hL8, hLk]; omega
      have G1 := hide q1
      have G2 := hide q2
      have G3 := hide q3
      have G4 := hide q4
      have E8 := hide hn8
      have EL8 := hide hL8
      have ELk := hide hLk
      have F9 := hide f9
      have F1 := hide f1
      have F8 := hide f8
      rw [f1]
      clear q1 q2 q3 q4 m1 m2 m3 m4 hn8 hL8 hLk c1 hX8 hky hkw p1 p2 f1 f3 f4 f5 f6 f8 f9 hlt hkN hk
      go_wp2_with (first | (go_at_call 38; (with_reducible refine hEn.mono ?_); rintro e w2 ⟨v8, rfl, O8, HB2⟩; obtain ⟨A8, c8, hv8, r8⟩ := O8.rd; rw [E8.out] at hv8; subst hv8; have C2 := HB.trans (HB2.mono HB.size); have O52 := O5.below HB2; have O62 := O6.below HB2; obtain ⟨v53, w3, hap3, O53, hg3, hat3⟩ := row_run (W := w2) w.heap.size 23 _ (blocksB l k) X8 A8 n8 c8 E8.out O52 r8 C2.size G1.out; have C3 := C2.grown hg3 C2.size (fun j e => own_base O52 j e); have O63 := O62.apart D56 hg3; have D3 := D56.step hat3 O62) | (go_at_call 39; (with_reducible refine (hP8 _).mono ?_); rintro e w4 ⟨v4, rfl, O4, HB4⟩; obtain ⟨A4, c4, hv4, r4⟩ := O4.rd; rw [EL8.out] at hv4; subst hv4; have C4 := C3.trans (HB4.mono C3.size); have O54 := O53.below HB4; have O64 := O63.below HB4; obtain ⟨v65, w5, hap5, O65, hg5, hat5⟩ := row_run (W := w4) w.heap.size 23 _ (indexB l k) (put n8) A4 L8 c4 EL8.out O64 r4 C4.size G2.out; have C5 := C4.grown hg5 C4.size (fun j e => own_base O64 j e); have O55 := O54.apart D3.symm hg5; have D5 := D3.symm.step hat5 O54; have x5 := (C5.cell x0l).trans x0w) | (go_at_call 39; (with_reducible refine (hPk _).mono ?_); rintro e w6 ⟨v6, rfl, O6_, HB6⟩; obtain ⟨A6, c6, hv6, r6⟩ := O6_.rd; rw [ELk.out] at hv6; subst hv6; have C6 := C5.trans (HB6.mono C5.size); have O56 := O55.below HB6; have O66 := O65.below HB6; obtain ⟨v67, w7, hap7, O67, hg7, hat7⟩ := row_run (W := w6) w.heap.size 23 _ (indexB l k ++ put n8) (put ky.size) A6 Lk c6 ELk.out O66 r6 C6.size G3.out; have C7 := C6.grown hg7 C6.size (fun j e => own_base O66 j e); have O57 := O56.apart D5 hg7; have D7 := D5.step hat7 O56; have x7 := (C7.cell x0l).trans x0w; obtain ⟨v68, w8, hap8, O68, C8, hg8, hat8⟩ := str_run (w0 := w) (W := w7) w.heap.size 23 _ (indexB l k ++ put n8 ++ put ky.size) ky O67 C7 C7.size G4.out; have O58 := O57.apart D7 hg8; have D8 := D7.step hat8 O57) | (at_builtin; refine app_step rfl (.tmp 50) (.tmp 51) 23 23 rfl rfl rfl hap3 ?_) | (at_builtin; refine app_step rfl (.tmp 53) (.tmp 57) 23 23 rfl rfl rfl hap5 ?_) | (at_builtin; refine app_step rfl (.tmp 59) (.tmp 67) 23 23 rfl rfl rfl hap7 ?_) | (at_builtin; refine app_step rfl (.tmp 69) (.tmp 74) 23 9 rfl rfl rfl hap8 ?_))
      rw [← H6.out] at O68
      rw [← H5.out] at O58
      go_roundw
      case rel => exact ⟨k + 1, hkn1, by rw [← F9.out], O58, O68, D8.symm, C8⟩
      case measure =>
        have h1 := F9.out
        have h2 := F1.out
        have h3 := F8.out
        simp only [intOf, Int.toNat_natCast]
        omega
    · obtain rfl : k = nparts n := by unfold nparts at *; omega
      have hlt2 : ¬ ((16 * nparts n : Nat) : Int) < (n : Int) := by omega
      have hT5 : blocksB l (nparts n) = bodyT l := by rw [hnp]; rfl
      have hT6 : indexB l (nparts n) = indexB l (nparts l.length) := by rw [hnp]
      rw [hT5] at O5
      rw [hT6] at O6
      obtain ⟨A5, c5, hv5, r5⟩ := O5.rd
      obtain ⟨A6, c6, hv6, r6⟩ := O6.rd
      obtain ⟨n5, hn5⟩ : ∃ n5, (bodyT l).length = n5 := ⟨_, rfl⟩
      obtain ⟨IX, hIX⟩ : ∃ IX, indexB l (nparts l.length) = IX := ⟨_, rfl⟩
      rw [hIX] at O6 r6 hv6
      obtain ⟨n6, hn6x⟩ : ∃ n6, IX.length = n6 := ⟨_, rfl⟩
      rw [hn5] at hv5
      rw [hn6x] at hv6
      subst hv5
      subst hv6
      have o1 := outT_le l hT
      have tb := (tabB_le l hT).2
      have ip := index_put l hT
      have fp := (fil_put l hT).1
      obtain ⟨f1, f2, f3, f4, f5⟩ := fil_ok l hT
      have hF2 := fun W (h : RdB W A6 c6 IX) => Fr.rFPut_any 2 A6 c6 IX W h
      rw [hn6x] at hF2
      rw [hIX, hn6x] at ip
      rw [ip] at hF2
      have hO : outT l = bodyT l ++ putFX 2 IX := by rw [outT, hIX]
      obtain ⟨nF, hnF⟩ : ∃ nF, (putFX 2 IX).length = nF := ⟨_, rfl⟩
      obtain ⟨n9, hn9⟩ : ∃ n9, (outT l).length = n9 := ⟨_, rfl⟩
      have hn9s : n9 = n5 + nF := by rw [← hn9, hO, List.length_append, hn5, hnF]
      obtain ⟨kn, hkn⟩ : ∃ kn, (keysE l l.length).length = kn := ⟨_, rfl⟩
      have hKy := fun W (r : RdE W A c l) => rKeys_any A c n l W HN.out r hn6
      have hMk := fun A7 c7 W (r : Bl.RdS W A7 c7 (keysE l l.length)) => rfilt_any A7 c7 kn l W hT hkn r
      rw [HN.out] at hMk hkn
      have fE2 : Bl.encE (filK l) (filX l).length = 0 := by rw [Bl.encE, if_pos f5]
      have hEc := fun A' c' X (h : RdB X A' c' (filX l)) => Bl.rEncode_any (filK l) A' c' (filX l) X h
      rw [fE2] at hEc
      unfold Bl.fil at hEc
      obtain ⟨K, hK0⟩ : ∃ K, filK l = K := ⟨_, rfl⟩
      obtain ⟨FX, hFX⟩ : ∃ FX, filX l = FX := ⟨_, rfl⟩
      rw [hK0, hFX] at hMk hEc fp
      obtain ⟨fn, hfn⟩ : ∃ fn, FX.length = fn := ⟨_, rfl⟩
      rw [hfn] at hMk hEc
      obtain ⟨EX, hEX⟩ : ∃ EX, Bl.encF K FX = EX := ⟨_, rfl⟩
      rw [hEX] at hEc fp
      obtain ⟨n7, hn7⟩ : ∃ n7, EX.length = n7 := ⟨_, rfl⟩
      rw [hn7] at fp
      have hF3 := fun A' c' W (h : RdB W A' c' EX) => Fr.rFPut_any 3 A' c' EX W h
      rw [hn7, fp] at hF3
      unfold fil at hF2 hF3
      obtain ⟨nG, hnG⟩ : ∃ nG, (putFX 3 EX).length = nG := ⟨_, rfl⟩
      obtain ⟨nP, hnP⟩ : ∃ nP, (outT l ++ putFX 3 EX).length = nP := ⟨_, rfl⟩
      have hfin : outT l ++ putFX 3 EX ++ guarded (markT ++ fourN n5 ++ fourN n9 ++ fourN n) = tabB l := by rw [tabB, hK0, hFX, hEX, endT, hn5, hn9, HN.out]
      have g20 : (guarded (markT ++ fourN n5 ++ fourN n9 ++ fourN n)).length = 20 := rfl
      have htot : nP + 20 ≤ 140737488355328 := by rw [← hfin, List.length_append, g20, hnP] at tb; omega
      have hq1 : (bodyT l).length + nF ≤ 140737488355328 := by rw [hn5]; omega
      have hq2 : (outT l).length + nG ≤ 140737488355328 := by have h := hnP; rw [List.length_append, hnG] at h; omega
      have Zhn5 := hide hn5
      have Zhn6x := hide hn6x
      have ZhnF := hide hnF
      have Zhn9 := hide hn9
      have Zhkn := hide hkn
      have Zhfn := hide hfn
      have Zhn7 := hide hn7
      have ZhnG := hide hnG
      have ZhnP := hide hnP
      have Zhfin := hide hfin
      have Zhtot := hide htot
      have Zhq1 := hide hq1
      have Zhq2 := hide hq2
      have ZhO := hide hO
      have hGd : ∀ A c X, RdB X A c (markT ++ fourN n5 ++ fourN n9 ++ fourN n) → Calls Try.prog 45 #[.slice A 16 c] X fun e w' => ∃ v, e = .returned v ∧ OwB w' X.heap.size v (guarded (markT ++ fourN n5 ++ fourN n9 ++ fourN n)) ∧ Below X.heap.size X w' := fun A c X h => rGuard_any A c _ X h (by show 16 + 4 ≤ 140737488355328; decide)
      clear hn5 hn6x hnF hn9 hkn hfn hn7 hnG hnP hfin htot hq1 hq2 hO o1 tb ip fp f1 f2 f3 f4 f5 fE2 hK0 hFX hEX hIX hn9s g20 hT5 hT6 hlt hk D56 hnc t1 t2
      go_wp2_with (first | (go_at_call 40; (with_reducible refine (hF2 _ r6).mono ?_); rintro e w2 ⟨v2, rfl, O2, HB2⟩; obtain ⟨A2, c2, hv2, r2⟩ := O2.rd; rw [ZhnF.out] at hv2; subst hv2; have C2 := HB.trans (HB2.mono HB.size); have O52 := O5.below HB2; obtain ⟨v3, w3, hapA, O53, hg3, hat3⟩ := row_run (W := w2) w.heap.size 23 _ (bodyT l) (putFX 2 IX) A2 nF c2 ZhnF.out O52 r2 C2.size Zhq1.out; have C3 := C2.grown hg3 C2.size (fun j e => own_base O52 j e); rw [← ZhO.out] at O53; obtain ⟨A3, c3, hv3, -⟩ := O53.rd; rw [Zhn9.out] at hv3; subst hv3) | (go_at_call 42; (with_reducible refine (hKy _ (hr.below C3)).mono ?_); rintro e w4 ⟨v4, rfl, O4, HB4⟩; obtain ⟨A4, c4, hv4, r4⟩ := O4.rd; rw [Zhkn.out] at hv4; subst hv4; have C4 := C3.trans (HB4.mono C3.size); have O54 := O53.below HB4) | (go_at_call 41; (with_reducible refine (hMk A4 c4 _ r4).mono ?_); rintro e w5 ⟨A7, c7, rfl, O7, HB5⟩; have b5 := below_alloc w5 (.cells #[.int .i64 K, .slice A7 fn c7] 37); have C5 := stp (C4.trans (HB5.mono C4.size)) b5; have O55 := (O54.below HB5).below b5; have r7 := (O7.rdl).below b5; obtain ⟨y0, y1, -, -⟩ := (Bx.new w5 K (.slice A7 fn c7) 37).read) | (go_at_call 43; (with_reducible refine (hEc A7 c7 _ r7).mono ?_); rintro e w6 ⟨v6, rfl, O6x, HB6⟩; obtain ⟨A8, c8, hv6, r8⟩ := O6x.rd; rw [Zhn7.out] at hv6; subst hv6; have C6 := stp C5 HB6; have O56 := O55.below HB6) | (go_at_call 40; (with_reducible refine (hF3 A8 c8 _ r8).mono ?_); rintro e w7 ⟨v7, rfl, O7x, HB7⟩; obtain ⟨A9, c9, hv7, r9⟩ := O7x.rd; rw [ZhnG.out] at hv7; subst hv7; have C7 := stp C6 HB7; have O57 := O56.below HB7; obtain ⟨v8, w8, hapB, O58, hg8, hat8⟩ := row_run (W := w7) w.heap.size 23 _ (outT l) (putFX 3 EX) A9 nG c9 ZhnG.out O57 r9 C7.size Zhq2.out; have C8 := C7.grown hg8 C7.size (fun j e => own_base O57 j e); obtain ⟨Ap, cp, hv8, -⟩ := O58.rd; rw [ZhnP.out] at hv8; subst hv8; have hcv := conv_mark w8; have Bm : Below w8.heap.size w8 (mkW w8) := below_alloc w8 _; have C8m := stp C8 Bm; have O58m := O58.below Bm) | (go_at_call 44; (with_reducible refine (rfour_any n5 _).mono ?_); rintro e w9 ⟨v9, rfl, O9, HB9⟩; obtain ⟨Aa, ca, hv9, ra⟩ := O9.rd; replace hv9 : v9 = .slice Aa 4 ca := hv9; subst hv9; obtain ⟨v10, w10, hapC, O10, B10⟩ := full_run 23 ⟨w8.heap.size, 0, none⟩ markT (fourN n5) Aa ca rfl rfl ((rd_mark w8).below HB9) ra; have C9 := stp C8m HB9; have O59 := O58m.below HB9) | (go_at_call 44; (with_reducible refine (rfour_any n9 _).mono ?_); rintro e w11 ⟨v11, rfl, Oxa, HBxa⟩; obtain ⟨Axa, cxa, hvxa, rxa⟩ := Oxa.rd; replace hvxa : v11 = .slice Axa 4 cxa := hvxa; subst hvxa; have Bpa := stp B10 HBxa; obtain ⟨v12, w12, hapD, Ora, hgra, -⟩ := row_run (W := w11) w9.heap.size 23 _ (markT ++ fourN n5) (fourN n9) Axa 4 cxa rfl (O10.below HBxa) rxa (Bpa).size (by show 8 + 4 ≤ 140737488355328; decide); have Bqa : Below w9.heap.size w9 w12 := (Bpa).grown hgra (Bpa).size (fun j e => own_base (O10.below HBxa) j e)) | (go_at_call 44; (with_reducible refine (rfour_any n _).mono ?_); rintro e w13 ⟨v13, rfl, Oxb, HBxb⟩; obtain ⟨Axb, cxb, hvxb, rxb⟩ := Oxb.rd; replace hvxb : v13 = .slice Axb 4 cxb := hvxb; subst hvxb; have Bpb := stp Bqa HBxb; obtain ⟨v14, w14, hapE, Orb, hgrb, -⟩ := row_run (W := w13) w9.heap.size 23 _ (markT ++ fourN n5 ++ fourN n9) (fourN n) Axb 4 cxb rfl (Ora.below HBxb) rxb (Bpb).size (by show 12 + 4 ≤ 140737488355328; decide); have Bqb : Below w9.heap.size w9 w14 := (Bpb).grown hgrb (Bpb).size (fun j e => own_base (Ora.below HBxb) j e); obtain ⟨A14, c14, hv14, r14⟩ := Orb.rd; replace hv14 : v14 = .slice A14 16 c14 := hv14; subst hv14) | (go_at_call 45; (with_reducible refine (hGd A14 c14 _ r14).mono ?_); rintro e w15 ⟨v15, rfl, O15, HB15⟩; obtain ⟨A15, c15, hv15, r15⟩ := O15.rd; replace hv15 : v15 = .slice A15 20 c15 := hv15; subst hv15; have B15 := stp Bqb HB15; have O515 := O59.below B15; have C15 := C9.trans (B15.mono C9.size); obtain ⟨v16, w16, hapF, O16, hg16, -⟩ := row_run (W := w15) w.heap.size 23 _ (outT l ++ putFX 3 EX) (guarded (markT ++ fourN n5 ++ fourN n9 ++ fourN n)) A15 20 c15 rfl O515 r15 C15.size (by rw [ZhnP.out]; exact Zhtot.out); have C16 := C15.grown hg16 C15.size (fun j e => own_base O515 j e)) | (at_builtin; refine app_step rfl (.tmp 84) (.tmp 85) 23 23 rfl rfl rfl hapA ?_) | (at_builtin; refine app_step rfl (.tmp 106) (.tmp 107) 23 23 rfl rfl rfl hapB ?_) | (at_builtin; refine app_step rfl (.tmp 110) (.tmp 112) 23 23 rfl rfl rfl hapC ?_) | (at_builtin; refine app_step rfl (.tmp 114) (.tmp 116) 23 23 rfl rfl rfl hapD ?_) | (at_builtin; refine app_step rfl (.tmp 119) (.tmp 122) 23 23 rfl rfl rfl hapE ?_) | (at_builtin; refine app_step rfl (.tmp 118) (.tmp 124) 23 23 rfl rfl rfl hapF ?_))
      go_ret2
      rw [Zhfin.out] at O16
      exact ⟨_, rfl, O16, C16⟩
end Go.Proofs.Ytefcepjffeiaoaa
end

section
/- Table: the reference's Build of any versions. -/
namespace Go.Proofs.Ytefcepjffeiaoaa
open Go.RowKit Go.Proofs.YtefcepjffeiaoaaW.PrintWords
set_option linter.unusedVariables false

set_option maxRecDepth 100000 in
set_option maxHeartbeats 1600000 in
theorem rBuild_any (A : Option Addr) (c n : Nat) (l : List Ent) (w : World) (hn : l.length = n) (hr : RdE w A c l) (hl : n ≤ 140737488351232) :
    Calls Try.prog 12 #[.slice A n c] w fun e w' => ∃ v, e = .returned (.tuple #[v, .int .i64 (tabE l)]) ∧ OwB w' w.heap.size v (tabX l) ∧ Below w.heap.size w w' := by
  by_cases hT : tabE l = 0
  · have e : tabX l = tabB l := by rw [tabX, if_pos hT]
    rw [hT, e]
    exact rBuild_ok A c n l w hn hr hT
  · have e : tabX l = [] := by rw [tabX, if_neg hT]
    rw [e]
    have hOr := rOrdered_any A c n l w hn hr (by omega)
    have E : tabE l = if n < 1 ∨ 4096 < n then 3 else ordE l := by rw [tabE, hn]
    by_cases h1 : n < 1 ∨ 4096 < n
    · rw [if_pos h1] at E
      rw [E]
      have h2 : (n : Int) < 1 ∨ (1 ≤ (n : Int) ∧ 4096 < (n : Int)) := by omega
      clear E hT e h1
      rcases h2 with h2 | ⟨h2, h3⟩
      · go_enter Try.func12, Try.ntmps12
        go_wp2
        go_ret2
        exact ⟨_, rfl, OwB.zero _ _, Below.refl _ _⟩
      · have h4 : ¬ (n : Int) < 1 := by omega
        go_enter Try.func12, Try.ntmps12
        go_wp2
        go_ret2
        exact ⟨_, rfl, OwB.zero _ _, Below.refl _ _⟩
    · rw [if_neg h1] at E
      rw [E] at hT ⊢
      have h2 : ¬ (n : Int) < 1 := by omega
      have h3 : ¬ 4096 < (n : Int) := by omega
      clear E e h1
      generalize ordE l = E at *
      go_enter Try.func12, Try.ntmps12
      go_wp2_with (first | (go_at_call 37; (with_reducible refine hOr.mono ?_); rintro e w1 ⟨rfl, HB1⟩))
      go_ret2
      exact ⟨_, rfl, OwB.zero _ _, HB1⟩
end Go.Proofs.Ytefcepjffeiaoaa
end

section
/- Table: the page's Open, walked. -/
namespace Go.Proofs.Ytefcepjffeiaoaa
open Go.RowKit Go.Proofs.YtefcepjffeiaoaaW.PrintWords
set_option linter.unusedVariables false

theorem mark_same (xs : List UInt8) : ((strB xs).toList == [116, 107, 116, 98]) = decide (xs = markT) := by
  rw [← strB_same xs markT, show (strB markT).toList = [116, 107, 116, 98] by decide +kernel]
theorem num4_cut (b : List UInt8) (i : Nat) : num4 ((b.take (i + 4)).drop i) = num4 (b.drop i) := by
  have h : ∀ j, j < 4 → ((b.take (i + 4)).drop i).getD j 0 = (b.drop i).getD j 0 := fun j hj => by
    rw [List.getD_eq_getElem?_getD, List.getD_eq_getElem?_getD, List.getElem?_drop, List.getElem?_drop, List.getElem?_take, if_pos (by omega)]
  rw [num4, num4, h 0 (by decide), h 1 (by decide), h 2 (by decide), h 3 (by decide)]
theorem ropen_if (b : List UInt8) : (if tabE (toldT b) = 0 ∧ tabX (toldT b) = b then (0 : Int) else 21) = if tabE (rtoldT b) = 0 ∧ tabX (rtoldT b) = b then 0 else 21 := by
  by_cases h : tabE (toldT b) = 0 ∧ tabX (toldT b) = b
  · rw [if_pos h, if_pos ((ropen_iff b).2 h)]
  · rw [if_neg h, if_neg (fun h' => h ((ropen_iff b).1 h'))]
theorem rtoldP_le (b : List UInt8) (i j : Nat) : (rtoldP b i j).length ≤ 4160 := by
  rw [rtoldP]
  split
  · simp
  · split
    · simp
    · exact rcat_le b i _ _ _ _ (by simp) unL_le
theorem cap_le {w : World} {A : Option Addr} {c : Nat} {xs : List UInt8} (r : RdB w A c xs) (h : xs.length = 16) : 4 ≤ c ∧ 8 ≤ c ∧ 12 ≤ c ∧ (4 : Int) ≤ (c : Int) ∧ (8 : Int) ≤ (c : Int) ∧ (12 : Int) ≤ (c : Int) := by have := r.le; omega
set_option maxRecDepth 100000 in
set_option maxHeartbeats 3200000 in
theorem rOpen_any (A : Option Addr) (c n : Nat) (b : List UInt8) (w : World) (hn : b.length = n) (hx : RdB w A c b) (hl : n ≤ 140737488355328) :
    Calls Try.prog 14 #[.slice A n c] w fun e w' => ∃ Al cl Ax cx, e = .returned (.tuple #[tabV Al (openL b).length cl (openK b) Ax (openX b).length cx, .int .i64 (openE b)]) ∧ OwE w' w.heap.size (.slice Al (openL b).length cl) (openL b) ∧ OwB w' w.heap.size (.slice Ax (openX b).length cx) (openX b) ∧ Below w.heap.size w w' := by
  have q0 := heap_alloc_new w (.cells #[.slice none 0 0, .int .i64 0, .slice none 0 0] 39)
  have B0 := below_alloc w (.cells #[.slice none 0 0, .int .i64 0, .slice none 0 0] 39)
  have bad : ∀ E : Int, openE b = E → E ≠ 0 → openL b = [] ∧ openK b = 0 ∧ openX b = [] := fun E h h0 => by
    rw [← h] at h0
    exact ⟨by rw [openL, if_neg h0], by rw [openK, if_neg h0], by rw [openX, if_neg h0]⟩
  unfold tabV
  by_cases h1 : n < 20
  · have hE : openE b = 8 := by rw [openE, hn, if_pos h1]
    obtain ⟨r1, r2, r3⟩ := bad 8 hE (by decide)
    rw [hE, r1, r2, r3]
    have h1i : (n : Int) < 20 := by omega
    clear hE r1 r2 r3 bad hn
    go_enter Try.func14, Try.ntmps14
    go_wp2
    refine bodyPost_ret (v := .tuple #[.agg #[.slice none 0 0, .int .i64 0, .slice none 0 0], .int .i64 8]) (results_ct Try.results14 _ _ w.heap.size _ _ _ _ rfl q0 Try.underlying39 rfl rfl) rfl ⟨none, 0, none, 0, rfl, Ow.zero _ _ _ _, OwB.zero _ _, B0⟩
  · have h1i : ¬ (n : Int) < 20 := by omega
    have h20 : 20 ≤ n := Nat.not_lt.1 h1
    obtain ⟨m, hm⟩ : ∃ m, n - 20 = m := ⟨_, rfl⟩
    have hmd : (n : Int) - 20 = (m : Int) := by omega
    have hmw : wrap64 (m : Int) = (m : Int) := by unfold wrap64; omega
    have hmn : m ≤ n := by omega
    have hm20 : n - m = 20 := by omega
    have hft : b.drop m = footT b := by rw [footT, hn, hm]
    have r0 := hx.drop m (by rw [hn]; exact hmn)
    rw [hft] at r0
    have hfl := foot_len b n hn h20
    have hsl := fun W => slice_lo 23 5 Try.underlying23 (i := _) rfl rfl A n c m hmn W
    rw [hm20] at hsl
    generalize cutA A c m = Af at *
    generalize c - m = cf at *
    have hB := fun W (h : RdB W Af cf (footT b)) => rBare_all Af cf (footT b) W h (by rw [hfl]; decide)
    rw [hfl] at hB
    have lt0 : w.heap.size < (w.alloc (.cells #[.slice none 0 0, .int .i64 0, .slice none 0 0] 39)).heap.size := by rw [World.size_alloc]; exact Nat.lt_succ_self _
    have HN := hide hn
    have HM := hide hm
    clear h1 h20 hm hmn hm20 hft hn
    have oE0 : openE b = if bareNum (footT b) ≠ 0 then bareNum (footT b) else if (bare (footT b)).take 4 ≠ markT then 22 else if tabE (toldT b) = 0 ∧ tabX (toldT b) = b then 0 else 21 := by rw [openE, HN.out, if_neg (by have := h1i; omega)]
    have oE := oE0
    by_cases h2 : bareNum (footT b) = 0
    · rw [if_neg (fun h => h h2)] at oE
      rw [h2] at hB
      have l16 := bare_20 b hfl h2
      have l4 : ((bare (footT b)).take 4).length = 4 := by rw [List.length_take, l16]; rfl
      by_cases h3 : (bare (footT b)).take 4 = markT
      · rw [if_neg (fun h => h h3)] at oE
        obtain ⟨p4, hp4⟩ : ∃ p, num4 ((bare (footT b)).drop 4) = p := ⟨_, rfl⟩
        obtain ⟨p8, hp8⟩ : ∃ p, num4 ((bare (footT b)).drop 8) = p := ⟨_, rfl⟩
        have hTo : rtoldT b = rtoldP b p4 p8 := by rw [rtoldT, hp4, hp8]
        have hTl : (rtoldT b).length ≤ 4160 := by rw [hTo]; exact rtoldP_le b p4 p8
        have hTd := fun W (h : Below w.heap.size w W) => rtold_any10 A c n p4 p8 b W HN.out (hx.below h) hl
        rw [← hTo] at hTd
        have hN4 := fun g1 c1 W (r : RdB W (some ⟨g1, 0, none⟩) c1 (bare (footT b))) => rnum_any (some ⟨g1, 4, none⟩) (c1 - 4) (((bare (footT b)).take 8).drop 4) W (by rw [List.length_drop, List.length_take, l16]; rfl) (by have h := (r.take 8 (by rw [l16]; decide)).drop 4 (by rw [List.length_take, l16]; decide); rwa [cut_at g1 c1 4 (cap_ne r l16).1] at h)
        have hN8 := fun g1 c1 W (r : RdB W (some ⟨g1, 0, none⟩) c1 (bare (footT b))) => rnum_any (some ⟨g1, 8, none⟩) (c1 - 8) (((bare (footT b)).take 12).drop 8) W (by rw [List.length_drop, List.length_take, l16]; rfl) (by have h := (r.take 12 (by rw [l16]; decide)).drop 8 (by rw [List.length_take, l16]; decide); rwa [cut_at g1 c1 8 (cap_ne r l16).2] at h)
        rw [num4_cut, hp4] at hN4
        rw [num4_cut, hp8] at hN8
        clear hp4 hp8 hTo
        rw [ropen_if] at oE
        have hSame := ropen_same b
        obtain ⟨L, hL⟩ : ∃ L, rtoldT b = L := ⟨_, rfl⟩
        rw [hL] at oE hTl hTd hSame
        obtain ⟨nl, hnl⟩ : ∃ nl, L.length = nl := ⟨_, rfl⟩
        have hnl2 : nl ≤ 1000000 := by rw [← hnl]; omega
        have hBd := fun A4 c4 W (r : RdE W A4 c4 L) => rBuild_any A4 c4 nl L W hnl r (Nat.le_trans hnl2 (by decide))
        obtain ⟨nx, hnx⟩ : ∃ nx, (tabX L).length = nx := ⟨_, rfl⟩
        have HNL := hide hnl
        have HNX := hide hnx
        have HTL := hide hTl
        rw [h3] at l4
        have hmark : strB ((bare (footT b)).take 4) = ⟨#[116, 107, 116, 98]⟩ := by rw [h3]; rfl
        have HMK := hide hmark
        have l4 : ((bare (footT b)).take 4).length = 4 := by rw [h3]; rfl
        clear hnx hTl h3 h2 hnl hL oE0 hmark
        by_cases h4 : tabE L = 0
        · by_cases h5 : tabX L = b
          · have hE : openE b = 0 := by rw [oE, if_pos ⟨h4, h5⟩]
            have e1 : openL b = L := by rw [openL, if_pos hE]; exact hSame ⟨h4, h5⟩
            have e2 : openK b = filK L := by rw [openK, if_pos hE, e1]
            have e3 : openX b = filX L := by rw [openX, if_pos hE, e1]
            rw [hE, e1, e2, e3]
            simp only [h4] at hBd
            obtain ⟨kn, hkn⟩ : ∃ kn, (keysE L nl).length = kn := ⟨_, rfl⟩
            have hKy := fun A4 c4 W (r : RdE W A4 c4 L) => rKeys_any A4 c4 nl L W HNL.out r hnl2
            have hFl := fun A7 c7 W (r : Bl.RdS W A7 c7 (keysE L L.length)) => rfilt_any A7 c7 kn L W h4 (by rw [HNL.out]; exact hkn) r
            rw [HNL.out] at hFl ⊢
            obtain ⟨K, hK⟩ : ∃ K, filK L = K := ⟨_, rfl⟩
            obtain ⟨nf, hnf⟩ : ∃ nf, (filX L).length = nf := ⟨_, rfl⟩
            rw [hK, hnf] at hFl ⊢
            have HKN := hide hkn
            have HH5 := hide h5
            clear bad hE e1 e2 e3 oE hkn hK hnf h4 h5 hSame
            go_enter Try.func14, Try.ntmps14
            go_wp2_with (first | (go_at_call 51; (with_reducible refine (hB _ (r0.below B0)).mono ?_); rintro e w1 ⟨v1, rfl, O1, HB1⟩; have C1 := stp B0 HB1; have q1 := (HB1.block _ lt0).trans q0; obtain ⟨g1, c1, hv1, -, -⟩ := World.ownsRow.form O1 (by rw [l16]; decide); rw [l16] at hv1; subst hv1; have r1 := OwB.rdl O1; obtain ⟨ne4, ne8⟩ := cap_ne r1 l16; obtain ⟨ca, cb, cc, cd, ce, cf_⟩ := cap_le r1 l16; have hcv := RdB.toStr (r1.take 4 (by rw [l16]; decide)) (P := Try.prog) 23 5 9 Try.underlying23 Try.underlying5 Try.underlying9; rw [l4] at hcv; rw [HMK.out] at hcv))
            have hSd : Below w1.heap.size w1 w1.drew := (Below.refl _ _).drew
            go_region_held3 (fun Y => Below w1.heap.size w1 Y) (first | exact hSd | assumption) (first | (go_at_call 53; (with_reducible refine (hN4 g1 c1 _ (r1.below (by assumption))).mono ?_); rintro e wA ⟨rfl, HBA⟩; have QA : Below w1.heap.size w1 wA := stp (by assumption) HBA) | (go_at_call 53; (with_reducible refine (hN8 g1 c1 _ (r1.below (by assumption))).mono ?_); rintro e wB ⟨rfl, HBB⟩; have QB : Below w1.heap.size w1 wB := stp (by assumption) HBB) | (go_at_call 52; (with_reducible refine (hTd _ (stp C1 (by assumption))).mono ?_); rintro e w4 ⟨v4, rfl, O4, HB4⟩; have Q4 : Below w1.heap.size w1 w4 := stp (by assumption) HB4; have O4b : OwE w4 w.heap.size v4 L := O4.lower (Below.size (stp C1 (by assumption))); obtain ⟨A4, c4, hv4, r4⟩ := O4b.rd; rw [HNL.out] at hv4; subst hv4))
            all_goals (
              have C4 := C1.trans (Q4.mono C1.size)
              have q4 := (Q4.block _ (blk_lt q1)).trans q1
              go_wp2_with (first | (go_at_call 12; (with_reducible refine (hBd A4 c4 _ r4).mono ?_); rintro e w5 ⟨v5, rfl, O5, HB5⟩; obtain ⟨A5, c5, hv5, r5⟩ := O5.rd; rw [HNX.out] at hv5; subst hv5; have C5 := C4.trans (HB5.mono C4.size); have q5 := (HB5.block _ (blk_lt q4)).trans q4; have k1 := RdB.toStr r5 (P := Try.prog) 23 5 9 Try.underlying23 Try.underlying5 Try.underlying9; rw [HNX.out, HH5.out] at k1; have k2 := RdB.toStr (hx.below C5) (P := Try.prog) 23 5 9 Try.underlying23 Try.underlying5 Try.underlying9; rw [HN.out] at k2; have y0 := blk_cell q5 0; have y1 := blk_cell q5 1; have y2 := blk_cell q5 2; have z0 := blk_frozen q5 0; have z1 := blk_frozen q5 1; have z2 := blk_frozen q5 2; have r6 := r4.below HB5))
              go_wp2_with (first | (go_at_call 42; (with_reducible refine (hKy A4 c4 _ r6).mono ?_); rintro e w7 ⟨v7, rfl, O7, HB7⟩; obtain ⟨A7, c7, hv7, r7⟩ := O7.rd; rw [HKN.out] at hv7; subst hv7) | (go_at_call 41; (with_reducible refine (hFl A7 c7 _ r7).mono ?_); rintro e w8 ⟨A8, c8, rfl, O8, HB8⟩; obtain ⟨b0, b1, b2, b3⟩ := (Bx.new w8 K (.slice A8 nf c8) 37).read; have Q9 := stp (stp HB7 HB8) (below_alloc w8 (.cells #[.int .i64 K, .slice A8 nf c8] 37)); have q9 := (Q9.block _ (blk_lt q5)).trans q5; have y0_ := blk_cell q9 0; have y1_ := blk_cell q9 1; have y2_ := blk_cell q9 2; have z0_ := blk_frozen q9 0; have z1_ := blk_frozen q9 1; have z2_ := blk_frozen q9 2))
              have Oe := (O4b.below HB5).below Q9
              have Of := (O8.below (below_alloc w8 (.cells #[.int .i64 K, .slice A8 nf c8] 37))).lower (Nat.le_trans C5.size HB7.size)
              have nof : some w.heap.size ≠ (Value.slice A8 nf c8).ownBlock := fun e => by have h1 := own_base O8 _ e.symm; have h2 := blk_lt q5; have h3 := HB7.size; omega
              have C9 := C5.trans (Q9.mono C5.size)
              have hF := blk_set (blk_set (blk_set q9 0 (.slice A4 nl c4)) 1 (.int .i64 K)) 2 (.slice A8 nf c8)
              refine bodyPost_ret (v := .tuple #[.agg #[.slice A4 nl c4, .int .i64 K, .slice A8 nf c8], .int .i64 0]) (results_ct Try.results14 _ _ w.heap.size _ _ _ _ rfl hF Try.underlying39 rfl rfl) rfl ⟨A4, c4, A8, c8, rfl, ?_, ?_, ((C9.setCell (p := ⟨w.heap.size, 0, none⟩) (Nat.le_refl _) _).setCell (p := ⟨w.heap.size, 1, none⟩) (Nat.le_refl _) _).setCell (p := ⟨w.heap.size, 2, none⟩) (Nat.le_refl _) _⟩
              · exact ((Oe.setCell q9 (one_ne (by decide)) 0 _).setCell (blk_set q9 0 _) (one_ne (by decide)) 1 _).setCell (blk_set (blk_set q9 0 _) 1 _) (one_ne (by decide)) 2 _
              · exact own_setCell (own_setCell (own_setCell Of (p := ⟨w.heap.size, 0, none⟩) nof _) (p := ⟨w.heap.size, 1, none⟩) nof _) (p := ⟨w.heap.size, 2, none⟩) nof _)
          · have hE : openE b = 21 := by rw [oE, if_neg (fun h => h5 h.2)]
            obtain ⟨u1, u2, u3⟩ := bad 21 hE (by decide)
            rw [hE, u1, u2, u3]
            simp only [h4] at hBd
            have hne : ((strB (tabX L)).toList == (strB b).toList) = false := by rw [strB_same]; exact decide_eq_false h5
            clear hE u1 u2 u3 bad oE h4 h5 hSame
            go_enter Try.func14, Try.ntmps14
            go_wp2_with (first | (go_at_call 51; (with_reducible refine (hB _ (r0.below B0)).mono ?_); rintro e w1 ⟨v1, rfl, O1, HB1⟩; have C1 := stp B0 HB1; have q1 := (HB1.block _ lt0).trans q0; obtain ⟨g1, c1, hv1, -, -⟩ := World.ownsRow.form O1 (by rw [l16]; decide); rw [l16] at hv1; subst hv1; have r1 := OwB.rdl O1; obtain ⟨ne4, ne8⟩ := cap_ne r1 l16; obtain ⟨ca, cb, cc, cd, ce, cf_⟩ := cap_le r1 l16; have hcv := RdB.toStr (r1.take 4 (by rw [l16]; decide)) (P := Try.prog) 23 5 9 Try.underlying23 Try.underlying5 Try.underlying9; rw [l4] at hcv; rw [HMK.out] at hcv))
            have hSd : Below w1.heap.size w1 w1.drew := (Below.refl _ _).drew
            go_region_held3 (fun Y => Below w1.heap.size w1 Y) (first | exact hSd | assumption) (first | (go_at_call 53; (with_reducible refine (hN4 g1 c1 _ (r1.below (by assumption))).mono ?_); rintro e wA ⟨rfl, HBA⟩; have QA : Below w1.heap.size w1 wA := stp (by assumption) HBA) | (go_at_call 53; (with_reducible refine (hN8 g1 c1 _ (r1.below (by assumption))).mono ?_); rintro e wB ⟨rfl, HBB⟩; have QB : Below w1.heap.size w1 wB := stp (by assumption) HBB) | (go_at_call 52; (with_reducible refine (hTd _ (stp C1 (by assumption))).mono ?_); rintro e w4 ⟨v4, rfl, O4, HB4⟩; have Q4 : Below w1.heap.size w1 w4 := stp (by assumption) HB4; have O4b : OwE w4 w.heap.size v4 L := O4.lower (Below.size (stp C1 (by assumption))); obtain ⟨A4, c4, hv4, r4⟩ := O4b.rd; rw [HNL.out] at hv4; subst hv4))
            all_goals (
              have C4 := C1.trans (Q4.mono C1.size)
              have q4 := (Q4.block _ (blk_lt q1)).trans q1
              go_wp2_with (first | (go_at_call 12; (with_reducible refine (hBd A4 c4 _ r4).mono ?_); rintro e w5 ⟨v5, rfl, O5, HB5⟩; obtain ⟨A5, c5, hv5, r5⟩ := O5.rd; rw [HNX.out] at hv5; subst hv5; have C5 := C4.trans (HB5.mono C4.size); have q5 := (HB5.block _ (blk_lt q4)).trans q4; have k1 := RdB.toStr r5 (P := Try.prog) 23 5 9 Try.underlying23 Try.underlying5 Try.underlying9; rw [HNX.out] at k1; have k2 := RdB.toStr (hx.below C5) (P := Try.prog) 23 5 9 Try.underlying23 Try.underlying5 Try.underlying9; rw [HN.out] at k2; have y0 := blk_cell q5 0; have y1 := blk_cell q5 1; have y2 := blk_cell q5 2; have z0 := blk_frozen q5 0; have z1 := blk_frozen q5 1; have z2 := blk_frozen q5 2))
              have hF := blk_set (blk_set (blk_set q5 0 (.slice none 0 0)) 1 (.int .i64 0)) 2 (.slice none 0 0)
              refine bodyPost_ret (v := .tuple #[.agg #[.slice none 0 0, .int .i64 0, .slice none 0 0], .int .i64 21]) (results_ct Try.results14 _ _ w.heap.size _ _ _ _ rfl hF Try.underlying39 rfl rfl) rfl ⟨none, 0, none, 0, rfl, Ow.zero _ _ _ _, OwB.zero _ _, (((C5).setCell (p := ⟨w.heap.size, 0, none⟩) (Nat.le_refl _) _).setCell (p := ⟨w.heap.size, 1, none⟩) (Nat.le_refl _) _).setCell (p := ⟨w.heap.size, 2, none⟩) (Nat.le_refl _) _⟩)
        · have hE : openE b = 21 := by rw [oE, if_neg (fun h => h4 h.1)]
          obtain ⟨u1, u2, u3⟩ := bad 21 hE (by decide)
          rw [hE, u1, u2, u3]
          generalize tabE L = TE at *
          clear hE u1 u2 u3 bad oE hSame
          go_enter Try.func14, Try.ntmps14
          go_wp2_with (first | (go_at_call 51; (with_reducible refine (hB _ (r0.below B0)).mono ?_); rintro e w1 ⟨v1, rfl, O1, HB1⟩; have C1 := stp B0 HB1; have q1 := (HB1.block _ lt0).trans q0; obtain ⟨g1, c1, hv1, -, -⟩ := World.ownsRow.form O1 (by rw [l16]; decide); rw [l16] at hv1; subst hv1; have r1 := OwB.rdl O1; obtain ⟨ne4, ne8⟩ := cap_ne r1 l16; obtain ⟨ca, cb, cc, cd, ce, cf_⟩ := cap_le r1 l16; have hcv := RdB.toStr (r1.take 4 (by rw [l16]; decide)) (P := Try.prog) 23 5 9 Try.underlying23 Try.underlying5 Try.underlying9; rw [l4] at hcv; rw [HMK.out] at hcv))
          have hSd : Below w1.heap.size w1 w1.drew := (Below.refl _ _).drew
          go_region_held3 (fun Y => Below w1.heap.size w1 Y) (first | exact hSd | assumption) (first | (go_at_call 53; (with_reducible refine (hN4 g1 c1 _ (r1.below (by assumption))).mono ?_); rintro e wA ⟨rfl, HBA⟩; have QA : Below w1.heap.size w1 wA := stp (by assumption) HBA) | (go_at_call 53; (with_reducible refine (hN8 g1 c1 _ (r1.below (by assumption))).mono ?_); rintro e wB ⟨rfl, HBB⟩; have QB : Below w1.heap.size w1 wB := stp (by assumption) HBB) | (go_at_call 52; (with_reducible refine (hTd _ (stp C1 (by assumption))).mono ?_); rintro e w4 ⟨v4, rfl, O4, HB4⟩; have Q4 : Below w1.heap.size w1 w4 := stp (by assumption) HB4; have O4b : OwE w4 w.heap.size v4 L := O4.lower (Below.size (stp C1 (by assumption))); obtain ⟨A4, c4, hv4, r4⟩ := O4b.rd; rw [HNL.out] at hv4; subst hv4))
          all_goals (
            have C4 := C1.trans (Q4.mono C1.size)
            have q4 := (Q4.block _ (blk_lt q1)).trans q1
            go_wp2_with (first | (go_at_call 12; (with_reducible refine (hBd A4 c4 _ r4).mono ?_); rintro e w5 ⟨v5, rfl, O5, HB5⟩; obtain ⟨A5, c5, hv5, r5⟩ := O5.rd; rw [HNX.out] at hv5; subst hv5; have C5 := C4.trans (HB5.mono C4.size); have q5 := (HB5.block _ (blk_lt q4)).trans q4; have k1 := RdB.toStr r5 (P := Try.prog) 23 5 9 Try.underlying23 Try.underlying5 Try.underlying9; rw [HNX.out] at k1; have k2 := RdB.toStr (hx.below C5) (P := Try.prog) 23 5 9 Try.underlying23 Try.underlying5 Try.underlying9; rw [HN.out] at k2; have y0 := blk_cell q5 0; have y1 := blk_cell q5 1; have y2 := blk_cell q5 2; have z0 := blk_frozen q5 0; have z1 := blk_frozen q5 1; have z2 := blk_frozen q5 2))
            have hF := blk_set (blk_set (blk_set q5 0 (.slice none 0 0)) 1 (.int .i64 0)) 2 (.slice none 0 0)
            refine bodyPost_ret (v := .tuple #[.agg #[.slice none 0 0, .int .i64 0, .slice none 0 0], .int .i64 21]) (results_ct Try.results14 _ _ w.heap.size _ _ _ _ rfl hF Try.underlying39 rfl rfl) rfl ⟨none, 0, none, 0, rfl, Ow.zero _ _ _ _, OwB.zero _ _, (((C5).setCell (p := ⟨w.heap.size, 0, none⟩) (Nat.le_refl _) _).setCell (p := ⟨w.heap.size, 1, none⟩) (Nat.le_refl _) _).setCell (p := ⟨w.heap.size, 2, none⟩) (Nat.le_refl _) _⟩)
      · have hE : openE b = 22 := by rw [oE, if_pos h3]
        obtain ⟨u1, u2, u3⟩ := bad 22 hE (by decide)
        rw [hE, u1, u2, u3]
        have hne : ((strB ((bare (footT b)).take 4)).toList == [116, 107, 116, 98]) = false := by rw [mark_same]; exact decide_eq_false h3
        clear hE u1 u2 u3 bad oE oE0 h3 h2
        go_enter Try.func14, Try.ntmps14
        go_wp2_with (first | (go_at_call 51; (with_reducible refine (hB _ (r0.below B0)).mono ?_); rintro e w1 ⟨v1, rfl, O1, HB1⟩; have C1 := stp B0 HB1; have q1 := (HB1.block _ lt0).trans q0; obtain ⟨g1, c1, hv1, -, -⟩ := World.ownsRow.form O1 (by rw [l16]; decide); rw [l16] at hv1; subst hv1; have r1 := OwB.rdl O1; obtain ⟨ne4, ne8⟩ := cap_ne r1 l16; obtain ⟨ca, cb, cc, cd, ce, cf_⟩ := cap_le r1 l16; have hcv := RdB.toStr (r1.take 4 (by rw [l16]; decide)) (P := Try.prog) 23 5 9 Try.underlying23 Try.underlying5 Try.underlying9; rw [l4] at hcv; have y0 := blk_cell q1 0; have y1 := blk_cell q1 1; have y2 := blk_cell q1 2; have z0 := blk_frozen q1 0; have z1 := blk_frozen q1 1; have z2 := blk_frozen q1 2))
        have hF := blk_set (blk_set (blk_set q1 0 (.slice none 0 0)) 1 (.int .i64 0)) 2 (.slice none 0 0)
        refine bodyPost_ret (v := .tuple #[.agg #[.slice none 0 0, .int .i64 0, .slice none 0 0], .int .i64 22]) (results_ct Try.results14 _ _ w.heap.size _ _ _ _ rfl hF Try.underlying39 rfl rfl) rfl ⟨none, 0, none, 0, rfl, Ow.zero _ _ _ _, OwB.zero _ _, (((C1).setCell (p := ⟨w.heap.size, 0, none⟩) (Nat.le_refl _) _).setCell (p := ⟨w.heap.size, 1, none⟩) (Nat.le_refl _) _).setCell (p := ⟨w.heap.size, 2, none⟩) (Nat.le_refl _) _⟩
    · have hE : openE b = bareNum (footT b) := by rw [oE, if_pos h2]
      obtain ⟨u1, u2, u3⟩ := bad _ hE h2
      rw [hE, u1, u2, u3]
      generalize bareNum (footT b) = E at *
      generalize bare (footT b) = bt at *
      clear hE u1 u2 u3 bad oE oE0
      go_enter Try.func14, Try.ntmps14
      go_wp2_with (first | (go_at_call 51; (with_reducible refine (hB _ (r0.below B0)).mono ?_); rintro e w1 ⟨v1, rfl, O1, HB1⟩; have C1 := stp B0 HB1; have q1 := (HB1.block _ lt0).trans q0; have y0 := blk_cell q1 0; have y1 := blk_cell q1 1; have y2 := blk_cell q1 2; have z0 := blk_frozen q1 0; have z1 := blk_frozen q1 1; have z2 := blk_frozen q1 2))
      have hF := blk_set (blk_set (blk_set q1 0 (.slice none 0 0)) 1 (.int .i64 0)) 2 (.slice none 0 0)
      refine bodyPost_ret (v := .tuple #[.agg #[.slice none 0 0, .int .i64 0, .slice none 0 0], .int .i64 E]) (results_ct Try.results14 _ _ w.heap.size _ _ _ _ rfl hF Try.underlying39 rfl rfl) rfl ⟨none, 0, none, 0, rfl, Ow.zero _ _ _ _, OwB.zero _ _, (((C1).setCell (p := ⟨w.heap.size, 0, none⟩) (Nat.le_refl _) _).setCell (p := ⟨w.heap.size, 1, none⟩) (Nat.le_refl _) _).setCell (p := ⟨w.heap.size, 2, none⟩) (Nat.le_refl _) _⟩
end Go.Proofs.Ytefcepjffeiaoaa
end

section
/- Table: the page's Get, and the law's same, walked. -/
namespace Go.Proofs.Ytefcepjffeiaoaa
open Go.RowKit Go.Proofs.YtefcepjffeiaoaaW.PrintWords
set_option linter.unusedVariables false

set_option maxRecDepth 100000 in
set_option maxHeartbeats 3200000 in
theorem rGet_any10 (A : Option Addr) (c n : Nat) (b : List UInt8) (key : ByteArray) (seq : Int) (w : World) (hn : b.length = n) (hx : RdB w A c b) (hl : n ≤ 140737488355328) :
    Calls Try.prog 16 #[.slice A n c, .string key, .int .i64 seq] w fun e w' => e = .returned (.tuple #[resV (getE b key seq), .bool (resE (getE b key seq)).2, .int .i64 (openE b)]) ∧ Below w.heap.size w w' := by
  have q0 := heap_alloc_new w (.cells #[.string ⟨#[]⟩, .int .i64 0, .int .i64 0, .string ⟨#[]⟩] 43)
  have B0 := below_alloc w (.cells #[.string ⟨#[]⟩, .int .i64 0, .int .i64 0, .string ⟨#[]⟩] 43)
  have hE0 : Eb (w.alloc (.cells #[.string ⟨#[]⟩, .int .i64 0, .int .i64 0, .string ⟨#[]⟩] 43)) w.heap.size (⟨#[]⟩, 0, 0, ⟨#[]⟩) := q0
  have hO := rOpen_any A c n b _ hn (hx.below B0) hl
  unfold tabV at hO
  by_cases h0 : openE b = 0
  · have hg : getE b key seq = firstE (openL b) key seq := by rw [getE, if_pos h0]
    obtain ⟨hT, -⟩ := open_ok b h0
    obtain ⟨t1, t2, t3⟩ := tabE_ok _ hT
    rw [hg]
    rw [h0] at hO
    rw [h0]
    have hF := fun A' c' W (r : RdE W A' c' (openL b)) => rFirst_any A' c' (openL b).length (openL b) key seq W rfl r (Nat.le_trans t2 (by decide))
    generalize openL b = L at *
    obtain ⟨K, hK⟩ : ∃ K, openK b = K := ⟨_, rfl⟩
    obtain ⟨nl, hnl⟩ : ∃ nl, L.length = nl := ⟨_, rfl⟩
    obtain ⟨nx, hnx⟩ : ∃ nx, (openX b).length = nx := ⟨_, rfl⟩
    rw [hnl, hnx, hK] at hO
    rw [hnl] at hF
    have e4 : ∀ o : Option Ent, resV o = .agg #[.string (resE o).1.1, .int .i64 (resE o).1.2.1, .int .i64 (resE o).1.2.2.1, .string (resE o).1.2.2.2] := fun o => rfl
    rw [e4]
    obtain ⟨⟨⟨xk, xq, xd, xv⟩, fb⟩, hy⟩ : ∃ y, resE (firstE L key seq) = y := ⟨_, rfl⟩
    rw [hy]
    simp only [hy] at hF
    clear hK hnl hnx t1 t2 t3 hT h0 hg hy hn e4
    go_enter Try.func16, Try.ntmps16
    go_wp2_with (first | (go_at_call 14; (with_reducible refine hO.mono ?_); rintro e w1 ⟨A1, c1, A2, c2, rfl, O1, O2, HB1⟩; have b1 := below_alloc w1 (.cells #[.slice A1 nl c1, .int .i64 K, .slice A2 nx c2] 39); have hE1 := (hE0.below HB1).below b1; have C1 := stp B0 (stp HB1 b1); have hT1 := heap_alloc_new w1 (.cells #[.slice A1 nl c1, .int .i64 K, .slice A2 nx c2] 39); have r1 := (O1.rdl).below b1; have y0 := blk_cell hT1 0; have y1 := blk_cell hT1 1; have y2 := blk_cell hT1 2) | (go_at_call 55; (with_reducible refine (hF A1 c1 _ r1).mono ?_); rintro e w3 ⟨rfl, HB3⟩; have C3 := stp C1 HB3; have b3 := below_alloc w3 (.cells #[.string xk, .int .i64 xq, .int .i64 xd, .string xv] 43); have hE3 := (hE1.below HB3).below b3; have HC3 := stp C3 b3; obtain ⟨e0, e1, e2, e3, y00, y10, y20, y30⟩ := hE3.read; obtain ⟨f0, f1, f2, f3, -, -, -, -⟩ := (Eb.new w3 (xk, xq, xd, xv)).read))
    have hFF := blk_set (blk_set (blk_set (blk_set hE3 0 (.string xk)) 1 (.int .i64 xq)) 2 (.int .i64 xd)) 3 (.string xv)
    refine bodyPost_ret (v := .tuple #[.agg #[.string xk, .int .i64 xq, .int .i64 xd, .string xv], .bool fb, .int .i64 0]) (results_ctt Try.results16 _ _ w.heap.size _ _ _ _ rfl hFF Try.underlying43 rfl rfl) rfl ⟨rfl, ?_⟩
    exact ((((HC3.setCell (p := ⟨w.heap.size, 0, none⟩) (Nat.le_refl _) _).setCell (p := ⟨w.heap.size, 1, none⟩) (Nat.le_refl _) _).setCell (p := ⟨w.heap.size, 2, none⟩) (Nat.le_refl _) _).setCell (p := ⟨w.heap.size, 3, none⟩) (Nat.le_refl _) _)
  · have hg : getE b key seq = none := by rw [getE, if_neg h0]
    have hl0 : openL b = [] := by rw [openL, if_neg h0]
    have hK0 : openK b = 0 := by rw [openK, if_neg h0]
    have hX0 : openX b = [] := by rw [openX, if_neg h0]
    rw [hg]
    rw [hl0, hK0, hX0] at hO
    have e4 : resV none = .agg #[.string ⟨#[]⟩, .int .i64 0, .int .i64 0, .string ⟨#[]⟩] := rfl
    have e5 : (resE none).2 = false := rfl
    rw [e4, e5]
    generalize openE b = E at *
    clear hg hl0 hK0 hX0 e4 e5 hn
    go_enter Try.func16, Try.ntmps16
    go_wp2_with (first | (go_at_call 14; (with_reducible refine hO.mono ?_); rintro e w1 ⟨A1, c1, A2, c2, rfl, O1, O2, HB1⟩; have b1 := stp HB1 (below_alloc w1 (.cells #[.slice A1 0 c1, .int .i64 0, .slice A2 0 c2] 39)); have hE1 := hE0.below b1; have C1 := stp B0 b1; obtain ⟨e0, e1, e2, e3, y00, y10, y20, y30⟩ := hE1.read))
    have hFF := blk_set (blk_set (blk_set (blk_set hE1 0 (.string ⟨#[]⟩)) 1 (.int .i64 0)) 2 (.int .i64 0)) 3 (.string ⟨#[]⟩)
    refine bodyPost_ret (v := .tuple #[.agg #[.string ⟨#[]⟩, .int .i64 0, .int .i64 0, .string ⟨#[]⟩], .bool false, .int .i64 E]) (results_ctt Try.results16 _ _ w.heap.size _ _ _ _ rfl hFF Try.underlying43 rfl rfl) rfl ⟨rfl, ?_⟩
    exact ((((C1.setCell (p := ⟨w.heap.size, 0, none⟩) (Nat.le_refl _) _).setCell (p := ⟨w.heap.size, 1, none⟩) (Nat.le_refl _) _).setCell (p := ⟨w.heap.size, 2, none⟩) (Nat.le_refl _) _).setCell (p := ⟨w.heap.size, 3, none⟩) (Nat.le_refl _) _)

set_option maxRecDepth 100000 in
set_option maxHeartbeats 1600000 in
theorem same_any10 (A1 A2 D1 D2 : Option Addr) (c1 c2 d1 d2 nl nx : Nat) (K : Int) (L : List Ent) (X : List UInt8) (w : World) (hnl : L.length = nl) (hnx : X.length = nx) (h1 : RdE w A1 c1 L) (h2 : RdE w A2 c2 L) (g1 : RdB w D1 d1 X) (g2 : RdB w D2 d2 X) (hl : nl ≤ 1000000) :
    Calls Try.prog 19 #[.agg #[.slice A1 nl c1, .int .i64 K, .slice D1 nx d1], .agg #[.slice A2 nl c2, .int .i64 K, .slice D2 nx d2]] w fun e w' => e = .returned (.bool true) ∧ Below w.heap.size w w' := by
  obtain ⟨o1, ho1⟩ : ∃ o, o = (.cells #[.slice A1 nl c1, .int .i64 K, .slice D1 nx d1] 34 : Obj) := ⟨_, rfl⟩
  obtain ⟨o2, ho2⟩ : ∃ o, o = (.cells #[.slice A2 nl c2, .int .i64 K, .slice D2 nx d2] 39 : Obj) := ⟨_, rfl⟩
  have b2 : Below w.heap.size w ((w.alloc o1).alloc o2) := stp (below_alloc w o1) (below_alloc _ o2)
  have t1 := ((below_alloc (w.alloc o1) o2).block _ (blk_lt (heap_alloc_new w o1))).trans (heap_alloc_new w o1)
  have t2 := heap_alloc_new (w.alloc o1) o2
  rw [World.size_alloc] at t2
  have hS := fun W (r : RdE W A1 c1 L) (r' : RdE W A2 c2 L) => SameE_any A1 A2 c1 c2 nl L W hnl r r' (by rw [hnl]; omega)
  have hQ := fun W (r : RdB W D1 d1 X) (r' : RdB W D2 d2 X) => SameBytes_at D1 D2 d1 d2 nx nx X X W hnx hnx r r'
  simp only [decide_true] at hQ
  have h1 := h1.below b2
  have h2 := h2.below b2
  have g1 := g1.below b2
  have g2 := g2.below b2
  subst ho1 ho2
  clear hnl hnx hl
  go_enter Try.func19, Try.ntmps19
  go_wp2_with (first | (go_at_call 20; (with_reducible refine (hS _ h1 h2).mono ?_); rintro e w3 ⟨rfl, HB3⟩; have t13 := (HB3.block _ (blk_lt t1)).trans t1; have t23 := (HB3.block _ (blk_lt t2)).trans t2; have y1 := blk_cell t13 1; have y2 := blk_cell t13 2; have x1 := blk_cell t23 1; have x2 := blk_cell t23 2; have g13 := g1.below HB3; have g23 := g2.below HB3) | (go_at_call 17; (with_reducible refine (hQ _ g13 g23).mono ?_); rintro e w4 ⟨rfl, rfl⟩))
  go_ret
  exact ⟨rfl, stp b2 HB3⟩
end Go.Proofs.Ytefcepjffeiaoaa
end

section
/- The walk of TableTells: versions as a table, octets as one, and what is got of them. -/
namespace Go.Proofs.Ytefcepjffeiaoaa
open Go.RowKit Go.Proofs.YtefcepjffeiaoaaW.PrintWords
set_option linter.unusedVariables false

theorem openL_le (b : List UInt8) : (openL b).length ≤ 4160 := by
  rw [openL]
  split
  · exact toldP_le b _ _
  · simp
set_option maxRecDepth 100000 in
set_option maxHeartbeats 6400000 in
theorem tells_walk (A : Option Addr) (c : Nat) (l : List Ent) (B : Option Addr) (d : Nat) (b : List UInt8) (key : ByteArray) (seq : Int) (w : World) (hr : RdE w A c l) (hl : l.length * 48 ≤ 140737488351232) (hb : RdB w B d b) (hbl : b.length ≤ 140737488351232) (hkey : key.size ≤ 140737488351232) (hseq : (Lit.int .i64 seq).wf = true) :
    Calls Try.prog 3 #[.slice A l.length c, .slice B b.length d, .string key, .int .i64 seq] w fun e w' => e = .returned (.bool true) ∧ Below w.heap.size w w' := by
  have hCe := fun W (h : RdE W A c l) => CopyE_any A c l.length l W rfl h hl
  have hCb := fun W (h : RdB W B d b) => CopyBytes_any B d b W h (by omega)
  have hBd := fun A c W (h : RdE W A c l) => Build_any A c l.length l W rfl h (by omega)
  have hRb := fun W (h : RdE W A c l) => rBuild_any A c l.length l W rfl h (by omega)
  have hOp := fun B d W (h : RdB W B d b) => Open_any B d b.length b W rfl h (by omega)
  have hRo := fun W (h : RdB W B d b) => rOpen_any B d b.length b W rfl h (by omega)
  have hGt := fun B d W (h : RdB W B d b) => Get_any10 B d b.length b key seq W rfl h (by omega) (by omega)
  have hRg := fun W (h : RdB W B d b) => rGet_any10 B d b.length b key seq W rfl h (by omega)
  have hSe := fun A B c d W (h : RdE W A c l) (h' : RdE W B d l) => SameE_any A B c d l.length l W rfl h h' (by omega)
  have hSm := fun A1 A2 D1 D2 c1 c2 d1 d2 W (h : RdE W A1 c1 (openL b)) (h' : RdE W A2 c2 (openL b)) (g : RdB W D1 d1 (openX b)) (g' : RdB W D2 d2 (openX b)) => same_any10 A1 A2 D1 D2 c1 c2 d1 d2 (openL b).length (openX b).length (openK b) (openL b) (openX b) W rfl rfl h h' g g' (Nat.le_trans (openL_le b) (by decide))
  have hQ1 := fun A B c d W (h : RdB W A c (tabX l)) (h' : RdB W B d (tabX l)) => SameBytes_at A B c d _ _ (tabX l) (tabX l) W rfl rfl h h'
  have hQ2 := fun A B c d W (h : RdB W A c b) (h' : RdB W B d b) => SameBytes_at A B c d _ _ b b W rfl rfl h h'
  simp only [decide_true] at hQ1 hQ2
  unfold tabV at hOp hRo
  obtain ⟨⟨⟨xk, xq, xd, xv⟩, fb⟩, hy⟩ : ∃ y, resE (getE b key seq) = y := ⟨_, rfl⟩
  unfold resV at hGt hRg
  simp only [hy] at hGt hRg
  generalize tabX l = X at *
  generalize tabE l = z1 at *
  generalize openE b = z2 at *
  generalize openK b = K at *
  generalize openX b = Y at *
  generalize openL b = U at *
  clear hy
  obtain ⟨n, hn⟩ : ∃ n, l.length = n := ⟨_, rfl⟩
  obtain ⟨m, hm⟩ : ∃ m, b.length = m := ⟨_, rfl⟩
  obtain ⟨np, hnp⟩ : ∃ nx, X.length = nx := ⟨_, rfl⟩
  obtain ⟨nl, hnl⟩ : ∃ nu, U.length = nu := ⟨_, rfl⟩
  obtain ⟨nx, hnx⟩ : ∃ nu, Y.length = nu := ⟨_, rfl⟩
  have HN := hide hn
  have HM := hide hm
  have HNP := hide hnp
  rw [hn] at hCe hBd hRb hSe ⊢
  rw [hm] at hCb hOp hRo hGt hRg hQ2 ⊢
  rw [hnp] at hQ1
  rw [hnl, hnx] at hOp hRo hSm
  have hse1 : (xk.toList == xk.toList) = true := by simp
  have hse2 : (xv.toList == xv.toList) = true := by simp
  clear hn hm hnp hnl hnx hl hbl hkey hseq
  go_enter Try.func3, Try.ntmps3
  go_wp2_with (first | (go_at_call 9; (with_reducible refine (hCe _ hr).mono ?_); rintro e w1 ⟨v1, rfl, O1, C1⟩; obtain ⟨A1, c1, hv1, r1⟩ := O1.rd; rw [HN.out] at hv1; subst hv1) | (go_at_call 10; (with_reducible refine (hCb _ (hb.below C1)).mono ?_); rintro e w2 ⟨v2, rfl, O2, HB2⟩; obtain ⟨A2, c2, hv2, r2⟩ := O2.rd; rw [HM.out] at hv2; subst hv2; have C2 := stp C1 HB2; replace r1 := r1.below HB2) | (go_at_call 11; (with_reducible refine (hBd A1 c1 _ r1).mono ?_); rintro e w3 ⟨v3, rfl, O3, HB3⟩; obtain ⟨A3, c3, hv3, r3⟩ := O3.rd; rw [HNP.out] at hv3; subst hv3; have C3 := stp C2 HB3; replace r1 := r1.below HB3; replace r2 := r2.below HB3) | (go_at_call 12; (with_reducible refine (hRb _ (hr.below C3)).mono ?_); rintro e w4 ⟨v4, rfl, O4, HB4⟩; obtain ⟨A4, c4, hv4, r4⟩ := O4.rd; rw [HNP.out] at hv4; subst hv4; have C4 := stp C3 HB4; replace r1 := r1.below HB4; replace r2 := r2.below HB4; replace r3 := r3.below HB4) | (go_at_call 13; (with_reducible refine (hOp A2 c2 _ r2).mono ?_); rintro e w5 ⟨A5, c5, D5, d5, rfl, O5, P5, HB5⟩; have b5 := stp HB5 (below_alloc w5 (.cells #[.slice A5 nl c5, .int .i64 K, .slice D5 nx d5] 34)); have t5 := heap_alloc_new w5 (.cells #[.slice A5 nl c5, .int .i64 K, .slice D5 nx d5] 34); have r5 := (O5.rdl).below (below_alloc w5 (.cells #[.slice A5 nl c5, .int .i64 K, .slice D5 nx d5] 34)); have p5 := (P5.rdl).below (below_alloc w5 (.cells #[.slice A5 nl c5, .int .i64 K, .slice D5 nx d5] 34)); have C5 := stp C4 b5; replace r1 := r1.below b5; replace r2 := r2.below b5; replace r3 := r3.below b5; replace r4 := r4.below b5) | (go_at_call 14; (with_reducible refine (hRo _ (hb.below C5)).mono ?_); rintro e w6 ⟨A6, c6, D6, d6, rfl, O6, P6, HB6⟩; have b6 := stp HB6 (below_alloc w6 (.cells #[.slice A6 nl c6, .int .i64 K, .slice D6 nx d6] 39)); have t6 := heap_alloc_new w6 (.cells #[.slice A6 nl c6, .int .i64 K, .slice D6 nx d6] 39); have r6 := (O6.rdl).below (below_alloc w6 (.cells #[.slice A6 nl c6, .int .i64 K, .slice D6 nx d6] 39)); have p6 := (P6.rdl).below (below_alloc w6 (.cells #[.slice A6 nl c6, .int .i64 K, .slice D6 nx d6] 39)); have C6 := stp C5 b6; replace t5 := (b6.block _ (blk_lt t5)).trans t5; replace r1 := r1.below b6; replace r2 := r2.below b6; replace r3 := r3.below b6; replace r4 := r4.below b6; replace r5 := r5.below b6; replace p5 := p5.below b6) | (go_at_call 15; (with_reducible refine (hGt A2 c2 _ r2).mono ?_); rintro e w7 ⟨rfl, HB7⟩; have b7 := stp HB7 (below_alloc w7 (.cells #[.string xk, .int .i64 xq, .int .i64 xd, .string xv] 43)); have t7 := Eb.new w7 (xk, xq, xd, xv); have C7 := stp C6 b7; replace t5 := (b7.block _ (blk_lt t5)).trans t5; replace t6 := (b7.block _ (blk_lt t6)).trans t6; replace r1 := r1.below b7; replace r2 := r2.below b7; replace r3 := r3.below b7; replace r4 := r4.below b7; replace r5 := r5.below b7; replace p5 := p5.below b7; replace r6 := r6.below b7; replace p6 := p6.below b7) | (go_at_call 16; (with_reducible refine (hRg _ (hb.below C7)).mono ?_); rintro e w8 ⟨rfl, HB8⟩; have b8 := stp HB8 (below_alloc w8 (.cells #[.string xk, .int .i64 xq, .int .i64 xd, .string xv] 43)); have t8 := Eb.new w8 (xk, xq, xd, xv); have C8 := stp C7 b8; replace t5 := (b8.block _ (blk_lt t5)).trans t5; replace t6 := (b8.block _ (blk_lt t6)).trans t6; replace t7 := t7.below b8; have y0 := blk_cell t5 0; have y1 := blk_cell t5 1; have y2 := blk_cell t5 2; have x0 := blk_cell t6 0; have x1 := blk_cell t6 1; have x2 := blk_cell t6 2; replace r1 := r1.below b8; replace r2 := r2.below b8; replace r3 := r3.below b8; replace r4 := r4.below b8; replace r5 := r5.below b8; replace p5 := p5.below b8; replace r6 := r6.below b8; replace p6 := p6.below b8) | (go_at_call 17; (with_reducible refine (hQ1 A3 A4 c3 c4 _ r3 r4).mono ?_); rintro e wq ⟨rfl, rfl⟩) | (go_at_call 18; (with_reducible refine (num_any _ _).mono ?_); rintro e wz ⟨rfl, rfl⟩) | (go_at_call 19; (with_reducible refine (hSm A5 A6 D5 D6 c5 c6 d5 d6 _ r5 r6 p5 p6).mono ?_); rintro e w9 ⟨rfl, HB9⟩; have C9 := stp C8 HB9; have t7b := t7.below HB9; have t8b := t8.below HB9; obtain ⟨e0, e1, e2, e3, -, -, -, -⟩ := t7b.read; obtain ⟨f0, f1, f2, f3, -, -, -, -⟩ := t8b.read; have r19 := r1.below HB9; have r29 := r2.below HB9) | (go_at_call 20; (with_reducible refine (hSe A1 A c1 c _ r19 (hr.below C9)).mono ?_); rintro e wa ⟨rfl, HBa⟩; have Ca := stp C9 HBa; have r2a := r29.below HBa) | (go_at_call 17; (with_reducible refine (hQ2 A2 B c2 d _ r2a (hb.below Ca)).mono ?_); rintro e wr ⟨rfl, rfl⟩) | (go_at_call 21; (with_reducible refine (alive_any _).mono ?_); rintro e wb ⟨rfl, HBb⟩; have Cb := stp Ca HBb))
  go_ret
  exact ⟨rfl, Cb⟩
end Go.Proofs.Ytefcepjffeiaoaa
end
