/- The contracts that the laws of this seat share: octets, sums, numbers, records. -/
import Derived.Test.YtfclmkbhfpjhjaaMgA
import Derived.Test.YtfclmkbhfpjhjaaPBx
import Derived.Test.YtfclmkbhfpjhjaaSh_cmp_Compare_int
import Derived.Deep.RegionHeld3
import Derived.Lib.AppendStr
set_option linter.unusedVariables false
set_option linter.unusedSimpArgs false
section
/- Block: the walk of told. -/
namespace Go.Proofs.Ytfclmkbhfpjhjaa
open Go.RowKit Go.Proofs.YtfclmkbhfpjhjaaW.PrintWords
set_option linter.unusedVariables false

theorem rdEnt_size (key b : List UInt8) (x : Ent) (r : List UInt8) (h : rdEnt key b = .ok (x, r)) : x.1.size ≤ key.length + 65536 := by
  unfold rdEnt at h
  split at h
  · cases h
  · split at h
    · cases h
    · next k r2 h2 =>
      have hk := (rdNum_ok _ _ _ _ _ h2).2.2.1 ▸ (rdNum_ok _ _ _ _ _ h2).2.1
      split at h
      · cases h
      · split at h
        · cases h
        · split at h
          · cases h
          · split at h
            · cases h
            · next rest r6 h6 =>
              have hr : rest.length ≤ k := by
                unfold rdTake at h6
                split at h6
                · cases h6
                · injection h6 with h6
                  injection h6 with h7 h8
                  subst h7
                  rw [List.length_take]; omega
              split at h
              · cases h
              · split at h
                · cases h
                · injection h with h
                  injection h with h9 h10
                  subst h9
                  show (⟨_⟩ : ByteArray).size ≤ _
                  rw [← bl_length, bl_mk, List.length_append, List.length_take]
                  omega
theorem rdEs_step (f : Nat) (key bb r : List UInt8) (x : Ent) (pre : List Ent) (hb : bb ≠ []) (h : rdEnt key bb = .ok (x, r)) : (rdEs (f + 1) key bb).map (pre ++ ·) = (rdEs f (bl x.1) r).map ((pre ++ [x]) ++ ·) := by
  rw [rdEs, if_neg hb, h]
  simp only [Option.map_map]
  congr 1
  funext l
  simp
theorem Cu.grown {w0 : World} {g : Nat} {b : List UInt8} {key : ByteArray} {ok : Bool} {W W' : World} (h : Cu w0 g b key ok W) {row : Option Nat} (hg : W.grownBy W' row) (hne : some g ≠ row) : Cu w0 g b key ok W' := by
  obtain ⟨A, c, h1, h2⟩ := h
  exact ⟨A, c, blk_grown h1 hg hne, h2⟩
theorem OwE.gb {g : Nat} {w w1 w0 : World} {base : Nat} {v : Value} {xs : List Ent} (h : OwE w base v xs) {b : List UInt8} {key : ByteArray} {ok : Bool} (hb : Cu w0 g b key ok w) {w2 : World} (hg : Gb g w2 w w1) : OwE w1 base v xs := by
  obtain ⟨A, c, h1, _⟩ := hb
  exact Kd.R_mono (Kd.R_grown (Kd.R_types h h1 (one_ne (by decide))) hg.1 (fun k hk e => hk.2 (by injection e))) (fun _ _ => trivial)
def lenOf : Value → Nat
  | .slice _ n _ => n
  | _ => 0
set_option maxRecDepth 100000 in
set_option maxHeartbeats 1600000 in
theorem told_any (A : Option Addr) (c : Nat) (b : List UInt8) (w : World) (hx : RdB w A c b) (hl : b.length ≤ 140737488355328) :
    Calls Try.prog 30 #[.slice A b.length c] w fun e w' => ∃ v, e = .returned v ∧ OwE w' w.heap.size v (toldE b) ∧ Below w.heap.size w w' := by
  have hle := hx.le
  cases hm : b.length with
  | zero =>
    have ht : toldE b = [] := by rw [toldE, if_pos (by omega)]
    rw [ht]
    clear hle hx ht
    go_enter Try.func30, Try.ntmps30
    go_wp2
    go_ret
    exact ⟨_, rfl, Ow.zero _ _ _ _, Below.refl _ _⟩
  | succ m1 =>
    obtain ⟨ad, rfl, hc⟩ := hx.at_ m1 (by omega)
    obtain ⟨u, hu⟩ : ∃ u, b.getD m1 0 = u := ⟨_, rfl⟩
    obtain ⟨m, hmm⟩ : ∃ m, m1 + 1 = m := ⟨_, rfl⟩
    have hu8 := u.toNat_lt
    have e1 : wrap64 ((m : Int) - 1) = (m1 : Int) := by unfold wrap64; omega
    obtain ⟨x2, hx2⟩ : ∃ x2 : Nat, 2 * u.toNat = x2 := ⟨_, rfl⟩
    have e3 : wrap64 (u.toNat : Int) = (u.toNat : Int) := by unfold wrap64; omega
    have hmi : (m1 : Int) < (m : Int) := by omega
    have hm1 : m1 < m := by omega
    have hm0 : ¬ m = 0 := by omega
    have hm0i : ¬ (m : Int) = 0 := by omega
    have hmb : ((m : Int) == 0) = false := beq_eq_false_iff_ne.2 hm0i
    have htold : toldE b = if m1 < x2 then [] else (rdEs 65 [] (b.take (m1 - x2))).getD [] := by
      rw [toldE, if_neg (by omega), hm, Nat.add_sub_cancel, hu, hx2]
    rw [hu] at hc
    by_cases hn : m1 < x2
    · rw [if_pos hn] at htold
      rw [htold]
      have e4 : wrap64 ((m1 : Int) - 2 * (u.toNat : Int)) = -(((x2 - m1 : Nat) : Int)) := by unfold wrap64; omega
      obtain ⟨d, hd⟩ : ∃ d, x2 - m1 = d := ⟨_, rfl⟩
      rw [hd] at e4
      have e5 : -(d : Int) < 0 := by omega
      have e6 : 0 < d := by omega
      clear hd
      rw [hmm]
      clear htold hx hu hx2 hm hle hl
      go_enter Try.func30, Try.ntmps30
      go_wp2
      go_ret
      exact ⟨_, rfl, Ow.zero _ _ _ _, Below.refl _ _⟩
    · rw [if_neg hn] at htold
      obtain ⟨E, hE⟩ : ∃ E : Nat, m1 - x2 = E := ⟨_, rfl⟩
      rw [hE] at htold
      have e4 : wrap64 ((m1 : Int) - 2 * (u.toNat : Int)) = (E : Int) := by unfold wrap64; omega
      have hEm : E ≤ b.length := by omega
      have htk := hx.take E hEm
      have htl : (b.take E).length = E := by rw [List.length_take]; omega
      have hsh := fun W => slice_hi 23 5 Try.underlying23 (i := _) rfl rfl (some ad) m c E (by omega) W
      have hEl : E ≤ 140737488355328 := by omega
      rw [hmm]
      generalize b.take E = B0 at *
      have HT := hide htold
      rw [htold]
      generalize hres : rdEs 65 [] B0 = res at *
      have HR := hide hres
      have B1 := below_alloc w (.cells #[.slice (some ad) E c, .string ⟨#[]⟩, .bool true] 77)
      have hCu0 : Cu w w.heap.size B0 ⟨#[]⟩ true (w.alloc (.cells #[.slice (some ad) E c, .string ⟨#[]⟩, .bool true] 77)) := ⟨some ad, c, by rw [htl]; exact heap_alloc_new w _, St.of htk⟩
      clear htold hx hu hx2 hm hle hl hn hEm hres htl hE
      go_enter Try.func30, Try.ntmps30
      go_wp2
      simp only [e1, e4, hmb]
      go_loopw [5] (fun l wr => ∃ (f : Nat) (key : ByteArray) (bb : List UInt8) (pre : List Ent), pre.length + f = 65 ∧ res = (rdEs f (bl key) bb).map (pre ++ ·) ∧ Cu w w.heap.size bb key true wr ∧ key.size ≤ 65536 * pre.length ∧ OwE wr (w.heap.size + 1) l pre ∧ Below w.heap.size w wr) (fun l _ => 66 - lenOf l)
      case atStart => exact ⟨65, ⟨#[]⟩, B0, [], by simp, by rw [← HR.out]; simp [bl], hCu0, Nat.zero_le _, Ow.zero _ _ _ _, B1⟩
      case round =>
        obtain ⟨f, key, bb, pre, hpf, hres, hCu, hks, HO, HB⟩ := hrel
        obtain ⟨Ao, co, hvo, hro⟩ := HO.rd
        subst hvo
        have hCu' := hCu
        obtain ⟨A2, c2, hc2, hst2⟩ := hCu'
        have z0 := blk_cell hc2 0
        obtain ⟨nb, hnb⟩ : ∃ nb, bb.length = nb := ⟨_, rfl⟩
        obtain ⟨pl, hpl⟩ : ∃ pl, pre.length = pl := ⟨_, rfl⟩
        rw [hnb] at z0
        rw [hpl] at hpf hks HO ⊢
        by_cases hb : bb = []
        · have hnb0 : nb = 0 := by rw [← hnb, hb]; rfl
          have hend : res.getD [] = pre := by
            rw [hres, hb]
            cases f <;> simp [rdEs]
          subst hnb0
          clear hres hnb hb hks hpf HR HT
          go_wp2
          go_ret
          exact ⟨_, rfl, by first | exact HO.lower (Nat.le_succ _) | (rw [hend]; exact HO.lower (Nat.le_succ _)), HB⟩
        · have hnb0 : ¬ nb = 0 := fun e => hb (List.eq_nil_of_length_eq_zero (by omega))
          have hnb1 : 0 < nb := by omega
          have hnbi : (0 : Int) < (nb : Int) := by omega
          cases f with
          | zero =>
            have hpl65 : ¬ pl ≤ 64 := by omega
            have hpl65i : ¬ (pl : Int) ≤ 64 := by omega
            have hend : res.getD [] = pre := by rw [hres]; simp [rdEs]
            clear hres hnb hb hks hpf HR HT
            go_wp2
            go_ret
            exact ⟨_, rfl, by first | exact HO.lower (Nat.le_succ _) | (rw [hend]; exact HO.lower (Nat.le_succ _)), HB⟩
          | succ f =>
            have hpl65 : pl ≤ 64 := by omega
            have hpl65i : (pl : Int) ≤ 64 := by omega
            have hEn := entry_any w w.heap.size bb key wr hCu HB (Nat.le_refl _) (by omega)
            have hgl := hCu.lt
            cases hrd : rdEnt (bl key) bb with
            | error z =>
              have hend : res.getD [] = [] := by rw [hres, rdEs, if_neg hb, hrd]; rfl
              clear hres hnb hb hks hpf HR HT hc2 hst2
              have HRD := hide hrd
              clear hrd
              go_wp2_with (first | (go_at_call 46; (with_reducible refine hEn.mono ?_); rintro e w1 ⟨x, rfl, G1, hok, herr⟩; obtain ⟨b', hCu1⟩ := herr _ HRD.out; have HB1 := HB.trans (G1.2 _ (Nat.le_refl _) HB.size); have hCu2 := hCu1.below (below_alloc w1 (.cells #[.string x.1, .int .i64 x.2.1, .int .i64 x.2.2.1, .string x.2.2.2] 36)); obtain ⟨A3, c3, hc3, hst3⟩ := hCu2; have z3 := blk_cell hc3 2; clear hok herr))
              go_ret
              exact ⟨_, rfl, by rw [hend]; exact Ow.zero _ _ _ _, HB1.alloc HB1.size _⟩
            | ok p =>
              obtain ⟨y, r⟩ := p
              have hsz := rdEnt_size _ _ _ _ hrd
              rw [bl_length] at hsz
              have hst := rdEs_step f (bl key) bb r y pre hb hrd
              have HRES := hide (hres.trans hst)
              have HPL := hide hpl
              have HRD := hide hrd
              have hsz2 : y.1.size ≤ 65536 * (pl + 1) := by omega
              have hf2 : pl + 1 + f = 65 := by omega
              have HS := hide hsz2
              have HF := hide hf2
              have hapl : (pre.length + 1) * 48 ≤ 140737488355328 := by omega
              have HAP := hide hapl
              clear hres hnb hb hks hpf HR HT hc2 hst2 hrd hsz hst hsz2 hf2 hpl hapl hro
              go_wp2_with (first | (go_at_call 46; (with_reducible refine hEn.mono ?_); rintro e w1 ⟨x, rfl, G1, hok, herr⟩; obtain ⟨rfl, hCu1⟩ := hok _ _ HRD.out; have HB1 := HB.trans (G1.2 _ (Nat.le_refl _) HB.size); have bA := below_alloc w1 (.cells #[.string x.1, .int .i64 x.2.1, .int .i64 x.2.2.1, .string x.2.2.2] 36); have hCu2 := hCu1.below bA; obtain ⟨A3, c3, hc3, hst3⟩ := id hCu2; have z3 := blk_cell hc3 2; have HO1 := (OwE.gb HO hCu G1).below bA; have HB2 := HB1.alloc HB1.size (.cells #[.string x.1, .int .i64 x.2.1, .int .i64 x.2.2.1, .string x.2.2.2] 36); obtain ⟨y0, y1, y2, y3, y4, y5, y6, y7⟩ := (Eb.new w1 x).read; have hlt1 := hCu1.lt; clear hok herr) | (at_builtin; refine app_ent (w0 := w1.alloc (.cells #[.string x.1, .int .i64 x.2.1, .int .i64 x.2.2.1, .string x.2.2.2] 36)) (W := w1.alloc (.cells #[.string x.1, .int .i64 x.2.1, .int .i64 x.2.2.1, .string x.2.2.2] 36)) (w.heap.size + 1) rfl (.tmp 47) (.tmp 49) rfl _ pre x (by rfl) (by simp [Act.eval, Array.getD]) HO1 (Below.refl _ _) hCu2.lt HAP.out ?_; intro v5 w5 HO5 HB5 hg5 hat5))
              go_roundw
              case rel => exact ⟨f, x.1, r, pre ++ [x], by rw [List.length_append, List.length_singleton, HPL.out]; exact HF.out, HRES.out, hCu2.grown hg5 (fun e => absurd (HO1.ge _ e.symm) (Nat.not_succ_le_self _)), by rw [List.length_append, List.length_singleton, HPL.out]; exact HS.out, HO5, HB2.trans (HB5.mono (Nat.le_succ _))⟩
              case measure =>
                obtain ⟨A6, c6, hv6, _⟩ := HO5.rd
                rw [hv6, List.length_append, List.length_singleton, HPL.out]
                simp [lenOf]; omega
end Go.Proofs.Ytfclmkbhfpjhjaa
end

section
/- Block: the reference's reader in one form. -/
namespace Go.Proofs.Ytfclmkbhfpjhjaa
open Go.RowKit Go.Proofs.YtfclmkbhfpjhjaaW.PrintWords
set_option linter.unusedVariables false

/-- a reader: what is left, is all well so far -/
def RsS (g : Nat) (A : Option Addr) (c n : Nat) (x b : List UInt8) (ok : Bool) (W : World) : Prop := ∃ p e, p ≤ n ∧ Rs g A c n p e W ∧ (ok = true → e = 0 ∧ x.drop p = b) ∧ (ok = false → e ≠ 0)
theorem RsS.below {g : Nat} {A : Option Addr} {c n : Nat} {x b : List UInt8} {ok : Bool} {W W' : World} (h : RsS g A c n x b ok W) (hb : Below W.heap.size W W') : RsS g A c n x b ok W' := by
  obtain ⟨p, e, h1, h2, h3, h4⟩ := h
  exact ⟨p, e, h1, h2.below hb, h3, h4⟩
theorem RsS.grown {g : Nat} {A : Option Addr} {c n : Nat} {x b : List UInt8} {ok : Bool} {W W' : World} (h : RsS g A c n x b ok W) {row : Option Nat} (hg : W.grownBy W' row) (hne : some g ≠ row) : RsS g A c n x b ok W' := by
  obtain ⟨p, e, h1, h2, h3, h4⟩ := h
  exact ⟨p, e, h1, blk_grown h2 hg hne, h3, h4⟩
theorem RsS.lt {g : Nat} {A : Option Addr} {c n : Nat} {x b : List UInt8} {ok : Bool} {W : World} (h : RsS g A c n x b ok W) : g < W.heap.size := by
  obtain ⟨p, e, h1, h2, h3, h4⟩ := h
  exact h2.lt
theorem rN_any (w0 : World) (g : Nat) (A : Option Addr) (c n : Nat) (x b : List UInt8) (ok : Bool) (hx : St w0 A c x) (hn : x.length = n) (hn2 : n ≤ 140737488355328) (most : Nat) (mi : Int) (hmi0 : mi = (most : Int)) (hm : most ≤ 1099511627776) (w : World) (hs : RsS g A c n x b ok w) (hB : Below w0.heap.size w0 w) :
    Calls Try.prog 48 #[.pointer (some ⟨g, 0, none⟩), .int .u64 mi, .int .i64 21] w fun e1 w' => e1 = .returned (.int .i64 ((cNum most b ok).1 : Int)) ∧ RsS g A c n x (cNum most b ok).2.1 (cNum most b ok).2.2 w' ∧ Gb g w0 w w' := by
  obtain ⟨p, e, h1, h2, h3, h4⟩ := hs
  cases ok with
  | false =>
    rw [cNum_off]
    refine (rNum_off w0 g A c n p e (h4 rfl) mi 21 w h2).mono ?_
    rintro e1 w' ⟨rfl, hs', hg'⟩
    exact ⟨rfl, ⟨p, e, h1, hs', fun h => by simp at h, fun _ => h4 rfl⟩, hg'⟩
  | true =>
    obtain ⟨rfl, hb⟩ := h3 rfl
    cases hr : rdNum most 21 b with
    | ok q =>
      obtain ⟨k, r⟩ := q
      have e0 : cNum most b true = (k, r, true) := by rw [cNum, if_pos rfl, hr]
      rw [e0]
      refine (rNum_ok w0 g A c n p x hx hn hn2 h1 most mi hmi0 hm 21 w h2 hB k r (by rw [hb]; exact hr)).mono ?_
      rintro e1 w' ⟨rfl, ⟨p', h5, h6, h7⟩, hg'⟩
      exact ⟨rfl, ⟨p', 0, h5, h7, fun _ => ⟨rfl, h6⟩, fun h => by simp at h⟩, hg'⟩
    | error z =>
      have e0 : cNum most b true = (0, b, false) := by rw [cNum, if_pos rfl, hr]
      rw [e0]
      have hz := rdNum_ne most 21 (by decide) b z hr
      refine (rNum_err w0 g A c n p x hx hn hn2 h1 most mi hmi0 hm 21 w h2 hB z (by rw [hb]; exact hr)).mono ?_
      rintro e1 w' ⟨rfl, hs', hg'⟩
      exact ⟨rfl, ⟨p, z, h1, hs', fun h => by simp at h, fun _ => hz⟩, hg'⟩
theorem rT_any (w0 : World) (g : Nat) (A : Option Addr) (c n : Nat) (x b : List UInt8) (ok : Bool) (hx : St w0 A c x) (hn : x.length = n) (hn2 : n ≤ 140737488355328) (m : Nat) (mi : Int) (hmi0 : mi = (m : Int)) (hm : m ≤ 1099511627776) (w : World) (hs : RsS g A c n x b ok w) (hB : Below w0.heap.size w0 w) (hg : w0.heap.size ≤ g) :
    Calls Try.prog 49 #[.pointer (some ⟨g, 0, none⟩), .int .i64 mi] w fun e1 w' => ∃ v, e1 = .returned v ∧ OwB w' w.heap.size v (cTake m b ok).1 ∧ RsS g A c n x (cTake m b ok).2.1 (cTake m b ok).2.2 w' ∧ Gb g w0 w w' := by
  obtain ⟨p, e, h1, h2, h3, h4⟩ := hs
  cases ok with
  | false =>
    rw [cTake_off]
    refine (rTake_off w0 g A c n p e (h4 rfl) mi w h2).mono ?_
    rintro e1 w' ⟨rfl, hs', hg'⟩
    exact ⟨_, rfl, OwB.zero _ _, ⟨p, e, h1, hs', fun h => by simp at h, fun _ => h4 rfl⟩, hg'⟩
  | true =>
    obtain ⟨rfl, hb⟩ := h3 rfl
    have hbl : b.length = n - p := by rw [← hb, List.length_drop, hn]
    by_cases hmb : m ≤ b.length
    · have e0 : cTake m b true = (b.take m, b.drop m, true) := by rw [cTake, if_pos ⟨rfl, hmb⟩]
      rw [e0]
      refine (rTake_ok w0 g A c n p m x hx hn hn2 h1 mi hmi0 (by omega) w h2 hB hg).mono ?_
      rintro e1 w' ⟨⟨v, rfl, HO⟩, hs', hg'⟩
      rw [hb] at HO
      exact ⟨v, rfl, HO, ⟨p + m, 0, by omega, hs', fun _ => ⟨rfl, by rw [← List.drop_drop, hb]⟩, fun h => by simp at h⟩, hg'⟩
    · have e0 : cTake m b true = ([], b, false) := by rw [cTake, if_neg (fun h => hmb h.2)]
      rw [e0]
      refine (rTake_err w0 g A c n p m mi hmi0 h1 hn2 (by omega) hm w h2).mono ?_
      rintro e1 w' ⟨rfl, hs', hg'⟩
      exact ⟨_, rfl, OwB.zero _ _, ⟨p, 8, h1, hs', fun h => by simp at h, fun _ => by decide⟩, hg'⟩
section
variable {ops : Array Oper} {o : Oper} {a : Act} {Q : Exit → Act → World → Prop} {K : Act → World → Prop}
/-- a version appended, a step of a region that draws -/
theorem step_ent {w0 W : World} (base : Nat) (hw : Region.wanted o (yielded ops a.tmps) = true) (s x : Operand)
    (ho : o.op = .call { callee := .builtin .append, args := #[s, x], argTypes := #[22, 22] })
    (v : Value) (xs : List Ent) (c : Ent) (hs : a.eval s = v) (hx : a.eval x = .slice (some ⟨W.heap.size, 0, none⟩) 1 1)
    (HO : OwE W base v xs) (HB : Below base w0 W) (hbase : base ≤ W.heap.size) (hl : (xs.length + 1) * 48 ≤ 140737488355328)
    (h : ∀ v1 w1, OwE w1 base v1 (xs ++ [c]) → Below base w0 w1 → W.grownBy w1 v.ownBlock → K (a.put o.dst v1) w1) :
    if Region.wanted o (yielded ops a.tmps) = true then Oper.wp Try.prog o a (W.alloc (.cells #[.string c.1, .int .i64 c.2.1, .int .i64 c.2.2.1, .string c.2.2.2] 36)) K Q else K (a.put o.dst undef) (W.alloc (.cells #[.string c.1, .int .i64 c.2.1, .int .i64 c.2.2.1, .string c.2.2.2] 36)) :=
  Kd.R_append_step (P := Try.prog) kEnt base hw s x 22 36 _ 48 ho Try.underlying22 info_ent rfl (by decide) (by decide) v xs c [.string c.1, .int .i64 c.2.1, .int .i64 c.2.2.1, .string c.2.2.2] (fun _ => True) (fun _ => False) hs hx (kEnt_M _ _ _ _) (fun _ h => h.elim) (fun _ _ => trivial) HO HB hbase hl (fun v1 w1 h1 h2 h3 _ => h v1 w1 h1 h2 h3)
end
end Go.Proofs.Ytfclmkbhfpjhjaa
end

section
/- Block: the walk of the reference's told. -/
namespace Go.Proofs.Ytfclmkbhfpjhjaa
open Go.RowKit Go.Proofs.YtfclmkbhfpjhjaaW.PrintWords
set_option linter.unusedVariables false

theorem Ow.rs {α : Type} {d : Kd α} {e g : Nat} {w w1 w2 : World} {base : Nat} {v : Value} {xs : List α} (h : Ow d e w base v xs) {A : Option Addr} {c n : Nat} {x b : List UInt8} {ok : Bool} (hs : RsS g A c n x b ok w) (ht : ∀ q, q ∈ e :: d.E → q ≠ 81) (hg : Gb g w2 w w1) : Ow d e w1 base v xs := by
  obtain ⟨p, e', h1, h2, h3, h4⟩ := hs
  exact Kd.R_mono (Kd.R_grown (Kd.R_types h h2 ht) hg.1 (fun k hk e => hk.2 (by injection e))) (fun _ _ => trivial)
theorem wrap_u8' (u : UInt8) : IntKind.i64.wrap (u.toNat : Int) = (u.toNat : Int) := by have := u.toNat_lt; rw [IntKind.wrap_i64]; omega
theorem wrap_u8 (u : UInt8) : wrap64 (u.toNat : Int) = (u.toNat : Int) := by have := u.toNat_lt; unfold wrap64; omega
theorem rt_end (n p : Nat) (x bb : List UInt8) (hn : x.length = n) (hp : p ≤ n) (h : x.drop p = bb) : (bb = [] ↔ ¬ p < n) := by
  subst h
  rw [List.drop_eq_nil_iff, hn]
  omega
theorem rd_head {w : World} {A : Option Addr} {c : Nat} {x : UInt8} {xs : List UInt8} (h : RdB w A c (x :: xs)) : ∃ ad, A = some ad ∧ w.cell? ad = some (.int .u8 (x.toNat : Int)) := by
  obtain ⟨ad, e, hc⟩ := h.at_ 0 (by simp)
  refine ⟨ad, e, ?_⟩
  have : ad.add 0 = ad := by cases ad; rfl
  rw [this] at hc
  exact hc
theorem lenOf_ow {d : Kd Ent} {e : Nat} {w : World} {base : Nat} {v : Value} {xs : List Ent} (h : Ow d e w base v xs) : lenOf v = xs.length := by
  obtain ⟨A, c, hv, _⟩ := h.rd
  rw [hv]; rfl
set_option maxRecDepth 100000 in
set_option maxHeartbeats 3200000 in
theorem rtold_any (A : Option Addr) (c : Nat) (b : List UInt8) (w : World) (hx : RdB w A c b) (hl : b.length ≤ 140737488355328) :
    Calls Try.prog 33 #[.slice A b.length c] w fun e w' => ∃ v, e = .returned v ∧ OwE w' w.heap.size v (toldE b) ∧ Below w.heap.size w w' := by
  have hle := hx.le
  cases hm : b.length with
  | zero =>
    have ht : toldE b = [] := by rw [toldE, if_pos (by omega)]
    rw [ht]
    clear hle hx ht
    go_enter Try.func33, Try.ntmps33
    go_wp2
    go_ret
    exact ⟨_, rfl, Ow.zero _ _ _ _, Below.refl _ _⟩
  | succ m1 =>
    obtain ⟨ad, rfl, hc⟩ := hx.at_ m1 (by omega)
    obtain ⟨u, hu⟩ : ∃ u, b.getD m1 0 = u := ⟨_, rfl⟩
    obtain ⟨m, hmm⟩ : ∃ m, m1 + 1 = m := ⟨_, rfl⟩
    have hu8 := u.toNat_lt
    have e1 : wrap64 ((m : Int) - 1) = (m1 : Int) := by unfold wrap64; omega
    obtain ⟨x2, hx2⟩ : ∃ x2 : Nat, 2 * u.toNat = x2 := ⟨_, rfl⟩
    have e3 : wrap64 (u.toNat : Int) = (u.toNat : Int) := by unfold wrap64; omega
    have hmi : (m1 : Int) < (m : Int) := by omega
    have hm1 : m1 < m := by omega
    have hm0 : ¬ m = 0 := by omega
    have hm0i : ¬ (m : Int) < 1 := by omega
    have hm0n : ¬ m < 1 := by omega
    have hmb : decide ((m : Int) < 1) = false := decide_eq_false hm0i
    have htold : toldE b = if m1 < x2 then [] else (rdEs 65 [] (b.take (m1 - x2))).getD [] := by
      rw [toldE, if_neg (by omega), hm, Nat.add_sub_cancel, hu, hx2]
    rw [hu] at hc
    by_cases hn : m1 < x2
    · rw [if_pos hn] at htold
      rw [htold]
      have e4 : wrap64 ((m1 : Int) - 2 * (u.toNat : Int)) = -(((x2 - m1 : Nat) : Int)) := by unfold wrap64; omega
      obtain ⟨d, hd⟩ : ∃ d, x2 - m1 = d := ⟨_, rfl⟩
      rw [hd] at e4
      have e5 : -(d : Int) < 0 := by omega
      have e6 : 0 < d := by omega
      clear hd
      rw [hmm]
      clear htold hx hu hx2 hm hle hl
      go_enter Try.func33, Try.ntmps33
      go_wp2
      go_ret
      exact ⟨_, rfl, Ow.zero _ _ _ _, Below.refl _ _⟩
    · rw [if_neg hn] at htold
      obtain ⟨E, hE⟩ : ∃ E : Nat, m1 - x2 = E := ⟨_, rfl⟩
      rw [hE] at htold
      have e4 : wrap64 ((m1 : Int) - 2 * (u.toNat : Int)) = (E : Int) := by unfold wrap64; omega
      have hEm : E ≤ b.length := by omega
      have htk := hx.take E hEm
      have htl : (b.take E).length = E := by rw [List.length_take]; omega
      have hsh := fun W => slice_hi 23 5 Try.underlying23 (i := _) rfl rfl (some ad) m c E (by omega) W
      have hEl : E ≤ 140737488355328 := by omega
      rw [hmm]
      generalize b.take E = B0 at *
      have HT := hide htold
      rw [htold]
      generalize hres : rdEs 65 [] B0 = res at *
      have HR := hide hres
      have HTL := hide htl
      have B1 := below_alloc w (.cells #[.slice (some ad) E c, .int .i64 0, .int .i64 0] 81)
      have hSt : St w (some ad) c B0 := St.of htk
      have hR0 : RsS w.heap.size (some ad) c E B0 B0 true (w.alloc (.cells #[.slice (some ad) E c, .int .i64 0, .int .i64 0] 81)) := ⟨0, 0, Nat.zero_le _, heap_alloc_new w _, fun _ => ⟨rfl, rfl⟩, fun h => by simp at h⟩
      clear htold hx hu hx2 hm hle hl hn hEm hres htl hE
      go_enter Try.func33, Try.ntmps33
      go_wp2
      try simp only [e1, e4, hmb]
      go_loopw [5, 6] (fun l kv wr => ∃ (f : Nat) (key : ByteArray) (bb : List UInt8) (pre : List Ent), kv = .string key ∧ pre.length + f = 65 ∧ res = (rdEs f (bl key) bb).map (pre ++ ·) ∧ RsS w.heap.size (some ad) c E B0 bb true wr ∧ key.size ≤ 65536 * pre.length ∧ OwE wr (w.heap.size + 1) l pre ∧ Below w.heap.size w wr) (fun l _ _ => 66 - lenOf l)
      case atStart => exact ⟨65, ⟨#[]⟩, B0, [], rfl, by simp, by rw [← HR.out]; simp [bl], hR0, Nat.zero_le _, Ow.zero _ _ _ _, B1⟩
      case round =>
        obtain ⟨f, key, bb, pre, rfl, hpf, hres, hRs, hks, HO, HB⟩ := hrel
        obtain ⟨Ao, co, hvo, hro⟩ := HO.rd
        subst hvo
        obtain ⟨p, e, hp, hRp, h3, _⟩ := id hRs
        obtain ⟨rfl, hpb⟩ := h3 rfl
        obtain ⟨z0, z1, z2, z3, z4, z5⟩ := hRp.read
        have hend := rt_end E p B0 bb HTL.out hp hpb
        obtain ⟨pl, hpl⟩ : ∃ pl, pre.length = pl := ⟨_, rfl⟩
        rw [hpl] at hpf hks HO ⊢
        clear h3 hpb hRp
        by_cases hb : bb = []
        · have hpE : ¬ p < E := hend.1 hb
          have hpEi : ¬ (p : Int) < (E : Int) := fun h => hpE (Int.ofNat_lt.1 h)
          have hfin : res.getD [] = pre := by
            rw [hres, hb]
            cases f <;> simp [rdEs]
          clear hres hb hks hpf HR HT hend
          go_wp2
          go_ret
          exact ⟨_, rfl, by first | exact HO.lower (Nat.le_succ _) | (rw [hfin]; exact HO.lower (Nat.le_succ _)), HB⟩
        · have hpE : p < E := Decidable.not_not.1 (fun h => hb (hend.2 h))
          have hpEi : (p : Int) < (E : Int) := Int.ofNat_lt.2 hpE
          clear hend
          cases f with
          | zero =>
            have hpl65 : ¬ pl ≤ 64 := by omega
            have hpl65i : ¬ (pl : Int) ≤ 64 := by omega
            have hfin : res.getD [] = pre := by rw [hres]; simp [rdEs]
            clear hres hb hks hpf HR HT
            go_wp2
            go_ret
            exact ⟨_, rfl, by first | exact HO.lower (Nat.le_succ _) | (rw [hfin]; exact HO.lower (Nat.le_succ _)), HB⟩
          | succ f =>
            have hpl65 : pl ≤ 64 := by omega
            have hpl65i : (pl : Int) ≤ 64 := by omega
            have hgl := hRs.lt
            rcases h1 : cNum 65536 bb true with ⟨n, b1, o1⟩
            rcases h2 : cNum 65536 b1 o1 with ⟨k, b2, o2⟩
            rcases h3 : cNum 1099511627776 b2 o2 with ⟨q, b3, o3⟩
            rcases h4 : cNum 65536 b3 o3 with ⟨v, b4, o4⟩
            rcases h5 : cTake 1 b4 o4 with ⟨kd, b5, o5⟩
            rcases h6 : cTake k b5 o5 with ⟨rest, b6, o6⟩
            rcases h7 : cTake v b6 o6 with ⟨val, b7, o7⟩
            have hch := ent_chain (bl key) bb b1 b2 b3 b4 b5 b6 b7 kd rest val n k q v o1 o2 o3 o4 o5 o6 o7 h1 h2 h3 h4 h5 h6 h7
            have n1 := cNum_le 65536 bb true
            have n2 := cNum_le 65536 b1 o1
            have n4 := cNum_le 65536 b3 o3
            have n6 := cTake_le k b5 o5
            have N1 := fun W hs hB => rN_any w w.heap.size (some ad) c E B0 bb true hSt HTL.out hEl 65536 65536 rfl (by decide) W hs hB
            have N2 := fun W hs hB => rN_any w w.heap.size (some ad) c E B0 b1 o1 hSt HTL.out hEl 65536 65536 rfl (by decide) W hs hB
            have N3 := fun W hs hB => rN_any w w.heap.size (some ad) c E B0 b2 o2 hSt HTL.out hEl 1099511627776 1099511627776 rfl (by decide) W hs hB
            have N4 := fun W hs hB => rN_any w w.heap.size (some ad) c E B0 b3 o3 hSt HTL.out hEl 65536 65536 rfl (by decide) W hs hB
            have T5 := fun W hs hB => rT_any w w.heap.size (some ad) c E B0 b4 o4 hSt HTL.out hEl 1 1 rfl (by decide) W hs hB (Nat.le_refl _)
            rw [h1] at n1 N1
            rw [h2] at n2 N2
            rw [h3] at N3
            rw [h4] at n4 N4
            rw [h5] at T5
            rw [h6] at n6
            simp only at n1 n2 n4 n6 N1 N2 N3 N4 T5
            have T6 := fun W hs hB => rT_any w w.heap.size (some ad) c E B0 b5 o5 hSt HTL.out hEl k (k : Int) rfl (by omega) W hs hB (Nat.le_refl _)
            have T7 := fun W hs hB => rT_any w w.heap.size (some ad) c E B0 b6 o6 hSt HTL.out hEl v (v : Int) rfl (by omega) W hs hB (Nat.le_refl _)
            rw [h6] at T6
            rw [h7] at T7
            simp only at T6 T7
            rw [bl_length] at hch
            have HCH := hide hch
            clear h1 h2 h3 h4 h5 h6 h7 hch
            by_cases hok : o7 = true ∧ n ≤ key.size
            · obtain ⟨hkd, hrd⟩ := HCH.out.1 hok
              obtain ⟨rfl, hnk⟩ := hok
              obtain ⟨u', rfl⟩ : ∃ u, kd = [u] := by
                match kd, hkd with
                | [u], _ => exact ⟨u, rfl⟩
              have hsz := rdEnt_size _ _ _ _ hrd
              rw [bl_length] at hsz
              rw [← ext_key key n rest] at hrd hsz
              have hst := rdEs_step f (bl key) bb b7 _ pre hb hrd
              have HRES := hide (hres.trans hst)
              have HPL := hide hpl
              have hsz2 : (key.extract 0 n ++ strB rest).size ≤ 65536 * (pl + 1) := Nat.le_trans hsz (by omega)
              have hf2 : pl + 1 + f = 65 := by omega
              have hapl : (pre.length + 1) * 48 ≤ 140737488355328 := by omega
              have HS := hide hsz2
              have HF := hide hf2
              have HAP := hide hapl
              have hrs : ¬ 9223372036854775807 < n + (strB rest).size := by rw [strB_size]; omega
              have hnki : (n : Int) ≤ (key.size : Int) := Int.ofNat_le.2 hnk
              have hnki2 : ¬ (key.size : Int) < (n : Int) := Int.not_lt.2 hnki
              have hnk2 : ¬ key.size < n := Nat.not_lt.2 hnk
              have huk : wrap64 (u'.toNat : Int) = (u'.toNat : Int) := wrap_u8 u'
              have huk2 : IntKind.i64.wrap (u'.toNat : Int) = (u'.toNat : Int) := wrap_u8' u'
              clear hres hb hks hpf HR HT hrd hsz hst hsz2 hf2 hpl hapl hro HCH hkd
              go_wp2_with (first | (go_at_call 48; first | ((with_reducible refine (N1 _ hRs HB).mono ?_); rintro e w1 ⟨rfl, hs1, g1⟩; have C1 := HB.trans (g1.2 _ (Nat.le_refl _) HB.size); have G1 := g1) | ((with_reducible refine (N2 _ hs1 C1).mono ?_); rintro e w2 ⟨rfl, hs2, g2⟩; have C2 := C1.trans (g2.2 _ (Nat.le_refl _) C1.size); have G2 := G1.trans g2) | ((with_reducible refine (N3 _ hs2 C2).mono ?_); rintro e w3 ⟨rfl, hs3, g3⟩; have C3 := C2.trans (g3.2 _ (Nat.le_refl _) C2.size); have G3 := G2.trans g3) | ((with_reducible refine (N4 _ hs3 C3).mono ?_); rintro e w4 ⟨rfl, hs4, g4⟩; have C4 := C3.trans (g4.2 _ (Nat.le_refl _) C3.size); have G4 := G3.trans g4)) | (go_at_call 49; first | ((with_reducible refine (T5 _ hs4 C4).mono ?_); rintro e w5 ⟨v5, rfl, HO5, hs5, g5⟩; obtain ⟨A5, c5, hv5, -⟩ := HO5.rd; subst hv5; have C5 := C4.trans (g5.2 _ (Nat.le_refl _) C4.size); have G5 := G4.trans g5) | ((with_reducible refine (T6 _ hs5 C5).mono ?_); rintro e w6 ⟨v6, rfl, HO6, hs6, g6⟩; obtain ⟨A6, c6, hv6, -⟩ := HO6.rd; subst hv6; have C6 := C5.trans (g6.2 _ (Nat.le_refl _) C5.size); have G6 := G5.trans g6) | ((with_reducible refine (T7 _ hs6 C6).mono ?_); rintro e w7 ⟨v7, rfl, HO7, hs7, g7⟩; obtain ⟨A7, c7, hv7, hr7⟩ := HO7.rd; subst hv7; have C7 := C6.trans (g7.2 _ (Nat.le_refl _) C6.size); have G7 := G6.trans g7; obtain ⟨p7, e7, hp7, hR7, y3, y4⟩ := id hs7; obtain ⟨z70, z71, z72, z73, z74, z75⟩ := hR7.read; obtain ⟨rfl, -⟩ := y3 rfl; clear y3 y4; have HOe := HO.rs hRs (one_ne (by decide)) G7; have O5 := (HO5.ow.rs hs5 (one_ne (by decide)) (g6.trans g7)).owB; have O6 := (HO6.ow.rs hs6 (one_ne (by decide)) g7).owB)))
              have O6d : OwB w7.drew w5.heap.size (.slice A6 rest.length c6) rest := O6
              have O5d : OwB w7.drew.drew w4.heap.size (.slice A5 1 c5) [u'] := O5
              have O7d : OwB w7.drew.drew w6.heap.size (.slice A7 val.length c7) val := HO7
              have HOd : OwE w7.drew.drew (w.heap.size + 1) (.slice Ao pl co) pre := HOe
              have C7d : Below w.heap.size w w7.drew.drew := C7.drew.drew
              have hs7d : RsS w.heap.size (some ad) c E B0 b7 true w7.drew.drew := hs7
              have hc6 : (convert 23 9 (.slice A6 rest.length c6)).run Try.prog w7.drew = .ok (.string (strB rest)) w7.drew := O6d.rdl.toStr (P := Try.prog) 23 5 9 Try.underlying23 Try.underlying5 Try.underlying9
              go_region_held3 (fun w' => (convert 23 9 (.slice A6 rest.length c6)).run Try.prog w' = .ok (.string (strB rest)) w') (first | exact hc6 | assumption) (first | (go_at_call 48))
              go_wp2
              obtain ⟨ad5, rfl, hc5⟩ := rd_head O5d.rdl
              have hlt5 := World.block_lt_of_cell? _ _ hc5
              have O7a := O7d.below (below_alloc w7.drew.drew (.cells #[.string (key.extract 0 n ++ strB rest), .int .i64 (q : Int), .int .i64 (u'.toNat : Int), .string (strB val)] 36))
              have hS0 : w7.drew.drew.cell? ad5 = some (.int .u8 (u'.toNat : Int)) ∧ (convert 23 9 (.slice A7 val.length c7)).run Try.prog w7.drew.drew = .ok (.string (strB val)) w7.drew.drew := ⟨hc5, O7d.rdl.toStr (P := Try.prog) 23 5 9 Try.underlying23 Try.underlying5 Try.underlying9⟩
              have hS1 : (w7.drew.drew.alloc (.cells #[.string (key.extract 0 n ++ strB rest), .int .i64 (q : Int), .int .i64 (u'.toNat : Int), .string (strB val)] 36)).cell? ad5 = some (.int .u8 (u'.toNat : Int)) ∧ (convert 23 9 (.slice A7 val.length c7)).run Try.prog (w7.drew.drew.alloc (.cells #[.string (key.extract 0 n ++ strB rest), .int .i64 (q : Int), .int .i64 (u'.toNat : Int), .string (strB val)] 36)) = .ok (.string (strB val)) (w7.drew.drew.alloc (.cells #[.string (key.extract 0 n ++ strB rest), .int .i64 (q : Int), .int .i64 (u'.toNat : Int), .string (strB val)] 36)) := ⟨((below_alloc w7.drew.drew (.cells #[.string (key.extract 0 n ++ strB rest), .int .i64 (q : Int), .int .i64 (u'.toNat : Int), .string (strB val)] 36)).cell hlt5).trans hc5, O7a.rdl.toStr (P := Try.prog) 23 5 9 Try.underlying23 Try.underlying5 Try.underlying9⟩
              go_region_held3 (fun w' => w'.cell? ad5 = some (.int .u8 (u'.toNat : Int)) ∧ (convert 23 9 (.slice A7 val.length c7)).run Try.prog w' = .ok (.string (strB val)) w') (first | exact hS0 | exact hS1 | exact hS2 | assumption) (first | ((refine step_ent (w0 := w7.drew.drew) (W := w7.drew.drew) (w.heap.size + 1) (by rfl) (.tmp 87) (.tmp 97) rfl (.slice Ao pl co) pre (key.extract 0 n ++ strB rest, (q : Int), (u'.toNat : Int), strB val) (by rfl) (by rfl) HOd (Below.refl _ _) hs7d.lt HAP.out ?_); intro v9 w9 HO9 HB9 hg9; have O59 := (Ow.over O5d.ow HOd (one_ne (by decide)) hg9).owB; have O79 := (Ow.over O7d.ow HOd (one_ne (by decide)) hg9).owB; obtain ⟨ad6, e6, hc9⟩ := rd_head O59.rdl; cases e6; have hS2 : w9.cell? ad5 = some (.int .u8 (u'.toNat : Int)) ∧ (convert 23 9 (.slice A7 val.length c7)).run Try.prog w9 = .ok (.string (strB val)) w9 := ⟨hc9, O79.rdl.toStr (P := Try.prog) 23 5 9 Try.underlying23 Try.underlying5 Try.underlying9⟩))
              go_wp2
              go_roundw
              case rel => exact ⟨f, _, b7, pre ++ [(key.extract 0 n ++ strB rest, (q : Int), (u'.toNat : Int), strB val)], rfl, by rw [List.length_append, List.length_singleton, HPL.out]; exact HF.out, HRES.out, hs7d.grown hg9 (fun e => absurd (HOd.ge _ e.symm) (Nat.not_succ_le_self _)), by rw [List.length_append, List.length_singleton, HPL.out]; exact HS.out, HO9, C7d.trans (HB9.mono (Nat.le_succ _))⟩
              case measure =>
                show 66 - lenOf v9 < 66 - pl
                rw [lenOf_ow HO9, List.length_append, List.length_singleton, HPL.out]
                omega
            · obtain ⟨z, hz⟩ := HCH.out.2 hok
              have hfin : res.getD [] = [] := by rw [hres, rdEs, if_neg hb, hz]; rfl
              clear hres hb hks hpf HR HT hz HCH hpl hro
              cases o7 with
              | false =>
                clear hok
                go_wp2_with (first | (go_at_call 48; first | ((with_reducible refine (N1 _ hRs HB).mono ?_); rintro e w1 ⟨rfl, hs1, g1⟩; have C1 := HB.trans (g1.2 _ (Nat.le_refl _) HB.size); have G1 := g1) | ((with_reducible refine (N2 _ hs1 C1).mono ?_); rintro e w2 ⟨rfl, hs2, g2⟩; have C2 := C1.trans (g2.2 _ (Nat.le_refl _) C1.size); have G2 := G1.trans g2) | ((with_reducible refine (N3 _ hs2 C2).mono ?_); rintro e w3 ⟨rfl, hs3, g3⟩; have C3 := C2.trans (g3.2 _ (Nat.le_refl _) C2.size); have G3 := G2.trans g3) | ((with_reducible refine (N4 _ hs3 C3).mono ?_); rintro e w4 ⟨rfl, hs4, g4⟩; have C4 := C3.trans (g4.2 _ (Nat.le_refl _) C3.size); have G4 := G3.trans g4)) | (go_at_call 49; first | ((with_reducible refine (T5 _ hs4 C4).mono ?_); rintro e w5 ⟨v5, rfl, HO5, hs5, g5⟩; obtain ⟨A5, c5, hv5, -⟩ := HO5.rd; subst hv5; have C5 := C4.trans (g5.2 _ (Nat.le_refl _) C4.size); have G5 := G4.trans g5) | ((with_reducible refine (T6 _ hs5 C5).mono ?_); rintro e w6 ⟨v6, rfl, HO6, hs6, g6⟩; obtain ⟨A6, c6, hv6, -⟩ := HO6.rd; subst hv6; have C6 := C5.trans (g6.2 _ (Nat.le_refl _) C5.size); have G6 := G5.trans g6) | ((with_reducible refine (T7 _ hs6 C6).mono ?_); rintro e w7 ⟨v7, rfl, HO7, hs7, g7⟩; obtain ⟨A7, c7, hv7, hr7⟩ := HO7.rd; subst hv7; have C7 := C6.trans (g7.2 _ (Nat.le_refl _) C6.size); have G7 := G6.trans g7; obtain ⟨p7, e7, hp7, hR7, y3, y4⟩ := id hs7; obtain ⟨z70, z71, z72, z73, z74, z75⟩ := hR7.read; have e7n := y4 rfl; clear y3 y4)))
                go_ret
                exact ⟨_, rfl, by first | exact Ow.zero _ _ _ _ | (rw [hfin]; exact Ow.zero _ _ _ _), C7⟩
              | true =>
                have hnk : ¬ n ≤ key.size := fun h => hok ⟨rfl, h⟩
                have hnki : ¬ (n : Int) ≤ (key.size : Int) := fun h => hnk (Int.ofNat_le.1 h)
                have hnki2 : (key.size : Int) < (n : Int) := Int.not_le.1 hnki
                have hnk2 : key.size < n := Nat.not_le.1 hnk
                clear hok
                go_wp2_with (first | (go_at_call 48; first | ((with_reducible refine (N1 _ hRs HB).mono ?_); rintro e w1 ⟨rfl, hs1, g1⟩; have C1 := HB.trans (g1.2 _ (Nat.le_refl _) HB.size); have G1 := g1) | ((with_reducible refine (N2 _ hs1 C1).mono ?_); rintro e w2 ⟨rfl, hs2, g2⟩; have C2 := C1.trans (g2.2 _ (Nat.le_refl _) C1.size); have G2 := G1.trans g2) | ((with_reducible refine (N3 _ hs2 C2).mono ?_); rintro e w3 ⟨rfl, hs3, g3⟩; have C3 := C2.trans (g3.2 _ (Nat.le_refl _) C2.size); have G3 := G2.trans g3) | ((with_reducible refine (N4 _ hs3 C3).mono ?_); rintro e w4 ⟨rfl, hs4, g4⟩; have C4 := C3.trans (g4.2 _ (Nat.le_refl _) C3.size); have G4 := G3.trans g4)) | (go_at_call 49; first | ((with_reducible refine (T5 _ hs4 C4).mono ?_); rintro e w5 ⟨v5, rfl, HO5, hs5, g5⟩; obtain ⟨A5, c5, hv5, -⟩ := HO5.rd; subst hv5; have C5 := C4.trans (g5.2 _ (Nat.le_refl _) C4.size); have G5 := G4.trans g5) | ((with_reducible refine (T6 _ hs5 C5).mono ?_); rintro e w6 ⟨v6, rfl, HO6, hs6, g6⟩; obtain ⟨A6, c6, hv6, -⟩ := HO6.rd; subst hv6; have C6 := C5.trans (g6.2 _ (Nat.le_refl _) C5.size); have G6 := G5.trans g6) | ((with_reducible refine (T7 _ hs6 C6).mono ?_); rintro e w7 ⟨v7, rfl, HO7, hs7, g7⟩; obtain ⟨A7, c7, hv7, hr7⟩ := HO7.rd; subst hv7; have C7 := C6.trans (g7.2 _ (Nat.le_refl _) C6.size); have G7 := G6.trans g7; obtain ⟨p7, e7, hp7, hR7, y3, y4⟩ := id hs7; obtain ⟨z70, z71, z72, z73, z74, z75⟩ := hR7.read; obtain ⟨rfl, -⟩ := y3 rfl; clear y3 y4)))
                go_ret
                exact ⟨_, rfl, by first | exact Ow.zero _ _ _ _ | (rw [hfin]; exact Ow.zero _ _ _ _), C7⟩
end Go.Proofs.Ytfclmkbhfpjhjaa
end

section
/- Small words for what the printed functions compute: rounds enough; indices that do not wrap; kinds told over. -/
namespace Go.Proofs.Ytfclmkbhfpjhjaa
open Go.RowKit Go.Proofs.YtfclmkbhfpjhjaaW.PrintWords
set_option linter.unusedVariables false

theorem wrap64_succ (i : Nat) (h : i < 9223372036854775807) : wrap64 ((i : Int) + 1) = ((i + 1 : Nat) : Int) := by
  unfold wrap64
  omega
theorem Ev.now' {α : Type} {g : Nat → Option α} {r : α} (h : ∀ k, g (k + 1) = some r) : Ev g r := ⟨1, fun k hk => by obtain ⟨j, rfl⟩ : ∃ j, k = j + 1 := ⟨k - 1, by omega⟩; exact h j⟩
theorem Ev.now2 {α : Type} {g : Nat → Option α} {r : α} (h : ∀ k, g (k + 2) = some r) : Ev g r := ⟨2, fun k hk => by obtain ⟨j, rfl⟩ : ∃ j, k = j + 2 := ⟨k - 2, by omega⟩; exact h j⟩
theorem Ev.now3 {α : Type} {g : Nat → Option α} {r : α} (h : ∀ k, g (k + 3) = some r) : Ev g r := ⟨3, fun k hk => by obtain ⟨j, rfl⟩ : ∃ j, k = j + 3 := ⟨k - 3, by omega⟩; exact h j⟩
theorem Ev.eq_ {α : Type} {g : Nat → Option α} {r r' : α} (h : Ev g r) (e : r = r') : Ev g r' := e ▸ h
/-- a row of another type of elements -/
theorem C_map {α β : Type} {d : Kd α} {d' : Kd β} (hs : d'.sz = d.sz) (g : α → β) {w : World} (hK : ∀ x cs, d.K w x cs → d'.K w (g x) cs) {A : Option Addr} {xs : List α} (h : d.C w A xs.length xs) : d'.C w A (xs.map g).length (xs.map g) := by
  refine ⟨rfl, by rw [List.length_map]; exact h.2.1, fun hp => ?_⟩
  rw [List.length_map] at hp
  obtain ⟨ad, e, hc⟩ := h.2.2 hp
  refine ⟨ad, e, fun j p hj => ?_⟩
  rw [List.getElem?_map, Option.map_eq_some_iff] at hj
  obtain ⟨x, hx, rfl⟩ := hj
  obtain ⟨c, h1, h2, h3⟩ := hc j x hx
  exact ⟨c, by rw [hs]; exact h1, hK _ _ h2, by rw [hs]; exact h3⟩
theorem Rd_map {α β : Type} {d : Kd α} {d' : Kd β} (hs : d'.sz = d.sz) (g : α → β) {w : World} (hK : ∀ x cs, d.K w x cs → d'.K w (g x) cs) {A : Option Addr} {c : Nat} {xs : List α} (h : Rd d w A c xs) : Rd d' w A c (xs.map g) := ⟨by rw [List.length_map]; exact h.1, C_map hs g hK h.2⟩
theorem R_map {α β : Type} {d : Kd α} {d' : Kd β} (hs : d'.sz = d.sz) (g : α → β) (hM : ∀ w base ok x cs, d.M w base ok x cs → d'.M w base ok (g x) cs) {e : Nat} {w : World} {base : Nat} {ok : Nat → Prop} {v : Value} {xs : List α} (h : d.R e w base ok v xs) : d'.R e w base ok v (xs.map g) := by
  obtain ⟨h0, inner, ho, hr⟩ := h
  refine ⟨h0, inner, by rw [List.length_map, hs]; exact ho, by rw [List.length_map, hs]; exact hr.1, fun j p hj => ?_⟩
  rw [List.getElem?_map, Option.map_eq_some_iff] at hj
  obtain ⟨x, hx, rfl⟩ := hj
  rw [hs]
  exact hM _ _ _ _ _ (hr.2 j x hx)
theorem rd_map {α β : Type} (g : α → β) (xs : List α) (z : α) (z' : β) (i : Nat) (h : i < xs.length) : (xs.map g).getD i z' = g (xs.getD i z) := by
  rw [List.getD_eq_getElem?_getD, List.getElem?_map, List.getElem?_eq_getElem h, List.getD_eq_getElem?_getD, List.getElem?_eq_getElem h]
  rfl
theorem drop_get {α : Type} (xs : List α) (z : α) (i : Nat) (h : i < xs.length) : xs.drop i = xs.getD i z :: xs.drop (i + 1) := by
  rw [List.drop_eq_getElem_cons h, List.getD_eq_getElem?_getD, List.getElem?_eq_getElem h]
  rfl
theorem drop_all {α : Type} (xs : List α) : xs.drop xs.length = [] := List.drop_of_length_le (Nat.le_refl _)
theorem toList_eq (s : ByteArray) : s.toList = s.data.toList := by rw [ByteArray.toList_eq]
theorem toList_nil (s : ByteArray) : s.toList = [] ↔ s.size = 0 := by
  rw [toList_eq]
  constructor
  · intro h
    have : s.data.toList.length = 0 := by rw [h]; rfl
    rw [Array.length_toList] at this
    exact this
  · intro h
    apply List.eq_nil_of_length_eq_zero
    rw [Array.length_toList]
    exact h
theorem toList_inj {s t : ByteArray} (h : s.toList = t.toList) : s = t := by
  rw [toList_eq, toList_eq] at h
  apply ByteArray.ext
  apply Array.ext'
  exact h
end Go.Proofs.Ytfclmkbhfpjhjaa
end

section
/- Block: may versions be, in order; versions copied and compared: the printed contracts, told over. -/
namespace Go.Proofs.Ytfclmkbhfpjhjaa
open Go.RowKit Go.Proofs.YtfclmkbhfpjhjaaW.PrintWords
set_option linter.unusedVariables false

abbrev SE := PB.S36
def mkE (c : Ent) : SE := ⟨c.1, c.2.1, c.2.2.1, c.2.2.2⟩
def ofE (s : SE) : Ent := (s.f0, s.f1, s.f2, s.f3)
theorem ofE_mk (l : List Ent) : (l.map mkE).map ofE = l := by rw [List.map_map]; exact List.map_id l
theorem mkE_K {w : World} {c : Ent} {cs : List Value} (h : kEnt.K w c cs) : PB.k36.K w (mkE c) cs := h
theorem RdE.mk {w : World} {A : Option Addr} {c : Nat} {l : List Ent} (h : RdE w A c l) : Rd PB.k36 w A c (l.map mkE) := Rd_map (d := kEnt) (d' := PB.k36) rfl mkE (fun x cs h => mkE_K h) h
theorem OwE.of {w : World} {base : Nat} {v : Value} {l : List SE} (h : PB.k36.R 36 w base (fun _ => True) v l) : OwE w base v (l.map ofE) := R_map (d := PB.k36) (d' := kEnt) rfl ofE (fun _ _ _ _ _ h => h) h
theorem rdE_map (l : List Ent) (i : Nat) (h : i < l.length) : PB.rd_T36 (l.map mkE) (i : Int) = mkE (l.getD i zEnt) := by
  rw [PB.rd_T36, Int.toNat_natCast, rd_map mkE l zEnt _ i h]
theorem eqL_size (s : ByteArray) : (s.toList == ([] : List UInt8)) = decide (s.size = 0) := by
  by_cases h : s.size = 0
  · rw [decide_eq_true h]; exact beq_iff_eq.2 ((toList_nil s).2 h)
  · rw [decide_eq_false h]; exact beq_eq_false_iff_ne.2 (fun e => h ((toList_nil s).1 e))
theorem rMay_f (x : Ent) : PB.ticklerref07_May.f x.1 x.2.1 x.2.2.1 x.2.2.2 = some (decide (mayE x)) := by
  obtain ⟨k, q, d, v⟩ := x
  simp only [PB.ticklerref07_May.f, eqL_size, mayE]
  repeat' split
  all_goals (congr 1; symm; first | (apply decide_eq_true; omega) | (apply decide_eq_false; omega) | (apply decide_eq_decide.2; omega))
theorem May_f (x : Ent) : PB.skip_May.f x.1 x.2.1 x.2.2.1 x.2.2.2 = some (decide (mayE x)) := by
  obtain ⟨k, q, d, v⟩ := x
  have hb : (d == 2) = decide (d = 2) := by
    by_cases h : d = 2
    · rw [decide_eq_true h, h]; rfl
    · rw [decide_eq_false h]; exact beq_eq_false_iff_ne.2 h
  simp only [PB.skip_May.f, toList_nil, hb, mayE]
  repeat' split
  all_goals (congr 1; symm; first | (apply decide_eq_true; omega) | (apply decide_eq_false; omega) | (apply decide_eq_decide.2; omega))
theorem less_bl (a b : ByteArray) : Op.bytesLess a.toList b.toList = decide (bl a < bl b) := by rw [bytesLess_eq, Lib.toList_data, Lib.toList_data]; rfl
theorem toL_bl (a b : ByteArray) : a.toList = b.toList ↔ bl a = bl b := by rw [Lib.toList_data, Lib.toList_data]; exact Iff.rfl
theorem rBef_f (x y : Ent) : PB.ticklerref07_Before.f x.1 x.2.1 x.2.2.1 x.2.2.2 y.1 y.2.1 y.2.2.1 y.2.2.2 = some (decide (befE x y)) := by
  rw [PB.ticklerref07_Before.f, less_bl]
  unfold befE
  by_cases h1 : bl x.1 < bl y.1
  · simp [h1]
  · by_cases h2 : bl x.1 = bl y.1
    · rw [if_neg (by simp [h1]), if_pos ((toL_bl _ _).2 h2)]
      simp [h2, lt_ir]
    · rw [if_neg (by simp [h1]), if_neg (fun e => h2 ((toL_bl _ _).1 e))]
      simp [h1, h2]
theorem May_any (x : Ent) (w : World) : Calls Try.prog 57 #[.agg #[.string x.1, .int .i64 x.2.1, .int .i64 x.2.2.1, .string x.2.2.2]] w fun e w' => e = .returned (.bool (decide (mayE x))) ∧ Below w.heap.size w w' := PB.skip_May.calls _ _ _ _ _ w (May_f x)
theorem rMay_any (x : Ent) (w : World) : Calls Try.prog 59 #[.agg #[.string x.1, .int .i64 x.2.1, .int .i64 x.2.2.1, .string x.2.2.2]] w fun e w' => e = .returned (.bool (decide (mayE x))) ∧ Below w.heap.size w w' := PB.ticklerref07_May.calls _ _ _ _ _ w (rMay_f x)
theorem rBefore_any (x y : Ent) (w : World) : Calls Try.prog 15 #[.agg #[.string x.1, .int .i64 x.2.1, .int .i64 x.2.2.1, .string x.2.2.2], .agg #[.string y.1, .int .i64 y.2.1, .int .i64 y.2.2.1, .string y.2.2.2]] w fun e w' => e = .returned (.bool (decide (befE x y))) ∧ Below w.heap.size w w' := PB.ticklerref07_Before.calls _ _ _ _ _ _ _ _ _ w (rBef_f x y)
theorem rOrd_l0 (l : List Ent) (hl : l.length ≤ 9223372036854775806) : ∀ d i, l.length - i = d → i ≤ l.length → Ev (fun k => PB.ticklerref09_Ordered.l0 k (l.map mkE) (i : Int)) (ordL l d i) := by
  intro d
  induction d with
  | zero =>
    intro i hd hi
    obtain rfl : i = l.length := by omega
    refine Ev.now' fun k => ?_
    rw [PB.ticklerref09_Ordered.l0, if_neg (by rw [List.length_map]; omega)]
    rfl
  | succ d ih =>
    intro i hd hi
    have hlt : i < l.length := by omega
    have h1 := ih (i + 1) (by omega) (by omega)
    rw [ordL]
    refine Ev.step (f := fun k => if mayE (l.getD i zEnt) then (if 0 < i ∧ ¬ befE (l.getD (i - 1) zEnt) (l.getD i zEnt) then some 81 else PB.ticklerref09_Ordered.l0 k (l.map mkE) (((i + 1 : Nat) : Int))) else some 1) (fun k => ?_) ?_
    · rw [PB.ticklerref09_Ordered.l0, if_pos (by rw [List.length_map]; omega), if_pos (by omega), wrap64_succ i (by omega), rdE_map l i hlt]
      have hm := rMay_f (l.getD i zEnt)
      rw [show (mkE (l.getD i zEnt)).f0 = (l.getD i zEnt).1 from rfl, show (mkE (l.getD i zEnt)).f1 = (l.getD i zEnt).2.1 from rfl, show (mkE (l.getD i zEnt)).f2 = (l.getD i zEnt).2.2.1 from rfl, show (mkE (l.getD i zEnt)).f3 = (l.getD i zEnt).2.2.2 from rfl, hm]
      simp only [Option.bind_some, decide_eq_true_eq]
      by_cases h2 : mayE (l.getD i zEnt)
      · rw [if_pos h2, if_pos h2]
        by_cases h3 : 0 < i
        · have hw : wrap64 ((i : Int) - 1) = ((i - 1 : Nat) : Int) := by unfold wrap64; omega
          rw [if_pos (by omega), hw, if_pos (by omega), if_pos (by rw [List.length_map]; omega), rdE_map l (i - 1) (by omega)]
          have hbf := rBef_f (l.getD (i - 1) zEnt) (l.getD i zEnt)
          rw [show (mkE (l.getD (i - 1) zEnt)).f0 = (l.getD (i - 1) zEnt).1 from rfl, show (mkE (l.getD (i - 1) zEnt)).f1 = (l.getD (i - 1) zEnt).2.1 from rfl, show (mkE (l.getD (i - 1) zEnt)).f2 = (l.getD (i - 1) zEnt).2.2.1 from rfl, show (mkE (l.getD (i - 1) zEnt)).f3 = (l.getD (i - 1) zEnt).2.2.2 from rfl, hbf]
          simp only [Option.bind_some, decide_eq_true_eq]
          by_cases h4 : befE (l.getD (i - 1) zEnt) (l.getD i zEnt)
          · rw [if_pos h4, if_neg (fun h => h.2 h4)]
          · rw [if_neg h4, if_pos ⟨h3, h4⟩]
        · rw [if_neg (by omega), if_neg (fun h => h3 h.1)]
      · rw [if_neg h2, if_neg h2]
    · by_cases h2 : mayE (l.getD i zEnt)
      · simp only [h2, not_true, if_true, if_false]
        by_cases h4 : 0 < i ∧ ¬ befE (l.getD (i - 1) zEnt) (l.getD i zEnt)
        · simp only [h4, if_true]
          exact Ev.now _
        · simp only [h4, if_false]
          exact h1
      · simp only [h2, not_false_eq_true, if_true, if_false]
        exact Ev.now _
theorem rOrdered_any (A : Option Addr) (c n : Nat) (l : List Ent) (w : World) (hn : l.length = n) (hr : RdE w A c l) (hl : l.length ≤ 9223372036854775806) :
    Calls Try.prog 40 #[.slice A n c] w fun e w' => e = .returned (.int .i64 (ordE l)) ∧ Below w.heap.size w w' := by
  subst hn
  obtain ⟨k, hk⟩ := (rOrd_l0 l hl _ 0 rfl (Nat.zero_le _)).rounds
  have h := PB.ticklerref09_Ordered.calls k A c (l.map mkE) (ordE l) w hr.mk.2 hr.mk.1 hk
  rw [List.length_map] at h
  exact h
theorem rCheck_any (A : Option Addr) (c n : Nat) (l : List Ent) (w : World) (hn : l.length = n) (hr : RdE w A c l) (hl : l.length ≤ 9223372036854775806) :
    Calls Try.prog 24 #[.slice A n c] w fun e w' => e = .returned (.int .i64 (chkE l)) ∧ Below w.heap.size w w' := by
  subst hn
  obtain ⟨k, hk⟩ := (rOrd_l0 l hl _ 0 rfl (Nat.zero_le _)).rounds
  have hf : PB.ticklerref09_Check.f k (l.map mkE) = some (chkE l) := by
    rw [PB.ticklerref09_Check.f, chkE, List.length_map]
    by_cases h1 : l.length < 1
    · rw [if_pos (by omega), if_pos (.inl h1)]
    · rw [if_neg (by omega)]
      by_cases h2 : 64 < l.length
      · rw [if_pos (by omega), if_pos (.inr h2)]
      · rw [if_neg (by omega), if_neg (by omega), PB.ticklerref09_Ordered.f]
        have hk' : PB.ticklerref09_Ordered.l0 k (l.map mkE) 0 = some (ordE l) := hk
        rw [hk']
        rfl
  have h := PB.ticklerref09_Check.calls k A c (l.map mkE) (chkE l) w hr.mk.2 hr.mk.1 hf
  rw [List.length_map] at h
  exact h
theorem sameE_l0 (l : List Ent) (hl : l.length ≤ 9223372036854775806) : ∀ d i, l.length - i = d → i ≤ l.length → Ev (fun k => PB.ticklerplain_SameEntries.l0 k (l.map mkE) (l.map mkE) (i : Int)) true := by
  intro d
  induction d with
  | zero =>
    intro i hd hi
    obtain rfl : i = l.length := by omega
    refine Ev.now' fun k => ?_
    rw [PB.ticklerplain_SameEntries.l0, if_neg (by rw [List.length_map]; omega)]
  | succ d ih =>
    intro i hd hi
    have hlt : i < l.length := by omega
    refine Ev.step (fun k => ?_) (ih (i + 1) (by omega) (by omega))
    rw [PB.ticklerplain_SameEntries.l0, if_pos (by rw [List.length_map]; omega), if_pos (by omega), if_pos (by rw [List.length_map]; omega), if_neg (by simp), wrap64_succ i (by omega)]
theorem SameE_any (A B : Option Addr) (c d n : Nat) (l : List Ent) (w : World) (hn : l.length = n) (hr : RdE w A c l) (hs : RdE w B d l) (hl : l.length ≤ 9223372036854775806) :
    Calls Try.prog 13 #[.slice A n c, .slice B n d] w fun e w' => e = .returned (.bool true) ∧ Below w.heap.size w w' := by
  subst hn
  obtain ⟨k, hk⟩ := (sameE_l0 l hl _ 0 rfl (Nat.zero_le _)).rounds
  have hf : PB.ticklerplain_SameEntries.f k (l.map mkE) (l.map mkE) = some true := by rw [PB.ticklerplain_SameEntries.f, if_pos rfl]; exact hk
  have h := PB.ticklerplain_SameEntries.calls k A c (l.map mkE) B d (l.map mkE) true w hr.mk.2 hr.mk.1 hs.mk.2 hs.mk.1 hf
  rw [List.length_map] at h
  exact h.mono (fun e w' ⟨h1, h2⟩ => ⟨h1, h2.below⟩)
theorem CopyE_any (A : Option Addr) (c n : Nat) (l : List Ent) (w : World) (hn : l.length = n) (hr : RdE w A c l) (hl : l.length * 48 ≤ 140737488351232) :
    Calls Try.prog 19 #[.slice A n c] w fun e w' => ∃ v, e = .returned v ∧ OwE w' w.heap.size v l ∧ Below w.heap.size w w' := by
  subst hn
  have hf : PB.ticklerplain_CopyEntries.f (l.map mkE) = some (l.map mkE) := by rw [PB.ticklerplain_CopyEntries.f, if_pos (by rw [List.length_map, List.length_nil]; omega)]; rfl
  have h := PB.ticklerplain_CopyEntries.calls A c (l.map mkE) (l.map mkE) w hr.mk.2 hr.mk.1 hf
  rw [List.length_map] at h
  refine h.mono ?_
  rintro e w' ⟨v, rfl, HR, HB⟩
  have := OwE.of HR
  rw [ofE_mk] at this
  exact ⟨v, rfl, this, HB⟩
def resE : Option Ent → Ent × Bool
  | some x => (x, true)
  | none => ((⟨#[]⟩, 0, 0, ⟨#[]⟩), false)
theorem rFirst_l0 (l : List Ent) (key : ByteArray) (seq : Int) (hl : l.length ≤ 9223372036854775806) : ∀ d i, l.length - i = d → i ≤ l.length → Ev (fun k => PB.ticklerref07_First.l0 k (l.map mkE) key seq (i : Int)) ((resE (firstE (l.drop i) key seq)).1.1, (resE (firstE (l.drop i) key seq)).1.2.1, (resE (firstE (l.drop i) key seq)).1.2.2.1, (resE (firstE (l.drop i) key seq)).1.2.2.2, (resE (firstE (l.drop i) key seq)).2) := by
  intro d
  induction d with
  | zero =>
    intro i hd hi
    obtain rfl : i = l.length := by omega
    refine Ev.now' fun k => ?_
    rw [PB.ticklerref07_First.l0, if_neg (by rw [List.length_map]; omega), drop_all]
    rfl
  | succ d ih =>
    intro i hd hi
    have hlt : i < l.length := by omega
    have h1 := ih (i + 1) (by omega) (by omega)
    by_cases h2 : isV key seq (l.getD i zEnt) = true
    · have e : firstE (l.drop i) key seq = some (l.getD i zEnt) := by rw [drop_get l zEnt i hlt, firstE, List.find?_cons_of_pos h2]
      rw [e]
      unfold isV at h2
      rw [Bool.and_eq_true, decide_eq_true_eq, decide_eq_true_eq] at h2
      refine Ev.now' fun k => ?_
      rw [PB.ticklerref07_First.l0, if_pos (by rw [List.length_map]; omega), if_pos (by omega), rdE_map l i hlt, if_pos (show (mkE (l.getD i zEnt)).f0.toList = key.toList by rw [← h2.1]; rfl), if_pos (show (mkE (l.getD i zEnt)).f1 ≤ seq from h2.2)]
      rfl
    · have e : firstE (l.drop i) key seq = firstE (l.drop (i + 1)) key seq := by rw [drop_get l zEnt i hlt, firstE, List.find?_cons_of_neg h2]; rfl
      rw [e]
      refine Ev.step (fun k => ?_) h1
      rw [PB.ticklerref07_First.l0, if_pos (by rw [List.length_map]; omega), if_pos (by omega), rdE_map l i hlt, wrap64_succ i (by omega)]
      by_cases h3 : (l.getD i zEnt).1.toList = key.toList
      · rw [if_pos (show (mkE (l.getD i zEnt)).f0.toList = key.toList from h3), if_neg (fun h4 => h2 (by unfold isV; rw [decide_eq_true (toList_inj h3), decide_eq_true (show (l.getD i zEnt).2.1 ≤ seq from h4)]; rfl))]
      · rw [if_neg (show ¬ (mkE (l.getD i zEnt)).f0.toList = key.toList from h3)]
theorem rFirst_any (A : Option Addr) (c n : Nat) (l : List Ent) (key : ByteArray) (seq : Int) (w : World) (hn : l.length = n) (hr : RdE w A c l) (hl : l.length ≤ 9223372036854775806) :
    Calls Try.prog 38 #[.slice A n c, .string key, .int .i64 seq] w fun e w' => e = .returned (.tuple #[.agg #[.string (resE (firstE l key seq)).1.1, .int .i64 (resE (firstE l key seq)).1.2.1, .int .i64 (resE (firstE l key seq)).1.2.2.1, .string (resE (firstE l key seq)).1.2.2.2], .bool (resE (firstE l key seq)).2]) ∧ Below w.heap.size w w' := by
  subst hn
  obtain ⟨k, hk⟩ := (rFirst_l0 l key seq hl _ 0 rfl (Nat.zero_le _)).rounds
  rw [List.drop_zero] at hk
  have h := PB.ticklerref07_First.calls k A c (l.map mkE) key seq _ _ _ _ _ w hr.mk.2 hr.mk.1 hk
  rw [List.length_map] at h
  exact h
theorem rcommon_l0 (a b : ByteArray) (ha : a.size ≤ 9223372036854775806) : ∀ d i, a.size - i = d → i ≤ a.size → i ≤ b.size → Ev (fun k => PB.ticklerref09_common.l0 k a b (i : Int)) (((i + comm ((bl a).drop i) ((bl b).drop i) : Nat)) : Int) := by
  have hbt : ∀ (s : ByteArray) (i : Nat) (h : i < s.size), bt s (i : Int) = (((bl s).getD i 0).toNat : Int) := by
    intro s i h
    have hl : i < (bl s).length := by rw [bl_length]; exact h
    rw [bt, dif_pos (by rw [Int.toNat_natCast]; exact h), List.getD_eq_getElem?_getD, List.getElem?_eq_getElem hl]
    rfl
  intro d
  induction d with
  | zero =>
    intro i hd hi hj
    obtain rfl : i = a.size := by omega
    refine Ev.now' fun k => ?_
    rw [PB.ticklerref09_common.l0, if_neg (by omega)]
    have : (bl a).drop a.size = [] := by rw [← bl_length]; exact drop_all _
    rw [this]
    simp [comm]
  | succ d ih =>
    intro i hd hi hj
    have hlt : i < a.size := by omega
    by_cases hb : i < b.size
    · have e1 := drop_get (bl a) 0 i (by rw [bl_length]; exact hlt)
      have e2 := drop_get (bl b) 0 i (by rw [bl_length]; exact hb)
      by_cases h : (bl a).getD i 0 = (bl b).getD i 0
      · have ec : i + comm ((bl a).drop i) ((bl b).drop i) = (i + 1) + comm ((bl a).drop (i + 1)) ((bl b).drop (i + 1)) := by rw [e1, e2, comm, if_pos h]; omega
        rw [ec]
        refine Ev.step (fun k => ?_) (ih (i + 1) (by omega) (by omega) (by omega))
        rw [PB.ticklerref09_common.l0, if_pos (by omega), if_pos (by omega), if_pos (by omega), hbt a i hlt, hbt b i hb, if_pos (by rw [h]), wrap64_succ i (by omega)]
      · have ec : i + comm ((bl a).drop i) ((bl b).drop i) = i := by rw [e1, e2, comm, if_neg h]; rfl
        rw [ec]
        refine Ev.now' fun k => ?_
        rw [PB.ticklerref09_common.l0, if_pos (by omega), if_pos (by omega), if_pos (by omega), hbt a i hlt, hbt b i hb, if_neg (fun e => h (UInt8.toNat_inj.1 (Int.ofNat_inj.1 e)))]
    · refine Ev.now' fun k => ?_
      rw [PB.ticklerref09_common.l0, if_pos (by omega), if_neg (by omega)]
      have : (bl b).drop i = [] := List.drop_eq_nil_iff.2 (by rw [bl_length]; omega)
      rw [this]
      cases (bl a).drop i <;> simp [comm]
theorem rcommon_any (a b : ByteArray) (w : World) (ha : a.size ≤ 9223372036854775806) :
    Calls Try.prog 34 #[.string a, .string b] w fun e w' => e = .returned (.int .i64 ((comm (bl a) (bl b) : Nat) : Int)) ∧ Below w.heap.size w w' := by
  obtain ⟨k, hk⟩ := (rcommon_l0 a b ha _ 0 rfl (Nat.zero_le _) (Nat.zero_le _)).rounds
  rw [List.drop_zero, List.drop_zero, Nat.zero_add] at hk
  have h := PB.ticklerref09_common.calls k a b _ w hk
  exact h.mono (fun e w' ⟨h1, h2⟩ => ⟨h1, h2.below⟩)
end Go.Proofs.Ytfclmkbhfpjhjaa
end

section
/- Block: the order of versions, walked. -/
namespace Go.Proofs.Ytfclmkbhfpjhjaa
open Go.RowKit Go.Proofs.YtfclmkbhfpjhjaaW.PrintWords
set_option linter.unusedVariables false

theorem same_bl (a b : ByteArray) : (a.toList == b.toList) = decide (bl a = bl b) := by
  rw [Lib.toList_data, Lib.toList_data]
  by_cases h : bl a = bl b
  · rw [decide_eq_true h]; exact beq_iff_eq.2 h
  · rw [decide_eq_false h]; exact beq_eq_false_iff_ne.2 h
def cmpS (a b : ByteArray) : Int := if bl a < bl b then -1 else if bl b < bl a then 1 else 0
theorem nanS_any (a : ByteArray) (w : World) : Calls Try.prog 66 #[.string a] w fun e w' => e = .returned (.bool false) ∧ w = w' := by
  have h := same_bl a a
  rw [decide_eq_true rfl] at h
  go_enter Try.func66, Try.ntmps66
  go_wp2
  go_ret
  exact ⟨by simp, rfl⟩
set_option maxRecDepth 100000 in
set_option maxHeartbeats 800000 in
theorem cmpS_any (a b : ByteArray) (w : World) : Calls Try.prog 55 #[.string a, .string b] w fun e w' => e = .returned (.int .i64 (cmpS a b)) ∧ w = w' := by
  have h1 := less_bl a b
  have h2 := same_bl a b
  rcases lt_tri (bl a) (bl b) with h | h | h
  · rw [decide_eq_true h] at h1
    have e : cmpS a b = -1 := by rw [cmpS, if_pos h]
    rw [e]
    clear h2
    go_enter Try.func55, Try.ntmps55
    go_wp2_with (first | (go_at_call 66; refine (nanS_any _ _).mono ?_; rintro e w' ⟨rfl, rfl⟩))
    go_ret
    exact ⟨rfl, rfl⟩
  · rw [decide_eq_false (by rw [h]; exact lt_ir _)] at h1
    rw [decide_eq_true h] at h2
    have e : cmpS a b = 0 := by rw [cmpS, if_neg (by rw [h]; exact lt_ir _), if_neg (by rw [h]; exact lt_ir _)]
    rw [e]
    go_enter Try.func55, Try.ntmps55
    go_wp2_with (first | (go_at_call 66; refine (nanS_any _ _).mono ?_; rintro e w' ⟨rfl, rfl⟩))
    go_ret
    exact ⟨rfl, rfl⟩
  · rw [decide_eq_false (lt_as h)] at h1
    rw [decide_eq_false (fun e => by rw [e] at h; exact lt_ir _ h)] at h2
    have e : cmpS a b = 1 := by rw [cmpS, if_neg (lt_as h), if_pos h]
    rw [e]
    go_enter Try.func55, Try.ntmps55
    go_wp2_with (first | (go_at_call 66; refine (nanS_any _ _).mono ?_; rintro e w' ⟨rfl, rfl⟩))
    go_ret
    exact ⟨rfl, rfl⟩
/-- the first that is not 0, of two -/
def or2 (p q : Int) : Int := if p ≠ 0 then p else q
set_option maxRecDepth 100000 in
set_option maxHeartbeats 800000 in
theorem Or_any (g : Nat) (p q : Int) (w : World) (h0 : w.cell? ⟨g, 0, none⟩ = some (.int .i64 p)) (h1 : w.cell? ⟨g, 1, none⟩ = some (.int .i64 q)) :
    Calls Try.prog 54 #[.slice (some ⟨g, 0, none⟩) 2 2] w fun e w' => e = .returned (.int .i64 (or2 p q)) ∧ w = w' := by
  go_enter Try.func54, Try.ntmps54
  go_wp2
  go_loopw [8] (fun i wr => wr = w ∧ ∃ j : Nat, j ≤ 2 ∧ i = .int .i64 (j : Int) ∧ (0 < j → p = 0) ∧ (1 < j → q = 0)) (fun i _ => 2 - (intOf i).toNat)
  case atStart => exact ⟨rfl, 0, by omega, rfl, fun h => by omega, fun h => by omega⟩
  case round =>
    obtain ⟨rfl, j, hj, rfl, hp, hq⟩ := hrel
    rcases Nat.lt_trichotomy j 1 with h | h | h
    · obtain rfl : j = 0 := by omega
      clear hp hq hj h
      by_cases hp0 : p = 0
      · subst hp0
        go_wp2
        go_roundw
        case rel => exact ⟨by trivial, 1, by omega, by go_num, by simp, by simp⟩
        case measure => simp [intOf]
      · have hb1 : (p != 0) = true := bne_iff_ne.2 hp0
        have hb2 : (p == 0) = false := beq_eq_false_iff_ne.2 hp0
        go_wp2
        go_ret
        exact ⟨by rw [or2, if_pos hp0]; rfl, rfl⟩
    · subst h
      have hp0 := hp (by omega)
      subst hp0
      clear hp hq hj
      by_cases hq0 : q = 0
      · subst hq0
        go_wp2
        go_roundw
        case rel => exact ⟨by trivial, 2, by omega, by go_num, by simp, by simp⟩
        case measure => simp [intOf]
      · have hb1 : (q != 0) = true := bne_iff_ne.2 hq0
        have hb2 : (q == 0) = false := beq_eq_false_iff_ne.2 hq0
        go_wp2
        go_ret
        exact ⟨by rw [or2, if_neg (by simp)]; rfl, rfl⟩
    · obtain rfl : j = 2 := by omega
      have hp0 := hp (by omega)
      have hq0 := hq (by omega)
      subst hp0 hq0
      clear hp hq hj h
      go_wp2
      go_ret
      exact ⟨rfl, rfl⟩
/-- the order of versions, as a number -/
def ordN (x y : Ent) : Int := or2 (cmpS x.1 y.1) (Lib.compareInt y.2.1 x.2.1)
theorem ordN_neg (x y : Ent) : decide (ordN x y < 0) = decide (befE x y) := by
  unfold ordN or2 cmpS Lib.compareInt befE
  by_cases h1 : bl x.1 < bl y.1
  · rw [if_pos h1]; simp [h1]
  · rw [if_neg h1]
    by_cases h2 : bl y.1 < bl x.1
    · have h3 : ¬ bl x.1 = bl y.1 := fun e => by rw [e] at h2; exact lt_ir _ h2
      rw [if_pos h2]; simp [h1, h3]
    · have h3 : bl x.1 = bl y.1 := by
        rcases lt_tri (bl x.1) (bl y.1) with h | h | h
        · exact absurd h h1
        · exact h
        · exact absurd h h2
      rw [if_neg h2]
      by_cases h4 : y.2.1 < x.2.1
      · rw [if_pos h4]; simp [h3, h4]
      · rw [if_neg h4]
        by_cases h5 : y.2.1 > x.2.1
        · rw [if_pos h5]; simp [h1, h4]
        · rw [if_neg h5]; simp [h1, h4]
abbrev ebv (x : Ent) : Value := .agg #[.string x.1, .int .i64 x.2.1, .int .i64 x.2.2.1, .string x.2.2.2]
abbrev ebo (x : Ent) : Obj := .cells #[.string x.1, .int .i64 x.2.1, .int .i64 x.2.2.1, .string x.2.2.2] 36
set_option maxRecDepth 100000 in
set_option maxHeartbeats 800000 in
theorem order_any (x y : Ent) (w : World) : Calls Try.prog 68 #[ebv x, ebv y] w fun e w' => e = .returned (.int .i64 (ordN x y)) ∧ Below w.heap.size w w' := by
  obtain ⟨k1, q1, d1, v1⟩ := x
  obtain ⟨k2, q2, d2, v2⟩ := y
  have hX := Eb.new w (k1, q1, d1, v1)
  have hX2 := hX.below (below_alloc (w.alloc (ebo (k1, q1, d1, v1))) (ebo (k2, q2, d2, v2)))
  have hY := Eb.new (w.alloc (ebo (k1, q1, d1, v1))) (k2, q2, d2, v2)
  have HB := ((Below.refl w.heap.size w).alloc (Nat.le_refl _) (ebo (k1, q1, d1, v1))).alloc (below_alloc w (ebo (k1, q1, d1, v1))).size (ebo (k2, q2, d2, v2))
  go_enter Try.func68, Try.ntmps68
  go_wp2
  obtain ⟨x0, x1, -, -, -, -, -, -⟩ := hX2.read
  obtain ⟨y0, y1, -, -, -, -, -, -⟩ := hY.read
  generalize hWo : (w.alloc (ebo (k1, q1, d1, v1))).alloc (ebo (k2, q2, d2, v2)) = Wo at *
  have HWo := hide hWo
  clear hWo hX2 hY hX
  have hs1 : (w.alloc (ebo (k1, q1, d1, v1))).heap.size = w.heap.size + 1 := World.size_alloc _ _
  rw [hs1] at y0 y1
  have l0 := World.block_lt_of_cell? _ _ x0
  have l1 := World.block_lt_of_cell? _ _ y0
  have l2 := World.block_lt_of_cell? _ _ x1
  have l3 := World.block_lt_of_cell? _ _ y1
  obtain ⟨p, hp⟩ : ∃ p, cmpS k1 k2 = p := ⟨_, rfl⟩
  obtain ⟨q, hq⟩ : ∃ q, Lib.compareInt q2 q1 = q := ⟨_, rfl⟩
  have C1 := fun W => cmpS_any k1 k2 W
  have C2 := fun W => cmp_Compare_int q2 q1 W
  rw [hp] at C1
  rw [hq] at C2
  have HR : ordN (k1, q1, d1, v1) (k2, q2, d2, v2) = or2 p q := by rw [ordN, hp, hq]
  have HRR := hide HR
  clear HR hp hq
  have hd : Below w.heap.size w Wo.drew := HB.drew
  have bA := below_alloc Wo.drew (.cells #[.int .i64 p, .int .i64 q] 3)
  have r0 : (Wo.drew.alloc (.cells #[.int .i64 p, .int .i64 q] 3)).heap[Wo.drew.heap.size]? = some (.cells #[.int .i64 p, .int .i64 q] 3 (0, 0)) := heap_alloc_new _ _
  have O1 := Or_any Wo.drew.heap.size p q _ (blk_cell r0 0) (blk_cell r0 1)
  have hda := hd.alloc hd.size (.cells #[.int .i64 p, .int .i64 q] 3)
  have hS0 : Wo.drew.cell? ⟨w.heap.size, 0, none⟩ = some (.string k1) ∧ Wo.drew.cell? ⟨w.heap.size, 1, none⟩ = some (.int .i64 q1) ∧ Wo.drew.cell? ⟨w.heap.size + 1, 0, none⟩ = some (.string k2) ∧ Wo.drew.cell? ⟨w.heap.size + 1, 1, none⟩ = some (.int .i64 q2) := ⟨x0, x1, y0, y1⟩
  have hS1 : (Wo.drew.alloc (.cells #[.int .i64 p, .int .i64 q] 3)).cell? ⟨w.heap.size, 0, none⟩ = some (.string k1) ∧ (Wo.drew.alloc (.cells #[.int .i64 p, .int .i64 q] 3)).cell? ⟨w.heap.size, 1, none⟩ = some (.int .i64 q1) ∧ (Wo.drew.alloc (.cells #[.int .i64 p, .int .i64 q] 3)).cell? ⟨w.heap.size + 1, 0, none⟩ = some (.string k2) ∧ (Wo.drew.alloc (.cells #[.int .i64 p, .int .i64 q] 3)).cell? ⟨w.heap.size + 1, 1, none⟩ = some (.int .i64 q2) := ⟨(bA.cell l0).trans x0, (bA.cell l2).trans x1, (bA.cell l1).trans y0, (bA.cell l3).trans y1⟩
  go_region_held3 (fun w' => w'.cell? ⟨w.heap.size, 0, none⟩ = some (.string k1) ∧ w'.cell? ⟨w.heap.size, 1, none⟩ = some (.int .i64 q1) ∧ w'.cell? ⟨w.heap.size + 1, 0, none⟩ = some (.string k2) ∧ w'.cell? ⟨w.heap.size + 1, 1, none⟩ = some (.int .i64 q2)) (first | exact hS0 | exact hS1 | assumption) (first | (go_at_call 55; (with_reducible refine (C1 _).mono ?_); rintro e w' ⟨rfl, rfl⟩) | (go_at_call 56; (with_reducible refine (C2 _).mono ?_); rintro e w' ⟨rfl, rfl⟩) | (go_at_call 54; (refine O1.mono ?_); rintro e w' ⟨rfl, rfl⟩))
  go_wp2
  go_ret
  exact ⟨by rw [HRR.out]; rfl, hda⟩
set_option maxRecDepth 100000 in
set_option maxHeartbeats 800000 in
theorem Before_any (x y : Ent) (w : World) : Calls Try.prog 58 #[ebv x, ebv y] w fun e w' => e = .returned (.bool (decide (befE x y))) ∧ Below w.heap.size w w' := by
  have hX := Eb.new w x
  have bY := below_alloc (w.alloc (ebo x)) (ebo y)
  have hX2 := hX.below bY
  have hY := Eb.new (w.alloc (ebo x)) y
  have HB := ((Below.refl w.heap.size w).alloc (Nat.le_refl _) (ebo x)).alloc (below_alloc w (ebo x)).size (ebo y)
  have hs1 : (w.alloc (ebo x)).heap.size = w.heap.size + 1 := World.size_alloc _ _
  obtain ⟨x0, x1, x2, x3, -, -, -, -⟩ := hX2.read
  obtain ⟨y0, y1, y2, y3, -, -, -, -⟩ := hY.read
  rw [hs1] at y0 y1 y2 y3
  have hO := fun W => order_any x y W
  have hneg := ordN_neg x y
  go_enter Try.func58, Try.ntmps58
  go_wp2_with (first | (go_at_call 68; (with_reducible refine (hO _).mono ?_); rintro e w1 ⟨rfl, HB1⟩))
  go_ret
  exact ⟨by rw [← hneg]; rfl, HB.trans (HB1.mono HB.size)⟩
end Go.Proofs.Ytfclmkbhfpjhjaa
end

section
/- Block: may versions be, in order: the program's, walked. -/
namespace Go.Proofs.Ytfclmkbhfpjhjaa
open Go.RowKit Go.Proofs.YtfclmkbhfpjhjaaW.PrintWords
set_option linter.unusedVariables false

set_option maxRecDepth 100000 in
set_option maxHeartbeats 1600000 in
theorem Ordered_any (A : Option Addr) (c n : Nat) (l : List Ent) (w : World) (hn : l.length = n) (hr : RdE w A c l) (hl : n ≤ 9223372036854775806) :
    Calls Try.prog 39 #[.slice A n c] w fun e w' => e = .returned (.int .i64 (ordE l)) ∧ Below w.heap.size w w' := by
  have HN := hide hn
  obtain ⟨R, hR⟩ : ∃ R, ordE l = R := ⟨_, rfl⟩
  have HR := hide hR
  rw [hR]
  clear hn hR
  go_enter Try.func39, Try.ntmps39
  go_wp2
  go_loopw [7] (fun i wr => ∃ k : Nat, k ≤ n ∧ i = .int .i64 (k : Int) ∧ R = ordL l (n - k) k ∧ Below w.heap.size w wr) (fun i _ => n - (intOf i).toNat)
  case atStart => exact ⟨0, Nat.zero_le _, rfl, by rw [← HR.out, ordE, HN.out]; rfl, Below.refl _ _⟩
  case round =>
    obtain ⟨k, hk, rfl, hres, HB⟩ := hrel
    by_cases hlt : k < n
    · have hlti : (k : Int) < (n : Int) := Int.ofNat_lt.2 hlt
      have hrr := hr.below HB
      obtain ⟨ad, rfl, x0, x1, x2, x3⟩ := RdE.at4 hrr k (by rw [HN.out]; exact hlt)
      rw [show n - k = (n - (k + 1)) + 1 by omega, ordL] at hres
      have hM := fun W => May_any (l.getD k zEnt) W
      obtain ⟨x, hx⟩ : ∃ x, l.getD k zEnt = x := ⟨_, rfl⟩
      rw [hx] at hres x0 x1 x2 x3 hM
      have hE := Eb.new wr x
      obtain ⟨y0, y1, y2, y3, -, -, -, -⟩ := hE.read
      have HB2 := HB.alloc HB.size (.cells #[.string x.1, .int .i64 x.2.1, .int .i64 x.2.2.1, .string x.2.2.2] 36)
      by_cases hm : mayE x
      · rw [if_neg (fun h => h hm)] at hres
        rw [decide_eq_true hm] at hM
        by_cases hk0 : k = 0
        · rw [if_neg (fun h => by omega)] at hres
          have hk0i : ¬ (0 : Int) < (k : Int) := by omega
          have hk0n : ¬ 0 < k := by omega
          have HRES := hide hres
          clear hres hk0
          go_wp2_with (first | (go_at_call 57; (with_reducible refine (hM _).mono ?_); rintro e w1 ⟨rfl, HB1⟩; have hE1 := hE.below HB1; have HB3 := HB2.trans (HB1.mono HB2.size)))
          refine wp_region_below w1.heap.size _ (Below.refl _ _) (by kernel_rfl) (by kernel_rfl) ?_
          repeat (go_big_quiet_step ((intro hb; rfl)))
          refine wpQuiet_nil ?_
          intro w5 HC5
          have HB5 := HB3.trans (HC5.mono HB3.size)
          go_wp2
          go_roundw
          case rel => exact ⟨k + 1, hlt, by go_num, HRES.out, HB5⟩
          case measure => simp [intOf]; omega
        · have hk0' : 0 < k := Nat.pos_of_ne_zero hk0
          have hk1 : wrap64 ((k : Int) - 1) = ((k - 1 : Nat) : Int) := by unfold wrap64; omega
          have hk2 : IntKind.i64.wrap ((k : Int) - 1) = ((k - 1 : Nat) : Int) := by rw [IntKind.wrap_i64]; omega
          have hk0i : (0 : Int) < (k : Int) := by omega
          obtain ⟨j, hj⟩ : ∃ j, k - 1 = j := ⟨_, rfl⟩
          rw [hj] at hk1 hk2 hres
          obtain ⟨ad', e', p0, p1, p2, p3⟩ := RdE.at4 hrr j (by rw [HN.out]; omega)
          cases e'
          obtain ⟨y, hy⟩ : ∃ y, l.getD j zEnt = y := ⟨_, rfl⟩
          rw [hy] at hres p0 p1 p2 p3
          have hBf := fun W => Before_any y x W
          have hjn : (j : Int) < (n : Int) := by omega
          have hjn2 : j < n := by omega
          by_cases hbf : befE y x
          · rw [if_neg (fun h => h.2 hbf)] at hres
            rw [decide_eq_true hbf] at hBf
            have HRES := hide hres
            clear hres hy hj hx
            go_wp2_with (first | (go_at_call 57; (with_reducible refine (hM _).mono ?_); rintro e w1 ⟨rfl, HB1⟩; have hE1 := hE.below HB1; have HB3 := HB2.trans (HB1.mono HB2.size); have bb := (below_alloc wr (.cells #[.string x.1, .int .i64 x.2.1, .int .i64 x.2.2.1, .string x.2.2.2] 36)).trans (HB1.mono (below_alloc wr (.cells #[.string x.1, .int .i64 x.2.1, .int .i64 x.2.2.1, .string x.2.2.2] 36)).size)))
            have t0 := (bb.cell (World.block_lt_of_cell? _ _ p0)).trans p0
            have t1 := (bb.cell (World.block_lt_of_cell? _ _ p1)).trans p1
            have t2 := (bb.cell (World.block_lt_of_cell? _ _ p2)).trans p2
            have t3 := (bb.cell (World.block_lt_of_cell? _ _ p3)).trans p3
            obtain ⟨u0, u1, u2_, u3, -, -, -, -⟩ := hE1.read
            have hd : Below w1.heap.size w1 w1.drew := (Below.refl _ _).drew
            have hSk : ∀ W, Below w1.heap.size w1 W → Below w1.heap.size w1 W ∧ W.cell? (ad.add (j * 4)) = some (.string y.1) ∧ W.cell? ⟨(ad.add (j * 4)).block, (ad.add (j * 4)).off + 1, none⟩ = some (.int .i64 y.2.1) ∧ W.cell? ⟨(ad.add (j * 4)).block, (ad.add (j * 4)).off + 2, none⟩ = some (.int .i64 y.2.2.1) ∧ W.cell? ⟨(ad.add (j * 4)).block, (ad.add (j * 4)).off + 3, none⟩ = some (.string y.2.2.2) ∧ W.cell? ⟨wr.heap.size, 0, none⟩ = some (.string x.1) ∧ W.cell? ⟨wr.heap.size, 1, none⟩ = some (.int .i64 x.2.1) ∧ W.cell? ⟨wr.heap.size, 2, none⟩ = some (.int .i64 x.2.2.1) ∧ W.cell? ⟨wr.heap.size, 3, none⟩ = some (.string x.2.2.2) := fun W h => ⟨h, (h.cell (World.block_lt_of_cell? _ _ t0)).trans t0, (h.cell (World.block_lt_of_cell? _ _ t1)).trans t1, (h.cell (World.block_lt_of_cell? _ _ t2)).trans t2, (h.cell (World.block_lt_of_cell? _ _ t3)).trans t3, (h.cell (World.block_lt_of_cell? _ _ u0)).trans u0, (h.cell (World.block_lt_of_cell? _ _ u1)).trans u1, (h.cell (World.block_lt_of_cell? _ _ u2_)).trans u2_, (h.cell (World.block_lt_of_cell? _ _ u3)).trans u3⟩
            have hS0 := hSk _ hd
            go_region_held3 (fun w' => Below w1.heap.size w1 w' ∧ w'.cell? (ad.add (j * 4)) = some (.string y.1) ∧ w'.cell? ⟨(ad.add (j * 4)).block, (ad.add (j * 4)).off + 1, none⟩ = some (.int .i64 y.2.1) ∧ w'.cell? ⟨(ad.add (j * 4)).block, (ad.add (j * 4)).off + 2, none⟩ = some (.int .i64 y.2.2.1) ∧ w'.cell? ⟨(ad.add (j * 4)).block, (ad.add (j * 4)).off + 3, none⟩ = some (.string y.2.2.2) ∧ w'.cell? ⟨wr.heap.size, 0, none⟩ = some (.string x.1) ∧ w'.cell? ⟨wr.heap.size, 1, none⟩ = some (.int .i64 x.2.1) ∧ w'.cell? ⟨wr.heap.size, 2, none⟩ = some (.int .i64 x.2.2.1) ∧ w'.cell? ⟨wr.heap.size, 3, none⟩ = some (.string x.2.2.2)) (first | exact hS0 | exact hSk _ HBt | assumption) (first | (go_at_call 58; (with_reducible refine (hBf _).mono ?_); rintro e w6 ⟨rfl, HB6'⟩; have HBt := hd.trans (HB6'.mono hd.size); have HB6 := HB3.trans (HBt.mono HB3.size)))
            go_wp2
            go_roundw
            case rel => exact ⟨k + 1, hlt, by go_num, HRES.out, HB6⟩
            case measure => simp [intOf]; omega
          · rw [if_pos ⟨hk0', hbf⟩] at hres
            rw [decide_eq_false hbf] at hBf
            subst hres
            clear hy hj hx
            go_wp2_with (first | (go_at_call 57; (with_reducible refine (hM _).mono ?_); rintro e w1 ⟨rfl, HB1⟩; have hE1 := hE.below HB1; have HB3 := HB2.trans (HB1.mono HB2.size); have bb := (below_alloc wr (.cells #[.string x.1, .int .i64 x.2.1, .int .i64 x.2.2.1, .string x.2.2.2] 36)).trans (HB1.mono (below_alloc wr (.cells #[.string x.1, .int .i64 x.2.1, .int .i64 x.2.2.1, .string x.2.2.2] 36)).size)))
            have t0 := (bb.cell (World.block_lt_of_cell? _ _ p0)).trans p0
            have t1 := (bb.cell (World.block_lt_of_cell? _ _ p1)).trans p1
            have t2 := (bb.cell (World.block_lt_of_cell? _ _ p2)).trans p2
            have t3 := (bb.cell (World.block_lt_of_cell? _ _ p3)).trans p3
            obtain ⟨u0, u1, u2_, u3, -, -, -, -⟩ := hE1.read
            have hd : Below w1.heap.size w1 w1.drew := (Below.refl _ _).drew
            have hSk : ∀ W, Below w1.heap.size w1 W → Below w1.heap.size w1 W ∧ W.cell? (ad.add (j * 4)) = some (.string y.1) ∧ W.cell? ⟨(ad.add (j * 4)).block, (ad.add (j * 4)).off + 1, none⟩ = some (.int .i64 y.2.1) ∧ W.cell? ⟨(ad.add (j * 4)).block, (ad.add (j * 4)).off + 2, none⟩ = some (.int .i64 y.2.2.1) ∧ W.cell? ⟨(ad.add (j * 4)).block, (ad.add (j * 4)).off + 3, none⟩ = some (.string y.2.2.2) ∧ W.cell? ⟨wr.heap.size, 0, none⟩ = some (.string x.1) ∧ W.cell? ⟨wr.heap.size, 1, none⟩ = some (.int .i64 x.2.1) ∧ W.cell? ⟨wr.heap.size, 2, none⟩ = some (.int .i64 x.2.2.1) ∧ W.cell? ⟨wr.heap.size, 3, none⟩ = some (.string x.2.2.2) := fun W h => ⟨h, (h.cell (World.block_lt_of_cell? _ _ t0)).trans t0, (h.cell (World.block_lt_of_cell? _ _ t1)).trans t1, (h.cell (World.block_lt_of_cell? _ _ t2)).trans t2, (h.cell (World.block_lt_of_cell? _ _ t3)).trans t3, (h.cell (World.block_lt_of_cell? _ _ u0)).trans u0, (h.cell (World.block_lt_of_cell? _ _ u1)).trans u1, (h.cell (World.block_lt_of_cell? _ _ u2_)).trans u2_, (h.cell (World.block_lt_of_cell? _ _ u3)).trans u3⟩
            have hS0 := hSk _ hd
            go_region_held3 (fun w' => Below w1.heap.size w1 w' ∧ w'.cell? (ad.add (j * 4)) = some (.string y.1) ∧ w'.cell? ⟨(ad.add (j * 4)).block, (ad.add (j * 4)).off + 1, none⟩ = some (.int .i64 y.2.1) ∧ w'.cell? ⟨(ad.add (j * 4)).block, (ad.add (j * 4)).off + 2, none⟩ = some (.int .i64 y.2.2.1) ∧ w'.cell? ⟨(ad.add (j * 4)).block, (ad.add (j * 4)).off + 3, none⟩ = some (.string y.2.2.2) ∧ w'.cell? ⟨wr.heap.size, 0, none⟩ = some (.string x.1) ∧ w'.cell? ⟨wr.heap.size, 1, none⟩ = some (.int .i64 x.2.1) ∧ w'.cell? ⟨wr.heap.size, 2, none⟩ = some (.int .i64 x.2.2.1) ∧ w'.cell? ⟨wr.heap.size, 3, none⟩ = some (.string x.2.2.2)) (first | exact hS0 | exact hSk _ HBt | assumption) (first | (go_at_call 58; (with_reducible refine (hBf _).mono ?_); rintro e w6 ⟨rfl, HB6'⟩; have HBt := hd.trans (HB6'.mono hd.size); have HB6 := HB3.trans (HBt.mono HB3.size)))
            go_wp2
            go_ret
            exact ⟨rfl, HB6⟩
      · rw [if_pos hm] at hres
        rw [decide_eq_false hm] at hM
        subst hres
        clear hx
        go_wp2_with (first | (go_at_call 57; (with_reducible refine (hM _).mono ?_); rintro e w1 ⟨rfl, HB1⟩; have HB3 := HB2.trans (HB1.mono HB2.size)))
        go_ret
        exact ⟨rfl, HB3⟩
    · obtain rfl : k = n := Nat.le_antisymm hk (Nat.not_lt.1 hlt)
      rw [Nat.sub_self, ordL] at hres
      subst hres
      go_wp2
      go_ret
      exact ⟨rfl, HB⟩
theorem Check_any (A : Option Addr) (c n : Nat) (l : List Ent) (w : World) (hn : l.length = n) (hr : RdE w A c l) (hl : n ≤ 9223372036854775806) :
    Calls Try.prog 23 #[.slice A n c] w fun e w' => e = .returned (.int .i64 (chkE l)) ∧ Below w.heap.size w w' := by
  have hO := fun W (h : RdE W A c l) => Ordered_any A c n l W hn h hl
  have hz : chkE l = if n < 1 ∨ 64 < n then 3 else ordE l := by rw [chkE, hn]
  rw [hz]
  clear hz hn
  by_cases h1 : n < 1
  · rw [if_pos (.inl h1)]
    have h1i : (n : Int) < 1 := by omega
    go_enter Try.func23, Try.ntmps23
    go_wp2
    go_ret
    exact ⟨rfl, Below.refl _ _⟩
  · have h1i : ¬ (n : Int) < 1 := by omega
    by_cases h2 : 64 < n
    · rw [if_pos (.inr h2)]
      have h2i : 64 < (n : Int) := by omega
      go_enter Try.func23, Try.ntmps23
      go_wp2
      go_ret
      exact ⟨rfl, Below.refl _ _⟩
    · rw [if_neg (by omega)]
      have h2i : ¬ 64 < (n : Int) := by omega
      generalize ordE l = z at *
      go_enter Try.func23, Try.ntmps23
      go_wp2_with (first | (go_at_call 39; (with_reducible refine (hO _ hr).mono ?_); rintro e w1 ⟨rfl, HB1⟩))
      go_ret
      exact ⟨rfl, HB1⟩
end Go.Proofs.Ytfclmkbhfpjhjaa
end

section
/- Block: how much two keys have in common, walked. -/
namespace Go.Proofs.Ytfclmkbhfpjhjaa
open Go.RowKit Go.Proofs.YtfclmkbhfpjhjaaW.PrintWords
set_option linter.unusedVariables false

theorem bl_at (s : ByteArray) (i : Nat) (h : i < s.size) : (bl s).getD i 0 = s[i]'h := by
  have hl : i < (bl s).length := by rw [bl_length]; exact h
  rw [List.getD_eq_getElem?_getD, List.getElem?_eq_getElem hl]
  rfl
set_option maxRecDepth 100000 in
set_option maxHeartbeats 1600000 in
theorem common_any (a b : ByteArray) (w : World) (ha : a.size ≤ 9223372036854775806) (hb : b.size ≤ 9223372036854775806) :
    Calls Try.prog 25 #[.string a, .string b] w fun e w' => e = .returned (.int .i64 ((comm (bl a) (bl b) : Nat) : Int)) ∧ Below w.heap.size w w' := by
  obtain ⟨R, hR⟩ : ∃ R, comm (bl a) (bl b) = R := ⟨_, rfl⟩
  have HR := hide hR
  rw [hR]
  clear hR
  obtain ⟨M, hM⟩ : ∃ M, min a.size b.size = M := ⟨_, rfl⟩
  have hMi : min (a.size : Int) (b.size : Int) = (M : Int) := by omega
  have HM := hide hM
  clear hM
  go_enter Try.func25, Try.ntmps25
  go_wp2
  go_loopw [5] (fun i wr => ∃ j : Nat, j ≤ M ∧ i = .int .i64 (j : Int) ∧ R = j + comm ((bl a).drop j) ((bl b).drop j) ∧ Below w.heap.size w wr) (fun i _ => M - (intOf i).toNat)
  case atStart => exact ⟨0, Nat.zero_le _, rfl, by rw [← HR.out, List.drop_zero, List.drop_zero, Nat.zero_add], Below.refl _ _⟩
  case round =>
    obtain ⟨j, hj, rfl, hres, HB⟩ := hrel
    by_cases hlt : j < M
    · have hlti : (j : Int) < (M : Int) := Int.ofNat_lt.2 hlt
      have h1 : j < a.size := by have := HM.out; omega
      have h2 : j < b.size := by have := HM.out; omega
      have h1i : (j : Int) < (a.size : Int) := Int.ofNat_lt.2 h1
      have h2i : (j : Int) < (b.size : Int) := Int.ofNat_lt.2 h2
      have e1 := drop_get (bl a) 0 j (by rw [bl_length]; exact h1)
      have e2 := drop_get (bl b) 0 j (by rw [bl_length]; exact h2)
      rw [e1, e2, comm, bl_at a j h1, bl_at b j h2] at hres
      clear e1 e2
      by_cases hab : a[j]'h1 = b[j]'h2
      · have hq : (((a[j]'h1).toNat : Int) == ((b[j]'h2).toNat : Int)) = true := by rw [hab]; simp
        rw [if_pos hab] at hres
        have hres2 : R = (j + 1) + comm ((bl a).drop (j + 1)) ((bl b).drop (j + 1)) := by rw [hres]; omega
        have HRES := hide hres2
        clear hres hres2 hab
        go_wp2
        go_region_held3 (fun w' => Below w.heap.size w w') (first | exact HB.drew | assumption) (first | (go_at_call 34))
        all_goals go_wp2
        all_goals go_roundw
        all_goals first | exact ⟨j + 1, hlt, by go_num, HRES.out, HB.drew⟩ | (simp [intOf]; omega)
      · have hq : (((a[j]'h1).toNat : Int) == ((b[j]'h2).toNat : Int)) = false := beq_eq_false_iff_ne.2 (fun e => hab (UInt8.toNat_inj.1 (Int.ofNat_inj.1 e)))
        rw [if_neg hab, Nat.add_zero] at hres
        subst hres
        clear hab
        go_wp2
        go_region_held3 (fun w' => Below w.heap.size w w') (first | exact HB.drew | assumption) (first | (go_at_call 34))
        all_goals go_wp2
        all_goals go_ret
        all_goals exact ⟨rfl, HB.drew⟩
    · obtain rfl : j = M := Nat.le_antisymm hj (Nat.not_lt.1 hlt)
      have hres2 : R = j := by
        have hm := HM.out
        rw [hres]
        have : comm ((bl a).drop j) ((bl b).drop j) = 0 := by
          rcases Nat.le_total a.size b.size with h | h
          · have : (bl a).drop j = [] := List.drop_eq_nil_iff.2 (by rw [bl_length]; omega)
            rw [this]; rfl
          · have : (bl b).drop j = [] := List.drop_eq_nil_iff.2 (by rw [bl_length]; omega)
            rw [this]; cases (bl a).drop j <;> rfl
        rw [this, Nat.add_zero]
      clear hres
      subst hres2
      go_wp2
      refine wp_region_below w.heap.size w HB (by kernel_rfl) (by kernel_rfl) ?_
      repeat (go_big_quiet_step ((intro hb; rfl)))
      refine wpQuiet_nil ?_
      intro w5 HC5
      go_wp2
      go_ret
      exact ⟨rfl, HC5⟩
end Go.Proofs.Ytfclmkbhfpjhjaa
end

section
/- Block: octets and texts appended, and where the row then lies; rows apart. -/
namespace Go.Proofs.Ytfclmkbhfpjhjaa
open Go.RowKit Go.Proofs.YtfclmkbhfpjhjaaW.PrintWords
set_option linter.unusedVariables false

/-- two rows that do not share their block -/
def Dis (v v' : Value) : Prop := ∀ k, v.ownBlock = some k → v'.ownBlock ≠ some k
theorem Dis.nil (v' : Value) : Dis (.slice none 0 0) v' := fun k h => by cases h
theorem Dis.symm {v v' : Value} (h : Dis v v') : Dis v' v := fun k h1 h2 => h k h2 h1
theorem Dis.step {W : World} {base : Nat} {v v1 vt : Value} {xs : List UInt8} (D : Dis v vt) (hat : v1.ownBlock = v.ownBlock ∨ ∃ b, v1.ownBlock = some b ∧ W.heap.size ≤ b) (h : OwB W base vt xs) : Dis v1 vt := by
  intro k hk h2
  rcases hat with e | ⟨b, e, hb⟩
  · exact D k (e ▸ hk) h2
  · have := h.lt k h2
    rw [e] at hk
    injection hk with hk
    omega
theorem OwB.apart {w w1 : World} {base : Nat} {v vt : Value} {xs : List UInt8} (h : OwB w base vt xs) (D : Dis v vt) (hg : w.grownBy w1 v.ownBlock) : OwB w1 base vt xs :=
  own_other h hg (by
    cases hv : vt.ownBlock with
    | none => exact .inl rfl
    | some k => exact .inr fun e => D k e.symm hv)
theorem str_hat {P : Program} (w : World) (base : Nat) (t u ty e : TypeId) (i : TypeInfo) (ht : P.underlying t = some (.slice e)) (hu : P.underlying u = some .string) (hi : P.info? e = some i) (hz : i.zero = some (.int .u8 0))
    (hsize : i.size = 1) (hby : i.bytes = 1) (v : Value) (n : Nat) (xs : List Value) (hown : w.ownsRow base e 1 v n xs) (s : ByteArray) (h63 : n + s.size ≤ maxLen) (hbytes : n + s.size ≤ 140737488355328)
    (v' : Value) (w' : World) (hr : (Builtin.append_ #[t, u] ty #[v, .string s]).run P w = .ok v' w') : v'.ownBlock = v.ownBlock ∨ ∃ b, v'.ownBlock = some b ∧ w.heap.size ≤ b := by
  have hsmall : n + s.size ≤ 9223372036854775807 := by simp only [maxLen] at h63; omega
  have hxl : xs.length = n := by simpa using hown.1
  rcases hown.2 with ⟨rfl, rfl⟩ | ⟨g, cap, cur, rfl, hbg, hg, hnc, hcm, hcs, htake⟩
  · by_cases hm : s.size = 0
    · have hf := Lib.run_firstCells_string (P := P) w 1 s
      rw [hm] at hf
      simp [Builtin.append_, run_underlying ht, run_underlying hu, sizeOf, typeInfo, hi, hsize, Builtin.lenOf, hm, hf] at hr
      rw [← hr.1]
      exact .inl rfl
    · have h2 := run_append_nil_string (P := P) w t u ty e i (.int .u8 0) ht hu hi hz s (by omega) (by omega) (by rw [hby]; omega)
      rw [h2] at hr
      injection hr with h3 h4
      rw [← h3]
      exact .inr ⟨w.heap.size, rfl, Nat.le_refl _⟩
  · by_cases hroom : n + s.size ≤ cap
    · have hcs' : cur.size = cap := by simpa using hcs
      have h2 := Lib.run_append_room_string (P := P) w t u ty e i ht hu hi hsize g n cap cur hg s hroom (by omega)
      rw [h2] at hr
      injection hr with h3 h4
      rw [← h3]
      exact .inl rfl
    · have holds : ∀ j u, xs[j]? = some u → w.cell? ((⟨g, 0, none⟩ : Addr).add j) = some u := hown.cells (g := g) rfl
      have h2 := Lib.run_append_grow_string (P := P) w t u ty e i (.int .u8 0) ht hu hi hz ⟨g, 0, none⟩ n cap xs (by rw [hsize]; simpa using hxl) holds s (by omega) (by omega) (by rw [hby]; exact growslice_fits (by omega) (by omega))
      rw [h2] at hr
      injection hr with h3 h4
      rw [← h3]
      exact .inr ⟨w.heap.size, rfl, Nat.le_refl _⟩
/-- a text appended: the run -/
theorem str_run {w0 W : World} (base : Nat) (ty : TypeId) (v : Value) (xs : List UInt8) (y : ByteArray) (HO : OwB W base v xs) (HB : Below base w0 W) (hbase : base ≤ W.heap.size) (hl : xs.length + y.size ≤ 140737488355328) :
    ∃ v1 w1, (Builtin.append_ #[23, 9] ty #[v, .string y]).run Try.prog W = .ok v1 w1 ∧ OwB w1 base v1 (xs ++ bl y) ∧ Below base w0 w1 ∧ W.grownBy w1 v.ownBlock ∧ (v1.ownBlock = v.ownBlock ∨ ∃ b, v1.ownBlock = some b ∧ W.heap.size ≤ b) := by
  obtain ⟨i0, hi, hzz⟩ := Option.map_eq_some_iff.1 info_u8
  simp only [Prod.mk.injEq] at hzz
  obtain ⟨hz0, hz1, hz2⟩ := hzz
  have HO' : W.ownsRow base 5 1 v xs.length (nums .u8 (xs.map fun b => (b.toNat : Int))) := by rw [nums_eu8]; exact HO
  obtain ⟨v1, w1, hr, h2, h3, -⟩ := Lib.run_append_own_string (P := Try.prog) W base 23 9 ty 5 i0 Try.underlying23 Try.underlying9 hi hz0 hz1 hz2 v xs.length _ HO' y (by simp only [maxLen]; omega) hl hbase
  have hat := str_hat (P := Try.prog) W base 23 9 ty 5 i0 Try.underlying23 Try.underlying9 hi hz0 hz1 hz2 v xs.length _ HO' y (by simp only [maxLen]; omega) hl v1 w1 hr
  refine ⟨v1, w1, hr, ?_, HB.grown h3 hbase (own_base HO), h3, hat⟩
  have hl2 : (xs ++ bl y).length = xs.length + y.size := by rw [List.length_append, bl_length]
  have hc : nums .u8 (xs.map fun b => (b.toNat : Int)) ++ Lib.strCells y = nums .u8 ((xs ++ bl y).map fun b => (b.toNat : Int)) := by
    rw [List.map_append, nums_append]
    congr 1
    simp [nums, bl, Lib.strCells]
  rw [hc, ← hl2] at h2
  rw [nums_eu8] at h2
  exact h2
section
variable {ops : Array Oper} {rest : List Oper} {o : Oper} {a : Act} {Q : Exit → Act → World → Prop} {K : Act → World → Prop}
theorem app_strH {w0 W : World} (base : Nat) (hgd : o.guard = none) (s x : Operand)
    (ho : o.op = .call { callee := .builtin .append, args := #[s, x], argTypes := #[23, 9] })
    (v : Value) (xs : List UInt8) (y : ByteArray) (hs : a.eval s = v) (hx : a.eval x = .string y)
    (HO : OwB W base v xs) (HB : Below base w0 W) (hbase : base ≤ W.heap.size) (hl : xs.length + y.size ≤ 140737488355328)
    (h : ∀ v1 w1, OwB w1 base v1 (xs ++ bl y) → Below base w0 w1 → W.grownBy w1 v.ownBlock → (v1.ownBlock = v.ownBlock ∨ ∃ b, v1.ownBlock = some b ∧ W.heap.size ≤ b) → wpList Try.prog ops Q rest (a.put o.dst v1) w1) :
    wpList Try.prog ops Q (o :: rest) a W := by
  refine wpList_plain hgd fun K hK => ?_
  obtain ⟨v1, w1, hr, h1, h2, h3, h4⟩ := str_run (w0 := w0) base o.type v xs y HO HB hbase hl
  unfold Oper.wp execOp
  simp only [ho, resolve, invoke, builtin, Sem.run_bind, Sem.run_pure, Result.andThen_ok, List.map_toArray, List.map_cons, List.map_nil, hs, hx, hr]
  exact hK _ _ (h v1 w1 h1 h2 h3 h4)
theorem step_strH {w0 W : World} (base : Nat) (hw : Region.wanted o (yielded ops a.tmps) = true) (s x : Operand)
    (ho : o.op = .call { callee := .builtin .append, args := #[s, x], argTypes := #[23, 9] })
    (v : Value) (xs : List UInt8) (y : ByteArray) (hs : a.eval s = v) (hx : a.eval x = .string y)
    (HO : OwB W base v xs) (HB : Below base w0 W) (hbase : base ≤ W.heap.size) (hl : xs.length + y.size ≤ 140737488355328)
    (h : ∀ v1 w1, OwB w1 base v1 (xs ++ bl y) → Below base w0 w1 → W.grownBy w1 v.ownBlock → (v1.ownBlock = v.ownBlock ∨ ∃ b, v1.ownBlock = some b ∧ W.heap.size ≤ b) → K (a.put o.dst v1) w1) :
    if Region.wanted o (yielded ops a.tmps) = true then Oper.wp Try.prog o a W K Q else K (a.put o.dst undef) W := by
  rw [if_pos hw]
  obtain ⟨v1, w1, hr, h1, h2, h3, h4⟩ := str_run (w0 := w0) base o.type v xs y HO HB hbase hl
  unfold Oper.wp execOp
  simp only [ho, resolve, invoke, builtin, Sem.run_bind, Sem.run_pure, Result.andThen_ok, List.map_toArray, List.map_cons, List.map_nil, hs, hx, hr]
  exact h v1 w1 h1 h2 h3 h4
theorem step_rowH {w0 W : World} (base : Nat) (hw : Region.wanted o (yielded ops a.tmps) = true) (s x : Operand)
    (ho : o.op = .call { callee := .builtin .append, args := #[s, x], argTypes := #[23, 23] })
    (v : Value) (xs ys : List UInt8) (A : Option Addr) (c : Nat) (hs : a.eval s = v) (hx : a.eval x = .slice A ys.length c)
    (HO : OwB W base v xs) (HR : RdB W A c ys) (HB : Below base w0 W) (hbase : base ≤ W.heap.size) (hl : xs.length + ys.length ≤ 140737488355328)
    (h : ∀ v1 w1, OwB w1 base v1 (xs ++ ys) → Below base w0 w1 → W.grownBy w1 v.ownBlock → (v1.ownBlock = v.ownBlock ∨ ∃ b, v1.ownBlock = some b ∧ W.heap.size ≤ b) → K (a.put o.dst v1) w1) :
    if Region.wanted o (yielded ops a.tmps) = true then Oper.wp Try.prog o a W K Q else K (a.put o.dst undef) W :=
  Kd.R_append_rows_step kU8 (Rr := fun (x : UInt8) cs => cs = [eu8 x]) base hw s x 23 5 (.int .u8 0) 1 ho Try.underlying23 info_u8 rfl (by decide) (by decide) v xs ys A ys.length c (fun _ => True) (fun _ => False) hs hx
    (Kd.R_of_own HO (fun _ _ => trivial)) (rrow_of HR.2) (fun _ _ h => h) (fun _ h => h.elim) (fun _ _ => trivial) HB hbase (by omega) (fun v1 w1 h1 h2 h3 h4 => h v1 w1 (Kd.own_of_R h1) h2 h3 h4)
end
end Go.Proofs.Ytfclmkbhfpjhjaa
end

section
/- Block: three texts of octets put together. -/
namespace Go.Proofs.Ytfclmkbhfpjhjaa
open Go.RowKit Go.Proofs.YtfclmkbhfpjhjaaW.PrintWords
set_option linter.unusedVariables false

/-- of three, laid out for the call -/
theorem Concat_three (A1 A2 A3 : Option Addr) (c1 c2 c3 n1 n2 n3 n : Nat) (x1 x2 x3 : List UInt8) (W : World) (hn : W.heap.size = n) (h1 : RdB W A1 c1 x1) (h2 : RdB W A2 c2 x2) (h3 : RdB W A3 c3 x3) (l1 : x1.length = n1) (l2 : x2.length = n2) (l3 : x3.length = n3) (ht : x1.length + x2.length + x3.length ≤ 140737488355328) :
    Calls Try.prog 28 #[.slice (some ⟨n, 0, none⟩) 3 3] (W.alloc (.cells #[.slice A1 n1 c1, .slice A2 n2 c2, .slice A3 n3 c3] 23)) fun e w' => ∃ v, e = .returned v ∧ OwB w' W.heap.size v (x1 ++ (x2 ++ x3)) ∧ Below W.heap.size W w' := by
  subst hn
  subst l1
  subst l2
  subst l3
  have hb : Below W.heap.size W (W.alloc (.cells #[.slice A1 x1.length c1, .slice A2 x2.length c2, .slice A3 x3.length c3] 23)) := (Below.refl _ _).alloc (Nat.le_refl _) _
  refine (Concat_any (some ⟨W.heap.size, 0, none⟩) 3 [(A1, c1, x1), (A2, c2, x2), (A3, c3, x3)] _ ⟨rfl, by simp, fun _ => ⟨_, rfl, fun j hj => ?_⟩⟩ ?_ (by simp [total]; omega)).mono ?_
  · rw [add_plain, World.cell?_alloc_mark]
    have : j = 0 ∨ j = 1 ∨ j = 2 := by simp at hj; omega
    rcases this with rfl | rfl | rfl <;> rfl
  · intro s hs
    simp only [List.mem_cons, List.not_mem_nil, or_false] at hs
    rcases hs with rfl | rfl | rfl
    · exact h1.below hb
    · exact h2.below hb
    · exact h3.below hb
  · rintro e w' ⟨v, rfl, HO, HB⟩
    exact ⟨v, rfl, by simpa [joined] using HO.lower (by simp), hb.trans (HB.mono (by simp))⟩
end Go.Proofs.Ytfclmkbhfpjhjaa
end

section
/- Block: the walk of Encode. -/
namespace Go.Proofs.Ytfclmkbhfpjhjaa
open Go.RowKit Go.Proofs.YtfclmkbhfpjhjaaW.PrintWords
set_option linter.unusedVariables false

theorem keep_last (l : List Ent) (k : Nat) (s : ByteArray) (h : k % 4 ≠ 0 → s = (l.getD (k - 1) zEnt).1) (hk : k % 4 ≠ 0) : comm (bl s) (bl (l.getD k zEnt).1) = keepE l k := by rw [keepE, if_neg hk, h hk]
theorem keep_zero (l : List Ent) (k : Nat) (hk : k % 4 = 0) : comm (bl ⟨#[]⟩) (bl (l.getD k zEnt).1) = keepE l k := by rw [keepE, if_pos hk]; rfl
theorem rem4 (k : Nat) : (k : Int).tmod 4 = ((k % 4 : Nat) : Int) := by rw [Int.tmod_eq_emod_of_nonneg (by omega)]; omega
/-- a version that may be, in natural numbers -/
theorem may_nat (y : Ent) (h : mayE y) : ∃ (xk xv : ByteArray) (qn : Nat) (kd : UInt8), y = (xk, (qn : Int), (kd.toNat : Int), xv) ∧ xk.size ≤ 96 ∧ xv.size ≤ 512 ∧ qn ≤ 1099511627776 := by
  obtain ⟨k, q, d, v⟩ := y
  obtain ⟨h1, h2, h3, h4, h5, h6, h7⟩ := h
  simp only at h1 h2 h3 h4 h5 h6 h7
  refine ⟨k, v, q.toNat, UInt8.ofNat d.toNat, ?_, h2, h6, by omega⟩
  have e1 : ((q.toNat : Nat) : Int) = q := by omega
  have e2 : ((UInt8.ofNat d.toNat).toNat : Int) = d := by rcases h5 with h | h <;> rw [h] <;> rfl
  rw [e1, e2]
/-- the numbers ahead of a version -/
def preE (q sq qn vn : Nat) : Nat → List UInt8
  | 0 => []
  | 1 => put q
  | 2 => put q ++ put sq
  | 3 => put q ++ put sq ++ put qn
  | _ => put q ++ put sq ++ put qn ++ put vn
theorem preE_le (q sq qn vn m : Nat) : (preE q sq qn vn m).length ≤ 36 := by
  have h1 := vsize_le q
  have h2 := vsize_le sq
  have h3 := vsize_le qn
  have h4 := vsize_le vn
  unfold preE
  split <;> simp only [List.length_append, put_length, List.length_nil] <;> omega
theorem wrap_u8n (t : UInt8) : IntKind.u8.wrap (t.toNat : Int) = (t.toNat : Int) := by have := t.toNat_lt; rw [IntKind.wrap_u8]; omega
theorem u8_hi (lb : Nat) (h : lb ≤ 65535) : (lb : Int) / 256 = ((UInt8.ofNat (lb / 256)).toNat : Int) := by rw [UInt8.toNat_ofNat']; omega
theorem u8_lo (lb : Nat) : (lb : Int) % 256 = ((UInt8.ofNat lb).toNat : Int) := by rw [UInt8.toNat_ofNat']; omega
theorem Eb.aside {w w1 : World} {g : Nat} {x : Ent} (h : Eb w g x) {base : Nat} {v : Value} {xs : List UInt8} (HO : OwB w base v xs) (hg : w.grownBy w1 v.ownBlock) : Eb w1 g x := h.grown hg (own_ne HO h (by decide))
theorem ext_drop (s : ByteArray) (q : Nat) : bl (s.extract q s.size) = (bl s).drop q := by
  simp [bl]
  rw [List.take_of_length_le]
  rw [List.length_drop, Array.length_toList]
  exact Nat.le_refl _
theorem idx4 (a b c d : Value) (W : World) : (Instr.index 57 (.agg #[a, b, c, d]) (.int .i64 0)).run Try.prog W = .ok a W ∧ (Instr.index 57 (.agg #[a, b, c, d]) (.int .i64 1)).run Try.prog W = .ok b W ∧ (Instr.index 57 (.agg #[a, b, c, d]) (.int .i64 2)).run Try.prog W = .ok c W ∧ (Instr.index 57 (.agg #[a, b, c, d]) (.int .i64 3)).run Try.prog W = .ok d W := by
  have hs : (Try.prog.info? 3).map (·.size) = some 1 := by kernel_rfl
  obtain ⟨i0, hi, h1⟩ := Option.map_eq_some_iff.1 hs
  refine ⟨?_, ?_, ?_, ?_⟩ <;> simp [Instr.index, run_underlying Try.underlying57, asIntOf, go_sem, sizeOf, typeInfo, hi, h1]
set_option maxRecDepth 100000 in
set_option maxHeartbeats 6400000 in
theorem Encode_any (A : Option Addr) (c n : Nat) (l : List Ent) (w : World) (hn : l.length = n) (hr : RdE w A c l) (hl : n ≤ 9223372036854775806) :
    Calls Try.prog 10 #[.slice A n c] w fun e w' => ∃ v, e = .returned (.tuple #[v, .int .i64 (chkE l)]) ∧ OwB w' w.heap.size v (blkX l) ∧ Below w.heap.size w w' := by
  have hC := Check_any A c n l w hn hr hl
  by_cases hz : chkE l = 0
  · obtain ⟨hn1, hn2, ho⟩ := chkE_ok l hz
    rw [hz] at hC
    have hX : blkX l = guarded (blkB l) := by rw [blkX, if_pos hz]
    rw [hz, hX]
    have HX := hide hX
    rw [hn] at hn1 hn2
    have HN := hide hn
    have HO_ := hide ho
    clear hz hX hn ho
    go_enter Try.func10, Try.ntmps10
    go_wp2_with (first | (go_at_call 23; (with_reducible refine hC.mono ?_); rintro e w1 ⟨rfl, HB1⟩))
    clear hC
    go_loopw [20, 5, 6, 7] (fun i vb vt la wr => ∃ (k : Nat) (s : ByteArray), k ≤ n ∧ i = .int .i64 (k : Int) ∧ OwB wr w.heap.size vb (entsB l k) ∧ OwB wr w.heap.size vt (tailB l k) ∧ Dis vb vt ∧ la = .string s ∧ (k % 4 ≠ 0 → s = (l.getD (k - 1) zEnt).1) ∧ s.size ≤ 96 ∧ Below w.heap.size w wr) (fun i _ _ _ _ => n - (intOf i).toNat)
    case atStart => exact ⟨0, ⟨#[]⟩, Nat.zero_le _, rfl, OwB.zero _ _, OwB.zero _ _, Dis.nil _, rfl, fun h => absurd rfl h, Nat.zero_le _, HB1⟩
    case round =>
      obtain ⟨k, s, hk, rfl, HOb, HOt, HD, rfl, hs, hsz, HB⟩ := hrel
      obtain ⟨wo, rfl⟩ : ∃ z : World, z = wr := ⟨wr, rfl⟩
      obtain ⟨Ab, cb, hvb, hrb⟩ := HOb.rd
      subst hvb
      obtain ⟨At, ct, hvt, hrt⟩ := HOt.rd
      subst hvt
      by_cases hlt : k < n
      · have hlti : (k : Int) < (n : Int) := Int.ofNat_lt.2 hlt
        obtain ⟨ad, rfl, x0, x1, x2, x3⟩ := RdE.at4 (hr.below HB) k (by rw [HN.out]; exact hlt)
        obtain ⟨hm, -⟩ := ordE_may l HO_.out k (by rw [HN.out]; exact hlt)
        have hkl := keep_last l k s hs
        have hkz := keep_zero l k
        obtain ⟨kp1, kp2, kp3⟩ := keepE_le l k
        have htl : tailB l (k + 1) = if k % 4 = 0 then tailB l k ++ [UInt8.ofNat ((entsB l k).length / 256), UInt8.ofNat (entsB l k).length] else tailB l k := rfl
        have hel : entsB l (k + 1) = entsB l k ++ entB (keepE l k) (l.getD k zEnt) := rfl
        have hlb := entsB_length l HO_.out k (by rw [HN.out]; exact hk)
        have hltl := tailB_length l k
        obtain ⟨xk, xv, qn, kd, hx, hxk, hxv, hqn⟩ := may_nat _ hm
        have HXK := hide hx
        rw [hx] at hm hkl hkz kp1 x0 x1 x2 x3 hel
        simp only at hm hkl hkz kp1 x0 x1 x2 x3 hel
        obtain ⟨q, hq⟩ : ∃ q, keepE l k = q := ⟨_, rfl⟩
        rw [hq] at kp1 hkl hkz hel
        obtain ⟨lb, hlbe⟩ : ∃ lb, (entsB l k).length = lb := ⟨_, rfl⟩
        obtain ⟨lt, hlte⟩ : ∃ lt, (tailB l k).length = lt := ⟨_, rfl⟩
        obtain ⟨xs, hxs⟩ : ∃ xs, xk.size = xs := ⟨_, rfl⟩
        obtain ⟨vn, hvn⟩ : ∃ vn, xv.size = vn := ⟨_, rfl⟩
        obtain ⟨sq, hsq⟩ : ∃ sq, xs - q = sq := ⟨_, rfl⟩
        rw [hxs] at kp1 hxk
        rw [hvn] at hxv
        have hsqi : (xs : Int) - (q : Int) = (sq : Int) := by omega
        have hlb2 : lb ≤ 41536 := by omega
        have hlt2 : lt ≤ 64 := by omega
        have u1 := u8_hi lb (by omega)
        have u2_ := u8_lo lb
        obtain ⟨t1, ht1⟩ : ∃ t1, UInt8.ofNat (lb / 256) = t1 := ⟨_, rfl⟩
        obtain ⟨t2, ht2⟩ : ∃ t2, UInt8.ofNat lb = t2 := ⟨_, rfl⟩
        rw [hlbe, ht1, ht2] at htl
        rw [ht1] at u1
        rw [ht2] at u2_
        have wt1 := wrap_u8n t1
        have wt2 := wrap_u8n t2
        have wkd := wrap_u8n kd
        generalize entsB l k = Bk at *
        generalize tailB l k = Tk at *
        have HEL := hide hel
        have HTL := hide htl
        have hE9 : Eb _ wo.heap.size (xk, (qn : Int), (kd.toNat : Int), xv) := Eb.new wo (xk, (qn : Int), (kd.toNat : Int), xv)
        have bA := below_alloc wo (.cells #[.string xk, .int .i64 (qn : Int), .int .i64 (kd.toNat : Int), .string xv] 36)
        have HBa := HB.trans (bA.mono HB.size)
        have HOb1 := HOb.below bA
        have HOt1 := HOt.below bA
        have HKL := hide hkl
        have HKZ := hide hkz
        have HLB := hide hlbe
        have HLT := hide hlte
        have hP := fun (N : Nat) (h : N ≤ 1099511627776) W => Put_any N (Nat.lt_of_le_of_lt h (by decide)) W
        have HXS := hide hxs
        have HVN := hide hvn
        have HSQ := hide hsq
        rw [hlbe] at HOb HOb1 HD ⊢
        rw [hlte] at HOt HOt1 HD ⊢
        clear hel htl hs kp2 kp3 hq hkl hkz hm hx hlb hltl hlbe hlte hrb hrt ht1 ht2 HOb HOt
        by_cases h4 : k % 4 = 0
        · have r4 : (k : Int).tmod 4 = 0 := by rw [rem4, h4]; rfl
          have hkz := HKZ.out h4
          have hcm := fun W => common_any ⟨#[]⟩ xk W (by decide) (by rw [HXS.out]; omega)
          have htl := HTL.out
          rw [if_pos h4] at htl
          have HTZ := hide htl
          rw [hkz] at hcm
          clear hkz htl h4
          have bT := below_alloc (wo.alloc (.cells #[.string xk, .int .i64 (qn : Int), .int .i64 (kd.toNat : Int), .string xv] 36)) (.cells #[.int .u8 (t1.toNat : Int), .int .u8 (t2.toNat : Int)] 5)
          obtain ⟨ltt, hltt⟩ : ∃ ltt, (Tk ++ [t1, t2]).length = ltt := ⟨_, rfl⟩
          have HLTT := hide hltt
          clear hltt
          have HOt2 := HOt1.below bT
          have HOb2 := HOb1.below bT
          have hE2 := hE9.below bT
          have HBt := HBa.alloc HBa.size (.cells #[.int .u8 (t1.toNat : Int), .int .u8 (t2.toNat : Int)] 5)
          go_wp2_with (first | (at_builtin; refine app_row (w0 := w) (W := ((wo.alloc (.cells #[.string xk, .int .i64 (qn : Int), .int .i64 (kd.toNat : Int), .string xv] 36)).alloc (.cells #[.int .u8 (t1.toNat : Int), .int .u8 (t2.toNat : Int)] 5))) w.heap.size rfl (.tmp 28) (.tmp 36) rfl (.slice At lt ct) Tk [t1, t2] (some ⟨wo.heap.size + 1, 0, none⟩) 2 (by rfl) (by rfl) HOt2 (RdB_lit [t1, t2] _ #[.int .u8 (t1.toNat : Int), .int .u8 (t2.toNat : Int)] 5 (0, 0) _ (World.size_alloc _ _) rfl (by show 2 ≤ 9223372036854775807; decide)) HBt HBt.size (by rw [HLT.out]; show lt + 2 ≤ _; omega) ?_; intro vt1 wt HOt3 HBt3 hgt hatt; obtain ⟨At1, ct1, hvt1, -⟩ := HOt3.rd; rw [HLTT.out] at hvt1; subst hvt1; have HOb3 := HOb2.apart HD.symm hgt; have HD3 := (Dis.step HD.symm hatt HOb2).symm; have hE3 := hE2.aside HOt2 hgt; obtain ⟨y80, y81, y82, y83, -, -, -, -⟩ := hE3.read) | (go_at_call 25; (with_reducible refine (hcm _).mono ?_); rintro e w2 ⟨rfl, HB2⟩; have HObZ := HOb3.below HB2; have HOtZ := HOt3.below HB2; have HDZ := HD3; have hEZ := hE3.below HB2; have HBZ := HBt3.trans (HB2.mono HBt3.size); obtain ⟨y90, y91, y92, y93, -, -, -, -⟩ := hEZ.read))
          go_loopw [54, 5] (fun iv vb wi => ∃ m : Nat, m ≤ 4 ∧ iv = .int .i64 (m : Int) ∧ OwB wi w.heap.size vb (Bk ++ preE q sq qn vn m) ∧ OwB wi w.heap.size (.slice At1 ltt ct1) (Tk ++ [t1, t2]) ∧ Dis vb (.slice At1 ltt ct1) ∧ Eb wi wo.heap.size (xk, (qn : Int), (kd.toNat : Int), xv) ∧ Below w.heap.size w wi) (fun iv _ _ => 4 - (intOf iv).toNat)
          case atStart => exact ⟨0, by decide, rfl, by rw [show Bk ++ preE q sq qn vn 0 = Bk from List.append_nil _]; exact HObZ, HOtZ, HDZ, hEZ, HBZ⟩
          case round =>
            obtain ⟨m, hm4, rfl, HObi, HOti, HDi, hEi, HBi⟩ := hrel
            obtain ⟨Ai, ci, hvi, -⟩ := HObi.rd
            subst hvi
            have hpl := preE_le q sq qn vn m
            obtain ⟨li, hli⟩ : ∃ li, (Bk ++ preE q sq qn vn m).length = li := ⟨_, rfl⟩
            have hli2 : li ≤ 41572 := by rw [← hli, List.length_append, HLB.out]; omega
            have HLI := hide hli
            rw [hli] at HObi HDi ⊢
            clear hli hpl HObZ HOtZ HDZ hEZ HBZ
            rcases (show m = 0 ∨ m = 1 ∨ m = 2 ∨ m = 3 ∨ m = 4 by omega) with rfl | rfl | rfl | rfl | rfl
            · have hix := fun a b c d W => (idx4 a b c d W).1
              have hPm := hP q (by omega)
              have hu64 : IntKind.u64.wrap (q : Int) = (q : Int) := by rw [IntKind.wrap_u64]; omega
              have hvs := vsize_le q
              go_wp2_with (first | (go_at_call 26; (with_reducible refine (hPm _).mono ?_); rintro e w5 ⟨v5, rfl, HO5, HB5⟩; obtain ⟨A5, c5, hv5, hr5⟩ := HO5.rd; subst hv5; have HB6 := HBi.trans (HB5.mono HBi.size)) | (at_builtin; refine app_row (w0 := w) (W := w5) w.heap.size rfl (.tmp 57) (.tmp 60) rfl (.slice Ai li ci) (Bk ++ preE q sq qn vn 0) (put q) A5 c5 (by rfl) (by rfl) (HObi.below HB5) hr5 HB6 HB6.size (by rw [HLI.out, put_length]; omega) ?_; intro v7 w7 HO7 HB7 hg7 hat7))
              go_roundw
              case rel => exact ⟨1, by decide, by go_num, by rw [List.append_assoc] at HO7; exact HO7, (HOti.below HB5).apart HDi hg7, Dis.step HDi hat7 (HOti.below HB5), (hEi.below HB5).aside (HObi.below HB5) hg7, HB7⟩
              case measure => simp [intOf]
            · have hix := fun a b c d W => (idx4 a b c d W).2.1
              have hPm := hP sq (by omega)
              have hu64 : IntKind.u64.wrap (sq : Int) = (sq : Int) := by rw [IntKind.wrap_u64]; omega
              have hvs := vsize_le sq
              go_wp2_with (first | (go_at_call 26; (with_reducible refine (hPm _).mono ?_); rintro e w5 ⟨v5, rfl, HO5, HB5⟩; obtain ⟨A5, c5, hv5, hr5⟩ := HO5.rd; subst hv5; have HB6 := HBi.trans (HB5.mono HBi.size)) | (at_builtin; refine app_row (w0 := w) (W := w5) w.heap.size rfl (.tmp 57) (.tmp 60) rfl (.slice Ai li ci) (Bk ++ preE q sq qn vn 1) (put sq) A5 c5 (by rfl) (by rfl) (HObi.below HB5) hr5 HB6 HB6.size (by rw [HLI.out, put_length]; omega) ?_; intro v7 w7 HO7 HB7 hg7 hat7))
              go_roundw
              case rel => exact ⟨2, by decide, by go_num, by rw [List.append_assoc] at HO7; exact HO7, (HOti.below HB5).apart HDi hg7, Dis.step HDi hat7 (HOti.below HB5), (hEi.below HB5).aside (HObi.below HB5) hg7, HB7⟩
              case measure => simp [intOf]
            · have hix := fun a b c d W => (idx4 a b c d W).2.2.1
              have hPm := hP qn (hqn)
              have hu64 : IntKind.u64.wrap (qn : Int) = (qn : Int) := by rw [IntKind.wrap_u64]; omega
              have hvs := vsize_le qn
              go_wp2_with (first | (go_at_call 26; (with_reducible refine (hPm _).mono ?_); rintro e w5 ⟨v5, rfl, HO5, HB5⟩; obtain ⟨A5, c5, hv5, hr5⟩ := HO5.rd; subst hv5; have HB6 := HBi.trans (HB5.mono HBi.size)) | (at_builtin; refine app_row (w0 := w) (W := w5) w.heap.size rfl (.tmp 57) (.tmp 60) rfl (.slice Ai li ci) (Bk ++ preE q sq qn vn 2) (put qn) A5 c5 (by rfl) (by rfl) (HObi.below HB5) hr5 HB6 HB6.size (by rw [HLI.out, put_length]; omega) ?_; intro v7 w7 HO7 HB7 hg7 hat7))
              go_roundw
              case rel => exact ⟨3, by decide, by go_num, by rw [List.append_assoc] at HO7; exact HO7, (HOti.below HB5).apart HDi hg7, Dis.step HDi hat7 (HOti.below HB5), (hEi.below HB5).aside (HObi.below HB5) hg7, HB7⟩
              case measure => simp [intOf]
            · have hix := fun a b c d W => (idx4 a b c d W).2.2.2
              have hPm := hP vn (by omega)
              have hu64 : IntKind.u64.wrap (vn : Int) = (vn : Int) := by rw [IntKind.wrap_u64]; omega
              have hvs := vsize_le vn
              go_wp2_with (first | (go_at_call 26; (with_reducible refine (hPm _).mono ?_); rintro e w5 ⟨v5, rfl, HO5, HB5⟩; obtain ⟨A5, c5, hv5, hr5⟩ := HO5.rd; subst hv5; have HB6 := HBi.trans (HB5.mono HBi.size)) | (at_builtin; refine app_row (w0 := w) (W := w5) w.heap.size rfl (.tmp 57) (.tmp 60) rfl (.slice Ai li ci) (Bk ++ preE q sq qn vn 3) (put vn) A5 c5 (by rfl) (by rfl) (HObi.below HB5) hr5 HB6 HB6.size (by rw [HLI.out, put_length]; omega) ?_; intro v7 w7 HO7 HB7 hg7 hat7))
              go_roundw
              case rel => exact ⟨4, by decide, by go_num, by rw [List.append_assoc] at HO7; exact HO7, (HOti.below HB5).apart HDi hg7, Dis.step HDi hat7 (HOti.below HB5), (hEi.below HB5).aside (HObi.below HB5) hg7, HB7⟩
              case measure => simp [intOf]
            · have hE0 := hEi
              obtain ⟨y0, y1, y2, y3, -, -, -, -⟩ := hE0.read
              go_wp2
              have hlk : li + 1 + xs + vn ≤ 140737488355328 := by omega
              have hqs : (q : Int) ≤ (xs : Int) := by omega
              have hSl : bl (xk.extract q xs) = (bl xk).drop q := by rw [← HXS.out]; exact ext_drop xk q
              have hSls : (xk.extract q xs).size ≤ xs := by rw [← bl_length, hSl, List.length_drop, bl_length, HXS.out]; omega
              have HSL := hide hSl
              have HSS := hide hSls
              clear hSl hSls
              have dOb : OwB wr.drew w.heap.size (.slice Ai li ci) (Bk ++ preE q sq qn vn 4) := HObi
              have dOt : OwB wr.drew w.heap.size (.slice At1 ltt ct1) (Tk ++ [t1, t2]) := HOti
              have dE : Eb wr.drew wo.heap.size (xk, (qn : Int), (kd.toNat : Int), xv) := hEi
              have dB := HBi.drew
              have bK := below_alloc wr.drew (.cells #[.int .u8 (kd.toNat : Int)] 5)
              have dOb1 := dOb.below bK
              have dOt1 := dOt.below bK
              have dE1 := dE.below bK
              have dB1 := dB.alloc dB.size (.cells #[.int .u8 (kd.toNat : Int)] 5)
              have hS0 : wr.drew.cell? ⟨wo.heap.size, 0, none⟩ = some (.string xk) ∧ wr.drew.cell? ⟨wo.heap.size, 2, none⟩ = some (.int .i64 (kd.toNat : Int)) ∧ wr.drew.cell? ⟨wo.heap.size, 3, none⟩ = some (.string xv) := ⟨y0, y2, y3⟩
              have hS1 : (wr.drew.alloc (.cells #[.int .u8 (kd.toNat : Int)] 5)).cell? ⟨wo.heap.size, 0, none⟩ = some (.string xk) ∧ (wr.drew.alloc (.cells #[.int .u8 (kd.toNat : Int)] 5)).cell? ⟨wo.heap.size, 2, none⟩ = some (.int .i64 (kd.toNat : Int)) ∧ (wr.drew.alloc (.cells #[.int .u8 (kd.toNat : Int)] 5)).cell? ⟨wo.heap.size, 3, none⟩ = some (.string xv) := ⟨dE1.read.1, dE1.read.2.2.1, dE1.read.2.2.2.1⟩
              go_region_held3 (fun w' => w'.cell? ⟨wo.heap.size, 0, none⟩ = some (.string xk) ∧ w'.cell? ⟨wo.heap.size, 2, none⟩ = some (.int .i64 (kd.toNat : Int)) ∧ w'.cell? ⟨wo.heap.size, 3, none⟩ = some (.string xv)) (first | exact hS0 | exact hS1 | exact hS2 | exact hS3 | exact hS4 | assumption) (first | ((refine step_rowH (w0 := w) (W := wr.drew.alloc (.cells #[.int .u8 (kd.toNat : Int)] 5)) w.heap.size (by rfl) (.tmp 63) (.tmp 67) rfl (.slice Ai li ci) (Bk ++ preE q sq qn vn 4) [kd] (some ⟨wr.drew.heap.size, 0, none⟩) 1 (by rfl) (by rfl) dOb1 (RdB_lit [kd] _ #[.int .u8 (kd.toNat : Int)] 5 (0, 0) _ rfl rfl (by show 1 ≤ 9223372036854775807; decide)) dB1 dB1.size (by rw [HLI.out]; show li + 1 ≤ _; omega) ?_); intro v6 w6 HO6 HB6 hg6 hat6; have dOt2 := dOt1.apart HDi hg6; have D6 := Dis.step HDi hat6 dOt1; have dE2 := dE1.aside dOb1 hg6; have hS2 : w6.cell? ⟨wo.heap.size, 0, none⟩ = some (.string xk) ∧ w6.cell? ⟨wo.heap.size, 2, none⟩ = some (.int .i64 (kd.toNat : Int)) ∧ w6.cell? ⟨wo.heap.size, 3, none⟩ = some (.string xv) := ⟨dE2.read.1, dE2.read.2.2.1, dE2.read.2.2.2.1⟩) | ((refine step_strH (w0 := w) (W := w6) w.heap.size (by rfl) (.tmp 68) (.tmp 72) rfl v6 (Bk ++ preE q sq qn vn 4 ++ [kd]) (xk.extract q xs) (by rfl) (by rfl) HO6 HB6 HB6.size (by rw [List.length_append, HLI.out]; have := HSS.out; show li + 1 + _ ≤ _; omega) ?_); intro v7 w7 HO7 HB7 hg7 hat7; have dOt3 := dOt2.apart D6 hg7; have D7 := Dis.step D6 hat7 dOt2; have dE3 := dE2.aside HO6 hg7; have hS3 : w7.cell? ⟨wo.heap.size, 0, none⟩ = some (.string xk) ∧ w7.cell? ⟨wo.heap.size, 2, none⟩ = some (.int .i64 (kd.toNat : Int)) ∧ w7.cell? ⟨wo.heap.size, 3, none⟩ = some (.string xv) := ⟨dE3.read.1, dE3.read.2.2.1, dE3.read.2.2.2.1⟩) | ((refine step_strH (w0 := w) (W := w7) w.heap.size (by rfl) (.tmp 73) (.tmp 75) rfl v7 (Bk ++ preE q sq qn vn 4 ++ [kd] ++ bl (xk.extract q xs)) xv (by rfl) (by rfl) HO7 HB7 HB7.size (by rw [List.length_append, List.length_append, HLI.out, bl_length]; have := HSS.out; show li + 1 + _ + _ ≤ _; omega) ?_); intro v8 w8 HO8 HB8 hg8 hat8; have dOt4 := dOt3.apart D7 hg8; have D8 := Dis.step D7 hat8 dOt3; have dE4 := dE3.aside HO7 hg8; have hS4 : w8.cell? ⟨wo.heap.size, 0, none⟩ = some (.string xk) ∧ w8.cell? ⟨wo.heap.size, 2, none⟩ = some (.int .i64 (kd.toNat : Int)) ∧ w8.cell? ⟨wo.heap.size, 3, none⟩ = some (.string xv) := ⟨dE4.read.1, dE4.read.2.2.1, dE4.read.2.2.2.1⟩))
              go_wp2
              go_roundw
              case rel =>
                refine ⟨k + 1, xk, hlt, by go_num, ?_, ?_, D8, rfl, fun _ => ?_, by rw [HXS.out]; exact hxk, HB8⟩
                · rw [HEL.out]
                  have e : entB q (xk, (qn : Int), (kd.toNat : Int), xv) = preE q sq qn vn 4 ++ [kd] ++ bl (xk.extract q xs) ++ bl xv := by
                    rw [HSL.out]
                    unfold entB preE
                    simp only [HXS.out, HVN.out, HSQ.out, Int.toNat_natCast, UInt8.ofNat_toNat]
                  rw [e]
                  simpa only [List.append_assoc] using HO8
                · rw [HTZ.out]; exact dOt4
                · rw [Nat.add_sub_cancel, HXK.out]
              case measure => simp [intOf]; omega
        · have h4p := rem4 k
          obtain ⟨rr, hrr⟩ : ∃ rr, k % 4 = rr := ⟨_, rfl⟩
          rw [hrr] at h4p
          have h4i : ¬ (rr : Int) = 0 := by omega
          have h4n : ¬ rr = 0 := by omega
          have hkl := HKL.out h4
          have hcm := fun W => common_any s xk W (by omega) (by rw [HXS.out]; omega)
          have htl := HTL.out
          rw [if_neg h4] at htl
          have HTZ := hide htl
          rw [hkl] at hcm
          clear hkl htl h4 hrr
          obtain ⟨y90, y91, y92, y93, -, -, -, -⟩ := hE9.read
          go_wp2_with (first | (go_at_call 25; (with_reducible refine (hcm _).mono ?_); rintro e w2 ⟨rfl, HB2⟩; have HObZ := HOb1.below HB2; have HOtZ := HOt1.below HB2; have HDZ := HD; have hEZ := hE9.below HB2; have HBZ := HBa.trans (HB2.mono HBa.size); obtain ⟨y90, y91, y92, y93, -, -, -, -⟩ := hEZ.read))
          go_loopw [54, 5] (fun iv vb wi => ∃ m : Nat, m ≤ 4 ∧ iv = .int .i64 (m : Int) ∧ OwB wi w.heap.size vb (Bk ++ preE q sq qn vn m) ∧ OwB wi w.heap.size (.slice At lt ct) Tk ∧ Dis vb (.slice At lt ct) ∧ Eb wi wo.heap.size (xk, (qn : Int), (kd.toNat : Int), xv) ∧ Below w.heap.size w wi) (fun iv _ _ => 4 - (intOf iv).toNat)
          case atStart => exact ⟨0, by decide, rfl, by rw [show Bk ++ preE q sq qn vn 0 = Bk from List.append_nil _]; exact HObZ, HOtZ, HDZ, hEZ, HBZ⟩
          case round =>
            obtain ⟨m, hm4, rfl, HObi, HOti, HDi, hEi, HBi⟩ := hrel
            obtain ⟨Ai, ci, hvi, -⟩ := HObi.rd
            subst hvi
            have hpl := preE_le q sq qn vn m
            obtain ⟨li, hli⟩ : ∃ li, (Bk ++ preE q sq qn vn m).length = li := ⟨_, rfl⟩
            have hli2 : li ≤ 41572 := by rw [← hli, List.length_append, HLB.out]; omega
            have HLI := hide hli
            rw [hli] at HObi HDi ⊢
            clear hli hpl HObZ HOtZ HDZ hEZ HBZ
            rcases (show m = 0 ∨ m = 1 ∨ m = 2 ∨ m = 3 ∨ m = 4 by omega) with rfl | rfl | rfl | rfl | rfl
            · have hix := fun a b c d W => (idx4 a b c d W).1
              have hPm := hP q (by omega)
              have hu64 : IntKind.u64.wrap (q : Int) = (q : Int) := by rw [IntKind.wrap_u64]; omega
              have hvs := vsize_le q
              go_wp2_with (first | (go_at_call 26; (with_reducible refine (hPm _).mono ?_); rintro e w5 ⟨v5, rfl, HO5, HB5⟩; obtain ⟨A5, c5, hv5, hr5⟩ := HO5.rd; subst hv5; have HB6 := HBi.trans (HB5.mono HBi.size)) | (at_builtin; refine app_row (w0 := w) (W := w5) w.heap.size rfl (.tmp 57) (.tmp 60) rfl (.slice Ai li ci) (Bk ++ preE q sq qn vn 0) (put q) A5 c5 (by rfl) (by rfl) (HObi.below HB5) hr5 HB6 HB6.size (by rw [HLI.out, put_length]; omega) ?_; intro v7 w7 HO7 HB7 hg7 hat7))
              go_roundw
              case rel => exact ⟨1, by decide, by go_num, by rw [List.append_assoc] at HO7; exact HO7, (HOti.below HB5).apart HDi hg7, Dis.step HDi hat7 (HOti.below HB5), (hEi.below HB5).aside (HObi.below HB5) hg7, HB7⟩
              case measure => simp [intOf]
            · have hix := fun a b c d W => (idx4 a b c d W).2.1
              have hPm := hP sq (by omega)
              have hu64 : IntKind.u64.wrap (sq : Int) = (sq : Int) := by rw [IntKind.wrap_u64]; omega
              have hvs := vsize_le sq
              go_wp2_with (first | (go_at_call 26; (with_reducible refine (hPm _).mono ?_); rintro e w5 ⟨v5, rfl, HO5, HB5⟩; obtain ⟨A5, c5, hv5, hr5⟩ := HO5.rd; subst hv5; have HB6 := HBi.trans (HB5.mono HBi.size)) | (at_builtin; refine app_row (w0 := w) (W := w5) w.heap.size rfl (.tmp 57) (.tmp 60) rfl (.slice Ai li ci) (Bk ++ preE q sq qn vn 1) (put sq) A5 c5 (by rfl) (by rfl) (HObi.below HB5) hr5 HB6 HB6.size (by rw [HLI.out, put_length]; omega) ?_; intro v7 w7 HO7 HB7 hg7 hat7))
              go_roundw
              case rel => exact ⟨2, by decide, by go_num, by rw [List.append_assoc] at HO7; exact HO7, (HOti.below HB5).apart HDi hg7, Dis.step HDi hat7 (HOti.below HB5), (hEi.below HB5).aside (HObi.below HB5) hg7, HB7⟩
              case measure => simp [intOf]
            · have hix := fun a b c d W => (idx4 a b c d W).2.2.1
              have hPm := hP qn (hqn)
              have hu64 : IntKind.u64.wrap (qn : Int) = (qn : Int) := by rw [IntKind.wrap_u64]; omega
              have hvs := vsize_le qn
              go_wp2_with (first | (go_at_call 26; (with_reducible refine (hPm _).mono ?_); rintro e w5 ⟨v5, rfl, HO5, HB5⟩; obtain ⟨A5, c5, hv5, hr5⟩ := HO5.rd; subst hv5; have HB6 := HBi.trans (HB5.mono HBi.size)) | (at_builtin; refine app_row (w0 := w) (W := w5) w.heap.size rfl (.tmp 57) (.tmp 60) rfl (.slice Ai li ci) (Bk ++ preE q sq qn vn 2) (put qn) A5 c5 (by rfl) (by rfl) (HObi.below HB5) hr5 HB6 HB6.size (by rw [HLI.out, put_length]; omega) ?_; intro v7 w7 HO7 HB7 hg7 hat7))
              go_roundw
              case rel => exact ⟨3, by decide, by go_num, by rw [List.append_assoc] at HO7; exact HO7, (HOti.below HB5).apart HDi hg7, Dis.step HDi hat7 (HOti.below HB5), (hEi.below HB5).aside (HObi.below HB5) hg7, HB7⟩
              case measure => simp [intOf]
            · have hix := fun a b c d W => (idx4 a b c d W).2.2.2
              have hPm := hP vn (by omega)
              have hu64 : IntKind.u64.wrap (vn : Int) = (vn : Int) := by rw [IntKind.wrap_u64]; omega
              have hvs := vsize_le vn
              go_wp2_with (first | (go_at_call 26; (with_reducible refine (hPm _).mono ?_); rintro e w5 ⟨v5, rfl, HO5, HB5⟩; obtain ⟨A5, c5, hv5, hr5⟩ := HO5.rd; subst hv5; have HB6 := HBi.trans (HB5.mono HBi.size)) | (at_builtin; refine app_row (w0 := w) (W := w5) w.heap.size rfl (.tmp 57) (.tmp 60) rfl (.slice Ai li ci) (Bk ++ preE q sq qn vn 3) (put vn) A5 c5 (by rfl) (by rfl) (HObi.below HB5) hr5 HB6 HB6.size (by rw [HLI.out, put_length]; omega) ?_; intro v7 w7 HO7 HB7 hg7 hat7))
              go_roundw
              case rel => exact ⟨4, by decide, by go_num, by rw [List.append_assoc] at HO7; exact HO7, (HOti.below HB5).apart HDi hg7, Dis.step HDi hat7 (HOti.below HB5), (hEi.below HB5).aside (HObi.below HB5) hg7, HB7⟩
              case measure => simp [intOf]
            · have hE0 := hEi
              obtain ⟨y0, y1, y2, y3, -, -, -, -⟩ := hE0.read
              go_wp2
              have hlk : li + 1 + xs + vn ≤ 140737488355328 := by omega
              have hqs : (q : Int) ≤ (xs : Int) := by omega
              have hSl : bl (xk.extract q xs) = (bl xk).drop q := by rw [← HXS.out]; exact ext_drop xk q
              have hSls : (xk.extract q xs).size ≤ xs := by rw [← bl_length, hSl, List.length_drop, bl_length, HXS.out]; omega
              have HSL := hide hSl
              have HSS := hide hSls
              clear hSl hSls
              have dOb : OwB wr.drew w.heap.size (.slice Ai li ci) (Bk ++ preE q sq qn vn 4) := HObi
              have dOt : OwB wr.drew w.heap.size (.slice At lt ct) Tk := HOti
              have dE : Eb wr.drew wo.heap.size (xk, (qn : Int), (kd.toNat : Int), xv) := hEi
              have dB := HBi.drew
              have bK := below_alloc wr.drew (.cells #[.int .u8 (kd.toNat : Int)] 5)
              have dOb1 := dOb.below bK
              have dOt1 := dOt.below bK
              have dE1 := dE.below bK
              have dB1 := dB.alloc dB.size (.cells #[.int .u8 (kd.toNat : Int)] 5)
              have hS0 : wr.drew.cell? ⟨wo.heap.size, 0, none⟩ = some (.string xk) ∧ wr.drew.cell? ⟨wo.heap.size, 2, none⟩ = some (.int .i64 (kd.toNat : Int)) ∧ wr.drew.cell? ⟨wo.heap.size, 3, none⟩ = some (.string xv) := ⟨y0, y2, y3⟩
              have hS1 : (wr.drew.alloc (.cells #[.int .u8 (kd.toNat : Int)] 5)).cell? ⟨wo.heap.size, 0, none⟩ = some (.string xk) ∧ (wr.drew.alloc (.cells #[.int .u8 (kd.toNat : Int)] 5)).cell? ⟨wo.heap.size, 2, none⟩ = some (.int .i64 (kd.toNat : Int)) ∧ (wr.drew.alloc (.cells #[.int .u8 (kd.toNat : Int)] 5)).cell? ⟨wo.heap.size, 3, none⟩ = some (.string xv) := ⟨dE1.read.1, dE1.read.2.2.1, dE1.read.2.2.2.1⟩
              go_region_held3 (fun w' => w'.cell? ⟨wo.heap.size, 0, none⟩ = some (.string xk) ∧ w'.cell? ⟨wo.heap.size, 2, none⟩ = some (.int .i64 (kd.toNat : Int)) ∧ w'.cell? ⟨wo.heap.size, 3, none⟩ = some (.string xv)) (first | exact hS0 | exact hS1 | exact hS2 | exact hS3 | exact hS4 | assumption) (first | ((refine step_rowH (w0 := w) (W := wr.drew.alloc (.cells #[.int .u8 (kd.toNat : Int)] 5)) w.heap.size (by rfl) (.tmp 63) (.tmp 67) rfl (.slice Ai li ci) (Bk ++ preE q sq qn vn 4) [kd] (some ⟨wr.drew.heap.size, 0, none⟩) 1 (by rfl) (by rfl) dOb1 (RdB_lit [kd] _ #[.int .u8 (kd.toNat : Int)] 5 (0, 0) _ rfl rfl (by show 1 ≤ 9223372036854775807; decide)) dB1 dB1.size (by rw [HLI.out]; show li + 1 ≤ _; omega) ?_); intro v6 w6 HO6 HB6 hg6 hat6; have dOt2 := dOt1.apart HDi hg6; have D6 := Dis.step HDi hat6 dOt1; have dE2 := dE1.aside dOb1 hg6; have hS2 : w6.cell? ⟨wo.heap.size, 0, none⟩ = some (.string xk) ∧ w6.cell? ⟨wo.heap.size, 2, none⟩ = some (.int .i64 (kd.toNat : Int)) ∧ w6.cell? ⟨wo.heap.size, 3, none⟩ = some (.string xv) := ⟨dE2.read.1, dE2.read.2.2.1, dE2.read.2.2.2.1⟩) | ((refine step_strH (w0 := w) (W := w6) w.heap.size (by rfl) (.tmp 68) (.tmp 72) rfl v6 (Bk ++ preE q sq qn vn 4 ++ [kd]) (xk.extract q xs) (by rfl) (by rfl) HO6 HB6 HB6.size (by rw [List.length_append, HLI.out]; have := HSS.out; show li + 1 + _ ≤ _; omega) ?_); intro v7 w7 HO7 HB7 hg7 hat7; have dOt3 := dOt2.apart D6 hg7; have D7 := Dis.step D6 hat7 dOt2; have dE3 := dE2.aside HO6 hg7; have hS3 : w7.cell? ⟨wo.heap.size, 0, none⟩ = some (.string xk) ∧ w7.cell? ⟨wo.heap.size, 2, none⟩ = some (.int .i64 (kd.toNat : Int)) ∧ w7.cell? ⟨wo.heap.size, 3, none⟩ = some (.string xv) := ⟨dE3.read.1, dE3.read.2.2.1, dE3.read.2.2.2.1⟩) | ((refine step_strH (w0 := w) (W := w7) w.heap.size (by rfl) (.tmp 73) (.tmp 75) rfl v7 (Bk ++ preE q sq qn vn 4 ++ [kd] ++ bl (xk.extract q xs)) xv (by rfl) (by rfl) HO7 HB7 HB7.size (by rw [List.length_append, List.length_append, HLI.out, bl_length]; have := HSS.out; show li + 1 + _ + _ ≤ _; omega) ?_); intro v8 w8 HO8 HB8 hg8 hat8; have dOt4 := dOt3.apart D7 hg8; have D8 := Dis.step D7 hat8 dOt3; have dE4 := dE3.aside HO7 hg8; have hS4 : w8.cell? ⟨wo.heap.size, 0, none⟩ = some (.string xk) ∧ w8.cell? ⟨wo.heap.size, 2, none⟩ = some (.int .i64 (kd.toNat : Int)) ∧ w8.cell? ⟨wo.heap.size, 3, none⟩ = some (.string xv) := ⟨dE4.read.1, dE4.read.2.2.1, dE4.read.2.2.2.1⟩))
              go_wp2
              go_roundw
              case rel =>
                refine ⟨k + 1, xk, hlt, by go_num, ?_, ?_, D8, rfl, fun _ => ?_, by rw [HXS.out]; exact hxk, HB8⟩
                · rw [HEL.out]
                  have e : entB q (xk, (qn : Int), (kd.toNat : Int), xv) = preE q sq qn vn 4 ++ [kd] ++ bl (xk.extract q xs) ++ bl xv := by
                    rw [HSL.out]
                    unfold entB preE
                    simp only [HXS.out, HVN.out, HSQ.out, Int.toNat_natCast, UInt8.ofNat_toNat]
                  rw [e]
                  simpa only [List.append_assoc] using HO8
                · rw [HTZ.out]; exact dOt4
                · rw [Nat.add_sub_cancel, HXK.out]
              case measure => simp [intOf]; omega
      · obtain rfl : k = n := Nat.le_antisymm hk (Nat.not_lt.1 hlt)
        have hlb := entsB_length l HO_.out k (by rw [HN.out]; exact Nat.le_refl _)
        have hltl := tailB_length l k
        have hlk := HN.out
        have hbk : blkB l = entsB l k ++ (tailB l k ++ [UInt8.ofNat ((tailB l k).length / 2)]) := by rw [blkB, hlk, List.append_assoc]
        obtain ⟨lb, hlbe⟩ : ∃ lb, (entsB l k).length = lb := ⟨_, rfl⟩
        obtain ⟨lt, hlte⟩ : ∃ lt, (tailB l k).length = lt := ⟨_, rfl⟩
        rw [hlte] at hbk hltl
        rw [hlbe] at hlb
        have hlt2 : lt ≤ 64 := by omega
        have hlb2 : lb ≤ 41536 := by omega
        have hd2 : (lt : Int) / 2 = ((UInt8.ofNat (lt / 2)).toNat : Int) := by rw [UInt8.toNat_ofNat']; omega
        have hd3 : (lt : Int).tdiv 2 = ((UInt8.ofNat (lt / 2)).toNat : Int) := by rw [UInt8.toNat_ofNat', Int.tdiv_eq_ediv_of_nonneg (by omega)]; omega
        obtain ⟨t, ht⟩ : ∃ t, UInt8.ofNat (lt / 2) = t := ⟨_, rfl⟩
        rw [ht] at hd2 hd3 hbk
        have wt := wrap_u8n t
        generalize entsB l k = Bk at *
        generalize tailB l k = Tk at *
        have HBK := hide hbk
        have HLB := hide hlbe
        have HLT := hide hlte
        have bK := below_alloc wo (.cells #[.int .u8 (t.toNat : Int)] 5)
        have HOb1 := HOb.below bK
        have HOt1 := HOt.below bK
        have HB1' := HB.alloc HB.size (.cells #[.int .u8 (t.toNat : Int)] 5)
        have hC3 := Concat_three Ab At (some ⟨wo.heap.size, 0, none⟩) cb ct 1 lb lt 1 (wo.heap.size + 1) Bk Tk [t] (wo.alloc (.cells #[.int .u8 (t.toNat : Int)] 5)) (World.size_alloc _ _) HOb1.rdl HOt1.rdl (RdB_lit [t] wo #[.int .u8 (t.toNat : Int)] 5 (0, 0) _ rfl rfl (by show 1 ≤ 9223372036854775807; decide)) hlbe hlte rfl (by rw [hlbe, hlte]; show lb + lt + 1 ≤ _; omega)
        have hlen : (Bk ++ (Tk ++ [t])).length = lb + lt + 1 := by rw [List.length_append, List.length_append, hlbe, hlte]; show lb + (lt + 1) = _; omega
        rw [← hbk] at hC3 hlen
        have hGd := fun A c W (h : RdB W A c (blkB l)) => Guard_any A c (blkB l) W h (by omega)
        have HLEN := hide hlen
        rw [hlbe] at HOb HOb1 ⊢
        rw [hlte] at HOt HOt1 ⊢
        clear hlb hltl hbk hlbe hlte ht hs hlen hlk hrb hrt
        go_wp2_with (first | (go_at_call 28; (refine hC3.mono ?_); rintro e w3 ⟨v3, rfl, HO3, HB3⟩; obtain ⟨A3, c3, hv3, hr3⟩ := HO3.rd; subst hv3; have HB4 := HB1'.trans (HB3.mono HB1'.size)) | (go_at_call 27; (refine (hGd _ _ _ hr3).mono ?_); rintro e w5 ⟨v5, rfl, HO5, HB5⟩))
        go_ret2
        exact ⟨_, rfl, HO5.lower HB4.size, HB4.trans (HB5.mono HB4.size)⟩
  · have hX : blkX l = [] := by rw [blkX, if_neg hz]
    rw [hX]
    generalize chkE l = z at *
    go_enter Try.func10, Try.ntmps10
    go_wp2_with (first | (go_at_call 23; (with_reducible refine hC.mono ?_); rintro e w1 ⟨rfl, HB1⟩))
    go_ret2
    exact ⟨_, rfl, OwB.zero _ _, HB1⟩
end Go.Proofs.Ytfclmkbhfpjhjaa
end

section
/- Block: the walk of the reference's Encode. -/
namespace Go.Proofs.Ytfclmkbhfpjhjaa
open Go.RowKit Go.Proofs.YtfclmkbhfpjhjaaW.PrintWords
set_option linter.unusedVariables false

theorem RdE.cells {w : World} {ad : Addr} {c : Nat} {xs : List Ent} (h : RdE w (some ad) c xs) (i : Nat) (hi : i < xs.length) {x : Ent} (hx : xs.getD i zEnt = x) : w.cell? (ad.add (i * 4)) = some (.string x.1) ∧ w.cell? ⟨(ad.add (i * 4)).block, (ad.add (i * 4)).off + 1, none⟩ = some (.int .i64 x.2.1) ∧ w.cell? ⟨(ad.add (i * 4)).block, (ad.add (i * 4)).off + 2, none⟩ = some (.int .i64 x.2.2.1) ∧ w.cell? ⟨(ad.add (i * 4)).block, (ad.add (i * 4)).off + 3, none⟩ = some (.string x.2.2.2) := by
  obtain ⟨ad', e, h0, h1, h2, h3⟩ := RdE.at4 h i hi
  cases e
  rw [hx] at h0 h1 h2 h3
  exact ⟨h0, h1, h2, h3⟩
theorem nat_u64 (N : Nat) (h : N ≤ 1099511627776) : IntKind.u64.wrap (N : Int) = (N : Int) := by rw [IntKind.wrap_u64]; omega
theorem small_le (N : Nat) (h : N ≤ 512) : N ≤ 1099511627776 := by omega
theorem row_le (li v : Nat) (h : li ≤ 41572) (h2 : v ≤ 9) : li + v ≤ 140737488355328 := by omega
theorem out_le1 (li : Nat) (h : li ≤ 41572) : li + 1 ≤ 140737488355328 := by omega
theorem out_le2 (li xs z : Nat) (h : li ≤ 41572) (h2 : xs ≤ 96) (h3 : z ≤ xs) : li + 1 + z ≤ 140737488355328 := by omega
theorem out_le3 (li xs vn z : Nat) (h : li ≤ 41572) (h2 : xs ≤ 96) (h3 : vn ≤ 512) (h4 : z ≤ xs) : li + 1 + z + vn ≤ 140737488355328 := by omega
theorem li_le (lb p : Nat) (h : lb ≤ 41536) (h2 : p ≤ 36) : lb + p ≤ 41572 := by omega
theorem meas_lt (n k : Nat) (h : k < n) : n - (k + 1) < n - k := by omega
theorem sq_wraps (n : Nat) (h : n ≤ 96) : wrap64 (n : Int) = (n : Int) ∧ IntKind.i64.wrap (n : Int) = (n : Int) := ⟨by unfold wrap64; omega, by rw [IntKind.wrap_i64]; omega⟩
theorem dec_wraps (k j : Nat) (h0 : 0 < k) (hk : k ≤ 64) (h : k - 1 = j) : wrap64 ((k : Int) - 1) = (j : Int) ∧ IntKind.i64.wrap ((k : Int) - 1) = (j : Int) := ⟨by unfold wrap64; omega, by rw [IntKind.wrap_i64]; omega⟩
/-- four numbers in a row -/
def Nb (w : World) (g : Nat) (a b c d : Int) : Prop := w.heap[g]? = some (.cells #[.int .i64 a, .int .i64 b, .int .i64 c, .int .i64 d] 3 (0, 0))
theorem Nb.below {w w1 : World} {g : Nat} {a b c d : Int} (h : Nb w g a b c d) (hb : Below w.heap.size w w1) : Nb w1 g a b c d := blk_below h hb
theorem Nb.aside {w w1 : World} {g : Nat} {a b c d : Int} (h : Nb w g a b c d) {base : Nat} {v : Value} {xs : List UInt8} (HO : OwB w base v xs) (hg : w.grownBy w1 v.ownBlock) : Nb w1 g a b c d := blk_grown h hg (own_ne HO h (by decide))
theorem Nb.read {w : World} {g : Nat} {a b c d : Int} (h : Nb w g a b c d) : w.cell? ⟨g, 0, none⟩ = some (.int .i64 a) ∧ w.cell? ⟨g, 1, none⟩ = some (.int .i64 b) ∧ w.cell? ⟨g, 2, none⟩ = some (.int .i64 c) ∧ w.cell? ⟨g, 3, none⟩ = some (.int .i64 d) := ⟨blk_cell h 0, blk_cell h 1, blk_cell h 2, blk_cell h 3⟩
set_option maxRecDepth 100000 in
set_option maxHeartbeats 6400000 in
theorem rEncode_any (A : Option Addr) (c n : Nat) (l : List Ent) (w : World) (hn : l.length = n) (hr : RdE w A c l) (hl : n ≤ 9223372036854775806) :
    Calls Try.prog 20 #[.slice A n c] w fun e w' => ∃ v, e = .returned (.tuple #[v, .int .i64 (chkE l)]) ∧ OwB w' w.heap.size v (blkX l) ∧ Below w.heap.size w w' := by
  have hC := rCheck_any A c n l w hn hr (by rw [hn]; exact hl)
  by_cases hz : chkE l = 0
  · obtain ⟨hn1, hn2, ho⟩ := chkE_ok l hz
    rw [hz] at hC
    have hX : blkX l = guarded (blkB l) := by rw [blkX, if_pos hz]
    rw [hz, hX]
    have HX := hide hX
    rw [hn] at hn1 hn2
    have HN := hide hn
    have HO_ := hide ho
    clear hz hX hn ho
    go_enter Try.func20, Try.ntmps20
    go_wp2_with (first | (go_at_call 24; (with_reducible refine hC.mono ?_); rintro e w1 ⟨rfl, HB1⟩))
    clear hC
    go_loopw [7, 5, 6] (fun i vb vt wr => ∃ k : Nat, k ≤ n ∧ i = .int .i64 (k : Int) ∧ OwB wr w.heap.size vb (entsB l k) ∧ OwB wr w.heap.size vt (tailB l k) ∧ Dis vb vt ∧ Below w.heap.size w wr) (fun i _ _ _ => n - (intOf i).toNat)
    case atStart => exact ⟨0, Nat.zero_le _, rfl, OwB.zero _ _, OwB.zero _ _, Dis.nil _, HB1⟩
    case round =>
      obtain ⟨k, hk, rfl, HOb, HOt, HD, HB⟩ := hrel
      obtain ⟨wo, rfl⟩ : ∃ z : World, z = wr := ⟨wr, rfl⟩
      obtain ⟨Ab, cb, hvb, hrb⟩ := HOb.rd
      subst hvb
      obtain ⟨At, ct, hvt, hrt⟩ := HOt.rd
      subst hvt
      by_cases hlt : k < n
      · have hlti : (k : Int) < (n : Int) := Int.ofNat_lt.2 hlt
        obtain ⟨ad, rfl, x0, x1, x2, x3⟩ := RdE.at4 (hr.below HB) k (by rw [HN.out]; exact hlt)
        obtain ⟨hm, -⟩ := ordE_may l HO_.out k (by rw [HN.out]; exact hlt)
        obtain ⟨kp1, kp2, kp3⟩ := keepE_le l k
        have htl : tailB l (k + 1) = if k % 4 = 0 then tailB l k ++ [UInt8.ofNat ((entsB l k).length / 256), UInt8.ofNat (entsB l k).length] else tailB l k := rfl
        have hel : entsB l (k + 1) = entsB l k ++ entB (keepE l k) (l.getD k zEnt) := rfl
        have hke : keepE l k = if k % 4 = 0 then 0 else comm (bl (l.getD (k - 1) zEnt).1) (bl (l.getD k zEnt).1) := rfl
        have hlb := entsB_length l HO_.out k (by rw [HN.out]; exact hk)
        have hltl := tailB_length l k
        obtain ⟨xk, xv, qn, kd, hx, hxk, hxv, hqn⟩ := may_nat _ hm
        have HXK := hide hx
        have hcl := fun W (h : Below w.heap.size w W) => RdE.cells (hr.below h) k (by rw [HN.out]; exact hlt) HXK.out
        rw [hx] at hm kp1 x0 x1 x2 x3 hel hke
        simp only at hm kp1 x0 x1 x2 x3 hel hke
        obtain ⟨q, hq⟩ : ∃ q, keepE l k = q := ⟨_, rfl⟩
        rw [hq] at kp1 hel hke
        obtain ⟨lb, hlbe⟩ : ∃ lb, (entsB l k).length = lb := ⟨_, rfl⟩
        obtain ⟨lt, hlte⟩ : ∃ lt, (tailB l k).length = lt := ⟨_, rfl⟩
        obtain ⟨xs, hxs⟩ : ∃ xs, xk.size = xs := ⟨_, rfl⟩
        obtain ⟨vn, hvn⟩ : ∃ vn, xv.size = vn := ⟨_, rfl⟩
        obtain ⟨sq, hsq⟩ : ∃ sq, xs - q = sq := ⟨_, rfl⟩
        rw [hxs] at kp1 hxk
        rw [hvn] at hxv
        have hsqi : (xs : Int) - (q : Int) = (sq : Int) := by omega
        obtain ⟨hsqw, hsqw2⟩ := sq_wraps sq (by rw [← hsq]; exact Nat.le_trans (Nat.sub_le _ _) hxk)
        have hb0 : q ≤ 1099511627776 := small_le _ (Nat.le_trans kp1 (Nat.le_trans hxk (by decide)))
        have hb1 : sq ≤ 1099511627776 := small_le _ (by rw [← hsq]; exact Nat.le_trans (Nat.sub_le _ _) (Nat.le_trans hxk (by decide)))
        have hb3 : vn ≤ 1099511627776 := small_le _ hxv
        have hqs0 : (q : Int) ≤ (xs : Int) := Int.ofNat_le.2 kp1
        have hlb2 : lb ≤ 41536 := by omega
        have hlt2 : lt ≤ 64 := by omega
        have u1 := u8_hi lb (by omega)
        have u2_ := u8_lo lb
        obtain ⟨t1, ht1⟩ : ∃ t1, UInt8.ofNat (lb / 256) = t1 := ⟨_, rfl⟩
        obtain ⟨t2, ht2⟩ : ∃ t2, UInt8.ofNat lb = t2 := ⟨_, rfl⟩
        rw [hlbe, ht1, ht2] at htl
        rw [ht1] at u1
        rw [ht2] at u2_
        have wt1 := wrap_u8n t1
        have wt2 := wrap_u8n t2
        have wkd := wrap_u8n kd
        generalize entsB l k = Bk at *
        generalize tailB l k = Tk at *
        have HEL := hide hel
        have HTL := hide htl
        have HLB := hide hlbe
        have HLT := hide hlte
        have HKE := hide hke
        have hP := fun (N : Nat) (h : N ≤ 1099511627776) W => rPut_any N (Nat.lt_of_le_of_lt h (by decide)) W
        have HXS := hide hxs
        have HVN := hide hvn
        have HSQ := hide hsq
        rw [hlbe] at HOb HD ⊢
        rw [hlte] at HOt HD ⊢
        clear hel htl kp2 kp3 hq hm hx hlb hltl hlbe hlte hrb hrt ht1 ht2 hke
        by_cases h4 : k % 4 = 0
        · have r4 : (k : Int).tmod 4 = 0 := by rw [rem4, h4]; rfl
          have hke := HKE.out
          rw [if_pos h4] at hke
          subst hke
          obtain rfl : xs = sq := by have h0 := HSQ.out; rw [Nat.sub_zero] at h0; exact h0
          have htl := HTL.out
          rw [if_pos h4] at htl
          have HTZ := hide htl
          clear htl h4
          have bT := below_alloc wo (.cells #[.int .u8 (t1.toNat : Int), .int .u8 (t2.toNat : Int)] 5)
          obtain ⟨ltt, hltt⟩ : ∃ ltt, (Tk ++ [t1, t2]).length = ltt := ⟨_, rfl⟩
          have HLTT := hide hltt
          clear hltt
          have HOt2 := HOt.below bT
          have HOb2 := HOb.below bT
          have HBt := HB.alloc HB.size (.cells #[.int .u8 (t1.toNat : Int), .int .u8 (t2.toNat : Int)] 5)
          go_wp2_with (first | (at_builtin; refine app_row (w0 := w) (W := (wo.alloc (.cells #[.int .u8 (t1.toNat : Int), .int .u8 (t2.toNat : Int)] 5))) w.heap.size rfl (.tmp 25) (.tmp 33) rfl (.slice At lt ct) Tk [t1, t2] (some ⟨wo.heap.size, 0, none⟩) 2 (by rfl) (by rfl) HOt2 (RdB_lit [t1, t2] _ #[.int .u8 (t1.toNat : Int), .int .u8 (t2.toNat : Int)] 5 (0, 0) _ rfl rfl (by show 2 ≤ 9223372036854775807; decide)) HBt HBt.size (by rw [HLT.out]; show lt + 2 ≤ _; omega) ?_; intro vt1 wt HOtZ HBZ hgt hatt; obtain ⟨At1, ct1, hvt1, -⟩ := HOtZ.rd; rw [HLTT.out] at hvt1; subst hvt1; have HObZ := HOb2.apart HD.symm hgt; have HDZ := (Dis.step HD.symm hatt HOb2).symm))
          have dB := HBZ.drew
          have dOb : OwB wt.drew w.heap.size (.slice Ab lb cb) Bk := HObZ
          have dOt : OwB wt.drew w.heap.size (.slice At1 ltt ct1) (Tk ++ [t1, t2]) := HOtZ
          have bN := below_alloc wt.drew (.cells #[.int .i64 0, .int .i64 (xs : Int), .int .i64 (qn : Int), .int .i64 (vn : Int)] 3)
          have HObN := dOb.below bN
          have HOtN := dOt.below bN
          have HBN := dB.alloc dB.size (.cells #[.int .i64 0, .int .i64 (xs : Int), .int .i64 (qn : Int), .int .i64 (vn : Int)] 3)
          have hNb : Nb (wt.drew.alloc (.cells #[.int .i64 0, .int .i64 (xs : Int), .int .i64 (qn : Int), .int .i64 (vn : Int)] 3)) wt.heap.size 0 (xs : Int) (qn : Int) (vn : Int) := heap_alloc_new _ _
          obtain ⟨z0, z1, z2, z3⟩ := hcl _ HBZ
          obtain ⟨z4, z5, z6, z7⟩ := hcl _ HBN
          have hS0 : wt.drew.cell? (ad.add (k * 4)) = some (.string xk) ∧ wt.drew.cell? ⟨(ad.add (k * 4)).block, (ad.add (k * 4)).off + 1, none⟩ = some (.int .i64 (qn : Int)) ∧ wt.drew.cell? ⟨(ad.add (k * 4)).block, (ad.add (k * 4)).off + 3, none⟩ = some (.string xv) := ⟨z0, z1, z3⟩
          have hS1 : (wt.drew.alloc (.cells #[.int .i64 0, .int .i64 (xs : Int), .int .i64 (qn : Int), .int .i64 (vn : Int)] 3)).cell? (ad.add (k * 4)) = some (.string xk) ∧ (wt.drew.alloc (.cells #[.int .i64 0, .int .i64 (xs : Int), .int .i64 (qn : Int), .int .i64 (vn : Int)] 3)).cell? ⟨(ad.add (k * 4)).block, (ad.add (k * 4)).off + 1, none⟩ = some (.int .i64 (qn : Int)) ∧ (wt.drew.alloc (.cells #[.int .i64 0, .int .i64 (xs : Int), .int .i64 (qn : Int), .int .i64 (vn : Int)] 3)).cell? ⟨(ad.add (k * 4)).block, (ad.add (k * 4)).off + 3, none⟩ = some (.string xv) := ⟨z4, z5, z7⟩
          go_region_held3 (fun w' => w'.cell? (ad.add (k * 4)) = some (.string xk) ∧ w'.cell? ⟨(ad.add (k * 4)).block, (ad.add (k * 4)).off + 1, none⟩ = some (.int .i64 (qn : Int)) ∧ w'.cell? ⟨(ad.add (k * 4)).block, (ad.add (k * 4)).off + 3, none⟩ = some (.string xv)) (first | exact hS0 | exact hS1 | assumption) (first | (go_at_call 34))
          go_wp2
          go_loopw [10, 5] (fun iv vb wi => ∃ m : Nat, m ≤ 4 ∧ iv = .int .i64 (m : Int) ∧ OwB wi w.heap.size vb (Bk ++ preE 0 xs qn vn m) ∧ OwB wi w.heap.size (.slice At1 ltt ct1) (Tk ++ [t1, t2]) ∧ Dis vb (.slice At1 ltt ct1) ∧ Nb wi wt.heap.size 0 (xs : Int) (qn : Int) (vn : Int) ∧ Below w.heap.size w wi) (fun iv _ _ => 4 - (intOf iv).toNat)
          case atStart => exact ⟨0, by decide, rfl, by rw [show Bk ++ preE 0 xs qn vn 0 = Bk from List.append_nil _]; exact HObN, HOtN, HDZ, hNb, HBN⟩
          case round =>
            obtain ⟨m, hm4, rfl, HObi, HOti, HDi, hNi, HBi⟩ := hrel
            obtain ⟨Ai, ci, hvi, -⟩ := HObi.rd
            subst hvi
            have hpl := preE_le 0 xs qn vn m
            obtain ⟨li, hli⟩ : ∃ li, (Bk ++ preE 0 xs qn vn m).length = li := ⟨_, rfl⟩
            have hli2 : li ≤ 41572 := by rw [← hli, List.length_append, HLB.out]; exact li_le _ _ hlb2 hpl
            have HLI := hide hli
            obtain ⟨i0, i1, i2, i3⟩ := hNi.read
            obtain ⟨z0, z1, z2, z3⟩ := hcl _ HBi
            rw [hli] at HObi HDi ⊢
            clear hli hpl
            rcases (show m = 0 ∨ m = 1 ∨ m = 2 ∨ m = 3 ∨ m = 4 by omega) with rfl | rfl | rfl | rfl | rfl
            · have hPm : ∀ W, Calls Try.prog 35 #[.int .u64 0] W fun e w' => ∃ v, e = .returned v ∧ OwB w' W.heap.size v (put 0) ∧ Below W.heap.size W w' := hP 0 hb0
              have hu64 : IntKind.u64.wrap 0 = 0 := nat_u64 _ (hb0)
              have hvs := vsize_le 0
              go_wp2_with (first | (go_at_call 35; (with_reducible refine (hPm _).mono ?_); rintro e w5 ⟨v5, rfl, HO5, HB5⟩; obtain ⟨A5, c5, hv5, hr5⟩ := HO5.rd; subst hv5; have HB6 := HBi.trans (HB5.mono HBi.size)) | (at_builtin; refine app_row (w0 := w) (W := w5) w.heap.size rfl (.tmp 74) (.tmp 80) rfl (.slice Ai li ci) (Bk ++ preE 0 xs qn vn 0) (put 0) A5 c5 (by rfl) (by rfl) (HObi.below HB5) hr5 HB6 HB6.size (by rw [HLI.out, put_length]; exact row_le _ _ hli2 hvs) ?_; intro v7 w7 HO7 HB7 hg7 hat7))
              go_roundw
              case rel => exact ⟨1, by decide, by go_num, by rw [List.append_assoc] at HO7; exact HO7, (HOti.below HB5).apart HDi hg7, Dis.step HDi hat7 (HOti.below HB5), (hNi.below HB5).aside (HObi.below HB5) hg7, HB7⟩
              case measure => simp [intOf]
            · have hPm := hP xs (hb1)
              have hu64 : IntKind.u64.wrap (xs : Int) = (xs : Int) := nat_u64 _ (hb1)
              have hvs := vsize_le xs
              go_wp2_with (first | (go_at_call 35; (with_reducible refine (hPm _).mono ?_); rintro e w5 ⟨v5, rfl, HO5, HB5⟩; obtain ⟨A5, c5, hv5, hr5⟩ := HO5.rd; subst hv5; have HB6 := HBi.trans (HB5.mono HBi.size)) | (at_builtin; refine app_row (w0 := w) (W := w5) w.heap.size rfl (.tmp 74) (.tmp 80) rfl (.slice Ai li ci) (Bk ++ preE 0 xs qn vn 1) (put xs) A5 c5 (by rfl) (by rfl) (HObi.below HB5) hr5 HB6 HB6.size (by rw [HLI.out, put_length]; exact row_le _ _ hli2 hvs) ?_; intro v7 w7 HO7 HB7 hg7 hat7))
              go_roundw
              case rel => exact ⟨2, by decide, by go_num, by rw [List.append_assoc] at HO7; exact HO7, (HOti.below HB5).apart HDi hg7, Dis.step HDi hat7 (HOti.below HB5), (hNi.below HB5).aside (HObi.below HB5) hg7, HB7⟩
              case measure => simp [intOf]
            · have hPm := hP qn (hqn)
              have hu64 : IntKind.u64.wrap (qn : Int) = (qn : Int) := nat_u64 _ (hqn)
              have hvs := vsize_le qn
              go_wp2_with (first | (go_at_call 35; (with_reducible refine (hPm _).mono ?_); rintro e w5 ⟨v5, rfl, HO5, HB5⟩; obtain ⟨A5, c5, hv5, hr5⟩ := HO5.rd; subst hv5; have HB6 := HBi.trans (HB5.mono HBi.size)) | (at_builtin; refine app_row (w0 := w) (W := w5) w.heap.size rfl (.tmp 74) (.tmp 80) rfl (.slice Ai li ci) (Bk ++ preE 0 xs qn vn 2) (put qn) A5 c5 (by rfl) (by rfl) (HObi.below HB5) hr5 HB6 HB6.size (by rw [HLI.out, put_length]; exact row_le _ _ hli2 hvs) ?_; intro v7 w7 HO7 HB7 hg7 hat7))
              go_roundw
              case rel => exact ⟨3, by decide, by go_num, by rw [List.append_assoc] at HO7; exact HO7, (HOti.below HB5).apart HDi hg7, Dis.step HDi hat7 (HOti.below HB5), (hNi.below HB5).aside (HObi.below HB5) hg7, HB7⟩
              case measure => simp [intOf]
            · have hPm := hP vn (hb3)
              have hu64 : IntKind.u64.wrap (vn : Int) = (vn : Int) := nat_u64 _ (hb3)
              have hvs := vsize_le vn
              go_wp2_with (first | (go_at_call 35; (with_reducible refine (hPm _).mono ?_); rintro e w5 ⟨v5, rfl, HO5, HB5⟩; obtain ⟨A5, c5, hv5, hr5⟩ := HO5.rd; subst hv5; have HB6 := HBi.trans (HB5.mono HBi.size)) | (at_builtin; refine app_row (w0 := w) (W := w5) w.heap.size rfl (.tmp 74) (.tmp 80) rfl (.slice Ai li ci) (Bk ++ preE 0 xs qn vn 3) (put vn) A5 c5 (by rfl) (by rfl) (HObi.below HB5) hr5 HB6 HB6.size (by rw [HLI.out, put_length]; exact row_le _ _ hli2 hvs) ?_; intro v7 w7 HO7 HB7 hg7 hat7))
              go_roundw
              case rel => exact ⟨4, by decide, by go_num, by rw [List.append_assoc] at HO7; exact HO7, (HOti.below HB5).apart HDi hg7, Dis.step HDi hat7 (HOti.below HB5), (hNi.below HB5).aside (HObi.below HB5) hg7, HB7⟩
              case measure => simp [intOf]
            · have hqs : 0 ≤ (xs : Int) := hqs0
              have hSl : bl (xk.extract 0 xs) = (bl xk).drop 0 := by rw [← HXS.out]; exact ext_drop xk 0
              have hSls : (xk.extract 0 xs).size ≤ xs := by rw [← bl_length, hSl, List.length_drop, bl_length, HXS.out]; exact Nat.sub_le _ _
              have HSL := hide hSl
              have HSS := hide hSls
              clear hSl hSls
              have bK := below_alloc wr (.cells #[.int .u8 (kd.toNat : Int)] 5)
              have HOb1 := HObi.below bK
              have HOt1 := HOti.below bK
              have HBK := HBi.alloc HBi.size (.cells #[.int .u8 (kd.toNat : Int)] 5)
              go_wp2_with (first | (at_builtin; refine app_row (w0 := w) (W := wr.alloc (.cells #[.int .u8 (kd.toNat : Int)] 5)) w.heap.size rfl (.tmp 82) (.tmp 89) rfl (.slice Ai li ci) (Bk ++ preE 0 xs qn vn 4) [kd] (some ⟨wr.heap.size, 0, none⟩) 1 (by rfl) (by rfl) HOb1 (RdB_lit [kd] _ #[.int .u8 (kd.toNat : Int)] 5 (0, 0) _ rfl rfl (by show 1 ≤ 9223372036854775807; decide)) HBK HBK.size (by rw [HLI.out]; exact out_le1 li hli2) ?_; intro v6 w6 HO6 HB6 hg6 hat6; have HOt2 := HOt1.apart HDi hg6; have D6 := Dis.step HDi hat6 HOt1; obtain ⟨y0, y1, y2, y3⟩ := hcl _ HB6) | (at_builtin; refine app_strH (w0 := w) (W := w6) w.heap.size rfl (.tmp 91) (.tmp 98) rfl v6 (Bk ++ preE 0 xs qn vn 4 ++ [kd]) (xk.extract 0 xs) (by rfl) (by rfl) HO6 HB6 HB6.size (by rw [List.length_append, HLI.out]; exact out_le2 li xs _ hli2 hxk HSS.out) ?_; intro v7 w7 HO7 HB7 hg7 hat7; have HOt3 := HOt2.apart D6 hg7; have D7 := Dis.step D6 hat7 HOt2; obtain ⟨y4, y5, y6, y7⟩ := hcl _ HB7) | (at_builtin; refine app_strH (w0 := w) (W := w7) w.heap.size rfl (.tmp 100) (.tmp 105) rfl v7 (Bk ++ preE 0 xs qn vn 4 ++ [kd] ++ bl (xk.extract 0 xs)) xv (by rfl) (by rfl) HO7 HB7 HB7.size (by rw [List.length_append, List.length_append, HLI.out, bl_length, HVN.out]; exact out_le3 li xs vn _ hli2 hxk hxv HSS.out) ?_; intro v8 w8 HO8 HB8 hg8 hat8; have HOt4 := HOt3.apart D7 hg8; have D8 := Dis.step D7 hat8 HOt3))
              go_roundw
              case rel =>
                refine ⟨k + 1, hlt, by go_num, ?_, ?_, D8, HB8⟩
                · rw [HEL.out]
                  have e : entB 0 (xk, (qn : Int), (kd.toNat : Int), xv) = preE 0 xs qn vn 4 ++ [kd] ++ bl (xk.extract 0 xs) ++ bl xv := by
                    rw [HSL.out]
                    unfold entB preE
                    simp only [HXS.out, HVN.out, HSQ.out, Int.toNat_natCast, UInt8.ofNat_toNat, Nat.sub_zero]
                  rw [e]
                  simpa only [List.append_assoc] using HO8
                · rw [HTZ.out]; exact HOt4
              case measure =>
                simp only [intOf, Int.toNat_natCast]
                first | exact meas_lt n k hlt | (simp [intOf]; omega)
        · have h4p := rem4 k
          obtain ⟨rr, hrr⟩ : ∃ rr, k % 4 = rr := ⟨_, rfl⟩
          have hk0 : 0 < k := Nat.pos_of_ne_zero (fun e => h4 (by rw [e]))
          rw [hrr] at h4p
          have h4i : ¬ (rr : Int) = 0 := by omega
          have h4n : ¬ rr = 0 := by omega
          have hke := HKE.out
          rw [if_neg h4] at hke
          obtain ⟨j, hj⟩ : ∃ j, k - 1 = j := ⟨_, rfl⟩
          rw [hj] at hke
          obtain ⟨hk1, hk2⟩ := dec_wraps k j hk0 (Nat.le_trans hk hn2) hj
          have hjn : (j : Int) < (n : Int) := by omega
          have hjn2 : j < n := by omega
          obtain ⟨p0, p1, p2, p3⟩ := RdE.cells (hr.below HB) j (by rw [HN.out]; exact hjn2) rfl
          have hpz := (ordE_may l HO_.out j (by rw [HN.out]; exact hjn2)).1.2.1
          obtain ⟨s, hs⟩ : ∃ s, (l.getD j zEnt).1 = s := ⟨_, rfl⟩
          rw [hs] at p0 hke hpz
          have hcm := fun W => rcommon_any s xk W (by omega)
          rw [← hke] at hcm
          have htl := HTL.out
          rw [if_neg h4] at htl
          have HTZ := hide htl
          clear htl h4 hrr hke hj hs p1 p2 p3 hk0
          go_wp2
          have hd : Below wo.heap.size wo wo.drew := (Below.refl _ _).drew
          have hSk : ∀ W, Below wo.heap.size wo W → Below wo.heap.size wo W ∧ W.cell? (ad.add (j * 4)) = some (.string s) ∧ W.cell? (ad.add (k * 4)) = some (.string xk) := fun W h => ⟨h, (h.cell (World.block_lt_of_cell? _ _ p0)).trans p0, (h.cell (World.block_lt_of_cell? _ _ x0)).trans x0⟩
          have hS9 := hSk _ hd
          go_region_held3 (fun w' => Below wo.heap.size wo w' ∧ w'.cell? (ad.add (j * 4)) = some (.string s) ∧ w'.cell? (ad.add (k * 4)) = some (.string xk)) (first | exact hS9 | exact hSk _ HBt | assumption) (first | (go_at_call 34; (with_reducible refine (hcm _).mono ?_); rintro e w2 ⟨rfl, HB2'⟩; have HBt := hd.trans (HB2'.mono hd.size)))
          have HObZ := HOb.below HBt
          have HOtZ := HOt.below HBt
          have HDZ := HD
          have HBZ := HB.trans (HBt.mono HB.size)
          go_wp2
          have dB := HBZ.drew
          have dOb : OwB w2.drew w.heap.size (.slice Ab lb cb) Bk := HObZ
          have dOt : OwB w2.drew w.heap.size (.slice At lt ct) Tk := HOtZ
          have bN := below_alloc w2.drew (.cells #[.int .i64 (q : Int), .int .i64 (sq : Int), .int .i64 (qn : Int), .int .i64 (vn : Int)] 3)
          have HObN := dOb.below bN
          have HOtN := dOt.below bN
          have HBN := dB.alloc dB.size (.cells #[.int .i64 (q : Int), .int .i64 (sq : Int), .int .i64 (qn : Int), .int .i64 (vn : Int)] 3)
          have hNb : Nb (w2.drew.alloc (.cells #[.int .i64 (q : Int), .int .i64 (sq : Int), .int .i64 (qn : Int), .int .i64 (vn : Int)] 3)) w2.heap.size (q : Int) (sq : Int) (qn : Int) (vn : Int) := heap_alloc_new _ _
          obtain ⟨z0, z1, z2, z3⟩ := hcl _ HBZ
          obtain ⟨z4, z5, z6, z7⟩ := hcl _ HBN
          have hS0 : w2.drew.cell? (ad.add (k * 4)) = some (.string xk) ∧ w2.drew.cell? ⟨(ad.add (k * 4)).block, (ad.add (k * 4)).off + 1, none⟩ = some (.int .i64 (qn : Int)) ∧ w2.drew.cell? ⟨(ad.add (k * 4)).block, (ad.add (k * 4)).off + 3, none⟩ = some (.string xv) := ⟨z0, z1, z3⟩
          have hS1 : (w2.drew.alloc (.cells #[.int .i64 (q : Int), .int .i64 (sq : Int), .int .i64 (qn : Int), .int .i64 (vn : Int)] 3)).cell? (ad.add (k * 4)) = some (.string xk) ∧ (w2.drew.alloc (.cells #[.int .i64 (q : Int), .int .i64 (sq : Int), .int .i64 (qn : Int), .int .i64 (vn : Int)] 3)).cell? ⟨(ad.add (k * 4)).block, (ad.add (k * 4)).off + 1, none⟩ = some (.int .i64 (qn : Int)) ∧ (w2.drew.alloc (.cells #[.int .i64 (q : Int), .int .i64 (sq : Int), .int .i64 (qn : Int), .int .i64 (vn : Int)] 3)).cell? ⟨(ad.add (k * 4)).block, (ad.add (k * 4)).off + 3, none⟩ = some (.string xv) := ⟨z4, z5, z7⟩
          go_region_held3 (fun w' => w'.cell? (ad.add (k * 4)) = some (.string xk) ∧ w'.cell? ⟨(ad.add (k * 4)).block, (ad.add (k * 4)).off + 1, none⟩ = some (.int .i64 (qn : Int)) ∧ w'.cell? ⟨(ad.add (k * 4)).block, (ad.add (k * 4)).off + 3, none⟩ = some (.string xv)) (first | exact hS0 | exact hS1 | assumption) (first | (go_at_call 34))
          go_wp2
          go_loopw [10, 5] (fun iv vb wi => ∃ m : Nat, m ≤ 4 ∧ iv = .int .i64 (m : Int) ∧ OwB wi w.heap.size vb (Bk ++ preE q sq qn vn m) ∧ OwB wi w.heap.size (.slice At lt ct) Tk ∧ Dis vb (.slice At lt ct) ∧ Nb wi w2.heap.size (q : Int) (sq : Int) (qn : Int) (vn : Int) ∧ Below w.heap.size w wi) (fun iv _ _ => 4 - (intOf iv).toNat)
          case atStart => exact ⟨0, by decide, rfl, by rw [show Bk ++ preE q sq qn vn 0 = Bk from List.append_nil _]; exact HObN, HOtN, HDZ, hNb, HBN⟩
          case round =>
            obtain ⟨m, hm4, rfl, HObi, HOti, HDi, hNi, HBi⟩ := hrel
            obtain ⟨Ai, ci, hvi, -⟩ := HObi.rd
            subst hvi
            have hpl := preE_le q sq qn vn m
            obtain ⟨li, hli⟩ : ∃ li, (Bk ++ preE q sq qn vn m).length = li := ⟨_, rfl⟩
            have hli2 : li ≤ 41572 := by rw [← hli, List.length_append, HLB.out]; exact li_le _ _ hlb2 hpl
            have HLI := hide hli
            obtain ⟨i0, i1, i2, i3⟩ := hNi.read
            obtain ⟨z0, z1, z2, z3⟩ := hcl _ HBi
            rw [hli] at HObi HDi ⊢
            clear hli hpl
            rcases (show m = 0 ∨ m = 1 ∨ m = 2 ∨ m = 3 ∨ m = 4 by omega) with rfl | rfl | rfl | rfl | rfl
            · have hPm := hP q (hb0)
              have hu64 : IntKind.u64.wrap (q : Int) = (q : Int) := nat_u64 _ (hb0)
              have hvs := vsize_le q
              go_wp2_with (first | (go_at_call 35; (with_reducible refine (hPm _).mono ?_); rintro e w5 ⟨v5, rfl, HO5, HB5⟩; obtain ⟨A5, c5, hv5, hr5⟩ := HO5.rd; subst hv5; have HB6 := HBi.trans (HB5.mono HBi.size)) | (at_builtin; refine app_row (w0 := w) (W := w5) w.heap.size rfl (.tmp 74) (.tmp 80) rfl (.slice Ai li ci) (Bk ++ preE q sq qn vn 0) (put q) A5 c5 (by rfl) (by rfl) (HObi.below HB5) hr5 HB6 HB6.size (by rw [HLI.out, put_length]; exact row_le _ _ hli2 hvs) ?_; intro v7 w7 HO7 HB7 hg7 hat7))
              go_roundw
              case rel => exact ⟨1, by decide, by go_num, by rw [List.append_assoc] at HO7; exact HO7, (HOti.below HB5).apart HDi hg7, Dis.step HDi hat7 (HOti.below HB5), (hNi.below HB5).aside (HObi.below HB5) hg7, HB7⟩
              case measure => simp [intOf]
            · have hPm := hP sq (hb1)
              have hu64 : IntKind.u64.wrap (sq : Int) = (sq : Int) := nat_u64 _ (hb1)
              have hvs := vsize_le sq
              go_wp2_with (first | (go_at_call 35; (with_reducible refine (hPm _).mono ?_); rintro e w5 ⟨v5, rfl, HO5, HB5⟩; obtain ⟨A5, c5, hv5, hr5⟩ := HO5.rd; subst hv5; have HB6 := HBi.trans (HB5.mono HBi.size)) | (at_builtin; refine app_row (w0 := w) (W := w5) w.heap.size rfl (.tmp 74) (.tmp 80) rfl (.slice Ai li ci) (Bk ++ preE q sq qn vn 1) (put sq) A5 c5 (by rfl) (by rfl) (HObi.below HB5) hr5 HB6 HB6.size (by rw [HLI.out, put_length]; exact row_le _ _ hli2 hvs) ?_; intro v7 w7 HO7 HB7 hg7 hat7))
              go_roundw
              case rel => exact ⟨2, by decide, by go_num, by rw [List.append_assoc] at HO7; exact HO7, (HOti.below HB5).apart HDi hg7, Dis.step HDi hat7 (HOti.below HB5), (hNi.below HB5).aside (HObi.below HB5) hg7, HB7⟩
              case measure => simp [intOf]
            · have hPm := hP qn (hqn)
              have hu64 : IntKind.u64.wrap (qn : Int) = (qn : Int) := nat_u64 _ (hqn)
              have hvs := vsize_le qn
              go_wp2_with (first | (go_at_call 35; (with_reducible refine (hPm _).mono ?_); rintro e w5 ⟨v5, rfl, HO5, HB5⟩; obtain ⟨A5, c5, hv5, hr5⟩ := HO5.rd; subst hv5; have HB6 := HBi.trans (HB5.mono HBi.size)) | (at_builtin; refine app_row (w0 := w) (W := w5) w.heap.size rfl (.tmp 74) (.tmp 80) rfl (.slice Ai li ci) (Bk ++ preE q sq qn vn 2) (put qn) A5 c5 (by rfl) (by rfl) (HObi.below HB5) hr5 HB6 HB6.size (by rw [HLI.out, put_length]; exact row_le _ _ hli2 hvs) ?_; intro v7 w7 HO7 HB7 hg7 hat7))
              go_roundw
              case rel => exact ⟨3, by decide, by go_num, by rw [List.append_assoc] at HO7; exact HO7, (HOti.below HB5).apart HDi hg7, Dis.step HDi hat7 (HOti.below HB5), (hNi.below HB5).aside (HObi.below HB5) hg7, HB7⟩
              case measure => simp [intOf]
            · have hPm := hP vn (hb3)
              have hu64 : IntKind.u64.wrap (vn : Int) = (vn : Int) := nat_u64 _ (hb3)
              have hvs := vsize_le vn
              go_wp2_with (first | (go_at_call 35; (with_reducible refine (hPm _).mono ?_); rintro e w5 ⟨v5, rfl, HO5, HB5⟩; obtain ⟨A5, c5, hv5, hr5⟩ := HO5.rd; subst hv5; have HB6 := HBi.trans (HB5.mono HBi.size)) | (at_builtin; refine app_row (w0 := w) (W := w5) w.heap.size rfl (.tmp 74) (.tmp 80) rfl (.slice Ai li ci) (Bk ++ preE q sq qn vn 3) (put vn) A5 c5 (by rfl) (by rfl) (HObi.below HB5) hr5 HB6 HB6.size (by rw [HLI.out, put_length]; exact row_le _ _ hli2 hvs) ?_; intro v7 w7 HO7 HB7 hg7 hat7))
              go_roundw
              case rel => exact ⟨4, by decide, by go_num, by rw [List.append_assoc] at HO7; exact HO7, (HOti.below HB5).apart HDi hg7, Dis.step HDi hat7 (HOti.below HB5), (hNi.below HB5).aside (HObi.below HB5) hg7, HB7⟩
              case measure => simp [intOf]
            · have hqs : (q : Int) ≤ (xs : Int) := hqs0
              have hSl : bl (xk.extract q xs) = (bl xk).drop q := by rw [← HXS.out]; exact ext_drop xk q
              have hSls : (xk.extract q xs).size ≤ xs := by rw [← bl_length, hSl, List.length_drop, bl_length, HXS.out]; exact Nat.sub_le _ _
              have HSL := hide hSl
              have HSS := hide hSls
              clear hSl hSls
              have bK := below_alloc wr (.cells #[.int .u8 (kd.toNat : Int)] 5)
              have HOb1 := HObi.below bK
              have HOt1 := HOti.below bK
              have HBK := HBi.alloc HBi.size (.cells #[.int .u8 (kd.toNat : Int)] 5)
              go_wp2_with (first | (at_builtin; refine app_row (w0 := w) (W := wr.alloc (.cells #[.int .u8 (kd.toNat : Int)] 5)) w.heap.size rfl (.tmp 82) (.tmp 89) rfl (.slice Ai li ci) (Bk ++ preE q sq qn vn 4) [kd] (some ⟨wr.heap.size, 0, none⟩) 1 (by rfl) (by rfl) HOb1 (RdB_lit [kd] _ #[.int .u8 (kd.toNat : Int)] 5 (0, 0) _ rfl rfl (by show 1 ≤ 9223372036854775807; decide)) HBK HBK.size (by rw [HLI.out]; exact out_le1 li hli2) ?_; intro v6 w6 HO6 HB6 hg6 hat6; have HOt2 := HOt1.apart HDi hg6; have D6 := Dis.step HDi hat6 HOt1; obtain ⟨y0, y1, y2, y3⟩ := hcl _ HB6) | (at_builtin; refine app_strH (w0 := w) (W := w6) w.heap.size rfl (.tmp 91) (.tmp 98) rfl v6 (Bk ++ preE q sq qn vn 4 ++ [kd]) (xk.extract q xs) (by rfl) (by rfl) HO6 HB6 HB6.size (by rw [List.length_append, HLI.out]; exact out_le2 li xs _ hli2 hxk HSS.out) ?_; intro v7 w7 HO7 HB7 hg7 hat7; have HOt3 := HOt2.apart D6 hg7; have D7 := Dis.step D6 hat7 HOt2; obtain ⟨y4, y5, y6, y7⟩ := hcl _ HB7) | (at_builtin; refine app_strH (w0 := w) (W := w7) w.heap.size rfl (.tmp 100) (.tmp 105) rfl v7 (Bk ++ preE q sq qn vn 4 ++ [kd] ++ bl (xk.extract q xs)) xv (by rfl) (by rfl) HO7 HB7 HB7.size (by rw [List.length_append, List.length_append, HLI.out, bl_length, HVN.out]; exact out_le3 li xs vn _ hli2 hxk hxv HSS.out) ?_; intro v8 w8 HO8 HB8 hg8 hat8; have HOt4 := HOt3.apart D7 hg8; have D8 := Dis.step D7 hat8 HOt3))
              go_roundw
              case rel =>
                refine ⟨k + 1, hlt, by go_num, ?_, ?_, D8, HB8⟩
                · rw [HEL.out]
                  have e : entB q (xk, (qn : Int), (kd.toNat : Int), xv) = preE q sq qn vn 4 ++ [kd] ++ bl (xk.extract q xs) ++ bl xv := by
                    rw [HSL.out]
                    unfold entB preE
                    simp only [HXS.out, HVN.out, HSQ.out, Int.toNat_natCast, UInt8.ofNat_toNat]
                  rw [e]
                  simpa only [List.append_assoc] using HO8
                · rw [HTZ.out]; exact HOt4
              case measure =>
                simp only [intOf, Int.toNat_natCast]
                first | exact meas_lt n k hlt | (simp [intOf]; omega)
      · obtain rfl : k = n := Nat.le_antisymm hk (Nat.not_lt.1 hlt)
        have hlb := entsB_length l HO_.out k (by rw [HN.out]; exact Nat.le_refl _)
        have hltl := tailB_length l k
        have hlk := HN.out
        have hbk : blkB l = entsB l k ++ tailB l k ++ [UInt8.ofNat ((tailB l k).length / 2)] := by rw [blkB, hlk]
        obtain ⟨lb, hlbe⟩ : ∃ lb, (entsB l k).length = lb := ⟨_, rfl⟩
        obtain ⟨lt, hlte⟩ : ∃ lt, (tailB l k).length = lt := ⟨_, rfl⟩
        rw [hlte] at hbk hltl
        rw [hlbe] at hlb
        have hlt2 : lt ≤ 64 := by omega
        have hlb2 : lb ≤ 41536 := by omega
        have hd2 : (lt : Int) / 2 = ((UInt8.ofNat (lt / 2)).toNat : Int) := by rw [UInt8.toNat_ofNat']; omega
        have hd3 : (lt : Int).tdiv 2 = ((UInt8.ofNat (lt / 2)).toNat : Int) := by rw [UInt8.toNat_ofNat', Int.tdiv_eq_ediv_of_nonneg (by omega)]; omega
        obtain ⟨t, ht⟩ : ∃ t, UInt8.ofNat (lt / 2) = t := ⟨_, rfl⟩
        rw [ht] at hd2 hd3 hbk
        have wt := wrap_u8n t
        generalize entsB l k = Bk at *
        generalize tailB l k = Tk at *
        have HBK := hide hbk
        have HLB := hide hlbe
        have HLT := hide hlte
        have hlen : (blkB l).length = lb + lt + 1 := by rw [hbk, List.length_append, List.length_append, hlbe, hlte]; rfl
        have hGd := fun A c W (h : RdB W A c (blkB l)) => rGuard_any A c (blkB l) W h (by omega)
        have HLEN := hide hlen
        rw [hlbe] at HOb ⊢
        rw [hlte] at HOt ⊢
        clear hlb hltl hbk hlbe hlte ht hlen hlk hrb hrt
        go_wp2_with (first | (at_builtin; refine app_row (w0 := w) (W := wo) w.heap.size rfl (.tmp 107) (.tmp 108) rfl (.slice Ab lb cb) Bk Tk At ct (by rfl) (by show _ = Value.slice At Tk.length ct; rw [HLT.out]; rfl) HOb HOt.rdl HB HB.size (by rw [HLB.out, HLT.out]; omega) ?_; intro v6 w6 HO6 HB6 hg6 hat6; have bK := below_alloc w6 (.cells #[.int .u8 (t.toNat : Int)] 5); have HO7 := HO6.below bK; have HB7 := HB6.alloc HB6.size (.cells #[.int .u8 (t.toNat : Int)] 5)) | (at_builtin; refine app_row (w0 := w) (W := w6.alloc (.cells #[.int .u8 (t.toNat : Int)] 5)) w.heap.size rfl (.tmp 110) (.tmp 115) rfl v6 (Bk ++ Tk) [t] (some ⟨w6.heap.size, 0, none⟩) 1 (by rfl) (by rfl) HO7 (RdB_lit [t] _ #[.int .u8 (t.toNat : Int)] 5 (0, 0) _ rfl rfl (by show 1 ≤ 9223372036854775807; decide)) HB7 HB7.size (by rw [List.length_append, HLB.out, HLT.out]; show lb + lt + 1 ≤ _; omega) ?_; intro v8 w8 HO8 HB8 hg8 hat8; rw [← HBK.out] at HO8; obtain ⟨A8, c8, hv8, hr8⟩ := HO8.rd; subst hv8) | (go_at_call 36; (refine (hGd _ _ _ hr8).mono ?_); rintro e w9 ⟨v9, rfl, HO9, HB9⟩))
        go_ret2
        exact ⟨_, rfl, HO9.lower HB8.size, HB8.trans (HB9.mono HB8.size)⟩
  · have hX : blkX l = [] := by rw [blkX, if_neg hz]
    rw [hX]
    generalize chkE l = z at *
    go_enter Try.func20, Try.ntmps20
    go_wp2_with (first | (go_at_call 24; (with_reducible refine hC.mono ?_); rintro e w1 ⟨rfl, HB1⟩))
    go_ret2
    exact ⟨_, rfl, OwB.zero _ _, HB1⟩
end Go.Proofs.Ytfclmkbhfpjhjaa
end

section
/- Block: the walks of both Decodes. -/
namespace Go.Proofs.Ytfclmkbhfpjhjaa
open Go.RowKit Go.Proofs.YtfclmkbhfpjhjaaW.PrintWords
set_option linter.unusedVariables false

theorem rdEs_len (f : Nat) : ∀ (key b : List UInt8) (l : List Ent), rdEs f key b = some l → l.length ≤ f := by
  induction f with
  | zero => intro key b l h; rw [rdEs] at h; injection h with h; subst h; simp
  | succ f ih =>
    intro key b l h
    rw [rdEs] at h
    split at h
    · injection h with h; subst h; simp
    · split at h
      · cases h
      · next x r _ =>
        rw [Option.map_eq_some_iff] at h
        obtain ⟨l', h1, rfl⟩ := h
        have := ih _ _ _ h1
        rw [List.length_cons]; omega
theorem toldE_len (b : List UInt8) : (toldE b).length ≤ 65 := by
  unfold toldE
  split
  · simp
  · split
    · simp
    · cases h : rdEs 65 [] (b.take (b.length - 1 - 2 * (b.getD (b.length - 1) 0).toNat)) with
      | none => simp
      | some l => exact rdEs_len _ _ _ _ h
theorem bare_le (b : List UInt8) : (bare b).length ≤ b.length := by
  unfold bare
  split
  · rw [List.length_take]; omega
  · simp
theorem strB_same (xs ys : List UInt8) : ((strB xs).toList == (strB ys).toList) = decide (xs = ys) := by
  rw [same_bl]
  by_cases h : xs = ys
  · rw [decide_eq_true h, decide_eq_true (by rw [h])]
  · rw [decide_eq_false h, decide_eq_false (fun e => h (by simpa [bl, strB] using e))]
set_option maxRecDepth 100000 in
set_option maxHeartbeats 800000 in
theorem Equal_any (A B : Option Addr) (c d n m : Nat) (xs ys : List UInt8) (w : World) (hn : xs.length = n) (hm : ys.length = m) (hx : RdB w A c xs) (hy : RdB w B d ys) :
    Calls Try.prog 31 #[.slice A n c, .slice B m d] w fun e w' => e = .returned (.bool (decide (xs = ys))) ∧ Below w.heap.size w w' := by
  subst hn
  subst hm
  have c1 := hx.toStr (P := Try.prog) 23 5 9 Try.underlying23 Try.underlying5 Try.underlying9
  have c2 := hy.toStr (P := Try.prog) 23 5 9 Try.underlying23 Try.underlying5 Try.underlying9
  have hs := strB_same xs ys
  go_enter Try.func31, Try.ntmps31
  go_wp2
  go_ret
  exact ⟨rfl, Below.refl _ _⟩
set_option maxRecDepth 100000 in
set_option maxHeartbeats 1600000 in
theorem Decode_any (A : Option Addr) (c n : Nat) (b : List UInt8) (w : World) (hn : b.length = n) (hx : RdB w A c b) (hl : n ≤ 140737488355328) :
    Calls Try.prog 12 #[.slice A n c] w fun e w' => ∃ v, e = .returned (.tuple #[v, .int .i64 (unE b)]) ∧ OwE w' w.heap.size v (unL b) ∧ Below w.heap.size w w' := by
  subst hn
  have hB := Bare_all A c b w hx hl
  have hun : unE b = if bareNum b ≠ 0 then bareNum b else if chkE (toldE (bare b)) = 0 ∧ blkX (toldE (bare b)) = b then 0 else 21 := rfl
  have hul : unL b = if unE b = 0 then toldE (bare b) else [] := rfl
  have hbl := bare_le b
  have hT := fun A c W (h : RdB W A c (bare b)) => told_any A c (bare b) W h (Nat.le_trans hbl hl)
  have htl := toldE_len (bare b)
  have hE := fun A c W (h : RdE W A c (toldE (bare b))) => Encode_any A c _ (toldE (bare b)) W rfl h (by omega)
  obtain ⟨n, hn⟩ : ∃ n, b.length = n := ⟨_, rfl⟩
  have HN := hide hn
  rw [hn] at hB hl ⊢
  by_cases h0 : bareNum b = 0
  · rw [if_neg (fun h => h h0)] at hun
    rw [h0] at hB
    generalize bare b = x at *
    generalize toldE x = L at *
    obtain ⟨nx, hnx⟩ : ∃ nx, x.length = nx := ⟨_, rfl⟩
    obtain ⟨nL, hnL⟩ : ∃ nL, L.length = nL := ⟨_, rfl⟩
    have HNX := hide hnx
    have HNL := hide hnL
    rw [hnx] at hT
    rw [hnL] at hE
    clear hn h0 hnx hnL htl hbl
    by_cases h1 : chkE L = 0
    · rw [h1] at hE
      by_cases h2 : blkX L = b
      · rw [if_pos ⟨h1, h2⟩] at hun
        rw [hun, if_pos rfl] at hul
        rw [hun, hul]
        have hQ := fun A B c d W (h : RdB W A c b) (h' : RdB W B d b) => Equal_any A B c d n n b b W HN.out HN.out h h'
        simp only [decide_true] at hQ
        rw [h2] at hE
        clear hun hul h1 h2
        go_enter Try.func12, Try.ntmps12
        go_wp2_with (first | (go_at_call 29; (with_reducible refine hB.mono ?_); rintro e w1 ⟨v1, rfl, HO1, HB1⟩; obtain ⟨A1, c1, hv1, hr1⟩ := HO1.rd; rw [HNX.out] at hv1; subst hv1) | (go_at_call 30; (with_reducible refine (hT _ _ _ hr1).mono ?_); rintro e w2 ⟨v2, rfl, HO2, HB2⟩; obtain ⟨A2, c2, hv2, hr2⟩ := HO2.rd; rw [HNL.out] at hv2; subst hv2; have HC2 := HB1.trans (HB2.mono HB1.size)) | (go_at_call 10; (with_reducible refine (hE _ _ _ hr2).mono ?_); rintro e w3 ⟨v3, rfl, HO3, HB3⟩; obtain ⟨A3, c3, hv3, hr3⟩ := HO3.rd; rw [HN.out] at hv3; subst hv3; have HC3 := HC2.trans (HB3.mono HC2.size)) | (go_at_call 31; (with_reducible refine (hQ _ _ _ _ _ hr3 (hx.below HC3)).mono ?_); rintro e w4 ⟨rfl, HB4⟩; have HC4 := HC3.trans (HB4.mono HC3.size)))
        go_ret2
        exact ⟨_, rfl, ((HO2.lower HB1.size).below HB3).below HB4, HC4⟩
      · rw [if_neg (fun h => h2 h.2)] at hun
        rw [hun, if_neg (by decide)] at hul
        rw [hun, hul]
        generalize blkX L = y at *
        obtain ⟨ny, hny⟩ : ∃ ny, y.length = ny := ⟨_, rfl⟩
        have HNY := hide hny
        have hQ := fun A B c d W (h : RdB W A c y) (h' : RdB W B d b) => Equal_any A B c d ny n y b W HNY.out HN.out h h'
        simp only [h2, decide_false] at hQ
        clear hun hul h1 h2 hny
        go_enter Try.func12, Try.ntmps12
        go_wp2_with (first | (go_at_call 29; (with_reducible refine hB.mono ?_); rintro e w1 ⟨v1, rfl, HO1, HB1⟩; obtain ⟨A1, c1, hv1, hr1⟩ := HO1.rd; rw [HNX.out] at hv1; subst hv1) | (go_at_call 30; (with_reducible refine (hT _ _ _ hr1).mono ?_); rintro e w2 ⟨v2, rfl, HO2, HB2⟩; obtain ⟨A2, c2, hv2, hr2⟩ := HO2.rd; rw [HNL.out] at hv2; subst hv2; have HC2 := HB1.trans (HB2.mono HB1.size)) | (go_at_call 10; (with_reducible refine (hE _ _ _ hr2).mono ?_); rintro e w3 ⟨v3, rfl, HO3, HB3⟩; obtain ⟨A3, c3, hv3, hr3⟩ := HO3.rd; rw [HNY.out] at hv3; subst hv3; have HC3 := HC2.trans (HB3.mono HC2.size)) | (go_at_call 31; (with_reducible refine (hQ _ _ _ _ _ hr3 (hx.below HC3)).mono ?_); rintro e w4 ⟨rfl, HB4⟩; have HC4 := HC3.trans (HB4.mono HC3.size)))
        go_ret2
        exact ⟨_, rfl, Ow.zero _ _ _ _, HC4⟩
    · rw [if_neg (fun h => h1 h.1)] at hun
      rw [hun, if_neg (by decide)] at hul
      rw [hun, hul]
      generalize blkX L = y at *
      generalize chkE L = z at *
      clear hun hul
      go_enter Try.func12, Try.ntmps12
      go_wp2_with (first | (go_at_call 29; (with_reducible refine hB.mono ?_); rintro e w1 ⟨v1, rfl, HO1, HB1⟩; obtain ⟨A1, c1, hv1, hr1⟩ := HO1.rd; rw [HNX.out] at hv1; subst hv1) | (go_at_call 30; (with_reducible refine (hT _ _ _ hr1).mono ?_); rintro e w2 ⟨v2, rfl, HO2, HB2⟩; obtain ⟨A2, c2, hv2, hr2⟩ := HO2.rd; rw [HNL.out] at hv2; subst hv2; have HC2 := HB1.trans (HB2.mono HB1.size)) | (go_at_call 10; (with_reducible refine (hE _ _ _ hr2).mono ?_); rintro e w3 ⟨v3, rfl, HO3, HB3⟩; have HC3 := HC2.trans (HB3.mono HC2.size)))
      go_ret2
      exact ⟨_, rfl, Ow.zero _ _ _ _, HC3⟩
  · rw [if_pos h0] at hun
    rw [hun] at hul
    rw [if_neg h0] at hul
    rw [hun, hul]
    generalize bareNum b = z at *
    clear hun hul hn hT hE htl hbl
    go_enter Try.func12, Try.ntmps12
    go_wp2_with (first | (go_at_call 29; (with_reducible refine hB.mono ?_); rintro e w1 ⟨v1, rfl, HO1, HB1⟩))
    go_ret2
    exact ⟨_, rfl, Ow.zero _ _ _ _, HB1⟩
end Go.Proofs.Ytfclmkbhfpjhjaa
end

section
/- Block: the walk of the reference's Decode. -/
namespace Go.Proofs.Ytfclmkbhfpjhjaa
open Go.RowKit Go.Proofs.YtfclmkbhfpjhjaaW.PrintWords
set_option linter.unusedVariables false

set_option maxRecDepth 100000 in
set_option maxHeartbeats 1600000 in
theorem rDecode_any (A : Option Addr) (c n : Nat) (b : List UInt8) (w : World) (hn : b.length = n) (hx : RdB w A c b) (hl : n ≤ 140737488355328) :
    Calls Try.prog 17 #[.slice A n c] w fun e w' => ∃ v, e = .returned (.tuple #[v, .int .i64 (unE b)]) ∧ OwE w' w.heap.size v (unL b) ∧ Below w.heap.size w w' := by
  subst hn
  have hB := rBare_all A c b w hx hl
  have hun : unE b = if bareNum b ≠ 0 then bareNum b else if chkE (toldE (bare b)) = 0 ∧ blkX (toldE (bare b)) = b then 0 else 21 := rfl
  have hul : unL b = if unE b = 0 then toldE (bare b) else [] := rfl
  have hbl := bare_le b
  have hT := fun A c W (h : RdB W A c (bare b)) => rtold_any A c (bare b) W h (Nat.le_trans hbl hl)
  have htl := toldE_len (bare b)
  have hE := fun A c W (h : RdE W A c (toldE (bare b))) => rEncode_any A c _ (toldE (bare b)) W rfl h (by omega)
  obtain ⟨n, hn⟩ : ∃ n, b.length = n := ⟨_, rfl⟩
  have HN := hide hn
  rw [hn] at hB hl ⊢
  by_cases h0 : bareNum b = 0
  · rw [if_neg (fun h => h h0)] at hun
    rw [h0] at hB
    generalize bare b = x at *
    generalize toldE x = L at *
    obtain ⟨nx, hnx⟩ : ∃ nx, x.length = nx := ⟨_, rfl⟩
    obtain ⟨nL, hnL⟩ : ∃ nL, L.length = nL := ⟨_, rfl⟩
    have HNX := hide hnx
    have HNL := hide hnL
    rw [hnx] at hT
    rw [hnL] at hE
    clear hn h0 hnx hnL htl hbl
    by_cases h1 : chkE L = 0
    · rw [h1] at hE
      by_cases h2 : blkX L = b
      · rw [if_pos ⟨h1, h2⟩] at hun
        rw [hun, if_pos rfl] at hul
        rw [hun, hul]
        have hQ : ((strB b).toList == (strB b).toList) = true := by rw [strB_same]; exact decide_eq_true rfl
        rw [h2] at hE
        clear hun hul h1 h2
        go_enter Try.func17, Try.ntmps17
        go_wp2_with (first | (go_at_call 32; (with_reducible refine hB.mono ?_); rintro e w1 ⟨v1, rfl, HO1, HB1⟩; obtain ⟨A1, c1, hv1, hr1⟩ := HO1.rd; rw [HNX.out] at hv1; subst hv1) | (go_at_call 33; (with_reducible refine (hT _ _ _ hr1).mono ?_); rintro e w2 ⟨v2, rfl, HO2, HB2⟩; obtain ⟨A2, c2, hv2, hr2⟩ := HO2.rd; rw [HNL.out] at hv2; subst hv2; have HC2 := HB1.trans (HB2.mono HB1.size)) | (go_at_call 20; (with_reducible refine (hE _ _ _ hr2).mono ?_); rintro e w3 ⟨v3, rfl, HO3, HB3⟩; obtain ⟨A3, c3, hv3, hr3⟩ := HO3.rd; rw [HN.out] at hv3; subst hv3; have HC3 := HC2.trans (HB3.mono HC2.size); have cv3 := hr3.toStr (P := Try.prog) 23 5 9 Try.underlying23 Try.underlying5 Try.underlying9; rw [HN.out] at cv3; have cvb := (hx.below HC3).toStr (P := Try.prog) 23 5 9 Try.underlying23 Try.underlying5 Try.underlying9; rw [HN.out] at cvb))
        go_ret2
        exact ⟨_, rfl, (HO2.lower HB1.size).below HB3, HC3⟩
      · rw [if_neg (fun h => h2 h.2)] at hun
        rw [hun, if_neg (by decide)] at hul
        rw [hun, hul]
        generalize blkX L = y at *
        obtain ⟨ny, hny⟩ : ∃ ny, y.length = ny := ⟨_, rfl⟩
        have HNY := hide hny
        have hQ : ((strB y).toList == (strB b).toList) = false := by rw [strB_same]; exact decide_eq_false h2
        clear hun hul h1 h2 hny
        go_enter Try.func17, Try.ntmps17
        go_wp2_with (first | (go_at_call 32; (with_reducible refine hB.mono ?_); rintro e w1 ⟨v1, rfl, HO1, HB1⟩; obtain ⟨A1, c1, hv1, hr1⟩ := HO1.rd; rw [HNX.out] at hv1; subst hv1) | (go_at_call 33; (with_reducible refine (hT _ _ _ hr1).mono ?_); rintro e w2 ⟨v2, rfl, HO2, HB2⟩; obtain ⟨A2, c2, hv2, hr2⟩ := HO2.rd; rw [HNL.out] at hv2; subst hv2; have HC2 := HB1.trans (HB2.mono HB1.size)) | (go_at_call 20; (with_reducible refine (hE _ _ _ hr2).mono ?_); rintro e w3 ⟨v3, rfl, HO3, HB3⟩; obtain ⟨A3, c3, hv3, hr3⟩ := HO3.rd; rw [HNY.out] at hv3; subst hv3; have HC3 := HC2.trans (HB3.mono HC2.size); have cv3 := hr3.toStr (P := Try.prog) 23 5 9 Try.underlying23 Try.underlying5 Try.underlying9; rw [HNY.out] at cv3; have cvb := (hx.below HC3).toStr (P := Try.prog) 23 5 9 Try.underlying23 Try.underlying5 Try.underlying9; rw [HN.out] at cvb))
        go_ret2
        exact ⟨_, rfl, Ow.zero _ _ _ _, HC3⟩
    · rw [if_neg (fun h => h1 h.1)] at hun
      rw [hun, if_neg (by decide)] at hul
      rw [hun, hul]
      generalize blkX L = y at *
      generalize chkE L = z at *
      clear hun hul
      go_enter Try.func17, Try.ntmps17
      go_wp2_with (first | (go_at_call 32; (with_reducible refine hB.mono ?_); rintro e w1 ⟨v1, rfl, HO1, HB1⟩; obtain ⟨A1, c1, hv1, hr1⟩ := HO1.rd; rw [HNX.out] at hv1; subst hv1) | (go_at_call 33; (with_reducible refine (hT _ _ _ hr1).mono ?_); rintro e w2 ⟨v2, rfl, HO2, HB2⟩; obtain ⟨A2, c2, hv2, hr2⟩ := HO2.rd; rw [HNL.out] at hv2; subst hv2; have HC2 := HB1.trans (HB2.mono HB1.size)) | (go_at_call 20; (with_reducible refine (hE _ _ _ hr2).mono ?_); rintro e w3 ⟨v3, rfl, HO3, HB3⟩; have HC3 := HC2.trans (HB3.mono HC2.size)))
      go_ret2
      exact ⟨_, rfl, Ow.zero _ _ _ _, HC3⟩
  · rw [if_pos h0] at hun
    rw [hun] at hul
    rw [if_neg h0] at hul
    rw [hun, hul]
    generalize bareNum b = z at *
    clear hun hul hn hT hE htl hbl
    go_enter Try.func17, Try.ntmps17
    go_wp2_with (first | (go_at_call 32; (with_reducible refine hB.mono ?_); rintro e w1 ⟨v1, rfl, HO1, HB1⟩))
    go_ret2
    exact ⟨_, rfl, Ow.zero _ _ _ _, HB1⟩
end Go.Proofs.Ytfclmkbhfpjhjaa
end

section
/- The walk of Spoil. -/
namespace Go.Proofs.Ytfclmkbhfpjhjaa
open Go.RowKit Go.Proofs.YtfclmkbhfpjhjaaW.PrintWords

set_option maxRecDepth 100000 in
set_option maxHeartbeats 400000 in
theorem Spoil_any (base : Nat) (v : Value) (xs : List UInt8) (w : World) (hr : OwB w base v xs) :
    Calls Try.prog 18 #[v] w fun e w' => e = .returned (.tuple #[]) ∧ OwB w' base v (flip xs) ∧ w.grownBy w' v.ownBlock := by
  obtain ⟨A, c, rfl, hrd⟩ := hr.rd
  have hm := hrd.max
  clear hrd
  go_enter Try.func18, Try.ntmps18
  go_wp2
  go_loopw [2] (fun i wr => ∃ k : Nat, k ≤ xs.length ∧ i = .int .i64 k ∧ OwB wr base (.slice A xs.length c) (flip (xs.take k) ++ xs.drop k) ∧ w.grownBy wr (Value.slice A xs.length c).ownBlock) (fun i _ => xs.length - (intOf i).toNat)
  case atStart => exact ⟨0, by omega, rfl, hr, World.grownBy.refl _ _⟩
  case round =>
    obtain ⟨k, hk, rfl, HO, HG⟩ := hrel
    by_cases hlt : k < xs.length
    · have hl : (flip (xs.take k) ++ xs.drop k).length = xs.length := by simp [flip]; omega
      have HO' := HO
      unfold OwB at HO'
      rw [hl] at HO'
      obtain ⟨g, cap, hv, hgb, hgl⟩ := HO'.form (by omega)
      obtain ⟨rfl, rfl⟩ : A = some ⟨g, 0, none⟩ ∧ c = cap := by injection hv with h1 _ h3; exact ⟨h1, h3⟩
      have hat := own_at_of (d := (0 : UInt8)) HO' k (by omega) (by omega)
      have hst := own_store_of HO' k (~~~ (xs.getD k 0))
      have hkk : ((k : Int)).toNat = k := by omega
      have hrd : rdOf (0 : UInt8) (flip (xs.take k) ++ xs.drop k) k = xs.getD k 0 := by rw [rdOf, hkk, flip_get xs k hlt]
      have hset := flip_set xs k hlt
      rw [hrd, hkk] at hat
      rw [hkk, hset] at hst
      obtain ⟨hcell, hfr⟩ := hat
      unfold eu8 at hcell hst
      obtain ⟨hst, hgr⟩ := hst
      have HS := hide hst
      have HR := hide hgr
      obtain ⟨x, hx⟩ : ∃ x, xs.getD k 0 = x := ⟨_, rfl⟩
      rw [hx] at hcell HS HR
      clear hst hgr hrd hset hkk hl HO' hx
      have HN := hide (not_u8 x)
      go_wp2
      go_roundw
      case rel => exact ⟨k + 1, by omega, by go_num, by rw [HN.out]; unfold OwB; rw [show (flip (List.take (k + 1) xs) ++ List.drop (k + 1) xs).length = xs.length by simp [flip]; omega]; exact HS.out, by rw [HN.out]; exact World.grownBy.trans HG HR.out⟩
      case measure => simp [intOf]; omega
    · obtain rfl : k = xs.length := by omega
      go_wp2
      go_end0
      exact ⟨rfl, by simpa using HO, HG⟩
end Go.Proofs.Ytfclmkbhfpjhjaa
end

section
/- Block: the page's example; numbers of errors. -/
namespace Go.Proofs.Ytfclmkbhfpjhjaa
open Go.RowKit Go.Proofs.YtfclmkbhfpjhjaaW.PrintWords
set_option linter.unusedVariables false

theorem num_any (n : Int) (w : World) : Calls Try.prog 11 #[.int .i64 n] w fun e w' => e = .returned (.int .i64 n) ∧ w = w' := by
  go_enter Try.func11, Try.ntmps11
  go_wp2
  go_ret
  exact ⟨rfl, rfl⟩
def exA : Ent := (⟨#[97, 98]⟩, 2, 1, ⟨#[]⟩)
def exB : Ent := (⟨#[97, 98, 99]⟩, 1, 1, ⟨#[]⟩)
theorem ex_chk : chkE [exA, exB] = 0 := by decide
theorem ex_len : (blkB [exA, exB]).length = 16 := by decide
theorem ex_7 : (blkB [exA, exB]).getD 7 0 = 2 := by decide
theorem ex_8 : (blkB [exA, exB]).getD 8 0 = 1 := by decide
theorem ex_blk : (blkX [exA, exB]).length = 20 ∧ (blkX [exA, exB]).getD 7 0 = 2 ∧ (blkX [exA, exB]).getD 8 0 = 1 := by
  have h : blkX [exA, exB] = guarded (blkB [exA, exB]) := by rw [blkX, if_pos ex_chk]
  have l := ex_len
  have g : ∀ j, j < 16 → (guarded (blkB [exA, exB])).getD j 0 = (blkB [exA, exB]).getD j 0 := by
    intro j hj
    rw [guarded, List.getD_eq_getElem?_getD, List.getElem?_append_left (by rw [l]; exact hj), ← List.getD_eq_getElem?_getD]
  rw [h]
  exact ⟨by rw [guarded_length, l], by rw [g 7 (by decide)]; exact ex_7, by rw [g 8 (by decide)]; exact ex_8⟩
theorem RdE_lit2 (x y : Ent) (w : World) : RdE (w.alloc (.cells #[.string x.1, .int .i64 x.2.1, .int .i64 x.2.2.1, .string x.2.2.2, .string y.1, .int .i64 y.2.1, .int .i64 y.2.2.1, .string y.2.2.2] 36)) (some ⟨w.heap.size, 0, none⟩) 2 [x, y] := by
  refine ⟨Nat.le_refl _, rfl, by show 2 ≤ 9223372036854775807; decide, fun _ => ⟨_, rfl, fun j p hj => ?_⟩⟩
  have hj2 : j = 0 ∨ j = 1 := by
    obtain ⟨h, _⟩ := List.getElem?_eq_some_iff.1 hj
    simp at h; omega
  rcases hj2 with rfl | rfl
  · have hp : p = x := by simpa using hj.symm
    subst hp
    refine ⟨_, rfl, kEnt_mk _ p, fun i u hu => ?_⟩
    rw [add_plain, World.cell?_alloc_mark]
    match i, hu with
    | 0, hu => exact hu
    | 1, hu => exact hu
    | 2, hu => exact hu
    | 3, hu => exact hu
    | i + 4, hu => simp at hu
  · have hp : p = y := by simpa using hj.symm
    subst hp
    refine ⟨_, rfl, kEnt_mk _ p, fun i u hu => ?_⟩
    rw [add_plain, World.cell?_alloc_mark]
    match i, hu with
    | 0, hu => exact hu
    | 1, hu => exact hu
    | 2, hu => exact hu
    | 3, hu => exact hu
    | i + 4, hu => simp at hu
set_option maxRecDepth 100000 in
set_option maxHeartbeats 1600000 in
theorem alive_any (w : World) : Calls Try.prog 9 #[] w fun e w' => e = .returned (.bool true) ∧ Below w.heap.size w w' := by
  obtain ⟨e1, e2, e3⟩ := ex_blk
  obtain ⟨e4, e5⟩ := un_blk _ ex_chk
  have hE := Encode_any (some ⟨w.heap.size, 0, none⟩) 2 2 [exA, exB] _ rfl (RdE_lit2 exA exB w) (by decide)
  rw [ex_chk] at hE
  have hD := fun A c W (h : RdB W A c (blkX [exA, exB])) => Decode_any A c 20 (blkX [exA, exB]) W e1 h (by decide)
  rw [e4, e5] at hD
  have bA := below_alloc w (.cells #[.string exA.1, .int .i64 exA.2.1, .int .i64 exA.2.2.1, .string exA.2.2.2, .string exB.1, .int .i64 exB.2.1, .int .i64 exB.2.2.1, .string exB.2.2.2] 36)
  have hb : exB.1 = ⟨#[97, 98, 99]⟩ := rfl
  have hse : ((⟨#[97, 98, 99]⟩ : ByteArray).toList == (⟨#[97, 98, 99]⟩ : ByteArray).toList) = true := by simp
  generalize blkX [exA, exB] = x at *
  go_enter Try.func9, Try.ntmps9
  go_wp2_with (first | (go_at_call 10; refine hE.mono ?_; rintro e w1 ⟨v1, rfl, HO1, HB1⟩; obtain ⟨A1, c1, hv1, hr1⟩ := HO1.rd; rw [e1] at hv1; subst hv1; have HC1 := bA.trans (HB1.mono bA.size)) | (go_at_call 12; (with_reducible refine (hD _ _ _ hr1).mono ?_); rintro e w2 ⟨v2, rfl, HO2, HB2⟩; obtain ⟨A2, c2, hv2, hr2⟩ := HO2.rd; subst hv2; have HC2 := HC1.trans (HB2.mono HC1.size); obtain ⟨ad2, rfl, z0, z1, z2, z3⟩ := RdE.at4 hr2 1 (by decide); have z0' : w2.cell? ⟨ad2.block, ad2.off + 4, none⟩ = some (.string ⟨#[97, 98, 99]⟩) := z0; obtain ⟨ad1, rfl, y7⟩ := (hr1.below HB2).at_ 7 (by rw [e1]; decide); obtain ⟨ad1', he, y8⟩ := (hr1.below HB2).at_ 8 (by rw [e1]; decide); cases he; rw [e2] at y7; rw [e3] at y8; have y7' : w2.cell? ⟨ad1.block, ad1.off + 7, none⟩ = some (.int .u8 2) := y7; have y8' : w2.cell? ⟨ad1.block, ad1.off + 8, none⟩ = some (.int .u8 1) := y8) | (go_at_call 11; refine (num_any _ _).mono ?_; rintro e w' ⟨rfl, rfl⟩))
  go_ret
  exact ⟨rfl, HC2⟩
end Go.Proofs.Ytfclmkbhfpjhjaa
end
