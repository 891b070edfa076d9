/- The walk of BloomOwn. -/
import Derived.Test.YtmnecbmneljhkaaBlO
import Derived.Test.YtmnecbmneljhkaaSpoil
namespace Go.Proofs.Ytmnecbmneljhkaa
open Go.RowKit Go.Shelf Go.Proofs.YtmnecbmneljhkaaW.PrintWords
set_option linter.unusedVariables false

theorem decX_length (b : List UInt8) : (decX b).length ≤ b.length := by
  unfold decX
  split
  · simp
  · simp
theorem enc_dec (b : List UInt8) : (encE (decK b) (decX b).length = 0 ∧ decE b = 0) ∨ (encE (decK b) (decX b).length = 9 ∧ (decE b = 8 ∨ decE b = 9)) := by
  by_cases h : decOk b
  · have h1 : okF (decK b) (decX b).length := by
      rw [decK, if_pos h, decX, if_pos h, List.length_drop]
      exact h.2
    exact .inl ⟨by rw [encE, if_pos h1], by rw [decE, if_pos h]⟩
  · have h1 : ¬ okF (decK b) (decX b).length := by
      rw [decK, if_neg h]
      exact fun e => by have := e.1; omega
    refine .inr ⟨by rw [encE, if_neg h1], ?_⟩
    rw [decE, if_neg h]
    split
    · exact .inl rfl
    · exact .inr rfl
/-- a filter in a variable -/
def Bx (w : World) (b : Nat) (K : Int) (s : Value) (ty : TypeId) : Prop := w.heap[b]? = some (.cells #[.int .i64 K, s] ty)
theorem Bx.below {w w1 : World} {b : Nat} {K : Int} {s : Value} {ty : TypeId} (h : Bx w b K s ty) (hb : Below w.heap.size w w1) : Bx w1 b K s ty := (hb.block b (Array.getElem?_eq_some_iff.1 h).1).trans h
theorem Bx.lt {w : World} {b : Nat} {K : Int} {s : Value} {ty : TypeId} (h : Bx w b K s ty) : b < w.heap.size := (Array.getElem?_eq_some_iff.1 h).1
theorem Bx.grown {w w1 : World} {b : Nat} {K : Int} {s : Value} {ty : TypeId} (h : Bx w b K s ty) {row : Option Nat} (hg : w.grownBy w1 row) (hne : ∀ k, row = some k → k < b) : Bx w1 b K s ty :=
  (hg.block b h.lt (fun e => by have := hne b e.symm; omega)).trans h
theorem Bx.new (w : World) (K : Int) (s : Value) (ty : TypeId) : Bx (w.alloc (.cells #[.int .i64 K, s] ty)) w.heap.size K s ty := heap_alloc_new w _
theorem Bx.read {w : World} {b : Nat} {K : Int} {s : Value} {ty : TypeId} (h : Bx w b K s ty) : w.cell? ⟨b, 0, none⟩ = some (.int .i64 K) ∧ w.cell? ⟨b, 1, none⟩ = some s ∧ w.frozen? ⟨b, 0, none⟩ = false ∧ w.frozen? ⟨b, 1, none⟩ = false := two_read h
theorem below_alloc (w : World) (o : Obj) : Below w.heap.size w (w.alloc o) := (Below.refl _ _).alloc (Nat.le_refl _) _
theorem OwB.rdl {w : World} {base : Nat} {A : Option Addr} {n c : Nat} {xs : List UInt8} (h : OwB w base (.slice A n c) xs) : RdB w A c xs := by
  obtain ⟨A', c', hv, hr⟩ := h.rd
  injection hv with h1 _ h3
  subst h1
  subst h3
  exact hr
set_option maxHeartbeats 1600000 in
theorem own_walk (A : Option Addr) (ca : Nat) (xs : List UInt8) (w : World) (hx : RdB w A ca xs) (lx : xs.length ≤ 140737488351232) :
    Calls Try.prog 8 #[.slice A xs.length ca] w fun e w' => e = .returned (.bool true) ∧ Below w.heap.size w w' := by
  have lx' : xs.length ≤ 140737488355328 := by omega
  have hD := fun A c W (h : RdB W A c xs) => Decode_any A c xs W h lx'
  have hR := fun A c W (h : RdB W A c xs) => rDecode_any A c xs W h lx'
  have hE := fun A c W (h : RdB W A c (decX xs)) => Encode_any (decK xs) A c (decX xs) W h
  have hS := fun A B c d W (h : RdB W A c (decX xs)) (h' : RdB W B d (decX xs)) => same_any (decK xs) (decK xs) A B _ _ c d (decX xs) (decX xs) W rfl rfl h h'
  simp only [and_self, decide_true] at hS
  have hed := enc_dec xs
  have hdl := decX_length xs
  generalize encE (decK xs) (decX xs).length = F at *
  generalize decK xs = K at *
  generalize decE xs = G at *
  generalize decX xs = X at *
  obtain ⟨n, hn⟩ : ∃ n, X.length = n := ⟨_, rfl⟩
  have HNN := hide hn
  simp only [hn] at hD hR hE hS
  unfold fil at *
  clear hn
  have hfin : (F = 0 ∧ G = 0) ∨ (¬ F = 0 ∧ ¬ G = 0) := by omega
  clear hed
  rcases hfin with ⟨rfl, rfl⟩ | ⟨hF, hG⟩
  all_goals (
    go_enter Try.func8, Try.ntmps8
    go_wp2_with (first | (go_at_call 20; refine (alive_any _).mono ?_; rintro e w1 ⟨rfl, HB1⟩; have hx1 := hx.below HB1) | (go_at_call 21; refine (CopyBytes_any A ca xs w1 hx1 lx').mono ?_; rintro e w2 ⟨v2, rfl, HO2, HB2⟩; obtain ⟨A2, c2, rfl, hr2⟩ := HO2.rd; have hx2 := hx1.below HB2) | (go_at_call 24; refine (hD _ _ _ hr2).mono ?_; rintro e w3 ⟨A3, c3, rfl, HO3, HB3⟩; have hb3 := below_alloc w3 (.cells #[.int .i64 K, .slice A3 n c3] 27); have hx3 := (hx2.below HB3).below hb3; have X3 := Bx.new w3 K (.slice A3 n c3) 27; have HO23 := (HO2.below HB3).below hb3; have HO33 := HO3.below hb3) | (go_at_call 25; refine (hR _ _ _ hx3).mono ?_; rintro e w4 ⟨A4, c4, rfl, HO4, HB4⟩; have hb4 := below_alloc w4 (.cells #[.int .i64 K, .slice A4 n c4] 25); have X4 := Bx.new w4 K (.slice A4 n c4) 25; have X34 := (X3.below HB4).below hb4; have HO24 := (HO23.below HB4).below hb4; have HO34 := (HO33.below HB4).below hb4; have HO44 := HO4.below hb4) | (go_at_call 27; (with_reducible refine (Spoil_any _ _ xs _ HO24).mono ?_); rintro e w6 ⟨rfl, HO26, HG6⟩; have z2 := HB2.size; have z3 := HB3.size; have z4 := HB4.size; have z33 := hb3.size; have z44 := hb4.size; have HO36 := HO34.other HO24 HO2.lt HG6; have HO46 := HO44.other HO24 (fun k hk => Nat.lt_of_lt_of_le (HO2.lt k hk) (by omega)) HG6; have X36 := X34.grown HG6 (fun k hk => Nat.lt_of_lt_of_le (HO2.lt k hk) z3); have X46 := X4.grown HG6 (fun k hk => Nat.lt_of_lt_of_le (HO2.lt k hk) (by omega)); have BB := HO24.grown ((((HB2.trans (HB3.mono z2)).trans (hb3.mono (by omega))).trans (HB4.mono (by omega))).trans (hb4.mono (by omega))) (by omega) HG6; have BB6 := HB1.trans (BB.mono HB1.size); obtain ⟨r0, r1, r2, r3⟩ := X36.read; obtain ⟨s0, s1, s2, s3⟩ := X46.read) | (go_at_call 18; refine (num_any _ _).mono ?_; rintro e w7 ⟨rfl, rfl⟩) | (go_at_call 17; (with_reducible refine (hS _ _ _ _ w6 HO36.rdl HO46.rdl).mono ?_); rintro e w7 ⟨rfl, HB7⟩; have X37 := X36.below HB7; have X47 := X46.below HB7; have HO37 := HO36.below HB7; have HO47 := HO46.below HB7; have BB7 := BB6.trans (HB7.mono BB6.size); obtain ⟨r0, r1, r2, r3⟩ := X37.read; obtain ⟨s0, s1, s2, s3⟩ := X47.read) | (go_at_call 22; refine (hE _ _ _ HO37.rdl).mono ?_; rintro e w8 ⟨v8, rfl, HO8, HB8⟩) | (go_at_call 27; (with_reducible refine (Spoil_any _ _ _ w8 HO8).mono ?_); rintro e w9 ⟨rfl, HO9, HG9⟩; have HB9 := HO8.grown HB8 HB8.size HG9; have X39 := X37.below HB9; have X49 := X47.below HB9; have HO39 := HO37.below HB9; have HO49 := HO47.below HB9; have BB9 := BB7.trans (HB9.mono BB7.size); obtain ⟨r0, r1, r2, r3⟩ := X39.read; obtain ⟨s0, s1, s2, s3⟩ := X49.read) | (go_at_call 17; (with_reducible refine (hS _ _ _ _ w9 HO39.rdl HO49.rdl).mono ?_); rintro e w10 ⟨rfl, HB10⟩; have BB10 := BB9.trans (HB10.mono BB9.size)))
    go_ret
    refine ⟨?_, BB10⟩
    first
    | rfl
    | (have hb : ((F == 0) == (G == 0)) = true := by
         rw [beq_eq_false_iff_ne.2 hF, beq_eq_false_iff_ne.2 hG]
         rfl
       exact congrArg (fun b => Ending.returned (Value.bool b)) hb))
end Go.Proofs.Ytmnecbmneljhkaa
