/- Bloom: the walk of Make. -/
import Derived.Test.YtmnecbmneljhkaaBlL
namespace Go.Proofs.Ytmnecbmneljhkaa
open Go.RowKit Go.Shelf Go.Proofs.YtmnecbmneljhkaaW.PrintWords
set_option linter.unusedVariables false
attribute [local go_sem] Oper.semAt_some

theorem max2_nat (k : IntKind) (m n : Nat) : Builtin.max2 (.int k (m : Int)) (.int k (n : Int)) = (pure (.int k ((max m n : Nat) : Int)) : Sem Value) := by
  show (pure (.int k (if (n : Int) > (m : Int) then (n : Int) else (m : Int))) : Sem Value) = _
  by_cases h : m < n
  · rw [if_pos (by omega), show max m n = n from Nat.max_eq_right (by omega)]
  · rw [if_neg (by omega), show max m n = m from Nat.max_eq_left (by omega)]
section
variable {F : Fence} {d : Nat} {P : Program} {ops : Array Oper} {rest : List Oper} {o : Oper} {a : Act} {Q : Exit → Act → World → Prop}
theorem wpIn_max2 {W : World} (hgd : o.guard = none) (x y : Operand) (t1 t2 : TypeId) (ho : o.op = .call { callee := .builtin .max, args := #[x, y], argTypes := #[t1, t2] }) (k : IntKind) (m n : Nat)
    (hx : a.eval x = .int k (m : Int)) (hy : a.eval y = .int k (n : Int)) (hk : wpListIn F d P ops Q rest (a.put o.dst (.int k ((max m n : Nat) : Int))) W) : wpListIn F d P ops Q (o :: rest) a W := by
  refine wpListIn_plain hgd fun K hK' => ?_
  unfold Oper.wpIn
  refine ⟨?_, ?_⟩
  · simp [Oper.about, ho, resolve, Target.leads, Sem.run_pure]
  · rw [Oper.semAt_plain F _ _ (by rw [ho]; intro c hc'; cases hc')]
    have e : (execOp a.eval o).run P W = .ok (.value (.int k ((max m n : Nat) : Int))) W := by
      unfold execOp
      simp only [ho, resolve, invoke, builtin, Sem.run_bind, Sem.run_pure, Result.andThen_ok, List.map_toArray, List.map_cons, List.map_nil, hx, hy, Builtin.max_, List.foldlM_cons, List.foldlM_nil, max2_nat]
    rw [e]
    exact hK' _ _ hk
theorem wpIn_min2 {W : World} (hgd : o.guard = none) (x y : Operand) (t1 t2 : TypeId) (ho : o.op = .call { callee := .builtin .min, args := #[x, y], argTypes := #[t1, t2] }) (k : IntKind) (m n : Nat)
    (hx : a.eval x = .int k (m : Int)) (hy : a.eval y = .int k (n : Int)) (hk : wpListIn F d P ops Q rest (a.put o.dst (.int k ((Nat.min m n : Nat) : Int))) W) : wpListIn F d P ops Q (o :: rest) a W := by
  refine wpListIn_plain hgd fun K hK' => ?_
  unfold Oper.wpIn
  refine ⟨?_, ?_⟩
  · simp [Oper.about, ho, resolve, Target.leads, Sem.run_pure]
  · rw [Oper.semAt_plain F _ _ (by rw [ho]; intro c hc'; cases hc')]
    have e : (execOp a.eval o).run P W = .ok (.value (.int k ((Nat.min m n : Nat) : Int))) W := by
      unfold execOp
      simp only [ho, resolve, invoke, builtin, Sem.run_bind, Sem.run_pure, Result.andThen_ok, List.map_toArray, List.map_cons, List.map_nil, hx, hy, Builtin.min_, List.foldlM_cons, List.foldlM_nil, min2_nat]
    rw [e]
    exact hK' _ _ hk
end
/-- between two keys, and between two places of one: what lies where -/
structure MInv (T : TypeId) (w W : World) (M : Nat) (N : Nat) (bits : List UInt8) (ds : List Nat) : Prop where
  below : Below w.heap.size w W
  res : W.heap[w.heap.size]? = some (.cells #[.int .i64 0, .slice none 0 0] T)
  fil : W.heap[w.heap.size + 1 + 1]? = some (.cells #[.int .i64 (M : Int), .slice (some ⟨w.heap.size + 1, 0, none⟩) N N] T)
  own : OwB W w.heap.size (.slice (some ⟨w.heap.size + 1, 0, none⟩) N N) bits
  nodup : ds.Nodup
  marks : ∀ D ∈ ds, w.heap.size + 3 ≤ D ∧ D < W.heap.size ∧ W.heap[D]? = some (.deferred (some []))
  size : w.heap.size + 3 ≤ W.heap.size
theorem MInv.move {T : TypeId} {w X Y : World} {M N c0 : Nat} {bits : List UInt8} {ds : List Nat} (h : MInv T w X M N bits ds) (hb : Below c0 X Y) (hc : w.heap.size + 3 ≤ c0) (hds : ∀ D ∈ ds, D < c0) : MInv T w Y M N bits ds :=
  ⟨h.below.trans (hb.mono (by omega)), (hb.block _ (by omega)).trans h.res, (hb.block _ (by omega)).trans h.fil,
    own_move h.own (fun k e => hb.block k (by simp [Value.ownBlock] at e; omega)), h.nodup,
    fun D hD => ⟨(h.marks D hD).1, Nat.lt_of_lt_of_le (h.marks D hD).2.1 hb.size, (hb.block D (hds D hD)).trans (h.marks D hD).2.2⟩, Nat.le_trans h.size hb.size⟩
theorem MInv.put {T : TypeId} {w X : World} {M N : Nat} {xs : List UInt8} {ds : List Nat} (h : MInv T w X M N xs ds) (hl : xs.length = N) (p q r : Nat) (hq : p / 8 = q) (hr : p % 8 = r) (hp : p < 8 * N) :
    ∃ (x : UInt8) (y : Nat), X.cell? ⟨w.heap.size + 1, q, none⟩ = some (.int .u8 (x.toNat : Int)) ∧ X.frozen? ⟨w.heap.size + 1, q, none⟩ = false ∧ bits .or .u8 (x.toNat : Int) ((2 ^ r : Nat) : Int) = (y : Int) ∧
      MInv T w (X.setCell ⟨w.heap.size + 1, q, none⟩ (.int .u8 (y : Int))) M N (setB xs p) ds := by
  have hr8 : r < 8 := by rw [← hr]; exact Nat.mod_lt _ (by decide)
  obtain ⟨g, cap, hv, hg1, hg2, hcel, hfro, hput⟩ := h.own.set_ q (by omega)
  rw [hl] at hv
  obtain ⟨rfl, rfl⟩ : w.heap.size + 1 = g ∧ N = cap := by
    injection hv with h1 h2 h3
    injection h1 with h1
    injection h1 with h1
    exact ⟨h1, h3⟩
  obtain ⟨x, hxx⟩ : ∃ x, xs.getD q 0 = x := ⟨_, rfl⟩
  rw [hxx] at hcel
  have hor := or_bit x r hr8
  obtain ⟨hput1, hput2⟩ := hput (x ||| UInt8.ofNat (2 ^ r))
  have hnew : xs.set q (x ||| UInt8.ofNat (2 ^ r)) = setB xs p := by rw [setB, hq, hr, hxx]
  rw [hnew] at hput1
  refine ⟨x, (x ||| UInt8.ofNat (2 ^ r)).toNat, hcel, hfro, hor, ?_⟩
  have hot : ∀ b v, b ≠ w.heap.size + 1 → (X.setCell ⟨w.heap.size + 1, q, none⟩ v).heap[b]? = X.heap[b]? := fun b v hb => Below.heap_setCell _ _ _ _ hb
  exact ⟨h.below.setCell (p := ⟨w.heap.size + 1, q, none⟩) (Nat.le_succ _) _, (hot _ _ (by omega)).trans h.res, (hot _ _ (by omega)).trans h.fil, hput1, h.nodup, fun D hD => ⟨(h.marks D hD).1, by rw [World.size_setCell]; exact (h.marks D hD).2.1, (hot _ _ (by have := (h.marks D hD).1; omega)).trans (h.marks D hD).2.2⟩, by rw [World.size_setCell]; exact h.size⟩
set_option maxHeartbeats 1600000 in
theorem Make_main (A : Option Addr) (c : Nat) (ss : List ByteArray) (e : Nat) (hss : ∀ s ∈ ss, s.size ≤ 140737488355328) (w : World) (hx : RdS w A c ss) (he1 : 1 ≤ e) (he2 : e ≤ 16) (hn : ss.length ≤ 4096) :
    Calls Try.prog 11 #[.slice A ss.length c, .int .i64 (e : Int)] w fun e' w' => ∃ A' c', e' = .returned (.tuple #[fil (makeM e : Nat) A' (makeN e ss.length) c', .int .i64 0]) ∧ OwB w' w.heap.size (.slice A' (makeN e ss.length) c') (setAll (makeM e) (List.replicate (makeN e ss.length) 0) ss) ∧ Below w.heap.size w w' := by
  obtain ⟨n, hnn⟩ : ∃ n, ss.length = n := ⟨_, rfl⟩
  have HN := hide hnn
  rw [hnn] at hn ⊢
  clear hnn
  unfold fil
  refine (callsIn_wide (n := 9)).1 ?_
  refine callsIn_of_wp_marks Try.func11 rfl trivial ?_ rfl
  simp only [Try.ntmps11, List.size_toArray, List.length_cons, List.length_nil, Nat.reduceAdd, Nat.reduceSub, Array.replicate_succ, Array.replicate_zero, List.push_toArray, List.append_toArray, List.nil_append, List.cons_append]
  have a1 : ¬ (e : Int) < 1 := by omega
  have a2 : ¬ 16 < (e : Int) := by omega
  have a3 : ¬ 4096 < (n : Int) := by omega
  obtain ⟨k7, hk7⟩ : ∃ k7, 7 * e / 10 = k7 := ⟨_, rfl⟩
  obtain ⟨ne, hne⟩ : ∃ ne, n * e = ne := ⟨_, rfl⟩
  have hne2 : ne ≤ 65536 := by rw [← hne]; exact Nat.le_trans (Nat.mul_le_mul hn he2) (by decide)
  obtain ⟨s8, hs8⟩ : ∃ s8, (ne + 7) / 8 = s8 := ⟨_, rfl⟩
  have b1 : 7 * (e : Int) / 10 = (k7 : Int) := by omega
  have b2 : wrap64 ((n : Int) * (e : Int)) = (ne : Int) := by
    rw [show (n : Int) * (e : Int) = (ne : Int) by rw [← hne]; simp]; unfold wrap64; omega
  have b3 : ((ne : Int) + 7) / 8 = (s8 : Int) := by omega
  have hM : Nat.min 8 (max 1 k7) = makeM e := by rw [makeM, hk7]
  have hNN : max 1 s8 = makeN e n := by rw [makeN, hne, hs8]
  have hM2 : 1 ≤ makeM e ∧ makeM e ≤ 8 := by rw [makeM]; omega
  have hN2 : 1 ≤ makeN e n ∧ makeN e n ≤ 8193 := by rw [makeN, hne]; omega
  have hmk := fun W => make_bytes (makeN e n) (by omega) W
  generalize makeM e = M at *
  generalize makeN e n = N at *
  have HM := hide hM
  have HNN := hide hNN
  clear hM hNN hk7 hne hs8
  gi_wp2_with (first | (refine wpIn_max2 rfl (.const (.int .i64 1)) (.tmp 24) 3 3 rfl .i64 1 k7 rfl (congrArg (Value.int .i64) b1) ?_) | (refine wpIn_min2 rfl (.const (.int .i64 8)) (.tmp 25) 3 3 rfl .i64 8 (max 1 k7) rfl rfl ?_; rw [HM.out]) | (refine wpIn_max2 rfl (.const (.int .i64 1)) (.tmp 32) 3 3 rfl .i64 1 s8 rfl rfl ?_; rw [HNN.out]))
  obtain ⟨W0, hW0⟩ : ∃ W0, (((w.alloc (.cells #[.int .i64 0, .slice none 0 0] 27)).alloc (.cells (madeCells #[.int .u8 0] N) 5)).alloc (.cells #[.int .i64 (M : Int), .slice (some ⟨w.heap.size + 1, 0, none⟩) N N] 27)) = W0 := ⟨_, rfl⟩
  rw [hW0]
  have hi0 : MInv 27 w W0 M N (setAll M (List.replicate N 0) (ss.take 0)) [] := by
    rw [← hW0]
    have q0 := heap_alloc_new w (.cells #[.int .i64 0, .slice none 0 0] 27)
    have q2 := heap_alloc_new ((w.alloc (.cells #[.int .i64 0, .slice none 0 0] 27)).alloc (.cells (madeCells #[.int .u8 0] N) 5)) (.cells #[.int .i64 (M : Int), .slice (some ⟨w.heap.size + 1, 0, none⟩) N N] 27)
    rw [World.size_alloc, World.size_alloc] at q2
    have q1 := OwB.made (w.alloc (.cells #[.int .i64 0, .slice none 0 0] 27)) w.heap.size N (by simp) (by omega)
    rw [World.size_alloc] at q1
    refine ⟨(((Below.refl _ _).alloc (Nat.le_refl _) _).alloc (by simp) _).alloc (by simp; omega) _, ?_, q2, ?_, List.nodup_nil, fun D hD => absurd hD (by simp), by simp⟩
    · rw [Below.heap_alloc _ _ _ (by simp; omega), Below.heap_alloc _ _ _ (by simp)]; exact q0
    · exact q1.below ((Below.refl _ _).alloc (Nat.le_refl _) _)
  clear hW0
  refine wpIn_loop (fun a W => ∃ (k : Nat) (ds : List Nat) (u8 u39 u40 u41 u42 u43 u44 u55 : Value), k ≤ n ∧ MInv 27 w W M N (setAll M (List.replicate N 0) (ss.take k)) ds ∧
    a = { tmps := #[.slice A n c, .int .i64 (e : Int), undef, undef, .pointer (some ⟨w.heap.size, 0, none⟩), .int .i64 0, .pointer (some ⟨w.heap.size + 1 + 1, 0, none⟩), undef, u8, undef, undef, .int .i64 (e : Int), .bool false, .bool false, .int .i64 (e : Int), .bool false, .bool false, undef, .slice A n c, .int .i64 (n : Int), .bool false, undef, .int .i64 (e : Int), .int .i64 (7 * (e : Int)), .int .i64 (k7 : Int), .int .i64 ((max 1 k7 : Nat) : Int), .int .i64 (M : Int), .slice A n c, .int .i64 (n : Int), .int .i64 (e : Int), .int .i64 (ne : Int), .int .i64 ((ne : Int) + 7), .int .i64 (s8 : Int), .int .i64 (N : Int), .slice (some ⟨w.heap.size + 1, 0, none⟩) N N, .agg #[.int .i64 (M : Int), .slice (some ⟨w.heap.size + 1, 0, none⟩) N N], .slice A n c, .int .i64 (n : Int), .int .i64 (k : Int), u39, u40, u41, u42, u43, u44, undef, undef, undef, undef, undef, undef, undef, undef, undef, undef, u55, undef], defers := ds.map fun D => { target := .collected D, args := #[] } }) (fun a W => n - (intOf (a.tmps.getD 38 undef)).toNat) ?_ ?_
  · exact ⟨0, [], _, _, _, _, _, _, _, _, by omega, hi0, rfl⟩
  · rintro a W ⟨k, ds, u8, u39, u40, u41, u42, u43, u44, u55, hk, hi, rfl⟩
    by_cases hlt : k < n
    · have hkn : k < ss.length := by rw [HN.out]; exact hlt
      obtain ⟨ad, rfl, hcell⟩ := (hx.below hi.below).at_ k hkn
      obtain ⟨s, hs⟩ : ∃ s, ss.getD k ByteArray.empty = s := ⟨_, rfl⟩
      rw [hs] at hcell
      have hsz : s.size ≤ 140737488355328 := hss s (by rw [← hs, List.getD_eq_getElem?_getD, List.getElem?_eq_getElem hkn]; simp)
      have htake : setAll M (List.replicate N 0) (ss.take (k + 1)) = setU (setAll M (List.replicate N 0) (ss.take k)) s M := by
        rw [← setAll_append, List.take_succ_eq_append_getElem hkn]
        congr 3
        rw [← hs, List.getD_eq_getElem?_getD, List.getElem?_eq_getElem hkn]; rfl
      have HT := hide htake
      have hlen : (setAll M (List.replicate N 0) (ss.take k)).length = N := by rw [setAll_length]; simp
      clear htake hs hi0
      generalize setAll M (List.replicate N 0) (ss.take k) = acc at *
      have HL := hide hlen
      clear hlen
      obtain ⟨f0, f1, f2, f3⟩ := two_read hi.fil
      have HP := places_any (M : Int) (some ⟨w.heap.size + 1, 0, none⟩) N N s hsz
      unfold fil at HP
      have hki : (k : Int) < (n : Int) := by omega
      gi_wp2_with (first | (refine ⟨trivial, ?_⟩; gi_at_call 28; refine (callsIn_wide.2 (HP _)).mono ?_; rintro e w2 ⟨g0, hg0, rfl, hsz2, hbx, HB2⟩))
      obtain ⟨c0, hc0⟩ : ∃ c0, W.heap.size = c0 := ⟨_, rfl⟩
      have hw2s := HB2.size
      rw [hc0] at hbx HB2 hw2s hg0
      have hc0' : w.heap.size + 3 ≤ c0 := by rw [← hc0]; exact hi.size
      have hdsc : ∀ D ∈ ds, D < c0 := fun D hD => by rw [← hc0]; exact (hi.marks D hD).2.1
      have hi2 := hi.move HB2 hc0' hdsc
      rw [hc0]
      refine range_iter (gf := 34) (lb := iterF c0 g0) (N := M) (c0 := c0) (g0 := g0) (vals := valsF (plow (hash s)) (phigh (hash s)) N) rfl (enters_of Try.func34 (by kernel_rfl) rfl) (fun _ => rfl) (by omega) (by omega) (by omega)
        (iter_any M N N _ _ c0 g0 (some ⟨w.heap.size + 1, 0, none⟩) w2 hbx (by omega) (by omega) (by omega) (Nat.lt_trans (Nat.mod_lt _ (by decide)) (by decide)) (Nat.lt_trans (phigh_lt _) (by decide)) hg0 (by omega))
        (fun j X => MInv 27 w X M N (setU acc s j) ds) (fun _ _ => False) (fun j X Y h i => i.move h hc0' hdsc) (fun _ _ _ _ h => h) hi2
        (fun j => { tmps := #[.slice (some ad) n c, .int .i64 (e : Int), undef, undef, .pointer (some ⟨w.heap.size, 0, none⟩), .int .i64 0, .pointer (some ⟨w.heap.size + 1 + 1, 0, none⟩), undef, .string s, .int .i64 ((placeL (plow (hash s)) (phigh (hash s)) N j / 8 : Nat) : Int), .int .u8 ((2 ^ (placeL (plow (hash s)) (phigh (hash s)) N j % 8) : Nat) : Int), .int .i64 (e : Int), .bool false, .bool false, .int .i64 (e : Int), .bool false, .bool false, undef, .slice (some ad) n c, .int .i64 (n : Int), .bool false, undef, .int .i64 (e : Int), .int .i64 (7 * (e : Int)), .int .i64 (k7 : Int), .int .i64 ((max 1 k7 : Nat) : Int), .int .i64 (M : Int), .slice (some ad) n c, .int .i64 (n : Int), .int .i64 (e : Int), .int .i64 (ne : Int), .int .i64 ((ne : Int) + 7), .int .i64 (s8 : Int), .int .i64 (N : Int), .slice (some ⟨w.heap.size + 1, 0, none⟩) N N, .agg #[.int .i64 (M : Int), .slice (some ⟨w.heap.size + 1, 0, none⟩) N N], .slice (some ad) n c, .int .i64 (n : Int), .int .i64 (k : Int), .bool true, .pointer (some (ad.add k)), .string s, .agg #[.int .i64 (M : Int), .slice (some ⟨w.heap.size + 1, 0, none⟩) N N], .string s, .func (.func 34) #[] (iterF c0 g0), .int .i64 ((placeL (plow (hash s)) (phigh (hash s)) N j / 8 : Nat) : Int), .int .u8 ((2 ^ (placeL (plow (hash s)) (phigh (hash s)) N j % 8) : Nat) : Int), undef, undef, undef, undef, undef, undef, undef, undef, u55, undef], defers := [] }) ?assign ?body ?done ?stop
      case assign =>
        intro l j X KK hKK
        unfold valsF
        gi_wp2
        exact hKK
      case body =>
        intro l j X hj hij
        have hpl : placeL (plow (hash s)) (phigh (hash s)) N j < 8 * N := Nat.mod_lt _ (by omega)
        have hset : setU acc s (j + 1) = setB (setU acc s j) (placeL (plow (hash s)) (phigh (hash s)) N j) := by rw [setU, HL.out]; rfl
        have hlenj : (setU acc s j).length = N := by rw [setU_length, HL.out]
        have HSET := hide hset
        clear hset
        obtain ⟨j0, j1, j2, j3⟩ := two_read hij.fil
        generalize placeL (plow (hash s)) (phigh (hash s)) N j = p at *
        obtain ⟨q, hq⟩ : ∃ q, p / 8 = q := ⟨_, rfl⟩
        obtain ⟨r, hr⟩ : ∃ r, p % 8 = r := ⟨_, rfl⟩
        have hr8 : r < 8 := by rw [← hr]; exact Nat.mod_lt _ (by decide)
        have hq1 : q < N := by omega
        obtain ⟨g, cap, hv, hg1, hg2, hcel, hfro, hput⟩ := hij.own.set_ q (by rw [hlenj]; exact hq1)
        rw [hlenj] at hv
        obtain ⟨rfl, rfl⟩ : w.heap.size + 1 = g ∧ N = cap := by
          injection hv with h1 h2 h3
          injection h1 with h1
          injection h1 with h1
          exact ⟨h1, h3⟩
        clear hv hg1
        obtain ⟨x, hxx⟩ : ∃ x, (setU acc s j).getD q 0 = x := ⟨_, rfl⟩
        rw [hxx] at hcel
        have hor := or_bit x r hr8
        obtain ⟨hput1, hput2⟩ := hput (x ||| UInt8.ofNat (2 ^ r))
        have hnew : (setU acc s j).set q (x ||| UInt8.ofNat (2 ^ r)) = setU acc s (j + 1) := by rw [HSET.out, setB, hq, hr, hxx]
        rw [hnew] at hput1
        rw [hq, hr]
        have hq2 : (q : Int) < (N : Int) := by omega
        clear hq hr hxx hpl hput hnew hlenj
        obtain ⟨y, hy⟩ : ∃ y, (x ||| UInt8.ofNat (2 ^ r)).toNat = y := ⟨_, rfl⟩
        rw [hy] at hor hput1 hput2
        clear hy
        generalize 2 ^ r = t at *
        have hbel := hij.below.setCell (p := ⟨w.heap.size + 1, q, none⟩) (Nat.le_succ _) (.int .u8 (y : Int))
        have hot : ∀ b, b ≠ w.heap.size + 1 → (X.setCell ⟨w.heap.size + 1, q, none⟩ (.int .u8 (y : Int))).heap[b]? = X.heap[b]? := fun b hb => Below.heap_setCell _ _ _ _ hb
        have hfin : MInv 27 w (X.setCell ⟨w.heap.size + 1, q, none⟩ (.int .u8 (y : Int))) M N (setU acc s (j + 1)) ds :=
          ⟨hbel, (hot _ (by omega)).trans hij.res, (hot _ (by omega)).trans hij.fil, hput1, hij.nodup, fun D hD => ⟨(hij.marks D hD).1, by rw [World.size_setCell]; exact (hij.marks D hD).2.1, (hot _ (by have := (hij.marks D hD).1; omega)).trans (hij.marks D hD).2.2⟩, by rw [World.size_setCell]; exact hij.size⟩
        have hpa : Past c0 X (X.setCell ⟨w.heap.size + 1, q, none⟩ (.int .u8 (y : Int))) := Past.setCell X _ q (by omega) _
        have HF := hide hfin
        have HPA := hide hpa
        clear hfin hpa hput1 hput2 hbel hot
        gi_wp2
        exact ⟨HPA.out, HF.out⟩
      case done =>
        intro X hiX hszX hDX
        rw [← HT.out] at hiX
        have hnd : w2.heap.size ∉ ds := fun h => by have := hdsc _ h; omega
        have hlt2 := (Array.getElem?_eq_some_iff.1 hDX).1
        have hiX2 : MInv 27 w X M N (setAll M (List.replicate N 0) (ss.take (k + 1))) (w2.heap.size :: ds) := ⟨hiX.below, hiX.res, hiX.fil, hiX.own, List.nodup_cons.2 ⟨hnd, hiX.nodup⟩, fun D hD => by
          rcases List.mem_cons.1 hD with rfl | h
          · exact ⟨by omega, hlt2, hDX⟩
          · exact hiX.marks D h, hiX.size⟩
        gi_wp2
        refine ⟨⟨k + 1, w2.heap.size :: ds, _, _, _, _, _, _, _, _, by omega, hiX2, rfl⟩, ?_⟩
        simp [intOf]; omega
      case stop => exact fun _ _ _ h => h.elim
    · obtain rfl : k = n := by omega
      have hall : ss.take k = ss := List.take_of_length_le (by rw [HN.out]; exact Nat.le_refl _)
      rw [hall] at hi
      obtain ⟨f0, f1, f2, f3⟩ := two_read hi.fil
      obtain ⟨g0, g1, g2, g3⟩ := two_read hi.res
      gi_wp2
      have hr := two_cells (u := .int .i64 (M : Int)) (v := .slice (some ⟨w.heap.size + 1, 0, none⟩) N N) hi.res
      have hne : some w.heap.size ≠ (Value.slice (some ⟨w.heap.size + 1, 0, none⟩) N N).ownBlock := by
        intro h
        simp [Value.ownBlock] at h
      have ho := own_setCell (own_setCell hi.own (p := ⟨w.heap.size, 0, none⟩) hne (.int .i64 (M : Int))) (p := ⟨w.heap.size, 1, none⟩) hne (.slice (some ⟨w.heap.size + 1, 0, none⟩) N N)
      refine leaves_marks (base := w.heap.size + 3) ds _ hi.nodup (fun D hD => ⟨(hi.marks D hD).1, ?_⟩) (fun W' hW' => ?_)
      · have h1 := (hi.marks D hD).1
        exact (Below.heap_setCell _ _ _ _ (show D ≠ w.heap.size by omega)).trans ((Below.heap_setCell _ _ _ _ (show D ≠ w.heap.size by omega)).trans (hi.marks D hD).2.2)
      · obtain ⟨r0, r1, _, _⟩ := two_read ((hW'.block _ (by omega)).trans hr)
        refine leaves_nil (.tuple #[.agg #[.int .i64 (M : Int), .slice (some ⟨w.heap.size + 1, 0, none⟩) N N], .int .i64 0]) ?_ ⟨some ⟨w.heap.size + 1, 0, none⟩, N, rfl, own_move ho (fun b e => hW'.block b (by simp [Value.ownBlock] at e; omega)), ((hi.below.setCell (p := ⟨w.heap.size, 0, none⟩) (Nat.le_refl _) _).setCell (p := ⟨w.heap.size, 1, none⟩) (Nat.le_refl _) _).trans (hW'.mono (by omega))⟩
        simp [results, Try.results11, go_sem, r0, r1]
set_option maxHeartbeats 800000 in
theorem Make_any (A : Option Addr) (c : Nat) (ss : List ByteArray) (each : Int) (hss : ∀ s ∈ ss, s.size ≤ 140737488355328) (w : World) (hx : RdS w A c ss) :
    Calls Try.prog 11 #[.slice A ss.length c, .int .i64 each] w fun e' w' => ∃ A' c', e' = .returned (.tuple #[fil (makeK each ss.length) A' (makeX each ss).length c', .int .i64 (makeE each ss.length)]) ∧ OwB w' w.heap.size (.slice A' (makeX each ss).length c') (makeX each ss) ∧ Below w.heap.size w w' := by
  by_cases hok : makeOk each ss.length
  · have hk : makeK each ss.length = (makeM each.toNat : Int) := by rw [makeK, if_pos hok]
    have hX : makeX each ss = setAll (makeM each.toNat) (List.replicate (makeN each.toNat ss.length) 0) ss := by rw [makeX, if_pos hok]
    obtain ⟨h1, h2, h3⟩ := hok
    have hE : makeE each ss.length = 0 := by rw [makeE, if_neg (by omega), if_neg (by omega)]
    rw [hk, hX, hE, setAll_length, List.length_replicate]
    obtain ⟨e, rfl⟩ : ∃ e : Nat, each = (e : Int) := ⟨each.toNat, by omega⟩
    rw [Int.toNat_natCast]
    exact Make_main A c ss e hss w hx (by omega) (by omega) h3
  · have hk : makeK each ss.length = 0 := by rw [makeK, if_neg hok]
    have hX : makeX each ss = [] := by rw [makeX, if_neg hok]
    obtain ⟨n, hn⟩ : ∃ n, ss.length = n := ⟨_, rfl⟩
    have hm := hx.max
    rw [hk, hX]
    rw [hn] at hok hm ⊢
    clear hk hX hn
    have hno : each < 1 ∨ 16 < each ∨ (1 ≤ each ∧ each ≤ 16 ∧ 4096 < n) := by unfold makeOk at hok; omega
    refine (callsIn_wide (n := 9)).1 ?_
    refine callsIn_of_wp_marks Try.func11 rfl trivial ?_ rfl
    simp only [Try.ntmps11, List.size_toArray, List.length_cons, List.length_nil, Nat.reduceAdd, Nat.reduceSub, Array.replicate_succ, Array.replicate_zero, List.push_toArray, List.append_toArray, List.nil_append, List.cons_append]
    unfold fil
    rcases hno with h | h | ⟨h1, h2, h3⟩
    · have hE : makeE each n = 4 := by rw [makeE, if_pos (by omega)]
      rw [hE]
      gi_wp2
      refine leaves_nil (.tuple #[.agg #[.int .i64 0, .slice none 0 0], .int .i64 4]) ?_ ⟨none, 0, rfl, OwB.zero _ _, (Below.refl _ _).alloc (Nat.le_refl _) _⟩
      simp [results, Try.results11, go_sem]
    · have hE : makeE each n = 4 := by rw [makeE, if_pos (by omega)]
      rw [hE]
      have h0 : ¬ each < 1 := by omega
      gi_wp2
      refine leaves_nil (.tuple #[.agg #[.int .i64 0, .slice none 0 0], .int .i64 4]) ?_ ⟨none, 0, rfl, OwB.zero _ _, (Below.refl _ _).alloc (Nat.le_refl _) _⟩
      simp [results, Try.results11, go_sem]
    · have hE : makeE each n = 3 := by rw [makeE, if_neg (by omega), if_pos h3]
      rw [hE]
      have h0 : ¬ each < 1 := by omega
      have h4 : ¬ 16 < each := by omega
      have h5 : 4096 < (n : Int) := by omega
      gi_wp2
      refine leaves_nil (.tuple #[.agg #[.int .i64 0, .slice none 0 0], .int .i64 3]) ?_ ⟨none, 0, rfl, OwB.zero _ _, (Below.refl _ _).alloc (Nat.le_refl _) _⟩
      simp [results, Try.results11, go_sem]
end Go.Proofs.Ytmnecbmneljhkaa
