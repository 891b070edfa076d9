/- What the law BlockShort reaches besides, and its walk. -/
import Derived.Test.YtfclmkbhfpjhjaaMgA
import Derived.Test.YtfclmkbhfpjhjaaMgB
set_option linter.unusedVariables false
set_option linter.unusedSimpArgs false
section
/- Arguments opened: versions. -/
namespace Go.Proofs.Ytfclmkbhfpjhjaa
open Go.ChangeShapes Go.WideShapes Go.ChangeAt Go.RowKit Go.Proofs.YtfclmkbhfpjhjaaW.PrintWords
set_option maxRecDepth 100000
set_option linter.unusedVariables false
instance : Inhabited Ent := ⟨zEnt⟩
theorem open_ents {H : Type} {enc : TypeId × Value → H} {W : World} {base : Nat} {v : Value} {x : DataW H} {p : List MemPlace} (hv : Value.okWide Try.prog W .any base 22 v)
    (h : DataW.Trod enc Try.prog W 0 (fun _ => true) true 22 v x p) : ∃ A c l, v = .slice A l.length c ∧ RdE W A c l ∧ (∀ B, (∀ y ∈ x.weights Try.prog 22, y ≤ B) → l.length * 48 ≤ B) := by
  have o1 := opens_struct Try.underlying36 (d := kEnt) (by kernel_rfl) (opensF_cons rfl (by kernel_rfl) (opens_string Try.underlying9) (opensF_cons rfl (by kernel_rfl) (opens_int Try.underlying3) (opensF_cons rfl (by kernel_rfl) (opens_int Try.underlying3) (opensF_one rfl (by kernel_rfl) (opens_string Try.underlying9)))))
  have o2 := opens_slice (t := 22) Try.underlying22 (by kernel_rfl) o1
  obtain ⟨A, c, l, hv, hl, hC, hS, hU⟩ := open_slice_of Try.underlying22 o2 hv h
  refine ⟨A, c, l, hv, ⟨hl, hC⟩, fun B hB => ?_⟩
  have h1 := (hS B hB).1
  have e : Try.prog.bytesOf 36 = 48 := by kernel_rfl
  rw [e] at h1
  exact h1
end Go.Proofs.Ytfclmkbhfpjhjaa
end

section
/- The walk of BlockShort. -/
namespace Go.Proofs.Ytfclmkbhfpjhjaa
open Go.RowKit Go.Proofs.YtfclmkbhfpjhjaaW.PrintWords
set_option linter.unusedVariables false

theorem v1 (n : Nat) (h : n < 128) : vsize n = 1 := by unfold vsize; split <;> first | rfl | omega
theorem comm_app (a : List UInt8) (u v : UInt8) (s t : List UInt8) (h : u ≠ v) : comm (a ++ u :: s) (a ++ v :: t) = a.length := by
  induction a with
  | nil => simp [comm, h]
  | cons x a ih => rw [List.cons_append, List.cons_append, comm, if_pos rfl, ih, List.length_cons]
theorem lt_app (a : List UInt8) (u v : UInt8) (s t : List UInt8) (h : u < v) : a ++ u :: s < a ++ v :: t := by
  induction a with
  | nil => exact List.cons_lt_cons_iff.2 (.inl h)
  | cons x a ih => exact List.cons_lt_cons_iff.2 (.inr ⟨rfl, ih⟩)
/-- the two keys -/
theorem short_plain (a t kx ky : ByteArray) (hx : bl kx = bl a ++ 109 :: []) (hy : bl ky = bl a ++ 110 :: bl t) (ha : a.size ≤ 30) (ht : t.size ≤ 30) :
    kx.size = a.size + 1 ∧ ky.size = a.size + 1 + t.size ∧ chkE [(kx, 1, 1, ⟨#[]⟩), (ky, 1, 1, ⟨#[]⟩)] = 0 ∧ chkE [(kx, 1, 1, ⟨#[]⟩)] = 0 ∧ chkE [(ky, 1, 1, ⟨#[]⟩)] = 0 ∧ befE (kx, 1, 1, ⟨#[]⟩) (ky, 1, 1, ⟨#[]⟩) ∧
    (blkX [(kx, 1, 1, ⟨#[]⟩), (ky, 1, 1, ⟨#[]⟩)]).length = a.size + t.size + 19 ∧ (blkX [(kx, 1, 1, ⟨#[]⟩)]).length = a.size + 13 ∧ (blkX [(ky, 1, 1, ⟨#[]⟩)]).length = a.size + t.size + 13 := by
  have sx : kx.size = a.size + 1 := by rw [← bl_length, hx, List.length_append, bl_length]; rfl
  have sy : ky.size = a.size + 1 + t.size := by rw [← bl_length, hy, List.length_append, List.length_cons, bl_length, bl_length]; omega
  have mx : mayE (kx, 1, 1, ⟨#[]⟩) := ⟨by show 1 ≤ kx.size; omega, by show kx.size ≤ 96; omega, by show (1 : Int) ≤ 1; decide, by show (1 : Int) ≤ 1099511627776; decide, .inl rfl, by show 0 ≤ 512; decide, .inl rfl⟩
  have my : mayE (ky, 1, 1, ⟨#[]⟩) := ⟨by show 1 ≤ ky.size; omega, by show ky.size ≤ 96; omega, by show (1 : Int) ≤ 1; decide, by show (1 : Int) ≤ 1099511627776; decide, .inl rfl, by show 0 ≤ 512; decide, .inl rfl⟩
  have hb : befE (kx, 1, 1, ⟨#[]⟩) (ky, 1, 1, ⟨#[]⟩) := .inl (by show bl kx < bl ky; rw [hx, hy]; exact lt_app _ _ _ _ _ (by decide))
  have c2 : chkE [(kx, 1, 1, ⟨#[]⟩), (ky, 1, 1, ⟨#[]⟩)] = 0 := by
    rw [chkE, if_neg (by show ¬ (2 < 1 ∨ 64 < 2); decide), ordE]
    refine ordL_of _ _ 0 fun j _ hj => ?_
    have : j = 0 ∨ j = 1 := by simp at hj; omega
    rcases this with rfl | rfl
    · exact ⟨mx, fun h => absurd h (by decide)⟩
    · exact ⟨my, fun _ => hb⟩
  have cx : chkE [(kx, 1, 1, ⟨#[]⟩)] = 0 := by
    rw [chkE, if_neg (by show ¬ (1 < 1 ∨ 64 < 1); decide), ordE]
    refine ordL_of _ _ 0 fun j _ hj => ?_
    obtain rfl : j = 0 := by simp at hj; omega
    exact ⟨mx, fun h => absurd h (by decide)⟩
  have cy : chkE [(ky, 1, 1, ⟨#[]⟩)] = 0 := by
    rw [chkE, if_neg (by show ¬ (1 < 1 ∨ 64 < 1); decide), ordE]
    refine ordL_of _ _ 0 fun j _ hj => ?_
    obtain rfl : j = 0 := by simp at hj; omega
    exact ⟨my, fun h => absurd h (by decide)⟩
  have ex : (entB 0 (kx, 1, 1, ⟨#[]⟩)).length = a.size + 6 := by
    rw [entB_length 0 _ mx (Nat.zero_le _)]
    show vsize 0 + vsize (kx.size - 0) + vsize 1 + vsize 0 + 1 + (kx.size - 0) + 0 = _
    rw [v1 0 (by decide), v1 (kx.size - 0) (by omega), v1 1 (by decide)]
    omega
  have ey : (entB 0 (ky, 1, 1, ⟨#[]⟩)).length = a.size + t.size + 6 := by
    rw [entB_length 0 _ my (Nat.zero_le _)]
    show vsize 0 + vsize (ky.size - 0) + vsize 1 + vsize 0 + 1 + (ky.size - 0) + 0 = _
    rw [v1 0 (by decide), v1 (ky.size - 0) (by omega), v1 1 (by decide)]
    omega
  have hk : comm (bl kx) (bl ky) = a.size := by rw [hx, hy, comm_app _ _ _ _ _ (by decide), bl_length]
  have ez : (entB a.size (ky, 1, 1, ⟨#[]⟩)).length = t.size + 6 := by
    rw [entB_length a.size _ my (by show a.size ≤ ky.size; omega)]
    show vsize a.size + vsize (ky.size - a.size) + vsize 1 + vsize 0 + 1 + (ky.size - a.size) + 0 = _
    rw [v1 a.size (by omega), v1 (ky.size - a.size) (by omega), v1 1 (by decide), v1 0 (by decide)]
    omega
  refine ⟨sx, sy, c2, cx, cy, hb, ?_, ?_, ?_⟩
  · rw [blkX, if_pos c2, guarded_length, blkB, List.length_append, List.length_append, tailB_length]
    have : entsB [(kx, 1, 1, ⟨#[]⟩), (ky, 1, 1, ⟨#[]⟩)] ([(kx, 1, 1, ⟨#[]⟩), (ky, 1, 1, ⟨#[]⟩)] : List Ent).length = [] ++ entB 0 (kx, 1, 1, ⟨#[]⟩) ++ entB (comm (bl kx) (bl ky)) (ky, 1, 1, ⟨#[]⟩) := rfl
    rw [this, hk, List.nil_append, List.length_append, ex, ez]
    simp only [List.length_cons, List.length_nil]
    omega
  · rw [blkX, if_pos cx, guarded_length, blkB, List.length_append, List.length_append, tailB_length]
    have : entsB [(kx, 1, 1, ⟨#[]⟩)] ([(kx, 1, 1, ⟨#[]⟩)] : List Ent).length = [] ++ entB 0 (kx, 1, 1, ⟨#[]⟩) := rfl
    rw [this, List.nil_append, ex]
    simp only [List.length_cons, List.length_nil]
  · rw [blkX, if_pos cy, guarded_length, blkB, List.length_append, List.length_append, tailB_length]
    have : entsB [(ky, 1, 1, ⟨#[]⟩)] ([(ky, 1, 1, ⟨#[]⟩)] : List Ent).length = [] ++ entB 0 (ky, 1, 1, ⟨#[]⟩) := rfl
    rw [this, List.nil_append, ey]
    simp only [List.length_cons, List.length_nil]
theorem RdE_lit1 (x : Ent) (w : World) : RdE (w.alloc (.cells #[.string x.1, .int .i64 x.2.1, .int .i64 x.2.2.1, .string x.2.2.2] 36)) (some ⟨w.heap.size, 0, none⟩) 1 [x] := by
  refine ⟨Nat.le_refl _, rfl, by show 1 ≤ 9223372036854775807; decide, fun _ => ⟨_, rfl, fun j p hj => ?_⟩⟩
  obtain rfl : j = 0 := by
    obtain ⟨h, _⟩ := List.getElem?_eq_some_iff.1 hj
    simp at h; omega
  have hp : p = x := by simpa using hj.symm
  subst hp
  refine ⟨_, rfl, kEnt_mk _ p, fun i u hu => ?_⟩
  rw [add_plain, World.cell?_alloc_mark]
  match i, hu with
  | 0, hu => exact hu
  | 1, hu => exact hu
  | 2, hu => exact hu
  | 3, hu => exact hu
  | i + 4, hu => simp at hu
theorem ext_take (a : ByteArray) (p : Nat) (h : p ≤ a.size) : bl (a.extract 0 p) = (bl a).take p ∧ (a.extract 0 p).size = p := by
  have e : bl (a.extract 0 p) = (bl a).take p := by simp [bl]
  exact ⟨e, by rw [← bl_length, e, List.length_take, bl_length]; omega⟩
theorem short_nums (p q : Nat) (hp : p ≤ 30) (hq : q ≤ 30) : ∃ m2 mx my a2 a3 : Nat, p + q + 19 = m2 ∧ p + 13 = mx ∧ p + q + 13 = my ∧ (mx : Int) + (my : Int) = (a2 : Int) ∧ wrap64 (a2 : Int) = (a2 : Int) ∧ (a2 : Int) - 7 = (a3 : Int) ∧ wrap64 (a3 : Int) = (a3 : Int) ∧ (a3 : Int) - (p : Int) = (m2 : Int) ∧ wrap64 (m2 : Int) = (m2 : Int) := by
  refine ⟨p + q + 19, p + 13, p + q + 13, p + 13 + (p + q + 13), p + 13 + (p + q + 13) - 7, rfl, rfl, rfl, by omega, ?_, by omega, ?_, by omega, ?_⟩ <;> (unfold wrap64; omega)
theorem short_caps (a k t : Nat) (ha : a ≤ 30) (ht : t ≤ 30) (hk : k = a + 1) : ¬ 9223372036854775807 < a + 1 ∧ ¬ 9223372036854775807 < k + t := by omega
set_option maxRecDepth 100000 in
set_option maxHeartbeats 3200000 in
theorem short_walk (a t : ByteArray) (w : World) (ha : a.size ≤ 140737488351232) (ht : t.size ≤ 140737488351232) :
    Calls Try.prog 5 #[.string a, .string t] w fun e w' => e = .returned (.bool true) ∧ Below w.heap.size w w' := by
  obtain ⟨p, hp⟩ : ∃ p, min a.size 30 = p := ⟨_, rfl⟩
  obtain ⟨q, hq⟩ : ∃ q, min t.size 30 = q := ⟨_, rfl⟩
  have hpi : min (a.size : Int) 30 = (p : Int) := by omega
  have hqi : min (t.size : Int) 30 = (q : Int) := by omega
  have hpa : (p : Int) ≤ (a.size : Int) := by omega
  have hqa : (q : Int) ≤ (t.size : Int) := by omega
  have hpn : p ≤ a.size := by omega
  have hqn : q ≤ t.size := by omega
  have hp3 : p ≤ 30 := by omega
  have hq3 : q ≤ 30 := by omega
  obtain ⟨-, s1⟩ := ext_take a p hpn
  obtain ⟨-, s2⟩ := ext_take t q hqn
  clear hp hq ha ht
  go_enter Try.func5, Try.ntmps5
  go_wp2_with (first | (go_at_call 9; refine (alive_any _).mono ?_; rintro e w1 ⟨rfl, HB1⟩))
  refine wp_region_below w.heap.size w HB1 (by kernel_rfl) (by kernel_rfl) ?_
  repeat (go_big_quiet_step ((intro hb; rfl)))
  refine wpQuiet_nil ?_
  intro wd hd
  generalize a.extract 0 p = a1 at *
  generalize t.extract 0 q = t1 at *
  obtain ⟨kx, hkx⟩ : ∃ kx, a1 ++ (⟨#[109]⟩ : ByteArray) = kx := ⟨_, rfl⟩
  obtain ⟨ka, hka⟩ : ∃ ka, a1 ++ (⟨#[110]⟩ : ByteArray) = ka := ⟨_, rfl⟩
  obtain ⟨ky, hky⟩ : ∃ ky, ka ++ t1 = ky := ⟨_, rfl⟩
  have bx : bl kx = bl a1 ++ 109 :: [] := by rw [← hkx]; simp [bl]
  have by_ : bl ky = bl a1 ++ 110 :: bl t1 := by rw [← hky, ← hka]; simp [bl]
  have ka_ : ka.size = a1.size + 1 := by rw [← bl_length, ← hka, ← bl_length a1]; simp [bl]
  obtain ⟨sx, sy, k2, kx1, ky1, hbf, l2, lx, ly⟩ := short_plain a1 t1 kx ky bx by_ (by rw [s1]; exact hp3) (by rw [s2]; exact hq3)
  obtain ⟨c1, c2⟩ := short_caps a1.size ka.size t1.size (by rw [s1]; exact hp3) (by rw [s2]; exact hq3) ka_
  rw [s1] at c1
  rw [s1, s2] at l2 ly
  rw [s1] at lx
  have z5 : (wd.alloc (.cells #[.string kx, .int .i64 1, .int .i64 1, .string ⟨#[]⟩] 36)).heap.size = wd.heap.size + 1 := World.size_alloc _ _
  have z6 : ((wd.alloc (.cells #[.string kx, .int .i64 1, .int .i64 1, .string ⟨#[]⟩] 36)).alloc (.cells #[.string ky, .int .i64 1, .int .i64 1, .string ⟨#[]⟩] 36)).heap.size = wd.heap.size + 1 + 1 := by rw [World.size_alloc, World.size_alloc]
  have b5 := below_alloc wd (.cells #[.string kx, .int .i64 1, .int .i64 1, .string ⟨#[]⟩] 36)
  have b6 := b5.trans ((below_alloc (wd.alloc (.cells #[.string kx, .int .i64 1, .int .i64 1, .string ⟨#[]⟩] 36)) (.cells #[.string ky, .int .i64 1, .int .i64 1, .string ⟨#[]⟩] 36)).mono b5.size)
  have X6 : Eb ((wd.alloc (.cells #[.string kx, .int .i64 1, .int .i64 1, .string ⟨#[]⟩] 36)).alloc (.cells #[.string ky, .int .i64 1, .int .i64 1, .string ⟨#[]⟩] 36)) wd.heap.size ((kx, 1, 1, ⟨#[]⟩) : Ent) := (Eb.new wd ((kx, 1, 1, ⟨#[]⟩) : Ent)).below (below_alloc (wd.alloc (.cells #[.string kx, .int .i64 1, .int .i64 1, .string ⟨#[]⟩] 36)) (.cells #[.string ky, .int .i64 1, .int .i64 1, .string ⟨#[]⟩] 36))
  have Y6 : Eb ((wd.alloc (.cells #[.string kx, .int .i64 1, .int .i64 1, .string ⟨#[]⟩] 36)).alloc (.cells #[.string ky, .int .i64 1, .int .i64 1, .string ⟨#[]⟩] 36)) (wd.heap.size + 1) ((ky, 1, 1, ⟨#[]⟩) : Ent) := by have := Eb.new (wd.alloc (.cells #[.string kx, .int .i64 1, .int .i64 1, .string ⟨#[]⟩] 36)) ((ky, 1, 1, ⟨#[]⟩) : Ent); rw [z5] at this; exact this
  have HC6 := hd.trans (b6.mono hd.size)
  have b7 := below_alloc ((wd.alloc (.cells #[.string kx, .int .i64 1, .int .i64 1, .string ⟨#[]⟩] 36)).alloc (.cells #[.string ky, .int .i64 1, .int .i64 1, .string ⟨#[]⟩] 36)) (.cells #[.string kx, .int .i64 1, .int .i64 1, .string ⟨#[]⟩, .string ky, .int .i64 1, .int .i64 1, .string ⟨#[]⟩] 36)
  have X7 := X6.below b7
  have Y7 := Y6.below b7
  have HC7 := HC6.trans (b7.mono HC6.size)
  have hE2 : ∀ r, r = wd.heap.size + 1 + 1 → Calls Try.prog 10 #[.slice (some ⟨r, 0, none⟩) 2 2] (((wd.alloc (.cells #[.string kx, .int .i64 1, .int .i64 1, .string ⟨#[]⟩] 36)).alloc (.cells #[.string ky, .int .i64 1, .int .i64 1, .string ⟨#[]⟩] 36)).alloc (.cells #[.string kx, .int .i64 1, .int .i64 1, .string ⟨#[]⟩, .string ky, .int .i64 1, .int .i64 1, .string ⟨#[]⟩] 36)) fun e w' => ∃ v, e = .returned (.tuple #[v, .int .i64 (chkE [((kx, 1, 1, ⟨#[]⟩) : Ent), ((ky, 1, 1, ⟨#[]⟩) : Ent)])]) ∧ OwB w' (((wd.alloc (.cells #[.string kx, .int .i64 1, .int .i64 1, .string ⟨#[]⟩] 36)).alloc (.cells #[.string ky, .int .i64 1, .int .i64 1, .string ⟨#[]⟩] 36)).alloc (.cells #[.string kx, .int .i64 1, .int .i64 1, .string ⟨#[]⟩, .string ky, .int .i64 1, .int .i64 1, .string ⟨#[]⟩] 36)).heap.size v (blkX [((kx, 1, 1, ⟨#[]⟩) : Ent), ((ky, 1, 1, ⟨#[]⟩) : Ent)]) ∧ Below (((wd.alloc (.cells #[.string kx, .int .i64 1, .int .i64 1, .string ⟨#[]⟩] 36)).alloc (.cells #[.string ky, .int .i64 1, .int .i64 1, .string ⟨#[]⟩] 36)).alloc (.cells #[.string kx, .int .i64 1, .int .i64 1, .string ⟨#[]⟩, .string ky, .int .i64 1, .int .i64 1, .string ⟨#[]⟩] 36)).heap.size (((wd.alloc (.cells #[.string kx, .int .i64 1, .int .i64 1, .string ⟨#[]⟩] 36)).alloc (.cells #[.string ky, .int .i64 1, .int .i64 1, .string ⟨#[]⟩] 36)).alloc (.cells #[.string kx, .int .i64 1, .int .i64 1, .string ⟨#[]⟩, .string ky, .int .i64 1, .int .i64 1, .string ⟨#[]⟩] 36)) w' := by
    intro r hr
    have := Encode_any (some ⟨((wd.alloc (.cells #[.string kx, .int .i64 1, .int .i64 1, .string ⟨#[]⟩] 36)).alloc (.cells #[.string ky, .int .i64 1, .int .i64 1, .string ⟨#[]⟩] 36)).heap.size, 0, none⟩) 2 2 [((kx, 1, 1, ⟨#[]⟩) : Ent), ((ky, 1, 1, ⟨#[]⟩) : Ent)] _ rfl (RdE_lit2 ((kx, 1, 1, ⟨#[]⟩) : Ent) ((ky, 1, 1, ⟨#[]⟩) : Ent) ((wd.alloc (.cells #[.string kx, .int .i64 1, .int .i64 1, .string ⟨#[]⟩] 36)).alloc (.cells #[.string ky, .int .i64 1, .int .i64 1, .string ⟨#[]⟩] 36))) (by decide)
    rw [z6, ← hr] at this
    exact this
  replace hE2 := hE2 _ rfl
  have hE1 := fun W => Encode_any (some ⟨W.heap.size, 0, none⟩) 1 1 [((kx, 1, 1, ⟨#[]⟩) : Ent)] (W.alloc (.cells #[.string kx, .int .i64 1, .int .i64 1, .string ⟨#[]⟩] 36)) rfl (RdE_lit1 ((kx, 1, 1, ⟨#[]⟩) : Ent) W) (by decide)
  have hEy := fun W => Encode_any (some ⟨W.heap.size, 0, none⟩) 1 1 [((ky, 1, 1, ⟨#[]⟩) : Ent)] (W.alloc (.cells #[.string ky, .int .i64 1, .int .i64 1, .string ⟨#[]⟩] 36)) rfl (RdE_lit1 ((ky, 1, 1, ⟨#[]⟩) : Ent) W) (by decide)
  rw [k2] at hE2
  rw [kx1] at hE1
  rw [ky1] at hEy
  have hBf := fun W => rBefore_any ((kx, 1, 1, ⟨#[]⟩) : Ent) ((ky, 1, 1, ⟨#[]⟩) : Ent) W
  rw [decide_eq_true hbf] at hBf
  generalize blkX [((kx, 1, 1, ⟨#[]⟩) : Ent), ((ky, 1, 1, ⟨#[]⟩) : Ent)] = P at *
  generalize blkX [((kx, 1, 1, ⟨#[]⟩) : Ent)] = P1 at *
  generalize blkX [((ky, 1, 1, ⟨#[]⟩) : Ent)] = P2 at *
  obtain ⟨m2, mx, my, a2, a3, hm2, hmx, hmy, w1_, w2_, w3_, w4_, w5_, w6_⟩ := short_nums p q hp3 hq3
  rw [hm2] at l2
  rw [hmx] at lx
  rw [hmy] at ly
  have L2 := hide l2
  have LX := hide lx
  have LY := hide ly
  have S1 := s1
  clear z5 z6 X6 Y6 s2 bx by_ ka_ sx sy k2 kx1 ky1 hbf l2 lx ly hpi hqi hpa hqa hpn hqn hp3 hq3 hm2 hmx hmy
  go_wp2_with (first | (go_at_call 10; first | ((with_reducible refine hE2.mono ?_); rintro e w8 ⟨v8, rfl, HO8, HB8⟩; obtain ⟨A8, c8, hv8, -⟩ := HO8.rd; rw [L2.out] at hv8; subst hv8; have HC8 := HC7.trans (HB8.mono HC7.size); have X8 := X7.below HB8; have Y8 := Y7.below HB8; obtain ⟨x80, x81, x82, x83, -, -, -, -⟩ := X8.read; have b9 := below_alloc w8 (.cells #[.string kx, .int .i64 1, .int .i64 1, .string ⟨#[]⟩] 36); have Y9 := Y8.below b9; have X9 := X8.below b9; have HC9 := HC8.trans (b9.mono HC8.size)) | ((with_reducible refine (hE1 w8).mono ?_); rintro e w10 ⟨v10, rfl, HO10, HB10⟩; obtain ⟨A10, c10, hv10, -⟩ := HO10.rd; rw [LX.out] at hv10; subst hv10; have HC10 := HC9.trans (HB10.mono HC9.size); have X10 := X9.below HB10; have Y10 := Y9.below HB10; obtain ⟨y80, y81, y82, y83, -, -, -, -⟩ := Y10.read; have b11 := below_alloc w10 (.cells #[.string ky, .int .i64 1, .int .i64 1, .string ⟨#[]⟩] 36); have Y11 := Y10.below b11; have X11 := X10.below b11; have HC11 := HC10.trans (b11.mono HC10.size)) | ((with_reducible refine (hEy w10).mono ?_); rintro e w12 ⟨v12, rfl, HO12, HB12⟩; obtain ⟨A12, c12, hv12, -⟩ := HO12.rd; rw [LY.out] at hv12; subst hv12; have HC12 := HC11.trans (HB12.mono HC11.size); have X12 := X11.below HB12; have Y12 := Y11.below HB12; obtain ⟨x90, x91, x92, x93, -, -, -, -⟩ := X12.read; obtain ⟨y90, y91, y92, y93, -, -, -, -⟩ := Y12.read)) | (go_at_call 11; refine (num_any _ _).mono ?_; rintro e w' ⟨rfl, rfl⟩) | (go_at_call 15; (with_reducible refine (hBf _).mono ?_); rintro e w13 ⟨rfl, HB13⟩; have HC13 := HC12.trans (HB13.mono HC12.size)))
  go_ret
  exact ⟨rfl, HC13⟩
end Go.Proofs.Ytfclmkbhfpjhjaa
end
