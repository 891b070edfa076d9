/- Bloom: the walk of places (the maker of the iterator), and the iterator's word. -/
import Derived.Test.YtmnecbmneljhkaaBlI
namespace Go.Proofs.Ytmnecbmneljhkaa
open Go.RowKit Go.Shelf Go.Proofs.YtmnecbmneljhkaaW.PrintWords
set_option linter.unusedVariables false

/-- the iterator's three boxes: the filter, low, high -/
structure Boxes (w : World) (c0 g0 : Nat) (K : Int) (A : Option Addr) (n c lo hi : Nat) : Prop where
  f : w.heap[c0]? = some (.cells #[.int .i64 K, .slice A n c] 27)
  lo : w.heap[g0]? = some (.cells #[.int .u64 (lo : Int)] 38)
  hi : w.heap[g0 + 1]? = some (.cells #[.int .u64 (hi : Int)] 38)
def iterF (c0 g0 : Nat) : Array Value := #[.pointer (some ⟨c0, 0, none⟩), .pointer (some ⟨g0, 0, none⟩), .pointer (some ⟨g0 + 1, 0, none⟩)]
set_option maxHeartbeats 800000 in
theorem places_any (K : Int) (A : Option Addr) (n c : Nat) (s : ByteArray) (hs : s.size ≤ 140737488355328) (w : World) :
    Calls Try.prog 28 #[fil K A n c, .string s] w fun e w' => ∃ g0, w.heap.size < g0 ∧ e = .returned (.func (.func 34) #[] (iterF w.heap.size g0)) ∧
      w'.heap.size = g0 + 2 ∧ Boxes w' w.heap.size g0 K A n c (plow (hash s)) (phigh (hash s)) ∧ Below w.heap.size w w' := by
  have hH := Hash_any s hs
  have h1 := low_int (hash s)
  have h2 := high_int (hash s)
  have hl : plow (hash s) < 4294967296 := Nat.mod_lt _ (by decide)
  have hh := phigh_lt (hash s)
  have hb := (hash s).isLt
  obtain ⟨N, hN⟩ : ∃ N, (hash s).toNat = N := ⟨_, rfl⟩
  have e1 : plow (hash s) = N % 4294967296 := by rw [plow, hN]
  rw [e1] at h1 hl ⊢
  rw [hN] at h1 h2 hb
  simp only [hN] at hH
  have e2 : N / 4294967296 < 4294967296 := by omega
  obtain ⟨M, hM⟩ : ∃ M, phigh (hash s) = M := ⟨_, rfl⟩
  rw [hM] at h2 hh ⊢
  have e3 : bits .or .u32 ((N : Int) / 4294967296) 1 = (M : Int) := by
    have h3 := u32_or_nat (N / 4294967296) 1 (by omega) (by decide)
    rw [show (((N / 4294967296 : Nat)) : Int) = (N : Int) / 4294967296 by omega] at h3
    rw [← hM, phigh, hN]
    exact h3
  clear e1 hN hM h1 h2
  unfold fil
  go_enter Try.func28, Try.ntmps28
  go_wp2_with (first | (go_at_call 15; refine (hH _).mono ?_; rintro e w1 ⟨rfl, HB1⟩))
  go_ret
  rw [show (N : Int) % 4294967296 = ((N % 4294967296 : Nat) : Int) by omega]
  have hz := HB1.size
  rw [World.size_alloc] at hz
  have q0 := heap_alloc_new w (.cells #[.int .i64 K, .slice A n c] 27)
  have q1 := (HB1.block w.heap.size (by simp)).trans q0
  have q2 := heap_alloc_new w1 (.cells #[.int .u64 ((N % 4294967296 : Nat) : Int)] 38)
  have q3 := heap_alloc_new (w1.alloc (.cells #[.int .u64 ((N % 4294967296 : Nat) : Int)] 38)) (.cells #[.int .u64 (M : Int)] 38)
  rw [World.size_alloc] at q3
  refine ⟨w1.heap.size, by omega, rfl, by simp, ⟨?_, ?_, q3⟩, ?_⟩
  · exact (Below.heap_alloc _ _ _ (by simp; omega)).trans ((Below.heap_alloc _ _ _ (by omega)).trans q1)
  · exact (Below.heap_alloc _ _ _ (by simp)).trans q2
  · exact ((((Below.refl _ w).alloc (Nat.le_refl _) _).trans (HB1.mono (by simp))).alloc (by omega) _).alloc (by simp; omega) _
theorem Boxes.same {A B : World} {c0 g0 : Nat} {K : Int} {a : Option Addr} {n c lo hi : Nat} (h : Boxes A c0 g0 K a n c lo hi) (h0 : B.heap[c0]? = A.heap[c0]?) (h1 : B.heap[g0]? = A.heap[g0]?) (h2 : B.heap[g0 + 1]? = A.heap[g0 + 1]?) : Boxes B c0 g0 K a n c lo hi :=
  ⟨h0.trans h.f, h1.trans h.lo, h2.trans h.hi⟩
theorem Boxes.set {A : World} {c0 g0 : Nat} {K : Int} {a : Option Addr} {n c lo hi : Nat} (h : Boxes A c0 g0 K a n c lo hi) (hne : c0 < g0) (lo' : Nat) : Boxes (A.setCell ⟨g0, 0, none⟩ (.int .u64 (lo' : Int))) c0 g0 K a n c lo' hi :=
  ⟨(Below.heap_setCell _ _ _ _ (show c0 ≠ g0 by omega)).trans h.f, blk_set h.lo 0 _, (Below.heap_setCell _ _ _ _ (show g0 + 1 ≠ g0 by omega)).trans h.hi⟩
/-- the place of round k -/
def placeL (lo hi n k : Nat) : Nat := (lo + k * hi) % 18446744073709551616 % (8 * n)
def valsF (lo hi n k : Nat) : Array Value := #[.int .i64 ((placeL lo hi n k / 8 : Nat) : Int), .int .u8 ((2 ^ (placeL lo hi n k % 8) : Nat) : Int)]
theorem and7_i64 (n : Int) : bits .and .i64 n 7 = n % 8 := by
  have h7 : (BitVec.ofInt 64 7).toNat = 2 ^ 3 - 1 := by decide
  have key : (BitVec.ofInt 64 n &&& BitVec.ofInt 64 7).toNat = (n % ((2 ^ 64 : Nat) : Int)).toNat % 2 ^ 3 := by
    rw [BitVec.toNat_and, BitVec.toNat_ofInt, h7, Nat.and_two_pow_sub_one_eq_mod]
  show IntKind.i64.wrap ((BitVec.ofInt 64 n &&& BitVec.ofInt 64 7).toNat : Nat) = n % 8
  rw [key, IntKind.wrap_i64]
  omega
theorem pow_bit (r : Nat) (hr : r < 8) : (2 : Int) ^ r % 256 = ((2 ^ r : Nat) : Int) := by
  match r, hr with
  | 0, _ => rfl
  | 1, _ => rfl
  | 2, _ => rfl
  | 3, _ => rfl
  | 4, _ => rfl
  | 5, _ => rfl
  | 6, _ => rfl
  | 7, _ => rfl
theorem wrap_mod (z n p : Nat) (hn : 1 ≤ n) (hn2 : n ≤ 140737488355328) (hp : z % (8 * n) = p) : wrap64 ((z : Int) % (8 * (n : Int))) = (p : Int) := by
  have hl : p < 8 * n := by rw [← hp]; exact Nat.mod_lt _ (by omega)
  rw [show (z : Int) % (8 * (n : Int)) = (p : Int) by rw [← hp]; simp]
  unfold wrap64
  omega
set_option maxHeartbeats 1600000 in
theorem iter_any (m n c lo hi c0 g0 : Nat) (A : Option Addr) (w : World) (hB : Boxes w c0 g0 (m : Int) A n c lo hi) (hm : m < 1000) (hn : 1 ≤ n) (hn2 : n ≤ 140737488355328) (hlo : lo < 18446744073709551616) (hhi : hi < 18446744073709551616) (hc : c0 < g0) (hg : g0 + 2 ≤ w.heap.size) :
    Iter Try.prog 34 (iterF c0 g0) c0 g0 m (valsF lo hi n) w := by
  intro d l J Jx W hW hsz hJ hR h0
  unfold iterF
  refine callsIn_of_wp Try.func34 rfl trivial ?_ rfl
  simp only [Try.ntmps34, List.size_toArray, List.length_cons, List.length_nil, Nat.reduceAdd, Nat.reduceSub, Array.replicate_succ, Array.replicate_zero, List.push_toArray, List.append_toArray, List.nil_append, List.cons_append]
  have hB1 : Boxes W c0 g0 (m : Int) A n c lo hi := hB.same (hW _ (Nat.le_refl _) (by omega)) (hW _ (by omega) (by omega)) (hW _ (by omega) (by omega))
  obtain ⟨b0, b1, b2, b3⟩ := two_read hB1.f
  gi_wp2
  gi_loopw [8] (fun i wr => ∃ k : Nat, k ≤ m ∧ i = .int .i64 (k : Int) ∧ J k wr ∧ Boxes wr c0 g0 (m : Int) A n c ((lo + k * hi) % 18446744073709551616) hi) (fun i wr => m - (intOf i).toNat)
  case atStart => exact ⟨0, by omega, rfl, h0, by rw [show (lo + 0 * hi) % 18446744073709551616 = lo by omega]; exact hB1⟩
  case round =>
    obtain ⟨k, hk, rfl, hJk, hBk⟩ := hrel
    by_cases hlt : k < m
    · obtain ⟨fn, tmps, assign, body, hy, hRd⟩ := hR k wr hlt hJk
      have hnext : (lo + (k + 1) * hi) % 18446744073709551616 = ((lo + k * hi) % 18446744073709551616 + hi) % 18446744073709551616 := by
        rw [Nat.add_mul, Nat.one_mul]; omega
      unfold valsF placeL at hy
      obtain ⟨z, hz⟩ : ∃ z, (lo + k * hi) % 18446744073709551616 = z := ⟨_, rfl⟩
      have hzl : z < 18446744073709551616 := by rw [← hz]; exact Nat.mod_lt _ (by decide)
      have HZ := hide hz
      rw [hz] at hBk hy hnext
      have HN := hide hnext
      clear hz hnext
      obtain ⟨p, hp⟩ : ∃ p, z % (8 * n) = p := ⟨_, rfl⟩
      have hpl : p < 8 * n := by rw [← hp]; exact Nat.mod_lt _ (by omega)
      rw [hp] at hy
      obtain ⟨a0, a1, a2, a3⟩ := two_read hBk.f
      have a4 := blk_cell hBk.lo 0
      have a5 := blk_frozen hBk.lo 0
      have a6 := blk_cell hBk.hi 0
      have hki : (k : Int) < (m : Int) := by omega
      have hw1 := wrap_mod z n p hn hn2 hp
      obtain ⟨q, hq⟩ : ∃ q, p / 8 = q := ⟨_, rfl⟩
      obtain ⟨r, hr⟩ : ∃ r, p % 8 = r := ⟨_, rfl⟩
      have hr8 : r < 8 := by rw [← hr]; exact Nat.mod_lt _ (by decide)
      have hw2 : (p : Int) / 8 = (q : Int) := by rw [← hq]; simp
      have hw3 : bits .and .i64 (p : Int) 7 = (r : Int) := by rw [and7_i64, ← hr]; simp
      have hw4 := pow_bit r hr8
      rw [hq, hr] at hy
      clear hq hr hp
      have H4 := hide hw4
      clear hw4
      generalize hT : ((2 ^ r : Nat) : Int) = t at *
      have hw4 := H4.out
      gi_wp2
      refine ⟨fun h => absurd h (by simp [Fence.wide]), hRd.mono ?_⟩
      rintro e B (⟨rfl, hJB, hkeep⟩ | ⟨rfl, hJx⟩)
      · have hBB : Boxes B c0 g0 (m : Int) A n c z hi := hBk.same (hkeep _ (Nat.le_refl _) (by omega)) (hkeep _ (by omega) (by omega)) (hkeep _ (by omega) (by omega))
        obtain ⟨d0, d1, d2, d3⟩ := two_read hBB.f
        have d4 := blk_cell hBB.lo 0
        have d5 := blk_frozen hBB.lo 0
        have d6 := blk_cell hBB.hi 0
        gi_wp2
        go_roundw
        case rel => exact ⟨k + 1, by omega, by go_num, hJ _ _ _ hJB, by rw [HN.out]; exact hBB.set hc _⟩
        case measure => simp [intOf]; omega
      · gi_wp2
        refine bodyPost_ret (results_none rfl _ _ _) rfl ?_
        exact ⟨⟨_, rfl⟩, .inr ⟨k, hlt, hJx⟩⟩
    · obtain rfl : k = m := by omega
      gi_wp2
      go_end0
      exact ⟨⟨_, rfl⟩, .inl hJk⟩
end Go.Proofs.Ytmnecbmneljhkaa
