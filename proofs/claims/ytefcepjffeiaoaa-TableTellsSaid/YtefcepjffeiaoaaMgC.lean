/- The contracts that the laws of this seat share: octets, sums, numbers, records. -/
import Derived.Test.YtefcepjffeiaoaaMgA
import Derived.Test.YtefcepjffeiaoaaMgB
import Derived.Lib.OwnBridge
import Derived.Lib.SlicesCompact
import Derived.Lib.SliceRun
import Derived.Deep.LoopGhost
import Derived.Deep.Draws
import Derived.Lib.SlBytesConst
import Derived.Deep.RegionHeld3
import Derived.Deep.RegionLaw
set_option linter.unusedVariables false
set_option linter.unusedSimpArgs false
section
/- Frame: the walk of Put. -/
namespace Go.Proofs.Ytefcepjffeiaoaa.Fr
open Go.RowKit Go.Proofs.YtefcepjffeiaoaaW.PrintWords
set_option linter.unusedVariables false

/-- of three, laid out for the call -/
theorem Concat_three (A1 A2 A3 : Option Addr) (c1 c2 c3 n1 n2 n3 n : Nat) (x1 x2 x3 : List UInt8) (W : World) (hn : W.heap.size = n) (h1 : RdB W A1 c1 x1) (h2 : RdB W A2 c2 x2) (h3 : RdB W A3 c3 x3) (l1 : x1.length = n1) (l2 : x2.length = n2) (l3 : x3.length = n3) (ht : x1.length + x2.length + x3.length ≤ 140737488355328) :
    Calls Try.prog 29 #[.slice (some ⟨n, 0, none⟩) 3 3] (W.alloc (.cells #[.slice A1 n1 c1, .slice A2 n2 c2, .slice A3 n3 c3] 23)) fun e w' => ∃ v, e = .returned v ∧ OwB w' W.heap.size v (x1 ++ (x2 ++ x3)) ∧ Below W.heap.size W w' := by
  subst hn
  subst l1
  subst l2
  subst l3
  have hb : Below W.heap.size W (W.alloc (.cells #[.slice A1 x1.length c1, .slice A2 x2.length c2, .slice A3 x3.length c3] 23)) := (Below.refl _ _).alloc (Nat.le_refl _) _
  refine (Concat_any (some ⟨W.heap.size, 0, none⟩) 3 [(A1, c1, x1), (A2, c2, x2), (A3, c3, x3)] _ ⟨rfl, by simp, fun _ => ⟨_, rfl, fun j hj => ?_⟩⟩ ?_ (by simp [total]; omega)).mono ?_
  · rw [add_plain, World.cell?_alloc_mark]
    have : j = 0 ∨ j = 1 ∨ j = 2 := by simp at hj; omega
    rcases this with rfl | rfl | rfl <;> rfl
  · intro s hs
    simp only [List.mem_cons, List.not_mem_nil, or_false] at hs
    rcases hs with rfl | rfl | rfl
    · exact h1.below hb
    · exact h2.below hb
    · exact h3.below hb
  · rintro e w' ⟨v, rfl, HO, HB⟩
    exact ⟨v, rfl, by simpa [joined] using HO.lower (by simp), hb.trans (HB.mono (by simp))⟩
theorem oneK (w : World) (K : Int) (h0 : 0 ≤ K) (h1 : K ≤ 255) : RdB (w.alloc (.cells #[.int .u8 K] 5)) (some ⟨w.heap.size, 0, none⟩) 1 [UInt8.ofNat K.toNat] := by
  have h : OwB (w.alloc (.cells #[.int .u8 K] 5)) w.heap.size (.slice (some ⟨w.heap.size, 0, none⟩) 1 1) [UInt8.ofNat K.toNat] := by
    have h := own_lit_of (enc := eu8) w w.heap.size 5 [UInt8.ofNat K.toNat] (Nat.le_refl _) (by simp)
    have e : (encs eu8 [UInt8.ofNat K.toNat]).toArray = #[Value.int .u8 K] := by
      simp [encs, eu8]
      omega
    rw [e] at h
    exact h
  exact h.rdl
set_option maxRecDepth 100000 in
set_option maxHeartbeats 1600000 in
theorem Put_ok (K : Int) (A : Option Addr) (c : Nat) (d : List UInt8) (w : World) (hx : RdB w A c d) (h0 : 0 ≤ K) (h1 : K ≤ 255) (hd : d.length ≤ 65536) :
    Calls Try.prog 71 #[fil K A d.length c] w fun e w' => ∃ v, e = .returned (.tuple #[v, .int .i64 0]) ∧ OwB w' w.heap.size v (guarded (bodyF K d)) ∧ Below w.heap.size w w' := by
  obtain ⟨n, hn⟩ : ∃ n, d.length = n := ⟨_, rfl⟩
  have hP0 := fun W => Put_any n (by omega) W
  obtain ⟨p, hp⟩ : ∃ p, put n = p := ⟨_, rfl⟩
  have hpl : p.length ≤ 9 := by rw [← hp, put_length]; exact vsize_le _
  rw [hp] at hP0
  have HBODY : Hid (bodyF K d = p ++ ([UInt8.ofNat K.toNat] ++ d)) := by rw [bodyF, hn, hp]; rfl
  have hbl : (bodyF K d).length + 4 ≤ 140737488355328 := by rw [bodyF_length]; have := vsize_le d.length; omega
  have hGd := fun A c W (h : RdB W A c (bodyF K d)) => Guard_any A c (bodyF K d) W h hbl
  obtain ⟨m, hm⟩ : ∃ m, (bodyF K d).length = m := ⟨_, rfl⟩
  rw [hm] at hGd
  have HM := hide hm
  have HN := hide hn
  rw [hn] at hd ⊢
  clear hn hp hm hbl
  obtain ⟨q, hq⟩ : ∃ q, p.length = q := ⟨_, rfl⟩
  have HQ := hide hq
  rw [hq] at hpl
  clear hq
  unfold fil
  have hx0 := hx.below (below_alloc w (.cells #[.int .i64 K, .slice A n c] 106))
  have X0 := Bx.new w K (.slice A n c) 106
  have B0 := below_alloc w (.cells #[.int .i64 K, .slice A n c] 106)
  have hw1 : K % 256 = K := by omega
  have hw2 : IntKind.u8.wrap K = K := by rw [IntKind.wrap_u8]; omega
  have hw3 : IntKind.u64.wrap (n : Int) = (n : Int) := by rw [IntKind.wrap_u64]; omega
  have hd1 : (n : Int) ≤ 65536 := by omega
  obtain ⟨p0, p1, p2, p3⟩ := X0.read
  go_enter Try.func71, Try.ntmps71
  go_wp2
  generalize w.alloc (.cells #[.int .i64 K, .slice A n c] 106) = W0 at *
  have hS0 : Below W0.heap.size W0 W0.drew ∧ W0.drew.cell? ⟨w.heap.size, 0, none⟩ = some (.int .i64 K) ∧ W0.drew.cell? ⟨w.heap.size, 1, none⟩ = some (.slice A n c) := ⟨(Below.refl _ _).drew, p0, p1⟩
  have hSk : ∀ W, Below W0.heap.size W0 W → W.cell? ⟨w.heap.size, 0, none⟩ = some (.int .i64 K) ∧ W.cell? ⟨w.heap.size, 1, none⟩ = some (.slice A n c) := fun W h => ⟨(h.cell (World.block_lt_of_cell? W0 _ p0)).trans p0, (h.cell (World.block_lt_of_cell? W0 _ p1)).trans p1⟩
  go_region_held3 (fun w' => Below W0.heap.size W0 w' ∧ w'.cell? ⟨w.heap.size, 0, none⟩ = some (.int .i64 K) ∧ w'.cell? ⟨w.heap.size, 1, none⟩ = some (.slice A n c)) (first | exact hS0 | assumption | exact ⟨HBt4, hSk _ HBt4⟩ | exact ⟨HBt3, hSk _ HBt3⟩ | exact ⟨HBt1, hSk _ HBt1⟩ | (have hh := ‹Below W0.heap.size W0 _ ∧ _ ∧ _›; exact ⟨hh.1.alloc hh.1.size _, hSk _ (hh.1.alloc hh.1.size _)⟩)) (first | (go_at_call 30; have hh := ‹Below W0.heap.size W0 _ ∧ _ ∧ _›; (with_reducible refine (hP0 _).mono ?_); rintro e w1 ⟨v1, rfl, HO1, HB1⟩; have HBt1 := hh.1.trans (HB1.mono hh.1.size); obtain ⟨A1, c1, hv1, hr1⟩ := HO1.rd; rw [HQ.out] at hv1; subst hv1) | (go_at_call 29; have hh := ‹Below W0.heap.size W0 _ ∧ _ ∧ _›; (first | (with_reducible refine (Concat_three A1 _ A c1 1 c q 1 n _ p [UInt8.ofNat K.toNat] d (w1.alloc (.cells #[.int .u8 K] 5)) (by simp) (hr1.below (below_alloc _ _)) (oneK w1 K h0 h1) (hx0.below (HBt1.alloc HBt1.size _)) HQ.out rfl HN.out (by rw [HQ.out, HN.out]; simp; omega)).mono ?_) | (with_reducible refine (Concat_three A1 _ A c1 1 c q 1 n _ p [UInt8.ofNat K.toNat] d w1 (by simp) hr1 (((oneK W0 K h0 h1).below (Below.refl _ _).drew).below HB1) (hx0.below HBt1) HQ.out rfl HN.out (by rw [HQ.out, HN.out]; simp; omega)).mono ?_)); rintro e w3 ⟨v3, rfl, HO3, HB3⟩; have HBt3 : Below W0.heap.size W0 w3 := (by first | exact (HBt1.alloc HBt1.size _).trans (HB3.mono (HBt1.alloc HBt1.size _).size) | exact HBt1.trans (HB3.mono HBt1.size)); rw [← HBODY.out] at HO3; obtain ⟨A3, c3, hv3, hr3⟩ := HO3.rd; rw [HM.out] at hv3; subst hv3) | (go_at_call 36; (with_reducible refine (hGd _ _ _ hr3).mono ?_); rintro e w4 ⟨v4, rfl, HO4, HB4⟩; have HBt4 := HBt3.trans (HB4.mono HBt3.size); replace HO4 := HO4.lower HBt3.size))
  all_goals go_wp2
  all_goals go_ret2
  all_goals exact ⟨_, rfl, HO4.lower B0.size, B0.trans (HBt4.mono B0.size)⟩
end Go.Proofs.Ytefcepjffeiaoaa.Fr
end

section
/- Frame: Put of any record; the walk of Get. -/
namespace Go.Proofs.Ytefcepjffeiaoaa.Fr
open Go.RowKit Go.Proofs.YtefcepjffeiaoaaW.PrintWords
set_option linter.unusedVariables false

set_option maxRecDepth 100000 in
set_option maxHeartbeats 800000 in
theorem FPut_any (K : Int) (A : Option Addr) (c : Nat) (d : List UInt8) (w : World) (hx : RdB w A c d) (hK : (Lit.int .i64 K).wf = true) :
    Calls Try.prog 71 #[fil K A d.length c] w fun e w' => ∃ v, e = .returned (.tuple #[v, .int .i64 (putFE K d.length)]) ∧ OwB w' w.heap.size v (putFX K d) ∧ Below w.heap.size w w' := by
  obtain ⟨k1, k2⟩ := i64_of K hK
  by_cases h1 : K < 0 ∨ 255 < K
  · have e1 : putFE K d.length = 22 := by rw [putFE, if_pos h1]
    have e2 : putFX K d = [] := by rw [putFX, e1]; rfl
    rw [e1, e2]
    have hw1 : ¬ K = K % 256 := by omega
    have hw2 : IntKind.u8.wrap K = K % 256 := IntKind.wrap_u8 K
    clear e1 e2
    unfold fil
    go_enter Try.func71, Try.ntmps71
    go_wp2
    go_ret2
    exact ⟨_, rfl, OwB.zero _ _, below_alloc _ _⟩
  · by_cases h2 : 65536 < d.length
    · have e1 : putFE K d.length = 5 := by rw [putFE, if_neg h1, if_pos h2]
      have e2 : putFX K d = [] := by rw [putFX, e1]; rfl
      rw [e1, e2]
      have hw1 : K % 256 = K := by omega
      have hw2 : IntKind.u8.wrap K = K := by rw [IntKind.wrap_u8]; omega
      have hm := hx.max
      have h3 : 65536 < (d.length : Int) := by omega
      clear e1 e2
      unfold fil
      go_enter Try.func71, Try.ntmps71
      go_wp2
      go_ret2
      exact ⟨_, rfl, OwB.zero _ _, below_alloc _ _⟩
    · have e1 : putFE K d.length = 0 := by rw [putFE, if_neg h1, if_neg h2]
      have e2 : putFX K d = guarded (bodyF K d) := by rw [putFX, if_pos e1]
      rw [e1, e2]
      exact Put_ok K A c d w hx (by omega) (by omega) (by omega)
set_option maxRecDepth 100000 in
set_option maxHeartbeats 1600000 in
theorem FGet_any (A : Option Addr) (c : Nat) (b : List UInt8) (w : World) (hx : RdB w A c b) (hl : b.length ≤ 140737488355328) :
    Calls Try.prog 83 #[.slice A b.length c] w fun e w' => ∃ A' c', e = .returned (.tuple #[fil (fgK b) A' (fgX b).length c', .int .i64 (fgS b : Int), .int .i64 (fgE b)]) ∧ OwB w' w.heap.size (.slice A' (fgX b).length c') (fgX b) ∧ Below w.heap.size w w' := by
  have hm := hx.max
  have hV := Get_any A c b _ (hx.below (below_alloc w (.cells #[.int .i64 0, .slice none 0 0] 106)))
  have R0 : (w.alloc (.cells #[.int .i64 0, .slice none 0 0] 106)).heap[w.heap.size]? = some (.cells #[.int .i64 0, .slice none 0 0] 106) := heap_alloc_new w _
  have B0 := below_alloc w (.cells #[.int .i64 0, .slice none 0 0] 106)
  have hlt : w.heap.size < (w.alloc (.cells #[.int .i64 0, .slice none 0 0] 106)).heap.size := by simp
  -- the refusals
  have refuse : fgE b ≠ 0 → fgK b = 0 ∧ fgX b = [] ∧ fgS b = 0 := fun h => ⟨by rw [fgK, if_neg h], by rw [fgX, if_neg h], by rw [fgS, if_neg h]⟩
  unfold fil
  by_cases h1 : getErr b = 0
  · obtain ⟨hk1, hk2⟩ : 1 ≤ gK b ∧ gK b ≤ b.length := by
      rw [gK, if_pos h1]
      exact ⟨by omega, (put_get b h1).2.1⟩
    by_cases h2 : 65536 < gN b
    · have e1 : fgE b = 5 := by rw [fgE, if_neg (fun h => h h1), if_pos h2]
      obtain ⟨r1, r2, r3⟩ := refuse (by rw [e1]; decide)
      rw [e1, r1, r2, r3]
      rw [h1] at hV
      have h2i : 65536 < (gN b : Int) := by omega
      clear e1 r1 r2 r3 refuse h1
      generalize gN b = n at *
      generalize gK b = k at *
      go_enter Try.func83, Try.ntmps83
      go_wp2_with (first | (go_at_call 102; refine hV.mono ?_; rintro e w1 ⟨rfl, HB1⟩; have R1 := (HB1.block _ hlt).trans R0; obtain ⟨k0, k1', k2', k3⟩ := two_read R1; replace B0 := B0.trans (HB1.mono B0.size)))
      obtain ⟨r0, r1, _, _⟩ := two_read (two_cells (u := .int .i64 0) (v := .slice none 0 0) R1)
      refine bodyPost_ret (v := .tuple #[.agg #[.int .i64 0, .slice none 0 0], .int .i64 0, .int .i64 5]) ?_ rfl ⟨none, 0, rfl, OwB.zero _ _, (B0.setCell (p := ⟨w.heap.size, 0, none⟩) (Nat.le_refl _) _).setCell (p := ⟨w.heap.size, 1, none⟩) (Nat.le_refl _) _⟩
      simp [results, Try.results83, go_sem, r0, r1]
    · by_cases h3 : b.length < gK b + 1 + gN b + 4
      · have e1 : fgE b = 8 := by rw [fgE, if_neg (fun h => h h1), if_neg h2, if_pos h3]
        obtain ⟨r1, r2, r3⟩ := refuse (by rw [e1]; decide)
        rw [e1, r1, r2, r3]
        rw [h1] at hV
        have h2i : ¬ 65536 < (gN b : Int) := by omega
        clear e1 r1 r2 r3 refuse h1
        generalize gN b = n at *
        generalize gK b = k at *
        obtain ⟨k1, hk1e⟩ : ∃ k1, k + 1 = k1 := ⟨_, rfl⟩
        obtain ⟨s, hse⟩ : ∃ s, k1 + n + 4 = s := ⟨_, rfl⟩
        have a1 : (k : Int) + 1 = (k1 : Int) := by omega
        have a2 : (k1 : Int) + (n : Int) + 4 = (s : Int) := by omega
        have a3 : (b.length : Int) < (s : Int) := by omega
        clear hse hk1e h3
        go_enter Try.func83, Try.ntmps83
        go_wp2_with (first | (go_at_call 102; refine hV.mono ?_; rintro e w1 ⟨rfl, HB1⟩; have R1 := (HB1.block _ hlt).trans R0; obtain ⟨k0, k1', k2', k3⟩ := two_read R1; replace B0 := B0.trans (HB1.mono B0.size)))
        obtain ⟨r0, r1, _, _⟩ := two_read (two_cells (u := .int .i64 0) (v := .slice none 0 0) R1)
        refine bodyPost_ret (v := .tuple #[.agg #[.int .i64 0, .slice none 0 0], .int .i64 0, .int .i64 8]) ?_ rfl ⟨none, 0, rfl, OwB.zero _ _, (B0.setCell (p := ⟨w.heap.size, 0, none⟩) (Nat.le_refl _) _).setCell (p := ⟨w.heap.size, 1, none⟩) (Nat.le_refl _) _⟩
        simp [results, Try.results83, go_sem, r0, r1]
      · have h2i : ¬ 65536 < (gN b : Int) := by omega
        have hle : gK b + 1 + gN b + 4 ≤ b.length := by omega
        have hxs := hx.take (gK b + 1 + gN b + 4) hle
        have hlen : (b.take (gK b + 1 + gN b + 4)).length = gK b + 1 + gN b + 4 := by rw [List.length_take]; omega
        have hBr := fun W (h : Below w.heap.size w W) => Bare_all A c (b.take (gK b + 1 + gN b + 4)) W (hxs.below h) (by omega)
        rw [hlen] at hBr
        have e0 : fgE b = bareNum (b.take (gK b + 1 + gN b + 4)) := by rw [fgE, if_neg (fun h => h h1), if_neg h2, if_neg h3]
        have hsl := fun W => slice_hi 23 5 Try.underlying23 (i := _) rfl rfl A b.length c (gK b + 1 + gN b + 4) (by have := hx.1; omega) W
        rw [h1] at hV
        by_cases hz : fgE b = 0
        · have e2 : fgK b = ((b.getD (gK b) 0).toNat : Int) := by rw [fgK, if_pos hz]
          have e3 : fgX b = (b.take (gK b + 1 + gN b)).drop (gK b + 1) := by rw [fgX, if_pos hz]
          have e4 : fgS b = gK b + 1 + gN b + 4 := by rw [fgS, if_pos hz]
          rw [← e0, hz] at hBr
          rw [hz, e2, e3, e4]
          obtain ⟨ad, rfl, hcell⟩ := hx.at_ (gK b) (by omega)
          have hxd := (hx.take (gK b + 1 + gN b) (by omega)).drop (gK b + 1) (by rw [List.length_take]; omega)
          have hdl : ((b.take (gK b + 1 + gN b)).drop (gK b + 1)).length = gN b := by rw [List.length_drop, List.length_take]; omega
          have hsl2 := fun W => slice_lohi 23 5 Try.underlying23 (i := _) rfl rfl (some ad) b.length c (gK b + 1) (gK b + 1 + gN b) (by omega) (by have := hx.1; omega) W
          rw [show gK b + 1 + gN b - (gK b + 1) = gN b by omega] at hsl2
          have hCl := fun W (h : Below w.heap.size w W) => Clone_any _ _ _ W (hxd.below h) (by rw [hdl]; omega)
          rw [hdl] at hCl
          have HDL := hide hdl
          rw [hdl]
          clear e0 e2 e3 e4 hz refuse hxs hlen hxd hdl h1 h3
          generalize (b.take (gK b + 1 + gN b)).drop (gK b + 1) = dx at *
          generalize gN b = n at *
          generalize gK b = k at *
          generalize b.getD k 0 = x at *
          generalize cutA (some ad) c (k + 1) = C at *
          obtain ⟨k1, hk1e⟩ : ∃ k1, k + 1 = k1 := ⟨_, rfl⟩
          rw [hk1e] at hsl2 hCl hsl hBr hle ⊢
          obtain ⟨t, hte⟩ : ∃ t, k1 + n = t := ⟨_, rfl⟩
          rw [hte] at hsl2 hsl hBr hle ⊢
          obtain ⟨s, hse⟩ : ∃ s, t + 4 = s := ⟨_, rfl⟩
          rw [hse] at hsl hBr hle ⊢
          have a1 : (k : Int) + 1 = (k1 : Int) := by omega
          have a2 : (k1 : Int) + (n : Int) = (t : Int) := by omega
          have a3 : (t : Int) + 4 = (s : Int) := by omega
          have a4 : (s : Int) - 4 = (t : Int) := by omega
          have a5 : ¬ (b.length : Int) < (s : Int) := by omega
          have a6 : (k : Int) < (b.length : Int) := by omega
          have a7 : k < b.length := by omega
          have hwx : IntKind.i64.wrap (x.toNat : Int) = (x.toNat : Int) := by have := x.toNat_lt; rw [IntKind.wrap_i64]; omega
          have hwk : IntKind.i64.wrap (k1 : Int) = (k1 : Int) := by rw [IntKind.wrap_i64]; omega
          have hwt : IntKind.i64.wrap (t : Int) = (t : Int) := by rw [IntKind.wrap_i64]; omega
          have hblt := World.block_lt_of_cell? w _ hcell
          have hSk : ∀ W, Below w.heap.size w W → W.cell? (ad.add k) = some (.int .u8 (x.toNat : Int)) := fun W h => (h.cell hblt).trans hcell
          clear hk1e hte hse
          go_enter Try.func83, Try.ntmps83
          go_wp2_with (first | (go_at_call 102; refine hV.mono ?_; rintro e w1 ⟨rfl, HB1⟩; have R1 := (HB1.block _ hlt).trans R0; replace B0 := B0.trans (HB1.mono B0.size)) | (go_at_call 46; (with_reducible refine (hBr _ B0).mono ?_); rintro e w2 ⟨v2, rfl, HO2, HB2⟩; have R2 := (HB2.block _ (Array.getElem?_eq_some_iff.1 R1).1).trans R1; replace B0 := B0.trans (HB2.mono B0.size)))
          have hS0 : Below w.heap.size w w2.drew ∧ w2.drew.cell? (ad.add k) = some (.int .u8 (x.toNat : Int)) := ⟨B0.drew, hSk _ B0.drew⟩
          go_region_held3 (fun w' => Below w.heap.size w w' ∧ w'.cell? (ad.add k) = some (.int .u8 (x.toNat : Int))) (first | exact hS0 | exact ⟨HBt, hSk _ HBt⟩ | exact ⟨(HBt.setCell (p := ⟨w.heap.size, 0, none⟩) (Nat.le_refl _) _).setCell (p := ⟨w.heap.size, 1, none⟩) (Nat.le_refl _) _, hSk _ ((HBt.setCell (p := ⟨w.heap.size, 0, none⟩) (Nat.le_refl _) _).setCell (p := ⟨w.heap.size, 1, none⟩) (Nat.le_refl _) _)⟩) (first | (go_at_call 69; (with_reducible refine (hCl _ B0.drew).mono ?_); rintro e w3 ⟨v3, rfl, HO3, HB3⟩; have HBt := B0.drew.trans (HB3.mono B0.drew.size); have R3 : w3.heap[w.heap.size]? = some (.cells #[.int .i64 0, .slice none 0 0] 106) := (HB3.block _ (Array.getElem?_eq_some_iff.1 R2).1).trans R2; obtain ⟨k2, k3, k4, k5⟩ := two_read R3; obtain ⟨A3, c3, hv3, hr3⟩ := HO3.rd; rw [HDL.out] at hv3; subst hv3))
          go_wp2
          obtain ⟨r0, r1, _, _⟩ := two_read (two_cells (u := .int .i64 (x.toNat : Int)) (v := .slice A3 n c3) R3)
          have hne : some w.heap.size ≠ (Value.slice A3 n c3).ownBlock := own_ne HO3 R3 (by decide)
          have HO4 := own_setCell (own_setCell HO3 (p := ⟨w.heap.size, 0, none⟩) hne (.int .i64 (x.toNat : Int))) (p := ⟨w.heap.size, 1, none⟩) hne (.slice A3 n c3)
          refine bodyPost_ret (v := .tuple #[.agg #[.int .i64 (x.toNat : Int), .slice A3 n c3], .int .i64 (s : Int), .int .i64 0]) ?_ rfl ⟨A3, c3, rfl, OwB.lower HO4 B0.drew.size, (HBt.setCell (p := ⟨w.heap.size, 0, none⟩) (Nat.le_refl _) _).setCell (p := ⟨w.heap.size, 1, none⟩) (Nat.le_refl _) _⟩
          simp [results, Try.results83, go_sem, r0, r1]
        · obtain ⟨r1, r2, r3⟩ := refuse hz
          rw [← e0] at hBr
          rw [r1, r2, r3]
          generalize fgE b = z at *
          clear e0 r1 r2 r3 refuse hxs hlen h1 h3
          generalize gN b = n at *
          generalize gK b = k at *
          obtain ⟨k1, hk1e⟩ : ∃ k1, k + 1 = k1 := ⟨_, rfl⟩
          rw [hk1e] at hsl hBr hle
          obtain ⟨s, hse⟩ : ∃ s, k1 + n + 4 = s := ⟨_, rfl⟩
          rw [hse] at hsl hBr hle
          have a1 : (k : Int) + 1 = (k1 : Int) := by omega
          have a2 : (k1 : Int) + (n : Int) + 4 = (s : Int) := by omega
          have a5 : ¬ (b.length : Int) < (s : Int) := by omega
          clear hk1e hse
          go_enter Try.func83, Try.ntmps83
          go_wp2_with (first | (go_at_call 102; refine hV.mono ?_; rintro e w1 ⟨rfl, HB1⟩; have R1 := (HB1.block _ hlt).trans R0; replace B0 := B0.trans (HB1.mono B0.size)) | (go_at_call 46; (with_reducible refine (hBr _ B0).mono ?_); rintro e w2 ⟨v2, rfl, HO2, HB2⟩; have R2 := (HB2.block _ (Array.getElem?_eq_some_iff.1 R1).1).trans R1; obtain ⟨k0, k1', k2', k3⟩ := two_read R2; replace B0 := B0.trans (HB2.mono B0.size)))
          obtain ⟨r0, r1, _, _⟩ := two_read (two_cells (u := .int .i64 0) (v := .slice none 0 0) R2)
          refine bodyPost_ret (v := .tuple #[.agg #[.int .i64 0, .slice none 0 0], .int .i64 0, .int .i64 z]) ?_ rfl ⟨none, 0, rfl, OwB.zero _ _, (B0.setCell (p := ⟨w.heap.size, 0, none⟩) (Nat.le_refl _) _).setCell (p := ⟨w.heap.size, 1, none⟩) (Nat.le_refl _) _⟩
          simp [results, Try.results83, go_sem, r0, r1]
  · have e1 : fgE b = (getErr b : Int) := by rw [fgE, if_pos h1]
    obtain ⟨r1, r2, r3⟩ := refuse (by rw [e1]; omega)
    rw [e1, r1, r2, r3]
    generalize gN b = n at *
    generalize gK b = k at *
    generalize getErr b = x at *
    have hxi : ¬ (x : Int) = 0 := by omega
    clear e1 r1 r2 r3 refuse h1
    go_enter Try.func83, Try.ntmps83
    go_wp2_with (first | (go_at_call 102; refine hV.mono ?_; rintro e w1 ⟨rfl, HB1⟩; have R1 := (HB1.block _ hlt).trans R0; obtain ⟨k0, k1', k2', k3⟩ := two_read R1; replace B0 := B0.trans (HB1.mono B0.size)))
    obtain ⟨r0, r1, _, _⟩ := two_read (two_cells (u := .int .i64 0) (v := .slice none 0 0) R1)
    refine bodyPost_ret (v := .tuple #[.agg #[.int .i64 0, .slice none 0 0], .int .i64 0, .int .i64 (x : Int)]) ?_ rfl ⟨none, 0, rfl, OwB.zero _ _, (B0.setCell (p := ⟨w.heap.size, 0, none⟩) (Nat.le_refl _) _).setCell (p := ⟨w.heap.size, 1, none⟩) (Nat.le_refl _) _⟩
    simp [results, Try.results83, go_sem, r0, r1]
end Go.Proofs.Ytefcepjffeiaoaa.Fr
end

section
/- Frame: the walk of the reference's Put. -/
namespace Go.Proofs.Ytefcepjffeiaoaa.Fr
open Go.RowKit Go.Proofs.YtefcepjffeiaoaaW.PrintWords
set_option linter.unusedVariables false

set_option maxRecDepth 100000 in
set_option maxHeartbeats 1600000 in
theorem rPut_ok (K : Int) (A : Option Addr) (c : Nat) (d : List UInt8) (w : World) (hx : RdB w A c d) (h0 : 0 ≤ K) (h1 : K ≤ 255) (hd : d.length ≤ 65536) :
    Calls Try.prog 40 #[fil K A d.length c] w fun e w' => ∃ v, e = .returned (.tuple #[v, .int .i64 0]) ∧ OwB w' w.heap.size v (guarded (bodyF K d)) ∧ Below w.heap.size w w' := by
  obtain ⟨n, hn⟩ : ∃ n, d.length = n := ⟨_, rfl⟩
  have hP0 := fun W => rPut_any n (by omega) W
  obtain ⟨p, hp⟩ : ∃ p, put n = p := ⟨_, rfl⟩
  have hpl : p.length ≤ 9 := by rw [← hp, put_length]; exact vsize_le _
  rw [hp] at hP0
  have HBODY : Hid (bodyF K d = (p ++ [UInt8.ofNat K.toNat]) ++ d) := by rw [bodyF, hn, hp]; exact hide (by simp)
  have hbl : (bodyF K d).length + 4 ≤ 140737488355328 := by rw [bodyF_length]; have := vsize_le d.length; omega
  have hGd := fun A c W (h : RdB W A c (bodyF K d)) => rGuard_any A c (bodyF K d) W h hbl
  obtain ⟨m, hm⟩ : ∃ m, (bodyF K d).length = m := ⟨_, rfl⟩
  rw [hm] at hGd
  have HM := hide hm
  have HN := hide hn
  have hdl : (p ++ [UInt8.ofNat K.toNat]).length + d.length ≤ 140737488355328 := by simp; omega
  have hpl1 : p.length + 1 ≤ 140737488355328 := by omega
  have HDL := hide hdl
  have HPL := hide hpl1
  rw [hn] at hd ⊢
  clear hn hp hm hbl hdl hpl1 hpl
  unfold fil
  have hx0 := hx.below (below_alloc w (.cells #[.int .i64 K, .slice A n c] 81))
  have X0 := Bx.new w K (.slice A n c) 81
  have B0 := below_alloc w (.cells #[.int .i64 K, .slice A n c] 81)
  have hw1 : K % 256 = K := by omega
  have hw2 : IntKind.u8.wrap K = K := by rw [IntKind.wrap_u8]; omega
  have hw3 : IntKind.u64.wrap (n : Int) = (n : Int) := by rw [IntKind.wrap_u64]; omega
  have hk0 : ¬ K < 0 := by omega
  have hk1 : ¬ 255 < K := by omega
  have hd1 : ¬ 65536 < (n : Int) := by omega
  obtain ⟨p0, p1, p2, p3⟩ := X0.read
  go_enter Try.func40, Try.ntmps40
  go_wp2
  generalize w.alloc (.cells #[.int .i64 K, .slice A n c] 81) = W0 at *
  have hS0 : Below W0.heap.size W0 W0.drew ∧ W0.drew.cell? ⟨w.heap.size, 0, none⟩ = some (.int .i64 K) ∧ W0.drew.cell? ⟨w.heap.size, 1, none⟩ = some (.slice A n c) := ⟨(Below.refl _ _).drew, p0, p1⟩
  have hSk : ∀ W, Below W0.heap.size W0 W → W.cell? ⟨w.heap.size, 0, none⟩ = some (.int .i64 K) ∧ W.cell? ⟨w.heap.size, 1, none⟩ = some (.slice A n c) := fun W h => ⟨(h.cell (World.block_lt_of_cell? W0 _ p0)).trans p0, (h.cell (World.block_lt_of_cell? W0 _ p1)).trans p1⟩
  go_region_held3 (fun w' => Below W0.heap.size W0 w' ∧ w'.cell? ⟨w.heap.size, 0, none⟩ = some (.int .i64 K) ∧ w'.cell? ⟨w.heap.size, 1, none⟩ = some (.slice A n c)) (first | exact hS0 | assumption | exact ⟨HBt5, hSk _ HBt5⟩ | exact ⟨HBt1, hSk _ HBt1⟩ | (have hh := ‹Below W0.heap.size W0 _ ∧ _ ∧ _›; exact ⟨hh.1.alloc hh.1.size _, hSk _ (hh.1.alloc hh.1.size _)⟩)) (first | (go_at_call 39; have hh := ‹Below W0.heap.size W0 _ ∧ _ ∧ _›; (with_reducible refine (hP0 _).mono ?_); rintro e w1 ⟨v1, rfl, HO1, HB1⟩; have HBt1 := hh.1.trans (HB1.mono hh.1.size); replace HO1 := HO1.lower hh.1.size) | ((first | refine step_row (w0 := W0) (W := w1) W0.heap.size (by rfl) (.tmp 23) (.tmp 27) rfl v1 p [UInt8.ofNat K.toNat] _ 1 rfl rfl HO1 (((oneK W0 K h0 h1).below (Below.refl _ _).drew).below HB1) HBt1 HBt1.size HPL.out ?_ | refine step_row (w0 := W0) (W := w1.alloc (.cells #[.int .u8 K] 5)) W0.heap.size (by rfl) (.tmp 23) (.tmp 27) rfl v1 p [UInt8.ofNat K.toNat] _ 1 rfl rfl (HO1.below (below_alloc _ _)) (oneK w1 K h0 h1) (HBt1.alloc HBt1.size _) (HBt1.alloc HBt1.size _).size HPL.out ?_); intro v5 w5 HO5 HBt5 hg5))
  all_goals (obtain ⟨q0, q1⟩ := hSk _ HBt5; have hx5 := hx0.below HBt5; clear p0 p1)
  all_goals go_wp2_with (first | (at_builtin; refine app_row (w0 := W0) W0.heap.size rfl (.tmp 29) (.tmp 31) rfl v5 (p ++ [UInt8.ofNat K.toNat]) d A c rfl (by rw [HN.out]; rfl) HO5 hx5 HBt5 HBt5.size HDL.out ?_; intro v6 w6 HO6 HB6 hg6 hat6; rw [← HBODY.out] at HO6; obtain ⟨A6, c6, hv6, hr6⟩ := HO6.rd; rw [HM.out] at hv6; subst hv6) | (go_at_call 45; (with_reducible refine (hGd _ _ _ hr6).mono ?_); rintro e w7 ⟨v7, rfl, HO7, HB7⟩; have HBt7 := HB6.trans (HB7.mono HB6.size); replace HO7 := HO7.lower HB6.size))
  all_goals go_ret2
  all_goals exact ⟨_, rfl, HO7.lower B0.size, B0.trans (HBt7.mono B0.size)⟩
set_option maxRecDepth 100000 in
set_option maxHeartbeats 800000 in
theorem rFPut_any (K : Int) (A : Option Addr) (c : Nat) (d : List UInt8) (w : World) (hx : RdB w A c d) :
    Calls Try.prog 40 #[fil K A d.length c] w fun e w' => ∃ v, e = .returned (.tuple #[v, .int .i64 (putFE K d.length)]) ∧ OwB w' w.heap.size v (putFX K d) ∧ Below w.heap.size w w' := by
  by_cases h1 : K < 0 ∨ 255 < K
  · have e1 : putFE K d.length = 22 := by rw [putFE, if_pos h1]
    have e2 : putFX K d = [] := by rw [putFX, if_neg (by rw [e1]; decide)]
    rw [e1, e2]
    obtain ⟨n, hn⟩ : ∃ n, d.length = n := ⟨_, rfl⟩
    rw [hn]
    clear hn e1 e2
    unfold fil
    have X0 := Bx.new w K (.slice A n c) 81
    have B0 := below_alloc w (.cells #[.int .i64 K, .slice A n c] 81)
    obtain ⟨p0, p1, p2, p3⟩ := X0.read
    by_cases h : K < 0
    · go_enter Try.func40, Try.ntmps40
      go_wp2
      go_ret2
      exact ⟨_, rfl, OwB.zero _ _, B0⟩
    · have hk0 : ¬ K < 0 := by omega
      have hk1 : 255 < K := by omega
      go_enter Try.func40, Try.ntmps40
      go_wp2
      go_ret2
      exact ⟨_, rfl, OwB.zero _ _, B0⟩
  · by_cases h2 : 65536 < d.length
    · have e1 : putFE K d.length = 5 := by rw [putFE, if_neg h1, if_pos h2]
      have e2 : putFX K d = [] := by rw [putFX, if_neg (by rw [e1]; decide)]
      rw [e1, e2]
      obtain ⟨n, hn⟩ : ∃ n, d.length = n := ⟨_, rfl⟩
      rw [hn] at h2 ⊢
      clear hn e1 e2
      unfold fil
      have X0 := Bx.new w K (.slice A n c) 81
      have B0 := below_alloc w (.cells #[.int .i64 K, .slice A n c] 81)
      obtain ⟨p0, p1, p2, p3⟩ := X0.read
      have hk0 : ¬ K < 0 := by omega
      have hk1 : ¬ 255 < K := by omega
      have hn1 : 65536 < (n : Int) := by omega
      clear h1 h2
      go_enter Try.func40, Try.ntmps40
      go_wp2
      go_ret2
      exact ⟨_, rfl, OwB.zero _ _, B0⟩
    · have e1 : putFE K d.length = 0 := by rw [putFE, if_neg h1, if_neg h2]
      have e2 : putFX K d = guarded (bodyF K d) := by rw [putFX, if_pos e1]
      rw [e1, e2]
      exact rPut_ok K A c d w hx (by omega) (by omega) (by omega)
end Go.Proofs.Ytefcepjffeiaoaa.Fr
end

section
/- Frame: the walk of the reference's Get. -/
namespace Go.Proofs.Ytefcepjffeiaoaa.Fr
open Go.RowKit Go.Proofs.YtefcepjffeiaoaaW.PrintWords
set_option linter.unusedVariables false

theorem bare_take (b : List UInt8) (n : Nat) (h4 : 4 ≤ n) (hn : n ≤ b.length) (h : bareNum (b.take n) = 0) : bare (b.take n) = b.take (n - 4) := by
  have hl : (b.take n).length = n := by rw [List.length_take]; omega
  unfold bareNum at h
  rw [hl, if_neg (by omega)] at h
  unfold bare
  rw [hl]
  by_cases hg : guarded ((b.take n).take (n - 4)) = b.take n
  · rw [if_pos ⟨h4, hg⟩, List.take_take, Nat.min_eq_left (by omega)]
  · rw [if_neg hg] at h
    cases h
set_option maxRecDepth 100000 in
set_option maxHeartbeats 1600000 in
theorem rFGet_any (A : Option Addr) (c : Nat) (b : List UInt8) (w : World) (hx : RdB w A c b) (hl : b.length ≤ 140737488355328) :
    Calls Try.prog 86 #[.slice A b.length c] w fun e w' => ∃ A' c', e = .returned (.tuple #[fil (fgK b) A' (fgX b).length c', .int .i64 (fgS b : Int), .int .i64 (fgE b)]) ∧ OwB w' w.heap.size (.slice A' (fgX b).length c') (fgX b) ∧ Below w.heap.size w w' := by
  have hm := hx.max
  have hV := rGet_any A c b _ (hx.below (below_alloc w (.cells #[.int .i64 0, .slice none 0 0] 81)))
  have R0 : (w.alloc (.cells #[.int .i64 0, .slice none 0 0] 81)).heap[w.heap.size]? = some (.cells #[.int .i64 0, .slice none 0 0] 81) := heap_alloc_new w _
  have B0 := below_alloc w (.cells #[.int .i64 0, .slice none 0 0] 81)
  have hlt : w.heap.size < (w.alloc (.cells #[.int .i64 0, .slice none 0 0] 81)).heap.size := by simp
  have refuse : fgE b ≠ 0 → fgK b = 0 ∧ fgX b = [] ∧ fgS b = 0 := fun h => ⟨by rw [fgK, if_neg h], by rw [fgX, if_neg h], by rw [fgS, if_neg h]⟩
  unfold fil
  by_cases h1 : getErr b = 0
  · obtain ⟨hk1, hk2⟩ : 1 ≤ gK b ∧ gK b ≤ b.length := by
      rw [gK, if_pos h1]
      exact ⟨by omega, (put_get b h1).2.1⟩
    by_cases h2 : 65536 < gN b
    · have e1 : fgE b = 5 := by rw [fgE, if_neg (fun h => h h1), if_pos h2]
      obtain ⟨r1, r2, r3⟩ := refuse (by rw [e1]; decide)
      rw [e1, r1, r2, r3]
      rw [h1] at hV
      have h2i : 65536 < (gN b : Int) := by omega
      clear e1 r1 r2 r3 refuse h1
      generalize gN b = n at *
      generalize gK b = k at *
      go_enter Try.func86, Try.ntmps86
      go_wp2_with (first | (go_at_call 87; refine hV.mono ?_; rintro e w1 ⟨rfl, HB1⟩; have R1 := (HB1.block _ hlt).trans R0; obtain ⟨k0, k1', k2', k3⟩ := two_read R1; replace B0 := B0.trans (HB1.mono B0.size)))
      obtain ⟨r0, r1, _, _⟩ := two_read (two_cells (u := .int .i64 0) (v := .slice none 0 0) R1)
      refine bodyPost_ret (v := .tuple #[.agg #[.int .i64 0, .slice none 0 0], .int .i64 0, .int .i64 5]) ?_ rfl ⟨none, 0, rfl, OwB.zero _ _, (B0.setCell (p := ⟨w.heap.size, 0, none⟩) (Nat.le_refl _) _).setCell (p := ⟨w.heap.size, 1, none⟩) (Nat.le_refl _) _⟩
      simp [results, Try.results86, go_sem, r0, r1]
    · by_cases h3 : b.length < gK b + 1 + gN b + 4
      · have e1 : fgE b = 8 := by rw [fgE, if_neg (fun h => h h1), if_neg h2, if_pos h3]
        obtain ⟨r1, r2, r3⟩ := refuse (by rw [e1]; decide)
        rw [e1, r1, r2, r3]
        rw [h1] at hV
        have h2i : ¬ 65536 < (gN b : Int) := by omega
        clear e1 r1 r2 r3 refuse h1
        generalize gN b = n at *
        generalize gK b = k at *
        obtain ⟨k1, hk1e⟩ : ∃ k1, k + 1 = k1 := ⟨_, rfl⟩
        obtain ⟨s, hse⟩ : ∃ s, k1 + n + 4 = s := ⟨_, rfl⟩
        have a1 : (k : Int) + 1 = (k1 : Int) := by omega
        have a2 : (k1 : Int) + (n : Int) + 4 = (s : Int) := by omega
        have a3 : (b.length : Int) < (s : Int) := by omega
        clear hse hk1e h3
        go_enter Try.func86, Try.ntmps86
        go_wp2_with (first | (go_at_call 87; refine hV.mono ?_; rintro e w1 ⟨rfl, HB1⟩; have R1 := (HB1.block _ hlt).trans R0; obtain ⟨k0, k1', k2', k3⟩ := two_read R1; replace B0 := B0.trans (HB1.mono B0.size)))
        obtain ⟨r0, r1, _, _⟩ := two_read (two_cells (u := .int .i64 0) (v := .slice none 0 0) R1)
        refine bodyPost_ret (v := .tuple #[.agg #[.int .i64 0, .slice none 0 0], .int .i64 0, .int .i64 8]) ?_ rfl ⟨none, 0, rfl, OwB.zero _ _, (B0.setCell (p := ⟨w.heap.size, 0, none⟩) (Nat.le_refl _) _).setCell (p := ⟨w.heap.size, 1, none⟩) (Nat.le_refl _) _⟩
        simp [results, Try.results86, go_sem, r0, r1]
      · have h2i : ¬ 65536 < (gN b : Int) := by omega
        have hle : gK b + 1 + gN b + 4 ≤ b.length := by omega
        have hxs := hx.take (gK b + 1 + gN b + 4) hle
        have hlen : (b.take (gK b + 1 + gN b + 4)).length = gK b + 1 + gN b + 4 := by rw [List.length_take]; omega
        have hBr := fun W (h : Below w.heap.size w W) => rBare_all A c (b.take (gK b + 1 + gN b + 4)) W (hxs.below h) (by omega)
        rw [hlen] at hBr
        have e0 : fgE b = bareNum (b.take (gK b + 1 + gN b + 4)) := by rw [fgE, if_neg (fun h => h h1), if_neg h2, if_neg h3]
        have hsl := fun W => slice_hi 23 5 Try.underlying23 (i := _) rfl rfl A b.length c (gK b + 1 + gN b + 4) (by have := hx.1; omega) W
        rw [h1] at hV
        by_cases hz : fgE b = 0
        · have e2 : fgK b = ((b.getD (gK b) 0).toNat : Int) := by rw [fgK, if_pos hz]
          have e3 : fgX b = (b.take (gK b + 1 + gN b)).drop (gK b + 1) := by rw [fgX, if_pos hz]
          have e4 : fgS b = gK b + 1 + gN b + 4 := by rw [fgS, if_pos hz]
          have e5 := bare_take b (gK b + 1 + gN b + 4) (by omega) hle (by rw [← e0]; exact hz)
          rw [show gK b + 1 + gN b + 4 - 4 = gK b + 1 + gN b by omega] at e5
          rw [← e0, hz, e5] at hBr
          rw [hz, e2, e3, e4]
          have hXl : (b.take (gK b + 1 + gN b)).length = gK b + 1 + gN b := by rw [List.length_take]; omega
          have hXk : (b.take (gK b + 1 + gN b)).getD (gK b) 0 = b.getD (gK b) 0 := by
            rw [List.getD_eq_getElem?_getD, List.getD_eq_getElem?_getD, List.getElem?_take_of_lt (by omega)]
          have hdl : ((b.take (gK b + 1 + gN b)).drop (gK b + 1)).length = gN b := by rw [List.length_drop, hXl]; omega
          have hsl2 := fun (A2 : Option Addr) c2 W => slice_lo 23 5 Try.underlying23 (i := _) rfl rfl A2 (gK b + 1 + gN b) c2 (gK b + 1) (by omega) W
          rw [show gK b + 1 + gN b - (gK b + 1) = gN b by omega] at hsl2
          have hCl := fun A2 c2 W (h : RdB W A2 c2 ((b.take (gK b + 1 + gN b)).drop (gK b + 1))) => Copied_any A2 c2 _ W h (by rw [hdl]; omega)
          rw [hdl] at hCl
          have HDL := hide hdl
          rw [hdl]
          have hdr := fun A2 c2 W (h : RdB W A2 c2 (b.take (gK b + 1 + gN b))) => h.drop (gK b + 1) (by rw [hXl]; omega)
          have HXL := hide hXl
          have HXK := hide hXk
          clear e0 e2 e3 e4 e5 hz refuse hxs hlen h1 h3 hXl hXk hdl
          generalize (b.take (gK b + 1 + gN b)).drop (gK b + 1) = dx at *
          generalize b.take (gK b + 1 + gN b) = X at *
          generalize gN b = n at *
          generalize gK b = k at *
          generalize b.getD k 0 = x at *
          obtain ⟨k1, hk1e⟩ : ∃ k1, k + 1 = k1 := ⟨_, rfl⟩
          rw [hk1e] at hsl2 hsl hBr hle HXL hdr ⊢
          obtain ⟨t, hte⟩ : ∃ t, k1 + n = t := ⟨_, rfl⟩
          rw [hte] at hsl2 hsl hBr hle HXL ⊢
          obtain ⟨s, hse⟩ : ∃ s, t + 4 = s := ⟨_, rfl⟩
          rw [hse] at hsl hBr hle ⊢
          have a1 : (k : Int) + 1 = (k1 : Int) := by omega
          have a2 : (k1 : Int) + (n : Int) = (t : Int) := by omega
          have a3 : (t : Int) + 4 = (s : Int) := by omega
          have a5 : ¬ (b.length : Int) < (s : Int) := by omega
          have a6 : (k : Int) < (t : Int) := by omega
          have a7 : k < t := by omega
          have hwx : IntKind.i64.wrap (x.toNat : Int) = (x.toNat : Int) := by have := x.toNat_lt; rw [IntKind.wrap_i64]; omega
          have hwk : IntKind.i64.wrap (k1 : Int) = (k1 : Int) := by rw [IntKind.wrap_i64]; omega
          have hkX : Hid (k < X.length) := hide (by rw [HXL.out]; exact a7)
          clear hk1e hte hse
          go_enter Try.func86, Try.ntmps86
          go_wp2_with (first | (go_at_call 87; refine hV.mono ?_; rintro e w1 ⟨rfl, HB1⟩; have R1 := (HB1.block _ hlt).trans R0; replace B0 := B0.trans (HB1.mono B0.size)) | (go_at_call 51; (with_reducible refine (hBr _ B0).mono ?_); rintro e w2 ⟨v2, rfl, HO2, HB2⟩; have R2 := (HB2.block _ (Array.getElem?_eq_some_iff.1 R1).1).trans R1; replace B0 := B0.trans (HB2.mono B0.size); have hne2 := own_ne HO2 R2 (by decide); obtain ⟨g, cap, hv2, hgb, hgl, hcell, hfr, hset⟩ := HO2.set_ k hkX.out; rw [HXL.out] at hv2; subst hv2; rw [HXK.out] at hcell; clear hset))
          have hgw : (⟨g, k, none⟩ : Addr).block ≠ w.heap.size := fun e => hne2 (by rw [← e]; rfl)
          have hS0 : Below w.heap.size w w2.drew ∧ w2.drew.cell? ⟨g, k, none⟩ = some (.int .u8 (x.toNat : Int)) := ⟨B0.drew, hcell⟩
          have hSk : ∀ W, Below w2.heap.size w2 W → Below w.heap.size w W ∧ W.cell? ⟨g, k, none⟩ = some (.int .u8 (x.toNat : Int)) := fun W h => ⟨B0.trans (h.mono B0.size), (h.cell hgl).trans hcell⟩
          have hSt : ∀ (W : World) (u v : Value), Below w.heap.size w W ∧ W.cell? ⟨g, k, none⟩ = some (.int .u8 (x.toNat : Int)) → Below w.heap.size w ((W.setCell ⟨w.heap.size, 0, none⟩ u).setCell ⟨w.heap.size, 1, none⟩ v) ∧ ((W.setCell ⟨w.heap.size, 0, none⟩ u).setCell ⟨w.heap.size, 1, none⟩ v).cell? ⟨g, k, none⟩ = some (.int .u8 (x.toNat : Int)) := fun W u v h =>
            ⟨(h.1.setCell (p := ⟨w.heap.size, 0, none⟩) (Nat.le_refl _) _).setCell (p := ⟨w.heap.size, 1, none⟩) (Nat.le_refl _) _, by
              rw [World.cell?_setCell_other (h := fun e => hgw (congrArg Addr.block e).symm), World.cell?_setCell_other (h := fun e => hgw (congrArg Addr.block e).symm)]
              exact h.2⟩
          go_region_held3 (fun w' => Below w.heap.size w w' ∧ w'.cell? ⟨g, k, none⟩ = some (.int .u8 (x.toNat : Int))) (first | exact hS0 | assumption | exact hSk _ HBt | exact hSt _ _ _ (hSk _ HBt)) (first | (go_at_call 82; (with_reducible refine (hCl _ _ _ ((hdr _ _ _ HO2.rdl).below (Below.refl _ _).drew)).mono ?_); rintro e w3 ⟨v3, rfl, HO3, HB3⟩; have HBt : Below w2.heap.size w2 w3 := (Below.refl _ _).drew.trans HB3; have R3 : w3.heap[w.heap.size]? = some (.cells #[.int .i64 0, .slice none 0 0] 81) := (HB3.block _ (Array.getElem?_eq_some_iff.1 R2).1).trans R2; obtain ⟨k2, k3, k4, k5⟩ := two_read R3; obtain ⟨A3, c3, hv3, hr3⟩ := HO3.rd; rw [HDL.out] at hv3; subst hv3))
          go_wp2
          obtain ⟨r0, r1, _, _⟩ := two_read (two_cells (u := .int .i64 (x.toNat : Int)) (v := .slice A3 n c3) R3)
          have hne : some w.heap.size ≠ (Value.slice A3 n c3).ownBlock := own_ne HO3 R3 (by decide)
          have HO4 := own_setCell (own_setCell HO3 (p := ⟨w.heap.size, 0, none⟩) hne (.int .i64 (x.toNat : Int))) (p := ⟨w.heap.size, 1, none⟩) hne (.slice A3 n c3)
          refine bodyPost_ret (v := .tuple #[.agg #[.int .i64 (x.toNat : Int), .slice A3 n c3], .int .i64 (s : Int), .int .i64 0]) ?_ rfl ⟨A3, c3, rfl, OwB.lower HO4 B0.drew.size, (hSt _ _ _ (hSk _ HBt)).1⟩
          simp [results, Try.results86, go_sem, r0, r1]
        · obtain ⟨r1, r2, r3⟩ := refuse hz
          rw [← e0] at hBr
          rw [r1, r2, r3]
          generalize fgE b = z at *
          clear e0 r1 r2 r3 refuse hxs hlen h1 h3
          generalize gN b = n at *
          generalize gK b = k at *
          obtain ⟨k1, hk1e⟩ : ∃ k1, k + 1 = k1 := ⟨_, rfl⟩
          rw [hk1e] at hsl hBr hle
          obtain ⟨s, hse⟩ : ∃ s, k1 + n + 4 = s := ⟨_, rfl⟩
          rw [hse] at hsl hBr hle
          have a1 : (k : Int) + 1 = (k1 : Int) := by omega
          have a2 : (k1 : Int) + (n : Int) + 4 = (s : Int) := by omega
          have a5 : ¬ (b.length : Int) < (s : Int) := by omega
          clear hk1e hse
          go_enter Try.func86, Try.ntmps86
          go_wp2_with (first | (go_at_call 87; refine hV.mono ?_; rintro e w1 ⟨rfl, HB1⟩; have R1 := (HB1.block _ hlt).trans R0; replace B0 := B0.trans (HB1.mono B0.size)) | (go_at_call 51; (with_reducible refine (hBr _ B0).mono ?_); rintro e w2 ⟨v2, rfl, HO2, HB2⟩; have R2 := (HB2.block _ (Array.getElem?_eq_some_iff.1 R1).1).trans R1; obtain ⟨k0, k1', k2', k3⟩ := two_read R2; replace B0 := B0.trans (HB2.mono B0.size)))
          obtain ⟨r0, r1, _, _⟩ := two_read (two_cells (u := .int .i64 0) (v := .slice none 0 0) R2)
          refine bodyPost_ret (v := .tuple #[.agg #[.int .i64 0, .slice none 0 0], .int .i64 0, .int .i64 z]) ?_ rfl ⟨none, 0, rfl, OwB.zero _ _, (B0.setCell (p := ⟨w.heap.size, 0, none⟩) (Nat.le_refl _) _).setCell (p := ⟨w.heap.size, 1, none⟩) (Nat.le_refl _) _⟩
          simp [results, Try.results86, go_sem, r0, r1]
  · have e1 : fgE b = (getErr b : Int) := by rw [fgE, if_pos h1]
    obtain ⟨r1, r2, r3⟩ := refuse (by rw [e1]; omega)
    rw [e1, r1, r2, r3]
    generalize gN b = n at *
    generalize gK b = k at *
    generalize getErr b = x at *
    have hxi : ¬ (x : Int) = 0 := by omega
    clear e1 r1 r2 r3 refuse h1
    go_enter Try.func86, Try.ntmps86
    go_wp2_with (first | (go_at_call 87; refine hV.mono ?_; rintro e w1 ⟨rfl, HB1⟩; have R1 := (HB1.block _ hlt).trans R0; obtain ⟨k0, k1', k2', k3⟩ := two_read R1; replace B0 := B0.trans (HB1.mono B0.size)))
    obtain ⟨r0, r1, _, _⟩ := two_read (two_cells (u := .int .i64 0) (v := .slice none 0 0) R1)
    refine bodyPost_ret (v := .tuple #[.agg #[.int .i64 0, .slice none 0 0], .int .i64 0, .int .i64 (x : Int)]) ?_ rfl ⟨none, 0, rfl, OwB.zero _ _, (B0.setCell (p := ⟨w.heap.size, 0, none⟩) (Nat.le_refl _) _).setCell (p := ⟨w.heap.size, 1, none⟩) (Nat.le_refl _) _⟩
    simp [results, Try.results86, go_sem, r0, r1]
end Go.Proofs.Ytefcepjffeiaoaa.Fr
end

section
/- Table: versions as a table's octets, plainly. -/
namespace Go.Proofs.Ytefcepjffeiaoaa
set_option linter.unusedVariables false

/-- the versions of one part -/
def part (l : List Ent) (i : Nat) : List Ent := (l.take (16 * i + 16)).drop (16 * i)
def keyAt (l : List Ent) (i : Nat) : ByteArray := (l.getD i zEnt).1
/-- keys, each once -/
def keysE (l : List Ent) : Nat → List ByteArray
  | 0 => []
  | k + 1 => if k = 0 ∨ keyAt l k ≠ keyAt l (k - 1) then keysE l k ++ [keyAt l k] else keysE l k
def blocksB (l : List Ent) : Nat → List UInt8
  | 0 => []
  | k + 1 => blocksB l k ++ blkX (part l k)
def rowB (l : List Ent) (k : Nat) : List UInt8 := put (blkX (part l k)).length ++ put (keyAt l (16 * k)).size ++ bl (keyAt l (16 * k))
def indexB (l : List Ent) : Nat → List UInt8
  | 0 => []
  | k + 1 => indexB l k ++ rowB l k
def nparts (n : Nat) : Nat := (n + 15) / 16
def fourN (n : Nat) : List UInt8 := [UInt8.ofNat (n / 16777216), UInt8.ofNat (n / 65536), UInt8.ofNat (n / 256), UInt8.ofNat n]
def filK (l : List Ent) : Int := Bl.makeK 10 (keysE l l.length).length
def filX (l : List Ent) : List UInt8 := Bl.makeX 10 (keysE l l.length)
def bodyT (l : List Ent) : List UInt8 := blocksB l (nparts l.length)
def outT (l : List Ent) : List UInt8 := bodyT l ++ putFX 2 (indexB l (nparts l.length))
def markT : List UInt8 := [116, 107, 116, 98]
def endT (l : List Ent) : List UInt8 := markT ++ fourN (bodyT l).length ++ fourN (outT l).length ++ fourN l.length
def tabB (l : List Ent) : List UInt8 := outT l ++ putFX 3 (Bl.encF (filK l) (filX l)) ++ guarded (endT l)
def tabE (l : List Ent) : Int := if l.length < 1 ∨ 4096 < l.length then 3 else ordE l
def tabX (l : List Ent) : List UInt8 := if tabE l = 0 then tabB l else []
/-- the lengths that an index tells -/
def lenL : Nat → List UInt8 → Option (List Nat)
  | 0, _ => some []
  | f + 1, b => if b = [] then some [] else if getErr b ≠ 0 ∨ 16777216 < gN b then none
    else if getErr (b.drop (gK b)) ≠ 0 ∨ ((b.drop (gK b)).drop (gK (b.drop (gK b)))).length < gN (b.drop (gK b)) then none
    else (lenL f ((b.drop (gK b)).drop (gK (b.drop (gK b)) + gN (b.drop (gK b))))).map (gN b :: ·)
/-- the blocks' versions -/
def catP : List Nat → List UInt8 → List Ent → List Ent
  | [], _, acc => acc
  | n :: ns, rest, acc => if rest.length < n ∨ 4096 < acc.length then [] else if unE (rest.take n) ≠ 0 then [] else catP ns (rest.drop n) (acc ++ unL (rest.take n))
def toldP (b : List UInt8) (at_ to_ : Nat) : List Ent :=
  if to_ < at_ ∨ b.length < to_ then [] else if fgE ((b.take to_).drop at_) ≠ 0 then []
  else match lenL (fgX ((b.take to_).drop at_)).length (fgX ((b.take to_).drop at_)) with
    | none => []
    | some sizes => catP sizes (b.take at_) []
def num4 (b : List UInt8) : Nat := (((b.getD 0 0).toNat * 256 + (b.getD 1 0).toNat) * 256 + (b.getD 2 0).toNat) * 256 + (b.getD 3 0).toNat
def footT (b : List UInt8) : List UInt8 := b.drop (b.length - 20)
def toldT (b : List UInt8) : List Ent := toldP b (num4 ((bare (footT b)).drop 4)) (num4 ((bare (footT b)).drop 8))
def openE (b : List UInt8) : Int := if b.length < 20 then 8 else if bareNum (footT b) ≠ 0 then bareNum (footT b) else if (bare (footT b)).take 4 ≠ markT then 22 else if tabE (toldT b) = 0 ∧ tabX (toldT b) = b then 0 else 21
def openL (b : List UInt8) : List Ent := if openE b = 0 then toldT b else []

theorem tabE_ok (l : List Ent) (h : tabE l = 0) : 1 ≤ l.length ∧ l.length ≤ 4096 ∧ ordE l = 0 := by
  unfold tabE at h
  split at h
  · cases h
  · exact ⟨by omega, by omega, h⟩
theorem part_length (l : List Ent) (i : Nat) : (part l i).length = min (16 * i + 16) l.length - 16 * i := by simp [part]
theorem part_getD (l : List Ent) (i j : Nat) (hj : j < 16) : (part l i).getD j zEnt = l.getD (16 * i + j) zEnt := by
  rw [part, List.getD_eq_getElem?_getD, List.getD_eq_getElem?_getD, List.getElem?_drop, List.getElem?_take]
  rw [if_pos (by omega)]
theorem part_chk (l : List Ent) (h : tabE l = 0) (i : Nat) (hi : i < nparts l.length) : chkE (part l i) = 0 ∧ 1 ≤ (part l i).length ∧ (part l i).length ≤ 16 := by
  obtain ⟨h1, h2, h3⟩ := tabE_ok l h
  unfold nparts at hi
  have hl := part_length l i
  have ho : ordE (part l i) = 0 := by
    refine ordL_of _ _ _ fun j _ hj => ?_
    rw [part_getD l i j (by omega)]
    obtain ⟨k1, k2⟩ := ordE_may l h3 (16 * i + j) (by omega)
    refine ⟨k1, fun h0 => ?_⟩
    rw [part_getD l i (j - 1) (by omega)]
    have := k2 (by omega)
    rwa [show 16 * i + j - 1 = 16 * i + (j - 1) by omega] at this
  refine ⟨?_, by omega, by omega⟩
  rw [chkE, if_neg (by omega), ho]
theorem blkX_length (l : List Ent) (h : chkE l = 0) (h16 : l.length ≤ 16) : (blkX l).length ≤ 10500 := by
  obtain ⟨h1, h2, h3⟩ := chkE_ok l h
  have e1 : blkX l = guarded (blkB l) := by rw [blkX, if_pos h]
  have h4 := entsB_length l h3 l.length (Nat.le_refl _)
  have h5 := tailB_length l l.length
  rw [e1, guarded_length, blkB, List.length_append, List.length_append, List.length_singleton]
  omega
theorem blocksB_le (l : List Ent) (h : tabE l = 0) (k : Nat) (hk : k ≤ nparts l.length) : (blocksB l k).length ≤ 10500 * k := by
  induction k with
  | zero => simp [blocksB]
  | succ k ih =>
    have := ih (by omega)
    obtain ⟨h1, h2, h3⟩ := part_chk l h k (by omega)
    have := blkX_length _ h1 h3
    rw [blocksB, List.length_append]; omega
theorem indexB_le (l : List Ent) (h : tabE l = 0) (k : Nat) (hk : k ≤ nparts l.length) : (indexB l k).length ≤ 114 * k := by
  obtain ⟨t1, t2, t3⟩ := tabE_ok l h
  induction k with
  | zero => simp [indexB]
  | succ k ih =>
    have := ih (by omega)
    have v1 := vsize_le (blkX (part l k)).length
    have v2 := vsize_le (keyAt l (16 * k)).size
    obtain ⟨m1, m2, _⟩ := (ordE_may l t3 (16 * k) (by unfold nparts at hk; omega)).1
    have hks : (keyAt l (16 * k)).size ≤ 96 := m2
    rw [indexB, List.length_append, rowB, List.length_append, List.length_append, put_length, put_length, bl_length]; omega
theorem nparts_le (l : List Ent) (h : tabE l = 0) : 1 ≤ nparts l.length ∧ nparts l.length ≤ 256 := by
  obtain ⟨t1, t2, t3⟩ := tabE_ok l h
  unfold nparts; omega
theorem index_put (l : List Ent) (h : tabE l = 0) : putFE 2 (indexB l (nparts l.length)).length = 0 := by
  have h1 := indexB_le l h _ (Nat.le_refl _)
  have h2 := nparts_le l h
  rw [putFE, if_neg (by omega), if_neg (by omega)]
theorem keysE_le (l : List Ent) (k : Nat) : (keysE l k).length ≤ k := by
  induction k with
  | zero => simp [keysE]
  | succ k ih =>
    rw [keysE]
    split
    · rw [List.length_append, List.length_singleton]; omega
    · omega
theorem fil_ok (l : List Ent) (h : tabE l = 0) : Bl.makeOk 10 (keysE l l.length).length ∧ filK l = 7 ∧ 1 ≤ (filX l).length ∧ (filX l).length ≤ 5121 ∧ Bl.okF (filK l) (filX l).length := by
  obtain ⟨t1, t2, t3⟩ := tabE_ok l h
  have h1 := keysE_le l l.length
  have hok : Bl.makeOk 10 (keysE l l.length).length := ⟨by decide, by decide, by omega⟩
  have hK : filK l = 7 := by rw [filK, Bl.makeK, if_pos hok]; rfl
  have hX : (filX l).length = max 1 (((keysE l l.length).length * 10 + 7) / 8) := by
    rw [filX, Bl.makeX, if_pos hok, Bl.setAll_length, List.length_replicate, Bl.makeN]; rfl
  exact ⟨hok, hK, by omega, by omega, by rw [hK]; exact ⟨by decide, by decide, by omega, by omega⟩⟩
theorem fil_put (l : List Ent) (h : tabE l = 0) : putFE 3 (Bl.encF (filK l) (filX l)).length = 0 ∧ (Bl.encF (filK l) (filX l)).length ≤ 5122 := by
  obtain ⟨h1, h2, h3, h4, h5⟩ := fil_ok l h
  have : (Bl.encF (filK l) (filX l)).length ≤ 5122 := by
    rw [Bl.encF, if_pos h5, List.length_cons]; omega
  exact ⟨by rw [putFE, if_neg (by omega), if_neg (by omega)], this⟩
theorem putFX_length (K : Int) (d : List UInt8) (h : putFE K d.length = 0) : (putFX K d).length = vsize d.length + 5 + d.length := by
  rw [putFX, if_pos h, guarded_length, bodyF_length]; omega
theorem outT_le (l : List Ent) (h : tabE l = 0) : (bodyT l).length ≤ (outT l).length ∧ (outT l).length ≤ 2800000 := by
  have h1 := blocksB_le l h _ (Nat.le_refl _)
  have h2 := nparts_le l h
  have h3 := indexB_le l h _ (Nat.le_refl _)
  have h4 := putFX_length 2 _ (index_put l h)
  have h5 := vsize_le (indexB l (nparts l.length)).length
  rw [outT, List.length_append]
  exact ⟨Nat.le_add_right _ _, by rw [bodyT, h4]; omega⟩
theorem endT_length (l : List Ent) : (endT l).length = 16 := rfl
theorem tabB_le (l : List Ent) (h : tabE l = 0) : 20 ≤ (tabB l).length ∧ (tabB l).length ≤ 3000000 := by
  have h1 := outT_le l h
  have h2 := fil_put l h
  have h3 := putFX_length 3 _ h2.1
  have h4 := vsize_le (Bl.encF (filK l) (filX l)).length
  rw [tabB, List.length_append, List.length_append, guarded_length, endT_length]
  omega
theorem num4_four (n : Nat) (hn : n < 4294967296) (r : List UInt8) : num4 (fourN n ++ r) = n := by
  simp only [num4, fourN, List.cons_append, List.getD_cons_zero, List.getD_cons_succ, UInt8.toNat_ofNat']
  omega
theorem foot_tab (l : List Ent) (h : tabE l = 0) : footT (tabB l) = guarded (endT l) := by
  have h2 := tabB_le l h
  have : (tabB l).length - 20 = (outT l ++ putFX 3 (Bl.encF (filK l) (filX l))).length := by
    rw [tabB, List.length_append, guarded_length, endT_length]; omega
  rw [footT, this, tabB, List.drop_left]
theorem nums_end (l : List Ent) (h : tabE l = 0) : num4 ((endT l).drop 4) = (bodyT l).length ∧ num4 ((endT l).drop 8) = (outT l).length ∧ num4 ((endT l).drop 12) = l.length := by
  have h1 := outT_le l h
  have h2 := tabE_ok l h
  refine ⟨?_, ?_, ?_⟩
  · exact num4_four _ (by omega) (fourN (outT l).length ++ fourN l.length)
  · exact num4_four _ (by omega) (fourN l.length)
  · have := num4_four l.length (by omega) []
    rwa [List.append_nil] at this
/-- the rest of the blocks, of the index -/
def blocksS (l : List Ent) : Nat → Nat → List UInt8
  | 0, _ => []
  | n + 1, k => blkX (part l k) ++ blocksS l n (k + 1)
def indexS (l : List Ent) : Nat → Nat → List UInt8
  | 0, _ => []
  | n + 1, k => rowB l k ++ indexS l n (k + 1)
def sizesS (l : List Ent) : Nat → Nat → List Nat
  | 0, _ => []
  | n + 1, k => (blkX (part l k)).length :: sizesS l n (k + 1)
theorem blocksB_add (l : List Ent) (n : Nat) : ∀ k, blocksB l (k + n) = blocksB l k ++ blocksS l n k := by
  induction n with
  | zero => intro k; simp [blocksS]
  | succ n ih =>
    intro k
    rw [show k + (n + 1) = k + 1 + n by omega, ih (k + 1), blocksB, blocksS, List.append_assoc]
theorem indexB_add (l : List Ent) (n : Nat) : ∀ k, indexB l (k + n) = indexB l k ++ indexS l n k := by
  induction n with
  | zero => intro k; simp [indexS]
  | succ n ih =>
    intro k
    rw [show k + (n + 1) = k + 1 + n by omega, ih (k + 1), indexB, indexS, List.append_assoc]
theorem rowB_ne (l : List Ent) (k : Nat) (r : List UInt8) : rowB l k ++ r ≠ [] := by
  intro h
  have := congrArg List.length h
  have h1 := vsize_pos (blkX (part l k)).length
  rw [rowB, List.length_append, List.length_append, List.length_append, put_length] at this
  simp at this
  omega
theorem lenL_index (l : List Ent) (h : tabE l = 0) (n : Nat) : ∀ (k f : Nat), k + n ≤ nparts l.length → n ≤ f → lenL f (indexS l n k) = some (sizesS l n k) := by
  obtain ⟨t1, t2, t3⟩ := tabE_ok l h
  induction n with
  | zero =>
    intro k f _ _
    cases f <;> simp [lenL, indexS, sizesS]
  | succ n ih =>
    intro k f hk hf
    cases f with
    | zero => omega
    | succ f =>
      obtain ⟨p1, p2, p3⟩ := part_chk l h k (by omega)
      have p4 := blkX_length _ p1 p3
      obtain ⟨m1, m2, _⟩ := (ordE_may l t3 (16 * k) (by unfold nparts at hk; omega)).1
      have hks : (keyAt l (16 * k)).size ≤ 96 := m2
      have e0 : indexS l (n + 1) k = put (blkX (part l k)).length ++ (put (keyAt l (16 * k)).size ++ (bl (keyAt l (16 * k)) ++ indexS l n (k + 1))) := by
        rw [indexS, rowB]; simp only [List.append_assoc]
      obtain ⟨g1, g2, g3⟩ := get_put2 (blkX (part l k)).length (by omega) (put (keyAt l (16 * k)).size ++ (bl (keyAt l (16 * k)) ++ indexS l n (k + 1)))
      obtain ⟨g4, g5, g6⟩ := get_put2 (keyAt l (16 * k)).size (by omega) (bl (keyAt l (16 * k)) ++ indexS l n (k + 1))
      have d1 : (indexS l (n + 1) k).drop (gK (indexS l (n + 1) k)) = put (keyAt l (16 * k)).size ++ (bl (keyAt l (16 * k)) ++ indexS l n (k + 1)) := by
        rw [e0, g3, ← put_length, List.drop_left]
      have d2 : (put (keyAt l (16 * k)).size ++ (bl (keyAt l (16 * k)) ++ indexS l n (k + 1))).drop (vsize (keyAt l (16 * k)).size) = bl (keyAt l (16 * k)) ++ indexS l n (k + 1) := by
        rw [← put_length, List.drop_left]
      have d3 : (put (keyAt l (16 * k)).size ++ (bl (keyAt l (16 * k)) ++ indexS l n (k + 1))).drop (vsize (keyAt l (16 * k)).size + (keyAt l (16 * k)).size) = indexS l n (k + 1) := by
        rw [← List.drop_drop, d2]
        have : (keyAt l (16 * k)).size = (bl (keyAt l (16 * k))).length := (bl_length _).symm
        rw [this, List.drop_left]
      have hne : indexS l (n + 1) k ≠ [] := by rw [indexS]; exact rowB_ne l k _
      rw [lenL, if_neg hne]
      rw [← e0] at g1 g2 g3
      rw [if_neg (by rw [g2]; omega), d1, g5, g6, if_neg (by rw [d2, List.length_append, bl_length]; omega), d3, ih (k + 1) f (by omega) (by omega), g2]
      rfl
theorem catP_blocks (l : List Ent) (h : tabE l = 0) (n : Nat) : ∀ k, k + n = nparts l.length → catP (sizesS l n k) (blocksS l n k) (l.take (16 * k)) = l := by
  obtain ⟨t1, t2, t3⟩ := tabE_ok l h
  induction n with
  | zero =>
    intro k hk
    rw [sizesS, catP]
    exact List.take_of_length_le (by unfold nparts at hk; omega)
  | succ n ih =>
    intro k hk
    obtain ⟨p1, p2, p3⟩ := part_chk l h k (by omega)
    obtain ⟨u1, u2⟩ := un_blk _ p1
    rw [sizesS, blocksS, catP, if_neg (by rw [List.length_append, List.length_take]; omega), List.take_left, List.drop_left, if_neg (fun h => h u1), u2]
    have e : l.take (16 * k) ++ part l k = l.take (16 * (k + 1)) := by
      rw [part, show 16 * (k + 1) = 16 * k + 16 by omega]
      conv => rhs; rw [← List.take_append_drop (16 * k) (l.take (16 * k + 16)), List.take_take, Nat.min_eq_left (by omega)]
    rw [e]
    exact ih (k + 1) (by omega)
theorem mid_app (a b c : List UInt8) : ((a ++ b ++ c).take (a ++ b).length).drop a.length = b := by
  rw [List.take_left, List.drop_left]
theorem toldP_tab (l : List Ent) (h : tabE l = 0) : toldP (tabB l) (bodyT l).length (outT l).length = l := by
  have h1 := outT_le l h
  have e0 : tabB l = bodyT l ++ putFX 2 (indexB l (nparts l.length)) ++ (putFX 3 (Bl.encF (filK l) (filX l)) ++ guarded (endT l)) := by rw [tabB, outT]; simp only [List.append_assoc]
  have e1 : ((tabB l).take (outT l).length).drop (bodyT l).length = putFX 2 (indexB l (nparts l.length)) := by rw [e0]; exact mid_app _ _ _
  obtain ⟨g1, g2, g3, g4⟩ := get_frame 2 (indexB l (nparts l.length)) [] (index_put l h)
  rw [List.append_nil] at g1 g3
  have e2 : (tabB l).take (bodyT l).length = bodyT l := by rw [e0, List.append_assoc, List.take_left]
  have e3 : (tabB l).length = (outT l).length + (putFX 3 (Bl.encF (filK l) (filX l)) ++ guarded (endT l)).length := by rw [tabB, List.append_assoc, List.length_append]
  have i1 := indexB_add l (nparts l.length) 0
  have i2 := blocksB_add l (nparts l.length) 0
  rw [Nat.zero_add] at i1 i2
  have e4 : indexB l (nparts l.length) = indexS l (nparts l.length) 0 := by rw [i1, indexB]; rfl
  have e5 : bodyT l = blocksS l (nparts l.length) 0 := by rw [bodyT, i2, blocksB]; rfl
  have hle : ∀ n k, n ≤ (indexS l n k).length := by
    intro n
    induction n with
    | zero => intro k; simp
    | succ n ih =>
      intro k
      have := ih (k + 1)
      have v := vsize_pos (blkX (part l k)).length
      rw [indexS, List.length_append, rowB, List.length_append, List.length_append, put_length]; omega
  rw [toldP, if_neg (by omega), e1, if_neg (fun h => h g1), g3, e2, e4, lenL_index l h _ 0 _ (by omega) (hle _ _)]
  simp only
  rw [e5]
  exact catP_blocks l h _ 0 (by omega)
theorem told_tab (l : List Ent) (h : tabE l = 0) : toldT (tabX l) = l := by
  have e : tabX l = tabB l := by rw [tabX, if_pos h]
  obtain ⟨n1, n2, _⟩ := nums_end l h
  rw [e, toldT, foot_tab l h, bare_guarded, n1, n2]
  exact toldP_tab l h
theorem open_tab (l : List Ent) (h : tabE l = 0) : openE (tabX l) = 0 ∧ openL (tabX l) = l := by
  have e : tabX l = tabB l := by rw [tabX, if_pos h]
  have h2 := tabB_le l h
  have h3 : openE (tabX l) = 0 := by
    rw [openE, told_tab l h, e, foot_tab l h, bareNum_guarded, bare_guarded, if_neg (by omega), if_neg (by simp), if_neg (by intro h; exact h rfl), if_pos ⟨h, rfl⟩]
  exact ⟨h3, by rw [openL, if_pos h3, told_tab l h]⟩
theorem open_ok (b : List UInt8) (h : openE b = 0) : tabE (openL b) = 0 ∧ tabX (openL b) = b := by
  have h' := h
  rw [openE] at h'
  rw [openL, if_pos h]
  split at h'
  · cases h'
  · split at h'
    · next h1 => exact absurd h' h1
    · split at h'
      · cases h'
      · split at h'
        · next h2 => exact h2
        · cases h'
end Go.Proofs.Ytefcepjffeiaoaa
end

section
/- Table: keys, each once. -/
namespace Go.Proofs.Ytefcepjffeiaoaa
open Go.RowKit Go.Lib Go.Sort Go.Proofs.YtefcepjffeiaoaaW.PrintWords
set_option linter.unusedVariables false

theorem store_world_s {w wr : World} {n blk off : Nat} {dk : Array ByteArray} {i : Nat} (hi : i < dk.size) (hwr : wr = putRow Bl.estr (Sort.ahead w n) blk off dk) (x : ByteArray) :
    (wr.setCell ⟨blk, off + i, none⟩ (.string x)).drew = putRow Bl.estr (Sort.ahead w (n + 1)) blk off (dk.setIfInBounds i x) := by
  subst hwr
  have := putRow_set Bl.estr (Sort.ahead w n) blk off dk i x hi
  rw [show Bl.estr x = Value.string x from rfl] at this
  rw [this, ← ahead_drew]
  rfl
theorem less_one (k p n : Nat) (h1 : 1 ≤ k) (hp : k - 1 = p) (hk : k < n) (hn : n ≤ 1000000) : wrap64 ((k : Int) - 1) = (p : Int) ∧ IntKind.i64.wrap ((k : Int) - 1) = (p : Int) ∧ (p : Int) < (n : Int) ∧ p < n := by
  refine ⟨?_, ?_, by omega, by omega⟩
  · unfold wrap64; omega
  · rw [IntKind.wrap_i64]; omega
theorem str_bne {x y : ByteArray} (h : x ≠ y) : (x.toList == y.toList) = false := by rw [Bl.str_ne, decide_eq_false h]
set_option maxRecDepth 100000 in
set_option maxHeartbeats 4000000 in
theorem Compact_arr (blk cap : Nat) (d : Array ByteArray) (w : World) (hH : Holds Bl.estr w blk 0 d) (hsz : d.size ≤ 1000000) (hcap : d.size ≤ cap) :
    Calls Try.prog 70 #[.slice (some ⟨blk, 0, none⟩) d.size cap] w fun e w' => e = .returned (.slice (some ⟨blk, 0, none⟩) (compactUpTo d d.size).length cap) ∧ ∃ q, w' = putRow Bl.estr (Sort.ahead w q) blk 0 (compactUpTo d d.size ++ List.replicate (d.size - (compactUpTo d d.size).length) (⟨#[]⟩ : ByteArray)).toArray := by
  have same : ∀ q, (∀ j, j < d.size → keeps d j = true) → (compactUpTo d d.size).length = d.size ∧ w.drewN q = putRow Bl.estr (Sort.ahead w q) blk 0 (compactUpTo d d.size ++ List.replicate (d.size - (compactUpTo d d.size).length) (⟨#[]⟩ : ByteArray)).toArray := by
    intro q hall
    have e : compactUpTo d d.size = d.toList := by rw [compactUpTo_all d _ hall, range_map_get]
    rw [e]
    refine ⟨by simp, ?_⟩
    simp only [Array.length_toList, Nat.sub_self, List.replicate_zero, List.append_nil, Array.toArray_toList]
    exact (putRow_self Bl.estr (Sort.ahead w q) blk 0 d (holds_ahead Bl.estr w q blk 0 d hH)).symm
  have HS := hide same
  clear same
  by_cases h2 : d.size < 2
  · have HH := hide hH
    clear hH
    go_enter Try.func70, Try.ntmps70
    go_wp2
    go_ret
    obtain ⟨e1, e2⟩ := HS.out 0 (fun j hj => keeps_lt_one d j (by omega))
    exact ⟨by rw [e1]; rfl, 0, e2⟩
  · go_enter Try.func70, Try.ntmps70
    go_wp2
    go_loopg [3] d.size (fun g s3 wr => ∃ k q : Nat, 1 ≤ k ∧ k ≤ d.size ∧ d.size - k ≤ g ∧ s3 = .int .i64 k ∧ wr = w.drewN q ∧ ∀ j, j < k → keeps d j = true)
    case atStart => exact ⟨1, 0, Nat.le_refl _, by omega, by omega, rfl, rfl, keeps_lt_one d⟩
    case round =>
      obtain ⟨k, q, hk1, hk, hg, rfl, hwq, hall⟩ := hrel
      by_cases hlt : k < d.size
      · have hHq : Holds Bl.estr wr blk 0 d := by rw [hwq]; exact hH
        obtain ⟨c1, f1⟩ := hHq k hlt
        obtain ⟨c0, f0⟩ := hHq (k - 1) (by omega)
        clear hHq
        have WQ := hide hwq
        clear hwq
        have A := hide hall
        have HH := hide hH
        clear hall hH
        generalize hx : d[k]! = x at c1
        generalize hy : d[k - 1]! = y at c0
        have B : Hid (d[k]! = x ∧ d[k - 1]! = y) := hide ⟨hx, hy⟩
        clear hx hy
        unfold Bl.estr at c0 c1
        rw [Nat.zero_add] at c0 c1
        obtain ⟨p, hp⟩ : ∃ p, k - 1 = p := ⟨_, rfl⟩
        rw [hp] at c0
        obtain ⟨n1, n2, n3, n4⟩ := less_one k p d.size hk1 hp hlt hsz
        clear hp
        by_cases hdup : x = y
        · subst hdup
          go_wp2
          go_still (by kernel_rfl)
          go_wp2
          clear c0 c1 f0 f1
          go_loopg [3, 5] d.size (fun g s3 s5 wr => ∃ (kk k2 q2 : Nat) (dk : Array ByteArray), s3 = .int .i64 kk ∧ s5 = .int .i64 k2 ∧ 1 ≤ k2 ∧ k + k2 ≤ d.size ∧ d.size - (k + k2) ≤ g ∧ wr = putRow Bl.estr (Sort.ahead w q2) blk 0 dk ∧ CompInv d (k + k2) kk dk)
          case atStart => exact ⟨k, 1, q + 1, d, rfl, rfl, Nat.le_refl _, by omega, by omega, (by rw [WQ.out]; exact (putRow_self Bl.estr (Sort.ahead w (q + 1)) blk 0 d (holds_ahead Bl.estr w (q + 1) blk 0 d HH.out)).symm), CompInv.start A.out (keeps_neg (by omega) (by rw [B.out.1, B.out.2]))⟩
          case round =>
            obtain ⟨kk, k2, q2, dk, rfl, rfl, h1, hle, hg2, hwr, hI⟩ := hrel
            have hkk := hI.lt
            have hds := hI.size
            have hHk : Holds Bl.estr wr blk 0 dk := by rw [hwr]; exact holds_putRow Bl.estr _ blk 0 d dk (holds_ahead Bl.estr w q2 blk 0 d HH.out) hds
            have W2 := hide hwr
            have I2 := hide hI
            clear hwr
            by_cases hlt2 : k + k2 < d.size
            · obtain ⟨cm, _⟩ := hHk (k + k2) (by omega)
              obtain ⟨cp, _⟩ := hHk (k + k2 - 1) (by omega)
              obtain ⟨ck, fk⟩ := hHk kk (by omega)
              rw [hI.high (k + k2) (by omega), Nat.zero_add] at cm
              rw [hI.high (k + k2 - 1) (by omega), show 0 + (k + k2 - 1) = k + (k2 - 1) by omega] at cp
              obtain ⟨p2, hp2⟩ : ∃ p2, k2 - 1 = p2 := ⟨_, rfl⟩
              rw [hp2] at cp
              obtain ⟨m1, m2, m3, m4⟩ := less_one k2 p2 (d.size - k) h1 hp2 (by omega) (by omega)
              clear hp2
              clear hHk hI
              generalize hu : d[k + k2]! = u at cm
              generalize hv : d[k + k2 - 1]! = v at cp
              generalize dk[kk]! = old at ck
              have C : Hid (d[k + k2]! = u ∧ d[k + k2 - 1]! = v) := hide ⟨hu, hv⟩
              clear hu hv
              unfold Bl.estr at cm cp ck
              rw [Nat.zero_add] at ck fk
              by_cases huv : u = v
              · subst huv
                go_wp2
                go_still (by kernel_rfl)
                go_wp2
                go_roundg (d.size - (k + (k2 + 1)))
                case measure => omega
                case rel => exact ⟨kk, k2 + 1, q2 + 1, dk, rfl, by go_num, by omega, by omega, Nat.le_refl _, by rw [W2.out]; rfl, I2.out.skip (keeps_neg (by omega) (by rw [C.out.1, C.out.2]))⟩
              · have hne := str_bne huv
                go_wp2
                go_still (by kernel_rfl)
                go_wp2
                go_roundg (d.size - (k + (k2 + 1)))
                case measure => omega
                case rel => exact ⟨kk + 1, k2 + 1, q2 + 1, dk.setIfInBounds kk u, by go_num, by go_num, by omega, by omega, Nat.le_refl _, (by have := store_world_s (i := kk) (by omega) W2.out u; rwa [Nat.zero_add] at this), by have := I2.out.keep hlt2 (keeps_pos (by rw [C.out.1, C.out.2]; exact huv)); rwa [C.out.1] at this⟩
            · have hend : k + k2 = d.size := by omega
              have hcl : ∀ ty, (Builtin.clear_ #[73] ty #[.slice (some ⟨blk, kk, none⟩) (d.size - kk) (cap - kk)]).run Try.prog wr = .ok (.tuple #[]) (wr.setCells blk kk (List.replicate (d.size - kk) (.string ⟨#[]⟩))) :=
                fun ty => Lib.run_clear_slice wr _ _ ty _ Try.underlying73 (fun w => by kernel_rfl) rfl rfl blk kk _ _ (by omega) (fun j hj => by have := (hHk (kk + j) (by omega)).1; rw [Nat.zero_add] at this; rw [this]; rfl) (fun j hj => by have := (hHk (kk + j) (by omega)).2; rwa [Nat.zero_add] at this)
              clear hHk hI
              go_wp2
              go_ret
              have hI := I2.out
              rw [hend] at hI
              refine ⟨by rw [hI.len]; rfl, q2, ?_⟩
              have hdone := hI.done (⟨#[]⟩ : ByteArray)
              rw [hI.len, ← hdone, ← putRow_setCells Bl.estr _ blk 0 _ dk kk (by simp; omega), ← W2.out, List.map_replicate, Nat.zero_add]
              rfl
        · have hne := str_bne hdup
          go_wp2
          go_still (by kernel_rfl)
          go_wp2
          go_roundg (d.size - (k + 1))
          case measure => omega
          case rel =>
            refine ⟨k + 1, q + 1, by omega, by omega, Nat.le_refl _, by go_num, (by rw [WQ.out]; rfl), fun j hj => ?_⟩
            by_cases e : j = k
            · subst e
              exact keeps_pos (by rw [B.out.1, B.out.2]; exact hdup)
            · exact A.out j (by omega)
      · have : k = d.size := by omega
        subst this
        have HH := hide hH
        clear hH
        go_wp2
        go_ret
        obtain ⟨e1, e2⟩ := HS.out q hall
        exact ⟨by rw [e1]; rfl, q, e2⟩
theorem Compact_any (v : Value) (ss : List ByteArray) (base : Nat) (w : World) (HO : Bl.OwS w base v ss) (hl : ss.length ≤ 1000000) :
    Calls Try.prog 70 #[v] w fun e w' => ∃ v', e = .returned v' ∧ Bl.OwS w' base v' (compact ss) ∧ Below base w w' := by
  by_cases hv : v = .slice none 0 0
  · subst hv
    obtain rfl : ss = [] := by
      obtain ⟨A, c, h1, _⟩ := HO.rd
      injection h1 with _ h2 _
      exact List.length_eq_zero_iff.1 h2.symm
    have h0 := Bl.OwS.zero w base
    have HH := hide h0
    go_enter Try.func70, Try.ntmps70
    go_wp2
    go_ret
    exact ⟨_, rfl, HH.out, Below.refl _ _⟩
  · obtain ⟨g, cap, rfl, h1, h2, h3, h4, h5, h6⟩ := holds_of_ownsRow (enc := Bl.estr) HO hv
    have h := Compact_arr g cap ss.toArray w h6 (by simpa using hl) (by simpa using h3)
    rw [show ss.toArray.size = ss.length from rfl] at h
    refine h.mono ?_
    rintro e w' ⟨rfl, q, rfl⟩
    have hle : (compact ss).length ≤ ss.length := by
      unfold compact compactUpTo
      rw [List.length_map]
      exact Nat.le_trans (List.length_filter_le _ _) (by simp)
    have e0 : compactUpTo ss.toArray ss.length = compact ss := rfl
    rw [e0]
    refine ⟨_, rfl, ?_, below_putRow (Below.refl _ _) h1⟩
    have h7 := ownsRow_putRow (q := q) (ys := compact ss ++ List.replicate (ss.length - (compact ss).length) (⟨#[]⟩ : ByteArray)) (k := (compact ss).length) HO (by rw [List.length_append, List.length_replicate]; omega) hle
    rw [List.take_left] at h7
    exact h7
theorem keys_compact (l : List Ent) (k : Nat) (hk : k ≤ l.length) : compactUpTo (l.map fun x => x.1).toArray k = keysE l k := by
  have hget : ∀ j, j < l.length → (l.map fun x => x.1).toArray[j]! = keyAt l j := by
    intro j hj
    have : j < (l.map fun x => x.1).toArray.size := by simpa using hj
    rw [getElem!_pos (l.map fun x => x.1).toArray j this]
    simp [keyAt, List.getD_eq_getElem?_getD, List.getElem?_eq_getElem hj]
  induction k with
  | zero => rfl
  | succ k ih =>
    rw [compactUpTo_succ, ih (by omega), keysE, hget k (by omega)]
    by_cases h0 : k = 0
    · subst h0
      rw [keeps_lt_one _ 0 (by omega)]; simp
    · by_cases h1 : keyAt l k = keyAt l (k - 1)
      · rw [keeps_neg (by omega) (by rw [hget k (by omega), hget (k - 1) (by omega)]; exact h1), if_neg (by simp), if_neg (by rintro (h | h); exact h0 h; exact h h1), List.append_nil]
      · rw [keeps_pos (by rw [hget k (by omega), hget (k - 1) (by omega)]; exact h1), if_pos rfl, if_pos (.inr h1)]
theorem map_snoc (l : List Ent) (k : Nat) (hk : k < l.length) : (l.take (k + 1)).map (fun x => x.1) = (l.take k).map (fun x => x.1) ++ [(l.getD k zEnt).1] := by
  rw [List.take_succ_eq_append_getElem hk, List.map_append, List.getD_eq_getElem?_getD, List.getElem?_eq_getElem hk]
  rfl
set_option maxRecDepth 100000 in
set_option maxHeartbeats 800000 in
theorem keys_any (A : Option Addr) (c n : Nat) (l : List Ent) (w : World) (hn : l.length = n) (hr : RdE w A c l) (hl : n ≤ 1000000) :
    Calls Try.prog 32 #[.slice A n c] w fun e w' => ∃ v, e = .returned v ∧ Bl.OwS w' w.heap.size v (keysE l n) ∧ Below w.heap.size w w' := by
  have HN := hide hn
  have hC := fun v W HO => Compact_any v (l.map fun x => x.1) w.heap.size W HO (by rw [List.length_map]; omega)
  have hK : compact (l.map fun x => x.1) = keysE l n := by
    rw [compact, List.length_map, keys_compact l _ (Nat.le_refl _), hn]
  rw [hK] at hC
  clear hK hn
  go_enter Try.func32, Try.ntmps32
  go_wp2
  go_loopw [3, 8] (fun ov iv wr => ∃ k : Nat, k ≤ n ∧ iv = .int .i64 (k : Int) ∧ Bl.OwS wr w.heap.size ov ((l.take k).map fun x => x.1) ∧ Below w.heap.size w wr) (fun ov iv _ => n - (RowKit.intOf iv).toNat)
  case atStart => exact ⟨0, Nat.zero_le _, rfl, Bl.OwS.zero _ _, Below.refl _ _⟩
  case round =>
    obtain ⟨k, hk, rfl, HO, HB⟩ := hrel
    by_cases hlt : k < n
    · have hlti : (k : Int) < (n : Int) := Int.ofNat_lt.2 hlt
      obtain ⟨ad, rfl, x0, x1, x2, x3⟩ := RdE.at4 (hr.below HB) k (by rw [HN.out]; exact hlt)
      have hsn := map_snoc l k (by rw [HN.out]; exact hlt)
      obtain ⟨y, hy⟩ : ∃ y, l.getD k zEnt = y := ⟨_, rfl⟩
      rw [hy] at x0 x1 x2 x3 hsn
      clear hy
      have HS := hide hsn
      clear hsn
      have hE := Eb.new wr y
      obtain ⟨y0, -, -, -, -, -, -, -⟩ := hE.read
      have hB2 := HB.alloc HB.size (.cells #[.string y.1, .int .i64 y.2.1, .int .i64 y.2.2.1, .string y.2.2.2] 43)
      have hO2 := HO.below (below_alloc wr (.cells #[.string y.1, .int .i64 y.2.1, .int .i64 y.2.2.1, .string y.2.2.2] 43))
      have hlen : ((l.take k).map fun x => x.1).length + 1 ≤ 8796093022208 := by rw [List.length_map, List.length_take]; omega
      have HL := hide hlen
      clear hlen hE
      go_wp2_with (first | (at_builtin; refine Bl.app_str (w0 := w) (W := wr.alloc (.cells #[.string y.1, .int .i64 y.2.1, .int .i64 y.2.2.1, .string y.2.2.2] 43)) w.heap.size rfl (.tmp 12) (.tmp 15) rfl _ _ y.1 rfl (by rw [World.size_alloc]; rfl) hO2 hB2 hB2.size HL.out ?_; intro v1 w1 HO1 HB1 hg hat))
      go_roundw
      case rel => exact ⟨k + 1, by omega, by go_num, by rw [HS.out]; exact HO1, HB1⟩
      case measure => simp [RowKit.intOf]; omega
    · obtain rfl : k = n := by omega
      have hall : l.take k = l := List.take_of_length_le (by rw [HN.out]; exact Nat.le_refl _)
      rw [hall] at HO
      go_wp2_with (first | (go_at_call 70; refine (hC _ _ HO).mono ?_; rintro e w2 ⟨v', rfl, HO2, HB2⟩))
      go_ret
      exact ⟨_, rfl, HO2, HB.trans HB2⟩
end Go.Proofs.Ytefcepjffeiaoaa
end

section
/- Table: numbers as four octets, framed octets, the mark. -/
namespace Go.Proofs.Ytefcepjffeiaoaa
open Go.RowKit Go.Proofs.YtefcepjffeiaoaaW.PrintWords
set_option linter.unusedVariables false

theorem i64_or_nat (a b : Nat) (ha : a < 9223372036854775808) (hb : b < 9223372036854775808) : bits .or .i64 (a : Int) (b : Int) = ((a ||| b : Nat) : Int) := by
  have key : (BitVec.ofInt 64 (a : Int) ||| BitVec.ofInt 64 (b : Int)).toNat = a ||| b := by
    rw [BitVec.toNat_or, BitVec.toNat_ofInt, BitVec.toNat_ofInt]
    congr 1 <;> omega
  have hlt : a ||| b < 2 ^ 63 := Nat.or_lt_two_pow ha hb
  show IntKind.i64.wrap ((BitVec.ofInt 64 (a : Int) ||| BitVec.ofInt 64 (b : Int)).toNat : Nat) = _
  rw [key, IntKind.wrap_i64]
  omega
theorem or_lo (a : Nat) (x : UInt8) (h : a * 256 + x.toNat < 9223372036854775808) : bits .or .i64 ((a : Int) * 256) (x.toNat : Int) = ((a * 256 + x.toNat : Nat) : Int) := by
  have hx := x.toNat_lt
  have e : (a : Int) * 256 = ((a * 256 : Nat) : Int) := by omega
  have h1 : a * 256 < 9223372036854775808 := Nat.lt_of_le_of_lt (Nat.le_add_right _ _) h
  have h2 : x.toNat < 9223372036854775808 := Nat.lt_of_lt_of_le hx (by decide)
  rw [e, i64_or_nat (a * 256) x.toNat h1 h2]
  congr 1
  have := Nat.shiftLeft_add_eq_or_of_lt (i := 8) (b := x.toNat) (by omega) a
  rw [Nat.shiftLeft_eq] at this
  exact this.symm
/-- the first k octets' number -/
def numK (b : List UInt8) : Nat → Nat
  | 0 => 0
  | k + 1 => numK b k * 256 + (b.getD k 0).toNat
theorem numK_lt (b : List UInt8) (k : Nat) (hk : k ≤ 7) : numK b k < 72057594037927936 ∧ (k ≤ 3 → numK b k < 16777216) := by
  have h : ∀ k, numK b k < 256 ^ k := by
    intro k
    induction k with
    | zero => simp [numK]
    | succ k ih =>
      have := (b.getD k 0).toNat_lt
      rw [numK, Nat.pow_succ]; omega
  refine ⟨Nat.lt_of_lt_of_le (h k) (Nat.pow_le_pow_right (by decide) hk), fun h3 => Nat.lt_of_lt_of_le (h k) (Nat.pow_le_pow_right (by decide) h3)⟩
theorem numK_four (b : List UInt8) : numK b 4 = num4 b := by simp [numK, num4]
theorem num_facts (b : List UInt8) (k : Nat) (hk : k < 4) : ∃ (m x p : Nat), numK b k = m ∧ (b.getD k 0).toNat = x ∧ numK b (k + 1) = p ∧ wrap64 ((m : Int) * 256) = (m : Int) * 256 ∧ wrap64 (x : Int) = (x : Int) ∧ bits .or .i64 ((m : Int) * 256) (x : Int) = (p : Int) := by
  have h1 := (numK_lt b k (by omega)).2 (by omega)
  have h2 := (b.getD k 0).toNat_lt
  refine ⟨_, _, _, rfl, rfl, rfl, ?_, ?_, ?_⟩
  · unfold wrap64; omega
  · unfold wrap64; omega
  · exact or_lo _ _ (by omega)
set_option maxRecDepth 100000 in
set_option maxHeartbeats 800000 in
theorem number_any4 (A : Option Addr) (c n : Nat) (b : List UInt8) (w : World) (hn : b.length = n) (hx : RdB w A c b) (h4 : 4 ≤ n) :
    Calls Try.prog 49 #[.slice A n c] w fun e w' => e = .returned (.int .i64 (num4 b : Int)) ∧ w = w' := by
  have HN := hide hn
  have hc : n ≤ c := by have := hx.1; omega
  have hs := fun W => slice_hi 23 5 Try.underlying23 (i := _) rfl rfl A n c 4 (by omega) W
  clear hn
  go_enter Try.func49, Try.ntmps49
  go_wp2
  go_loop [3, 9] (fun mv iv => ∃ k : Nat, k ≤ 4 ∧ iv = .int .i64 (k : Int) ∧ mv = .int .i64 (numK b k : Int)) (fun mv iv => 4 - (intOf iv).toNat)
  case atStart => exact ⟨0, by omega, rfl, rfl⟩
  case round =>
    obtain ⟨k, hk, rfl, rfl⟩ := hrel
    by_cases hlt : k < 4
    · have hlti : (k : Int) < 4 := Int.ofNat_lt.2 hlt
      obtain ⟨ad, rfl, hcell⟩ := hx.at_ k (by rw [HN.out]; omega)
      obtain ⟨m, x, p, f1, f2, f3, f4, f5, f6⟩ := num_facts b k hlt
      rw [f1]
      rw [f2] at hcell
      have F3 := hide f3
      clear f1 f2 f3 hs
      go_wp2
      go_round
      case rel => exact ⟨k + 1, by omega, by go_num, by rw [F3.out]⟩
      case measure => simp [intOf]; omega
    · obtain rfl : k = 4 := by omega
      have e := numK_four b
      rw [e]
      clear e hs
      go_wp2
      go_ret
      exact ⟨rfl, rfl⟩
theorem fourN_map (n : Nat) (hn : n < 4294967296) : (fourN n).map eu8 = [.int .u8 ((n : Int) / 16777216), .int .u8 ((n : Int) / 65536 % 256), .int .u8 ((n : Int) / 256 % 256), .int .u8 ((n : Int) % 256)] := by
  simp only [fourN, List.map_cons, List.map_nil, eu8, UInt8.toNat_ofNat']
  rw [show ((n / 16777216 % 2 ^ 8 : Nat) : Int) = (n : Int) / 16777216 by omega]
  congr 2
set_option maxRecDepth 100000 in
set_option maxHeartbeats 800000 in
theorem four_any (v : Value) (xs : List UInt8) (base n : Nat) (w0 w : World) (HO : OwB w base v xs) (hn : n < 4294967296) (hl : xs.length ≤ 1000000) (HB : Below base w0 w) (hbase : base ≤ w.heap.size) :
    Calls Try.prog 35 #[v, .int .i64 (n : Int)] w fun e w' => ∃ v', e = .returned v' ∧ OwB w' base v' (xs ++ fourN n) ∧ Below base w0 w' := by
  have h4 := fourN_map n hn
  have hx4 : RdB (w.alloc (.cells #[.int .u8 ((n : Int) / 16777216), .int .u8 ((n : Int) / 65536 % 256), .int .u8 ((n : Int) / 256 % 256), .int .u8 ((n : Int) % 256)] 5)) (some ⟨w.heap.size, 0, none⟩) 4 (fourN n) := RdB_lit (fourN n) w _ _ _ _ rfl h4.symm (by decide : (4 : Nat) ≤ _)
  have hO2 := HO.below (below_alloc w (.cells #[.int .u8 ((n : Int) / 16777216), .int .u8 ((n : Int) / 65536 % 256), .int .u8 ((n : Int) / 256 % 256), .int .u8 ((n : Int) % 256)] 5))
  have hB2 := HB.alloc hbase (.cells #[.int .u8 ((n : Int) / 16777216), .int .u8 ((n : Int) / 65536 % 256), .int .u8 ((n : Int) / 256 % 256), .int .u8 ((n : Int) % 256)] 5)
  have hl4 : xs.length + (fourN n).length ≤ 140737488355328 := by show xs.length + 4 ≤ _; omega
  have hbs : base ≤ (w.alloc (.cells #[.int .u8 ((n : Int) / 16777216), .int .u8 ((n : Int) / 65536 % 256), .int .u8 ((n : Int) / 256 % 256), .int .u8 ((n : Int) % 256)] 5)).heap.size := by rw [World.size_alloc]; omega
  clear h4 hl
  have HL := hide hl4
  clear hl4
  go_enter Try.func35, Try.ntmps35
  go_wp2_with (first | (at_builtin; refine app_row (w0 := w0) (W := w.alloc (.cells #[.int .u8 ((n : Int) / 16777216), .int .u8 ((n : Int) / 65536 % 256), .int .u8 ((n : Int) / 256 % 256), .int .u8 ((n : Int) % 256)] 5)) base rfl (.tmp 5) (.tmp 17) rfl v xs (fourN n) (some ⟨w.heap.size, 0, none⟩) 4 (by rfl) (by rfl) hO2 hx4 hB2 hbs HL.out ?_; intro v1 w1 HO1 HB1 hg1 hat1))
  go_ret
  exact ⟨_, rfl, HO1, HB1⟩
set_option maxRecDepth 100000 in
set_option maxHeartbeats 800000 in
theorem framed_any (K : Int) (A : Option Addr) (c n : Nat) (d : List UInt8) (w : World) (hn : d.length = n) (hx : RdB w A c d) (hK0 : 0 ≤ K) (hK : K ≤ 255) :
    Calls Try.prog 34 #[.int .i64 K, .slice A n c] w fun e w' => ∃ v, e = .returned v ∧ OwB w' w.heap.size v (putFX K d) ∧ Below w.heap.size w w' := by
  have hP := Fr.FPut_any K A c d w hx (by simp [Lit.wf, IntKind.min, IntKind.max, IntKind.signed, IntKind.bits]; omega)
  rw [hn] at hP
  obtain ⟨E, hE⟩ : ∃ E, putFE K n = E := ⟨_, rfl⟩
  rw [hE] at hP
  clear hE hn
  unfold fil at hP
  go_enter Try.func34, Try.ntmps34
  go_wp2_with (first | (go_at_call 71; (with_reducible refine hP.mono ?_); rintro e w1 ⟨v1, rfl, HO1, HB1⟩))
  go_ret
  exact ⟨_, rfl, HO1, HB1⟩
set_option maxRecDepth 100000 in
set_option maxHeartbeats 800000 in
theorem HasPrefix_any (A B : Option Addr) (c d n m : Nat) (xs ys : List UInt8) (w : World) (hn : xs.length = n) (hm : ys.length = m) (hx : RdB w A c xs) (hy : RdB w B d ys) (hmn : m ≤ n) :
    Calls Try.prog 47 #[.slice A n c, .slice B m d] w fun e w' => e = .returned (.bool (decide (xs.take m = ys))) ∧ Below w.heap.size w w' := by
  have hc : m ≤ c := by have := hx.1; omega
  have hs := fun W => slice_hi 23 5 Try.underlying23 (i := _) rfl rfl A n c m (by omega) W
  have hE := Equal_any A B c d m m (xs.take m) ys w (by rw [List.length_take]; omega) hm (hx.take m (by omega)) hy
  have hge : (m : Int) ≤ (n : Int) := Int.ofNat_le.2 hmn
  have hng : ¬ (n : Int) < (m : Int) := by omega
  obtain ⟨r, hr⟩ : ∃ r, decide (xs.take m = ys) = r := ⟨_, rfl⟩
  rw [hr] at hE ⊢
  clear hr hn hm hc
  go_enter Try.func47, Try.ntmps47
  go_wp2_with (first | (go_at_call 50; (with_reducible refine hE.mono ?_); rintro e w1 ⟨rfl, HB1⟩))
  go_ret
  exact ⟨rfl, HB1⟩
end Go.Proofs.Ytefcepjffeiaoaa
end

section
/- Table: the parts, one by one. -/
namespace Go.Proofs.Ytefcepjffeiaoaa
open Go.RowKit Go.Shelf Go.Proofs.YtefcepjffeiaoaaW.PrintWords
set_option linter.unusedVariables false
attribute [local go_sem] Oper.semAt_some

theorem sliceK_lhm {P : Program} (t e : TypeId) {i : TypeInfo} (ht : P.underlying t = some (.slice e)) (hi : P.info? e = some i) (sz : Nat) (hsz : i.size = sz) (A : Option Addr) (n c j k : Nat) (hj : j < k) (hk : k ≤ c) (W : World) :
    (Instr.slice t (.slice A n c) (some (.int .i64 (j : Int))) (some (.int .i64 (k : Int))) (some (.int .i64 (k : Int)))).run P W = .ok (.slice (A.map (·.add (j * sz))) (k - j) (k - j)) W := by
  subst hsz
  have hel : P.elem t = e := by simp [Program.elem, ht]
  have hu : P.underlying t = some (.slice (P.elem t)) := by rw [hel]; exact ht
  rw [run_slice_lhm W t A n c hu .i64 .i64 .i64 (j : Int) (k : Int) (k : Int) (Int.natCast_nonneg _) (by omega) (by omega) (by omega), hel]
  have : ¬ k = j := by omega
  simp [sizeOf, typeInfo, hi, sliced, Result.andThen, this]
def endN (n k : Nat) : Nat := min 16 (n - 16 * k)
/-- round k's values: the part -/
def valsC (A : Option Addr) (n k : Nat) : Array Value := #[.slice (A.map (·.add (16 * k * 4))) (endN n k) (endN n k)]
def iterC (c0 : Nat) : Array Value := #[.pointer (some ⟨c0, 0, none⟩), .pointer (some ⟨c0 + 1, 0, none⟩)]
structure BoxC (w : World) (c0 : Nat) (A : Option Addr) (n c : Nat) : Prop where
  s : w.heap[c0]? = some (.cells #[.slice A n c] 22)
  n : w.heap[c0 + 1]? = some (.cells #[.int .i64 16] 3)
theorem BoxC.same {A B : World} {c0 : Nat} {a : Option Addr} {n c : Nat} (h : BoxC A c0 a n c) (h0 : B.heap[c0]? = A.heap[c0]?) (h1 : B.heap[c0 + 1]? = A.heap[c0 + 1]?) : BoxC B c0 a n c := ⟨h0.trans h.s, h1.trans h.n⟩
set_option maxRecDepth 100000 in
set_option maxHeartbeats 800000 in
theorem Chunk_any (A : Option Addr) (n c : Nat) (w : World) :
    Calls Try.prog 27 #[.slice A n c, .int .i64 16] w fun e w' => e = .returned (.func (.func 64) #[] (iterC w.heap.size)) ∧ w'.heap.size = w.heap.size + 2 ∧ BoxC w' w.heap.size A n c ∧ Below w.heap.size w w' := by
  have q0 := heap_alloc_new w (.cells #[.slice A n c] 22)
  have q1 := heap_alloc_new (w.alloc (.cells #[.slice A n c] 22)) (.cells #[.int .i64 16] 3)
  rw [World.size_alloc] at q1
  have q2 : ((w.alloc (.cells #[.slice A n c] 22)).alloc (.cells #[.int .i64 16] 3)).heap[w.heap.size]? = some (.cells #[.slice A n c] 22) := (Below.heap_alloc _ _ _ (by simp)).trans q0
  have d := blk_cell q1 0
  go_enter Try.func27, Try.ntmps27
  go_wp2
  go_ret
  exact ⟨rfl, by simp, ⟨q2, q1⟩, ((Below.refl _ w).alloc (Nat.le_refl _) _).alloc (by simp) _⟩
theorem chunk_facts (n k : Nat) (hk : 16 * k < n) (hn : n ≤ 1000000) : ∃ i e j : Nat, 16 * k = i ∧ endN n k = e ∧ min 16 (n - i) = e ∧ i + e = j ∧ i < j ∧ j ≤ n ∧ j - i = e ∧ wrap64 ((i : Int) + (e : Int)) = (j : Int) ∧ IntKind.i64.wrap ((i : Int) + (e : Int)) = (j : Int) ∧ (i : Int) + 16 = ((16 * (k + 1) : Nat) : Int) ∧ (i : Int) < (n : Int) ∧ i ≤ n := by
  refine ⟨_, _, _, rfl, rfl, rfl, rfl, ?_, ?_, ?_, ?_, ?_, ?_, ?_, ?_⟩
  · unfold endN; omega
  · unfold endN; omega
  · omega
  · unfold wrap64 endN; omega
  · rw [IntKind.wrap_i64]; unfold endN; omega
  · omega
  · omega
  · omega
set_option maxRecDepth 100000 in
set_option maxHeartbeats 1600000 in
theorem iterC_any (A : Option Addr) (n c c0 : Nat) (w : World) (hB : BoxC w c0 A n c) (hn : n ≤ 1000000) (hc : n ≤ c) (hg : c0 + 2 ≤ w.heap.size) :
    IterV Try.prog 64 (iterC c0) (fun j => j = c0 ∨ j = c0 + 1) (nparts n) (fun k _ vs _ => vs = valsC A n k) w := by
  intro d l J Jx W hW hsz hJ hR h0
  unfold iterC
  refine callsIn_of_wp Try.func64 rfl trivial ?_ rfl
  simp only [Try.ntmps64, List.size_toArray, List.length_cons, List.length_nil, Nat.reduceAdd, Nat.reduceSub, Array.replicate_succ, Array.replicate_zero, List.push_toArray, List.append_toArray, List.nil_append, List.cons_append]
  have hB1 : BoxC W c0 A n c := hB.same (hW _ (.inl rfl) (by omega)) (hW _ (.inr rfl) (by omega))
  gi_wp2
  gi_loopw [4] (fun i wr => ∃ k : Nat, k ≤ nparts n ∧ i = .int .i64 ((16 * k : Nat) : Int) ∧ J k wr ∧ BoxC wr c0 A n c ∧ W.heap.size ≤ wr.heap.size) (fun i wr => n + 16 - (intOf i).toNat)
  case atStart => exact ⟨0, Nat.zero_le _, rfl, h0, hB1, Nat.le_refl _⟩
  case round =>
    obtain ⟨k, hk, rfl, hJk, hBk, hszk⟩ := hrel
    have a0 : wr.cell? ⟨c0, 0, none⟩ = some (.slice A n c) := blk_cell hBk.s 0
    have a1 : wr.cell? ⟨c0 + 1, 0, none⟩ = some (.int .i64 16) := blk_cell hBk.n 0
    by_cases hlt : 16 * k < n
    · have hkN : k < nparts n := by unfold nparts; omega
      obtain ⟨fn, tmps, assign, body, hy, hRd⟩ := hR k W.heap.size _ wr.drew hkN (Nat.le_refl _) rfl (hJ k wr wr.drew (Below.refl _ _).drew hJk)
      obtain ⟨i, e, j, f1, f2, f3, f4, f5, f6, f7, f8, f9, f10, f11, f12⟩ := chunk_facts n k hlt hn
      unfold valsC at hy
      rw [f1, f2] at hy
      rw [f1]
      have F10 := hide f10
      have F1 := hide f1
      have hsl := fun W => sliceK_lhm 22 43 Try.underlying22 (i := _) rfl 4 rfl A n c i j f5 (Nat.le_trans f6 hc) W
      rw [f7] at hsl
      have hsl2 := fun W => sliceK_lo 22 43 Try.underlying22 (i := _) rfl 4 rfl A n c i f12 W
      have hmin : ∀ tys ty W, (Builtin.min_ tys ty #[.int .i64 16, .int .i64 ((n - i : Nat) : Int)]).run Try.prog W = .ok (.int .i64 (e : Int)) W := by
        intro tys ty W
        have h := min2_nat .i64 16 (n - i)
        have e0 : Builtin.min_ tys ty #[.int .i64 16, .int .i64 ((n - i : Nat) : Int)] = Builtin.min2 (.int .i64 ((16 : Nat) : Int)) (.int .i64 ((n - i : Nat) : Int)) := by simp [Builtin.min_]
        rw [e0, h]
        show (pure (Value.int .i64 ((min 16 (n - i) : Nat) : Int)) : Sem Value).run Try.prog W = _
        rw [f3]
        rfl
      clear f1 f2 f3 f4 f7 f10 hlt
      gi_wp2
      gi_region
      all_goals gi_wp2
      refine ⟨fun h => absurd h (by simp [Fence.wide]), hRd.mono ?_⟩
      rintro e1 B (⟨rfl, hJB, hkeep, hsB⟩ | ⟨rfl, hJx⟩)
      · have hBB : BoxC B c0 A n c := (hBk.same (B := wr.drew) rfl rfl).same (hkeep _ (.inl rfl) (by omega)) (hkeep _ (.inr rfl) (by omega))
        have d0 : B.cell? ⟨c0, 0, none⟩ = some (.slice A n c) := blk_cell hBB.s 0
        have d1 : B.cell? ⟨c0 + 1, 0, none⟩ = some (.int .i64 16) := blk_cell hBB.n 0
        gi_wp2
        go_roundw
        case rel => exact ⟨k + 1, hkN, by rw [F10.out], hJB, hBB, Nat.le_trans hszk hsB⟩
        case measure =>
          have := F1.out
          simp [intOf, F10.out]; omega
      · gi_wp2
        refine bodyPost_ret (results_none rfl _ _ _) rfl ?_
        exact ⟨⟨_, rfl⟩, .inr ⟨k, hkN, hJx⟩⟩
    · obtain rfl : k = nparts n := by unfold nparts at *; omega
      have hlt2 : ¬ ((16 * nparts n : Nat) : Int) < (n : Int) := by omega
      gi_wp2
      go_end0
      exact ⟨⟨_, rfl⟩, .inl hJk⟩
end Go.Proofs.Ytefcepjffeiaoaa
end

section
/- Table: appends as runs, four rows concatenated, a part that is read. -/
namespace Go.Proofs.Ytefcepjffeiaoaa
open Go.RowKit Go.Shelf Go.Proofs.YtefcepjffeiaoaaW.PrintWords
set_option linter.unusedVariables false

theorem stp {X Y Z : World} (h : Below X.heap.size X Y) (k : Below Y.heap.size Y Z) : Below X.heap.size X Z := h.trans (k.mono h.size)
set_option maxRecDepth 100000 in
set_option maxHeartbeats 400000 in
theorem row_run {W : World} (base : Nat) (ty : TypeId) (v : Value) (xs ys : List UInt8) (A : Option Addr) (m c : Nat) (hm : ys.length = m) (HO : OwB W base v xs) (HR : RdB W A c ys) (hbase : base ≤ W.heap.size) (hl : xs.length + m ≤ 140737488355328) :
    ∃ v1 w1, (Builtin.append_ #[23, 23] ty #[v, .slice A m c]).run Try.prog W = .ok v1 w1 ∧ OwB w1 base v1 (xs ++ ys) ∧ W.grownBy w1 v.ownBlock ∧ (v1.ownBlock = v.ownBlock ∨ ∃ b, v1.ownBlock = some b ∧ W.heap.size ≤ b) := by
  obtain ⟨i0, hi, hzz⟩ := Option.map_eq_some_iff.1 info_u8
  simp only [Prod.mk.injEq] at hzz
  obtain ⟨hz0, hz1, hz2⟩ := hzz
  subst hm
  rcases A with _ | ad
  · have h0 : ys.length = 0 := by
      rcases Nat.eq_zero_or_pos ys.length with h0 | h0
      · exact h0
      · obtain ⟨ad, h, _⟩ := HR.2.2.2 h0
        cases h
    obtain rfl : ys = [] := List.eq_nil_of_length_eq_zero h0
    refine ⟨v, W, ?_, by simpa using HO, World.grownBy.refl W _, .inl rfl⟩
    rcases HO.2 with ⟨rfl, hn⟩ | ⟨g, cap, cur, rfl, _, _, hnc, _⟩
    · simp [Builtin.append_, run_underlying Try.underlying23, sizeOf, typeInfo, hi, Builtin.lenOf, Builtin.firstCells]
    · simp [Builtin.append_, run_underlying Try.underlying23, sizeOf, typeInfo, hi, Builtin.lenOf, Builtin.firstCells, hnc, storeCells]
  · have hcells : ∀ j u, (encs eu8 ys)[j]? = some u → W.cell? (ad.add j) = some u := by
      intro j u hu
      have hj : j < ys.length := by
        rcases Nat.lt_or_ge j ys.length with h | h
        · exact h
        · simp [encs, List.getElem?_eq_none h] at hu
      obtain ⟨ad', h', hc⟩ := HR.2.2.2 (by omega)
      injection h' with h'
      subst h'
      rw [encs_get (d := 0) ys j hj] at hu
      rw [← hu]
      exact hc j (by omega)
    obtain ⟨v1, w1, hr, h2, h3, _, h5⟩ := run_append_own_at (P := Try.prog) W base 23 ty 5 i0 (.int .u8 0) 1 1 Try.underlying23 hi hz0 hz1 hz2 rfl (by omega) v xs.length (encs eu8 xs) HO ad ys.length c (encs eu8 ys) (by simp [encs]) hcells
      (by intro u hu; simp only [encs, List.mem_map] at hu; obtain ⟨q, _, rfl⟩ := hu; exact eu8_one q) (by simp only [maxLen]; omega) (by omega) hbase
    refine ⟨v1, w1, hr, by simpa [OwB, encs] using h2, h3, ?_⟩
    rcases h5 with h5 | h5
    · exact .inl h5
    · exact .inr ⟨_, h5, Nat.le_refl _⟩
section
variable {F : Fence} {D : Nat} {P : Program} {ops : Array Oper} {rest : List Oper} {o : Oper} {a : Act} {Q : Exit → Act → World → Prop}
theorem app_stepIn {W w1 : World} {v xv v1 : Value} (hgd : o.guard = none) (s x : Operand) (t1 t2 : TypeId) (ho : o.op = .call { callee := .builtin .append, args := #[s, x], argTypes := #[t1, t2] }) (hs : a.eval s = v) (hx : a.eval x = xv)
    (hr : (Builtin.append_ #[t1, t2] o.type #[v, xv]).run P W = .ok v1 w1) (h : wpListIn F D P ops Q rest (a.put o.dst v1) w1) : wpListIn F D P ops Q (o :: rest) a W := by
  refine wpListIn_plain hgd fun K hK' => ?_
  unfold Oper.wpIn
  refine ⟨?_, ?_⟩
  · simp [Oper.about, ho, resolve, Target.leads, Sem.run_pure]
  · rw [Oper.semAt_plain F _ _ (by rw [ho]; intro c hc'; cases hc')]
    have e : (execOp a.eval o).run P W = .ok (.value v1) w1 := by
      unfold execOp
      simp only [ho, resolve, invoke, builtin, Sem.run_bind, Sem.run_pure, Result.andThen_ok, List.map_toArray, List.map_cons, List.map_nil, hs, hx, hr]
    rw [e]
    exact hK' _ _ h
theorem app_step {W w1 : World} {v xv v1 : Value} (hgd : o.guard = none) (s x : Operand) (t1 t2 : TypeId) (ho : o.op = .call { callee := .builtin .append, args := #[s, x], argTypes := #[t1, t2] }) (hs : a.eval s = v) (hx : a.eval x = xv)
    (hr : (Builtin.append_ #[t1, t2] o.type #[v, xv]).run P W = .ok v1 w1) (h : wpList P ops Q rest (a.put o.dst v1) w1) : wpList P ops Q (o :: rest) a W := by
  refine wpList_plain hgd fun K hK => ?_
  unfold Oper.wp execOp
  simp only [ho, resolve, invoke, builtin, Sem.run_bind, Sem.run_pure, Result.andThen_ok, List.map_toArray, List.map_cons, List.map_nil, hs, hx, hr]
  exact hK _ _ h
end
theorem Concat_four (A1 A2 A3 A4 : Option Addr) (c1 c2 c3 c4 n1 n2 n3 n4 n : Nat) (x1 x2 x3 x4 : List UInt8) (W : World) (hn : W.heap.size = n) (h1 : RdB W A1 c1 x1) (h2 : RdB W A2 c2 x2) (h3 : RdB W A3 c3 x3) (h4 : RdB W A4 c4 x4) (l1 : x1.length = n1) (l2 : x2.length = n2) (l3 : x3.length = n3) (l4 : x4.length = n4) (ht : x1.length + x2.length + x3.length + x4.length ≤ 140737488355328) :
    Calls Try.prog 29 #[.slice (some ⟨n, 0, none⟩) 4 4] (W.alloc (.cells #[.slice A1 n1 c1, .slice A2 n2 c2, .slice A3 n3 c3, .slice A4 n4 c4] 23)) fun e w' => ∃ v, e = .returned v ∧ OwB w' W.heap.size v (x1 ++ (x2 ++ (x3 ++ x4))) ∧ Below W.heap.size W w' := by
  subst hn
  subst l1
  subst l2
  subst l3
  subst l4
  have hb : Below W.heap.size W (W.alloc (.cells #[.slice A1 x1.length c1, .slice A2 x2.length c2, .slice A3 x3.length c3, .slice A4 x4.length c4] 23)) := (Below.refl _ _).alloc (Nat.le_refl _) _
  refine (Concat_any (some ⟨W.heap.size, 0, none⟩) 4 [(A1, c1, x1), (A2, c2, x2), (A3, c3, x3), (A4, c4, x4)] _ ⟨rfl, by simp, fun _ => ⟨_, rfl, fun j hj => ?_⟩⟩ ?_ (by simp [total]; omega)).mono ?_
  · rw [add_plain, World.cell?_alloc_mark]
    have : j = 0 ∨ j = 1 ∨ j = 2 ∨ j = 3 := by simp at hj; omega
    rcases this with rfl | rfl | rfl | rfl <;> rfl
  · intro s hs
    simp only [List.mem_cons, List.not_mem_nil, or_false] at hs
    rcases hs with rfl | rfl | rfl | rfl
    · exact h1.below hb
    · exact h2.below hb
    · exact h3.below hb
    · exact h4.below hb
  · rintro e w' ⟨v, rfl, HO, HB⟩
    exact ⟨v, rfl, by simpa [joined] using HO.lower (by simp), hb.trans (HB.mono (by simp))⟩
/-- a mark's world: a constant's octets -/
abbrev mkW (w : World) : World := w.alloc (.cells #[.int .u8 116, .int .u8 107, .int .u8 116, .int .u8 98] 5 (4, 5))
theorem rd_mark (w : World) : RdB (mkW w) (some ⟨w.heap.size, 0, none⟩) 4 markT := RdB_lit markT w _ _ _ _ rfl rfl (by decide)
theorem conv_mark (w : World) : (convert 23 23 (.slice (some ⟨w.heap.size, 0, none⟩) 4 4)).run Try.prog (w.alloc (.cells #[.int .u8 116, .int .u8 107, .int .u8 116, .int .u8 98] 5)) = .ok (.slice (some ⟨w.heap.size, 0, none⟩) 4 4) (mkW w) :=
  Lib.run_convert_bytes_const w 23 5 #[.int .u8 116, .int .u8 107, .int .u8 116, .int .u8 98] 4 4 Try.underlying23 Try.underlying5
set_option maxRecDepth 100000 in
set_option maxHeartbeats 400000 in
/-- four octets appended to four that fill their row -/
theorem full_run {W : World} (ty : TypeId) (ad : Addr) (xs ys : List UInt8) (A : Option Addr) (c : Nat) (hm : xs.length = 4) (hk : ys.length = 4) (hx : RdB W (some ad) 4 xs) (hy : RdB W A c ys) :
    ∃ v1 w1, (Builtin.append_ #[23, 23] ty #[.slice (some ad) 4 4, .slice A 4 c]).run Try.prog W = .ok v1 w1 ∧ OwB w1 W.heap.size v1 (xs ++ ys) ∧ Below W.heap.size W w1 := by
  obtain ⟨i0, hi, hzz⟩ := Option.map_eq_some_iff.1 info_u8
  simp only [Prod.mk.injEq] at hzz
  obtain ⟨hz0, hz1, hz2⟩ := hzz
  obtain ⟨ay, rfl, -⟩ := hy.at_ 0 (by omega)
  have hcells : ∀ (a : Addr) (zs : List UInt8), RdB W (some a) zs.length zs → ∀ j u, (encs eu8 zs)[j]? = some u → W.cell? (a.add j) = some u := by
    intro a zs h j u hu
    have hj : j < zs.length := by
      rcases Nat.lt_or_ge j zs.length with h | h
      · exact h
      · simp [encs, List.getElem?_eq_none h] at hu
    obtain ⟨ad', h', hc⟩ := h.2.2.2 (by omega)
    injection h' with h'
    subst h'
    rw [encs_get (d := 0) zs j hj] at hu
    rw [← hu]
    exact hc j (by omega)
  have hlx : (encs eu8 xs).length = 4 * i0.size := by rw [hz1]; simp [encs, hm]
  have hly : (encs eu8 ys).length = 4 * i0.size := by rw [hz1]; simp [encs, hk]
  have hr := run_append_grow (P := Try.prog) W 23 ty 5 i0 (.int .u8 0) Try.underlying23 hi hz0 ad 4 4 (encs eu8 xs) hlx (hcells ad xs (by rw [hm]; exact hx)) ay 4 c (encs eu8 ys) hly (hcells ay ys ⟨Nat.le_refl _, hy.2⟩) (by decide) (by decide) (by rw [hz2]; decide)
  refine ⟨_, _, hr, ⟨by simp [encs], .inr ⟨W.heap.size, _, _, by rw [List.length_append, hm, hk], Nat.le_refl _, heap_alloc_new W.drew _, ?_, grownCap_le_maxLen W _ _ _ (by decide), ?_, ?_⟩⟩, ((Below.refl _ W).drew).alloc (Nat.le_refl _) _⟩
  · rw [List.length_append, hm, hk]; exact grownCap_ge W 8 4 _
  · have hge := grownCap_ge W (4 + 4) 4 5
    have h1 : (Value.int .u8 0).cells.size = 1 := rfl
    have hlx' : (encs eu8 xs).length = 4 := by simp [encs, hm]
    have hly' : (encs eu8 ys).length = 4 := by simp [encs, hk]
    simp only [Array.size_append, List.size_toArray, size_zeroCells, h1, hlx', hly']
    omega
  · have e1 : encs eu8 (xs ++ ys) = encs eu8 xs ++ encs eu8 ys := by simp [encs]
    have e2 : (xs ++ ys).length * 1 = (encs eu8 xs ++ encs eu8 ys).length := by simp [encs]
    simp only [Array.toList_append, List.append_assoc]
    rw [← List.append_assoc, e1, e2]
    exact List.take_left
set_option maxRecDepth 100000 in
set_option maxHeartbeats 800000 in
theorem four_first (ad : Addr) (xs : List UInt8) (n : Nat) (w : World) (hx : RdB w (some ad) 4 xs) (hm : xs.length = 4) (hn : n < 4294967296) :
    Calls Try.prog 35 #[.slice (some ad) 4 4, .int .i64 (n : Int)] w fun e w' => ∃ v', e = .returned v' ∧ OwB w' w.heap.size v' (xs ++ fourN n) ∧ Below w.heap.size w w' := by
  have h4 := fourN_map n hn
  have hx4 : RdB (w.alloc (.cells #[.int .u8 ((n : Int) / 16777216), .int .u8 ((n : Int) / 65536 % 256), .int .u8 ((n : Int) / 256 % 256), .int .u8 ((n : Int) % 256)] 5)) (some ⟨w.heap.size, 0, none⟩) 4 (fourN n) := RdB_lit (fourN n) w _ _ _ _ rfl h4.symm (by decide : (4 : Nat) ≤ _)
  have hB2 := below_alloc w (.cells #[.int .u8 ((n : Int) / 16777216), .int .u8 ((n : Int) / 65536 % 256), .int .u8 ((n : Int) / 256 % 256), .int .u8 ((n : Int) % 256)] 5)
  obtain ⟨v1, w1, hap, O1, B1⟩ := full_run 23 ad xs (fourN n) _ 4 hm rfl (hx.below hB2) hx4
  have O2 := O1.lower hB2.size
  have B2 := stp hB2 B1
  clear h4 hx hx4
  go_enter Try.func35, Try.ntmps35
  go_wp2_with (first | (at_builtin; refine app_step rfl (.tmp 5) (.tmp 17) 23 23 rfl rfl rfl hap ?_))
  go_ret
  exact ⟨_, rfl, O2, B2⟩
/-- a part that is read -/
theorem part_rd (A : Option Addr) (c n : Nat) (l : List Ent) (w : World) (hn : l.length = n) (hr : RdE w A c l) (k : Nat) (hk : 16 * k < n) : (part l k).length = endN n k ∧ RdE w (A.map (·.add (16 * k * 4))) (endN n k) (part l k) := by
  have h1 : (part l k).length = endN n k := by rw [part_length, endN]; omega
  have hc := hr.le
  have h2 := hr.mid (16 * k) (16 * k + endN n k) (Nat.le_add_right _ _) (by unfold endN; omega)
  have h3 : cutK kEnt.sz A c (16 * k) = A.map (·.add (16 * k * 4)) := by
    rw [cutK, if_neg (by omega)]; rfl
  have h4 : (l.take (16 * k + endN n k)).drop (16 * k) = part l k := by
    rw [part]
    have : l.take (16 * k + endN n k) = l.take (16 * k + 16) := by
      rcases Nat.lt_or_ge (16 * k + 16) n with h | h
      · rw [show endN n k = 16 by unfold endN; omega]
      · rw [List.take_of_length_le (by unfold endN; omega), List.take_of_length_le (by omega)]
    rw [this]
  rw [h3, h4] at h2
  exact ⟨h1, by rw [h1]; exact Nat.le_refl _, h2.2⟩
end Go.Proofs.Ytefcepjffeiaoaa
end

section
/- A region that draws, in a round of a range over a function: by the walk that holds a condition on the world. -/
namespace Go.Proofs.Ytefcepjffeiaoaa
open Go.RowKit Go.Shelf Go.Proofs.YtefcepjffeiaoaaW.PrintWords
set_option linter.unusedVariables false

theorem upon_in {l n : Nat} {P : Program} {o : Oper} {a : Act} {K : Act → World → Prop} {Q : Exit → Act → World → Prop} {r : Result Next} (h : Oper.upon P o a K Q r) : Oper.uponIn (Fence.wide.inRound l) n P o a K Q r := by
  cases r with
  | ok x w' =>
    cases x <;> simp only [Oper.upon, Oper.uponIn] at h ⊢ <;>
      first
        | exact h
        | exact ⟨fun hd => absurd hd (by simp [Fence.wide]), CallsIn.inRound l (callsIn_wide.2 h)⟩
        | exact ⟨fun hd => absurd hd (by simp [Fence.wide]), fun c cs _ => let ⟨v, w1, hr, hs⟩ := h c cs; ⟨v, w1, hr, stepsIn_wide.2 hs⟩⟩
        | exact h.elim
  | halt x w' => cases x <;> simp only [Oper.upon, Oper.uponIn] at h ⊢ <;> exact h
theorem wpOp_in {l n : Nat} {P : Program} {ops : Array Oper} {Q : Exit → Act → World → Prop} (hout : ¬ LetsOut Q) {i : Nat} (hnd : ∀ (o : Oper) (c : Call), ops[i]? = some o → o.op ≠ .defer c) {K : Act → World → Prop} {a : Act} {w : World} (h : wpOp P ops Q i K a w) :
    wpOpIn (Fence.wide.inRound l) n P ops Q i K a w := by
  unfold wpOp at h
  unfold wpOpIn
  cases ho : ops[i]? with
  | none => simpa [ho] using h
  | some o =>
    simp only [ho] at h ⊢
    split
    · next hw =>
      rw [if_pos hw] at h
      rcases h with h | h
      · refine ⟨fun f _ => trivial, ?_⟩
        rw [Oper.semAt_eq _ _ _ (fun c => hnd o c ho)]
        exact upon_in h
      · exact absurd h.2 hout
    · next hw =>
      rw [if_neg hw] at h
      exact ⟨fun f _ => trivial, h⟩
theorem wpAny_in {l n : Nat} {P : Program} {ops : Array Oper} {Q : Exit → Act → World → Prop} {md : Region.Mode} (hout : ¬ LetsOut Q) (hnd : ∀ (i : Nat) (o : Oper) (c : Call), ops[i]? = some o → o.op ≠ .defer c) : ∀ (fuel : Nat) (listed : Array Bool) (a : Act) (w : World), wpAny P md ops Q fuel listed a w → wpAnyIn (Fence.wide.inRound l) n P md ops Q fuel listed a w
  | 0, _, _, _, h => h
  | fuel + 1, listed, a, w, h => ⟨h.1, fun i hi => wpOp_in hout (hnd i) (wpOp_mono (fun a w => wpAny_in hout hnd fuel _ a w) (h.2 i hi))⟩
def noDefer (ops : Array Oper) : Bool := ops.toList.all fun o => match o.op with
  | .defer _ => false
  | _ => true
theorem noDefer_spec {ops : Array Oper} (h : noDefer ops = true) (i : Nat) (o : Oper) (c : Call) (ho : ops[i]? = some o) : o.op ≠ .defer c := by
  intro e
  have hm : o ∈ ops.toList := by
    rw [Array.getElem?_eq_some_iff] at ho
    obtain ⟨hi, rfl⟩ := ho
    simp
  have := List.all_eq_true.1 h o hm
  rw [e] at this
  cases this
/-- the end of a region, normal alone -/
def Nrm (N : Act → World → Prop) : Exit → Act → World → Prop := fun e a w => e = .normal ∧ N a w
theorem Nrm.noOut (N : Act → World → Prop) : ¬ LetsOut (Nrm N) := fun ⟨_, _, h, _⟩ => by cases h
theorem Nrm.noPanic {N : Act → World → Prop} {c : List PanicEntry} {a a' : Act} {w : World} (h : Nrm N (.panic c) a w) : Nrm N (.panic c) a' w := by cases h.1
theorem region_in_round {l n : Nat} {P : Program} {id : Nat} {ops : Array Oper} {Q : Exit → Act → World → Prop} {a : Act} {w : World} (S : World → Prop) (N : Act → World → Prop) (hm : P.follows .mixedOrders = true) (hnd : noDefer ops = true)
    (h : wpAnyH P .any ops (Nrm N) S ops.size (Array.replicate ops.size false) a w.drew) (hN : ∀ a w, N a w → Q .normal a w) : (Code.region id ops true).wpIn (Fence.wide.inRound l) n P Q a w := by
  refine wpIn_mono (wpIn_region_any (Q := Nrm N) hm ?_) (fun e a w h => by obtain ⟨rfl, h⟩ := h; exact hN a w h)
  exact wpAny_in (Nrm.noOut N) (noDefer_spec hnd) _ _ _ _ (wpAny_of_held _ _ _ _ h)
/-! temporaries by what is known of them -/
theorem set_ne {T U : Array Value} {i j : Nat} {v u : Value} (e : T.setIfInBounds i v = U) (h : i ≠ j) (hf : T[j]?.getD undef = u) : U[j]?.getD undef = u := by
  rw [← hf, ← e]
  simp [Array.getElem?_setIfInBounds, h]
theorem set_same {T U : Array Value} {i n : Nat} {v : Value} (e : T.setIfInBounds i v = U) (hs : T.size = n) (h : i < n) : U[i]?.getD undef = v := by
  subst hs
  rw [← e]
  simp [Array.getElem?_setIfInBounds, h]
theorem set_size {T U : Array Value} {i n : Nat} {v : Value} (e : T.setIfInBounds i v = U) (hs : T.size = n) : U.size = n := by rw [← e, Array.size_setIfInBounds, hs]
theorem region_in_round_T {l n : Nat} {P : Program} {id : Nat} {ops : Array Oper} {Q : Exit → Act → World → Prop} {T₀ : Array Value} {ds : List Deferred} {w : World} (S : World → Prop) (N : Act → World → Prop) (hm : P.follows .mixedOrders = true) (hnd : noDefer ops = true)
    (hN : ∀ a w, N a w → Q .normal a w) (h : ∀ T : Array Value, T = T₀ → wpAnyH P .any ops (Nrm N) S ops.size (Array.replicate ops.size false) ⟨T, ds⟩ w.drew) : (Code.region id ops true).wpIn (Fence.wide.inRound l) n P Q ⟨T₀, ds⟩ w :=
  region_in_round S N hm hnd (h T₀ rfl) hN
end Go.Proofs.Ytefcepjffeiaoaa
end

section
/- Table: the walk of Build. -/
namespace Go.Proofs.Ytefcepjffeiaoaa
open Go.RowKit Go.Shelf Go.Proofs.YtefcepjffeiaoaaW.PrintWords
set_option linter.unusedVariables false
attribute [local go_sem] Oper.semAt_some

theorem leaves_nil {F : Fence} {n : Nat} {P : Program} {fn : Func} {tmps : Array Value} {R : Ending → World → Prop} {w : World} (v : Value) (h : (results fn tmps).run P w = .ok v w) (hR : R (.returned v) w) : LeavesInM F n P fn tmps R [] .returning w := ⟨v, h, hR⟩
theorem bytes_stp (W : World) (s : ByteArray) : Below W.heap.size W (Lib.bytesWorld W 5 s) := bytes_below (Below.refl _ _) (Nat.le_refl _) _ _
theorem bytes_rd (W : World) (s : ByteArray) (hs : s.size ≤ 1000000) : RdB (Lib.bytesWorld W 5 s) (some ⟨W.heap.size, 0, none⟩) (grownCap W s.size 0 5) (bl s) := by
  have hl := bl_length s
  refine ⟨by rw [hl]; exact grownCap_ge W s.size 0 _, rfl, by rw [hl]; omega, fun _ => ⟨_, rfl, fun j hj => ?_⟩⟩
  rw [hl] at hj
  rw [add_plain, Lib.bytesWorld_cell W _ s j hj]
  rfl
theorem blocks_fit (l : List Ent) (h : tabE l = 0) (k : Nat) (hk : k < nparts l.length) : (blocksB l k).length + (blkX (part l k)).length ≤ 140737488355328 ∧ (indexB l k).length + (put (blkX (part l k)).length).length + (put (keyAt l (16 * k)).size).length + (bl (keyAt l (16 * k))).length ≤ 140737488355328 ∧ (blkX (part l k)).length ≤ 10500 ∧ (keyAt l (16 * k)).size ≤ 96 := by
  have h1 := blocksB_le l h k (by omega)
  have h2 := indexB_le l h k (by omega)
  have h3 := nparts_le l h
  obtain ⟨p1, p2, p3⟩ := part_chk l h k hk
  have h4 := blkX_length _ p1 p3
  have v1 := vsize_le (blkX (part l k)).length
  have v2 := vsize_le (keyAt l (16 * k)).size
  obtain ⟨t1, t2, t3⟩ := tabE_ok l h
  obtain ⟨m1, m2, _⟩ := (ordE_may l t3 (16 * k) (by unfold nparts at hk; omega)).1
  have hks : (keyAt l (16 * k)).size ≤ 96 := m2
  rw [put_length, put_length, bl_length]
  exact ⟨by omega, by omega, h4, hks⟩
theorem u64_facts (a b : Nat) (ha : a ≤ 1000000) (hb : b ≤ 1000000) : IntKind.u64.wrap (a : Int) = (a : Int) ∧ (a : Int) % 18446744073709551616 = (a : Int) ∧ IntKind.u64.wrap (b : Int) = (b : Int) ∧ (b : Int) % 18446744073709551616 = (b : Int) := ⟨by rw [IntKind.wrap_u64]; omega, by omega, by rw [IntKind.wrap_u64]; omega, by omega⟩
/-- a round's end -/
theorem fin_round {g0 k : Nat} {l : List Ent} {w1 W w10 Y wC : World} {v5 vC v6 : Value} (kp : Keeps (fun j => j = g0 + 1 + 1 ∨ j = g0 + 1 + 1 + 1) (g0 + 4) W w10) (j10 : Below g0 w1 w10) (u5 : w10.heap[g0]? = some (.cells #[v5] 23)) (u6 : w10.heap[g0 + 1]? = some (.cells #[v6] 23))
    (O5 : OwB w10 (g0 + 6) v5 (blocksB l (k + 1))) (OC : OwB wC Y.heap.size vC (indexB l (k + 1))) (QC : Below w10.heap.size w10 wC) (q1 : w10.heap.size ≤ Y.heap.size) (hDW : g0 + 4 + 2 ≤ W.heap.size) (hs : W.heap.size ≤ w10.heap.size) :
    Keeps (fun j => j = g0 + 1 + 1 ∨ j = g0 + 1 + 1 + 1) (g0 + 4) W (wC.setCell ⟨g0 + 1, 0, none⟩ vC) ∧ Below g0 w1 (wC.setCell ⟨g0 + 1, 0, none⟩ vC) ∧ ∃ v5 v6, (wC.setCell ⟨g0 + 1, 0, none⟩ vC).heap[g0]? = some (.cells #[v5] 23) ∧ (wC.setCell ⟨g0 + 1, 0, none⟩ vC).heap[g0 + 1]? = some (.cells #[v6] 23) ∧ OwB (wC.setCell ⟨g0 + 1, 0, none⟩ vC) (g0 + 6) v5 (blocksB l (k + 1)) ∧ OwB (wC.setCell ⟨g0 + 1, 0, none⟩ vC) (g0 + 6) v6 (indexB l (k + 1)) ∧ Dis v5 v6 := by
  have l5 := blk_lt u5
  have l6 := blk_lt u6
  have uC5 := (QC.block g0 l5).trans u5
  have uC6 := (QC.block (g0 + 1) l6).trans u6
  have O5C := OwB.below O5 QC
  refine ⟨⟨by rw [World.size_setCell]; have := kp.size; have := QC.size; omega, fun j hj hl => ?_⟩, ?_, v5, vC, ?_, ?_, ?_, ?_, ?_⟩
  · rw [Below.heap_setCell _ _ _ _ (show j ≠ g0 + 1 by omega), QC.block j (by omega)]
    exact kp.block j hj hl
  · exact (j10.trans (QC.mono (by omega))).setCell (p := ⟨g0 + 1, 0, none⟩) (Nat.le_succ _) _
  · exact (Below.heap_setCell _ _ _ _ (show g0 ≠ g0 + 1 by omega)).trans uC5
  · exact blk_set uC6 0 _
  · exact own_setCell O5C (fun e => by have := own_base O5C _ e.symm; simp at this) _
  · exact own_setCell (OC.lower (by omega)) (fun e => by have := own_base OC _ e.symm; simp at this; omega) _
  · intro j h1 h2
    have a1 := own_base OC j h2
    have a2 := own_lt O5 j h1
    omega
set_option maxRecDepth 100000 in
set_option maxHeartbeats 12800000 in
theorem Build_ok (A : Option Addr) (c n : Nat) (l : List Ent) (w : World) (hn : l.length = n) (hr : RdE w A c l) (hT : tabE l = 0) :
    Calls Try.prog 11 #[.slice A n c] w fun e w' => ∃ v, e = .returned (.tuple #[v, .int .i64 0]) ∧ OwB w' w.heap.size v (tabB l) ∧ Below w.heap.size w w' := by
  obtain ⟨t1, t2, t3⟩ := tabE_ok l hT
  have HN := hide hn
  obtain ⟨ad, rfl, -, -, -, -⟩ := hr.at4 0 (by omega)
  have mixed : Try.prog.follows .mixedOrders = true := by kernel_rfl
  have hOr := fun W (HB : Below w.heap.size w W) => Ordered_any (some ad) c n l W hn (hr.below HB) (by omega)
  rw [t3] at hOr
  rw [hn] at t1 t2
  have i1 : ¬ (n : Int) < 1 := by omega
  have i2 : ¬ 4096 < (n : Int) := by omega
  clear hn
  refine (callsIn_wide (n := 9)).1 ?_
  refine callsIn_of_wp_marks Try.func11 rfl trivial ?_ rfl
  simp only [Try.ntmps11, List.size_toArray, List.length_cons, List.length_nil, Nat.reduceAdd, Nat.reduceSub, Array.replicate_succ, Array.replicate_zero, List.push_toArray, List.append_toArray, List.nil_append, List.cons_append]
  gi_wp2_with (first | (refine ⟨trivial, ?_⟩; gi_at_call 26; refine (callsIn_wide.2 (hOr _ (Below.refl _ _))).mono ?_; rintro e w1 ⟨rfl, HB1⟩) | (refine ⟨trivial, ?_⟩; gi_at_call 27; refine (callsIn_wide.2 (Chunk_any (some ad) n c _)).mono ?_; rintro e w2 ⟨rfl, hsz2, hbx, HB2⟩))
  obtain ⟨g0, hg0⟩ : ∃ g0, w1.heap.size = g0 := ⟨_, rfl⟩
  simp only [World.size_alloc, hg0] at hsz2 hbx HB2 ⊢
  have q0 : w2.heap[g0]? = some (.cells #[.slice none 0 0] 23) := by
    rw [HB2.block g0 (by omega), Below.heap_alloc _ _ _ (by simp [hg0]), ← hg0]; exact heap_alloc_new w1 _
  have q1 : w2.heap[g0 + 1]? = some (.cells #[.slice none 0 0] 23) := by
    rw [HB2.block (g0 + 1) (by omega)]
    have := heap_alloc_new (w1.alloc (.cells #[.slice none 0 0] 23)) (.cells #[.slice none 0 0] 23)
    rwa [World.size_alloc, hg0] at this
  have B2 : Below g0 w1 w2 := ((((Below.refl g0 w1).alloc (by omega) _).alloc (by rw [World.size_alloc]; omega) _)).trans (HB2.mono (by omega))
  have B1 := HB1.size
  have hD : w2.heap.size = g0 + 4 := by omega
  have hn6 : n ≤ 1000000 := by omega
  have hnc : n ≤ c := by have := hr.le; rw [HN.out] at this; exact this
  have B0 : Below w.heap.size w w2 := HB1.trans (B2.mono (by omega))
  refine range_iterV (D := g0 + 4) (gf := 64) (lb := iterC (g0 + 1 + 1)) (N := nparts n) (own := fun j => j = g0 + 1 + 1 ∨ j = g0 + 1 + 1 + 1) (V := fun k _ vs _ => vs = valsC (some ad) n k) hD rfl (enters_of Try.func64 (by kernel_rfl) rfl) (fun k bd vs W e => by rw [e]; rfl)
    (iterC_any (some ad) n c (g0 + 1 + 1) w2 hbx hn6 hnc (by omega))
    (fun k W => Below g0 w1 W ∧ ∃ v5 v6, W.heap[g0]? = some (.cells #[v5] 23) ∧ W.heap[g0 + 1]? = some (.cells #[v6] 23) ∧ OwB W (g0 + 6) v5 (blocksB l k) ∧ OwB W (g0 + 6) v6 (indexB l k) ∧ Dis v5 v6)
    (fun _ _ => False)
    (fun k X Y h ⟨i1, v5, v6, i2, i3, i4, i5, i6⟩ => ⟨i1.trans (h.below.mono (by omega)), v5, v6, (h.below.block _ (by omega)).trans i2, (h.below.block _ (by omega)).trans i3, own_move i4 (fun j hj => h.past j (own_base i4 j hj) (own_lt i4 j hj)), own_move i5 (fun j hj => h.past j (own_base i5 j hj) (own_lt i5 j hj)), i6⟩)
    (fun _ _ _ _ h => h)
    (fun k bd vs X Y hb h e => e)
    ⟨B2, _, _, q0, q1, OwB.zero _ _, OwB.zero _ _, Dis.nil _⟩
    (fun k bd a₁ W => a₁ = { tmps := #[.slice (some ad) n c, undef, .slice none 0 0, .int .i64 0, .int .i64 0, .pointer (some ⟨g0, 0, none⟩), .pointer (some ⟨g0 + 1, 0, none⟩), .slice (some (ad.add (16 * k * 4))) (endN n k) (endN n k), undef, undef, undef, undef, undef, undef, undef, undef, undef, .slice (some ad) n c, .int .i64 (n : Int), .bool false, .bool false, .slice (some ad) n c, .int .i64 (n : Int), .bool false, .bool false, .slice (some ad) n c, .int .i64 0, .int .i64 0, .bool false, undef, .slice (some ad) n c, .func (.func 64) #[] (iterC (g0 + 1 + 1)), .slice (some (ad.add (16 * k * 4))) (endN n k) (endN n k), undef, undef, undef, undef, undef, undef, undef, undef, undef, undef, undef, undef, undef, undef, undef, undef, undef, undef, undef, undef, undef, undef, undef, undef, undef, undef, undef, undef, undef, undef, undef, undef, undef, undef, undef, undef, undef, undef, undef, undef, undef, undef, undef, undef, undef, undef, undef, undef, undef, undef, undef, undef, undef, undef, undef, undef, undef, undef, undef], defers := [] })
    (fun k bd a₁ X Y hb h e => e)
    ?assign ?body ?done ?stop
  case assign =>
    intro l1 k bd vs W KK hk hbd hDW hV hK
    subst hV
    unfold valsC
    gi_wp2
    exact hK _ _ (Below.refl _ _) rfl
  case body =>
    intro l1 k bd a₁ W hk hbd hDW hAsg hI
    subst hAsg
    obtain ⟨j1, v5, v6, j2, j3, j4, j5, j6⟩ := hI
    have hlt : 16 * k < n := by unfold nparts at hk; omega
    have hkN : k < nparts l.length := by rw [HN.out]; exact hk
    have BW : Below w.heap.size w W := HB1.trans (j1.mono (by omega))
    obtain ⟨p1, p2⟩ := part_rd (some ad) c n l W HN.out (hr.below BW) k hlt
    obtain ⟨c1, -, -⟩ := part_chk l hT k hkN
    obtain ⟨m1, m2, m3, m4⟩ := blocks_fit l hT k hkN
    have hEn := Encode_any _ (endN n k) (endN n k) (part l k) W p1 p2 (by unfold endN; omega)
    rw [c1] at hEn
    have hS5 : blocksB l (k + 1) = blocksB l k ++ blkX (part l k) := rfl
    have hS6 : indexB l (k + 1) = indexB l k ++ (put (blkX (part l k)).length ++ (put (keyAt l (16 * k)).size ++ bl (keyAt l (16 * k)))) := by
      rw [indexB, rowB]; simp only [List.append_assoc]
    have H5 := hide hS5
    have H6 := hide hS6
    clear hS5 hS6 c1
    have e0 : 0 < endN n k := by unfold endN; omega
    have e0i : (0 : Int) < (endN n k : Int) := Int.ofNat_lt.2 e0
    obtain ⟨ad', had', x0w, -, -, -⟩ := hr.at4 (16 * k) (by rw [HN.out]; exact hlt)
    injection had' with had'
    subst had'
    have x0l := World.block_lt_of_cell? _ _ x0w
    have hkw : (l.getD (16 * k) zEnt).1 = keyAt l (16 * k) := rfl
    rw [hkw] at x0w
    obtain ⟨X8, hX8⟩ : ∃ X8, blkX (part l k) = X8 := ⟨_, rfl⟩
    obtain ⟨ky, hky⟩ : ∃ ky, keyAt l (16 * k) = ky := ⟨_, rfl⟩
    rw [hX8] at hEn m1 m2 m3 H5 H6
    rw [hky] at m2 m4 H6 x0w
    obtain ⟨n8, hn8⟩ : ∃ n8, X8.length = n8 := ⟨_, rfl⟩
    have y3 := blk_frozen j2 0
    have y4 := blk_frozen j3 0
    obtain ⟨A5, c5, hv5, -⟩ := j4.rd
    obtain ⟨A6, c6, hv6, r6⟩ := j5.rd
    obtain ⟨n5, hn5⟩ : ∃ n5, (blocksB l k).length = n5 := ⟨_, rfl⟩
    obtain ⟨n6, hn6⟩ : ∃ n6, (indexB l k).length = n6 := ⟨_, rfl⟩
    rw [hn5] at hv5
    rw [hn6] at hv6
    subst hv5
    subst hv6
    gi_wp2_with (first | (refine ⟨trivial, ?_⟩; gi_at_call 28; refine (CallsIn.inRound l1 (callsIn_wide.2 hEn)).mono ?_; rintro e w8 ⟨v8, rfl, O8, HB8⟩; obtain ⟨A8, c8, hv8, r8⟩ := O8.rd; rw [hn8] at hv8; subst hv8; have k2 := (HB8.block _ (blk_lt j2)).trans j2; have k3 := (HB8.block _ (blk_lt j3)).trans j3; have k4 := OwB.below j4 HB8; have k5 := OwB.below j5 HB8; obtain ⟨v9, w9, hap, O9, hg9, hat9⟩ := row_run (W := w8) (g0 + 6) 23 _ (blocksB l k) X8 A8 n8 c8 hn8 k4 r8 (Nat.le_trans hDW HB8.size) (by rw [← hn8]; exact m1); have y0 := blk_cell k2 0; have b9 : Below (g0 + 6) w8 w9 := (Below.refl (g0 + 6) w8).grown hg9 (Nat.le_trans hDW HB8.size) (fun j e => own_base k4 j e); have q2 := (b9.block g0 (by omega)).trans k2; have q3 := (b9.block (g0 + 1) (by omega)).trans k3; have y1 := blk_cell q2 0; have y2 := blk_frozen q2 0; obtain ⟨A9, c9, hv9, -⟩ := O9.rd; generalize (blocksB l k ++ X8).length = n9 at hv9; subst hv9; have B10 : Below w.heap.size w (w9.setCell ⟨g0, 0, none⟩ (.slice A9 n9 c9)) := (BW.trans ((HB8.mono BW.size).trans (b9.mono (by omega)))).setCell (p := ⟨g0, 0, none⟩) (show w.heap.size ≤ g0 by omega) _; have x0 := (B10.cell x0l).trans x0w) | (gi_at_builtin; refine app_stepIn rfl (.tmp 38) (.tmp 39) 23 23 rfl rfl rfl hap ?_))
    obtain ⟨w10, hw10⟩ : ∃ z, w9.setCell ⟨g0, 0, none⟩ (.slice A9 n9 c9) = z := ⟨_, rfl⟩
    rw [hw10] at x0 B10 ⊢
    have s9 := b9.size
    have s10 : w10.heap.size = w9.heap.size := by rw [← hw10, World.size_setCell]
    have u5 : w10.heap[g0]? = some (.cells #[.slice A9 n9 c9] 23) := by rw [← hw10]; exact blk_set q2 0 _
    have u6 : w10.heap[g0 + 1]? = some (.cells #[.slice A6 n6 c6] 23) := by rw [← hw10]; exact (Below.heap_setCell _ _ _ _ (show g0 + 1 ≠ g0 by omega)).trans q3
    have O5 : OwB w10 (g0 + 6) (.slice A9 n9 c9) (blocksB l (k + 1)) := by
      rw [← hw10, H5.out]
      exact own_setCell O9 (fun e => by have := own_base O9 _ e.symm; simp at this; omega) _
    have O6 : OwB w10 (g0 + 6) (.slice A6 n6 c6) (indexB l k) := by
      rw [← hw10]
      exact own_setCell (k5.apart j6 hg9) (fun e => by have := own_base j5 _ e.symm; simp at this; omega) _
    have kp : Keeps (fun j => j = g0 + 1 + 1 ∨ j = g0 + 1 + 1 + 1) (g0 + 4) W w10 := by
      refine ⟨by have := HB8.size; omega, fun j hj hl => ?_⟩
      have hj6 : j < g0 + 6 ∧ j ≠ g0 := by omega
      rw [← hw10, Below.heap_setCell _ _ _ _ hj6.2, b9.block j hj6.1]
      exact HB8.block j (by omega)
    have s8 := HB8.size
    have s10g : W.heap.size ≤ w10.heap.size := by omega
    have j10 : Below g0 w1 w10 := by
      rw [← hw10]
      exact ((j1.trans ((HB8.mono (by omega)).trans (b9.mono (by omega)))).setCell (p := ⟨g0, 0, none⟩) (Nat.le_refl _) _)
    have r6w := O6.rdl
    have hP8 := fun W => Put_any n8 (by omega) W
    have hPk := fun W => Put_any ky.size (by omega) W
    obtain ⟨L8, hL8⟩ : ∃ L8, (put n8).length = L8 := ⟨_, rfl⟩
    obtain ⟨Lk, hLk⟩ : ∃ Lk, (put ky.size).length = Lk := ⟨_, rfl⟩
    have hks6 : ky.size ≤ 1000000 := by omega
    have hlt6 : g0 + 1 < w10.heap.size := blk_lt u6
    have hc6 : ∀ Y, Below w10.heap.size w10 Y → Y.cell? ⟨g0 + 1, 0, none⟩ = some (.slice A6 n6 c6) := fun Y h => (h.cell hlt6).trans (blk_cell u6 0)
    obtain ⟨z1, z2, z3, z4⟩ := u64_facts n8 ky.size (by omega) (by omega)
    have hd0 : Below w10.heap.size w10 w10.drew := (Below.refl _ _).drew
    have hsum : (indexB l k).length + (put n8).length + (put ky.size).length + (bl ky).length ≤ 140737488355328 := by rw [← hn8]; exact m2
    have HSUM := hide hsum
    have H6' : indexB l (k + 1) = indexB l k ++ (put n8 ++ (put ky.size ++ bl ky)) := by rw [H6.out, hn8]
    have H6h := hide H6'
    have E6 := hide hn6
    have E8 := hide hL8
    have Ek := hide hLk
    clear hsum H6' hn6 hL8 hLk hn5 hn8 hX8 hky hw10 hap q2 q3 y0 y1 y2 y3 y4 x0 k2 k3 k4 k5 m1 m2 m3 hat9 hg9 O9 O8 r8 hEn j2 j3 j4 j5 r6 j6 p1 p2 e0 e0i x0w x0l hOr hr b9 H5 H6 s8 s9 HB8 hkw BW hkN hlt
    refine region_in_round_T (fun _ => True) _ mixed (by kernel_rfl) (fun _ _ h => h) (fun T hT => ?_)
    obtain ⟨w11, hw11⟩ : ∃ z, w10.drew = z := ⟨_, rfl⟩
    rw [hw11]
    have Q0 : Below w10.heap.size w10 w11 := by rw [← hw11]; exact hd0
    have r6 := r6w.below Q0
    have sz : Hid (T.size = 92) := by rw [hT]; exact hide rfl
    have f6 : T[6]?.getD undef = .pointer (some ⟨g0 + 1, 0, none⟩) := by rw [hT]; rfl
    have f8 : T[8]?.getD undef = .slice A8 n8 c8 := by rw [hT]; rfl
    have f10 : T[10]?.getD undef = .string ky := by rw [hT]; rfl
    rename_i qa ka aa qb
    clear aa hbx HB2 q0 q1 B2 HB1 hT t1 t2 t3 HN B1 hsz2 hg0 hD hn6 hnc B0 hk hbd j1 B10 s10 O6 hw11 hd0 r6w
    refine wpAnyH_take (i := 1) (oi := _) (v := .slice A8 n8 c8) rfl (by kernel_rfl) (by kernel_rfl) (by kernel_rfl) (fun _ _ _ h => Nrm.noPanic h) (Or.inl ⟨by rfl, ?hy1⟩) trivial ?rest1
    case hy1 =>
      intro Y _
      go_simp
    case rest1 =>
      change wpAnyH _ _ _ _ _ _ _ ⟨Array.setIfInBounds T 46 (.slice A8 n8 c8), _⟩ _
      generalize hTT1 : Array.setIfInBounds T 46 (.slice A8 n8 c8) = T1
      have g6 := set_ne hTT1 (by decide) f6
      have g10 := set_ne hTT1 (by decide) f10
      have g46 := set_same hTT1 sz.out (by decide)
      have szT1 := hide (set_size hTT1 sz.out)
      clear f6 f8 f10 hTT1 sz
      have f6 := g6
      have f10 := g10
      have f46 := g46
      clear g6 g10 g46
      refine wpAnyH_take (i := 2) (oi := _) (v := .int .i64 (n8 : Int)) rfl (by kernel_rfl) (by kernel_rfl) (by kernel_rfl) (fun _ _ _ h => Nrm.noPanic h) (Or.inl ⟨by rfl, ?hy2⟩) trivial ?rest2
      case hy2 =>
        intro Y _
        go_simp
      case rest2 =>
        change wpAnyH _ _ _ _ _ _ _ ⟨Array.setIfInBounds T1 47 (.int .i64 (n8 : Int)), _⟩ _
        generalize hTT2 : Array.setIfInBounds T1 47 (.int .i64 (n8 : Int)) = T2
        have g6 := set_ne hTT2 (by decide) f6
        have g10 := set_ne hTT2 (by decide) f10
        have g47 := set_same hTT2 szT1.out (by decide)
        have szT2 := hide (set_size hTT2 szT1.out)
        clear f6 f10 f46 hTT2 szT1
        have f6 := g6
        have f10 := g10
        have f47 := g47
        clear g6 g10 g47
        refine wpAnyH_take (i := 3) (oi := _) (v := .int .u64 (n8 : Int)) rfl (by kernel_rfl) (by kernel_rfl) (by kernel_rfl) (fun _ _ _ h => Nrm.noPanic h) (Or.inl ⟨by rfl, ?hy3⟩) trivial ?rest3
        case hy3 =>
          intro Y _
          go_simp
        case rest3 =>
          change wpAnyH _ _ _ _ _ _ _ ⟨Array.setIfInBounds T2 48 (.int .u64 (n8 : Int)), _⟩ _
          generalize hTT3 : Array.setIfInBounds T2 48 (.int .u64 (n8 : Int)) = T3
          have g6 := set_ne hTT3 (by decide) f6
          have g10 := set_ne hTT3 (by decide) f10
          have g48 := set_same hTT3 szT2.out (by decide)
          have szT3 := hide (set_size hTT3 szT2.out)
          clear f6 f10 f47 hTT3 szT2
          have f6 := g6
          have f10 := g10
          have f48 := g48
          clear g6 g10 g48
          refine wpAnyH_take (i := 5) (oi := _) (v := .string ky) rfl (by kernel_rfl) (by kernel_rfl) (by kernel_rfl) (fun _ _ _ h => Nrm.noPanic h) (Or.inl ⟨by rfl, ?hy5⟩) trivial ?rest5
          case hy5 =>
            intro Y _
            go_simp
          case rest5 =>
            change wpAnyH _ _ _ _ _ _ _ ⟨Array.setIfInBounds T3 50 (.string ky), _⟩ _
            generalize hTT4 : Array.setIfInBounds T3 50 (.string ky) = T4
            have g6 := set_ne hTT4 (by decide) f6
            have g10 := set_ne hTT4 (by decide) f10
            have g48 := set_ne hTT4 (by decide) f48
            have g50 := set_same hTT4 szT3.out (by decide)
            have szT4 := hide (set_size hTT4 szT3.out)
            clear f6 f10 f48 hTT4 szT3
            have f6 := g6
            have f10 := g10
            have f48 := g48
            have f50 := g50
            clear g6 g10 g48 g50
            refine wpAnyH_take (i := 6) (oi := _) (v := .int .i64 (ky.size : Int)) rfl (by kernel_rfl) (by kernel_rfl) (by kernel_rfl) (fun _ _ _ h => Nrm.noPanic h) (Or.inl ⟨by rfl, ?hy6⟩) trivial ?rest6
            case hy6 =>
              intro Y _
              go_simp
            case rest6 =>
              change wpAnyH _ _ _ _ _ _ _ ⟨Array.setIfInBounds T4 51 (.int .i64 (ky.size : Int)), _⟩ _
              generalize hTT5 : Array.setIfInBounds T4 51 (.int .i64 (ky.size : Int)) = T5
              have g6 := set_ne hTT5 (by decide) f6
              have g10 := set_ne hTT5 (by decide) f10
              have g48 := set_ne hTT5 (by decide) f48
              have g51 := set_same hTT5 szT4.out (by decide)
              have szT5 := hide (set_size hTT5 szT4.out)
              clear f6 f10 f48 f50 hTT5 szT4
              have f6 := g6
              have f10 := g10
              have f48 := g48
              have f51 := g51
              clear g6 g10 g48 g51
              refine wpAnyH_take (i := 7) (oi := _) (v := .int .u64 (ky.size : Int)) rfl (by kernel_rfl) (by kernel_rfl) (by kernel_rfl) (fun _ _ _ h => Nrm.noPanic h) (Or.inl ⟨by rfl, ?hy7⟩) trivial ?rest7
              case hy7 =>
                intro Y _
                go_simp
              case rest7 =>
                change wpAnyH _ _ _ _ _ _ _ ⟨Array.setIfInBounds T5 52 (.int .u64 (ky.size : Int)), _⟩ _
                generalize hTT6 : Array.setIfInBounds T5 52 (.int .u64 (ky.size : Int)) = T6
                have g6 := set_ne hTT6 (by decide) f6
                have g10 := set_ne hTT6 (by decide) f10
                have g48 := set_ne hTT6 (by decide) f48
                have g52 := set_same hTT6 szT5.out (by decide)
                have szT6 := hide (set_size hTT6 szT5.out)
                clear f6 f10 f48 f51 hTT6 szT5
                have f6 := g6
                have f10 := g10
                have f48 := g48
                have f52 := g52
                clear g6 g10 g48 g52
                refine wpAnyH_take (i := 9) (oi := _) (v := .string ky) rfl (by kernel_rfl) (by kernel_rfl) (by kernel_rfl) (fun _ _ _ h => Nrm.noPanic h) (Or.inl ⟨by rfl, ?hy9⟩) trivial ?rest9
                case hy9 =>
                  intro Y _
                  go_simp
                case rest9 =>
                  change wpAnyH _ _ _ _ _ _ _ ⟨Array.setIfInBounds T6 54 (.string ky), _⟩ _
                  generalize hTT7 : Array.setIfInBounds T6 54 (.string ky) = T7
                  have g6 := set_ne hTT7 (by decide) f6
                  have g48 := set_ne hTT7 (by decide) f48
                  have g52 := set_ne hTT7 (by decide) f52
                  have g54 := set_same hTT7 szT6.out (by decide)
                  have szT7 := hide (set_size hTT7 szT6.out)
                  clear f6 f10 f48 f52 hTT7 szT6
                  have f6 := g6
                  have f48 := g48
                  have f52 := g52
                  have f54 := g54
                  clear g6 g48 g52 g54
                  refine wpAnyH_ready (rs := [0, 4, 10]) (by kernel_rfl) (by simp) ?_
                  refine AllReadyH.cons (o := _) rfl (fun K hK => ?_) ?_
                  · have hcY := hc6 _ Q0
                    go_simp
                    refine hK.out _ _ trivial (fun _ => ?_)
                    clear hK K hcY
                    change wpAnyH _ _ _ _ _ _ _ ⟨Array.setIfInBounds T7 45 (.slice A6 n6 c6), _⟩ _
                    generalize hTT8 : Array.setIfInBounds T7 45 (.slice A6 n6 c6) = T8
                    have g6 := set_ne hTT8 (by decide) f6
                    have g48 := set_ne hTT8 (by decide) f48
                    have g52 := set_ne hTT8 (by decide) f52
                    have g54 := set_ne hTT8 (by decide) f54
                    have g45 := set_same hTT8 szT7.out (by decide)
                    have szT8 := hide (set_size hTT8 szT7.out)
                    clear f6 f48 f52 f54 hTT8 szT7
                    have f6 := g6
                    have f48 := g48
                    have f52 := g52
                    have f54 := g54
                    have f45 := g45
                    clear g6 g48 g52 g54 g45
                    refine wpAnyH_ready (rs := [4, 10]) (by kernel_rfl) (by simp) ?_
                    refine AllReadyH.cons (o := _) rfl (fun K hK => ?_) ?_
                    · skip
                      go_simp
                      refine (hP8 _).mono ?_
                      rintro e wA ⟨vA, rfl, OA, HBA⟩
                      obtain ⟨AA, cA, hvA, rA⟩ := OA.rd
                      rw [E8.out] at hvA
                      subst hvA
                      replace r6 := r6.below HBA
                      have Q4 := stp Q0 HBA
                      refine hK.out _ _ trivial (fun _ => ?_)
                      clear hK K
                      change wpAnyH _ _ _ _ _ _ _ ⟨Array.setIfInBounds T8 49 (.slice AA L8 cA), _⟩ _
                      generalize hTT9 : Array.setIfInBounds T8 49 (.slice AA L8 cA) = T9
                      have g6 := set_ne hTT9 (by decide) f6
                      have g52 := set_ne hTT9 (by decide) f52
                      have g54 := set_ne hTT9 (by decide) f54
                      have g45 := set_ne hTT9 (by decide) f45
                      have g49 := set_same hTT9 szT8.out (by decide)
                      have szT9 := hide (set_size hTT9 szT8.out)
                      clear f6 f48 f52 f54 f45 hTT9 szT8
                      have f6 := g6
                      have f52 := g52
                      have f54 := g54
                      have f45 := g45
                      have f49 := g49
                      clear g6 g52 g54 g45 g49
                      refine wpAnyH_ready (rs := [8, 10]) (by kernel_rfl) (by simp) ?_
                      refine AllReadyH.cons (o := _) rfl (fun K hK => ?_) ?_
                      · skip
                        go_simp
                        refine (hPk _).mono ?_
                        rintro e wB ⟨vB, rfl, OB, HBB⟩
                        obtain ⟨AB, cB, hvB, rB⟩ := OB.rd
                        rw [Ek.out] at hvB
                        subst hvB
                        replace r6 := r6.below HBB
                        replace rA := rA.below HBB
                        have Q8 := stp Q4 HBB
                        refine hK.out _ _ trivial (fun _ => ?_)
                        clear hK K
                        change wpAnyH _ _ _ _ _ _ _ ⟨Array.setIfInBounds T9 53 (.slice AB Lk cB), _⟩ _
                        generalize hTT10 : Array.setIfInBounds T9 53 (.slice AB Lk cB) = T10
                        have g6 := set_ne hTT10 (by decide) f6
                        have g54 := set_ne hTT10 (by decide) f54
                        have g45 := set_ne hTT10 (by decide) f45
                        have g49 := set_ne hTT10 (by decide) f49
                        have g53 := set_same hTT10 szT9.out (by decide)
                        have szT10 := hide (set_size hTT10 szT9.out)
                        clear f6 f52 f54 f45 f49 hTT10 szT9
                        have f6 := g6
                        have f54 := g54
                        have f45 := g45
                        have f49 := g49
                        have f53 := g53
                        clear g6 g54 g45 g49 g53
                        refine wpAnyH_ready (rs := [10]) (by kernel_rfl) (by simp) ?_
                        refine AllReadyH.cons (o := _) rfl (fun K hK => ?_) ?_
                        · obtain ⟨wS, AS, cS, hcv, HBS, rS⟩ : ∃ wS AS cS, (convert 9 23 (.string ky)).run Try.prog wB = .ok (.slice AS ky.size cS) wS ∧ Below (World.heap wB).size wB wS ∧ RdB wS AS cS (bl ky) := ⟨_, _, _, print_bytes 9 23 5 Try.underlying9 Try.underlying23 Try.underlying5 ky wB, bytes_stp _ _, bytes_rd _ _ hks6⟩
                          go_simp
                          replace r6 := r6.below HBS
                          replace rA := rA.below HBS
                          replace rB := rB.below HBS
                          have Q10 := stp Q8 HBS
                          refine hK.out _ _ trivial (fun _ => ?_)
                          clear hK K
                          change wpAnyH _ _ _ _ _ _ _ ⟨Array.setIfInBounds T10 55 (.slice AS ky.size cS), _⟩ _
                          generalize hTT11 : Array.setIfInBounds T10 55 (.slice AS ky.size cS) = T11
                          have g6 := set_ne hTT11 (by decide) f6
                          have g45 := set_ne hTT11 (by decide) f45
                          have g49 := set_ne hTT11 (by decide) f49
                          have g53 := set_ne hTT11 (by decide) f53
                          have g55 := set_same hTT11 szT10.out (by decide)
                          have szT11 := hide (set_size hTT11 szT10.out)
                          clear f6 f54 f45 f49 f53 hTT11 szT10
                          have f6 := g6
                          have f45 := g45
                          have f49 := g49
                          have f53 := g53
                          have f55 := g55
                          clear g6 g45 g49 g53 g55
                          refine wpAnyH_ready (rs := [11]) (by kernel_rfl) (by simp) ?_
                          refine AllReadyH.cons (o := _) rfl (fun K hK => ?_) AllReadyH.nil
                          go_simp
                          refine hK.out _ _ trivial (fun _ => ?_)
                          clear hK K
                          change wpAnyH _ _ _ _ _ _ _ ⟨Array.setIfInBounds T11 56 (.slice (some ⟨(World.heap wS).size, 0, none⟩) 4 4), _⟩ _
                          generalize hTT12 : Array.setIfInBounds T11 56 (.slice (some ⟨(World.heap wS).size, 0, none⟩) 4 4) = T12
                          have g6 := set_ne hTT12 (by decide) f6
                          have g56 := set_same hTT12 szT11.out (by decide)
                          have szT12 := hide (set_size hTT12 szT11.out)
                          clear f6 f45 f49 f53 f55 hTT12 szT11
                          have f6 := g6
                          have f56 := g56
                          clear g6 g56
                          refine wpAnyH_ready (rs := [12]) (by kernel_rfl) (by simp) ?_
                          refine AllReadyH.cons (o := _) rfl (fun K hK => ?_) AllReadyH.nil
                          go_simp
                          refine (Concat_four A6 AA AB AS c6 cA cB cS n6 L8 Lk ky.size _ (indexB l k) (put n8) (put ky.size) (bl ky) wS rfl r6 rA rB rS E6.out E8.out Ek.out (bl_length ky) HSUM.out).mono ?_
                          rintro e wC ⟨vC, rfl, OC, HBC⟩
                          have QC := stp Q10 HBC
                          obtain ⟨AC, cC, hvC, -⟩ := OC.rd
                          generalize (indexB l k ++ (put n8 ++ (put ky.size ++ bl ky))).length = nC at hvC
                          subst hvC
                          have uC := (QC.block (g0 + 1) hlt6).trans u6
                          have y7 := blk_cell uC 0
                          have y8 := blk_frozen uC 0
                          rw [← H6h.out] at OC
                          have q1 : w10.heap.size ≤ (World.heap wS).size := Q10.size
                          have R1 := fin_round kp j10 u5 u6 O5 OC QC q1 hDW s10g
                          refine hK.out _ _ trivial (fun _ => ?_)
                          clear hK K
                          change wpAnyH _ _ _ _ _ _ _ ⟨Array.setIfInBounds T12 57 (.slice AC nC cC), _⟩ _
                          generalize hTT13 : Array.setIfInBounds T12 57 (.slice AC nC cC) = T13
                          have g6 := set_ne hTT13 (by decide) f6
                          have g57 := set_same hTT13 szT12.out (by decide)
                          have szT13 := hide (set_size hTT13 szT12.out)
                          clear f6 f56 hTT13 szT12
                          have f6 := g6
                          have f57 := g57
                          clear g6 g57
                          refine wpAnyH_ready (rs := [13]) (by kernel_rfl) (by simp) ?_
                          refine AllReadyH.cons (o := _) rfl (fun K hK => ?_) AllReadyH.nil
                          go_simp
                          refine hK.out _ _ trivial (fun _ => ?_)
                          clear hK K
                          refine wpAnyH_done (by kernel_rfl) ⟨rfl, ?_⟩ _
                          exact R1
                        exact AllReadyH.nil
                      refine AllReadyH.cons (o := _) rfl (fun K hK => ?_) ?_
                      · obtain ⟨wS, AS, cS, hcv, HBS, rS⟩ : ∃ wS AS cS, (convert 9 23 (.string ky)).run Try.prog wA = .ok (.slice AS ky.size cS) wS ∧ Below (World.heap wA).size wA wS ∧ RdB wS AS cS (bl ky) := ⟨_, _, _, print_bytes 9 23 5 Try.underlying9 Try.underlying23 Try.underlying5 ky wA, bytes_stp _ _, bytes_rd _ _ hks6⟩
                        go_simp
                        replace r6 := r6.below HBS
                        replace rA := rA.below HBS
                        have Q10 := stp Q4 HBS
                        refine hK.out _ _ trivial (fun _ => ?_)
                        clear hK K
                        change wpAnyH _ _ _ _ _ _ _ ⟨Array.setIfInBounds T9 55 (.slice AS ky.size cS), _⟩ _
                        generalize hTT14 : Array.setIfInBounds T9 55 (.slice AS ky.size cS) = T14
                        have g6 := set_ne hTT14 (by decide) f6
                        have g52 := set_ne hTT14 (by decide) f52
                        have g45 := set_ne hTT14 (by decide) f45
                        have g49 := set_ne hTT14 (by decide) f49
                        have g55 := set_same hTT14 szT9.out (by decide)
                        have szT14 := hide (set_size hTT14 szT9.out)
                        clear f6 f52 f54 f45 f49 hTT14 szT9
                        have f6 := g6
                        have f52 := g52
                        have f45 := g45
                        have f49 := g49
                        have f55 := g55
                        clear g6 g52 g45 g49 g55
                        refine wpAnyH_ready (rs := [8]) (by kernel_rfl) (by simp) ?_
                        refine AllReadyH.cons (o := _) rfl (fun K hK => ?_) ?_
                        · skip
                          go_simp
                          refine (hPk _).mono ?_
                          rintro e wB ⟨vB, rfl, OB, HBB⟩
                          obtain ⟨AB, cB, hvB, rB⟩ := OB.rd
                          rw [Ek.out] at hvB
                          subst hvB
                          replace r6 := r6.below HBB
                          replace rA := rA.below HBB
                          replace rS := rS.below HBB
                          have Q8 := stp Q10 HBB
                          refine hK.out _ _ trivial (fun _ => ?_)
                          clear hK K
                          change wpAnyH _ _ _ _ _ _ _ ⟨Array.setIfInBounds T14 53 (.slice AB Lk cB), _⟩ _
                          generalize hTT15 : Array.setIfInBounds T14 53 (.slice AB Lk cB) = T15
                          have g6 := set_ne hTT15 (by decide) f6
                          have g45 := set_ne hTT15 (by decide) f45
                          have g49 := set_ne hTT15 (by decide) f49
                          have g55 := set_ne hTT15 (by decide) f55
                          have g53 := set_same hTT15 szT14.out (by decide)
                          have szT15 := hide (set_size hTT15 szT14.out)
                          clear f6 f52 f45 f49 f55 hTT15 szT14
                          have f6 := g6
                          have f45 := g45
                          have f49 := g49
                          have f55 := g55
                          have f53 := g53
                          clear g6 g45 g49 g55 g53
                          refine wpAnyH_ready (rs := [11]) (by kernel_rfl) (by simp) ?_
                          refine AllReadyH.cons (o := _) rfl (fun K hK => ?_) AllReadyH.nil
                          go_simp
                          refine hK.out _ _ trivial (fun _ => ?_)
                          clear hK K
                          change wpAnyH _ _ _ _ _ _ _ ⟨Array.setIfInBounds T15 56 (.slice (some ⟨(World.heap wB).size, 0, none⟩) 4 4), _⟩ _
                          generalize hTT16 : Array.setIfInBounds T15 56 (.slice (some ⟨(World.heap wB).size, 0, none⟩) 4 4) = T16
                          have g6 := set_ne hTT16 (by decide) f6
                          have g56 := set_same hTT16 szT15.out (by decide)
                          have szT16 := hide (set_size hTT16 szT15.out)
                          clear f6 f45 f49 f55 f53 hTT16 szT15
                          have f6 := g6
                          have f56 := g56
                          clear g6 g56
                          refine wpAnyH_ready (rs := [12]) (by kernel_rfl) (by simp) ?_
                          refine AllReadyH.cons (o := _) rfl (fun K hK => ?_) AllReadyH.nil
                          go_simp
                          refine (Concat_four A6 AA AB AS c6 cA cB cS n6 L8 Lk ky.size _ (indexB l k) (put n8) (put ky.size) (bl ky) wB rfl r6 rA rB rS E6.out E8.out Ek.out (bl_length ky) HSUM.out).mono ?_
                          rintro e wC ⟨vC, rfl, OC, HBC⟩
                          have QC := stp Q8 HBC
                          obtain ⟨AC, cC, hvC, -⟩ := OC.rd
                          generalize (indexB l k ++ (put n8 ++ (put ky.size ++ bl ky))).length = nC at hvC
                          subst hvC
                          have uC := (QC.block (g0 + 1) hlt6).trans u6
                          have y7 := blk_cell uC 0
                          have y8 := blk_frozen uC 0
                          rw [← H6h.out] at OC
                          have q1 : w10.heap.size ≤ (World.heap wB).size := Q8.size
                          have R1 := fin_round kp j10 u5 u6 O5 OC QC q1 hDW s10g
                          refine hK.out _ _ trivial (fun _ => ?_)
                          clear hK K
                          change wpAnyH _ _ _ _ _ _ _ ⟨Array.setIfInBounds T16 57 (.slice AC nC cC), _⟩ _
                          generalize hTT17 : Array.setIfInBounds T16 57 (.slice AC nC cC) = T17
                          have g6 := set_ne hTT17 (by decide) f6
                          have g57 := set_same hTT17 szT16.out (by decide)
                          have szT17 := hide (set_size hTT17 szT16.out)
                          clear f6 f56 hTT17 szT16
                          have f6 := g6
                          have f57 := g57
                          clear g6 g57
                          refine wpAnyH_ready (rs := [13]) (by kernel_rfl) (by simp) ?_
                          refine AllReadyH.cons (o := _) rfl (fun K hK => ?_) AllReadyH.nil
                          go_simp
                          refine hK.out _ _ trivial (fun _ => ?_)
                          clear hK K
                          refine wpAnyH_done (by kernel_rfl) ⟨rfl, ?_⟩ _
                          exact R1
                        exact AllReadyH.nil
                      exact AllReadyH.nil
                    refine AllReadyH.cons (o := _) rfl (fun K hK => ?_) ?_
                    · obtain ⟨wS, AS, cS, hcv, HBS, rS⟩ : ∃ wS AS cS, (convert 9 23 (.string ky)).run Try.prog w11 = .ok (.slice AS ky.size cS) wS ∧ Below (World.heap w11).size w11 wS ∧ RdB wS AS cS (bl ky) := ⟨_, _, _, print_bytes 9 23 5 Try.underlying9 Try.underlying23 Try.underlying5 ky w11, bytes_stp _ _, bytes_rd _ _ hks6⟩
                      go_simp
                      replace r6 := r6.below HBS
                      have Q10 := stp Q0 HBS
                      refine hK.out _ _ trivial (fun _ => ?_)
                      clear hK K
                      change wpAnyH _ _ _ _ _ _ _ ⟨Array.setIfInBounds T8 55 (.slice AS ky.size cS), _⟩ _
                      generalize hTT18 : Array.setIfInBounds T8 55 (.slice AS ky.size cS) = T18
                      have g6 := set_ne hTT18 (by decide) f6
                      have g48 := set_ne hTT18 (by decide) f48
                      have g52 := set_ne hTT18 (by decide) f52
                      have g45 := set_ne hTT18 (by decide) f45
                      have g55 := set_same hTT18 szT8.out (by decide)
                      have szT18 := hide (set_size hTT18 szT8.out)
                      clear f6 f48 f52 f54 f45 hTT18 szT8
                      have f6 := g6
                      have f48 := g48
                      have f52 := g52
                      have f45 := g45
                      have f55 := g55
                      clear g6 g48 g52 g45 g55
                      refine wpAnyH_ready (rs := [4]) (by kernel_rfl) (by simp) ?_
                      refine AllReadyH.cons (o := _) rfl (fun K hK => ?_) ?_
                      · skip
                        go_simp
                        refine (hP8 _).mono ?_
                        rintro e wA ⟨vA, rfl, OA, HBA⟩
                        obtain ⟨AA, cA, hvA, rA⟩ := OA.rd
                        rw [E8.out] at hvA
                        subst hvA
                        replace r6 := r6.below HBA
                        replace rS := rS.below HBA
                        have Q4 := stp Q10 HBA
                        refine hK.out _ _ trivial (fun _ => ?_)
                        clear hK K
                        change wpAnyH _ _ _ _ _ _ _ ⟨Array.setIfInBounds T18 49 (.slice AA L8 cA), _⟩ _
                        generalize hTT19 : Array.setIfInBounds T18 49 (.slice AA L8 cA) = T19
                        have g6 := set_ne hTT19 (by decide) f6
                        have g52 := set_ne hTT19 (by decide) f52
                        have g45 := set_ne hTT19 (by decide) f45
                        have g55 := set_ne hTT19 (by decide) f55
                        have g49 := set_same hTT19 szT18.out (by decide)
                        have szT19 := hide (set_size hTT19 szT18.out)
                        clear f6 f48 f52 f45 f55 hTT19 szT18
                        have f6 := g6
                        have f52 := g52
                        have f45 := g45
                        have f55 := g55
                        have f49 := g49
                        clear g6 g52 g45 g55 g49
                        refine wpAnyH_ready (rs := [8]) (by kernel_rfl) (by simp) ?_
                        refine AllReadyH.cons (o := _) rfl (fun K hK => ?_) ?_
                        · skip
                          go_simp
                          refine (hPk _).mono ?_
                          rintro e wB ⟨vB, rfl, OB, HBB⟩
                          obtain ⟨AB, cB, hvB, rB⟩ := OB.rd
                          rw [Ek.out] at hvB
                          subst hvB
                          replace r6 := r6.below HBB
                          replace rS := rS.below HBB
                          replace rA := rA.below HBB
                          have Q8 := stp Q4 HBB
                          refine hK.out _ _ trivial (fun _ => ?_)
                          clear hK K
                          change wpAnyH _ _ _ _ _ _ _ ⟨Array.setIfInBounds T19 53 (.slice AB Lk cB), _⟩ _
                          generalize hTT20 : Array.setIfInBounds T19 53 (.slice AB Lk cB) = T20
                          have g6 := set_ne hTT20 (by decide) f6
                          have g45 := set_ne hTT20 (by decide) f45
                          have g55 := set_ne hTT20 (by decide) f55
                          have g49 := set_ne hTT20 (by decide) f49
                          have g53 := set_same hTT20 szT19.out (by decide)
                          have szT20 := hide (set_size hTT20 szT19.out)
                          clear f6 f52 f45 f55 f49 hTT20 szT19
                          have f6 := g6
                          have f45 := g45
                          have f55 := g55
                          have f49 := g49
                          have f53 := g53
                          clear g6 g45 g55 g49 g53
                          refine wpAnyH_ready (rs := [11]) (by kernel_rfl) (by simp) ?_
                          refine AllReadyH.cons (o := _) rfl (fun K hK => ?_) AllReadyH.nil
                          go_simp
                          refine hK.out _ _ trivial (fun _ => ?_)
                          clear hK K
                          change wpAnyH _ _ _ _ _ _ _ ⟨Array.setIfInBounds T20 56 (.slice (some ⟨(World.heap wB).size, 0, none⟩) 4 4), _⟩ _
                          generalize hTT21 : Array.setIfInBounds T20 56 (.slice (some ⟨(World.heap wB).size, 0, none⟩) 4 4) = T21
                          have g6 := set_ne hTT21 (by decide) f6
                          have g56 := set_same hTT21 szT20.out (by decide)
                          have szT21 := hide (set_size hTT21 szT20.out)
                          clear f6 f45 f55 f49 f53 hTT21 szT20
                          have f6 := g6
                          have f56 := g56
                          clear g6 g56
                          refine wpAnyH_ready (rs := [12]) (by kernel_rfl) (by simp) ?_
                          refine AllReadyH.cons (o := _) rfl (fun K hK => ?_) AllReadyH.nil
                          go_simp
                          refine (Concat_four A6 AA AB AS c6 cA cB cS n6 L8 Lk ky.size _ (indexB l k) (put n8) (put ky.size) (bl ky) wB rfl r6 rA rB rS E6.out E8.out Ek.out (bl_length ky) HSUM.out).mono ?_
                          rintro e wC ⟨vC, rfl, OC, HBC⟩
                          have QC := stp Q8 HBC
                          obtain ⟨AC, cC, hvC, -⟩ := OC.rd
                          generalize (indexB l k ++ (put n8 ++ (put ky.size ++ bl ky))).length = nC at hvC
                          subst hvC
                          have uC := (QC.block (g0 + 1) hlt6).trans u6
                          have y7 := blk_cell uC 0
                          have y8 := blk_frozen uC 0
                          rw [← H6h.out] at OC
                          have q1 : w10.heap.size ≤ (World.heap wB).size := Q8.size
                          have R1 := fin_round kp j10 u5 u6 O5 OC QC q1 hDW s10g
                          refine hK.out _ _ trivial (fun _ => ?_)
                          clear hK K
                          change wpAnyH _ _ _ _ _ _ _ ⟨Array.setIfInBounds T21 57 (.slice AC nC cC), _⟩ _
                          generalize hTT22 : Array.setIfInBounds T21 57 (.slice AC nC cC) = T22
                          have g6 := set_ne hTT22 (by decide) f6
                          have g57 := set_same hTT22 szT21.out (by decide)
                          have szT22 := hide (set_size hTT22 szT21.out)
                          clear f6 f56 hTT22 szT21
                          have f6 := g6
                          have f57 := g57
                          clear g6 g57
                          refine wpAnyH_ready (rs := [13]) (by kernel_rfl) (by simp) ?_
                          refine AllReadyH.cons (o := _) rfl (fun K hK => ?_) AllReadyH.nil
                          go_simp
                          refine hK.out _ _ trivial (fun _ => ?_)
                          clear hK K
                          refine wpAnyH_done (by kernel_rfl) ⟨rfl, ?_⟩ _
                          exact R1
                        exact AllReadyH.nil
                      exact AllReadyH.nil
                    exact AllReadyH.nil
                  refine AllReadyH.cons (o := _) rfl (fun K hK => ?_) ?_
                  · skip
                    go_simp
                    refine (hP8 _).mono ?_
                    rintro e wA ⟨vA, rfl, OA, HBA⟩
                    obtain ⟨AA, cA, hvA, rA⟩ := OA.rd
                    rw [E8.out] at hvA
                    subst hvA
                    replace r6 := r6.below HBA
                    have Q4 := stp Q0 HBA
                    refine hK.out _ _ trivial (fun _ => ?_)
                    clear hK K
                    change wpAnyH _ _ _ _ _ _ _ ⟨Array.setIfInBounds T7 49 (.slice AA L8 cA), _⟩ _
                    generalize hTT23 : Array.setIfInBounds T7 49 (.slice AA L8 cA) = T23
                    have g6 := set_ne hTT23 (by decide) f6
                    have g52 := set_ne hTT23 (by decide) f52
                    have g54 := set_ne hTT23 (by decide) f54
                    have g49 := set_same hTT23 szT7.out (by decide)
                    have szT23 := hide (set_size hTT23 szT7.out)
                    clear f6 f48 f52 f54 hTT23 szT7
                    have f6 := g6
                    have f52 := g52
                    have f54 := g54
                    have f49 := g49
                    clear g6 g52 g54 g49
                    refine wpAnyH_ready (rs := [0, 8, 10]) (by kernel_rfl) (by simp) ?_
                    refine AllReadyH.cons (o := _) rfl (fun K hK => ?_) ?_
                    · have hcY := hc6 _ Q4
                      go_simp
                      refine hK.out _ _ trivial (fun _ => ?_)
                      clear hK K hcY
                      change wpAnyH _ _ _ _ _ _ _ ⟨Array.setIfInBounds T23 45 (.slice A6 n6 c6), _⟩ _
                      generalize hTT24 : Array.setIfInBounds T23 45 (.slice A6 n6 c6) = T24
                      have g6 := set_ne hTT24 (by decide) f6
                      have g52 := set_ne hTT24 (by decide) f52
                      have g54 := set_ne hTT24 (by decide) f54
                      have g49 := set_ne hTT24 (by decide) f49
                      have g45 := set_same hTT24 szT23.out (by decide)
                      have szT24 := hide (set_size hTT24 szT23.out)
                      clear f6 f52 f54 f49 hTT24 szT23
                      have f6 := g6
                      have f52 := g52
                      have f54 := g54
                      have f49 := g49
                      have f45 := g45
                      clear g6 g52 g54 g49 g45
                      refine wpAnyH_ready (rs := [8, 10]) (by kernel_rfl) (by simp) ?_
                      refine AllReadyH.cons (o := _) rfl (fun K hK => ?_) ?_
                      · skip
                        go_simp
                        refine (hPk _).mono ?_
                        rintro e wB ⟨vB, rfl, OB, HBB⟩
                        obtain ⟨AB, cB, hvB, rB⟩ := OB.rd
                        rw [Ek.out] at hvB
                        subst hvB
                        replace r6 := r6.below HBB
                        replace rA := rA.below HBB
                        have Q8 := stp Q4 HBB
                        refine hK.out _ _ trivial (fun _ => ?_)
                        clear hK K
                        change wpAnyH _ _ _ _ _ _ _ ⟨Array.setIfInBounds T24 53 (.slice AB Lk cB), _⟩ _
                        generalize hTT25 : Array.setIfInBounds T24 53 (.slice AB Lk cB) = T25
                        have g6 := set_ne hTT25 (by decide) f6
                        have g54 := set_ne hTT25 (by decide) f54
                        have g49 := set_ne hTT25 (by decide) f49
                        have g45 := set_ne hTT25 (by decide) f45
                        have g53 := set_same hTT25 szT24.out (by decide)
                        have szT25 := hide (set_size hTT25 szT24.out)
                        clear f6 f52 f54 f49 f45 hTT25 szT24
                        have f6 := g6
                        have f54 := g54
                        have f49 := g49
                        have f45 := g45
                        have f53 := g53
                        clear g6 g54 g49 g45 g53
                        refine wpAnyH_ready (rs := [10]) (by kernel_rfl) (by simp) ?_
                        refine AllReadyH.cons (o := _) rfl (fun K hK => ?_) ?_
                        · obtain ⟨wS, AS, cS, hcv, HBS, rS⟩ : ∃ wS AS cS, (convert 9 23 (.string ky)).run Try.prog wB = .ok (.slice AS ky.size cS) wS ∧ Below (World.heap wB).size wB wS ∧ RdB wS AS cS (bl ky) := ⟨_, _, _, print_bytes 9 23 5 Try.underlying9 Try.underlying23 Try.underlying5 ky wB, bytes_stp _ _, bytes_rd _ _ hks6⟩
                          go_simp
                          replace r6 := r6.below HBS
                          replace rA := rA.below HBS
                          replace rB := rB.below HBS
                          have Q10 := stp Q8 HBS
                          refine hK.out _ _ trivial (fun _ => ?_)
                          clear hK K
                          change wpAnyH _ _ _ _ _ _ _ ⟨Array.setIfInBounds T25 55 (.slice AS ky.size cS), _⟩ _
                          generalize hTT26 : Array.setIfInBounds T25 55 (.slice AS ky.size cS) = T26
                          have g6 := set_ne hTT26 (by decide) f6
                          have g49 := set_ne hTT26 (by decide) f49
                          have g45 := set_ne hTT26 (by decide) f45
                          have g53 := set_ne hTT26 (by decide) f53
                          have g55 := set_same hTT26 szT25.out (by decide)
                          have szT26 := hide (set_size hTT26 szT25.out)
                          clear f6 f54 f49 f45 f53 hTT26 szT25
                          have f6 := g6
                          have f49 := g49
                          have f45 := g45
                          have f53 := g53
                          have f55 := g55
                          clear g6 g49 g45 g53 g55
                          refine wpAnyH_ready (rs := [11]) (by kernel_rfl) (by simp) ?_
                          refine AllReadyH.cons (o := _) rfl (fun K hK => ?_) AllReadyH.nil
                          go_simp
                          refine hK.out _ _ trivial (fun _ => ?_)
                          clear hK K
                          change wpAnyH _ _ _ _ _ _ _ ⟨Array.setIfInBounds T26 56 (.slice (some ⟨(World.heap wS).size, 0, none⟩) 4 4), _⟩ _
                          generalize hTT27 : Array.setIfInBounds T26 56 (.slice (some ⟨(World.heap wS).size, 0, none⟩) 4 4) = T27
                          have g6 := set_ne hTT27 (by decide) f6
                          have g56 := set_same hTT27 szT26.out (by decide)
                          have szT27 := hide (set_size hTT27 szT26.out)
                          clear f6 f49 f45 f53 f55 hTT27 szT26
                          have f6 := g6
                          have f56 := g56
                          clear g6 g56
                          refine wpAnyH_ready (rs := [12]) (by kernel_rfl) (by simp) ?_
                          refine AllReadyH.cons (o := _) rfl (fun K hK => ?_) AllReadyH.nil
                          go_simp
                          refine (Concat_four A6 AA AB AS c6 cA cB cS n6 L8 Lk ky.size _ (indexB l k) (put n8) (put ky.size) (bl ky) wS rfl r6 rA rB rS E6.out E8.out Ek.out (bl_length ky) HSUM.out).mono ?_
                          rintro e wC ⟨vC, rfl, OC, HBC⟩
                          have QC := stp Q10 HBC
                          obtain ⟨AC, cC, hvC, -⟩ := OC.rd
                          generalize (indexB l k ++ (put n8 ++ (put ky.size ++ bl ky))).length = nC at hvC
                          subst hvC
                          have uC := (QC.block (g0 + 1) hlt6).trans u6
                          have y7 := blk_cell uC 0
                          have y8 := blk_frozen uC 0
                          rw [← H6h.out] at OC
                          have q1 : w10.heap.size ≤ (World.heap wS).size := Q10.size
                          have R1 := fin_round kp j10 u5 u6 O5 OC QC q1 hDW s10g
                          refine hK.out _ _ trivial (fun _ => ?_)
                          clear hK K
                          change wpAnyH _ _ _ _ _ _ _ ⟨Array.setIfInBounds T27 57 (.slice AC nC cC), _⟩ _
                          generalize hTT28 : Array.setIfInBounds T27 57 (.slice AC nC cC) = T28
                          have g6 := set_ne hTT28 (by decide) f6
                          have g57 := set_same hTT28 szT27.out (by decide)
                          have szT28 := hide (set_size hTT28 szT27.out)
                          clear f6 f56 hTT28 szT27
                          have f6 := g6
                          have f57 := g57
                          clear g6 g57
                          refine wpAnyH_ready (rs := [13]) (by kernel_rfl) (by simp) ?_
                          refine AllReadyH.cons (o := _) rfl (fun K hK => ?_) AllReadyH.nil
                          go_simp
                          refine hK.out _ _ trivial (fun _ => ?_)
                          clear hK K
                          refine wpAnyH_done (by kernel_rfl) ⟨rfl, ?_⟩ _
                          exact R1
                        exact AllReadyH.nil
                      refine AllReadyH.cons (o := _) rfl (fun K hK => ?_) ?_
                      · obtain ⟨wS, AS, cS, hcv, HBS, rS⟩ : ∃ wS AS cS, (convert 9 23 (.string ky)).run Try.prog wA = .ok (.slice AS ky.size cS) wS ∧ Below (World.heap wA).size wA wS ∧ RdB wS AS cS (bl ky) := ⟨_, _, _, print_bytes 9 23 5 Try.underlying9 Try.underlying23 Try.underlying5 ky wA, bytes_stp _ _, bytes_rd _ _ hks6⟩
                        go_simp
                        replace r6 := r6.below HBS
                        replace rA := rA.below HBS
                        have Q10 := stp Q4 HBS
                        refine hK.out _ _ trivial (fun _ => ?_)
                        clear hK K
                        change wpAnyH _ _ _ _ _ _ _ ⟨Array.setIfInBounds T24 55 (.slice AS ky.size cS), _⟩ _
                        generalize hTT29 : Array.setIfInBounds T24 55 (.slice AS ky.size cS) = T29
                        have g6 := set_ne hTT29 (by decide) f6
                        have g52 := set_ne hTT29 (by decide) f52
                        have g49 := set_ne hTT29 (by decide) f49
                        have g45 := set_ne hTT29 (by decide) f45
                        have g55 := set_same hTT29 szT24.out (by decide)
                        have szT29 := hide (set_size hTT29 szT24.out)
                        clear f6 f52 f54 f49 f45 hTT29 szT24
                        have f6 := g6
                        have f52 := g52
                        have f49 := g49
                        have f45 := g45
                        have f55 := g55
                        clear g6 g52 g49 g45 g55
                        refine wpAnyH_ready (rs := [8]) (by kernel_rfl) (by simp) ?_
                        refine AllReadyH.cons (o := _) rfl (fun K hK => ?_) ?_
                        · skip
                          go_simp
                          refine (hPk _).mono ?_
                          rintro e wB ⟨vB, rfl, OB, HBB⟩
                          obtain ⟨AB, cB, hvB, rB⟩ := OB.rd
                          rw [Ek.out] at hvB
                          subst hvB
                          replace r6 := r6.below HBB
                          replace rA := rA.below HBB
                          replace rS := rS.below HBB
                          have Q8 := stp Q10 HBB
                          refine hK.out _ _ trivial (fun _ => ?_)
                          clear hK K
                          change wpAnyH _ _ _ _ _ _ _ ⟨Array.setIfInBounds T29 53 (.slice AB Lk cB), _⟩ _
                          generalize hTT30 : Array.setIfInBounds T29 53 (.slice AB Lk cB) = T30
                          have g6 := set_ne hTT30 (by decide) f6
                          have g49 := set_ne hTT30 (by decide) f49
                          have g45 := set_ne hTT30 (by decide) f45
                          have g55 := set_ne hTT30 (by decide) f55
                          have g53 := set_same hTT30 szT29.out (by decide)
                          have szT30 := hide (set_size hTT30 szT29.out)
                          clear f6 f52 f49 f45 f55 hTT30 szT29
                          have f6 := g6
                          have f49 := g49
                          have f45 := g45
                          have f55 := g55
                          have f53 := g53
                          clear g6 g49 g45 g55 g53
                          refine wpAnyH_ready (rs := [11]) (by kernel_rfl) (by simp) ?_
                          refine AllReadyH.cons (o := _) rfl (fun K hK => ?_) AllReadyH.nil
                          go_simp
                          refine hK.out _ _ trivial (fun _ => ?_)
                          clear hK K
                          change wpAnyH _ _ _ _ _ _ _ ⟨Array.setIfInBounds T30 56 (.slice (some ⟨(World.heap wB).size, 0, none⟩) 4 4), _⟩ _
                          generalize hTT31 : Array.setIfInBounds T30 56 (.slice (some ⟨(World.heap wB).size, 0, none⟩) 4 4) = T31
                          have g6 := set_ne hTT31 (by decide) f6
                          have g56 := set_same hTT31 szT30.out (by decide)
                          have szT31 := hide (set_size hTT31 szT30.out)
                          clear f6 f49 f45 f55 f53 hTT31 szT30
                          have f6 := g6
                          have f56 := g56
                          clear g6 g56
                          refine wpAnyH_ready (rs := [12]) (by kernel_rfl) (by simp) ?_
                          refine AllReadyH.cons (o := _) rfl (fun K hK => ?_) AllReadyH.nil
                          go_simp
                          refine (Concat_four A6 AA AB AS c6 cA cB cS n6 L8 Lk ky.size _ (indexB l k) (put n8) (put ky.size) (bl ky) wB rfl r6 rA rB rS E6.out E8.out Ek.out (bl_length ky) HSUM.out).mono ?_
                          rintro e wC ⟨vC, rfl, OC, HBC⟩
                          have QC := stp Q8 HBC
                          obtain ⟨AC, cC, hvC, -⟩ := OC.rd
                          generalize (indexB l k ++ (put n8 ++ (put ky.size ++ bl ky))).length = nC at hvC
                          subst hvC
                          have uC := (QC.block (g0 + 1) hlt6).trans u6
                          have y7 := blk_cell uC 0
                          have y8 := blk_frozen uC 0
                          rw [← H6h.out] at OC
                          have q1 : w10.heap.size ≤ (World.heap wB).size := Q8.size
                          have R1 := fin_round kp j10 u5 u6 O5 OC QC q1 hDW s10g
                          refine hK.out _ _ trivial (fun _ => ?_)
                          clear hK K
                          change wpAnyH _ _ _ _ _ _ _ ⟨Array.setIfInBounds T31 57 (.slice AC nC cC), _⟩ _
                          generalize hTT32 : Array.setIfInBounds T31 57 (.slice AC nC cC) = T32
                          have g6 := set_ne hTT32 (by decide) f6
                          have g57 := set_same hTT32 szT31.out (by decide)
                          have szT32 := hide (set_size hTT32 szT31.out)
                          clear f6 f56 hTT32 szT31
                          have f6 := g6
                          have f57 := g57
                          clear g6 g57
                          refine wpAnyH_ready (rs := [13]) (by kernel_rfl) (by simp) ?_
                          refine AllReadyH.cons (o := _) rfl (fun K hK => ?_) AllReadyH.nil
                          go_simp
                          refine hK.out _ _ trivial (fun _ => ?_)
                          clear hK K
                          refine wpAnyH_done (by kernel_rfl) ⟨rfl, ?_⟩ _
                          exact R1
                        exact AllReadyH.nil
                      exact AllReadyH.nil
                    refine AllReadyH.cons (o := _) rfl (fun K hK => ?_) ?_
                    · skip
                      go_simp
                      refine (hPk _).mono ?_
                      rintro e wB ⟨vB, rfl, OB, HBB⟩
                      obtain ⟨AB, cB, hvB, rB⟩ := OB.rd
                      rw [Ek.out] at hvB
                      subst hvB
                      replace r6 := r6.below HBB
                      replace rA := rA.below HBB
                      have Q8 := stp Q4 HBB
                      refine hK.out _ _ trivial (fun _ => ?_)
                      clear hK K
                      change wpAnyH _ _ _ _ _ _ _ ⟨Array.setIfInBounds T23 53 (.slice AB Lk cB), _⟩ _
                      generalize hTT33 : Array.setIfInBounds T23 53 (.slice AB Lk cB) = T33
                      have g6 := set_ne hTT33 (by decide) f6
                      have g54 := set_ne hTT33 (by decide) f54
                      have g49 := set_ne hTT33 (by decide) f49
                      have g53 := set_same hTT33 szT23.out (by decide)
                      have szT33 := hide (set_size hTT33 szT23.out)
                      clear f6 f52 f54 f49 hTT33 szT23
                      have f6 := g6
                      have f54 := g54
                      have f49 := g49
                      have f53 := g53
                      clear g6 g54 g49 g53
                      refine wpAnyH_ready (rs := [0, 10]) (by kernel_rfl) (by simp) ?_
                      refine AllReadyH.cons (o := _) rfl (fun K hK => ?_) ?_
                      · have hcY := hc6 _ Q8
                        go_simp
                        refine hK.out _ _ trivial (fun _ => ?_)
                        clear hK K hcY
                        change wpAnyH _ _ _ _ _ _ _ ⟨Array.setIfInBounds T33 45 (.slice A6 n6 c6), _⟩ _
                        generalize hTT34 : Array.setIfInBounds T33 45 (.slice A6 n6 c6) = T34
                        have g6 := set_ne hTT34 (by decide) f6
                        have g54 := set_ne hTT34 (by decide) f54
                        have g49 := set_ne hTT34 (by decide) f49
                        have g53 := set_ne hTT34 (by decide) f53
                        have g45 := set_same hTT34 szT33.out (by decide)
                        have szT34 := hide (set_size hTT34 szT33.out)
                        clear f6 f54 f49 f53 hTT34 szT33
                        have f6 := g6
                        have f54 := g54
                        have f49 := g49
                        have f53 := g53
                        have f45 := g45
                        clear g6 g54 g49 g53 g45
                        refine wpAnyH_ready (rs := [10]) (by kernel_rfl) (by simp) ?_
                        refine AllReadyH.cons (o := _) rfl (fun K hK => ?_) ?_
                        · obtain ⟨wS, AS, cS, hcv, HBS, rS⟩ : ∃ wS AS cS, (convert 9 23 (.string ky)).run Try.prog wB = .ok (.slice AS ky.size cS) wS ∧ Below (World.heap wB).size wB wS ∧ RdB wS AS cS (bl ky) := ⟨_, _, _, print_bytes 9 23 5 Try.underlying9 Try.underlying23 Try.underlying5 ky wB, bytes_stp _ _, bytes_rd _ _ hks6⟩
                          go_simp
                          replace r6 := r6.below HBS
                          replace rA := rA.below HBS
                          replace rB := rB.below HBS
                          have Q10 := stp Q8 HBS
                          refine hK.out _ _ trivial (fun _ => ?_)
                          clear hK K
                          change wpAnyH _ _ _ _ _ _ _ ⟨Array.setIfInBounds T34 55 (.slice AS ky.size cS), _⟩ _
                          generalize hTT35 : Array.setIfInBounds T34 55 (.slice AS ky.size cS) = T35
                          have g6 := set_ne hTT35 (by decide) f6
                          have g49 := set_ne hTT35 (by decide) f49
                          have g53 := set_ne hTT35 (by decide) f53
                          have g45 := set_ne hTT35 (by decide) f45
                          have g55 := set_same hTT35 szT34.out (by decide)
                          have szT35 := hide (set_size hTT35 szT34.out)
                          clear f6 f54 f49 f53 f45 hTT35 szT34
                          have f6 := g6
                          have f49 := g49
                          have f53 := g53
                          have f45 := g45
                          have f55 := g55
                          clear g6 g49 g53 g45 g55
                          refine wpAnyH_ready (rs := [11]) (by kernel_rfl) (by simp) ?_
                          refine AllReadyH.cons (o := _) rfl (fun K hK => ?_) AllReadyH.nil
                          go_simp
                          refine hK.out _ _ trivial (fun _ => ?_)
                          clear hK K
                          change wpAnyH _ _ _ _ _ _ _ ⟨Array.setIfInBounds T35 56 (.slice (some ⟨(World.heap wS).size, 0, none⟩) 4 4), _⟩ _
                          generalize hTT36 : Array.setIfInBounds T35 56 (.slice (some ⟨(World.heap wS).size, 0, none⟩) 4 4) = T36
                          have g6 := set_ne hTT36 (by decide) f6
                          have g56 := set_same hTT36 szT35.out (by decide)
                          have szT36 := hide (set_size hTT36 szT35.out)
                          clear f6 f49 f53 f45 f55 hTT36 szT35
                          have f6 := g6
                          have f56 := g56
                          clear g6 g56
                          refine wpAnyH_ready (rs := [12]) (by kernel_rfl) (by simp) ?_
                          refine AllReadyH.cons (o := _) rfl (fun K hK => ?_) AllReadyH.nil
                          go_simp
                          refine (Concat_four A6 AA AB AS c6 cA cB cS n6 L8 Lk ky.size _ (indexB l k) (put n8) (put ky.size) (bl ky) wS rfl r6 rA rB rS E6.out E8.out Ek.out (bl_length ky) HSUM.out).mono ?_
                          rintro e wC ⟨vC, rfl, OC, HBC⟩
                          have QC := stp Q10 HBC
                          obtain ⟨AC, cC, hvC, -⟩ := OC.rd
                          generalize (indexB l k ++ (put n8 ++ (put ky.size ++ bl ky))).length = nC at hvC
                          subst hvC
                          have uC := (QC.block (g0 + 1) hlt6).trans u6
                          have y7 := blk_cell uC 0
                          have y8 := blk_frozen uC 0
                          rw [← H6h.out] at OC
                          have q1 : w10.heap.size ≤ (World.heap wS).size := Q10.size
                          have R1 := fin_round kp j10 u5 u6 O5 OC QC q1 hDW s10g
                          refine hK.out _ _ trivial (fun _ => ?_)
                          clear hK K
                          change wpAnyH _ _ _ _ _ _ _ ⟨Array.setIfInBounds T36 57 (.slice AC nC cC), _⟩ _
                          generalize hTT37 : Array.setIfInBounds T36 57 (.slice AC nC cC) = T37
                          have g6 := set_ne hTT37 (by decide) f6
                          have g57 := set_same hTT37 szT36.out (by decide)
                          have szT37 := hide (set_size hTT37 szT36.out)
                          clear f6 f56 hTT37 szT36
                          have f6 := g6
                          have f57 := g57
                          clear g6 g57
                          refine wpAnyH_ready (rs := [13]) (by kernel_rfl) (by simp) ?_
                          refine AllReadyH.cons (o := _) rfl (fun K hK => ?_) AllReadyH.nil
                          go_simp
                          refine hK.out _ _ trivial (fun _ => ?_)
                          clear hK K
                          refine wpAnyH_done (by kernel_rfl) ⟨rfl, ?_⟩ _
                          exact R1
                        exact AllReadyH.nil
                      refine AllReadyH.cons (o := _) rfl (fun K hK => ?_) ?_
                      · obtain ⟨wS, AS, cS, hcv, HBS, rS⟩ : ∃ wS AS cS, (convert 9 23 (.string ky)).run Try.prog wB = .ok (.slice AS ky.size cS) wS ∧ Below (World.heap wB).size wB wS ∧ RdB wS AS cS (bl ky) := ⟨_, _, _, print_bytes 9 23 5 Try.underlying9 Try.underlying23 Try.underlying5 ky wB, bytes_stp _ _, bytes_rd _ _ hks6⟩
                        go_simp
                        replace r6 := r6.below HBS
                        replace rA := rA.below HBS
                        replace rB := rB.below HBS
                        have Q10 := stp Q8 HBS
                        refine hK.out _ _ trivial (fun _ => ?_)
                        clear hK K
                        change wpAnyH _ _ _ _ _ _ _ ⟨Array.setIfInBounds T33 55 (.slice AS ky.size cS), _⟩ _
                        generalize hTT38 : Array.setIfInBounds T33 55 (.slice AS ky.size cS) = T38
                        have g6 := set_ne hTT38 (by decide) f6
                        have g49 := set_ne hTT38 (by decide) f49
                        have g53 := set_ne hTT38 (by decide) f53
                        have g55 := set_same hTT38 szT33.out (by decide)
                        have szT38 := hide (set_size hTT38 szT33.out)
                        clear f6 f54 f49 f53 hTT38 szT33
                        have f6 := g6
                        have f49 := g49
                        have f53 := g53
                        have f55 := g55
                        clear g6 g49 g53 g55
                        refine wpAnyH_ready (rs := [0]) (by kernel_rfl) (by simp) ?_
                        refine AllReadyH.cons (o := _) rfl (fun K hK => ?_) ?_
                        · have hcY := hc6 _ Q10
                          go_simp
                          refine hK.out _ _ trivial (fun _ => ?_)
                          clear hK K hcY
                          change wpAnyH _ _ _ _ _ _ _ ⟨Array.setIfInBounds T38 45 (.slice A6 n6 c6), _⟩ _
                          generalize hTT39 : Array.setIfInBounds T38 45 (.slice A6 n6 c6) = T39
                          have g6 := set_ne hTT39 (by decide) f6
                          have g49 := set_ne hTT39 (by decide) f49
                          have g53 := set_ne hTT39 (by decide) f53
                          have g55 := set_ne hTT39 (by decide) f55
                          have g45 := set_same hTT39 szT38.out (by decide)
                          have szT39 := hide (set_size hTT39 szT38.out)
                          clear f6 f49 f53 f55 hTT39 szT38
                          have f6 := g6
                          have f49 := g49
                          have f53 := g53
                          have f55 := g55
                          have f45 := g45
                          clear g6 g49 g53 g55 g45
                          refine wpAnyH_ready (rs := [11]) (by kernel_rfl) (by simp) ?_
                          refine AllReadyH.cons (o := _) rfl (fun K hK => ?_) AllReadyH.nil
                          go_simp
                          refine hK.out _ _ trivial (fun _ => ?_)
                          clear hK K
                          change wpAnyH _ _ _ _ _ _ _ ⟨Array.setIfInBounds T39 56 (.slice (some ⟨(World.heap wS).size, 0, none⟩) 4 4), _⟩ _
                          generalize hTT40 : Array.setIfInBounds T39 56 (.slice (some ⟨(World.heap wS).size, 0, none⟩) 4 4) = T40
                          have g6 := set_ne hTT40 (by decide) f6
                          have g56 := set_same hTT40 szT39.out (by decide)
                          have szT40 := hide (set_size hTT40 szT39.out)
                          clear f6 f49 f53 f55 f45 hTT40 szT39
                          have f6 := g6
                          have f56 := g56
                          clear g6 g56
                          refine wpAnyH_ready (rs := [12]) (by kernel_rfl) (by simp) ?_
                          refine AllReadyH.cons (o := _) rfl (fun K hK => ?_) AllReadyH.nil
                          go_simp
                          refine (Concat_four A6 AA AB AS c6 cA cB cS n6 L8 Lk ky.size _ (indexB l k) (put n8) (put ky.size) (bl ky) wS rfl r6 rA rB rS E6.out E8.out Ek.out (bl_length ky) HSUM.out).mono ?_
                          rintro e wC ⟨vC, rfl, OC, HBC⟩
                          have QC := stp Q10 HBC
                          obtain ⟨AC, cC, hvC, -⟩ := OC.rd
                          generalize (indexB l k ++ (put n8 ++ (put ky.size ++ bl ky))).length = nC at hvC
                          subst hvC
                          have uC := (QC.block (g0 + 1) hlt6).trans u6
                          have y7 := blk_cell uC 0
                          have y8 := blk_frozen uC 0
                          rw [← H6h.out] at OC
                          have q1 : w10.heap.size ≤ (World.heap wS).size := Q10.size
                          have R1 := fin_round kp j10 u5 u6 O5 OC QC q1 hDW s10g
                          refine hK.out _ _ trivial (fun _ => ?_)
                          clear hK K
                          change wpAnyH _ _ _ _ _ _ _ ⟨Array.setIfInBounds T40 57 (.slice AC nC cC), _⟩ _
                          generalize hTT41 : Array.setIfInBounds T40 57 (.slice AC nC cC) = T41
                          have g6 := set_ne hTT41 (by decide) f6
                          have g57 := set_same hTT41 szT40.out (by decide)
                          have szT41 := hide (set_size hTT41 szT40.out)
                          clear f6 f56 hTT41 szT40
                          have f6 := g6
                          have f57 := g57
                          clear g6 g57
                          refine wpAnyH_ready (rs := [13]) (by kernel_rfl) (by simp) ?_
                          refine AllReadyH.cons (o := _) rfl (fun K hK => ?_) AllReadyH.nil
                          go_simp
                          refine hK.out _ _ trivial (fun _ => ?_)
                          clear hK K
                          refine wpAnyH_done (by kernel_rfl) ⟨rfl, ?_⟩ _
                          exact R1
                        exact AllReadyH.nil
                      exact AllReadyH.nil
                    refine AllReadyH.cons (o := _) rfl (fun K hK => ?_) ?_
                    · obtain ⟨wS, AS, cS, hcv, HBS, rS⟩ : ∃ wS AS cS, (convert 9 23 (.string ky)).run Try.prog wA = .ok (.slice AS ky.size cS) wS ∧ Below (World.heap wA).size wA wS ∧ RdB wS AS cS (bl ky) := ⟨_, _, _, print_bytes 9 23 5 Try.underlying9 Try.underlying23 Try.underlying5 ky wA, bytes_stp _ _, bytes_rd _ _ hks6⟩
                      go_simp
                      replace r6 := r6.below HBS
                      replace rA := rA.below HBS
                      have Q10 := stp Q4 HBS
                      refine hK.out _ _ trivial (fun _ => ?_)
                      clear hK K
                      change wpAnyH _ _ _ _ _ _ _ ⟨Array.setIfInBounds T23 55 (.slice AS ky.size cS), _⟩ _
                      generalize hTT42 : Array.setIfInBounds T23 55 (.slice AS ky.size cS) = T42
                      have g6 := set_ne hTT42 (by decide) f6
                      have g52 := set_ne hTT42 (by decide) f52
                      have g49 := set_ne hTT42 (by decide) f49
                      have g55 := set_same hTT42 szT23.out (by decide)
                      have szT42 := hide (set_size hTT42 szT23.out)
                      clear f6 f52 f54 f49 hTT42 szT23
                      have f6 := g6
                      have f52 := g52
                      have f49 := g49
                      have f55 := g55
                      clear g6 g52 g49 g55
                      refine wpAnyH_ready (rs := [0, 8]) (by kernel_rfl) (by simp) ?_
                      refine AllReadyH.cons (o := _) rfl (fun K hK => ?_) ?_
                      · have hcY := hc6 _ Q10
                        go_simp
                        refine hK.out _ _ trivial (fun _ => ?_)
                        clear hK K hcY
                        change wpAnyH _ _ _ _ _ _ _ ⟨Array.setIfInBounds T42 45 (.slice A6 n6 c6), _⟩ _
                        generalize hTT43 : Array.setIfInBounds T42 45 (.slice A6 n6 c6) = T43
                        have g6 := set_ne hTT43 (by decide) f6
                        have g52 := set_ne hTT43 (by decide) f52
                        have g49 := set_ne hTT43 (by decide) f49
                        have g55 := set_ne hTT43 (by decide) f55
                        have g45 := set_same hTT43 szT42.out (by decide)
                        have szT43 := hide (set_size hTT43 szT42.out)
                        clear f6 f52 f49 f55 hTT43 szT42
                        have f6 := g6
                        have f52 := g52
                        have f49 := g49
                        have f55 := g55
                        have f45 := g45
                        clear g6 g52 g49 g55 g45
                        refine wpAnyH_ready (rs := [8]) (by kernel_rfl) (by simp) ?_
                        refine AllReadyH.cons (o := _) rfl (fun K hK => ?_) ?_
                        · skip
                          go_simp
                          refine (hPk _).mono ?_
                          rintro e wB ⟨vB, rfl, OB, HBB⟩
                          obtain ⟨AB, cB, hvB, rB⟩ := OB.rd
                          rw [Ek.out] at hvB
                          subst hvB
                          replace r6 := r6.below HBB
                          replace rA := rA.below HBB
                          replace rS := rS.below HBB
                          have Q8 := stp Q10 HBB
                          refine hK.out _ _ trivial (fun _ => ?_)
                          clear hK K
                          change wpAnyH _ _ _ _ _ _ _ ⟨Array.setIfInBounds T43 53 (.slice AB Lk cB), _⟩ _
                          generalize hTT44 : Array.setIfInBounds T43 53 (.slice AB Lk cB) = T44
                          have g6 := set_ne hTT44 (by decide) f6
                          have g49 := set_ne hTT44 (by decide) f49
                          have g55 := set_ne hTT44 (by decide) f55
                          have g45 := set_ne hTT44 (by decide) f45
                          have g53 := set_same hTT44 szT43.out (by decide)
                          have szT44 := hide (set_size hTT44 szT43.out)
                          clear f6 f52 f49 f55 f45 hTT44 szT43
                          have f6 := g6
                          have f49 := g49
                          have f55 := g55
                          have f45 := g45
                          have f53 := g53
                          clear g6 g49 g55 g45 g53
                          refine wpAnyH_ready (rs := [11]) (by kernel_rfl) (by simp) ?_
                          refine AllReadyH.cons (o := _) rfl (fun K hK => ?_) AllReadyH.nil
                          go_simp
                          refine hK.out _ _ trivial (fun _ => ?_)
                          clear hK K
                          change wpAnyH _ _ _ _ _ _ _ ⟨Array.setIfInBounds T44 56 (.slice (some ⟨(World.heap wB).size, 0, none⟩) 4 4), _⟩ _
                          generalize hTT45 : Array.setIfInBounds T44 56 (.slice (some ⟨(World.heap wB).size, 0, none⟩) 4 4) = T45
                          have g6 := set_ne hTT45 (by decide) f6
                          have g56 := set_same hTT45 szT44.out (by decide)
                          have szT45 := hide (set_size hTT45 szT44.out)
                          clear f6 f49 f55 f45 f53 hTT45 szT44
                          have f6 := g6
                          have f56 := g56
                          clear g6 g56
                          refine wpAnyH_ready (rs := [12]) (by kernel_rfl) (by simp) ?_
                          refine AllReadyH.cons (o := _) rfl (fun K hK => ?_) AllReadyH.nil
                          go_simp
                          refine (Concat_four A6 AA AB AS c6 cA cB cS n6 L8 Lk ky.size _ (indexB l k) (put n8) (put ky.size) (bl ky) wB rfl r6 rA rB rS E6.out E8.out Ek.out (bl_length ky) HSUM.out).mono ?_
                          rintro e wC ⟨vC, rfl, OC, HBC⟩
                          have QC := stp Q8 HBC
                          obtain ⟨AC, cC, hvC, -⟩ := OC.rd
                          generalize (indexB l k ++ (put n8 ++ (put ky.size ++ bl ky))).length = nC at hvC
                          subst hvC
                          have uC := (QC.block (g0 + 1) hlt6).trans u6
                          have y7 := blk_cell uC 0
                          have y8 := blk_frozen uC 0
                          rw [← H6h.out] at OC
                          have q1 : w10.heap.size ≤ (World.heap wB).size := Q8.size
                          have R1 := fin_round kp j10 u5 u6 O5 OC QC q1 hDW s10g
                          refine hK.out _ _ trivial (fun _ => ?_)
                          clear hK K
                          change wpAnyH _ _ _ _ _ _ _ ⟨Array.setIfInBounds T45 57 (.slice AC nC cC), _⟩ _
                          generalize hTT46 : Array.setIfInBounds T45 57 (.slice AC nC cC) = T46
                          have g6 := set_ne hTT46 (by decide) f6
                          have g57 := set_same hTT46 szT45.out (by decide)
                          have szT46 := hide (set_size hTT46 szT45.out)
                          clear f6 f56 hTT46 szT45
                          have f6 := g6
                          have f57 := g57
                          clear g6 g57
                          refine wpAnyH_ready (rs := [13]) (by kernel_rfl) (by simp) ?_
                          refine AllReadyH.cons (o := _) rfl (fun K hK => ?_) AllReadyH.nil
                          go_simp
                          refine hK.out _ _ trivial (fun _ => ?_)
                          clear hK K
                          refine wpAnyH_done (by kernel_rfl) ⟨rfl, ?_⟩ _
                          exact R1
                        exact AllReadyH.nil
                      refine AllReadyH.cons (o := _) rfl (fun K hK => ?_) ?_
                      · skip
                        go_simp
                        refine (hPk _).mono ?_
                        rintro e wB ⟨vB, rfl, OB, HBB⟩
                        obtain ⟨AB, cB, hvB, rB⟩ := OB.rd
                        rw [Ek.out] at hvB
                        subst hvB
                        replace r6 := r6.below HBB
                        replace rA := rA.below HBB
                        replace rS := rS.below HBB
                        have Q8 := stp Q10 HBB
                        refine hK.out _ _ trivial (fun _ => ?_)
                        clear hK K
                        change wpAnyH _ _ _ _ _ _ _ ⟨Array.setIfInBounds T42 53 (.slice AB Lk cB), _⟩ _
                        generalize hTT47 : Array.setIfInBounds T42 53 (.slice AB Lk cB) = T47
                        have g6 := set_ne hTT47 (by decide) f6
                        have g49 := set_ne hTT47 (by decide) f49
                        have g55 := set_ne hTT47 (by decide) f55
                        have g53 := set_same hTT47 szT42.out (by decide)
                        have szT47 := hide (set_size hTT47 szT42.out)
                        clear f6 f52 f49 f55 hTT47 szT42
                        have f6 := g6
                        have f49 := g49
                        have f55 := g55
                        have f53 := g53
                        clear g6 g49 g55 g53
                        refine wpAnyH_ready (rs := [0]) (by kernel_rfl) (by simp) ?_
                        refine AllReadyH.cons (o := _) rfl (fun K hK => ?_) ?_
                        · have hcY := hc6 _ Q8
                          go_simp
                          refine hK.out _ _ trivial (fun _ => ?_)
                          clear hK K hcY
                          change wpAnyH _ _ _ _ _ _ _ ⟨Array.setIfInBounds T47 45 (.slice A6 n6 c6), _⟩ _
                          generalize hTT48 : Array.setIfInBounds T47 45 (.slice A6 n6 c6) = T48
                          have g6 := set_ne hTT48 (by decide) f6
                          have g49 := set_ne hTT48 (by decide) f49
                          have g55 := set_ne hTT48 (by decide) f55
                          have g53 := set_ne hTT48 (by decide) f53
                          have g45 := set_same hTT48 szT47.out (by decide)
                          have szT48 := hide (set_size hTT48 szT47.out)
                          clear f6 f49 f55 f53 hTT48 szT47
                          have f6 := g6
                          have f49 := g49
                          have f55 := g55
                          have f53 := g53
                          have f45 := g45
                          clear g6 g49 g55 g53 g45
                          refine wpAnyH_ready (rs := [11]) (by kernel_rfl) (by simp) ?_
                          refine AllReadyH.cons (o := _) rfl (fun K hK => ?_) AllReadyH.nil
                          go_simp
                          refine hK.out _ _ trivial (fun _ => ?_)
                          clear hK K
                          change wpAnyH _ _ _ _ _ _ _ ⟨Array.setIfInBounds T48 56 (.slice (some ⟨(World.heap wB).size, 0, none⟩) 4 4), _⟩ _
                          generalize hTT49 : Array.setIfInBounds T48 56 (.slice (some ⟨(World.heap wB).size, 0, none⟩) 4 4) = T49
                          have g6 := set_ne hTT49 (by decide) f6
                          have g56 := set_same hTT49 szT48.out (by decide)
                          have szT49 := hide (set_size hTT49 szT48.out)
                          clear f6 f49 f55 f53 f45 hTT49 szT48
                          have f6 := g6
                          have f56 := g56
                          clear g6 g56
                          refine wpAnyH_ready (rs := [12]) (by kernel_rfl) (by simp) ?_
                          refine AllReadyH.cons (o := _) rfl (fun K hK => ?_) AllReadyH.nil
                          go_simp
                          refine (Concat_four A6 AA AB AS c6 cA cB cS n6 L8 Lk ky.size _ (indexB l k) (put n8) (put ky.size) (bl ky) wB rfl r6 rA rB rS E6.out E8.out Ek.out (bl_length ky) HSUM.out).mono ?_
                          rintro e wC ⟨vC, rfl, OC, HBC⟩
                          have QC := stp Q8 HBC
                          obtain ⟨AC, cC, hvC, -⟩ := OC.rd
                          generalize (indexB l k ++ (put n8 ++ (put ky.size ++ bl ky))).length = nC at hvC
                          subst hvC
                          have uC := (QC.block (g0 + 1) hlt6).trans u6
                          have y7 := blk_cell uC 0
                          have y8 := blk_frozen uC 0
                          rw [← H6h.out] at OC
                          have q1 : w10.heap.size ≤ (World.heap wB).size := Q8.size
                          have R1 := fin_round kp j10 u5 u6 O5 OC QC q1 hDW s10g
                          refine hK.out _ _ trivial (fun _ => ?_)
                          clear hK K
                          change wpAnyH _ _ _ _ _ _ _ ⟨Array.setIfInBounds T49 57 (.slice AC nC cC), _⟩ _
                          generalize hTT50 : Array.setIfInBounds T49 57 (.slice AC nC cC) = T50
                          have g6 := set_ne hTT50 (by decide) f6
                          have g57 := set_same hTT50 szT49.out (by decide)
                          have szT50 := hide (set_size hTT50 szT49.out)
                          clear f6 f56 hTT50 szT49
                          have f6 := g6
                          have f57 := g57
                          clear g6 g57
                          refine wpAnyH_ready (rs := [13]) (by kernel_rfl) (by simp) ?_
                          refine AllReadyH.cons (o := _) rfl (fun K hK => ?_) AllReadyH.nil
                          go_simp
                          refine hK.out _ _ trivial (fun _ => ?_)
                          clear hK K
                          refine wpAnyH_done (by kernel_rfl) ⟨rfl, ?_⟩ _
                          exact R1
                        exact AllReadyH.nil
                      exact AllReadyH.nil
                    exact AllReadyH.nil
                  refine AllReadyH.cons (o := _) rfl (fun K hK => ?_) ?_
                  · obtain ⟨wS, AS, cS, hcv, HBS, rS⟩ : ∃ wS AS cS, (convert 9 23 (.string ky)).run Try.prog w11 = .ok (.slice AS ky.size cS) wS ∧ Below (World.heap w11).size w11 wS ∧ RdB wS AS cS (bl ky) := ⟨_, _, _, print_bytes 9 23 5 Try.underlying9 Try.underlying23 Try.underlying5 ky w11, bytes_stp _ _, bytes_rd _ _ hks6⟩
                    go_simp
                    replace r6 := r6.below HBS
                    have Q10 := stp Q0 HBS
                    refine hK.out _ _ trivial (fun _ => ?_)
                    clear hK K
                    change wpAnyH _ _ _ _ _ _ _ ⟨Array.setIfInBounds T7 55 (.slice AS ky.size cS), _⟩ _
                    generalize hTT51 : Array.setIfInBounds T7 55 (.slice AS ky.size cS) = T51
                    have g6 := set_ne hTT51 (by decide) f6
                    have g48 := set_ne hTT51 (by decide) f48
                    have g52 := set_ne hTT51 (by decide) f52
                    have g55 := set_same hTT51 szT7.out (by decide)
                    have szT51 := hide (set_size hTT51 szT7.out)
                    clear f6 f48 f52 f54 hTT51 szT7
                    have f6 := g6
                    have f48 := g48
                    have f52 := g52
                    have f55 := g55
                    clear g6 g48 g52 g55
                    refine wpAnyH_ready (rs := [0, 4]) (by kernel_rfl) (by simp) ?_
                    refine AllReadyH.cons (o := _) rfl (fun K hK => ?_) ?_
                    · have hcY := hc6 _ Q10
                      go_simp
                      refine hK.out _ _ trivial (fun _ => ?_)
                      clear hK K hcY
                      change wpAnyH _ _ _ _ _ _ _ ⟨Array.setIfInBounds T51 45 (.slice A6 n6 c6), _⟩ _
                      generalize hTT52 : Array.setIfInBounds T51 45 (.slice A6 n6 c6) = T52
                      have g6 := set_ne hTT52 (by decide) f6
                      have g48 := set_ne hTT52 (by decide) f48
                      have g52 := set_ne hTT52 (by decide) f52
                      have g55 := set_ne hTT52 (by decide) f55
                      have g45 := set_same hTT52 szT51.out (by decide)
                      have szT52 := hide (set_size hTT52 szT51.out)
                      clear f6 f48 f52 f55 hTT52 szT51
                      have f6 := g6
                      have f48 := g48
                      have f52 := g52
                      have f55 := g55
                      have f45 := g45
                      clear g6 g48 g52 g55 g45
                      refine wpAnyH_ready (rs := [4]) (by kernel_rfl) (by simp) ?_
                      refine AllReadyH.cons (o := _) rfl (fun K hK => ?_) ?_
                      · skip
                        go_simp
                        refine (hP8 _).mono ?_
                        rintro e wA ⟨vA, rfl, OA, HBA⟩
                        obtain ⟨AA, cA, hvA, rA⟩ := OA.rd
                        rw [E8.out] at hvA
                        subst hvA
                        replace r6 := r6.below HBA
                        replace rS := rS.below HBA
                        have Q4 := stp Q10 HBA
                        refine hK.out _ _ trivial (fun _ => ?_)
                        clear hK K
                        change wpAnyH _ _ _ _ _ _ _ ⟨Array.setIfInBounds T52 49 (.slice AA L8 cA), _⟩ _
                        generalize hTT53 : Array.setIfInBounds T52 49 (.slice AA L8 cA) = T53
                        have g6 := set_ne hTT53 (by decide) f6
                        have g52 := set_ne hTT53 (by decide) f52
                        have g55 := set_ne hTT53 (by decide) f55
                        have g45 := set_ne hTT53 (by decide) f45
                        have g49 := set_same hTT53 szT52.out (by decide)
                        have szT53 := hide (set_size hTT53 szT52.out)
                        clear f6 f48 f52 f55 f45 hTT53 szT52
                        have f6 := g6
                        have f52 := g52
                        have f55 := g55
                        have f45 := g45
                        have f49 := g49
                        clear g6 g52 g55 g45 g49
                        refine wpAnyH_ready (rs := [8]) (by kernel_rfl) (by simp) ?_
                        refine AllReadyH.cons (o := _) rfl (fun K hK => ?_) ?_
                        · skip
                          go_simp
                          refine (hPk _).mono ?_
                          rintro e wB ⟨vB, rfl, OB, HBB⟩
                          obtain ⟨AB, cB, hvB, rB⟩ := OB.rd
                          rw [Ek.out] at hvB
                          subst hvB
                          replace r6 := r6.below HBB
                          replace rS := rS.below HBB
                          replace rA := rA.below HBB
                          have Q8 := stp Q4 HBB
                          refine hK.out _ _ trivial (fun _ => ?_)
                          clear hK K
                          change wpAnyH _ _ _ _ _ _ _ ⟨Array.setIfInBounds T53 53 (.slice AB Lk cB), _⟩ _
                          generalize hTT54 : Array.setIfInBounds T53 53 (.slice AB Lk cB) = T54
                          have g6 := set_ne hTT54 (by decide) f6
                          have g55 := set_ne hTT54 (by decide) f55
                          have g45 := set_ne hTT54 (by decide) f45
                          have g49 := set_ne hTT54 (by decide) f49
                          have g53 := set_same hTT54 szT53.out (by decide)
                          have szT54 := hide (set_size hTT54 szT53.out)
                          clear f6 f52 f55 f45 f49 hTT54 szT53
                          have f6 := g6
                          have f55 := g55
                          have f45 := g45
                          have f49 := g49
                          have f53 := g53
                          clear g6 g55 g45 g49 g53
                          refine wpAnyH_ready (rs := [11]) (by kernel_rfl) (by simp) ?_
                          refine AllReadyH.cons (o := _) rfl (fun K hK => ?_) AllReadyH.nil
                          go_simp
                          refine hK.out _ _ trivial (fun _ => ?_)
                          clear hK K
                          change wpAnyH _ _ _ _ _ _ _ ⟨Array.setIfInBounds T54 56 (.slice (some ⟨(World.heap wB).size, 0, none⟩) 4 4), _⟩ _
                          generalize hTT55 : Array.setIfInBounds T54 56 (.slice (some ⟨(World.heap wB).size, 0, none⟩) 4 4) = T55
                          have g6 := set_ne hTT55 (by decide) f6
                          have g56 := set_same hTT55 szT54.out (by decide)
                          have szT55 := hide (set_size hTT55 szT54.out)
                          clear f6 f55 f45 f49 f53 hTT55 szT54
                          have f6 := g6
                          have f56 := g56
                          clear g6 g56
                          refine wpAnyH_ready (rs := [12]) (by kernel_rfl) (by simp) ?_
                          refine AllReadyH.cons (o := _) rfl (fun K hK => ?_) AllReadyH.nil
                          go_simp
                          refine (Concat_four A6 AA AB AS c6 cA cB cS n6 L8 Lk ky.size _ (indexB l k) (put n8) (put ky.size) (bl ky) wB rfl r6 rA rB rS E6.out E8.out Ek.out (bl_length ky) HSUM.out).mono ?_
                          rintro e wC ⟨vC, rfl, OC, HBC⟩
                          have QC := stp Q8 HBC
                          obtain ⟨AC, cC, hvC, -⟩ := OC.rd
                          generalize (indexB l k ++ (put n8 ++ (put ky.size ++ bl ky))).length = nC at hvC
                          subst hvC
                          have uC := (QC.block (g0 + 1) hlt6).trans u6
                          have y7 := blk_cell uC 0
                          have y8 := blk_frozen uC 0
                          rw [← H6h.out] at OC
                          have q1 : w10.heap.size ≤ (World.heap wB).size := Q8.size
                          have R1 := fin_round kp j10 u5 u6 O5 OC QC q1 hDW s10g
                          refine hK.out _ _ trivial (fun _ => ?_)
                          clear hK K
                          change wpAnyH _ _ _ _ _ _ _ ⟨Array.setIfInBounds T55 57 (.slice AC nC cC), _⟩ _
                          generalize hTT56 : Array.setIfInBounds T55 57 (.slice AC nC cC) = T56
                          have g6 := set_ne hTT56 (by decide) f6
                          have g57 := set_same hTT56 szT55.out (by decide)
                          have szT56 := hide (set_size hTT56 szT55.out)
                          clear f6 f56 hTT56 szT55
                          have f6 := g6
                          have f57 := g57
                          clear g6 g57
                          refine wpAnyH_ready (rs := [13]) (by kernel_rfl) (by simp) ?_
                          refine AllReadyH.cons (o := _) rfl (fun K hK => ?_) AllReadyH.nil
                          go_simp
                          refine hK.out _ _ trivial (fun _ => ?_)
                          clear hK K
                          refine wpAnyH_done (by kernel_rfl) ⟨rfl, ?_⟩ _
                          exact R1
                        exact AllReadyH.nil
                      exact AllReadyH.nil
                    refine AllReadyH.cons (o := _) rfl (fun K hK => ?_) ?_
                    · skip
                      go_simp
                      refine (hP8 _).mono ?_
                      rintro e wA ⟨vA, rfl, OA, HBA⟩
                      obtain ⟨AA, cA, hvA, rA⟩ := OA.rd
                      rw [E8.out] at hvA
                      subst hvA
                      replace r6 := r6.below HBA
                      replace rS := rS.below HBA
                      have Q4 := stp Q10 HBA
                      refine hK.out _ _ trivial (fun _ => ?_)
                      clear hK K
                      change wpAnyH _ _ _ _ _ _ _ ⟨Array.setIfInBounds T51 49 (.slice AA L8 cA), _⟩ _
                      generalize hTT57 : Array.setIfInBounds T51 49 (.slice AA L8 cA) = T57
                      have g6 := set_ne hTT57 (by decide) f6
                      have g52 := set_ne hTT57 (by decide) f52
                      have g55 := set_ne hTT57 (by decide) f55
                      have g49 := set_same hTT57 szT51.out (by decide)
                      have szT57 := hide (set_size hTT57 szT51.out)
                      clear f6 f48 f52 f55 hTT57 szT51
                      have f6 := g6
                      have f52 := g52
                      have f55 := g55
                      have f49 := g49
                      clear g6 g52 g55 g49
                      refine wpAnyH_ready (rs := [0, 8]) (by kernel_rfl) (by simp) ?_
                      refine AllReadyH.cons (o := _) rfl (fun K hK => ?_) ?_
                      · have hcY := hc6 _ Q4
                        go_simp
                        refine hK.out _ _ trivial (fun _ => ?_)
                        clear hK K hcY
                        change wpAnyH _ _ _ _ _ _ _ ⟨Array.setIfInBounds T57 45 (.slice A6 n6 c6), _⟩ _
                        generalize hTT58 : Array.setIfInBounds T57 45 (.slice A6 n6 c6) = T58
                        have g6 := set_ne hTT58 (by decide) f6
                        have g52 := set_ne hTT58 (by decide) f52
                        have g55 := set_ne hTT58 (by decide) f55
                        have g49 := set_ne hTT58 (by decide) f49
                        have g45 := set_same hTT58 szT57.out (by decide)
                        have szT58 := hide (set_size hTT58 szT57.out)
                        clear f6 f52 f55 f49 hTT58 szT57
                        have f6 := g6
                        have f52 := g52
                        have f55 := g55
                        have f49 := g49
                        have f45 := g45
                        clear g6 g52 g55 g49 g45
                        refine wpAnyH_ready (rs := [8]) (by kernel_rfl) (by simp) ?_
                        refine AllReadyH.cons (o := _) rfl (fun K hK => ?_) ?_
                        · skip
                          go_simp
                          refine (hPk _).mono ?_
                          rintro e wB ⟨vB, rfl, OB, HBB⟩
                          obtain ⟨AB, cB, hvB, rB⟩ := OB.rd
                          rw [Ek.out] at hvB
                          subst hvB
                          replace r6 := r6.below HBB
                          replace rS := rS.below HBB
                          replace rA := rA.below HBB
                          have Q8 := stp Q4 HBB
                          refine hK.out _ _ trivial (fun _ => ?_)
                          clear hK K
                          change wpAnyH _ _ _ _ _ _ _ ⟨Array.setIfInBounds T58 53 (.slice AB Lk cB), _⟩ _
                          generalize hTT59 : Array.setIfInBounds T58 53 (.slice AB Lk cB) = T59
                          have g6 := set_ne hTT59 (by decide) f6
                          have g55 := set_ne hTT59 (by decide) f55
                          have g49 := set_ne hTT59 (by decide) f49
                          have g45 := set_ne hTT59 (by decide) f45
                          have g53 := set_same hTT59 szT58.out (by decide)
                          have szT59 := hide (set_size hTT59 szT58.out)
                          clear f6 f52 f55 f49 f45 hTT59 szT58
                          have f6 := g6
                          have f55 := g55
                          have f49 := g49
                          have f45 := g45
                          have f53 := g53
                          clear g6 g55 g49 g45 g53
                          refine wpAnyH_ready (rs := [11]) (by kernel_rfl) (by simp) ?_
                          refine AllReadyH.cons (o := _) rfl (fun K hK => ?_) AllReadyH.nil
                          go_simp
                          refine hK.out _ _ trivial (fun _ => ?_)
                          clear hK K
                          change wpAnyH _ _ _ _ _ _ _ ⟨Array.setIfInBounds T59 56 (.slice (some ⟨(World.heap wB).size, 0, none⟩) 4 4), _⟩ _
                          generalize hTT60 : Array.setIfInBounds T59 56 (.slice (some ⟨(World.heap wB).size, 0, none⟩) 4 4) = T60
                          have g6 := set_ne hTT60 (by decide) f6
                          have g56 := set_same hTT60 szT59.out (by decide)
                          have szT60 := hide (set_size hTT60 szT59.out)
                          clear f6 f55 f49 f45 f53 hTT60 szT59
                          have f6 := g6
                          have f56 := g56
                          clear g6 g56
                          refine wpAnyH_ready (rs := [12]) (by kernel_rfl) (by simp) ?_
                          refine AllReadyH.cons (o := _) rfl (fun K hK => ?_) AllReadyH.nil
                          go_simp
                          refine (Concat_four A6 AA AB AS c6 cA cB cS n6 L8 Lk ky.size _ (indexB l k) (put n8) (put ky.size) (bl ky) wB rfl r6 rA rB rS E6.out E8.out Ek.out (bl_length ky) HSUM.out).mono ?_
                          rintro e wC ⟨vC, rfl, OC, HBC⟩
                          have QC := stp Q8 HBC
                          obtain ⟨AC, cC, hvC, -⟩ := OC.rd
                          generalize (indexB l k ++ (put n8 ++ (put ky.size ++ bl ky))).length = nC at hvC
                          subst hvC
                          have uC := (QC.block (g0 + 1) hlt6).trans u6
                          have y7 := blk_cell uC 0
                          have y8 := blk_frozen uC 0
                          rw [← H6h.out] at OC
                          have q1 : w10.heap.size ≤ (World.heap wB).size := Q8.size
                          have R1 := fin_round kp j10 u5 u6 O5 OC QC q1 hDW s10g
                          refine hK.out _ _ trivial (fun _ => ?_)
                          clear hK K
                          change wpAnyH _ _ _ _ _ _ _ ⟨Array.setIfInBounds T60 57 (.slice AC nC cC), _⟩ _
                          generalize hTT61 : Array.setIfInBounds T60 57 (.slice AC nC cC) = T61
                          have g6 := set_ne hTT61 (by decide) f6
                          have g57 := set_same hTT61 szT60.out (by decide)
                          have szT61 := hide (set_size hTT61 szT60.out)
                          clear f6 f56 hTT61 szT60
                          have f6 := g6
                          have f57 := g57
                          clear g6 g57
                          refine wpAnyH_ready (rs := [13]) (by kernel_rfl) (by simp) ?_
                          refine AllReadyH.cons (o := _) rfl (fun K hK => ?_) AllReadyH.nil
                          go_simp
                          refine hK.out _ _ trivial (fun _ => ?_)
                          clear hK K
                          refine wpAnyH_done (by kernel_rfl) ⟨rfl, ?_⟩ _
                          exact R1
                        exact AllReadyH.nil
                      refine AllReadyH.cons (o := _) rfl (fun K hK => ?_) ?_
                      · skip
                        go_simp
                        refine (hPk _).mono ?_
                        rintro e wB ⟨vB, rfl, OB, HBB⟩
                        obtain ⟨AB, cB, hvB, rB⟩ := OB.rd
                        rw [Ek.out] at hvB
                        subst hvB
                        replace r6 := r6.below HBB
                        replace rS := rS.below HBB
                        replace rA := rA.below HBB
                        have Q8 := stp Q4 HBB
                        refine hK.out _ _ trivial (fun _ => ?_)
                        clear hK K
                        change wpAnyH _ _ _ _ _ _ _ ⟨Array.setIfInBounds T57 53 (.slice AB Lk cB), _⟩ _
                        generalize hTT62 : Array.setIfInBounds T57 53 (.slice AB Lk cB) = T62
                        have g6 := set_ne hTT62 (by decide) f6
                        have g55 := set_ne hTT62 (by decide) f55
                        have g49 := set_ne hTT62 (by decide) f49
                        have g53 := set_same hTT62 szT57.out (by decide)
                        have szT62 := hide (set_size hTT62 szT57.out)
                        clear f6 f52 f55 f49 hTT62 szT57
                        have f6 := g6
                        have f55 := g55
                        have f49 := g49
                        have f53 := g53
                        clear g6 g55 g49 g53
                        refine wpAnyH_ready (rs := [0]) (by kernel_rfl) (by simp) ?_
                        refine AllReadyH.cons (o := _) rfl (fun K hK => ?_) ?_
                        · have hcY := hc6 _ Q8
                          go_simp
                          refine hK.out _ _ trivial (fun _ => ?_)
                          clear hK K hcY
                          change wpAnyH _ _ _ _ _ _ _ ⟨Array.setIfInBounds T62 45 (.slice A6 n6 c6), _⟩ _
                          generalize hTT63 : Array.setIfInBounds T62 45 (.slice A6 n6 c6) = T63
                          have g6 := set_ne hTT63 (by decide) f6
                          have g55 := set_ne hTT63 (by decide) f55
                          have g49 := set_ne hTT63 (by decide) f49
                          have g53 := set_ne hTT63 (by decide) f53
                          have g45 := set_same hTT63 szT62.out (by decide)
                          have szT63 := hide (set_size hTT63 szT62.out)
                          clear f6 f55 f49 f53 hTT63 szT62
                          have f6 := g6
                          have f55 := g55
                          have f49 := g49
                          have f53 := g53
                          have f45 := g45
                          clear g6 g55 g49 g53 g45
                          refine wpAnyH_ready (rs := [11]) (by kernel_rfl) (by simp) ?_
                          refine AllReadyH.cons (o := _) rfl (fun K hK => ?_) AllReadyH.nil
                          go_simp
                          refine hK.out _ _ trivial (fun _ => ?_)
                          clear hK K
                          change wpAnyH _ _ _ _ _ _ _ ⟨Array.setIfInBounds T63 56 (.slice (some ⟨(World.heap wB).size, 0, none⟩) 4 4), _⟩ _
                          generalize hTT64 : Array.setIfInBounds T63 56 (.slice (some ⟨(World.heap wB).size, 0, none⟩) 4 4) = T64
                          have g6 := set_ne hTT64 (by decide) f6
                          have g56 := set_same hTT64 szT63.out (by decide)
                          have szT64 := hide (set_size hTT64 szT63.out)
                          clear f6 f55 f49 f53 f45 hTT64 szT63
                          have f6 := g6
                          have f56 := g56
                          clear g6 g56
                          refine wpAnyH_ready (rs := [12]) (by kernel_rfl) (by simp) ?_
                          refine AllReadyH.cons (o := _) rfl (fun K hK => ?_) AllReadyH.nil
                          go_simp
                          refine (Concat_four A6 AA AB AS c6 cA cB cS n6 L8 Lk ky.size _ (indexB l k) (put n8) (put ky.size) (bl ky) wB rfl r6 rA rB rS E6.out E8.out Ek.out (bl_length ky) HSUM.out).mono ?_
                          rintro e wC ⟨vC, rfl, OC, HBC⟩
                          have QC := stp Q8 HBC
                          obtain ⟨AC, cC, hvC, -⟩ := OC.rd
                          generalize (indexB l k ++ (put n8 ++ (put ky.size ++ bl ky))).length = nC at hvC
                          subst hvC
                          have uC := (QC.block (g0 + 1) hlt6).trans u6
                          have y7 := blk_cell uC 0
                          have y8 := blk_frozen uC 0
                          rw [← H6h.out] at OC
                          have q1 : w10.heap.size ≤ (World.heap wB).size := Q8.size
                          have R1 := fin_round kp j10 u5 u6 O5 OC QC q1 hDW s10g
                          refine hK.out _ _ trivial (fun _ => ?_)
                          clear hK K
                          change wpAnyH _ _ _ _ _ _ _ ⟨Array.setIfInBounds T64 57 (.slice AC nC cC), _⟩ _
                          generalize hTT65 : Array.setIfInBounds T64 57 (.slice AC nC cC) = T65
                          have g6 := set_ne hTT65 (by decide) f6
                          have g57 := set_same hTT65 szT64.out (by decide)
                          have szT65 := hide (set_size hTT65 szT64.out)
                          clear f6 f56 hTT65 szT64
                          have f6 := g6
                          have f57 := g57
                          clear g6 g57
                          refine wpAnyH_ready (rs := [13]) (by kernel_rfl) (by simp) ?_
                          refine AllReadyH.cons (o := _) rfl (fun K hK => ?_) AllReadyH.nil
                          go_simp
                          refine hK.out _ _ trivial (fun _ => ?_)
                          clear hK K
                          refine wpAnyH_done (by kernel_rfl) ⟨rfl, ?_⟩ _
                          exact R1
                        exact AllReadyH.nil
                      exact AllReadyH.nil
                    exact AllReadyH.nil
                  exact AllReadyH.nil
  case done =>
    intro W hI hszW hDW
    obtain ⟨j1, v5, v6, j2, j3, j4, j5, j6⟩ := hI
    have BW : Below w.heap.size w W := HB1.trans (j1.mono (by omega))
    have hNP : nparts n = nparts l.length := by rw [HN.out]
    rw [hNP] at j4 j5
    obtain ⟨A5, c5, hv5, r5⟩ := j4.rd
    obtain ⟨A6, c6, hv6, r6⟩ := j5.rd
    have o1 := outT_le l hT
    have b1 : (bodyT l).length = (blocksB l (nparts l.length)).length := rfl
    obtain ⟨n5, hm5⟩ : ∃ n5, (blocksB l (nparts l.length)).length = n5 := ⟨_, rfl⟩
    obtain ⟨n6, hm6⟩ : ∃ n6, (indexB l (nparts l.length)).length = n6 := ⟨_, rfl⟩
    rw [hm5] at hv5
    rw [hm6] at hv6
    subst hv5
    subst hv6
    have s5 : W.cell? ⟨g0, 0, none⟩ = some (.slice A5 n5 c5) := blk_cell j2 0
    have s6 : W.cell? ⟨g0 + 1, 0, none⟩ = some (.slice A6 n6 c6) := blk_cell j3 0
    have l5 : g0 < W.heap.size := blk_lt j2
    have l6 : g0 + 1 < W.heap.size := blk_lt j3
    have hK := fun X (h : Below W.heap.size W X) => keys_any (some ad) c n l X HN.out (hr.below (BW.trans (h.mono BW.size))) hn6
    have hKs : ∀ s ∈ keysE l n, s.size ≤ 140737488355328 := by
      have : ∀ k, k ≤ n → ∀ s ∈ keysE l k, s.size ≤ 96 := by
        intro k
        induction k with
        | zero => intro _ s hs; cases hs
        | succ k ih =>
          intro hk s hs
          have hm : (keyAt l k).size ≤ 96 := (ordE_may l t3 k (by rw [HN.out]; omega)).1.2.1
          rw [keysE] at hs
          split at hs
          · rcases List.mem_append.1 hs with h | h
            · exact ih (by omega) s h
            · rw [List.mem_singleton] at h; subst h; exact hm
          · exact ih (by omega) s hs
      exact fun s hs => Nat.le_trans (this n (Nat.le_refl _) s hs) (by decide)
    obtain ⟨f1, f2, f3, f4, f5⟩ := fil_ok l hT
    rw [HN.out] at f1
    have fK : Bl.makeK 10 (keysE l n).length = filK l := by rw [filK, HN.out]
    have fX : Bl.makeX 10 (keysE l n) = filX l := by rw [filX, HN.out]
    have fE : Bl.makeE 10 (keysE l n).length = 0 := by
      have h0 := f1.2.2
      rw [Bl.makeE, if_neg (by decide), if_neg (by omega)]
    have hM := fun A' c' X (h : Bl.RdS X A' c' (keysE l n)) => Bl.Make_any A' c' (keysE l n) 10 hKs X h
    rw [fK, fX, fE] at hM
    have fE2 : Bl.encE (filK l) (filX l).length = 0 := by rw [Bl.encE, if_pos f5]
    have hEn := fun A' c' X (h : RdB X A' c' (filX l)) => Bl.Encode_any (filK l) A' c' (filX l) X h
    rw [fE2] at hEn
    unfold Bl.fil at hM hEn
    obtain ⟨K, hK0⟩ : ∃ K, filK l = K := ⟨_, rfl⟩
    obtain ⟨kn, hkn⟩ : ∃ kn, (keysE l n).length = kn := ⟨_, rfl⟩
    obtain ⟨fn, hfn⟩ : ∃ fn, (filX l).length = fn := ⟨_, rfl⟩
    rw [hkn] at hM
    rw [hfn] at hM hEn
    rw [hK0] at hM hEn
    obtain ⟨n7, hm7⟩ : ∃ n7, (Bl.encF (filK l) (filX l)).length = n7 := ⟨_, rfl⟩
    have hm7' : (Bl.encF K (filX l)).length = n7 := by rw [← hK0]; exact hm7
    have HK0 := hide hK0
    have HM7 := hide hm7'
    have HM5 := hide hm5
    have HM6 := hide hm6
    have HFN := hide hfn
    have HKN := hide hkn
    clear hm5 hm6 hm7 hm7' hfn hkn hK0 fE fE2 fK fX f1 f2 f3 f4 f5 hKs hOr j2 j3 q0 q1
    gi_wp2_with (first
      | (refine ⟨trivial, ?_⟩; gi_at_call 32; refine (callsIn_wide.2 (hK _ (Below.refl _ _))).mono ?_; rintro e w3 ⟨v3, rfl, O3, HB3⟩; obtain ⟨A3, c3, hv3, r3⟩ := O3.rd; rw [HKN.out] at hv3; subst hv3)
      | (refine ⟨trivial, ?_⟩; gi_at_call 31; refine (callsIn_wide.2 (hM A3 c3 _ r3)).mono ?_; rintro e w4 ⟨A4, c4, rfl, O4, HB4⟩; have r4 := (O4.rdl).below (below_alloc w4 (.cells #[.int .i64 K, .slice A4 fn c4] 32)); obtain ⟨b0, b1, b2, b3⟩ := (Bx.new w4 K (.slice A4 fn c4) 32).read)
      | (refine ⟨trivial, ?_⟩; gi_at_call 33; refine (callsIn_wide.2 (hEn A4 c4 _ r4)).mono ?_; rintro e w6 ⟨v7, rfl, O7, HB6⟩; obtain ⟨A7, c7, hv7, r7⟩ := O7.rd; rw [HM7.out] at hv7; subst hv7))
    have Q6 : Below W.heap.size W w6 := stp (stp (stp HB3 HB4) (below_alloc w4 _)) HB6
    have hSk : ∀ Y, Below w6.heap.size w6 Y → Below w6.heap.size w6 Y ∧ Y.cell? ⟨g0, 0, none⟩ = some (.slice A5 n5 c5) ∧ Y.cell? ⟨g0 + 1, 0, none⟩ = some (.slice A6 n6 c6) := fun Y h => ⟨h, ((stp Q6 h).cell l5).trans s5, ((stp Q6 h).cell l6).trans s6⟩
    have hS0 := hSk _ (Below.refl _ _).drew
    obtain ⟨h9, hh9⟩ : ∃ h9, w6.drew = h9 := ⟨_, rfl⟩
    have Qd : Below w6.heap.size w6 h9 := by rw [← hh9]; exact (Below.refl _ _).drew
    have hFr := fun X (h : Below w6.heap.size w6 X) => framed_any 2 A6 c6 n6 (indexB l (nparts l.length)) X HM6.out (r6.below (stp Q6 h)) (by decide) (by decide)
    obtain ⟨nF, hnF⟩ : ∃ nF, (putFX 2 (indexB l (nparts l.length))).length = nF := ⟨_, rfl⟩
    have oF : (outT l).length = n5 + nF := by rw [outT, List.length_append, hnF, ← HM5.out]; rfl
    have HNF := hide hnF
    have HOF := hide oF
    have HO1 := hide o1
    clear hnF oF hh9 o1
    refine wpIn_wide.2 ?_
    go_region_held3 (fun Y => Below w6.heap.size w6 Y ∧ Y.cell? ⟨g0, 0, none⟩ = some (.slice A5 n5 c5) ∧ Y.cell? ⟨g0 + 1, 0, none⟩ = some (.slice A6 n6 c6)) (first | exact hS0 | exact hSk _ Q8 | exact hSk _ (Q8.alloc Q8.size _) | exact hSk _ Q9 | assumption) (first
      | (go_at_call 34; (refine (hFr _ (Below.refl _ _).drew).mono ?_); rintro e w8 ⟨v8, rfl, O8, HB8⟩; obtain ⟨A8, c8, hv8, r8⟩ := O8.rd; rw [HNF.out] at hv8; subst hv8; have Q8 : Below w6.heap.size w6 w8 := ((Below.refl _ w6).drew).trans HB8)
      | (go_at_call 29; (refine (Concat_two A5 A8 c5 c8 n5 nF _ (blocksB l (nparts l.length)) (putFX 2 (indexB l (nparts l.length))) w8 rfl (r5.below (stp Q6 Q8)) r8 HM5.out HNF.out (by have h1 := HM5.out; have h2 := HNF.out; have h3 := HOF.out; have h4 := HO1.out; omega)).mono ?_); rintro e w9 ⟨v9, rfl, O9, HB9⟩; obtain ⟨A9, c9, hv9, -⟩ := O9.rd; rw [show (blocksB l (nparts l.length) ++ putFX 2 (indexB l (nparts l.length))).length = n5 + nF by rw [← HOF.out]; rfl] at hv9; subst hv9; have Q9 : Below w6.heap.size w6 w9 := stp Q8 HB9))
    obtain ⟨n9, hn9⟩ : ∃ n9, n5 + nF = n9 := ⟨_, rfl⟩
    rw [hn9] at O9 ⊢
    have HN9 : Hid ((outT l).length = n9) := hide (by rw [HOF.out, hn9])
    have QW : Below W.heap.size W w9 := stp Q6 Q9
    obtain ⟨lim5, lim9⟩ : n5 < 4294967296 ∧ n9 < 4294967296 := by
      have h1 := HO1.out
      have h2 := HN9.out
      have h3 := HOF.out
      omega
    have hcv := conv_mark w9
    have ra := rd_mark w9
    have Ba : Below w9.heap.size w9 (mkW w9) := below_alloc w9 _
    have s5a : (mkW w9).cell? ⟨g0, 0, none⟩ = some (.slice A5 n5 c5) := ((stp QW Ba).cell l5).trans s5
    obtain ⟨wm, hwm⟩ : ∃ z, mkW w9 = z := ⟨_, rfl⟩
    rw [hwm] at hcv ra Ba s5a
    clear hwm
    have nlim : n < 4294967296 := by omega
    have hmk2 : (markT ++ fourN n5).length ≤ 1000000 := by show 8 ≤ 1000000; decide
    have hmk3 : (markT ++ fourN n5 ++ fourN n9).length ≤ 1000000 := by show 12 ≤ 1000000; decide
    have h4a := four_first ⟨w9.heap.size, 0, none⟩ markT n5 wm ra rfl lim5
    have h4b := fun v X (O : OwB X wm.heap.size v (markT ++ fourN n5)) (B : Below wm.heap.size wm X) => four_any v _ wm.heap.size n9 wm X O lim9 hmk2 B B.size
    have h4c := fun v X (O : OwB X wm.heap.size v (markT ++ fourN n5 ++ fourN n9)) (B : Below wm.heap.size wm X) => four_any v _ wm.heap.size n wm X O nlim hmk3 B B.size
    have hFg := fun X (h : RdB X A7 c7 (Bl.encF K (filX l))) => framed_any 3 A7 c7 n7 (Bl.encF K (filX l)) X HM7.out h (by decide) (by decide)
    have hGd : ∀ A c X, RdB X A c (markT ++ fourN n5 ++ fourN n9 ++ fourN n) → Calls Try.prog 36 #[.slice A 16 c] X fun e w' => ∃ v, e = .returned v ∧ OwB w' X.heap.size v (guarded (markT ++ fourN n5 ++ fourN n9 ++ fourN n)) ∧ Below X.heap.size X w' := fun A c X h => Guard_any A c _ X h (by show 16 + 4 ≤ 140737488355328; decide)
    have r9 := OwB.rdl O9
    obtain ⟨nG, hnG⟩ : ∃ nG, (putFX 3 (Bl.encF K (filX l))).length = nG := ⟨_, rfl⟩
    have HNG := hide hnG
    have htot : (outT l).length + (putFX 3 (Bl.encF K (filX l))).length + (guarded (markT ++ fourN n5 ++ fourN n9 ++ fourN n)).length ≤ 140737488355328 := by
      have h := (tabB_le l hT).2
      rw [tabB, List.length_append, List.length_append, HK0.out] at h
      have h1 : (guarded (endT l)).length = 20 := rfl
      show _ + _ + 20 ≤ _
      omega
    have HTOT := hide htot
    have hfin : outT l ++ (putFX 3 (Bl.encF K (filX l)) ++ guarded (markT ++ fourN n5 ++ fourN n9 ++ fourN n)) = tabB l := by
      rw [tabB, HK0.out, endT, ← HM5.out, ← HN9.out, ← HN.out]; exact (List.append_assoc _ _ _).symm
    have HFIN := hide hfin
    have HDW := hide hDW
    have lD := (Array.getElem?_eq_some_iff.1 hDW).1
    clear hnG hmk2 hmk3 htot hfin hDW
    gi_wp2_with (first
      | (refine ⟨trivial, ?_⟩; gi_at_call 35; (with_reducible refine (callsIn_wide.2 h4a).mono ?_); rintro e w11 ⟨v11, rfl, O11, B11⟩)
      | (refine ⟨trivial, ?_⟩; gi_at_call 35; (with_reducible refine (callsIn_wide.2 (h4b _ _ O11 B11)).mono ?_); rintro e w12 ⟨v12, rfl, O12, B12⟩)
      | (refine ⟨trivial, ?_⟩; gi_at_call 35; (with_reducible refine (callsIn_wide.2 (h4c _ _ O12 B12)).mono ?_); rintro e w13 ⟨v13, rfl, O13, B13⟩; obtain ⟨A13, c13, hv13, r13⟩ := O13.rd; replace hv13 : v13 = .slice A13 16 c13 := hv13; subst hv13; have B13' := stp Ba B13; have Q13 : Below w6.heap.size w6 w13 := stp Q9 B13')
      | (refine ⟨trivial, ?_⟩; gi_at_call 34; (with_reducible refine (callsIn_wide.2 (hFg _ (r7.below Q13))).mono ?_); rintro e w14 ⟨v14, rfl, O14, B14⟩; obtain ⟨A14, c14, hv14, r14⟩ := O14.rd; rw [HNG.out] at hv14; subst hv14; have r13b := r13.below B14)
      | (refine ⟨trivial, ?_⟩; gi_at_call 36; (with_reducible refine (callsIn_wide.2 (hGd _ _ _ r13b)).mono ?_); rintro e w15 ⟨v15, rfl, O15, B15⟩; obtain ⟨A15, c15, hv15, r15⟩ := O15.rd; replace hv15 : v15 = .slice A15 20 c15 := hv15; subst hv15; have Q15 : Below w9.heap.size w9 w15 := stp (stp B13' B14) B15)
      | (refine ⟨trivial, ?_⟩; gi_at_call 29; (refine (callsIn_wide.2 (Concat_three A9 A14 A15 c9 c14 c15 n9 nG 20 _ (outT l) (putFX 3 (Bl.encF K (filX l))) (guarded (markT ++ fourN n5 ++ fourN n9 ++ fourN n)) w15 rfl (r9.below Q15) (r14.below B15) r15 HN9.out HNG.out rfl HTOT.out)).mono ?_); rintro e w16 ⟨v16, rfl, O16, B16⟩))
    have Q16 : Below W.heap.size W w16 := stp QW (stp Q15 B16)
    have hD16 := (Q16.block _ lD).trans HDW.out
    have z15 : W.heap.size ≤ w15.heap.size := Nat.le_trans QW.size Q15.size
    refine ⟨by simp, .inl ⟨_, _, rfl, run_takeDeferred hD16, ?_⟩⟩
    have hD3 := (Array.getElem?_eq_some_iff.1 hD16).1
    rw [HFIN.out] at O16
    refine leaves_nil (.tuple #[v16, .int .i64 0]) ?_ ⟨v16, rfl, own_move (O16.lower (Nat.le_trans BW.size z15)) (fun j hj => World.putObj_heap_other (by have := own_base O16 j hj; omega)), (BW.trans (Q16.mono BW.size)).trans (Bl.below_put _ _ _ (by omega) hD3)⟩
    simp [results, Try.results11, go_sem]
  case stop => exact fun _ _ _ h => h.elim
end Go.Proofs.Ytefcepjffeiaoaa
end

section
/- Table: Build of any versions. -/
namespace Go.Proofs.Ytefcepjffeiaoaa
open Go.RowKit Go.Shelf Go.Proofs.YtefcepjffeiaoaaW.PrintWords
set_option linter.unusedVariables false
attribute [local go_sem] Oper.semAt_some

set_option maxRecDepth 100000 in
set_option maxHeartbeats 1600000 in
theorem Build_any (A : Option Addr) (c n : Nat) (l : List Ent) (w : World) (hn : l.length = n) (hr : RdE w A c l) (hl : n ≤ 140737488351232) :
    Calls Try.prog 11 #[.slice A n c] w fun e w' => ∃ v, e = .returned (.tuple #[v, .int .i64 (tabE l)]) ∧ OwB w' w.heap.size v (tabX l) ∧ Below w.heap.size w w' := by
  by_cases hT : tabE l = 0
  · have e : tabX l = tabB l := by rw [tabX, if_pos hT]
    rw [hT, e]
    exact Build_ok A c n l w hn hr hT
  · have e : tabX l = [] := by rw [tabX, if_neg hT]
    rw [e]
    have hOr := Ordered_any A c n l w hn hr (by omega)
    have E : tabE l = if n < 1 ∨ 4096 < n then 3 else ordE l := by rw [tabE, hn]
    by_cases h1 : n < 1 ∨ 4096 < n
    · rw [if_pos h1] at E
      rw [E]
      have h2 : (n : Int) < 1 ∨ (1 ≤ (n : Int) ∧ 4096 < (n : Int)) := by omega
      clear E hT e h1
      rcases h2 with h2 | ⟨h2, h3⟩
      · refine (callsIn_wide (n := 9)).1 ?_
        refine callsIn_of_wp_marks Try.func11 rfl trivial ?_ rfl
        simp only [Try.ntmps11, List.size_toArray, List.length_cons, List.length_nil, Nat.reduceAdd, Nat.reduceSub, Array.replicate_succ, Array.replicate_zero, List.push_toArray, List.append_toArray, List.nil_append, List.cons_append]
        gi_wp2
        refine leaves_nil (.tuple #[.slice none 0 0, .int .i64 3]) ?_ ⟨_, rfl, OwB.zero _ _, Below.refl _ _⟩
        simp [results, Try.results11, go_sem]
      · have h4 : ¬ (n : Int) < 1 := by omega
        refine (callsIn_wide (n := 9)).1 ?_
        refine callsIn_of_wp_marks Try.func11 rfl trivial ?_ rfl
        simp only [Try.ntmps11, List.size_toArray, List.length_cons, List.length_nil, Nat.reduceAdd, Nat.reduceSub, Array.replicate_succ, Array.replicate_zero, List.push_toArray, List.append_toArray, List.nil_append, List.cons_append]
        gi_wp2
        refine leaves_nil (.tuple #[.slice none 0 0, .int .i64 3]) ?_ ⟨_, rfl, OwB.zero _ _, Below.refl _ _⟩
        simp [results, Try.results11, go_sem]
    · rw [if_neg h1] at E
      rw [E] at hT ⊢
      have h2 : ¬ (n : Int) < 1 := by omega
      have h3 : ¬ 4096 < (n : Int) := by omega
      clear E e h1
      generalize ordE l = E at *
      refine (callsIn_wide (n := 9)).1 ?_
      refine callsIn_of_wp_marks Try.func11 rfl trivial ?_ rfl
      simp only [Try.ntmps11, List.size_toArray, List.length_cons, List.length_nil, Nat.reduceAdd, Nat.reduceSub, Array.replicate_succ, Array.replicate_zero, List.push_toArray, List.append_toArray, List.nil_append, List.cons_append]
      gi_wp2_with (first | (refine ⟨trivial, ?_⟩; gi_at_call 26; refine (callsIn_wide.2 hOr).mono ?_; rintro e w1 ⟨rfl, HB1⟩))
      refine leaves_nil (.tuple #[.slice none 0 0, .int .i64 E]) ?_ ⟨_, rfl, OwB.zero _ _, HB1⟩
      simp [results, Try.results11, go_sem]
end Go.Proofs.Ytefcepjffeiaoaa
end

section
/- Table: the lengths that an index tells, walked. -/
namespace Go.Proofs.Ytefcepjffeiaoaa
open Go.RowKit Go.Proofs.YtefcepjffeiaoaaW.PrintWords
set_option linter.unusedVariables false

section
variable {ops : Array Oper} {o : Oper} {a : Act} {Q : Exit → Act → World → Prop} {K : Act → World → Prop}
theorem step_int {w0 W : World} (base : Nat) (hw : Region.wanted o (yielded ops a.tmps) = true) (s x : Operand)
    (ho : o.op = .call { callee := .builtin .append, args := #[s, x], argTypes := #[111, 111] })
    (v : Value) (xs : List Int) (c : Int) (hs : a.eval s = v) (hx : a.eval x = .slice (some ⟨W.heap.size, 0, none⟩) 1 1)
    (HO : Ow kInt 3 W base v xs) (HB : Below base w0 W) (hbase : base ≤ W.heap.size) (hl : (xs.length + 1) * 8 ≤ 140737488355328)
    (h : ∀ v1 w1, Ow kInt 3 w1 base v1 (xs ++ [c]) → Below base w0 w1 → W.grownBy w1 v.ownBlock → K (a.put o.dst v1) w1) :
    if Region.wanted o (yielded ops a.tmps) = true then Oper.wp Try.prog o a (W.alloc (.cells #[.int .i64 c] 3)) K Q else K (a.put o.dst undef) (W.alloc (.cells #[.int .i64 c] 3)) :=
  Kd.R_append_step (P := Try.prog) kInt base hw s x 111 3 _ 8 ho Try.underlying111 info_int rfl (by decide) (by decide) v xs c [.int .i64 c] (fun _ => True) (fun _ => False) hs hx rfl (fun _ h => h.elim) (fun _ _ => trivial) HO HB hbase hl (fun v1 w1 h1 h2 h3 _ => h v1 w1 h1 h2 h3)
end
def lensI (r : Option (List Nat)) : List Int := (r.getD []).map fun n : Nat => (n : Int)
theorem len_arith (m k q nn : Nat) (hk : k ≤ nn) (hn : nn ≤ 65536) (hq : m = nn - k) : wrap64 ((nn : Int) - (k : Int)) = (m : Int) ∧ IntKind.i64.wrap ((nn : Int) - (k : Int)) = (m : Int) ∧ IntKind.u64.wrap (m : Int) = (m : Int) ∧ wrap64 (q : Int) = wrap64 (q : Int) := by
  refine ⟨?_, ?_, ?_, rfl⟩
  · unfold wrap64; omega
  · rw [IntKind.wrap_i64]; omega
  · rw [IntKind.wrap_u64]; omega
theorem len_small (a b : Nat) (ha : a ≤ 16777216) (hb : b ≤ 16777216) : wrap64 (a : Int) = (a : Int) ∧ IntKind.i64.wrap (a : Int) = (a : Int) ∧ wrap64 (b : Int) = (b : Int) ∧ IntKind.i64.wrap (b : Int) = (b : Int) ∧ wrap64 ((a : Int) + (b : Int)) = ((a + b : Nat) : Int) ∧ IntKind.i64.wrap ((a : Int) + (b : Int)) = ((a + b : Nat) : Int) := by
  refine ⟨?_, ?_, ?_, ?_, ?_, ?_⟩
  · unfold wrap64; omega
  · rw [IntKind.wrap_i64]; omega
  · unfold wrap64; omega
  · rw [IntKind.wrap_i64]; omega
  · unfold wrap64; omega
  · rw [IntKind.wrap_i64]; omega
def lenV : Value → Nat
  | .slice _ m _ => m
  | _ => 0
theorem len_q (p m n : Nat) (h : p + m ≤ n) (hn : n ≤ 65536) : (p + 1) * 8 ≤ 140737488355328 := by omega
theorem len_m (m K m3 : Nat) (h : m - K = m3) (h1 : 1 ≤ K) (h2 : K ≤ m) : m3 < m ∧ 0 < m := by omega
theorem len_r1 (p m m3 J n : Nat) (h : p + m ≤ n) (h2 : m3 < m ∧ 0 < m) : p + 1 + (m3 - J) ≤ n := by omega
theorem len_r2 (m m3 J f : Nat) (h : m ≤ f + 1) (h2 : m3 < m ∧ 0 < m) : m3 - J ≤ f := by omega
theorem len_r3 (m m3 J : Nat) (h2 : m3 < m ∧ 0 < m) : m3 - J < m := by omega
theorem lenJ (K N m : Nat) (h : K ≤ m) (h2 : ¬ m - K < N) : K + N ≤ m := by omega
theorem len_sum (a b : Nat) (ha : a ≤ 16777216) (hb : b ≤ 16777216) : ∃ J : Nat, a + b = J ∧ wrap64 ((a : Int) + (b : Int)) = (J : Int) ∧ IntKind.i64.wrap ((a : Int) + (b : Int)) = (J : Int) :=
  ⟨_, rfl, (len_small a b ha hb).2.2.2.2.1, (len_small a b ha hb).2.2.2.2.2⟩
set_option maxRecDepth 100000 in
set_option maxHeartbeats 3200000 in
theorem lengths_any (A : Option Addr) (c n : Nat) (b : List UInt8) (w : World) (hn : b.length = n) (hx : RdB w A c b) (hl : n ≤ 65536) :
    Calls Try.prog 84 #[.slice A n c] w fun e w' => ∃ v, e = .returned (.tuple #[v, .bool (lenL n b).isSome]) ∧ Ow kInt 3 w' w.heap.size v (lensI (lenL n b)) ∧ Below w.heap.size w w' := by
  obtain ⟨res, hres⟩ : ∃ res, lenL n b = res := ⟨_, rfl⟩
  rw [hres]
  have HR := hide hres
  have HN := hide hn
  clear hres hn
  go_enter Try.func84, Try.ntmps84
  go_wp2
  go_loopw [0, 2] (fun bv ov wr => ∃ (f : Nat) (bb : List UInt8) (pre : List Nat) (A2 : Option Addr) (c2 m : Nat), bb.length = m ∧ pre.length + m ≤ n ∧ m ≤ f ∧ res = (lenL f bb).map (pre ++ ·) ∧ bv = .slice A2 m c2 ∧ RdB w A2 c2 bb ∧ Ow kInt 3 wr w.heap.size ov (pre.map fun n : Nat => (n : Int)) ∧ Below w.heap.size w wr) (fun bv ov _ => lenV bv)
  case atStart => exact ⟨n, b, [], A, c, n, HN.out, by simp, Nat.le_refl _, by rw [← HR.out]; simp, rfl, hx, Ow.zero _ _ _ _, Below.refl _ _⟩
  case round =>
    obtain ⟨f, bb, pre, A2, c2, m, hm, hpm, hmf, hres, rfl, hr2w, HO, HB⟩ := hrel
    have hr2 := hr2w.below HB
    obtain ⟨Ao, co, hvo, -⟩ := HO.rd
    subst hvo
    obtain ⟨pl, hpl⟩ : ∃ pl, (pre.map fun n : Nat => (n : Int)).length = pl := ⟨_, rfl⟩
    have hpl' : pre.length = pl := by rw [← hpl, List.length_map]
    rw [hpl] at HO ⊢
    by_cases h0 : m = 0
    · subst h0
      obtain rfl : bb = [] := List.eq_nil_of_length_eq_zero hm
      have hend : res = some pre := by rw [hres]; cases f <;> simp [lenL]
      have HE := hide hend
      clear hres hend hmf hpm
      go_wp2
      go_ret2
      refine ⟨_, by rw [HE.out]; rfl, ?_, HB⟩
      rw [HE.out]; exact HO
    · have hm0 : 0 < (m : Int) := by omega
      obtain ⟨f', rfl⟩ : ∃ f', f = f' + 1 := ⟨f - 1, by omega⟩
      have hne : bb ≠ [] := fun h => h0 (by rw [← hm, h]; rfl)
      have hG := fun W (h : RdB W A2 c2 bb) => Get_any A2 c2 bb W h
      rw [hm] at hG
      rw [lenL, if_neg hne] at hres
      by_cases h1 : getErr bb ≠ 0 ∨ 16777216 < gN bb
      · rw [if_pos h1] at hres
        have hend : res = none := hres
        have HE := hide hend
        clear hres hend
        have h2 : getErr bb ≠ 0 ∨ (getErr bb = 0 ∧ 16777216 < (gN bb : Int)) := by omega
        rcases h2 with h2 | ⟨h2, h3⟩
        · have h2i : ¬ (getErr bb : Int) = 0 := by omega
          generalize (getErr bb) = E at *
          generalize (gN bb) = N at *
          generalize (gK bb) = K at *
          clear h1 h2
          go_wp2_with (first | (go_at_call 102; (with_reducible refine (hG _ hr2).mono ?_); rintro e w1 ⟨rfl, HB1⟩))
          go_ret2
          exact ⟨_, by rw [HE.out]; rfl, by rw [HE.out]; exact Ow.zero _ _ _ _, HB.trans (HB1.mono HB.size)⟩
        · rw [h2] at hG
          generalize (gN bb) = N at *
          generalize (gK bb) = K at *
          clear h1 h2
          go_wp2_with (first | (go_at_call 102; (with_reducible refine (hG _ hr2).mono ?_); rintro e w1 ⟨rfl, HB1⟩))
          go_ret2
          exact ⟨_, by rw [HE.out]; rfl, by rw [HE.out]; exact Ow.zero _ _ _ _, HB.trans (HB1.mono HB.size)⟩
      · rw [if_neg h1] at hres
        obtain ⟨h2, h3⟩ : getErr bb = 0 ∧ ¬ 16777216 < gN bb := by omega
        rw [h2] at hG
        obtain ⟨k1, k2, -⟩ := gK_le bb h2
        rw [hm] at k1
        have h3i : ¬ 16777216 < (gN bb : Int) := by omega
        obtain ⟨N, hN⟩ : ∃ N, gN bb = N := ⟨_, rfl⟩
        obtain ⟨K, hK⟩ : ∃ K, gK bb = K := ⟨_, rfl⟩
        rw [hN] at hG h3 h3i hres
        rw [hK] at hG k1 k2 hres
        have hr3 := hr2.drop K (by rw [hm]; exact k1)
        have hr3w := hr2w.drop K (by rw [hm]; exact k1)
        have hsl := fun W => slice_lo 23 5 Try.underlying23 (i := _) rfl rfl A2 m c2 K k1 W
        obtain ⟨A3, hA3⟩ : ∃ A3, cutA A2 c2 K = A3 := ⟨_, rfl⟩
        obtain ⟨c3, hc3⟩ : ∃ c3, c2 - K = c3 := ⟨_, rfl⟩
        obtain ⟨m3, hm3⟩ : ∃ m3, m - K = m3 := ⟨_, rfl⟩
        obtain ⟨b3, hb3⟩ : ∃ b3, bb.drop K = b3 := ⟨_, rfl⟩
        have hl3 : b3.length = m3 := by rw [← hb3, List.length_drop, hm, hm3]
        rw [hA3, hc3, hb3] at hr3 hr3w
        rw [hA3, hc3, hm3] at hsl
        rw [hb3] at hres
        have hG3 := fun W (h : RdB W A3 c3 b3) => Get_any A3 c3 b3 W h
        rw [hl3] at hG3
        clear hA3 hc3 hN hK h1 h2
        by_cases h4 : getErr b3 ≠ 0 ∨ (b3.drop (gK b3)).length < gN b3
        · rw [if_pos h4] at hres
          have hend : res = none := hres
          have HE := hide hend
          clear hres hend
          by_cases h5 : getErr b3 = 0
          · obtain ⟨q1, q2, -⟩ := gK_le b3 h5
            rw [hl3] at q1
            rw [h5] at hG3
            rw [List.length_drop, hl3] at h4
            obtain ⟨N3, hN3⟩ : ∃ N3, gN b3 = N3 := ⟨_, rfl⟩
            obtain ⟨K3, hK3⟩ : ∃ K3, gK b3 = K3 := ⟨_, rfl⟩
            rw [hN3, hK3] at hG3 h4
            rw [hK3] at q1 q2
            obtain ⟨m4, hm4⟩ : ∃ m4, m4 = m3 - K3 := ⟨_, rfl⟩
            obtain ⟨a1, a2, a3, -⟩ := len_arith m4 K3 0 m3 q1 (by omega) hm4
            have h6 : (m4 : Int) < (N3 : Int) := by omega
            clear h4 h5 hm4 hN3 hK3
            go_wp2_with (first | (go_at_call 102; (with_reducible refine (hG _ hr2).mono ?_); rintro e w1 ⟨rfl, HB1⟩; have hr4 := hr3.below HB1) | (go_at_call 102; (with_reducible refine (hG3 _ hr4).mono ?_); rintro e w2 ⟨rfl, HB2⟩))
            go_ret2
            exact ⟨_, by rw [HE.out]; rfl, by rw [HE.out]; exact Ow.zero _ _ _ _, (HB.trans (HB1.mono HB.size)).trans (HB2.mono (Nat.le_trans HB.size HB1.size))⟩
          · have h5i : ¬ (getErr b3 : Int) = 0 := by omega
            generalize (getErr b3) = E3 at *
            generalize (gN b3) = N3 at *
            generalize (gK b3) = K3 at *
            clear h4 h5
            go_wp2_with (first | (go_at_call 102; (with_reducible refine (hG _ hr2).mono ?_); rintro e w1 ⟨rfl, HB1⟩; have hr4 := hr3.below HB1) | (go_at_call 102; (with_reducible refine (hG3 _ hr4).mono ?_); rintro e w2 ⟨rfl, HB2⟩))
            go_ret2
            exact ⟨_, by rw [HE.out]; rfl, by rw [HE.out]; exact Ow.zero _ _ _ _, (HB.trans (HB1.mono HB.size)).trans (HB2.mono (Nat.le_trans HB.size HB1.size))⟩
        · rw [if_neg h4] at hres
          have h5 : getErr b3 = 0 := by omega
          obtain ⟨q1, q2, -⟩ := gK_le b3 h5
          rw [hl3] at q1
          rw [h5] at hG3
          rw [List.length_drop, hl3] at h4
          obtain ⟨N3, hN3⟩ : ∃ N3, gN b3 = N3 := ⟨_, rfl⟩
          obtain ⟨K3, hK3⟩ : ∃ K3, gK b3 = K3 := ⟨_, rfl⟩
          simp only [hN3, hK3] at hG3 h4 hres
          rw [hK3] at q1 q2
          have h4' : ¬ m3 - K3 < N3 := by omega
          obtain ⟨m4, hm4⟩ : ∃ m4, m4 = m3 - K3 := ⟨_, rfl⟩
          obtain ⟨a1, a2, a3, -⟩ := len_arith m4 K3 0 m3 q1 (by omega) hm4
          have h6 : ¬ (m4 : Int) < (N3 : Int) := by omega
          have hNs : N3 ≤ 65536 := by omega
          have hNs2 : N ≤ 16777216 := by omega
          have e1 := (len_small N N hNs2 hNs2).1
          have e2 := (len_small N N hNs2 hNs2).2.1
          have e3 := (len_small N3 N3 (Nat.le_trans hNs (by decide)) (Nat.le_trans hNs (by decide))).1
          have e4 := (len_small N3 N3 (Nat.le_trans hNs (by decide)) (Nat.le_trans hNs (by decide))).2.1
          have hK3s : K3 ≤ 16777216 := by omega
          have hN3s : N3 ≤ 16777216 := Nat.le_trans hNs (by decide)
          obtain ⟨J, hJ, e5, e6⟩ := len_sum K3 N3 hK3s hN3s
          rw [hJ] at hres
          have hJm : J ≤ m3 := by rw [← hJ]; exact lenJ K3 N3 m3 q1 h4'
          have hr5 := hr3.drop J (by rw [hl3]; exact hJm)
          have hsl3 := fun W => slice_lo 23 5 Try.underlying23 (i := _) rfl rfl A3 m3 c3 J hJm W
          have hr5w := hr3w.drop J (by rw [hl3]; exact hJm)
          have HJM : Hid (1 ≤ K ∧ K ≤ m ∧ m3 < m ∧ 0 < m) := hide ⟨k2, k1, len_m m K m3 hm3 k2 k1⟩
          have hl5 : (b3.drop J).length = m3 - J := by rw [List.length_drop, hl3]
          have hlq : ((pre.map fun n : Nat => (n : Int)).length + 1) * 8 ≤ 140737488355328 := by rw [hpl]; exact len_q pl m n (by rw [← hpl']; exact hpm) hl
          have HLQ := hide hlq
          have HRS := hide hres
          have HPM := hide hpm
          have HMF := hide hmf
          clear h4 h5 hm4 hN3 hK3 hlq hres hpm hmf hJ
          have Z1 := hide e1
          have Z2 := hide e2
          have Z3 := hide e3
          have Z4 := hide e4
          have Z5 := hide e5
          have Z6 := hide e6
          have Z7 := hide hsl3
          clear e1 e2 e3 e4 e5 e6 hsl3 h4' hNs hNs2 hK3s hN3s hl5 hJm
          go_wp2_with (first | (go_at_call 102; (with_reducible refine (hG _ hr2).mono ?_); rintro e w1 ⟨rfl, HB1⟩; have hr4 := hr3.below HB1) | (go_at_call 102; (with_reducible refine (hG3 _ hr4).mono ?_); rintro e w2 ⟨rfl, HB2⟩))
          have e2 := Z2.out
          have e4 := Z4.out
          have e6 := Z6.out
          have hsl3 := Z7.out
          have HB3 := (HB.trans (HB1.mono HB.size)).trans (HB2.mono (Nat.le_trans HB.size HB1.size))
          have HO3 := (HO.below HB1).below HB2
          go_region_law (first | ((refine step_int (w0 := w) (W := w2.drew) w.heap.size (by rfl) (.tmp 43) (.tmp 46) rfl _ (pre.map fun n : Nat => (n : Int)) (N : Int) (by rfl) (by rfl) (HO3.below (Below.refl _ _).drew) HB3.drew HB3.size HLQ.out ?_); intro v6 w6 HO6 HB6 hg6; have hB6 : Below w2.heap.size w2 w2 := Below.refl _ _))
          obtain ⟨A6, c6, hv6, -⟩ := HO6.rd
          generalize (pre.map (fun n : Nat => (n : Int)) ++ [(N : Int)]).length = n6 at hv6
          subst hv6
          simp only [List.getElem_toArray, List.getElem_cons_zero, List.getElem_cons_succ, Act.put, List.setIfInBounds_toArray, List.set_cons_zero, List.set_cons_succ]
          go_wp2
          go_roundw
          case rel =>
            refine ⟨f', b3.drop J, pre ++ [N], _, _, m3 - J, (by rw [List.length_drop, hl3]), ?_, ?_, ?_, rfl, hr5w, ?_, HB6⟩
            · have h1 := HPM.out
              have h2 := HJM.out
              rw [List.length_append, List.length_singleton]
              exact len_r1 pre.length m m3 J n h1 h2.2.2
            · exact len_r2 m m3 J f' HMF.out HJM.out.2.2
            · rw [HRS.out, Option.map_map]
              congr 1
              funext x
              simp
            · rw [List.map_append]; exact HO6
          case measure =>
            have h2 := HJM.out
            simp only [lenV]
            exact len_r3 m m3 J h2.2.2
end Go.Proofs.Ytefcepjffeiaoaa
end

section
/- Table: told, walked. -/
namespace Go.Proofs.Ytefcepjffeiaoaa
open Go.RowKit Go.Proofs.YtefcepjffeiaoaaW.PrintWords
set_option linter.unusedVariables false

section
variable {ops : Array Oper} {o : Oper} {a : Act} {Q : Exit → Act → World → Prop} {K : Act → World → Prop}
theorem step_ents {w0 W : World} (base : Nat) (hw : Region.wanted o (yielded ops a.tmps) = true) (s x : Operand)
    (ho : o.op = .call { callee := .builtin .append, args := #[s, x], argTypes := #[22, 22] })
    (v : Value) (xs ys : List Ent) (A : Option Addr) (c : Nat) (hs : a.eval s = v) (hx : a.eval x = .slice A ys.length c)
    (HO : OwE W base v xs) (HR : RdE W A c ys) (HB : Below base w0 W) (hbase : base ≤ W.heap.size) (hl : (xs.length + ys.length) * 48 ≤ 140737488355328)
    (h : ∀ v1 w1, OwE w1 base v1 (xs ++ ys) → Below base w0 w1 → W.grownBy w1 v.ownBlock → K (a.put o.dst v1) w1) :
    if Region.wanted o (yielded ops a.tmps) = true then Oper.wp Try.prog o a W K Q else K (a.put o.dst undef) W :=
  Kd.R_append_rows_step kEnt (Rr := kEnt.K W) base hw s x 22 43 _ 48 ho Try.underlying22 info_ent rfl (by decide) (by decide) v xs ys A ys.length c (fun _ => True) (fun _ => False) hs hx
    HO HR.2 (fun _ _ h => kEnt_KM h) (fun _ h => h.elim) (fun _ _ => trivial) HB hbase hl (fun v1 w1 h1 h2 h3 _ => h v1 w1 h1 h2 h3)
end
theorem fgX_le (b : List UInt8) : (fgX b).length ≤ 65536 := by
  rw [fgX]
  split
  · next h =>
    have hg : ¬ 65536 < gN b := by
      intro hh
      rw [fgE] at h
      by_cases h1 : getErr b ≠ 0
      · rw [if_pos h1] at h; omega
      · rw [if_neg h1, if_pos hh] at h; cases h
    rw [List.length_drop, List.length_take]; omega
  · simp
theorem unL_le (b : List UInt8) : (unL b).length ≤ 64 := by
  by_cases h : unE b = 0
  · exact (chkE_ok _ (un_ok b h).1).2.1
  · rw [unL, if_neg h]; simp
theorem tld1 (a m n : Nat) (h : a ≤ 4096) (h2 : m ≤ 64) : (a + m) * 48 ≤ 140737488355328 := by omega
theorem tld3 (N m a : Nat) (h : N ≤ m) (h2 : m ≤ a) (h3 : a ≤ 140737488355328) : N ≤ 140737488355328 := by omega
theorem tld4 (i n : Nat) (h : i < n) (h2 : n ≤ 9223372036854775807) : wrap64 ((i : Int) + 1) = ((i + 1 : Nat) : Int) := by unfold wrap64; omega
theorem tldA (m N al : Nat) (h : m < N ∨ 4096 < al) : (m : Int) < (N : Int) ∨ (¬ (m : Int) < (N : Int) ∧ 4096 < (al : Int)) := by omega
theorem tldB (m N al : Nat) (h : ¬ (m < N ∨ 4096 < al)) : N ≤ m ∧ al ≤ 4096 ∧ ¬ (m : Int) < (N : Int) ∧ ¬ 4096 < (al : Int) := by omega
theorem tld5 (i n : Nat) (h : i < n) (hw : wrap64 ((i : Int) + 1) = ((i + 1 : Nat) : Int)) : n - (intOf (.int .i64 (wrap64 ((i : Int) + 1)))).toNat < n - (intOf (.int .i64 (i : Int))).toNat := by
  rw [hw]
  show n - (i + 1) < n - i
  omega
theorem catP_cons (ns : List Nat) (k : Nat) (hk : k < ns.length) (rest : List UInt8) (acc : List Ent) : catP (ns.drop k) rest acc = if rest.length < ns.getD k 0 ∨ 4096 < acc.length then [] else if unE (rest.take (ns.getD k 0)) ≠ 0 then [] else catP (ns.drop (k + 1)) (rest.drop (ns.getD k 0)) (acc ++ unL (rest.take (ns.getD k 0))) := by
  rw [List.drop_eq_getElem_cons hk, catP, List.getD_eq_getElem?_getD, List.getElem?_eq_getElem hk]
  rfl
theorem catP_end (ns : List Nat) (rest : List UInt8) (acc : List Ent) : catP (ns.drop ns.length) rest acc = acc := by
  rw [List.drop_length, catP]
set_option maxRecDepth 100000 in
set_option maxHeartbeats 3200000 in
theorem told_any10 (A : Option Addr) (c n at_ to_ : Nat) (b : List UInt8) (w : World) (hn : b.length = n) (hx : RdB w A c b) (hl : n ≤ 140737488355328) :
    Calls Try.prog 48 #[.slice A n c, .int .i64 (at_ : Int), .int .i64 (to_ : Int)] w fun e w' => ∃ v, e = .returned v ∧ OwE w' w.heap.size v (toldP b at_ to_) ∧ Below w.heap.size w w' := by
  rw [toldP, hn]
  by_cases h1 : to_ < at_ ∨ n < to_
  · rw [if_pos h1]
    have h2 : (to_ : Int) < (at_ : Int) ∨ (¬ (to_ : Int) < (at_ : Int) ∧ (n : Int) < (to_ : Int)) := by omega
    clear h1 hn hl
    rcases h2 with h2 | ⟨h2, h3⟩
    · go_enter Try.func48, Try.ntmps48
      go_wp2
      go_ret
      exact ⟨_, rfl, Ow.zero _ _ _ _, Below.refl _ _⟩
    · go_enter Try.func48, Try.ntmps48
      go_wp2
      go_ret
      exact ⟨_, rfl, Ow.zero _ _ _ _, Below.refl _ _⟩
  · rw [if_neg h1]
    obtain ⟨h2, h3⟩ : at_ ≤ to_ ∧ to_ ≤ n := by omega
    have h2i : ¬ (to_ : Int) < (at_ : Int) := by omega
    have h3i : ¬ (n : Int) < (to_ : Int) := by omega
    have hle := hx.le
    have hnc : n ≤ c := by rw [← hn]; exact hle
    have hsub := (hx.take to_ (by rw [hn]; exact h3)).drop at_ (by rw [List.length_take, hn]; omega)
    have hsl := fun W => slice_lohi 23 5 Try.underlying23 (i := _) rfl rfl A n c at_ to_ h2 (Nat.le_trans h3 hnc) W
    have hsh := fun W => slice_hi 23 5 Try.underlying23 (i := _) rfl rfl A n c at_ (Nat.le_trans (Nat.le_trans h2 h3) hnc) W
    have hhead := hx.take at_ (by rw [hn]; omega)
    have hlh : (b.take at_).length = at_ := by rw [List.length_take, hn]; omega
    have hls : ((b.take to_).drop at_).length = to_ - at_ := by rw [List.length_drop, List.length_take, hn]; omega
    obtain ⟨A2, hA2⟩ : ∃ A2, cutA A c at_ = A2 := ⟨_, rfl⟩
    obtain ⟨c2, hc2⟩ : ∃ c2, c - at_ = c2 := ⟨_, rfl⟩
    obtain ⟨m2, hm2⟩ : ∃ m2, to_ - at_ = m2 := ⟨_, rfl⟩
    rw [hA2, hc2] at hsub hsl
    rw [hm2] at hsl hls
    have hm2l : m2 ≤ 140737488355328 := by omega
    have hatl : at_ ≤ 140737488355328 := by omega
    generalize (b.take to_).drop at_ = sub at *
    generalize b.take at_ = head at *
    have hG := fun W (h : RdB W A2 c2 sub) => Fr.FGet_any A2 c2 sub W h (by rw [hls]; exact hm2l)
    rw [hls] at hG
    unfold fil at hG
    have hXl := fgX_le sub
    clear hA2 hc2 hm2 hm2l h1 h2 h3 hnc hle hl hls hn
    by_cases h4 : fgE sub = 0
    · rw [if_neg (fun h => h h4)]
      rw [h4] at hG
      obtain ⟨K, hK⟩ : ∃ K, fgK sub = K := ⟨_, rfl⟩
      obtain ⟨X, hX⟩ : ∃ X, fgX sub = X := ⟨_, rfl⟩
      obtain ⟨S, hS⟩ : ∃ S, fgS sub = S := ⟨_, rfl⟩
      rw [hX] at hXl ⊢
      rw [hK, hX, hS] at hG
      obtain ⟨nx, hnx⟩ : ∃ nx, X.length = nx := ⟨_, rfl⟩
      rw [hnx] at hXl hG ⊢
      have hL := fun A3 c3 W (h : RdB W A3 c3 X) => lengths_any A3 c3 nx X W hnx h hXl
      clear hK hX hS h4 hnx
      cases hr : lenL nx X with
      | none =>
        rw [hr] at hL
        clear hr
        go_enter Try.func48, Try.ntmps48
        go_wp2_with (first | (go_at_call 83; (with_reducible refine (hG _ hsub).mono ?_); rintro e w1 ⟨A3, c3, rfl, HO1, HB1⟩; have r1 := (HO1.rdl).below (below_alloc w1 (.cells #[.int .i64 K, .slice A3 nx c3] 106)); obtain ⟨b0, b1, b2, b3⟩ := (Bx.new w1 K (.slice A3 nx c3) 106).read) | (go_at_call 84; (with_reducible refine (hL A3 c3 _ r1).mono ?_); rintro e w2 ⟨v2, rfl, HO2, HB2⟩))
        go_ret
        exact ⟨_, rfl, Ow.zero _ _ _ _, HB1.trans ((stp (below_alloc w1 _) HB2).mono HB1.size)⟩
      | some ns =>
        rw [hr] at hL
        clear hr
        simp only
        obtain ⟨res, hres⟩ : ∃ res, catP ns head [] = res := ⟨_, rfl⟩
        rw [hres]
        have HR := hide hres
        have hlI : lensI (some ns) = ns.map fun n : Nat => (n : Int) := rfl
        rw [hlI] at hL
        obtain ⟨nn, hnn⟩ : ∃ nn, ns.length = nn := ⟨_, rfl⟩
        have hnn2 : (ns.map fun n : Nat => (n : Int)).length = nn := by rw [List.length_map, hnn]
        have HNN := hide hnn
        have HLH := hide hlh
        clear hres hlI hnn hlh
        go_enter Try.func48, Try.ntmps48
        go_wp2_with (first | (go_at_call 83; (with_reducible refine (hG _ hsub).mono ?_); rintro e w1 ⟨A3, c3, rfl, HO1, HB1⟩; have r1 := (HO1.rdl).below (below_alloc w1 (.cells #[.int .i64 K, .slice A3 nx c3] 106)); obtain ⟨b0, b1, b2, b3⟩ := (Bx.new w1 K (.slice A3 nx c3) 106).read) | (go_at_call 84; (with_reducible refine (hL A3 c3 _ r1).mono ?_); rintro e w2 ⟨v2, rfl, HO2, HB2⟩; obtain ⟨A4, c4, hv4, -⟩ := HO2.rd; rw [hnn2] at hv4; subst hv4))
        have HB3 : Below w.heap.size w w2 := HB1.trans ((stp (below_alloc w1 _) HB2).mono HB1.size)
        have hs1 := HB1.size
        have O4 : Ow kInt 3 w2 w.heap.size (.slice A4 nn c4) (ns.map fun n : Nat => (n : Int)) := HO2.lower (Nat.le_trans hs1 (below_alloc w1 _).size)
        clear HO1 HO2 r1 b0 b1 b2 b3 HB1 HB2 hG hL hs1 hsub
        go_loopw [12, 13, 51] (fun lv rv iv wr => ∃ (i : Nat) (acc : List Ent) (rs : List UInt8) (A2 : Option Addr) (c2 m : Nat), i ≤ nn ∧ iv = .int .i64 (i : Int) ∧ rv = .slice A2 m c2 ∧ rs.length = m ∧ RdB w A2 c2 rs ∧ OwE wr w.heap.size lv acc ∧ res = catP (ns.drop i) rs acc ∧ m ≤ at_ ∧ Ow kInt 3 wr w.heap.size (.slice A4 nn c4) (ns.map fun n : Nat => (n : Int)) ∧ Below w.heap.size w wr) (fun lv rv iv _ => nn - (intOf iv).toNat)
        case atStart => exact ⟨0, [], head, A, c, at_, Nat.zero_le _, rfl, rfl, HLH.out, hhead, Ow.zero _ _ _ _, by rw [← HR.out]; rfl, Nat.le_refl _, O4, HB3⟩
        case round =>
          obtain ⟨i, acc, rs, A5, c5, m, hi, rfl, rfl, hm, hrs, HO, hres, hma, HS, HB⟩ := hrel
          obtain ⟨Ao, co, hvo, -⟩ := HO.rd
          subst hvo
          obtain ⟨al, hal⟩ : ∃ al, acc.length = al := ⟨_, rfl⟩
          rw [hal] at HO ⊢
          by_cases hlt : i < nn
          · have hlti : (i : Int) < (nn : Int) := Int.ofNat_lt.2 hlt
            obtain ⟨ad, rfl, x0⟩ := Rd.int_at HS.rdl i (by rw [hnn2]; exact hlt)
            obtain ⟨N, hN⟩ : ∃ N, ns.getD i 0 = N := ⟨_, rfl⟩
            have hNi : (ns.map fun n : Nat => (n : Int)).getD i 0 = (N : Int) := by
              rw [← hN, List.getD_eq_getElem?_getD, List.getD_eq_getElem?_getD, List.getElem?_map]
              cases ns[i]? <;> rfl
            rw [hNi] at x0
            have hc := catP_cons ns i (by rw [HNN.out]; exact hlt) rs acc
            rw [hN, hm, hal] at hc
            rw [hc] at hres
            clear hc hN hNi
            by_cases h5 : m < N ∨ 4096 < al
            · rw [if_pos h5] at hres
              subst hres
              have h6 := tldA m N al h5
              clear h5 hsl hsh
              rcases h6 with h6 | ⟨h6, h7⟩
              · go_wp2
                go_ret
                exact ⟨_, rfl, Ow.zero _ _ _ _, HB⟩
              · go_wp2
                go_ret
                exact ⟨_, rfl, Ow.zero _ _ _ _, HB⟩
            · rw [if_neg h5] at hres
              obtain ⟨h6, h7, h6i, h7i⟩ := tldB m N al h5
              have hrc := hrs.le
              rw [hm] at hrc
              have hsh2 := fun W => slice_hi 23 5 Try.underlying23 (i := _) rfl rfl A5 m c5 N (Nat.le_trans h6 hrc) W
              have hpart := (hrs.take N (by rw [hm]; exact h6))
              have hpl : (rs.take N).length = N := by rw [List.length_take, hm]; exact Nat.min_eq_left h6
              have hD := fun W (h : RdB W A5 c5 (rs.take N)) (hl : N ≤ 140737488355328) => Decode_any A5 c5 N (rs.take N) W hpl h hl
              have hul := unL_le (rs.take N)
              have hpw := hpart.below HB
              clear h5 hsl hsh hpl
              have hNl : N ≤ 140737488355328 := tld3 N m at_ h6 hma hatl
              by_cases h8 : unE (rs.take N) = 0
              · rw [if_neg (fun h => h h8)] at hres
                have hD0 := hD _ hpw hNl
                rw [h8] at hD0
                obtain ⟨ys, hys⟩ : ∃ ys, unL (rs.take N) = ys := ⟨_, rfl⟩
                rw [hys] at hD0 hul hres
                obtain ⟨yl, hyl⟩ : ∃ yl, ys.length = yl := ⟨_, rfl⟩
                have hrs2 := hrs.drop N (by rw [hm]; exact h6)
                have hsl2 := fun W => slice_lo 23 5 Try.underlying23 (i := _) rfl rfl A5 m c5 N h6 W
                have hl2 : (rs.drop N).length = m - N := by rw [List.length_drop, hm]
                have hfit : (acc.length + ys.length) * 48 ≤ 140737488355328 := by rw [hal]; exact tld1 al ys.length 0 h7 hul
                have HW := hide (tld4 i nn hlt (by have := HS.rdl.max; rwa [hnn2] at this))
                have HFIT := hide hfit
                have HAL := hide hal
                have HYL := hide hyl
                have HRES := hide hres
                have HMA := hide hma
                clear hD h8 hys hul hfit hal hyl hres hma hNl hpart hpw h6 h7 hatl
                go_wp2_with (first | (go_at_call 85; (with_reducible refine hD0.mono ?_); rintro e w5 ⟨v5, rfl, HO5, HB5⟩; obtain ⟨A6, c6, hv5, hr6⟩ := HO5.rd; rw [HYL.out] at hv5; subst hv5))
                have HB6 := HB.trans (HB5.mono HB.size)
                have HO6 := HO.below HB5
                have HS6 := HS.below HB5
                go_region_law (first | ((refine step_ents (w0 := w) (W := w5.drew) w.heap.size (by rfl) (.tmp 73) (.tmp 74) rfl _ acc ys A6 c6 (by rfl) (by rw [HYL.out]; rfl) (HO6.below (Below.refl _ _).drew) (hr6.below (Below.refl _ _).drew) HB6.drew HB6.size HFIT.out ?_); intro v7 w7 HO7 HB7 hg7; have HS7 := (HS6.below (Below.refl _ w5).drew).over (HO6.below (Below.refl _ w5).drew) (one_ne (by decide)) hg7))
                obtain ⟨A7, c7, hv7, -⟩ := HO7.rd
                generalize (acc ++ ys).length = n7 at hv7
                subst hv7
                simp only [List.getElem_toArray, List.getElem_cons_zero, List.getElem_cons_succ, Act.put, List.setIfInBounds_toArray, List.set_cons_zero, List.set_cons_succ]
                go_wp2
                go_roundw
                case rel => exact ⟨i + 1, acc ++ ys, rs.drop N, _, _, m - N, hlt, by rw [HW.out], rfl, hl2, hrs2, HO7, HRES.out, Nat.le_trans (Nat.sub_le _ _) HMA.out, HS7, HB7⟩
                case measure => exact tld5 i nn hlt HW.out
              · rw [if_pos h8] at hres
                subst hres
                have hD0 := hD _ hpw hNl
                generalize unE (rs.take N) = E at *
                generalize unL (rs.take N) = ys at *
                clear hD hpart hpw h6 h7 hNl hul hatl
                go_wp2_with (first | (go_at_call 85; (with_reducible refine hD0.mono ?_); rintro e w5 ⟨v5, rfl, HO5, HB5⟩; obtain ⟨A6, c6, hv5, hr6⟩ := HO5.rd; generalize ys.length = yl at hv5; subst hv5))
                go_ret
                exact ⟨_, rfl, Ow.zero _ _ _ _, HB.trans (HB5.mono HB.size)⟩
          · obtain rfl : i = nn := Nat.le_antisymm hi (Nat.not_lt.1 hlt)
            have HEND : Hid (res = acc) := hide (by rw [hres, ← HNN.out]; exact catP_end _ _ _)
            clear hres hsl hsh
            go_wp2
            go_ret
            exact ⟨.slice Ao al co, rfl, by rw [HEND.out]; exact HO, HB⟩
    · rw [if_pos h4]
      have h4i : ¬ fgE sub = 0 := h4
      generalize fgE sub = E at *
      generalize fgK sub = K at *
      generalize fgS sub = S at *
      generalize fgX sub = X at *
      generalize X.length = nx at *
      go_enter Try.func48, Try.ntmps48
      go_wp2_with (first | (go_at_call 83; (with_reducible refine (hG _ hsub).mono ?_); rintro e w1 ⟨A3, c3, rfl, HO1, HB1⟩; obtain ⟨b0, b1, b2, b3⟩ := (Bx.new w1 K (.slice A3 nx c3) 106).read))
      go_ret
      exact ⟨_, rfl, Ow.zero _ _ _ _, HB1.trans ((below_alloc w1 _).mono HB1.size)⟩
end Go.Proofs.Ytefcepjffeiaoaa
end
