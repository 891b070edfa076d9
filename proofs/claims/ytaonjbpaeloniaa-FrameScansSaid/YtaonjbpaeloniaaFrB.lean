/- Frame: the walk of Put. -/
import Derived.Test.YtaonjbpaeloniaaBoxed
import Derived.Test.YtaonjbpaeloniaaPlain
import Derived.Test.YtaonjbpaeloniaaFrP
import Derived.Test.YtaonjbpaeloniaaViW1
import Derived.Test.YtaonjbpaeloniaaSumB
namespace Go.Proofs.Ytaonjbpaeloniaa
open Go.RowKit Go.Proofs.YtaonjbpaeloniaaW.PrintWords
set_option linter.unusedVariables false

/-- of three, laid out for the call -/
theorem Concat_three (A1 A2 A3 : Option Addr) (c1 c2 c3 n1 n2 n3 n : Nat) (x1 x2 x3 : List UInt8) (W : World) (hn : W.heap.size = n) (h1 : RdB W A1 c1 x1) (h2 : RdB W A2 c2 x2) (h3 : RdB W A3 c3 x3) (l1 : x1.length = n1) (l2 : x2.length = n2) (l3 : x3.length = n3) (ht : x1.length + x2.length + x3.length ≤ 140737488355328) :
    Calls Try.prog 23 #[.slice (some ⟨n, 0, none⟩) 3 3] (W.alloc (.cells #[.slice A1 n1 c1, .slice A2 n2 c2, .slice A3 n3 c3] 22)) fun e w' => ∃ v, e = .returned v ∧ OwB w' W.heap.size v (x1 ++ (x2 ++ x3)) ∧ Below W.heap.size W w' := by
  subst hn
  subst l1
  subst l2
  subst l3
  have hb : Below W.heap.size W (W.alloc (.cells #[.slice A1 x1.length c1, .slice A2 x2.length c2, .slice A3 x3.length c3] 22)) := (Below.refl _ _).alloc (Nat.le_refl _) _
  refine (Concat_any (some ⟨W.heap.size, 0, none⟩) 3 [(A1, c1, x1), (A2, c2, x2), (A3, c3, x3)] _ ⟨rfl, by simp, fun _ => ⟨_, rfl, fun j hj => ?_⟩⟩ ?_ (by simp [total]; omega)).mono ?_
  · rw [add_plain, World.cell?_alloc_mark]
    have : j = 0 ∨ j = 1 ∨ j = 2 := by simp at hj; omega
    rcases this with rfl | rfl | rfl <;> rfl
  · intro s hs
    simp only [List.mem_cons, List.not_mem_nil, or_false] at hs
    rcases hs with rfl | rfl | rfl
    · exact h1.below hb
    · exact h2.below hb
    · exact h3.below hb
  · rintro e w' ⟨v, rfl, HO, HB⟩
    exact ⟨v, rfl, by simpa [joined] using HO.lower (by simp), hb.trans (HB.mono (by simp))⟩
theorem oneK (w : World) (K : Int) (h0 : 0 ≤ K) (h1 : K ≤ 255) : RdB (w.alloc (.cells #[.int .u8 K] 5)) (some ⟨w.heap.size, 0, none⟩) 1 [UInt8.ofNat K.toNat] := by
  have h : OwB (w.alloc (.cells #[.int .u8 K] 5)) w.heap.size (.slice (some ⟨w.heap.size, 0, none⟩) 1 1) [UInt8.ofNat K.toNat] := by
    have h := own_lit_of (enc := eu8) w w.heap.size 5 [UInt8.ofNat K.toNat] (Nat.le_refl _) (by simp)
    have e : (encs eu8 [UInt8.ofNat K.toNat]).toArray = #[Value.int .u8 K] := by
      simp [encs, eu8]
      omega
    rw [e] at h
    exact h
  exact h.rdl
set_option maxRecDepth 100000 in
set_option maxHeartbeats 1600000 in
theorem Put_ok (K : Int) (A : Option Addr) (c : Nat) (d : List UInt8) (w : World) (hx : RdB w A c d) (h0 : 0 ≤ K) (h1 : K ≤ 255) (hd : d.length ≤ 65536) :
    Calls Try.prog 9 #[fil K A d.length c] w fun e w' => ∃ v, e = .returned (.tuple #[v, .int .i64 0]) ∧ OwB w' w.heap.size v (guarded (bodyF K d)) ∧ Below w.heap.size w w' := by
  obtain ⟨n, hn⟩ : ∃ n, d.length = n := ⟨_, rfl⟩
  have hP0 := fun W => Put_any n (by omega) W
  obtain ⟨p, hp⟩ : ∃ p, put n = p := ⟨_, rfl⟩
  have hpl : p.length ≤ 9 := by rw [← hp, put_length]; exact vsize_le _
  rw [hp] at hP0
  have HBODY : Hid (bodyF K d = p ++ ([UInt8.ofNat K.toNat] ++ d)) := by rw [bodyF, hn, hp]; rfl
  have hbl : (bodyF K d).length + 4 ≤ 140737488355328 := by rw [bodyF_length]; have := vsize_le d.length; omega
  have hGd := fun A c W (h : RdB W A c (bodyF K d)) => Guard_any A c (bodyF K d) W h hbl
  obtain ⟨m, hm⟩ : ∃ m, (bodyF K d).length = m := ⟨_, rfl⟩
  rw [hm] at hGd
  have HM := hide hm
  have HN := hide hn
  rw [hn] at hd ⊢
  clear hn hp hm hbl
  obtain ⟨q, hq⟩ : ∃ q, p.length = q := ⟨_, rfl⟩
  have HQ := hide hq
  rw [hq] at hpl
  clear hq
  unfold fil
  have hx0 := hx.below (below_alloc w (.cells #[.int .i64 K, .slice A n c] 29))
  have X0 := Bx.new w K (.slice A n c) 29
  have B0 := below_alloc w (.cells #[.int .i64 K, .slice A n c] 29)
  have hw1 : K % 256 = K := by omega
  have hw2 : IntKind.u8.wrap K = K := by rw [IntKind.wrap_u8]; omega
  have hw3 : IntKind.u64.wrap (n : Int) = (n : Int) := by rw [IntKind.wrap_u64]; omega
  have hd1 : (n : Int) ≤ 65536 := by omega
  obtain ⟨p0, p1, p2, p3⟩ := X0.read
  go_enter Try.func9, Try.ntmps9
  go_wp2
  generalize w.alloc (.cells #[.int .i64 K, .slice A n c] 29) = W0 at *
  have hS0 : Below W0.heap.size W0 W0.drew ∧ W0.drew.cell? ⟨w.heap.size, 0, none⟩ = some (.int .i64 K) ∧ W0.drew.cell? ⟨w.heap.size, 1, none⟩ = some (.slice A n c) := ⟨(Below.refl _ _).drew, p0, p1⟩
  have hSk : ∀ W, Below W0.heap.size W0 W → W.cell? ⟨w.heap.size, 0, none⟩ = some (.int .i64 K) ∧ W.cell? ⟨w.heap.size, 1, none⟩ = some (.slice A n c) := fun W h => ⟨(h.cell (World.block_lt_of_cell? W0 _ p0)).trans p0, (h.cell (World.block_lt_of_cell? W0 _ p1)).trans p1⟩
  go_region_held3 (fun w' => Below W0.heap.size W0 w' ∧ w'.cell? ⟨w.heap.size, 0, none⟩ = some (.int .i64 K) ∧ w'.cell? ⟨w.heap.size, 1, none⟩ = some (.slice A n c)) (first | exact hS0 | assumption | exact ⟨HBt4, hSk _ HBt4⟩ | exact ⟨HBt3, hSk _ HBt3⟩ | exact ⟨HBt1, hSk _ HBt1⟩ | (have hh := ‹Below W0.heap.size W0 _ ∧ _ ∧ _›; exact ⟨hh.1.alloc hh.1.size _, hSk _ (hh.1.alloc hh.1.size _)⟩)) (first | (go_at_call 24; have hh := ‹Below W0.heap.size W0 _ ∧ _ ∧ _›; (with_reducible refine (hP0 _).mono ?_); rintro e w1 ⟨v1, rfl, HO1, HB1⟩; have HBt1 := hh.1.trans (HB1.mono hh.1.size); obtain ⟨A1, c1, hv1, hr1⟩ := HO1.rd; rw [HQ.out] at hv1; subst hv1) | (go_at_call 23; have hh := ‹Below W0.heap.size W0 _ ∧ _ ∧ _›; (first | (with_reducible refine (Concat_three A1 _ A c1 1 c q 1 n _ p [UInt8.ofNat K.toNat] d (w1.alloc (.cells #[.int .u8 K] 5)) (by simp) (hr1.below (below_alloc _ _)) (oneK w1 K h0 h1) (hx0.below (HBt1.alloc HBt1.size _)) HQ.out rfl HN.out (by rw [HQ.out, HN.out]; simp; omega)).mono ?_) | (with_reducible refine (Concat_three A1 _ A c1 1 c q 1 n _ p [UInt8.ofNat K.toNat] d w1 (by simp) hr1 (((oneK W0 K h0 h1).below (Below.refl _ _).drew).below HB1) (hx0.below HBt1) HQ.out rfl HN.out (by rw [HQ.out, HN.out]; simp; omega)).mono ?_)); rintro e w3 ⟨v3, rfl, HO3, HB3⟩; have HBt3 : Below W0.heap.size W0 w3 := (by first | exact (HBt1.alloc HBt1.size _).trans (HB3.mono (HBt1.alloc HBt1.size _).size) | exact HBt1.trans (HB3.mono HBt1.size)); rw [← HBODY.out] at HO3; obtain ⟨A3, c3, hv3, hr3⟩ := HO3.rd; rw [HM.out] at hv3; subst hv3) | (go_at_call 22; (with_reducible refine (hGd _ _ _ hr3).mono ?_); rintro e w4 ⟨v4, rfl, HO4, HB4⟩; have HBt4 := HBt3.trans (HB4.mono HBt3.size); replace HO4 := HO4.lower HBt3.size))
  all_goals go_wp2
  all_goals go_ret2
  all_goals exact ⟨_, rfl, HO4.lower B0.size, B0.trans (HBt4.mono B0.size)⟩
end Go.Proofs.Ytaonjbpaeloniaa
