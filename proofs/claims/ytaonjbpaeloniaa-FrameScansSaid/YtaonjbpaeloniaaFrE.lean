/- Frame: the walk of the reference's Put. -/
import Derived.Test.YtaonjbpaeloniaaFrC
import Derived.Test.YtaonjbpaeloniaaSumR
import Derived.Test.YtaonjbpaeloniaaViW2
import Derived.Test.YtaonjbpaeloniaaViW4
import Derived.Test.YtaonjbpaeloniaaSteps
namespace Go.Proofs.Ytaonjbpaeloniaa
open Go.RowKit Go.Proofs.YtaonjbpaeloniaaW.PrintWords
set_option linter.unusedVariables false

set_option maxRecDepth 100000 in
set_option maxHeartbeats 1600000 in
theorem rPut_ok (K : Int) (A : Option Addr) (c : Nat) (d : List UInt8) (w : World) (hx : RdB w A c d) (h0 : 0 ≤ K) (h1 : K ≤ 255) (hd : d.length ≤ 65536) :
    Calls Try.prog 16 #[fil K A d.length c] w fun e w' => ∃ v, e = .returned (.tuple #[v, .int .i64 0]) ∧ OwB w' w.heap.size v (guarded (bodyF K d)) ∧ Below w.heap.size w w' := by
  obtain ⟨n, hn⟩ : ∃ n, d.length = n := ⟨_, rfl⟩
  have hP0 := fun W => rPut_any n (by omega) W
  obtain ⟨p, hp⟩ : ∃ p, put n = p := ⟨_, rfl⟩
  have hpl : p.length ≤ 9 := by rw [← hp, put_length]; exact vsize_le _
  rw [hp] at hP0
  have HBODY : Hid (bodyF K d = (p ++ [UInt8.ofNat K.toNat]) ++ d) := by rw [bodyF, hn, hp]; exact hide (by simp)
  have hbl : (bodyF K d).length + 4 ≤ 140737488355328 := by rw [bodyF_length]; have := vsize_le d.length; omega
  have hGd := fun A c W (h : RdB W A c (bodyF K d)) => rGuard_any A c (bodyF K d) W h hbl
  obtain ⟨m, hm⟩ : ∃ m, (bodyF K d).length = m := ⟨_, rfl⟩
  rw [hm] at hGd
  have HM := hide hm
  have HN := hide hn
  have hdl : (p ++ [UInt8.ofNat K.toNat]).length + d.length ≤ 140737488355328 := by simp; omega
  have hpl1 : p.length + 1 ≤ 140737488355328 := by omega
  have HDL := hide hdl
  have HPL := hide hpl1
  rw [hn] at hd ⊢
  clear hn hp hm hbl hdl hpl1 hpl
  unfold fil
  have hx0 := hx.below (below_alloc w (.cells #[.int .i64 K, .slice A n c] 24))
  have X0 := Bx.new w K (.slice A n c) 24
  have B0 := below_alloc w (.cells #[.int .i64 K, .slice A n c] 24)
  have hw1 : K % 256 = K := by omega
  have hw2 : IntKind.u8.wrap K = K := by rw [IntKind.wrap_u8]; omega
  have hw3 : IntKind.u64.wrap (n : Int) = (n : Int) := by rw [IntKind.wrap_u64]; omega
  have hk0 : ¬ K < 0 := by omega
  have hk1 : ¬ 255 < K := by omega
  have hd1 : ¬ 65536 < (n : Int) := by omega
  obtain ⟨p0, p1, p2, p3⟩ := X0.read
  go_enter Try.func16, Try.ntmps16
  go_wp2
  generalize w.alloc (.cells #[.int .i64 K, .slice A n c] 24) = W0 at *
  have hS0 : Below W0.heap.size W0 W0.drew ∧ W0.drew.cell? ⟨w.heap.size, 0, none⟩ = some (.int .i64 K) ∧ W0.drew.cell? ⟨w.heap.size, 1, none⟩ = some (.slice A n c) := ⟨(Below.refl _ _).drew, p0, p1⟩
  have hSk : ∀ W, Below W0.heap.size W0 W → W.cell? ⟨w.heap.size, 0, none⟩ = some (.int .i64 K) ∧ W.cell? ⟨w.heap.size, 1, none⟩ = some (.slice A n c) := fun W h => ⟨(h.cell (World.block_lt_of_cell? W0 _ p0)).trans p0, (h.cell (World.block_lt_of_cell? W0 _ p1)).trans p1⟩
  go_region_held3 (fun w' => Below W0.heap.size W0 w' ∧ w'.cell? ⟨w.heap.size, 0, none⟩ = some (.int .i64 K) ∧ w'.cell? ⟨w.heap.size, 1, none⟩ = some (.slice A n c)) (first | exact hS0 | assumption | exact ⟨HBt5, hSk _ HBt5⟩ | exact ⟨HBt1, hSk _ HBt1⟩ | (have hh := ‹Below W0.heap.size W0 _ ∧ _ ∧ _›; exact ⟨hh.1.alloc hh.1.size _, hSk _ (hh.1.alloc hh.1.size _)⟩)) (first | (go_at_call 28; have hh := ‹Below W0.heap.size W0 _ ∧ _ ∧ _›; (with_reducible refine (hP0 _).mono ?_); rintro e w1 ⟨v1, rfl, HO1, HB1⟩; have HBt1 := hh.1.trans (HB1.mono hh.1.size); replace HO1 := HO1.lower hh.1.size) | ((first | refine step_row (w0 := W0) (W := w1) W0.heap.size (by rfl) (.tmp 23) (.tmp 27) rfl v1 p [UInt8.ofNat K.toNat] _ 1 rfl rfl HO1 (((oneK W0 K h0 h1).below (Below.refl _ _).drew).below HB1) HBt1 HBt1.size HPL.out ?_ | refine step_row (w0 := W0) (W := w1.alloc (.cells #[.int .u8 K] 5)) W0.heap.size (by rfl) (.tmp 23) (.tmp 27) rfl v1 p [UInt8.ofNat K.toNat] _ 1 rfl rfl (HO1.below (below_alloc _ _)) (oneK w1 K h0 h1) (HBt1.alloc HBt1.size _) (HBt1.alloc HBt1.size _).size HPL.out ?_); intro v5 w5 HO5 HBt5 hg5))
  all_goals (obtain ⟨q0, q1⟩ := hSk _ HBt5; have hx5 := hx0.below HBt5; clear p0 p1)
  all_goals go_wp2_with (first | (at_builtin; refine app_row (w0 := W0) W0.heap.size rfl (.tmp 29) (.tmp 31) rfl v5 (p ++ [UInt8.ofNat K.toNat]) d A c rfl (by rw [HN.out]; rfl) HO5 hx5 HBt5 HBt5.size HDL.out ?_; intro v6 w6 HO6 HB6 hg6 hat6; rw [← HBODY.out] at HO6; obtain ⟨A6, c6, hv6, hr6⟩ := HO6.rd; rw [HM.out] at hv6; subst hv6) | (go_at_call 29; (with_reducible refine (hGd _ _ _ hr6).mono ?_); rintro e w7 ⟨v7, rfl, HO7, HB7⟩; have HBt7 := HB6.trans (HB7.mono HB6.size); replace HO7 := HO7.lower HB6.size))
  all_goals go_ret2
  all_goals exact ⟨_, rfl, HO7.lower B0.size, B0.trans (HBt7.mono B0.size)⟩
set_option maxRecDepth 100000 in
set_option maxHeartbeats 800000 in
theorem rFPut_any (K : Int) (A : Option Addr) (c : Nat) (d : List UInt8) (w : World) (hx : RdB w A c d) :
    Calls Try.prog 16 #[fil K A d.length c] w fun e w' => ∃ v, e = .returned (.tuple #[v, .int .i64 (putFE K d.length)]) ∧ OwB w' w.heap.size v (putFX K d) ∧ Below w.heap.size w w' := by
  by_cases h1 : K < 0 ∨ 255 < K
  · have e1 : putFE K d.length = 22 := by rw [putFE, if_pos h1]
    have e2 : putFX K d = [] := by rw [putFX, if_neg (by rw [e1]; decide)]
    rw [e1, e2]
    obtain ⟨n, hn⟩ : ∃ n, d.length = n := ⟨_, rfl⟩
    rw [hn]
    clear hn e1 e2
    unfold fil
    have X0 := Bx.new w K (.slice A n c) 24
    have B0 := below_alloc w (.cells #[.int .i64 K, .slice A n c] 24)
    obtain ⟨p0, p1, p2, p3⟩ := X0.read
    by_cases h : K < 0
    · go_enter Try.func16, Try.ntmps16
      go_wp2
      go_ret2
      exact ⟨_, rfl, OwB.zero _ _, B0⟩
    · have hk0 : ¬ K < 0 := by omega
      have hk1 : 255 < K := by omega
      go_enter Try.func16, Try.ntmps16
      go_wp2
      go_ret2
      exact ⟨_, rfl, OwB.zero _ _, B0⟩
  · by_cases h2 : 65536 < d.length
    · have e1 : putFE K d.length = 5 := by rw [putFE, if_neg h1, if_pos h2]
      have e2 : putFX K d = [] := by rw [putFX, if_neg (by rw [e1]; decide)]
      rw [e1, e2]
      obtain ⟨n, hn⟩ : ∃ n, d.length = n := ⟨_, rfl⟩
      rw [hn] at h2 ⊢
      clear hn e1 e2
      unfold fil
      have X0 := Bx.new w K (.slice A n c) 24
      have B0 := below_alloc w (.cells #[.int .i64 K, .slice A n c] 24)
      obtain ⟨p0, p1, p2, p3⟩ := X0.read
      have hk0 : ¬ K < 0 := by omega
      have hk1 : ¬ 255 < K := by omega
      have hn1 : 65536 < (n : Int) := by omega
      clear h1 h2
      go_enter Try.func16, Try.ntmps16
      go_wp2
      go_ret2
      exact ⟨_, rfl, OwB.zero _ _, B0⟩
    · have e1 : putFE K d.length = 0 := by rw [putFE, if_neg h1, if_neg h2]
      have e2 : putFX K d = guarded (bodyF K d) := by rw [putFX, if_pos e1]
      rw [e1, e2]
      exact rPut_ok K A c d w hx (by omega) (by omega) (by omega)
end Go.Proofs.Ytaonjbpaeloniaa
