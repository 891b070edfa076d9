/- The walk of VarintSigns. -/
import Derived.Test.YtckflapblbiniaaViW6
namespace Go.Proofs.Ytckflapblbiniaa
open Go.RowKit Go.Proofs.YtckflapblbiniaaW.PrintWords
set_option linter.unusedVariables false

theorem zag_zig (n : Int) : zag (zig n) = n := by
  unfold zag zig
  split <;> split <;> omega
theorem zig_lt (n : Int) (h : -9223372036854775808 ≤ n ∧ n ≤ 9223372036854775807) : zig n < 18446744073709551616 := by
  unfold zig
  split <;> omega
theorem zig_inj (n m : Int) : (zig n : Int) = (zig m : Int) ↔ n = m := by
  constructor
  · intro h
    have h' : zig n = zig m := by omega
    rw [← zag_zig n, ← zag_zig m, h']
  · rintro rfl; rfl
theorem zig_mono (n m : Int) (h : (0 ≤ n ∧ 0 ≤ m ∧ n ≤ m) ∨ (n < 0 ∧ m < 0 ∧ m ≤ n)) : (zig n : Int) ≤ (zig m : Int) := by
  unfold zig
  split <;> split <;> omega
theorem i64_of (a : Int) (h : (Lit.int .i64 a).wf = true) : -9223372036854775808 ≤ a ∧ a ≤ 9223372036854775807 := by
  simpa [Lit.wf, IntKind.min, IntKind.max, IntKind.signed, IntKind.bits] using h
theorem u64_of (a : Int) (h : (Lit.int .u64 a).wf = true) : ∃ n : Nat, a = (n : Int) ∧ n < 18446744073709551616 := by
  have hb : 0 ≤ a ∧ a ≤ 18446744073709551615 := by simpa [Lit.wf, IntKind.min, IntKind.max, IntKind.signed, IntKind.bits] using h
  exact ⟨a.toNat, by omega, by omega⟩
set_option maxHeartbeats 400000 in
theorem signs_walk (n m : Int) (w : World) (h0 : (Lit.int .i64 n).wf = true) (h1 : (Lit.int .i64 m).wf = true) :
    Calls Try.prog 7 #[.int .i64 n, .int .i64 m] w fun e w' => e = .returned (.bool true) ∧ Below w.heap.size w w' := by
  have hn := i64_of n h0
  have hm := i64_of m h1
  clear h0 h1
  have Zn := Zig_any n hn
  have Zm := Zig_any m hm
  have Gn := Zag_any (zig n) (zig_lt n hn)
  have Gm := Zag_any (zig m) (zig_lt m hm)
  rw [zag_zig] at Gn Gm
  have hi := zig_inj n m
  have hmo := zig_mono n m
  generalize zig n = x at *
  generalize zig m = y at *
  have HI := hide hi
  have HM := hide hmo
  clear hi hmo
  go_enter Try.func7, Try.ntmps7
  go_wp2_with (first | (go_at_call 9; refine (alive_any _).mono ?_; rintro e w1 ⟨rfl, HB1⟩) | (go_at_call 19; (with_reducible refine (Zn _).mono ?_); rintro e w' ⟨rfl, rfl⟩) | (go_at_call 19; (with_reducible refine (Zm _).mono ?_); rintro e w' ⟨rfl, rfl⟩) | (go_at_call 21; (with_reducible refine (Gn _).mono ?_); rintro e w' ⟨rfl, rfl⟩) | (go_at_call 21; (with_reducible refine (Gm _).mono ?_); rintro e w' ⟨rfl, rfl⟩))
  all_goals (have i1 := HI.out; have i2 := HM.out; clear Zn Zm Gn Gm HI HM)
  all_goals go_ret
  all_goals first
    | exact ⟨rfl, HB1⟩
    | (refine ⟨?_, HB1⟩; simp; omega)
    | (exfalso
       have hE : ((x : Int) == (y : Int)) = (n == m) := by
         rw [Bool.eq_iff_iff, beq_iff_eq, beq_iff_eq]; exact i1
       simp_all)
end Go.Proofs.Ytckflapblbiniaa
