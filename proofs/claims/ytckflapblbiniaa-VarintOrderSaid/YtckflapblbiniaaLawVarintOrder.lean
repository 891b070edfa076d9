/- The walk of VarintOrder. -/
import Derived.Test.YtckflapblbiniaaViO
namespace Go.Proofs.Ytckflapblbiniaa
open Go.RowKit Go.Proofs.YtckflapblbiniaaW.PrintWords
set_option linter.unusedVariables false

theorem ext_take (x : List UInt8) (n : Nat) : ((strB x).extract 0 n).toList = x.take n := by
  rw [ByteArray.toList_eq, ByteArray.data_extract, Array.toList_extract]
  simp [strB]
set_option maxHeartbeats 800000 in
theorem order_walk (a0 b0 : Int) (w : World) (h0 : (Lit.int .u64 a0).wf = true) (h1 : (Lit.int .u64 b0).wf = true) :
    Calls Try.prog 4 #[.int .u64 a0, .int .u64 b0] w fun e w' => e = .returned (.bool true) ∧ Below w.heap.size w w' := by
  obtain ⟨a, rfl, ha⟩ := u64_of a0 h0
  obtain ⟨b, rfl, hb⟩ := u64_of b0 h1
  clear h0 h1
  have hPa := Put_any a ha
  have hPb := Put_any b hb
  have L1 := put_less a b ha hb
  have L2 : (put a == put b) = ((a : Int) == (b : Int)) := by
    rw [Bool.eq_iff_iff, beq_iff_eq, beq_iff_eq, put_inj a b ha hb]; omega
  have L3 := put_take a b ha hb _ rfl
  rw [← put_length a, ← put_length b] at L3
  obtain ⟨x, hx⟩ : ∃ x, put a = x := ⟨_, rfl⟩
  obtain ⟨y, hy⟩ : ∃ y, put b = y := ⟨_, rfl⟩
  rw [hx] at hPa L1 L2 L3
  rw [hy] at hPb L1 L2 L3
  have HX := hide hx
  have HY := hide hy
  clear hx hy
  have K1 : Op.bytesLess (strB x).toList (strB y).toList = decide (a < b) := by rw [strB_toList, strB_toList]; exact L1
  have K2 : ((strB x).toList == (strB y).toList) = ((a : Int) == (b : Int)) := by rw [strB_toList, strB_toList]; exact L2
  have HL3 := hide L3
  clear L1 L2 L3
  go_enter Try.func4, Try.ntmps4
  go_wp2_with (first | (go_at_call 9; refine (alive_any _).mono ?_; rintro e w1 ⟨rfl, HB1⟩))
  go_region_with (first | (go_at_call 10; (with_reducible refine (hPa _).mono ?_); rintro e w2 ⟨v2, rfl, HO2, HB20⟩; have HB2 := (Below.refl w1.heap.size w1).drew.trans HB20; clear HB20; obtain ⟨A2, c2, rfl, hr2⟩ := HO2.rd; have hcA := hr2.toStr (P := Try.prog) 23 5 9 Try.underlying23 Try.underlying5 Try.underlying9) | (go_at_call 10; (with_reducible refine (hPb _).mono ?_); rintro e w3 ⟨v3, rfl, HO3, HB3⟩; obtain ⟨A3, c3, rfl, hr3⟩ := HO3.rd; have hcB := hr3.toStr (P := Try.prog) 23 5 9 Try.underlying23 Try.underlying5 Try.underlying9; have hcA3 := (hr2.below HB3).toStr (P := Try.prog) 23 5 9 Try.underlying23 Try.underlying5 Try.underlying9))
  all_goals go_wp2
  all_goals (obtain ⟨n, hn, hnx, hny, hnm⟩ : ∃ n : Nat, min ((strB x).size : Int) ((strB y).size : Int) = (n : Int) ∧ n ≤ (strB x).size ∧ n ≤ (strB y).size ∧ n = min x.length y.length := ⟨min x.length y.length, by
    have e1 : (strB x).size = x.length := by simp [strB, ByteArray.size]
    have e2 : (strB y).size = y.length := by simp [strB, ByteArray.size]
    rw [e1, e2]; refine ⟨by omega, by omega, by omega, rfl⟩⟩)
  all_goals rw [hn]
  all_goals (clear K1 K2 hn hPa hPb)
  all_goals (have hnxi : (n : Int) ≤ ((strB x).size : Int) := by omega)
  all_goals (have hnyi : (n : Int) ≤ ((strB y).size : Int) := by omega)
  all_goals by_cases hab : a = b
  all_goals first
    | (subst hab
       refine wp_region_below w3.heap.size w3 (Below.refl _ _) (by kernel_rfl) (by kernel_rfl) ?_
       repeat (go_big_quiet_step ((intro hb; rfl)))
       (try simp only [beq_self_eq_true])
       repeat (go_big_quiet_step ((intro hb; rfl)))
       refine wpQuiet_nil ?_
       intro w4 HB4
       go_wp2
       go_ret
       exact ⟨rfl, (HB1.trans (HB2.mono HB1.size)).trans ((HB3.mono (by have := HB1.size; have := HB2.size; omega)).trans (HB4.mono (by have := HB1.size; have := HB2.size; have := HB3.size; omega)))⟩)
    | skip
  all_goals (have hq : ((a : Int) == (b : Int)) = false := beq_false_of_ne (by omega))
  all_goals (refine wp_region_below w3.heap.size w3 (Below.refl _ _) (by kernel_rfl) (by kernel_rfl) ?_)
  all_goals (repeat (go_big_quiet_step ((intro hb; rfl))))
  all_goals (try simp only [hq])
  all_goals (repeat (go_big_quiet_step ((intro hb; rfl))))
  all_goals refine wpQuiet_nil ?_
  all_goals intro w4 HB4
  all_goals go_wp2
  all_goals go_ret
  all_goals refine ⟨?_, (HB1.trans (HB2.mono HB1.size)).trans ((HB3.mono (by have := HB1.size; have := HB2.size; omega)).trans (HB4.mono (by have := HB1.size; have := HB2.size; have := HB3.size; omega)))⟩
  all_goals (have hne : (((strB x).extract 0 (min x.length y.length)).toList == ((strB y).extract 0 (min x.length y.length)).toList) = false := (by rw [ext_take, ext_take]; exact beq_false_of_ne (fun h => hab (HL3.out.1 h))))
  all_goals (simp [hne])
end Go.Proofs.Ytckflapblbiniaa
