/- The walks of slices.Grow (of nil) and slices.Concat. -/
import Derived.Test.YtaonjbpaeloniaaBase
import Derived.Lib.AppendZeros
namespace Go.Proofs.Ytaonjbpaeloniaa
open Go.RowKit Go.Proofs.YtaonjbpaeloniaaW.PrintWords

set_option maxRecDepth 100000 in
set_option maxHeartbeats 400000 in
/-- slices.Grow of nil: nothing, with room -/
theorem Grow_nil (n : Nat) (w : World) (hn : n ≤ 281474976710656) :
    Calls Try.prog 36 #[.slice none 0 0, .int .i64 (n : Int)] w fun e w' => ∃ v, e = .returned v ∧ OwB w' w.heap.size v [] ∧ Below w.heap.size w w' := by
  obtain ⟨i0, hi, hz0, hz1, hz2⟩ := info_parts info_u8
  rcases Nat.eq_zero_or_pos n with rfl | h0
  · go_enter Try.func36, Try.ntmps36
    go_wp2
    go_ret
    exact ⟨_, rfl, OwB.zero _ _, Below.refl _ _⟩
  · have hrun := Lib.run_append_nil_zeros (P := Try.prog) w 22 3 22 5 i0 (.int .u8 0) .i64 .i64 Try.underlying22 Try.underlying3 hi hz0 n h0 (by omega) (by omega) (by rw [hz2]; omega)
    have hge := grownCap_ge w n 0 5
    have hcm : grownCap w n 0 5 ≤ maxLen := grownCap_le_maxLen w n 0 5 (by simp only [maxLen]; omega)
    obtain ⟨cap, hcap⟩ : ∃ cap, grownCap w n 0 5 = cap := ⟨_, rfl⟩
    rw [hcap] at hrun hge hcm
    have hsl := fun ww => slice_hi (P := Try.prog) 22 5 Try.underlying22 hi hz1 (some ⟨w.heap.size, 0, none⟩) n cap 0 (Nat.zero_le _) ww
    go_enter Try.func36, Try.ntmps36
    go_wp2_with (first | (at_builtin; refine Lib.wpList_append_run _ rfl (.tmp 20) (.tmp 21) _ _ rfl _ _ rfl rfl _ _ hrun ?_))
    go_ret
    have hh : (w.alloc (.cells (Builtin.zeroCells #[Value.int IntKind.u8 0] n ++ Builtin.zeroCells #[Value.int IntKind.u8 0] (cap - n)) 5)).drew.heap[w.heap.size]? = some (.cells (Builtin.zeroCells #[Value.int IntKind.u8 0] n ++ Builtin.zeroCells #[Value.int IntKind.u8 0] (cap - n)) 5 (0, 0)) := heap_alloc_new w _
    exact ⟨_, rfl, ⟨rfl, .inr ⟨w.heap.size, cap, _, rfl, Nat.le_refl _, hh, Nat.zero_le _, hcm, by simp [size_zeroCells]; omega, rfl⟩⟩, ((Below.refl _ _).alloc (Nat.le_refl _) _).drew⟩

/-! slices.Concat: of slices of octets, however many -/
/-- a slice that is handed over: address, capacity, octets -/
abbrev SlB := Option Addr × Nat × List UInt8
def eSl (s : SlB) : Value := .slice s.1 s.2.2.length s.2.1
def total (ss : List SlB) : Nat := (ss.map fun s => s.2.2.length).sum
def joined (ss : List SlB) : List UInt8 := ss.flatMap fun s => s.2.2
theorem joined_length (ss : List SlB) : (joined ss).length = total ss := by simp [joined, total, List.length_flatMap]
def nilSl : SlB := (none, 0, [])
theorem total_snoc (ss : List SlB) (k : Nat) (h : k < ss.length) : total (ss.take (k + 1)) = total (ss.take k) + (ss.getD k nilSl).2.2.length := by
  rw [List.take_succ_eq_append_getElem h, total, total, List.map_append, List.sum_append]
  simp [List.getD_eq_getElem?_getD, List.getElem?_eq_getElem h]
theorem joined_snoc (ss : List SlB) (k : Nat) (h : k < ss.length) : joined (ss.take (k + 1)) = joined (ss.take k) ++ (ss.getD k nilSl).2.2 := by
  rw [List.take_succ_eq_append_getElem h, joined, joined, List.flatMap_append]
  simp [List.getD_eq_getElem?_getD, List.getElem?_eq_getElem h]
theorem total_le (ss : List SlB) (k : Nat) : total (ss.take k) ≤ total ss := by
  have : total ss = total (ss.take k) + total (ss.drop k) := by
    rw [total, total, total, ← List.sum_append, ← List.map_append, List.take_append_drop]
  omega
theorem getD_mem (ss : List SlB) (k : Nat) (h : k < ss.length) : ss.getD k nilSl ∈ ss := by
  rw [List.getD_eq_getElem?_getD, List.getElem?_eq_getElem h]
  simp
set_option maxRecDepth 100000 in
set_option maxHeartbeats 400000 in
theorem Concat_any (A : Option Addr) (c : Nat) (ss : List SlB) (w : World) (hr : ReadsOf eSl nilSl w A ss.length ss) (hs : ∀ s ∈ ss, RdB w s.1 s.2.1 s.2.2) (ht : total ss ≤ 140737488355328) :
    Calls Try.prog 23 #[.slice A ss.length c] w fun e w' => ∃ v, e = .returned v ∧ OwB w' w.heap.size v (joined ss) ∧ Below w.heap.size w w' := by
  have hm := hr.2.1
  go_enter Try.func23, Try.ntmps23
  go_wp2
  go_loop [3, 11] (fun t i => ∃ k : Nat, k ≤ ss.length ∧ i = .int .i64 k ∧ t = .int .i64 (total (ss.take k))) (fun _ i => ss.length - (intOf i).toNat)
  case atStart => exact ⟨0, by omega, rfl, rfl⟩
  case round =>
    obtain ⟨k, hk, rfl, rfl⟩ := hrel
    have hb := total_le ss k
    by_cases hlt : k < ss.length
    · obtain ⟨ad, rfl, hc⟩ := hr.2.2 (by omega)
      have hcell := hc k hlt
      have HS := hide (total_snoc ss k hlt)
      have hb1 := total_le ss (k + 1)
      rw [HS.out] at hb1
      obtain ⟨⟨A1, c1, x1⟩, hx⟩ : ∃ x, ss.getD k nilSl = x := ⟨_, rfl⟩
      rw [hx] at hcell HS hb1
      clear hx hc
      unfold eSl at hcell
      simp only at hcell HS hb1
      go_wp2
      go_round
      case rel => exact ⟨k + 1, by omega, by go_num, by rw [HS.out]; go_num⟩
      case measure => simp [intOf]; omega
    · obtain rfl : k = ss.length := by omega
      rw [List.take_length] at hb ⊢
      go_wp2_with (first | (go_at_call 36; refine (Grow_nil _ _ (by omega)).mono ?_; rintro e w1 ⟨v1, rfl, HO1, HB1⟩))
      go_loopw [6, 27] (fun t i wr => ∃ k : Nat, k ≤ ss.length ∧ i = .int .i64 k ∧ OwB wr w.heap.size t (joined (ss.take k)) ∧ Below w.heap.size w wr) (fun _ i _ => ss.length - (intOf i).toNat)
      case atStart => exact ⟨0, by omega, rfl, HO1, HB1⟩
      case round =>
        obtain ⟨k, hk, rfl, HO, HB⟩ := hrel
        have hb := total_le ss k
        by_cases hlt : k < ss.length
        · have hrr := hr.below ⟨HB.os, HB.tape, HB.output, HB.size, HB.block⟩
          obtain ⟨ad, rfl, hc⟩ := hrr.2.2 (by omega)
          have hcell := hc k hlt
          have HS := hide (joined_snoc ss k hlt)
          have HT := hide (total_snoc ss k hlt)
          have hb1 := total_le ss (k + 1)
          rw [HT.out] at hb1
          have HR := (hs _ (getD_mem ss k hlt)).below HB
          obtain ⟨⟨A1, c1, x1⟩, hx⟩ : ∃ x, ss.getD k nilSl = x := ⟨_, rfl⟩
          rw [hx] at hcell HS hb1 HR
          clear hx hc HT
          unfold eSl at hcell
          simp only at hcell HS hb1 HR
          have hjl := joined_length (ss.take k)
          go_wp2_with (first | (at_builtin; refine app_row (w0 := w) w.heap.size rfl (.tmp 31) (.tmp 32) rfl _ (joined (ss.take k)) x1 A1 c1 rfl rfl HO HR HB HB.size (by omega) ?_; intro v1 w1 HO1 HB1 hg hat))
          go_roundw
          case rel => exact ⟨k + 1, by omega, by go_num, by rw [HS.out]; exact HO1, HB1⟩
          case measure => simp [intOf]; omega
        · obtain rfl : k = ss.length := by omega
          rw [List.take_length] at HO
          go_wp2
          go_ret
          exact ⟨_, rfl, HO, HB⟩

/-- of two, laid out for the call -/
theorem Concat_two (A1 A2 : Option Addr) (c1 c2 n1 n2 n : Nat) (x1 x2 : List UInt8) (W : World) (hn : W.heap.size = n) (h1 : RdB W A1 c1 x1) (h2 : RdB W A2 c2 x2) (l1 : x1.length = n1) (l2 : x2.length = n2) (ht : x1.length + x2.length ≤ 140737488355328) :
    Calls Try.prog 23 #[.slice (some ⟨n, 0, none⟩) 2 2] (W.alloc (.cells #[.slice A1 n1 c1, .slice A2 n2 c2] 22)) fun e w' => ∃ v, e = .returned v ∧ OwB w' W.heap.size v (x1 ++ x2) ∧ Below W.heap.size W w' := by
  subst hn
  subst l1
  subst l2
  have hb : Below W.heap.size W (W.alloc (.cells #[.slice A1 x1.length c1, .slice A2 x2.length c2] 22)) := (Below.refl _ _).alloc (Nat.le_refl _) _
  refine (Concat_any (some ⟨W.heap.size, 0, none⟩) 2 [(A1, c1, x1), (A2, c2, x2)] _ ⟨rfl, by simp, fun _ => ⟨_, rfl, fun j hj => ?_⟩⟩ ?_ (by simpa [total] using ht)).mono ?_
  · rw [add_plain, World.cell?_alloc_mark]
    have : j = 0 ∨ j = 1 := by simp at hj; omega
    rcases this with rfl | rfl <;> rfl
  · intro s hs
    simp only [List.mem_cons, List.not_mem_nil, or_false] at hs
    rcases hs with rfl | rfl
    · exact h1.below hb
    · exact h2.below hb
  · rintro e w' ⟨v, rfl, HO, HB⟩
    exact ⟨v, rfl, by simpa [joined] using HO.lower (by simp), hb.trans (HB.mono (by simp))⟩
end Go.Proofs.Ytaonjbpaeloniaa
