/- The walks of Guard and Bare. -/
import Derived.Test.YtaonjbpaeloniaaSumW2
namespace Go.Proofs.Ytaonjbpaeloniaa
open Go.RowKit Go.Proofs.YtaonjbpaeloniaaW.PrintWords

theorem four_cells (c : BitVec 32) (w : World) : RdB (w.alloc (.cells (fourC c) 65)) (some ⟨w.heap.size, 0, none⟩) 4 (four c) := by
  have hc := c.isLt
  refine ⟨Nat.le_refl _, rfl, by simp [four], fun _ => ⟨_, rfl, fun j hj => ?_⟩⟩
  have hj' : j = 0 ∨ j = 1 ∨ j = 2 ∨ j = 3 := by simp [four] at hj; omega
  rw [add_plain, World.cell?_alloc_mark]
  rcases hj' with rfl | rfl | rfl | rfl <;> simp [fourC, four, eu8]
  omega

set_option maxRecDepth 100000 in
set_option maxHeartbeats 400000 in
theorem Guard_any (A : Option Addr) (c : Nat) (xs : List UInt8) (w : World) (hr : RdB w A c xs) (hl : xs.length + 4 ≤ 140737488355328) :
    Calls Try.prog 22 #[.slice A xs.length c] w fun e w' => ∃ v, e = .returned v ∧ OwB w' w.heap.size v (guarded xs) ∧ Below w.heap.size w w' := by
  have hm := hr.max
  go_enter Try.func22, Try.ntmps22
  go_wp2_with (first | (go_at_call 35; refine (Sum_any _ _ _ _ hr).mono ?_; rintro e w' ⟨rfl, rfl⟩) | (go_at_call 34; refine (octets_any _ _).mono ?_; rintro e w1 ⟨rfl, HB1⟩; unfold fourC) | (go_at_call 23; refine (Concat_two A _ c 4 xs.length 4 _ xs (four (crc ones xs)) _ (by simp) (hr.below (HB1.alloc HB1.size _)) (four_cells _ w1) rfl rfl (by simp [four]; omega)).mono ?_; rintro e w2 ⟨v, rfl, HO2, HB2⟩))
  go_ret
  exact ⟨_, rfl, HO2.lower (by have := HB1.size; simp; omega), (HB1.alloc HB1.size _).trans (HB2.mono (by have := HB1.size; simp; omega))⟩

/-- the last four octets, as an array -/
theorem last_four (ad : Addr) (c : Nat) (ys : List UInt8) (t0 t1 t2 t3 : UInt8) (w : World) (hr : RdB w (some ad) c (ys ++ [t0, t1, t2, t3])) (w' : World) (hb : Below w.heap.size w w') :
    (loadVar 65 (ad.add ys.length)).run Try.prog w' = .ok (.agg #[.int .u8 (t0.toNat : Int), .int .u8 (t1.toNat : Int), .int .u8 (t2.toNat : Int), .int .u8 (t3.toNat : Int)]) w' := by
  refine run_loadVar_arr w' 65 5 4 Try.underlying65 (ad.add ys.length) [.int .u8 (t0.toNat : Int), .int .u8 (t1.toNat : Int), .int .u8 (t2.toNat : Int), .int .u8 (t3.toNat : Int)] (by kernel_rfl) ?_
  intro j v hj
  obtain ⟨ad', e, hc⟩ := (hr.below hb).2.2.2 (by simp)
  injection e with e
  subst e
  have hj4 : j < 4 := by
    rcases Nat.lt_or_ge j 4 with h | h
    · exact h
    · rw [List.getElem?_eq_none (by simpa using h)] at hj
      cases hj
  have ha : (ad.add ys.length).add j = ad.add (ys.length + j) := by
    unfold Addr.add
    by_cases h1 : ys.length = 0 <;> by_cases h2 : j = 0 <;> simp [h1, h2, Nat.add_assoc]
  rw [ha, hc (ys.length + j) (by simp; omega), ← hj]
  have hj' : j = 0 ∨ j = 1 ∨ j = 2 ∨ j = 3 := by omega
  rcases hj' with rfl | rfl | rfl | rfl <;> simp [List.getD_eq_getElem?_getD, eu8]

/-- arrays of four octets compared -/
theorem run_equalIn_four (d : Nat) (x0 x1 x2 x3 y0 y1 y2 y3 : Int) (w : World) :
    (Op.equalIn (d + 2) 65 (.agg #[.int .u8 x0, .int .u8 x1, .int .u8 x2, .int .u8 x3]) (.agg #[.int .u8 y0, .int .u8 y1, .int .u8 y2, .int .u8 y3])).run Try.prog w = .ok (x0 == y0 && (x1 == y1 && (x2 == y2 && x3 == y3))) w := by
  obtain ⟨i0, hi, hz0, hz1, hz2⟩ := info_parts info_u8
  have p0 : ∀ (a b c d : Int) ww, (part 5 #[.int .u8 a, .int .u8 b, .int .u8 c, .int .u8 d] 0).run Try.prog ww = .ok (.int .u8 a) ww := fun a b c d ww => by kernel_rfl
  have p1 : ∀ (a b c d : Int) ww, (part 5 #[.int .u8 a, .int .u8 b, .int .u8 c, .int .u8 d] 1).run Try.prog ww = .ok (.int .u8 b) ww := fun a b c d ww => by kernel_rfl
  have p2 : ∀ (a b c d : Int) ww, (part 5 #[.int .u8 a, .int .u8 b, .int .u8 c, .int .u8 d] 2).run Try.prog ww = .ok (.int .u8 c) ww := fun a b c d ww => by kernel_rfl
  have p3 : ∀ (a b c d : Int) ww, (part 5 #[.int .u8 a, .int .u8 b, .int .u8 c, .int .u8 d] 3).run Try.prog ww = .ok (.int .u8 d) ww := fun a b c d ww => by kernel_rfl
  have q : ∀ (a b : Int) (ww : World), (Op.equalIn (d + 1) 5 (.int .u8 a) (.int .u8 b)).run Try.prog ww = .ok (a == b) ww := fun a b ww => run_equalIn_int ww d 5 .u8 .u8 a b Try.underlying5
  unfold Op.equalIn
  simp only [Sem.run_bind, run_underlying Try.underlying65, sizeOf, typeInfo, Std.Legacy.Range.forIn_eq_forIn_range']
  simp [Sem.run_bind, hi, hz1, List.range', p0, p1, p2, p3, q]
  by_cases e0 : x0 = y0 <;> by_cases e1 : x1 = y1 <;> by_cases e2 : x2 = y2 <;> by_cases e3 : x3 = y3 <;> simp [e0, e1, e2, e3]
theorem four_iff (c : BitVec 32) (t0 t1 t2 t3 : UInt8) : ((t0.toNat : Int) == (c.toNat : Int) / 16777216 && ((t1.toNat : Int) == (c.toNat : Int) / 65536 % 256 && ((t2.toNat : Int) == (c.toNat : Int) / 256 % 256 && (t3.toNat : Int) == (c.toNat : Int) % 256))) = decide ([t0, t1, t2, t3] = four c) := by
  have hc := c.isLt
  have e : ∀ (t : UInt8) (n : Nat), t = UInt8.ofNat n ↔ t.toNat = n % 256 := fun t n => by
    rw [← UInt8.toNat_inj]; simp
  rw [Bool.eq_iff_iff]
  simp only [Bool.and_eq_true, beq_iff_eq, decide_eq_true_eq, four, List.cons.injEq, and_true, e]
  omega

set_option maxRecDepth 100000 in
set_option maxHeartbeats 400000 in
/-- too short -/
theorem Bare_short (A : Option Addr) (c : Nat) (xs : List UInt8) (w : World) (h4 : xs.length < 4) :
    Calls Try.prog 26 #[.slice A xs.length c] w fun e w' => e = .returned (.tuple #[.slice none 0 0, .int .i64 8]) ∧ w = w' := by
  have h : (xs.length : Int) - 4 < 0 := by omega
  go_enter Try.func26, Try.ntmps26
  go_wp2
  go_ret2
  exact ⟨rfl, rfl⟩

set_option maxRecDepth 100000 in
set_option maxHeartbeats 400000 in
theorem Bare_any (A : Option Addr) (c : Nat) (ys : List UInt8) (t0 t1 t2 t3 : UInt8) (w : World) (hr : RdB w A c (ys ++ [t0, t1, t2, t3])) (hl : ys.length + 4 ≤ 140737488355328) :
    Calls Try.prog 26 #[.slice A (ys.length + 4) c] w fun e w' =>
      ([t0, t1, t2, t3] = four (crc ones ys) → ∃ v, e = .returned (.tuple #[v, .int .i64 0]) ∧ OwB w' w.heap.size v ys) ∧
      (¬ [t0, t1, t2, t3] = four (crc ones ys) → e = .returned (.tuple #[.slice none 0 0, .int .i64 21])) ∧ Below w.heap.size w w' := by
  obtain ⟨i0, hi, hz0, hz1, hz2⟩ := info_parts info_u8
  obtain ⟨ad, rfl, _⟩ := hr.at_ 0 (by simp)
  have hle : ys.length + 4 ≤ c := by simpa using hr.le
  have hcn : ¬ c = ys.length := by omega
  have hrt : RdB w (some ad) c ys := by simpa using hr.take ys.length (by simp)
  have hld := last_four ad c ys t0 t1 t2 t3 w hr
  have harr := fun ww => run_arrayAt (P := Try.prog) ww 65 5 4 Try.underlying65 (some (ad.add ys.length)) 4 (c - ys.length) (by omega)
  have hsl := fun ww => slice_hi (P := Try.prog) 22 5 Try.underlying22 hi hz1 (some ad) (ys.length + 4) c ys.length (by omega) ww
  have heq := fun ww => run_equalIn_four 9998 t0.toNat t1.toNat t2.toNat t3.toNat ((crc ones ys).toNat / 16777216) ((crc ones ys).toNat / 65536 % 256) ((crc ones ys).toNat / 256 % 256) ((crc ones ys).toNat % 256) ww
  rw [four_iff] at heq
  have heq' : ∀ ww, (Op.equalIn 10000 65 (.agg #[.int .u8 (t0.toNat : Int), .int .u8 (t1.toNat : Int), .int .u8 (t2.toNat : Int), .int .u8 (t3.toNat : Int)]) (.agg (fourC (crc ones ys)))).run Try.prog ww = .ok (decide ([t0, t1, t2, t3] = four (crc ones ys))) ww := heq
  clear heq hr
  by_cases hf : [t0, t1, t2, t3] = four (crc ones ys)
  · rw [decide_eq_true hf] at heq'
    have HF := hide hf
    clear hf
    go_enter Try.func26, Try.ntmps26
    go_wp2
    refine wp_region_below w.heap.size w (Below.refl _ _) (by kernel_rfl) (by kernel_rfl) ?_
    repeat (go_big_quiet_step ((intro hb; rfl)))
    refine quiet_load rfl 65 _ rfl _ rfl _ hld ?_
    clear hld
    simp only [Act.put, List.setIfInBounds_toArray, List.set_cons_zero, List.set_cons_succ]
    repeat (go_big_quiet_step ((intro hb; first | rfl | (refine (Sum_any _ _ _ _ (hrt.below hb)).mono ?_; rintro e w1 ⟨rfl, rfl⟩; exact ⟨rfl, hb⟩) | (refine (octets_any _ _).mono ?_; rintro e w1 ⟨rfl, HB1⟩; exact ⟨rfl, hb.trans (HB1.mono hb.size)⟩) | (simp only [heq', Result.andThen]; exact ⟨rfl, rfl⟩))))
    refine wpQuiet_nil ?_
    intro w1 HB1
    go_wp2_with (first | (go_at_call 27; refine (Clone_any _ _ _ _ (hrt.below HB1) (by omega)).mono ?_; rintro e w2 ⟨v, rfl, HO2, HB2⟩))
    go_ret2
    exact ⟨fun _ => ⟨_, rfl, HO2.lower HB1.size⟩, fun h => absurd HF.out h, HB1.trans (HB2.mono HB1.size)⟩
  · rw [decide_eq_false hf] at heq'
    have HF := hide hf
    clear hf
    go_enter Try.func26, Try.ntmps26
    go_wp2
    refine wp_region_below w.heap.size w (Below.refl _ _) (by kernel_rfl) (by kernel_rfl) ?_
    repeat (go_big_quiet_step ((intro hb; rfl)))
    refine quiet_load rfl 65 _ rfl _ rfl _ hld ?_
    clear hld
    simp only [Act.put, List.setIfInBounds_toArray, List.set_cons_zero, List.set_cons_succ]
    repeat (go_big_quiet_step ((intro hb; first | rfl | (refine (Sum_any _ _ _ _ (hrt.below hb)).mono ?_; rintro e w1 ⟨rfl, rfl⟩; exact ⟨rfl, hb⟩) | (refine (octets_any _ _).mono ?_; rintro e w1 ⟨rfl, HB1⟩; exact ⟨rfl, hb.trans (HB1.mono hb.size)⟩) | (simp only [heq', Result.andThen]; exact ⟨rfl, rfl⟩))))
    refine wpQuiet_nil ?_
    intro w1 HB1
    go_wp2
    go_ret2
    exact ⟨fun h => absurd h HF.out, fun _ => rfl, HB1⟩
end Go.Proofs.Ytaonjbpaeloniaa
