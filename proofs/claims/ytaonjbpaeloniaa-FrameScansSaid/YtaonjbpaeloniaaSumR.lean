/- The walks of the page's checksum: Extend, Sum, Copied, Guard, Bare. -/
import Derived.Test.YtaonjbpaeloniaaSumP
import Derived.Test.YtaonjbpaeloniaaPlain
namespace Go.Proofs.Ytaonjbpaeloniaa
open Go.RowKit Go.Proofs.YtaonjbpaeloniaaW.PrintWords

set_option maxRecDepth 100000 in
set_option maxHeartbeats 800000 in
theorem rExtend_any (c0 : BitVec 32) (A : Option Addr) (c : Nat) (xs : List UInt8) (w : World) (hr : RdB w A c xs) :
    Calls Try.prog 46 #[.int .u32 (c0.toNat : Int), .slice A xs.length c] w fun e w' => e = .returned (.int .u32 ((crc c0 xs).toNat : Int)) ∧ w = w' := by
  have hm := hr.max
  go_enter Try.func46, Try.ntmps46
  go_wp2
  go_loop [0, 5] (fun c i => ∃ k : Nat, k ≤ xs.length ∧ i = .int .i64 k ∧ c = .int .u32 ((crc c0 (xs.take k)).toNat : Int)) (fun _ i => xs.length - (intOf i).toNat)
  case atStart => exact ⟨0, by omega, rfl, rfl⟩
  case round =>
    obtain ⟨k, hk, rfl, rfl⟩ := hrel
    by_cases hlt : k < xs.length
    · obtain ⟨ad, rfl, hcell⟩ := hr.at_ k hlt
      have HS := hide (crc_snoc c0 xs k hlt)
      have HP := hide (put_int (crc c0 (xs.take k)) (xs.getD k 0))
      obtain ⟨x, hx⟩ : ∃ x, xs.getD k 0 = x := ⟨_, rfl⟩
      rw [hx] at hcell HS HP
      clear hx
      obtain ⟨r, hrr⟩ : ∃ r, crc c0 (xs.take k) ^^^ (bv x <<< 24) = r := ⟨_, rfl⟩
      have HR := hide hrr
      rw [hrr] at HP
      clear hrr
      go_wp2
      rw [HP.out]
      go_loop [0, 6, 7] (fun c i o => ∃ j : Nat, j ≤ 8 ∧ i = .int .i64 j ∧ c = .int .u32 ((Tk.bits j r).toNat : Int)) (fun _ i _ => 8 - (intOf i).toNat)
      case atStart => exact ⟨0, by omega, rfl, rfl⟩
      case round =>
        obtain ⟨j, hj, rfl, rfl⟩ := hrel
        have hb := (Tk.bits j r).isLt
        by_cases hlj : j < 8
        · by_cases hhi : 2147483648 ≤ (Tk.bits j r).toNat
          · have HB := hide (bit1_hi _ hhi)
            have h1 : (((Tk.bits j r).toNat : Int) / 2147483648 == 1) = true := by rw [beq_iff_eq]; omega
            go_wp2
            go_round
            case rel => exact ⟨j + 1, by omega, by go_num, by rw [HB.out]; rfl⟩
            case measure => simp [intOf]; omega
          · have HB := hide (bit1_lo' _ hhi)
            have h1 : (((Tk.bits j r).toNat : Int) / 2147483648 == 1) = false := by rw [beq_eq_false_iff_ne]; omega
            go_wp2
            go_round
            case rel => exact ⟨j + 1, by omega, by go_num, by rw [HB.out]; rfl⟩
            case measure => simp [intOf]; omega
        · obtain rfl : j = 8 := by omega
          go_wp2
          go_round
          case rel => exact ⟨k + 1, by omega, by go_num, by rw [HS.out, ← oct_bits, HR.out]⟩
          case measure => simp [intOf]; omega
    · go_wp2
      go_ret
      obtain rfl : k = xs.length := by omega
      exact ⟨by simp, rfl⟩

theorem rSum_any (A : Option Addr) (c : Nat) (xs : List UInt8) (w : World) (hr : RdB w A c xs) :
    Calls Try.prog 40 #[.slice A xs.length c] w fun e w' => e = .returned (.int .u32 ((crc ones xs).toNat : Int)) ∧ w = w' := by
  go_enter Try.func40, Try.ntmps40
  go_wp2_with (first | (go_at_call 46; refine (rExtend_any ones _ _ _ _ hr).mono ?_; rintro e w' ⟨rfl, rfl⟩))
  go_ret
  exact ⟨rfl, rfl⟩

set_option maxRecDepth 100000 in
set_option maxHeartbeats 400000 in
theorem Copied_any (A : Option Addr) (c : Nat) (xs : List UInt8) (w : World) (hr : RdB w A c xs) (hl : xs.length ≤ 140737488355328) :
    Calls Try.prog 32 #[.slice A xs.length c] w fun e w' => ∃ v, e = .returned v ∧ OwB w' w.heap.size v xs ∧ Below w.heap.size w w' := by
  have hm := hr.max
  go_enter Try.func32, Try.ntmps32
  go_wp2_with (first | (at_builtin; refine app_row (w0 := w) w.heap.size rfl _ _ rfl (.slice .none 0 0) [] xs A c rfl rfl (OwB.zero _ _) hr (Below.refl _ _) (Nat.le_refl _) (by simp; omega) ?_; intro v1 w1 HO1 HB1 hg hat))
  go_ret
  exact ⟨_, rfl, HO1, HB1⟩

set_option maxRecDepth 100000 in
set_option maxHeartbeats 400000 in
theorem rGuard_any (A : Option Addr) (c : Nat) (xs : List UInt8) (w : World) (hr : RdB w A c xs) (hl : xs.length + 4 ≤ 140737488355328) :
    Calls Try.prog 29 #[.slice A xs.length c] w fun e w' => ∃ v, e = .returned v ∧ OwB w' w.heap.size v (guarded xs) ∧ Below w.heap.size w w' := by
  have hm := hr.max
  have hc := (crc ones xs).isLt
  have hlit : ∀ W : World, RdB (W.alloc (.cells #[.int .u8 (((crc ones xs).toNat : Int) / 16777216), .int .u8 (((crc ones xs).toNat : Int) / 65536 % 256), .int .u8 (((crc ones xs).toNat : Int) / 256 % 256), .int .u8 (((crc ones xs).toNat : Int) % 256)] 5)) (some ⟨W.heap.size, 0, none⟩) 4 (four (crc ones xs)) := fun W => by
    refine ⟨Nat.le_refl _, rfl, by simp [four], fun _ => ⟨_, rfl, fun j hj => ?_⟩⟩
    have hj' : j = 0 ∨ j = 1 ∨ j = 2 ∨ j = 3 := by simp [four] at hj; omega
    rw [add_plain, World.cell?_alloc_mark]
    rcases hj' with rfl | rfl | rfl | rfl <;> simp [four, eu8]
    omega
  go_enter Try.func29, Try.ntmps29
  go_wp2_with (first | (go_at_call 40; refine (rSum_any _ _ _ _ hr).mono ?_; rintro e w' ⟨rfl, rfl⟩) | (go_at_call 32; refine (Copied_any _ _ _ _ hr (by omega)).mono ?_; rintro e w1 ⟨v, rfl, HO1, HB1⟩) | (at_builtin; refine app_row (w0 := w) w.heap.size rfl (.tmp 7) (.tmp 19) rfl v xs (four (crc ones xs)) _ 4 rfl rfl (HO1.below ((Below.refl _ _).alloc (Nat.le_refl _) _)) (hlit w1) (HB1.alloc HB1.size _) (by have := HB1.size; simp; omega) (by simp [four]; omega) ?_; intro v1 w2 HO2 HB2 hg hat))
  go_ret
  exact ⟨_, rfl, HO2, HB2⟩

set_option maxRecDepth 100000 in
set_option maxHeartbeats 400000 in
theorem rBare_short (A : Option Addr) (c : Nat) (xs : List UInt8) (w : World) (h4 : xs.length < 4) :
    Calls Try.prog 31 #[.slice A xs.length c] w fun e w' => e = .returned (.tuple #[.slice none 0 0, .int .i64 8]) ∧ w = w' := by
  go_enter Try.func31, Try.ntmps31
  go_wp2
  go_ret2
  exact ⟨rfl, rfl⟩
theorem guarded_iff (ys : List UInt8) (t0 t1 t2 t3 : UInt8) : guarded ys = ys ++ [t0, t1, t2, t3] ↔ [t0, t1, t2, t3] = four (crc ones ys) := by
  unfold guarded
  rw [List.append_cancel_left_eq]
  exact eq_comm

set_option maxRecDepth 100000 in
set_option maxHeartbeats 800000 in
theorem rBare_any (A : Option Addr) (c : Nat) (ys : List UInt8) (t0 t1 t2 t3 : UInt8) (w : World) (hr : RdB w A c (ys ++ [t0, t1, t2, t3])) (hl : ys.length + 4 ≤ 140737488355328) :
    Calls Try.prog 31 #[.slice A (ys.length + 4) c] w fun e w' =>
      ([t0, t1, t2, t3] = four (crc ones ys) → ∃ v, e = .returned (.tuple #[v, .int .i64 0]) ∧ OwB w' w.heap.size v ys) ∧
      (¬ [t0, t1, t2, t3] = four (crc ones ys) → e = .returned (.tuple #[.slice none 0 0, .int .i64 21])) ∧ Below w.heap.size w w' := by
  obtain ⟨i0, hi, hz0, hz1, hz2⟩ := info_parts info_u8
  have hle : ys.length + 4 ≤ c := by simpa using hr.le
  have hrt : RdB w A c ys := by simpa using hr.take ys.length (by simp)
  have hcv : ∀ w', Below w.heap.size w w' → (convert 22 9 (.slice A (ys.length + 4) c)).run Try.prog w' = .ok (.string (strB (ys ++ [t0, t1, t2, t3]))) w' := fun w' hb => by
    have := (hr.below hb).toStr (P := Try.prog) 22 5 9 Try.underlying22 Try.underlying5 Try.underlying9
    rw [show (ys ++ [t0, t1, t2, t3]).length = ys.length + 4 by simp] at this
    exact this
  have hsl := fun ww => slice_hi (P := Try.prog) 22 5 Try.underlying22 hi hz1 A (ys.length + 4) c ys.length (by omega) ww
  clear hr
  have hcv0 := hcv _ (Below.refl w.heap.size w).drew
  have hbq : ((strB (guarded ys)).toList == (strB (ys ++ [t0, t1, t2, t3])).toList) = decide ([t0, t1, t2, t3] = four (crc ones ys)) := by
    rw [strB_toList, strB_toList, Bool.eq_iff_iff, beq_iff_eq, decide_eq_true_eq]
    exact guarded_iff ys t0 t1 t2 t3
  by_cases hf : [t0, t1, t2, t3] = four (crc ones ys)
  · rw [decide_eq_true hf] at hbq
    have HF := hide hf
    clear hf
    go_enter Try.func31, Try.ntmps31
    go_wp2
    go_region_with (first | (go_at_call 29; refine (rGuard_any _ _ _ _ (hrt.below (Below.refl _ _).drew) (by omega)).mono ?_; rintro e w1 ⟨v, rfl, HO1, HB0⟩; have HB1 := (Below.refl w.heap.size w).drew.trans HB0; clear HB0; obtain ⟨A1, c1, rfl, hrd⟩ := HO1.rd; have hcv1 := hrd.toStr (P := Try.prog) 22 5 9 Try.underlying22 Try.underlying5 Try.underlying9; have hcv2 := hcv _ HB1; clear hrd))
    all_goals (go_wp2_with (first | (go_at_call 32; refine (Copied_any _ _ _ _ (hrt.below HB1) (by omega)).mono ?_; rintro e w2 ⟨v, rfl, HO2, HB2⟩)))
    all_goals go_ret2
    all_goals exact ⟨fun _ => ⟨_, rfl, HO2.lower HB1.size⟩, fun h => absurd HF.out h, HB1.trans (HB2.mono HB1.size)⟩
  · rw [decide_eq_false hf] at hbq
    have HF := hide hf
    clear hf
    go_enter Try.func31, Try.ntmps31
    go_wp2
    go_region_with (first | (go_at_call 29; refine (rGuard_any _ _ _ _ (hrt.below (Below.refl _ _).drew) (by omega)).mono ?_; rintro e w1 ⟨v, rfl, HO1, HB0⟩; have HB1 := (Below.refl w.heap.size w).drew.trans HB0; clear HB0; obtain ⟨A1, c1, rfl, hrd⟩ := HO1.rd; have hcv1 := hrd.toStr (P := Try.prog) 22 5 9 Try.underlying22 Try.underlying5 Try.underlying9; have hcv2 := hcv _ HB1; clear hrd))
    all_goals go_wp2
    all_goals go_ret2
    all_goals exact ⟨fun h => absurd h HF.out, fun _ => rfl, HB1⟩
end Go.Proofs.Ytaonjbpaeloniaa
