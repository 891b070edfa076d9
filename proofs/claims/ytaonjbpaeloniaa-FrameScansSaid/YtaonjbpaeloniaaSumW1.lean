/- The walks of the checksum's functions: step, Extend, Sum; the reference's Extend, Sum. -/
import Derived.Test.YtaonjbpaeloniaaSumP
import Derived.Test.YtaonjbpaeloniaaBase
namespace Go.Proofs.Ytaonjbpaeloniaa
open Go.RowKit Go.Proofs.YtaonjbpaeloniaaW.PrintWords

set_option maxRecDepth 100000 in
set_option maxHeartbeats 400000 in
theorem step_any (c0 : BitVec 32) (w : World) :
    Calls Try.prog 47 #[.int .u32 (c0.toNat : Int)] w fun e w' => e = .returned (.int .u32 ((Tk.bits 8 c0).toNat : Int)) ∧ w = w' := by
  go_enter Try.func47, Try.ntmps47
  go_wp2
  go_loop [0, 3] (fun c i => ∃ k : Nat, k ≤ 8 ∧ i = .int .i64 k ∧ c = .int .u32 ((Tk.bits k c0).toNat : Int)) (fun _ i => 8 - (intOf i).toNat)
  case atStart => exact ⟨0, by omega, rfl, rfl⟩
  case round =>
    obtain ⟨k, hk, rfl, rfl⟩ := hrel
    have hb := (Tk.bits k c0).isLt
    have HS := hide (bit1_int (Tk.bits k c0))
    by_cases hlt : k < 8
    · go_wp2
      go_round
      case rel => exact ⟨k + 1, by omega, by go_num, by rw [HS.out]; rfl⟩
      case measure => simp [intOf]; omega
    · go_wp2
      go_ret
      obtain rfl : k = 8 := by omega
      exact ⟨rfl, rfl⟩

set_option maxRecDepth 100000 in
set_option maxHeartbeats 400000 in
theorem Extend_any (c0 : BitVec 32) (A : Option Addr) (c : Nat) (xs : List UInt8) (w : World) (hr : RdB w A c xs) :
    Calls Try.prog 43 #[.int .u32 (c0.toNat : Int), .slice A xs.length c] w fun e w' => e = .returned (.int .u32 ((crc c0 xs).toNat : Int)) ∧ w = w' := by
  have hm := hr.max
  go_enter Try.func43, Try.ntmps43
  go_wp2
  go_loop [0, 9] (fun c i => ∃ k : Nat, k ≤ xs.length ∧ i = .int .i64 k ∧ c = .int .u32 ((crc c0 (xs.take k)).toNat : Int)) (fun _ i => xs.length - (intOf i).toNat)
  case atStart => exact ⟨0, by omega, rfl, rfl⟩
  case round =>
    obtain ⟨k, hk, rfl, rfl⟩ := hrel
    by_cases hlt : k < xs.length
    · obtain ⟨ad, rfl, hcell⟩ := hr.at_ k hlt
      have HS := hide (crc_snoc c0 xs k hlt)
      have HP := hide (put_int (crc c0 (xs.take k)) (xs.getD k 0))
      obtain ⟨x, hx⟩ : ∃ x, xs.getD k 0 = x := ⟨_, rfl⟩
      rw [hx] at hcell HS HP
      clear hx
      go_wp2_with (first | (go_at_call 47; rw [HP.out]; refine (step_any _ _).mono ?_; rintro e w' ⟨rfl, rfl⟩))
      go_round
      case rel => exact ⟨k + 1, by omega, by go_num, by rw [HS.out]; rfl⟩
      case measure => simp [intOf]; omega
    · go_wp2
      go_ret
      obtain rfl : k = xs.length := by omega
      exact ⟨by simp, rfl⟩

theorem Sum_any (A : Option Addr) (c : Nat) (xs : List UInt8) (w : World) (hr : RdB w A c xs) :
    Calls Try.prog 35 #[.slice A xs.length c] w fun e w' => e = .returned (.int .u32 ((crc ones xs).toNat : Int)) ∧ w = w' := by
  go_enter Try.func35, Try.ntmps35
  go_wp2_with (first | (go_at_call 43; refine (Extend_any ones _ _ _ _ hr).mono ?_; rintro e w' ⟨rfl, rfl⟩))
  go_ret
  exact ⟨rfl, rfl⟩
end Go.Proofs.Ytaonjbpaeloniaa
