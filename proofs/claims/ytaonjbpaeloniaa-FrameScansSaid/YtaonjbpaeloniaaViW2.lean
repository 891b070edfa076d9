/- The walks of the reference's Size and Put of numbers as octets. -/
import Derived.Test.YtaonjbpaeloniaaViW1
namespace Go.Proofs.Ytaonjbpaeloniaa
open Go.RowKit Go.Proofs.YtaonjbpaeloniaaW.PrintWords
set_option linter.unusedVariables false

theorem vsize_iff (n k : Nat) (h1 : 1 ≤ k) (h8 : k ≤ 8) : (n : Int) / 2 ^ (7 * k) = 0 ↔ vsize n ≤ k := by
  have hk : k = 1 ∨ k = 2 ∨ k = 3 ∨ k = 4 ∨ k = 5 ∨ k = 6 ∨ k = 7 ∨ k = 8 := by omega
  unfold vsize
  rcases hk with rfl | rfl | rfl | rfl | rfl | rfl | rfl | rfl <;> simp only [Nat.reduceMul, Int.reducePow] <;> (repeat' split) <;> omega
theorem rSize_any (n : Nat) (hn : n < 18446744073709551616) (w : World) : Calls Try.prog 39 #[.int .u64 (n : Int)] w fun e w' => e = .returned (.int .i64 (vsize n : Int)) ∧ w = w' := by
  have h9 := vsize_le n
  have h1 := vsize_pos n
  go_enter Try.func39, Try.ntmps39
  go_wp2
  go_loop [3] (fun i => ∃ k : Nat, 1 ≤ k ∧ k ≤ 9 ∧ k ≤ vsize n ∧ i = .int .i64 k) (fun i => 10 - (intOf i).toNat)
  case atStart => exact ⟨1, by omega, by omega, by omega, rfl⟩
  case round =>
    obtain ⟨k, hk1, hk9, hkv, rfl⟩ := hrel
    by_cases hlt : k ≤ 8
    · have hi := vsize_iff n k hk1 hlt
      have hk7 : (7 : Int) * k ≤ 64 := by omega
      by_cases hv : vsize n ≤ k
      · have hz := hi.2 hv
        clear hi
        have : vsize n = k := by omega
        rw [this]
        go_wp2
        go_ret
        exact ⟨rfl, rfl⟩
      · have hz : ¬ (n : Int) / 2 ^ (7 * k) = 0 := fun e => hv (hi.1 e)
        clear hi
        go_wp2
        go_round
        case rel => exact ⟨k + 1, by omega, by omega, by omega, by go_num⟩
        case measure => simp [intOf]; omega
    · obtain rfl : k = 9 := by omega
      have : vsize n = 9 := by omega
      rw [this]
      go_wp2
      go_ret
      exact ⟨rfl, rfl⟩

theorem be_put (m k n : Nat) (hk : k < m) : (List.replicate (m - k) (0 : UInt8) ++ be k n).set (m - (k + 1)) (UInt8.ofNat (n / 256 ^ k)) = List.replicate (m - (k + 1)) 0 ++ be (k + 1) n := by
  rw [show m - k = (m - (k + 1)) + 1 by omega, List.replicate_succ', List.append_assoc, List.set_append_right _ _ (by simp)]
  simp only [List.length_replicate, Nat.sub_self, List.singleton_append, List.set_cons_zero]
  rfl
theorem lead_more (i : Nat) (h : i < 8) : lead (i + 1) ||| UInt8.ofNat (128 / 2 ^ i) = lead (i + 2) := by
  have hh : ∀ i : Fin 8, lead (i.val + 1) ||| UInt8.ofNat (128 / 2 ^ i.val) = lead (i.val + 2) := by decide +kernel
  exact hh ⟨i, h⟩
theorem shr128 (i : Nat) (h : i < 8) : (128 : Int) / 2 ^ i = ((UInt8.ofNat (128 / 2 ^ i)).toNat : Int) := by
  have hh : ∀ r : Fin 8, (128 : Int) / 2 ^ r.val = ((UInt8.ofNat (128 / 2 ^ r.val)).toNat : Int) := by decide +kernel
  exact hh ⟨i, h⟩
set_option maxRecDepth 100000 in
set_option maxHeartbeats 400000 in
theorem rPut_any (n : Nat) (hn : n < 18446744073709551616) (w : World) : Calls Try.prog 28 #[.int .u64 (n : Int)] w fun e w' => ∃ v, e = .returned v ∧ OwB w' w.heap.size v (put n) ∧ Below w.heap.size w w' := by
  obtain ⟨m, hmv⟩ : ∃ m, vsize n = m := ⟨_, rfl⟩
  have h1 := vsize_pos n
  have h9 := vsize_le n
  have hS := rSize_any n hn
  have hput : put n = (UInt8.ofNat (n / 256 ^ (m - 1)) ||| lead m) :: be (m - 1) n := by rw [put, head, hmv]
  rw [hmv] at h1 h9 hS
  have HPUT := hide hput
  clear hmv hput
  have hmk := make_bytes m (by omega)
  have hmw := OwB.made w w.heap.size m (Nat.le_refl _) (by omega)
  go_enter Try.func28, Try.ntmps28
  go_wp2_with (first | (go_at_call 39; refine (hS _).mono ?_; rintro e w2 ⟨rfl, rfl⟩))
  go_loopw [0, 5] (fun x i wr => ∃ k : Nat, k ≤ m ∧ x = .int .u64 ((n / 256 ^ k : Nat) : Int) ∧ i = .int .i64 ((m : Int) - 1 - k) ∧ OwB wr w.heap.size (.slice (some ⟨w.heap.size, 0, none⟩) m m) (List.replicate (m - k) 0 ++ be k n) ∧ Below w.heap.size w wr) (fun _ i _ => (intOf i + 1).toNat)
  case atStart => exact ⟨0, by omega, by simp, by simp, by simpa [be] using hmw, (Below.refl _ _).alloc (Nat.le_refl _) _⟩
  case round =>
    obtain ⟨k, hk, rfl, rfl, HO, HB⟩ := hrel
    have hlen : (List.replicate (m - k) 0 ++ be k n).length = m := by simp [be_length]; omega
    by_cases hlt : k < m
    · obtain ⟨g, cap, hv, hgb, hgl, hcell, hfr, hset⟩ := HO.set_ (m - (k + 1)) (by omega)
      obtain ⟨rfl, rfl⟩ : w.heap.size = g ∧ m = cap := by injection hv with h1 _ h3; injection h1 with h1; injection h1 with h1; exact ⟨h1, h3⟩
      obtain ⟨HS, HG⟩ := hset (UInt8.ofNat (n / 256 ^ k))
      rw [be_put m k n hlt] at HS
      have hHS := hide HS
      have hHG := hide HG
      obtain ⟨q, hq⟩ : ∃ q, m - (k + 1) = q := ⟨_, rfl⟩
      have hqi : (m : Int) - 1 - k = (q : Int) := by omega
      obtain ⟨x, hx⟩ : ∃ x, n / 256 ^ k = x := ⟨_, rfl⟩
      have hx1 : ((x : Nat) : Int) / 256 = ((n / 256 ^ (k + 1) : Nat) : Int) := by rw [Nat.pow_succ, ← Nat.div_div_eq_div_mul, hx]; omega
      have hxn : x < 18446744073709551616 := by rw [← hx]; exact Nat.lt_of_le_of_lt (Nat.div_le_self _ _) hn
      have hqm : (q : Int) < m := by omega
      have hqm' : q < m := by omega
      have hu : (x : Int) % 256 = ((UInt8.ofNat x).toNat : Int) := by simp
      have HQ := hide hq
      rw [hq] at hcell hfr hHS hHG
      rw [hx] at hHS hHG ⊢
      rw [hqi]
      have HU := hide hu
      have HX1 := hide hx1
      have HQI := hide hqi
      clear hu hx1 hqi
      generalize ((List.replicate (m - k) (0 : UInt8) ++ be k n).getD q 0) = old at *
      clear HS HG hset hv hlen hq hx HO hmw hmk hS
      go_wp2
      go_roundw
      case rel => exact ⟨k + 1, by omega, by rw [← HX1.out], by rw [← HQI.out]; go_num, by rw [HU.out]; simpa [HQ.out] using hHS.out, by rw [HU.out]; exact HB.setCell (Nat.le_refl _) _⟩
      case measure => simp [intOf]
    · obtain rfl : k = m := by omega
      obtain ⟨j, rfl⟩ : ∃ j, k = j + 1 := ⟨k - 1, by omega⟩
      obtain ⟨x, hx⟩ : ∃ x, UInt8.ofNat (n / 256 ^ j) = x := ⟨_, rfl⟩
      have hbe : be (j + 1) n = x :: be j n := by rw [be, hx]
      obtain ⟨t, ht⟩ : ∃ t, be j n = t := ⟨_, rfl⟩
      have hlt1 : t.length = j := by rw [← ht, be_length]
      have hP := HPUT.out
      rw [Nat.add_sub_cancel, hx, ht] at hP
      rw [Nat.sub_self, List.replicate_zero, List.nil_append, hbe, ht] at HO
      have HP := hide hP
      clear hP hbe HPUT hx ht hmk hmw hS
      obtain ⟨m, hm⟩ : ∃ m, j + 1 = m := ⟨_, rfl⟩
      rw [hm] at HO HP h1 h9 ⊢
      go_wp2
      generalize (m : Int) - 1 - (m : Int) = z5
      generalize decide ((m : Int) ≤ (m : Int) - 1) = b14
      generalize n / 256 ^ m = nz
      go_loopw [6] (fun i wr => ∃ k : Nat, k ≤ j ∧ i = .int .i64 (k : Int) ∧ OwB wr w.heap.size (.slice (some ⟨w.heap.size, 0, none⟩) m m) ((x ||| lead (k + 1)) :: t) ∧ Below w.heap.size w wr) (fun i _ => 10 - (intOf i).toNat)
      case atStart =>
        have h0 : x ||| lead (0 + 1) = x := by
          rw [show lead (0 + 1) = 0 by decide]; simp
        exact ⟨0, by omega, by simp, by rw [h0]; exact HO, HB⟩
      case round =>
        obtain ⟨i, hi, rfl, HO, HB⟩ := hrel
        by_cases hlt : i < j
        · have HBd : Below w.heap.size w wr.drew := HB.drew
          have HOd : OwB wr.drew w.heap.size (.slice (some ⟨w.heap.size, 0, none⟩) m m) ((x ||| lead (i + 1)) :: t) := HO.below (Below.refl _ _).drew
          obtain ⟨g, cap, hv, hgb, hgl, hcell, hfr, hset⟩ := HOd.set_ 0 (by simp)
          obtain ⟨rfl, rfl⟩ : w.heap.size = g ∧ m = cap := by injection hv with h1 _ h3; injection h1 with h1; injection h1 with h1; exact ⟨h1, h3⟩
          obtain ⟨HS, HG⟩ := hset (x ||| lead (i + 2))
          have hHS := hide HS
          have HX : Hid (bits .or .u8 ((x ||| lead (i + 1)).toNat : Int) ((128 : Int) / 2 ^ i) = ((x ||| lead (i + 2)).toNat : Int)) := by
            rw [shr128 i (by omega), or_u8, UInt8.or_assoc, lead_more i (by omega)]; rfl
          have hcd : wr.cell? ⟨w.heap.size, 0, none⟩ = some (.int .u8 ((x ||| lead (i + 1)).toNat : Int)) := hcell
          have hm0 : 0 < m := by omega
          have hi64 : (i : Int) ≤ 64 := by omega
          have hi8 : (i : Int) ≤ 8 := by omega
          have hcond : (i : Int) < (m : Int) - 1 := by omega
          generalize x ||| lead (i + 1) = y at *
          clear HS HG hset hv HO HOd hm
          go_wp2
          go_still_tail 8, (by kernel_rfl)
          change wpList _ _ _ _ _ wr.drew
          generalize wr.drew = wd at *
          go_wp2
          go_roundw
          case rel => exact ⟨i + 1, by omega, by go_num, by rw [HX.out]; exact hHS.out, by rw [HX.out]; exact HBd.setCell (Nat.le_refl _) _⟩
          case measure => simp [intOf]; omega
        · obtain rfl : i = j := by omega
          have hcond : ¬ (i : Int) < (m : Int) - 1 := by omega
          have hm2 := hide hm
          clear hm
          go_wp2
          go_ret
          exact ⟨_, rfl, by rw [HP.out]; have hm3 := hm2.out; rw [hm3] at HO; exact HO, HB⟩
end Go.Proofs.Ytaonjbpaeloniaa
