/- The walks of Size and Put of numbers as octets, and the reference's. -/
import Derived.Test.YtaonjbpaeloniaaVi
import Derived.Test.YtaonjbpaeloniaaPlain
import Derived.Test.YtaonjbpaeloniaaOwn
import Derived.Test.YtaonjbpaeloniaaClone
import Derived.StillTailTactics
import Derived.Test.YtaonjbpaeloniaaSh_math_bits_Len64
import Derived.Test.YtaonjbpaeloniaaSh_math_bits_LeadingZeros8
namespace Go.Proofs.Ytaonjbpaeloniaa
open Go.RowKit Go.Proofs.YtaonjbpaeloniaaW.PrintWords
set_option linter.unusedVariables false

theorem Size_any (n : Nat) (hn : n < 18446744073709551616) (w : World) : Calls Try.prog 37 #[.int .u64 (n : Int)] w fun e w' => e = .returned (.int .i64 (vsize n : Int)) ∧ w = w' := by
  have hv := hide (vsize_bits n hn)
  have hb : Lib.bitLen n ≤ 64 := Lib.bitLen_le n 64 (by omega) hn
  have hL := bits_Len64 (n : Int) w (by omega) (by omega)
  rw [Int.toNat_natCast] at hL
  generalize Lib.bitLen n = b at *
  go_enter Try.func37, Try.ntmps37
  go_wp2_with (first | (go_at_call 44; refine hL.mono ?_; rintro e w' ⟨rfl, rfl⟩))
  all_goals (go_ret; refine ⟨congrArg Ending.returned (congrArg (Value.int .i64) ?_), rfl⟩; rw [hv.out])
  have e1 : ∀ x y, Nat.min x y = min x y := fun _ _ => rfl
  have e2 : ∀ x y, Nat.max x y = max x y := fun _ _ => rfl
  rw [e1, e2]
  omega

theorem be_set (k n : Nat) (hk : k < 9) : (List.replicate (9 - k) (0 : UInt8) ++ be k n).set (8 - k) (UInt8.ofNat (n / 256 ^ k)) = List.replicate (9 - (k + 1)) 0 ++ be (k + 1) n := by
  rw [show 9 - k = (9 - (k + 1)) + 1 by omega, List.replicate_succ', List.append_assoc, List.set_append_right _ _ (by simp)]
  simp only [List.length_replicate, show 8 - k - (9 - (k + 1)) = 0 by omega, List.singleton_append, List.set_cons_zero]
  rfl
def cells8 (xs : List UInt8) : Array Value := (xs.map eu8).toArray
theorem cells8_set (xs : List UInt8) (i : Nat) (x : UInt8) : (cells8 xs).setIfInBounds i (.int .u8 (x.toNat : Int)) = cells8 (xs.set i x) := by
  apply Array.ext'
  simp [cells8, List.map_set, eu8]
theorem cells8_get (xs : List UInt8) (i : Nat) (h : i < xs.length) : (cells8 xs)[i]? = some (.int .u8 ((xs.getD i 0).toNat : Int)) := by
  simp [cells8, List.getElem?_map, List.getElem?_eq_getElem h, List.getD_eq_getElem?_getD, eu8]
theorem shr_byte (n k : Nat) : (n : Int) / 2 ^ (8 * k) % 256 = ((UInt8.ofNat (n / 256 ^ k)).toNat : Int) := by
  have e : (2 : Int) ^ (8 * k) = ((256 ^ k : Nat) : Int) := by rw [Int.pow_mul]; simp
  rw [e, UInt8.toNat_ofNat']
  omega
theorem lead_int (k : Nat) (h1 : 1 ≤ k) (h9 : k ≤ 9) (j : Nat) (hj : j + 1 = k) : bits .xor .u8 (if IntKind.u8.signed = true then -1 else IntKind.u8.max) ((255 : Int) / 2 ^ j) = ((lead k).toNat : Int) := by
  have hk : ∀ j : Fin 9, ((255 : Int) / 2 ^ j.val) = ((UInt8.ofNat (255 / 2 ^ j.val)).toNat : Int) := by decide +kernel
  subst hj
  rw [hk ⟨j, by omega⟩, not_u8]
  rfl
theorem or_u8 (x y : UInt8) : bits .or .u8 (x.toNat : Int) (y.toNat : Int) = ((x ||| y).toNat : Int) := by
  rw [u8_or_nat _ _ x.toNat_lt y.toNat_lt, UInt8.toNat_or]
theorem and_u8 (x y : UInt8) : bits .and .u8 (x.toNat : Int) (y.toNat : Int) = ((x &&& y).toNat : Int) := by
  rw [u8_and_nat _ _ x.toNat_lt y.toNat_lt, UInt8.toNat_and]
theorem be_drop (n : Nat) (j i : Nat) : (be (i + j) n).drop i = be j n := by
  induction i with
  | zero => simp
  | succ i ih => rw [show i + 1 + j = (i + j) + 1 by omega, be, List.drop_succ_cons, ih]
/-- octets of a block, from a place on -/
theorem RdB.blk {w : World} {g : Nat} {t : TypeId} {xs : List UInt8} (h : w.heap[g]? = some (.cells (cells8 xs) t (0, 0))) (i : Nat) (hi : i ≤ xs.length) (hm : xs.length ≤ 9223372036854775807) : RdB w (some ⟨g, i, none⟩) (xs.length - i) (xs.drop i) := by
  refine ⟨by simp, rfl, by simp; omega, fun _ => ⟨_, rfl, fun j hj => ?_⟩⟩
  have e : (⟨g, i, none⟩ : Addr).add j = ⟨g, i + j, none⟩ := by unfold Addr.add; split <;> simp_all
  simp only [List.length_drop] at hj
  rw [e, blk_cell h, cells8_get _ _ (by omega)]
  simp [eu8, List.getD_eq_getElem?_getD]
theorem slice_nine (g m : Nat) (h1 : 1 ≤ m) (h9 : m ≤ 9) (W : World) : (Instr.sliceAt 71 (.pointer (some ⟨g, 0, none⟩)) (some (.int .i64 (9 - (m : Int)))) none none).run Try.prog W = .ok (.slice (some ⟨g, 9 - m, none⟩) m m) W := by
  obtain ⟨i0, hi, hz0, hz1, hz2⟩ := info_parts info_u8
  have hel : Try.prog.elem 71 = 5 := by kernel_rfl
  have har : Try.prog.arrayLen 71 = 9 := by kernel_rfl
  have hl : (9 - (m : Int)).toNat = 9 - m := by omega
  rw [run_sliceAt_array_l W 71 ⟨g, 0, none⟩ (by rw [hel, har]; exact Try.underlying71) .i64 _ (by omega) (by rw [har]; omega), hel, har, hl]
  simp [sizeOf, typeInfo, hi, hz1, slicedAt, Result.andThen]
  rw [if_neg (by omega), add_plain]
  exact ⟨rfl, by omega⟩
set_option maxRecDepth 100000 in
set_option maxHeartbeats 400000 in
theorem Put_any (n : Nat) (hn : n < 18446744073709551616) (w : World) : Calls Try.prog 24 #[.int .u64 (n : Int)] w fun e w' => ∃ v, e = .returned v ∧ OwB w' w.heap.size v (put n) ∧ Below w.heap.size w w' := by
  go_enter Try.func24, Try.ntmps24
  go_wp2
  go_loopw [7] (fun i wr => ∃ k : Nat, k ≤ 9 ∧ i = .int .i64 k ∧ wr.heap[w.heap.size]? = some (.cells (cells8 (List.replicate (9 - k) 0 ++ be k n)) 71 (0, 0)) ∧ Below w.heap.size w wr) (fun i _ => 9 - (intOf i).toNat)
  case atStart => exact ⟨0, by omega, rfl, heap_alloc_new w _, (Below.refl _ _).alloc (Nat.le_refl _) _⟩
  case round =>
    obtain ⟨k, hk, rfl, hblk, HB⟩ := hrel
    by_cases hlt : k < 9
    · have hfr := blk_frozen hblk (8 - k)
      have hcl := blk_cell hblk (8 - k)
      have hnew := blk_set hblk (8 - k) (.int .u8 ((UInt8.ofNat (n / 256 ^ k)).toNat : Int))
      rw [cells8_set, be_set k n hlt] at hnew
      rw [cells8_get _ _ (by simp [be_length]; omega)] at hcl
      have hh := hide hnew
      clear hnew
      go_wp2
      go_roundw
      have HV := shr_byte n k
      case rel => exact ⟨k + 1, by omega, by go_num, by rw [HV]; exact hh.out, by rw [HV]; exact HB.setCell (Nat.le_refl _) _⟩
      case measure => simp [intOf]; omega
    · obtain rfl : k = 9 := by omega
      obtain ⟨j, hmv⟩ : ∃ j, vsize n = j + 1 := ⟨vsize n - 1, by have := vsize_pos n; omega⟩
      obtain ⟨m, hj⟩ : ∃ m, j + 1 = m := ⟨_, rfl⟩
      rw [hj] at hmv
      have h1 := vsize_pos n
      have h9 := vsize_le n
      have hS := Size_any n hn
      rw [hmv] at h1 h9 hS
      have hrd := RdB.blk hblk (9 - m) (by simp [be_length]) (by simp [be_length])
      have hdr : (List.replicate (9 - 9) (0 : UInt8) ++ be 9 n).drop (9 - m) = be m n := by
        have := be_drop n m (9 - m)
        rw [show 9 - m + m = 9 by omega] at this
        simpa using this
      rw [hdr, show (List.replicate (9 - 9) (0 : UInt8) ++ be 9 n).length - (9 - m) = m by simp [be_length]; omega] at hrd
      have hlb : (be m n).length = m := be_length m n
      have hC := Clone_any _ _ _ wr hrd (by omega)
      rw [hlb] at hC
      have hsl := slice_nine w.heap.size m h1 h9
      go_wp2_with (first | (go_at_call 37; refine (hS _).mono ?_; rintro e w2 ⟨rfl, rfl⟩) | (go_at_call 27; refine hC.mono ?_; rintro e w3 ⟨v3, rfl, HO3, HB3⟩))
      have hl0 : 0 < (be m n).length := by omega
      have HBd : Below w.heap.size w w3.drew := (HB.trans (HB3.mono HB.size)).drew
      have HOd : OwB w3.drew wr.heap.size v3 (be m n) := HO3.below (Below.refl _ _).drew
      obtain ⟨g, cap, rfl, hgb, hgl, hcell, hfr, hset⟩ := HOd.set_ 0 hl0
      obtain ⟨HS, HG⟩ := hset (head n)
      have hb0 : (be m n).getD 0 0 = UInt8.ofNat (n / 256 ^ j) := by subst hj; rfl
      rw [hb0] at hcell
      have hput : (be m n).set 0 (head n) = put n := by rw [put, hmv]; subst hj; rfl
      rw [hput] at HS
      have hHS := hide HS
      have hHG := hide HG
      have hcd : w3.cell? ⟨g, 0, none⟩ = some (.int .u8 ((UInt8.ofNat (n / 256 ^ j)).toNat : Int)) := hcell
      have HX : Hid (bits .or .u8 ((UInt8.ofNat (n / 256 ^ j)).toNat : Int) (bits .xor .u8 IntKind.u8.max ((255 : Int) / 2 ^ j)) = ((head n).toNat : Int)) := by
        have hli : bits .xor .u8 IntKind.u8.max ((255 : Int) / 2 ^ j) = ((lead m).toNat : Int) := lead_int m h1 h9 j hj
        rw [hli, or_u8, head, hmv, show m - 1 = j by omega]; rfl
      rw [hlb]
      generalize UInt8.ofNat (n / 256 ^ j) = x at *
      clear HS HG hset hput hl0 hmv hdr hrd hblk hC hsl hS hb0 HO3 HOd
      have hm0 : 0 < m := by omega
      have hmj : (m : Int) - 1 = (j : Int) := by omega
      have hwj : IntKind.i64.wrap (j : Int) = (j : Int) := by rw [IntKind.wrap_i64]; omega
      have hj8 : (j : Int) ≤ 8 := by omega
      have hj64 : (j : Int) ≤ 64 := by omega
      go_still_tail 9, (by kernel_rfl)
      change wpList _ _ _ _ _ w3.drew
      generalize w3.drew = wd at *
      go_wp2
      go_ret
      exact ⟨_, rfl, by rw [HX.out]; simpa [hlb] using hHS.out.lower HB.size, by rw [HX.out]; exact HBd.setCell (Nat.le_trans HB.size hgb) _⟩
end Go.Proofs.Ytaonjbpaeloniaa
