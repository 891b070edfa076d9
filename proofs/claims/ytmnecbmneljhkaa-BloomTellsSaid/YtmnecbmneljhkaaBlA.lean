/- Bloom: the walks of Hash, and the reference's. -/
import Derived.Test.YtmnecbmneljhkaaBase
import Derived.Laws.BitsAllLaws
import Derived.Laws.BitsLemmas
namespace Go.Proofs.Ytmnecbmneljhkaa
open Go.RowKit Go.Proofs.YtmnecbmneljhkaaW.PrintWords
set_option linter.unusedVariables false

def fnv1 (h : BitVec 64) (x : UInt8) : BitVec 64 := (h ^^^ BitVec.ofNat 64 x.toNat) * 0x100000001b3#64
def fnv (h : BitVec 64) (xs : List UInt8) : BitVec 64 := xs.foldl fnv1 h
def basis : BitVec 64 := 0xcbf29ce484222325#64
def hash (s : ByteArray) : BitVec 64 := fnv basis s.data.toList
theorem fnv_snoc (h : BitVec 64) (xs : List UInt8) (k : Nat) (hk : k < xs.length) : fnv h (xs.take (k + 1)) = fnv1 (fnv h (xs.take k)) (xs.getD k 0) := by
  rw [List.take_succ_eq_append_getElem hk]
  unfold fnv
  rw [List.foldl_append]
  simp [List.getD_eq_getElem?_getD, List.getElem?_eq_getElem hk]
theorem fnv_int (h : BitVec 64) (x : UInt8) : bits .xor .u64 (h.toNat : Int) (x.toNat : Int) * 1099511628211 % 18446744073709551616 = ((fnv1 h x).toNat : Int) := by
  have hx := x.toNat_lt
  have h1 : x.toNat < 18446744073709551616 := Nat.lt_of_lt_of_le hx (by decide)
  rw [u64_xor_nat h.toNat x.toNat h.isLt h1]
  unfold fnv1
  rw [BitVec.toNat_mul, BitVec.toNat_xor, BitVec.toNat_ofNat, Nat.mod_eq_of_lt h1]
  simp
theorem fnv_int' (h : BitVec 64) (x : UInt8) : IntKind.u64.wrap (bits .xor .u64 (h.toNat : Int) (IntKind.u64.wrap (x.toNat : Int)) * 1099511628211) = ((fnv1 h x).toNat : Int) := by
  have hx := x.toNat_lt
  have e : IntKind.u64.wrap (x.toNat : Int) = (x.toNat : Int) := by rw [IntKind.wrap_u64]; omega
  rw [e, IntKind.wrap_u64, fnv_int]
set_option maxHeartbeats 400000 in
theorem Hash_any (s : ByteArray) (hs : s.size ≤ 140737488355328) (w : World) : Calls Try.prog 15 #[.string s] w fun e w' => e = .returned (.int .u64 ((hash s).toNat : Int)) ∧ Below w.heap.size w w' := by
  have kb := fun W => print_bytes (P := Try.prog) 9 23 5 Try.underlying9 Try.underlying23 Try.underlying5 s W
  have hr := bytes_reads w 5 s (by omega)
  have hB := bytes_below (Below.refl w.heap.size w) (Nat.le_refl _) 5 s
  have hlen : s.data.toList.length = s.size := data_length s
  go_enter Try.func15, Try.ntmps15
  go_wp2
  generalize Lib.bytesWorld w 5 s = w1 at *
  go_loop [3, 9] (fun h i => ∃ k : Nat, k ≤ s.size ∧ i = .int .i64 (k : Int) ∧ h = .int .u64 ((fnv basis (s.data.toList.take k)).toNat : Int)) (fun _ i => s.size - (intOf i).toNat)
  case atStart => exact ⟨0, by omega, rfl, rfl⟩
  case round =>
    obtain ⟨k, hk, rfl, rfl⟩ := hrel
    by_cases hlt : k < s.size
    · obtain ⟨ad, had, hc⟩ := hr.at_ (k : Int) (by omega) (by omega)
      injection had with had
      subst had
      have hrd : rd (bytesOf s) (k : Int) = ((s.data.toList.getD k 0).toNat : Int) := by
        rw [rd, Int.toNat_natCast, bytesOf]
        simp [List.getD_eq_getElem?_getD, List.getElem?_map, List.getElem?_eq_getElem (show k < s.data.toList.length by omega)]
      rw [hrd] at hc
      have HS := hide (fnv_snoc basis s.data.toList k (by omega))
      obtain ⟨x, hx⟩ : ∃ x, s.data.toList.getD k 0 = x := ⟨_, rfl⟩
      rw [hx] at hc HS
      obtain ⟨h, hh⟩ : ∃ h, fnv basis (s.data.toList.take k) = h := ⟨_, rfl⟩
      rw [hh] at HS ⊢
      have HF := hide (fnv_int' h x)
      clear hrd hx hh
      rw [add_plain, Int.toNat_natCast] at hc
      go_wp2
      go_round
      case rel => exact ⟨k + 1, by omega, by go_num, by rw [HF.out, HS.out]⟩
      case measure => simp [intOf]; omega
    · obtain rfl : k = s.size := by omega
      have hfin : fnv basis (s.data.toList.take s.size) = hash s := by rw [List.take_of_length_le (by omega)]; rfl
      rw [hfin]
      go_wp2
      go_ret
      exact ⟨rfl, hB⟩
theorem oct_at (s : ByteArray) (k : Nat) (h : k < s.size) : s.data.toList.getD k 0 = s[k]'h := by
  have hl : k < s.data.toList.length := by rw [data_length]; exact h
  rw [List.getD_eq_getElem?_getD, List.getElem?_eq_getElem hl]
  simp [ByteArray.getElem_eq_getElem_data]
set_option maxHeartbeats 400000 in
theorem rHash_any (s : ByteArray) (hs : s.size ≤ 140737488355328) (w : World) : Calls Try.prog 16 #[.string s] w fun e w' => e = .returned (.int .u64 ((hash s).toNat : Int)) ∧ w = w' := by
  have hlen : s.data.toList.length = s.size := data_length s
  go_enter Try.func16, Try.ntmps16
  go_wp2
  go_loop [3, 4] (fun h i => ∃ k : Nat, k ≤ s.size ∧ i = .int .i64 (k : Int) ∧ h = .int .u64 ((fnv basis (s.data.toList.take k)).toNat : Int)) (fun _ i => s.size - (intOf i).toNat)
  case atStart => exact ⟨0, by omega, rfl, rfl⟩
  case round =>
    obtain ⟨k, hk, rfl, rfl⟩ := hrel
    by_cases hlt : k < s.size
    · have HS := hide (fnv_snoc basis s.data.toList k (by omega))
      have hx := oct_at s k hlt
      rw [hx] at HS
      obtain ⟨h, hh⟩ : ∃ h, fnv basis (s.data.toList.take k) = h := ⟨_, rfl⟩
      rw [hh] at HS ⊢
      have HF := hide (fnv_int' h (s[k]'hlt))
      have hki : (k : Int) < (s.size : Int) := by omega
      clear hx hh
      go_wp2
      go_round
      case rel => exact ⟨k + 1, by omega, by go_num, by rw [HF.out, HS.out]⟩
      case measure => simp [intOf]; omega
    · obtain rfl : k = s.size := by omega
      have hfin : fnv basis (s.data.toList.take s.size) = hash s := by rw [List.take_of_length_le (by omega)]; rfl
      rw [hfin]
      go_wp2
      go_ret
      exact ⟨rfl, rfl⟩
end Go.Proofs.Ytmnecbmneljhkaa
