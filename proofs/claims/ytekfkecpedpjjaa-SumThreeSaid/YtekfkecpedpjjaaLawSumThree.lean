/- The walk of SumThree. -/
import Derived.Test.YtekfkecpedpjjaaSumA
import Derived.Test.YtekfkecpedpjjaaOwn
import Derived.StillTailTactics
namespace Go.Proofs.Ytekfkecpedpjjaa
open Go.RowKit Go.Proofs.YtekfkecpedpjjaaW.PrintWords
set_option linter.unusedVariables false

def xor3 (xs ys zs : List UInt8) : List UInt8 := List.zipWith (· ^^^ ·) (List.zipWith (· ^^^ ·) xs ys) zs
theorem bv_xor (x y : UInt8) : bv (x ^^^ y) = bv x ^^^ bv y := by
  unfold bv
  rw [UInt8.toNat_xor, BitVec.ofNat_xor]
theorem xor3_length (n : Nat) (xs ys zs : List UInt8) (hx : xs.length = n) (hy : ys.length = n) (hz : zs.length = n) : (xor3 xs ys zs).length = n := by
  simp [xor3, hx, hy, hz]
theorem map_bv_zip (xs ys : List UInt8) : (List.zipWith (· ^^^ ·) xs ys).map bv = List.zipWith (· ^^^ ·) (xs.map bv) (ys.map bv) := by
  induction xs generalizing ys with
  | nil => simp
  | cons x xs ih => cases ys with
    | nil => simp
    | cons y ys => simp [ih, bv_xor]
theorem crc_xor3 (n : Nat) (xs ys zs : List UInt8) (hx : xs.length = n) (hy : ys.length = n) (hz : zs.length = n) : crc ones (xor3 xs ys zs) = crc ones xs ^^^ crc ones ys ^^^ crc ones zs := by
  unfold crc xor3
  rw [map_bv_zip, map_bv_zip]
  have h1 := Tk.ext_xor ones ones (xs.map bv) (ys.map bv) (by simp [hx, hy])
  have h2 := Tk.ext_xor 0#32 ones (List.zipWith (· ^^^ ·) (xs.map bv) (ys.map bv)) (zs.map bv) (by simp [hx, hy, hz])
  rw [BitVec.xor_self] at h1
  rw [BitVec.zero_xor] at h2
  rw [h2, h1]
theorem xor3_get (n : Nat) (xs ys zs : List UInt8) (hx : n ≤ xs.length) (hy : n ≤ ys.length) (hz : n ≤ zs.length) (k : Nat) (hk : k < n) :
    xor3 (xs.take (k + 1)) (ys.take (k + 1)) (zs.take (k + 1)) = xor3 (xs.take k) (ys.take k) (zs.take k) ++ [(xs.getD k 0 ^^^ ys.getD k 0) ^^^ zs.getD k 0] := by
  have e : ∀ l : List UInt8, n ≤ l.length → l.take (k + 1) = l.take k ++ [l.getD k 0] := fun l hl => by
    rw [List.take_succ_eq_append_getElem (by omega)]
    simp [List.getD_eq_getElem?_getD, List.getElem?_eq_getElem (show k < l.length by omega)]
  rw [e xs hx, e ys hy, e zs hz]
  unfold xor3
  rw [List.zipWith_append (by simp; omega), List.zipWith_append (by simp; omega)]
  rfl

set_option maxHeartbeats 800000 in
theorem three_walk (A : Option Addr) (ca : Nat) (xs : List UInt8) (B : Option Addr) (cb : Nat) (ys : List UInt8) (C : Option Addr) (cc : Nat) (zs : List UInt8) (w : World) (hx : RdB w A ca xs) (lx : xs.length ≤ 140737488351232) (hy : RdB w B cb ys) (ly : ys.length ≤ 140737488351232) (hz : RdB w C cc zs) (lz : zs.length ≤ 140737488351232) :
    Calls Try.prog 4 #[.slice A xs.length ca, .slice B ys.length cb, .slice C zs.length cc] w fun e w' => e = .returned (.bool true) ∧ Below w.heap.size w w' := by
  obtain ⟨n, hn⟩ : ∃ n, Nat.min (Nat.min xs.length ys.length) zs.length = n := ⟨_, rfl⟩
  have hnx : n ≤ xs.length := by have h1 := Nat.min_le_left (Nat.min xs.length ys.length) zs.length; have h2 := Nat.min_le_left xs.length ys.length; simp only [Nat.min_def] at *; omega
  have hny : n ≤ ys.length := by simp only [Nat.min_def] at *; split at hn <;> split at hn <;> omega
  have hnz : n ≤ zs.length := by simp only [Nat.min_def] at *; split at hn <;> split at hn <;> omega
  have hHN := hide hn
  clear hn
  have hmk := make_bytes n (by omega)
  go_enter Try.func4, Try.ntmps4
  go_wp2_with (first | (go_at_call 9; refine (alive_any _).mono ?_; rintro e w1 ⟨rfl, HB1⟩) | ((with_reducible apply wp_min3 (k := .i64) (m := xs.length) (n := ys.length) (l := zs.length)); (case ho => rfl); (case hgd => rfl); (case hx => rfl); (case hy => rfl); (case hz => rfl); rw [hHN.out]))
  have HO1 := OwB.made w1 w.heap.size n HB1.size (by omega)
  have HB2 := HB1.alloc HB1.size (.cells (madeCells #[.int .u8 0] n) 5)
  have hx1 := (hx.below HB1)
  have hy1 := (hy.below HB1)
  have hz1 := (hz.below HB1)
  go_loopw [9] (fun i wr => ∃ k : Nat, k ≤ n ∧ i = .int .i64 k ∧ Below w.heap.size w wr ∧ OwB wr w.heap.size (.slice (some ⟨w1.heap.size, 0, none⟩) n n) (xor3 (xs.take k) (ys.take k) (zs.take k) ++ List.replicate (n - k) 0)) (fun i _ => n - (intOf i).toNat)
  case atStart => exact ⟨0, by omega, rfl, HB2, by simpa [xor3] using HO1⟩
  case round =>
    obtain ⟨k, hk, rfl, HB, HO⟩ := hrel
    obtain ⟨L, hL⟩ : ∃ L, xor3 (xs.take k) (ys.take k) (zs.take k) ++ List.replicate (n - k) 0 = L := ⟨_, rfl⟩
    have hl3 : (xor3 (xs.take k) (ys.take k) (zs.take k)).length = k := xor3_length k _ _ _ (by simp; omega) (by simp; omega) (by simp; omega)
    have hlL : L.length = n := by rw [← hL]; simp [hl3]; omega
    rw [hL] at HO
    by_cases hlt : k < n
    · have HBd : Below w.heap.size w wr.drew := HB.drew
      have HOd : OwB wr.drew w.heap.size (.slice (some ⟨w1.heap.size, 0, none⟩) n n) L := HO.below (Below.refl _ _).drew
      obtain ⟨g, cap, hv, hgb, hgl, hcell, hfr, hst⟩ := HOd.set_ k (by omega)
      obtain ⟨rfl, rfl⟩ : w1.heap.size = g ∧ n = cap := by injection hv with h1 _ h3; injection h1 with h1; injection h1 with h1; exact ⟨h1, h3⟩
      obtain ⟨HS, HG⟩ := hst ((xs.getD k 0 ^^^ ys.getD k 0) ^^^ zs.getD k 0)
      have hset : L.set k ((xs.getD k 0 ^^^ ys.getD k 0) ^^^ zs.getD k 0) = xor3 (xs.take (k + 1)) (ys.take (k + 1)) (zs.take (k + 1)) ++ List.replicate (n - (k + 1)) 0 := by
        rw [xor3_get n xs ys zs hnx hny hnz k hlt, ← hL, List.set_append_right _ _ (by omega), hl3, show n - k = (n - (k + 1)) + 1 by omega, List.replicate_succ, Nat.sub_self]
        simp
      rw [hset] at HS
      have hHS := hide HS
      have hHG := hide HG
      have HX := hide (xor_u8 (xs.getD k 0) (ys.getD k 0))
      have HY := hide (xor_u8 (xs.getD k 0 ^^^ ys.getD k 0) (zs.getD k 0))
      obtain ⟨ax, rfl, hcx⟩ := (hx.below HB).at_ k (by omega)
      obtain ⟨ay, rfl, hcy⟩ := (hy.below HB).at_ k (by omega)
      obtain ⟨az, rfl, hcz⟩ := (hz.below HB).at_ k (by omega)
      obtain ⟨x, ex⟩ : ∃ x, xs.getD k 0 = x := ⟨_, rfl⟩
      obtain ⟨y, ey⟩ : ∃ y, ys.getD k 0 = y := ⟨_, rfl⟩
      obtain ⟨z, ez⟩ : ∃ z, zs.getD k 0 = z := ⟨_, rfl⟩
      rw [ex] at hcx HX HY hHS hHG
      rw [ey] at hcy HX HY hHS hHG
      rw [ez] at hcz HY hHS hHG
      have hkx : k < xs.length := by omega
      have hky : k < ys.length := by omega
      have hkz : k < zs.length := by omega
      clear hlL HS HG hst hset hL hl3 ex ey ez
      go_wp2
      go_still_tail 17, (by kernel_rfl)
      change wpList _ _ _ _ _ wr.drew
      generalize wr.drew = wd at *
      go_wp2
      go_roundw
      case rel => exact ⟨k + 1, by omega, by go_num, by rw [HX.out, HY.out]; exact HBd.grown hHG.out HBd.size (by simpa using hgb), by rw [HX.out, HY.out]; exact hHS.out⟩
      case measure => simp [intOf]; omega
    · obtain rfl : k = n := by omega
      have HS3 := hide (crc_xor3 k (xs.take k) (ys.take k) (zs.take k) (by simp; omega) (by simp; omega) (by simp; omega))
      simp only [Nat.sub_self, List.replicate_zero, List.append_nil] at hL
      subst hL
      clear hl3
      have hl3 : (xor3 (xs.take k) (ys.take k) (zs.take k)).length = k := by simpa using hlL
      obtain ⟨A3, c3, hv, hr3⟩ := HO.rd
      rw [hl3] at hv
      obtain ⟨rfl, rfl⟩ : some ⟨w1.heap.size, 0, none⟩ = A3 ∧ k = c3 := by injection hv with h1 _ h3; exact ⟨h1, h3⟩
      obtain ⟨q, hq⟩ : ∃ q, xor3 (xs.take k) (ys.take k) (zs.take k) = q := ⟨_, rfl⟩
      rw [hq] at hr3 hl3 HS3
      clear hv hq HO hlL
      have rx := (hx.below HB).take k hnx
      have ry := (hy.below HB).take k hny
      have rz := (hz.below HB).take k hnz
      have lx1 : (xs.take k).length = k := by simp; omega
      have ly1 : (ys.take k).length = k := by simp; omega
      have lz1 : (zs.take k).length = k := by simp; omega
      have cx := hx.le
      have cy := hy.le
      have cz := hz.le
      generalize xs.take k = x at *
      generalize ys.take k = y at *
      generalize zs.take k = z at *
      have hsl : ∀ (W : World) (A : Option Addr) (m c : Nat), k ≤ c → (Instr.slice 23 (.slice A m c) none (some (.int .i64 (k : Int))) none).run Try.prog W = .ok (.slice A k c) W := fun W A m c hc => slice_hi 23 5 Try.underlying23 (i := _) rfl rfl A m c k hc W
      have sQ : ∀ W : World, Below wr.heap.size wr W → Calls Try.prog 12 #[.slice (some ⟨w1.heap.size, 0, none⟩) k k] W fun e w' => e = .returned (.int .u32 ((crc ones q).toNat : Int)) ∧ W = w' := fun W h => by have := Sum_any _ _ _ _ (hr3.below h); rwa [hl3] at this
      have sX : ∀ W : World, Below wr.heap.size wr W → Calls Try.prog 12 #[.slice A k ca] W fun e w' => e = .returned (.int .u32 ((crc ones x).toNat : Int)) ∧ W = w' := fun W h => by have := Sum_any _ _ _ _ (rx.below h); rwa [lx1] at this
      have sY : ∀ W : World, Below wr.heap.size wr W → Calls Try.prog 12 #[.slice B k cb] W fun e w' => e = .returned (.int .u32 ((crc ones y).toNat : Int)) ∧ W = w' := fun W h => by have := Sum_any _ _ _ _ (ry.below h); rwa [ly1] at this
      have sZ : ∀ W : World, Below wr.heap.size wr W → Calls Try.prog 12 #[.slice C k cc] W fun e w' => e = .returned (.int .u32 ((crc ones z).toNat : Int)) ∧ W = w' := fun W h => by have := Sum_any _ _ _ _ (rz.below h); rwa [lz1] at this
      go_wp2
      refine wp_region_below wr.heap.size wr (Below.refl _ _) (by kernel_rfl) (by kernel_rfl) ?_
      have HX := hide (xor_u32 (crc ones x) (crc ones y))
      have HY := hide (xor_u32 (crc ones x ^^^ crc ones y) (crc ones z))
      repeat (go_big_quiet_step ((intro hb; first | rfl | (refine (sQ _ hb).mono ?_; rintro e w1 ⟨rfl, rfl⟩; exact ⟨rfl, hb⟩) | (refine (sX _ hb).mono ?_; rintro e w1 ⟨rfl, rfl⟩; exact ⟨rfl, hb⟩) | (refine (sY _ hb).mono ?_; rintro e w1 ⟨rfl, rfl⟩; exact ⟨rfl, hb⟩) | (refine (sZ _ hb).mono ?_; rintro e w1 ⟨rfl, rfl⟩; exact ⟨rfl, hb⟩))))
      refine wpQuiet_nil ?_
      intro w2 HB2
      go_wp2
      go_ret
      refine ⟨?_, HB.trans (HB2.mono HB.size)⟩
      rw [HX.out, HY.out, HS3.out]
      simp
end Go.Proofs.Ytekfkecpedpjjaa
