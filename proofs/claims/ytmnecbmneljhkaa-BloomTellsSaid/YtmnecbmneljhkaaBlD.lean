/- Bloom: the walks of Encode, and the reference's. -/
import Derived.Test.YtmnecbmneljhkaaBlC
namespace Go.Proofs.Ytmnecbmneljhkaa
open Go.RowKit Go.Proofs.YtmnecbmneljhkaaW.PrintWords
set_option linter.unusedVariables false

/-- a filter that lies in a variable just laid, a call behind -/
theorem boxedF {w w1 : World} {K : Int} {s : Value} {ty : TypeId} (HB : Below (w.alloc (.cells #[.int .i64 K, s] ty)).heap.size (w.alloc (.cells #[.int .i64 K, s] ty)) w1) :
    w1.cell? ⟨w.heap.size, 0, none⟩ = some (.int .i64 K) ∧ w1.cell? ⟨w.heap.size, 1, none⟩ = some s ∧ Below w.heap.size w w1 := by
  have hs : w.heap.size < (w.alloc (.cells #[.int .i64 K, s] ty)).heap.size := by simp
  refine ⟨?_, ?_, ((Below.refl _ _).alloc (Nat.le_refl _) _).trans (HB.mono (by simp))⟩ <;> (rw [HB.cell hs, World.cell?_alloc_mark]; rfl)
def encF (K : Int) (xs : List UInt8) : List UInt8 := if okF K xs.length then UInt8.ofNat K.toNat :: xs else []
def encE (K : Int) (n : Nat) : Int := if okF K n then 0 else 9
theorem oneK (w : World) (K : Int) (h0 : 0 ≤ K) (h1 : K ≤ 255) : OwB (w.alloc (.cells #[.int .u8 K] 5)) w.heap.size (.slice (some ⟨w.heap.size, 0, none⟩) 1 1) [UInt8.ofNat K.toNat] := by
  have h := own_lit_of (enc := eu8) w w.heap.size 5 [UInt8.ofNat K.toNat] (Nat.le_refl _) (by simp)
  have e : (encs eu8 [UInt8.ofNat K.toNat]).toArray = #[Value.int .u8 K] := by
    simp [encs, eu8]
    omega
  rw [e] at h
  exact h
set_option maxHeartbeats 800000 in
theorem Encode_any (K : Int) (A : Option Addr) (c : Nat) (xs : List UInt8) (w : World) (hx : RdB w A c xs) :
    Calls Try.prog 22 #[fil K A xs.length c] w fun e w' => ∃ v, e = .returned (.tuple #[v, .int .i64 (encE K xs.length)]) ∧ OwB w' w.heap.size v (encF K xs) ∧ Below w.heap.size w w' := by
  have HM := may_any K A xs.length c
  by_cases hok : okF K xs.length
  · have e1 : encE K xs.length = 0 := by rw [encE, if_pos hok]
    have e2 : encF K xs = UInt8.ofNat K.toNat :: xs := by rw [encF, if_pos hok]
    rw [decide_eq_true hok] at HM
    rw [e1, e2]
    clear e1 e2
    obtain ⟨h1, h2, h3, h4⟩ := hok
    unfold fil at *
    go_enter Try.func22, Try.ntmps22
    go_wp2_with (first | (go_at_call 30; refine (HM _).mono ?_; rintro e w1 ⟨rfl, HB1⟩; obtain ⟨c0, c1, cB⟩ := boxedF HB1; clear HB1; have c2 : (w1.alloc (.cells #[.int .u8 K] 5)).cell? ⟨w.heap.size, 1, none⟩ = some (.slice A xs.length c) := pw_cell_below ((Below.refl w1.heap.size w1).alloc (Nat.le_refl _) _) c1; have HL := oneK w1 K (by omega) (by omega); have hx1 := (hx.below cB).below ((Below.refl w1.heap.size w1).alloc (Nat.le_refl _) (.cells #[.int .u8 K] 5))) | (at_builtin; refine app_row (w0 := w1) w1.heap.size rfl (.tmp 10) (.tmp 12) rfl _ [UInt8.ofNat K.toNat] xs A c rfl rfl HL hx1 ((Below.refl _ _).alloc (Nat.le_refl _) _) (by simp) (by simp; omega) ?_; intro v2 w2 HO2 HB2 hg2 hat2))
    go_ret2
    exact ⟨_, rfl, HO2.lower cB.size, cB.trans (HB2.mono cB.size)⟩
  · have e1 : encE K xs.length = 9 := by rw [encE, if_neg hok]
    have e2 : encF K xs = [] := by rw [encF, if_neg hok]
    rw [decide_eq_false hok] at HM
    rw [e1, e2]
    clear e1 e2
    unfold fil at *
    go_enter Try.func22, Try.ntmps22
    go_wp2_with (first | (go_at_call 30; refine (HM _).mono ?_; rintro e w1 ⟨rfl, HB1⟩; obtain ⟨c0, c1, cB⟩ := boxedF HB1; clear HB1))
    go_ret2
    exact ⟨_, rfl, OwB.zero _ _, cB⟩
set_option maxHeartbeats 800000 in
theorem rEncode_any (K : Int) (A : Option Addr) (c : Nat) (xs : List UInt8) (w : World) (hx : RdB w A c xs) :
    Calls Try.prog 23 #[fil K A xs.length c] w fun e w' => ∃ v, e = .returned (.tuple #[v, .int .i64 (encE K xs.length)]) ∧ OwB w' w.heap.size v (encF K xs) ∧ Below w.heap.size w w' := by
  have HM := check_any K A xs.length c
  by_cases hok : okF K xs.length
  · have e1 : encE K xs.length = 0 := by rw [encE, if_pos hok]
    have e2 : encF K xs = UInt8.ofNat K.toNat :: xs := by rw [encF, if_pos hok]
    rw [if_pos hok] at HM
    rw [e1, e2]
    clear e1 e2
    obtain ⟨h1, h2, h3, h4⟩ := hok
    unfold fil at *
    go_enter Try.func23, Try.ntmps23
    go_wp2_with (first | (go_at_call 31; refine (HM _).mono ?_; rintro e w1 ⟨rfl, HB1⟩; obtain ⟨c0, c1, cB⟩ := boxedF HB1; clear HB1; have c2 : (w1.alloc (.cells #[.int .u8 K] 5)).cell? ⟨w.heap.size, 1, none⟩ = some (.slice A xs.length c) := pw_cell_below ((Below.refl w1.heap.size w1).alloc (Nat.le_refl _) _) c1; have HL := oneK w1 K (by omega) (by omega); have hx1 := (hx.below cB).below ((Below.refl w1.heap.size w1).alloc (Nat.le_refl _) (.cells #[.int .u8 K] 5))) | (at_builtin; refine app_row (w0 := w1) w1.heap.size rfl (.tmp 10) (.tmp 12) rfl _ [UInt8.ofNat K.toNat] xs A c rfl rfl HL hx1 ((Below.refl _ _).alloc (Nat.le_refl _) _) (by simp) (by simp; omega) ?_; intro v2 w2 HO2 HB2 hg2 hat2))
    go_ret2
    exact ⟨_, rfl, HO2.lower cB.size, cB.trans (HB2.mono cB.size)⟩
  · have e1 : encE K xs.length = 9 := by rw [encE, if_neg hok]
    have e2 : encF K xs = [] := by rw [encF, if_neg hok]
    rw [if_neg hok] at HM
    rw [e1, e2]
    clear e1 e2
    unfold fil at *
    go_enter Try.func23, Try.ntmps23
    go_wp2_with (first | (go_at_call 31; refine (HM _).mono ?_; rintro e w1 ⟨rfl, HB1⟩; obtain ⟨c0, c1, cB⟩ := boxedF HB1; clear HB1))
    go_ret2
    exact ⟨_, rfl, OwB.zero _ _, cB⟩
end Go.Proofs.Ytmnecbmneljhkaa
