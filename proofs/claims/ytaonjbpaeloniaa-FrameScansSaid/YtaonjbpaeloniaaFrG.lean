/- Frame: rows of records compared. -/
import Derived.Test.YtaonjbpaeloniaaFrF
import Derived.Test.YtaonjbpaeloniaaFrA
import Derived.Test.YtaonjbpaeloniaaRecs
namespace Go.Proofs.Ytaonjbpaeloniaa
open Go.RowKit Go.Proofs.YtaonjbpaeloniaaW.PrintWords
set_option linter.unusedVariables false

theorem take_eq_snoc {α : Type} {rs ss : List α} (z : α) (k : Nat) (h1 : k < rs.length) (h2 : k < ss.length) (h : rs.take k = ss.take k) : rs.take (k + 1) = ss.take (k + 1) ↔ rs.getD k z = ss.getD k z := by
  rw [List.take_succ_eq_append_getElem h1, List.take_succ_eq_append_getElem h2, h, List.getD_eq_getElem?_getD, List.getD_eq_getElem?_getD, List.getElem?_eq_getElem h1, List.getElem?_eq_getElem h2, List.append_cancel_left_eq]
  simp
set_option maxRecDepth 100000 in
set_option maxHeartbeats 800000 in
theorem sameAll_any (A B : Option Addr) (c d : Nat) (rs ss : List (Int × List UInt8)) (w : World) (hA : RdR w A c rs) (hB : RdR w B d ss) :
    Calls Try.prog 21 #[.slice A rs.length c, .slice B ss.length d] w fun e w' => e = .returned (.bool (decide (rs = ss))) ∧ Below w.heap.size w w' := by
  have m1 := hA.max
  have m2 := hB.max
  by_cases hl : rs.length = ss.length
  · obtain ⟨n, hn⟩ : ∃ n, rs.length = n := ⟨_, rfl⟩
    have hn2 : ss.length = n := by omega
    rw [hn, hn2]
    have HN := hide hn
    have HN2 := hide hn2
    obtain ⟨z, hz⟩ : ∃ z, decide (rs = ss) = z := ⟨_, rfl⟩
    have HZ := hide hz
    rw [hz]
    clear hl hn2 hz
    rw [hn] at m1
    clear hn m2
    go_enter Try.func21, Try.ntmps21
    go_wp2
    go_loopw [5] (fun i wr => ∃ k : Nat, k ≤ n ∧ i = .int .i64 (k : Int) ∧ Below w.heap.size w wr ∧ rs.take k = ss.take k) (fun i _ => n - (intOf i).toNat)
    case atStart => exact ⟨0, by omega, rfl, Below.refl _ _, by simp⟩
    case round =>
      obtain ⟨k, hk, rfl, HB, ht⟩ := hrel
      by_cases hlt : k < n
      · obtain ⟨ad, A1, c1, rfl, e0, e1, er⟩ := hA.at_ k (by rw [HN.out]; exact hlt)
        obtain ⟨bd, B1, d1, rfl, f0, f1, fr⟩ := hB.at_ k (by rw [HN2.out]; exact hlt)
        have hlti : (k : Int) < (n : Int) := by omega
        have HT := hide (take_eq_snoc zRec k (by rw [HN.out]; exact hlt) (by rw [HN2.out]; exact hlt) ht)
        generalize rs.getD k zRec = x at *
        generalize ss.getD k zRec = y at *
        obtain ⟨x1, x2⟩ := x
        obtain ⟨y1, y2⟩ := y
        simp only at e0 e1 er f0 f1 fr
        have l0 := World.block_lt_of_cell? w _ e0
        have l1 := World.block_lt_of_cell? w _ e1
        have l2 := World.block_lt_of_cell? w _ f0
        have l3 := World.block_lt_of_cell? w _ f1
        have hSk : ∀ W, Below w.heap.size w W → W.cell? (ad.add (k * 2)) = some (.int .i64 x1) ∧ W.cell? ⟨(ad.add (k * 2)).block, (ad.add (k * 2)).off + 1, none⟩ = some (.slice A1 x2.length c1) ∧ W.cell? (bd.add (k * 2)) = some (.int .i64 y1) ∧ W.cell? ⟨(bd.add (k * 2)).block, (bd.add (k * 2)).off + 1, none⟩ = some (.slice B1 y2.length d1) := fun W h => ⟨(h.cell l0).trans e0, (h.cell l1).trans e1, (h.cell l2).trans f0, (h.cell l3).trans f1⟩
        have hSm := fun W (h : Below w.heap.size w W) => same_any x1 y1 A1 B1 x2.length y2.length c1 d1 x2 y2 W rfl rfl (er.below h) (fr.below h)
        unfold fil at hSm
        obtain ⟨b, hb⟩ : ∃ b, decide (x1 = y1 ∧ x2 = y2) = b := ⟨_, rfl⟩
        rw [hb] at hSm
        have HBb := hide hb
        obtain ⟨p, hp⟩ : ∃ p, x2.length = p := ⟨_, rfl⟩
        obtain ⟨q, hq⟩ : ∃ q, y2.length = q := ⟨_, rfl⟩
        rw [hp] at hSk hSm e1
        rw [hq] at hSk hSm f1
        clear hb hp hq er fr e0 e1 f0 f1 ht hk l0 l1 l2 l3
        go_wp2
        have hd : Below w.heap.size w wr.drew := HB.drew
        go_region_held3 (fun w' => Below w.heap.size w w' ∧ w'.cell? (ad.add (k * 2)) = some (.int .i64 x1) ∧ w'.cell? ⟨(ad.add (k * 2)).block, (ad.add (k * 2)).off + 1, none⟩ = some (.slice A1 p c1) ∧ w'.cell? (bd.add (k * 2)) = some (.int .i64 y1) ∧ w'.cell? ⟨(bd.add (k * 2)).block, (bd.add (k * 2)).off + 1, none⟩ = some (.slice B1 q d1)) (first | exact ⟨hd, hSk _ hd⟩ | assumption | exact ⟨HBt, hSk _ HBt⟩) (first | (go_at_call 14; (with_reducible refine (hSm _ hd).mono ?_); rintro e w3 ⟨rfl, HB3⟩; have HBt := hd.trans (HB3.mono hd.size)))
        cases b with
        | true =>
          go_wp2
          go_roundw
          case rel =>
            refine ⟨k + 1, by omega, by go_num, HBt, HT.out.2 ?_⟩
            have := of_decide_eq_true HBb.out
            rw [this.1, this.2]
          case measure => simp [intOf]; omega
        | false =>
          go_wp2
          go_ret
          refine ⟨?_, HBt⟩
          have e : z = false := by
            rw [← HZ.out]
            refine decide_eq_false ?_
            rintro rfl
            have := of_decide_eq_false HBb.out
            have h2 := HT.out.1 rfl
            injection h2 with h3 h4
            exact this ⟨h3, h4⟩
          rw [e]
          rfl
      · obtain rfl : k = n := by omega
        have hlti : ¬ (k : Int) < (k : Int) := by omega
        have HT := hide ht
        clear ht
        go_wp2
        go_ret
        refine ⟨?_, HB⟩
        have h1 : rs = ss := by
          have h2 := HT.out
          rw [List.take_of_length_le (by rw [HN.out]; exact Nat.le_refl _), List.take_of_length_le (by rw [HN2.out]; exact Nat.le_refl _)] at h2
          exact h2
        rw [← HZ.out, decide_eq_true h1]
        rfl
  · have hz : decide (rs = ss) = false := decide_eq_false (fun h => hl (by rw [h]))
    rw [hz]
    obtain ⟨n, hn⟩ : ∃ n, rs.length = n := ⟨_, rfl⟩
    obtain ⟨m, hm⟩ : ∃ m, ss.length = m := ⟨_, rfl⟩
    rw [hn, hm] at hl ⊢
    have hli : ¬ (n : Int) = (m : Int) := by omega
    clear hn hm hz hl
    go_enter Try.func21, Try.ntmps21
    go_wp2
    go_ret
    exact ⟨rfl, Below.refl _ _⟩
end Go.Proofs.Ytaonjbpaeloniaa
