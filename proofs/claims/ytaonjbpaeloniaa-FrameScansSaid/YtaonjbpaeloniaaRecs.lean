/- Rows of records (a number and octets): read, made. -/
import Derived.Test.YtaonjbpaeloniaaSteps
import Derived.Test.YtaonjbpaeloniaaBoxed
namespace Go.Proofs.Ytaonjbpaeloniaa
open Go.RowKit Go.Proofs.YtaonjbpaeloniaaW.PrintWords
set_option linter.unusedVariables false

/-- the kind of a record -/
def kRec : Kd (Int × List UInt8) := Kd.pair (Kd.int .i64) (Kd.slice 5 kU8)
/-- a row of records that is read -/
def RdR (w : World) (A : Option Addr) (c : Nat) (rs : List (Int × List UInt8)) : Prop := rs.length ≤ c ∧ kRec.C w A rs.length rs
theorem RdR.below {w w1 : World} {A : Option Addr} {c : Nat} {rs : List (Int × List UInt8)} (h : RdR w A c rs) (hb : Below w.heap.size w w1) : RdR w1 A c rs := ⟨h.1, Kd.C_below h.2 hb⟩
theorem RdR.max {w : World} {A : Option Addr} {c : Nat} {rs : List (Int × List UInt8)} (h : RdR w A c rs) : rs.length ≤ 9223372036854775807 := h.2.2.1
theorem RdR.zero (w : World) (A : Option Addr) (c : Nat) : RdR w A c [] := ⟨Nat.zero_le _, rfl, Nat.zero_le _, fun h => absurd h (by simp)⟩
theorem rdB_of_C {w : World} {A : Option Addr} {c : Nat} {xs : List UInt8} (hl : xs.length ≤ c) (h : kU8.C w A xs.length xs) : RdB w A c xs := ⟨hl, Kd.reads_of_C (d := (0 : UInt8)) h⟩
theorem kU8_C {w : World} {A : Option Addr} {c : Nat} {xs : List UInt8} (h : RdB w A c xs) : kU8.C w A xs.length xs := Kd.C_of_reads h.2
theorem kRec_K {w : World} {x : Int × List UInt8} {cs : List Value} (h : kRec.K w x cs) : ∃ A c, cs = [.int .i64 x.1, .slice A x.2.length c] ∧ RdB w A c x.2 := by
  obtain ⟨c0, c1, rfl, h0, A, c, h1, hl, hC⟩ := h
  have h0' : c0 = [.int .i64 x.1] := h0
  subst h0'
  subst h1
  exact ⟨A, c, rfl, rdB_of_C hl hC⟩
def zRec : Int × List UInt8 := (0, [])
theorem RdR.at_ {w : World} {A : Option Addr} {c : Nat} {rs : List (Int × List UInt8)} (h : RdR w A c rs) (i : Nat) (hi : i < rs.length) :
    ∃ ad A' c', A = some ad ∧ w.cell? (ad.add (i * 2)) = some (.int .i64 (rs.getD i zRec).1) ∧ w.cell? ⟨(ad.add (i * 2)).block, (ad.add (i * 2)).off + 1, none⟩ = some (.slice A' (rs.getD i zRec).2.length c') ∧ RdB w A' c' (rs.getD i zRec).2 := by
  obtain ⟨ad, cs, e, hcl, hk, hcell⟩ := Kd.C_get h.2 zRec (i : Int) (by omega) (by omega)
  simp only [Int.toNat_natCast] at hk hcell
  obtain ⟨A', c', hcs, hr⟩ := kRec_K hk
  refine ⟨ad, A', c', e, ?_, ?_, hr⟩
  · exact hcell 0 _ (by rw [hcs]; rfl)
  · have := hcell 1 _ (by rw [hcs]; rfl)
    rw [← add_field ad (i * 2) 1 (by decide)]
    exact this
theorem RdR.take {w : World} {A : Option Addr} {c : Nat} {rs : List (Int × List UInt8)} (h : RdR w A c rs) (k : Nat) (hk : k ≤ rs.length) : RdR w A c (rs.take k) := ⟨by rw [List.length_take]; have := h.1; omega, Kd.C_take h.2 hk⟩
end Go.Proofs.Ytaonjbpaeloniaa
