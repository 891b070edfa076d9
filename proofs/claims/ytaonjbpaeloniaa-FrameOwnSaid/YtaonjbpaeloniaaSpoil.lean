/- The walk of Spoil. -/
import Derived.Test.YtaonjbpaeloniaaPlain
namespace Go.Proofs.Ytaonjbpaeloniaa
open Go.RowKit Go.Proofs.YtaonjbpaeloniaaW.PrintWords

set_option maxHeartbeats 400000 in
theorem Spoil_any (base : Nat) (v : Value) (xs : List UInt8) (w : World) (hr : OwB w base v xs) :
    Calls Try.prog 15 #[v] w fun e w' => e = .returned (.tuple #[]) ∧ OwB w' base v (flip xs) ∧ w.grownBy w' v.ownBlock := by
  obtain ⟨A, c, rfl, hrd⟩ := hr.rd
  have hm := hrd.max
  clear hrd
  go_enter Try.func15, Try.ntmps15
  go_wp2
  go_loopw [2] (fun i wr => ∃ k : Nat, k ≤ xs.length ∧ i = .int .i64 k ∧ OwB wr base (.slice A xs.length c) (flip (xs.take k) ++ xs.drop k) ∧ w.grownBy wr (Value.slice A xs.length c).ownBlock) (fun i _ => xs.length - (intOf i).toNat)
  case atStart => exact ⟨0, by omega, rfl, hr, World.grownBy.refl _ _⟩
  case round =>
    obtain ⟨k, hk, rfl, HO, HG⟩ := hrel
    by_cases hlt : k < xs.length
    · have hl : (flip (xs.take k) ++ xs.drop k).length = xs.length := by simp [flip]; omega
      have HO' := HO
      unfold OwB at HO'
      rw [hl] at HO'
      obtain ⟨g, cap, hv, hgb, hgl⟩ := HO'.form (by omega)
      obtain ⟨rfl, rfl⟩ : A = some ⟨g, 0, none⟩ ∧ c = cap := by injection hv with h1 _ h3; exact ⟨h1, h3⟩
      have hat := own_at_of (d := (0 : UInt8)) HO' k (by omega) (by omega)
      have hst := own_store_of HO' k (~~~ (xs.getD k 0))
      have hkk : ((k : Int)).toNat = k := by omega
      have hrd : rdOf (0 : UInt8) (flip (xs.take k) ++ xs.drop k) k = xs.getD k 0 := by rw [rdOf, hkk, flip_get xs k hlt]
      have hset := flip_set xs k hlt
      rw [hrd, hkk] at hat
      rw [hkk, hset] at hst
      obtain ⟨hcell, hfr⟩ := hat
      unfold eu8 at hcell hst
      obtain ⟨hst, hgr⟩ := hst
      have HS := hide hst
      have HR := hide hgr
      obtain ⟨x, hx⟩ : ∃ x, xs.getD k 0 = x := ⟨_, rfl⟩
      rw [hx] at hcell HS HR
      clear hst hgr hrd hset hkk hl HO' hx
      have HN := hide (not_u8 x)
      go_wp2
      go_roundw
      case rel => exact ⟨k + 1, by omega, by go_num, by rw [HN.out]; unfold OwB; rw [show (flip (List.take (k + 1) xs) ++ List.drop (k + 1) xs).length = xs.length by simp [flip]; omega]; exact HS.out, by rw [HN.out]; exact World.grownBy.trans HG HR.out⟩
      case measure => simp [intOf]; omega
    · obtain rfl : k = xs.length := by omega
      go_wp2
      go_end0
      exact ⟨rfl, by simpa using HO, HG⟩
end Go.Proofs.Ytaonjbpaeloniaa
