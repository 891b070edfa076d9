/- The walk of SumGoesOn. -/
import Derived.Test.YtekfkecpedpjjaaSumA
namespace Go.Proofs.Ytekfkecpedpjjaa
open Go.RowKit Go.Proofs.YtekfkecpedpjjaaW.PrintWords
theorem u32_of (a : Int) (h : (Lit.int .u32 a).wf = true) : ∃ c : BitVec 32, a = (c.toNat : Int) := by
  have hb : 0 ≤ a ∧ a ≤ 4294967295 := by simpa [Lit.wf, IntKind.min, IntKind.max, IntKind.signed, IntKind.bits] using h
  refine ⟨BitVec.ofNat 32 a.toNat, ?_⟩
  rw [BitVec.toNat_ofNat]
  omega

set_option maxHeartbeats 200000 in
theorem goesOn_walk (a0 : Int) (A : Option Addr) (ca : Nat) (xs : List UInt8) (B : Option Addr) (cb : Nat) (ys : List UInt8) (w : World) (h0 : (Lit.int .u32 a0).wf = true) (hx : RdB w A ca xs) (lx : xs.length ≤ 1048576) (hy : RdB w B cb ys) (ly : ys.length ≤ 1048576) :
    Calls Try.prog 3 #[.int .u32 a0, .slice A xs.length ca, .slice B ys.length cb] w fun e w' => e = .returned (.bool true) ∧ Below w.heap.size w w' := by
  obtain ⟨c, rfl⟩ := u32_of a0 h0
  obtain ⟨zs, hz⟩ : ∃ zs, xs ++ ys = zs := ⟨_, rfl⟩
  have happ := hide (crc_append c xs ys)
  rw [hz] at happ
  have HZ := hide hz
  clear hz
  go_enter Try.func3, Try.ntmps3
  go_wp2_with (first | (go_at_call 9; refine (alive_any _).mono ?_; rintro e w1 ⟨rfl, HB1⟩; have hx1 := hx.below HB1; have hy1 := hy.below HB1) | (go_at_call 10; refine (Extend_any _ _ _ _ _ (by assumption)).mono ?_; rintro e w' ⟨rfl, rfl⟩; try rw [happ.out]) | (go_at_call 11; refine (CopyBytes_any A ca xs _ hx1 (by omega)).mono ?_; rintro e w2 ⟨v, rfl, HO2, HB2⟩; have hy2 := hy1.below HB2) | (at_builtin; refine wpList_guarded (by kernel_rfl) ?_; refine app_row (w0 := w1) w1.heap.size rfl (.tmp 16) (.tmp 17) rfl _ xs ys B cb rfl rfl HO2 hy2 HB2 HB2.size (by omega) ?_; intro v3 w3 HO3 HB3 hg hat; rw [HZ.out] at HO3; obtain ⟨A3, c3, rfl, hr3⟩ := HO3.rd))
  go_ret
  exact ⟨by simp, HB1.trans (HB3.mono HB1.size)⟩
end Go.Proofs.Ytekfkecpedpjjaa
