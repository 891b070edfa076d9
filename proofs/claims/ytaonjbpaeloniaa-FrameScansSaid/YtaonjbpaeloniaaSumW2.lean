/- The walks of the checksum's functions: octets, and what the library does for it: Clone, Grow, Concat; Guard, Bare. -/
import Derived.Test.YtaonjbpaeloniaaSumW1
import Derived.Test.YtaonjbpaeloniaaClone
import Derived.Test.YtaonjbpaeloniaaCat
namespace Go.Proofs.Ytaonjbpaeloniaa
open Go.RowKit Go.Proofs.YtaonjbpaeloniaaW.PrintWords

/-- a sum's octets, an array, as the walk spells it -/
def fourC (c : BitVec 32) : Array Value := #[.int .u8 ((c.toNat : Int) / 16777216), .int .u8 ((c.toNat : Int) / 65536 % 256), .int .u8 ((c.toNat : Int) / 256 % 256), .int .u8 ((c.toNat : Int) % 256)]

set_option maxRecDepth 100000 in
set_option maxHeartbeats 400000 in
theorem octets_any (c : BitVec 32) (w : World) :
    Calls Try.prog 34 #[.int .u32 (c.toNat : Int)] w fun e w' => e = .returned (.agg (fourC c)) ∧ Below w.heap.size w w' := by
  have hc := c.isLt
  go_enter Try.func34, Try.ntmps34
  go_wp2
  refine bodyPost_ret (v := .agg (fourC c)) ?_ rfl ⟨rfl, (Below.refl _ _).alloc (Nat.le_refl _) _⟩
  simp [results, Try.results34, go_sem, fourC]
end Go.Proofs.Ytaonjbpaeloniaa
