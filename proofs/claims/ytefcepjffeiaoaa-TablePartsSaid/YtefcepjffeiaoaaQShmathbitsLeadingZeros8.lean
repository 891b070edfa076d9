/- Laid off the kit's shelf: math/bits.LeadingZeros8. -/
import Derived.Test.YtefcepjffeiaoaaProg
import Derived.Lib.Strings
import Derived.Lib.Slices
import Derived.Lib.Small
import Derived.Lib.Walk
import Derived.Lib.BitFns
import Derived.Test.YtefcepjffeiaoaaQShmathbitsLen8
namespace Go.Proofs.Ytefcepjffeiaoaa

/-- bits.LeadingZeros8: "LeadingZeros8 returns the number of leading zero bits in x; the result is 8 for x == 0.": IT RETURNS '8 - Lib.bitLen x'; the world is as it was. ITS CALLEE bits.Len8 IS MET BY ITS OWN CONTRACT OFF THE SHELF (lay that first): ENTERED IN PLACE it sends the kernel out of memory. -/
theorem bits_LeadingZeros8 (x : Int) (w : World) (h0 : 0 ≤ x) (h1 : x ≤ 255) :
    Calls Try.prog 109 #[.int .u8 x] w fun e w' => e = .returned (.int .i64 (8 - (Lib.bitLen x.toNat : Int))) ∧ w' = w := by
  have l := Lib.bitLen_le8 ⟨x.toNat, by omega⟩
  simp only at l
  have e8 : (8 - (Lib.bitLen x.toNat : Int) + 9223372036854775808) % 18446744073709551616 - 9223372036854775808 = 8 - (Lib.bitLen x.toNat : Int) := by omega
  go_enter Try.func109, Try.ntmps109
  go_wp2_with (go_at_call 113; refine (bits_Len8 x _ h0 h1).mono ?_; rintro e w' ⟨rfl, rfl⟩)
  go_ret
  refine ⟨?_, rfl⟩
  rw [← e8]
  rfl

end Go.Proofs.Ytefcepjffeiaoaa
