/-
  No cell of these rows narrows 'for every input' (looked for: loops, veiled, ifaces, maps, wideKeys, modest, calm, conditions, laid).
  DERIVED. THE GIVEN ROWS OF THIS SEAT. 6 by the template 'for every input the law returns true; each argument reads behind the call as it read before'; 0 by the template 'total and deterministic' (their statements: YtmnecbmneljhkaaTotals.lean).
  GIVEN WITH THE SEED: the statements are not yours to turn. If you find one false, say at which input.
  Laid BY PROGRAM, IN A SANDBOX (cutbox-rows.mjs): the forced cells as the released guide's own fill.sh prints them over the translation f282f33ad1b7b9e3… (all of the seat's roots in one cut). By AI agents, Wed Nov 11 2026. No macro, syntax, notation, axiom, sorry.
-/
import Derived.Test.YtmnecbmneljhkaaChecked
import GoSem.Claim
import GoSem.ClaimJoined
import GoSem.ClaimMapViews
import Derived.JoinedTies
import Derived.KernelRfl
namespace Go.Proofs.Ytmnecbmneljhkaa
/- THE CELL 'sum', in the pinned program and in every row, IS THE sha256 OF THE DUMP (.gsa) THAT YtmnecbmneljhkaaProg.lean LOADS. Nothing in Lean hashes anything: it is a label: what it is worth is what the hold of that sum in a sandbox is worth. -/
noncomputable def Try.pinned : Pinned := { name := "ytmnecbmneljhkaa", sum := "f282f33ad1b7b9e30d2cd866857359f4640ea59ccf5ddd4c0735a3ffa49dd9b4", checked := Try.checked }
namespace Rows
def none {H : Type} : Left H := { results := [], args := [] }

/-- 'ticklerlaw08.BloomTells': WHATEVER THE INPUT: true; the input reads as it did. -/
def bloomTellsSpec : ChangeSpec := { name := "bloomTells", fn := fun _ => fun
  | [d1, d2, d3, d4] => { results := [.lit (.bool true)], args := [d1, d2, d3, d4] }
  | _ => none }
def bloomTellsRow : OpenClaim := { program := "ytmnecbmneljhkaa", sum := "f282f33ad1b7b9e30d2cd866857359f4640ea59ccf5ddd4c0735a3ffa49dd9b4", func := "tickler/ticklerlaw08.BloomTells", spec := "bloomTells", unfollowed := true, recurses := true, apart := false }
def BloomTellsSaid : Prop := bloomTellsRow.holds Try.pinned (OpenSpec.ofChange bloomTellsSpec)

/-- ITS FALSE NEIGHBOUR: 'it returns false'. Refute it at one input. -/
def bloomTellsWrong : ChangeSpec := { name := "bloomTells", fn := fun _ => fun
  | [d1, d2, d3, d4] => { results := [.lit (.bool false)], args := [d1, d2, d3, d4] }
  | _ => none }
def BloomTellsWrongFalsely : Prop := bloomTellsRow.holds Try.pinned (OpenSpec.ofChange bloomTellsWrong)

/-- 'ticklerlaw08.BloomKnows': WHATEVER THE INPUT: true; the input reads as it did. -/
def bloomKnowsSpec : ChangeSpec := { name := "bloomKnows", fn := fun _ => fun
  | [d1, d2, d3] => { results := [.lit (.bool true)], args := [d1, d2, d3] }
  | _ => none }
def bloomKnowsRow : OpenClaim := { program := "ytmnecbmneljhkaa", sum := "f282f33ad1b7b9e30d2cd866857359f4640ea59ccf5ddd4c0735a3ffa49dd9b4", func := "tickler/ticklerlaw08.BloomKnows", spec := "bloomKnows", unfollowed := true, recurses := true, apart := false }
def BloomKnowsSaid : Prop := bloomKnowsRow.holds Try.pinned (OpenSpec.ofChange bloomKnowsSpec)

/-- ITS FALSE NEIGHBOUR: 'it returns false'. Refute it at one input. -/
def bloomKnowsWrong : ChangeSpec := { name := "bloomKnows", fn := fun _ => fun
  | [d1, d2, d3] => { results := [.lit (.bool false)], args := [d1, d2, d3] }
  | _ => none }
def BloomKnowsWrongFalsely : Prop := bloomKnowsRow.holds Try.pinned (OpenSpec.ofChange bloomKnowsWrong)

/-- 'ticklerlaw08.BloomOrder': WHATEVER THE INPUT: true; the input reads as it did. -/
def bloomOrderSpec : ChangeSpec := { name := "bloomOrder", fn := fun _ => fun
  | [d1, d2] => { results := [.lit (.bool true)], args := [d1, d2] }
  | _ => none }
def bloomOrderRow : OpenClaim := { program := "ytmnecbmneljhkaa", sum := "f282f33ad1b7b9e30d2cd866857359f4640ea59ccf5ddd4c0735a3ffa49dd9b4", func := "tickler/ticklerlaw08.BloomOrder", spec := "bloomOrder", unfollowed := true, recurses := true, apart := false }
def BloomOrderSaid : Prop := bloomOrderRow.holds Try.pinned (OpenSpec.ofChange bloomOrderSpec)

/-- ITS FALSE NEIGHBOUR: 'it returns false'. Refute it at one input. -/
def bloomOrderWrong : ChangeSpec := { name := "bloomOrder", fn := fun _ => fun
  | [d1, d2] => { results := [.lit (.bool false)], args := [d1, d2] }
  | _ => none }
def BloomOrderWrongFalsely : Prop := bloomOrderRow.holds Try.pinned (OpenSpec.ofChange bloomOrderWrong)

/-- 'ticklerlaw08.BloomEmpty': WHATEVER THE INPUT: true; the input reads as it did. -/
def bloomEmptySpec : ChangeSpec := { name := "bloomEmpty", fn := fun _ => fun
  | [d1, d2] => { results := [.lit (.bool true)], args := [d1, d2] }
  | _ => none }
def bloomEmptyRow : OpenClaim := { program := "ytmnecbmneljhkaa", sum := "f282f33ad1b7b9e30d2cd866857359f4640ea59ccf5ddd4c0735a3ffa49dd9b4", func := "tickler/ticklerlaw08.BloomEmpty", spec := "bloomEmpty", unfollowed := true, recurses := true, apart := false }
def BloomEmptySaid : Prop := bloomEmptyRow.holds Try.pinned (OpenSpec.ofChange bloomEmptySpec)

/-- ITS FALSE NEIGHBOUR: 'it returns false'. Refute it at one input. -/
def bloomEmptyWrong : ChangeSpec := { name := "bloomEmpty", fn := fun _ => fun
  | [d1, d2] => { results := [.lit (.bool false)], args := [d1, d2] }
  | _ => none }
def BloomEmptyWrongFalsely : Prop := bloomEmptyRow.holds Try.pinned (OpenSpec.ofChange bloomEmptyWrong)

/-- 'ticklerlaw08.BloomOctets': WHATEVER THE INPUT: true; the input reads as it did. -/
def bloomOctetsSpec : ChangeSpec := { name := "bloomOctets", fn := fun _ => fun
  | [d1, d2] => { results := [.lit (.bool true)], args := [d1, d2] }
  | _ => none }
def bloomOctetsRow : OpenClaim := { program := "ytmnecbmneljhkaa", sum := "f282f33ad1b7b9e30d2cd866857359f4640ea59ccf5ddd4c0735a3ffa49dd9b4", func := "tickler/ticklerlaw08.BloomOctets", spec := "bloomOctets", unfollowed := true, recurses := true, apart := false }
def BloomOctetsSaid : Prop := bloomOctetsRow.holds Try.pinned (OpenSpec.ofChange bloomOctetsSpec)

/-- ITS FALSE NEIGHBOUR: 'it returns false'. Refute it at one input. -/
def bloomOctetsWrong : ChangeSpec := { name := "bloomOctets", fn := fun _ => fun
  | [d1, d2] => { results := [.lit (.bool false)], args := [d1, d2] }
  | _ => none }
def BloomOctetsWrongFalsely : Prop := bloomOctetsRow.holds Try.pinned (OpenSpec.ofChange bloomOctetsWrong)

/-- 'ticklerlaw08.BloomOwn': WHATEVER THE INPUT: true; the input reads as it did. -/
def bloomOwnSpec : ChangeSpec := { name := "bloomOwn", fn := fun _ => fun
  | [d] => { results := [.lit (.bool true)], args := [d] }
  | _ => none }
def bloomOwnRow : OpenClaim := { program := "ytmnecbmneljhkaa", sum := "f282f33ad1b7b9e30d2cd866857359f4640ea59ccf5ddd4c0735a3ffa49dd9b4", func := "tickler/ticklerlaw08.BloomOwn", spec := "bloomOwn", unfollowed := true, recurses := true, apart := false }
def BloomOwnSaid : Prop := bloomOwnRow.holds Try.pinned (OpenSpec.ofChange bloomOwnSpec)

/-- ITS FALSE NEIGHBOUR: 'it returns false'. Refute it at one input. -/
def bloomOwnWrong : ChangeSpec := { name := "bloomOwn", fn := fun _ => fun
  | [d] => { results := [.lit (.bool false)], args := [d] }
  | _ => none }
def BloomOwnWrongFalsely : Prop := bloomOwnRow.holds Try.pinned (OpenSpec.ofChange bloomOwnWrong)

/- THE SECOND FORM. 'bulk': how many values and letters a reading holds, each counted each time it is reached (what is shared counts as often as it is met; a slice's spare places count too). A statement '..UptoSaid' is the law's where the arguments, and the package variables that the reading takes, are together of bulk at most 1048576: NARROWER than '..Said'. Prove '..Said' where nothing that the law and all that it calls make is longer than what came in: it says more and counts as full. Else prove '..UptoSaid'. A law counts once. -/
mutual
def uptoBulk {H : Type} : DataW H → Nat
  | .lit (.string bytes) => bytes.length + 1
  | .lit _ => 1
  | .nil => 1
  | .ptr d => uptoBulk d + 1
  | .slice elems spare => uptoBulkAll elems + uptoBulkAll spare + 1
  | .agg parts => uptoBulkAll parts + 1
  | .iface _ d => uptoBulk d + 1
  | .map entries => uptoBulkEntries entries + 1
  | .held _ => 1
def uptoBulkAll {H : Type} : List (DataW H) → Nat
  | [] => 0
  | d :: r => uptoBulk d + uptoBulkAll r
def uptoBulkEntries {H : Type} : List (Lit × DataW H) → Nat
  | [] => 0
  | x :: r => uptoBulkEntry x + uptoBulkEntries r
def uptoBulkEntry {H : Type} : Lit × DataW H → Nat
  | (.string bytes, d) => bytes.length + uptoBulk d + 1
  | (_, d) => uptoBulk d + 1
 end
def uptoSmall : (H : Type) → List (DataW H) → Bool := fun _ ds => decide (uptoBulkAll ds ≤ 1048576)
def OpenSpec.upto (s : _root_.Go.ChangeSpec) : _root_.Go.OpenSpec := { _root_.Go.OpenSpec.ofChange s with cond := some uptoSmall }

/-- 'ticklerlaw08.BloomTells', WHERE WHAT IT READS IS OF BULK AT MOST 1048576: true; the input reads as it did. -/
def bloomTellsUptoRow : OpenClaim := { program := "ytmnecbmneljhkaa", sum := "f282f33ad1b7b9e30d2cd866857359f4640ea59ccf5ddd4c0735a3ffa49dd9b4", func := "tickler/ticklerlaw08.BloomTells", spec := "bloomTells", unfollowed := true, recurses := true, apart := false, narrowed := true }
def BloomTellsUptoSaid : Prop := bloomTellsUptoRow.holds Try.pinned (OpenSpec.upto bloomTellsSpec)

/-- 'ticklerlaw08.BloomKnows', WHERE WHAT IT READS IS OF BULK AT MOST 1048576: true; the input reads as it did. -/
def bloomKnowsUptoRow : OpenClaim := { program := "ytmnecbmneljhkaa", sum := "f282f33ad1b7b9e30d2cd866857359f4640ea59ccf5ddd4c0735a3ffa49dd9b4", func := "tickler/ticklerlaw08.BloomKnows", spec := "bloomKnows", unfollowed := true, recurses := true, apart := false, narrowed := true }
def BloomKnowsUptoSaid : Prop := bloomKnowsUptoRow.holds Try.pinned (OpenSpec.upto bloomKnowsSpec)

/-- 'ticklerlaw08.BloomOrder', WHERE WHAT IT READS IS OF BULK AT MOST 1048576: true; the input reads as it did. -/
def bloomOrderUptoRow : OpenClaim := { program := "ytmnecbmneljhkaa", sum := "f282f33ad1b7b9e30d2cd866857359f4640ea59ccf5ddd4c0735a3ffa49dd9b4", func := "tickler/ticklerlaw08.BloomOrder", spec := "bloomOrder", unfollowed := true, recurses := true, apart := false, narrowed := true }
def BloomOrderUptoSaid : Prop := bloomOrderUptoRow.holds Try.pinned (OpenSpec.upto bloomOrderSpec)

/-- 'ticklerlaw08.BloomEmpty', WHERE WHAT IT READS IS OF BULK AT MOST 1048576: true; the input reads as it did. -/
def bloomEmptyUptoRow : OpenClaim := { program := "ytmnecbmneljhkaa", sum := "f282f33ad1b7b9e30d2cd866857359f4640ea59ccf5ddd4c0735a3ffa49dd9b4", func := "tickler/ticklerlaw08.BloomEmpty", spec := "bloomEmpty", unfollowed := true, recurses := true, apart := false, narrowed := true }
def BloomEmptyUptoSaid : Prop := bloomEmptyUptoRow.holds Try.pinned (OpenSpec.upto bloomEmptySpec)

/-- 'ticklerlaw08.BloomOctets', WHERE WHAT IT READS IS OF BULK AT MOST 1048576: true; the input reads as it did. -/
def bloomOctetsUptoRow : OpenClaim := { program := "ytmnecbmneljhkaa", sum := "f282f33ad1b7b9e30d2cd866857359f4640ea59ccf5ddd4c0735a3ffa49dd9b4", func := "tickler/ticklerlaw08.BloomOctets", spec := "bloomOctets", unfollowed := true, recurses := true, apart := false, narrowed := true }
def BloomOctetsUptoSaid : Prop := bloomOctetsUptoRow.holds Try.pinned (OpenSpec.upto bloomOctetsSpec)

/-- 'ticklerlaw08.BloomOwn', WHERE WHAT IT READS IS OF BULK AT MOST 1048576: true; the input reads as it did. -/
def bloomOwnUptoRow : OpenClaim := { program := "ytmnecbmneljhkaa", sum := "f282f33ad1b7b9e30d2cd866857359f4640ea59ccf5ddd4c0735a3ffa49dd9b4", func := "tickler/ticklerlaw08.BloomOwn", spec := "bloomOwn", unfollowed := true, recurses := true, apart := false, narrowed := true }
def BloomOwnUptoSaid : Prop := bloomOwnUptoRow.holds Try.pinned (OpenSpec.upto bloomOwnSpec)

end Rows
end Go.Proofs.Ytmnecbmneljhkaa
