/-
  No cell of these rows narrows 'for every input' (looked for: loops, veiled, ifaces, maps, wideKeys, modest, calm, conditions, laid).
  DERIVED. THE GIVEN ROWS OF THIS SEAT. 5 by the template 'for every input the law returns true; each argument reads behind the call as it read before'; 0 by the template 'total and deterministic' (their statements: YtbhhnlgpbhbcmaaTotals.lean).
  GIVEN WITH THE SEED: the statements are not yours to turn. If you find one false, say at which input.
  Laid BY PROGRAM, IN A SANDBOX (cutbox-rows.mjs): the forced cells as the released guide's own fill.sh prints them over the translation cbd8b035ff8d50a9… (all of the seat's roots in one cut). By AI agents, Wed Nov 11 2026. No macro, syntax, notation, axiom, sorry.
-/
import Derived.Test.YtbhhnlgpbhbcmaaChecked
import GoSem.Claim
import GoSem.ClaimJoined
import GoSem.ClaimMapViews
import Derived.JoinedTies
import Derived.KernelRfl
namespace Go.Proofs.Ytbhhnlgpbhbcmaa
/- THE CELL 'sum', in the pinned program and in every row, IS THE sha256 OF THE DUMP (.gsa) THAT YtbhhnlgpbhbcmaaProg.lean LOADS. Nothing in Lean hashes anything: it is a label: what it is worth is what the hold of that sum in a sandbox is worth. -/
noncomputable def Try.pinned : Pinned := { name := "ytbhhnlgpbhbcmaa", sum := "cbd8b035ff8d50a9fde4e3f9130a6d15b4aad4ec34ea43ca414a682731cff7ad", checked := Try.checked }
namespace Rows
def none {H : Type} : Left H := { results := [], args := [] }

/-- 'ticklerlaw12.PickWhole': WHATEVER THE INPUT: true; the input reads as it did. -/
def pickWholeSpec : ChangeSpec := { name := "pickWhole", fn := fun _ => fun
  | [d] => { results := [.lit (.bool true)], args := [d] }
  | _ => none }
def pickWholeRow : OpenClaim := { program := "ytbhhnlgpbhbcmaa", sum := "cbd8b035ff8d50a9fde4e3f9130a6d15b4aad4ec34ea43ca414a682731cff7ad", func := "tickler/ticklerlaw12.PickWhole", spec := "pickWhole", unfollowed := true, recurses := true, apart := false }
def PickWholeSaid : Prop := pickWholeRow.holds Try.pinned (OpenSpec.ofChange pickWholeSpec)

/-- ITS FALSE NEIGHBOUR: 'it returns false'. Refute it at one input. -/
def pickWholeWrong : ChangeSpec := { name := "pickWhole", fn := fun _ => fun
  | [d] => { results := [.lit (.bool false)], args := [d] }
  | _ => none }
def PickWholeWrongFalsely : Prop := pickWholeRow.holds Try.pinned (OpenSpec.ofChange pickWholeWrong)

/-- 'ticklerlaw12.PickBottom': WHATEVER THE INPUT: true; the input reads as it did. -/
def pickBottomSpec : ChangeSpec := { name := "pickBottom", fn := fun _ => fun
  | [d] => { results := [.lit (.bool true)], args := [d] }
  | _ => none }
def pickBottomRow : OpenClaim := { program := "ytbhhnlgpbhbcmaa", sum := "cbd8b035ff8d50a9fde4e3f9130a6d15b4aad4ec34ea43ca414a682731cff7ad", func := "tickler/ticklerlaw12.PickBottom", spec := "pickBottom", unfollowed := true, recurses := true, apart := false }
def PickBottomSaid : Prop := pickBottomRow.holds Try.pinned (OpenSpec.ofChange pickBottomSpec)

/-- ITS FALSE NEIGHBOUR: 'it returns false'. Refute it at one input. -/
def pickBottomWrong : ChangeSpec := { name := "pickBottom", fn := fun _ => fun
  | [d] => { results := [.lit (.bool false)], args := [d] }
  | _ => none }
def PickBottomWrongFalsely : Prop := pickBottomRow.holds Try.pinned (OpenSpec.ofChange pickBottomWrong)

/-- 'ticklerlaw12.PickFull': WHATEVER THE INPUT: true; the input reads as it did. -/
def pickFullSpec : ChangeSpec := { name := "pickFull", fn := fun _ => fun
  | [d] => { results := [.lit (.bool true)], args := [d] }
  | _ => none }
def pickFullRow : OpenClaim := { program := "ytbhhnlgpbhbcmaa", sum := "cbd8b035ff8d50a9fde4e3f9130a6d15b4aad4ec34ea43ca414a682731cff7ad", func := "tickler/ticklerlaw12.PickFull", spec := "pickFull", unfollowed := true, recurses := true, apart := false }
def PickFullSaid : Prop := pickFullRow.holds Try.pinned (OpenSpec.ofChange pickFullSpec)

/-- ITS FALSE NEIGHBOUR: 'it returns false'. Refute it at one input. -/
def pickFullWrong : ChangeSpec := { name := "pickFull", fn := fun _ => fun
  | [d] => { results := [.lit (.bool false)], args := [d] }
  | _ => none }
def PickFullWrongFalsely : Prop := pickFullRow.holds Try.pinned (OpenSpec.ofChange pickFullWrong)

/-- 'ticklerlaw12.PickTells': WHATEVER THE INPUT: true; the input reads as it did. -/
def pickTellsSpec : ChangeSpec := { name := "pickTells", fn := fun _ => fun
  | [d1, d2, d3, d4] => { results := [.lit (.bool true)], args := [d1, d2, d3, d4] }
  | _ => none }
def pickTellsRow : OpenClaim := { program := "ytbhhnlgpbhbcmaa", sum := "cbd8b035ff8d50a9fde4e3f9130a6d15b4aad4ec34ea43ca414a682731cff7ad", func := "tickler/ticklerlaw12.PickTells", spec := "pickTells", unfollowed := true, recurses := true, apart := false }
def PickTellsSaid : Prop := pickTellsRow.holds Try.pinned (OpenSpec.ofChange pickTellsSpec)

/-- ITS FALSE NEIGHBOUR: 'it returns false'. Refute it at one input. -/
def pickTellsWrong : ChangeSpec := { name := "pickTells", fn := fun _ => fun
  | [d1, d2, d3, d4] => { results := [.lit (.bool false)], args := [d1, d2, d3, d4] }
  | _ => none }
def PickTellsWrongFalsely : Prop := pickTellsRow.holds Try.pinned (OpenSpec.ofChange pickTellsWrong)

/-- 'ticklerlaw12.PickTouches': WHATEVER THE INPUT: true; the input reads as it did. -/
def pickTouchesSpec : ChangeSpec := { name := "pickTouches", fn := fun _ => fun
  | [d1, d2, d3, d4] => { results := [.lit (.bool true)], args := [d1, d2, d3, d4] }
  | _ => none }
def pickTouchesRow : OpenClaim := { program := "ytbhhnlgpbhbcmaa", sum := "cbd8b035ff8d50a9fde4e3f9130a6d15b4aad4ec34ea43ca414a682731cff7ad", func := "tickler/ticklerlaw12.PickTouches", spec := "pickTouches", unfollowed := true, recurses := true, apart := false }
def PickTouchesSaid : Prop := pickTouchesRow.holds Try.pinned (OpenSpec.ofChange pickTouchesSpec)

/-- ITS FALSE NEIGHBOUR: 'it returns false'. Refute it at one input. -/
def pickTouchesWrong : ChangeSpec := { name := "pickTouches", fn := fun _ => fun
  | [d1, d2, d3, d4] => { results := [.lit (.bool false)], args := [d1, d2, d3, d4] }
  | _ => none }
def PickTouchesWrongFalsely : Prop := pickTouchesRow.holds Try.pinned (OpenSpec.ofChange pickTouchesWrong)

/- THE SECOND FORM. 'bulk': how many values and letters a reading holds, each counted each time it is reached (what is shared counts as often as it is met; a slice's spare places count too). A statement '..UptoSaid' is the law's where the arguments, and the package variables that the reading takes, are together of bulk at most 1048576: NARROWER than '..Said'. Prove '..Said' where nothing that the law and all that it calls make is longer than what came in: it says more and counts as full. Else prove '..UptoSaid'. A law counts once. -/
mutual
def uptoBulk {H : Type} : DataW H → Nat
  | .lit (.string bytes) => bytes.length + 1
  | .lit _ => 1
  | .nil => 1
  | .ptr d => uptoBulk d + 1
  | .slice elems spare => uptoBulkAll elems + uptoBulkAll spare + 1
  | .agg parts => uptoBulkAll parts + 1
  | .iface _ d => uptoBulk d + 1
  | .map entries => uptoBulkEntries entries + 1
  | .held _ => 1
def uptoBulkAll {H : Type} : List (DataW H) → Nat
  | [] => 0
  | d :: r => uptoBulk d + uptoBulkAll r
def uptoBulkEntries {H : Type} : List (Lit × DataW H) → Nat
  | [] => 0
  | x :: r => uptoBulkEntry x + uptoBulkEntries r
def uptoBulkEntry {H : Type} : Lit × DataW H → Nat
  | (.string bytes, d) => bytes.length + uptoBulk d + 1
  | (_, d) => uptoBulk d + 1
 end
def uptoSmall : (H : Type) → List (DataW H) → Bool := fun _ ds => decide (uptoBulkAll ds ≤ 1048576)
def OpenSpec.upto (s : _root_.Go.ChangeSpec) : _root_.Go.OpenSpec := { _root_.Go.OpenSpec.ofChange s with cond := some uptoSmall }

/-- 'ticklerlaw12.PickWhole', WHERE WHAT IT READS IS OF BULK AT MOST 1048576: true; the input reads as it did. -/
def pickWholeUptoRow : OpenClaim := { program := "ytbhhnlgpbhbcmaa", sum := "cbd8b035ff8d50a9fde4e3f9130a6d15b4aad4ec34ea43ca414a682731cff7ad", func := "tickler/ticklerlaw12.PickWhole", spec := "pickWhole", unfollowed := true, recurses := true, apart := false, narrowed := true }
def PickWholeUptoSaid : Prop := pickWholeUptoRow.holds Try.pinned (OpenSpec.upto pickWholeSpec)

/-- 'ticklerlaw12.PickBottom', WHERE WHAT IT READS IS OF BULK AT MOST 1048576: true; the input reads as it did. -/
def pickBottomUptoRow : OpenClaim := { program := "ytbhhnlgpbhbcmaa", sum := "cbd8b035ff8d50a9fde4e3f9130a6d15b4aad4ec34ea43ca414a682731cff7ad", func := "tickler/ticklerlaw12.PickBottom", spec := "pickBottom", unfollowed := true, recurses := true, apart := false, narrowed := true }
def PickBottomUptoSaid : Prop := pickBottomUptoRow.holds Try.pinned (OpenSpec.upto pickBottomSpec)

/-- 'ticklerlaw12.PickFull', WHERE WHAT IT READS IS OF BULK AT MOST 1048576: true; the input reads as it did. -/
def pickFullUptoRow : OpenClaim := { program := "ytbhhnlgpbhbcmaa", sum := "cbd8b035ff8d50a9fde4e3f9130a6d15b4aad4ec34ea43ca414a682731cff7ad", func := "tickler/ticklerlaw12.PickFull", spec := "pickFull", unfollowed := true, recurses := true, apart := false, narrowed := true }
def PickFullUptoSaid : Prop := pickFullUptoRow.holds Try.pinned (OpenSpec.upto pickFullSpec)

/-- 'ticklerlaw12.PickTells', WHERE WHAT IT READS IS OF BULK AT MOST 1048576: true; the input reads as it did. -/
def pickTellsUptoRow : OpenClaim := { program := "ytbhhnlgpbhbcmaa", sum := "cbd8b035ff8d50a9fde4e3f9130a6d15b4aad4ec34ea43ca414a682731cff7ad", func := "tickler/ticklerlaw12.PickTells", spec := "pickTells", unfollowed := true, recurses := true, apart := false, narrowed := true }
def PickTellsUptoSaid : Prop := pickTellsUptoRow.holds Try.pinned (OpenSpec.upto pickTellsSpec)

/-- 'ticklerlaw12.PickTouches', WHERE WHAT IT READS IS OF BULK AT MOST 1048576: true; the input reads as it did. -/
def pickTouchesUptoRow : OpenClaim := { program := "ytbhhnlgpbhbcmaa", sum := "cbd8b035ff8d50a9fde4e3f9130a6d15b4aad4ec34ea43ca414a682731cff7ad", func := "tickler/ticklerlaw12.PickTouches", spec := "pickTouches", unfollowed := true, recurses := true, apart := false, narrowed := true }
def PickTouchesUptoSaid : Prop := pickTouchesUptoRow.holds Try.pinned (OpenSpec.upto pickTouchesSpec)

end Rows
end Go.Proofs.Ytbhhnlgpbhbcmaa
