/-
  No cell of these rows narrows 'for every input' (looked for: loops, veiled, ifaces, maps, wideKeys, modest, calm, conditions, laid).
  DERIVED. THE GIVEN ROWS OF THIS SEAT. 6 by the template 'for every input the law returns true; each argument reads behind the call as it read before'; 0 by the template 'total and deterministic' (their statements: YtebefonohemlfaaTotals.lean).
  GIVEN WITH THE SEED: the statements are not yours to turn. If you find one false, say at which input.
  Laid BY PROGRAM, IN A SANDBOX (cutbox-rows.mjs): the forced cells as the released guide's own fill.sh prints them over the translation b93f495516c1c9bc… (all of the seat's roots in one cut). By AI agents, Wed Nov 11 2026. No macro, syntax, notation, axiom, sorry.
-/
import Derived.Test.YtebefonohemlfaaChecked
import GoSem.Claim
import GoSem.ClaimJoined
import GoSem.ClaimMapViews
import Derived.JoinedTies
import Derived.KernelRfl
namespace Go.Proofs.Ytebefonohemlfaa
/- THE CELL 'sum', in the pinned program and in every row, IS THE sha256 OF THE DUMP (.gsa) THAT YtebefonohemlfaaProg.lean LOADS. Nothing in Lean hashes anything: it is a label: what it is worth is what the hold of that sum in a sandbox is worth. -/
noncomputable def Try.pinned : Pinned := { name := "ytebefonohemlfaa", sum := "b93f495516c1c9bc3b11e150fe84b6d523464cbd6a30ef3c8602b5aea532fdee", checked := Try.checked }
namespace Rows
def none {H : Type} : Left H := { results := [], args := [] }

/-- 'ticklerlaw06.WalNumbers': WHATEVER THE INPUT: true; the input reads as it did. -/
def walNumbersSpec : ChangeSpec := { name := "walNumbers", fn := fun _ => fun
  | [d] => { results := [.lit (.bool true)], args := [d] }
  | _ => none }
def walNumbersRow : OpenClaim := { program := "ytebefonohemlfaa", sum := "b93f495516c1c9bc3b11e150fe84b6d523464cbd6a30ef3c8602b5aea532fdee", func := "tickler/ticklerlaw06.WalNumbers", spec := "walNumbers", apart := false }
def WalNumbersSaid : Prop := walNumbersRow.holds Try.pinned (OpenSpec.ofChange walNumbersSpec)

/-- ITS FALSE NEIGHBOUR: 'it returns false'. Refute it at one input. -/
def walNumbersWrong : ChangeSpec := { name := "walNumbers", fn := fun _ => fun
  | [d] => { results := [.lit (.bool false)], args := [d] }
  | _ => none }
def WalNumbersWrongFalsely : Prop := walNumbersRow.holds Try.pinned (OpenSpec.ofChange walNumbersWrong)

/-- 'ticklerlaw06.WalOwn': WHATEVER THE INPUT: true; the input reads as it did. -/
def walOwnSpec : ChangeSpec := { name := "walOwn", fn := fun _ => fun
  | [d1, d2] => { results := [.lit (.bool true)], args := [d1, d2] }
  | _ => none }
def walOwnRow : OpenClaim := { program := "ytebefonohemlfaa", sum := "b93f495516c1c9bc3b11e150fe84b6d523464cbd6a30ef3c8602b5aea532fdee", func := "tickler/ticklerlaw06.WalOwn", spec := "walOwn", apart := false }
def WalOwnSaid : Prop := walOwnRow.holds Try.pinned (OpenSpec.ofChange walOwnSpec)

/-- ITS FALSE NEIGHBOUR: 'it returns false'. Refute it at one input. -/
def walOwnWrong : ChangeSpec := { name := "walOwn", fn := fun _ => fun
  | [d1, d2] => { results := [.lit (.bool false)], args := [d1, d2] }
  | _ => none }
def WalOwnWrongFalsely : Prop := walOwnRow.holds Try.pinned (OpenSpec.ofChange walOwnWrong)

/-- 'ticklerlaw06.WalBack': WHATEVER THE INPUT: true; the input reads as it did. -/
def walBackSpec : ChangeSpec := { name := "walBack", fn := fun _ => fun
  | [d1, d2] => { results := [.lit (.bool true)], args := [d1, d2] }
  | _ => none }
def walBackRow : OpenClaim := { program := "ytebefonohemlfaa", sum := "b93f495516c1c9bc3b11e150fe84b6d523464cbd6a30ef3c8602b5aea532fdee", func := "tickler/ticklerlaw06.WalBack", spec := "walBack", unfollowed := true, recurses := true, apart := false }
def WalBackSaid : Prop := walBackRow.holds Try.pinned (OpenSpec.ofChange walBackSpec)

/-- ITS FALSE NEIGHBOUR: 'it returns false'. Refute it at one input. -/
def walBackWrong : ChangeSpec := { name := "walBack", fn := fun _ => fun
  | [d1, d2] => { results := [.lit (.bool false)], args := [d1, d2] }
  | _ => none }
def WalBackWrongFalsely : Prop := walBackRow.holds Try.pinned (OpenSpec.ofChange walBackWrong)

/-- 'ticklerlaw06.WalLogs': WHATEVER THE INPUT: true; the input reads as it did. -/
def walLogsSpec : ChangeSpec := { name := "walLogs", fn := fun _ => fun
  | [d1, d2] => { results := [.lit (.bool true)], args := [d1, d2] }
  | _ => none }
def walLogsRow : OpenClaim := { program := "ytebefonohemlfaa", sum := "b93f495516c1c9bc3b11e150fe84b6d523464cbd6a30ef3c8602b5aea532fdee", func := "tickler/ticklerlaw06.WalLogs", spec := "walLogs", unfollowed := true, recurses := true, apart := false }
def WalLogsSaid : Prop := walLogsRow.holds Try.pinned (OpenSpec.ofChange walLogsSpec)

/-- ITS FALSE NEIGHBOUR: 'it returns false'. Refute it at one input. -/
def walLogsWrong : ChangeSpec := { name := "walLogs", fn := fun _ => fun
  | [d1, d2] => { results := [.lit (.bool false)], args := [d1, d2] }
  | _ => none }
def WalLogsWrongFalsely : Prop := walLogsRow.holds Try.pinned (OpenSpec.ofChange walLogsWrong)

/-- 'ticklerlaw06.WalReplays': WHATEVER THE INPUT: true; the input reads as it did. -/
def walReplaysSpec : ChangeSpec := { name := "walReplays", fn := fun _ => fun
  | [d1, d2] => { results := [.lit (.bool true)], args := [d1, d2] }
  | _ => none }
def walReplaysRow : OpenClaim := { program := "ytebefonohemlfaa", sum := "b93f495516c1c9bc3b11e150fe84b6d523464cbd6a30ef3c8602b5aea532fdee", func := "tickler/ticklerlaw06.WalReplays", spec := "walReplays", unfollowed := true, recurses := true, apart := false }
def WalReplaysSaid : Prop := walReplaysRow.holds Try.pinned (OpenSpec.ofChange walReplaysSpec)

/-- ITS FALSE NEIGHBOUR: 'it returns false'. Refute it at one input. -/
def walReplaysWrong : ChangeSpec := { name := "walReplays", fn := fun _ => fun
  | [d1, d2] => { results := [.lit (.bool false)], args := [d1, d2] }
  | _ => none }
def WalReplaysWrongFalsely : Prop := walReplaysRow.holds Try.pinned (OpenSpec.ofChange walReplaysWrong)

/-- 'ticklerlaw06.WalRot': WHATEVER THE INPUT: true; the input reads as it did. -/
def walRotSpec : ChangeSpec := { name := "walRot", fn := fun _ => fun
  | [d1, d2, d3] => { results := [.lit (.bool true)], args := [d1, d2, d3] }
  | _ => none }
def walRotRow : OpenClaim := { program := "ytebefonohemlfaa", sum := "b93f495516c1c9bc3b11e150fe84b6d523464cbd6a30ef3c8602b5aea532fdee", func := "tickler/ticklerlaw06.WalRot", spec := "walRot", unfollowed := true, recurses := true, apart := false }
def WalRotSaid : Prop := walRotRow.holds Try.pinned (OpenSpec.ofChange walRotSpec)

/-- ITS FALSE NEIGHBOUR: 'it returns false'. Refute it at one input. -/
def walRotWrong : ChangeSpec := { name := "walRot", fn := fun _ => fun
  | [d1, d2, d3] => { results := [.lit (.bool false)], args := [d1, d2, d3] }
  | _ => none }
def WalRotWrongFalsely : Prop := walRotRow.holds Try.pinned (OpenSpec.ofChange walRotWrong)

/- THE SECOND FORM. 'bulk': how many values and letters a reading holds, each counted each time it is reached (what is shared counts as often as it is met; a slice's spare places count too). A statement '..UptoSaid' is the law's where the arguments, and the package variables that the reading takes, are together of bulk at most 1048576: NARROWER than '..Said'. Prove '..Said' where nothing that the law and all that it calls make is longer than what came in: it says more and counts as full. Else prove '..UptoSaid'. A law counts once. -/
mutual
def uptoBulk {H : Type} : DataW H → Nat
  | .lit (.string bytes) => bytes.length + 1
  | .lit _ => 1
  | .nil => 1
  | .ptr d => uptoBulk d + 1
  | .slice elems spare => uptoBulkAll elems + uptoBulkAll spare + 1
  | .agg parts => uptoBulkAll parts + 1
  | .iface _ d => uptoBulk d + 1
  | .map entries => uptoBulkEntries entries + 1
  | .held _ => 1
def uptoBulkAll {H : Type} : List (DataW H) → Nat
  | [] => 0
  | d :: r => uptoBulk d + uptoBulkAll r
def uptoBulkEntries {H : Type} : List (Lit × DataW H) → Nat
  | [] => 0
  | x :: r => uptoBulkEntry x + uptoBulkEntries r
def uptoBulkEntry {H : Type} : Lit × DataW H → Nat
  | (.string bytes, d) => bytes.length + uptoBulk d + 1
  | (_, d) => uptoBulk d + 1
 end
def uptoSmall : (H : Type) → List (DataW H) → Bool := fun _ ds => decide (uptoBulkAll ds ≤ 1048576)
def OpenSpec.upto (s : _root_.Go.ChangeSpec) : _root_.Go.OpenSpec := { _root_.Go.OpenSpec.ofChange s with cond := some uptoSmall }

/-- 'ticklerlaw06.WalNumbers', WHERE WHAT IT READS IS OF BULK AT MOST 1048576: true; the input reads as it did. -/
def walNumbersUptoRow : OpenClaim := { program := "ytebefonohemlfaa", sum := "b93f495516c1c9bc3b11e150fe84b6d523464cbd6a30ef3c8602b5aea532fdee", func := "tickler/ticklerlaw06.WalNumbers", spec := "walNumbers", apart := false, narrowed := true }
def WalNumbersUptoSaid : Prop := walNumbersUptoRow.holds Try.pinned (OpenSpec.upto walNumbersSpec)

/-- 'ticklerlaw06.WalOwn', WHERE WHAT IT READS IS OF BULK AT MOST 1048576: true; the input reads as it did. -/
def walOwnUptoRow : OpenClaim := { program := "ytebefonohemlfaa", sum := "b93f495516c1c9bc3b11e150fe84b6d523464cbd6a30ef3c8602b5aea532fdee", func := "tickler/ticklerlaw06.WalOwn", spec := "walOwn", apart := false, narrowed := true }
def WalOwnUptoSaid : Prop := walOwnUptoRow.holds Try.pinned (OpenSpec.upto walOwnSpec)

/-- 'ticklerlaw06.WalBack', WHERE WHAT IT READS IS OF BULK AT MOST 1048576: true; the input reads as it did. -/
def walBackUptoRow : OpenClaim := { program := "ytebefonohemlfaa", sum := "b93f495516c1c9bc3b11e150fe84b6d523464cbd6a30ef3c8602b5aea532fdee", func := "tickler/ticklerlaw06.WalBack", spec := "walBack", unfollowed := true, recurses := true, apart := false, narrowed := true }
def WalBackUptoSaid : Prop := walBackUptoRow.holds Try.pinned (OpenSpec.upto walBackSpec)

/-- 'ticklerlaw06.WalLogs', WHERE WHAT IT READS IS OF BULK AT MOST 1048576: true; the input reads as it did. -/
def walLogsUptoRow : OpenClaim := { program := "ytebefonohemlfaa", sum := "b93f495516c1c9bc3b11e150fe84b6d523464cbd6a30ef3c8602b5aea532fdee", func := "tickler/ticklerlaw06.WalLogs", spec := "walLogs", unfollowed := true, recurses := true, apart := false, narrowed := true }
def WalLogsUptoSaid : Prop := walLogsUptoRow.holds Try.pinned (OpenSpec.upto walLogsSpec)

/-- 'ticklerlaw06.WalReplays', WHERE WHAT IT READS IS OF BULK AT MOST 1048576: true; the input reads as it did. -/
def walReplaysUptoRow : OpenClaim := { program := "ytebefonohemlfaa", sum := "b93f495516c1c9bc3b11e150fe84b6d523464cbd6a30ef3c8602b5aea532fdee", func := "tickler/ticklerlaw06.WalReplays", spec := "walReplays", unfollowed := true, recurses := true, apart := false, narrowed := true }
def WalReplaysUptoSaid : Prop := walReplaysUptoRow.holds Try.pinned (OpenSpec.upto walReplaysSpec)

/-- 'ticklerlaw06.WalRot', WHERE WHAT IT READS IS OF BULK AT MOST 1048576: true; the input reads as it did. -/
def walRotUptoRow : OpenClaim := { program := "ytebefonohemlfaa", sum := "b93f495516c1c9bc3b11e150fe84b6d523464cbd6a30ef3c8602b5aea532fdee", func := "tickler/ticklerlaw06.WalRot", spec := "walRot", unfollowed := true, recurses := true, apart := false, narrowed := true }
def WalRotUptoSaid : Prop := walRotUptoRow.holds Try.pinned (OpenSpec.upto walRotSpec)

end Rows
end Go.Proofs.Ytebefonohemlfaa
