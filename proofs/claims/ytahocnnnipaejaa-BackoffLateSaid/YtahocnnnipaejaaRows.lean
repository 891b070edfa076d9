/-
  No cell of these rows narrows 'for every input' (looked for: loops, veiled, ifaces, maps, wideKeys, modest, calm, conditions, laid).
  DERIVED. THE GIVEN ROWS OF THIS SEAT. 5 by the template 'for every input the law returns true; each argument reads behind the call as it read before'; 0 by the template 'total and deterministic' (their statements: YtahocnnnipaejaaTotals.lean).
  GIVEN WITH THE SEED: the statements are not yours to turn. If you find one false, say at which input.
  Laid BY PROGRAM, IN A SANDBOX (cutbox-rows.mjs): the forced cells as the released guide's own fill.sh prints them over the translation 4ce1b7f84905761b… (all of the seat's roots in one cut). By AI agents, Wed Nov 11 2026. No macro, syntax, notation, axiom, sorry.
-/
import Derived.Test.YtahocnnnipaejaaChecked
import GoSem.Claim
import GoSem.ClaimJoined
import GoSem.ClaimMapViews
import Derived.JoinedTies
import Derived.KernelRfl
namespace Go.Proofs.Ytahocnnnipaejaa
/- THE CELL 'sum', in the pinned program and in every row, IS THE sha256 OF THE DUMP (.gsa) THAT YtahocnnnipaejaaProg.lean LOADS. Nothing in Lean hashes anything: it is a label: what it is worth is what the hold of that sum in a sandbox is worth. -/
noncomputable def Try.pinned : Pinned := { name := "ytahocnnnipaejaa", sum := "4ce1b7f84905761b0c4b6cd6bf11eca9f32af2910bcade8b56fc8ac3f59eacf7", checked := Try.checked }
namespace Rows
def none {H : Type} : Left H := { results := [], args := [] }

/-- 'ticklerlaw18.BackoffGrows': WHATEVER THE INPUT: true; the input reads as it did. -/
def backoffGrowsSpec : ChangeSpec := { name := "backoffGrows", fn := fun _ => fun
  | [d1, d2] => { results := [.lit (.bool true)], args := [d1, d2] }
  | _ => none }
def backoffGrowsRow : OpenClaim := { program := "ytahocnnnipaejaa", sum := "4ce1b7f84905761b0c4b6cd6bf11eca9f32af2910bcade8b56fc8ac3f59eacf7", func := "tickler/ticklerlaw18.BackoffGrows", spec := "backoffGrows", apart := false }
def BackoffGrowsSaid : Prop := backoffGrowsRow.holds Try.pinned (OpenSpec.ofChange backoffGrowsSpec)

/-- ITS FALSE NEIGHBOUR: 'it returns false'. Refute it at one input. -/
def backoffGrowsWrong : ChangeSpec := { name := "backoffGrows", fn := fun _ => fun
  | [d1, d2] => { results := [.lit (.bool false)], args := [d1, d2] }
  | _ => none }
def BackoffGrowsWrongFalsely : Prop := backoffGrowsRow.holds Try.pinned (OpenSpec.ofChange backoffGrowsWrong)

/-- 'ticklerlaw18.BackoffSums': WHATEVER THE INPUT: true; the input reads as it did. -/
def backoffSumsSpec : ChangeSpec := { name := "backoffSums", fn := fun _ => fun
  | [d] => { results := [.lit (.bool true)], args := [d] }
  | _ => none }
def backoffSumsRow : OpenClaim := { program := "ytahocnnnipaejaa", sum := "4ce1b7f84905761b0c4b6cd6bf11eca9f32af2910bcade8b56fc8ac3f59eacf7", func := "tickler/ticklerlaw18.BackoffSums", spec := "backoffSums", apart := false }
def BackoffSumsSaid : Prop := backoffSumsRow.holds Try.pinned (OpenSpec.ofChange backoffSumsSpec)

/-- ITS FALSE NEIGHBOUR: 'it returns false'. Refute it at one input. -/
def backoffSumsWrong : ChangeSpec := { name := "backoffSums", fn := fun _ => fun
  | [d] => { results := [.lit (.bool false)], args := [d] }
  | _ => none }
def BackoffSumsWrongFalsely : Prop := backoffSumsRow.holds Try.pinned (OpenSpec.ofChange backoffSumsWrong)

/-- 'ticklerlaw18.BackoffDoubles': WHATEVER THE INPUT: true; the input reads as it did. -/
def backoffDoublesSpec : ChangeSpec := { name := "backoffDoubles", fn := fun _ => fun
  | [d1, d2] => { results := [.lit (.bool true)], args := [d1, d2] }
  | _ => none }
def backoffDoublesRow : OpenClaim := { program := "ytahocnnnipaejaa", sum := "4ce1b7f84905761b0c4b6cd6bf11eca9f32af2910bcade8b56fc8ac3f59eacf7", func := "tickler/ticklerlaw18.BackoffDoubles", spec := "backoffDoubles", apart := false }
def BackoffDoublesSaid : Prop := backoffDoublesRow.holds Try.pinned (OpenSpec.ofChange backoffDoublesSpec)

/-- ITS FALSE NEIGHBOUR: 'it returns false'. Refute it at one input. -/
def backoffDoublesWrong : ChangeSpec := { name := "backoffDoubles", fn := fun _ => fun
  | [d1, d2] => { results := [.lit (.bool false)], args := [d1, d2] }
  | _ => none }
def BackoffDoublesWrongFalsely : Prop := backoffDoublesRow.holds Try.pinned (OpenSpec.ofChange backoffDoublesWrong)

/-- 'ticklerlaw18.BackoffTells': WHATEVER THE INPUT: true; the input reads as it did. -/
def backoffTellsSpec : ChangeSpec := { name := "backoffTells", fn := fun _ => fun
  | [d1, d2, d3] => { results := [.lit (.bool true)], args := [d1, d2, d3] }
  | _ => none }
def backoffTellsRow : OpenClaim := { program := "ytahocnnnipaejaa", sum := "4ce1b7f84905761b0c4b6cd6bf11eca9f32af2910bcade8b56fc8ac3f59eacf7", func := "tickler/ticklerlaw18.BackoffTells", spec := "backoffTells", apart := false }
def BackoffTellsSaid : Prop := backoffTellsRow.holds Try.pinned (OpenSpec.ofChange backoffTellsSpec)

/-- ITS FALSE NEIGHBOUR: 'it returns false'. Refute it at one input. -/
def backoffTellsWrong : ChangeSpec := { name := "backoffTells", fn := fun _ => fun
  | [d1, d2, d3] => { results := [.lit (.bool false)], args := [d1, d2, d3] }
  | _ => none }
def BackoffTellsWrongFalsely : Prop := backoffTellsRow.holds Try.pinned (OpenSpec.ofChange backoffTellsWrong)

/-- 'ticklerlaw18.BackoffLate': WHATEVER THE INPUT: true; the input reads as it did. -/
def backoffLateSpec : ChangeSpec := { name := "backoffLate", fn := fun _ => fun
  | [d1, d2, d3] => { results := [.lit (.bool true)], args := [d1, d2, d3] }
  | _ => none }
def backoffLateRow : OpenClaim := { program := "ytahocnnnipaejaa", sum := "4ce1b7f84905761b0c4b6cd6bf11eca9f32af2910bcade8b56fc8ac3f59eacf7", func := "tickler/ticklerlaw18.BackoffLate", spec := "backoffLate", apart := false }
def BackoffLateSaid : Prop := backoffLateRow.holds Try.pinned (OpenSpec.ofChange backoffLateSpec)

/-- ITS FALSE NEIGHBOUR: 'it returns false'. Refute it at one input. -/
def backoffLateWrong : ChangeSpec := { name := "backoffLate", fn := fun _ => fun
  | [d1, d2, d3] => { results := [.lit (.bool false)], args := [d1, d2, d3] }
  | _ => none }
def BackoffLateWrongFalsely : Prop := backoffLateRow.holds Try.pinned (OpenSpec.ofChange backoffLateWrong)

/- THE SECOND FORM. 'bulk': how many values and letters a reading holds, each counted each time it is reached (what is shared counts as often as it is met; a slice's spare places count too). A statement '..UptoSaid' is the law's where the arguments, and the package variables that the reading takes, are together of bulk at most 1048576: NARROWER than '..Said'. Prove '..Said' where nothing that the law and all that it calls make is longer than what came in: it says more and counts as full. Else prove '..UptoSaid'. A law counts once. -/
mutual
def uptoBulk {H : Type} : DataW H → Nat
  | .lit (.string bytes) => bytes.length + 1
  | .lit _ => 1
  | .nil => 1
  | .ptr d => uptoBulk d + 1
  | .slice elems spare => uptoBulkAll elems + uptoBulkAll spare + 1
  | .agg parts => uptoBulkAll parts + 1
  | .iface _ d => uptoBulk d + 1
  | .map entries => uptoBulkEntries entries + 1
  | .held _ => 1
def uptoBulkAll {H : Type} : List (DataW H) → Nat
  | [] => 0
  | d :: r => uptoBulk d + uptoBulkAll r
def uptoBulkEntries {H : Type} : List (Lit × DataW H) → Nat
  | [] => 0
  | x :: r => uptoBulkEntry x + uptoBulkEntries r
def uptoBulkEntry {H : Type} : Lit × DataW H → Nat
  | (.string bytes, d) => bytes.length + uptoBulk d + 1
  | (_, d) => uptoBulk d + 1
 end
def uptoSmall : (H : Type) → List (DataW H) → Bool := fun _ ds => decide (uptoBulkAll ds ≤ 1048576)
def OpenSpec.upto (s : _root_.Go.ChangeSpec) : _root_.Go.OpenSpec := { _root_.Go.OpenSpec.ofChange s with cond := some uptoSmall }

/-- 'ticklerlaw18.BackoffGrows', WHERE WHAT IT READS IS OF BULK AT MOST 1048576: true; the input reads as it did. -/
def backoffGrowsUptoRow : OpenClaim := { program := "ytahocnnnipaejaa", sum := "4ce1b7f84905761b0c4b6cd6bf11eca9f32af2910bcade8b56fc8ac3f59eacf7", func := "tickler/ticklerlaw18.BackoffGrows", spec := "backoffGrows", apart := false, narrowed := true }
def BackoffGrowsUptoSaid : Prop := backoffGrowsUptoRow.holds Try.pinned (OpenSpec.upto backoffGrowsSpec)

/-- 'ticklerlaw18.BackoffSums', WHERE WHAT IT READS IS OF BULK AT MOST 1048576: true; the input reads as it did. -/
def backoffSumsUptoRow : OpenClaim := { program := "ytahocnnnipaejaa", sum := "4ce1b7f84905761b0c4b6cd6bf11eca9f32af2910bcade8b56fc8ac3f59eacf7", func := "tickler/ticklerlaw18.BackoffSums", spec := "backoffSums", apart := false, narrowed := true }
def BackoffSumsUptoSaid : Prop := backoffSumsUptoRow.holds Try.pinned (OpenSpec.upto backoffSumsSpec)

/-- 'ticklerlaw18.BackoffDoubles', WHERE WHAT IT READS IS OF BULK AT MOST 1048576: true; the input reads as it did. -/
def backoffDoublesUptoRow : OpenClaim := { program := "ytahocnnnipaejaa", sum := "4ce1b7f84905761b0c4b6cd6bf11eca9f32af2910bcade8b56fc8ac3f59eacf7", func := "tickler/ticklerlaw18.BackoffDoubles", spec := "backoffDoubles", apart := false, narrowed := true }
def BackoffDoublesUptoSaid : Prop := backoffDoublesUptoRow.holds Try.pinned (OpenSpec.upto backoffDoublesSpec)

/-- 'ticklerlaw18.BackoffTells', WHERE WHAT IT READS IS OF BULK AT MOST 1048576: true; the input reads as it did. -/
def backoffTellsUptoRow : OpenClaim := { program := "ytahocnnnipaejaa", sum := "4ce1b7f84905761b0c4b6cd6bf11eca9f32af2910bcade8b56fc8ac3f59eacf7", func := "tickler/ticklerlaw18.BackoffTells", spec := "backoffTells", apart := false, narrowed := true }
def BackoffTellsUptoSaid : Prop := backoffTellsUptoRow.holds Try.pinned (OpenSpec.upto backoffTellsSpec)

/-- 'ticklerlaw18.BackoffLate', WHERE WHAT IT READS IS OF BULK AT MOST 1048576: true; the input reads as it did. -/
def backoffLateUptoRow : OpenClaim := { program := "ytahocnnnipaejaa", sum := "4ce1b7f84905761b0c4b6cd6bf11eca9f32af2910bcade8b56fc8ac3f59eacf7", func := "tickler/ticklerlaw18.BackoffLate", spec := "backoffLate", apart := false, narrowed := true }
def BackoffLateUptoSaid : Prop := backoffLateUptoRow.holds Try.pinned (OpenSpec.upto backoffLateSpec)

end Rows
end Go.Proofs.Ytahocnnnipaejaa
