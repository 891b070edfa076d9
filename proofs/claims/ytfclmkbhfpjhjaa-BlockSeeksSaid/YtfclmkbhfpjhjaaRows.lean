/-
  No cell of these rows narrows 'for every input' (looked for: loops, veiled, ifaces, maps, wideKeys, modest, calm, conditions, laid).
  DERIVED. THE GIVEN ROWS OF THIS SEAT. 6 by the template 'for every input the law returns true; each argument reads behind the call as it read before'; 0 by the template 'total and deterministic' (their statements: YtfclmkbhfpjhjaaTotals.lean).
  GIVEN WITH THE SEED: the statements are not yours to turn. If you find one false, say at which input.
  Laid BY PROGRAM, IN A SANDBOX (cutbox-rows.mjs): the forced cells as the released guide's own fill.sh prints them over the translation cb446e04cb0766b1… (all of the seat's roots in one cut). By AI agents, Wed Nov 11 2026. No macro, syntax, notation, axiom, sorry.
-/
import Derived.Test.YtfclmkbhfpjhjaaChecked
import GoSem.Claim
import GoSem.ClaimJoined
import GoSem.ClaimMapViews
import Derived.JoinedTies
import Derived.KernelRfl
namespace Go.Proofs.Ytfclmkbhfpjhjaa
/- THE CELL 'sum', in the pinned program and in every row, IS THE sha256 OF THE DUMP (.gsa) THAT YtfclmkbhfpjhjaaProg.lean LOADS. Nothing in Lean hashes anything: it is a label: what it is worth is what the hold of that sum in a sandbox is worth. -/
noncomputable def Try.pinned : Pinned := { name := "ytfclmkbhfpjhjaa", sum := "cb446e04cb0766b1883b14ca734867b984bba589867b9318a3959a571836794e", checked := Try.checked }
namespace Rows
def none {H : Type} : Left H := { results := [], args := [] }

/-- 'ticklerlaw09.BlockBack': WHATEVER THE INPUT: true; the input reads as it did. -/
def blockBackSpec : ChangeSpec := { name := "blockBack", fn := fun _ => fun
  | [d1, d2] => { results := [.lit (.bool true)], args := [d1, d2] }
  | _ => none }
def blockBackRow : OpenClaim := { program := "ytfclmkbhfpjhjaa", sum := "cb446e04cb0766b1883b14ca734867b984bba589867b9318a3959a571836794e", func := "tickler/ticklerlaw09.BlockBack", spec := "blockBack", apart := false }
def BlockBackSaid : Prop := blockBackRow.holds Try.pinned (OpenSpec.ofChange blockBackSpec)

/-- ITS FALSE NEIGHBOUR: 'it returns false'. Refute it at one input. -/
def blockBackWrong : ChangeSpec := { name := "blockBack", fn := fun _ => fun
  | [d1, d2] => { results := [.lit (.bool false)], args := [d1, d2] }
  | _ => none }
def BlockBackWrongFalsely : Prop := blockBackRow.holds Try.pinned (OpenSpec.ofChange blockBackWrong)

/-- 'ticklerlaw09.BlockRot': WHATEVER THE INPUT: true; the input reads as it did. -/
def blockRotSpec : ChangeSpec := { name := "blockRot", fn := fun _ => fun
  | [d1, d2, d3] => { results := [.lit (.bool true)], args := [d1, d2, d3] }
  | _ => none }
def blockRotRow : OpenClaim := { program := "ytfclmkbhfpjhjaa", sum := "cb446e04cb0766b1883b14ca734867b984bba589867b9318a3959a571836794e", func := "tickler/ticklerlaw09.BlockRot", spec := "blockRot", apart := false }
def BlockRotSaid : Prop := blockRotRow.holds Try.pinned (OpenSpec.ofChange blockRotSpec)

/-- ITS FALSE NEIGHBOUR: 'it returns false'. Refute it at one input. -/
def blockRotWrong : ChangeSpec := { name := "blockRot", fn := fun _ => fun
  | [d1, d2, d3] => { results := [.lit (.bool false)], args := [d1, d2, d3] }
  | _ => none }
def BlockRotWrongFalsely : Prop := blockRotRow.holds Try.pinned (OpenSpec.ofChange blockRotWrong)

/-- 'ticklerlaw09.BlockShort': WHATEVER THE INPUT: true; the input reads as it did. -/
def blockShortSpec : ChangeSpec := { name := "blockShort", fn := fun _ => fun
  | [d1, d2] => { results := [.lit (.bool true)], args := [d1, d2] }
  | _ => none }
def blockShortRow : OpenClaim := { program := "ytfclmkbhfpjhjaa", sum := "cb446e04cb0766b1883b14ca734867b984bba589867b9318a3959a571836794e", func := "tickler/ticklerlaw09.BlockShort", spec := "blockShort", apart := false }
def BlockShortSaid : Prop := blockShortRow.holds Try.pinned (OpenSpec.ofChange blockShortSpec)

/-- ITS FALSE NEIGHBOUR: 'it returns false'. Refute it at one input. -/
def blockShortWrong : ChangeSpec := { name := "blockShort", fn := fun _ => fun
  | [d1, d2] => { results := [.lit (.bool false)], args := [d1, d2] }
  | _ => none }
def BlockShortWrongFalsely : Prop := blockShortRow.holds Try.pinned (OpenSpec.ofChange blockShortWrong)

/-- 'ticklerlaw09.BlockOwn': WHATEVER THE INPUT: true; the input reads as it did. -/
def blockOwnSpec : ChangeSpec := { name := "blockOwn", fn := fun _ => fun
  | [d] => { results := [.lit (.bool true)], args := [d] }
  | _ => none }
def blockOwnRow : OpenClaim := { program := "ytfclmkbhfpjhjaa", sum := "cb446e04cb0766b1883b14ca734867b984bba589867b9318a3959a571836794e", func := "tickler/ticklerlaw09.BlockOwn", spec := "blockOwn", apart := false }
def BlockOwnSaid : Prop := blockOwnRow.holds Try.pinned (OpenSpec.ofChange blockOwnSpec)

/-- ITS FALSE NEIGHBOUR: 'it returns false'. Refute it at one input. -/
def blockOwnWrong : ChangeSpec := { name := "blockOwn", fn := fun _ => fun
  | [d] => { results := [.lit (.bool false)], args := [d] }
  | _ => none }
def BlockOwnWrongFalsely : Prop := blockOwnRow.holds Try.pinned (OpenSpec.ofChange blockOwnWrong)

/-- 'ticklerlaw09.BlockTells': WHATEVER THE INPUT: true; the input reads as it did. -/
def blockTellsSpec : ChangeSpec := { name := "blockTells", fn := fun _ => fun
  | [d1, d2, d3, d4] => { results := [.lit (.bool true)], args := [d1, d2, d3, d4] }
  | _ => none }
def blockTellsRow : OpenClaim := { program := "ytfclmkbhfpjhjaa", sum := "cb446e04cb0766b1883b14ca734867b984bba589867b9318a3959a571836794e", func := "tickler/ticklerlaw09.BlockTells", spec := "blockTells", unfollowed := true, recurses := true, apart := false }
def BlockTellsSaid : Prop := blockTellsRow.holds Try.pinned (OpenSpec.ofChange blockTellsSpec)

/-- ITS FALSE NEIGHBOUR: 'it returns false'. Refute it at one input. -/
def blockTellsWrong : ChangeSpec := { name := "blockTells", fn := fun _ => fun
  | [d1, d2, d3, d4] => { results := [.lit (.bool false)], args := [d1, d2, d3, d4] }
  | _ => none }
def BlockTellsWrongFalsely : Prop := blockTellsRow.holds Try.pinned (OpenSpec.ofChange blockTellsWrong)

/-- 'ticklerlaw09.BlockSeeks': WHATEVER THE INPUT: true; the input reads as it did. -/
def blockSeeksSpec : ChangeSpec := { name := "blockSeeks", fn := fun _ => fun
  | [d1, d2, d3] => { results := [.lit (.bool true)], args := [d1, d2, d3] }
  | _ => none }
def blockSeeksRow : OpenClaim := { program := "ytfclmkbhfpjhjaa", sum := "cb446e04cb0766b1883b14ca734867b984bba589867b9318a3959a571836794e", func := "tickler/ticklerlaw09.BlockSeeks", spec := "blockSeeks", unfollowed := true, recurses := true, apart := false }
def BlockSeeksSaid : Prop := blockSeeksRow.holds Try.pinned (OpenSpec.ofChange blockSeeksSpec)

/-- ITS FALSE NEIGHBOUR: 'it returns false'. Refute it at one input. -/
def blockSeeksWrong : ChangeSpec := { name := "blockSeeks", fn := fun _ => fun
  | [d1, d2, d3] => { results := [.lit (.bool false)], args := [d1, d2, d3] }
  | _ => none }
def BlockSeeksWrongFalsely : Prop := blockSeeksRow.holds Try.pinned (OpenSpec.ofChange blockSeeksWrong)

/- THE SECOND FORM. 'bulk': how many values and letters a reading holds, each counted each time it is reached (what is shared counts as often as it is met; a slice's spare places count too). A statement '..UptoSaid' is the law's where the arguments, and the package variables that the reading takes, are together of bulk at most 1048576: NARROWER than '..Said'. Prove '..Said' where nothing that the law and all that it calls make is longer than what came in: it says more and counts as full. Else prove '..UptoSaid'. A law counts once. -/
mutual
def uptoBulk {H : Type} : DataW H → Nat
  | .lit (.string bytes) => bytes.length + 1
  | .lit _ => 1
  | .nil => 1
  | .ptr d => uptoBulk d + 1
  | .slice elems spare => uptoBulkAll elems + uptoBulkAll spare + 1
  | .agg parts => uptoBulkAll parts + 1
  | .iface _ d => uptoBulk d + 1
  | .map entries => uptoBulkEntries entries + 1
  | .held _ => 1
def uptoBulkAll {H : Type} : List (DataW H) → Nat
  | [] => 0
  | d :: r => uptoBulk d + uptoBulkAll r
def uptoBulkEntries {H : Type} : List (Lit × DataW H) → Nat
  | [] => 0
  | x :: r => uptoBulkEntry x + uptoBulkEntries r
def uptoBulkEntry {H : Type} : Lit × DataW H → Nat
  | (.string bytes, d) => bytes.length + uptoBulk d + 1
  | (_, d) => uptoBulk d + 1
 end
def uptoSmall : (H : Type) → List (DataW H) → Bool := fun _ ds => decide (uptoBulkAll ds ≤ 1048576)
def OpenSpec.upto (s : _root_.Go.ChangeSpec) : _root_.Go.OpenSpec := { _root_.Go.OpenSpec.ofChange s with cond := some uptoSmall }

/-- 'ticklerlaw09.BlockBack', WHERE WHAT IT READS IS OF BULK AT MOST 1048576: true; the input reads as it did. -/
def blockBackUptoRow : OpenClaim := { program := "ytfclmkbhfpjhjaa", sum := "cb446e04cb0766b1883b14ca734867b984bba589867b9318a3959a571836794e", func := "tickler/ticklerlaw09.BlockBack", spec := "blockBack", apart := false, narrowed := true }
def BlockBackUptoSaid : Prop := blockBackUptoRow.holds Try.pinned (OpenSpec.upto blockBackSpec)

/-- 'ticklerlaw09.BlockRot', WHERE WHAT IT READS IS OF BULK AT MOST 1048576: true; the input reads as it did. -/
def blockRotUptoRow : OpenClaim := { program := "ytfclmkbhfpjhjaa", sum := "cb446e04cb0766b1883b14ca734867b984bba589867b9318a3959a571836794e", func := "tickler/ticklerlaw09.BlockRot", spec := "blockRot", apart := false, narrowed := true }
def BlockRotUptoSaid : Prop := blockRotUptoRow.holds Try.pinned (OpenSpec.upto blockRotSpec)

/-- 'ticklerlaw09.BlockShort', WHERE WHAT IT READS IS OF BULK AT MOST 1048576: true; the input reads as it did. -/
def blockShortUptoRow : OpenClaim := { program := "ytfclmkbhfpjhjaa", sum := "cb446e04cb0766b1883b14ca734867b984bba589867b9318a3959a571836794e", func := "tickler/ticklerlaw09.BlockShort", spec := "blockShort", apart := false, narrowed := true }
def BlockShortUptoSaid : Prop := blockShortUptoRow.holds Try.pinned (OpenSpec.upto blockShortSpec)

/-- 'ticklerlaw09.BlockOwn', WHERE WHAT IT READS IS OF BULK AT MOST 1048576: true; the input reads as it did. -/
def blockOwnUptoRow : OpenClaim := { program := "ytfclmkbhfpjhjaa", sum := "cb446e04cb0766b1883b14ca734867b984bba589867b9318a3959a571836794e", func := "tickler/ticklerlaw09.BlockOwn", spec := "blockOwn", apart := false, narrowed := true }
def BlockOwnUptoSaid : Prop := blockOwnUptoRow.holds Try.pinned (OpenSpec.upto blockOwnSpec)

/-- 'ticklerlaw09.BlockTells', WHERE WHAT IT READS IS OF BULK AT MOST 1048576: true; the input reads as it did. -/
def blockTellsUptoRow : OpenClaim := { program := "ytfclmkbhfpjhjaa", sum := "cb446e04cb0766b1883b14ca734867b984bba589867b9318a3959a571836794e", func := "tickler/ticklerlaw09.BlockTells", spec := "blockTells", unfollowed := true, recurses := true, apart := false, narrowed := true }
def BlockTellsUptoSaid : Prop := blockTellsUptoRow.holds Try.pinned (OpenSpec.upto blockTellsSpec)

/-- 'ticklerlaw09.BlockSeeks', WHERE WHAT IT READS IS OF BULK AT MOST 1048576: true; the input reads as it did. -/
def blockSeeksUptoRow : OpenClaim := { program := "ytfclmkbhfpjhjaa", sum := "cb446e04cb0766b1883b14ca734867b984bba589867b9318a3959a571836794e", func := "tickler/ticklerlaw09.BlockSeeks", spec := "blockSeeks", unfollowed := true, recurses := true, apart := false, narrowed := true }
def BlockSeeksUptoSaid : Prop := blockSeeksUptoRow.holds Try.pinned (OpenSpec.upto blockSeeksSpec)

end Rows
end Go.Proofs.Ytfclmkbhfpjhjaa
