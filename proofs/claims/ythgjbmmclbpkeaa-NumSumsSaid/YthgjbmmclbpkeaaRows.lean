/-
  No cell of these rows narrows 'for every input' (looked for: loops, veiled, ifaces, maps, wideKeys, modest, calm, conditions, laid).
  DERIVED. THE GIVEN ROWS OF THIS SEAT. 8 by the template 'for every input the law returns true; each argument reads behind the call as it read before'; 0 by the template 'total and deterministic' (their statements: YthgjbmmclbpkeaaTotals.lean).
  GIVEN WITH THE SEED: the statements are not yours to turn. If you find one false, say at which input.
  Laid BY PROGRAM, IN A SANDBOX (cutbox-rows.mjs): the forced cells as the released guide's own fill.sh prints them over the translation b5e0f30f4a9ab458… (all of the seat's roots in one cut). By AI agents, Wed Nov 11 2026. No macro, syntax, notation, axiom, sorry.
-/
import Derived.Test.YthgjbmmclbpkeaaChecked
import GoSem.Claim
import GoSem.ClaimJoined
import GoSem.ClaimMapViews
import Derived.JoinedTies
import Derived.KernelRfl
namespace Go.Proofs.Ythgjbmmclbpkeaa
/- THE CELL 'sum', in the pinned program and in every row, IS THE sha256 OF THE DUMP (.gsa) THAT YthgjbmmclbpkeaaProg.lean LOADS. Nothing in Lean hashes anything: it is a label: what it is worth is what the hold of that sum in a sandbox is worth. -/
noncomputable def Try.pinned : Pinned := { name := "ythgjbmmclbpkeaa", sum := "b5e0f30f4a9ab45893817ee7916b6bf7f1c2325154a37eae5bbec2a2b3ddd2ce", checked := Try.checked }
namespace Rows
def none {H : Type} : Left H := { results := [], args := [] }

/-- 'draylaw1.NumRuns': WHATEVER THE INPUT: true; the input reads as it did. -/
def numRunsSpec : ChangeSpec := { name := "numRuns", fn := fun _ => fun
  | [] => { results := [.lit (.bool true)], args := [] }
  | _ => none }
def numRunsRow : OpenClaim := { program := "ythgjbmmclbpkeaa", sum := "b5e0f30f4a9ab45893817ee7916b6bf7f1c2325154a37eae5bbec2a2b3ddd2ce", func := "dray/draylaw1.NumRuns", spec := "numRuns", apart := false }
def NumRunsSaid : Prop := numRunsRow.holds Try.pinned (OpenSpec.ofChange numRunsSpec)

/-- ITS FALSE NEIGHBOUR: 'it returns false'. Refute it at one input. -/
def numRunsWrong : ChangeSpec := { name := "numRuns", fn := fun _ => fun
  | [] => { results := [.lit (.bool false)], args := [] }
  | _ => none }
def NumRunsWrongFalsely : Prop := numRunsRow.holds Try.pinned (OpenSpec.ofChange numRunsWrong)

/-- 'draylaw1.NumIn': WHATEVER THE INPUT: true; the input reads as it did. -/
def numInSpec : ChangeSpec := { name := "numIn", fn := fun _ => fun
  | [d1, d2, d3] => { results := [.lit (.bool true)], args := [d1, d2, d3] }
  | _ => none }
def numInRow : OpenClaim := { program := "ythgjbmmclbpkeaa", sum := "b5e0f30f4a9ab45893817ee7916b6bf7f1c2325154a37eae5bbec2a2b3ddd2ce", func := "dray/draylaw1.NumIn", spec := "numIn", apart := false }
def NumInSaid : Prop := numInRow.holds Try.pinned (OpenSpec.ofChange numInSpec)

/-- ITS FALSE NEIGHBOUR: 'it returns false'. Refute it at one input. -/
def numInWrong : ChangeSpec := { name := "numIn", fn := fun _ => fun
  | [d1, d2, d3] => { results := [.lit (.bool false)], args := [d1, d2, d3] }
  | _ => none }
def NumInWrongFalsely : Prop := numInRow.holds Try.pinned (OpenSpec.ofChange numInWrong)

/-- 'draylaw1.NumSums': WHATEVER THE INPUT: true; the input reads as it did. -/
def numSumsSpec : ChangeSpec := { name := "numSums", fn := fun _ => fun
  | [d] => { results := [.lit (.bool true)], args := [d] }
  | _ => none }
def numSumsRow : OpenClaim := { program := "ythgjbmmclbpkeaa", sum := "b5e0f30f4a9ab45893817ee7916b6bf7f1c2325154a37eae5bbec2a2b3ddd2ce", func := "dray/draylaw1.NumSums", spec := "numSums", apart := false }
def NumSumsSaid : Prop := numSumsRow.holds Try.pinned (OpenSpec.ofChange numSumsSpec)

/-- ITS FALSE NEIGHBOUR: 'it returns false'. Refute it at one input. -/
def numSumsWrong : ChangeSpec := { name := "numSums", fn := fun _ => fun
  | [d] => { results := [.lit (.bool false)], args := [d] }
  | _ => none }
def NumSumsWrongFalsely : Prop := numSumsRow.holds Try.pinned (OpenSpec.ofChange numSumsWrong)

/-- 'draylaw1.NumMuls': WHATEVER THE INPUT: true; the input reads as it did. -/
def numMulsSpec : ChangeSpec := { name := "numMuls", fn := fun _ => fun
  | [d1, d2] => { results := [.lit (.bool true)], args := [d1, d2] }
  | _ => none }
def numMulsRow : OpenClaim := { program := "ythgjbmmclbpkeaa", sum := "b5e0f30f4a9ab45893817ee7916b6bf7f1c2325154a37eae5bbec2a2b3ddd2ce", func := "dray/draylaw1.NumMuls", spec := "numMuls", apart := false }
def NumMulsSaid : Prop := numMulsRow.holds Try.pinned (OpenSpec.ofChange numMulsSpec)

/-- ITS FALSE NEIGHBOUR: 'it returns false'. Refute it at one input. -/
def numMulsWrong : ChangeSpec := { name := "numMuls", fn := fun _ => fun
  | [d1, d2] => { results := [.lit (.bool false)], args := [d1, d2] }
  | _ => none }
def NumMulsWrongFalsely : Prop := numMulsRow.holds Try.pinned (OpenSpec.ofChange numMulsWrong)

/-- 'draylaw1.NumParts': WHATEVER THE INPUT: true; the input reads as it did. -/
def numPartsSpec : ChangeSpec := { name := "numParts", fn := fun _ => fun
  | [d1, d2] => { results := [.lit (.bool true)], args := [d1, d2] }
  | _ => none }
def numPartsRow : OpenClaim := { program := "ythgjbmmclbpkeaa", sum := "b5e0f30f4a9ab45893817ee7916b6bf7f1c2325154a37eae5bbec2a2b3ddd2ce", func := "dray/draylaw1.NumParts", spec := "numParts", apart := false }
def NumPartsSaid : Prop := numPartsRow.holds Try.pinned (OpenSpec.ofChange numPartsSpec)

/-- ITS FALSE NEIGHBOUR: 'it returns false'. Refute it at one input. -/
def numPartsWrong : ChangeSpec := { name := "numParts", fn := fun _ => fun
  | [d1, d2] => { results := [.lit (.bool false)], args := [d1, d2] }
  | _ => none }
def NumPartsWrongFalsely : Prop := numPartsRow.holds Try.pinned (OpenSpec.ofChange numPartsWrong)

/-- 'draylaw1.NumBounds': WHATEVER THE INPUT: true; the input reads as it did. -/
def numBoundsSpec : ChangeSpec := { name := "numBounds", fn := fun _ => fun
  | [d1, d2] => { results := [.lit (.bool true)], args := [d1, d2] }
  | _ => none }
def numBoundsRow : OpenClaim := { program := "ythgjbmmclbpkeaa", sum := "b5e0f30f4a9ab45893817ee7916b6bf7f1c2325154a37eae5bbec2a2b3ddd2ce", func := "dray/draylaw1.NumBounds", spec := "numBounds", apart := false }
def NumBoundsSaid : Prop := numBoundsRow.holds Try.pinned (OpenSpec.ofChange numBoundsSpec)

/-- ITS FALSE NEIGHBOUR: 'it returns false'. Refute it at one input. -/
def numBoundsWrong : ChangeSpec := { name := "numBounds", fn := fun _ => fun
  | [d1, d2] => { results := [.lit (.bool false)], args := [d1, d2] }
  | _ => none }
def NumBoundsWrongFalsely : Prop := numBoundsRow.holds Try.pinned (OpenSpec.ofChange numBoundsWrong)

/-- 'draylaw1.NumGrows': WHATEVER THE INPUT: true; the input reads as it did. -/
def numGrowsSpec : ChangeSpec := { name := "numGrows", fn := fun _ => fun
  | [d1, d2, d3] => { results := [.lit (.bool true)], args := [d1, d2, d3] }
  | _ => none }
def numGrowsRow : OpenClaim := { program := "ythgjbmmclbpkeaa", sum := "b5e0f30f4a9ab45893817ee7916b6bf7f1c2325154a37eae5bbec2a2b3ddd2ce", func := "dray/draylaw1.NumGrows", spec := "numGrows", apart := false }
def NumGrowsSaid : Prop := numGrowsRow.holds Try.pinned (OpenSpec.ofChange numGrowsSpec)

/-- ITS FALSE NEIGHBOUR: 'it returns false'. Refute it at one input. -/
def numGrowsWrong : ChangeSpec := { name := "numGrows", fn := fun _ => fun
  | [d1, d2, d3] => { results := [.lit (.bool false)], args := [d1, d2, d3] }
  | _ => none }
def NumGrowsWrongFalsely : Prop := numGrowsRow.holds Try.pinned (OpenSpec.ofChange numGrowsWrong)

/-- 'draylaw1.NumTurned': WHATEVER THE INPUT: true; the input reads as it did. -/
def numTurnedSpec : ChangeSpec := { name := "numTurned", fn := fun _ => fun
  | [d1, d2, d3] => { results := [.lit (.bool true)], args := [d1, d2, d3] }
  | _ => none }
def numTurnedRow : OpenClaim := { program := "ythgjbmmclbpkeaa", sum := "b5e0f30f4a9ab45893817ee7916b6bf7f1c2325154a37eae5bbec2a2b3ddd2ce", func := "dray/draylaw1.NumTurned", spec := "numTurned", apart := false }
def NumTurnedSaid : Prop := numTurnedRow.holds Try.pinned (OpenSpec.ofChange numTurnedSpec)

/-- ITS FALSE NEIGHBOUR: 'it returns false'. Refute it at one input. -/
def numTurnedWrong : ChangeSpec := { name := "numTurned", fn := fun _ => fun
  | [d1, d2, d3] => { results := [.lit (.bool false)], args := [d1, d2, d3] }
  | _ => none }
def NumTurnedWrongFalsely : Prop := numTurnedRow.holds Try.pinned (OpenSpec.ofChange numTurnedWrong)

/- THE SECOND FORM. 'bulk': how many values and letters a reading holds, each counted each time it is reached (what is shared counts as often as it is met; a slice's spare places count too). A statement '..UptoSaid' is the law's where the arguments, and the package variables that the reading takes, are together of bulk at most 1048576: NARROWER than '..Said'. Prove '..Said' where nothing that the law and all that it calls make is longer than what came in: it says more and counts as full. Else prove '..UptoSaid'. A law counts once. -/
mutual
def uptoBulk {H : Type} : DataW H → Nat
  | .lit (.string bytes) => bytes.length + 1
  | .lit _ => 1
  | .nil => 1
  | .ptr d => uptoBulk d + 1
  | .slice elems spare => uptoBulkAll elems + uptoBulkAll spare + 1
  | .agg parts => uptoBulkAll parts + 1
  | .iface _ d => uptoBulk d + 1
  | .map entries => uptoBulkEntries entries + 1
  | .held _ => 1
def uptoBulkAll {H : Type} : List (DataW H) → Nat
  | [] => 0
  | d :: r => uptoBulk d + uptoBulkAll r
def uptoBulkEntries {H : Type} : List (Lit × DataW H) → Nat
  | [] => 0
  | x :: r => uptoBulkEntry x + uptoBulkEntries r
def uptoBulkEntry {H : Type} : Lit × DataW H → Nat
  | (.string bytes, d) => bytes.length + uptoBulk d + 1
  | (_, d) => uptoBulk d + 1
 end
def uptoSmall : (H : Type) → List (DataW H) → Bool := fun _ ds => decide (uptoBulkAll ds ≤ 1048576)
def OpenSpec.upto (s : _root_.Go.ChangeSpec) : _root_.Go.OpenSpec := { _root_.Go.OpenSpec.ofChange s with cond := some uptoSmall }

/-- 'draylaw1.NumRuns', WHERE WHAT IT READS IS OF BULK AT MOST 1048576: true; the input reads as it did. -/
def numRunsUptoRow : OpenClaim := { program := "ythgjbmmclbpkeaa", sum := "b5e0f30f4a9ab45893817ee7916b6bf7f1c2325154a37eae5bbec2a2b3ddd2ce", func := "dray/draylaw1.NumRuns", spec := "numRuns", apart := false, narrowed := true }
def NumRunsUptoSaid : Prop := numRunsUptoRow.holds Try.pinned (OpenSpec.upto numRunsSpec)

/-- 'draylaw1.NumIn', WHERE WHAT IT READS IS OF BULK AT MOST 1048576: true; the input reads as it did. -/
def numInUptoRow : OpenClaim := { program := "ythgjbmmclbpkeaa", sum := "b5e0f30f4a9ab45893817ee7916b6bf7f1c2325154a37eae5bbec2a2b3ddd2ce", func := "dray/draylaw1.NumIn", spec := "numIn", apart := false, narrowed := true }
def NumInUptoSaid : Prop := numInUptoRow.holds Try.pinned (OpenSpec.upto numInSpec)

/-- 'draylaw1.NumSums', WHERE WHAT IT READS IS OF BULK AT MOST 1048576: true; the input reads as it did. -/
def numSumsUptoRow : OpenClaim := { program := "ythgjbmmclbpkeaa", sum := "b5e0f30f4a9ab45893817ee7916b6bf7f1c2325154a37eae5bbec2a2b3ddd2ce", func := "dray/draylaw1.NumSums", spec := "numSums", apart := false, narrowed := true }
def NumSumsUptoSaid : Prop := numSumsUptoRow.holds Try.pinned (OpenSpec.upto numSumsSpec)

/-- 'draylaw1.NumMuls', WHERE WHAT IT READS IS OF BULK AT MOST 1048576: true; the input reads as it did. -/
def numMulsUptoRow : OpenClaim := { program := "ythgjbmmclbpkeaa", sum := "b5e0f30f4a9ab45893817ee7916b6bf7f1c2325154a37eae5bbec2a2b3ddd2ce", func := "dray/draylaw1.NumMuls", spec := "numMuls", apart := false, narrowed := true }
def NumMulsUptoSaid : Prop := numMulsUptoRow.holds Try.pinned (OpenSpec.upto numMulsSpec)

/-- 'draylaw1.NumParts', WHERE WHAT IT READS IS OF BULK AT MOST 1048576: true; the input reads as it did. -/
def numPartsUptoRow : OpenClaim := { program := "ythgjbmmclbpkeaa", sum := "b5e0f30f4a9ab45893817ee7916b6bf7f1c2325154a37eae5bbec2a2b3ddd2ce", func := "dray/draylaw1.NumParts", spec := "numParts", apart := false, narrowed := true }
def NumPartsUptoSaid : Prop := numPartsUptoRow.holds Try.pinned (OpenSpec.upto numPartsSpec)

/-- 'draylaw1.NumBounds', WHERE WHAT IT READS IS OF BULK AT MOST 1048576: true; the input reads as it did. -/
def numBoundsUptoRow : OpenClaim := { program := "ythgjbmmclbpkeaa", sum := "b5e0f30f4a9ab45893817ee7916b6bf7f1c2325154a37eae5bbec2a2b3ddd2ce", func := "dray/draylaw1.NumBounds", spec := "numBounds", apart := false, narrowed := true }
def NumBoundsUptoSaid : Prop := numBoundsUptoRow.holds Try.pinned (OpenSpec.upto numBoundsSpec)

/-- 'draylaw1.NumGrows', WHERE WHAT IT READS IS OF BULK AT MOST 1048576: true; the input reads as it did. -/
def numGrowsUptoRow : OpenClaim := { program := "ythgjbmmclbpkeaa", sum := "b5e0f30f4a9ab45893817ee7916b6bf7f1c2325154a37eae5bbec2a2b3ddd2ce", func := "dray/draylaw1.NumGrows", spec := "numGrows", apart := false, narrowed := true }
def NumGrowsUptoSaid : Prop := numGrowsUptoRow.holds Try.pinned (OpenSpec.upto numGrowsSpec)

/-- 'draylaw1.NumTurned', WHERE WHAT IT READS IS OF BULK AT MOST 1048576: true; the input reads as it did. -/
def numTurnedUptoRow : OpenClaim := { program := "ythgjbmmclbpkeaa", sum := "b5e0f30f4a9ab45893817ee7916b6bf7f1c2325154a37eae5bbec2a2b3ddd2ce", func := "dray/draylaw1.NumTurned", spec := "numTurned", apart := false, narrowed := true }
def NumTurnedUptoSaid : Prop := numTurnedUptoRow.holds Try.pinned (OpenSpec.upto numTurnedSpec)

end Rows
end Go.Proofs.Ythgjbmmclbpkeaa
