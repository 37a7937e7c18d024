/-
  No cell of these rows narrows 'for every input' (looked for: loops, veiled, ifaces, maps, wideKeys, modest, calm, conditions, laid).
  DERIVED. THE GIVEN ROWS OF THIS SEAT. 8 by the template 'for every input the law returns true; each argument reads behind the call as it read before'; 0 by the template 'total and deterministic' (their statements: YtihebhdgjnibfaaTotals.lean).
  GIVEN WITH THE SEED: the statements are not yours to turn. If you find one false, say at which input.
  Laid BY PROGRAM, IN A SANDBOX (cutbox-rows.mjs): the forced cells as the released guide's own fill.sh prints them over the translation 84c126af2bc2f7f3… (all of the seat's roots in one cut). By AI agents, Wed Nov 11 2026. No macro, syntax, notation, axiom, sorry.
-/
import Derived.Test.YtihebhdgjnibfaaChecked
import GoSem.Claim
import GoSem.ClaimJoined
import GoSem.ClaimMapViews
import Derived.JoinedTies
import Derived.KernelRfl
namespace Go.Proofs.Ytihebhdgjnibfaa
/- THE CELL 'sum', in the pinned program and in every row, IS THE sha256 OF THE DUMP (.gsa) THAT YtihebhdgjnibfaaProg.lean LOADS. Nothing in Lean hashes anything: it is a label: what it is worth is what the hold of that sum in a sandbox is worth. -/
noncomputable def Try.pinned : Pinned := { name := "ytihebhdgjnibfaa", sum := "84c126af2bc2f7f383dc226b7d56bad75eebe2d1e94dce0542ee8ba70c08fc79", checked := Try.checked }
namespace Rows
def none {H : Type} : Left H := { results := [], args := [] }

/-- 'deduplaw04.LayoutKinds': WHATEVER THE INPUT: true; the input reads as it did. -/
def layoutKindsSpec : ChangeSpec := { name := "layoutKinds", fn := fun _ => fun
  | [d1, d2] => { results := [.lit (.bool true)], args := [d1, d2] }
  | _ => none }
def layoutKindsRow : OpenClaim := { program := "ytihebhdgjnibfaa", sum := "84c126af2bc2f7f383dc226b7d56bad75eebe2d1e94dce0542ee8ba70c08fc79", func := "dedup/deduplaw04.LayoutKinds", spec := "layoutKinds", apart := false }
def LayoutKindsSaid : Prop := layoutKindsRow.holds Try.pinned (OpenSpec.ofChange layoutKindsSpec)

/-- ITS FALSE NEIGHBOUR: 'it returns false'. Refute it at one input. -/
def layoutKindsWrong : ChangeSpec := { name := "layoutKinds", fn := fun _ => fun
  | [d1, d2] => { results := [.lit (.bool false)], args := [d1, d2] }
  | _ => none }
def LayoutKindsWrongFalsely : Prop := layoutKindsRow.holds Try.pinned (OpenSpec.ofChange layoutKindsWrong)

/-- 'deduplaw04.LayoutEncodes': WHATEVER THE INPUT: true; the input reads as it did. -/
def layoutEncodesSpec : ChangeSpec := { name := "layoutEncodes", fn := fun _ => fun
  | [d] => { results := [.lit (.bool true)], args := [d] }
  | _ => none }
def layoutEncodesRow : OpenClaim := { program := "ytihebhdgjnibfaa", sum := "84c126af2bc2f7f383dc226b7d56bad75eebe2d1e94dce0542ee8ba70c08fc79", func := "dedup/deduplaw04.LayoutEncodes", spec := "layoutEncodes", apart := false }
def LayoutEncodesSaid : Prop := layoutEncodesRow.holds Try.pinned (OpenSpec.ofChange layoutEncodesSpec)

/-- ITS FALSE NEIGHBOUR: 'it returns false'. Refute it at one input. -/
def layoutEncodesWrong : ChangeSpec := { name := "layoutEncodes", fn := fun _ => fun
  | [d] => { results := [.lit (.bool false)], args := [d] }
  | _ => none }
def LayoutEncodesWrongFalsely : Prop := layoutEncodesRow.holds Try.pinned (OpenSpec.ofChange layoutEncodesWrong)

/-- 'deduplaw04.LayoutDecodes': WHATEVER THE INPUT: true; the input reads as it did. -/
def layoutDecodesSpec : ChangeSpec := { name := "layoutDecodes", fn := fun _ => fun
  | [d] => { results := [.lit (.bool true)], args := [d] }
  | _ => none }
def layoutDecodesRow : OpenClaim := { program := "ytihebhdgjnibfaa", sum := "84c126af2bc2f7f383dc226b7d56bad75eebe2d1e94dce0542ee8ba70c08fc79", func := "dedup/deduplaw04.LayoutDecodes", spec := "layoutDecodes", apart := false }
def LayoutDecodesSaid : Prop := layoutDecodesRow.holds Try.pinned (OpenSpec.ofChange layoutDecodesSpec)

/-- ITS FALSE NEIGHBOUR: 'it returns false'. Refute it at one input. -/
def layoutDecodesWrong : ChangeSpec := { name := "layoutDecodes", fn := fun _ => fun
  | [d] => { results := [.lit (.bool false)], args := [d] }
  | _ => none }
def LayoutDecodesWrongFalsely : Prop := layoutDecodesRow.holds Try.pinned (OpenSpec.ofChange layoutDecodesWrong)

/-- 'deduplaw04.LayoutNames': WHATEVER THE INPUT: true; the input reads as it did. -/
def layoutNamesSpec : ChangeSpec := { name := "layoutNames", fn := fun _ => fun
  | [] => { results := [.lit (.bool true)], args := [] }
  | _ => none }
def layoutNamesRow : OpenClaim := { program := "ytihebhdgjnibfaa", sum := "84c126af2bc2f7f383dc226b7d56bad75eebe2d1e94dce0542ee8ba70c08fc79", func := "dedup/deduplaw04.LayoutNames", spec := "layoutNames", apart := false }
def LayoutNamesSaid : Prop := layoutNamesRow.holds Try.pinned (OpenSpec.ofChange layoutNamesSpec)

/-- ITS FALSE NEIGHBOUR: 'it returns false'. Refute it at one input. -/
def layoutNamesWrong : ChangeSpec := { name := "layoutNames", fn := fun _ => fun
  | [] => { results := [.lit (.bool false)], args := [] }
  | _ => none }
def LayoutNamesWrongFalsely : Prop := layoutNamesRow.holds Try.pinned (OpenSpec.ofChange layoutNamesWrong)

/-- 'deduplaw04.LayoutChecks': WHATEVER THE INPUT: true; the input reads as it did. -/
def layoutChecksSpec : ChangeSpec := { name := "layoutChecks", fn := fun _ => fun
  | [d] => { results := [.lit (.bool true)], args := [d] }
  | _ => none }
def layoutChecksRow : OpenClaim := { program := "ytihebhdgjnibfaa", sum := "84c126af2bc2f7f383dc226b7d56bad75eebe2d1e94dce0542ee8ba70c08fc79", func := "dedup/deduplaw04.LayoutChecks", spec := "layoutChecks", apart := false }
def LayoutChecksSaid : Prop := layoutChecksRow.holds Try.pinned (OpenSpec.ofChange layoutChecksSpec)

/-- ITS FALSE NEIGHBOUR: 'it returns false'. Refute it at one input. -/
def layoutChecksWrong : ChangeSpec := { name := "layoutChecks", fn := fun _ => fun
  | [d] => { results := [.lit (.bool false)], args := [d] }
  | _ => none }
def LayoutChecksWrongFalsely : Prop := layoutChecksRow.holds Try.pinned (OpenSpec.ofChange layoutChecksWrong)

/-- 'deduplaw04.LayoutParts': WHATEVER THE INPUT: true; the input reads as it did. -/
def layoutPartsSpec : ChangeSpec := { name := "layoutParts", fn := fun _ => fun
  | [d] => { results := [.lit (.bool true)], args := [d] }
  | _ => none }
def layoutPartsRow : OpenClaim := { program := "ytihebhdgjnibfaa", sum := "84c126af2bc2f7f383dc226b7d56bad75eebe2d1e94dce0542ee8ba70c08fc79", func := "dedup/deduplaw04.LayoutParts", spec := "layoutParts", apart := false }
def LayoutPartsSaid : Prop := layoutPartsRow.holds Try.pinned (OpenSpec.ofChange layoutPartsSpec)

/-- ITS FALSE NEIGHBOUR: 'it returns false'. Refute it at one input. -/
def layoutPartsWrong : ChangeSpec := { name := "layoutParts", fn := fun _ => fun
  | [d] => { results := [.lit (.bool false)], args := [d] }
  | _ => none }
def LayoutPartsWrongFalsely : Prop := layoutPartsRow.holds Try.pinned (OpenSpec.ofChange layoutPartsWrong)

/-- 'deduplaw04.LayoutChooses': WHATEVER THE INPUT: true; the input reads as it did. -/
def layoutChoosesSpec : ChangeSpec := { name := "layoutChooses", fn := fun _ => fun
  | [d1, d2, d3] => { results := [.lit (.bool true)], args := [d1, d2, d3] }
  | _ => none }
def layoutChoosesRow : OpenClaim := { program := "ytihebhdgjnibfaa", sum := "84c126af2bc2f7f383dc226b7d56bad75eebe2d1e94dce0542ee8ba70c08fc79", func := "dedup/deduplaw04.LayoutChooses", spec := "layoutChooses", apart := false }
def LayoutChoosesSaid : Prop := layoutChoosesRow.holds Try.pinned (OpenSpec.ofChange layoutChoosesSpec)

/-- ITS FALSE NEIGHBOUR: 'it returns false'. Refute it at one input. -/
def layoutChoosesWrong : ChangeSpec := { name := "layoutChooses", fn := fun _ => fun
  | [d1, d2, d3] => { results := [.lit (.bool false)], args := [d1, d2, d3] }
  | _ => none }
def LayoutChoosesWrongFalsely : Prop := layoutChoosesRow.holds Try.pinned (OpenSpec.ofChange layoutChoosesWrong)

/-- 'deduplaw04.LayoutOneOrOther': WHATEVER THE INPUT: true; the input reads as it did. -/
def layoutOneOrOtherSpec : ChangeSpec := { name := "layoutOneOrOther", fn := fun _ => fun
  | [d1, d2, d3] => { results := [.lit (.bool true)], args := [d1, d2, d3] }
  | _ => none }
def layoutOneOrOtherRow : OpenClaim := { program := "ytihebhdgjnibfaa", sum := "84c126af2bc2f7f383dc226b7d56bad75eebe2d1e94dce0542ee8ba70c08fc79", func := "dedup/deduplaw04.LayoutOneOrOther", spec := "layoutOneOrOther", apart := false }
def LayoutOneOrOtherSaid : Prop := layoutOneOrOtherRow.holds Try.pinned (OpenSpec.ofChange layoutOneOrOtherSpec)

/-- ITS FALSE NEIGHBOUR: 'it returns false'. Refute it at one input. -/
def layoutOneOrOtherWrong : ChangeSpec := { name := "layoutOneOrOther", fn := fun _ => fun
  | [d1, d2, d3] => { results := [.lit (.bool false)], args := [d1, d2, d3] }
  | _ => none }
def LayoutOneOrOtherWrongFalsely : Prop := layoutOneOrOtherRow.holds Try.pinned (OpenSpec.ofChange layoutOneOrOtherWrong)

/- THE SECOND FORM. 'bulk': how many values and letters a reading holds, each counted each time it is reached (what is shared counts as often as it is met; a slice's spare places count too). A statement '..UptoSaid' is the law's where the arguments, and the package variables that the reading takes, are together of bulk at most 1048576: NARROWER than '..Said'. Prove '..Said' where nothing that the law and all that it calls make is longer than what came in: it says more and counts as full. Else prove '..UptoSaid'. A law counts once. -/
mutual
def uptoBulk {H : Type} : DataW H → Nat
  | .lit (.string bytes) => bytes.length + 1
  | .lit _ => 1
  | .nil => 1
  | .ptr d => uptoBulk d + 1
  | .slice elems spare => uptoBulkAll elems + uptoBulkAll spare + 1
  | .agg parts => uptoBulkAll parts + 1
  | .iface _ d => uptoBulk d + 1
  | .map entries => uptoBulkEntries entries + 1
  | .held _ => 1
def uptoBulkAll {H : Type} : List (DataW H) → Nat
  | [] => 0
  | d :: r => uptoBulk d + uptoBulkAll r
def uptoBulkEntries {H : Type} : List (Lit × DataW H) → Nat
  | [] => 0
  | x :: r => uptoBulkEntry x + uptoBulkEntries r
def uptoBulkEntry {H : Type} : Lit × DataW H → Nat
  | (.string bytes, d) => bytes.length + uptoBulk d + 1
  | (_, d) => uptoBulk d + 1
 end
def uptoSmall : (H : Type) → List (DataW H) → Bool := fun _ ds => decide (uptoBulkAll ds ≤ 1048576)
def OpenSpec.upto (s : _root_.Go.ChangeSpec) : _root_.Go.OpenSpec := { _root_.Go.OpenSpec.ofChange s with cond := some uptoSmall }

/-- 'deduplaw04.LayoutKinds', WHERE WHAT IT READS IS OF BULK AT MOST 1048576: true; the input reads as it did. -/
def layoutKindsUptoRow : OpenClaim := { program := "ytihebhdgjnibfaa", sum := "84c126af2bc2f7f383dc226b7d56bad75eebe2d1e94dce0542ee8ba70c08fc79", func := "dedup/deduplaw04.LayoutKinds", spec := "layoutKinds", apart := false, narrowed := true }
def LayoutKindsUptoSaid : Prop := layoutKindsUptoRow.holds Try.pinned (OpenSpec.upto layoutKindsSpec)

/-- 'deduplaw04.LayoutEncodes', WHERE WHAT IT READS IS OF BULK AT MOST 1048576: true; the input reads as it did. -/
def layoutEncodesUptoRow : OpenClaim := { program := "ytihebhdgjnibfaa", sum := "84c126af2bc2f7f383dc226b7d56bad75eebe2d1e94dce0542ee8ba70c08fc79", func := "dedup/deduplaw04.LayoutEncodes", spec := "layoutEncodes", apart := false, narrowed := true }
def LayoutEncodesUptoSaid : Prop := layoutEncodesUptoRow.holds Try.pinned (OpenSpec.upto layoutEncodesSpec)

/-- 'deduplaw04.LayoutDecodes', WHERE WHAT IT READS IS OF BULK AT MOST 1048576: true; the input reads as it did. -/
def layoutDecodesUptoRow : OpenClaim := { program := "ytihebhdgjnibfaa", sum := "84c126af2bc2f7f383dc226b7d56bad75eebe2d1e94dce0542ee8ba70c08fc79", func := "dedup/deduplaw04.LayoutDecodes", spec := "layoutDecodes", apart := false, narrowed := true }
def LayoutDecodesUptoSaid : Prop := layoutDecodesUptoRow.holds Try.pinned (OpenSpec.upto layoutDecodesSpec)

/-- 'deduplaw04.LayoutNames', WHERE WHAT IT READS IS OF BULK AT MOST 1048576: true; the input reads as it did. -/
def layoutNamesUptoRow : OpenClaim := { program := "ytihebhdgjnibfaa", sum := "84c126af2bc2f7f383dc226b7d56bad75eebe2d1e94dce0542ee8ba70c08fc79", func := "dedup/deduplaw04.LayoutNames", spec := "layoutNames", apart := false, narrowed := true }
def LayoutNamesUptoSaid : Prop := layoutNamesUptoRow.holds Try.pinned (OpenSpec.upto layoutNamesSpec)

/-- 'deduplaw04.LayoutChecks', WHERE WHAT IT READS IS OF BULK AT MOST 1048576: true; the input reads as it did. -/
def layoutChecksUptoRow : OpenClaim := { program := "ytihebhdgjnibfaa", sum := "84c126af2bc2f7f383dc226b7d56bad75eebe2d1e94dce0542ee8ba70c08fc79", func := "dedup/deduplaw04.LayoutChecks", spec := "layoutChecks", apart := false, narrowed := true }
def LayoutChecksUptoSaid : Prop := layoutChecksUptoRow.holds Try.pinned (OpenSpec.upto layoutChecksSpec)

/-- 'deduplaw04.LayoutParts', WHERE WHAT IT READS IS OF BULK AT MOST 1048576: true; the input reads as it did. -/
def layoutPartsUptoRow : OpenClaim := { program := "ytihebhdgjnibfaa", sum := "84c126af2bc2f7f383dc226b7d56bad75eebe2d1e94dce0542ee8ba70c08fc79", func := "dedup/deduplaw04.LayoutParts", spec := "layoutParts", apart := false, narrowed := true }
def LayoutPartsUptoSaid : Prop := layoutPartsUptoRow.holds Try.pinned (OpenSpec.upto layoutPartsSpec)

/-- 'deduplaw04.LayoutChooses', WHERE WHAT IT READS IS OF BULK AT MOST 1048576: true; the input reads as it did. -/
def layoutChoosesUptoRow : OpenClaim := { program := "ytihebhdgjnibfaa", sum := "84c126af2bc2f7f383dc226b7d56bad75eebe2d1e94dce0542ee8ba70c08fc79", func := "dedup/deduplaw04.LayoutChooses", spec := "layoutChooses", apart := false, narrowed := true }
def LayoutChoosesUptoSaid : Prop := layoutChoosesUptoRow.holds Try.pinned (OpenSpec.upto layoutChoosesSpec)

/-- 'deduplaw04.LayoutOneOrOther', WHERE WHAT IT READS IS OF BULK AT MOST 1048576: true; the input reads as it did. -/
def layoutOneOrOtherUptoRow : OpenClaim := { program := "ytihebhdgjnibfaa", sum := "84c126af2bc2f7f383dc226b7d56bad75eebe2d1e94dce0542ee8ba70c08fc79", func := "dedup/deduplaw04.LayoutOneOrOther", spec := "layoutOneOrOther", apart := false, narrowed := true }
def LayoutOneOrOtherUptoSaid : Prop := layoutOneOrOtherUptoRow.holds Try.pinned (OpenSpec.upto layoutOneOrOtherSpec)

end Rows
end Go.Proofs.Ytihebhdgjnibfaa
