/-
  No cell of these rows narrows 'for every input' (looked for: loops, veiled, ifaces, maps, wideKeys, modest, calm, conditions, laid).
  DERIVED. THE GIVEN ROWS OF THIS SEAT. 8 by the template 'for every input the law returns true; each argument reads behind the call as it read before'; 0 by the template 'total and deterministic' (their statements: YtpdpponbhejlpaaTotals.lean).
  GIVEN WITH THE SEED: the statements are not yours to turn. If you find one false, say at which input.
  Laid BY PROGRAM, IN A SANDBOX (cutbox-rows.mjs): the forced cells as the released guide's own fill.sh prints them over the translation 4a1b8b3e68fffb90… (all of the seat's roots in one cut). By AI agents, Wed Nov 11 2026. No macro, syntax, notation, axiom, sorry.
-/
import Derived.Test.YtpdpponbhejlpaaChecked
import GoSem.Claim
import GoSem.ClaimJoined
import GoSem.ClaimMapViews
import Derived.JoinedTies
import Derived.KernelRfl
namespace Go.Proofs.Ytpdpponbhejlpaa
/- THE CELL 'sum', in the pinned program and in every row, IS THE sha256 OF THE DUMP (.gsa) THAT YtpdpponbhejlpaaProg.lean LOADS. Nothing in Lean hashes anything: it is a label: what it is worth is what the hold of that sum in a sandbox is worth. -/
noncomputable def Try.pinned : Pinned := { name := "ytpdpponbhejlpaa", sum := "4a1b8b3e68fffb90f4dd3e509b9e4484176fb45753857755b169fece43753109", checked := Try.checked }
namespace Rows
def none {H : Type} : Left H := { results := [], args := [] }

/-- 'deduplaw10.SeqSorts': WHATEVER THE INPUT: true; the input reads as it did. -/
def seqSortsSpec : ChangeSpec := { name := "seqSorts", fn := fun _ => fun
  | [d] => { results := [.lit (.bool true)], args := [d] }
  | _ => none }
def seqSortsRow : OpenClaim := { program := "ytpdpponbhejlpaa", sum := "4a1b8b3e68fffb90f4dd3e509b9e4484176fb45753857755b169fece43753109", func := "dedup/deduplaw10.SeqSorts", spec := "seqSorts", inPlace := ["slices.overlaps[dedup/seq.Item[string, int]]"], unfollowed := true, recurses := true, apart := false }
def SeqSortsSaid : Prop := seqSortsRow.holds Try.pinned (OpenSpec.ofChange seqSortsSpec)

/-- ITS FALSE NEIGHBOUR: 'it returns false'. Refute it at one input. -/
def seqSortsWrong : ChangeSpec := { name := "seqSorts", fn := fun _ => fun
  | [d] => { results := [.lit (.bool false)], args := [d] }
  | _ => none }
def SeqSortsWrongFalsely : Prop := seqSortsRow.holds Try.pinned (OpenSpec.ofChange seqSortsWrong)

/-- 'deduplaw10.SeqHeaps': WHATEVER THE INPUT: true; the input reads as it did. -/
def seqHeapsSpec : ChangeSpec := { name := "seqHeaps", fn := fun _ => fun
  | [d] => { results := [.lit (.bool true)], args := [d] }
  | _ => none }
def seqHeapsRow : OpenClaim := { program := "ytpdpponbhejlpaa", sum := "4a1b8b3e68fffb90f4dd3e509b9e4484176fb45753857755b169fece43753109", func := "dedup/deduplaw10.SeqHeaps", spec := "seqHeaps", inPlace := ["slices.overlaps[dedup/seq.Item[string, int]]"], unfollowed := true, recurses := true, apart := false }
def SeqHeapsSaid : Prop := seqHeapsRow.holds Try.pinned (OpenSpec.ofChange seqHeapsSpec)

/-- ITS FALSE NEIGHBOUR: 'it returns false'. Refute it at one input. -/
def seqHeapsWrong : ChangeSpec := { name := "seqHeaps", fn := fun _ => fun
  | [d] => { results := [.lit (.bool false)], args := [d] }
  | _ => none }
def SeqHeapsWrongFalsely : Prop := seqHeapsRow.holds Try.pinned (OpenSpec.ofChange seqHeapsWrong)

/-- 'deduplaw10.SeqWithout': WHATEVER THE INPUT: true; the input reads as it did. -/
def seqWithoutSpec : ChangeSpec := { name := "seqWithout", fn := fun _ => fun
  | [d1, d2, d3] => { results := [.lit (.bool true)], args := [d1, d2, d3] }
  | _ => none }
def seqWithoutRow : OpenClaim := { program := "ytpdpponbhejlpaa", sum := "4a1b8b3e68fffb90f4dd3e509b9e4484176fb45753857755b169fece43753109", func := "dedup/deduplaw10.SeqWithout", spec := "seqWithout", inPlace := ["slices.overlaps[dedup/seq.Item[string, int]]"], unfollowed := true, recurses := true, apart := false }
def SeqWithoutSaid : Prop := seqWithoutRow.holds Try.pinned (OpenSpec.ofChange seqWithoutSpec)

/-- ITS FALSE NEIGHBOUR: 'it returns false'. Refute it at one input. -/
def seqWithoutWrong : ChangeSpec := { name := "seqWithout", fn := fun _ => fun
  | [d1, d2, d3] => { results := [.lit (.bool false)], args := [d1, d2, d3] }
  | _ => none }
def SeqWithoutWrongFalsely : Prop := seqWithoutRow.holds Try.pinned (OpenSpec.ofChange seqWithoutWrong)

/-- 'deduplaw10.SeqMerges': WHATEVER THE INPUT: true; the input reads as it did. -/
def seqMergesSpec : ChangeSpec := { name := "seqMerges", fn := fun _ => fun
  | [d1, d2, d3] => { results := [.lit (.bool true)], args := [d1, d2, d3] }
  | _ => none }
def seqMergesRow : OpenClaim := { program := "ytpdpponbhejlpaa", sum := "4a1b8b3e68fffb90f4dd3e509b9e4484176fb45753857755b169fece43753109", func := "dedup/deduplaw10.SeqMerges", spec := "seqMerges", inPlace := ["slices.overlaps[dedup/seq.Item[string, int]]"], unfollowed := true, recurses := true, apart := false }
def SeqMergesSaid : Prop := seqMergesRow.holds Try.pinned (OpenSpec.ofChange seqMergesSpec)

/-- ITS FALSE NEIGHBOUR: 'it returns false'. Refute it at one input. -/
def seqMergesWrong : ChangeSpec := { name := "seqMerges", fn := fun _ => fun
  | [d1, d2, d3] => { results := [.lit (.bool false)], args := [d1, d2, d3] }
  | _ => none }
def SeqMergesWrongFalsely : Prop := seqMergesRow.holds Try.pinned (OpenSpec.ofChange seqMergesWrong)

/-- 'deduplaw10.SeqMerged': WHATEVER THE INPUT: true; the input reads as it did. -/
def seqMergedSpec : ChangeSpec := { name := "seqMerged", fn := fun _ => fun
  | [d1, d2, d3] => { results := [.lit (.bool true)], args := [d1, d2, d3] }
  | _ => none }
def seqMergedRow : OpenClaim := { program := "ytpdpponbhejlpaa", sum := "4a1b8b3e68fffb90f4dd3e509b9e4484176fb45753857755b169fece43753109", func := "dedup/deduplaw10.SeqMerged", spec := "seqMerged", inPlace := ["slices.overlaps[dedup/seq.Item[string, int]]"], unfollowed := true, recurses := true, apart := false }
def SeqMergedSaid : Prop := seqMergedRow.holds Try.pinned (OpenSpec.ofChange seqMergedSpec)

/-- ITS FALSE NEIGHBOUR: 'it returns false'. Refute it at one input. -/
def seqMergedWrong : ChangeSpec := { name := "seqMerged", fn := fun _ => fun
  | [d1, d2, d3] => { results := [.lit (.bool false)], args := [d1, d2, d3] }
  | _ => none }
def SeqMergedWrongFalsely : Prop := seqMergedRow.holds Try.pinned (OpenSpec.ofChange seqMergedWrong)

/-- 'deduplaw10.SeqAgrees': WHATEVER THE INPUT: true; the input reads as it did. -/
def seqAgreesSpec : ChangeSpec := { name := "seqAgrees", fn := fun _ => fun
  | [d] => { results := [.lit (.bool true)], args := [d] }
  | _ => none }
def seqAgreesRow : OpenClaim := { program := "ytpdpponbhejlpaa", sum := "4a1b8b3e68fffb90f4dd3e509b9e4484176fb45753857755b169fece43753109", func := "dedup/deduplaw10.SeqAgrees", spec := "seqAgrees", inPlace := ["slices.overlaps[dedup/seq.Item[string, int]]"], unfollowed := true, recurses := true, apart := false }
def SeqAgreesSaid : Prop := seqAgreesRow.holds Try.pinned (OpenSpec.ofChange seqAgreesSpec)

/-- ITS FALSE NEIGHBOUR: 'it returns false'. Refute it at one input. -/
def seqAgreesWrong : ChangeSpec := { name := "seqAgrees", fn := fun _ => fun
  | [d] => { results := [.lit (.bool false)], args := [d] }
  | _ => none }
def SeqAgreesWrongFalsely : Prop := seqAgreesRow.holds Try.pinned (OpenSpec.ofChange seqAgreesWrong)

/-- 'deduplaw10.SeqMaps': WHATEVER THE INPUT: true; the input reads as it did. -/
def seqMapsSpec : ChangeSpec := { name := "seqMaps", fn := fun _ => fun
  | [d] => { results := [.lit (.bool true)], args := [d] }
  | _ => none }
def seqMapsRow : OpenClaim := { program := "ytpdpponbhejlpaa", sum := "4a1b8b3e68fffb90f4dd3e509b9e4484176fb45753857755b169fece43753109", func := "dedup/deduplaw10.SeqMaps", spec := "seqMaps", inPlace := ["slices.overlaps[dedup/seq.Item[string, int]]"], unfollowed := true, recurses := true, apart := false }
def SeqMapsSaid : Prop := seqMapsRow.holds Try.pinned (OpenSpec.ofChange seqMapsSpec)

/-- ITS FALSE NEIGHBOUR: 'it returns false'. Refute it at one input. -/
def seqMapsWrong : ChangeSpec := { name := "seqMaps", fn := fun _ => fun
  | [d] => { results := [.lit (.bool false)], args := [d] }
  | _ => none }
def SeqMapsWrongFalsely : Prop := seqMapsRow.holds Try.pinned (OpenSpec.ofChange seqMapsWrong)

/-- 'deduplaw10.SeqNobody': WHATEVER THE INPUT: true; the input reads as it did. -/
def seqNobodySpec : ChangeSpec := { name := "seqNobody", fn := fun _ => fun
  | [d] => { results := [.lit (.bool true)], args := [d] }
  | _ => none }
def seqNobodyRow : OpenClaim := { program := "ytpdpponbhejlpaa", sum := "4a1b8b3e68fffb90f4dd3e509b9e4484176fb45753857755b169fece43753109", func := "dedup/deduplaw10.SeqNobody", spec := "seqNobody", inPlace := ["slices.overlaps[dedup/seq.Item[string, int]]"], unfollowed := true, recurses := true, apart := false }
def SeqNobodySaid : Prop := seqNobodyRow.holds Try.pinned (OpenSpec.ofChange seqNobodySpec)

/-- ITS FALSE NEIGHBOUR: 'it returns false'. Refute it at one input. -/
def seqNobodyWrong : ChangeSpec := { name := "seqNobody", fn := fun _ => fun
  | [d] => { results := [.lit (.bool false)], args := [d] }
  | _ => none }
def SeqNobodyWrongFalsely : Prop := seqNobodyRow.holds Try.pinned (OpenSpec.ofChange seqNobodyWrong)

/- THE SECOND FORM. 'bulk': how many values and letters a reading holds, each counted each time it is reached (what is shared counts as often as it is met; a slice's spare places count too). A statement '..UptoSaid' is the law's where the arguments, and the package variables that the reading takes, are together of bulk at most 1048576: NARROWER than '..Said'. Prove '..Said' where nothing that the law and all that it calls make is longer than what came in: it says more and counts as full. Else prove '..UptoSaid'. A law counts once. -/
mutual
def uptoBulk {H : Type} : DataW H → Nat
  | .lit (.string bytes) => bytes.length + 1
  | .lit _ => 1
  | .nil => 1
  | .ptr d => uptoBulk d + 1
  | .slice elems spare => uptoBulkAll elems + uptoBulkAll spare + 1
  | .agg parts => uptoBulkAll parts + 1
  | .iface _ d => uptoBulk d + 1
  | .map entries => uptoBulkEntries entries + 1
  | .held _ => 1
def uptoBulkAll {H : Type} : List (DataW H) → Nat
  | [] => 0
  | d :: r => uptoBulk d + uptoBulkAll r
def uptoBulkEntries {H : Type} : List (Lit × DataW H) → Nat
  | [] => 0
  | x :: r => uptoBulkEntry x + uptoBulkEntries r
def uptoBulkEntry {H : Type} : Lit × DataW H → Nat
  | (.string bytes, d) => bytes.length + uptoBulk d + 1
  | (_, d) => uptoBulk d + 1
 end
def uptoSmall : (H : Type) → List (DataW H) → Bool := fun _ ds => decide (uptoBulkAll ds ≤ 1048576)
def OpenSpec.upto (s : _root_.Go.ChangeSpec) : _root_.Go.OpenSpec := { _root_.Go.OpenSpec.ofChange s with cond := some uptoSmall }

/-- 'deduplaw10.SeqSorts', WHERE WHAT IT READS IS OF BULK AT MOST 1048576: true; the input reads as it did. -/
def seqSortsUptoRow : OpenClaim := { program := "ytpdpponbhejlpaa", sum := "4a1b8b3e68fffb90f4dd3e509b9e4484176fb45753857755b169fece43753109", func := "dedup/deduplaw10.SeqSorts", spec := "seqSorts", inPlace := ["slices.overlaps[dedup/seq.Item[string, int]]"], unfollowed := true, recurses := true, apart := false, narrowed := true }
def SeqSortsUptoSaid : Prop := seqSortsUptoRow.holds Try.pinned (OpenSpec.upto seqSortsSpec)

/-- 'deduplaw10.SeqHeaps', WHERE WHAT IT READS IS OF BULK AT MOST 1048576: true; the input reads as it did. -/
def seqHeapsUptoRow : OpenClaim := { program := "ytpdpponbhejlpaa", sum := "4a1b8b3e68fffb90f4dd3e509b9e4484176fb45753857755b169fece43753109", func := "dedup/deduplaw10.SeqHeaps", spec := "seqHeaps", inPlace := ["slices.overlaps[dedup/seq.Item[string, int]]"], unfollowed := true, recurses := true, apart := false, narrowed := true }
def SeqHeapsUptoSaid : Prop := seqHeapsUptoRow.holds Try.pinned (OpenSpec.upto seqHeapsSpec)

/-- 'deduplaw10.SeqWithout', WHERE WHAT IT READS IS OF BULK AT MOST 1048576: true; the input reads as it did. -/
def seqWithoutUptoRow : OpenClaim := { program := "ytpdpponbhejlpaa", sum := "4a1b8b3e68fffb90f4dd3e509b9e4484176fb45753857755b169fece43753109", func := "dedup/deduplaw10.SeqWithout", spec := "seqWithout", inPlace := ["slices.overlaps[dedup/seq.Item[string, int]]"], unfollowed := true, recurses := true, apart := false, narrowed := true }
def SeqWithoutUptoSaid : Prop := seqWithoutUptoRow.holds Try.pinned (OpenSpec.upto seqWithoutSpec)

/-- 'deduplaw10.SeqMerges', WHERE WHAT IT READS IS OF BULK AT MOST 1048576: true; the input reads as it did. -/
def seqMergesUptoRow : OpenClaim := { program := "ytpdpponbhejlpaa", sum := "4a1b8b3e68fffb90f4dd3e509b9e4484176fb45753857755b169fece43753109", func := "dedup/deduplaw10.SeqMerges", spec := "seqMerges", inPlace := ["slices.overlaps[dedup/seq.Item[string, int]]"], unfollowed := true, recurses := true, apart := false, narrowed := true }
def SeqMergesUptoSaid : Prop := seqMergesUptoRow.holds Try.pinned (OpenSpec.upto seqMergesSpec)

/-- 'deduplaw10.SeqMerged', WHERE WHAT IT READS IS OF BULK AT MOST 1048576: true; the input reads as it did. -/
def seqMergedUptoRow : OpenClaim := { program := "ytpdpponbhejlpaa", sum := "4a1b8b3e68fffb90f4dd3e509b9e4484176fb45753857755b169fece43753109", func := "dedup/deduplaw10.SeqMerged", spec := "seqMerged", inPlace := ["slices.overlaps[dedup/seq.Item[string, int]]"], unfollowed := true, recurses := true, apart := false, narrowed := true }
def SeqMergedUptoSaid : Prop := seqMergedUptoRow.holds Try.pinned (OpenSpec.upto seqMergedSpec)

/-- 'deduplaw10.SeqAgrees', WHERE WHAT IT READS IS OF BULK AT MOST 1048576: true; the input reads as it did. -/
def seqAgreesUptoRow : OpenClaim := { program := "ytpdpponbhejlpaa", sum := "4a1b8b3e68fffb90f4dd3e509b9e4484176fb45753857755b169fece43753109", func := "dedup/deduplaw10.SeqAgrees", spec := "seqAgrees", inPlace := ["slices.overlaps[dedup/seq.Item[string, int]]"], unfollowed := true, recurses := true, apart := false, narrowed := true }
def SeqAgreesUptoSaid : Prop := seqAgreesUptoRow.holds Try.pinned (OpenSpec.upto seqAgreesSpec)

/-- 'deduplaw10.SeqMaps', WHERE WHAT IT READS IS OF BULK AT MOST 1048576: true; the input reads as it did. -/
def seqMapsUptoRow : OpenClaim := { program := "ytpdpponbhejlpaa", sum := "4a1b8b3e68fffb90f4dd3e509b9e4484176fb45753857755b169fece43753109", func := "dedup/deduplaw10.SeqMaps", spec := "seqMaps", inPlace := ["slices.overlaps[dedup/seq.Item[string, int]]"], unfollowed := true, recurses := true, apart := false, narrowed := true }
def SeqMapsUptoSaid : Prop := seqMapsUptoRow.holds Try.pinned (OpenSpec.upto seqMapsSpec)

/-- 'deduplaw10.SeqNobody', WHERE WHAT IT READS IS OF BULK AT MOST 1048576: true; the input reads as it did. -/
def seqNobodyUptoRow : OpenClaim := { program := "ytpdpponbhejlpaa", sum := "4a1b8b3e68fffb90f4dd3e509b9e4484176fb45753857755b169fece43753109", func := "dedup/deduplaw10.SeqNobody", spec := "seqNobody", inPlace := ["slices.overlaps[dedup/seq.Item[string, int]]"], unfollowed := true, recurses := true, apart := false, narrowed := true }
def SeqNobodyUptoSaid : Prop := seqNobodyUptoRow.holds Try.pinned (OpenSpec.upto seqNobodySpec)

end Rows
end Go.Proofs.Ytpdpponbhejlpaa
