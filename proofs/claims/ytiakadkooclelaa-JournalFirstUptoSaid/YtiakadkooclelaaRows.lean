/-
  No cell of these rows narrows 'for every input' (looked for: loops, veiled, ifaces, maps, wideKeys, modest, calm, conditions, laid).
  DERIVED. THE GIVEN ROWS OF THIS SEAT. 5 by the template 'for every input the law returns true; each argument reads behind the call as it read before'; 0 by the template 'total and deterministic' (their statements: YtiakadkooclelaaTotals.lean).
  GIVEN WITH THE SEED: the statements are not yours to turn. If you find one false, say at which input.
  Laid BY PROGRAM, IN A SANDBOX (cutbox-rows.mjs): the forced cells as the released guide's own fill.sh prints them over the translation f00fd8a7e9379136… (all of the seat's roots in one cut). By AI agents, Wed Nov 11 2026. No macro, syntax, notation, axiom, sorry.
-/
import Derived.Test.YtiakadkooclelaaChecked
import GoSem.Claim
import GoSem.ClaimJoined
import GoSem.ClaimMapViews
import Derived.JoinedTies
import Derived.KernelRfl
namespace Go.Proofs.Ytiakadkooclelaa
/- THE CELL 'sum', in the pinned program and in every row, IS THE sha256 OF THE DUMP (.gsa) THAT YtiakadkooclelaaProg.lean LOADS. Nothing in Lean hashes anything: it is a label: what it is worth is what the hold of that sum in a sandbox is worth. -/
noncomputable def Try.pinned : Pinned := { name := "ytiakadkooclelaa", sum := "f00fd8a7e9379136b979c156b7cfa19a09823b5f2260b7d905cccfe2ef57cf0f", checked := Try.checked }
namespace Rows
def none {H : Type} : Left H := { results := [], args := [] }

/-- 'deduplaw07.JournalForks': WHATEVER THE INPUT: true; the input reads as it did. -/
def journalForksSpec : ChangeSpec := { name := "journalForks", fn := fun _ => fun
  | [d1, d2, d3, d4, d5] => { results := [.lit (.bool true)], args := [d1, d2, d3, d4, d5] }
  | _ => none }
def journalForksRow : OpenClaim := { program := "ytiakadkooclelaa", sum := "f00fd8a7e9379136b979c156b7cfa19a09823b5f2260b7d905cccfe2ef57cf0f", func := "dedup/deduplaw07.JournalForks", spec := "journalForks", apart := false }
def JournalForksSaid : Prop := journalForksRow.holds Try.pinned (OpenSpec.ofChange journalForksSpec)

/-- ITS FALSE NEIGHBOUR: 'it returns false'. Refute it at one input. -/
def journalForksWrong : ChangeSpec := { name := "journalForks", fn := fun _ => fun
  | [d1, d2, d3, d4, d5] => { results := [.lit (.bool false)], args := [d1, d2, d3, d4, d5] }
  | _ => none }
def JournalForksWrongFalsely : Prop := journalForksRow.holds Try.pinned (OpenSpec.ofChange journalForksWrong)

/-- 'deduplaw07.JournalWrites': WHATEVER THE INPUT: true; the input reads as it did. -/
def journalWritesSpec : ChangeSpec := { name := "journalWrites", fn := fun _ => fun
  | [d1, d2, d3, d4] => { results := [.lit (.bool true)], args := [d1, d2, d3, d4] }
  | _ => none }
def journalWritesRow : OpenClaim := { program := "ytiakadkooclelaa", sum := "f00fd8a7e9379136b979c156b7cfa19a09823b5f2260b7d905cccfe2ef57cf0f", func := "dedup/deduplaw07.JournalWrites", spec := "journalWrites", apart := false }
def JournalWritesSaid : Prop := journalWritesRow.holds Try.pinned (OpenSpec.ofChange journalWritesSpec)

/-- ITS FALSE NEIGHBOUR: 'it returns false'. Refute it at one input. -/
def journalWritesWrong : ChangeSpec := { name := "journalWrites", fn := fun _ => fun
  | [d1, d2, d3, d4] => { results := [.lit (.bool false)], args := [d1, d2, d3, d4] }
  | _ => none }
def JournalWritesWrongFalsely : Prop := journalWritesRow.holds Try.pinned (OpenSpec.ofChange journalWritesWrong)

/-- 'deduplaw07.JournalNobody': WHATEVER THE INPUT: true; the input reads as it did. -/
def journalNobodySpec : ChangeSpec := { name := "journalNobody", fn := fun _ => fun
  | [d] => { results := [.lit (.bool true)], args := [d] }
  | _ => none }
def journalNobodyRow : OpenClaim := { program := "ytiakadkooclelaa", sum := "f00fd8a7e9379136b979c156b7cfa19a09823b5f2260b7d905cccfe2ef57cf0f", func := "dedup/deduplaw07.JournalNobody", spec := "journalNobody", apart := false }
def JournalNobodySaid : Prop := journalNobodyRow.holds Try.pinned (OpenSpec.ofChange journalNobodySpec)

/-- ITS FALSE NEIGHBOUR: 'it returns false'. Refute it at one input. -/
def journalNobodyWrong : ChangeSpec := { name := "journalNobody", fn := fun _ => fun
  | [d] => { results := [.lit (.bool false)], args := [d] }
  | _ => none }
def JournalNobodyWrongFalsely : Prop := journalNobodyRow.holds Try.pinned (OpenSpec.ofChange journalNobodyWrong)

/-- 'deduplaw07.JournalFirst': WHATEVER THE INPUT: true; the input reads as it did. -/
def journalFirstSpec : ChangeSpec := { name := "journalFirst", fn := fun _ => fun
  | [d1, d2, d3, d4, d5, d6, d7] => { results := [.lit (.bool true)], args := [d1, d2, d3, d4, d5, d6, d7] }
  | _ => none }
def journalFirstRow : OpenClaim := { program := "ytiakadkooclelaa", sum := "f00fd8a7e9379136b979c156b7cfa19a09823b5f2260b7d905cccfe2ef57cf0f", func := "dedup/deduplaw07.JournalFirst", spec := "journalFirst", unfollowed := true, recurses := true, apart := false }
def JournalFirstSaid : Prop := journalFirstRow.holds Try.pinned (OpenSpec.ofChange journalFirstSpec)

/-- ITS FALSE NEIGHBOUR: 'it returns false'. Refute it at one input. -/
def journalFirstWrong : ChangeSpec := { name := "journalFirst", fn := fun _ => fun
  | [d1, d2, d3, d4, d5, d6, d7] => { results := [.lit (.bool false)], args := [d1, d2, d3, d4, d5, d6, d7] }
  | _ => none }
def JournalFirstWrongFalsely : Prop := journalFirstRow.holds Try.pinned (OpenSpec.ofChange journalFirstWrong)

/-- 'deduplaw07.JournalScans': WHATEVER THE INPUT: true; the input reads as it did. -/
def journalScansSpec : ChangeSpec := { name := "journalScans", fn := fun _ => fun
  | [d1, d2, d3] => { results := [.lit (.bool true)], args := [d1, d2, d3] }
  | _ => none }
def journalScansRow : OpenClaim := { program := "ytiakadkooclelaa", sum := "f00fd8a7e9379136b979c156b7cfa19a09823b5f2260b7d905cccfe2ef57cf0f", func := "dedup/deduplaw07.JournalScans", spec := "journalScans", unfollowed := true, recurses := true, apart := false }
def JournalScansSaid : Prop := journalScansRow.holds Try.pinned (OpenSpec.ofChange journalScansSpec)

/-- ITS FALSE NEIGHBOUR: 'it returns false'. Refute it at one input. -/
def journalScansWrong : ChangeSpec := { name := "journalScans", fn := fun _ => fun
  | [d1, d2, d3] => { results := [.lit (.bool false)], args := [d1, d2, d3] }
  | _ => none }
def JournalScansWrongFalsely : Prop := journalScansRow.holds Try.pinned (OpenSpec.ofChange journalScansWrong)

/- THE SECOND FORM. 'bulk': how many values and letters a reading holds, each counted each time it is reached (what is shared counts as often as it is met; a slice's spare places count too). A statement '..UptoSaid' is the law's where the arguments, and the package variables that the reading takes, are together of bulk at most 1048576: NARROWER than '..Said'. Prove '..Said' where nothing that the law and all that it calls make is longer than what came in: it says more and counts as full. Else prove '..UptoSaid'. A law counts once. -/
mutual
def uptoBulk {H : Type} : DataW H → Nat
  | .lit (.string bytes) => bytes.length + 1
  | .lit _ => 1
  | .nil => 1
  | .ptr d => uptoBulk d + 1
  | .slice elems spare => uptoBulkAll elems + uptoBulkAll spare + 1
  | .agg parts => uptoBulkAll parts + 1
  | .iface _ d => uptoBulk d + 1
  | .map entries => uptoBulkEntries entries + 1
  | .held _ => 1
def uptoBulkAll {H : Type} : List (DataW H) → Nat
  | [] => 0
  | d :: r => uptoBulk d + uptoBulkAll r
def uptoBulkEntries {H : Type} : List (Lit × DataW H) → Nat
  | [] => 0
  | x :: r => uptoBulkEntry x + uptoBulkEntries r
def uptoBulkEntry {H : Type} : Lit × DataW H → Nat
  | (.string bytes, d) => bytes.length + uptoBulk d + 1
  | (_, d) => uptoBulk d + 1
 end
def uptoSmall : (H : Type) → List (DataW H) → Bool := fun _ ds => decide (uptoBulkAll ds ≤ 1048576)
def OpenSpec.upto (s : _root_.Go.ChangeSpec) : _root_.Go.OpenSpec := { _root_.Go.OpenSpec.ofChange s with cond := some uptoSmall }

/-- 'deduplaw07.JournalForks', WHERE WHAT IT READS IS OF BULK AT MOST 1048576: true; the input reads as it did. -/
def journalForksUptoRow : OpenClaim := { program := "ytiakadkooclelaa", sum := "f00fd8a7e9379136b979c156b7cfa19a09823b5f2260b7d905cccfe2ef57cf0f", func := "dedup/deduplaw07.JournalForks", spec := "journalForks", apart := false, narrowed := true }
def JournalForksUptoSaid : Prop := journalForksUptoRow.holds Try.pinned (OpenSpec.upto journalForksSpec)

/-- 'deduplaw07.JournalWrites', WHERE WHAT IT READS IS OF BULK AT MOST 1048576: true; the input reads as it did. -/
def journalWritesUptoRow : OpenClaim := { program := "ytiakadkooclelaa", sum := "f00fd8a7e9379136b979c156b7cfa19a09823b5f2260b7d905cccfe2ef57cf0f", func := "dedup/deduplaw07.JournalWrites", spec := "journalWrites", apart := false, narrowed := true }
def JournalWritesUptoSaid : Prop := journalWritesUptoRow.holds Try.pinned (OpenSpec.upto journalWritesSpec)

/-- 'deduplaw07.JournalNobody', WHERE WHAT IT READS IS OF BULK AT MOST 1048576: true; the input reads as it did. -/
def journalNobodyUptoRow : OpenClaim := { program := "ytiakadkooclelaa", sum := "f00fd8a7e9379136b979c156b7cfa19a09823b5f2260b7d905cccfe2ef57cf0f", func := "dedup/deduplaw07.JournalNobody", spec := "journalNobody", apart := false, narrowed := true }
def JournalNobodyUptoSaid : Prop := journalNobodyUptoRow.holds Try.pinned (OpenSpec.upto journalNobodySpec)

/-- 'deduplaw07.JournalFirst', WHERE WHAT IT READS IS OF BULK AT MOST 1048576: true; the input reads as it did. -/
def journalFirstUptoRow : OpenClaim := { program := "ytiakadkooclelaa", sum := "f00fd8a7e9379136b979c156b7cfa19a09823b5f2260b7d905cccfe2ef57cf0f", func := "dedup/deduplaw07.JournalFirst", spec := "journalFirst", unfollowed := true, recurses := true, apart := false, narrowed := true }
def JournalFirstUptoSaid : Prop := journalFirstUptoRow.holds Try.pinned (OpenSpec.upto journalFirstSpec)

/-- 'deduplaw07.JournalScans', WHERE WHAT IT READS IS OF BULK AT MOST 1048576: true; the input reads as it did. -/
def journalScansUptoRow : OpenClaim := { program := "ytiakadkooclelaa", sum := "f00fd8a7e9379136b979c156b7cfa19a09823b5f2260b7d905cccfe2ef57cf0f", func := "dedup/deduplaw07.JournalScans", spec := "journalScans", unfollowed := true, recurses := true, apart := false, narrowed := true }
def JournalScansUptoSaid : Prop := journalScansUptoRow.holds Try.pinned (OpenSpec.upto journalScansSpec)

end Rows
end Go.Proofs.Ytiakadkooclelaa
