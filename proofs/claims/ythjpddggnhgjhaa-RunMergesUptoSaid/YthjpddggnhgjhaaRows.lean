/-
  No cell of these rows narrows 'for every input' (looked for: loops, veiled, ifaces, maps, wideKeys, modest, calm, conditions, laid).
  DERIVED. THE GIVEN ROWS OF THIS SEAT. 7 by the template 'for every input the law returns true; each argument reads behind the call as it read before'; 0 by the template 'total and deterministic' (their statements: YthjpddggnhgjhaaTotals.lean).
  GIVEN WITH THE SEED: the statements are not yours to turn. If you find one false, say at which input.
  Laid BY PROGRAM, IN A SANDBOX (cutbox-rows.mjs): the forced cells as the released guide's own fill.sh prints them over the translation e7be669c0d635540… (all of the seat's roots in one cut). By AI agents, Wed Nov 11 2026. No macro, syntax, notation, axiom, sorry.
-/
import Derived.Test.YthjpddggnhgjhaaChecked
import GoSem.Claim
import GoSem.ClaimJoined
import GoSem.ClaimMapViews
import Derived.JoinedTies
import Derived.KernelRfl
namespace Go.Proofs.Ythjpddggnhgjhaa
/- THE CELL 'sum', in the pinned program and in every row, IS THE sha256 OF THE DUMP (.gsa) THAT YthjpddggnhgjhaaProg.lean LOADS. Nothing in Lean hashes anything: it is a label: what it is worth is what the hold of that sum in a sandbox is worth. -/
noncomputable def Try.pinned : Pinned := { name := "ythjpddggnhgjhaa", sum := "e7be669c0d63554028f52a91a78548bffe5307b08d75a76235b37fd3a0bebf72", checked := Try.checked }
namespace Rows
def none {H : Type} : Left H := { results := [], args := [] }

/-- 'deduplaw12.RunBuilds': WHATEVER THE INPUT: true; the input reads as it did. -/
def runBuildsSpec : ChangeSpec := { name := "runBuilds", fn := fun _ => fun
  | [d1, d2] => { results := [.lit (.bool true)], args := [d1, d2] }
  | _ => none }
def runBuildsRow : OpenClaim := { program := "ythjpddggnhgjhaa", sum := "e7be669c0d63554028f52a91a78548bffe5307b08d75a76235b37fd3a0bebf72", func := "dedup/deduplaw12.RunBuilds", spec := "runBuilds", inPlace := ["internal/bytealg.abigen_runtime_cmpstring"], unfollowed := true, recurses := true, apart := false }
def RunBuildsSaid : Prop := runBuildsRow.holds Try.pinned (OpenSpec.ofChange runBuildsSpec)

/-- ITS FALSE NEIGHBOUR: 'it returns false'. Refute it at one input. -/
def runBuildsWrong : ChangeSpec := { name := "runBuilds", fn := fun _ => fun
  | [d1, d2] => { results := [.lit (.bool false)], args := [d1, d2] }
  | _ => none }
def RunBuildsWrongFalsely : Prop := runBuildsRow.holds Try.pinned (OpenSpec.ofChange runBuildsWrong)

/-- 'deduplaw12.RunBack': WHATEVER THE INPUT: true; the input reads as it did. -/
def runBackSpec : ChangeSpec := { name := "runBack", fn := fun _ => fun
  | [d1, d2, d3] => { results := [.lit (.bool true)], args := [d1, d2, d3] }
  | _ => none }
def runBackRow : OpenClaim := { program := "ythjpddggnhgjhaa", sum := "e7be669c0d63554028f52a91a78548bffe5307b08d75a76235b37fd3a0bebf72", func := "dedup/deduplaw12.RunBack", spec := "runBack", inPlace := ["internal/bytealg.abigen_runtime_cmpstring"], unfollowed := true, recurses := true, apart := false }
def RunBackSaid : Prop := runBackRow.holds Try.pinned (OpenSpec.ofChange runBackSpec)

/-- ITS FALSE NEIGHBOUR: 'it returns false'. Refute it at one input. -/
def runBackWrong : ChangeSpec := { name := "runBack", fn := fun _ => fun
  | [d1, d2, d3] => { results := [.lit (.bool false)], args := [d1, d2, d3] }
  | _ => none }
def RunBackWrongFalsely : Prop := runBackRow.holds Try.pinned (OpenSpec.ofChange runBackWrong)

/-- 'deduplaw12.RunTurned': WHATEVER THE INPUT: true; the input reads as it did. -/
def runTurnedSpec : ChangeSpec := { name := "runTurned", fn := fun _ => fun
  | [d1, d2, d3] => { results := [.lit (.bool true)], args := [d1, d2, d3] }
  | _ => none }
def runTurnedRow : OpenClaim := { program := "ythjpddggnhgjhaa", sum := "e7be669c0d63554028f52a91a78548bffe5307b08d75a76235b37fd3a0bebf72", func := "dedup/deduplaw12.RunTurned", spec := "runTurned", inPlace := ["internal/bytealg.abigen_runtime_cmpstring"], unfollowed := true, recurses := true, apart := false }
def RunTurnedSaid : Prop := runTurnedRow.holds Try.pinned (OpenSpec.ofChange runTurnedSpec)

/-- ITS FALSE NEIGHBOUR: 'it returns false'. Refute it at one input. -/
def runTurnedWrong : ChangeSpec := { name := "runTurned", fn := fun _ => fun
  | [d1, d2, d3] => { results := [.lit (.bool false)], args := [d1, d2, d3] }
  | _ => none }
def RunTurnedWrongFalsely : Prop := runTurnedRow.holds Try.pinned (OpenSpec.ofChange runTurnedWrong)

/-- 'deduplaw12.RunMerges': WHATEVER THE INPUT: true; the input reads as it did. -/
def runMergesSpec : ChangeSpec := { name := "runMerges", fn := fun _ => fun
  | [d1, d2] => { results := [.lit (.bool true)], args := [d1, d2] }
  | _ => none }
def runMergesRow : OpenClaim := { program := "ythjpddggnhgjhaa", sum := "e7be669c0d63554028f52a91a78548bffe5307b08d75a76235b37fd3a0bebf72", func := "dedup/deduplaw12.RunMerges", spec := "runMerges", inPlace := ["internal/bytealg.abigen_runtime_cmpstring"], unfollowed := true, recurses := true, apart := false }
def RunMergesSaid : Prop := runMergesRow.holds Try.pinned (OpenSpec.ofChange runMergesSpec)

/-- ITS FALSE NEIGHBOUR: 'it returns false'. Refute it at one input. -/
def runMergesWrong : ChangeSpec := { name := "runMerges", fn := fun _ => fun
  | [d1, d2] => { results := [.lit (.bool false)], args := [d1, d2] }
  | _ => none }
def RunMergesWrongFalsely : Prop := runMergesRow.holds Try.pinned (OpenSpec.ofChange runMergesWrong)

/-- 'deduplaw12.RunMems': WHATEVER THE INPUT: true; the input reads as it did. -/
def runMemsSpec : ChangeSpec := { name := "runMems", fn := fun _ => fun
  | [d] => { results := [.lit (.bool true)], args := [d] }
  | _ => none }
def runMemsRow : OpenClaim := { program := "ythjpddggnhgjhaa", sum := "e7be669c0d63554028f52a91a78548bffe5307b08d75a76235b37fd3a0bebf72", func := "dedup/deduplaw12.RunMems", spec := "runMems", inPlace := ["internal/bytealg.abigen_runtime_cmpstring", "slices.overlaps[dedup/seq.Item[string, dedup/api.Entry]]"], unfollowed := true, recurses := true, apart := false }
def RunMemsSaid : Prop := runMemsRow.holds Try.pinned (OpenSpec.ofChange runMemsSpec)

/-- ITS FALSE NEIGHBOUR: 'it returns false'. Refute it at one input. -/
def runMemsWrong : ChangeSpec := { name := "runMems", fn := fun _ => fun
  | [d] => { results := [.lit (.bool false)], args := [d] }
  | _ => none }
def RunMemsWrongFalsely : Prop := runMemsRow.holds Try.pinned (OpenSpec.ofChange runMemsWrong)

/-- 'deduplaw12.RunOver': WHATEVER THE INPUT: true; the input reads as it did. -/
def runOverSpec : ChangeSpec := { name := "runOver", fn := fun _ => fun
  | [d1, d2] => { results := [.lit (.bool true)], args := [d1, d2] }
  | _ => none }
def runOverRow : OpenClaim := { program := "ythjpddggnhgjhaa", sum := "e7be669c0d63554028f52a91a78548bffe5307b08d75a76235b37fd3a0bebf72", func := "dedup/deduplaw12.RunOver", spec := "runOver", inPlace := ["internal/bytealg.abigen_runtime_cmpstring", "slices.overlaps[dedup/seq.Item[string, dedup/api.Entry]]"], unfollowed := true, recurses := true, apart := false }
def RunOverSaid : Prop := runOverRow.holds Try.pinned (OpenSpec.ofChange runOverSpec)

/-- ITS FALSE NEIGHBOUR: 'it returns false'. Refute it at one input. -/
def runOverWrong : ChangeSpec := { name := "runOver", fn := fun _ => fun
  | [d1, d2] => { results := [.lit (.bool false)], args := [d1, d2] }
  | _ => none }
def RunOverWrongFalsely : Prop := runOverRow.holds Try.pinned (OpenSpec.ofChange runOverWrong)

/-- 'deduplaw12.RunNobody': WHATEVER THE INPUT: true; the input reads as it did. -/
def runNobodySpec : ChangeSpec := { name := "runNobody", fn := fun _ => fun
  | [d] => { results := [.lit (.bool true)], args := [d] }
  | _ => none }
def runNobodyRow : OpenClaim := { program := "ythjpddggnhgjhaa", sum := "e7be669c0d63554028f52a91a78548bffe5307b08d75a76235b37fd3a0bebf72", func := "dedup/deduplaw12.RunNobody", spec := "runNobody", inPlace := ["internal/bytealg.abigen_runtime_cmpstring", "slices.overlaps[dedup/seq.Item[string, dedup/api.Entry]]"], unfollowed := true, recurses := true, apart := false }
def RunNobodySaid : Prop := runNobodyRow.holds Try.pinned (OpenSpec.ofChange runNobodySpec)

/-- ITS FALSE NEIGHBOUR: 'it returns false'. Refute it at one input. -/
def runNobodyWrong : ChangeSpec := { name := "runNobody", fn := fun _ => fun
  | [d] => { results := [.lit (.bool false)], args := [d] }
  | _ => none }
def RunNobodyWrongFalsely : Prop := runNobodyRow.holds Try.pinned (OpenSpec.ofChange runNobodyWrong)

/- THE SECOND FORM. 'bulk': how many values and letters a reading holds, each counted each time it is reached (what is shared counts as often as it is met; a slice's spare places count too). A statement '..UptoSaid' is the law's where the arguments, and the package variables that the reading takes, are together of bulk at most 1048576: NARROWER than '..Said'. Prove '..Said' where nothing that the law and all that it calls make is longer than what came in: it says more and counts as full. Else prove '..UptoSaid'. A law counts once. -/
mutual
def uptoBulk {H : Type} : DataW H → Nat
  | .lit (.string bytes) => bytes.length + 1
  | .lit _ => 1
  | .nil => 1
  | .ptr d => uptoBulk d + 1
  | .slice elems spare => uptoBulkAll elems + uptoBulkAll spare + 1
  | .agg parts => uptoBulkAll parts + 1
  | .iface _ d => uptoBulk d + 1
  | .map entries => uptoBulkEntries entries + 1
  | .held _ => 1
def uptoBulkAll {H : Type} : List (DataW H) → Nat
  | [] => 0
  | d :: r => uptoBulk d + uptoBulkAll r
def uptoBulkEntries {H : Type} : List (Lit × DataW H) → Nat
  | [] => 0
  | x :: r => uptoBulkEntry x + uptoBulkEntries r
def uptoBulkEntry {H : Type} : Lit × DataW H → Nat
  | (.string bytes, d) => bytes.length + uptoBulk d + 1
  | (_, d) => uptoBulk d + 1
 end
def uptoSmall : (H : Type) → List (DataW H) → Bool := fun _ ds => decide (uptoBulkAll ds ≤ 1048576)
def OpenSpec.upto (s : _root_.Go.ChangeSpec) : _root_.Go.OpenSpec := { _root_.Go.OpenSpec.ofChange s with cond := some uptoSmall }

/-- 'deduplaw12.RunBuilds', WHERE WHAT IT READS IS OF BULK AT MOST 1048576: true; the input reads as it did. -/
def runBuildsUptoRow : OpenClaim := { program := "ythjpddggnhgjhaa", sum := "e7be669c0d63554028f52a91a78548bffe5307b08d75a76235b37fd3a0bebf72", func := "dedup/deduplaw12.RunBuilds", spec := "runBuilds", inPlace := ["internal/bytealg.abigen_runtime_cmpstring"], unfollowed := true, recurses := true, apart := false, narrowed := true }
def RunBuildsUptoSaid : Prop := runBuildsUptoRow.holds Try.pinned (OpenSpec.upto runBuildsSpec)

/-- 'deduplaw12.RunBack', WHERE WHAT IT READS IS OF BULK AT MOST 1048576: true; the input reads as it did. -/
def runBackUptoRow : OpenClaim := { program := "ythjpddggnhgjhaa", sum := "e7be669c0d63554028f52a91a78548bffe5307b08d75a76235b37fd3a0bebf72", func := "dedup/deduplaw12.RunBack", spec := "runBack", inPlace := ["internal/bytealg.abigen_runtime_cmpstring"], unfollowed := true, recurses := true, apart := false, narrowed := true }
def RunBackUptoSaid : Prop := runBackUptoRow.holds Try.pinned (OpenSpec.upto runBackSpec)

/-- 'deduplaw12.RunTurned', WHERE WHAT IT READS IS OF BULK AT MOST 1048576: true; the input reads as it did. -/
def runTurnedUptoRow : OpenClaim := { program := "ythjpddggnhgjhaa", sum := "e7be669c0d63554028f52a91a78548bffe5307b08d75a76235b37fd3a0bebf72", func := "dedup/deduplaw12.RunTurned", spec := "runTurned", inPlace := ["internal/bytealg.abigen_runtime_cmpstring"], unfollowed := true, recurses := true, apart := false, narrowed := true }
def RunTurnedUptoSaid : Prop := runTurnedUptoRow.holds Try.pinned (OpenSpec.upto runTurnedSpec)

/-- 'deduplaw12.RunMerges', WHERE WHAT IT READS IS OF BULK AT MOST 1048576: true; the input reads as it did. -/
def runMergesUptoRow : OpenClaim := { program := "ythjpddggnhgjhaa", sum := "e7be669c0d63554028f52a91a78548bffe5307b08d75a76235b37fd3a0bebf72", func := "dedup/deduplaw12.RunMerges", spec := "runMerges", inPlace := ["internal/bytealg.abigen_runtime_cmpstring"], unfollowed := true, recurses := true, apart := false, narrowed := true }
def RunMergesUptoSaid : Prop := runMergesUptoRow.holds Try.pinned (OpenSpec.upto runMergesSpec)

/-- 'deduplaw12.RunMems', WHERE WHAT IT READS IS OF BULK AT MOST 1048576: true; the input reads as it did. -/
def runMemsUptoRow : OpenClaim := { program := "ythjpddggnhgjhaa", sum := "e7be669c0d63554028f52a91a78548bffe5307b08d75a76235b37fd3a0bebf72", func := "dedup/deduplaw12.RunMems", spec := "runMems", inPlace := ["internal/bytealg.abigen_runtime_cmpstring", "slices.overlaps[dedup/seq.Item[string, dedup/api.Entry]]"], unfollowed := true, recurses := true, apart := false, narrowed := true }
def RunMemsUptoSaid : Prop := runMemsUptoRow.holds Try.pinned (OpenSpec.upto runMemsSpec)

/-- 'deduplaw12.RunOver', WHERE WHAT IT READS IS OF BULK AT MOST 1048576: true; the input reads as it did. -/
def runOverUptoRow : OpenClaim := { program := "ythjpddggnhgjhaa", sum := "e7be669c0d63554028f52a91a78548bffe5307b08d75a76235b37fd3a0bebf72", func := "dedup/deduplaw12.RunOver", spec := "runOver", inPlace := ["internal/bytealg.abigen_runtime_cmpstring", "slices.overlaps[dedup/seq.Item[string, dedup/api.Entry]]"], unfollowed := true, recurses := true, apart := false, narrowed := true }
def RunOverUptoSaid : Prop := runOverUptoRow.holds Try.pinned (OpenSpec.upto runOverSpec)

/-- 'deduplaw12.RunNobody', WHERE WHAT IT READS IS OF BULK AT MOST 1048576: true; the input reads as it did. -/
def runNobodyUptoRow : OpenClaim := { program := "ythjpddggnhgjhaa", sum := "e7be669c0d63554028f52a91a78548bffe5307b08d75a76235b37fd3a0bebf72", func := "dedup/deduplaw12.RunNobody", spec := "runNobody", inPlace := ["internal/bytealg.abigen_runtime_cmpstring", "slices.overlaps[dedup/seq.Item[string, dedup/api.Entry]]"], unfollowed := true, recurses := true, apart := false, narrowed := true }
def RunNobodyUptoSaid : Prop := runNobodyUptoRow.holds Try.pinned (OpenSpec.upto runNobodySpec)

end Rows
end Go.Proofs.Ythjpddggnhgjhaa
