/-
  No cell of these rows narrows 'for every input' (looked for: loops, veiled, ifaces, maps, wideKeys, modest, calm, conditions, laid).
  DERIVED. THE GIVEN ROWS OF THIS SEAT. 6 by the template 'for every input the law returns true; each argument reads behind the call as it read before'; 0 by the template 'total and deterministic' (their statements: YtfmoemconapmhaaGreatTotals.lean).
  GIVEN WITH THE SEED: the statements are not yours to turn. If you find one false, say at which input.
  Laid BY PROGRAM, IN A SANDBOX (cutbox-rows.mjs): the forced cells as the released guide's own fill.sh prints them over the translation 91b4697d1ee1477e… (all of the seat's roots in one cut). By AI agents, Wed Nov 11 2026. No macro, syntax, notation, axiom, sorry.
-/
import Derived.Test.YtfmoemconapmhaaGreatChecked
import GoSem.Claim
import GoSem.ClaimJoined
import GoSem.ClaimMapViews
import Derived.JoinedTies
import Derived.KernelRfl
namespace Go.Proofs.YtfmoemconapmhaaGreat
/- THE CELL 'sum', in the pinned program and in every row, IS THE sha256 OF THE DUMP (.gsa) THAT YtfmoemconapmhaaGreatProg.lean LOADS. Nothing in Lean hashes anything: it is a label: what it is worth is what the hold of that sum in a sandbox is worth. -/
noncomputable def Tryz.pinned : Pinned := { name := "ytfmoemconapmhaagreat", sum := "91b4697d1ee1477e1643bf0fd032cb7d68bb3b387a9d5f43d157eed94d7dfc5d", checked := Tryz.checked }
namespace Rows
def none {H : Type} : Left H := { results := [], args := [] }

/-- 'deduplaw14.LevelUnseen': WHATEVER THE INPUT: true; the input reads as it did. -/
def levelUnseenSpec : ChangeSpec := { name := "levelUnseen", fn := fun _ => fun
  | [d] => { results := [.lit (.bool true)], args := [d] }
  | _ => none }
def levelUnseenRow : OpenClaim := { program := "ytfmoemconapmhaagreat", sum := "91b4697d1ee1477e1643bf0fd032cb7d68bb3b387a9d5f43d157eed94d7dfc5d", func := "dedup/deduplaw14.LevelUnseen", spec := "levelUnseen", inPlace := ["internal/bytealg.abigen_runtime_cmpstring", "slices.overlaps[dedup/seq.Item[string, dedup/api.Entry]]", "slices.overlaps[*dedup/run.Run]"], unfollowed := true, recurses := true, apart := false }
def LevelUnseenSaid : Prop := levelUnseenRow.holds Tryz.pinned (OpenSpec.ofChange levelUnseenSpec)

/-- ITS FALSE NEIGHBOUR: 'it returns false'. Refute it at one input. -/
def levelUnseenWrong : ChangeSpec := { name := "levelUnseen", fn := fun _ => fun
  | [d] => { results := [.lit (.bool false)], args := [d] }
  | _ => none }
def LevelUnseenWrongFalsely : Prop := levelUnseenRow.holds Tryz.pinned (OpenSpec.ofChange levelUnseenWrong)

/-- 'deduplaw14.LevelDoes': WHATEVER THE INPUT: true; the input reads as it did. -/
def levelDoesSpec : ChangeSpec := { name := "levelDoes", fn := fun _ => fun
  | [d] => { results := [.lit (.bool true)], args := [d] }
  | _ => none }
def levelDoesRow : OpenClaim := { program := "ytfmoemconapmhaagreat", sum := "91b4697d1ee1477e1643bf0fd032cb7d68bb3b387a9d5f43d157eed94d7dfc5d", func := "dedup/deduplaw14.LevelDoes", spec := "levelDoes", inPlace := ["internal/bytealg.abigen_runtime_cmpstring", "slices.overlaps[dedup/seq.Item[string, dedup/api.Entry]]", "slices.overlaps[*dedup/run.Run]"], unfollowed := true, recurses := true, apart := false }
def LevelDoesSaid : Prop := levelDoesRow.holds Tryz.pinned (OpenSpec.ofChange levelDoesSpec)

/-- ITS FALSE NEIGHBOUR: 'it returns false'. Refute it at one input. -/
def levelDoesWrong : ChangeSpec := { name := "levelDoes", fn := fun _ => fun
  | [d] => { results := [.lit (.bool false)], args := [d] }
  | _ => none }
def LevelDoesWrongFalsely : Prop := levelDoesRow.holds Tryz.pinned (OpenSpec.ofChange levelDoesWrong)

/-- 'deduplaw14.LevelMaps': WHATEVER THE INPUT: true; the input reads as it did. -/
def levelMapsSpec : ChangeSpec := { name := "levelMaps", fn := fun _ => fun
  | [d] => { results := [.lit (.bool true)], args := [d] }
  | _ => none }
def levelMapsRow : OpenClaim := { program := "ytfmoemconapmhaagreat", sum := "91b4697d1ee1477e1643bf0fd032cb7d68bb3b387a9d5f43d157eed94d7dfc5d", func := "dedup/deduplaw14.LevelMaps", spec := "levelMaps", inPlace := ["internal/bytealg.abigen_runtime_cmpstring", "slices.overlaps[dedup/seq.Item[string, dedup/api.Entry]]", "slices.overlaps[*dedup/run.Run]"], unfollowed := true, recurses := true, apart := false }
def LevelMapsSaid : Prop := levelMapsRow.holds Tryz.pinned (OpenSpec.ofChange levelMapsSpec)

/-- ITS FALSE NEIGHBOUR: 'it returns false'. Refute it at one input. -/
def levelMapsWrong : ChangeSpec := { name := "levelMaps", fn := fun _ => fun
  | [d] => { results := [.lit (.bool false)], args := [d] }
  | _ => none }
def LevelMapsWrongFalsely : Prop := levelMapsRow.holds Tryz.pinned (OpenSpec.ofChange levelMapsWrong)

/-- 'deduplaw14.LevelNobody': WHATEVER THE INPUT: true; the input reads as it did. -/
def levelNobodySpec : ChangeSpec := { name := "levelNobody", fn := fun _ => fun
  | [d] => { results := [.lit (.bool true)], args := [d] }
  | _ => none }
def levelNobodyRow : OpenClaim := { program := "ytfmoemconapmhaagreat", sum := "91b4697d1ee1477e1643bf0fd032cb7d68bb3b387a9d5f43d157eed94d7dfc5d", func := "dedup/deduplaw14.LevelNobody", spec := "levelNobody", inPlace := ["internal/bytealg.abigen_runtime_cmpstring", "slices.overlaps[dedup/seq.Item[string, dedup/api.Entry]]", "slices.overlaps[*dedup/run.Run]"], unfollowed := true, recurses := true, apart := false }
def LevelNobodySaid : Prop := levelNobodyRow.holds Tryz.pinned (OpenSpec.ofChange levelNobodySpec)

/-- ITS FALSE NEIGHBOUR: 'it returns false'. Refute it at one input. -/
def levelNobodyWrong : ChangeSpec := { name := "levelNobody", fn := fun _ => fun
  | [d] => { results := [.lit (.bool false)], args := [d] }
  | _ => none }
def LevelNobodyWrongFalsely : Prop := levelNobodyRow.holds Tryz.pinned (OpenSpec.ofChange levelNobodyWrong)

/-- 'deduplaw14.LevelRebuilds': WHATEVER THE INPUT: true; the input reads as it did. -/
def levelRebuildsSpec : ChangeSpec := { name := "levelRebuilds", fn := fun _ => fun
  | [d1, d2] => { results := [.lit (.bool true)], args := [d1, d2] }
  | _ => none }
def levelRebuildsRow : OpenClaim := { program := "ytfmoemconapmhaagreat", sum := "91b4697d1ee1477e1643bf0fd032cb7d68bb3b387a9d5f43d157eed94d7dfc5d", func := "dedup/deduplaw14.LevelRebuilds", spec := "levelRebuilds", inPlace := ["internal/bytealg.abigen_runtime_cmpstring", "slices.overlaps[dedup/seq.Item[string, dedup/api.Entry]]", "slices.overlaps[*dedup/run.Run]"], unfollowed := true, recurses := true, apart := false }
def LevelRebuildsSaid : Prop := levelRebuildsRow.holds Tryz.pinned (OpenSpec.ofChange levelRebuildsSpec)

/-- ITS FALSE NEIGHBOUR: 'it returns false'. Refute it at one input. -/
def levelRebuildsWrong : ChangeSpec := { name := "levelRebuilds", fn := fun _ => fun
  | [d1, d2] => { results := [.lit (.bool false)], args := [d1, d2] }
  | _ => none }
def LevelRebuildsWrongFalsely : Prop := levelRebuildsRow.holds Tryz.pinned (OpenSpec.ofChange levelRebuildsWrong)

/-- 'deduplaw14.LevelLoads': WHATEVER THE INPUT: true; the input reads as it did. -/
def levelLoadsSpec : ChangeSpec := { name := "levelLoads", fn := fun _ => fun
  | [d] => { results := [.lit (.bool true)], args := [d] }
  | _ => none }
def levelLoadsRow : OpenClaim := { program := "ytfmoemconapmhaagreat", sum := "91b4697d1ee1477e1643bf0fd032cb7d68bb3b387a9d5f43d157eed94d7dfc5d", func := "dedup/deduplaw14.LevelLoads", spec := "levelLoads", inPlace := ["internal/bytealg.abigen_runtime_cmpstring", "slices.overlaps[dedup/seq.Item[string, dedup/api.Entry]]", "slices.overlaps[*dedup/run.Run]"], unfollowed := true, recurses := true, apart := false }
def LevelLoadsSaid : Prop := levelLoadsRow.holds Tryz.pinned (OpenSpec.ofChange levelLoadsSpec)

/-- ITS FALSE NEIGHBOUR: 'it returns false'. Refute it at one input. -/
def levelLoadsWrong : ChangeSpec := { name := "levelLoads", fn := fun _ => fun
  | [d] => { results := [.lit (.bool false)], args := [d] }
  | _ => none }
def LevelLoadsWrongFalsely : Prop := levelLoadsRow.holds Tryz.pinned (OpenSpec.ofChange levelLoadsWrong)

/- THE SECOND FORM. 'bulk': how many values and letters a reading holds, each counted each time it is reached (what is shared counts as often as it is met; a slice's spare places count too). A statement '..UptoSaid' is the law's where the arguments, and the package variables that the reading takes, are together of bulk at most 1048576: NARROWER than '..Said'. Prove '..Said' where nothing that the law and all that it calls make is longer than what came in: it says more and counts as full. Else prove '..UptoSaid'. A law counts once. -/
mutual
def uptoBulk {H : Type} : DataW H → Nat
  | .lit (.string bytes) => bytes.length + 1
  | .lit _ => 1
  | .nil => 1
  | .ptr d => uptoBulk d + 1
  | .slice elems spare => uptoBulkAll elems + uptoBulkAll spare + 1
  | .agg parts => uptoBulkAll parts + 1
  | .iface _ d => uptoBulk d + 1
  | .map entries => uptoBulkEntries entries + 1
  | .held _ => 1
def uptoBulkAll {H : Type} : List (DataW H) → Nat
  | [] => 0
  | d :: r => uptoBulk d + uptoBulkAll r
def uptoBulkEntries {H : Type} : List (Lit × DataW H) → Nat
  | [] => 0
  | x :: r => uptoBulkEntry x + uptoBulkEntries r
def uptoBulkEntry {H : Type} : Lit × DataW H → Nat
  | (.string bytes, d) => bytes.length + uptoBulk d + 1
  | (_, d) => uptoBulk d + 1
 end
def uptoSmall : (H : Type) → List (DataW H) → Bool := fun _ ds => decide (uptoBulkAll ds ≤ 1048576)
def OpenSpec.upto (s : _root_.Go.ChangeSpec) : _root_.Go.OpenSpec := { _root_.Go.OpenSpec.ofChange s with cond := some uptoSmall }

/-- 'deduplaw14.LevelUnseen', WHERE WHAT IT READS IS OF BULK AT MOST 1048576: true; the input reads as it did. -/
def levelUnseenUptoRow : OpenClaim := { program := "ytfmoemconapmhaagreat", sum := "91b4697d1ee1477e1643bf0fd032cb7d68bb3b387a9d5f43d157eed94d7dfc5d", func := "dedup/deduplaw14.LevelUnseen", spec := "levelUnseen", inPlace := ["internal/bytealg.abigen_runtime_cmpstring", "slices.overlaps[dedup/seq.Item[string, dedup/api.Entry]]", "slices.overlaps[*dedup/run.Run]"], unfollowed := true, recurses := true, apart := false, narrowed := true }
def LevelUnseenUptoSaid : Prop := levelUnseenUptoRow.holds Tryz.pinned (OpenSpec.upto levelUnseenSpec)

/-- 'deduplaw14.LevelDoes', WHERE WHAT IT READS IS OF BULK AT MOST 1048576: true; the input reads as it did. -/
def levelDoesUptoRow : OpenClaim := { program := "ytfmoemconapmhaagreat", sum := "91b4697d1ee1477e1643bf0fd032cb7d68bb3b387a9d5f43d157eed94d7dfc5d", func := "dedup/deduplaw14.LevelDoes", spec := "levelDoes", inPlace := ["internal/bytealg.abigen_runtime_cmpstring", "slices.overlaps[dedup/seq.Item[string, dedup/api.Entry]]", "slices.overlaps[*dedup/run.Run]"], unfollowed := true, recurses := true, apart := false, narrowed := true }
def LevelDoesUptoSaid : Prop := levelDoesUptoRow.holds Tryz.pinned (OpenSpec.upto levelDoesSpec)

/-- 'deduplaw14.LevelMaps', WHERE WHAT IT READS IS OF BULK AT MOST 1048576: true; the input reads as it did. -/
def levelMapsUptoRow : OpenClaim := { program := "ytfmoemconapmhaagreat", sum := "91b4697d1ee1477e1643bf0fd032cb7d68bb3b387a9d5f43d157eed94d7dfc5d", func := "dedup/deduplaw14.LevelMaps", spec := "levelMaps", inPlace := ["internal/bytealg.abigen_runtime_cmpstring", "slices.overlaps[dedup/seq.Item[string, dedup/api.Entry]]", "slices.overlaps[*dedup/run.Run]"], unfollowed := true, recurses := true, apart := false, narrowed := true }
def LevelMapsUptoSaid : Prop := levelMapsUptoRow.holds Tryz.pinned (OpenSpec.upto levelMapsSpec)

/-- 'deduplaw14.LevelNobody', WHERE WHAT IT READS IS OF BULK AT MOST 1048576: true; the input reads as it did. -/
def levelNobodyUptoRow : OpenClaim := { program := "ytfmoemconapmhaagreat", sum := "91b4697d1ee1477e1643bf0fd032cb7d68bb3b387a9d5f43d157eed94d7dfc5d", func := "dedup/deduplaw14.LevelNobody", spec := "levelNobody", inPlace := ["internal/bytealg.abigen_runtime_cmpstring", "slices.overlaps[dedup/seq.Item[string, dedup/api.Entry]]", "slices.overlaps[*dedup/run.Run]"], unfollowed := true, recurses := true, apart := false, narrowed := true }
def LevelNobodyUptoSaid : Prop := levelNobodyUptoRow.holds Tryz.pinned (OpenSpec.upto levelNobodySpec)

/-- 'deduplaw14.LevelRebuilds', WHERE WHAT IT READS IS OF BULK AT MOST 1048576: true; the input reads as it did. -/
def levelRebuildsUptoRow : OpenClaim := { program := "ytfmoemconapmhaagreat", sum := "91b4697d1ee1477e1643bf0fd032cb7d68bb3b387a9d5f43d157eed94d7dfc5d", func := "dedup/deduplaw14.LevelRebuilds", spec := "levelRebuilds", inPlace := ["internal/bytealg.abigen_runtime_cmpstring", "slices.overlaps[dedup/seq.Item[string, dedup/api.Entry]]", "slices.overlaps[*dedup/run.Run]"], unfollowed := true, recurses := true, apart := false, narrowed := true }
def LevelRebuildsUptoSaid : Prop := levelRebuildsUptoRow.holds Tryz.pinned (OpenSpec.upto levelRebuildsSpec)

/-- 'deduplaw14.LevelLoads', WHERE WHAT IT READS IS OF BULK AT MOST 1048576: true; the input reads as it did. -/
def levelLoadsUptoRow : OpenClaim := { program := "ytfmoemconapmhaagreat", sum := "91b4697d1ee1477e1643bf0fd032cb7d68bb3b387a9d5f43d157eed94d7dfc5d", func := "dedup/deduplaw14.LevelLoads", spec := "levelLoads", inPlace := ["internal/bytealg.abigen_runtime_cmpstring", "slices.overlaps[dedup/seq.Item[string, dedup/api.Entry]]", "slices.overlaps[*dedup/run.Run]"], unfollowed := true, recurses := true, apart := false, narrowed := true }
def LevelLoadsUptoSaid : Prop := levelLoadsUptoRow.holds Tryz.pinned (OpenSpec.upto levelLoadsSpec)

end Rows
end Go.Proofs.YtfmoemconapmhaaGreat
