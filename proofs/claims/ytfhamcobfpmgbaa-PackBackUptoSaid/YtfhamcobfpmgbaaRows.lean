/-
  No cell of these rows narrows 'for every input' (looked for: loops, veiled, ifaces, maps, wideKeys, modest, calm, conditions, laid).
  DERIVED. THE GIVEN ROWS OF THIS SEAT. 6 by the template 'for every input the law returns true; each argument reads behind the call as it read before'; 0 by the template 'total and deterministic' (their statements: YtfhamcobfpmgbaaTotals.lean).
  GIVEN WITH THE SEED: the statements are not yours to turn. If you find one false, say at which input.
  Laid BY PROGRAM, IN A SANDBOX (cutbox-rows.mjs): the forced cells as the released guide's own fill.sh prints them over the translation a8930bf3a1852080… (all of the seat's roots in one cut). By AI agents, Wed Nov 11 2026. No macro, syntax, notation, axiom, sorry.
-/
import Derived.Test.YtfhamcobfpmgbaaChecked
import GoSem.Claim
import GoSem.ClaimJoined
import GoSem.ClaimMapViews
import Derived.JoinedTies
import Derived.KernelRfl
namespace Go.Proofs.Ytfhamcobfpmgbaa
/- THE CELL 'sum', in the pinned program and in every row, IS THE sha256 OF THE DUMP (.gsa) THAT YtfhamcobfpmgbaaProg.lean LOADS. Nothing in Lean hashes anything: it is a label: what it is worth is what the hold of that sum in a sandbox is worth. -/
noncomputable def Try.pinned : Pinned := { name := "ytfhamcobfpmgbaa", sum := "a8930bf3a1852080dedae6dac518f387d9b6ff456bac1220bffc4e6e99f47e94", checked := Try.checked }
namespace Rows
def none {H : Type} : Left H := { results := [], args := [] }

/-- 'deduplaw13.PackChunks': WHATEVER THE INPUT: true; the input reads as it did. -/
def packChunksSpec : ChangeSpec := { name := "packChunks", fn := fun _ => fun
  | [d1, d2] => { results := [.lit (.bool true)], args := [d1, d2] }
  | _ => none }
def packChunksRow : OpenClaim := { program := "ytfhamcobfpmgbaa", sum := "a8930bf3a1852080dedae6dac518f387d9b6ff456bac1220bffc4e6e99f47e94", func := "dedup/deduplaw13.PackChunks", spec := "packChunks", apart := false }
def PackChunksSaid : Prop := packChunksRow.holds Try.pinned (OpenSpec.ofChange packChunksSpec)

/-- ITS FALSE NEIGHBOUR: 'it returns false'. Refute it at one input. -/
def packChunksWrong : ChangeSpec := { name := "packChunks", fn := fun _ => fun
  | [d1, d2] => { results := [.lit (.bool false)], args := [d1, d2] }
  | _ => none }
def PackChunksWrongFalsely : Prop := packChunksRow.holds Try.pinned (OpenSpec.ofChange packChunksWrong)

/-- 'deduplaw13.PackScans': WHATEVER THE INPUT: true; the input reads as it did. -/
def packScansSpec : ChangeSpec := { name := "packScans", fn := fun _ => fun
  | [d1, d2, d3] => { results := [.lit (.bool true)], args := [d1, d2, d3] }
  | _ => none }
def packScansRow : OpenClaim := { program := "ytfhamcobfpmgbaa", sum := "a8930bf3a1852080dedae6dac518f387d9b6ff456bac1220bffc4e6e99f47e94", func := "dedup/deduplaw13.PackScans", spec := "packScans", apart := false }
def PackScansSaid : Prop := packScansRow.holds Try.pinned (OpenSpec.ofChange packScansSpec)

/-- ITS FALSE NEIGHBOUR: 'it returns false'. Refute it at one input. -/
def packScansWrong : ChangeSpec := { name := "packScans", fn := fun _ => fun
  | [d1, d2, d3] => { results := [.lit (.bool false)], args := [d1, d2, d3] }
  | _ => none }
def PackScansWrongFalsely : Prop := packScansRow.holds Try.pinned (OpenSpec.ofChange packScansWrong)

/-- 'deduplaw13.PackPlays': WHATEVER THE INPUT: true; the input reads as it did. -/
def packPlaysSpec : ChangeSpec := { name := "packPlays", fn := fun _ => fun
  | [d1, d2, d3, d4] => { results := [.lit (.bool true)], args := [d1, d2, d3, d4] }
  | _ => none }
def packPlaysRow : OpenClaim := { program := "ytfhamcobfpmgbaa", sum := "a8930bf3a1852080dedae6dac518f387d9b6ff456bac1220bffc4e6e99f47e94", func := "dedup/deduplaw13.PackPlays", spec := "packPlays", apart := false }
def PackPlaysSaid : Prop := packPlaysRow.holds Try.pinned (OpenSpec.ofChange packPlaysSpec)

/-- ITS FALSE NEIGHBOUR: 'it returns false'. Refute it at one input. -/
def packPlaysWrong : ChangeSpec := { name := "packPlays", fn := fun _ => fun
  | [d1, d2, d3, d4] => { results := [.lit (.bool false)], args := [d1, d2, d3, d4] }
  | _ => none }
def PackPlaysWrongFalsely : Prop := packPlaysRow.holds Try.pinned (OpenSpec.ofChange packPlaysWrong)

/-- 'deduplaw13.PackNobody': WHATEVER THE INPUT: true; the input reads as it did. -/
def packNobodySpec : ChangeSpec := { name := "packNobody", fn := fun _ => fun
  | [d1, d2, d3] => { results := [.lit (.bool true)], args := [d1, d2, d3] }
  | _ => none }
def packNobodyRow : OpenClaim := { program := "ytfhamcobfpmgbaa", sum := "a8930bf3a1852080dedae6dac518f387d9b6ff456bac1220bffc4e6e99f47e94", func := "dedup/deduplaw13.PackNobody", spec := "packNobody", apart := false }
def PackNobodySaid : Prop := packNobodyRow.holds Try.pinned (OpenSpec.ofChange packNobodySpec)

/-- ITS FALSE NEIGHBOUR: 'it returns false'. Refute it at one input. -/
def packNobodyWrong : ChangeSpec := { name := "packNobody", fn := fun _ => fun
  | [d1, d2, d3] => { results := [.lit (.bool false)], args := [d1, d2, d3] }
  | _ => none }
def PackNobodyWrongFalsely : Prop := packNobodyRow.holds Try.pinned (OpenSpec.ofChange packNobodyWrong)

/-- 'deduplaw13.PackForks': WHATEVER THE INPUT: true; the input reads as it did. -/
def packForksSpec : ChangeSpec := { name := "packForks", fn := fun _ => fun
  | [d1, d2, d3, d4] => { results := [.lit (.bool true)], args := [d1, d2, d3, d4] }
  | _ => none }
def packForksRow : OpenClaim := { program := "ytfhamcobfpmgbaa", sum := "a8930bf3a1852080dedae6dac518f387d9b6ff456bac1220bffc4e6e99f47e94", func := "dedup/deduplaw13.PackForks", spec := "packForks", apart := false }
def PackForksSaid : Prop := packForksRow.holds Try.pinned (OpenSpec.ofChange packForksSpec)

/-- ITS FALSE NEIGHBOUR: 'it returns false'. Refute it at one input. -/
def packForksWrong : ChangeSpec := { name := "packForks", fn := fun _ => fun
  | [d1, d2, d3, d4] => { results := [.lit (.bool false)], args := [d1, d2, d3, d4] }
  | _ => none }
def PackForksWrongFalsely : Prop := packForksRow.holds Try.pinned (OpenSpec.ofChange packForksWrong)

/-- 'deduplaw13.PackBack': WHATEVER THE INPUT: true; the input reads as it did. -/
def packBackSpec : ChangeSpec := { name := "packBack", fn := fun _ => fun
  | [d1, d2, d3, d4] => { results := [.lit (.bool true)], args := [d1, d2, d3, d4] }
  | _ => none }
def packBackRow : OpenClaim := { program := "ytfhamcobfpmgbaa", sum := "a8930bf3a1852080dedae6dac518f387d9b6ff456bac1220bffc4e6e99f47e94", func := "dedup/deduplaw13.PackBack", spec := "packBack", apart := false }
def PackBackSaid : Prop := packBackRow.holds Try.pinned (OpenSpec.ofChange packBackSpec)

/-- ITS FALSE NEIGHBOUR: 'it returns false'. Refute it at one input. -/
def packBackWrong : ChangeSpec := { name := "packBack", fn := fun _ => fun
  | [d1, d2, d3, d4] => { results := [.lit (.bool false)], args := [d1, d2, d3, d4] }
  | _ => none }
def PackBackWrongFalsely : Prop := packBackRow.holds Try.pinned (OpenSpec.ofChange packBackWrong)

/- THE SECOND FORM. 'bulk': how many values and letters a reading holds, each counted each time it is reached (what is shared counts as often as it is met; a slice's spare places count too). A statement '..UptoSaid' is the law's where the arguments, and the package variables that the reading takes, are together of bulk at most 1048576: NARROWER than '..Said'. Prove '..Said' where nothing that the law and all that it calls make is longer than what came in: it says more and counts as full. Else prove '..UptoSaid'. A law counts once. -/
mutual
def uptoBulk {H : Type} : DataW H → Nat
  | .lit (.string bytes) => bytes.length + 1
  | .lit _ => 1
  | .nil => 1
  | .ptr d => uptoBulk d + 1
  | .slice elems spare => uptoBulkAll elems + uptoBulkAll spare + 1
  | .agg parts => uptoBulkAll parts + 1
  | .iface _ d => uptoBulk d + 1
  | .map entries => uptoBulkEntries entries + 1
  | .held _ => 1
def uptoBulkAll {H : Type} : List (DataW H) → Nat
  | [] => 0
  | d :: r => uptoBulk d + uptoBulkAll r
def uptoBulkEntries {H : Type} : List (Lit × DataW H) → Nat
  | [] => 0
  | x :: r => uptoBulkEntry x + uptoBulkEntries r
def uptoBulkEntry {H : Type} : Lit × DataW H → Nat
  | (.string bytes, d) => bytes.length + uptoBulk d + 1
  | (_, d) => uptoBulk d + 1
 end
def uptoSmall : (H : Type) → List (DataW H) → Bool := fun _ ds => decide (uptoBulkAll ds ≤ 1048576)
def OpenSpec.upto (s : _root_.Go.ChangeSpec) : _root_.Go.OpenSpec := { _root_.Go.OpenSpec.ofChange s with cond := some uptoSmall }

/-- 'deduplaw13.PackChunks', WHERE WHAT IT READS IS OF BULK AT MOST 1048576: true; the input reads as it did. -/
def packChunksUptoRow : OpenClaim := { program := "ytfhamcobfpmgbaa", sum := "a8930bf3a1852080dedae6dac518f387d9b6ff456bac1220bffc4e6e99f47e94", func := "dedup/deduplaw13.PackChunks", spec := "packChunks", apart := false, narrowed := true }
def PackChunksUptoSaid : Prop := packChunksUptoRow.holds Try.pinned (OpenSpec.upto packChunksSpec)

/-- 'deduplaw13.PackScans', WHERE WHAT IT READS IS OF BULK AT MOST 1048576: true; the input reads as it did. -/
def packScansUptoRow : OpenClaim := { program := "ytfhamcobfpmgbaa", sum := "a8930bf3a1852080dedae6dac518f387d9b6ff456bac1220bffc4e6e99f47e94", func := "dedup/deduplaw13.PackScans", spec := "packScans", apart := false, narrowed := true }
def PackScansUptoSaid : Prop := packScansUptoRow.holds Try.pinned (OpenSpec.upto packScansSpec)

/-- 'deduplaw13.PackPlays', WHERE WHAT IT READS IS OF BULK AT MOST 1048576: true; the input reads as it did. -/
def packPlaysUptoRow : OpenClaim := { program := "ytfhamcobfpmgbaa", sum := "a8930bf3a1852080dedae6dac518f387d9b6ff456bac1220bffc4e6e99f47e94", func := "dedup/deduplaw13.PackPlays", spec := "packPlays", apart := false, narrowed := true }
def PackPlaysUptoSaid : Prop := packPlaysUptoRow.holds Try.pinned (OpenSpec.upto packPlaysSpec)

/-- 'deduplaw13.PackNobody', WHERE WHAT IT READS IS OF BULK AT MOST 1048576: true; the input reads as it did. -/
def packNobodyUptoRow : OpenClaim := { program := "ytfhamcobfpmgbaa", sum := "a8930bf3a1852080dedae6dac518f387d9b6ff456bac1220bffc4e6e99f47e94", func := "dedup/deduplaw13.PackNobody", spec := "packNobody", apart := false, narrowed := true }
def PackNobodyUptoSaid : Prop := packNobodyUptoRow.holds Try.pinned (OpenSpec.upto packNobodySpec)

/-- 'deduplaw13.PackForks', WHERE WHAT IT READS IS OF BULK AT MOST 1048576: true; the input reads as it did. -/
def packForksUptoRow : OpenClaim := { program := "ytfhamcobfpmgbaa", sum := "a8930bf3a1852080dedae6dac518f387d9b6ff456bac1220bffc4e6e99f47e94", func := "dedup/deduplaw13.PackForks", spec := "packForks", apart := false, narrowed := true }
def PackForksUptoSaid : Prop := packForksUptoRow.holds Try.pinned (OpenSpec.upto packForksSpec)

/-- 'deduplaw13.PackBack', WHERE WHAT IT READS IS OF BULK AT MOST 1048576: true; the input reads as it did. -/
def packBackUptoRow : OpenClaim := { program := "ytfhamcobfpmgbaa", sum := "a8930bf3a1852080dedae6dac518f387d9b6ff456bac1220bffc4e6e99f47e94", func := "dedup/deduplaw13.PackBack", spec := "packBack", apart := false, narrowed := true }
def PackBackUptoSaid : Prop := packBackUptoRow.holds Try.pinned (OpenSpec.upto packBackSpec)

end Rows
end Go.Proofs.Ytfhamcobfpmgbaa
