/-
  No cell of these rows narrows 'for every input' (looked for: loops, veiled, ifaces, maps, wideKeys, modest, calm, conditions, laid).
  DERIVED. THE GIVEN ROWS OF THIS SEAT. 11 by the template 'for every input the law returns true; each argument reads behind the call as it read before'; 0 by the template 'total and deterministic' (their statements: YtdodclahcjfajaaTotals.lean).
  GIVEN WITH THE SEED: the statements are not yours to turn. If you find one false, say at which input.
  Laid BY PROGRAM, IN A SANDBOX (cutbox-rows.mjs): the forced cells as the released guide's own fill.sh prints them over the translation 837d74e6864117ca… (all of the seat's roots in one cut). By AI agents, Wed Nov 11 2026. No macro, syntax, notation, axiom, sorry.
-/
import Derived.Test.YtdodclahcjfajaaChecked
import GoSem.Claim
import GoSem.ClaimJoined
import GoSem.ClaimMapViews
import Derived.JoinedTies
import Derived.KernelRfl
namespace Go.Proofs.Ytdodclahcjfajaa
/- THE CELL 'sum', in the pinned program and in every row, IS THE sha256 OF THE DUMP (.gsa) THAT YtdodclahcjfajaaProg.lean LOADS. Nothing in Lean hashes anything: it is a label: what it is worth is what the hold of that sum in a sandbox is worth. -/
noncomputable def Try.pinned : Pinned := { name := "ytdodclahcjfajaa", sum := "837d74e6864117cadc84098461fb004e1e9d738d6594f2d0bdec1dd067872388", checked := Try.checked }
namespace Rows
def none {H : Type} : Left H := { results := [], args := [] }

/-- 'laws.FnExactPageEntry': WHATEVER THE INPUT: true; the input reads as it did. -/
def fnExactPageEntrySpec : ChangeSpec := { name := "fnExactPageEntry", fn := fun _ => fun
  | [d1, d2] => { results := [.lit (.bool true)], args := [d1, d2] }
  | _ => none }
def fnExactPageEntryRow : OpenClaim := { program := "ytdodclahcjfajaa", sum := "837d74e6864117cadc84098461fb004e1e9d738d6594f2d0bdec1dd067872388", func := "loop.example/g00978/laws.FnExactPageEntry", spec := "fnExactPageEntry", apart := false }
def FnExactPageEntrySaid : Prop := fnExactPageEntryRow.holds Try.pinned (OpenSpec.ofChange fnExactPageEntrySpec)

/-- ITS FALSE NEIGHBOUR: 'it returns false'. Refute it at one input. -/
def fnExactPageEntryWrong : ChangeSpec := { name := "fnExactPageEntry", fn := fun _ => fun
  | [d1, d2] => { results := [.lit (.bool false)], args := [d1, d2] }
  | _ => none }
def FnExactPageEntryWrongFalsely : Prop := fnExactPageEntryRow.holds Try.pinned (OpenSpec.ofChange fnExactPageEntryWrong)

/-- 'laws.FnExactTableNew': WHATEVER THE INPUT: true; the input reads as it did. -/
def fnExactTableNewSpec : ChangeSpec := { name := "fnExactTableNew", fn := fun _ => fun
  | [d] => { results := [.lit (.bool true)], args := [d] }
  | _ => none }
def fnExactTableNewRow : OpenClaim := { program := "ytdodclahcjfajaa", sum := "837d74e6864117cadc84098461fb004e1e9d738d6594f2d0bdec1dd067872388", func := "loop.example/g00978/laws.FnExactTableNew", spec := "fnExactTableNew", apart := false }
def FnExactTableNewSaid : Prop := fnExactTableNewRow.holds Try.pinned (OpenSpec.ofChange fnExactTableNewSpec)

/-- ITS FALSE NEIGHBOUR: 'it returns false'. Refute it at one input. -/
def fnExactTableNewWrong : ChangeSpec := { name := "fnExactTableNew", fn := fun _ => fun
  | [d] => { results := [.lit (.bool false)], args := [d] }
  | _ => none }
def FnExactTableNewWrongFalsely : Prop := fnExactTableNewRow.holds Try.pinned (OpenSpec.ofChange fnExactTableNewWrong)

/-- 'laws.FnExactMappedPages': WHATEVER THE INPUT: true; the input reads as it did. -/
def fnExactMappedPagesSpec : ChangeSpec := { name := "fnExactMappedPages", fn := fun _ => fun
  | [d] => { results := [.lit (.bool true)], args := [d] }
  | _ => none }
def fnExactMappedPagesRow : OpenClaim := { program := "ytdodclahcjfajaa", sum := "837d74e6864117cadc84098461fb004e1e9d738d6594f2d0bdec1dd067872388", func := "loop.example/g00978/laws.FnExactMappedPages", spec := "fnExactMappedPages", apart := false }
def FnExactMappedPagesSaid : Prop := fnExactMappedPagesRow.holds Try.pinned (OpenSpec.ofChange fnExactMappedPagesSpec)

/-- ITS FALSE NEIGHBOUR: 'it returns false'. Refute it at one input. -/
def fnExactMappedPagesWrong : ChangeSpec := { name := "fnExactMappedPages", fn := fun _ => fun
  | [d] => { results := [.lit (.bool false)], args := [d] }
  | _ => none }
def FnExactMappedPagesWrongFalsely : Prop := fnExactMappedPagesRow.holds Try.pinned (OpenSpec.ofChange fnExactMappedPagesWrong)

/-- 'laws.FnExactTableOk': WHATEVER THE INPUT: true; the input reads as it did. -/
def fnExactTableOkSpec : ChangeSpec := { name := "fnExactTableOk", fn := fun _ => fun
  | [d1, d2] => { results := [.lit (.bool true)], args := [d1, d2] }
  | _ => none }
def fnExactTableOkRow : OpenClaim := { program := "ytdodclahcjfajaa", sum := "837d74e6864117cadc84098461fb004e1e9d738d6594f2d0bdec1dd067872388", func := "loop.example/g00978/laws.FnExactTableOk", spec := "fnExactTableOk", apart := false }
def FnExactTableOkSaid : Prop := fnExactTableOkRow.holds Try.pinned (OpenSpec.ofChange fnExactTableOkSpec)

/-- ITS FALSE NEIGHBOUR: 'it returns false'. Refute it at one input. -/
def fnExactTableOkWrong : ChangeSpec := { name := "fnExactTableOk", fn := fun _ => fun
  | [d1, d2] => { results := [.lit (.bool false)], args := [d1, d2] }
  | _ => none }
def FnExactTableOkWrongFalsely : Prop := fnExactTableOkRow.holds Try.pinned (OpenSpec.ofChange fnExactTableOkWrong)

/-- 'laws.FnTables': WHATEVER THE INPUT: true; the input reads as it did. -/
def fnTablesSpec : ChangeSpec := { name := "fnTables", fn := fun _ => fun
  | [d] => { results := [.lit (.bool true)], args := [d] }
  | _ => none }
def fnTablesRow : OpenClaim := { program := "ytdodclahcjfajaa", sum := "837d74e6864117cadc84098461fb004e1e9d738d6594f2d0bdec1dd067872388", func := "loop.example/g00978/laws.FnTables", spec := "fnTables", apart := false }
def FnTablesSaid : Prop := fnTablesRow.holds Try.pinned (OpenSpec.ofChange fnTablesSpec)

/-- ITS FALSE NEIGHBOUR: 'it returns false'. Refute it at one input. -/
def fnTablesWrong : ChangeSpec := { name := "fnTables", fn := fun _ => fun
  | [d] => { results := [.lit (.bool false)], args := [d] }
  | _ => none }
def FnTablesWrongFalsely : Prop := fnTablesRow.holds Try.pinned (OpenSpec.ofChange fnTablesWrong)

/-- 'laws.FnExactPagesOn': WHATEVER THE INPUT: true; the input reads as it did. -/
def fnExactPagesOnSpec : ChangeSpec := { name := "fnExactPagesOn", fn := fun _ => fun
  | [d1, d2] => { results := [.lit (.bool true)], args := [d1, d2] }
  | _ => none }
def fnExactPagesOnRow : OpenClaim := { program := "ytdodclahcjfajaa", sum := "837d74e6864117cadc84098461fb004e1e9d738d6594f2d0bdec1dd067872388", func := "loop.example/g00978/laws.FnExactPagesOn", spec := "fnExactPagesOn", apart := false }
def FnExactPagesOnSaid : Prop := fnExactPagesOnRow.holds Try.pinned (OpenSpec.ofChange fnExactPagesOnSpec)

/-- ITS FALSE NEIGHBOUR: 'it returns false'. Refute it at one input. -/
def fnExactPagesOnWrong : ChangeSpec := { name := "fnExactPagesOn", fn := fun _ => fun
  | [d1, d2] => { results := [.lit (.bool false)], args := [d1, d2] }
  | _ => none }
def FnExactPagesOnWrongFalsely : Prop := fnExactPagesOnRow.holds Try.pinned (OpenSpec.ofChange fnExactPagesOnWrong)

/-- 'laws.FnExactSetPage': WHATEVER THE INPUT: true; the input reads as it did. -/
def fnExactSetPageSpec : ChangeSpec := { name := "fnExactSetPage", fn := fun _ => fun
  | [d1, d2, d3] => { results := [.lit (.bool true)], args := [d1, d2, d3] }
  | _ => none }
def fnExactSetPageRow : OpenClaim := { program := "ytdodclahcjfajaa", sum := "837d74e6864117cadc84098461fb004e1e9d738d6594f2d0bdec1dd067872388", func := "loop.example/g00978/laws.FnExactSetPage", spec := "fnExactSetPage", apart := false }
def FnExactSetPageSaid : Prop := fnExactSetPageRow.holds Try.pinned (OpenSpec.ofChange fnExactSetPageSpec)

/-- ITS FALSE NEIGHBOUR: 'it returns false'. Refute it at one input. -/
def fnExactSetPageWrong : ChangeSpec := { name := "fnExactSetPage", fn := fun _ => fun
  | [d1, d2, d3] => { results := [.lit (.bool false)], args := [d1, d2, d3] }
  | _ => none }
def FnExactSetPageWrongFalsely : Prop := fnExactSetPageRow.holds Try.pinned (OpenSpec.ofChange fnExactSetPageWrong)

/-- 'laws.FnExactFramesNew': WHATEVER THE INPUT: true; the input reads as it did. -/
def fnExactFramesNewSpec : ChangeSpec := { name := "fnExactFramesNew", fn := fun _ => fun
  | [d] => { results := [.lit (.bool true)], args := [d] }
  | _ => none }
def fnExactFramesNewRow : OpenClaim := { program := "ytdodclahcjfajaa", sum := "837d74e6864117cadc84098461fb004e1e9d738d6594f2d0bdec1dd067872388", func := "loop.example/g00978/laws.FnExactFramesNew", spec := "fnExactFramesNew", apart := false }
def FnExactFramesNewSaid : Prop := fnExactFramesNewRow.holds Try.pinned (OpenSpec.ofChange fnExactFramesNewSpec)

/-- ITS FALSE NEIGHBOUR: 'it returns false'. Refute it at one input. -/
def fnExactFramesNewWrong : ChangeSpec := { name := "fnExactFramesNew", fn := fun _ => fun
  | [d] => { results := [.lit (.bool false)], args := [d] }
  | _ => none }
def FnExactFramesNewWrongFalsely : Prop := fnExactFramesNewRow.holds Try.pinned (OpenSpec.ofChange fnExactFramesNewWrong)

/-- 'laws.FnExactFramesOk': WHATEVER THE INPUT: true; the input reads as it did. -/
def fnExactFramesOkSpec : ChangeSpec := { name := "fnExactFramesOk", fn := fun _ => fun
  | [d] => { results := [.lit (.bool true)], args := [d] }
  | _ => none }
def fnExactFramesOkRow : OpenClaim := { program := "ytdodclahcjfajaa", sum := "837d74e6864117cadc84098461fb004e1e9d738d6594f2d0bdec1dd067872388", func := "loop.example/g00978/laws.FnExactFramesOk", spec := "fnExactFramesOk", apart := false }
def FnExactFramesOkSaid : Prop := fnExactFramesOkRow.holds Try.pinned (OpenSpec.ofChange fnExactFramesOkSpec)

/-- ITS FALSE NEIGHBOUR: 'it returns false'. Refute it at one input. -/
def fnExactFramesOkWrong : ChangeSpec := { name := "fnExactFramesOk", fn := fun _ => fun
  | [d] => { results := [.lit (.bool false)], args := [d] }
  | _ => none }
def FnExactFramesOkWrongFalsely : Prop := fnExactFramesOkRow.holds Try.pinned (OpenSpec.ofChange fnExactFramesOkWrong)

/-- 'laws.FnExactFrameRead': WHATEVER THE INPUT: true; the input reads as it did. -/
def fnExactFrameReadSpec : ChangeSpec := { name := "fnExactFrameRead", fn := fun _ => fun
  | [d1, d2, d3] => { results := [.lit (.bool true)], args := [d1, d2, d3] }
  | _ => none }
def fnExactFrameReadRow : OpenClaim := { program := "ytdodclahcjfajaa", sum := "837d74e6864117cadc84098461fb004e1e9d738d6594f2d0bdec1dd067872388", func := "loop.example/g00978/laws.FnExactFrameRead", spec := "fnExactFrameRead", apart := false }
def FnExactFrameReadSaid : Prop := fnExactFrameReadRow.holds Try.pinned (OpenSpec.ofChange fnExactFrameReadSpec)

/-- ITS FALSE NEIGHBOUR: 'it returns false'. Refute it at one input. -/
def fnExactFrameReadWrong : ChangeSpec := { name := "fnExactFrameRead", fn := fun _ => fun
  | [d1, d2, d3] => { results := [.lit (.bool false)], args := [d1, d2, d3] }
  | _ => none }
def FnExactFrameReadWrongFalsely : Prop := fnExactFrameReadRow.holds Try.pinned (OpenSpec.ofChange fnExactFrameReadWrong)

/-- 'laws.FnExactUsedFrames': WHATEVER THE INPUT: true; the input reads as it did. -/
def fnExactUsedFramesSpec : ChangeSpec := { name := "fnExactUsedFrames", fn := fun _ => fun
  | [d] => { results := [.lit (.bool true)], args := [d] }
  | _ => none }
def fnExactUsedFramesRow : OpenClaim := { program := "ytdodclahcjfajaa", sum := "837d74e6864117cadc84098461fb004e1e9d738d6594f2d0bdec1dd067872388", func := "loop.example/g00978/laws.FnExactUsedFrames", spec := "fnExactUsedFrames", apart := false }
def FnExactUsedFramesSaid : Prop := fnExactUsedFramesRow.holds Try.pinned (OpenSpec.ofChange fnExactUsedFramesSpec)

/-- ITS FALSE NEIGHBOUR: 'it returns false'. Refute it at one input. -/
def fnExactUsedFramesWrong : ChangeSpec := { name := "fnExactUsedFrames", fn := fun _ => fun
  | [d] => { results := [.lit (.bool false)], args := [d] }
  | _ => none }
def FnExactUsedFramesWrongFalsely : Prop := fnExactUsedFramesRow.holds Try.pinned (OpenSpec.ofChange fnExactUsedFramesWrong)

/- THE SECOND FORM. 'bulk': how many values and letters a reading holds, each counted each time it is reached (what is shared counts as often as it is met; a slice's spare places count too). A statement '..UptoSaid' is the law's where the arguments, and the package variables that the reading takes, are together of bulk at most 1048576: NARROWER than '..Said'. Prove '..Said' where nothing that the law and all that it calls make is longer than what came in: it says more and counts as full. Else prove '..UptoSaid'. A law counts once. -/
mutual
def uptoBulk {H : Type} : DataW H → Nat
  | .lit (.string bytes) => bytes.length + 1
  | .lit _ => 1
  | .nil => 1
  | .ptr d => uptoBulk d + 1
  | .slice elems spare => uptoBulkAll elems + uptoBulkAll spare + 1
  | .agg parts => uptoBulkAll parts + 1
  | .iface _ d => uptoBulk d + 1
  | .map entries => uptoBulkEntries entries + 1
  | .held _ => 1
def uptoBulkAll {H : Type} : List (DataW H) → Nat
  | [] => 0
  | d :: r => uptoBulk d + uptoBulkAll r
def uptoBulkEntries {H : Type} : List (Lit × DataW H) → Nat
  | [] => 0
  | x :: r => uptoBulkEntry x + uptoBulkEntries r
def uptoBulkEntry {H : Type} : Lit × DataW H → Nat
  | (.string bytes, d) => bytes.length + uptoBulk d + 1
  | (_, d) => uptoBulk d + 1
 end
def uptoSmall : (H : Type) → List (DataW H) → Bool := fun _ ds => decide (uptoBulkAll ds ≤ 1048576)
def OpenSpec.upto (s : _root_.Go.ChangeSpec) : _root_.Go.OpenSpec := { _root_.Go.OpenSpec.ofChange s with cond := some uptoSmall }

/-- 'laws.FnExactPageEntry', WHERE WHAT IT READS IS OF BULK AT MOST 1048576: true; the input reads as it did. -/
def fnExactPageEntryUptoRow : OpenClaim := { program := "ytdodclahcjfajaa", sum := "837d74e6864117cadc84098461fb004e1e9d738d6594f2d0bdec1dd067872388", func := "loop.example/g00978/laws.FnExactPageEntry", spec := "fnExactPageEntry", apart := false, narrowed := true }
def FnExactPageEntryUptoSaid : Prop := fnExactPageEntryUptoRow.holds Try.pinned (OpenSpec.upto fnExactPageEntrySpec)

/-- 'laws.FnExactTableNew', WHERE WHAT IT READS IS OF BULK AT MOST 1048576: true; the input reads as it did. -/
def fnExactTableNewUptoRow : OpenClaim := { program := "ytdodclahcjfajaa", sum := "837d74e6864117cadc84098461fb004e1e9d738d6594f2d0bdec1dd067872388", func := "loop.example/g00978/laws.FnExactTableNew", spec := "fnExactTableNew", apart := false, narrowed := true }
def FnExactTableNewUptoSaid : Prop := fnExactTableNewUptoRow.holds Try.pinned (OpenSpec.upto fnExactTableNewSpec)

/-- 'laws.FnExactMappedPages', WHERE WHAT IT READS IS OF BULK AT MOST 1048576: true; the input reads as it did. -/
def fnExactMappedPagesUptoRow : OpenClaim := { program := "ytdodclahcjfajaa", sum := "837d74e6864117cadc84098461fb004e1e9d738d6594f2d0bdec1dd067872388", func := "loop.example/g00978/laws.FnExactMappedPages", spec := "fnExactMappedPages", apart := false, narrowed := true }
def FnExactMappedPagesUptoSaid : Prop := fnExactMappedPagesUptoRow.holds Try.pinned (OpenSpec.upto fnExactMappedPagesSpec)

/-- 'laws.FnExactTableOk', WHERE WHAT IT READS IS OF BULK AT MOST 1048576: true; the input reads as it did. -/
def fnExactTableOkUptoRow : OpenClaim := { program := "ytdodclahcjfajaa", sum := "837d74e6864117cadc84098461fb004e1e9d738d6594f2d0bdec1dd067872388", func := "loop.example/g00978/laws.FnExactTableOk", spec := "fnExactTableOk", apart := false, narrowed := true }
def FnExactTableOkUptoSaid : Prop := fnExactTableOkUptoRow.holds Try.pinned (OpenSpec.upto fnExactTableOkSpec)

/-- 'laws.FnTables', WHERE WHAT IT READS IS OF BULK AT MOST 1048576: true; the input reads as it did. -/
def fnTablesUptoRow : OpenClaim := { program := "ytdodclahcjfajaa", sum := "837d74e6864117cadc84098461fb004e1e9d738d6594f2d0bdec1dd067872388", func := "loop.example/g00978/laws.FnTables", spec := "fnTables", apart := false, narrowed := true }
def FnTablesUptoSaid : Prop := fnTablesUptoRow.holds Try.pinned (OpenSpec.upto fnTablesSpec)

/-- 'laws.FnExactPagesOn', WHERE WHAT IT READS IS OF BULK AT MOST 1048576: true; the input reads as it did. -/
def fnExactPagesOnUptoRow : OpenClaim := { program := "ytdodclahcjfajaa", sum := "837d74e6864117cadc84098461fb004e1e9d738d6594f2d0bdec1dd067872388", func := "loop.example/g00978/laws.FnExactPagesOn", spec := "fnExactPagesOn", apart := false, narrowed := true }
def FnExactPagesOnUptoSaid : Prop := fnExactPagesOnUptoRow.holds Try.pinned (OpenSpec.upto fnExactPagesOnSpec)

/-- 'laws.FnExactSetPage', WHERE WHAT IT READS IS OF BULK AT MOST 1048576: true; the input reads as it did. -/
def fnExactSetPageUptoRow : OpenClaim := { program := "ytdodclahcjfajaa", sum := "837d74e6864117cadc84098461fb004e1e9d738d6594f2d0bdec1dd067872388", func := "loop.example/g00978/laws.FnExactSetPage", spec := "fnExactSetPage", apart := false, narrowed := true }
def FnExactSetPageUptoSaid : Prop := fnExactSetPageUptoRow.holds Try.pinned (OpenSpec.upto fnExactSetPageSpec)

/-- 'laws.FnExactFramesNew', WHERE WHAT IT READS IS OF BULK AT MOST 1048576: true; the input reads as it did. -/
def fnExactFramesNewUptoRow : OpenClaim := { program := "ytdodclahcjfajaa", sum := "837d74e6864117cadc84098461fb004e1e9d738d6594f2d0bdec1dd067872388", func := "loop.example/g00978/laws.FnExactFramesNew", spec := "fnExactFramesNew", apart := false, narrowed := true }
def FnExactFramesNewUptoSaid : Prop := fnExactFramesNewUptoRow.holds Try.pinned (OpenSpec.upto fnExactFramesNewSpec)

/-- 'laws.FnExactFramesOk', WHERE WHAT IT READS IS OF BULK AT MOST 1048576: true; the input reads as it did. -/
def fnExactFramesOkUptoRow : OpenClaim := { program := "ytdodclahcjfajaa", sum := "837d74e6864117cadc84098461fb004e1e9d738d6594f2d0bdec1dd067872388", func := "loop.example/g00978/laws.FnExactFramesOk", spec := "fnExactFramesOk", apart := false, narrowed := true }
def FnExactFramesOkUptoSaid : Prop := fnExactFramesOkUptoRow.holds Try.pinned (OpenSpec.upto fnExactFramesOkSpec)

/-- 'laws.FnExactFrameRead', WHERE WHAT IT READS IS OF BULK AT MOST 1048576: true; the input reads as it did. -/
def fnExactFrameReadUptoRow : OpenClaim := { program := "ytdodclahcjfajaa", sum := "837d74e6864117cadc84098461fb004e1e9d738d6594f2d0bdec1dd067872388", func := "loop.example/g00978/laws.FnExactFrameRead", spec := "fnExactFrameRead", apart := false, narrowed := true }
def FnExactFrameReadUptoSaid : Prop := fnExactFrameReadUptoRow.holds Try.pinned (OpenSpec.upto fnExactFrameReadSpec)

/-- 'laws.FnExactUsedFrames', WHERE WHAT IT READS IS OF BULK AT MOST 1048576: true; the input reads as it did. -/
def fnExactUsedFramesUptoRow : OpenClaim := { program := "ytdodclahcjfajaa", sum := "837d74e6864117cadc84098461fb004e1e9d738d6594f2d0bdec1dd067872388", func := "loop.example/g00978/laws.FnExactUsedFrames", spec := "fnExactUsedFrames", apart := false, narrowed := true }
def FnExactUsedFramesUptoSaid : Prop := fnExactUsedFramesUptoRow.holds Try.pinned (OpenSpec.upto fnExactUsedFramesSpec)

end Rows
end Go.Proofs.Ytdodclahcjfajaa
