/-
  No cell of these rows narrows 'for every input' (looked for: loops, veiled, ifaces, maps, wideKeys, modest, calm, conditions, laid).
  DERIVED. THE GIVEN ROWS OF THIS SEAT. 10 by the template 'for every input the law returns true; each argument reads behind the call as it read before'; 0 by the template 'total and deterministic' (their statements: YtodbpbgpfacgcaaTotals.lean).
  GIVEN WITH THE SEED: the statements are not yours to turn. If you find one false, say at which input.
  Laid BY PROGRAM, IN A SANDBOX (cutbox-rows.mjs): the forced cells as the released guide's own fill.sh prints them over the translation bdd23a7dcc381577… (all of the seat's roots in one cut). By AI agents, Wed Nov 11 2026. No macro, syntax, notation, axiom, sorry.
-/
import Derived.Test.YtodbpbgpfacgcaaChecked
import GoSem.Claim
import GoSem.ClaimJoined
import GoSem.ClaimMapViews
import Derived.JoinedTies
import Derived.KernelRfl
namespace Go.Proofs.Ytodbpbgpfacgcaa
/- THE CELL 'sum', in the pinned program and in every row, IS THE sha256 OF THE DUMP (.gsa) THAT YtodbpbgpfacgcaaProg.lean LOADS. Nothing in Lean hashes anything: it is a label: what it is worth is what the hold of that sum in a sandbox is worth. -/
noncomputable def Try.pinned : Pinned := { name := "ytodbpbgpfacgcaa", sum := "bdd23a7dcc381577c6c5f4650a41d8f5534f09a2850175f69e5f9371152dc8a6", checked := Try.checked }
namespace Rows
def none {H : Type} : Left H := { results := [], args := [] }

/-- 'laws.FnFirstFrame': WHATEVER THE INPUT: true; the input reads as it did. -/
def fnFirstFrameSpec : ChangeSpec := { name := "fnFirstFrame", fn := fun _ => fun
  | [d] => { results := [.lit (.bool true)], args := [d] }
  | _ => none }
def fnFirstFrameRow : OpenClaim := { program := "ytodbpbgpfacgcaa", sum := "bdd23a7dcc381577c6c5f4650a41d8f5534f09a2850175f69e5f9371152dc8a6", func := "loop.example/g00978/laws.FnFirstFrame", spec := "fnFirstFrame", apart := false }
def FnFirstFrameSaid : Prop := fnFirstFrameRow.holds Try.pinned (OpenSpec.ofChange fnFirstFrameSpec)

/-- ITS FALSE NEIGHBOUR: 'it returns false'. Refute it at one input. -/
def fnFirstFrameWrong : ChangeSpec := { name := "fnFirstFrame", fn := fun _ => fun
  | [d] => { results := [.lit (.bool false)], args := [d] }
  | _ => none }
def FnFirstFrameWrongFalsely : Prop := fnFirstFrameRow.holds Try.pinned (OpenSpec.ofChange fnFirstFrameWrong)

/-- 'laws.FnPageText': WHATEVER THE INPUT: true; the input reads as it did. -/
def fnPageTextSpec : ChangeSpec := { name := "fnPageText", fn := fun _ => fun
  | [d] => { results := [.lit (.bool true)], args := [d] }
  | _ => none }
def fnPageTextRow : OpenClaim := { program := "ytodbpbgpfacgcaa", sum := "bdd23a7dcc381577c6c5f4650a41d8f5534f09a2850175f69e5f9371152dc8a6", func := "loop.example/g00978/laws.FnPageText", spec := "fnPageText", apart := false }
def FnPageTextSaid : Prop := fnPageTextRow.holds Try.pinned (OpenSpec.ofChange fnPageTextSpec)

/-- ITS FALSE NEIGHBOUR: 'it returns false'. Refute it at one input. -/
def fnPageTextWrong : ChangeSpec := { name := "fnPageText", fn := fun _ => fun
  | [d] => { results := [.lit (.bool false)], args := [d] }
  | _ => none }
def FnPageTextWrongFalsely : Prop := fnPageTextRow.holds Try.pinned (OpenSpec.ofChange fnPageTextWrong)

/-- 'laws.FnFrames': WHATEVER THE INPUT: true; the input reads as it did. -/
def fnFramesSpec : ChangeSpec := { name := "fnFrames", fn := fun _ => fun
  | [d] => { results := [.lit (.bool true)], args := [d] }
  | _ => none }
def fnFramesRow : OpenClaim := { program := "ytodbpbgpfacgcaa", sum := "bdd23a7dcc381577c6c5f4650a41d8f5534f09a2850175f69e5f9371152dc8a6", func := "loop.example/g00978/laws.FnFrames", spec := "fnFrames", apart := false }
def FnFramesSaid : Prop := fnFramesRow.holds Try.pinned (OpenSpec.ofChange fnFramesSpec)

/-- ITS FALSE NEIGHBOUR: 'it returns false'. Refute it at one input. -/
def fnFramesWrong : ChangeSpec := { name := "fnFrames", fn := fun _ => fun
  | [d] => { results := [.lit (.bool false)], args := [d] }
  | _ => none }
def FnFramesWrongFalsely : Prop := fnFramesRow.holds Try.pinned (OpenSpec.ofChange fnFramesWrong)

/-- 'laws.FnFrameCells': WHATEVER THE INPUT: true; the input reads as it did. -/
def fnFrameCellsSpec : ChangeSpec := { name := "fnFrameCells", fn := fun _ => fun
  | [d] => { results := [.lit (.bool true)], args := [d] }
  | _ => none }
def fnFrameCellsRow : OpenClaim := { program := "ytodbpbgpfacgcaa", sum := "bdd23a7dcc381577c6c5f4650a41d8f5534f09a2850175f69e5f9371152dc8a6", func := "loop.example/g00978/laws.FnFrameCells", spec := "fnFrameCells", apart := false }
def FnFrameCellsSaid : Prop := fnFrameCellsRow.holds Try.pinned (OpenSpec.ofChange fnFrameCellsSpec)

/-- ITS FALSE NEIGHBOUR: 'it returns false'. Refute it at one input. -/
def fnFrameCellsWrong : ChangeSpec := { name := "fnFrameCells", fn := fun _ => fun
  | [d] => { results := [.lit (.bool false)], args := [d] }
  | _ => none }
def FnFrameCellsWrongFalsely : Prop := fnFrameCellsRow.holds Try.pinned (OpenSpec.ofChange fnFrameCellsWrong)

/-- 'laws.FnExactMachineNew': WHATEVER THE INPUT: true; the input reads as it did. -/
def fnExactMachineNewSpec : ChangeSpec := { name := "fnExactMachineNew", fn := fun _ => fun
  | [d1, d2] => { results := [.lit (.bool true)], args := [d1, d2] }
  | _ => none }
def fnExactMachineNewRow : OpenClaim := { program := "ytodbpbgpfacgcaa", sum := "bdd23a7dcc381577c6c5f4650a41d8f5534f09a2850175f69e5f9371152dc8a6", func := "loop.example/g00978/laws.FnExactMachineNew", spec := "fnExactMachineNew", apart := false }
def FnExactMachineNewSaid : Prop := fnExactMachineNewRow.holds Try.pinned (OpenSpec.ofChange fnExactMachineNewSpec)

/-- ITS FALSE NEIGHBOUR: 'it returns false'. Refute it at one input. -/
def fnExactMachineNewWrong : ChangeSpec := { name := "fnExactMachineNew", fn := fun _ => fun
  | [d1, d2] => { results := [.lit (.bool false)], args := [d1, d2] }
  | _ => none }
def FnExactMachineNewWrongFalsely : Prop := fnExactMachineNewRow.holds Try.pinned (OpenSpec.ofChange fnExactMachineNewWrong)

/-- 'laws.FnExactFrameGive': WHATEVER THE INPUT: true; the input reads as it did. -/
def fnExactFrameGiveSpec : ChangeSpec := { name := "fnExactFrameGive", fn := fun _ => fun
  | [d1, d2] => { results := [.lit (.bool true)], args := [d1, d2] }
  | _ => none }
def fnExactFrameGiveRow : OpenClaim := { program := "ytodbpbgpfacgcaa", sum := "bdd23a7dcc381577c6c5f4650a41d8f5534f09a2850175f69e5f9371152dc8a6", func := "loop.example/g00978/laws.FnExactFrameGive", spec := "fnExactFrameGive", apart := false }
def FnExactFrameGiveSaid : Prop := fnExactFrameGiveRow.holds Try.pinned (OpenSpec.ofChange fnExactFrameGiveSpec)

/-- ITS FALSE NEIGHBOUR: 'it returns false'. Refute it at one input. -/
def fnExactFrameGiveWrong : ChangeSpec := { name := "fnExactFrameGive", fn := fun _ => fun
  | [d1, d2] => { results := [.lit (.bool false)], args := [d1, d2] }
  | _ => none }
def FnExactFrameGiveWrongFalsely : Prop := fnExactFrameGiveRow.holds Try.pinned (OpenSpec.ofChange fnExactFrameGiveWrong)

/-- 'laws.FnExactFrameWrite': WHATEVER THE INPUT: true; the input reads as it did. -/
def fnExactFrameWriteSpec : ChangeSpec := { name := "fnExactFrameWrite", fn := fun _ => fun
  | [d1, d2, d3, d4] => { results := [.lit (.bool true)], args := [d1, d2, d3, d4] }
  | _ => none }
def fnExactFrameWriteRow : OpenClaim := { program := "ytodbpbgpfacgcaa", sum := "bdd23a7dcc381577c6c5f4650a41d8f5534f09a2850175f69e5f9371152dc8a6", func := "loop.example/g00978/laws.FnExactFrameWrite", spec := "fnExactFrameWrite", apart := false }
def FnExactFrameWriteSaid : Prop := fnExactFrameWriteRow.holds Try.pinned (OpenSpec.ofChange fnExactFrameWriteSpec)

/-- ITS FALSE NEIGHBOUR: 'it returns false'. Refute it at one input. -/
def fnExactFrameWriteWrong : ChangeSpec := { name := "fnExactFrameWrite", fn := fun _ => fun
  | [d1, d2, d3, d4] => { results := [.lit (.bool false)], args := [d1, d2, d3, d4] }
  | _ => none }
def FnExactFrameWriteWrongFalsely : Prop := fnExactFrameWriteRow.holds Try.pinned (OpenSpec.ofChange fnExactFrameWriteWrong)

/-- 'laws.FnExactFrameTake': WHATEVER THE INPUT: true; the input reads as it did. -/
def fnExactFrameTakeSpec : ChangeSpec := { name := "fnExactFrameTake", fn := fun _ => fun
  | [d] => { results := [.lit (.bool true)], args := [d] }
  | _ => none }
def fnExactFrameTakeRow : OpenClaim := { program := "ytodbpbgpfacgcaa", sum := "bdd23a7dcc381577c6c5f4650a41d8f5534f09a2850175f69e5f9371152dc8a6", func := "loop.example/g00978/laws.FnExactFrameTake", spec := "fnExactFrameTake", apart := false }
def FnExactFrameTakeSaid : Prop := fnExactFrameTakeRow.holds Try.pinned (OpenSpec.ofChange fnExactFrameTakeSpec)

/-- ITS FALSE NEIGHBOUR: 'it returns false'. Refute it at one input. -/
def fnExactFrameTakeWrong : ChangeSpec := { name := "fnExactFrameTake", fn := fun _ => fun
  | [d] => { results := [.lit (.bool false)], args := [d] }
  | _ => none }
def FnExactFrameTakeWrongFalsely : Prop := fnExactFrameTakeRow.holds Try.pinned (OpenSpec.ofChange fnExactFrameTakeWrong)

/-- 'laws.FnExactMachineOk': WHATEVER THE INPUT: true; the input reads as it did. -/
def fnExactMachineOkSpec : ChangeSpec := { name := "fnExactMachineOk", fn := fun _ => fun
  | [d] => { results := [.lit (.bool true)], args := [d] }
  | _ => none }
def fnExactMachineOkRow : OpenClaim := { program := "ytodbpbgpfacgcaa", sum := "bdd23a7dcc381577c6c5f4650a41d8f5534f09a2850175f69e5f9371152dc8a6", func := "loop.example/g00978/laws.FnExactMachineOk", spec := "fnExactMachineOk", apart := false }
def FnExactMachineOkSaid : Prop := fnExactMachineOkRow.holds Try.pinned (OpenSpec.ofChange fnExactMachineOkSpec)

/-- ITS FALSE NEIGHBOUR: 'it returns false'. Refute it at one input. -/
def fnExactMachineOkWrong : ChangeSpec := { name := "fnExactMachineOk", fn := fun _ => fun
  | [d] => { results := [.lit (.bool false)], args := [d] }
  | _ => none }
def FnExactMachineOkWrongFalsely : Prop := fnExactMachineOkRow.holds Try.pinned (OpenSpec.ofChange fnExactMachineOkWrong)

/-- 'laws.FnExactLoad': WHATEVER THE INPUT: true; the input reads as it did. -/
def fnExactLoadSpec : ChangeSpec := { name := "fnExactLoad", fn := fun _ => fun
  | [d1, d2] => { results := [.lit (.bool true)], args := [d1, d2] }
  | _ => none }
def fnExactLoadRow : OpenClaim := { program := "ytodbpbgpfacgcaa", sum := "bdd23a7dcc381577c6c5f4650a41d8f5534f09a2850175f69e5f9371152dc8a6", func := "loop.example/g00978/laws.FnExactLoad", spec := "fnExactLoad", apart := false }
def FnExactLoadSaid : Prop := fnExactLoadRow.holds Try.pinned (OpenSpec.ofChange fnExactLoadSpec)

/-- ITS FALSE NEIGHBOUR: 'it returns false'. Refute it at one input. -/
def fnExactLoadWrong : ChangeSpec := { name := "fnExactLoad", fn := fun _ => fun
  | [d1, d2] => { results := [.lit (.bool false)], args := [d1, d2] }
  | _ => none }
def FnExactLoadWrongFalsely : Prop := fnExactLoadRow.holds Try.pinned (OpenSpec.ofChange fnExactLoadWrong)

/- THE SECOND FORM. 'bulk': how many values and letters a reading holds, each counted each time it is reached (what is shared counts as often as it is met; a slice's spare places count too). A statement '..UptoSaid' is the law's where the arguments, and the package variables that the reading takes, are together of bulk at most 1048576: NARROWER than '..Said'. Prove '..Said' where nothing that the law and all that it calls make is longer than what came in: it says more and counts as full. Else prove '..UptoSaid'. A law counts once. -/
mutual
def uptoBulk {H : Type} : DataW H → Nat
  | .lit (.string bytes) => bytes.length + 1
  | .lit _ => 1
  | .nil => 1
  | .ptr d => uptoBulk d + 1
  | .slice elems spare => uptoBulkAll elems + uptoBulkAll spare + 1
  | .agg parts => uptoBulkAll parts + 1
  | .iface _ d => uptoBulk d + 1
  | .map entries => uptoBulkEntries entries + 1
  | .held _ => 1
def uptoBulkAll {H : Type} : List (DataW H) → Nat
  | [] => 0
  | d :: r => uptoBulk d + uptoBulkAll r
def uptoBulkEntries {H : Type} : List (Lit × DataW H) → Nat
  | [] => 0
  | x :: r => uptoBulkEntry x + uptoBulkEntries r
def uptoBulkEntry {H : Type} : Lit × DataW H → Nat
  | (.string bytes, d) => bytes.length + uptoBulk d + 1
  | (_, d) => uptoBulk d + 1
 end
def uptoSmall : (H : Type) → List (DataW H) → Bool := fun _ ds => decide (uptoBulkAll ds ≤ 1048576)
def OpenSpec.upto (s : _root_.Go.ChangeSpec) : _root_.Go.OpenSpec := { _root_.Go.OpenSpec.ofChange s with cond := some uptoSmall }

/-- 'laws.FnFirstFrame', WHERE WHAT IT READS IS OF BULK AT MOST 1048576: true; the input reads as it did. -/
def fnFirstFrameUptoRow : OpenClaim := { program := "ytodbpbgpfacgcaa", sum := "bdd23a7dcc381577c6c5f4650a41d8f5534f09a2850175f69e5f9371152dc8a6", func := "loop.example/g00978/laws.FnFirstFrame", spec := "fnFirstFrame", apart := false, narrowed := true }
def FnFirstFrameUptoSaid : Prop := fnFirstFrameUptoRow.holds Try.pinned (OpenSpec.upto fnFirstFrameSpec)

/-- 'laws.FnPageText', WHERE WHAT IT READS IS OF BULK AT MOST 1048576: true; the input reads as it did. -/
def fnPageTextUptoRow : OpenClaim := { program := "ytodbpbgpfacgcaa", sum := "bdd23a7dcc381577c6c5f4650a41d8f5534f09a2850175f69e5f9371152dc8a6", func := "loop.example/g00978/laws.FnPageText", spec := "fnPageText", apart := false, narrowed := true }
def FnPageTextUptoSaid : Prop := fnPageTextUptoRow.holds Try.pinned (OpenSpec.upto fnPageTextSpec)

/-- 'laws.FnFrames', WHERE WHAT IT READS IS OF BULK AT MOST 1048576: true; the input reads as it did. -/
def fnFramesUptoRow : OpenClaim := { program := "ytodbpbgpfacgcaa", sum := "bdd23a7dcc381577c6c5f4650a41d8f5534f09a2850175f69e5f9371152dc8a6", func := "loop.example/g00978/laws.FnFrames", spec := "fnFrames", apart := false, narrowed := true }
def FnFramesUptoSaid : Prop := fnFramesUptoRow.holds Try.pinned (OpenSpec.upto fnFramesSpec)

/-- 'laws.FnFrameCells', WHERE WHAT IT READS IS OF BULK AT MOST 1048576: true; the input reads as it did. -/
def fnFrameCellsUptoRow : OpenClaim := { program := "ytodbpbgpfacgcaa", sum := "bdd23a7dcc381577c6c5f4650a41d8f5534f09a2850175f69e5f9371152dc8a6", func := "loop.example/g00978/laws.FnFrameCells", spec := "fnFrameCells", apart := false, narrowed := true }
def FnFrameCellsUptoSaid : Prop := fnFrameCellsUptoRow.holds Try.pinned (OpenSpec.upto fnFrameCellsSpec)

/-- 'laws.FnExactMachineNew', WHERE WHAT IT READS IS OF BULK AT MOST 1048576: true; the input reads as it did. -/
def fnExactMachineNewUptoRow : OpenClaim := { program := "ytodbpbgpfacgcaa", sum := "bdd23a7dcc381577c6c5f4650a41d8f5534f09a2850175f69e5f9371152dc8a6", func := "loop.example/g00978/laws.FnExactMachineNew", spec := "fnExactMachineNew", apart := false, narrowed := true }
def FnExactMachineNewUptoSaid : Prop := fnExactMachineNewUptoRow.holds Try.pinned (OpenSpec.upto fnExactMachineNewSpec)

/-- 'laws.FnExactFrameGive', WHERE WHAT IT READS IS OF BULK AT MOST 1048576: true; the input reads as it did. -/
def fnExactFrameGiveUptoRow : OpenClaim := { program := "ytodbpbgpfacgcaa", sum := "bdd23a7dcc381577c6c5f4650a41d8f5534f09a2850175f69e5f9371152dc8a6", func := "loop.example/g00978/laws.FnExactFrameGive", spec := "fnExactFrameGive", apart := false, narrowed := true }
def FnExactFrameGiveUptoSaid : Prop := fnExactFrameGiveUptoRow.holds Try.pinned (OpenSpec.upto fnExactFrameGiveSpec)

/-- 'laws.FnExactFrameWrite', WHERE WHAT IT READS IS OF BULK AT MOST 1048576: true; the input reads as it did. -/
def fnExactFrameWriteUptoRow : OpenClaim := { program := "ytodbpbgpfacgcaa", sum := "bdd23a7dcc381577c6c5f4650a41d8f5534f09a2850175f69e5f9371152dc8a6", func := "loop.example/g00978/laws.FnExactFrameWrite", spec := "fnExactFrameWrite", apart := false, narrowed := true }
def FnExactFrameWriteUptoSaid : Prop := fnExactFrameWriteUptoRow.holds Try.pinned (OpenSpec.upto fnExactFrameWriteSpec)

/-- 'laws.FnExactFrameTake', WHERE WHAT IT READS IS OF BULK AT MOST 1048576: true; the input reads as it did. -/
def fnExactFrameTakeUptoRow : OpenClaim := { program := "ytodbpbgpfacgcaa", sum := "bdd23a7dcc381577c6c5f4650a41d8f5534f09a2850175f69e5f9371152dc8a6", func := "loop.example/g00978/laws.FnExactFrameTake", spec := "fnExactFrameTake", apart := false, narrowed := true }
def FnExactFrameTakeUptoSaid : Prop := fnExactFrameTakeUptoRow.holds Try.pinned (OpenSpec.upto fnExactFrameTakeSpec)

/-- 'laws.FnExactMachineOk', WHERE WHAT IT READS IS OF BULK AT MOST 1048576: true; the input reads as it did. -/
def fnExactMachineOkUptoRow : OpenClaim := { program := "ytodbpbgpfacgcaa", sum := "bdd23a7dcc381577c6c5f4650a41d8f5534f09a2850175f69e5f9371152dc8a6", func := "loop.example/g00978/laws.FnExactMachineOk", spec := "fnExactMachineOk", apart := false, narrowed := true }
def FnExactMachineOkUptoSaid : Prop := fnExactMachineOkUptoRow.holds Try.pinned (OpenSpec.upto fnExactMachineOkSpec)

/-- 'laws.FnExactLoad', WHERE WHAT IT READS IS OF BULK AT MOST 1048576: true; the input reads as it did. -/
def fnExactLoadUptoRow : OpenClaim := { program := "ytodbpbgpfacgcaa", sum := "bdd23a7dcc381577c6c5f4650a41d8f5534f09a2850175f69e5f9371152dc8a6", func := "loop.example/g00978/laws.FnExactLoad", spec := "fnExactLoad", apart := false, narrowed := true }
def FnExactLoadUptoSaid : Prop := fnExactLoadUptoRow.holds Try.pinned (OpenSpec.upto fnExactLoadSpec)

end Rows
end Go.Proofs.Ytodbpbgpfacgcaa
