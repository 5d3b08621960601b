/-
  No cell of these rows narrows 'for every input' (looked for: loops, veiled, ifaces, maps, wideKeys, modest, calm, conditions, laid).
  DERIVED. THE GIVEN ROWS OF THIS SEAT. 12 by the template 'for every input the law returns true; each argument reads behind the call as it read before'; 0 by the template 'total and deterministic' (their statements: YtpbcaaoohcgalaaTotals.lean).
  GIVEN WITH THE SEED: the statements are not yours to turn. If you find one false, say at which input.
  Laid BY PROGRAM, IN A SANDBOX (cutbox-rows.mjs): the forced cells as the released guide's own fill.sh prints them over the translation ef3c9629d974786f… (all of the seat's roots in one cut). By AI agents, Wed Nov 11 2026. No macro, syntax, notation, axiom, sorry.
-/
import Derived.Test.YtpbcaaoohcgalaaChecked
import GoSem.Claim
import GoSem.ClaimJoined
import GoSem.ClaimMapViews
import Derived.JoinedTies
import Derived.KernelRfl
namespace Go.Proofs.Ytpbcaaoohcgalaa
/- THE CELL 'sum', in the pinned program and in every row, IS THE sha256 OF THE DUMP (.gsa) THAT YtpbcaaoohcgalaaProg.lean LOADS. Nothing in Lean hashes anything: it is a label: what it is worth is what the hold of that sum in a sandbox is worth. -/
noncomputable def Try.pinned : Pinned := { name := "ytpbcaaoohcgalaa", sum := "ef3c9629d974786f28e56d42ab32da27623f8387917a131589c2d28d07d332eb", checked := Try.checked }
namespace Rows
def none {H : Type} : Left H := { results := [], args := [] }

/-- 'laws.FnExactEncodeHex': WHATEVER THE INPUT: true; the input reads as it did. -/
def fnExactEncodeHexSpec : ChangeSpec := { name := "fnExactEncodeHex", fn := fun _ => fun
  | [d] => { results := [.lit (.bool true)], args := [d] }
  | _ => none }
def fnExactEncodeHexRow : OpenClaim := { program := "ytpbcaaoohcgalaa", sum := "ef3c9629d974786f28e56d42ab32da27623f8387917a131589c2d28d07d332eb", func := "loop.example/g00978/laws.FnExactEncodeHex", spec := "fnExactEncodeHex", apart := false }
def FnExactEncodeHexSaid : Prop := fnExactEncodeHexRow.holds Try.pinned (OpenSpec.ofChange fnExactEncodeHexSpec)

/-- ITS FALSE NEIGHBOUR: 'it returns false'. Refute it at one input. -/
def fnExactEncodeHexWrong : ChangeSpec := { name := "fnExactEncodeHex", fn := fun _ => fun
  | [d] => { results := [.lit (.bool false)], args := [d] }
  | _ => none }
def FnExactEncodeHexWrongFalsely : Prop := fnExactEncodeHexRow.holds Try.pinned (OpenSpec.ofChange fnExactEncodeHexWrong)

/-- 'laws.FnExactChoose': WHATEVER THE INPUT: true; the input reads as it did. -/
def fnExactChooseSpec : ChangeSpec := { name := "fnExactChoose", fn := fun _ => fun
  | [d1, d2] => { results := [.lit (.bool true)], args := [d1, d2] }
  | _ => none }
def fnExactChooseRow : OpenClaim := { program := "ytpbcaaoohcgalaa", sum := "ef3c9629d974786f28e56d42ab32da27623f8387917a131589c2d28d07d332eb", func := "loop.example/g00978/laws.FnExactChoose", spec := "fnExactChoose", apart := false }
def FnExactChooseSaid : Prop := fnExactChooseRow.holds Try.pinned (OpenSpec.ofChange fnExactChooseSpec)

/-- ITS FALSE NEIGHBOUR: 'it returns false'. Refute it at one input. -/
def fnExactChooseWrong : ChangeSpec := { name := "fnExactChoose", fn := fun _ => fun
  | [d1, d2] => { results := [.lit (.bool false)], args := [d1, d2] }
  | _ => none }
def FnExactChooseWrongFalsely : Prop := fnExactChooseRow.holds Try.pinned (OpenSpec.ofChange fnExactChooseWrong)

/-- 'laws.FnExactFormatBitmap': WHATEVER THE INPUT: true; the input reads as it did. -/
def fnExactFormatBitmapSpec : ChangeSpec := { name := "fnExactFormatBitmap", fn := fun _ => fun
  | [d1, d2] => { results := [.lit (.bool true)], args := [d1, d2] }
  | _ => none }
def fnExactFormatBitmapRow : OpenClaim := { program := "ytpbcaaoohcgalaa", sum := "ef3c9629d974786f28e56d42ab32da27623f8387917a131589c2d28d07d332eb", func := "loop.example/g00978/laws.FnExactFormatBitmap", spec := "fnExactFormatBitmap", apart := false }
def FnExactFormatBitmapSaid : Prop := fnExactFormatBitmapRow.holds Try.pinned (OpenSpec.ofChange fnExactFormatBitmapSpec)

/-- ITS FALSE NEIGHBOUR: 'it returns false'. Refute it at one input. -/
def fnExactFormatBitmapWrong : ChangeSpec := { name := "fnExactFormatBitmap", fn := fun _ => fun
  | [d1, d2] => { results := [.lit (.bool false)], args := [d1, d2] }
  | _ => none }
def FnExactFormatBitmapWrongFalsely : Prop := fnExactFormatBitmapRow.holds Try.pinned (OpenSpec.ofChange fnExactFormatBitmapWrong)

/-- 'laws.FnExactDecodeHex': WHATEVER THE INPUT: true; the input reads as it did. -/
def fnExactDecodeHexSpec : ChangeSpec := { name := "fnExactDecodeHex", fn := fun _ => fun
  | [d] => { results := [.lit (.bool true)], args := [d] }
  | _ => none }
def fnExactDecodeHexRow : OpenClaim := { program := "ytpbcaaoohcgalaa", sum := "ef3c9629d974786f28e56d42ab32da27623f8387917a131589c2d28d07d332eb", func := "loop.example/g00978/laws.FnExactDecodeHex", spec := "fnExactDecodeHex", apart := false }
def FnExactDecodeHexSaid : Prop := fnExactDecodeHexRow.holds Try.pinned (OpenSpec.ofChange fnExactDecodeHexSpec)

/-- ITS FALSE NEIGHBOUR: 'it returns false'. Refute it at one input. -/
def fnExactDecodeHexWrong : ChangeSpec := { name := "fnExactDecodeHex", fn := fun _ => fun
  | [d] => { results := [.lit (.bool false)], args := [d] }
  | _ => none }
def FnExactDecodeHexWrongFalsely : Prop := fnExactDecodeHexRow.holds Try.pinned (OpenSpec.ofChange fnExactDecodeHexWrong)

/-- 'laws.FnExactWaste': WHATEVER THE INPUT: true; the input reads as it did. -/
def fnExactWasteSpec : ChangeSpec := { name := "fnExactWaste", fn := fun _ => fun
  | [d] => { results := [.lit (.bool true)], args := [d] }
  | _ => none }
def fnExactWasteRow : OpenClaim := { program := "ytpbcaaoohcgalaa", sum := "ef3c9629d974786f28e56d42ab32da27623f8387917a131589c2d28d07d332eb", func := "loop.example/g00978/laws.FnExactWaste", spec := "fnExactWaste", apart := false }
def FnExactWasteSaid : Prop := fnExactWasteRow.holds Try.pinned (OpenSpec.ofChange fnExactWasteSpec)

/-- ITS FALSE NEIGHBOUR: 'it returns false'. Refute it at one input. -/
def fnExactWasteWrong : ChangeSpec := { name := "fnExactWaste", fn := fun _ => fun
  | [d] => { results := [.lit (.bool false)], args := [d] }
  | _ => none }
def FnExactWasteWrongFalsely : Prop := fnExactWasteRow.holds Try.pinned (OpenSpec.ofChange fnExactWasteWrong)

/-- 'laws.FnExactParseUint': WHATEVER THE INPUT: true; the input reads as it did. -/
def fnExactParseUintSpec : ChangeSpec := { name := "fnExactParseUint", fn := fun _ => fun
  | [d] => { results := [.lit (.bool true)], args := [d] }
  | _ => none }
def fnExactParseUintRow : OpenClaim := { program := "ytpbcaaoohcgalaa", sum := "ef3c9629d974786f28e56d42ab32da27623f8387917a131589c2d28d07d332eb", func := "loop.example/g00978/laws.FnExactParseUint", spec := "fnExactParseUint", apart := false }
def FnExactParseUintSaid : Prop := fnExactParseUintRow.holds Try.pinned (OpenSpec.ofChange fnExactParseUintSpec)

/-- ITS FALSE NEIGHBOUR: 'it returns false'. Refute it at one input. -/
def fnExactParseUintWrong : ChangeSpec := { name := "fnExactParseUint", fn := fun _ => fun
  | [d] => { results := [.lit (.bool false)], args := [d] }
  | _ => none }
def FnExactParseUintWrongFalsely : Prop := fnExactParseUintRow.holds Try.pinned (OpenSpec.ofChange fnExactParseUintWrong)

/-- 'laws.FnChoices': WHATEVER THE INPUT: true; the input reads as it did. -/
def fnChoicesSpec : ChangeSpec := { name := "fnChoices", fn := fun _ => fun
  | [d] => { results := [.lit (.bool true)], args := [d] }
  | _ => none }
def fnChoicesRow : OpenClaim := { program := "ytpbcaaoohcgalaa", sum := "ef3c9629d974786f28e56d42ab32da27623f8387917a131589c2d28d07d332eb", func := "loop.example/g00978/laws.FnChoices", spec := "fnChoices", apart := false }
def FnChoicesSaid : Prop := fnChoicesRow.holds Try.pinned (OpenSpec.ofChange fnChoicesSpec)

/-- ITS FALSE NEIGHBOUR: 'it returns false'. Refute it at one input. -/
def fnChoicesWrong : ChangeSpec := { name := "fnChoices", fn := fun _ => fun
  | [d] => { results := [.lit (.bool false)], args := [d] }
  | _ => none }
def FnChoicesWrongFalsely : Prop := fnChoicesRow.holds Try.pinned (OpenSpec.ofChange fnChoicesWrong)

/-- 'laws.FnClamped': WHATEVER THE INPUT: true; the input reads as it did. -/
def fnClampedSpec : ChangeSpec := { name := "fnClamped", fn := fun _ => fun
  | [d] => { results := [.lit (.bool true)], args := [d] }
  | _ => none }
def fnClampedRow : OpenClaim := { program := "ytpbcaaoohcgalaa", sum := "ef3c9629d974786f28e56d42ab32da27623f8387917a131589c2d28d07d332eb", func := "loop.example/g00978/laws.FnClamped", spec := "fnClamped", apart := false }
def FnClampedSaid : Prop := fnClampedRow.holds Try.pinned (OpenSpec.ofChange fnClampedSpec)

/-- ITS FALSE NEIGHBOUR: 'it returns false'. Refute it at one input. -/
def fnClampedWrong : ChangeSpec := { name := "fnClamped", fn := fun _ => fun
  | [d] => { results := [.lit (.bool false)], args := [d] }
  | _ => none }
def FnClampedWrongFalsely : Prop := fnClampedRow.holds Try.pinned (OpenSpec.ofChange fnClampedWrong)

/-- 'laws.FnExactFreeSlots': WHATEVER THE INPUT: true; the input reads as it did. -/
def fnExactFreeSlotsSpec : ChangeSpec := { name := "fnExactFreeSlots", fn := fun _ => fun
  | [d1, d2] => { results := [.lit (.bool true)], args := [d1, d2] }
  | _ => none }
def fnExactFreeSlotsRow : OpenClaim := { program := "ytpbcaaoohcgalaa", sum := "ef3c9629d974786f28e56d42ab32da27623f8387917a131589c2d28d07d332eb", func := "loop.example/g00978/laws.FnExactFreeSlots", spec := "fnExactFreeSlots", apart := false }
def FnExactFreeSlotsSaid : Prop := fnExactFreeSlotsRow.holds Try.pinned (OpenSpec.ofChange fnExactFreeSlotsSpec)

/-- ITS FALSE NEIGHBOUR: 'it returns false'. Refute it at one input. -/
def fnExactFreeSlotsWrong : ChangeSpec := { name := "fnExactFreeSlots", fn := fun _ => fun
  | [d1, d2] => { results := [.lit (.bool false)], args := [d1, d2] }
  | _ => none }
def FnExactFreeSlotsWrongFalsely : Prop := fnExactFreeSlotsRow.holds Try.pinned (OpenSpec.ofChange fnExactFreeSlotsWrong)

/-- 'laws.FnPages': WHATEVER THE INPUT: true; the input reads as it did. -/
def fnPagesSpec : ChangeSpec := { name := "fnPages", fn := fun _ => fun
  | [d] => { results := [.lit (.bool true)], args := [d] }
  | _ => none }
def fnPagesRow : OpenClaim := { program := "ytpbcaaoohcgalaa", sum := "ef3c9629d974786f28e56d42ab32da27623f8387917a131589c2d28d07d332eb", func := "loop.example/g00978/laws.FnPages", spec := "fnPages", apart := false }
def FnPagesSaid : Prop := fnPagesRow.holds Try.pinned (OpenSpec.ofChange fnPagesSpec)

/-- ITS FALSE NEIGHBOUR: 'it returns false'. Refute it at one input. -/
def fnPagesWrong : ChangeSpec := { name := "fnPages", fn := fun _ => fun
  | [d] => { results := [.lit (.bool false)], args := [d] }
  | _ => none }
def FnPagesWrongFalsely : Prop := fnPagesRow.holds Try.pinned (OpenSpec.ofChange fnPagesWrong)

/-- 'laws.FnWaste': WHATEVER THE INPUT: true; the input reads as it did. -/
def fnWasteSpec : ChangeSpec := { name := "fnWaste", fn := fun _ => fun
  | [d] => { results := [.lit (.bool true)], args := [d] }
  | _ => none }
def fnWasteRow : OpenClaim := { program := "ytpbcaaoohcgalaa", sum := "ef3c9629d974786f28e56d42ab32da27623f8387917a131589c2d28d07d332eb", func := "loop.example/g00978/laws.FnWaste", spec := "fnWaste", apart := false }
def FnWasteSaid : Prop := fnWasteRow.holds Try.pinned (OpenSpec.ofChange fnWasteSpec)

/-- ITS FALSE NEIGHBOUR: 'it returns false'. Refute it at one input. -/
def fnWasteWrong : ChangeSpec := { name := "fnWaste", fn := fun _ => fun
  | [d] => { results := [.lit (.bool false)], args := [d] }
  | _ => none }
def FnWasteWrongFalsely : Prop := fnWasteRow.holds Try.pinned (OpenSpec.ofChange fnWasteWrong)

/-- 'laws.FnShuffled': WHATEVER THE INPUT: true; the input reads as it did. -/
def fnShuffledSpec : ChangeSpec := { name := "fnShuffled", fn := fun _ => fun
  | [d] => { results := [.lit (.bool true)], args := [d] }
  | _ => none }
def fnShuffledRow : OpenClaim := { program := "ytpbcaaoohcgalaa", sum := "ef3c9629d974786f28e56d42ab32da27623f8387917a131589c2d28d07d332eb", func := "loop.example/g00978/laws.FnShuffled", spec := "fnShuffled", apart := false }
def FnShuffledSaid : Prop := fnShuffledRow.holds Try.pinned (OpenSpec.ofChange fnShuffledSpec)

/-- ITS FALSE NEIGHBOUR: 'it returns false'. Refute it at one input. -/
def fnShuffledWrong : ChangeSpec := { name := "fnShuffled", fn := fun _ => fun
  | [d] => { results := [.lit (.bool false)], args := [d] }
  | _ => none }
def FnShuffledWrongFalsely : Prop := fnShuffledRow.holds Try.pinned (OpenSpec.ofChange fnShuffledWrong)

/- THE SECOND FORM. 'bulk': how many values and letters a reading holds, each counted each time it is reached (what is shared counts as often as it is met; a slice's spare places count too). A statement '..UptoSaid' is the law's where the arguments, and the package variables that the reading takes, are together of bulk at most 1048576: NARROWER than '..Said'. Prove '..Said' where nothing that the law and all that it calls make is longer than what came in: it says more and counts as full. Else prove '..UptoSaid'. A law counts once. -/
mutual
def uptoBulk {H : Type} : DataW H → Nat
  | .lit (.string bytes) => bytes.length + 1
  | .lit _ => 1
  | .nil => 1
  | .ptr d => uptoBulk d + 1
  | .slice elems spare => uptoBulkAll elems + uptoBulkAll spare + 1
  | .agg parts => uptoBulkAll parts + 1
  | .iface _ d => uptoBulk d + 1
  | .map entries => uptoBulkEntries entries + 1
  | .held _ => 1
def uptoBulkAll {H : Type} : List (DataW H) → Nat
  | [] => 0
  | d :: r => uptoBulk d + uptoBulkAll r
def uptoBulkEntries {H : Type} : List (Lit × DataW H) → Nat
  | [] => 0
  | x :: r => uptoBulkEntry x + uptoBulkEntries r
def uptoBulkEntry {H : Type} : Lit × DataW H → Nat
  | (.string bytes, d) => bytes.length + uptoBulk d + 1
  | (_, d) => uptoBulk d + 1
 end
def uptoSmall : (H : Type) → List (DataW H) → Bool := fun _ ds => decide (uptoBulkAll ds ≤ 1048576)
def OpenSpec.upto (s : _root_.Go.ChangeSpec) : _root_.Go.OpenSpec := { _root_.Go.OpenSpec.ofChange s with cond := some uptoSmall }

/-- 'laws.FnExactEncodeHex', WHERE WHAT IT READS IS OF BULK AT MOST 1048576: true; the input reads as it did. -/
def fnExactEncodeHexUptoRow : OpenClaim := { program := "ytpbcaaoohcgalaa", sum := "ef3c9629d974786f28e56d42ab32da27623f8387917a131589c2d28d07d332eb", func := "loop.example/g00978/laws.FnExactEncodeHex", spec := "fnExactEncodeHex", apart := false, narrowed := true }
def FnExactEncodeHexUptoSaid : Prop := fnExactEncodeHexUptoRow.holds Try.pinned (OpenSpec.upto fnExactEncodeHexSpec)

/-- 'laws.FnExactChoose', WHERE WHAT IT READS IS OF BULK AT MOST 1048576: true; the input reads as it did. -/
def fnExactChooseUptoRow : OpenClaim := { program := "ytpbcaaoohcgalaa", sum := "ef3c9629d974786f28e56d42ab32da27623f8387917a131589c2d28d07d332eb", func := "loop.example/g00978/laws.FnExactChoose", spec := "fnExactChoose", apart := false, narrowed := true }
def FnExactChooseUptoSaid : Prop := fnExactChooseUptoRow.holds Try.pinned (OpenSpec.upto fnExactChooseSpec)

/-- 'laws.FnExactFormatBitmap', WHERE WHAT IT READS IS OF BULK AT MOST 1048576: true; the input reads as it did. -/
def fnExactFormatBitmapUptoRow : OpenClaim := { program := "ytpbcaaoohcgalaa", sum := "ef3c9629d974786f28e56d42ab32da27623f8387917a131589c2d28d07d332eb", func := "loop.example/g00978/laws.FnExactFormatBitmap", spec := "fnExactFormatBitmap", apart := false, narrowed := true }
def FnExactFormatBitmapUptoSaid : Prop := fnExactFormatBitmapUptoRow.holds Try.pinned (OpenSpec.upto fnExactFormatBitmapSpec)

/-- 'laws.FnExactDecodeHex', WHERE WHAT IT READS IS OF BULK AT MOST 1048576: true; the input reads as it did. -/
def fnExactDecodeHexUptoRow : OpenClaim := { program := "ytpbcaaoohcgalaa", sum := "ef3c9629d974786f28e56d42ab32da27623f8387917a131589c2d28d07d332eb", func := "loop.example/g00978/laws.FnExactDecodeHex", spec := "fnExactDecodeHex", apart := false, narrowed := true }
def FnExactDecodeHexUptoSaid : Prop := fnExactDecodeHexUptoRow.holds Try.pinned (OpenSpec.upto fnExactDecodeHexSpec)

/-- 'laws.FnExactWaste', WHERE WHAT IT READS IS OF BULK AT MOST 1048576: true; the input reads as it did. -/
def fnExactWasteUptoRow : OpenClaim := { program := "ytpbcaaoohcgalaa", sum := "ef3c9629d974786f28e56d42ab32da27623f8387917a131589c2d28d07d332eb", func := "loop.example/g00978/laws.FnExactWaste", spec := "fnExactWaste", apart := false, narrowed := true }
def FnExactWasteUptoSaid : Prop := fnExactWasteUptoRow.holds Try.pinned (OpenSpec.upto fnExactWasteSpec)

/-- 'laws.FnExactParseUint', WHERE WHAT IT READS IS OF BULK AT MOST 1048576: true; the input reads as it did. -/
def fnExactParseUintUptoRow : OpenClaim := { program := "ytpbcaaoohcgalaa", sum := "ef3c9629d974786f28e56d42ab32da27623f8387917a131589c2d28d07d332eb", func := "loop.example/g00978/laws.FnExactParseUint", spec := "fnExactParseUint", apart := false, narrowed := true }
def FnExactParseUintUptoSaid : Prop := fnExactParseUintUptoRow.holds Try.pinned (OpenSpec.upto fnExactParseUintSpec)

/-- 'laws.FnChoices', WHERE WHAT IT READS IS OF BULK AT MOST 1048576: true; the input reads as it did. -/
def fnChoicesUptoRow : OpenClaim := { program := "ytpbcaaoohcgalaa", sum := "ef3c9629d974786f28e56d42ab32da27623f8387917a131589c2d28d07d332eb", func := "loop.example/g00978/laws.FnChoices", spec := "fnChoices", apart := false, narrowed := true }
def FnChoicesUptoSaid : Prop := fnChoicesUptoRow.holds Try.pinned (OpenSpec.upto fnChoicesSpec)

/-- 'laws.FnClamped', WHERE WHAT IT READS IS OF BULK AT MOST 1048576: true; the input reads as it did. -/
def fnClampedUptoRow : OpenClaim := { program := "ytpbcaaoohcgalaa", sum := "ef3c9629d974786f28e56d42ab32da27623f8387917a131589c2d28d07d332eb", func := "loop.example/g00978/laws.FnClamped", spec := "fnClamped", apart := false, narrowed := true }
def FnClampedUptoSaid : Prop := fnClampedUptoRow.holds Try.pinned (OpenSpec.upto fnClampedSpec)

/-- 'laws.FnExactFreeSlots', WHERE WHAT IT READS IS OF BULK AT MOST 1048576: true; the input reads as it did. -/
def fnExactFreeSlotsUptoRow : OpenClaim := { program := "ytpbcaaoohcgalaa", sum := "ef3c9629d974786f28e56d42ab32da27623f8387917a131589c2d28d07d332eb", func := "loop.example/g00978/laws.FnExactFreeSlots", spec := "fnExactFreeSlots", apart := false, narrowed := true }
def FnExactFreeSlotsUptoSaid : Prop := fnExactFreeSlotsUptoRow.holds Try.pinned (OpenSpec.upto fnExactFreeSlotsSpec)

/-- 'laws.FnPages', WHERE WHAT IT READS IS OF BULK AT MOST 1048576: true; the input reads as it did. -/
def fnPagesUptoRow : OpenClaim := { program := "ytpbcaaoohcgalaa", sum := "ef3c9629d974786f28e56d42ab32da27623f8387917a131589c2d28d07d332eb", func := "loop.example/g00978/laws.FnPages", spec := "fnPages", apart := false, narrowed := true }
def FnPagesUptoSaid : Prop := fnPagesUptoRow.holds Try.pinned (OpenSpec.upto fnPagesSpec)

/-- 'laws.FnWaste', WHERE WHAT IT READS IS OF BULK AT MOST 1048576: true; the input reads as it did. -/
def fnWasteUptoRow : OpenClaim := { program := "ytpbcaaoohcgalaa", sum := "ef3c9629d974786f28e56d42ab32da27623f8387917a131589c2d28d07d332eb", func := "loop.example/g00978/laws.FnWaste", spec := "fnWaste", apart := false, narrowed := true }
def FnWasteUptoSaid : Prop := fnWasteUptoRow.holds Try.pinned (OpenSpec.upto fnWasteSpec)

/-- 'laws.FnShuffled', WHERE WHAT IT READS IS OF BULK AT MOST 1048576: true; the input reads as it did. -/
def fnShuffledUptoRow : OpenClaim := { program := "ytpbcaaoohcgalaa", sum := "ef3c9629d974786f28e56d42ab32da27623f8387917a131589c2d28d07d332eb", func := "loop.example/g00978/laws.FnShuffled", spec := "fnShuffled", apart := false, narrowed := true }
def FnShuffledUptoSaid : Prop := fnShuffledUptoRow.holds Try.pinned (OpenSpec.upto fnShuffledSpec)

end Rows
end Go.Proofs.Ytpbcaaoohcgalaa
