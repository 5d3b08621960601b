/-
  No cell of these rows narrows 'for every input' (looked for: loops, veiled, ifaces, maps, wideKeys, modest, calm, conditions, laid).
  DERIVED. THE GIVEN ROWS OF THIS SEAT. 12 by the template 'for every input the law returns true; each argument reads behind the call as it read before'; 0 by the template 'total and deterministic' (their statements: YteagoabafocgmaaTotals.lean).
  GIVEN WITH THE SEED: the statements are not yours to turn. If you find one false, say at which input.
  Laid BY PROGRAM, IN A SANDBOX (cutbox-rows.mjs): the forced cells as the released guide's own fill.sh prints them over the translation 6873527105e8628d… (all of the seat's roots in one cut). By AI agents, Wed Nov 11 2026. No macro, syntax, notation, axiom, sorry.
-/
import Derived.Test.YteagoabafocgmaaChecked
import GoSem.Claim
import GoSem.ClaimJoined
import GoSem.ClaimMapViews
import Derived.JoinedTies
import Derived.KernelRfl
namespace Go.Proofs.Yteagoabafocgmaa
/- THE CELL 'sum', in the pinned program and in every row, IS THE sha256 OF THE DUMP (.gsa) THAT YteagoabafocgmaaProg.lean LOADS. Nothing in Lean hashes anything: it is a label: what it is worth is what the hold of that sum in a sandbox is worth. -/
noncomputable def Try.pinned : Pinned := { name := "yteagoabafocgmaa", sum := "6873527105e8628d2fe3b342dbbdeb06340a93326c10f8aa9dbe883744f6e133", checked := Try.checked }
namespace Rows
def none {H : Type} : Left H := { results := [], args := [] }

/-- 'laws.FnExactConstants': WHATEVER THE INPUT: true; the input reads as it did. -/
def fnExactConstantsSpec : ChangeSpec := { name := "fnExactConstants", fn := fun _ => fun
  | [] => { results := [.lit (.bool true)], args := [] }
  | _ => none }
def fnExactConstantsRow : OpenClaim := { program := "yteagoabafocgmaa", sum := "6873527105e8628d2fe3b342dbbdeb06340a93326c10f8aa9dbe883744f6e133", func := "loop.example/g00978/laws.FnExactConstants", spec := "fnExactConstants", apart := false }
def FnExactConstantsSaid : Prop := fnExactConstantsRow.holds Try.pinned (OpenSpec.ofChange fnExactConstantsSpec)

/-- ITS FALSE NEIGHBOUR: 'it returns false'. Refute it at one input. -/
def fnExactConstantsWrong : ChangeSpec := { name := "fnExactConstants", fn := fun _ => fun
  | [] => { results := [.lit (.bool false)], args := [] }
  | _ => none }
def FnExactConstantsWrongFalsely : Prop := fnExactConstantsRow.holds Try.pinned (OpenSpec.ofChange fnExactConstantsWrong)

/-- 'laws.FnExactBitmapOk': WHATEVER THE INPUT: true; the input reads as it did. -/
def fnExactBitmapOkSpec : ChangeSpec := { name := "fnExactBitmapOk", fn := fun _ => fun
  | [d1, d2] => { results := [.lit (.bool true)], args := [d1, d2] }
  | _ => none }
def fnExactBitmapOkRow : OpenClaim := { program := "yteagoabafocgmaa", sum := "6873527105e8628d2fe3b342dbbdeb06340a93326c10f8aa9dbe883744f6e133", func := "loop.example/g00978/laws.FnExactBitmapOk", spec := "fnExactBitmapOk", apart := false }
def FnExactBitmapOkSaid : Prop := fnExactBitmapOkRow.holds Try.pinned (OpenSpec.ofChange fnExactBitmapOkSpec)

/-- ITS FALSE NEIGHBOUR: 'it returns false'. Refute it at one input. -/
def fnExactBitmapOkWrong : ChangeSpec := { name := "fnExactBitmapOk", fn := fun _ => fun
  | [d1, d2] => { results := [.lit (.bool false)], args := [d1, d2] }
  | _ => none }
def FnExactBitmapOkWrongFalsely : Prop := fnExactBitmapOkRow.holds Try.pinned (OpenSpec.ofChange fnExactBitmapOkWrong)

/-- 'laws.FnExactHasSlot': WHATEVER THE INPUT: true; the input reads as it did. -/
def fnExactHasSlotSpec : ChangeSpec := { name := "fnExactHasSlot", fn := fun _ => fun
  | [d1, d2] => { results := [.lit (.bool true)], args := [d1, d2] }
  | _ => none }
def fnExactHasSlotRow : OpenClaim := { program := "yteagoabafocgmaa", sum := "6873527105e8628d2fe3b342dbbdeb06340a93326c10f8aa9dbe883744f6e133", func := "loop.example/g00978/laws.FnExactHasSlot", spec := "fnExactHasSlot", apart := false }
def FnExactHasSlotSaid : Prop := fnExactHasSlotRow.holds Try.pinned (OpenSpec.ofChange fnExactHasSlotSpec)

/-- ITS FALSE NEIGHBOUR: 'it returns false'. Refute it at one input. -/
def fnExactHasSlotWrong : ChangeSpec := { name := "fnExactHasSlot", fn := fun _ => fun
  | [d1, d2] => { results := [.lit (.bool false)], args := [d1, d2] }
  | _ => none }
def FnExactHasSlotWrongFalsely : Prop := fnExactHasSlotRow.holds Try.pinned (OpenSpec.ofChange fnExactHasSlotWrong)

/-- 'laws.FnExactPagesFor': WHATEVER THE INPUT: true; the input reads as it did. -/
def fnExactPagesForSpec : ChangeSpec := { name := "fnExactPagesFor", fn := fun _ => fun
  | [d] => { results := [.lit (.bool true)], args := [d] }
  | _ => none }
def fnExactPagesForRow : OpenClaim := { program := "yteagoabafocgmaa", sum := "6873527105e8628d2fe3b342dbbdeb06340a93326c10f8aa9dbe883744f6e133", func := "loop.example/g00978/laws.FnExactPagesFor", spec := "fnExactPagesFor", apart := false }
def FnExactPagesForSaid : Prop := fnExactPagesForRow.holds Try.pinned (OpenSpec.ofChange fnExactPagesForSpec)

/-- ITS FALSE NEIGHBOUR: 'it returns false'. Refute it at one input. -/
def fnExactPagesForWrong : ChangeSpec := { name := "fnExactPagesFor", fn := fun _ => fun
  | [d] => { results := [.lit (.bool false)], args := [d] }
  | _ => none }
def FnExactPagesForWrongFalsely : Prop := fnExactPagesForRow.holds Try.pinned (OpenSpec.ofChange fnExactPagesForWrong)

/-- 'laws.FnExactClamp': WHATEVER THE INPUT: true; the input reads as it did. -/
def fnExactClampSpec : ChangeSpec := { name := "fnExactClamp", fn := fun _ => fun
  | [d1, d2, d3] => { results := [.lit (.bool true)], args := [d1, d2, d3] }
  | _ => none }
def fnExactClampRow : OpenClaim := { program := "yteagoabafocgmaa", sum := "6873527105e8628d2fe3b342dbbdeb06340a93326c10f8aa9dbe883744f6e133", func := "loop.example/g00978/laws.FnExactClamp", spec := "fnExactClamp", apart := false }
def FnExactClampSaid : Prop := fnExactClampRow.holds Try.pinned (OpenSpec.ofChange fnExactClampSpec)

/-- ITS FALSE NEIGHBOUR: 'it returns false'. Refute it at one input. -/
def fnExactClampWrong : ChangeSpec := { name := "fnExactClamp", fn := fun _ => fun
  | [d1, d2, d3] => { results := [.lit (.bool false)], args := [d1, d2, d3] }
  | _ => none }
def FnExactClampWrongFalsely : Prop := fnExactClampRow.holds Try.pinned (OpenSpec.ofChange fnExactClampWrong)

/-- 'laws.FnExactClassSize': WHATEVER THE INPUT: true; the input reads as it did. -/
def fnExactClassSizeSpec : ChangeSpec := { name := "fnExactClassSize", fn := fun _ => fun
  | [d] => { results := [.lit (.bool true)], args := [d] }
  | _ => none }
def fnExactClassSizeRow : OpenClaim := { program := "yteagoabafocgmaa", sum := "6873527105e8628d2fe3b342dbbdeb06340a93326c10f8aa9dbe883744f6e133", func := "loop.example/g00978/laws.FnExactClassSize", spec := "fnExactClassSize", apart := false }
def FnExactClassSizeSaid : Prop := fnExactClassSizeRow.holds Try.pinned (OpenSpec.ofChange fnExactClassSizeSpec)

/-- ITS FALSE NEIGHBOUR: 'it returns false'. Refute it at one input. -/
def fnExactClassSizeWrong : ChangeSpec := { name := "fnExactClassSize", fn := fun _ => fun
  | [d] => { results := [.lit (.bool false)], args := [d] }
  | _ => none }
def FnExactClassSizeWrongFalsely : Prop := fnExactClassSizeRow.holds Try.pinned (OpenSpec.ofChange fnExactClassSizeWrong)

/-- 'laws.FnExactNextSeed': WHATEVER THE INPUT: true; the input reads as it did. -/
def fnExactNextSeedSpec : ChangeSpec := { name := "fnExactNextSeed", fn := fun _ => fun
  | [d] => { results := [.lit (.bool true)], args := [d] }
  | _ => none }
def fnExactNextSeedRow : OpenClaim := { program := "yteagoabafocgmaa", sum := "6873527105e8628d2fe3b342dbbdeb06340a93326c10f8aa9dbe883744f6e133", func := "loop.example/g00978/laws.FnExactNextSeed", spec := "fnExactNextSeed", apart := false }
def FnExactNextSeedSaid : Prop := fnExactNextSeedRow.holds Try.pinned (OpenSpec.ofChange fnExactNextSeedSpec)

/-- ITS FALSE NEIGHBOUR: 'it returns false'. Refute it at one input. -/
def fnExactNextSeedWrong : ChangeSpec := { name := "fnExactNextSeed", fn := fun _ => fun
  | [d] => { results := [.lit (.bool false)], args := [d] }
  | _ => none }
def FnExactNextSeedWrongFalsely : Prop := fnExactNextSeedRow.holds Try.pinned (OpenSpec.ofChange fnExactNextSeedWrong)

/-- 'laws.FnExactWithSlot': WHATEVER THE INPUT: true; the input reads as it did. -/
def fnExactWithSlotSpec : ChangeSpec := { name := "fnExactWithSlot", fn := fun _ => fun
  | [d1, d2] => { results := [.lit (.bool true)], args := [d1, d2] }
  | _ => none }
def fnExactWithSlotRow : OpenClaim := { program := "yteagoabafocgmaa", sum := "6873527105e8628d2fe3b342dbbdeb06340a93326c10f8aa9dbe883744f6e133", func := "loop.example/g00978/laws.FnExactWithSlot", spec := "fnExactWithSlot", apart := false }
def FnExactWithSlotSaid : Prop := fnExactWithSlotRow.holds Try.pinned (OpenSpec.ofChange fnExactWithSlotSpec)

/-- ITS FALSE NEIGHBOUR: 'it returns false'. Refute it at one input. -/
def fnExactWithSlotWrong : ChangeSpec := { name := "fnExactWithSlot", fn := fun _ => fun
  | [d1, d2] => { results := [.lit (.bool false)], args := [d1, d2] }
  | _ => none }
def FnExactWithSlotWrongFalsely : Prop := fnExactWithSlotRow.holds Try.pinned (OpenSpec.ofChange fnExactWithSlotWrong)

/-- 'laws.FnExactWithoutSlot': WHATEVER THE INPUT: true; the input reads as it did. -/
def fnExactWithoutSlotSpec : ChangeSpec := { name := "fnExactWithoutSlot", fn := fun _ => fun
  | [d1, d2] => { results := [.lit (.bool true)], args := [d1, d2] }
  | _ => none }
def fnExactWithoutSlotRow : OpenClaim := { program := "yteagoabafocgmaa", sum := "6873527105e8628d2fe3b342dbbdeb06340a93326c10f8aa9dbe883744f6e133", func := "loop.example/g00978/laws.FnExactWithoutSlot", spec := "fnExactWithoutSlot", apart := false }
def FnExactWithoutSlotSaid : Prop := fnExactWithoutSlotRow.holds Try.pinned (OpenSpec.ofChange fnExactWithoutSlotSpec)

/-- ITS FALSE NEIGHBOUR: 'it returns false'. Refute it at one input. -/
def fnExactWithoutSlotWrong : ChangeSpec := { name := "fnExactWithoutSlot", fn := fun _ => fun
  | [d1, d2] => { results := [.lit (.bool false)], args := [d1, d2] }
  | _ => none }
def FnExactWithoutSlotWrongFalsely : Prop := fnExactWithoutSlotRow.holds Try.pinned (OpenSpec.ofChange fnExactWithoutSlotWrong)

/-- 'laws.FnExactSlotsOf': WHATEVER THE INPUT: true; the input reads as it did. -/
def fnExactSlotsOfSpec : ChangeSpec := { name := "fnExactSlotsOf", fn := fun _ => fun
  | [d] => { results := [.lit (.bool true)], args := [d] }
  | _ => none }
def fnExactSlotsOfRow : OpenClaim := { program := "yteagoabafocgmaa", sum := "6873527105e8628d2fe3b342dbbdeb06340a93326c10f8aa9dbe883744f6e133", func := "loop.example/g00978/laws.FnExactSlotsOf", spec := "fnExactSlotsOf", apart := false }
def FnExactSlotsOfSaid : Prop := fnExactSlotsOfRow.holds Try.pinned (OpenSpec.ofChange fnExactSlotsOfSpec)

/-- ITS FALSE NEIGHBOUR: 'it returns false'. Refute it at one input. -/
def fnExactSlotsOfWrong : ChangeSpec := { name := "fnExactSlotsOf", fn := fun _ => fun
  | [d] => { results := [.lit (.bool false)], args := [d] }
  | _ => none }
def FnExactSlotsOfWrongFalsely : Prop := fnExactSlotsOfRow.holds Try.pinned (OpenSpec.ofChange fnExactSlotsOfWrong)

/-- 'laws.FnExactCountSlots': WHATEVER THE INPUT: true; the input reads as it did. -/
def fnExactCountSlotsSpec : ChangeSpec := { name := "fnExactCountSlots", fn := fun _ => fun
  | [d] => { results := [.lit (.bool true)], args := [d] }
  | _ => none }
def fnExactCountSlotsRow : OpenClaim := { program := "yteagoabafocgmaa", sum := "6873527105e8628d2fe3b342dbbdeb06340a93326c10f8aa9dbe883744f6e133", func := "loop.example/g00978/laws.FnExactCountSlots", spec := "fnExactCountSlots", apart := false }
def FnExactCountSlotsSaid : Prop := fnExactCountSlotsRow.holds Try.pinned (OpenSpec.ofChange fnExactCountSlotsSpec)

/-- ITS FALSE NEIGHBOUR: 'it returns false'. Refute it at one input. -/
def fnExactCountSlotsWrong : ChangeSpec := { name := "fnExactCountSlots", fn := fun _ => fun
  | [d] => { results := [.lit (.bool false)], args := [d] }
  | _ => none }
def FnExactCountSlotsWrongFalsely : Prop := fnExactCountSlotsRow.holds Try.pinned (OpenSpec.ofChange fnExactCountSlotsWrong)

/-- 'laws.FnExactClassOf': WHATEVER THE INPUT: true; the input reads as it did. -/
def fnExactClassOfSpec : ChangeSpec := { name := "fnExactClassOf", fn := fun _ => fun
  | [d] => { results := [.lit (.bool true)], args := [d] }
  | _ => none }
def fnExactClassOfRow : OpenClaim := { program := "yteagoabafocgmaa", sum := "6873527105e8628d2fe3b342dbbdeb06340a93326c10f8aa9dbe883744f6e133", func := "loop.example/g00978/laws.FnExactClassOf", spec := "fnExactClassOf", apart := false }
def FnExactClassOfSaid : Prop := fnExactClassOfRow.holds Try.pinned (OpenSpec.ofChange fnExactClassOfSpec)

/-- ITS FALSE NEIGHBOUR: 'it returns false'. Refute it at one input. -/
def fnExactClassOfWrong : ChangeSpec := { name := "fnExactClassOf", fn := fun _ => fun
  | [d] => { results := [.lit (.bool false)], args := [d] }
  | _ => none }
def FnExactClassOfWrongFalsely : Prop := fnExactClassOfRow.holds Try.pinned (OpenSpec.ofChange fnExactClassOfWrong)

/- THE SECOND FORM. 'bulk': how many values and letters a reading holds, each counted each time it is reached (what is shared counts as often as it is met; a slice's spare places count too). A statement '..UptoSaid' is the law's where the arguments, and the package variables that the reading takes, are together of bulk at most 1048576: NARROWER than '..Said'. Prove '..Said' where nothing that the law and all that it calls make is longer than what came in: it says more and counts as full. Else prove '..UptoSaid'. A law counts once. -/
mutual
def uptoBulk {H : Type} : DataW H → Nat
  | .lit (.string bytes) => bytes.length + 1
  | .lit _ => 1
  | .nil => 1
  | .ptr d => uptoBulk d + 1
  | .slice elems spare => uptoBulkAll elems + uptoBulkAll spare + 1
  | .agg parts => uptoBulkAll parts + 1
  | .iface _ d => uptoBulk d + 1
  | .map entries => uptoBulkEntries entries + 1
  | .held _ => 1
def uptoBulkAll {H : Type} : List (DataW H) → Nat
  | [] => 0
  | d :: r => uptoBulk d + uptoBulkAll r
def uptoBulkEntries {H : Type} : List (Lit × DataW H) → Nat
  | [] => 0
  | x :: r => uptoBulkEntry x + uptoBulkEntries r
def uptoBulkEntry {H : Type} : Lit × DataW H → Nat
  | (.string bytes, d) => bytes.length + uptoBulk d + 1
  | (_, d) => uptoBulk d + 1
 end
def uptoSmall : (H : Type) → List (DataW H) → Bool := fun _ ds => decide (uptoBulkAll ds ≤ 1048576)
def OpenSpec.upto (s : _root_.Go.ChangeSpec) : _root_.Go.OpenSpec := { _root_.Go.OpenSpec.ofChange s with cond := some uptoSmall }

/-- 'laws.FnExactConstants', WHERE WHAT IT READS IS OF BULK AT MOST 1048576: true; the input reads as it did. -/
def fnExactConstantsUptoRow : OpenClaim := { program := "yteagoabafocgmaa", sum := "6873527105e8628d2fe3b342dbbdeb06340a93326c10f8aa9dbe883744f6e133", func := "loop.example/g00978/laws.FnExactConstants", spec := "fnExactConstants", apart := false, narrowed := true }
def FnExactConstantsUptoSaid : Prop := fnExactConstantsUptoRow.holds Try.pinned (OpenSpec.upto fnExactConstantsSpec)

/-- 'laws.FnExactBitmapOk', WHERE WHAT IT READS IS OF BULK AT MOST 1048576: true; the input reads as it did. -/
def fnExactBitmapOkUptoRow : OpenClaim := { program := "yteagoabafocgmaa", sum := "6873527105e8628d2fe3b342dbbdeb06340a93326c10f8aa9dbe883744f6e133", func := "loop.example/g00978/laws.FnExactBitmapOk", spec := "fnExactBitmapOk", apart := false, narrowed := true }
def FnExactBitmapOkUptoSaid : Prop := fnExactBitmapOkUptoRow.holds Try.pinned (OpenSpec.upto fnExactBitmapOkSpec)

/-- 'laws.FnExactHasSlot', WHERE WHAT IT READS IS OF BULK AT MOST 1048576: true; the input reads as it did. -/
def fnExactHasSlotUptoRow : OpenClaim := { program := "yteagoabafocgmaa", sum := "6873527105e8628d2fe3b342dbbdeb06340a93326c10f8aa9dbe883744f6e133", func := "loop.example/g00978/laws.FnExactHasSlot", spec := "fnExactHasSlot", apart := false, narrowed := true }
def FnExactHasSlotUptoSaid : Prop := fnExactHasSlotUptoRow.holds Try.pinned (OpenSpec.upto fnExactHasSlotSpec)

/-- 'laws.FnExactPagesFor', WHERE WHAT IT READS IS OF BULK AT MOST 1048576: true; the input reads as it did. -/
def fnExactPagesForUptoRow : OpenClaim := { program := "yteagoabafocgmaa", sum := "6873527105e8628d2fe3b342dbbdeb06340a93326c10f8aa9dbe883744f6e133", func := "loop.example/g00978/laws.FnExactPagesFor", spec := "fnExactPagesFor", apart := false, narrowed := true }
def FnExactPagesForUptoSaid : Prop := fnExactPagesForUptoRow.holds Try.pinned (OpenSpec.upto fnExactPagesForSpec)

/-- 'laws.FnExactClamp', WHERE WHAT IT READS IS OF BULK AT MOST 1048576: true; the input reads as it did. -/
def fnExactClampUptoRow : OpenClaim := { program := "yteagoabafocgmaa", sum := "6873527105e8628d2fe3b342dbbdeb06340a93326c10f8aa9dbe883744f6e133", func := "loop.example/g00978/laws.FnExactClamp", spec := "fnExactClamp", apart := false, narrowed := true }
def FnExactClampUptoSaid : Prop := fnExactClampUptoRow.holds Try.pinned (OpenSpec.upto fnExactClampSpec)

/-- 'laws.FnExactClassSize', WHERE WHAT IT READS IS OF BULK AT MOST 1048576: true; the input reads as it did. -/
def fnExactClassSizeUptoRow : OpenClaim := { program := "yteagoabafocgmaa", sum := "6873527105e8628d2fe3b342dbbdeb06340a93326c10f8aa9dbe883744f6e133", func := "loop.example/g00978/laws.FnExactClassSize", spec := "fnExactClassSize", apart := false, narrowed := true }
def FnExactClassSizeUptoSaid : Prop := fnExactClassSizeUptoRow.holds Try.pinned (OpenSpec.upto fnExactClassSizeSpec)

/-- 'laws.FnExactNextSeed', WHERE WHAT IT READS IS OF BULK AT MOST 1048576: true; the input reads as it did. -/
def fnExactNextSeedUptoRow : OpenClaim := { program := "yteagoabafocgmaa", sum := "6873527105e8628d2fe3b342dbbdeb06340a93326c10f8aa9dbe883744f6e133", func := "loop.example/g00978/laws.FnExactNextSeed", spec := "fnExactNextSeed", apart := false, narrowed := true }
def FnExactNextSeedUptoSaid : Prop := fnExactNextSeedUptoRow.holds Try.pinned (OpenSpec.upto fnExactNextSeedSpec)

/-- 'laws.FnExactWithSlot', WHERE WHAT IT READS IS OF BULK AT MOST 1048576: true; the input reads as it did. -/
def fnExactWithSlotUptoRow : OpenClaim := { program := "yteagoabafocgmaa", sum := "6873527105e8628d2fe3b342dbbdeb06340a93326c10f8aa9dbe883744f6e133", func := "loop.example/g00978/laws.FnExactWithSlot", spec := "fnExactWithSlot", apart := false, narrowed := true }
def FnExactWithSlotUptoSaid : Prop := fnExactWithSlotUptoRow.holds Try.pinned (OpenSpec.upto fnExactWithSlotSpec)

/-- 'laws.FnExactWithoutSlot', WHERE WHAT IT READS IS OF BULK AT MOST 1048576: true; the input reads as it did. -/
def fnExactWithoutSlotUptoRow : OpenClaim := { program := "yteagoabafocgmaa", sum := "6873527105e8628d2fe3b342dbbdeb06340a93326c10f8aa9dbe883744f6e133", func := "loop.example/g00978/laws.FnExactWithoutSlot", spec := "fnExactWithoutSlot", apart := false, narrowed := true }
def FnExactWithoutSlotUptoSaid : Prop := fnExactWithoutSlotUptoRow.holds Try.pinned (OpenSpec.upto fnExactWithoutSlotSpec)

/-- 'laws.FnExactSlotsOf', WHERE WHAT IT READS IS OF BULK AT MOST 1048576: true; the input reads as it did. -/
def fnExactSlotsOfUptoRow : OpenClaim := { program := "yteagoabafocgmaa", sum := "6873527105e8628d2fe3b342dbbdeb06340a93326c10f8aa9dbe883744f6e133", func := "loop.example/g00978/laws.FnExactSlotsOf", spec := "fnExactSlotsOf", apart := false, narrowed := true }
def FnExactSlotsOfUptoSaid : Prop := fnExactSlotsOfUptoRow.holds Try.pinned (OpenSpec.upto fnExactSlotsOfSpec)

/-- 'laws.FnExactCountSlots', WHERE WHAT IT READS IS OF BULK AT MOST 1048576: true; the input reads as it did. -/
def fnExactCountSlotsUptoRow : OpenClaim := { program := "yteagoabafocgmaa", sum := "6873527105e8628d2fe3b342dbbdeb06340a93326c10f8aa9dbe883744f6e133", func := "loop.example/g00978/laws.FnExactCountSlots", spec := "fnExactCountSlots", apart := false, narrowed := true }
def FnExactCountSlotsUptoSaid : Prop := fnExactCountSlotsUptoRow.holds Try.pinned (OpenSpec.upto fnExactCountSlotsSpec)

/-- 'laws.FnExactClassOf', WHERE WHAT IT READS IS OF BULK AT MOST 1048576: true; the input reads as it did. -/
def fnExactClassOfUptoRow : OpenClaim := { program := "yteagoabafocgmaa", sum := "6873527105e8628d2fe3b342dbbdeb06340a93326c10f8aa9dbe883744f6e133", func := "loop.example/g00978/laws.FnExactClassOf", spec := "fnExactClassOf", apart := false, narrowed := true }
def FnExactClassOfUptoSaid : Prop := fnExactClassOfUptoRow.holds Try.pinned (OpenSpec.upto fnExactClassOfSpec)

end Rows
end Go.Proofs.Yteagoabafocgmaa
