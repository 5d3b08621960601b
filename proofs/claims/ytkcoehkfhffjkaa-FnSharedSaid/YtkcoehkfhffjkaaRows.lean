/-
  No cell of these rows narrows 'for every input' (looked for: loops, veiled, ifaces, maps, wideKeys, modest, calm, conditions, laid).
  DERIVED. THE GIVEN ROWS OF THIS SEAT. 8 by the template 'for every input the law returns true; each argument reads behind the call as it read before'; 0 by the template 'total and deterministic' (their statements: YtkcoehkfhffjkaaTotals.lean).
  GIVEN WITH THE SEED: the statements are not yours to turn. If you find one false, say at which input.
  Laid BY PROGRAM, IN A SANDBOX (cutbox-rows.mjs): the forced cells as the released guide's own fill.sh prints them over the translation 496c2b2a744c0418… (all of the seat's roots in one cut). By AI agents, Wed Nov 11 2026. No macro, syntax, notation, axiom, sorry.
-/
import Derived.Test.YtkcoehkfhffjkaaChecked
import GoSem.Claim
import GoSem.ClaimJoined
import GoSem.ClaimMapViews
import Derived.JoinedTies
import Derived.KernelRfl
namespace Go.Proofs.Ytkcoehkfhffjkaa
/- THE CELL 'sum', in the pinned program and in every row, IS THE sha256 OF THE DUMP (.gsa) THAT YtkcoehkfhffjkaaProg.lean LOADS. Nothing in Lean hashes anything: it is a label: what it is worth is what the hold of that sum in a sandbox is worth. -/
noncomputable def Try.pinned : Pinned := { name := "ytkcoehkfhffjkaa", sum := "496c2b2a744c041828992c8f708bc18c12b9adfd9ce63670ac6398c16eea9986", checked := Try.checked }
namespace Rows
def none {H : Type} : Left H := { results := [], args := [] }

/-- 'laws.FnExactPageText': WHATEVER THE INPUT: true; the input reads as it did. -/
def fnExactPageTextSpec : ChangeSpec := { name := "fnExactPageText", fn := fun _ => fun
  | [d1, d2] => { results := [.lit (.bool true)], args := [d1, d2] }
  | _ => none }
def fnExactPageTextRow : OpenClaim := { program := "ytkcoehkfhffjkaa", sum := "496c2b2a744c041828992c8f708bc18c12b9adfd9ce63670ac6398c16eea9986", func := "loop.example/g00978/laws.FnExactPageText", spec := "fnExactPageText", apart := false }
def FnExactPageTextSaid : Prop := fnExactPageTextRow.holds Try.pinned (OpenSpec.ofChange fnExactPageTextSpec)

/-- ITS FALSE NEIGHBOUR: 'it returns false'. Refute it at one input. -/
def fnExactPageTextWrong : ChangeSpec := { name := "fnExactPageText", fn := fun _ => fun
  | [d1, d2] => { results := [.lit (.bool false)], args := [d1, d2] }
  | _ => none }
def FnExactPageTextWrongFalsely : Prop := fnExactPageTextRow.holds Try.pinned (OpenSpec.ofChange fnExactPageTextWrong)

/-- 'laws.FnExactKernelNew': WHATEVER THE INPUT: true; the input reads as it did. -/
def fnExactKernelNewSpec : ChangeSpec := { name := "fnExactKernelNew", fn := fun _ => fun
  | [d1, d2, d3] => { results := [.lit (.bool true)], args := [d1, d2, d3] }
  | _ => none }
def fnExactKernelNewRow : OpenClaim := { program := "ytkcoehkfhffjkaa", sum := "496c2b2a744c041828992c8f708bc18c12b9adfd9ce63670ac6398c16eea9986", func := "loop.example/g00978/laws.FnExactKernelNew", spec := "fnExactKernelNew", apart := false }
def FnExactKernelNewSaid : Prop := fnExactKernelNewRow.holds Try.pinned (OpenSpec.ofChange fnExactKernelNewSpec)

/-- ITS FALSE NEIGHBOUR: 'it returns false'. Refute it at one input. -/
def fnExactKernelNewWrong : ChangeSpec := { name := "fnExactKernelNew", fn := fun _ => fun
  | [d1, d2, d3] => { results := [.lit (.bool false)], args := [d1, d2, d3] }
  | _ => none }
def FnExactKernelNewWrongFalsely : Prop := fnExactKernelNewRow.holds Try.pinned (OpenSpec.ofChange fnExactKernelNewWrong)

/-- 'laws.FnExactStore': WHATEVER THE INPUT: true; the input reads as it did. -/
def fnExactStoreSpec : ChangeSpec := { name := "fnExactStore", fn := fun _ => fun
  | [d1, d2, d3] => { results := [.lit (.bool true)], args := [d1, d2, d3] }
  | _ => none }
def fnExactStoreRow : OpenClaim := { program := "ytkcoehkfhffjkaa", sum := "496c2b2a744c041828992c8f708bc18c12b9adfd9ce63670ac6398c16eea9986", func := "loop.example/g00978/laws.FnExactStore", spec := "fnExactStore", apart := false }
def FnExactStoreSaid : Prop := fnExactStoreRow.holds Try.pinned (OpenSpec.ofChange fnExactStoreSpec)

/-- ITS FALSE NEIGHBOUR: 'it returns false'. Refute it at one input. -/
def fnExactStoreWrong : ChangeSpec := { name := "fnExactStore", fn := fun _ => fun
  | [d1, d2, d3] => { results := [.lit (.bool false)], args := [d1, d2, d3] }
  | _ => none }
def FnExactStoreWrongFalsely : Prop := fnExactStoreRow.holds Try.pinned (OpenSpec.ofChange fnExactStoreWrong)

/-- 'laws.FnCallNumbers': WHATEVER THE INPUT: true; the input reads as it did. -/
def fnCallNumbersSpec : ChangeSpec := { name := "fnCallNumbers", fn := fun _ => fun
  | [d] => { results := [.lit (.bool true)], args := [d] }
  | _ => none }
def fnCallNumbersRow : OpenClaim := { program := "ytkcoehkfhffjkaa", sum := "496c2b2a744c041828992c8f708bc18c12b9adfd9ce63670ac6398c16eea9986", func := "loop.example/g00978/laws.FnCallNumbers", spec := "fnCallNumbers", apart := false }
def FnCallNumbersSaid : Prop := fnCallNumbersRow.holds Try.pinned (OpenSpec.ofChange fnCallNumbersSpec)

/-- ITS FALSE NEIGHBOUR: 'it returns false'. Refute it at one input. -/
def fnCallNumbersWrong : ChangeSpec := { name := "fnCallNumbers", fn := fun _ => fun
  | [d] => { results := [.lit (.bool false)], args := [d] }
  | _ => none }
def FnCallNumbersWrongFalsely : Prop := fnCallNumbersRow.holds Try.pinned (OpenSpec.ofChange fnCallNumbersWrong)

/-- 'laws.FnStores': WHATEVER THE INPUT: true; the input reads as it did. -/
def fnStoresSpec : ChangeSpec := { name := "fnStores", fn := fun _ => fun
  | [d] => { results := [.lit (.bool true)], args := [d] }
  | _ => none }
def fnStoresRow : OpenClaim := { program := "ytkcoehkfhffjkaa", sum := "496c2b2a744c041828992c8f708bc18c12b9adfd9ce63670ac6398c16eea9986", func := "loop.example/g00978/laws.FnStores", spec := "fnStores", apart := false }
def FnStoresSaid : Prop := fnStoresRow.holds Try.pinned (OpenSpec.ofChange fnStoresSpec)

/-- ITS FALSE NEIGHBOUR: 'it returns false'. Refute it at one input. -/
def fnStoresWrong : ChangeSpec := { name := "fnStores", fn := fun _ => fun
  | [d] => { results := [.lit (.bool false)], args := [d] }
  | _ => none }
def FnStoresWrongFalsely : Prop := fnStoresRow.holds Try.pinned (OpenSpec.ofChange fnStoresWrong)

/-- 'laws.FnKernel': WHATEVER THE INPUT: true; the input reads as it did. -/
def fnKernelSpec : ChangeSpec := { name := "fnKernel", fn := fun _ => fun
  | [d] => { results := [.lit (.bool true)], args := [d] }
  | _ => none }
def fnKernelRow : OpenClaim := { program := "ytkcoehkfhffjkaa", sum := "496c2b2a744c041828992c8f708bc18c12b9adfd9ce63670ac6398c16eea9986", func := "loop.example/g00978/laws.FnKernel", spec := "fnKernel", apart := false }
def FnKernelSaid : Prop := fnKernelRow.holds Try.pinned (OpenSpec.ofChange fnKernelSpec)

/-- ITS FALSE NEIGHBOUR: 'it returns false'. Refute it at one input. -/
def fnKernelWrong : ChangeSpec := { name := "fnKernel", fn := fun _ => fun
  | [d] => { results := [.lit (.bool false)], args := [d] }
  | _ => none }
def FnKernelWrongFalsely : Prop := fnKernelRow.holds Try.pinned (OpenSpec.ofChange fnKernelWrong)

/-- 'laws.FnShared': WHATEVER THE INPUT: true; the input reads as it did. -/
def fnSharedSpec : ChangeSpec := { name := "fnShared", fn := fun _ => fun
  | [d] => { results := [.lit (.bool true)], args := [d] }
  | _ => none }
def fnSharedRow : OpenClaim := { program := "ytkcoehkfhffjkaa", sum := "496c2b2a744c041828992c8f708bc18c12b9adfd9ce63670ac6398c16eea9986", func := "loop.example/g00978/laws.FnShared", spec := "fnShared", apart := false }
def FnSharedSaid : Prop := fnSharedRow.holds Try.pinned (OpenSpec.ofChange fnSharedSpec)

/-- ITS FALSE NEIGHBOUR: 'it returns false'. Refute it at one input. -/
def fnSharedWrong : ChangeSpec := { name := "fnShared", fn := fun _ => fun
  | [d] => { results := [.lit (.bool false)], args := [d] }
  | _ => none }
def FnSharedWrongFalsely : Prop := fnSharedRow.holds Try.pinned (OpenSpec.ofChange fnSharedWrong)

/-- 'laws.FnExactKernelOk': WHATEVER THE INPUT: true; the input reads as it did. -/
def fnExactKernelOkSpec : ChangeSpec := { name := "fnExactKernelOk", fn := fun _ => fun
  | [d] => { results := [.lit (.bool true)], args := [d] }
  | _ => none }
def fnExactKernelOkRow : OpenClaim := { program := "ytkcoehkfhffjkaa", sum := "496c2b2a744c041828992c8f708bc18c12b9adfd9ce63670ac6398c16eea9986", func := "loop.example/g00978/laws.FnExactKernelOk", spec := "fnExactKernelOk", apart := false }
def FnExactKernelOkSaid : Prop := fnExactKernelOkRow.holds Try.pinned (OpenSpec.ofChange fnExactKernelOkSpec)

/-- ITS FALSE NEIGHBOUR: 'it returns false'. Refute it at one input. -/
def fnExactKernelOkWrong : ChangeSpec := { name := "fnExactKernelOk", fn := fun _ => fun
  | [d] => { results := [.lit (.bool false)], args := [d] }
  | _ => none }
def FnExactKernelOkWrongFalsely : Prop := fnExactKernelOkRow.holds Try.pinned (OpenSpec.ofChange fnExactKernelOkWrong)

/- THE SECOND FORM. 'bulk': how many values and letters a reading holds, each counted each time it is reached (what is shared counts as often as it is met; a slice's spare places count too). A statement '..UptoSaid' is the law's where the arguments, and the package variables that the reading takes, are together of bulk at most 1048576: NARROWER than '..Said'. Prove '..Said' where nothing that the law and all that it calls make is longer than what came in: it says more and counts as full. Else prove '..UptoSaid'. A law counts once. -/
mutual
def uptoBulk {H : Type} : DataW H → Nat
  | .lit (.string bytes) => bytes.length + 1
  | .lit _ => 1
  | .nil => 1
  | .ptr d => uptoBulk d + 1
  | .slice elems spare => uptoBulkAll elems + uptoBulkAll spare + 1
  | .agg parts => uptoBulkAll parts + 1
  | .iface _ d => uptoBulk d + 1
  | .map entries => uptoBulkEntries entries + 1
  | .held _ => 1
def uptoBulkAll {H : Type} : List (DataW H) → Nat
  | [] => 0
  | d :: r => uptoBulk d + uptoBulkAll r
def uptoBulkEntries {H : Type} : List (Lit × DataW H) → Nat
  | [] => 0
  | x :: r => uptoBulkEntry x + uptoBulkEntries r
def uptoBulkEntry {H : Type} : Lit × DataW H → Nat
  | (.string bytes, d) => bytes.length + uptoBulk d + 1
  | (_, d) => uptoBulk d + 1
 end
def uptoSmall : (H : Type) → List (DataW H) → Bool := fun _ ds => decide (uptoBulkAll ds ≤ 1048576)
def OpenSpec.upto (s : _root_.Go.ChangeSpec) : _root_.Go.OpenSpec := { _root_.Go.OpenSpec.ofChange s with cond := some uptoSmall }

/-- 'laws.FnExactPageText', WHERE WHAT IT READS IS OF BULK AT MOST 1048576: true; the input reads as it did. -/
def fnExactPageTextUptoRow : OpenClaim := { program := "ytkcoehkfhffjkaa", sum := "496c2b2a744c041828992c8f708bc18c12b9adfd9ce63670ac6398c16eea9986", func := "loop.example/g00978/laws.FnExactPageText", spec := "fnExactPageText", apart := false, narrowed := true }
def FnExactPageTextUptoSaid : Prop := fnExactPageTextUptoRow.holds Try.pinned (OpenSpec.upto fnExactPageTextSpec)

/-- 'laws.FnExactKernelNew', WHERE WHAT IT READS IS OF BULK AT MOST 1048576: true; the input reads as it did. -/
def fnExactKernelNewUptoRow : OpenClaim := { program := "ytkcoehkfhffjkaa", sum := "496c2b2a744c041828992c8f708bc18c12b9adfd9ce63670ac6398c16eea9986", func := "loop.example/g00978/laws.FnExactKernelNew", spec := "fnExactKernelNew", apart := false, narrowed := true }
def FnExactKernelNewUptoSaid : Prop := fnExactKernelNewUptoRow.holds Try.pinned (OpenSpec.upto fnExactKernelNewSpec)

/-- 'laws.FnExactStore', WHERE WHAT IT READS IS OF BULK AT MOST 1048576: true; the input reads as it did. -/
def fnExactStoreUptoRow : OpenClaim := { program := "ytkcoehkfhffjkaa", sum := "496c2b2a744c041828992c8f708bc18c12b9adfd9ce63670ac6398c16eea9986", func := "loop.example/g00978/laws.FnExactStore", spec := "fnExactStore", apart := false, narrowed := true }
def FnExactStoreUptoSaid : Prop := fnExactStoreUptoRow.holds Try.pinned (OpenSpec.upto fnExactStoreSpec)

/-- 'laws.FnCallNumbers', WHERE WHAT IT READS IS OF BULK AT MOST 1048576: true; the input reads as it did. -/
def fnCallNumbersUptoRow : OpenClaim := { program := "ytkcoehkfhffjkaa", sum := "496c2b2a744c041828992c8f708bc18c12b9adfd9ce63670ac6398c16eea9986", func := "loop.example/g00978/laws.FnCallNumbers", spec := "fnCallNumbers", apart := false, narrowed := true }
def FnCallNumbersUptoSaid : Prop := fnCallNumbersUptoRow.holds Try.pinned (OpenSpec.upto fnCallNumbersSpec)

/-- 'laws.FnStores', WHERE WHAT IT READS IS OF BULK AT MOST 1048576: true; the input reads as it did. -/
def fnStoresUptoRow : OpenClaim := { program := "ytkcoehkfhffjkaa", sum := "496c2b2a744c041828992c8f708bc18c12b9adfd9ce63670ac6398c16eea9986", func := "loop.example/g00978/laws.FnStores", spec := "fnStores", apart := false, narrowed := true }
def FnStoresUptoSaid : Prop := fnStoresUptoRow.holds Try.pinned (OpenSpec.upto fnStoresSpec)

/-- 'laws.FnKernel', WHERE WHAT IT READS IS OF BULK AT MOST 1048576: true; the input reads as it did. -/
def fnKernelUptoRow : OpenClaim := { program := "ytkcoehkfhffjkaa", sum := "496c2b2a744c041828992c8f708bc18c12b9adfd9ce63670ac6398c16eea9986", func := "loop.example/g00978/laws.FnKernel", spec := "fnKernel", apart := false, narrowed := true }
def FnKernelUptoSaid : Prop := fnKernelUptoRow.holds Try.pinned (OpenSpec.upto fnKernelSpec)

/-- 'laws.FnShared', WHERE WHAT IT READS IS OF BULK AT MOST 1048576: true; the input reads as it did. -/
def fnSharedUptoRow : OpenClaim := { program := "ytkcoehkfhffjkaa", sum := "496c2b2a744c041828992c8f708bc18c12b9adfd9ce63670ac6398c16eea9986", func := "loop.example/g00978/laws.FnShared", spec := "fnShared", apart := false, narrowed := true }
def FnSharedUptoSaid : Prop := fnSharedUptoRow.holds Try.pinned (OpenSpec.upto fnSharedSpec)

/-- 'laws.FnExactKernelOk', WHERE WHAT IT READS IS OF BULK AT MOST 1048576: true; the input reads as it did. -/
def fnExactKernelOkUptoRow : OpenClaim := { program := "ytkcoehkfhffjkaa", sum := "496c2b2a744c041828992c8f708bc18c12b9adfd9ce63670ac6398c16eea9986", func := "loop.example/g00978/laws.FnExactKernelOk", spec := "fnExactKernelOk", apart := false, narrowed := true }
def FnExactKernelOkUptoSaid : Prop := fnExactKernelOkUptoRow.holds Try.pinned (OpenSpec.upto fnExactKernelOkSpec)

end Rows
end Go.Proofs.Ytkcoehkfhffjkaa
