/- strconv.Itoa and the program's FormatInt, in a world whose table of powers is laid. (For the seat of the cards alone.) -/
import Derived.Test.YtpbcaaoohcgalabDoorNums
import Derived.Test.YtpbcaaoohcgalabDoorRows
import Derived.Test.YtpbcaaoohcgalabDoorDraw2
import Derived.Shelf.Strconv.Itoa3
import Derived.Shelf.Lay
import Derived.Ground.NamesProg
import Derived.Lib.AppendIntMem
import Derived.Lib.LaidTab
import Derived.LaidSub
import Derived.LaidMore
namespace Go.Proofs.YtpbcaaoohcgalabDoor
open Go.ChangeShapes Go.WideShapes Go.ChangeAt Go.RowKit Go.Shelf
open Go.Lib (itoa)
set_option linter.unusedSimpArgs false
set_option linter.unusedVariables false

shelf_lay LaysM.n171 Nm 171 at Tryd as Tryd.laysItoa

abbrev powName : String := "internal/strconv.uint64pow10"
def Tab (w : World) : Prop := Lib.TabIs Tryd.prog w powName .u64 Lib.pow10Tab
theorem Tab.keep {w w' : World} (h : Tab w) (hk : Keep w w') : Tab w' := Lib.tabBelow_of_tabIs h w' hk.below
theorem Keep.of_grow (w : World) (n : Nat) (os : Array Obj) : Keep w (Sort.grow (w.drewN n) os) := by
  refine ⟨rfl, rfl, rfl, ?_, fun k hk _ => ?_⟩
  · show w.heap.size ≤ (w.heap ++ os).size
    simp
  · show (w.heap ++ os)[k]? = w.heap[k]?
    rw [Array.getElem?_append_left hk]
theorem tab_gT : Tryd.prog.globalNamed powName = some 0 := by kernel_rfl
abbrev laid3 : List (String × DataW Unit) := [("math/bits.deBruijn32tab", Rows.laid_math_bits_deBruijn32tab), ("math/bits.deBruijn64tab", Rows.laid_math_bits_deBruijn64tab), (powName, Rows.laid_internal_strconv_uint64pow10)]
theorem laid3_one : (laid3.filter fun x => x.1 == powName) = [(powName, Lib.tabData .u64 Lib.pow10Tab)] := by kernel_rfl
theorem tab_gType : (Tryd.prog.globals[0]?).map (·.type) = some 60 := by kernel_rfl
theorem tab_of_laid {W : World} (h : laidMetH Tryd.prog laid3 W) : Tab W := by
  have h2 := h.filter fun x => x.1 == powName
  rw [laid3_one, MakeChecks.laidMetH_plain _ _ _ (by kernel_rfl)] at h2
  exact Lib.tabIs_of_head tab_gT tab_gType Tryd.underlying60 Tryd.underlying53 (by kernel_rfl) (by kernel_rfl) h2
theorem itoa_any (n : Int) (w : World) (h1 : -9223372036854775808 ≤ n) (h2 : n ≤ 9223372036854775807) (ht : Tab w) :
    Calls Tryd.prog 20 #[.int .i64 n] w fun e w' => e = .returned (.string ⟨(itoa n).toArray⟩) ∧ Keep w w' := by
  refine (Any.strconv_Itoa Tryd.laysItoa n h1 h2 w ht).mono ?_
  rintro e w' ⟨rfl, k, os, rfl⟩
  exact ⟨rfl, Keep.of_grow _ _ _⟩
theorem formatInt_any (n : Int) (w : World) (h1 : -9223372036854775808 ≤ n) (h2 : n ≤ 9223372036854775807) (ht : Tab w) :
    Calls Tryd.prog 8 #[.int .i64 n] w fun e w' => e = .returned (.string ⟨(itoa n).toArray⟩) ∧ Keep w w' := by
  go_enter Tryd.func8, Tryd.ntmps8
  go_wp2_with fail
  refine (itoa_any n w h1 h2 ht).mono ?_
  rintro e w' ⟨rfl, k1⟩
  go_wp2_with fail
  go_ret
  exact ⟨rfl, k1⟩
theorem i64_wf {a : Int} (h : (Lit.int .i64 a).wf = true) : -9223372036854775808 ≤ a ∧ a ≤ 9223372036854775807 := by
  have hmin : IntKind.i64.min = -9223372036854775808 := rfl
  have hmax : IntKind.i64.max = 9223372036854775807 := rfl
  simp [Lit.wf] at h
  omega
end Go.Proofs.YtpbcaaoohcgalabDoor
