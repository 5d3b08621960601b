/- The Go law FnExactSplitFields returns true for all arguments and leaves its arguments as they were. Conditions: none. The frame follows the kit's shell; the walk is mine. -/
import Derived.Test.YtpbcaaoohcgalabRows
import Derived.WalkKit
import Derived.ProofKit
import Derived.OpenShut
import Derived.Test.YtpbcaaoohcgalabStrMarks
import Derived.Test.YtpbcaaoohcgalabSplit
import Derived.ShutString
import Derived.ChangeOld
import Derived.Below
namespace Go.Proofs.Ytpbcaaoohcgalab.fnExactSplitFields
open Go.ChangeShapes Go.WideShapes Go.ChangeAt Go.RowKit
open Go.ChangeMaps (open_string shut_string)
set_option linter.unusedVariables false
set_option linter.unusedSimpArgs false

theorem splitV_len (l : List UInt8) : (splitV l).length ≤ 24 := by
  unfold splitV
  split
  · next h =>
    unfold splitOk at h
    rw [Bool.and_eq_true, decide_eq_true_eq] at h
    simpa using h.2
  · simp
theorem walk (a0 : ByteArray) (w : World) (w0 : a0.size ≤ maxLen) :
    Calls Try.prog 3 #[.string a0] w fun e w' => e = .returned (.bool true) ∧ Below w.heap.size w w' := by
  have hm := w0
  unfold maxLen at w0
  by_cases hbig : (1048576 : Int) < a0.size
  · go_enter Try.func3, Try.ntmps3
    go_wp2_with fail
    go_ret
    exact ⟨rfl, Below.refl _ _⟩
  have hlen := splitV_len a0.data.toList
  have HP := Lib.hid (splitFields_any a0)
  have HR := Lib.hid (splitFields_spec a0)
  generalize splitOk a0.data.toList = ok at *
  generalize splitV a0.data.toList = zs at *
  go_enter Try.func3, Try.ntmps3
  go_wp2_with fail
  refine (HR.out _ hm).mono ?_
  rintro e w1 ⟨v1, rfl, h1, k1⟩
  go_wp2_with fail
  refine (HP.out _ hm).mono ?_
  rintro e w2 ⟨v2, rfl, h2, k2⟩
  replace h1 := h1.keep k2
  go_wp2_with fail
  refine (eqStringS_same _ _ _ h2 h1 (by omega)).mono ?_
  rintro e w3 ⟨rfl, k3⟩
  replace h1 := h1.keep k3
  replace h2 := h2.keep k3
  go_wp2_with fail
  have hmk := markStringS_any _ 1 _ h2 (by omega) (by omega) (by omega)
  refine hmk.mono ?_
  rintro e w4 ⟨rfl, h2, k4⟩
  replace h1 := h1.mv k4 (by omega)
  go_wp2_with fail
  have hhd := heldStringS_any _ 1 _ h2 (by omega) (by omega) (by omega)
  refine hhd.mono ?_
  rintro e w5 ⟨rfl, k5⟩
  replace h1 := h1.keep k5
  replace h2 := h2.keep k5
  go_wp2_with fail
  refine (HP.out _ hm).mono ?_
  rintro e w6 ⟨v6, rfl, h6, k6⟩
  replace h1 := h1.keep k6
  replace h2 := h2.keep k6
  go_wp2_with fail
  refine (eqStringS_same _ _ _ h6 h1 (by omega)).mono ?_
  rintro e w7 ⟨rfl, k7⟩
  replace h2 := h2.keep k7
  go_wp2_with fail
  have hhd := heldStringS_any _ 1 _ h2 (by omega) (by omega) (by omega)
  refine hhd.mono ?_
  rintro e w8 ⟨rfl, k8⟩
  go_wp2_with fail
  go_ret
  exact ⟨rfl, Keep.below (((((((k1.keep k2).keep k3).comp k4 (by have := k1.size; omega)).keep k5).keep k6).keep k7).keep k8)⟩

theorem own : ownKnob Try.prog.godebug = none := by kernel_rfl
theorem laidOut : laidOutB Try.prog = true := by kernel_rfl
set_option maxRecDepth 100000 in
theorem lifted (os : Os) (started : os.Started) (H : Type) (enc : TypeId × Value → H) :
    ReturnsInHanded {} Try.checked os 3 .any (Rows.fnExactSplitFieldsSpec.pre6 enc Try.prog Try.f3 Rows.fnExactSplitFieldsRow.domain false) (Rows.fnExactSplitFieldsSpec.post enc Try.prog Try.f3 false true false false) := by
  refine returnsInHanded_of_change (C := Try.checked) own started (by kernel_rfl) Try.func3
    (ChangeSpec.witness6 (enc := enc) (C := Try.checked) false ⟨#[], #[.string ByteArray.empty], []⟩ 8 (by kernel_rfl) (by kernel_rfl) (by kernel_rfl) (by kernel_rfl)) ?_
  intro W base args ds gs before hval0 hW hcnd _
  have hval : ∀ (j : Nat) t v, Try.f3.params[j]? = some t → args[j]? = some v → Value.okWide Try.prog W .any base t v := hval0
  have hW' := hW
  obtain ⟨p, q, hA0, hV, rfl, hfz, hnd⟩ := hW
  have hA : DataW.TrodAll enc Try.prog W 0 (fun _ => true) true Try.f3.params.toList args.toList ds p := hA0
  rw [Try.params3] at hA hval
  obtain ⟨v0, vs0, d0, ds0, p0, q0, hargs, rfl, rfl, h0, r0⟩ := trodAll_cons hA
  obtain ⟨rfl, rfl, rfl⟩ := trodAll_nil r0
  obtain rfl : args = #[v0] := by cases args; simp_all
  obtain ⟨rfl, rfl⟩ := trodVars_none hV
  obtain ⟨a0, rfl, rfl, rfl, w0⟩ := open_string Try.underlying9 (hval 0 9 v0 rfl rfl) h0
  clear hA0 hval0
  refine (walk a0 W w0).mono fun e W' ⟨he, bel⟩ => ?_
  subst he
  exact ⟨_, rfl, _, _, _, [], _, [], hW', trodAll_mk1 (shut_bool Try.underlying4 _), (trodAll_cons_mk (shut_string Try.underlying9 w0) trodAll_mk0), rfl, bel.frame _, fun h => by cases h⟩

theorem over : Rows.fnExactSplitFieldsRow.holds Try.pinned (OpenSpec.ofChange Rows.fnExactSplitFieldsSpec) :=
  OpenClaim.holds_of_wide 3 Try.f3 rfl rfl rfl rfl rfl rfl rfl ⟨rfl, rfl, rfl, rfl, rfl⟩ rfl rfl rfl rfl rfl (by kernel_rfl) Try.func3 (by kernel_rfl)
    (of_decide_eq_true (by kernel_rfl)) (by unfold Func.isWrapper; first | (rw [if_pos (by decide +kernel)]; kernel_rfl) | (rw [if_neg (by decide +kernel)]; exact ⟨rfl, rfl⟩))
    (fun os started H enc _ => lifted os started H enc)

/-- The statement. -/
theorem proved : Rows.FnExactSplitFieldsSaid := over
#print axioms proved
end Go.Proofs.Ytpbcaaoohcgalab.fnExactSplitFields
