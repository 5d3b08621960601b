/- The Go law FnWaste returns true for all arguments and leaves its arguments as they were. Conditions: none. The frame follows the kit's shell; the walk is mine. -/
import Derived.Test.YtpbcaaoohcgalaaRows
import Derived.WalkKit
import Derived.ProofKit
import Derived.OpenShut
import Derived.Test.YtpbcaaoohcgalaaOpenCode
import Derived.Test.YtpbcaaoohcgalaaDraw
import Derived.ShutString
import Derived.ChangeOld
import Derived.Below
namespace Go.Proofs.Ytpbcaaoohcgalaa.fnWaste
open Go.ChangeShapes Go.WideShapes Go.ChangeAt Go.RowKit
open Go.ChangeMaps (open_string shut_string)
set_option linter.unusedVariables false
set_option linter.unusedSimpArgs false

theorem walk (a0 : Option Addr) (len0 cap0 : Nat) (w : World) (w0 : Code w.heap.size w a0 len0) :
    Calls Try.prog 13 #[.slice a0 len0 cap0] w fun e w' => e = .returned (.bool true) ∧ Below w.heap.size w w' := by
  by_cases hbig : (1048576 : Int) < len0
  · go_enter Try.func13, Try.ntmps13
    go_wp2_with (go_at_call 27; refine (big_any _ _ _ _).mono ?_; rintro e w' ⟨rfl, rfl⟩)
    go_ret
    exact ⟨rfl, Below.refl _ _⟩
  have hcode := w0
  clear w0
  go_enter Try.func13, Try.ntmps13
  go_wp2_with (first | (go_at_call 27; refine (big_any _ _ _ _).mono ?_; rintro e w' ⟨rfl, rfl⟩) | (go_at_call 28; refine (places_any _ _ _ _ (by omega) hcode).mono ?_; rintro e w1 ⟨g, c, p, rfl, hc, hg, hgs, hp, hb⟩; clear hcode; obtain ⟨p00, p01, c0⟩ := hp 0 (by decide); clear hp))
  have a1 : classZ 1 = 0 := by decide
  have a2 : classZ 2 = 1 := by decide
  have a3 : classZ 3 = 2 := by decide
  have a4 : classZ 4 = 2 := by decide
  have a5 : classZ 5 = 3 := by decide
  have a6 : classZ 6 = 3 := by decide
  have a7 : classZ 7 = 3 := by decide
  have a8 : classZ 8 = 3 := by decide
  have b0 : sizeZ 0 = 1 := by decide
  have b1 : sizeZ 1 = 2 := by decide
  have b2 : sizeZ 2 = 4 := by decide
  have b3 : sizeZ 3 = 8 := by decide
  have s0 : slotsZ 0 = 16 := by decide
  have s1 : slotsZ 1 = 8 := by decide
  have s2 : slotsZ 2 = 4 := by decide
  have s3 : slotsZ 3 = 2 := by decide
  have w1' : wasteZ 1 = 0 := by decide
  have w2 : wasteZ 2 = 0 := by decide
  have w3 : wasteZ 3 = 1 := by decide
  have w4 : wasteZ 4 = 0 := by decide
  have w5 : wasteZ 5 = 3 := by decide
  have w6 : wasteZ 6 = 2 := by decide
  have w7 : wasteZ 7 = 1 := by decide
  have w8 : wasteZ 8 = 0 := by decide
  rcases (show p 0 % 8 = 0 ∨ p 0 % 8 = 1 ∨ p 0 % 8 = 2 ∨ p 0 % 8 = 3 ∨ p 0 % 8 = 4 ∨ p 0 % 8 = 5 ∨ p 0 % 8 = 6 ∨ p 0 % 8 = 7 by omega) with h | h | h | h | h | h | h | h
  all_goals
    go_wp2_with (first | (go_at_call 38; refine (classOf_any _ _).mono ?_; rintro e w' ⟨rfl, rfl⟩) | (go_at_call 24; refine (waste_any _ _).mono ?_; rintro e w' ⟨rfl, rfl⟩) | (go_at_call 39; refine (classSize_any _ _).mono ?_; rintro e w' ⟨rfl, rfl⟩) | (go_at_call 40; refine (slotsOf_any _ _).mono ?_; rintro e w' ⟨rfl, rfl⟩))
    go_ret
    exact ⟨rfl, hb⟩

theorem own : ownKnob Try.prog.godebug = none := by kernel_rfl
theorem laidOut : laidOutB Try.prog = true := by kernel_rfl
set_option maxRecDepth 100000 in
theorem lifted (os : Os) (started : os.Started) (H : Type) (enc : TypeId × Value → H) :
    ReturnsInHanded {} Try.checked os 13 .any (Rows.fnWasteSpec.pre6 enc Try.prog Try.f13 Rows.fnWasteRow.domain false) (Rows.fnWasteSpec.post enc Try.prog Try.f13 false true false false) := by
  refine returnsInHanded_of_change (C := Try.checked) own started (by kernel_rfl) Try.func13
    (ChangeSpec.witness6 (enc := enc) (C := Try.checked) false ⟨#[], #[.slice none 0 0], []⟩ 8 (by kernel_rfl) (by kernel_rfl) (by kernel_rfl) (by kernel_rfl)) ?_
  intro W base args ds gs before hval0 hW hcnd _
  have hval : ∀ (j : Nat) t v, Try.f13.params[j]? = some t → args[j]? = some v → Value.okWide Try.prog W .any base t v := hval0
  have hW' := hW
  obtain ⟨p, q, hA0, hV, rfl, hfz, hnd⟩ := hW
  have hA : DataW.TrodAll enc Try.prog W 0 (fun _ => true) true Try.f13.params.toList args.toList ds p := hA0
  rw [Try.params13] at hA hval
  obtain ⟨v0, vs0, d0, ds0, p0, q0, hargs, rfl, rfl, h0, r0⟩ := trodAll_cons hA
  obtain ⟨rfl, rfl, rfl⟩ := trodAll_nil r0
  obtain rfl : args = #[v0] := by cases args; simp_all
  obtain ⟨rfl, rfl⟩ := trodVars_none hV
  have k0 := h0
  have lt0 : ∀ x ∈ p0, x.block < W.heap.size := by obtain ⟨m, hm⟩ := k0; exact DataW.trod_lt m _ _ _ hm
  obtain ⟨a0, len0, cap0, rfl⟩ := okWide_slice Try.underlying33 (hval 0 33 v0 rfl rfl)
  have w0 : Code W.heap.size W a0 len0 := open_code h0
  clear hA0 hval0
  refine (walk a0 len0 cap0 W w0).mono fun e W' ⟨he, bel⟩ => ?_
  subst he
  exact ⟨_, rfl, _, _, _, [], _, [], hW', trodAll_mk1 (shut_bool Try.underlying4 _), (trodAll_cons_mk (Below.trod laidOut (by kernel_rfl) (of_decide_eq_true (by kernel_rfl)) k0 bel lt0) trodAll_mk0), rfl, bel.frame _, fun h => by cases h⟩

theorem over : Rows.fnWasteRow.holds Try.pinned (OpenSpec.ofChange Rows.fnWasteSpec) :=
  OpenClaim.holds_of_wide 13 Try.f13 rfl rfl rfl rfl rfl rfl rfl ⟨rfl, rfl, rfl, rfl, rfl⟩ rfl rfl rfl rfl rfl (by kernel_rfl) Try.func13 (by kernel_rfl)
    (of_decide_eq_true (by kernel_rfl)) (by unfold Func.isWrapper; first | (rw [if_pos (by decide +kernel)]; kernel_rfl) | (rw [if_neg (by decide +kernel)]; exact ⟨rfl, rfl⟩))
    (fun os started H enc _ => lifted os started H enc)

/-- The statement. -/
theorem proved : Rows.FnWasteSaid := over
#print axioms proved
end Go.Proofs.Ytpbcaaoohcgalaa.fnWaste
