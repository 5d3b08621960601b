/- The Go law FnExactKernelOk returns true for all arguments and leaves its arguments as they were. Conditions: none. The frame follows the kit's shell; the walk is mine. -/
import Derived.Test.YtkcoehkfhffjkaaRows
import Derived.WalkKit
import Derived.ProofKit
import Derived.OpenShut
import Derived.Test.YtkcoehkfhffjkaaOpenKe
import Derived.Deep.RegionHeld3
import Derived.ShutString
import Derived.ChangeOld
import Derived.Below
namespace Go.Proofs.Ytkcoehkfhffjkaa.fnExactKernelOk
open Go.ChangeShapes Go.WideShapes Go.ChangeAt Go.RowKit
open Go.ChangeMaps (open_string shut_string)
set_option linter.unusedVariables false
set_option linter.unusedSimpArgs false

theorem walk (v0 : Value) (x0 : KeD) (w : World) (w0 : InKe w v0 x0) :
    Calls Try.prog 10 #[v0] w fun e w' => e = .returned (.bool true) ∧ Below w.heap.size w w' := by
  obtain ⟨aA, cA, aB, cB, aC, cC, aD, cD, rfl, hin⟩ := w0.opened
  clear w0
  have HIN := Lib.hid hin
  go_enter Try.func10, Try.ntmps10
  go_wp2_with fail
  refine (sz_Kernel _ _ (hin.keep (by repeat (first | exact Chg.refl _ _ _ | apply Chg.alloc)))).mono ?_
  rintro e V1 ⟨s, rfl, hs0, k1⟩
  have q1 : Keep w V1 := Chg.keep (by repeat (first | exact Chg.refl _ _ _ | apply Chg.alloc)) k1
  have t1 := k1.size
  try simp only [size_alloc] at t1
  have b_xA := (Blk.new w 73 #[.slice aA x0.ma.fr.cells.length cA, .slice aB x0.ma.fr.used.length cB, .slice aC x0.ma.tb.length cC, .int .i64 x0.calls, .slice aD x0.refuse.length cD]).keep k1
  have c_A_0 : V1.cell? ⟨w.heap.size, 0, none⟩ = some (.slice aA x0.ma.fr.cells.length cA) := b_xA.cell 0
  have c_A_1 : V1.cell? ⟨w.heap.size, 1, none⟩ = some (.slice aB x0.ma.fr.used.length cB) := b_xA.cell 1
  have c_A_2 : V1.cell? ⟨w.heap.size, 2, none⟩ = some (.slice aC x0.ma.tb.length cC) := b_xA.cell 2
  have c_A_3 : V1.cell? ⟨w.heap.size, 3, none⟩ = some (.int .i64 x0.calls) := b_xA.cell 3
  have c_A_4 : V1.cell? ⟨w.heap.size, 4, none⟩ = some (.slice aD x0.refuse.length cD) := b_xA.cell 4
  have l_A := b_xA.lt
  have Q1 := q1
  replace hin := HIN.out.keep Q1
  by_cases hsz : s < 0
  · go_wp2_with fail
    go_ret
    exact ⟨rfl, Keep.below Q1⟩
  have hs := hs0 (by omega)
  clear hs0
  go_wp2_with fail
  refine (to_Kernel _ _ hin hs).mono ?_
  rintro e V2 ⟨v_T, rfl, h_T, k2⟩
  have q2 : Keep V1 V2 := Chg.keep (by repeat (first | exact Chg.refl _ _ _ | apply Chg.alloc)) k2
  have t2 := k2.size
  try simp only [size_alloc] at t2
  replace b_xA := b_xA.keep q2
  replace c_A_0 : V2.cell? ⟨w.heap.size, 0, none⟩ = some (.slice aA x0.ma.fr.cells.length cA) := b_xA.cell 0
  replace c_A_1 : V2.cell? ⟨w.heap.size, 1, none⟩ = some (.slice aB x0.ma.fr.used.length cB) := b_xA.cell 1
  replace c_A_2 : V2.cell? ⟨w.heap.size, 2, none⟩ = some (.slice aC x0.ma.tb.length cC) := b_xA.cell 2
  replace c_A_3 : V2.cell? ⟨w.heap.size, 3, none⟩ = some (.int .i64 x0.calls) := b_xA.cell 3
  replace c_A_4 : V2.cell? ⟨w.heap.size, 4, none⟩ = some (.slice aD x0.refuse.length cD) := b_xA.cell 4
  replace l_A := b_xA.lt
  have Q2 := Chg.keep Q1 q2
  replace hin := HIN.out.keep Q2
  try simp only [size_alloc] at h_T
  obtain ⟨b_T, d_T, b2_T, d2_T, b3_T, d3_T, b4_T, d4_T, rfl, _⟩ := h_T.opened
  go_wp2_with fail
  refine (kernelOk_spec _ _ h_T hs).mono ?_
  generalize hR0 : kernelOkB x0 = r0
  have HR0 := Lib.hid hR0
  clear hR0
  rintro e V3 ⟨rfl, k3⟩
  have q3 : Keep V2 V3 := Chg.keep (by repeat (first | exact Chg.refl _ _ _ | apply Chg.alloc)) k3
  have t3 := k3.size
  try simp only [size_alloc] at t3
  replace h_T := h_T.keep q3
  replace b_xA := b_xA.keep q3
  replace c_A_0 : V3.cell? ⟨w.heap.size, 0, none⟩ = some (.slice aA x0.ma.fr.cells.length cA) := b_xA.cell 0
  replace c_A_1 : V3.cell? ⟨w.heap.size, 1, none⟩ = some (.slice aB x0.ma.fr.used.length cB) := b_xA.cell 1
  replace c_A_2 : V3.cell? ⟨w.heap.size, 2, none⟩ = some (.slice aC x0.ma.tb.length cC) := b_xA.cell 2
  replace c_A_3 : V3.cell? ⟨w.heap.size, 3, none⟩ = some (.int .i64 x0.calls) := b_xA.cell 3
  replace c_A_4 : V3.cell? ⟨w.heap.size, 4, none⟩ = some (.slice aD x0.refuse.length cD) := b_xA.cell 4
  replace l_A := b_xA.lt
  have Q3 := Chg.keep Q2 q3
  replace hin := HIN.out.keep Q3
  clear h_T
  go_wp2_with fail
  refine (to_Kernel _ _ hin hs).mono ?_
  rintro e V4 ⟨v_X, rfl, h_X, k4⟩
  have q4 : Keep V3 V4 := Chg.keep (by repeat (first | exact Chg.refl _ _ _ | apply Chg.alloc)) k4
  have t4 := k4.size
  try simp only [size_alloc] at t4
  replace b_xA := b_xA.keep q4
  replace c_A_0 : V4.cell? ⟨w.heap.size, 0, none⟩ = some (.slice aA x0.ma.fr.cells.length cA) := b_xA.cell 0
  replace c_A_1 : V4.cell? ⟨w.heap.size, 1, none⟩ = some (.slice aB x0.ma.fr.used.length cB) := b_xA.cell 1
  replace c_A_2 : V4.cell? ⟨w.heap.size, 2, none⟩ = some (.slice aC x0.ma.tb.length cC) := b_xA.cell 2
  replace c_A_3 : V4.cell? ⟨w.heap.size, 3, none⟩ = some (.int .i64 x0.calls) := b_xA.cell 3
  replace c_A_4 : V4.cell? ⟨w.heap.size, 4, none⟩ = some (.slice aD x0.refuse.length cD) := b_xA.cell 4
  replace l_A := b_xA.lt
  have Q4 := Chg.keep Q3 q4
  replace hin := HIN.out.keep Q4
  try simp only [size_alloc] at h_X
  obtain ⟨b_X, d_X, b2_X, d2_X, b3_X, d3_X, b4_X, d4_X, rfl, _⟩ := h_X.opened
  go_wp2_with fail
  refine (kernelOk_any _ _ (h_X.keep (by repeat (first | exact Chg.refl _ _ _ | apply Chg.alloc))) hs).mono ?_
  rw [HR0.out]
  rintro e V5 ⟨rfl, k5⟩
  have q5 : Keep V4 V5 := Chg.keep (by repeat (first | exact Chg.refl _ _ _ | apply Chg.alloc)) k5
  have t5 := k5.size
  try simp only [size_alloc] at t5
  replace h_X := h_X.keep q5
  replace b_xA := b_xA.keep q5
  replace c_A_0 : V5.cell? ⟨w.heap.size, 0, none⟩ = some (.slice aA x0.ma.fr.cells.length cA) := b_xA.cell 0
  replace c_A_1 : V5.cell? ⟨w.heap.size, 1, none⟩ = some (.slice aB x0.ma.fr.used.length cB) := b_xA.cell 1
  replace c_A_2 : V5.cell? ⟨w.heap.size, 2, none⟩ = some (.slice aC x0.ma.tb.length cC) := b_xA.cell 2
  replace c_A_3 : V5.cell? ⟨w.heap.size, 3, none⟩ = some (.int .i64 x0.calls) := b_xA.cell 3
  replace c_A_4 : V5.cell? ⟨w.heap.size, 4, none⟩ = some (.slice aD x0.refuse.length cD) := b_xA.cell 4
  replace l_A := b_xA.lt
  have b_xX := (Blk.new V4 47 #[.slice b_X x0.ma.fr.cells.length d_X, .slice b2_X x0.ma.fr.used.length d2_X, .slice b3_X x0.ma.tb.length d3_X, .int .i64 x0.calls, .slice b4_X x0.refuse.length d4_X]).keep k5
  have c_X_0 : V5.cell? ⟨V4.heap.size, 0, none⟩ = some (.slice b_X x0.ma.fr.cells.length d_X) := b_xX.cell 0
  have c_X_1 : V5.cell? ⟨V4.heap.size, 1, none⟩ = some (.slice b2_X x0.ma.fr.used.length d2_X) := b_xX.cell 1
  have c_X_2 : V5.cell? ⟨V4.heap.size, 2, none⟩ = some (.slice b3_X x0.ma.tb.length d3_X) := b_xX.cell 2
  have c_X_3 : V5.cell? ⟨V4.heap.size, 3, none⟩ = some (.int .i64 x0.calls) := b_xX.cell 3
  have c_X_4 : V5.cell? ⟨V4.heap.size, 4, none⟩ = some (.slice b4_X x0.refuse.length d4_X) := b_xX.cell 4
  have l_X := b_xX.lt
  have Q5 := Chg.keep Q4 q5
  replace hin := HIN.out.keep Q5
  go_wp2_with fail
  go_region_held3 (fun z => z.cell? ⟨V4.heap.size, 0, none⟩ = some (.slice b_X x0.ma.fr.cells.length d_X) ∧ z.cell? ⟨V4.heap.size, 1, none⟩ = some (.slice b2_X x0.ma.fr.used.length d2_X) ∧ z.cell? ⟨V4.heap.size, 2, none⟩ = some (.slice b3_X x0.ma.tb.length d3_X) ∧ z.cell? ⟨V4.heap.size, 3, none⟩ = some (.int .i64 x0.calls) ∧ z.cell? ⟨V4.heap.size, 4, none⟩ = some (.slice b4_X x0.refuse.length d4_X) ∧ z.cell? ⟨w.heap.size, 0, none⟩ = some (.slice aA x0.ma.fr.cells.length cA) ∧ z.cell? ⟨w.heap.size, 1, none⟩ = some (.slice aB x0.ma.fr.used.length cB) ∧ z.cell? ⟨w.heap.size, 2, none⟩ = some (.slice aC x0.ma.tb.length cC) ∧ z.cell? ⟨w.heap.size, 3, none⟩ = some (.int .i64 x0.calls) ∧ z.cell? ⟨w.heap.size, 4, none⟩ = some (.slice aD x0.refuse.length cD)) (first | go_keep | exact ⟨(Keep.grown kr1 none).cell c_X_0 (by simp), (Keep.grown kr1 none).cell c_X_1 (by simp), (Keep.grown kr1 none).cell c_X_2 (by simp), (Keep.grown kr1 none).cell c_X_3 (by simp), (Keep.grown kr1 none).cell c_X_4 (by simp), (Keep.grown kr1 none).cell c_A_0 (by simp), (Keep.grown kr1 none).cell c_A_1 (by simp), (Keep.grown kr1 none).cell c_A_2 (by simp), (Keep.grown kr1 none).cell c_A_3 (by simp), (Keep.grown kr1 none).cell c_A_4 (by simp)⟩ | exact ⟨(Keep.grown (Chg.keep kr1 kr2) none).cell c_X_0 (by simp), (Keep.grown (Chg.keep kr1 kr2) none).cell c_X_1 (by simp), (Keep.grown (Chg.keep kr1 kr2) none).cell c_X_2 (by simp), (Keep.grown (Chg.keep kr1 kr2) none).cell c_X_3 (by simp), (Keep.grown (Chg.keep kr1 kr2) none).cell c_X_4 (by simp), (Keep.grown (Chg.keep kr1 kr2) none).cell c_A_0 (by simp), (Keep.grown (Chg.keep kr1 kr2) none).cell c_A_1 (by simp), (Keep.grown (Chg.keep kr1 kr2) none).cell c_A_2 (by simp), (Keep.grown (Chg.keep kr1 kr2) none).cell c_A_3 (by simp), (Keep.grown (Chg.keep kr1 kr2) none).cell c_A_4 (by simp)⟩) (first | (go_at_call 46; refine (to_Kernel _ _ (hin.keep (Chg.refl _ _ _).drew) hs).mono ?_; rintro e V6 ⟨v_r, rfl, h_r, kr1⟩) | (go_at_call 23; refine (eq_Kernel _ _ _ ((h_X.keep (Chg.refl _ _ _).drew).keep kr1) h_r hs).mono ?_; rintro e V7 ⟨rfl, kr2⟩))
  have q7 : Keep V5 V7 := Chg.keep (Chg.keep (Chg.refl _ _ _).drew kr1) kr2
  have t7 := q7.size
  clear h_r
  replace h_X := h_X.keep q7
  replace b_xA := b_xA.keep q7
  replace c_A_0 : V7.cell? ⟨w.heap.size, 0, none⟩ = some (.slice aA x0.ma.fr.cells.length cA) := b_xA.cell 0
  replace c_A_1 : V7.cell? ⟨w.heap.size, 1, none⟩ = some (.slice aB x0.ma.fr.used.length cB) := b_xA.cell 1
  replace c_A_2 : V7.cell? ⟨w.heap.size, 2, none⟩ = some (.slice aC x0.ma.tb.length cC) := b_xA.cell 2
  replace c_A_3 : V7.cell? ⟨w.heap.size, 3, none⟩ = some (.int .i64 x0.calls) := b_xA.cell 3
  replace c_A_4 : V7.cell? ⟨w.heap.size, 4, none⟩ = some (.slice aD x0.refuse.length cD) := b_xA.cell 4
  replace l_A := b_xA.lt
  replace b_xX := b_xX.keep q7
  replace c_X_0 : V7.cell? ⟨V4.heap.size, 0, none⟩ = some (.slice b_X x0.ma.fr.cells.length d_X) := b_xX.cell 0
  replace c_X_1 : V7.cell? ⟨V4.heap.size, 1, none⟩ = some (.slice b2_X x0.ma.fr.used.length d2_X) := b_xX.cell 1
  replace c_X_2 : V7.cell? ⟨V4.heap.size, 2, none⟩ = some (.slice b3_X x0.ma.tb.length d3_X) := b_xX.cell 2
  replace c_X_3 : V7.cell? ⟨V4.heap.size, 3, none⟩ = some (.int .i64 x0.calls) := b_xX.cell 3
  replace c_X_4 : V7.cell? ⟨V4.heap.size, 4, none⟩ = some (.slice b4_X x0.refuse.length d4_X) := b_xX.cell 4
  replace l_X := b_xX.lt
  have Q7 := Chg.keep Q5 q7
  replace hin := HIN.out.keep Q7
  go_wp2_with fail
  go_ret
  exact ⟨rfl, Keep.below Q7⟩

theorem own : ownKnob Try.prog.godebug = none := by kernel_rfl
theorem laidOut : laidOutB Try.prog = true := by kernel_rfl
set_option maxRecDepth 100000 in
theorem lifted (os : Os) (started : os.Started) (H : Type) (enc : TypeId × Value → H) :
    ReturnsInHanded {} Try.checked os 10 .any (Rows.fnExactKernelOkSpec.pre6 enc Try.prog Try.f10 Rows.fnExactKernelOkRow.domain false) (Rows.fnExactKernelOkSpec.post enc Try.prog Try.f10 false true false false) := by
  refine returnsInHanded_of_change (C := Try.checked) own started (by kernel_rfl) Try.func10
    (ChangeSpec.witness6 (enc := enc) (C := Try.checked) false ⟨#[], #[.agg #[.slice none 0 0, .slice none 0 0, .slice none 0 0, .int .i64 0, .slice none 0 0]], []⟩ 8 (by kernel_rfl) (by kernel_rfl) (by kernel_rfl) (by kernel_rfl)) ?_
  intro W base args ds gs before hval0 hW hcnd _
  have hval : ∀ (j : Nat) t v, Try.f10.params[j]? = some t → args[j]? = some v → Value.okWide Try.prog W .any base t v := hval0
  have hW' := hW
  obtain ⟨p, q, hA0, hV, rfl, hfz, hnd⟩ := hW
  have hA : DataW.TrodAll enc Try.prog W 0 (fun _ => true) true Try.f10.params.toList args.toList ds p := hA0
  rw [Try.params10] at hA hval
  obtain ⟨v0, vs0, d0, ds0, p0, q0, hargs, rfl, rfl, h0, r0⟩ := trodAll_cons hA
  obtain ⟨rfl, rfl, rfl⟩ := trodAll_nil r0
  obtain rfl : args = #[v0] := by cases args; simp_all
  obtain ⟨rfl, rfl⟩ := trodVars_none hV
  have k0 := h0
  have lt0 : ∀ x ∈ p0, x.block < W.heap.size := by obtain ⟨m, hm⟩ := k0; exact DataW.trod_lt m _ _ _ hm
  obtain ⟨x0, w0⟩ := open_InKe (hval 0 73 v0 rfl rfl) h0
  clear hA0 hval0
  refine (walk _ x0 W w0).mono fun e W' ⟨he, bel⟩ => ?_
  subst he
  exact ⟨_, rfl, _, _, _, [], _, [], hW', trodAll_mk1 (shut_bool Try.underlying4 _), (trodAll_cons_mk (Below.trod laidOut (by kernel_rfl) (of_decide_eq_true (by kernel_rfl)) k0 bel lt0) trodAll_mk0), rfl, bel.frame _, fun h => by cases h⟩

theorem over : Rows.fnExactKernelOkRow.holds Try.pinned (OpenSpec.ofChange Rows.fnExactKernelOkSpec) :=
  OpenClaim.holds_of_wide 10 Try.f10 rfl rfl rfl rfl rfl rfl rfl ⟨rfl, rfl, rfl, rfl, rfl⟩ rfl rfl rfl rfl rfl (by kernel_rfl) Try.func10 (by kernel_rfl)
    (of_decide_eq_true (by kernel_rfl)) (by unfold Func.isWrapper; first | (rw [if_pos (by decide +kernel)]; kernel_rfl) | (rw [if_neg (by decide +kernel)]; exact ⟨rfl, rfl⟩))
    (fun os started H enc _ => lifted os started H enc)

/-- The statement. -/
theorem proved : Rows.FnExactKernelOkSaid := over
#print axioms proved
end Go.Proofs.Ytkcoehkfhffjkaa.fnExactKernelOk
