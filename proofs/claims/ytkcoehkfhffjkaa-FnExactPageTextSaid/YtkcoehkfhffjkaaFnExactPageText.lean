/- The Go law FnExactPageText returns true for all arguments and leaves its arguments as they were. Conditions: none. The frame follows the kit's shell; the walk is mine. -/
import Derived.Test.YtkcoehkfhffjkaaRows
import Derived.WalkKit
import Derived.ProofKit
import Derived.OpenShut
import Derived.Test.YtkcoehkfhffjkaaOpenMa
import Derived.Test.YtkcoehkfhffjkaaPgText
import Derived.Deep.RegionHeld3
import Derived.ShutString
import Derived.ChangeOld
import Derived.Below
namespace Go.Proofs.Ytkcoehkfhffjkaa.fnExactPageText
open Go.ChangeShapes Go.WideShapes Go.ChangeAt Go.RowKit
open Go.ChangeMaps (open_string shut_string)
set_option linter.unusedVariables false
set_option linter.unusedSimpArgs false

theorem walk (v0 : Value) (x0 : MaD) (a1 : Int) (w : World) (w0 : InMa w v0 x0) (w1 : (Lit.int .i64 a1).wf = true) :
    Calls Try.prog 3 #[v0, .int .i64 a1] w fun e w' => e = .returned (.bool true) ∧ Below w.heap.size w w' := by
  obtain ⟨aA, cA, aB, cB, aC, cC, rfl, hin⟩ := w0.opened
  clear w0
  have HIN := Lib.hid hin
  go_enter Try.func3, Try.ntmps3
  go_wp2_with fail
  refine (sz_Machine _ _ (hin.keep (by repeat (first | exact Chg.refl _ _ _ | apply Chg.alloc)))).mono ?_
  rintro e V1 ⟨s, rfl, hs0, k1⟩
  have q1 : Keep w V1 := Chg.keep (by repeat (first | exact Chg.refl _ _ _ | apply Chg.alloc)) k1
  have t1 := k1.size
  try simp only [size_alloc] at t1
  have b_xA := (Blk.new w 30 #[.slice aA x0.fr.cells.length cA, .slice aB x0.fr.used.length cB, .slice aC x0.tb.length cC]).keep k1
  have c_A_0 : V1.cell? ⟨w.heap.size, 0, none⟩ = some (.slice aA x0.fr.cells.length cA) := b_xA.cell 0
  have c_A_1 : V1.cell? ⟨w.heap.size, 1, none⟩ = some (.slice aB x0.fr.used.length cB) := b_xA.cell 1
  have c_A_2 : V1.cell? ⟨w.heap.size, 2, none⟩ = some (.slice aC x0.tb.length cC) := b_xA.cell 2
  have l_A := b_xA.lt
  have Q1 := q1
  replace hin := HIN.out.keep Q1
  by_cases hsz : s < 0
  · go_wp2_with fail
    go_ret
    exact ⟨rfl, Keep.below Q1⟩
  have hs := hs0 (by omega)
  clear hs0
  have hr0 := (show sm_IntS (pageTextD x0 a1) by unfold sm_IntS; have := pageTextD_len x0 a1; omega)
  go_wp2_with fail
  refine (to_Machine _ _ hin hs).mono ?_
  rintro e V2 ⟨v_T, rfl, h_T, k2⟩
  have q2 : Keep V1 V2 := Chg.keep (by repeat (first | exact Chg.refl _ _ _ | apply Chg.alloc)) k2
  have t2 := k2.size
  try simp only [size_alloc] at t2
  replace b_xA := b_xA.keep q2
  replace c_A_0 : V2.cell? ⟨w.heap.size, 0, none⟩ = some (.slice aA x0.fr.cells.length cA) := b_xA.cell 0
  replace c_A_1 : V2.cell? ⟨w.heap.size, 1, none⟩ = some (.slice aB x0.fr.used.length cB) := b_xA.cell 1
  replace c_A_2 : V2.cell? ⟨w.heap.size, 2, none⟩ = some (.slice aC x0.tb.length cC) := b_xA.cell 2
  replace l_A := b_xA.lt
  have Q2 := Chg.keep Q1 q2
  replace hin := HIN.out.keep Q2
  try simp only [size_alloc] at h_T
  obtain ⟨b_T, d_T, b2_T, d2_T, b3_T, d3_T, rfl, _⟩ := h_T.opened
  go_wp2_with fail
  refine (pageText_spec _ _ _ h_T hs).mono ?_
  generalize hR0 : pageTextD x0 a1 = r0 at hr0 ⊢
  have HR0 := Lib.hid hR0
  clear hR0
  rintro e V3 ⟨v_W0, rfl, h_W0, k3⟩
  have q3 : Keep V2 V3 := Chg.keep (by repeat (first | exact Chg.refl _ _ _ | apply Chg.alloc)) k3
  have t3 := k3.size
  try simp only [size_alloc] at t3
  replace h_T := h_T.keep q3
  replace b_xA := b_xA.keep q3
  replace c_A_0 : V3.cell? ⟨w.heap.size, 0, none⟩ = some (.slice aA x0.fr.cells.length cA) := b_xA.cell 0
  replace c_A_1 : V3.cell? ⟨w.heap.size, 1, none⟩ = some (.slice aB x0.fr.used.length cB) := b_xA.cell 1
  replace c_A_2 : V3.cell? ⟨w.heap.size, 2, none⟩ = some (.slice aC x0.tb.length cC) := b_xA.cell 2
  replace l_A := b_xA.lt
  have Q3 := Chg.keep Q2 q3
  replace hin := HIN.out.keep Q3
  try simp only [size_alloc] at h_W0
  clear h_T
  go_wp2_with fail
  refine (to_Machine _ _ hin hs).mono ?_
  rintro e V4 ⟨v_X, rfl, h_X, k4⟩
  have q4 : Keep V3 V4 := Chg.keep (by repeat (first | exact Chg.refl _ _ _ | apply Chg.alloc)) k4
  have t4 := k4.size
  try simp only [size_alloc] at t4
  replace h_W0 := h_W0.keep q4
  replace b_xA := b_xA.keep q4
  replace c_A_0 : V4.cell? ⟨w.heap.size, 0, none⟩ = some (.slice aA x0.fr.cells.length cA) := b_xA.cell 0
  replace c_A_1 : V4.cell? ⟨w.heap.size, 1, none⟩ = some (.slice aB x0.fr.used.length cB) := b_xA.cell 1
  replace c_A_2 : V4.cell? ⟨w.heap.size, 2, none⟩ = some (.slice aC x0.tb.length cC) := b_xA.cell 2
  replace l_A := b_xA.lt
  have Q4 := Chg.keep Q3 q4
  replace hin := HIN.out.keep Q4
  try simp only [size_alloc] at h_X
  obtain ⟨b_X, d_X, b2_X, d2_X, b3_X, d3_X, rfl, _⟩ := h_X.opened
  go_wp2_with fail
  refine (pageText_any _ _ _ (h_X.keep (by repeat (first | exact Chg.refl _ _ _ | apply Chg.alloc))) hs).mono ?_
  rw [HR0.out]
  rintro e V5 ⟨v_G0, rfl, h_G0, k5⟩
  have q5 : Keep V4 V5 := Chg.keep (by repeat (first | exact Chg.refl _ _ _ | apply Chg.alloc)) k5
  have t5 := k5.size
  try simp only [size_alloc] at t5
  replace h_W0 := h_W0.keep q5
  replace h_X := h_X.keep q5
  replace b_xA := b_xA.keep q5
  replace c_A_0 : V5.cell? ⟨w.heap.size, 0, none⟩ = some (.slice aA x0.fr.cells.length cA) := b_xA.cell 0
  replace c_A_1 : V5.cell? ⟨w.heap.size, 1, none⟩ = some (.slice aB x0.fr.used.length cB) := b_xA.cell 1
  replace c_A_2 : V5.cell? ⟨w.heap.size, 2, none⟩ = some (.slice aC x0.tb.length cC) := b_xA.cell 2
  replace l_A := b_xA.lt
  have b_xX := (Blk.new V4 39 #[.slice b_X x0.fr.cells.length d_X, .slice b2_X x0.fr.used.length d2_X, .slice b3_X x0.tb.length d3_X]).keep k5
  have c_X_0 : V5.cell? ⟨V4.heap.size, 0, none⟩ = some (.slice b_X x0.fr.cells.length d_X) := b_xX.cell 0
  have c_X_1 : V5.cell? ⟨V4.heap.size, 1, none⟩ = some (.slice b2_X x0.fr.used.length d2_X) := b_xX.cell 1
  have c_X_2 : V5.cell? ⟨V4.heap.size, 2, none⟩ = some (.slice b3_X x0.tb.length d3_X) := b_xX.cell 2
  have l_X := b_xX.lt
  have Q5 := Chg.keep Q4 q5
  replace hin := HIN.out.keep Q5
  try simp only [size_alloc] at h_G0
  go_wp2_with fail
  refine (eq_IntS _ _ _ h_G0 h_W0 hr0).mono ?_
  rintro e V6 ⟨rfl, k6⟩
  have q6 : Keep V5 V6 := Chg.keep (by repeat (first | exact Chg.refl _ _ _ | apply Chg.alloc)) k6
  have t6 := k6.size
  try simp only [size_alloc] at t6
  replace h_W0 := h_W0.keep q6
  replace h_X := h_X.keep q6
  replace h_G0 := h_G0.keep q6
  replace b_xA := b_xA.keep q6
  replace c_A_0 : V6.cell? ⟨w.heap.size, 0, none⟩ = some (.slice aA x0.fr.cells.length cA) := b_xA.cell 0
  replace c_A_1 : V6.cell? ⟨w.heap.size, 1, none⟩ = some (.slice aB x0.fr.used.length cB) := b_xA.cell 1
  replace c_A_2 : V6.cell? ⟨w.heap.size, 2, none⟩ = some (.slice aC x0.tb.length cC) := b_xA.cell 2
  replace l_A := b_xA.lt
  replace b_xX := b_xX.keep q6
  replace c_X_0 : V6.cell? ⟨V4.heap.size, 0, none⟩ = some (.slice b_X x0.fr.cells.length d_X) := b_xX.cell 0
  replace c_X_1 : V6.cell? ⟨V4.heap.size, 1, none⟩ = some (.slice b2_X x0.fr.used.length d2_X) := b_xX.cell 1
  replace c_X_2 : V6.cell? ⟨V4.heap.size, 2, none⟩ = some (.slice b3_X x0.tb.length d3_X) := b_xX.cell 2
  replace l_X := b_xX.lt
  have Q6 := Chg.keep Q5 q6
  replace hin := HIN.out.keep Q6
  go_wp2_with fail
  go_region_held3 (fun z => z.cell? ⟨V4.heap.size, 0, none⟩ = some (.slice b_X x0.fr.cells.length d_X) ∧ z.cell? ⟨V4.heap.size, 1, none⟩ = some (.slice b2_X x0.fr.used.length d2_X) ∧ z.cell? ⟨V4.heap.size, 2, none⟩ = some (.slice b3_X x0.tb.length d3_X) ∧ z.cell? ⟨w.heap.size, 0, none⟩ = some (.slice aA x0.fr.cells.length cA) ∧ z.cell? ⟨w.heap.size, 1, none⟩ = some (.slice aB x0.fr.used.length cB) ∧ z.cell? ⟨w.heap.size, 2, none⟩ = some (.slice aC x0.tb.length cC)) (first | go_keep | exact ⟨(Keep.grown kr1 none).cell c_X_0 (by simp), (Keep.grown kr1 none).cell c_X_1 (by simp), (Keep.grown kr1 none).cell c_X_2 (by simp), (Keep.grown kr1 none).cell c_A_0 (by simp), (Keep.grown kr1 none).cell c_A_1 (by simp), (Keep.grown kr1 none).cell c_A_2 (by simp)⟩ | exact ⟨(Keep.grown (Chg.keep kr1 kr2) none).cell c_X_0 (by simp), (Keep.grown (Chg.keep kr1 kr2) none).cell c_X_1 (by simp), (Keep.grown (Chg.keep kr1 kr2) none).cell c_X_2 (by simp), (Keep.grown (Chg.keep kr1 kr2) none).cell c_A_0 (by simp), (Keep.grown (Chg.keep kr1 kr2) none).cell c_A_1 (by simp), (Keep.grown (Chg.keep kr1 kr2) none).cell c_A_2 (by simp)⟩) (first | (go_at_call 13; refine (to_Machine _ _ (hin.keep (Chg.refl _ _ _).drew) hs).mono ?_; rintro e V7 ⟨v_r, rfl, h_r, kr1⟩) | (go_at_call 16; refine (eq_Machine _ _ _ ((h_X.keep (Chg.refl _ _ _).drew).keep kr1) h_r hs).mono ?_; rintro e V8 ⟨rfl, kr2⟩))
  have q8 : Keep V6 V8 := Chg.keep (Chg.keep (Chg.refl _ _ _).drew kr1) kr2
  have t8 := q8.size
  clear h_r
  replace h_W0 := h_W0.keep q8
  replace h_X := h_X.keep q8
  replace h_G0 := h_G0.keep q8
  replace b_xA := b_xA.keep q8
  replace c_A_0 : V8.cell? ⟨w.heap.size, 0, none⟩ = some (.slice aA x0.fr.cells.length cA) := b_xA.cell 0
  replace c_A_1 : V8.cell? ⟨w.heap.size, 1, none⟩ = some (.slice aB x0.fr.used.length cB) := b_xA.cell 1
  replace c_A_2 : V8.cell? ⟨w.heap.size, 2, none⟩ = some (.slice aC x0.tb.length cC) := b_xA.cell 2
  replace l_A := b_xA.lt
  replace b_xX := b_xX.keep q8
  replace c_X_0 : V8.cell? ⟨V4.heap.size, 0, none⟩ = some (.slice b_X x0.fr.cells.length d_X) := b_xX.cell 0
  replace c_X_1 : V8.cell? ⟨V4.heap.size, 1, none⟩ = some (.slice b2_X x0.fr.used.length d2_X) := b_xX.cell 1
  replace c_X_2 : V8.cell? ⟨V4.heap.size, 2, none⟩ = some (.slice b3_X x0.tb.length d3_X) := b_xX.cell 2
  replace l_X := b_xX.lt
  have Q8 := Chg.keep Q6 q8
  replace hin := HIN.out.keep Q8
  go_wp2_with fail
  refine (mark_Machine _ _ h_X (by omega) hs).mono ?_
  rintro e V9 ⟨rfl, h_X, k9⟩
  have q9 := Chg.trans (a := V8) (by repeat (first | exact Chg.refl _ _ _ | apply Chg.alloc)) k9
  have t9 := k9.size
  try simp only [size_alloc] at t9
  have tt9 := q9.size
  replace h_W0 := h_W0.mv q9 (by omega)
  replace h_G0 := h_G0.mv q9 (by omega)
  replace b_xA := b_xA.mv q9 (by omega)
  replace c_A_0 : V9.cell? ⟨w.heap.size, 0, none⟩ = some (.slice aA x0.fr.cells.length cA) := b_xA.cell 0
  replace c_A_1 : V9.cell? ⟨w.heap.size, 1, none⟩ = some (.slice aB x0.fr.used.length cB) := b_xA.cell 1
  replace c_A_2 : V9.cell? ⟨w.heap.size, 2, none⟩ = some (.slice aC x0.tb.length cC) := b_xA.cell 2
  replace l_A := b_xA.lt
  replace b_xX := b_xX.mv q9 (by omega)
  replace c_X_0 : V9.cell? ⟨V4.heap.size, 0, none⟩ = some (.slice b_X x0.fr.cells.length d_X) := b_xX.cell 0
  replace c_X_1 : V9.cell? ⟨V4.heap.size, 1, none⟩ = some (.slice b2_X x0.fr.used.length d2_X) := b_xX.cell 1
  replace c_X_2 : V9.cell? ⟨V4.heap.size, 2, none⟩ = some (.slice b3_X x0.tb.length d3_X) := b_xX.cell 2
  replace l_X := b_xX.lt
  have Q9 := Chg.comp Q8 q9 (.inl (by omega))
  replace hin := HIN.out.keep Q9
  go_wp2_with fail
  refine (eq_IntS _ _ _ h_G0 h_W0 hr0).mono ?_
  rintro e V10 ⟨rfl, k10⟩
  have q10 : Keep V9 V10 := Chg.keep (by repeat (first | exact Chg.refl _ _ _ | apply Chg.alloc)) k10
  have t10 := k10.size
  try simp only [size_alloc] at t10
  replace h_W0 := h_W0.keep q10
  replace h_X := h_X.keep q10
  replace h_G0 := h_G0.keep q10
  replace b_xA := b_xA.keep q10
  replace c_A_0 : V10.cell? ⟨w.heap.size, 0, none⟩ = some (.slice aA x0.fr.cells.length cA) := b_xA.cell 0
  replace c_A_1 : V10.cell? ⟨w.heap.size, 1, none⟩ = some (.slice aB x0.fr.used.length cB) := b_xA.cell 1
  replace c_A_2 : V10.cell? ⟨w.heap.size, 2, none⟩ = some (.slice aC x0.tb.length cC) := b_xA.cell 2
  replace l_A := b_xA.lt
  replace b_xX := b_xX.keep q10
  replace c_X_0 : V10.cell? ⟨V4.heap.size, 0, none⟩ = some (.slice b_X x0.fr.cells.length d_X) := b_xX.cell 0
  replace c_X_1 : V10.cell? ⟨V4.heap.size, 1, none⟩ = some (.slice b2_X x0.fr.used.length d2_X) := b_xX.cell 1
  replace c_X_2 : V10.cell? ⟨V4.heap.size, 2, none⟩ = some (.slice b3_X x0.tb.length d3_X) := b_xX.cell 2
  replace l_X := b_xX.lt
  have Q10 := Chg.keep Q9 q10
  replace hin := HIN.out.keep Q10
  go_wp2_with fail
  refine (mark_IntS _ _ h_G0 (by omega) hr0).mono ?_
  rintro e V11 ⟨rfl, h_G0, k11⟩
  have q11 := Chg.trans (a := V10) (by repeat (first | exact Chg.refl _ _ _ | apply Chg.alloc)) k11
  have t11 := k11.size
  try simp only [size_alloc] at t11
  have tt11 := q11.size
  replace h_W0 := h_W0.mv q11 (by omega)
  replace h_X := h_X.mv q11 (by omega)
  replace b_xA := b_xA.mv q11 (by omega)
  replace c_A_0 : V11.cell? ⟨w.heap.size, 0, none⟩ = some (.slice aA x0.fr.cells.length cA) := b_xA.cell 0
  replace c_A_1 : V11.cell? ⟨w.heap.size, 1, none⟩ = some (.slice aB x0.fr.used.length cB) := b_xA.cell 1
  replace c_A_2 : V11.cell? ⟨w.heap.size, 2, none⟩ = some (.slice aC x0.tb.length cC) := b_xA.cell 2
  replace l_A := b_xA.lt
  replace b_xX := b_xX.mv q11 (by omega)
  replace c_X_0 : V11.cell? ⟨V4.heap.size, 0, none⟩ = some (.slice b_X x0.fr.cells.length d_X) := b_xX.cell 0
  replace c_X_1 : V11.cell? ⟨V4.heap.size, 1, none⟩ = some (.slice b2_X x0.fr.used.length d2_X) := b_xX.cell 1
  replace c_X_2 : V11.cell? ⟨V4.heap.size, 2, none⟩ = some (.slice b3_X x0.tb.length d3_X) := b_xX.cell 2
  replace l_X := b_xX.lt
  have Q11 := Chg.comp Q10 q11 (.inl (by omega))
  replace hin := HIN.out.keep Q11
  go_wp2_with fail
  refine (held_IntS _ _ h_G0 hr0).mono ?_
  rintro e V12 ⟨rfl, k12⟩
  have q12 : Keep V11 V12 := Chg.keep (by repeat (first | exact Chg.refl _ _ _ | apply Chg.alloc)) k12
  have t12 := k12.size
  try simp only [size_alloc] at t12
  replace h_W0 := h_W0.keep q12
  replace h_X := h_X.keep q12
  replace h_G0 := h_G0.keep q12
  replace b_xA := b_xA.keep q12
  replace c_A_0 : V12.cell? ⟨w.heap.size, 0, none⟩ = some (.slice aA x0.fr.cells.length cA) := b_xA.cell 0
  replace c_A_1 : V12.cell? ⟨w.heap.size, 1, none⟩ = some (.slice aB x0.fr.used.length cB) := b_xA.cell 1
  replace c_A_2 : V12.cell? ⟨w.heap.size, 2, none⟩ = some (.slice aC x0.tb.length cC) := b_xA.cell 2
  replace l_A := b_xA.lt
  replace b_xX := b_xX.keep q12
  replace c_X_0 : V12.cell? ⟨V4.heap.size, 0, none⟩ = some (.slice b_X x0.fr.cells.length d_X) := b_xX.cell 0
  replace c_X_1 : V12.cell? ⟨V4.heap.size, 1, none⟩ = some (.slice b2_X x0.fr.used.length d2_X) := b_xX.cell 1
  replace c_X_2 : V12.cell? ⟨V4.heap.size, 2, none⟩ = some (.slice b3_X x0.tb.length d3_X) := b_xX.cell 2
  replace l_X := b_xX.lt
  have Q12 := Chg.keep Q11 q12
  replace hin := HIN.out.keep Q12
  go_wp2_with fail
  refine (to_Machine _ _ hin hs).mono ?_
  rintro e V13 ⟨v_Y, rfl, h_Y, k13⟩
  have q13 : Keep V12 V13 := Chg.keep (by repeat (first | exact Chg.refl _ _ _ | apply Chg.alloc)) k13
  have t13 := k13.size
  try simp only [size_alloc] at t13
  replace h_W0 := h_W0.keep q13
  replace h_X := h_X.keep q13
  replace h_G0 := h_G0.keep q13
  replace b_xA := b_xA.keep q13
  replace c_A_0 : V13.cell? ⟨w.heap.size, 0, none⟩ = some (.slice aA x0.fr.cells.length cA) := b_xA.cell 0
  replace c_A_1 : V13.cell? ⟨w.heap.size, 1, none⟩ = some (.slice aB x0.fr.used.length cB) := b_xA.cell 1
  replace c_A_2 : V13.cell? ⟨w.heap.size, 2, none⟩ = some (.slice aC x0.tb.length cC) := b_xA.cell 2
  replace l_A := b_xA.lt
  replace b_xX := b_xX.keep q13
  replace c_X_0 : V13.cell? ⟨V4.heap.size, 0, none⟩ = some (.slice b_X x0.fr.cells.length d_X) := b_xX.cell 0
  replace c_X_1 : V13.cell? ⟨V4.heap.size, 1, none⟩ = some (.slice b2_X x0.fr.used.length d2_X) := b_xX.cell 1
  replace c_X_2 : V13.cell? ⟨V4.heap.size, 2, none⟩ = some (.slice b3_X x0.tb.length d3_X) := b_xX.cell 2
  replace l_X := b_xX.lt
  have Q13 := Chg.keep Q12 q13
  replace hin := HIN.out.keep Q13
  try simp only [size_alloc] at h_Y
  obtain ⟨b_Y, d_Y, b2_Y, d2_Y, b3_Y, d3_Y, rfl, _⟩ := h_Y.opened
  go_wp2_with fail
  refine (pageText_any _ _ _ h_Y hs).mono ?_
  rw [HR0.out]
  rintro e V14 ⟨v_H0, rfl, h_H0, k14⟩
  have q14 : Keep V13 V14 := Chg.keep (by repeat (first | exact Chg.refl _ _ _ | apply Chg.alloc)) k14
  have t14 := k14.size
  try simp only [size_alloc] at t14
  replace h_W0 := h_W0.keep q14
  replace h_X := h_X.keep q14
  replace h_G0 := h_G0.keep q14
  replace h_Y := h_Y.keep q14
  replace b_xA := b_xA.keep q14
  replace c_A_0 : V14.cell? ⟨w.heap.size, 0, none⟩ = some (.slice aA x0.fr.cells.length cA) := b_xA.cell 0
  replace c_A_1 : V14.cell? ⟨w.heap.size, 1, none⟩ = some (.slice aB x0.fr.used.length cB) := b_xA.cell 1
  replace c_A_2 : V14.cell? ⟨w.heap.size, 2, none⟩ = some (.slice aC x0.tb.length cC) := b_xA.cell 2
  replace l_A := b_xA.lt
  replace b_xX := b_xX.keep q14
  replace c_X_0 : V14.cell? ⟨V4.heap.size, 0, none⟩ = some (.slice b_X x0.fr.cells.length d_X) := b_xX.cell 0
  replace c_X_1 : V14.cell? ⟨V4.heap.size, 1, none⟩ = some (.slice b2_X x0.fr.used.length d2_X) := b_xX.cell 1
  replace c_X_2 : V14.cell? ⟨V4.heap.size, 2, none⟩ = some (.slice b3_X x0.tb.length d3_X) := b_xX.cell 2
  replace l_X := b_xX.lt
  have Q14 := Chg.keep Q13 q14
  replace hin := HIN.out.keep Q14
  try simp only [size_alloc] at h_H0
  go_wp2_with fail
  refine (eq_IntS _ _ _ h_H0 h_W0 hr0).mono ?_
  rintro e V15 ⟨rfl, k15⟩
  have q15 : Keep V14 V15 := Chg.keep (by repeat (first | exact Chg.refl _ _ _ | apply Chg.alloc)) k15
  have t15 := k15.size
  try simp only [size_alloc] at t15
  replace h_W0 := h_W0.keep q15
  replace h_X := h_X.keep q15
  replace h_G0 := h_G0.keep q15
  replace h_Y := h_Y.keep q15
  replace h_H0 := h_H0.keep q15
  replace b_xA := b_xA.keep q15
  replace c_A_0 : V15.cell? ⟨w.heap.size, 0, none⟩ = some (.slice aA x0.fr.cells.length cA) := b_xA.cell 0
  replace c_A_1 : V15.cell? ⟨w.heap.size, 1, none⟩ = some (.slice aB x0.fr.used.length cB) := b_xA.cell 1
  replace c_A_2 : V15.cell? ⟨w.heap.size, 2, none⟩ = some (.slice aC x0.tb.length cC) := b_xA.cell 2
  replace l_A := b_xA.lt
  replace b_xX := b_xX.keep q15
  replace c_X_0 : V15.cell? ⟨V4.heap.size, 0, none⟩ = some (.slice b_X x0.fr.cells.length d_X) := b_xX.cell 0
  replace c_X_1 : V15.cell? ⟨V4.heap.size, 1, none⟩ = some (.slice b2_X x0.fr.used.length d2_X) := b_xX.cell 1
  replace c_X_2 : V15.cell? ⟨V4.heap.size, 2, none⟩ = some (.slice b3_X x0.tb.length d3_X) := b_xX.cell 2
  replace l_X := b_xX.lt
  have Q15 := Chg.keep Q14 q15
  replace hin := HIN.out.keep Q15
  go_wp2_with fail
  refine (held_IntS _ _ h_G0 hr0).mono ?_
  rintro e V16 ⟨rfl, k16⟩
  have q16 : Keep V15 V16 := Chg.keep (by repeat (first | exact Chg.refl _ _ _ | apply Chg.alloc)) k16
  have t16 := k16.size
  try simp only [size_alloc] at t16
  replace h_W0 := h_W0.keep q16
  replace h_X := h_X.keep q16
  replace h_G0 := h_G0.keep q16
  replace h_Y := h_Y.keep q16
  replace h_H0 := h_H0.keep q16
  replace b_xA := b_xA.keep q16
  replace c_A_0 : V16.cell? ⟨w.heap.size, 0, none⟩ = some (.slice aA x0.fr.cells.length cA) := b_xA.cell 0
  replace c_A_1 : V16.cell? ⟨w.heap.size, 1, none⟩ = some (.slice aB x0.fr.used.length cB) := b_xA.cell 1
  replace c_A_2 : V16.cell? ⟨w.heap.size, 2, none⟩ = some (.slice aC x0.tb.length cC) := b_xA.cell 2
  replace l_A := b_xA.lt
  replace b_xX := b_xX.keep q16
  replace c_X_0 : V16.cell? ⟨V4.heap.size, 0, none⟩ = some (.slice b_X x0.fr.cells.length d_X) := b_xX.cell 0
  replace c_X_1 : V16.cell? ⟨V4.heap.size, 1, none⟩ = some (.slice b2_X x0.fr.used.length d2_X) := b_xX.cell 1
  replace c_X_2 : V16.cell? ⟨V4.heap.size, 2, none⟩ = some (.slice b3_X x0.tb.length d3_X) := b_xX.cell 2
  replace l_X := b_xX.lt
  have Q16 := Chg.keep Q15 q16
  replace hin := HIN.out.keep Q16
  go_wp2_with fail
  go_ret
  exact ⟨rfl, Keep.below Q16⟩

theorem own : ownKnob Try.prog.godebug = none := by kernel_rfl
theorem laidOut : laidOutB Try.prog = true := by kernel_rfl
set_option maxRecDepth 100000 in
theorem lifted (os : Os) (started : os.Started) (H : Type) (enc : TypeId × Value → H) :
    ReturnsInHanded {} Try.checked os 3 .any (Rows.fnExactPageTextSpec.pre6 enc Try.prog Try.f3 Rows.fnExactPageTextRow.domain false) (Rows.fnExactPageTextSpec.post enc Try.prog Try.f3 false true false false) := by
  refine returnsInHanded_of_change (C := Try.checked) own started (by kernel_rfl) Try.func3
    (ChangeSpec.witness6 (enc := enc) (C := Try.checked) false ⟨#[], #[.agg #[.slice none 0 0, .slice none 0 0, .slice none 0 0], .int .i64 0], []⟩ 8 (by kernel_rfl) (by kernel_rfl) (by kernel_rfl) (by kernel_rfl)) ?_
  intro W base args ds gs before hval0 hW hcnd _
  have hval : ∀ (j : Nat) t v, Try.f3.params[j]? = some t → args[j]? = some v → Value.okWide Try.prog W .any base t v := hval0
  have hW' := hW
  obtain ⟨p, q, hA0, hV, rfl, hfz, hnd⟩ := hW
  have hA : DataW.TrodAll enc Try.prog W 0 (fun _ => true) true Try.f3.params.toList args.toList ds p := hA0
  rw [Try.params3] at hA hval
  obtain ⟨v0, vs0, d0, ds0, p0, q0, hargs, rfl, rfl, h0, r0⟩ := trodAll_cons hA
  obtain ⟨v1, vs1, d1, ds1, p1, q1, rfl, rfl, rfl, h1, r1⟩ := trodAll_cons r0
  obtain ⟨rfl, rfl, rfl⟩ := trodAll_nil r1
  obtain rfl : args = #[v0, v1] := by cases args; simp_all
  obtain ⟨rfl, rfl⟩ := trodVars_none hV
  have k0 := h0
  have lt0 : ∀ x ∈ p0, x.block < W.heap.size := by obtain ⟨m, hm⟩ := k0; exact DataW.trod_lt m _ _ _ hm
  obtain ⟨x0, w0⟩ := open_InMa (hval 0 30 v0 rfl rfl) h0
  obtain ⟨a1, rfl, rfl, rfl, w1⟩ := open_int Try.underlying3 (hval 1 3 v1 rfl rfl) h1
  clear hA0 hval0
  refine (walk _ x0 a1 W w0 w1).mono fun e W' ⟨he, bel⟩ => ?_
  subst he
  exact ⟨_, rfl, _, _, _, [], _, [], hW', trodAll_mk1 (shut_bool Try.underlying4 _), (trodAll_cons_mk (Below.trod laidOut (by kernel_rfl) (of_decide_eq_true (by kernel_rfl)) k0 bel lt0) (trodAll_cons_mk (shut_int Try.underlying3 w1) trodAll_mk0)), rfl, bel.frame _, fun h => by cases h⟩

theorem over : Rows.fnExactPageTextRow.holds Try.pinned (OpenSpec.ofChange Rows.fnExactPageTextSpec) :=
  OpenClaim.holds_of_wide 3 Try.f3 rfl rfl rfl rfl rfl rfl rfl ⟨rfl, rfl, rfl, rfl, rfl⟩ rfl rfl rfl rfl rfl (by kernel_rfl) Try.func3 (by kernel_rfl)
    (of_decide_eq_true (by kernel_rfl)) (by unfold Func.isWrapper; first | (rw [if_pos (by decide +kernel)]; kernel_rfl) | (rw [if_neg (by decide +kernel)]; exact ⟨rfl, rfl⟩))
    (fun os started H enc _ => lifted os started H enc)

/-- The statement. -/
theorem proved : Rows.FnExactPageTextSaid := over
#print axioms proved
end Go.Proofs.Ytkcoehkfhffjkaa.fnExactPageText
