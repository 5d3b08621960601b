/- The Go law FnExactKernelNew returns true for all arguments and leaves its arguments as they were. Conditions: none. The frame follows the kit's shell; the walk is mine. -/
import Derived.Test.YtkcoehkfhffjkaaRows
import Derived.WalkKit
import Derived.ProofKit
import Derived.OpenShut
import Derived.Test.YtkcoehkfhffjkaaOpenKe
import Derived.Test.YtkcoehkfhffjkaaKeMadeS
import Derived.Deep.RegionHeld3
import Derived.ShutString
import Derived.ChangeOld
import Derived.Below
namespace Go.Proofs.Ytkcoehkfhffjkaa.fnExactKernelNew
open Go.ChangeShapes Go.WideShapes Go.ChangeAt Go.RowKit
open Go.ChangeMaps (open_string shut_string)
set_option linter.unusedVariables false
set_option linter.unusedSimpArgs false

set_option maxHeartbeats 4000000 in
theorem walk (a0 : Int) (a1 : Int) (v2 : Value) (x2 : (List Int)) (w : World) (w0 : (Lit.int .i64 a0).wf = true) (w1 : (Lit.int .i64 a1).wf = true) (w2 : InI w v2 x2) :
    Calls Try.prog 4 #[.int .i64 a0, .int .i64 a1, v2] w fun e w' => e = .returned (.bool true) ∧ Below w.heap.size w w' := by
  obtain ⟨aL, cL, rfl, hlL, hfL⟩ := w2
  have hin : InI w (.slice aL x2.length cL) x2 := ⟨aL, cL, rfl, hlL, hfL⟩
  unfold maxLen at hlL
  clear hfL
  have HIN := Lib.hid hin
  by_cases hbig : (1048576 : Int) < x2.length
  · go_enter Try.func4, Try.ntmps4
    go_wp2_with fail
    go_ret
    exact ⟨rfl, Below.refl _ _⟩
  have hn : x2.length ≤ 1048576 := by omega
  have hr0 := kernelNewD_sm a0 a1 x2
  go_enter Try.func4, Try.ntmps4
  go_wp2_with fail
  refine (toIntS_any _ _ _ hin hn).mono ?_
  rintro e V1 ⟨v_T, rfl, h_T, k1⟩
  have q1 : Keep w V1 := Chg.keep (by repeat (first | exact Chg.refl _ _ _ | apply Chg.alloc)) k1
  have t1 := k1.size
  try simp only [size_alloc] at t1
  have Q1 := q1
  try simp only [size_alloc] at h_T
  obtain ⟨b_T, d_T, rfl, _, h_T⟩ := h_T.slice
  replace hin := HIN.out.keep Q1
  go_wp2_with fail
  refine (kernelNew_spec _ _ _ _ h_T hn).mono ?_
  generalize hR0 : kernelNewD a0 a1 x2 = r0 at hr0 ⊢
  have HR0 := Lib.hid hR0
  clear hR0
  generalize hR1 : kernelNewOk a0 a1 x2 = r1
  have HR1 := Lib.hid hR1
  clear hR1
  rintro e V2 ⟨v_W0, rfl, h_W0, k2⟩
  have q2 : Keep V1 V2 := Chg.keep (by repeat (first | exact Chg.refl _ _ _ | apply Chg.alloc)) k2
  have t2 := k2.size
  try simp only [size_alloc] at t2
  replace h_T := h_T.keep q2
  have Q2 := Chg.keep Q1 q2
  replace hin := HIN.out.keep Q2
  try simp only [size_alloc] at h_W0
  obtain ⟨b_W0, d_W0, b2_W0, d2_W0, b3_W0, d3_W0, b4_W0, d4_W0, rfl, _⟩ := h_W0.opened
  clear h_T
  go_wp2_with fail
  refine (toIntS_any _ _ _ (hin.keep (by repeat (first | exact Chg.refl _ _ _ | apply Chg.alloc))) hn).mono ?_
  rintro e V3 ⟨v_X, rfl, h_X, k3⟩
  have q3 : Keep V2 V3 := Chg.keep (by repeat (first | exact Chg.refl _ _ _ | apply Chg.alloc)) k3
  have t3 := k3.size
  try simp only [size_alloc] at t3
  replace h_W0 := h_W0.keep q3
  have b_xW0 := (Blk.new V2 47 #[.slice b_W0 r0.ma.fr.cells.length d_W0, .slice b2_W0 r0.ma.fr.used.length d2_W0, .slice b3_W0 r0.ma.tb.length d3_W0, .int .i64 r0.calls, .slice b4_W0 r0.refuse.length d4_W0]).keep k3
  have c_W0_0 : V3.cell? ⟨V2.heap.size, 0, none⟩ = some (.slice b_W0 r0.ma.fr.cells.length d_W0) := b_xW0.cell 0
  have c_W0_1 : V3.cell? ⟨V2.heap.size, 1, none⟩ = some (.slice b2_W0 r0.ma.fr.used.length d2_W0) := b_xW0.cell 1
  have c_W0_2 : V3.cell? ⟨V2.heap.size, 2, none⟩ = some (.slice b3_W0 r0.ma.tb.length d3_W0) := b_xW0.cell 2
  have c_W0_3 : V3.cell? ⟨V2.heap.size, 3, none⟩ = some (.int .i64 r0.calls) := b_xW0.cell 3
  have c_W0_4 : V3.cell? ⟨V2.heap.size, 4, none⟩ = some (.slice b4_W0 r0.refuse.length d4_W0) := b_xW0.cell 4
  have l_W0 := b_xW0.lt
  have Q3 := Chg.keep Q2 q3
  replace hin := HIN.out.keep Q3
  try simp only [size_alloc] at h_X
  obtain ⟨b_X, d_X, rfl, _, h_X⟩ := h_X.slice
  go_wp2_with fail
  refine (kernelNew_any _ _ _ _ h_X hn).mono ?_
  rw [HR0.out, HR1.out]
  rintro e V4 ⟨v_G0, rfl, h_G0, k4⟩
  have q4 : Keep V3 V4 := Chg.keep (by repeat (first | exact Chg.refl _ _ _ | apply Chg.alloc)) k4
  have t4 := k4.size
  try simp only [size_alloc] at t4
  replace h_W0 := h_W0.keep q4
  replace h_X := h_X.keep q4
  replace b_xW0 := b_xW0.keep q4
  replace c_W0_0 : V4.cell? ⟨V2.heap.size, 0, none⟩ = some (.slice b_W0 r0.ma.fr.cells.length d_W0) := b_xW0.cell 0
  replace c_W0_1 : V4.cell? ⟨V2.heap.size, 1, none⟩ = some (.slice b2_W0 r0.ma.fr.used.length d2_W0) := b_xW0.cell 1
  replace c_W0_2 : V4.cell? ⟨V2.heap.size, 2, none⟩ = some (.slice b3_W0 r0.ma.tb.length d3_W0) := b_xW0.cell 2
  replace c_W0_3 : V4.cell? ⟨V2.heap.size, 3, none⟩ = some (.int .i64 r0.calls) := b_xW0.cell 3
  replace c_W0_4 : V4.cell? ⟨V2.heap.size, 4, none⟩ = some (.slice b4_W0 r0.refuse.length d4_W0) := b_xW0.cell 4
  replace l_W0 := b_xW0.lt
  have Q4 := Chg.keep Q3 q4
  replace hin := HIN.out.keep Q4
  try simp only [size_alloc] at h_G0
  obtain ⟨b_G0, d_G0, b2_G0, d2_G0, b3_G0, d3_G0, b4_G0, d4_G0, rfl, _⟩ := h_G0.opened
  go_wp2_with fail
  refine (eq_Kernel _ _ _ ((h_G0.keep (by repeat (first | exact Chg.refl _ _ _ | apply Chg.alloc)))).ke ((h_W0.keep (by repeat (first | exact Chg.refl _ _ _ | apply Chg.alloc)))).ke hr0).mono ?_
  rintro e V5 ⟨rfl, k5⟩
  have q5 : Keep V4 V5 := Chg.keep (by repeat (first | exact Chg.refl _ _ _ | apply Chg.alloc)) k5
  have t5 := k5.size
  try simp only [size_alloc] at t5
  replace h_W0 := h_W0.keep q5
  replace h_X := h_X.keep q5
  replace h_G0 := h_G0.keep q5
  replace b_xW0 := b_xW0.keep q5
  replace c_W0_0 : V5.cell? ⟨V2.heap.size, 0, none⟩ = some (.slice b_W0 r0.ma.fr.cells.length d_W0) := b_xW0.cell 0
  replace c_W0_1 : V5.cell? ⟨V2.heap.size, 1, none⟩ = some (.slice b2_W0 r0.ma.fr.used.length d2_W0) := b_xW0.cell 1
  replace c_W0_2 : V5.cell? ⟨V2.heap.size, 2, none⟩ = some (.slice b3_W0 r0.ma.tb.length d3_W0) := b_xW0.cell 2
  replace c_W0_3 : V5.cell? ⟨V2.heap.size, 3, none⟩ = some (.int .i64 r0.calls) := b_xW0.cell 3
  replace c_W0_4 : V5.cell? ⟨V2.heap.size, 4, none⟩ = some (.slice b4_W0 r0.refuse.length d4_W0) := b_xW0.cell 4
  replace l_W0 := b_xW0.lt
  have b_xG0 := (Blk.new V4 47 #[.slice b_G0 r0.ma.fr.cells.length d_G0, .slice b2_G0 r0.ma.fr.used.length d2_G0, .slice b3_G0 r0.ma.tb.length d3_G0, .int .i64 r0.calls, .slice b4_G0 r0.refuse.length d4_G0]).keep k5
  have c_G0_0 : V5.cell? ⟨V4.heap.size, 0, none⟩ = some (.slice b_G0 r0.ma.fr.cells.length d_G0) := b_xG0.cell 0
  have c_G0_1 : V5.cell? ⟨V4.heap.size, 1, none⟩ = some (.slice b2_G0 r0.ma.fr.used.length d2_G0) := b_xG0.cell 1
  have c_G0_2 : V5.cell? ⟨V4.heap.size, 2, none⟩ = some (.slice b3_G0 r0.ma.tb.length d3_G0) := b_xG0.cell 2
  have c_G0_3 : V5.cell? ⟨V4.heap.size, 3, none⟩ = some (.int .i64 r0.calls) := b_xG0.cell 3
  have c_G0_4 : V5.cell? ⟨V4.heap.size, 4, none⟩ = some (.slice b4_G0 r0.refuse.length d4_G0) := b_xG0.cell 4
  have l_G0 := b_xG0.lt
  have Q5 := Chg.keep Q4 q5
  replace hin := HIN.out.keep Q5
  go_wp2_with fail
  refine (toIntS_any _ _ _ hin hn).mono ?_
  rintro e V6 ⟨v_Y, rfl, h_Y, k6⟩
  have q6 : Keep V5 V6 := Chg.keep (by repeat (first | exact Chg.refl _ _ _ | apply Chg.alloc)) k6
  have t6 := k6.size
  try simp only [size_alloc] at t6
  replace h_W0 := h_W0.keep q6
  replace h_X := h_X.keep q6
  replace h_G0 := h_G0.keep q6
  replace b_xW0 := b_xW0.keep q6
  replace c_W0_0 : V6.cell? ⟨V2.heap.size, 0, none⟩ = some (.slice b_W0 r0.ma.fr.cells.length d_W0) := b_xW0.cell 0
  replace c_W0_1 : V6.cell? ⟨V2.heap.size, 1, none⟩ = some (.slice b2_W0 r0.ma.fr.used.length d2_W0) := b_xW0.cell 1
  replace c_W0_2 : V6.cell? ⟨V2.heap.size, 2, none⟩ = some (.slice b3_W0 r0.ma.tb.length d3_W0) := b_xW0.cell 2
  replace c_W0_3 : V6.cell? ⟨V2.heap.size, 3, none⟩ = some (.int .i64 r0.calls) := b_xW0.cell 3
  replace c_W0_4 : V6.cell? ⟨V2.heap.size, 4, none⟩ = some (.slice b4_W0 r0.refuse.length d4_W0) := b_xW0.cell 4
  replace l_W0 := b_xW0.lt
  replace b_xG0 := b_xG0.keep q6
  replace c_G0_0 : V6.cell? ⟨V4.heap.size, 0, none⟩ = some (.slice b_G0 r0.ma.fr.cells.length d_G0) := b_xG0.cell 0
  replace c_G0_1 : V6.cell? ⟨V4.heap.size, 1, none⟩ = some (.slice b2_G0 r0.ma.fr.used.length d2_G0) := b_xG0.cell 1
  replace c_G0_2 : V6.cell? ⟨V4.heap.size, 2, none⟩ = some (.slice b3_G0 r0.ma.tb.length d3_G0) := b_xG0.cell 2
  replace c_G0_3 : V6.cell? ⟨V4.heap.size, 3, none⟩ = some (.int .i64 r0.calls) := b_xG0.cell 3
  replace c_G0_4 : V6.cell? ⟨V4.heap.size, 4, none⟩ = some (.slice b4_G0 r0.refuse.length d4_G0) := b_xG0.cell 4
  replace l_G0 := b_xG0.lt
  have Q6 := Chg.keep Q5 q6
  replace hin := HIN.out.keep Q6
  try simp only [size_alloc] at h_Y
  obtain ⟨b_Y, d_Y, rfl, _, h_Y⟩ := h_Y.slice
  go_wp2_with fail
  refine (eqIntS_same _ _ _ h_X h_Y (by omega)).mono ?_
  rintro e V7 ⟨rfl, k7⟩
  have q7 : Keep V6 V7 := Chg.keep (by repeat (first | exact Chg.refl _ _ _ | apply Chg.alloc)) k7
  have t7 := k7.size
  try simp only [size_alloc] at t7
  replace h_W0 := h_W0.keep q7
  replace h_X := h_X.keep q7
  replace h_G0 := h_G0.keep q7
  replace h_Y := h_Y.keep q7
  replace b_xW0 := b_xW0.keep q7
  replace c_W0_0 : V7.cell? ⟨V2.heap.size, 0, none⟩ = some (.slice b_W0 r0.ma.fr.cells.length d_W0) := b_xW0.cell 0
  replace c_W0_1 : V7.cell? ⟨V2.heap.size, 1, none⟩ = some (.slice b2_W0 r0.ma.fr.used.length d2_W0) := b_xW0.cell 1
  replace c_W0_2 : V7.cell? ⟨V2.heap.size, 2, none⟩ = some (.slice b3_W0 r0.ma.tb.length d3_W0) := b_xW0.cell 2
  replace c_W0_3 : V7.cell? ⟨V2.heap.size, 3, none⟩ = some (.int .i64 r0.calls) := b_xW0.cell 3
  replace c_W0_4 : V7.cell? ⟨V2.heap.size, 4, none⟩ = some (.slice b4_W0 r0.refuse.length d4_W0) := b_xW0.cell 4
  replace l_W0 := b_xW0.lt
  replace b_xG0 := b_xG0.keep q7
  replace c_G0_0 : V7.cell? ⟨V4.heap.size, 0, none⟩ = some (.slice b_G0 r0.ma.fr.cells.length d_G0) := b_xG0.cell 0
  replace c_G0_1 : V7.cell? ⟨V4.heap.size, 1, none⟩ = some (.slice b2_G0 r0.ma.fr.used.length d2_G0) := b_xG0.cell 1
  replace c_G0_2 : V7.cell? ⟨V4.heap.size, 2, none⟩ = some (.slice b3_G0 r0.ma.tb.length d3_G0) := b_xG0.cell 2
  replace c_G0_3 : V7.cell? ⟨V4.heap.size, 3, none⟩ = some (.int .i64 r0.calls) := b_xG0.cell 3
  replace c_G0_4 : V7.cell? ⟨V4.heap.size, 4, none⟩ = some (.slice b4_G0 r0.refuse.length d4_G0) := b_xG0.cell 4
  replace l_G0 := b_xG0.lt
  have Q7 := Chg.keep Q6 q7
  replace hin := HIN.out.keep Q7
  clear h_Y
  go_wp2_with fail
  refine (markIntS_any _ _ _ h_X (by omega) (by omega) (by omega)).mono ?_
  rintro e V8 ⟨rfl, h_X, -, k8⟩
  have q8 := Chg.trans (a := V7) (by repeat (first | exact Chg.refl _ _ _ | apply Chg.alloc)) k8
  have t8 := k8.size
  try simp only [size_alloc] at t8
  have tt8 := q8.size
  replace h_W0 := h_W0.mv q8 (by omega)
  replace h_G0 := h_G0.mv q8 (by omega)
  replace b_xW0 := b_xW0.mv q8 (by omega)
  replace c_W0_0 : V8.cell? ⟨V2.heap.size, 0, none⟩ = some (.slice b_W0 r0.ma.fr.cells.length d_W0) := b_xW0.cell 0
  replace c_W0_1 : V8.cell? ⟨V2.heap.size, 1, none⟩ = some (.slice b2_W0 r0.ma.fr.used.length d2_W0) := b_xW0.cell 1
  replace c_W0_2 : V8.cell? ⟨V2.heap.size, 2, none⟩ = some (.slice b3_W0 r0.ma.tb.length d3_W0) := b_xW0.cell 2
  replace c_W0_3 : V8.cell? ⟨V2.heap.size, 3, none⟩ = some (.int .i64 r0.calls) := b_xW0.cell 3
  replace c_W0_4 : V8.cell? ⟨V2.heap.size, 4, none⟩ = some (.slice b4_W0 r0.refuse.length d4_W0) := b_xW0.cell 4
  replace l_W0 := b_xW0.lt
  replace b_xG0 := b_xG0.mv q8 (by omega)
  replace c_G0_0 : V8.cell? ⟨V4.heap.size, 0, none⟩ = some (.slice b_G0 r0.ma.fr.cells.length d_G0) := b_xG0.cell 0
  replace c_G0_1 : V8.cell? ⟨V4.heap.size, 1, none⟩ = some (.slice b2_G0 r0.ma.fr.used.length d2_G0) := b_xG0.cell 1
  replace c_G0_2 : V8.cell? ⟨V4.heap.size, 2, none⟩ = some (.slice b3_G0 r0.ma.tb.length d3_G0) := b_xG0.cell 2
  replace c_G0_3 : V8.cell? ⟨V4.heap.size, 3, none⟩ = some (.int .i64 r0.calls) := b_xG0.cell 3
  replace c_G0_4 : V8.cell? ⟨V4.heap.size, 4, none⟩ = some (.slice b4_G0 r0.refuse.length d4_G0) := b_xG0.cell 4
  replace l_G0 := b_xG0.lt
  have Q8 := Chg.comp Q7 q8 (.inl (by omega))
  replace hin := HIN.out.keep Q8
  go_wp2_with fail
  refine (eq_Kernel _ _ _ (h_G0).ke (h_W0).ke hr0).mono ?_
  rintro e V9 ⟨rfl, k9⟩
  have q9 : Keep V8 V9 := Chg.keep (by repeat (first | exact Chg.refl _ _ _ | apply Chg.alloc)) k9
  have t9 := k9.size
  try simp only [size_alloc] at t9
  replace h_W0 := h_W0.keep q9
  replace h_X := h_X.keep q9
  replace h_G0 := h_G0.keep q9
  replace b_xW0 := b_xW0.keep q9
  replace c_W0_0 : V9.cell? ⟨V2.heap.size, 0, none⟩ = some (.slice b_W0 r0.ma.fr.cells.length d_W0) := b_xW0.cell 0
  replace c_W0_1 : V9.cell? ⟨V2.heap.size, 1, none⟩ = some (.slice b2_W0 r0.ma.fr.used.length d2_W0) := b_xW0.cell 1
  replace c_W0_2 : V9.cell? ⟨V2.heap.size, 2, none⟩ = some (.slice b3_W0 r0.ma.tb.length d3_W0) := b_xW0.cell 2
  replace c_W0_3 : V9.cell? ⟨V2.heap.size, 3, none⟩ = some (.int .i64 r0.calls) := b_xW0.cell 3
  replace c_W0_4 : V9.cell? ⟨V2.heap.size, 4, none⟩ = some (.slice b4_W0 r0.refuse.length d4_W0) := b_xW0.cell 4
  replace l_W0 := b_xW0.lt
  replace b_xG0 := b_xG0.keep q9
  replace c_G0_0 : V9.cell? ⟨V4.heap.size, 0, none⟩ = some (.slice b_G0 r0.ma.fr.cells.length d_G0) := b_xG0.cell 0
  replace c_G0_1 : V9.cell? ⟨V4.heap.size, 1, none⟩ = some (.slice b2_G0 r0.ma.fr.used.length d2_G0) := b_xG0.cell 1
  replace c_G0_2 : V9.cell? ⟨V4.heap.size, 2, none⟩ = some (.slice b3_G0 r0.ma.tb.length d3_G0) := b_xG0.cell 2
  replace c_G0_3 : V9.cell? ⟨V4.heap.size, 3, none⟩ = some (.int .i64 r0.calls) := b_xG0.cell 3
  replace c_G0_4 : V9.cell? ⟨V4.heap.size, 4, none⟩ = some (.slice b4_G0 r0.refuse.length d4_G0) := b_xG0.cell 4
  replace l_G0 := b_xG0.lt
  have Q9 := Chg.keep Q8 q9
  replace hin := HIN.out.keep Q9
  go_wp2_with fail
  refine (mark_Kernel _ _ h_G0 (by omega) hr0).mono ?_
  rintro e V10 ⟨rfl, h_G0, k10⟩
  have q10 := Chg.trans (a := V9) (by repeat (first | exact Chg.refl _ _ _ | apply Chg.alloc)) k10
  have t10 := k10.size
  try simp only [size_alloc] at t10
  have tt10 := q10.size
  replace h_W0 := h_W0.mv q10 (by omega)
  replace h_X := h_X.mv q10 (by omega)
  replace b_xW0 := b_xW0.mv q10 (by omega)
  replace c_W0_0 : V10.cell? ⟨V2.heap.size, 0, none⟩ = some (.slice b_W0 r0.ma.fr.cells.length d_W0) := b_xW0.cell 0
  replace c_W0_1 : V10.cell? ⟨V2.heap.size, 1, none⟩ = some (.slice b2_W0 r0.ma.fr.used.length d2_W0) := b_xW0.cell 1
  replace c_W0_2 : V10.cell? ⟨V2.heap.size, 2, none⟩ = some (.slice b3_W0 r0.ma.tb.length d3_W0) := b_xW0.cell 2
  replace c_W0_3 : V10.cell? ⟨V2.heap.size, 3, none⟩ = some (.int .i64 r0.calls) := b_xW0.cell 3
  replace c_W0_4 : V10.cell? ⟨V2.heap.size, 4, none⟩ = some (.slice b4_W0 r0.refuse.length d4_W0) := b_xW0.cell 4
  replace l_W0 := b_xW0.lt
  replace b_xG0 := b_xG0.mv q10 (by omega)
  replace c_G0_0 : V10.cell? ⟨V4.heap.size, 0, none⟩ = some (.slice b_G0 r0.ma.fr.cells.length d_G0) := b_xG0.cell 0
  replace c_G0_1 : V10.cell? ⟨V4.heap.size, 1, none⟩ = some (.slice b2_G0 r0.ma.fr.used.length d2_G0) := b_xG0.cell 1
  replace c_G0_2 : V10.cell? ⟨V4.heap.size, 2, none⟩ = some (.slice b3_G0 r0.ma.tb.length d3_G0) := b_xG0.cell 2
  replace c_G0_3 : V10.cell? ⟨V4.heap.size, 3, none⟩ = some (.int .i64 r0.calls) := b_xG0.cell 3
  replace c_G0_4 : V10.cell? ⟨V4.heap.size, 4, none⟩ = some (.slice b4_G0 r0.refuse.length d4_G0) := b_xG0.cell 4
  replace l_G0 := b_xG0.lt
  have Q10 := Chg.comp Q9 q10 (.inl (by omega))
  replace hin := HIN.out.keep Q10
  go_wp2_with fail
  refine (held_Kernel _ _ h_G0 hr0).mono ?_
  rintro e V11 ⟨rfl, k11⟩
  have q11 : Keep V10 V11 := Chg.keep (by repeat (first | exact Chg.refl _ _ _ | apply Chg.alloc)) k11
  have t11 := k11.size
  try simp only [size_alloc] at t11
  replace h_W0 := h_W0.keep q11
  replace h_X := h_X.keep q11
  replace h_G0 := h_G0.keep q11
  replace b_xW0 := b_xW0.keep q11
  replace c_W0_0 : V11.cell? ⟨V2.heap.size, 0, none⟩ = some (.slice b_W0 r0.ma.fr.cells.length d_W0) := b_xW0.cell 0
  replace c_W0_1 : V11.cell? ⟨V2.heap.size, 1, none⟩ = some (.slice b2_W0 r0.ma.fr.used.length d2_W0) := b_xW0.cell 1
  replace c_W0_2 : V11.cell? ⟨V2.heap.size, 2, none⟩ = some (.slice b3_W0 r0.ma.tb.length d3_W0) := b_xW0.cell 2
  replace c_W0_3 : V11.cell? ⟨V2.heap.size, 3, none⟩ = some (.int .i64 r0.calls) := b_xW0.cell 3
  replace c_W0_4 : V11.cell? ⟨V2.heap.size, 4, none⟩ = some (.slice b4_W0 r0.refuse.length d4_W0) := b_xW0.cell 4
  replace l_W0 := b_xW0.lt
  replace b_xG0 := b_xG0.keep q11
  replace c_G0_0 : V11.cell? ⟨V4.heap.size, 0, none⟩ = some (.slice b_G0 r0.ma.fr.cells.length d_G0) := b_xG0.cell 0
  replace c_G0_1 : V11.cell? ⟨V4.heap.size, 1, none⟩ = some (.slice b2_G0 r0.ma.fr.used.length d2_G0) := b_xG0.cell 1
  replace c_G0_2 : V11.cell? ⟨V4.heap.size, 2, none⟩ = some (.slice b3_G0 r0.ma.tb.length d3_G0) := b_xG0.cell 2
  replace c_G0_3 : V11.cell? ⟨V4.heap.size, 3, none⟩ = some (.int .i64 r0.calls) := b_xG0.cell 3
  replace c_G0_4 : V11.cell? ⟨V4.heap.size, 4, none⟩ = some (.slice b4_G0 r0.refuse.length d4_G0) := b_xG0.cell 4
  replace l_G0 := b_xG0.lt
  have Q11 := Chg.keep Q10 q11
  replace hin := HIN.out.keep Q11
  go_wp2_with fail
  refine (toIntS_any _ _ _ hin hn).mono ?_
  rintro e V12 ⟨v_Z, rfl, h_Z, k12⟩
  have q12 : Keep V11 V12 := Chg.keep (by repeat (first | exact Chg.refl _ _ _ | apply Chg.alloc)) k12
  have t12 := k12.size
  try simp only [size_alloc] at t12
  replace h_W0 := h_W0.keep q12
  replace h_X := h_X.keep q12
  replace h_G0 := h_G0.keep q12
  replace b_xW0 := b_xW0.keep q12
  replace c_W0_0 : V12.cell? ⟨V2.heap.size, 0, none⟩ = some (.slice b_W0 r0.ma.fr.cells.length d_W0) := b_xW0.cell 0
  replace c_W0_1 : V12.cell? ⟨V2.heap.size, 1, none⟩ = some (.slice b2_W0 r0.ma.fr.used.length d2_W0) := b_xW0.cell 1
  replace c_W0_2 : V12.cell? ⟨V2.heap.size, 2, none⟩ = some (.slice b3_W0 r0.ma.tb.length d3_W0) := b_xW0.cell 2
  replace c_W0_3 : V12.cell? ⟨V2.heap.size, 3, none⟩ = some (.int .i64 r0.calls) := b_xW0.cell 3
  replace c_W0_4 : V12.cell? ⟨V2.heap.size, 4, none⟩ = some (.slice b4_W0 r0.refuse.length d4_W0) := b_xW0.cell 4
  replace l_W0 := b_xW0.lt
  replace b_xG0 := b_xG0.keep q12
  replace c_G0_0 : V12.cell? ⟨V4.heap.size, 0, none⟩ = some (.slice b_G0 r0.ma.fr.cells.length d_G0) := b_xG0.cell 0
  replace c_G0_1 : V12.cell? ⟨V4.heap.size, 1, none⟩ = some (.slice b2_G0 r0.ma.fr.used.length d2_G0) := b_xG0.cell 1
  replace c_G0_2 : V12.cell? ⟨V4.heap.size, 2, none⟩ = some (.slice b3_G0 r0.ma.tb.length d3_G0) := b_xG0.cell 2
  replace c_G0_3 : V12.cell? ⟨V4.heap.size, 3, none⟩ = some (.int .i64 r0.calls) := b_xG0.cell 3
  replace c_G0_4 : V12.cell? ⟨V4.heap.size, 4, none⟩ = some (.slice b4_G0 r0.refuse.length d4_G0) := b_xG0.cell 4
  replace l_G0 := b_xG0.lt
  have Q12 := Chg.keep Q11 q12
  replace hin := HIN.out.keep Q12
  try simp only [size_alloc] at h_Z
  obtain ⟨b_Z, d_Z, rfl, _, h_Z⟩ := h_Z.slice
  go_wp2_with fail
  refine (kernelNew_any _ _ _ _ h_Z hn).mono ?_
  rw [HR0.out, HR1.out]
  rintro e V13 ⟨v_H0, rfl, h_H0, k13⟩
  have q13 : Keep V12 V13 := Chg.keep (by repeat (first | exact Chg.refl _ _ _ | apply Chg.alloc)) k13
  have t13 := k13.size
  try simp only [size_alloc] at t13
  replace h_W0 := h_W0.keep q13
  replace h_X := h_X.keep q13
  replace h_G0 := h_G0.keep q13
  replace h_Z := h_Z.keep q13
  replace b_xW0 := b_xW0.keep q13
  replace c_W0_0 : V13.cell? ⟨V2.heap.size, 0, none⟩ = some (.slice b_W0 r0.ma.fr.cells.length d_W0) := b_xW0.cell 0
  replace c_W0_1 : V13.cell? ⟨V2.heap.size, 1, none⟩ = some (.slice b2_W0 r0.ma.fr.used.length d2_W0) := b_xW0.cell 1
  replace c_W0_2 : V13.cell? ⟨V2.heap.size, 2, none⟩ = some (.slice b3_W0 r0.ma.tb.length d3_W0) := b_xW0.cell 2
  replace c_W0_3 : V13.cell? ⟨V2.heap.size, 3, none⟩ = some (.int .i64 r0.calls) := b_xW0.cell 3
  replace c_W0_4 : V13.cell? ⟨V2.heap.size, 4, none⟩ = some (.slice b4_W0 r0.refuse.length d4_W0) := b_xW0.cell 4
  replace l_W0 := b_xW0.lt
  replace b_xG0 := b_xG0.keep q13
  replace c_G0_0 : V13.cell? ⟨V4.heap.size, 0, none⟩ = some (.slice b_G0 r0.ma.fr.cells.length d_G0) := b_xG0.cell 0
  replace c_G0_1 : V13.cell? ⟨V4.heap.size, 1, none⟩ = some (.slice b2_G0 r0.ma.fr.used.length d2_G0) := b_xG0.cell 1
  replace c_G0_2 : V13.cell? ⟨V4.heap.size, 2, none⟩ = some (.slice b3_G0 r0.ma.tb.length d3_G0) := b_xG0.cell 2
  replace c_G0_3 : V13.cell? ⟨V4.heap.size, 3, none⟩ = some (.int .i64 r0.calls) := b_xG0.cell 3
  replace c_G0_4 : V13.cell? ⟨V4.heap.size, 4, none⟩ = some (.slice b4_G0 r0.refuse.length d4_G0) := b_xG0.cell 4
  replace l_G0 := b_xG0.lt
  have Q13 := Chg.keep Q12 q13
  replace hin := HIN.out.keep Q13
  try simp only [size_alloc] at h_H0
  obtain ⟨b_H0, d_H0, b2_H0, d2_H0, b3_H0, d3_H0, b4_H0, d4_H0, rfl, _⟩ := h_H0.opened
  clear h_Z
  go_wp2_with fail
  refine (eq_Kernel _ _ _ ((h_H0.keep (by repeat (first | exact Chg.refl _ _ _ | apply Chg.alloc)))).ke ((h_W0.keep (by repeat (first | exact Chg.refl _ _ _ | apply Chg.alloc)))).ke hr0).mono ?_
  rintro e V14 ⟨rfl, k14⟩
  have q14 : Keep V13 V14 := Chg.keep (by repeat (first | exact Chg.refl _ _ _ | apply Chg.alloc)) k14
  have t14 := k14.size
  try simp only [size_alloc] at t14
  replace h_W0 := h_W0.keep q14
  replace h_X := h_X.keep q14
  replace h_G0 := h_G0.keep q14
  replace h_H0 := h_H0.keep q14
  replace b_xW0 := b_xW0.keep q14
  replace c_W0_0 : V14.cell? ⟨V2.heap.size, 0, none⟩ = some (.slice b_W0 r0.ma.fr.cells.length d_W0) := b_xW0.cell 0
  replace c_W0_1 : V14.cell? ⟨V2.heap.size, 1, none⟩ = some (.slice b2_W0 r0.ma.fr.used.length d2_W0) := b_xW0.cell 1
  replace c_W0_2 : V14.cell? ⟨V2.heap.size, 2, none⟩ = some (.slice b3_W0 r0.ma.tb.length d3_W0) := b_xW0.cell 2
  replace c_W0_3 : V14.cell? ⟨V2.heap.size, 3, none⟩ = some (.int .i64 r0.calls) := b_xW0.cell 3
  replace c_W0_4 : V14.cell? ⟨V2.heap.size, 4, none⟩ = some (.slice b4_W0 r0.refuse.length d4_W0) := b_xW0.cell 4
  replace l_W0 := b_xW0.lt
  replace b_xG0 := b_xG0.keep q14
  replace c_G0_0 : V14.cell? ⟨V4.heap.size, 0, none⟩ = some (.slice b_G0 r0.ma.fr.cells.length d_G0) := b_xG0.cell 0
  replace c_G0_1 : V14.cell? ⟨V4.heap.size, 1, none⟩ = some (.slice b2_G0 r0.ma.fr.used.length d2_G0) := b_xG0.cell 1
  replace c_G0_2 : V14.cell? ⟨V4.heap.size, 2, none⟩ = some (.slice b3_G0 r0.ma.tb.length d3_G0) := b_xG0.cell 2
  replace c_G0_3 : V14.cell? ⟨V4.heap.size, 3, none⟩ = some (.int .i64 r0.calls) := b_xG0.cell 3
  replace c_G0_4 : V14.cell? ⟨V4.heap.size, 4, none⟩ = some (.slice b4_G0 r0.refuse.length d4_G0) := b_xG0.cell 4
  replace l_G0 := b_xG0.lt
  have b_xH0 := (Blk.new V13 47 #[.slice b_H0 r0.ma.fr.cells.length d_H0, .slice b2_H0 r0.ma.fr.used.length d2_H0, .slice b3_H0 r0.ma.tb.length d3_H0, .int .i64 r0.calls, .slice b4_H0 r0.refuse.length d4_H0]).keep k14
  have c_H0_0 : V14.cell? ⟨V13.heap.size, 0, none⟩ = some (.slice b_H0 r0.ma.fr.cells.length d_H0) := b_xH0.cell 0
  have c_H0_1 : V14.cell? ⟨V13.heap.size, 1, none⟩ = some (.slice b2_H0 r0.ma.fr.used.length d2_H0) := b_xH0.cell 1
  have c_H0_2 : V14.cell? ⟨V13.heap.size, 2, none⟩ = some (.slice b3_H0 r0.ma.tb.length d3_H0) := b_xH0.cell 2
  have c_H0_3 : V14.cell? ⟨V13.heap.size, 3, none⟩ = some (.int .i64 r0.calls) := b_xH0.cell 3
  have c_H0_4 : V14.cell? ⟨V13.heap.size, 4, none⟩ = some (.slice b4_H0 r0.refuse.length d4_H0) := b_xH0.cell 4
  have l_H0 := b_xH0.lt
  have Q14 := Chg.keep Q13 q14
  replace hin := HIN.out.keep Q14
  go_wp2_with fail
  refine (held_Kernel _ _ h_G0 hr0).mono ?_
  rintro e V15 ⟨rfl, k15⟩
  have q15 : Keep V14 V15 := Chg.keep (by repeat (first | exact Chg.refl _ _ _ | apply Chg.alloc)) k15
  have t15 := k15.size
  try simp only [size_alloc] at t15
  replace h_W0 := h_W0.keep q15
  replace h_X := h_X.keep q15
  replace h_G0 := h_G0.keep q15
  replace h_H0 := h_H0.keep q15
  replace b_xW0 := b_xW0.keep q15
  replace c_W0_0 : V15.cell? ⟨V2.heap.size, 0, none⟩ = some (.slice b_W0 r0.ma.fr.cells.length d_W0) := b_xW0.cell 0
  replace c_W0_1 : V15.cell? ⟨V2.heap.size, 1, none⟩ = some (.slice b2_W0 r0.ma.fr.used.length d2_W0) := b_xW0.cell 1
  replace c_W0_2 : V15.cell? ⟨V2.heap.size, 2, none⟩ = some (.slice b3_W0 r0.ma.tb.length d3_W0) := b_xW0.cell 2
  replace c_W0_3 : V15.cell? ⟨V2.heap.size, 3, none⟩ = some (.int .i64 r0.calls) := b_xW0.cell 3
  replace c_W0_4 : V15.cell? ⟨V2.heap.size, 4, none⟩ = some (.slice b4_W0 r0.refuse.length d4_W0) := b_xW0.cell 4
  replace l_W0 := b_xW0.lt
  replace b_xG0 := b_xG0.keep q15
  replace c_G0_0 : V15.cell? ⟨V4.heap.size, 0, none⟩ = some (.slice b_G0 r0.ma.fr.cells.length d_G0) := b_xG0.cell 0
  replace c_G0_1 : V15.cell? ⟨V4.heap.size, 1, none⟩ = some (.slice b2_G0 r0.ma.fr.used.length d2_G0) := b_xG0.cell 1
  replace c_G0_2 : V15.cell? ⟨V4.heap.size, 2, none⟩ = some (.slice b3_G0 r0.ma.tb.length d3_G0) := b_xG0.cell 2
  replace c_G0_3 : V15.cell? ⟨V4.heap.size, 3, none⟩ = some (.int .i64 r0.calls) := b_xG0.cell 3
  replace c_G0_4 : V15.cell? ⟨V4.heap.size, 4, none⟩ = some (.slice b4_G0 r0.refuse.length d4_G0) := b_xG0.cell 4
  replace l_G0 := b_xG0.lt
  replace b_xH0 := b_xH0.keep q15
  replace c_H0_0 : V15.cell? ⟨V13.heap.size, 0, none⟩ = some (.slice b_H0 r0.ma.fr.cells.length d_H0) := b_xH0.cell 0
  replace c_H0_1 : V15.cell? ⟨V13.heap.size, 1, none⟩ = some (.slice b2_H0 r0.ma.fr.used.length d2_H0) := b_xH0.cell 1
  replace c_H0_2 : V15.cell? ⟨V13.heap.size, 2, none⟩ = some (.slice b3_H0 r0.ma.tb.length d3_H0) := b_xH0.cell 2
  replace c_H0_3 : V15.cell? ⟨V13.heap.size, 3, none⟩ = some (.int .i64 r0.calls) := b_xH0.cell 3
  replace c_H0_4 : V15.cell? ⟨V13.heap.size, 4, none⟩ = some (.slice b4_H0 r0.refuse.length d4_H0) := b_xH0.cell 4
  replace l_H0 := b_xH0.lt
  have Q15 := Chg.keep Q14 q15
  replace hin := HIN.out.keep Q15
  go_wp2_with fail
  go_ret
  exact ⟨rfl, Keep.below Q15⟩

theorem own : ownKnob Try.prog.godebug = none := by kernel_rfl
theorem laidOut : laidOutB Try.prog = true := by kernel_rfl
set_option maxRecDepth 100000 in
theorem lifted (os : Os) (started : os.Started) (H : Type) (enc : TypeId × Value → H) :
    ReturnsInHanded {} Try.checked os 4 .any (Rows.fnExactKernelNewSpec.pre6 enc Try.prog Try.f4 Rows.fnExactKernelNewRow.domain false) (Rows.fnExactKernelNewSpec.post enc Try.prog Try.f4 false true false false) := by
  refine returnsInHanded_of_change (C := Try.checked) own started (by kernel_rfl) Try.func4
    (ChangeSpec.witness6 (enc := enc) (C := Try.checked) false ⟨#[], #[.int .i64 0, .int .i64 0, .slice none 0 0], []⟩ 8 (by kernel_rfl) (by kernel_rfl) (by kernel_rfl) (by kernel_rfl)) ?_
  intro W base args ds gs before hval0 hW hcnd _
  have hval : ∀ (j : Nat) t v, Try.f4.params[j]? = some t → args[j]? = some v → Value.okWide Try.prog W .any base t v := hval0
  have hW' := hW
  obtain ⟨p, q, hA0, hV, rfl, hfz, hnd⟩ := hW
  have hA : DataW.TrodAll enc Try.prog W 0 (fun _ => true) true Try.f4.params.toList args.toList ds p := hA0
  rw [Try.params4] at hA hval
  obtain ⟨v0, vs0, d0, ds0, p0, q0, hargs, rfl, rfl, h0, r0⟩ := trodAll_cons hA
  obtain ⟨v1, vs1, d1, ds1, p1, q1, rfl, rfl, rfl, h1, r1⟩ := trodAll_cons r0
  obtain ⟨v2, vs2, d2, ds2, p2, q2, rfl, rfl, rfl, h2, r2⟩ := trodAll_cons r1
  obtain ⟨rfl, rfl, rfl⟩ := trodAll_nil r2
  obtain rfl : args = #[v0, v1, v2] := by cases args; simp_all
  obtain ⟨rfl, rfl⟩ := trodVars_none hV
  obtain ⟨a0, rfl, rfl, rfl, w0⟩ := open_int Try.underlying3 (hval 0 3 v0 rfl rfl) h0
  obtain ⟨a1, rfl, rfl, rfl, w1⟩ := open_int Try.underlying3 (hval 1 3 v1 rfl rfl) h1
  have k2 := h2
  have lt2 : ∀ x ∈ p2, x.block < W.heap.size := by obtain ⟨m, hm⟩ := k2; exact DataW.trod_lt m _ _ _ hm
  obtain ⟨x2, w2⟩ := open_InI (hval 2 32 v2 rfl rfl) h2
  clear hA0 hval0
  refine (walk a0 a1 _ x2 W w0 w1 w2).mono fun e W' ⟨he, bel⟩ => ?_
  subst he
  exact ⟨_, rfl, _, _, _, [], _, [], hW', trodAll_mk1 (shut_bool Try.underlying4 _), (trodAll_cons_mk (shut_int Try.underlying3 w0) (trodAll_cons_mk (shut_int Try.underlying3 w1) (trodAll_cons_mk (Below.trod laidOut (by kernel_rfl) (of_decide_eq_true (by kernel_rfl)) k2 bel lt2) trodAll_mk0))), rfl, bel.frame _, fun h => by cases h⟩

theorem over : Rows.fnExactKernelNewRow.holds Try.pinned (OpenSpec.ofChange Rows.fnExactKernelNewSpec) :=
  OpenClaim.holds_of_wide 4 Try.f4 rfl rfl rfl rfl rfl rfl rfl ⟨rfl, rfl, rfl, rfl, rfl⟩ rfl rfl rfl rfl rfl (by kernel_rfl) Try.func4 (by kernel_rfl)
    (of_decide_eq_true (by kernel_rfl)) (by unfold Func.isWrapper; first | (rw [if_pos (by decide +kernel)]; kernel_rfl) | (rw [if_neg (by decide +kernel)]; exact ⟨rfl, rfl⟩))
    (fun os started H enc _ => lifted os started H enc)

/-- The statement. -/
theorem proved : Rows.FnExactKernelNewSaid := over
#print axioms proved
end Go.Proofs.Ytkcoehkfhffjkaa.fnExactKernelNew
