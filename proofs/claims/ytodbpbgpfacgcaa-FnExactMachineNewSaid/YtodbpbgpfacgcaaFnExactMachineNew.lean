/- The Go law FnExactMachineNew returns true for all arguments and leaves its arguments as they were. Conditions: none. The frame follows the kit's shell; the walk is mine. -/
import Derived.Test.YtodbpbgpfacgcaaRows
import Derived.WalkKit
import Derived.ProofKit
import Derived.OpenShut
import Derived.Test.YtodbpbgpfacgcaaOpenMa
import Derived.Test.YtodbpbgpfacgcaaMa3
import Derived.Deep.RegionHeld3
import Derived.ShutString
import Derived.ChangeOld
import Derived.Below
namespace Go.Proofs.Ytodbpbgpfacgcaa.fnExactMachineNew
open Go.ChangeShapes Go.WideShapes Go.ChangeAt Go.RowKit
open Go.ChangeMaps (open_string shut_string)
set_option linter.unusedVariables false
set_option linter.unusedSimpArgs false

theorem walk (a0 : Int) (a1 : Int) (w : World) (w0 : (Lit.int .i64 a0).wf = true) (w1 : (Lit.int .i64 a1).wf = true) :
    Calls Try.prog 7 #[.int .i64 a0, .int .i64 a1] w fun e w' => e = .returned (.bool true) ∧ Below w.heap.size w w' := by
  go_enter Try.func7, Try.ntmps7
  have hr0 := machineNewD_sm a0 a1
  go_wp2_with fail
  refine (machineNew_spec _ _ _).mono ?_
  generalize hR0 : machineNewD a0 a1 = r0 at hr0 ⊢
  have HR0 := Lib.hid hR0
  clear hR0
  generalize hR1 : machineNewOk a0 a1 = r1
  have HR1 := Lib.hid hR1
  clear hR1
  rintro e V1 ⟨v_W0, rfl, h_W0, k1⟩
  have q1 : Keep w V1 := Chg.keep (by repeat (first | exact Chg.refl _ _ _ | apply Chg.alloc)) k1
  have t1 := k1.size
  try simp only [size_alloc] at t1
  have Q1 := q1
  try simp only [size_alloc] at h_W0
  obtain ⟨b_W0, d_W0, b2_W0, d2_W0, b3_W0, d3_W0, rfl, _⟩ := h_W0.opened
  go_wp2_with fail
  refine (machineNew_any _ _ _).mono ?_
  rw [HR0.out, HR1.out]
  rintro e V2 ⟨v_G0, rfl, h_G0, k2⟩
  have q2 : Keep V1 V2 := Chg.keep (by repeat (first | exact Chg.refl _ _ _ | apply Chg.alloc)) k2
  have t2 := k2.size
  try simp only [size_alloc] at t2
  replace h_W0 := h_W0.keep q2
  have b_xW0 := (Blk.new V1 36 #[.slice b_W0 r0.fr.cells.length d_W0, .slice b2_W0 r0.fr.used.length d2_W0, .slice b3_W0 r0.tb.length d3_W0]).keep k2
  have c_W0_0 : V2.cell? ⟨V1.heap.size, 0, none⟩ = some (.slice b_W0 r0.fr.cells.length d_W0) := b_xW0.cell 0
  have c_W0_1 : V2.cell? ⟨V1.heap.size, 1, none⟩ = some (.slice b2_W0 r0.fr.used.length d2_W0) := b_xW0.cell 1
  have c_W0_2 : V2.cell? ⟨V1.heap.size, 2, none⟩ = some (.slice b3_W0 r0.tb.length d3_W0) := b_xW0.cell 2
  have l_W0 := b_xW0.lt
  have Q2 := Chg.keep Q1 q2
  try simp only [size_alloc] at h_G0
  obtain ⟨b_G0, d_G0, b2_G0, d2_G0, b3_G0, d3_G0, rfl, _⟩ := h_G0.opened
  go_wp2_with fail
  refine (eq_Machine _ _ _ (h_G0.keep (by repeat (first | exact Chg.refl _ _ _ | apply Chg.alloc))) (h_W0.keep (by repeat (first | exact Chg.refl _ _ _ | apply Chg.alloc))) hr0).mono ?_
  rintro e V3 ⟨rfl, k3⟩
  have q3 : Keep V2 V3 := Chg.keep (by repeat (first | exact Chg.refl _ _ _ | apply Chg.alloc)) k3
  have t3 := k3.size
  try simp only [size_alloc] at t3
  replace h_W0 := h_W0.keep q3
  replace h_G0 := h_G0.keep q3
  replace b_xW0 := b_xW0.keep q3
  replace c_W0_0 : V3.cell? ⟨V1.heap.size, 0, none⟩ = some (.slice b_W0 r0.fr.cells.length d_W0) := b_xW0.cell 0
  replace c_W0_1 : V3.cell? ⟨V1.heap.size, 1, none⟩ = some (.slice b2_W0 r0.fr.used.length d2_W0) := b_xW0.cell 1
  replace c_W0_2 : V3.cell? ⟨V1.heap.size, 2, none⟩ = some (.slice b3_W0 r0.tb.length d3_W0) := b_xW0.cell 2
  replace l_W0 := b_xW0.lt
  have b_xG0 := (Blk.new V2 36 #[.slice b_G0 r0.fr.cells.length d_G0, .slice b2_G0 r0.fr.used.length d2_G0, .slice b3_G0 r0.tb.length d3_G0]).keep k3
  have c_G0_0 : V3.cell? ⟨V2.heap.size, 0, none⟩ = some (.slice b_G0 r0.fr.cells.length d_G0) := b_xG0.cell 0
  have c_G0_1 : V3.cell? ⟨V2.heap.size, 1, none⟩ = some (.slice b2_G0 r0.fr.used.length d2_G0) := b_xG0.cell 1
  have c_G0_2 : V3.cell? ⟨V2.heap.size, 2, none⟩ = some (.slice b3_G0 r0.tb.length d3_G0) := b_xG0.cell 2
  have l_G0 := b_xG0.lt
  have Q3 := Chg.keep Q2 q3
  go_wp2_with fail
  refine (mark_Machine _ _ h_G0 (by omega) hr0).mono ?_
  rintro e V4 ⟨rfl, h_G0, k4⟩
  have q4 := Chg.trans (a := V3) (by repeat (first | exact Chg.refl _ _ _ | apply Chg.alloc)) k4
  have t4 := k4.size
  try simp only [size_alloc] at t4
  have tt4 := q4.size
  replace h_W0 := h_W0.mv q4 (by omega)
  replace b_xW0 := b_xW0.mv q4 (by omega)
  replace c_W0_0 : V4.cell? ⟨V1.heap.size, 0, none⟩ = some (.slice b_W0 r0.fr.cells.length d_W0) := b_xW0.cell 0
  replace c_W0_1 : V4.cell? ⟨V1.heap.size, 1, none⟩ = some (.slice b2_W0 r0.fr.used.length d2_W0) := b_xW0.cell 1
  replace c_W0_2 : V4.cell? ⟨V1.heap.size, 2, none⟩ = some (.slice b3_W0 r0.tb.length d3_W0) := b_xW0.cell 2
  replace l_W0 := b_xW0.lt
  replace b_xG0 := b_xG0.mv q4 (by omega)
  replace c_G0_0 : V4.cell? ⟨V2.heap.size, 0, none⟩ = some (.slice b_G0 r0.fr.cells.length d_G0) := b_xG0.cell 0
  replace c_G0_1 : V4.cell? ⟨V2.heap.size, 1, none⟩ = some (.slice b2_G0 r0.fr.used.length d2_G0) := b_xG0.cell 1
  replace c_G0_2 : V4.cell? ⟨V2.heap.size, 2, none⟩ = some (.slice b3_G0 r0.tb.length d3_G0) := b_xG0.cell 2
  replace l_G0 := b_xG0.lt
  have Q4 := Chg.comp Q3 q4 (.inl (by omega))
  go_wp2_with fail
  refine (held_Machine _ _ h_G0 hr0).mono ?_
  rintro e V5 ⟨rfl, k5⟩
  have q5 : Keep V4 V5 := Chg.keep (by repeat (first | exact Chg.refl _ _ _ | apply Chg.alloc)) k5
  have t5 := k5.size
  try simp only [size_alloc] at t5
  replace h_W0 := h_W0.keep q5
  replace h_G0 := h_G0.keep q5
  replace b_xW0 := b_xW0.keep q5
  replace c_W0_0 : V5.cell? ⟨V1.heap.size, 0, none⟩ = some (.slice b_W0 r0.fr.cells.length d_W0) := b_xW0.cell 0
  replace c_W0_1 : V5.cell? ⟨V1.heap.size, 1, none⟩ = some (.slice b2_W0 r0.fr.used.length d2_W0) := b_xW0.cell 1
  replace c_W0_2 : V5.cell? ⟨V1.heap.size, 2, none⟩ = some (.slice b3_W0 r0.tb.length d3_W0) := b_xW0.cell 2
  replace l_W0 := b_xW0.lt
  replace b_xG0 := b_xG0.keep q5
  replace c_G0_0 : V5.cell? ⟨V2.heap.size, 0, none⟩ = some (.slice b_G0 r0.fr.cells.length d_G0) := b_xG0.cell 0
  replace c_G0_1 : V5.cell? ⟨V2.heap.size, 1, none⟩ = some (.slice b2_G0 r0.fr.used.length d2_G0) := b_xG0.cell 1
  replace c_G0_2 : V5.cell? ⟨V2.heap.size, 2, none⟩ = some (.slice b3_G0 r0.tb.length d3_G0) := b_xG0.cell 2
  replace l_G0 := b_xG0.lt
  have Q5 := Chg.keep Q4 q5
  go_wp2_with fail
  refine (machineNew_any _ _ _).mono ?_
  rw [HR0.out, HR1.out]
  rintro e V6 ⟨v_H0, rfl, h_H0, k6⟩
  have q6 : Keep V5 V6 := Chg.keep (by repeat (first | exact Chg.refl _ _ _ | apply Chg.alloc)) k6
  have t6 := k6.size
  try simp only [size_alloc] at t6
  replace h_W0 := h_W0.keep q6
  replace h_G0 := h_G0.keep q6
  replace b_xW0 := b_xW0.keep q6
  replace c_W0_0 : V6.cell? ⟨V1.heap.size, 0, none⟩ = some (.slice b_W0 r0.fr.cells.length d_W0) := b_xW0.cell 0
  replace c_W0_1 : V6.cell? ⟨V1.heap.size, 1, none⟩ = some (.slice b2_W0 r0.fr.used.length d2_W0) := b_xW0.cell 1
  replace c_W0_2 : V6.cell? ⟨V1.heap.size, 2, none⟩ = some (.slice b3_W0 r0.tb.length d3_W0) := b_xW0.cell 2
  replace l_W0 := b_xW0.lt
  replace b_xG0 := b_xG0.keep q6
  replace c_G0_0 : V6.cell? ⟨V2.heap.size, 0, none⟩ = some (.slice b_G0 r0.fr.cells.length d_G0) := b_xG0.cell 0
  replace c_G0_1 : V6.cell? ⟨V2.heap.size, 1, none⟩ = some (.slice b2_G0 r0.fr.used.length d2_G0) := b_xG0.cell 1
  replace c_G0_2 : V6.cell? ⟨V2.heap.size, 2, none⟩ = some (.slice b3_G0 r0.tb.length d3_G0) := b_xG0.cell 2
  replace l_G0 := b_xG0.lt
  have Q6 := Chg.keep Q5 q6
  try simp only [size_alloc] at h_H0
  obtain ⟨b_H0, d_H0, b2_H0, d2_H0, b3_H0, d3_H0, rfl, _⟩ := h_H0.opened
  go_wp2_with fail
  refine (eq_Machine _ _ _ (h_H0.keep (by repeat (first | exact Chg.refl _ _ _ | apply Chg.alloc))) (h_W0.keep (by repeat (first | exact Chg.refl _ _ _ | apply Chg.alloc))) hr0).mono ?_
  rintro e V7 ⟨rfl, k7⟩
  have q7 : Keep V6 V7 := Chg.keep (by repeat (first | exact Chg.refl _ _ _ | apply Chg.alloc)) k7
  have t7 := k7.size
  try simp only [size_alloc] at t7
  replace h_W0 := h_W0.keep q7
  replace h_G0 := h_G0.keep q7
  replace h_H0 := h_H0.keep q7
  replace b_xW0 := b_xW0.keep q7
  replace c_W0_0 : V7.cell? ⟨V1.heap.size, 0, none⟩ = some (.slice b_W0 r0.fr.cells.length d_W0) := b_xW0.cell 0
  replace c_W0_1 : V7.cell? ⟨V1.heap.size, 1, none⟩ = some (.slice b2_W0 r0.fr.used.length d2_W0) := b_xW0.cell 1
  replace c_W0_2 : V7.cell? ⟨V1.heap.size, 2, none⟩ = some (.slice b3_W0 r0.tb.length d3_W0) := b_xW0.cell 2
  replace l_W0 := b_xW0.lt
  replace b_xG0 := b_xG0.keep q7
  replace c_G0_0 : V7.cell? ⟨V2.heap.size, 0, none⟩ = some (.slice b_G0 r0.fr.cells.length d_G0) := b_xG0.cell 0
  replace c_G0_1 : V7.cell? ⟨V2.heap.size, 1, none⟩ = some (.slice b2_G0 r0.fr.used.length d2_G0) := b_xG0.cell 1
  replace c_G0_2 : V7.cell? ⟨V2.heap.size, 2, none⟩ = some (.slice b3_G0 r0.tb.length d3_G0) := b_xG0.cell 2
  replace l_G0 := b_xG0.lt
  have b_xH0 := (Blk.new V6 36 #[.slice b_H0 r0.fr.cells.length d_H0, .slice b2_H0 r0.fr.used.length d2_H0, .slice b3_H0 r0.tb.length d3_H0]).keep k7
  have c_H0_0 : V7.cell? ⟨V6.heap.size, 0, none⟩ = some (.slice b_H0 r0.fr.cells.length d_H0) := b_xH0.cell 0
  have c_H0_1 : V7.cell? ⟨V6.heap.size, 1, none⟩ = some (.slice b2_H0 r0.fr.used.length d2_H0) := b_xH0.cell 1
  have c_H0_2 : V7.cell? ⟨V6.heap.size, 2, none⟩ = some (.slice b3_H0 r0.tb.length d3_H0) := b_xH0.cell 2
  have l_H0 := b_xH0.lt
  have Q7 := Chg.keep Q6 q7
  go_wp2_with fail
  refine (held_Machine _ _ h_G0 hr0).mono ?_
  rintro e V8 ⟨rfl, k8⟩
  have q8 : Keep V7 V8 := Chg.keep (by repeat (first | exact Chg.refl _ _ _ | apply Chg.alloc)) k8
  have t8 := k8.size
  try simp only [size_alloc] at t8
  replace h_W0 := h_W0.keep q8
  replace h_G0 := h_G0.keep q8
  replace h_H0 := h_H0.keep q8
  replace b_xW0 := b_xW0.keep q8
  replace c_W0_0 : V8.cell? ⟨V1.heap.size, 0, none⟩ = some (.slice b_W0 r0.fr.cells.length d_W0) := b_xW0.cell 0
  replace c_W0_1 : V8.cell? ⟨V1.heap.size, 1, none⟩ = some (.slice b2_W0 r0.fr.used.length d2_W0) := b_xW0.cell 1
  replace c_W0_2 : V8.cell? ⟨V1.heap.size, 2, none⟩ = some (.slice b3_W0 r0.tb.length d3_W0) := b_xW0.cell 2
  replace l_W0 := b_xW0.lt
  replace b_xG0 := b_xG0.keep q8
  replace c_G0_0 : V8.cell? ⟨V2.heap.size, 0, none⟩ = some (.slice b_G0 r0.fr.cells.length d_G0) := b_xG0.cell 0
  replace c_G0_1 : V8.cell? ⟨V2.heap.size, 1, none⟩ = some (.slice b2_G0 r0.fr.used.length d2_G0) := b_xG0.cell 1
  replace c_G0_2 : V8.cell? ⟨V2.heap.size, 2, none⟩ = some (.slice b3_G0 r0.tb.length d3_G0) := b_xG0.cell 2
  replace l_G0 := b_xG0.lt
  replace b_xH0 := b_xH0.keep q8
  replace c_H0_0 : V8.cell? ⟨V6.heap.size, 0, none⟩ = some (.slice b_H0 r0.fr.cells.length d_H0) := b_xH0.cell 0
  replace c_H0_1 : V8.cell? ⟨V6.heap.size, 1, none⟩ = some (.slice b2_H0 r0.fr.used.length d2_H0) := b_xH0.cell 1
  replace c_H0_2 : V8.cell? ⟨V6.heap.size, 2, none⟩ = some (.slice b3_H0 r0.tb.length d3_H0) := b_xH0.cell 2
  replace l_H0 := b_xH0.lt
  have Q8 := Chg.keep Q7 q8
  go_wp2_with fail
  go_ret
  exact ⟨rfl, Keep.below Q8⟩

theorem own : ownKnob Try.prog.godebug = none := by kernel_rfl
theorem laidOut : laidOutB Try.prog = true := by kernel_rfl
set_option maxRecDepth 100000 in
theorem lifted (os : Os) (started : os.Started) (H : Type) (enc : TypeId × Value → H) :
    ReturnsInHanded {} Try.checked os 7 .any (Rows.fnExactMachineNewSpec.pre6 enc Try.prog Try.f7 Rows.fnExactMachineNewRow.domain false) (Rows.fnExactMachineNewSpec.post enc Try.prog Try.f7 false true false false) := by
  refine returnsInHanded_of_change (C := Try.checked) own started (by kernel_rfl) Try.func7
    (ChangeSpec.witness6 (enc := enc) (C := Try.checked) false ⟨#[], #[.int .i64 0, .int .i64 0], []⟩ 8 (by kernel_rfl) (by kernel_rfl) (by kernel_rfl) (by kernel_rfl)) ?_
  intro W base args ds gs before hval0 hW hcnd _
  have hval : ∀ (j : Nat) t v, Try.f7.params[j]? = some t → args[j]? = some v → Value.okWide Try.prog W .any base t v := hval0
  have hW' := hW
  obtain ⟨p, q, hA0, hV, rfl, hfz, hnd⟩ := hW
  have hA : DataW.TrodAll enc Try.prog W 0 (fun _ => true) true Try.f7.params.toList args.toList ds p := hA0
  rw [Try.params7] at hA hval
  obtain ⟨v0, vs0, d0, ds0, p0, q0, hargs, rfl, rfl, h0, r0⟩ := trodAll_cons hA
  obtain ⟨v1, vs1, d1, ds1, p1, q1, rfl, rfl, rfl, h1, r1⟩ := trodAll_cons r0
  obtain ⟨rfl, rfl, rfl⟩ := trodAll_nil r1
  obtain rfl : args = #[v0, v1] := by cases args; simp_all
  obtain ⟨rfl, rfl⟩ := trodVars_none hV
  obtain ⟨a0, rfl, rfl, rfl, w0⟩ := open_int Try.underlying3 (hval 0 3 v0 rfl rfl) h0
  obtain ⟨a1, rfl, rfl, rfl, w1⟩ := open_int Try.underlying3 (hval 1 3 v1 rfl rfl) h1
  clear hA0 hval0
  refine (walk a0 a1 W w0 w1).mono fun e W' ⟨he, bel⟩ => ?_
  subst he
  exact ⟨_, rfl, _, _, _, [], _, [], hW', trodAll_mk1 (shut_bool Try.underlying4 _), (trodAll_cons_mk (shut_int Try.underlying3 w0) (trodAll_cons_mk (shut_int Try.underlying3 w1) trodAll_mk0)), rfl, bel.frame _, fun h => by cases h⟩

theorem over : Rows.fnExactMachineNewRow.holds Try.pinned (OpenSpec.ofChange Rows.fnExactMachineNewSpec) :=
  OpenClaim.holds_of_wide 7 Try.f7 rfl rfl rfl rfl rfl rfl rfl ⟨rfl, rfl, rfl, rfl, rfl⟩ rfl rfl rfl rfl rfl (by kernel_rfl) Try.func7 (by kernel_rfl)
    (of_decide_eq_true (by kernel_rfl)) (by unfold Func.isWrapper; first | (rw [if_pos (by decide +kernel)]; kernel_rfl) | (rw [if_neg (by decide +kernel)]; exact ⟨rfl, rfl⟩))
    (fun os started H enc _ => lifted os started H enc)

/-- The statement. -/
theorem proved : Rows.FnExactMachineNewSaid := over
#print axioms proved
end Go.Proofs.Ytodbpbgpfacgcaa.fnExactMachineNew
