/- Kernels: copyKernel of the program. Printed by wip/tools/mk_ke3.py. -/
import Derived.Test.YtkcoehkfhffjkaaKe3
namespace Go.Proofs.Ytkcoehkfhffjkaa
open Go.ChangeShapes Go.WideShapes Go.ChangeAt Go.RowKit
set_option linter.unusedSimpArgs false
set_option linter.unusedVariables false
set_option maxRecDepth 100000

set_option maxHeartbeats 2000000 in
theorem copyKernel_any {lo hi : Nat} {k : KeD} (v : Value) (w : World) (h : KE lo hi w v k) (hs : sm_Kernel k) :
    Calls Try.prog 71 #[v] w fun e w' => ∃ v', e = .returned v' ∧ KE w.heap.size w'.heap.size w' v' k ∧ Keep w w' := by
  have hrf := hs.rf
  obtain ⟨a1, c1, a2, c2, a3, c3, a4, c4, rfl, hm, hr⟩ := h.slices
  have bA := (Blk.new w 47 #[.slice a1 k.ma.fr.cells.length c1, .slice a2 k.ma.fr.used.length c2, .slice a3 k.ma.tb.length c3, .int .i64 k.calls, .slice a4 k.refuse.length c4]).keep ((Chg.refl 0 0 _).alloc (.cells #[.slice none 0 0, .slice none 0 0, .slice none 0 0, .int .i64 0, .slice none 0 0] 47 (0, 0)))
  have bR := blk1 w (.cells #[.slice a1 k.ma.fr.cells.length c1, .slice a2 k.ma.fr.used.length c2, .slice a3 k.ma.tb.length c3, .int .i64 k.calls, .slice a4 k.refuse.length c4] 47 (0, 0)) 47 #[.slice none 0 0, .slice none 0 0, .slice none 0 0, .int .i64 0, .slice none 0 0]
  have qW : Keep w ((w.alloc (.cells #[.slice a1 k.ma.fr.cells.length c1, .slice a2 k.ma.fr.used.length c2, .slice a3 k.ma.tb.length c3, .int .i64 k.calls, .slice a4 k.refuse.length c4] 47 (0, 0))).alloc (.cells #[.slice none 0 0, .slice none 0 0, .slice none 0 0, .int .i64 0, .slice none 0 0] 47 (0, 0))) := ((Chg.refl 0 0 w).alloc _).alloc _
  have zW : ((w.alloc (.cells #[.slice a1 k.ma.fr.cells.length c1, .slice a2 k.ma.fr.used.length c2, .slice a3 k.ma.tb.length c3, .int .i64 k.calls, .slice a4 k.refuse.length c4] 47 (0, 0))).alloc (.cells #[.slice none 0 0, .slice none 0 0, .slice none 0 0, .int .i64 0, .slice none 0 0] 47 (0, 0))).heap.size = w.heap.size + 2 := by simp only [size_alloc]
  go_enter Try.func71, Try.ntmps71
  go_wp2_with fail
  generalize ((w.alloc (.cells #[.slice a1 k.ma.fr.cells.length c1, .slice a2 k.ma.fr.used.length c2, .slice a3 k.ma.tb.length c3, .int .i64 k.calls, .slice a4 k.refuse.length c4] 47 (0, 0))).alloc (.cells #[.slice none 0 0, .slice none 0 0, .slice none 0 0, .int .i64 0, .slice none 0 0] 47 (0, 0))) = W0 at *
  have x0 := bA.cell 0
  have x1 := bA.cell 1
  have x2 := bA.cell 2
  have x3 := bA.cell 3
  have x4 := bA.cell 4
  have lA := bA.lt
  have BR := Lib.hid bR
  have BA := Lib.hid bA
  have ZW := Lib.hid zW
  have HM := Lib.hid hm
  have HR := Lib.hid hr
  have hne : ¬ w.heap.size = w.heap.size + 1 := by omega
  clear bR bA zW h hm hr
  go_region_held3 (fun z => z.cell? ⟨w.heap.size, 0, none⟩ = some (.slice a1 k.ma.fr.cells.length c1) ∧ z.cell? ⟨w.heap.size, 1, none⟩ = some (.slice a2 k.ma.fr.used.length c2) ∧ z.cell? ⟨w.heap.size, 2, none⟩ = some (.slice a3 k.ma.tb.length c3) ∧ z.cell? ⟨w.heap.size, 3, none⟩ = some (.int .i64 k.calls) ∧ z.cell? ⟨w.heap.size, 4, none⟩ = some (.slice a4 k.refuse.length c4)) (first | go_keep | exact ⟨y0, y1, y2, y3, y4⟩ | exact ⟨z0, z1, z2, z3, z4⟩) (first | (go_at_call 63; refine (copyMachine_any _ _ (HM.out.keep (qW.keep (Chg.refl _ _ _).drew)) hs.ma).mono ?_; rintro e w1 ⟨v1, rfl, h1, k1⟩; obtain ⟨b1, d1, b2, d2, b3, d3, rfl, hf1, ht1⟩ := h1.slices; have h1 := MA.mk hf1 ht1; clear hf1 ht1; have k1 : Keep W0 w1 := (Chg.refl _ _ _).drew.keep k1; have bA := BA.out.keep k1; have y0 := bA.cell 0; have y1 := bA.cell 1; have y2 := bA.cell 2; have y3 := bA.cell 3; have y4 := bA.cell 4; have ly := bA.lt; clear bA) | (go_at_call 53; refine (copyInts_any _ _ (HR.out.keep (qW.keep k1)) (by omega)).mono ?_; rintro e w2 ⟨v2, rfl, h2, k2⟩; obtain ⟨b4, d4, rfl, _, h2'⟩ := h2.slice; have k3 : Keep W0 w2 := k1.keep k2; have bA := BA.out.keep k3; have z0 := bA.cell 0; have z1 := bA.cell 1; have z2 := bA.cell 2; have z3 := bA.cell 3; have z4 := bA.cell 4; have lz := bA.lt; have bR := BR.out.keep k3; have r0 := bR.cell 0; have r1 := bR.cell 1; have r2 := bR.cell 2; have r3 := bR.cell 3; have r4 := bR.cell 4; have s0 := bR.frozen 0; have s1 := bR.frozen 1; have s2 := bR.frozen 2; have s3 := bR.frozen 3; have s4 := bR.frozen 4; have lR := bR.lt; clear bA bR))
  all_goals
    go_wp2_with fail
    have g1 := k1.size
    have g2 := k2.size
    have zW := ZW.out
    refine bodyPost_ret (v := .agg #[.slice b1 k.ma.fr.cells.length d1, .slice b2 k.ma.fr.used.length d2, .slice b3 k.ma.tb.length d3, .int .i64 k.calls, .slice b4 k.refuse.length d4]) (by simp [results, Try.results71, go_sem, r0, r1, r2, r3, r4, lR]) rfl ⟨_, rfl, KE.mk ?_ ?_, ?_⟩
    · exact (((h1.keep k2).mv (l := w.heap.size) (h := w.heap.size + 2) (by repeat (first | exact Chg.refl _ _ _ | (refine Chg.set ?_ _ _ _ (.inl ⟨by omega, by omega⟩)))) (by
        have : W0.drew.heap.size = W0.heap.size := rfl
        omega)).wide (by
        have : W0.drew.heap.size = W0.heap.size := rfl
        omega) (by simp [World.setCell]; omega))
    · exact ((h2'.mv (l := w.heap.size) (h := w.heap.size + 2) (by repeat (first | exact Chg.refl _ _ _ | (refine Chg.set ?_ _ _ _ (.inl ⟨by omega, by omega⟩)))) (by omega)).wide (by omega) (by simp [World.setCell]))
    · exact (by repeat (first | exact qW.keep k3 | (refine Chg.set ?_ _ _ _ (.inr (by omega)))))
end Go.Proofs.Ytkcoehkfhffjkaa
