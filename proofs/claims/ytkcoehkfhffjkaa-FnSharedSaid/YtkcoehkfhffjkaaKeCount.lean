/- Kernels: counted of the program. Printed by wip/tools/mk_ke3.py. -/
import Derived.Test.YtkcoehkfhffjkaaKeCopy
namespace Go.Proofs.Ytkcoehkfhffjkaa
open Go.ChangeShapes Go.WideShapes Go.ChangeAt Go.RowKit
set_option linter.unusedSimpArgs false
set_option linter.unusedVariables false
set_option maxRecDepth 100000

set_option maxHeartbeats 2000000 in
theorem counted_any {lo hi : Nat} {k : KeD} (v : Value) (w : World) (h : KE lo hi w v k) (hs : sm_Kernel k) (hc0 : 0 ≤ k.calls) (hc1 : k.calls ≤ 1000000) :
    Calls Try.prog 72 #[v] w fun e w' => ∃ v', e = .returned (.tuple #[v', .bool (grantB k)]) ∧ KE w.heap.size w'.heap.size w' v' (tickD k) ∧ Keep w w' := by
  have hrf := hs.rf
  obtain ⟨a1, c1, a2, c2, a3, c3, a4, c4, rfl, hm, hr⟩ := h.slices
  have h' : KE lo hi w (.agg #[.slice a1 k.ma.fr.cells.length c1, .slice a2 k.ma.fr.used.length c2, .slice a3 k.ma.tb.length c3, .int .i64 k.calls, .slice a4 k.refuse.length c4]) k := KE.mk hm hr
  go_enter Try.func72, Try.ntmps72
  go_wp2_with fail
  refine (copyKernel_any _ _ (h'.keep (((Chg.refl 0 0 w).alloc _).alloc _) ) hs).mono ?_
  rintro e w1 ⟨v1, rfl, h1, k1⟩
  have bA := ((Blk.new w 47 #[.slice a1 k.ma.fr.cells.length c1, .slice a2 k.ma.fr.used.length c2, .slice a3 k.ma.tb.length c3, .int .i64 k.calls, .slice a4 k.refuse.length c4]).keep ((Chg.refl 0 0 _).alloc (.cells #[.slice none 0 0, .slice none 0 0, .slice none 0 0, .int .i64 0, .slice none 0 0] 47 (0, 0)))).keep k1
  have bR := (blk1 w (.cells #[.slice a1 k.ma.fr.cells.length c1, .slice a2 k.ma.fr.used.length c2, .slice a3 k.ma.tb.length c3, .int .i64 k.calls, .slice a4 k.refuse.length c4] 47 (0, 0)) 47 #[.slice none 0 0, .slice none 0 0, .slice none 0 0, .int .i64 0, .slice none 0 0]).keep k1
  have q1 : Keep w w1 := Chg.keep (((Chg.refl 0 0 w).alloc _).alloc _) k1
  obtain ⟨b1, d1, b2, d2, b3, d3, b4, d4, rfl, m1, r1⟩ := h1.slices
  have hz := k1.size
  simp only [size_alloc] at m1 r1 hz
  have bO := Blk.new w1 47 #[.slice b1 k.ma.fr.cells.length d1, .slice b2 k.ma.fr.used.length d2, .slice b3 k.ma.tb.length d3, .int .i64 (k.calls + 1), .slice b4 k.refuse.length d4]
  have q2 : Keep w1 (w1.alloc (.cells #[.slice b1 k.ma.fr.cells.length d1, .slice b2 k.ma.fr.used.length d2, .slice b3 k.ma.tb.length d3, .int .i64 (k.calls + 1), .slice b4 k.refuse.length d4] 47 (0, 0))) := (Chg.refl 0 0 w1).alloc _
  have zO : (w1.alloc (.cells #[.slice b1 k.ma.fr.cells.length d1, .slice b2 k.ma.fr.used.length d2, .slice b3 k.ma.tb.length d3, .int .i64 (k.calls + 1), .slice b4 k.refuse.length d4] 47 (0, 0))).heap.size = w1.heap.size + 1 := by simp only [size_alloc]
  have hM := Lib.hid (m1.keep q2)
  have hR1 := Lib.hid (r1.keep q2)
  have hR0 := Lib.hid ((hr.keep q1).keep q2)
  have BA := Lib.hid (bA.keep q2)
  have BR := Lib.hid (bR.keep q2)
  have BO := Lib.hid bO
  have QZ := Lib.hid (And.intro q2 zO)
  clear h h' hm hr h1 m1 r1 bA bR bO q2 zO
  go_wp2_with fail
  generalize (w1.alloc (.cells #[.slice b1 k.ma.fr.cells.length d1, .slice b2 k.ma.fr.used.length d2, .slice b3 k.ma.tb.length d3, .int .i64 (k.calls + 1), .slice b4 k.refuse.length d4] 47 (0, 0))) = W2 at *
  have bA := BA.out
  have bR := BR.out
  have bO := BO.out
  obtain ⟨q2, zO⟩ := QZ.out
  clear BA BR BO QZ
  have o0 := bO.cell 0
  have o1 := bO.cell 1
  have o2 := bO.cell 2
  have o3 := bO.cell 3
  have o4 := bO.cell 4
  have lO := bO.lt
  have x3 := bA.cell 3
  have x4 := bA.cell 4
  have lA := bA.lt
  have r0 := bR.cell 0
  have r1 := bR.cell 1
  have r2 := bR.cell 2
  have r3 := bR.cell 3
  have r4 := bR.cell 4
  have s0 := bR.frozen 0
  have s1 := bR.frozen 1
  have s2 := bR.frozen 2
  have s3 := bR.frozen 3
  have s4 := bR.frozen 4
  have lR := bR.lt
  have BR := Lib.hid bR
  clear bA bO bR k1
  have hne1 : ¬ w1.heap.size = w.heap.size + 1 := by omega
  have hne2 : ¬ w.heap.size + 1 = w1.heap.size := by omega
  have hne3 : ¬ w.heap.size = w.heap.size + 1 := by omega
  have HG := Lib.hid (show grantB k = !(k.refuse.contains k.calls) from rfl)
  go_region_held3 (fun z => z.cell? ⟨w1.heap.size, 0, none⟩ = some (.slice b1 k.ma.fr.cells.length d1) ∧ z.cell? ⟨w1.heap.size, 1, none⟩ = some (.slice b2 k.ma.fr.used.length d2) ∧ z.cell? ⟨w1.heap.size, 2, none⟩ = some (.slice b3 k.ma.tb.length d3) ∧ z.cell? ⟨w1.heap.size, 3, none⟩ = some (.int .i64 (k.calls + 1)) ∧ z.cell? ⟨w1.heap.size, 4, none⟩ = some (.slice b4 k.refuse.length d4) ∧ z.cell? ⟨w.heap.size, 3, none⟩ = some (.int .i64 k.calls) ∧ z.cell? ⟨w.heap.size, 4, none⟩ = some (.slice a4 k.refuse.length c4)) (first | go_keep) (first | (go_at_call 111; refine (slContains_any _ _ _ (hR0.out.keep (Chg.refl _ _ _).drew) (by omega)).mono ?_; rintro e w2 ⟨rfl, rfl⟩))
  all_goals
    go_wp2_with fail
    refine bodyPost_ret (v := .tuple #[.agg #[.slice b1 k.ma.fr.cells.length d1, .slice b2 k.ma.fr.used.length d2, .slice b3 k.ma.tb.length d3, .int .i64 (k.calls + 1), .slice b4 k.refuse.length d4], .bool (!(k.refuse.contains k.calls))]) (by simp [results, Try.results72, go_sem, r0, r1, r2, r3, r4, lR]) rfl ⟨_, by rw [HG.out]; rfl, KE.mk (k := tickD k) ?_ ?_, ?_⟩
    · exact ((hM.out.mv (l := w.heap.size + 1) (h := w.heap.size + 2) (by repeat (first | exact Chg.refl _ _ _ | apply Chg.drew | (refine Chg.set ?_ _ _ _ (.inl ⟨by omega, by omega⟩)))) (by omega)).wide (by omega) (by simp [World.setCell]; omega))
    · exact ((hR1.out.mv (l := w.heap.size + 1) (h := w.heap.size + 2) (by repeat (first | exact Chg.refl _ _ _ | apply Chg.drew | (refine Chg.set ?_ _ _ _ (.inl ⟨by omega, by omega⟩)))) (by omega)).wide (by omega) (by simp [World.setCell]; omega))
    · exact (by repeat (first | exact q1.keep q2 | apply Chg.drew | (refine Chg.set ?_ _ _ _ (.inr (by omega)))))
end Go.Proofs.Ytkcoehkfhffjkaa
