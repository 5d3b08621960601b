/- Kernels: KMapNew of the program. Printed by wip/tools/mk_ke5.py. -/
import Derived.Test.YtkcoehkfhffjkaaKeOn
namespace Go.Proofs.Ytkcoehkfhffjkaa
open Go.ChangeShapes Go.WideShapes Go.ChangeAt Go.RowKit
set_option linter.unusedSimpArgs false
set_option linter.unusedVariables false
set_option maxRecDepth 100000

set_option maxHeartbeats 4000000 in
theorem kMapNew_any {lo hi : Nat} {k : KeD} (v : Value) (p : Int) (w : World) (h : KE lo hi w v k) (hs : sm_Kernel k) :
    Calls Try.prog 31 #[v, .int .i64 p] w fun e w' => ∃ v', e = .returned (.tuple #[v', .bool (mapNewOk k p)]) ∧ KE w.heap.size w'.heap.size w' v' (mapNewD k p) ∧ Keep w w' := by
  have hrf := hs.rf
  have htl := hs.ma.tb
  obtain ⟨a1, c1, a2, c2, a3, c3, a4, c4, rfl, hm, hr⟩ := h.slices
  have h' : KE lo hi w (.agg #[.slice a1 k.ma.fr.cells.length c1, .slice a2 k.ma.fr.used.length c2, .slice a3 k.ma.tb.length c3, .int .i64 k.calls, .slice a4 k.refuse.length c4]) k := KE.mk hm hr
  clear h hm hr
  go_enter Try.func31, Try.ntmps31
  go_wp2_with fail
  refine (canCall_any _ _ (h'.keep (((Chg.refl 0 0 w).alloc (.cells #[.slice a1 k.ma.fr.cells.length c1, .slice a2 k.ma.fr.used.length c2, .slice a3 k.ma.tb.length c3, .int .i64 k.calls, .slice a4 k.refuse.length c4] 47 (0, 0))).alloc (.cells #[.slice none 0 0, .slice none 0 0, .slice none 0 0, .int .i64 0, .slice none 0 0] 47 (0, 0)))) hs).mono ?_
  rintro e w1 ⟨rfl, k1⟩
  have bK := ((Blk.new w 47 #[.slice a1 k.ma.fr.cells.length c1, .slice a2 k.ma.fr.used.length c2, .slice a3 k.ma.tb.length c3, .int .i64 k.calls, .slice a4 k.refuse.length c4]).keep ((Chg.refl 0 0 _).alloc (.cells #[.slice none 0 0, .slice none 0 0, .slice none 0 0, .int .i64 0, .slice none 0 0] 47 (0, 0)))).keep k1
  have bR := (blk1 w (.cells #[.slice a1 k.ma.fr.cells.length c1, .slice a2 k.ma.fr.used.length c2, .slice a3 k.ma.tb.length c3, .int .i64 k.calls, .slice a4 k.refuse.length c4] 47 (0, 0)) 47 #[.slice none 0 0, .slice none 0 0, .slice none 0 0, .int .i64 0, .slice none 0 0]).keep k1
  have q1 : Keep w w1 := Chg.keep (((Chg.refl 0 0 w).alloc (.cells #[.slice a1 k.ma.fr.cells.length c1, .slice a2 k.ma.fr.used.length c2, .slice a3 k.ma.tb.length c3, .int .i64 k.calls, .slice a4 k.refuse.length c4] 47 (0, 0))).alloc (.cells #[.slice none 0 0, .slice none 0 0, .slice none 0 0, .int .i64 0, .slice none 0 0] 47 (0, 0))) k1
  have z1 := k1.size
  simp only [size_alloc] at z1
  have h1 := h'.keep q1
  clear k1
  have BK := Lib.hid bK
  have BR := Lib.hid bR
  have x0 := bK.cell 0; have x1 := bK.cell 1; have x2 := bK.cell 2; have x3 := bK.cell 3; have x4 := bK.cell 4; have lK := bK.lt
  clear bK bR h'
  cases hc : canB k
  · have HE := Lib.hid (show mapNewOk k p = false by unfold mapNewOk; rw [hc]; rfl)
    have HD := Lib.hid (show mapNewD k p = k by unfold mapNewD; rw [HE.out, hc]; rfl)
    clear hc
    go_wp2_with fail
    refine (copyKernel_any _ _ h1 hs).mono ?_
    rintro e w2 ⟨v2, rfl, h2, k2⟩
    obtain ⟨b1, d1, b2, d2, b3, d3, b4, d4, rfl, m2, n2⟩ := h2.slices
    have H2 := Lib.hid (show KE w1.heap.size w2.heap.size w2 (.agg #[.slice b1 k.ma.fr.cells.length d1, .slice b2 k.ma.fr.used.length d2, .slice b3 k.ma.tb.length d3, .int .i64 k.calls, .slice b4 k.refuse.length d4]) k from KE.mk m2 n2)
    have z2 := k2.size
    have bR := BR.out.keep k2
    have r0 := bR.cell 0; have r1 := bR.cell 1; have r2 := bR.cell 2; have r3 := bR.cell 3; have r4 := bR.cell 4; have s0 := bR.frozen 0; have s1 := bR.frozen 1; have s2 := bR.frozen 2; have s3 := bR.frozen 3; have s4 := bR.frozen 4; have lR := bR.lt
    clear m2 n2 h2 bR
    go_wp2_with fail
    refine bodyPost_ret (v := .tuple #[.agg #[.slice b1 k.ma.fr.cells.length d1, .slice b2 k.ma.fr.used.length d2, .slice b3 k.ma.tb.length d3, .int .i64 k.calls, .slice b4 k.refuse.length d4], .bool false]) (by simp [results, Try.results31, go_sem, r0, r1, r2, r3, r4, lR]) rfl ⟨_, by rw [HE.out], ?_, ?_⟩
    · rw [HD.out]
      exact ((H2.out).mv (l := w.heap.size + 1) (h := w.heap.size + 2) ((((((Chg.refl _ _ _).set (w.heap.size + 1) 0 _ (.inl ⟨by omega, by omega⟩)).set (w.heap.size + 1) 1 _ (.inl ⟨by omega, by omega⟩)).set (w.heap.size + 1) 2 _ (.inl ⟨by omega, by omega⟩)).set (w.heap.size + 1) 3 _ (.inl ⟨by omega, by omega⟩)).set (w.heap.size + 1) 4 _ (.inl ⟨by omega, by omega⟩)) (by omega)).wide (by omega) (by simp only [size_set]; omega)
    · exact ((((((q1.keep k2).set (w.heap.size + 1) 0 _ (.inr (by omega))).set (w.heap.size + 1) 1 _ (.inr (by omega))).set (w.heap.size + 1) 2 _ (.inr (by omega))).set (w.heap.size + 1) 3 _ (.inr (by omega))).set (w.heap.size + 1) 4 _ (.inr (by omega)))
  have hcl := tick_le hc
  go_wp2_with fail
  have HC := Lib.hid hc
  clear hc x0 x1 x2 x3 x4 lK
  have HG := Lib.hid (counted_any _ _ h1 hs hcl.1 (by omega))
  refine HG.out.mono ?_
  generalize hg : grantB k = g
  clear HG
  rintro e w2 ⟨v2, rfl, h2, k2⟩
  obtain ⟨b1, d1, b2, d2, b3, d3, b4, d4, rfl, h2⟩ := h2.tickSlices
  have z2 := k2.size
  have k3 : Keep w2 (w2.alloc (.cells #[.slice b1 k.ma.fr.cells.length d1, .slice b2 k.ma.fr.used.length d2, .slice b3 k.ma.tb.length d3, .int .i64 (k.calls + 1), .slice b4 k.refuse.length d4] 47 (0, 0))) := (Chg.refl 0 0 w2).alloc _
  have HALL := Lib.hid (And.intro (And.intro (And.intro (h1.keep (k2.keep k3)) (h2.keep k3)) (And.intro (BK.out.keep (k2.keep k3)) (BR.out.keep (k2.keep k3)))) (And.intro (And.intro (Blk.new w2 47 #[.slice b1 k.ma.fr.cells.length d1, .slice b2 k.ma.fr.used.length d2, .slice b3 k.ma.tb.length d3, .int .i64 (k.calls + 1), .slice b4 k.refuse.length d4]) (q1.keep (k2.keep k3))) (show (w2.alloc (.cells #[.slice b1 k.ma.fr.cells.length d1, .slice b2 k.ma.fr.used.length d2, .slice b3 k.ma.tb.length d3, .int .i64 (k.calls + 1), .slice b4 k.refuse.length d4] 47 (0, 0))).heap.size = w2.heap.size + 1 from size_alloc _ _)))
  have bR := BR.out.keep (k2.keep k3)
  have bO := Blk.new w2 47 #[.slice b1 k.ma.fr.cells.length d1, .slice b2 k.ma.fr.used.length d2, .slice b3 k.ma.tb.length d3, .int .i64 (k.calls + 1), .slice b4 k.refuse.length d4]
  have bK := BK.out.keep (k2.keep k3)
  have x0 := bK.cell 0; have x1 := bK.cell 1; have x2 := bK.cell 2; have x3 := bK.cell 3; have x4 := bK.cell 4; have lK := bK.lt
  have r0 := bR.cell 0; have r1 := bR.cell 1; have r2 := bR.cell 2; have r3 := bR.cell 3; have r4 := bR.cell 4; have s0 := bR.frozen 0; have s1 := bR.frozen 1; have s2 := bR.frozen 2; have s3 := bR.frozen 3; have s4 := bR.frozen 4; have lR := bR.lt
  have o0 := bO.cell 0; have o1 := bO.cell 1; have o2 := bO.cell 2; have o3 := bO.cell 3; have o4 := bO.cell 4; have u0 := bO.frozen 0; have u1 := bO.frozen 1; have u2 := bO.frozen 2; have u3 := bO.frozen 3; have u4 := bO.frozen 4; have lO := bO.lt
  clear h1 h2 k2 k3 BK BR bR bO bK
  go_wp2_with fail
  clear x0 x1 x2 x3 x4 lK r0 r1 r2 r3 r4 s0 s1 s2 s3 s4 lR o0 o1 o2 o3 o4 u0 u1 u2 u3 u4 lO
  generalize w2.alloc (.cells #[.slice b1 k.ma.fr.cells.length d1, .slice b2 k.ma.fr.used.length d2, .slice b3 k.ma.tb.length d3, .int .i64 (k.calls + 1), .slice b4 k.refuse.length d4] 47 (0, 0)) = W3 at *
  obtain ⟨⟨⟨hk3, h3⟩, bK, bR⟩, ⟨bO, q3⟩, z3⟩ := HALL.out
  have HK := Lib.hid hk3
  have H3 := Lib.hid h3
  have BK := Lib.hid bK
  have BR := Lib.hid bR
  have BO := Lib.hid bO
  clear HALL
  have x0 := bK.cell 0; have x1 := bK.cell 1; have x2 := bK.cell 2; have x3 := bK.cell 3; have x4 := bK.cell 4; have lK := bK.lt
  have r0 := bR.cell 0; have r1 := bR.cell 1; have r2 := bR.cell 2; have r3 := bR.cell 3; have r4 := bR.cell 4; have s0 := bR.frozen 0; have s1 := bR.frozen 1; have s2 := bR.frozen 2; have s3 := bR.frozen 3; have s4 := bR.frozen 4; have lR := bR.lt
  have o0 := bO.cell 0; have o1 := bO.cell 1; have o2 := bO.cell 2; have o3 := bO.cell 3; have o4 := bO.cell 4; have u0 := bO.frozen 0; have u1 := bO.frozen 1; have u2 := bO.frozen 2; have u3 := bO.frozen 3; have u4 := bO.frozen 4; have lO := bO.lt
  clear bK bR bO hk3 h3
  have HFr : FR lo hi W3 (.agg #[.slice a1 k.ma.fr.cells.length c1, .slice a2 k.ma.fr.used.length c2]) k.ma.fr := HK.out.parts.1
  refine (frameTake_any _ _ HFr hs.ma.fr).mono ?_
  rintro e w4 ⟨v4, rfl, h4, k4⟩
  obtain ⟨p1, y1, p2, y2, rfl, h4⟩ := h4.slices
  clear HFr x0 x1 x2 x3 x4 lK r0 r1 r2 r3 r4 s0 s1 s2 s3 s4 lR o0 o1 o2 o3 o4 u0 u1 u2 u3 u4 lO
  have z4 := k4.size
  have k5 : Keep w4 (w4.alloc (.cells #[.slice p1 (takeD k.ma.fr).cells.length y1, .slice p2 (takeD k.ma.fr).used.length y2] 34 (0, 0))) := (Chg.refl 0 0 w4).alloc _
  have HALL := Lib.hid (And.intro (And.intro (And.intro (HK.out.keep (k4.keep k5)) (H3.out.keep (k4.keep k5))) (And.intro (BK.out.keep (k4.keep k5)) (BR.out.keep (k4.keep k5)))) (And.intro (And.intro (BO.out.keep (k4.keep k5)) (q3.keep (k4.keep k5))) (And.intro (And.intro (Blk.new w4 34 #[.slice p1 (takeD k.ma.fr).cells.length y1, .slice p2 (takeD k.ma.fr).used.length y2]) (h4.keep k5)) (show (w4.alloc (.cells #[.slice p1 (takeD k.ma.fr).cells.length y1, .slice p2 (takeD k.ma.fr).used.length y2] 34 (0, 0))).heap.size = w4.heap.size + 1 from size_alloc _ _))))
  clear HK H3 BK BR BO h4 k4 k5
  obtain ⟨⟨⟨hk5, h5⟩, bK, bR⟩, ⟨bO, q5⟩, ⟨bF, hf5⟩, z5⟩ := HALL.out
  have HK := Lib.hid hk5
  have H5 := Lib.hid h5
  have HF := Lib.hid hf5
  have BK := Lib.hid bK
  have BR := Lib.hid bR
  have BO := Lib.hid bO
  have BF := Lib.hid bF
  clear HALL hk5 h5 hf5
  have x0 := bK.cell 0; have x1 := bK.cell 1; have x2 := bK.cell 2; have x3 := bK.cell 3; have x4 := bK.cell 4; have lK := bK.lt
  have r0 := bR.cell 0; have r1 := bR.cell 1; have r2 := bR.cell 2; have r3 := bR.cell 3; have r4 := bR.cell 4; have s0 := bR.frozen 0; have s1 := bR.frozen 1; have s2 := bR.frozen 2; have s3 := bR.frozen 3; have s4 := bR.frozen 4; have lR := bR.lt
  have o0 := bO.cell 0; have o1 := bO.cell 1; have o2 := bO.cell 2; have o3 := bO.cell 3; have o4 := bO.cell 4; have u0 := bO.frozen 0; have u1 := bO.frozen 1; have u2 := bO.frozen 2; have u3 := bO.frozen 3; have u4 := bO.frozen 4; have lO := bO.lt
  clear bK bR bO bF
  cases g
  · have HE := Lib.hid (show mapNewOk k p = false by unfold mapNewOk; rw [HC.out, hg]; rfl)
    have HD := Lib.hid (show mapNewD k p = tickD k by unfold mapNewD; rw [HE.out, HC.out]; rfl)
    go_wp2_with fail
    refine bodyPost_ret (v := .tuple #[.agg #[.slice b1 k.ma.fr.cells.length d1, .slice b2 k.ma.fr.used.length d2, .slice b3 k.ma.tb.length d3, .int .i64 (k.calls + 1), .slice b4 k.refuse.length d4], .bool false]) (by simp [results, Try.results31, go_sem, r0, r1, r2, r3, r4, lR]) rfl ⟨_, by rw [HE.out], ?_, ?_⟩
    · rw [HD.out]
      exact ((H5.out).mv (l := w.heap.size + 1) (h := w.heap.size + 2) ((((((Chg.refl _ _ _).set (w.heap.size + 1) 0 _ (.inl ⟨by omega, by omega⟩)).set (w.heap.size + 1) 1 _ (.inl ⟨by omega, by omega⟩)).set (w.heap.size + 1) 2 _ (.inl ⟨by omega, by omega⟩)).set (w.heap.size + 1) 3 _ (.inl ⟨by omega, by omega⟩)).set (w.heap.size + 1) 4 _ (.inl ⟨by omega, by omega⟩)) (by omega)).wide (by omega) (by simp only [size_set]; omega)
    · exact (((((q5.set (w.heap.size + 1) 0 _ (.inr (by omega))).set (w.heap.size + 1) 1 _ (.inr (by omega))).set (w.heap.size + 1) 2 _ (.inr (by omega))).set (w.heap.size + 1) 3 _ (.inr (by omega))).set (w.heap.size + 1) 4 _ (.inr (by omega)))
  cases ht : takeOk k.ma.fr
  · have HE := Lib.hid (show mapNewOk k p = false by unfold mapNewOk; rw [HC.out, hg, ht]; rfl)
    have HD := Lib.hid (show mapNewD k p = tickD k by unfold mapNewD; rw [HE.out, HC.out]; rfl)
    go_wp2_with fail
    refine bodyPost_ret (v := .tuple #[.agg #[.slice b1 k.ma.fr.cells.length d1, .slice b2 k.ma.fr.used.length d2, .slice b3 k.ma.tb.length d3, .int .i64 (k.calls + 1), .slice b4 k.refuse.length d4], .bool false]) (by simp [results, Try.results31, go_sem, r0, r1, r2, r3, r4, lR]) rfl ⟨_, by rw [HE.out], ?_, ?_⟩
    · rw [HD.out]
      exact ((H5.out).mv (l := w.heap.size + 1) (h := w.heap.size + 2) ((((((Chg.refl _ _ _).set (w.heap.size + 1) 0 _ (.inl ⟨by omega, by omega⟩)).set (w.heap.size + 1) 1 _ (.inl ⟨by omega, by omega⟩)).set (w.heap.size + 1) 2 _ (.inl ⟨by omega, by omega⟩)).set (w.heap.size + 1) 3 _ (.inl ⟨by omega, by omega⟩)).set (w.heap.size + 1) 4 _ (.inl ⟨by omega, by omega⟩)) (by omega)).wide (by omega) (by simp only [size_set]; omega)
    · exact (((((q5.set (w.heap.size + 1) 0 _ (.inr (by omega))).set (w.heap.size + 1) 1 _ (.inr (by omega))).set (w.heap.size + 1) 2 _ (.inr (by omega))).set (w.heap.size + 1) 3 _ (.inr (by omega))).set (w.heap.size + 1) 4 _ (.inr (by omega)))
  cases hb : btw p 0 ((k.ma.tb.length : Int) - 1)
  · have HE := Lib.hid (show mapNewOk k p = false by unfold mapNewOk; rw [HC.out, hg, ht, hb]; rfl)
    have HD := Lib.hid (show mapNewD k p = tickD k by unfold mapNewD; rw [HE.out, HC.out]; rfl)
    go_wp2_with (go_at_call 65; refine (between_any _ _ _ _).mono ?_; rw [hb]; rintro e w' ⟨rfl, rfl⟩)
    refine bodyPost_ret (v := .tuple #[.agg #[.slice b1 k.ma.fr.cells.length d1, .slice b2 k.ma.fr.used.length d2, .slice b3 k.ma.tb.length d3, .int .i64 (k.calls + 1), .slice b4 k.refuse.length d4], .bool false]) (by simp [results, Try.results31, go_sem, r0, r1, r2, r3, r4, lR]) rfl ⟨_, by rw [HE.out], ?_, ?_⟩
    · rw [HD.out]
      exact ((H5.out).mv (l := w.heap.size + 1) (h := w.heap.size + 2) ((((((Chg.refl _ _ _).set (w.heap.size + 1) 0 _ (.inl ⟨by omega, by omega⟩)).set (w.heap.size + 1) 1 _ (.inl ⟨by omega, by omega⟩)).set (w.heap.size + 1) 2 _ (.inl ⟨by omega, by omega⟩)).set (w.heap.size + 1) 3 _ (.inl ⟨by omega, by omega⟩)).set (w.heap.size + 1) 4 _ (.inl ⟨by omega, by omega⟩)) (by omega)).wide (by omega) (by simp only [size_set]; omega)
    · exact (((((q5.set (w.heap.size + 1) 0 _ (.inr (by omega))).set (w.heap.size + 1) 1 _ (.inr (by omega))).set (w.heap.size + 1) 2 _ (.inr (by omega))).set (w.heap.size + 1) 3 _ (.inr (by omega))).set (w.heap.size + 1) 4 _ (.inr (by omega)))
  cases hp : mapB k.ma p
  rotate_left
  · have HE := Lib.hid (show mapNewOk k p = false by unfold mapNewOk; rw [HC.out, hg, ht, hb, hp]; rfl)
    have HD := Lib.hid (show mapNewD k p = tickD k by unfold mapNewD; rw [HE.out, HC.out]; rfl)
    go_wp2_with (first | (go_at_call 65; refine (between_any _ _ _ _).mono ?_; rw [hb]; rintro e w' ⟨rfl, rfl⟩) | (go_at_call 74; refine (mapped_any _ _ _ HK.out hs).mono ?_; rw [hp]; rintro e w6 ⟨rfl, k6⟩; have z6 := k6.size; have bK := BK.out.keep k6; have bR := BR.out.keep k6; have bO := BO.out.keep k6; have x0 := bK.cell 0; have x1 := bK.cell 1; have x2 := bK.cell 2; have x3 := bK.cell 3; have x4 := bK.cell 4; have lK := bK.lt; have r0 := bR.cell 0; have r1 := bR.cell 1; have r2 := bR.cell 2; have r3 := bR.cell 3; have r4 := bR.cell 4; have s0 := bR.frozen 0; have s1 := bR.frozen 1; have s2 := bR.frozen 2; have s3 := bR.frozen 3; have s4 := bR.frozen 4; have lR := bR.lt; have o0 := bO.cell 0; have o1 := bO.cell 1; have o2 := bO.cell 2; have o3 := bO.cell 3; have o4 := bO.cell 4; have u0 := bO.frozen 0; have u1 := bO.frozen 1; have u2 := bO.frozen 2; have u3 := bO.frozen 3; have u4 := bO.frozen 4; have lO := bO.lt; clear bK bR bO))
    refine bodyPost_ret (v := .tuple #[.agg #[.slice b1 k.ma.fr.cells.length d1, .slice b2 k.ma.fr.used.length d2, .slice b3 k.ma.tb.length d3, .int .i64 (k.calls + 1), .slice b4 k.refuse.length d4], .bool false]) (by simp [results, Try.results31, go_sem, r0, r1, r2, r3, r4, lR]) rfl ⟨_, by rw [HE.out], ?_, ?_⟩
    · rw [HD.out]
      exact (((H5.out.keep k6)).mv (l := w.heap.size + 1) (h := w.heap.size + 2) ((((((Chg.refl _ _ _).set (w.heap.size + 1) 0 _ (.inl ⟨by omega, by omega⟩)).set (w.heap.size + 1) 1 _ (.inl ⟨by omega, by omega⟩)).set (w.heap.size + 1) 2 _ (.inl ⟨by omega, by omega⟩)).set (w.heap.size + 1) 3 _ (.inl ⟨by omega, by omega⟩)).set (w.heap.size + 1) 4 _ (.inl ⟨by omega, by omega⟩)) (by omega)).wide (by omega) (by simp only [size_set]; omega)
    · exact ((((((q5.keep k6).set (w.heap.size + 1) 0 _ (.inr (by omega))).set (w.heap.size + 1) 1 _ (.inr (by omega))).set (w.heap.size + 1) 2 _ (.inr (by omega))).set (w.heap.size + 1) 3 _ (.inr (by omega))).set (w.heap.size + 1) 4 _ (.inr (by omega)))
  have HE := Lib.hid (show mapNewOk k p = true by unfold mapNewOk; rw [HC.out, hg, ht, hb, hp]; rfl)
  have HD := Lib.hid (show mapNewD k p = ⟨⟨takeD k.ma.fr, k.ma.tb.set p.toNat (2, takeI k.ma.fr)⟩, k.calls + 1, k.refuse⟩ by unfold mapNewD; rw [HE.out]; rfl)
  have hpl := btw_len hb
  obtain ⟨hp0, hp9⟩ := btw_iff.1 hb
  have hpl' : p < k.ma.tb.length := by omega
  obtain ⟨gE, rfl, gE0, gE1, -⟩ := H5.out.entFull p.toNat hpl
  generalize htd : takeD k.ma.fr = fr at *
  generalize hti : takeI k.ma.fr = fi at *
  clear htd hti
  have hneE : ¬ gE = w2.heap.size := by omega
  have hneE' : ¬ w2.heap.size = gE := by omega
  have hneA : ¬ w2.heap.size = w.heap.size + 1 := by omega
  have hneB : ¬ w.heap.size + 1 = w2.heap.size := by omega
  go_wp2_with (first | (go_at_call 65; refine (between_any _ _ _ _).mono ?_; rw [hb]; rintro e w' ⟨rfl, rfl⟩) | (go_at_call 74; refine (mapped_any _ _ _ HK.out hs).mono ?_; rw [hp]; rintro e w6 ⟨rfl, k6⟩; have z6 := k6.size; have bK := BK.out.keep k6; have bR := BR.out.keep k6; have bO := BO.out.keep k6; have x0 := bK.cell 0; have x1 := bK.cell 1; have x2 := bK.cell 2; have x3 := bK.cell 3; have x4 := bK.cell 4; have lK := bK.lt; have r0 := bR.cell 0; have r1 := bR.cell 1; have r2 := bR.cell 2; have r3 := bR.cell 3; have r4 := bR.cell 4; have s0 := bR.frozen 0; have s1 := bR.frozen 1; have s2 := bR.frozen 2; have s3 := bR.frozen 3; have s4 := bR.frozen 4; have lR := bR.lt; have o0 := bO.cell 0; have o1 := bO.cell 1; have o2 := bO.cell 2; have o3 := bO.cell 3; have o4 := bO.cell 4; have u0 := bO.frozen 0; have u1 := bO.frozen 1; have u2 := bO.frozen 2; have u3 := bO.frozen 3; have u4 := bO.frozen 4; have lO := bO.lt; clear bK bR bO; have bF := BF.out.keep k6; have v0 := bF.cell 0; have v1 := bF.cell 1; have lF := bF.lt; clear bF; obtain ⟨gY, e9, -, -, gE2, e1, e2, f1, f2, -, -⟩ := (H5.out.keep k6).entFull p.toNat hpl; obtain rfl : gE = gY := some_blk e9; clear e9))
  have hO := (H5.out.keep k6).mv (((Chg.refl w2.heap.size (w2.heap.size + 1) w6).set w2.heap.size 0 (.slice p1 fr.cells.length y1) (.inl ⟨by omega, by omega⟩)).set w2.heap.size 1 (.slice p2 fr.used.length y2) (.inl ⟨by omega, by omega⟩)) (by omega)
  obtain ⟨gX, e8, -, -, -, -, -, -, -, st, -⟩ := hO.entFull p.toNat hpl
  obtain rfl : gE = gX := some_blk e8
  obtain ⟨-, hSE, -, hSI⟩ := (st 2 fi).parts
  have CH := ((((Chg.refl w1.heap.size (w2.heap.size + 1) w6).set w2.heap.size 0 (.slice p1 fr.cells.length y1) (.inl ⟨by omega, by omega⟩)).set w2.heap.size 1 (.slice p2 fr.used.length y2) (.inl ⟨by omega, by omega⟩)).set gE (p.toNat * 2) (.int .i64 2) (.inl ⟨by omega, by omega⟩)).set gE (p.toNat * 2 + 1) (.int .i64 fi) (.inl ⟨by omega, by omega⟩)
  have hFR := (HF.out.keep k6).mv CH (by omega)
  have H7 := Lib.hid (KE.mk4 (lo := w1.heap.size) (hi := w4.heap.size) (k := ⟨⟨fr, k.ma.tb.set p.toNat (2, fi)⟩, k.calls + 1, k.refuse⟩) (hFR.wide (by omega) (Nat.le_refl _)) (hSE.wide (Nat.le_refl _) (by omega)) (hSI.wide (Nat.le_refl _) (by omega)))
  have Q7 := Lib.hid ((q5.keep k6).comp CH (.inl (by omega)))
  have zC := CH.size
  clear hO st hSE hSI CH hFR e8
  refine bodyPost_ret (v := .tuple #[.agg #[.slice p1 fr.cells.length y1, .slice p2 fr.used.length y2, .slice (some ⟨gE, 0, none⟩) k.ma.tb.length d3, .int .i64 (k.calls + 1), .slice b4 k.refuse.length d4], .bool true]) (by simp [results, Try.results31, go_sem, r0, r1, r2, r3, r4, lR]) rfl ⟨_, by rw [HE.out], ?_, ?_⟩
  · rw [HD.out]
    exact ((H7.out).mv (l := w.heap.size + 1) (h := w.heap.size + 2) ((((((Chg.refl _ _ _).set (w.heap.size + 1) 0 _ (.inl ⟨by omega, by omega⟩)).set (w.heap.size + 1) 1 _ (.inl ⟨by omega, by omega⟩)).set (w.heap.size + 1) 2 _ (.inl ⟨by omega, by omega⟩)).set (w.heap.size + 1) 3 _ (.inl ⟨by omega, by omega⟩)).set (w.heap.size + 1) 4 _ (.inl ⟨by omega, by omega⟩)) (by omega)).wide (by omega) (by simp only [size_set]; omega)
  · exact (((((Q7.out.set (w.heap.size + 1) 0 _ (.inr (by omega))).set (w.heap.size + 1) 1 _ (.inr (by omega))).set (w.heap.size + 1) 2 _ (.inr (by omega))).set (w.heap.size + 1) 3 _ (.inr (by omega))).set (w.heap.size + 1) 4 _ (.inr (by omega)))
end Go.Proofs.Ytkcoehkfhffjkaa
