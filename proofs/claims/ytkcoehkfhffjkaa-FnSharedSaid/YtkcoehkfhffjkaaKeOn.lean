/- Kernels: KMapOn of the program. Printed by wip/tools/mk_ke5.py. -/
import Derived.Test.YtkcoehkfhffjkaaKeUnmap
namespace Go.Proofs.Ytkcoehkfhffjkaa
open Go.ChangeShapes Go.WideShapes Go.ChangeAt Go.RowKit
set_option linter.unusedSimpArgs false
set_option linter.unusedVariables false
set_option maxRecDepth 100000

set_option maxHeartbeats 4000000 in
theorem kMapOn_any {lo hi : Nat} {k : KeD} (v : Value) (p o : Int) (w : World) (h : KE lo hi w v k) (hs : sm_Kernel k) :
    Calls Try.prog 40 #[v, .int .i64 p, .int .i64 o] w fun e w' => ∃ v', e = .returned (.tuple #[v', .bool (mapOnOk k p o)]) ∧ KE w.heap.size w'.heap.size w' v' (mapOnD k p o) ∧ Keep w w' := by
  have hrf := hs.rf
  have htl := hs.ma.tb
  obtain ⟨a1, c1, a2, c2, a3, c3, a4, c4, rfl, hm, hr⟩ := h.slices
  have h' : KE lo hi w (.agg #[.slice a1 k.ma.fr.cells.length c1, .slice a2 k.ma.fr.used.length c2, .slice a3 k.ma.tb.length c3, .int .i64 k.calls, .slice a4 k.refuse.length c4]) k := KE.mk hm hr
  clear h hm hr
  go_enter Try.func40, Try.ntmps40
  go_wp2_with fail
  refine (canCall_any _ _ (h'.keep (((Chg.refl 0 0 w).alloc (.cells #[.slice a1 k.ma.fr.cells.length c1, .slice a2 k.ma.fr.used.length c2, .slice a3 k.ma.tb.length c3, .int .i64 k.calls, .slice a4 k.refuse.length c4] 47 (0, 0))).alloc (.cells #[.slice none 0 0, .slice none 0 0, .slice none 0 0, .int .i64 0, .slice none 0 0] 47 (0, 0)))) hs).mono ?_
  rintro e w1 ⟨rfl, k1⟩
  have bK := ((Blk.new w 47 #[.slice a1 k.ma.fr.cells.length c1, .slice a2 k.ma.fr.used.length c2, .slice a3 k.ma.tb.length c3, .int .i64 k.calls, .slice a4 k.refuse.length c4]).keep ((Chg.refl 0 0 _).alloc (.cells #[.slice none 0 0, .slice none 0 0, .slice none 0 0, .int .i64 0, .slice none 0 0] 47 (0, 0)))).keep k1
  have bR := (blk1 w (.cells #[.slice a1 k.ma.fr.cells.length c1, .slice a2 k.ma.fr.used.length c2, .slice a3 k.ma.tb.length c3, .int .i64 k.calls, .slice a4 k.refuse.length c4] 47 (0, 0)) 47 #[.slice none 0 0, .slice none 0 0, .slice none 0 0, .int .i64 0, .slice none 0 0]).keep k1
  have q1 : Keep w w1 := Chg.keep (((Chg.refl 0 0 w).alloc (.cells #[.slice a1 k.ma.fr.cells.length c1, .slice a2 k.ma.fr.used.length c2, .slice a3 k.ma.tb.length c3, .int .i64 k.calls, .slice a4 k.refuse.length c4] 47 (0, 0))).alloc (.cells #[.slice none 0 0, .slice none 0 0, .slice none 0 0, .int .i64 0, .slice none 0 0] 47 (0, 0))) k1
  have z1 := k1.size
  simp only [size_alloc] at z1
  have h1 := h'.keep q1
  clear k1
  have BK := Lib.hid bK
  have BR := Lib.hid bR
  have x0 := bK.cell 0; have x1 := bK.cell 1; have x2 := bK.cell 2; have x3 := bK.cell 3; have x4 := bK.cell 4; have lK := bK.lt
  clear bK bR h'
  cases hc : canB k
  · have HE := Lib.hid (show mapOnOk k p o = false by unfold mapOnOk; rw [hc]; rfl)
    have HD := Lib.hid (show mapOnD k p o = k by unfold mapOnD; rw [HE.out, hc]; rfl)
    clear hc
    go_wp2_with fail
    refine (copyKernel_any _ _ h1 hs).mono ?_
    rintro e w2 ⟨v2, rfl, h2, k2⟩
    obtain ⟨b1, d1, b2, d2, b3, d3, b4, d4, rfl, m2, n2⟩ := h2.slices
    have H2 := Lib.hid (show KE w1.heap.size w2.heap.size w2 (.agg #[.slice b1 k.ma.fr.cells.length d1, .slice b2 k.ma.fr.used.length d2, .slice b3 k.ma.tb.length d3, .int .i64 k.calls, .slice b4 k.refuse.length d4]) k from KE.mk m2 n2)
    have z2 := k2.size
    have bR := BR.out.keep k2
    have r0 := bR.cell 0; have r1 := bR.cell 1; have r2 := bR.cell 2; have r3 := bR.cell 3; have r4 := bR.cell 4; have s0 := bR.frozen 0; have s1 := bR.frozen 1; have s2 := bR.frozen 2; have s3 := bR.frozen 3; have s4 := bR.frozen 4; have lR := bR.lt
    clear m2 n2 h2 bR
    go_wp2_with fail
    refine bodyPost_ret (v := .tuple #[.agg #[.slice b1 k.ma.fr.cells.length d1, .slice b2 k.ma.fr.used.length d2, .slice b3 k.ma.tb.length d3, .int .i64 k.calls, .slice b4 k.refuse.length d4], .bool false]) (by simp [results, Try.results40, go_sem, r0, r1, r2, r3, r4, lR]) rfl ⟨_, by rw [HE.out], ?_, ?_⟩
    · rw [HD.out]
      exact ((H2.out).mv (l := w.heap.size + 1) (h := w.heap.size + 2) ((((((Chg.refl _ _ _).set (w.heap.size + 1) 0 _ (.inl ⟨by omega, by omega⟩)).set (w.heap.size + 1) 1 _ (.inl ⟨by omega, by omega⟩)).set (w.heap.size + 1) 2 _ (.inl ⟨by omega, by omega⟩)).set (w.heap.size + 1) 3 _ (.inl ⟨by omega, by omega⟩)).set (w.heap.size + 1) 4 _ (.inl ⟨by omega, by omega⟩)) (by omega)).wide (by omega) (by simp only [size_set]; omega)
    · exact ((((((q1.keep k2).set (w.heap.size + 1) 0 _ (.inr (by omega))).set (w.heap.size + 1) 1 _ (.inr (by omega))).set (w.heap.size + 1) 2 _ (.inr (by omega))).set (w.heap.size + 1) 3 _ (.inr (by omega))).set (w.heap.size + 1) 4 _ (.inr (by omega)))
  have hcl := tick_le hc
  go_wp2_with fail
  have HC := Lib.hid hc
  clear hc x0 x1 x2 x3 x4 lK
  have HG := Lib.hid (counted_any _ _ h1 hs hcl.1 (by omega))
  cases hg : grantB k
  · refine HG.out.mono ?_
    rw [hg]
    rintro e w2 ⟨v2, rfl, h2, k2⟩
    obtain ⟨b1, d1, b2, d2, b3, d3, b4, d4, rfl, h2⟩ := h2.tickSlices
    have z2 := k2.size
    have k3 : Keep w2 (w2.alloc (.cells #[.slice b1 k.ma.fr.cells.length d1, .slice b2 k.ma.fr.used.length d2, .slice b3 k.ma.tb.length d3, .int .i64 (k.calls + 1), .slice b4 k.refuse.length d4] 47 (0, 0))) := (Chg.refl 0 0 w2).alloc _
    have HALL := Lib.hid (And.intro (And.intro (And.intro (h1.keep (k2.keep k3)) (h2.keep k3)) (And.intro (BK.out.keep (k2.keep k3)) (BR.out.keep (k2.keep k3)))) (And.intro (And.intro (Blk.new w2 47 #[.slice b1 k.ma.fr.cells.length d1, .slice b2 k.ma.fr.used.length d2, .slice b3 k.ma.tb.length d3, .int .i64 (k.calls + 1), .slice b4 k.refuse.length d4]) (q1.keep (k2.keep k3))) (show (w2.alloc (.cells #[.slice b1 k.ma.fr.cells.length d1, .slice b2 k.ma.fr.used.length d2, .slice b3 k.ma.tb.length d3, .int .i64 (k.calls + 1), .slice b4 k.refuse.length d4] 47 (0, 0))).heap.size = w2.heap.size + 1 from size_alloc _ _)))
    have bR := BR.out.keep (k2.keep k3)
    have bO := Blk.new w2 47 #[.slice b1 k.ma.fr.cells.length d1, .slice b2 k.ma.fr.used.length d2, .slice b3 k.ma.tb.length d3, .int .i64 (k.calls + 1), .slice b4 k.refuse.length d4]
    have bK := BK.out.keep (k2.keep k3)
    have x0 := bK.cell 0; have x1 := bK.cell 1; have x2 := bK.cell 2; have x3 := bK.cell 3; have x4 := bK.cell 4; have lK := bK.lt
    have r0 := bR.cell 0; have r1 := bR.cell 1; have r2 := bR.cell 2; have r3 := bR.cell 3; have r4 := bR.cell 4; have s0 := bR.frozen 0; have s1 := bR.frozen 1; have s2 := bR.frozen 2; have s3 := bR.frozen 3; have s4 := bR.frozen 4; have lR := bR.lt
    have o0 := bO.cell 0; have o1 := bO.cell 1; have o2 := bO.cell 2; have o3 := bO.cell 3; have o4 := bO.cell 4; have u0 := bO.frozen 0; have u1 := bO.frozen 1; have u2 := bO.frozen 2; have u3 := bO.frozen 3; have u4 := bO.frozen 4; have lO := bO.lt
    clear h1 h2 k2 k3 BK BR bR bO bK
    go_wp2_with fail
    clear x0 x1 x2 x3 x4 lK r0 r1 r2 r3 r4 s0 s1 s2 s3 s4 lR o0 o1 o2 o3 o4 u0 u1 u2 u3 u4 lO
    generalize w2.alloc (.cells #[.slice b1 k.ma.fr.cells.length d1, .slice b2 k.ma.fr.used.length d2, .slice b3 k.ma.tb.length d3, .int .i64 (k.calls + 1), .slice b4 k.refuse.length d4] 47 (0, 0)) = W3 at *
    obtain ⟨⟨⟨hk3, h3⟩, bK, bR⟩, ⟨bO, q3⟩, z3⟩ := HALL.out
    have HK := Lib.hid hk3
    have H3 := Lib.hid h3
    have BK := Lib.hid bK
    have BR := Lib.hid bR
    have BO := Lib.hid bO
    clear HALL
    have x0 := bK.cell 0; have x1 := bK.cell 1; have x2 := bK.cell 2; have x3 := bK.cell 3; have x4 := bK.cell 4; have lK := bK.lt
    have r0 := bR.cell 0; have r1 := bR.cell 1; have r2 := bR.cell 2; have r3 := bR.cell 3; have r4 := bR.cell 4; have s0 := bR.frozen 0; have s1 := bR.frozen 1; have s2 := bR.frozen 2; have s3 := bR.frozen 3; have s4 := bR.frozen 4; have lR := bR.lt
    have o0 := bO.cell 0; have o1 := bO.cell 1; have o2 := bO.cell 2; have o3 := bO.cell 3; have o4 := bO.cell 4; have u0 := bO.frozen 0; have u1 := bO.frozen 1; have u2 := bO.frozen 2; have u3 := bO.frozen 3; have u4 := bO.frozen 4; have lO := bO.lt
    clear bK bR bO hk3 h3
    have HE := Lib.hid (show mapOnOk k p o = false by unfold mapOnOk; rw [HC.out, hg]; rfl)
    have HD := Lib.hid (show mapOnD k p o = tickD k by unfold mapOnD; rw [HE.out, HC.out]; rfl)
    refine bodyPost_ret (v := .tuple #[.agg #[.slice b1 k.ma.fr.cells.length d1, .slice b2 k.ma.fr.used.length d2, .slice b3 k.ma.tb.length d3, .int .i64 (k.calls + 1), .slice b4 k.refuse.length d4], .bool false]) (by simp [results, Try.results40, go_sem, r0, r1, r2, r3, r4, lR]) rfl ⟨_, by rw [HE.out], ?_, ?_⟩
    · rw [HD.out]
      exact ((H3.out).mv (l := w.heap.size + 1) (h := w.heap.size + 2) ((((((Chg.refl _ _ _).set (w.heap.size + 1) 0 _ (.inl ⟨by omega, by omega⟩)).set (w.heap.size + 1) 1 _ (.inl ⟨by omega, by omega⟩)).set (w.heap.size + 1) 2 _ (.inl ⟨by omega, by omega⟩)).set (w.heap.size + 1) 3 _ (.inl ⟨by omega, by omega⟩)).set (w.heap.size + 1) 4 _ (.inl ⟨by omega, by omega⟩)) (by omega)).wide (by omega) (by simp only [size_set]; omega)
    · exact (((((q3.set (w.heap.size + 1) 0 _ (.inr (by omega))).set (w.heap.size + 1) 1 _ (.inr (by omega))).set (w.heap.size + 1) 2 _ (.inr (by omega))).set (w.heap.size + 1) 3 _ (.inr (by omega))).set (w.heap.size + 1) 4 _ (.inr (by omega)))
  refine HG.out.mono ?_
  rw [hg]
  clear HG
  rintro e w2 ⟨v2, rfl, h2, k2⟩
  obtain ⟨b1, d1, b2, d2, b3, d3, b4, d4, rfl, h2⟩ := h2.tickSlices
  have z2 := k2.size
  have k3 : Keep w2 (w2.alloc (.cells #[.slice b1 k.ma.fr.cells.length d1, .slice b2 k.ma.fr.used.length d2, .slice b3 k.ma.tb.length d3, .int .i64 (k.calls + 1), .slice b4 k.refuse.length d4] 47 (0, 0))) := (Chg.refl 0 0 w2).alloc _
  have HALL := Lib.hid (And.intro (And.intro (And.intro (h1.keep (k2.keep k3)) (h2.keep k3)) (And.intro (BK.out.keep (k2.keep k3)) (BR.out.keep (k2.keep k3)))) (And.intro (And.intro (Blk.new w2 47 #[.slice b1 k.ma.fr.cells.length d1, .slice b2 k.ma.fr.used.length d2, .slice b3 k.ma.tb.length d3, .int .i64 (k.calls + 1), .slice b4 k.refuse.length d4]) (q1.keep (k2.keep k3))) (show (w2.alloc (.cells #[.slice b1 k.ma.fr.cells.length d1, .slice b2 k.ma.fr.used.length d2, .slice b3 k.ma.tb.length d3, .int .i64 (k.calls + 1), .slice b4 k.refuse.length d4] 47 (0, 0))).heap.size = w2.heap.size + 1 from size_alloc _ _)))
  have bR := BR.out.keep (k2.keep k3)
  have bO := Blk.new w2 47 #[.slice b1 k.ma.fr.cells.length d1, .slice b2 k.ma.fr.used.length d2, .slice b3 k.ma.tb.length d3, .int .i64 (k.calls + 1), .slice b4 k.refuse.length d4]
  have bK := BK.out.keep (k2.keep k3)
  have x0 := bK.cell 0; have x1 := bK.cell 1; have x2 := bK.cell 2; have x3 := bK.cell 3; have x4 := bK.cell 4; have lK := bK.lt
  have r0 := bR.cell 0; have r1 := bR.cell 1; have r2 := bR.cell 2; have r3 := bR.cell 3; have r4 := bR.cell 4; have s0 := bR.frozen 0; have s1 := bR.frozen 1; have s2 := bR.frozen 2; have s3 := bR.frozen 3; have s4 := bR.frozen 4; have lR := bR.lt
  have o0 := bO.cell 0; have o1 := bO.cell 1; have o2 := bO.cell 2; have o3 := bO.cell 3; have o4 := bO.cell 4; have u0 := bO.frozen 0; have u1 := bO.frozen 1; have u2 := bO.frozen 2; have u3 := bO.frozen 3; have u4 := bO.frozen 4; have lO := bO.lt
  clear h1 h2 k2 k3 BK BR bR bO bK
  go_wp2_with fail
  clear x0 x1 x2 x3 x4 lK r0 r1 r2 r3 r4 s0 s1 s2 s3 s4 lR o0 o1 o2 o3 o4 u0 u1 u2 u3 u4 lO
  generalize w2.alloc (.cells #[.slice b1 k.ma.fr.cells.length d1, .slice b2 k.ma.fr.used.length d2, .slice b3 k.ma.tb.length d3, .int .i64 (k.calls + 1), .slice b4 k.refuse.length d4] 47 (0, 0)) = W3 at *
  obtain ⟨⟨⟨hk3, h3⟩, bK, bR⟩, ⟨bO, q3⟩, z3⟩ := HALL.out
  have HK := Lib.hid hk3
  have H3 := Lib.hid h3
  have BK := Lib.hid bK
  have BR := Lib.hid bR
  have BO := Lib.hid bO
  clear HALL
  have x0 := bK.cell 0; have x1 := bK.cell 1; have x2 := bK.cell 2; have x3 := bK.cell 3; have x4 := bK.cell 4; have lK := bK.lt
  have r0 := bR.cell 0; have r1 := bR.cell 1; have r2 := bR.cell 2; have r3 := bR.cell 3; have r4 := bR.cell 4; have s0 := bR.frozen 0; have s1 := bR.frozen 1; have s2 := bR.frozen 2; have s3 := bR.frozen 3; have s4 := bR.frozen 4; have lR := bR.lt
  have o0 := bO.cell 0; have o1 := bO.cell 1; have o2 := bO.cell 2; have o3 := bO.cell 3; have o4 := bO.cell 4; have u0 := bO.frozen 0; have u1 := bO.frozen 1; have u2 := bO.frozen 2; have u3 := bO.frozen 3; have u4 := bO.frozen 4; have lO := bO.lt
  clear bK bR bO hk3 h3
  cases hp : mapB k.ma p
  · have HE := Lib.hid (show mapOnOk k p o = false by unfold mapOnOk; rw [HC.out, hg, hp]; rfl)
    have HD := Lib.hid (show mapOnD k p o = tickD k by unfold mapOnD; rw [HE.out, HC.out]; rfl)
    go_wp2_with (go_at_call 74; refine (mapped_any _ _ _ HK.out hs).mono ?_; rw [hp]; rintro e w4 ⟨rfl, k4⟩; have z4 := k4.size; have bK := BK.out.keep k4; have bR := BR.out.keep k4; have bO := BO.out.keep k4; have x0 := bK.cell 0; have x1 := bK.cell 1; have x2 := bK.cell 2; have x3 := bK.cell 3; have x4 := bK.cell 4; have lK := bK.lt; have r0 := bR.cell 0; have r1 := bR.cell 1; have r2 := bR.cell 2; have r3 := bR.cell 3; have r4 := bR.cell 4; have s0 := bR.frozen 0; have s1 := bR.frozen 1; have s2 := bR.frozen 2; have s3 := bR.frozen 3; have s4 := bR.frozen 4; have lR := bR.lt; have o0 := bO.cell 0; have o1 := bO.cell 1; have o2 := bO.cell 2; have o3 := bO.cell 3; have o4 := bO.cell 4; have u0 := bO.frozen 0; have u1 := bO.frozen 1; have u2 := bO.frozen 2; have u3 := bO.frozen 3; have u4 := bO.frozen 4; have lO := bO.lt; clear bK bR bO)
    refine bodyPost_ret (v := .tuple #[.agg #[.slice b1 k.ma.fr.cells.length d1, .slice b2 k.ma.fr.used.length d2, .slice b3 k.ma.tb.length d3, .int .i64 (k.calls + 1), .slice b4 k.refuse.length d4], .bool false]) (by simp [results, Try.results40, go_sem, r0, r1, r2, r3, r4, lR]) rfl ⟨_, by rw [HE.out], ?_, ?_⟩
    · rw [HD.out]
      exact (((H3.out.keep k4)).mv (l := w.heap.size + 1) (h := w.heap.size + 2) ((((((Chg.refl _ _ _).set (w.heap.size + 1) 0 _ (.inl ⟨by omega, by omega⟩)).set (w.heap.size + 1) 1 _ (.inl ⟨by omega, by omega⟩)).set (w.heap.size + 1) 2 _ (.inl ⟨by omega, by omega⟩)).set (w.heap.size + 1) 3 _ (.inl ⟨by omega, by omega⟩)).set (w.heap.size + 1) 4 _ (.inl ⟨by omega, by omega⟩)) (by omega)).wide (by omega) (by simp only [size_set]; omega)
    · exact ((((((q3.keep k4).set (w.heap.size + 1) 0 _ (.inr (by omega))).set (w.heap.size + 1) 1 _ (.inr (by omega))).set (w.heap.size + 1) 2 _ (.inr (by omega))).set (w.heap.size + 1) 3 _ (.inr (by omega))).set (w.heap.size + 1) 4 _ (.inr (by omega)))
  cases ho : mapB k.ma o
  · have HE := Lib.hid (show mapOnOk k p o = false by unfold mapOnOk; rw [HC.out, hg, hp, ho]; rfl)
    have HD := Lib.hid (show mapOnD k p o = tickD k by unfold mapOnD; rw [HE.out, HC.out]; rfl)
    go_wp2_with (first | (go_at_call 74; refine (mapped_any _ _ _ (HK.out.keep k4) hs).mono ?_; rw [ho]; rintro e w5 ⟨rfl, k5⟩; have z5 := k5.size; have bK := BK.out.keep (k4.keep k5); have bR := BR.out.keep (k4.keep k5); have bO := BO.out.keep (k4.keep k5); have x0 := bK.cell 0; have x1 := bK.cell 1; have x2 := bK.cell 2; have x3 := bK.cell 3; have x4 := bK.cell 4; have lK := bK.lt; have r0 := bR.cell 0; have r1 := bR.cell 1; have r2 := bR.cell 2; have r3 := bR.cell 3; have r4 := bR.cell 4; have s0 := bR.frozen 0; have s1 := bR.frozen 1; have s2 := bR.frozen 2; have s3 := bR.frozen 3; have s4 := bR.frozen 4; have lR := bR.lt; have o0 := bO.cell 0; have o1 := bO.cell 1; have o2 := bO.cell 2; have o3 := bO.cell 3; have o4 := bO.cell 4; have u0 := bO.frozen 0; have u1 := bO.frozen 1; have u2 := bO.frozen 2; have u3 := bO.frozen 3; have u4 := bO.frozen 4; have lO := bO.lt; clear bK bR bO) | (go_at_call 74; refine (mapped_any _ _ _ HK.out hs).mono ?_; rw [hp]; rintro e w4 ⟨rfl, k4⟩; have z4 := k4.size; have bK := BK.out.keep k4; have bR := BR.out.keep k4; have bO := BO.out.keep k4; have x0 := bK.cell 0; have x1 := bK.cell 1; have x2 := bK.cell 2; have x3 := bK.cell 3; have x4 := bK.cell 4; have lK := bK.lt; have r0 := bR.cell 0; have r1 := bR.cell 1; have r2 := bR.cell 2; have r3 := bR.cell 3; have r4 := bR.cell 4; have s0 := bR.frozen 0; have s1 := bR.frozen 1; have s2 := bR.frozen 2; have s3 := bR.frozen 3; have s4 := bR.frozen 4; have lR := bR.lt; have o0 := bO.cell 0; have o1 := bO.cell 1; have o2 := bO.cell 2; have o3 := bO.cell 3; have o4 := bO.cell 4; have u0 := bO.frozen 0; have u1 := bO.frozen 1; have u2 := bO.frozen 2; have u3 := bO.frozen 3; have u4 := bO.frozen 4; have lO := bO.lt; clear bK bR bO))
    refine bodyPost_ret (v := .tuple #[.agg #[.slice b1 k.ma.fr.cells.length d1, .slice b2 k.ma.fr.used.length d2, .slice b3 k.ma.tb.length d3, .int .i64 (k.calls + 1), .slice b4 k.refuse.length d4], .bool false]) (by simp [results, Try.results40, go_sem, r0, r1, r2, r3, r4, lR]) rfl ⟨_, by rw [HE.out], ?_, ?_⟩
    · rw [HD.out]
      exact (((H3.out.keep (k4.keep k5))).mv (l := w.heap.size + 1) (h := w.heap.size + 2) ((((((Chg.refl _ _ _).set (w.heap.size + 1) 0 _ (.inl ⟨by omega, by omega⟩)).set (w.heap.size + 1) 1 _ (.inl ⟨by omega, by omega⟩)).set (w.heap.size + 1) 2 _ (.inl ⟨by omega, by omega⟩)).set (w.heap.size + 1) 3 _ (.inl ⟨by omega, by omega⟩)).set (w.heap.size + 1) 4 _ (.inl ⟨by omega, by omega⟩)) (by omega)).wide (by omega) (by simp only [size_set]; omega)
    · exact ((((((q3.keep (k4.keep k5)).set (w.heap.size + 1) 0 _ (.inr (by omega))).set (w.heap.size + 1) 1 _ (.inr (by omega))).set (w.heap.size + 1) 2 _ (.inr (by omega))).set (w.heap.size + 1) 3 _ (.inr (by omega))).set (w.heap.size + 1) 4 _ (.inr (by omega)))
  by_cases hpo : p = o
  · subst hpo
    have HE := Lib.hid (show mapOnOk k p p = false by unfold mapOnOk; simp)
    have HD := Lib.hid (show mapOnD k p p = tickD k by unfold mapOnD; rw [HE.out, HC.out]; rfl)
    go_wp2_with (first | (go_at_call 74; refine (mapped_any _ _ _ (HK.out.keep k4) hs).mono ?_; rw [hp]; rintro e w5 ⟨rfl, k5⟩; have z5 := k5.size; have bK := BK.out.keep (k4.keep k5); have bR := BR.out.keep (k4.keep k5); have bO := BO.out.keep (k4.keep k5); have x0 := bK.cell 0; have x1 := bK.cell 1; have x2 := bK.cell 2; have x3 := bK.cell 3; have x4 := bK.cell 4; have lK := bK.lt; have r0 := bR.cell 0; have r1 := bR.cell 1; have r2 := bR.cell 2; have r3 := bR.cell 3; have r4 := bR.cell 4; have s0 := bR.frozen 0; have s1 := bR.frozen 1; have s2 := bR.frozen 2; have s3 := bR.frozen 3; have s4 := bR.frozen 4; have lR := bR.lt; have o0 := bO.cell 0; have o1 := bO.cell 1; have o2 := bO.cell 2; have o3 := bO.cell 3; have o4 := bO.cell 4; have u0 := bO.frozen 0; have u1 := bO.frozen 1; have u2 := bO.frozen 2; have u3 := bO.frozen 3; have u4 := bO.frozen 4; have lO := bO.lt; clear bK bR bO) | (go_at_call 74; refine (mapped_any _ _ _ HK.out hs).mono ?_; rw [hp]; rintro e w4 ⟨rfl, k4⟩; have z4 := k4.size; have bK := BK.out.keep k4; have bR := BR.out.keep k4; have bO := BO.out.keep k4; have x0 := bK.cell 0; have x1 := bK.cell 1; have x2 := bK.cell 2; have x3 := bK.cell 3; have x4 := bK.cell 4; have lK := bK.lt; have r0 := bR.cell 0; have r1 := bR.cell 1; have r2 := bR.cell 2; have r3 := bR.cell 3; have r4 := bR.cell 4; have s0 := bR.frozen 0; have s1 := bR.frozen 1; have s2 := bR.frozen 2; have s3 := bR.frozen 3; have s4 := bR.frozen 4; have lR := bR.lt; have o0 := bO.cell 0; have o1 := bO.cell 1; have o2 := bO.cell 2; have o3 := bO.cell 3; have o4 := bO.cell 4; have u0 := bO.frozen 0; have u1 := bO.frozen 1; have u2 := bO.frozen 2; have u3 := bO.frozen 3; have u4 := bO.frozen 4; have lO := bO.lt; clear bK bR bO))
    refine bodyPost_ret (v := .tuple #[.agg #[.slice b1 k.ma.fr.cells.length d1, .slice b2 k.ma.fr.used.length d2, .slice b3 k.ma.tb.length d3, .int .i64 (k.calls + 1), .slice b4 k.refuse.length d4], .bool false]) (by simp [results, Try.results40, go_sem, r0, r1, r2, r3, r4, lR]) rfl ⟨_, by rw [HE.out], ?_, ?_⟩
    · rw [HD.out]
      exact (((H3.out.keep (k4.keep k5))).mv (l := w.heap.size + 1) (h := w.heap.size + 2) ((((((Chg.refl _ _ _).set (w.heap.size + 1) 0 _ (.inl ⟨by omega, by omega⟩)).set (w.heap.size + 1) 1 _ (.inl ⟨by omega, by omega⟩)).set (w.heap.size + 1) 2 _ (.inl ⟨by omega, by omega⟩)).set (w.heap.size + 1) 3 _ (.inl ⟨by omega, by omega⟩)).set (w.heap.size + 1) 4 _ (.inl ⟨by omega, by omega⟩)) (by omega)).wide (by omega) (by simp only [size_set]; omega)
    · exact ((((((q3.keep (k4.keep k5)).set (w.heap.size + 1) 0 _ (.inr (by omega))).set (w.heap.size + 1) 1 _ (.inr (by omega))).set (w.heap.size + 1) 2 _ (.inr (by omega))).set (w.heap.size + 1) 3 _ (.inr (by omega))).set (w.heap.size + 1) 4 _ (.inr (by omega)))
  have HE := Lib.hid (show mapOnOk k p o = true by unfold mapOnOk; rw [HC.out, hg, hp, ho]; simpa using hpo)
  have HD := Lib.hid (show mapOnD k p o = ⟨relD ⟨k.ma.fr, k.ma.tb.set p.toNat (2, (k.ma.tb.getD o.toNat (0, 0)).2)⟩ (k.ma.tb.getD p.toNat (0, 0)).2, k.calls + 1, k.refuse⟩ by unfold mapOnD; rw [HE.out]; rfl)
  obtain ⟨hp1, hp2⟩ := mapB_iff.1 hp
  obtain ⟨ho1, ho2⟩ := mapB_iff.1 ho
  have hpl := btw_len hp1
  have hol := btw_len ho1
  obtain ⟨hp0, hp9⟩ := btw_iff.1 hp1
  obtain ⟨ho0, ho9⟩ := btw_iff.1 ho1
  have hpl' : p < k.ma.tb.length := by omega
  have hol' : o < k.ma.tb.length := by omega
  have hmo := (canB_iff.1 HC.out).2.ma
  obtain ⟨p3, p4, -⟩ := hmo.frame hpl hp2
  have hfu := hmo.fr.used
  obtain ⟨gE, rfl, gE0, gE1, -⟩ := H3.out.entFull p.toNat hpl
  generalize hfz : (k.ma.tb.getD p.toNat (0, 0)).2 = f at HD p3 p4
  generalize hfy : (k.ma.tb.getD o.toNat (0, 0)).2 = f' at HD
  have HF := Lib.hid hfz
  have HF' := Lib.hid hfy
  have HFL := Lib.hid (And.intro p3 (And.intro (show f.toNat < k.ma.fr.used.length by omega) (show f.toNat < k.ma.fr.cells.length by omega)))
  have hbe : (p == o) = false := beq_eq_false_iff_ne.2 hpo
  clear hp1 hp2 ho1 ho2 hmo hfz hfy hfu p3 p4 hpo
  go_wp2_with (first | (go_at_call 74; refine (mapped_any _ _ _ (HK.out.keep k4) hs).mono ?_; rw [ho]; rintro e w5 ⟨rfl, k5⟩; have z5 := k5.size; have bK := BK.out.keep (k4.keep k5); have bR := BR.out.keep (k4.keep k5); have bO := BO.out.keep (k4.keep k5); have x0 := bK.cell 0; have x1 := bK.cell 1; have x2 := bK.cell 2; have x3 := bK.cell 3; have x4 := bK.cell 4; have lK := bK.lt; have r0 := bR.cell 0; have r1 := bR.cell 1; have r2 := bR.cell 2; have r3 := bR.cell 3; have r4 := bR.cell 4; have s0 := bR.frozen 0; have s1 := bR.frozen 1; have s2 := bR.frozen 2; have s3 := bR.frozen 3; have s4 := bR.frozen 4; have lR := bR.lt; have o0 := bO.cell 0; have o1 := bO.cell 1; have o2 := bO.cell 2; have o3 := bO.cell 3; have o4 := bO.cell 4; have u0 := bO.frozen 0; have u1 := bO.frozen 1; have u2 := bO.frozen 2; have u3 := bO.frozen 3; have u4 := bO.frozen 4; have lO := bO.lt; clear bK bR bO; obtain ⟨gY, e9, -, -, gE2, e1, e2, f1, f2, st2, -⟩ := (H3.out.keep (k4.keep k5)).entFull p.toNat hpl; obtain rfl : gE = gY := some_blk e9; obtain ⟨gX, e8, -, -, gE3, e3, e4, f3, f4, -, -⟩ := (H3.out.keep (k4.keep k5)).entFull o.toNat hol; obtain rfl : gE = gX := some_blk e8; replace e2 := e2.trans (congrArg (fun z => some (Value.int .i64 z)) HF.out); replace e4 := e4.trans (congrArg (fun z => some (Value.int .i64 z)) HF'.out); have HST := Lib.hid (show KE w1.heap.size w2.heap.size ((w5.setCell ⟨gE, p.toNat * 2, none⟩ (.int .i64 2)).setCell ⟨gE, p.toNat * 2 + 1, none⟩ (.int .i64 f')) (.agg #[.slice b1 k.ma.fr.cells.length d1, .slice b2 k.ma.fr.used.length d2, .slice (some ⟨gE, 0, none⟩) k.ma.tb.length d3, .int .i64 (k.calls + 1), .slice b4 k.refuse.length d4]) ⟨⟨k.ma.fr, k.ma.tb.set p.toNat (2, f')⟩, k.calls + 1, k.refuse⟩ from st2 2 f'); have CH5 := Lib.hid (((Chg.refl w1.heap.size w2.heap.size w5).set gE (p.toNat * 2) (.int .i64 2) (.inl ⟨gE0, gE1⟩)).set gE (p.toNat * 2 + 1) (.int .i64 f') (.inl ⟨gE0, gE1⟩)); have BO5 := Lib.hid ((BO.out.keep (k4.keep k5)).mv CH5.out (by omega)); clear st2 e9 e8 e3 f3 f4) | (go_at_call 74; refine (mapped_any _ _ _ HK.out hs).mono ?_; rw [hp]; rintro e w4 ⟨rfl, k4⟩; have z4 := k4.size; have bK := BK.out.keep k4; have bR := BR.out.keep k4; have bO := BO.out.keep k4; have x0 := bK.cell 0; have x1 := bK.cell 1; have x2 := bK.cell 2; have x3 := bK.cell 3; have x4 := bK.cell 4; have lK := bK.lt; have r0 := bR.cell 0; have r1 := bR.cell 1; have r2 := bR.cell 2; have r3 := bR.cell 3; have r4 := bR.cell 4; have s0 := bR.frozen 0; have s1 := bR.frozen 1; have s2 := bR.frozen 2; have s3 := bR.frozen 3; have s4 := bR.frozen 4; have lR := bR.lt; have o0 := bO.cell 0; have o1 := bO.cell 1; have o2 := bO.cell 2; have o3 := bO.cell 3; have o4 := bO.cell 4; have u0 := bO.frozen 0; have u1 := bO.frozen 1; have u2 := bO.frozen 2; have u3 := bO.frozen 3; have u4 := bO.frozen 4; have lO := bO.lt; clear bK bR bO) | (go_at_call 80; refine (release_at (k := ⟨⟨k.ma.fr, k.ma.tb.set p.toNat (2, f')⟩, k.calls + 1, k.refuse⟩) f _ (BO5.out) HST.out (sm_setE hs (k.calls + 1) p.toNat (2, f')) (by simp only [size_set]; omega) (by omega) HFL.out.1 HFL.out.2.1 HFL.out.2.2).mono ?_; rintro e w6 ⟨rfl, h6, c6⟩; have c46 := CH5.out.trans c6; have z6 := c46.size; have H6 := Lib.hid h6; have Q6 := Lib.hid ((q3.keep (k4.keep k5)).comp c46 (.inl (by omega))); have bR := (BR.out.keep (k4.keep k5)).mv c46 (by omega); have bO := (BO.out.keep (k4.keep k5)).mv c46 (by omega); have r0 := bR.cell 0; have r1 := bR.cell 1; have r2 := bR.cell 2; have r3 := bR.cell 3; have r4 := bR.cell 4; have s0 := bR.frozen 0; have s1 := bR.frozen 1; have s2 := bR.frozen 2; have s3 := bR.frozen 3; have s4 := bR.frozen 4; have lR := bR.lt; have o0 := bO.cell 0; have o1 := bO.cell 1; have o2 := bO.cell 2; have o3 := bO.cell 3; have o4 := bO.cell 4; have u0 := bO.frozen 0; have u1 := bO.frozen 1; have u2 := bO.frozen 2; have u3 := bO.frozen 3; have u4 := bO.frozen 4; have lO := bO.lt; clear bR bO h6 c6 c46))
  refine bodyPost_ret (v := .tuple #[.agg #[.slice b1 k.ma.fr.cells.length d1, .slice b2 k.ma.fr.used.length d2, .slice (some ⟨gE, 0, none⟩) k.ma.tb.length d3, .int .i64 (k.calls + 1), .slice b4 k.refuse.length d4], .bool true]) (by simp [results, Try.results40, go_sem, r0, r1, r2, r3, r4, lR]) rfl ⟨_, by rw [HE.out], ?_, ?_⟩
  · rw [HD.out]
    exact ((H6.out).mv (l := w.heap.size + 1) (h := w.heap.size + 2) ((((((Chg.refl _ _ _).set (w.heap.size + 1) 0 _ (.inl ⟨by omega, by omega⟩)).set (w.heap.size + 1) 1 _ (.inl ⟨by omega, by omega⟩)).set (w.heap.size + 1) 2 _ (.inl ⟨by omega, by omega⟩)).set (w.heap.size + 1) 3 _ (.inl ⟨by omega, by omega⟩)).set (w.heap.size + 1) 4 _ (.inl ⟨by omega, by omega⟩)) (by omega)).wide (by omega) (by simp only [size_set]; omega)
  · exact (((((Q6.out.set (w.heap.size + 1) 0 _ (.inr (by omega))).set (w.heap.size + 1) 1 _ (.inr (by omega))).set (w.heap.size + 1) 2 _ (.inr (by omega))).set (w.heap.size + 1) 3 _ (.inr (by omega))).set (w.heap.size + 1) 4 _ (.inr (by omega)))
end Go.Proofs.Ytkcoehkfhffjkaa
