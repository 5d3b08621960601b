/- Kernels: KUnmap of the program. Printed by wip/tools/mk_ke5.py. -/
import Derived.Test.YtkcoehkfhffjkaaKeProt
namespace Go.Proofs.Ytkcoehkfhffjkaa
open Go.ChangeShapes Go.WideShapes Go.ChangeAt Go.RowKit
set_option linter.unusedSimpArgs false
set_option linter.unusedVariables false
set_option maxRecDepth 100000

theorem release_at {lo hi A : Nat} {k : KeD} {b1 b2 b3 b4 : Option Addr} {d1 d2 d3 d4 n1 n2 n3 n4 : Nat} {c : Int} (f : Int) (w : World) (bA : Blk w A 47 #[.slice b1 n1 d1, .slice b2 n2 d2, .slice b3 n3 d3, .int .i64 c, .slice b4 n4 d4]) (h : KE lo hi w (.agg #[.slice b1 n1 d1, .slice b2 n2 d2, .slice b3 n3 d3, .int .i64 c, .slice b4 n4 d4]) k) (hs : sm_Kernel k) (hhi : hi ≤ w.heap.size) (hA : A < lo ∨ hi ≤ A)
    (hf0 : 0 ≤ f) (hf1 : f.toNat < k.ma.fr.used.length) (hf2 : f.toNat < k.ma.fr.cells.length) :
    Calls Try.prog 80 #[.pointer (some ⟨A, 0, none⟩), .int .i64 f] w fun e w' => e = .returned (.tuple #[]) ∧ KE lo w'.heap.size w' (.agg #[.slice b1 n1 d1, .slice b2 n2 d2, .slice b3 n3 d3, .int .i64 c, .slice b4 n4 d4]) ⟨relD k.ma f, k.calls, k.refuse⟩ ∧ Chg lo hi w w' := by
  obtain ⟨x1, y1, x2, y2, x3, y3, x4, y4, e, -, -⟩ := h.slices
  simp only [Value.agg.injEq, Array.mk.injEq, List.cons.injEq, Value.slice.injEq, Value.int.injEq, and_true, true_and] at e
  obtain ⟨⟨rfl, rfl, rfl⟩, ⟨rfl, rfl, rfl⟩, ⟨rfl, rfl, rfl⟩, rfl, rfl, rfl, rfl⟩ := e
  exact release_any _ _ _ _ _ _ _ _ f w bA h hs hhi hA hf0 hf1 hf2
theorem sm_setE {k : KeD} (h : sm_Kernel k) (c : Int) (n : Nat) (e : Int × Int) : sm_Kernel ⟨⟨k.ma.fr, k.ma.tb.set n e⟩, c, k.refuse⟩ := by
  unfold sm_Kernel at *; simpa using h
set_option maxHeartbeats 4000000 in
theorem kUnmap_any {lo hi : Nat} {k : KeD} (v : Value) (p : Int) (w : World) (h : KE lo hi w v k) (hs : sm_Kernel k) :
    Calls Try.prog 41 #[v, .int .i64 p] w fun e w' => ∃ v', e = .returned (.tuple #[v', .bool (unmapOk k p)]) ∧ KE w.heap.size w'.heap.size w' v' (unmapD k p) ∧ Keep w w' := by
  have hrf := hs.rf
  have htl := hs.ma.tb
  obtain ⟨a1, c1, a2, c2, a3, c3, a4, c4, rfl, hm, hr⟩ := h.slices
  have h' : KE lo hi w (.agg #[.slice a1 k.ma.fr.cells.length c1, .slice a2 k.ma.fr.used.length c2, .slice a3 k.ma.tb.length c3, .int .i64 k.calls, .slice a4 k.refuse.length c4]) k := KE.mk hm hr
  clear h hm hr
  go_enter Try.func41, Try.ntmps41
  go_wp2_with fail
  refine (copyKernel_any _ _ (h'.keep (((Chg.refl 0 0 w).alloc (.cells #[.slice a1 k.ma.fr.cells.length c1, .slice a2 k.ma.fr.used.length c2, .slice a3 k.ma.tb.length c3, .int .i64 k.calls, .slice a4 k.refuse.length c4] 47 (0, 0))).alloc (.cells #[.slice none 0 0, .slice none 0 0, .slice none 0 0, .int .i64 0, .slice none 0 0] 47 (0, 0)))) hs).mono ?_
  rintro e w1 ⟨v1, rfl, h2, k1⟩
  have bK := ((Blk.new w 47 #[.slice a1 k.ma.fr.cells.length c1, .slice a2 k.ma.fr.used.length c2, .slice a3 k.ma.tb.length c3, .int .i64 k.calls, .slice a4 k.refuse.length c4]).keep ((Chg.refl 0 0 _).alloc (.cells #[.slice none 0 0, .slice none 0 0, .slice none 0 0, .int .i64 0, .slice none 0 0] 47 (0, 0)))).keep k1
  have bR := (blk1 w (.cells #[.slice a1 k.ma.fr.cells.length c1, .slice a2 k.ma.fr.used.length c2, .slice a3 k.ma.tb.length c3, .int .i64 k.calls, .slice a4 k.refuse.length c4] 47 (0, 0)) 47 #[.slice none 0 0, .slice none 0 0, .slice none 0 0, .int .i64 0, .slice none 0 0]).keep k1
  have q1 : Keep w w1 := Chg.keep (((Chg.refl 0 0 w).alloc (.cells #[.slice a1 k.ma.fr.cells.length c1, .slice a2 k.ma.fr.used.length c2, .slice a3 k.ma.tb.length c3, .int .i64 k.calls, .slice a4 k.refuse.length c4] 47 (0, 0))).alloc (.cells #[.slice none 0 0, .slice none 0 0, .slice none 0 0, .int .i64 0, .slice none 0 0] 47 (0, 0))) k1
  have z1 := k1.size
  simp only [size_alloc] at z1 h2
  have h1 := h'.keep q1
  clear k1
  obtain ⟨b1, d1, b2, d2, b3, d3, b4, d4, rfl, m2, n2⟩ := h2.slices
  have h2 : KE (w.heap.size + 1 + 1) w1.heap.size w1 (.agg #[.slice b1 k.ma.fr.cells.length d1, .slice b2 k.ma.fr.used.length d2, .slice b3 k.ma.tb.length d3, .int .i64 k.calls, .slice b4 k.refuse.length d4]) k := KE.mk m2 n2
  have k2 : Keep w1 (w1.alloc (.cells #[.slice b1 k.ma.fr.cells.length d1, .slice b2 k.ma.fr.used.length d2, .slice b3 k.ma.tb.length d3, .int .i64 k.calls, .slice b4 k.refuse.length d4] 47 (0, 0))) := (Chg.refl 0 0 w1).alloc _
  have HALL := Lib.hid (And.intro (And.intro (And.intro (h1.keep k2) (h2.keep k2)) (And.intro (bK.keep k2) (bR.keep k2))) (And.intro (And.intro (Blk.new w1 47 #[.slice b1 k.ma.fr.cells.length d1, .slice b2 k.ma.fr.used.length d2, .slice b3 k.ma.tb.length d3, .int .i64 k.calls, .slice b4 k.refuse.length d4]) (q1.keep k2)) (show (w1.alloc (.cells #[.slice b1 k.ma.fr.cells.length d1, .slice b2 k.ma.fr.used.length d2, .slice b3 k.ma.tb.length d3, .int .i64 k.calls, .slice b4 k.refuse.length d4] 47 (0, 0))).heap.size = w1.heap.size + 1 from size_alloc _ _)))
  have bK := bK.keep k2
  have x0 := bK.cell 0; have x1 := bK.cell 1; have x2 := bK.cell 2; have x3 := bK.cell 3; have x4 := bK.cell 4; have lK := bK.lt
  clear h1 h2 k2 bK bR m2 n2 h'
  go_wp2_with fail
  clear x0 x1 x2 x3 x4 lK
  generalize w1.alloc (.cells #[.slice b1 k.ma.fr.cells.length d1, .slice b2 k.ma.fr.used.length d2, .slice b3 k.ma.tb.length d3, .int .i64 k.calls, .slice b4 k.refuse.length d4] 47 (0, 0)) = W2 at *
  obtain ⟨⟨⟨hk3, h3⟩, bK, bR⟩, ⟨bO, q2⟩, z2⟩ := HALL.out
  have HK := Lib.hid hk3
  have H2 := Lib.hid h3
  have BK := Lib.hid bK
  have BR := Lib.hid bR
  have BO := Lib.hid bO
  clear HALL
  have x0 := bK.cell 0; have x1 := bK.cell 1; have x2 := bK.cell 2; have x3 := bK.cell 3; have x4 := bK.cell 4; have lK := bK.lt
  have r0 := bR.cell 0; have r1 := bR.cell 1; have r2 := bR.cell 2; have r3 := bR.cell 3; have r4 := bR.cell 4; have s0 := bR.frozen 0; have s1 := bR.frozen 1; have s2 := bR.frozen 2; have s3 := bR.frozen 3; have s4 := bR.frozen 4; have lR := bR.lt
  have o0 := bO.cell 0; have o1 := bO.cell 1; have o2 := bO.cell 2; have o3 := bO.cell 3; have o4 := bO.cell 4; have u0 := bO.frozen 0; have u1 := bO.frozen 1; have u2 := bO.frozen 2; have u3 := bO.frozen 3; have u4 := bO.frozen 4; have lO := bO.lt
  clear bK bR bO hk3 h3
  cases hc : canB k
  · have HE := Lib.hid (show unmapOk k p = false by unfold unmapOk; rw [hc]; rfl)
    have HD := Lib.hid (show unmapD k p = k by unfold unmapD; rw [HE.out]; rfl)
    go_wp2_with (go_at_call 70; refine (canCall_any _ _ HK.out hs).mono ?_; rw [hc]; rintro e w3 ⟨rfl, k3⟩; have z3 := k3.size; have bK := BK.out.keep k3; have bR := BR.out.keep k3; have bO := BO.out.keep k3; have x0 := bK.cell 0; have x1 := bK.cell 1; have x2 := bK.cell 2; have x3 := bK.cell 3; have x4 := bK.cell 4; have lK := bK.lt; have r0 := bR.cell 0; have r1 := bR.cell 1; have r2 := bR.cell 2; have r3 := bR.cell 3; have r4 := bR.cell 4; have s0 := bR.frozen 0; have s1 := bR.frozen 1; have s2 := bR.frozen 2; have s3 := bR.frozen 3; have s4 := bR.frozen 4; have lR := bR.lt; have o0 := bO.cell 0; have o1 := bO.cell 1; have o2 := bO.cell 2; have o3 := bO.cell 3; have o4 := bO.cell 4; have u0 := bO.frozen 0; have u1 := bO.frozen 1; have u2 := bO.frozen 2; have u3 := bO.frozen 3; have u4 := bO.frozen 4; have lO := bO.lt; clear bK bR bO)
    refine bodyPost_ret (v := .tuple #[.agg #[.slice b1 k.ma.fr.cells.length d1, .slice b2 k.ma.fr.used.length d2, .slice b3 k.ma.tb.length d3, .int .i64 k.calls, .slice b4 k.refuse.length d4], .bool false]) (by simp [results, Try.results41, go_sem, r0, r1, r2, r3, r4, lR]) rfl ⟨_, by rw [HE.out], ?_, ?_⟩
    · rw [HD.out]
      exact (((H2.out.keep k3)).mv (l := w.heap.size + 1) (h := w.heap.size + 2) ((((((Chg.refl _ _ _).set (w.heap.size + 1) 0 _ (.inl ⟨by omega, by omega⟩)).set (w.heap.size + 1) 1 _ (.inl ⟨by omega, by omega⟩)).set (w.heap.size + 1) 2 _ (.inl ⟨by omega, by omega⟩)).set (w.heap.size + 1) 3 _ (.inl ⟨by omega, by omega⟩)).set (w.heap.size + 1) 4 _ (.inl ⟨by omega, by omega⟩)) (by omega)).wide (by omega) (by simp only [size_set]; omega)
    · exact ((((((q2.keep k3).set (w.heap.size + 1) 0 _ (.inr (by omega))).set (w.heap.size + 1) 1 _ (.inr (by omega))).set (w.heap.size + 1) 2 _ (.inr (by omega))).set (w.heap.size + 1) 3 _ (.inr (by omega))).set (w.heap.size + 1) 4 _ (.inr (by omega)))
  cases hp : mapB k.ma p
  · have HE := Lib.hid (show unmapOk k p = false by unfold unmapOk; rw [hc, hp]; rfl)
    have HD := Lib.hid (show unmapD k p = k by unfold unmapD; rw [HE.out]; rfl)
    go_wp2_with (first | (go_at_call 70; refine (canCall_any _ _ HK.out hs).mono ?_; rw [hc]; rintro e w3 ⟨rfl, k3⟩; have z3 := k3.size; have bK := BK.out.keep k3; have bR := BR.out.keep k3; have bO := BO.out.keep k3; have x0 := bK.cell 0; have x1 := bK.cell 1; have x2 := bK.cell 2; have x3 := bK.cell 3; have x4 := bK.cell 4; have lK := bK.lt; have r0 := bR.cell 0; have r1 := bR.cell 1; have r2 := bR.cell 2; have r3 := bR.cell 3; have r4 := bR.cell 4; have s0 := bR.frozen 0; have s1 := bR.frozen 1; have s2 := bR.frozen 2; have s3 := bR.frozen 3; have s4 := bR.frozen 4; have lR := bR.lt; have o0 := bO.cell 0; have o1 := bO.cell 1; have o2 := bO.cell 2; have o3 := bO.cell 3; have o4 := bO.cell 4; have u0 := bO.frozen 0; have u1 := bO.frozen 1; have u2 := bO.frozen 2; have u3 := bO.frozen 3; have u4 := bO.frozen 4; have lO := bO.lt; clear bK bR bO) | (go_at_call 74; refine (mapped_any _ _ _ (HK.out.keep k3) hs).mono ?_; rw [hp]; rintro e w4 ⟨rfl, k4⟩; have z4 := k4.size; have bK := BK.out.keep (k3.keep k4); have bR := BR.out.keep (k3.keep k4); have bO := BO.out.keep (k3.keep k4); have x0 := bK.cell 0; have x1 := bK.cell 1; have x2 := bK.cell 2; have x3 := bK.cell 3; have x4 := bK.cell 4; have lK := bK.lt; have r0 := bR.cell 0; have r1 := bR.cell 1; have r2 := bR.cell 2; have r3 := bR.cell 3; have r4 := bR.cell 4; have s0 := bR.frozen 0; have s1 := bR.frozen 1; have s2 := bR.frozen 2; have s3 := bR.frozen 3; have s4 := bR.frozen 4; have lR := bR.lt; have o0 := bO.cell 0; have o1 := bO.cell 1; have o2 := bO.cell 2; have o3 := bO.cell 3; have o4 := bO.cell 4; have u0 := bO.frozen 0; have u1 := bO.frozen 1; have u2 := bO.frozen 2; have u3 := bO.frozen 3; have u4 := bO.frozen 4; have lO := bO.lt; clear bK bR bO))
    refine bodyPost_ret (v := .tuple #[.agg #[.slice b1 k.ma.fr.cells.length d1, .slice b2 k.ma.fr.used.length d2, .slice b3 k.ma.tb.length d3, .int .i64 k.calls, .slice b4 k.refuse.length d4], .bool false]) (by simp [results, Try.results41, go_sem, r0, r1, r2, r3, r4, lR]) rfl ⟨_, by rw [HE.out], ?_, ?_⟩
    · rw [HD.out]
      exact (((H2.out.keep (k3.keep k4))).mv (l := w.heap.size + 1) (h := w.heap.size + 2) ((((((Chg.refl _ _ _).set (w.heap.size + 1) 0 _ (.inl ⟨by omega, by omega⟩)).set (w.heap.size + 1) 1 _ (.inl ⟨by omega, by omega⟩)).set (w.heap.size + 1) 2 _ (.inl ⟨by omega, by omega⟩)).set (w.heap.size + 1) 3 _ (.inl ⟨by omega, by omega⟩)).set (w.heap.size + 1) 4 _ (.inl ⟨by omega, by omega⟩)) (by omega)).wide (by omega) (by simp only [size_set]; omega)
    · exact ((((((q2.keep (k3.keep k4)).set (w.heap.size + 1) 0 _ (.inr (by omega))).set (w.heap.size + 1) 1 _ (.inr (by omega))).set (w.heap.size + 1) 2 _ (.inr (by omega))).set (w.heap.size + 1) 3 _ (.inr (by omega))).set (w.heap.size + 1) 4 _ (.inr (by omega)))
  have HE := Lib.hid (show unmapOk k p = true by unfold unmapOk; rw [hc, hp]; rfl)
  have HD := Lib.hid (show unmapD k p = ⟨relD ⟨k.ma.fr, k.ma.tb.set p.toNat (0, 0)⟩ (k.ma.tb.getD p.toNat (0, 0)).2, k.calls, k.refuse⟩ by unfold unmapD; rw [HE.out]; rfl)
  obtain ⟨hp1, hp2⟩ := mapB_iff.1 hp
  have hpl := btw_len hp1
  obtain ⟨hp0, hp9⟩ := btw_iff.1 hp1
  have hpl' : p < k.ma.tb.length := by omega
  have hmo := (canB_iff.1 hc).2.ma
  obtain ⟨p3, p4, -⟩ := hmo.frame hpl hp2
  have hfu := hmo.fr.used
  obtain ⟨gE, rfl, gE0, gE1, -⟩ := H2.out.entFull p.toNat hpl
  generalize hfz : (k.ma.tb.getD p.toNat (0, 0)).2 = f at HD p3 p4
  have HF := Lib.hid hfz
  have HFL := Lib.hid (And.intro p3 (And.intro (show f.toNat < k.ma.fr.used.length by omega) (show f.toNat < k.ma.fr.cells.length by omega)))
  clear hp1 hp2 hmo hfz hfu p3 p4
  go_wp2_with (first | (go_at_call 70; refine (canCall_any _ _ HK.out hs).mono ?_; rw [hc]; rintro e w3 ⟨rfl, k3⟩; have z3 := k3.size; have bK := BK.out.keep k3; have bR := BR.out.keep k3; have bO := BO.out.keep k3; have x0 := bK.cell 0; have x1 := bK.cell 1; have x2 := bK.cell 2; have x3 := bK.cell 3; have x4 := bK.cell 4; have lK := bK.lt; have r0 := bR.cell 0; have r1 := bR.cell 1; have r2 := bR.cell 2; have r3 := bR.cell 3; have r4 := bR.cell 4; have s0 := bR.frozen 0; have s1 := bR.frozen 1; have s2 := bR.frozen 2; have s3 := bR.frozen 3; have s4 := bR.frozen 4; have lR := bR.lt; have o0 := bO.cell 0; have o1 := bO.cell 1; have o2 := bO.cell 2; have o3 := bO.cell 3; have o4 := bO.cell 4; have u0 := bO.frozen 0; have u1 := bO.frozen 1; have u2 := bO.frozen 2; have u3 := bO.frozen 3; have u4 := bO.frozen 4; have lO := bO.lt; clear bK bR bO) | (go_at_call 74; refine (mapped_any _ _ _ (HK.out.keep k3) hs).mono ?_; rw [hp]; rintro e w4 ⟨rfl, k4⟩; have z4 := k4.size; have bK := BK.out.keep (k3.keep k4); have bR := BR.out.keep (k3.keep k4); have bO := BO.out.keep (k3.keep k4); have x0 := bK.cell 0; have x1 := bK.cell 1; have x2 := bK.cell 2; have x3 := bK.cell 3; have x4 := bK.cell 4; have lK := bK.lt; have r0 := bR.cell 0; have r1 := bR.cell 1; have r2 := bR.cell 2; have r3 := bR.cell 3; have r4 := bR.cell 4; have s0 := bR.frozen 0; have s1 := bR.frozen 1; have s2 := bR.frozen 2; have s3 := bR.frozen 3; have s4 := bR.frozen 4; have lR := bR.lt; have o0 := bO.cell 0; have o1 := bO.cell 1; have o2 := bO.cell 2; have o3 := bO.cell 3; have o4 := bO.cell 4; have u0 := bO.frozen 0; have u1 := bO.frozen 1; have u2 := bO.frozen 2; have u3 := bO.frozen 3; have u4 := bO.frozen 4; have lO := bO.lt; clear bK bR bO; obtain ⟨gY, e9, -, -, gE2, e1, e2, f1, f2, st2, -⟩ := (H2.out.keep (k3.keep k4)).entFull p.toNat hpl; obtain rfl : gE = gY := some_blk e9; rw [HF.out] at e2; have HST := Lib.hid (st2 0 0); have CH5 := Lib.hid (((Chg.refl (w.heap.size + 1 + 1) w1.heap.size w4).set gE (p.toNat * 2) (.int .i64 0) (.inl ⟨gE0, gE1⟩)).set gE (p.toNat * 2 + 1) (.int .i64 0) (.inl ⟨gE0, gE1⟩)); have BO5 := Lib.hid ((BO.out.keep (k3.keep k4)).mv CH5.out (by omega)); clear st2 e9) | (go_at_call 80; refine (release_at f _ (BO5.out) HST.out (sm_setE hs _ _ _) (by simp only [size_set]; omega) (by omega) HFL.out.1 HFL.out.2.1 HFL.out.2.2).mono ?_; rintro e w6 ⟨rfl, h6, c6⟩; have c46 := CH5.out.trans c6; have z6 := c46.size; have H6 := Lib.hid h6; have Q6 := Lib.hid ((q2.keep (k3.keep k4)).comp c46 (.inl (by omega))); have bR := (BR.out.keep (k3.keep k4)).mv c46 (by omega); have bO := (BO.out.keep (k3.keep k4)).mv c46 (by omega); have r0 := bR.cell 0; have r1 := bR.cell 1; have r2 := bR.cell 2; have r3 := bR.cell 3; have r4 := bR.cell 4; have s0 := bR.frozen 0; have s1 := bR.frozen 1; have s2 := bR.frozen 2; have s3 := bR.frozen 3; have s4 := bR.frozen 4; have lR := bR.lt; have o0 := bO.cell 0; have o1 := bO.cell 1; have o2 := bO.cell 2; have o3 := bO.cell 3; have o4 := bO.cell 4; have u0 := bO.frozen 0; have u1 := bO.frozen 1; have u2 := bO.frozen 2; have u3 := bO.frozen 3; have u4 := bO.frozen 4; have lO := bO.lt; clear bR bO h6 c6 c46))
  refine bodyPost_ret (v := .tuple #[.agg #[.slice b1 k.ma.fr.cells.length d1, .slice b2 k.ma.fr.used.length d2, .slice (some ⟨gE, 0, none⟩) k.ma.tb.length d3, .int .i64 k.calls, .slice b4 k.refuse.length d4], .bool true]) (by simp [results, Try.results41, go_sem, r0, r1, r2, r3, r4, lR]) rfl ⟨_, by rw [HE.out], ?_, ?_⟩
  · rw [HD.out]
    exact ((H6.out).mv (l := w.heap.size + 1) (h := w.heap.size + 2) ((((((Chg.refl _ _ _).set (w.heap.size + 1) 0 _ (.inl ⟨by omega, by omega⟩)).set (w.heap.size + 1) 1 _ (.inl ⟨by omega, by omega⟩)).set (w.heap.size + 1) 2 _ (.inl ⟨by omega, by omega⟩)).set (w.heap.size + 1) 3 _ (.inl ⟨by omega, by omega⟩)).set (w.heap.size + 1) 4 _ (.inl ⟨by omega, by omega⟩)) (by omega)).wide (by omega) (by simp only [size_set]; omega)
  · exact (((((Q6.out.set (w.heap.size + 1) 0 _ (.inr (by omega))).set (w.heap.size + 1) 1 _ (.inr (by omega))).set (w.heap.size + 1) 2 _ (.inr (by omega))).set (w.heap.size + 1) 3 _ (.inr (by omega))).set (w.heap.size + 1) 4 _ (.inr (by omega)))
end Go.Proofs.Ytkcoehkfhffjkaa
