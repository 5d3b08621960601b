/- Machines: copies, Store, PageText; of both. Printed by wip/tools/mk_ma4.py. -/
import Derived.Test.YtkcoehkfhffjkaaMa3
namespace Go.Proofs.Ytkcoehkfhffjkaa
open Go.ChangeShapes Go.WideShapes Go.ChangeAt Go.RowKit
set_option linter.unusedSimpArgs false
set_option linter.unusedVariables false
set_option maxRecDepth 100000

theorem copyMachine_any {lo hi : Nat} {m : MaD} (v : Value) (w : World) (h : MA lo hi w v m) (hs : sm_Machine m) :
    Calls Try.prog 63 #[v] w fun e w' => ∃ v', e = .returned v' ∧ MA w.heap.size w'.heap.size w' v' m ∧ Keep w w' := by
  have htl := hs.tb
  obtain ⟨a1, c1, a2, c2, a3, c3, rfl, hf, ht⟩ := h.slices
  have bA := (Blk.new w 39 #[.slice a1 m.fr.cells.length c1, .slice a2 m.fr.used.length c2, .slice a3 m.tb.length c3]).keep ((Chg.refl 0 0 _).alloc (.cells #[.slice none 0 0, .slice none 0 0, .slice none 0 0] 39 (0, 0)))
  have bR := blk1 w (.cells #[.slice a1 m.fr.cells.length c1, .slice a2 m.fr.used.length c2, .slice a3 m.tb.length c3] 39 (0, 0)) 39 #[.slice none 0 0, .slice none 0 0, .slice none 0 0]
  have qW : Keep w ((w.alloc (.cells #[.slice a1 m.fr.cells.length c1, .slice a2 m.fr.used.length c2, .slice a3 m.tb.length c3] 39 (0, 0))).alloc (.cells #[.slice none 0 0, .slice none 0 0, .slice none 0 0] 39 (0, 0))) := ((Chg.refl 0 0 w).alloc _).alloc _
  have zW : ((w.alloc (.cells #[.slice a1 m.fr.cells.length c1, .slice a2 m.fr.used.length c2, .slice a3 m.tb.length c3] 39 (0, 0))).alloc (.cells #[.slice none 0 0, .slice none 0 0, .slice none 0 0] 39 (0, 0))).heap.size = w.heap.size + 2 := by simp only [size_alloc]
  go_enter Try.func63, Try.ntmps63
  go_wp2_with fail
  generalize ((w.alloc (.cells #[.slice a1 m.fr.cells.length c1, .slice a2 m.fr.used.length c2, .slice a3 m.tb.length c3] 39 (0, 0))).alloc (.cells #[.slice none 0 0, .slice none 0 0, .slice none 0 0] 39 (0, 0))) = W0 at *
  have x0 := bA.cell 0
  have x1 := bA.cell 1
  have x2 := bA.cell 2
  have lA := bA.lt
  have BR := Lib.hid bR
  have BA := Lib.hid bA
  have ZW := Lib.hid zW
  have hne : ¬ w.heap.size = w.heap.size + 1 := by omega
  clear bR bA zW
  go_region_held3 (fun z => z.cell? ⟨w.heap.size, 0, none⟩ = some (.slice a1 m.fr.cells.length c1) ∧ z.cell? ⟨w.heap.size, 1, none⟩ = some (.slice a2 m.fr.used.length c2) ∧ z.cell? ⟨w.heap.size, 2, none⟩ = some (.slice a3 m.tb.length c3)) (first | go_keep | exact ⟨y0, y1, y2⟩ | exact ⟨z0, z1, z2⟩) (first | (go_at_call 105; refine (copyFrames_any _ _ (hf.keep (qW.keep (Chg.refl _ _ _).drew)) hs.fr).mono ?_; rintro e w1 ⟨v1, rfl, h1, k1⟩; obtain ⟨b1, d1, b2, d2, rfl, h1⟩ := h1.slices; have k1 : Keep W0 w1 := (Chg.refl _ _ _).drew.keep k1; have bA := BA.out.keep k1; have y0 := bA.cell 0; have y1 := bA.cell 1; have y2 := bA.cell 2; have ly := bA.lt; clear bA) | (go_at_call 106; refine (copyTable_any _ _ ⟨_, rfl, ht.keep (qW.keep k1)⟩ (by omega)).mono ?_; rintro e w2 ⟨v2, rfl, h2, k2⟩; obtain ⟨b3, d3, rfl, h2'⟩ := h2.opened; have k3 : Keep W0 w2 := k1.keep k2; have bA := BA.out.keep k3; have z0 := bA.cell 0; have z1 := bA.cell 1; have z2 := bA.cell 2; have lz := bA.lt; have bR := BR.out.keep k3; have r0 := bR.cell 0; have r1 := bR.cell 1; have r2 := bR.cell 2; have s0 := bR.frozen 0; have s1 := bR.frozen 1; have s2 := bR.frozen 2; have lR := bR.lt; clear bA bR))
  all_goals
    go_wp2_with fail
    have g1 := k1.size
    have g2 := k2.size
    have zW := ZW.out
    refine bodyPost_ret (v := .agg #[.slice b1 m.fr.cells.length d1, .slice b2 m.fr.used.length d2, .slice b3 m.tb.length d3]) (by simp [results, Try.results63, go_sem, r0, r1, r2, lR]) rfl ⟨_, rfl, MA.mk ?_ ?_, ?_⟩
    · exact (((h1.keep k2).mv (l := w.heap.size) (h := w.heap.size + 2) (by repeat (first | exact Chg.refl _ _ _ | (refine Chg.set ?_ _ _ _ (.inl ⟨by omega, by omega⟩)))) (by
        have : W0.drew.heap.size = W0.heap.size := rfl
        omega)).wide (by
        have : W0.drew.heap.size = W0.heap.size := rfl
        omega) (by simp [World.setCell]; omega))
    · exact ((h2'.mv (l := w.heap.size) (h := w.heap.size + 2) (by repeat (first | exact Chg.refl _ _ _ | (refine Chg.set ?_ _ _ _ (.inl ⟨by omega, by omega⟩)))) (by omega)).wide (by omega) (by simp [World.setCell]))
    · exact (by repeat (first | exact qW.keep k3 | (refine Chg.set ?_ _ _ _ (.inr (by omega)))))
theorem copyMachine_spec {lo hi : Nat} {m : MaD} (v : Value) (w : World) (h : MA lo hi w v m) (hs : sm_Machine m) :
    Calls Try.prog 60 #[v] w fun e w' => ∃ v', e = .returned v' ∧ MA w.heap.size w'.heap.size w' v' m ∧ Keep w w' := by
  have htl := hs.tb
  obtain ⟨a1, c1, a2, c2, a3, c3, rfl, hf, ht⟩ := h.slices
  have bA := (Blk.new w 39 #[.slice a1 m.fr.cells.length c1, .slice a2 m.fr.used.length c2, .slice a3 m.tb.length c3]).keep ((Chg.refl 0 0 _).alloc (.cells #[.slice none 0 0, .slice none 0 0, .slice none 0 0] 39 (0, 0)))
  have bR := blk1 w (.cells #[.slice a1 m.fr.cells.length c1, .slice a2 m.fr.used.length c2, .slice a3 m.tb.length c3] 39 (0, 0)) 39 #[.slice none 0 0, .slice none 0 0, .slice none 0 0]
  have qW : Keep w ((w.alloc (.cells #[.slice a1 m.fr.cells.length c1, .slice a2 m.fr.used.length c2, .slice a3 m.tb.length c3] 39 (0, 0))).alloc (.cells #[.slice none 0 0, .slice none 0 0, .slice none 0 0] 39 (0, 0))) := ((Chg.refl 0 0 w).alloc _).alloc _
  have zW : ((w.alloc (.cells #[.slice a1 m.fr.cells.length c1, .slice a2 m.fr.used.length c2, .slice a3 m.tb.length c3] 39 (0, 0))).alloc (.cells #[.slice none 0 0, .slice none 0 0, .slice none 0 0] 39 (0, 0))).heap.size = w.heap.size + 2 := by simp only [size_alloc]
  go_enter Try.func60, Try.ntmps60
  go_wp2_with fail
  generalize ((w.alloc (.cells #[.slice a1 m.fr.cells.length c1, .slice a2 m.fr.used.length c2, .slice a3 m.tb.length c3] 39 (0, 0))).alloc (.cells #[.slice none 0 0, .slice none 0 0, .slice none 0 0] 39 (0, 0))) = W0 at *
  have x0 := bA.cell 0
  have x1 := bA.cell 1
  have x2 := bA.cell 2
  have lA := bA.lt
  have BR := Lib.hid bR
  have BA := Lib.hid bA
  have ZW := Lib.hid zW
  have hne : ¬ w.heap.size = w.heap.size + 1 := by omega
  clear bR bA zW
  go_region_held3 (fun z => z.cell? ⟨w.heap.size, 0, none⟩ = some (.slice a1 m.fr.cells.length c1) ∧ z.cell? ⟨w.heap.size, 1, none⟩ = some (.slice a2 m.fr.used.length c2) ∧ z.cell? ⟨w.heap.size, 2, none⟩ = some (.slice a3 m.tb.length c3)) (first | go_keep | exact ⟨y0, y1, y2⟩ | exact ⟨z0, z1, z2⟩) (first | (go_at_call 103; refine (copyFrames_spec _ _ (hf.keep (qW.keep (Chg.refl _ _ _).drew)) hs.fr).mono ?_; rintro e w1 ⟨v1, rfl, h1, k1⟩; obtain ⟨b1, d1, b2, d2, rfl, h1⟩ := h1.slices; have k1 : Keep W0 w1 := (Chg.refl _ _ _).drew.keep k1; have bA := BA.out.keep k1; have y0 := bA.cell 0; have y1 := bA.cell 1; have y2 := bA.cell 2; have ly := bA.lt; clear bA) | (go_at_call 104; refine (copyTable_spec _ _ ⟨_, rfl, ht.keep (qW.keep k1)⟩ (by omega)).mono ?_; rintro e w2 ⟨v2, rfl, h2, k2⟩; obtain ⟨b3, d3, rfl, h2'⟩ := h2.opened; have k3 : Keep W0 w2 := k1.keep k2; have bA := BA.out.keep k3; have z0 := bA.cell 0; have z1 := bA.cell 1; have z2 := bA.cell 2; have lz := bA.lt; have bR := BR.out.keep k3; have r0 := bR.cell 0; have r1 := bR.cell 1; have r2 := bR.cell 2; have s0 := bR.frozen 0; have s1 := bR.frozen 1; have s2 := bR.frozen 2; have lR := bR.lt; clear bA bR))
  all_goals
    go_wp2_with fail
    have g1 := k1.size
    have g2 := k2.size
    have zW := ZW.out
    refine bodyPost_ret (v := .agg #[.slice b1 m.fr.cells.length d1, .slice b2 m.fr.used.length d2, .slice b3 m.tb.length d3]) (by simp [results, Try.results60, go_sem, r0, r1, r2, lR]) rfl ⟨_, rfl, MA.mk ?_ ?_, ?_⟩
    · exact (((h1.keep k2).mv (l := w.heap.size) (h := w.heap.size + 2) (by repeat (first | exact Chg.refl _ _ _ | (refine Chg.set ?_ _ _ _ (.inl ⟨by omega, by omega⟩)))) (by
        have : W0.drew.heap.size = W0.heap.size := rfl
        omega)).wide (by
        have : W0.drew.heap.size = W0.heap.size := rfl
        omega) (by simp [World.setCell]; omega))
    · exact ((h2'.mv (l := w.heap.size) (h := w.heap.size + 2) (by repeat (first | exact Chg.refl _ _ _ | (refine Chg.set ?_ _ _ _ (.inl ⟨by omega, by omega⟩)))) (by omega)).wide (by omega) (by simp [World.setCell]))
    · exact (by repeat (first | exact qW.keep k3 | (refine Chg.set ?_ _ _ _ (.inr (by omega)))))
/-- A store into a row of numbers turns a block of numbers. -/
theorem FR.cellKN {lo hi : Nat} {w : World} {g n1 c1 gr len d : Nat} {s2 : Value} {f : FrD} (h : FR lo hi w (.agg #[.slice (some ⟨g, 0, none⟩) n1 c1, s2]) f) (i : Nat) (hi' : i < f.cells.length)
    (hc : w.cell? ⟨g, i, none⟩ = some (.slice (some ⟨gr, 0, none⟩) len d)) (k : Nat) (v : Value) : KeepNot [3] w (w.setCell ⟨gr, k, none⟩ v) := by
  obtain ⟨⟨vs, h1⟩, _⟩ := h.parts
  obtain ⟨a', c', e, _, hf⟩ := h1.opened
  obtain ⟨g', rfl, _, _, _, x4, _⟩ := hf i hi'
  simp at e
  rw [← e.1, hc] at x4
  have hr := h1.row i hi'
  rw [← Option.some.inj x4] at hr
  exact KeepNot.of_row hr fun j hj hne => Below.heap_setCell w ⟨gr, k, none⟩ v j (fun e => hne (by rw [e]; rfl))
theorem store_no {m : MaD} {a v : Int} (h : (entryAtD m a).1 = 0) : storeC m a v = 1 ∧ storeD m a v = m := by
  have e : storeC m a v = 1 := by unfold storeC; rw [if_pos h]
  refine ⟨e, ?_⟩
  unfold storeD; rw [e]; rfl
theorem store_ro {m : MaD} {a v : Int} (h : (entryAtD m a).1 = 1) : storeC m a v = 2 ∧ storeD m a v = m := by
  have e : storeC m a v = 2 := by unfold storeC; rw [if_neg (by omega), if_pos h]
  refine ⟨e, ?_⟩
  unfold storeD; rw [e]; rfl
theorem store_val {m : MaD} {a v : Int} (h : (entryAtD m a).1 = 2) (hv : btw v 0 999 = false) : storeC m a v = 3 ∧ storeD m a v = m := by
  have e : storeC m a v = 3 := by unfold storeC; rw [if_neg (by omega), if_neg (by omega), hv]; rfl
  refine ⟨e, ?_⟩
  unfold storeD; rw [e]; rfl
theorem store_yes {m : MaD} {a v : Int} (h : (entryAtD m a).1 = 2) (hv : btw v 0 999 = true) : storeC m a v = 0 ∧ storeD m a v = ⟨⟨m.fr.cells.set (entryAtD m a).2.toNat ((m.fr.cells.getD (entryAtD m a).2.toNat []).set (a % 16).toNat v), m.fr.used⟩, m.tb⟩ := by
  have e : storeC m a v = 0 := by unfold storeC; rw [if_neg (by omega), if_neg (by omega), hv]; rfl
  refine ⟨e, ?_⟩
  unfold storeD; rw [e]; rfl
theorem storeD_sm {m : MaD} (h : sm_Machine m) (a v : Int) : sm_Machine (storeD m a v) := by
  unfold storeD
  split
  · unfold sm_Machine at *
    simp only [List.length_set]
    rw [cntRows_set _ _ _ (by simp)]
    exact h
  · exact h
theorem mode_of {m : MaD} {a : Int} : (entryAtD m a).1 = 0 ∨ (entryAtD m a).1 = 1 ∨ (entryAtD m a).1 = 2 := by
  by_cases h : (entryAtD m a).1 = 0
  · exact .inl h
  · exact .inr (at_parts h).2.2.2.2.2.2.2
set_option maxHeartbeats 2000000 in
theorem store_any {lo hi : Nat} {m : MaD} (v : Value) (a y : Int) (w : World) (h : MA lo hi w v m) (hs : sm_Machine m) (ha : a ≤ 9223372036854775807) :
    Calls Try.prog 27 #[v, .int .i64 a, .int .i64 y] w fun e w' => ∃ v', e = .returned (.tuple #[v', .int .i64 (storeC m a y)]) ∧ MA w.heap.size w'.heap.size w' v' (storeD m a y) ∧ Keep w w' := by
  have hcl : m.fr.cells.length ≤ 1048576 := by have := hs.fr; unfold sm_Frames at this; omega
  obtain ⟨a1, c1, a2, c2, a3, c3, rfl, hf, ht⟩ := h.slices
  have h : MA lo hi w (.agg #[.slice a1 m.fr.cells.length c1, .slice a2 m.fr.used.length c2, .slice a3 m.tb.length c3]) m := MA.mk hf ht
  go_enter Try.func27, Try.ntmps27
  go_wp2_with fail
  refine (copyMachine_any _ _ (h.keep (by repeat (first | exact Chg.refl _ _ _ | apply Chg.alloc))) hs).mono ?_
  rintro e w1 ⟨v1, rfl, h1, k1⟩
  have bA := ((Blk.new w 39 #[.slice a1 m.fr.cells.length c1, .slice a2 m.fr.used.length c2, .slice a3 m.tb.length c3]).keep ((Chg.refl 0 0 _).alloc (.cells #[.slice none 0 0, .slice none 0 0, .slice none 0 0] 39 (0, 0)))).keep k1
  have bR := (blk1 w (.cells #[.slice a1 m.fr.cells.length c1, .slice a2 m.fr.used.length c2, .slice a3 m.tb.length c3] 39 (0, 0)) 39 #[.slice none 0 0, .slice none 0 0, .slice none 0 0]).keep k1
  have q1 : Keep w w1 := Chg.keep (by repeat (first | exact Chg.refl _ _ _ | apply Chg.alloc)) k1
  obtain ⟨b1, d1, b2, d2, b3, d3, rfl, h1, h1t⟩ := h1.slices
  have hz := k1.size
  simp only [size_alloc] at h1 h1t hz
  have HO := Lib.hid h1
  have HT := Lib.hid h1t
  have BA := Lib.hid bA
  have BR := Lib.hid bR
  have cA0 := bA.cell 0
  have cA1 := bA.cell 1
  have cA2 := bA.cell 2
  have lA := bA.lt
  clear bA bR k1 h1 h1t
  rcases mode_of (m := m) (a := a) with hm | hm | hm
  · obtain ⟨e1, e2⟩ := store_no (v := y) hm
    have HC := Lib.hid e1
    have HD := Lib.hid e2
    have HL := Lib.hid hm
    clear e1 e2 hm
    go_wp2_with (first | (go_at_call 64; refine (entryAt_any _ _ _ (h.keep (q1.alloc _)) hs ha).mono ?_; rw [HL.out]; rintro e w2 ⟨rfl, k2⟩; have q2 : Keep w1 w2 := Chg.keep ((Chg.refl 0 0 w1).alloc (.cells #[.slice b1 m.fr.cells.length d1, .slice b2 m.fr.used.length d2, .slice b3 m.tb.length d3] 39 (0, 0))) k2; have bA := BA.out.keep q2; have dA0 := bA.cell 0; have dA1 := bA.cell 1; have dA2 := bA.cell 2; have bR := BR.out.keep q2; have rR0 := bR.frozen 0; have rR1 := bR.frozen 1; have rR2 := bR.frozen 2; have sR0 := bR.cell 0; have sR1 := bR.cell 1; have sR2 := bR.cell 2; have lR := bR.lt; have bO := (Blk.new w1 39 #[.slice b1 m.fr.cells.length d1, .slice b2 m.fr.used.length d2, .slice b3 m.tb.length d3]).keep k2; have cO0 := bO.cell 0; have cO1 := bO.cell 1; have cO2 := bO.cell 2; have lO := bO.lt; have lA2 := bA.lt; clear bA bR bO) | (go_at_call 65; refine (between_any _ _ _ _).mono ?_; rintro e w' ⟨rfl, rfl⟩))
    refine bodyPost_ret (v := .tuple #[.agg #[.slice b1 m.fr.cells.length d1, .slice b2 m.fr.used.length d2, .slice b3 m.tb.length d3], .int .i64 1]) (by simp [results, Try.results27, go_sem, sR0, sR1, sR2, lR]) rfl ⟨_, by rw [HC.out], ?_, ?_⟩
    · rw [HD.out]
      exact MA.mk (((HO.out.keep q2).mv (l := w.heap.size) (h := w.heap.size + 2) (by repeat (first | exact Chg.refl _ _ _ | apply Chg.alloc | (refine Chg.set ?_ _ _ _ (.inl ⟨by omega, by omega⟩)))) (by omega)).wide (by omega) (by first | (simp only [size_alloc, size_set]; omega) | (simp only [size_set]; omega))) (((HT.out.keep q2).mv (l := w.heap.size) (h := w.heap.size + 2) (by repeat (first | exact Chg.refl _ _ _ | apply Chg.alloc | (refine Chg.set ?_ _ _ _ (.inl ⟨by omega, by omega⟩)))) (by omega)).wide (by omega) (by first | (simp only [size_alloc, size_set]; omega) | (simp only [size_set]; omega)))
    · exact (by repeat (first | exact q1.keep q2 | apply Chg.alloc | (refine Chg.set ?_ _ _ _ (.inr (by omega)))))
  · obtain ⟨e1, e2⟩ := store_ro (v := y) hm
    have HC := Lib.hid e1
    have HD := Lib.hid e2
    have HL := Lib.hid hm
    clear e1 e2 hm
    go_wp2_with (first | (go_at_call 64; refine (entryAt_any _ _ _ (h.keep (q1.alloc _)) hs ha).mono ?_; rw [HL.out]; rintro e w2 ⟨rfl, k2⟩; have q2 : Keep w1 w2 := Chg.keep ((Chg.refl 0 0 w1).alloc (.cells #[.slice b1 m.fr.cells.length d1, .slice b2 m.fr.used.length d2, .slice b3 m.tb.length d3] 39 (0, 0))) k2; have bA := BA.out.keep q2; have dA0 := bA.cell 0; have dA1 := bA.cell 1; have dA2 := bA.cell 2; have bR := BR.out.keep q2; have rR0 := bR.frozen 0; have rR1 := bR.frozen 1; have rR2 := bR.frozen 2; have sR0 := bR.cell 0; have sR1 := bR.cell 1; have sR2 := bR.cell 2; have lR := bR.lt; have bO := (Blk.new w1 39 #[.slice b1 m.fr.cells.length d1, .slice b2 m.fr.used.length d2, .slice b3 m.tb.length d3]).keep k2; have cO0 := bO.cell 0; have cO1 := bO.cell 1; have cO2 := bO.cell 2; have lO := bO.lt; have lA2 := bA.lt; clear bA bR bO) | (go_at_call 65; refine (between_any _ _ _ _).mono ?_; rintro e w' ⟨rfl, rfl⟩))
    refine bodyPost_ret (v := .tuple #[.agg #[.slice b1 m.fr.cells.length d1, .slice b2 m.fr.used.length d2, .slice b3 m.tb.length d3], .int .i64 2]) (by simp [results, Try.results27, go_sem, sR0, sR1, sR2, lR]) rfl ⟨_, by rw [HC.out], ?_, ?_⟩
    · rw [HD.out]
      exact MA.mk (((HO.out.keep q2).mv (l := w.heap.size) (h := w.heap.size + 2) (by repeat (first | exact Chg.refl _ _ _ | apply Chg.alloc | (refine Chg.set ?_ _ _ _ (.inl ⟨by omega, by omega⟩)))) (by omega)).wide (by omega) (by first | (simp only [size_alloc, size_set]; omega) | (simp only [size_set]; omega))) (((HT.out.keep q2).mv (l := w.heap.size) (h := w.heap.size + 2) (by repeat (first | exact Chg.refl _ _ _ | apply Chg.alloc | (refine Chg.set ?_ _ _ _ (.inl ⟨by omega, by omega⟩)))) (by omega)).wide (by omega) (by first | (simp only [size_alloc, size_set]; omega) | (simp only [size_set]; omega)))
    · exact (by repeat (first | exact q1.keep q2 | apply Chg.alloc | (refine Chg.set ?_ _ _ _ (.inr (by omega)))))
  · cases hv : btw y 0 999
    · obtain ⟨e1, e2⟩ := store_val (v := y) hm hv
      have HC := Lib.hid e1
      have HD := Lib.hid e2
      have HL := Lib.hid hm
      clear e1 e2 hm
      go_wp2_with (first | (go_at_call 64; refine (entryAt_any _ _ _ (h.keep (q1.alloc _)) hs ha).mono ?_; rw [HL.out]; rintro e w2 ⟨rfl, k2⟩; have q2 : Keep w1 w2 := Chg.keep ((Chg.refl 0 0 w1).alloc (.cells #[.slice b1 m.fr.cells.length d1, .slice b2 m.fr.used.length d2, .slice b3 m.tb.length d3] 39 (0, 0))) k2; have bA := BA.out.keep q2; have dA0 := bA.cell 0; have dA1 := bA.cell 1; have dA2 := bA.cell 2; have bR := BR.out.keep q2; have rR0 := bR.frozen 0; have rR1 := bR.frozen 1; have rR2 := bR.frozen 2; have sR0 := bR.cell 0; have sR1 := bR.cell 1; have sR2 := bR.cell 2; have lR := bR.lt; have bO := (Blk.new w1 39 #[.slice b1 m.fr.cells.length d1, .slice b2 m.fr.used.length d2, .slice b3 m.tb.length d3]).keep k2; have cO0 := bO.cell 0; have cO1 := bO.cell 1; have cO2 := bO.cell 2; have lO := bO.lt; have lA2 := bA.lt; clear bA bR bO) | (go_at_call 65; refine (between_any _ _ _ _).mono ?_; rintro e w' ⟨rfl, rfl⟩))
      refine bodyPost_ret (v := .tuple #[.agg #[.slice b1 m.fr.cells.length d1, .slice b2 m.fr.used.length d2, .slice b3 m.tb.length d3], .int .i64 3]) (by simp [results, Try.results27, go_sem, sR0, sR1, sR2, lR]) rfl ⟨_, by rw [HC.out], ?_, ?_⟩
      · rw [HD.out]
        exact MA.mk (((HO.out.keep q2).mv (l := w.heap.size) (h := w.heap.size + 2) (by repeat (first | exact Chg.refl _ _ _ | apply Chg.alloc | (refine Chg.set ?_ _ _ _ (.inl ⟨by omega, by omega⟩)))) (by omega)).wide (by omega) (by first | (simp only [size_alloc, size_set]; omega) | (simp only [size_set]; omega))) (((HT.out.keep q2).mv (l := w.heap.size) (h := w.heap.size + 2) (by repeat (first | exact Chg.refl _ _ _ | apply Chg.alloc | (refine Chg.set ?_ _ _ _ (.inl ⟨by omega, by omega⟩)))) (by omega)).wide (by omega) (by first | (simp only [size_alloc, size_set]; omega) | (simp only [size_set]; omega)))
      · exact (by repeat (first | exact q1.keep q2 | apply Chg.alloc | (refine Chg.set ?_ _ _ _ (.inr (by omega)))))
    · obtain ⟨e1, e2⟩ := store_yes (v := y) hm hv
      have HC := Lib.hid e1
      have HD := Lib.hid e2
      have HL := Lib.hid hm
      obtain ⟨p0, -, -, p1, p2, p3, -, -⟩ := at_parts (show (entryAtD m a).1 ≠ 0 by omega)
      clear e1 e2 hm
      obtain ⟨n, rfl⟩ : ∃ n : Nat, a = n := ⟨a.toNat, by omega⟩
      have HM := Lib.hid (show ((n : Int) % 16).toNat = n % 16 by omega)
      have HD2 := Lib.hid (show storeD m (n : Int) y = ⟨⟨m.fr.cells.set (entryAtD m (n : Int)).2.toNat ((m.fr.cells.getD (entryAtD m (n : Int)).2.toNat []).set (n % 16) y), m.fr.used⟩, m.tb⟩ by have := HD.out; rw [HM.out] at this; exact this)
      have hlt : (entryAtD m (n : Int)).2.toNat < m.fr.cells.length := by omega
      have hltK : n % 16 < (m.fr.cells.getD (entryAtD m (n : Int)).2.toNat []).length := by omega
      obtain ⟨gC, _, _, rfl, _⟩ := HO.out.rowFull (entryAtD m (n : Int)).2.toNat hlt
      go_wp2_with (first | (go_at_call 64; refine (entryAt_any _ _ _ (h.keep (q1.alloc _)) hs ha).mono ?_; rw [HL.out]; rintro e w2 ⟨rfl, k2⟩; have q2 : Keep w1 w2 := Chg.keep ((Chg.refl 0 0 w1).alloc (.cells #[.slice (some ⟨gC, 0, none⟩) m.fr.cells.length d1, .slice b2 m.fr.used.length d2, .slice b3 m.tb.length d3] 39 (0, 0))) k2; have bA := BA.out.keep q2; have dA0 := bA.cell 0; have dA1 := bA.cell 1; have dA2 := bA.cell 2; have bR := BR.out.keep q2; have rR0 := bR.frozen 0; have rR1 := bR.frozen 1; have rR2 := bR.frozen 2; have sR0 := bR.cell 0; have sR1 := bR.cell 1; have sR2 := bR.cell 2; have lR := bR.lt; have bO := (Blk.new w1 39 #[.slice (some ⟨gC, 0, none⟩) m.fr.cells.length d1, .slice b2 m.fr.used.length d2, .slice b3 m.tb.length d3]).keep k2; have cO0 := bO.cell 0; have cO1 := bO.cell 1; have cO2 := bO.cell 2; have lO := bO.lt; have lA2 := bA.lt; clear bA bR bO; obtain ⟨gY, gZ, rd, e8, gC0, gC1, gC2, cC, gR0, gR1, gR2, cR, fR, hst⟩ := (HO.out.keep q2).cellFull (entryAtD m (n : Int)).2.toNat (n % 16) hlt hltK; obtain rfl : gC = gY := some_blk e8; have HST := Lib.hid hst; have HKN := Lib.hid (fun k v => (HO.out.keep q2).cellKN (entryAtD m (n : Int)).2.toNat hlt cC k v); clear hst e8; rw [p3] at cC) | (go_at_call 65; refine (between_any _ _ _ _).mono ?_; rintro e w' ⟨rfl, rfl⟩))
      refine bodyPost_ret (v := .tuple #[.agg #[.slice (some ⟨gC, 0, none⟩) m.fr.cells.length d1, .slice b2 m.fr.used.length d2, .slice b3 m.tb.length d3], .int .i64 0]) (by simp [results, Try.results27, go_sem, sR0, sR1, sR2, lR]) rfl ⟨_, by rw [HC.out], ?_, ?_⟩
      · rw [HD2.out]
        exact MA.mk (((HST.out y).mv (l := w.heap.size) (h := w.heap.size + 2) (by repeat (first | exact Chg.refl _ _ _ | apply Chg.alloc | (refine Chg.set ?_ _ _ _ (.inl ⟨by omega, by omega⟩)))) (by omega)).wide (by omega) (by first | (simp only [size_alloc, size_set]; omega) | (simp only [size_set]; omega))) (((show SE _ _ _ _ _ from Rw.keepNot (HT.out.keep q2) (HKN.out (n % 16) (.int .i64 y)) (by decide)).mv (l := w.heap.size) (h := w.heap.size + 2) (by repeat (first | exact Chg.refl _ _ _ | apply Chg.alloc | (refine Chg.set ?_ _ _ _ (.inl ⟨by omega, by omega⟩)))) (by omega)).wide (by omega) (by first | (simp only [size_alloc, size_set]; omega) | (simp only [size_set]; omega)))
      · exact (by repeat (first | exact q1.keep q2 | apply Chg.alloc | (refine Chg.set ?_ _ _ _ (.inr (by omega)))))
set_option maxHeartbeats 2000000 in
theorem store_spec {lo hi : Nat} {m : MaD} (v : Value) (a y : Int) (w : World) (h : MA lo hi w v m) (hs : sm_Machine m) (ha : a ≤ 9223372036854775807) :
    Calls Try.prog 26 #[v, .int .i64 a, .int .i64 y] w fun e w' => ∃ v', e = .returned (.tuple #[v', .int .i64 (storeC m a y)]) ∧ MA w.heap.size w'.heap.size w' v' (storeD m a y) ∧ Keep w w' := by
  have hcl : m.fr.cells.length ≤ 1048576 := by have := hs.fr; unfold sm_Frames at this; omega
  obtain ⟨a1, c1, a2, c2, a3, c3, rfl, hf, ht⟩ := h.slices
  have h : MA lo hi w (.agg #[.slice a1 m.fr.cells.length c1, .slice a2 m.fr.used.length c2, .slice a3 m.tb.length c3]) m := MA.mk hf ht
  go_enter Try.func26, Try.ntmps26
  go_wp2_with fail
  refine (copyMachine_spec _ _ (h.keep (by repeat (first | exact Chg.refl _ _ _ | apply Chg.alloc))) hs).mono ?_
  rintro e w1 ⟨v1, rfl, h1, k1⟩
  have bA := ((Blk.new w 39 #[.slice a1 m.fr.cells.length c1, .slice a2 m.fr.used.length c2, .slice a3 m.tb.length c3]).keep ((Chg.refl 0 0 _).alloc (.cells #[.slice none 0 0, .slice none 0 0, .slice none 0 0] 39 (0, 0)))).keep k1
  have bR := (blk1 w (.cells #[.slice a1 m.fr.cells.length c1, .slice a2 m.fr.used.length c2, .slice a3 m.tb.length c3] 39 (0, 0)) 39 #[.slice none 0 0, .slice none 0 0, .slice none 0 0]).keep k1
  have q1 : Keep w w1 := Chg.keep (by repeat (first | exact Chg.refl _ _ _ | apply Chg.alloc)) k1
  obtain ⟨b1, d1, b2, d2, b3, d3, rfl, h1, h1t⟩ := h1.slices
  have hz := k1.size
  simp only [size_alloc] at h1 h1t hz
  have HO := Lib.hid h1
  have HT := Lib.hid h1t
  have BA := Lib.hid bA
  have BR := Lib.hid bR
  have cA0 := bA.cell 0
  have cA1 := bA.cell 1
  have cA2 := bA.cell 2
  have lA := bA.lt
  clear bA bR k1 h1 h1t
  cases hok : machineOkB m
  · obtain ⟨e1, e2⟩ := store_no (m := m) (a := a) (v := y) (by rw [entryAt_no hok])
    have HC := Lib.hid e1
    have HD := Lib.hid e2
    clear e1 e2
    go_wp2_with (first | (go_at_call 61; refine (lEntry_spec _ _ _ (h.keep (q1.alloc _)) hs ha).mono ?_; rintro e w2 ⟨rfl, k2⟩; have q2 : Keep w1 w2 := Chg.keep ((Chg.refl 0 0 w1).alloc (.cells #[.slice b1 m.fr.cells.length d1, .slice b2 m.fr.used.length d2, .slice b3 m.tb.length d3] 39 (0, 0))) k2; have bA := BA.out.keep q2; have dA0 := bA.cell 0; have dA1 := bA.cell 1; have dA2 := bA.cell 2; have bR := BR.out.keep q2; have rR0 := bR.frozen 0; have rR1 := bR.frozen 1; have rR2 := bR.frozen 2; have sR0 := bR.cell 0; have sR1 := bR.cell 1; have sR2 := bR.cell 2; have lR := bR.lt; have bO := (Blk.new w1 39 #[.slice b1 m.fr.cells.length d1, .slice b2 m.fr.used.length d2, .slice b3 m.tb.length d3]).keep k2; have cO0 := bO.cell 0; have cO1 := bO.cell 1; have cO2 := bO.cell 2; have lO := bO.lt; have lA2 := bA.lt) | (go_at_call 49; refine (machineOk_spec _ _ (h.keep ((q1.keep q2).alloc _)) hs).mono ?_; rw [hok]; rintro e w3 ⟨rfl, k3⟩; have q3 : Keep w2 w3 := Chg.keep ((Chg.refl 0 0 w2).alloc _) k3; replace bA := bA.keep q3; replace bR := bR.keep q3; replace bO := bO.keep q3; have rR0 := bR.frozen 0; have rR1 := bR.frozen 1; have rR2 := bR.frozen 2; have sR0 := bR.cell 0; have sR1 := bR.cell 1; have sR2 := bR.cell 2; have lR := bR.lt; have cO0 := bO.cell 0; have cO1 := bO.cell 1; have cO2 := bO.cell 2; have lO := bO.lt; have bE := (Blk.new w2 65 #[.int .i64 (lEntD m a).1, .int .i64 (lEntD m a).2]).keep k3; have cE0 := bE.cell 0; have cE1 := bE.cell 1; have lE := bE.lt; clear bA bR bO bE) | (go_at_call 62; refine (l01In_any _ _ _ _).mono ?_; rintro e w' ⟨rfl, rfl⟩))
    refine bodyPost_ret (v := .tuple #[.agg #[.slice b1 m.fr.cells.length d1, .slice b2 m.fr.used.length d2, .slice b3 m.tb.length d3], .int .i64 1]) (by simp [results, Try.results26, go_sem, sR0, sR1, sR2, lR]) rfl ⟨_, by rw [HC.out], ?_, ?_⟩
    · rw [HD.out]
      exact MA.mk (((HO.out.keep (q2.keep q3)).mv (l := w.heap.size) (h := w.heap.size + 2) (by repeat (first | exact Chg.refl _ _ _ | apply Chg.alloc | (refine Chg.set ?_ _ _ _ (.inl ⟨by omega, by omega⟩)))) (by omega)).wide (by omega) (by first | (simp only [size_alloc, size_set]; omega) | (simp only [size_set]; omega))) (((HT.out.keep (q2.keep q3)).mv (l := w.heap.size) (h := w.heap.size + 2) (by repeat (first | exact Chg.refl _ _ _ | apply Chg.alloc | (refine Chg.set ?_ _ _ _ (.inl ⟨by omega, by omega⟩)))) (by omega)).wide (by omega) (by first | (simp only [size_alloc, size_set]; omega) | (simp only [size_set]; omega)))
    · exact (by repeat (first | exact q1.keep (q2.keep q3) | apply Chg.alloc | (refine Chg.set ?_ _ _ _ (.inr (by omega)))))
  have hle := lEnt_ok (a := a) hok
  rcases mode_of (m := m) (a := a) with hm | hm | hm
  · obtain ⟨e1, e2⟩ := store_no (v := y) hm
    have HC := Lib.hid e1
    have HD := Lib.hid e2
    have HL := Lib.hid (by rw [hle]; exact hm : (lEntD m a).1 = 0)
    clear e1 e2 hm hle
    go_wp2_with (first | (go_at_call 61; refine (lEntry_spec _ _ _ (h.keep (q1.alloc _)) hs ha).mono ?_; rw [HL.out]; rintro e w2 ⟨rfl, k2⟩; have q2 : Keep w1 w2 := Chg.keep ((Chg.refl 0 0 w1).alloc (.cells #[.slice b1 m.fr.cells.length d1, .slice b2 m.fr.used.length d2, .slice b3 m.tb.length d3] 39 (0, 0))) k2; have bA := BA.out.keep q2; have dA0 := bA.cell 0; have dA1 := bA.cell 1; have dA2 := bA.cell 2; have bR := BR.out.keep q2; have rR0 := bR.frozen 0; have rR1 := bR.frozen 1; have rR2 := bR.frozen 2; have sR0 := bR.cell 0; have sR1 := bR.cell 1; have sR2 := bR.cell 2; have lR := bR.lt; have bO := (Blk.new w1 39 #[.slice b1 m.fr.cells.length d1, .slice b2 m.fr.used.length d2, .slice b3 m.tb.length d3]).keep k2; have cO0 := bO.cell 0; have cO1 := bO.cell 1; have cO2 := bO.cell 2; have lO := bO.lt; have lA2 := bA.lt) | (go_at_call 49; refine (machineOk_spec _ _ (h.keep ((q1.keep q2).alloc _)) hs).mono ?_; rw [hok]; rintro e w3 ⟨rfl, k3⟩; have q3 : Keep w2 w3 := Chg.keep ((Chg.refl 0 0 w2).alloc _) k3; replace bA := bA.keep q3; replace bR := bR.keep q3; replace bO := bO.keep q3; have rR0 := bR.frozen 0; have rR1 := bR.frozen 1; have rR2 := bR.frozen 2; have sR0 := bR.cell 0; have sR1 := bR.cell 1; have sR2 := bR.cell 2; have lR := bR.lt; have cO0 := bO.cell 0; have cO1 := bO.cell 1; have cO2 := bO.cell 2; have lO := bO.lt; have bE := (Blk.new w2 65 #[.int .i64 0, .int .i64 (lEntD m a).2]).keep k3; have cE0 := bE.cell 0; have cE1 := bE.cell 1; have lE := bE.lt; clear bA bR bO bE) | (go_at_call 62; refine (l01In_any _ _ _ _).mono ?_; rintro e w' ⟨rfl, rfl⟩))
    refine bodyPost_ret (v := .tuple #[.agg #[.slice b1 m.fr.cells.length d1, .slice b2 m.fr.used.length d2, .slice b3 m.tb.length d3], .int .i64 1]) (by simp [results, Try.results26, go_sem, sR0, sR1, sR2, lR]) rfl ⟨_, by rw [HC.out], ?_, ?_⟩
    · rw [HD.out]
      exact MA.mk (((HO.out.keep (q2.keep q3)).mv (l := w.heap.size) (h := w.heap.size + 2) (by repeat (first | exact Chg.refl _ _ _ | apply Chg.alloc | (refine Chg.set ?_ _ _ _ (.inl ⟨by omega, by omega⟩)))) (by omega)).wide (by omega) (by first | (simp only [size_alloc, size_set]; omega) | (simp only [size_set]; omega))) (((HT.out.keep (q2.keep q3)).mv (l := w.heap.size) (h := w.heap.size + 2) (by repeat (first | exact Chg.refl _ _ _ | apply Chg.alloc | (refine Chg.set ?_ _ _ _ (.inl ⟨by omega, by omega⟩)))) (by omega)).wide (by omega) (by first | (simp only [size_alloc, size_set]; omega) | (simp only [size_set]; omega)))
    · exact (by repeat (first | exact q1.keep (q2.keep q3) | apply Chg.alloc | (refine Chg.set ?_ _ _ _ (.inr (by omega)))))
  · obtain ⟨e1, e2⟩ := store_ro (v := y) hm
    have HC := Lib.hid e1
    have HD := Lib.hid e2
    have HL := Lib.hid (by rw [hle]; exact hm : (lEntD m a).1 = 1)
    clear e1 e2 hm hle
    go_wp2_with (first | (go_at_call 61; refine (lEntry_spec _ _ _ (h.keep (q1.alloc _)) hs ha).mono ?_; rw [HL.out]; rintro e w2 ⟨rfl, k2⟩; have q2 : Keep w1 w2 := Chg.keep ((Chg.refl 0 0 w1).alloc (.cells #[.slice b1 m.fr.cells.length d1, .slice b2 m.fr.used.length d2, .slice b3 m.tb.length d3] 39 (0, 0))) k2; have bA := BA.out.keep q2; have dA0 := bA.cell 0; have dA1 := bA.cell 1; have dA2 := bA.cell 2; have bR := BR.out.keep q2; have rR0 := bR.frozen 0; have rR1 := bR.frozen 1; have rR2 := bR.frozen 2; have sR0 := bR.cell 0; have sR1 := bR.cell 1; have sR2 := bR.cell 2; have lR := bR.lt; have bO := (Blk.new w1 39 #[.slice b1 m.fr.cells.length d1, .slice b2 m.fr.used.length d2, .slice b3 m.tb.length d3]).keep k2; have cO0 := bO.cell 0; have cO1 := bO.cell 1; have cO2 := bO.cell 2; have lO := bO.lt; have lA2 := bA.lt) | (go_at_call 49; refine (machineOk_spec _ _ (h.keep ((q1.keep q2).alloc _)) hs).mono ?_; rw [hok]; rintro e w3 ⟨rfl, k3⟩; have q3 : Keep w2 w3 := Chg.keep ((Chg.refl 0 0 w2).alloc _) k3; replace bA := bA.keep q3; replace bR := bR.keep q3; replace bO := bO.keep q3; have rR0 := bR.frozen 0; have rR1 := bR.frozen 1; have rR2 := bR.frozen 2; have sR0 := bR.cell 0; have sR1 := bR.cell 1; have sR2 := bR.cell 2; have lR := bR.lt; have cO0 := bO.cell 0; have cO1 := bO.cell 1; have cO2 := bO.cell 2; have lO := bO.lt; have bE := (Blk.new w2 65 #[.int .i64 1, .int .i64 (lEntD m a).2]).keep k3; have cE0 := bE.cell 0; have cE1 := bE.cell 1; have lE := bE.lt; clear bA bR bO bE) | (go_at_call 62; refine (l01In_any _ _ _ _).mono ?_; rintro e w' ⟨rfl, rfl⟩))
    refine bodyPost_ret (v := .tuple #[.agg #[.slice b1 m.fr.cells.length d1, .slice b2 m.fr.used.length d2, .slice b3 m.tb.length d3], .int .i64 2]) (by simp [results, Try.results26, go_sem, sR0, sR1, sR2, lR]) rfl ⟨_, by rw [HC.out], ?_, ?_⟩
    · rw [HD.out]
      exact MA.mk (((HO.out.keep (q2.keep q3)).mv (l := w.heap.size) (h := w.heap.size + 2) (by repeat (first | exact Chg.refl _ _ _ | apply Chg.alloc | (refine Chg.set ?_ _ _ _ (.inl ⟨by omega, by omega⟩)))) (by omega)).wide (by omega) (by first | (simp only [size_alloc, size_set]; omega) | (simp only [size_set]; omega))) (((HT.out.keep (q2.keep q3)).mv (l := w.heap.size) (h := w.heap.size + 2) (by repeat (first | exact Chg.refl _ _ _ | apply Chg.alloc | (refine Chg.set ?_ _ _ _ (.inl ⟨by omega, by omega⟩)))) (by omega)).wide (by omega) (by first | (simp only [size_alloc, size_set]; omega) | (simp only [size_set]; omega)))
    · exact (by repeat (first | exact q1.keep (q2.keep q3) | apply Chg.alloc | (refine Chg.set ?_ _ _ _ (.inr (by omega)))))
  · cases hv : btw y 0 999
    · obtain ⟨e1, e2⟩ := store_val (v := y) hm hv
      have HC := Lib.hid e1
      have HD := Lib.hid e2
      have HL := Lib.hid (by rw [hle]; exact hm : (lEntD m a).1 = 2)
      clear e1 e2 hm hle
      go_wp2_with (first | (go_at_call 61; refine (lEntry_spec _ _ _ (h.keep (q1.alloc _)) hs ha).mono ?_; rw [HL.out]; rintro e w2 ⟨rfl, k2⟩; have q2 : Keep w1 w2 := Chg.keep ((Chg.refl 0 0 w1).alloc (.cells #[.slice b1 m.fr.cells.length d1, .slice b2 m.fr.used.length d2, .slice b3 m.tb.length d3] 39 (0, 0))) k2; have bA := BA.out.keep q2; have dA0 := bA.cell 0; have dA1 := bA.cell 1; have dA2 := bA.cell 2; have bR := BR.out.keep q2; have rR0 := bR.frozen 0; have rR1 := bR.frozen 1; have rR2 := bR.frozen 2; have sR0 := bR.cell 0; have sR1 := bR.cell 1; have sR2 := bR.cell 2; have lR := bR.lt; have bO := (Blk.new w1 39 #[.slice b1 m.fr.cells.length d1, .slice b2 m.fr.used.length d2, .slice b3 m.tb.length d3]).keep k2; have cO0 := bO.cell 0; have cO1 := bO.cell 1; have cO2 := bO.cell 2; have lO := bO.lt; have lA2 := bA.lt) | (go_at_call 49; refine (machineOk_spec _ _ (h.keep ((q1.keep q2).alloc _)) hs).mono ?_; rw [hok]; rintro e w3 ⟨rfl, k3⟩; have q3 : Keep w2 w3 := Chg.keep ((Chg.refl 0 0 w2).alloc _) k3; replace bA := bA.keep q3; replace bR := bR.keep q3; replace bO := bO.keep q3; have rR0 := bR.frozen 0; have rR1 := bR.frozen 1; have rR2 := bR.frozen 2; have sR0 := bR.cell 0; have sR1 := bR.cell 1; have sR2 := bR.cell 2; have lR := bR.lt; have cO0 := bO.cell 0; have cO1 := bO.cell 1; have cO2 := bO.cell 2; have lO := bO.lt; have bE := (Blk.new w2 65 #[.int .i64 2, .int .i64 (lEntD m a).2]).keep k3; have cE0 := bE.cell 0; have cE1 := bE.cell 1; have lE := bE.lt; clear bA bR bO bE) | (go_at_call 62; refine (l01In_any _ _ _ _).mono ?_; rintro e w' ⟨rfl, rfl⟩))
      refine bodyPost_ret (v := .tuple #[.agg #[.slice b1 m.fr.cells.length d1, .slice b2 m.fr.used.length d2, .slice b3 m.tb.length d3], .int .i64 3]) (by simp [results, Try.results26, go_sem, sR0, sR1, sR2, lR]) rfl ⟨_, by rw [HC.out], ?_, ?_⟩
      · rw [HD.out]
        exact MA.mk (((HO.out.keep (q2.keep q3)).mv (l := w.heap.size) (h := w.heap.size + 2) (by repeat (first | exact Chg.refl _ _ _ | apply Chg.alloc | (refine Chg.set ?_ _ _ _ (.inl ⟨by omega, by omega⟩)))) (by omega)).wide (by omega) (by first | (simp only [size_alloc, size_set]; omega) | (simp only [size_set]; omega))) (((HT.out.keep (q2.keep q3)).mv (l := w.heap.size) (h := w.heap.size + 2) (by repeat (first | exact Chg.refl _ _ _ | apply Chg.alloc | (refine Chg.set ?_ _ _ _ (.inl ⟨by omega, by omega⟩)))) (by omega)).wide (by omega) (by first | (simp only [size_alloc, size_set]; omega) | (simp only [size_set]; omega)))
      · exact (by repeat (first | exact q1.keep (q2.keep q3) | apply Chg.alloc | (refine Chg.set ?_ _ _ _ (.inr (by omega)))))
    · obtain ⟨e1, e2⟩ := store_yes (v := y) hm hv
      have HC := Lib.hid e1
      have HD := Lib.hid e2
      have HL := Lib.hid (by rw [hle]; exact hm : (lEntD m a).1 = 2)
      obtain ⟨p0, -, -, p1, p2, p3, -, -⟩ := at_parts (show (entryAtD m a).1 ≠ 0 by omega)
      rw [← hle] at p1 p2 p3 HD
      clear e1 e2 hm hle
      obtain ⟨n, rfl⟩ : ∃ n : Nat, a = n := ⟨a.toNat, by omega⟩
      have HM := Lib.hid (show ((n : Int) % 16).toNat = n % 16 by omega)
      have HD2 := Lib.hid (show storeD m (n : Int) y = ⟨⟨m.fr.cells.set (lEntD m (n : Int)).2.toNat ((m.fr.cells.getD (lEntD m (n : Int)).2.toNat []).set (n % 16) y), m.fr.used⟩, m.tb⟩ by have := HD.out; rw [HM.out] at this; exact this)
      have HOF := Lib.hid (show lOff (n : Int) = ((n % 16 : Nat) : Int) by unfold lOff; rw [if_pos (by omega)]; omega)
      have hk16 : n % 16 < 16 := by omega
      have hlt : (lEntD m (n : Int)).2.toNat < m.fr.cells.length := by omega
      have hltK : n % 16 < (m.fr.cells.getD (lEntD m (n : Int)).2.toNat []).length := by omega
      obtain ⟨gC, _, _, rfl, _⟩ := HO.out.rowFull (lEntD m (n : Int)).2.toNat hlt
      go_wp2_with (first | (go_at_call 61; refine (lEntry_spec _ _ _ (h.keep (q1.alloc _)) hs ha).mono ?_; rw [HL.out, HOF.out]; rintro e w2 ⟨rfl, k2⟩; have q2 : Keep w1 w2 := Chg.keep ((Chg.refl 0 0 w1).alloc (.cells #[.slice (some ⟨gC, 0, none⟩) m.fr.cells.length d1, .slice b2 m.fr.used.length d2, .slice b3 m.tb.length d3] 39 (0, 0))) k2; have bA := BA.out.keep q2; have dA0 := bA.cell 0; have dA1 := bA.cell 1; have dA2 := bA.cell 2; have bR := BR.out.keep q2; have rR0 := bR.frozen 0; have rR1 := bR.frozen 1; have rR2 := bR.frozen 2; have sR0 := bR.cell 0; have sR1 := bR.cell 1; have sR2 := bR.cell 2; have lR := bR.lt; have bO := (Blk.new w1 39 #[.slice (some ⟨gC, 0, none⟩) m.fr.cells.length d1, .slice b2 m.fr.used.length d2, .slice b3 m.tb.length d3]).keep k2; have cO0 := bO.cell 0; have cO1 := bO.cell 1; have cO2 := bO.cell 2; have lO := bO.lt; have lA2 := bA.lt) | (go_at_call 49; refine (machineOk_spec _ _ (h.keep ((q1.keep q2).alloc _)) hs).mono ?_; rw [hok]; rintro e w3 ⟨rfl, k3⟩; have q3 : Keep w2 w3 := Chg.keep ((Chg.refl 0 0 w2).alloc _) k3; replace bA := bA.keep q3; replace bR := bR.keep q3; replace bO := bO.keep q3; have rR0 := bR.frozen 0; have rR1 := bR.frozen 1; have rR2 := bR.frozen 2; have sR0 := bR.cell 0; have sR1 := bR.cell 1; have sR2 := bR.cell 2; have lR := bR.lt; have cO0 := bO.cell 0; have cO1 := bO.cell 1; have cO2 := bO.cell 2; have lO := bO.lt; have bE := (Blk.new w2 65 #[.int .i64 2, .int .i64 (lEntD m (n : Int)).2]).keep k3; have cE0 := bE.cell 0; have cE1 := bE.cell 1; have lE := bE.lt; clear bA bR bO bE; obtain ⟨gY, gZ, rd, e8, gC0, gC1, gC2, cC, gR0, gR1, gR2, cR, fR, hst⟩ := (HO.out.keep (q2.keep q3)).cellFull (lEntD m (n : Int)).2.toNat (n % 16) hlt hltK; obtain rfl : gC = gY := some_blk e8; have HST := Lib.hid hst; have HKN := Lib.hid (fun k v => (HO.out.keep (q2.keep q3)).cellKN (lEntD m (n : Int)).2.toNat hlt cC k v); clear hst e8; rw [p3] at cC) | (go_at_call 62; refine (l01In_any _ _ _ _).mono ?_; rintro e w' ⟨rfl, rfl⟩))
      refine bodyPost_ret (v := .tuple #[.agg #[.slice (some ⟨gC, 0, none⟩) m.fr.cells.length d1, .slice b2 m.fr.used.length d2, .slice b3 m.tb.length d3], .int .i64 0]) (by simp [results, Try.results26, go_sem, sR0, sR1, sR2, lR]) rfl ⟨_, by rw [HC.out], ?_, ?_⟩
      · rw [HD2.out]
        exact MA.mk (((HST.out y).mv (l := w.heap.size) (h := w.heap.size + 2) (by repeat (first | exact Chg.refl _ _ _ | apply Chg.alloc | (refine Chg.set ?_ _ _ _ (.inl ⟨by omega, by omega⟩)))) (by omega)).wide (by omega) (by first | (simp only [size_alloc, size_set]; omega) | (simp only [size_set]; omega))) (((show SE _ _ _ _ _ from Rw.keepNot (HT.out.keep (q2.keep q3)) (HKN.out (n % 16) (.int .i64 y)) (by decide)).mv (l := w.heap.size) (h := w.heap.size + 2) (by repeat (first | exact Chg.refl _ _ _ | apply Chg.alloc | (refine Chg.set ?_ _ _ _ (.inl ⟨by omega, by omega⟩)))) (by omega)).wide (by omega) (by first | (simp only [size_alloc, size_set]; omega) | (simp only [size_set]; omega)))
      · exact (by repeat (first | exact q1.keep (q2.keep q3) | apply Chg.alloc | (refine Chg.set ?_ _ _ _ (.inr (by omega)))))
end Go.Proofs.Ytkcoehkfhffjkaa
