/- Machines: the laws' own functions on them. -/
import Derived.Test.YtkcoehkfhffjkaaFr7
import Derived.Test.YtkcoehkfhffjkaaUniTab
import Derived.Test.YtkcoehkfhffjkaaUniFr
namespace Go.Proofs.Ytkcoehkfhffjkaa
open Go.ChangeShapes Go.WideShapes Go.ChangeAt Go.RowKit
set_option linter.unusedSimpArgs false
set_option linter.unusedVariables false
set_option maxRecDepth 100000

/-- A machine in memory that calls made. -/
def MA (lo hi : Nat) (w : World) (v : Value) (m : MaD) : Prop := ∃ s1 s2 s3, v = .agg #[s1, s2, s3] ∧ FR lo hi w (.agg #[s1, s2]) m.fr ∧ SE lo hi w s3 m.tb
theorem MA.mv {l h lo hi : Nat} {w w' : World} {v : Value} {m : MaD} (hr : MA lo hi w v m) (hc : Chg l h w w') (hd : hi ≤ l ∨ h ≤ lo ∨ h ≤ l ∨ hi ≤ lo ∨ w.heap.size ≤ l) : MA lo hi w' v m := by
  obtain ⟨s1, s2, s3, e, h1, h2⟩ := hr; exact ⟨s1, s2, s3, e, h1.mv hc hd, h2.mv hc hd⟩
theorem MA.keep {lo hi : Nat} {w w' : World} {v : Value} {m : MaD} (hr : MA lo hi w v m) (hc : Keep w w') : MA lo hi w' v m := hr.mv hc (.inr (.inl (Nat.zero_le _)))
theorem MA.wide {lo hi lo' hi' : Nat} {w : World} {v : Value} {m : MaD} (hr : MA lo hi w v m) (h1 : lo' ≤ lo) (h2 : hi ≤ hi') : MA lo' hi' w v m := by
  obtain ⟨s1, s2, s3, e, x1, x2⟩ := hr; exact ⟨s1, s2, s3, e, x1.wide h1 h2, x2.wide h1 h2⟩
theorem SE.slice {lo hi : Nat} {w : World} {v : Value} {es : TbD} (h : SE lo hi w v es) : ∃ a c, v = .slice a es.length c ∧ es.length ≤ c ∧ SE lo hi w (.slice a es.length c) es := by
  obtain ⟨a, c, rfl, hc, _⟩ := h.opened
  exact ⟨a, c, rfl, hc, h⟩
theorem MA.slices {lo hi : Nat} {w : World} {v : Value} {m : MaD} (h : MA lo hi w v m) : ∃ a1 c1 a2 c2 a3 c3, v = .agg #[.slice a1 m.fr.cells.length c1, .slice a2 m.fr.used.length c2, .slice a3 m.tb.length c3] ∧
    FR lo hi w (.agg #[.slice a1 m.fr.cells.length c1, .slice a2 m.fr.used.length c2]) m.fr ∧ SE lo hi w (.slice a3 m.tb.length c3) m.tb := by
  obtain ⟨s1, s2, s3, rfl, h1, h2⟩ := h
  obtain ⟨a1, c1, a2, c2, e, h1⟩ := h1.slices
  obtain ⟨a3, c3, rfl, _, h2⟩ := h2.slice
  simp at e
  obtain ⟨rfl, rfl⟩ := e
  exact ⟨a1, c1, a2, c2, a3, c3, rfl, h1, h2⟩
theorem MA.opened {lo hi : Nat} {w : World} {v : Value} {m : MaD} (h : MA lo hi w v m) : ∃ a1 c1 a2 c2 a3 c3, v = .agg #[.slice a1 m.fr.cells.length c1, .slice a2 m.fr.used.length c2, .slice a3 m.tb.length c3] ∧ True := by
  obtain ⟨a1, c1, a2, c2, a3, c3, e, _, _⟩ := h.slices
  exact ⟨a1, c1, a2, c2, a3, c3, e, trivial⟩
theorem MA.mk {lo hi : Nat} {w : World} {s1 s2 s3 : Value} {m : MaD} (h1 : FR lo hi w (.agg #[s1, s2]) m.fr) (h2 : SE lo hi w s3 m.tb) : MA lo hi w (.agg #[s1, s2, s3]) m := ⟨s1, s2, s3, rfl, h1, h2⟩
def InMa (w : World) (v : Value) (m : MaD) : Prop := ∃ s1 s2 s3, v = .agg #[s1, s2, s3] ∧ InFr w (.agg #[s1, s2]) m.fr ∧ InTb w (.agg #[s3]) m.tb
theorem InMa.keep {w w' : World} {v : Value} {m : MaD} (h : InMa w v m) (hk : Keep w w') : InMa w' v m := by
  obtain ⟨s1, s2, s3, e, h1, h2⟩ := h; exact ⟨s1, s2, s3, e, h1.keep hk, h2.keep hk⟩
theorem InMa.opened {w : World} {v : Value} {m : MaD} (h : InMa w v m) : ∃ a1 c1 a2 c2 a3 c3, v = .agg #[.slice a1 m.fr.cells.length c1, .slice a2 m.fr.used.length c2, .slice a3 m.tb.length c3] ∧
    InMa w (.agg #[.slice a1 m.fr.cells.length c1, .slice a2 m.fr.used.length c2, .slice a3 m.tb.length c3]) m := by
  obtain ⟨s1, s2, s3, rfl, h1, h2⟩ := h
  have h1' := h1
  have h2' := h2
  obtain ⟨a1, c1, a2, c2, e, _⟩ := h1.opened
  obtain ⟨s, e2, a3, c3, rfl, _⟩ := h2
  simp at e e2
  obtain ⟨rfl, rfl⟩ := e
  subst e2
  exact ⟨a1, c1, a2, c2, a3, c3, rfl, _, _, _, rfl, h1', h2'⟩
theorem InMa.parts {w : World} {s1 s2 s3 : Value} {m : MaD} (h : InMa w (.agg #[s1, s2, s3]) m) : InFr w (.agg #[s1, s2]) m.fr ∧ InTb w (.agg #[s3]) m.tb := by
  obtain ⟨x1, x2, x3, e, h1, h2⟩ := h
  simp at e
  rw [e.1, e.2.1, e.2.2]; exact ⟨h1, h2⟩
def sm_Machine (m : MaD) : Prop := m.fr.cells.length + cntRows m.fr.cells + m.fr.used.length + m.tb.length ≤ 1048576
theorem sm_Machine.fr {m : MaD} (h : sm_Machine m) : sm_Frames m.fr := by unfold sm_Machine at h; unfold sm_Frames; omega
theorem sm_Machine.tb {m : MaD} (h : sm_Machine m) : m.tb.length ≤ 1048576 := by unfold sm_Machine at h; omega
def cnt_Machine (m : MaD) : Nat := cnt_Frames m.fr + 2 * m.tb.length
def mkMa (k : Int) (m : MaD) : MaD := ⟨mkFr k m.fr, markEnts (k + cnt_Frames m.fr) m.tb.length⟩
def mk_Machine (m : MaD) : MaD := mkMa 1 m
theorem szMachine_any (v : Value) (m : MaD) (left : Int) (w : World) (h : InMa w v m) (h0 : 0 ≤ left) (h1 : left ≤ 1048576) :
    Calls Try.prog 11 #[v, .int .i64 left] w fun e w' => ∃ s, e = .returned (.int .i64 s) ∧ -1 ≤ s ∧ (0 ≤ s → s + m.fr.cells.length + cntRows m.fr.cells + m.fr.used.length + m.tb.length = left) ∧ Keep w w' := by
  obtain ⟨a1, c1, a2, c2, a3, c3, rfl, h⟩ := h.opened
  obtain ⟨hf, ht⟩ := h.parts
  clear h
  go_enter Try.func11, Try.ntmps11
  go_wp2_with fail
  refine (szFrames_any _ _ _ _ (hf.keep ((Chg.refl 0 0 w).alloc _)) h0 h1).mono ?_
  rintro e w1 ⟨s, rfl, hs0, hs, k1⟩
  have q1 : Keep w w1 := Chg.keep ((Chg.refl 0 0 w).alloc _) k1
  have bA := (Blk.new w 30 #[.slice a1 m.fr.cells.length c1, .slice a2 m.fr.used.length c2, .slice a3 m.tb.length c3]).keep k1
  have cA := bA.cell 2
  clear bA
  by_cases hx : s < 0
  · go_wp2_with fail
    go_ret
    exact ⟨_, rfl, by omega, by omega, q1⟩
  · have hs := hs (by omega)
    go_wp2_with fail
    refine (szTable_any _ _ _ _ (ht.keep q1) (by omega) (by omega)).mono ?_
    rintro e w2 ⟨rfl, k2⟩
    by_cases hy : szZ s m.tb.length < 0
    · go_wp2_with fail
      go_ret
      exact ⟨_, rfl, by omega, by omega, q1.keep k2⟩
    · have hz : szZ s m.tb.length + m.tb.length = s := by unfold szZ at *; split <;> rename_i hq <;> simp [hq] at hy ⊢
      go_wp2_with fail
      go_ret
      exact ⟨_, rfl, by omega, by omega, q1.keep k2⟩
theorem sz_Machine {t : MaD} (v : Value) (w : World) (h : InMa w v t) : Calls Try.prog 11 #[v, .int .i64 1048576] w fun e w' => ∃ s, e = .returned (.int .i64 s) ∧ (0 ≤ s → sm_Machine t) ∧ Keep w w' :=
  (szMachine_any v t _ w h (by omega) (by omega)).mono fun e w' ⟨s, he, h0, h1, hk⟩ => ⟨s, he, fun hs => by have := h1 hs; unfold sm_Machine; omega, hk⟩
theorem to_Machine {t : MaD} (v : Value) (w : World) (h : InMa w v t) (hs : sm_Machine t) : Calls Try.prog 13 #[v] w fun e w' => ∃ v', e = .returned v' ∧ MA w.heap.size w'.heap.size w' v' t ∧ Keep w w' := by
  obtain ⟨a1, c1, a2, c2, a3, c3, rfl, h⟩ := h.opened
  obtain ⟨hf, ht⟩ := h.parts
  clear h
  go_enter Try.func13, Try.ntmps13
  go_wp2_with fail
  refine (toFrames_any _ _ _ (hf.keep (by repeat (first | exact Chg.refl _ _ _ | apply Chg.alloc))) hs.fr).mono ?_
  rintro e w1 ⟨v1, rfl, h1, k1⟩
  have bA := ((Blk.new w 30 #[.slice a1 t.fr.cells.length c1, .slice a2 t.fr.used.length c2, .slice a3 t.tb.length c3]).keep (((Chg.refl 0 0 _).alloc (.cells #[.slice none 0 0, .slice none 0 0, .slice none 0 0] 39 (0, 0))).alloc (.cells #[.slice none 0 0, .slice none 0 0, .slice none 0 0] 39 (0, 0)))).keep k1
  have bR := ((blk1 w (.cells #[.slice a1 t.fr.cells.length c1, .slice a2 t.fr.used.length c2, .slice a3 t.tb.length c3] 30 (0, 0)) 39 #[.slice none 0 0, .slice none 0 0, .slice none 0 0]).keep ((Chg.refl 0 0 _).alloc (.cells #[.slice none 0 0, .slice none 0 0, .slice none 0 0] 39 (0, 0)))).keep k1
  have bO := (blk2 w (.cells #[.slice a1 t.fr.cells.length c1, .slice a2 t.fr.used.length c2, .slice a3 t.tb.length c3] 30 (0, 0)) (.cells #[.slice none 0 0, .slice none 0 0, .slice none 0 0] 39 (0, 0)) 39 #[.slice none 0 0, .slice none 0 0, .slice none 0 0]).keep k1
  have q1 : Keep w w1 := Chg.keep (by repeat (first | exact Chg.refl _ _ _ | apply Chg.alloc)) k1
  obtain ⟨b1, d1, b2, d2, rfl, h1⟩ := h1.slices
  have hz := k1.size
  simp only [size_alloc] at h1 hz
  have cA := bA.cell 2
  have cO := bO.cell 0
  have cO1 := bO.cell 1
  have fO := bO.frozen 0
  have fO1 := bO.frozen 1
  have lO := bO.lt
  clear bA k1
  go_wp2_with fail
  have q2 := (q1.set (w.heap.size + 1 + 1) 0 (.slice b1 t.fr.cells.length d1) (.inr (by omega))).set (w.heap.size + 1 + 1) 1 (.slice b2 t.fr.used.length d2) (.inr (by omega))
  refine (toTable_any _ _ _ (ht.keep q2) hs.tb).mono ?_
  rintro e w2 ⟨v2, rfl, h2, k2⟩
  replace bO := ((bO.set_ 0 (.slice b1 t.fr.cells.length d1)).set_ 1 (.slice b2 t.fr.used.length d2)).keep k2
  replace bR := ((bR.far (p := ⟨w.heap.size + 1 + 1, 0, none⟩) (by simp) (.slice b1 t.fr.cells.length d1)).far (p := ⟨w.heap.size + 1 + 1, 1, none⟩) (by simp) (.slice b2 t.fr.used.length d2)).keep k2
  replace q1 := q2.keep k2
  replace h1 := (h1.mv (l := w.heap.size) (h := w.heap.size + 3) (((Chg.refl _ _ w1).set (w.heap.size + 1 + 1) 0 (.slice b1 t.fr.cells.length d1) (.inl ⟨by omega, by omega⟩)).set (w.heap.size + 1 + 1) 1 (.slice b2 t.fr.used.length d2) (.inl ⟨by omega, by omega⟩)) (by omega)).keep k2
  obtain ⟨b3, d3, rfl, h2'⟩ := h2.opened
  have hz2 := k2.size
  simp only [World.setCell, Array.size_modify] at hz2 h2'
  replace cO := bO.cell 0
  replace cO1 := bO.cell 1
  have cO2 := bO.cell 2
  replace fO := bO.frozen 2
  replace lO := bO.lt
  have cR := bR.cell 0
  have cR1 := bR.cell 1
  have cR2 := bR.cell 2
  have fR := bR.frozen 0
  have fR1 := bR.frozen 1
  have fR2 := bR.frozen 2
  have lR := bR.lt
  clear k2 cA fO1
  go_wp2_with fail
  refine bodyPost_ret (v := .agg #[.slice b1 t.fr.cells.length d1, .slice b2 t.fr.used.length d2, .slice b3 t.tb.length d3]) (by simp [results, Try.results13, go_sem, cR, cR1, cR2, lR, lO]) rfl ⟨_, rfl, MA.mk ?_ ?_, ?_⟩
  · exact (h1.mv (l := w.heap.size) (h := w.heap.size + 3) (by repeat (first | exact Chg.refl _ _ _ | (refine Chg.set ?_ _ _ _ (.inl ⟨by omega, by omega⟩)))) (by omega)).wide (by omega) (by simpa [World.setCell] using hz2)
  · exact (h2'.mv (l := w.heap.size) (h := w.heap.size + 3) (by repeat (first | exact Chg.refl _ _ _ | (refine Chg.set ?_ _ _ _ (.inl ⟨by omega, by omega⟩)))) (by omega)).wide (by omega) (by simp [World.setCell])
  · exact (by repeat (first | exact q1 | (refine Chg.set ?_ _ _ _ (.inr (by omega)))))
theorem eq_Machine {l1 h1 l2 h2 : Nat} {t : MaD} (v u : Value) (w : World) (x : MA l1 h1 w v t) (y : MA l2 h2 w u t) (hs : sm_Machine t) :
    Calls Try.prog 16 #[v, u] w fun e w' => e = .returned (.bool true) ∧ Keep w w' := by
  obtain ⟨a1, c1, a2, c2, a3, c3, rfl, x1, x2⟩ := x.slices
  obtain ⟨b1, d1, b2, d2, b3, d3, rfl, y1, y2⟩ := y.slices
  go_enter Try.func16, Try.ntmps16
  go_wp2_with fail
  refine (eqFrames_same _ _ _ (x1.keep (by repeat (first | exact Chg.refl _ _ _ | apply Chg.alloc))) (y1.keep (by repeat (first | exact Chg.refl _ _ _ | apply Chg.alloc))) hs.fr).mono ?_
  rintro e w1 ⟨rfl, k1⟩
  have bA := ((Blk.new w 39 #[.slice a1 t.fr.cells.length c1, .slice a2 t.fr.used.length c2, .slice a3 t.tb.length c3]).keep ((Chg.refl 0 0 _).alloc (.cells #[.slice b1 t.fr.cells.length d1, .slice b2 t.fr.used.length d2, .slice b3 t.tb.length d3] 39 (0, 0)))).keep k1
  have bB := (blk1 w (.cells #[.slice a1 t.fr.cells.length c1, .slice a2 t.fr.used.length c2, .slice a3 t.tb.length c3] 39 (0, 0)) 39 #[.slice b1 t.fr.cells.length d1, .slice b2 t.fr.used.length d2, .slice b3 t.tb.length d3]).keep k1
  have q1 : Keep w w1 := Chg.keep (by repeat (first | exact Chg.refl _ _ _ | apply Chg.alloc)) k1
  have cA := bA.cell 2
  have cB := bB.cell 2
  clear bA bB k1
  go_wp2_with fail
  refine (eqTable_same _ _ _ ⟨_, rfl, x2.keep q1⟩ ⟨_, rfl, y2.keep q1⟩ (by have := hs.tb; omega)).mono ?_
  rintro e w2 ⟨rfl, k2⟩
  go_wp2_with fail
  go_ret
  exact ⟨rfl, q1.keep k2⟩
theorem markMachine_any {lo hi : Nat} {t : MaD} (v : Value) (k0 : Int) (w : World) (h : MA lo hi w v t) (hhi : hi ≤ w.heap.size) (hs : sm_Machine t) (hk0 : 0 ≤ k0) (hk1 : k0 ≤ 10000000) :
    Calls Try.prog 17 #[v, .int .i64 k0] w fun e w' => e = .returned (.int .i64 (k0 + (cnt_Machine t : Int))) ∧ MA lo hi w' v (mkMa k0 t) ∧ Chg lo hi w w' := by
  have hb : cnt_Frames t.fr ≤ 1048576 := by have := hs.fr; unfold sm_Frames at this; unfold cnt_Frames; omega
  have htb := hs.tb
  have HC := Lib.hid (show ((cnt_Machine t : Nat) : Int) = (cnt_Frames t.fr : Int) + (2 * (t.tb.length : Int)) by unfold cnt_Machine; omega)
  obtain ⟨a1, c1, a2, c2, a3, c3, rfl, x1, x2⟩ := h.slices
  go_enter Try.func17, Try.ntmps17
  go_wp2_with fail
  refine (markFrames_any _ _ _ (x1.keep ((Chg.refl 0 0 w).alloc _)) (by rw [size_alloc]; omega) hs.fr hk0 hk1).mono ?_
  rintro e w1 ⟨rfl, y1, n1, k1⟩
  have bA := (Blk.new w 39 #[.slice a1 t.fr.cells.length c1, .slice a2 t.fr.used.length c2, .slice a3 t.tb.length c3]).mv k1 (by omega)
  have q1 : Chg lo hi w w1 := ((Chg.refl lo hi w).alloc _).trans k1
  have m1 : KeepNot [3, 4] w w1 := (KeepNot.of_keep ((Chg.refl 0 0 w).alloc _)).trans n1
  have y2 : SE lo hi w1 _ _ := Rw.keepNot x2 m1 (by decide)
  have hz := k1.size
  rw [size_alloc] at hz
  have cA := bA.cell 2
  clear bA k1 n1
  go_wp2_with fail
  refine (markTable_any _ _ _ ⟨_, rfl, y2⟩ (by omega) (by omega) (by omega) (by omega)).mono ?_
  rintro e w2 ⟨rfl, ⟨s3, e3, z3⟩, n2, k2⟩
  simp at e3
  subst e3
  obtain ⟨p1, p2⟩ := y1.parts
  have z1 : FR lo hi w2 _ _ := FR.mk (p1.keepNot n2 (by decide) (by decide)) (p2.keepNot n2 (by decide))
  go_wp2_with fail
  go_ret
  refine ⟨by rw [HC.out, ← Int.add_assoc]; rfl, MA.mk z1 z3, q1.trans k2⟩
theorem mark_Machine {lo hi : Nat} {t : MaD} (v : Value) (w : World) (h : MA lo hi w v t) (hhi : hi ≤ w.heap.size) (hs : sm_Machine t) :
    Calls Try.prog 17 #[v, .int .i64 1] w fun e w' => e = .returned (.int .i64 (1 + (cnt_Machine t : Int))) ∧ MA lo hi w' v (mk_Machine t) ∧ Chg lo hi w w' := markMachine_any v 1 w h hhi hs (by omega) (by omega)
theorem heldMachine_any {lo hi : Nat} {t : MaD} (v : Value) (k0 : Int) (w : World) (h : MA lo hi w v (mkMa k0 t)) (hs : sm_Machine t) (hk0 : 0 ≤ k0) (hk1 : k0 ≤ 10000000) :
    Calls Try.prog 28 #[v, .int .i64 k0] w fun e w' => e = .returned (.int .i64 (k0 + (cnt_Machine t : Int))) ∧ Keep w w' := by
  have hb : cnt_Frames t.fr ≤ 1048576 := by have := hs.fr; unfold sm_Frames at this; unfold cnt_Frames; omega
  have htb := hs.tb
  have HC := Lib.hid (show ((cnt_Machine t : Nat) : Int) = (cnt_Frames t.fr : Int) + (2 * (t.tb.length : Int)) by unfold cnt_Machine; omega)
  obtain ⟨s1, s2, s3, rfl, x1, x2⟩ := h
  have x1' := x1
  obtain ⟨a1, c1, a2, c2, e, _⟩ := x1'.slices
  obtain ⟨a3, c3, rfl, _, x2⟩ := x2.slice
  simp at e
  obtain ⟨rfl, rfl⟩ := e
  go_enter Try.func28, Try.ntmps28
  go_wp2_with fail
  refine (heldFrames_any _ _ _ (x1.keep ((Chg.refl 0 0 w).alloc _)) hs.fr hk0 hk1).mono ?_
  rintro e w1 ⟨rfl, k1⟩
  have bA := (Blk.new w 39 #[.slice a1 (mkMa k0 t).fr.cells.length c1, .slice a2 (mkMa k0 t).fr.used.length c2, .slice a3 (mkMa k0 t).tb.length c3]).keep k1
  have q1 : Keep w w1 := Chg.keep ((Chg.refl 0 0 w).alloc _) k1
  have cA := bA.cell 2
  clear bA k1
  go_wp2_with fail
  refine (heldTable_any _ _ _ ⟨_, rfl, x2.keep q1⟩ (by omega) (by omega) (by omega)).mono ?_
  rintro e w2 ⟨rfl, k2⟩
  go_wp2_with fail
  go_ret
  refine ⟨by rw [HC.out, ← Int.add_assoc]; rfl, q1.keep k2⟩
theorem held_Machine {lo hi : Nat} {t : MaD} (v : Value) (w : World) (h : MA lo hi w v (mk_Machine t)) (hs : sm_Machine t) :
    Calls Try.prog 28 #[v, .int .i64 1] w fun e w' => e = .returned (.int .i64 (1 + (cnt_Machine t : Int))) ∧ Keep w w' := heldMachine_any v 1 w h hs (by omega) (by omega)
end Go.Proofs.Ytkcoehkfhffjkaa
