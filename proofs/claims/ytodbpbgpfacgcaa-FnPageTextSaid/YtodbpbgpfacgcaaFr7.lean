/- FrameGive and FrameWrite of both. Printed by wip/tools/mk_fr7.py. -/
import Derived.Test.YtodbpbgpfacgcaaFr6
import Derived.BigRegion
namespace Go.Proofs.Ytodbpbgpfacgcaa
open Go.ChangeShapes Go.WideShapes Go.ChangeAt Go.RowKit
set_option linter.unusedSimpArgs false
set_option linter.unusedVariables false
set_option maxRecDepth 100000

theorem giveD_no {f : FrD} {i : Int} (h : isB f i = false) : giveD f i = f := by unfold giveD; rw [h]; rfl
theorem giveD_yes {f : FrD} {i : Int} (h : isB f i = true) : giveD f i = ⟨f.cells.set i.toNat zrow, f.used.set i.toNat false⟩ := by unfold giveD; rw [if_pos h]
theorem writeOk_no1 {f : FrD} {i k v : Int} (h : isB f i = false) : writeOk f i k v = false := by unfold writeOk; rw [h]; rfl
theorem writeOk_no2 {f : FrD} {i k v : Int} (h : btw k 0 15 = false) : writeOk f i k v = false := by unfold writeOk; rw [h]; simp
theorem writeOk_no3 {f : FrD} {i k v : Int} (h : btw v 0 999 = false) : writeOk f i k v = false := by unfold writeOk; rw [h]; simp
theorem writeOk_yes {f : FrD} {i k v : Int} (h1 : isB f i = true) (h2 : btw k 0 15 = true) (h3 : btw v 0 999 = true) : writeOk f i k v = true := by unfold writeOk; rw [h1, h2, h3]; rfl
theorem writeD_no {f : FrD} {i k v : Int} (h : writeOk f i k v = false) : writeD f i k v = f := by unfold writeD; rw [h]; rfl
theorem writeD_yes {f : FrD} {i k v : Int} (h : writeOk f i k v = true) : writeD f i k v = ⟨f.cells.set i.toNat ((f.cells.getD i.toNat []).set k.toNat v), f.used⟩ := by unfold writeD; rw [if_pos h]
theorem z16d_SI (w : World) : SI w.heap.size (w.heap.size + 1) ((w.alloc (.cells z16 3 (0, 0))).drew) (.slice (some ⟨w.heap.size, 0, none⟩) 16 16) zrow := (SI.z16 w).keep ((Chg.refl 0 0 _).drew)
theorem size_set (w : World) (p : Addr) (v : Value) : (w.setCell p v).heap.size = w.heap.size := by simp [World.setCell]
/-- A new block laid behind three stores, or ahead of them. -/
theorem comm3 {w : World} (o : Obj) {g1 i1 g2 i2 g3 i3 : Nat} {v1 v2 v3 : Value} (h1 : g1 < w.heap.size) (h2 : g2 < w.heap.size) (h3 : g3 < w.heap.size) :
    (((w.setCell ⟨g1, i1, none⟩ v1).setCell ⟨g2, i2, none⟩ v2).setCell ⟨g3, i3, none⟩ v3).alloc o = (((w.alloc o).setCell ⟨g1, i1, none⟩ v1).setCell ⟨g2, i2, none⟩ v2).setCell ⟨g3, i3, none⟩ v3 := by
  rw [World.setCell_alloc_past (w := w) o g1 i1 v1 h1, World.setCell_alloc_past (w := w.setCell ⟨g1, i1, none⟩ v1) o g2 i2 v2 (by rw [size_set]; exact h2), World.setCell_alloc_past (w := (w.setCell ⟨g1, i1, none⟩ v1).setCell ⟨g2, i2, none⟩ v2) o g3 i3 v3 (by rw [size_set, size_set]; exact h3)]
theorem put_end {W3 : World} {o : Obj} {gC i R lo0 lo : Nat} {vz x0 x1 v : Value} {f : FrD} (h : FR lo (W3.heap.size + 1) ((W3.alloc o).setCell ⟨gC, i, none⟩ vz) v f) (hC : gC < W3.heap.size) (hR : R < W3.heap.size) (hlo : R < lo) (h0 : lo0 ≤ lo) :
    FR lo0 (((((W3.setCell ⟨gC, i, none⟩ vz).setCell ⟨R, 0, none⟩ x0).setCell ⟨R, 1, none⟩ x1).alloc o).drew).heap.size (((((W3.setCell ⟨gC, i, none⟩ vz).setCell ⟨R, 0, none⟩ x0).setCell ⟨R, 1, none⟩ x1).alloc o).drew) v f := by
  have h2 := (h.mv (l := R) (h := R + 1) (((Chg.refl _ _ _).set R 0 x0 (.inl ⟨Nat.le_refl _, Nat.lt_succ_self _⟩)).set R 1 x1 (.inl ⟨Nat.le_refl _, Nat.lt_succ_self _⟩)) (by omega)).wide h0 (Nat.le_refl _)
  rw [← comm3 o hC hR hR] at h2
  have h3 := h2.keep ((Chg.refl 0 0 _).drew)
  have e : (((((W3.setCell ⟨gC, i, none⟩ vz).setCell ⟨R, 0, none⟩ x0).setCell ⟨R, 1, none⟩ x1).alloc o).drew).heap.size = W3.heap.size + 1 := by
    show ((((W3.setCell ⟨gC, i, none⟩ vz).setCell ⟨R, 0, none⟩ x0).setCell ⟨R, 1, none⟩ x1).alloc o).heap.size = _
    simp only [size_alloc, size_set]
  rw [e]; exact h3
theorem cntRows_set (rows : List (List Int)) (i : Nat) (r : List Int) (h : r.length = (rows.getD i []).length) : cntRows (rows.set i r) = cntRows rows := by
  induction rows generalizing i with
  | nil => rfl
  | cons a rows ih =>
    cases i with
    | zero => simp [cntRows] at *; omega
    | succ i => have := ih i (by simpa using h); simp [cntRows, this]
theorem sm_set {f : FrD} (h : sm_Frames f) (i : Nat) (r : List Int) (us : List Bool) (hr : r.length = (f.cells.getD i []).length) (hu : us.length = f.used.length) : sm_Frames ⟨f.cells.set i r, us⟩ := by
  unfold sm_Frames at *
  simp only [List.length_set, cntRows_set _ _ _ hr, hu]
  exact h
theorem takeD_sm {f : FrD} (h : sm_Frames f) : sm_Frames (takeD f) := by
  unfold takeD
  split
  · unfold sm_Frames at *; simpa using h
  · exact h
theorem giveD_sm {f : FrD} (h : sm_Frames f) (i : Int) : sm_Frames (giveD f i) := by
  unfold giveD
  split
  · rename_i hb
    obtain ⟨hfo, hi0, hi1, _⟩ := isB_parts hb
    have hu := hfo.used
    exact sm_set h _ _ _ (by rw [(rowOk_iff.1 (hfo.row i.toNat (by omega))).1]; rfl) (by simp)
  · exact h
theorem writeD_sm {f : FrD} (h : sm_Frames f) (i k v : Int) : sm_Frames (writeD f i k v) := by
  unfold writeD
  split
  · exact sm_set h _ _ _ (by simp) rfl
  · exact h
theorem some_blk {g g' : Nat} (h : some (⟨g, 0, none⟩ : Addr) = some ⟨g', 0, none⟩) : g = g' := (Addr.mk.inj (Option.some.inj h)).1
theorem frameGive_any {lo hi : Nat} {f : FrD} (v : Value) (i : Int) (w : World) (h : FR lo hi w v f) (hs : sm_Frames f) :
    Calls Try.prog 24 #[v, .int .i64 i] w fun e w' => ∃ v', e = .returned (.tuple #[v', .bool (isB f i)]) ∧ FR w.heap.size w'.heap.size w' v' (giveD f i) ∧ Keep w w' := by
  have hul : f.used.length ≤ 1048576 := by unfold sm_Frames at hs; omega
  obtain ⟨a1, c1, a2, c2, rfl, h⟩ := h.slices
  go_enter Try.func24, Try.ntmps24
  go_wp2_with fail
  refine (copyFrames_any _ _ (h.keep (by repeat (first | exact Chg.refl _ _ _ | apply Chg.alloc))) hs).mono ?_
  rintro e w1 ⟨v1, rfl, h1, k1⟩
  have bA := ((Blk.new w 27 #[.slice a1 f.cells.length c1, .slice a2 f.used.length c2]).keep ((Chg.refl 0 0 _).alloc (.cells #[.slice none 0 0, .slice none 0 0] 27 (0, 0)))).keep k1
  have bR := (blk1 w (.cells #[.slice a1 f.cells.length c1, .slice a2 f.used.length c2] 27 (0, 0)) 27 #[.slice none 0 0, .slice none 0 0]).keep k1
  have q1 : Keep w w1 := Chg.keep (by repeat (first | exact Chg.refl _ _ _ | apply Chg.alloc)) k1
  obtain ⟨b1, d1, b2, d2, rfl, h1⟩ := h1.slices
  have hz := k1.size
  simp only [size_alloc] at h1 hz
  have HO := Lib.hid h1
  have BA := Lib.hid bA
  have BR := Lib.hid bR
  have cA0 := bA.cell 0
  have cA1 := bA.cell 1
  have lA := bA.lt
  clear bA bR k1 h1
  cases hi : isB f i
  · have HE := Lib.hid hi
    have HD := Lib.hid (giveD_no hi)
    go_wp2_with (go_at_call 58; refine (frameOk_any _ _ _ (h.keep (q1.alloc _)) hs).mono ?_; rw [hi]; rintro e w2 ⟨rfl, k2⟩; have q2 : Keep w1 w2 := Chg.keep ((Chg.refl 0 0 w1).alloc (.cells #[.slice b1 f.cells.length d1, .slice b2 f.used.length d2] 27 (0, 0))) k2; have bA := BA.out.keep q2; have dA0 := bA.cell 0; have dA1 := bA.cell 1; have bR := BR.out.keep q2; have rR0 := bR.frozen 0; have rR1 := bR.frozen 1; have sR0 := bR.cell 0; have sR1 := bR.cell 1; have lR := bR.lt; have bO := (Blk.new w1 27 #[.slice b1 f.cells.length d1, .slice b2 f.used.length d2]).keep k2; have cO0 := bO.cell 0; have cO1 := bO.cell 1; have lO := bO.lt; have lA2 := bA.lt; clear bA bR bO)
    refine bodyPost_ret (v := .tuple #[.agg #[.slice b1 f.cells.length d1, .slice b2 f.used.length d2], .bool false]) (by simp [results, Try.results24, go_sem, sR0, sR1, lR]) rfl ⟨_, by rw [HE.out], ?_, ?_⟩
    · rw [HD.out]
      exact (((HO.out.keep q2).mv (l := w.heap.size) (h := w.heap.size + 2) (by repeat (first | exact Chg.refl _ _ _ | (refine Chg.set ?_ _ _ _ (.inl ⟨by omega, by omega⟩)))) (by omega)).wide (by omega) (by simp; omega))
    · exact (by repeat (first | exact q1.keep q2 | (refine Chg.set ?_ _ _ _ (.inr (by omega)))))

  · have HD := Lib.hid (giveD_yes hi)
    have HY := Lib.hid hi
    obtain ⟨hfo, hi0, hi1, _⟩ := isB_parts hi
    have hul2 := hfo.used
    have hltU : i.toNat < f.used.length := by omega
    have hltC : i.toNat < f.cells.length := by omega
    have hlt : i < f.cells.length := by omega
    have hltu : i < f.used.length := by omega
    obtain ⟨gU, rfl, _⟩ := HO.out.usedFull i.toNat hltU
    obtain ⟨gC, _, _, rfl, _⟩ := HO.out.rowFull i.toNat hltC
    have hmk := run_z16
    clear hfo hul2
    go_wp2_with (go_at_call 58; refine (frameOk_any _ _ _ (h.keep (q1.alloc _)) hs).mono ?_; rw [hi]; rintro e w2 ⟨rfl, k2⟩; have q2 : Keep w1 w2 := Chg.keep ((Chg.refl 0 0 w1).alloc (.cells #[.slice (some ⟨gC, 0, none⟩) f.cells.length d1, .slice (some ⟨gU, 0, none⟩) f.used.length d2] 27 (0, 0))) k2; have bA := BA.out.keep q2; have dA0 := bA.cell 0; have dA1 := bA.cell 1; have bR := BR.out.keep q2; have rR0 := bR.frozen 0; have rR1 := bR.frozen 1; have sR0 := bR.cell 0; have sR1 := bR.cell 1; have lR := bR.lt; have bO := (Blk.new w1 27 #[.slice (some ⟨gC, 0, none⟩) f.cells.length d1, .slice (some ⟨gU, 0, none⟩) f.used.length d2]).keep k2; have cO0 := bO.cell 0; have cO1 := bO.cell 1; have lO := bO.lt; have lA2 := bA.lt; clear bA bR bO; obtain ⟨gZ, e9, gU0, gU1, gU2, cO, fO, hst⟩ := (HO.out.keep q2).usedFull i.toNat hltU; obtain rfl : gU = gZ := some_blk e9; obtain ⟨gY, rb, rd, e8, gC0, gC1, gC2, cC, fC, hst2⟩ := (hst false).rowFull i.toNat hltC; obtain rfl : gC = gY := some_blk e8; have HST := Lib.hid hst2; clear hst hst2 e8 e9; have lw : (w2.setCell ⟨gU, i.toNat, none⟩ (.bool false)).heap.size = w2.heap.size := (by simp [World.setCell]); have gCl : gC < w2.heap.size := (by rw [lw] at gC2; exact gC2); have LW := Lib.hid lw; clear lw)
    go_region
    all_goals
      go_wp2_with fail
      refine bodyPost_ret (v := .tuple #[.agg #[.slice (some ⟨gC, 0, none⟩) f.cells.length d1, .slice (some ⟨gU, 0, none⟩) f.used.length d2], .bool true]) (by simp [results, Try.results24, go_sem, sR0, sR1, lR]) rfl ⟨_, by rw [HY.out], ?_, ?_⟩
      · rw [HD.out]
        have hz3 := SI.z16 (w2.setCell ⟨gU, i.toNat, none⟩ (.bool false))
        have hfr := HST.out _ _ _ _ _ ((Chg.refl 0 0 _).alloc _) hz3 (by rw [LW.out]; omega) (by rw [LW.out]; omega) (by rw [LW.out]; omega)
        rw [LW.out] at hfr
        exact put_end (lo := w.heap.size + 1 + 1) (by rw [LW.out]; exact hfr) (by rw [LW.out]; omega) (by rw [LW.out]; omega) (by omega) (by omega)
      · refine Chg.drew (Chg.alloc ?_ _)
        exact (by repeat (first | exact q1.keep q2 | (refine Chg.set ?_ _ _ _ (.inr (by omega)))))
theorem frameGive_spec {lo hi : Nat} {f : FrD} (v : Value) (i : Int) (w : World) (h : FR lo hi w v f) (hs : sm_Frames f) :
    Calls Try.prog 36 #[v, .int .i64 i] w fun e w' => ∃ v', e = .returned (.tuple #[v', .bool (isB f i)]) ∧ FR w.heap.size w'.heap.size w' v' (giveD f i) ∧ Keep w w' := by
  have hul : f.used.length ≤ 1048576 := by unfold sm_Frames at hs; omega
  obtain ⟨a1, c1, a2, c2, rfl, h⟩ := h.slices
  go_enter Try.func36, Try.ntmps36
  go_wp2_with fail
  refine (copyFrames_spec _ _ (h.keep (by repeat (first | exact Chg.refl _ _ _ | apply Chg.alloc))) hs).mono ?_
  rintro e w1 ⟨v1, rfl, h1, k1⟩
  have bA := ((Blk.new w 27 #[.slice a1 f.cells.length c1, .slice a2 f.used.length c2]).keep ((Chg.refl 0 0 _).alloc (.cells #[.slice none 0 0, .slice none 0 0] 27 (0, 0)))).keep k1
  have bR := (blk1 w (.cells #[.slice a1 f.cells.length c1, .slice a2 f.used.length c2] 27 (0, 0)) 27 #[.slice none 0 0, .slice none 0 0]).keep k1
  have q1 : Keep w w1 := Chg.keep (by repeat (first | exact Chg.refl _ _ _ | apply Chg.alloc)) k1
  obtain ⟨b1, d1, b2, d2, rfl, h1⟩ := h1.slices
  have hz := k1.size
  simp only [size_alloc] at h1 hz
  have HO := Lib.hid h1
  have BA := Lib.hid bA
  have BR := Lib.hid bR
  have cA0 := bA.cell 0
  have cA1 := bA.cell 1
  have lA := bA.lt
  clear bA bR k1 h1
  cases hi : isB f i
  · have HE := Lib.hid hi
    have HD := Lib.hid (giveD_no hi)
    go_wp2_with (go_at_call 65; refine (frameIs_spec _ _ _ (h.keep (q1.alloc _)) hs).mono ?_; rw [hi]; rintro e w2 ⟨rfl, k2⟩; have q2 : Keep w1 w2 := Chg.keep ((Chg.refl 0 0 w1).alloc (.cells #[.slice b1 f.cells.length d1, .slice b2 f.used.length d2] 27 (0, 0))) k2; have bA := BA.out.keep q2; have dA0 := bA.cell 0; have dA1 := bA.cell 1; have bR := BR.out.keep q2; have rR0 := bR.frozen 0; have rR1 := bR.frozen 1; have sR0 := bR.cell 0; have sR1 := bR.cell 1; have lR := bR.lt; have bO := (Blk.new w1 27 #[.slice b1 f.cells.length d1, .slice b2 f.used.length d2]).keep k2; have cO0 := bO.cell 0; have cO1 := bO.cell 1; have lO := bO.lt; have lA2 := bA.lt; clear bA bR bO)
    refine bodyPost_ret (v := .tuple #[.agg #[.slice b1 f.cells.length d1, .slice b2 f.used.length d2], .bool false]) (by simp [results, Try.results36, go_sem, sR0, sR1, lR]) rfl ⟨_, by rw [HE.out], ?_, ?_⟩
    · rw [HD.out]
      exact (((HO.out.keep q2).mv (l := w.heap.size) (h := w.heap.size + 2) (by repeat (first | exact Chg.refl _ _ _ | (refine Chg.set ?_ _ _ _ (.inl ⟨by omega, by omega⟩)))) (by omega)).wide (by omega) (by simp; omega))
    · exact (by repeat (first | exact q1.keep q2 | (refine Chg.set ?_ _ _ _ (.inr (by omega)))))

  · have HD := Lib.hid (giveD_yes hi)
    have HY := Lib.hid hi
    obtain ⟨hfo, hi0, hi1, _⟩ := isB_parts hi
    have hul2 := hfo.used
    have hltU : i.toNat < f.used.length := by omega
    have hltC : i.toNat < f.cells.length := by omega
    have hlt : i < f.cells.length := by omega
    have hltu : i < f.used.length := by omega
    obtain ⟨gU, rfl, _⟩ := HO.out.usedFull i.toNat hltU
    obtain ⟨gC, _, _, rfl, _⟩ := HO.out.rowFull i.toNat hltC
    have hmk := run_z16
    clear hfo hul2
    go_wp2_with (go_at_call 65; refine (frameIs_spec _ _ _ (h.keep (q1.alloc _)) hs).mono ?_; rw [hi]; rintro e w2 ⟨rfl, k2⟩; have q2 : Keep w1 w2 := Chg.keep ((Chg.refl 0 0 w1).alloc (.cells #[.slice (some ⟨gC, 0, none⟩) f.cells.length d1, .slice (some ⟨gU, 0, none⟩) f.used.length d2] 27 (0, 0))) k2; have bA := BA.out.keep q2; have dA0 := bA.cell 0; have dA1 := bA.cell 1; have bR := BR.out.keep q2; have rR0 := bR.frozen 0; have rR1 := bR.frozen 1; have sR0 := bR.cell 0; have sR1 := bR.cell 1; have lR := bR.lt; have bO := (Blk.new w1 27 #[.slice (some ⟨gC, 0, none⟩) f.cells.length d1, .slice (some ⟨gU, 0, none⟩) f.used.length d2]).keep k2; have cO0 := bO.cell 0; have cO1 := bO.cell 1; have lO := bO.lt; have lA2 := bA.lt; clear bA bR bO; obtain ⟨gZ, e9, gU0, gU1, gU2, cO, fO, hst⟩ := (HO.out.keep q2).usedFull i.toNat hltU; obtain rfl : gU = gZ := some_blk e9; obtain ⟨gY, rb, rd, e8, gC0, gC1, gC2, cC, fC, hst2⟩ := (hst false).rowFull i.toNat hltC; obtain rfl : gC = gY := some_blk e8; have HST := Lib.hid hst2; clear hst hst2 e8 e9; have lw : (w2.setCell ⟨gU, i.toNat, none⟩ (.bool false)).heap.size = w2.heap.size := (by simp [World.setCell]); have gCl : gC < w2.heap.size := (by rw [lw] at gC2; exact gC2); have LW := Lib.hid lw; clear lw)
    go_region
    all_goals
      go_wp2_with fail
      refine bodyPost_ret (v := .tuple #[.agg #[.slice (some ⟨gC, 0, none⟩) f.cells.length d1, .slice (some ⟨gU, 0, none⟩) f.used.length d2], .bool true]) (by simp [results, Try.results36, go_sem, sR0, sR1, lR]) rfl ⟨_, by rw [HY.out], ?_, ?_⟩
      · rw [HD.out]
        have hz3 := SI.z16 (w2.setCell ⟨gU, i.toNat, none⟩ (.bool false))
        have hfr := HST.out _ _ _ _ _ ((Chg.refl 0 0 _).alloc _) hz3 (by rw [LW.out]; omega) (by rw [LW.out]; omega) (by rw [LW.out]; omega)
        rw [LW.out] at hfr
        exact put_end (lo := w.heap.size + 1 + 1) (by rw [LW.out]; exact hfr) (by rw [LW.out]; omega) (by rw [LW.out]; omega) (by omega) (by omega)
      · refine Chg.drew (Chg.alloc ?_ _)
        exact (by repeat (first | exact q1.keep q2 | (refine Chg.set ?_ _ _ _ (.inr (by omega)))))
theorem frameWrite_any {lo hi : Nat} {f : FrD} (v : Value) (i k y : Int) (w : World) (h : FR lo hi w v f) (hs : sm_Frames f) :
    Calls Try.prog 28 #[v, .int .i64 i, .int .i64 k, .int .i64 y] w fun e w' => ∃ v', e = .returned (.tuple #[v', .bool (writeOk f i k y)]) ∧ FR w.heap.size w'.heap.size w' v' (writeD f i k y) ∧ Keep w w' := by
  have hul : f.used.length ≤ 1048576 := by unfold sm_Frames at hs; omega
  obtain ⟨a1, c1, a2, c2, rfl, h⟩ := h.slices
  go_enter Try.func28, Try.ntmps28
  go_wp2_with fail
  refine (copyFrames_any _ _ (h.keep (by repeat (first | exact Chg.refl _ _ _ | apply Chg.alloc))) hs).mono ?_
  rintro e w1 ⟨v1, rfl, h1, k1⟩
  have bA := ((Blk.new w 27 #[.slice a1 f.cells.length c1, .slice a2 f.used.length c2]).keep ((Chg.refl 0 0 _).alloc (.cells #[.slice none 0 0, .slice none 0 0] 27 (0, 0)))).keep k1
  have bR := (blk1 w (.cells #[.slice a1 f.cells.length c1, .slice a2 f.used.length c2] 27 (0, 0)) 27 #[.slice none 0 0, .slice none 0 0]).keep k1
  have q1 : Keep w w1 := Chg.keep (by repeat (first | exact Chg.refl _ _ _ | apply Chg.alloc)) k1
  obtain ⟨b1, d1, b2, d2, rfl, h1⟩ := h1.slices
  have hz := k1.size
  simp only [size_alloc] at h1 hz
  have HO := Lib.hid h1
  have BA := Lib.hid bA
  have BR := Lib.hid bR
  have cA0 := bA.cell 0
  have cA1 := bA.cell 1
  have lA := bA.lt
  clear bA bR k1 h1
  cases hk : btw k 0 15
  · cases hi : isB f i
    all_goals cases hv : btw y 0 999
    all_goals
      have HE := Lib.hid (writeOk_no2 (f := f) (i := i) (v := y) hk)
      have HD := Lib.hid (writeD_no HE.out)
      go_wp2_with (first | (go_at_call 57; refine (cellOk_any _ _).mono ?_; rintro e w2 ⟨rfl, hw⟩; have k2 := k0 hw; clear hw; have q2 : Keep w1 w2 := Chg.keep ((Chg.refl 0 0 w1).alloc (.cells #[.slice b1 f.cells.length d1, .slice b2 f.used.length d2] 27 (0, 0))) k2; have bA := BA.out.keep q2; have dA0 := bA.cell 0; have dA1 := bA.cell 1; have bR := BR.out.keep q2; have rR0 := bR.frozen 0; have rR1 := bR.frozen 1; have sR0 := bR.cell 0; have sR1 := bR.cell 1; have lR := bR.lt; have bO := (Blk.new w1 27 #[.slice b1 f.cells.length d1, .slice b2 f.used.length d2]).keep k2; have cO0 := bO.cell 0; have cO1 := bO.cell 1; have lO := bO.lt; have lA2 := bA.lt; clear bA bR bO))
      refine bodyPost_ret (v := .tuple #[.agg #[.slice b1 f.cells.length d1, .slice b2 f.used.length d2], .bool false]) (by simp [results, Try.results28, go_sem, sR0, sR1, lR]) rfl ⟨_, by rw [HE.out], ?_, ?_⟩
      · rw [HD.out]
        exact (((HO.out.keep q2).mv (l := w.heap.size) (h := w.heap.size + 2) (by repeat (first | exact Chg.refl _ _ _ | (refine Chg.set ?_ _ _ _ (.inl ⟨by omega, by omega⟩)))) (by omega)).wide (by omega) (by simp; omega))
      · exact (by repeat (first | exact q1.keep q2 | (refine Chg.set ?_ _ _ _ (.inr (by omega)))))

  · cases hi : isB f i
    · cases hv : btw y 0 999
      all_goals
        have HE := Lib.hid (writeOk_no1 (k := k) (v := y) hi)
        have HD := Lib.hid (writeD_no HE.out)
        go_wp2_with (first | (go_at_call 58; refine (frameOk_any _ _ _ (h.keep (q1.alloc _)) hs).mono ?_; rw [hi]; rintro e w2 ⟨rfl, k2⟩; have q2 : Keep w1 w2 := Chg.keep ((Chg.refl 0 0 w1).alloc (.cells #[.slice b1 f.cells.length d1, .slice b2 f.used.length d2] 27 (0, 0))) k2; have bA := BA.out.keep q2; have dA0 := bA.cell 0; have dA1 := bA.cell 1; have bR := BR.out.keep q2; have rR0 := bR.frozen 0; have rR1 := bR.frozen 1; have sR0 := bR.cell 0; have sR1 := bR.cell 1; have lR := bR.lt; have bO := (Blk.new w1 27 #[.slice b1 f.cells.length d1, .slice b2 f.used.length d2]).keep k2; have cO0 := bO.cell 0; have cO1 := bO.cell 1; have lO := bO.lt; have lA2 := bA.lt; clear bA bR bO) | (go_at_call 61; refine (between_any _ _ _ _).mono ?_; rintro e w' ⟨rfl, rfl⟩) | (go_at_call 57; refine (cellOk_any _ _).mono ?_; rintro e w' ⟨rfl, rfl⟩))
        refine bodyPost_ret (v := .tuple #[.agg #[.slice b1 f.cells.length d1, .slice b2 f.used.length d2], .bool false]) (by simp [results, Try.results28, go_sem, sR0, sR1, lR]) rfl ⟨_, by rw [HE.out], ?_, ?_⟩
        · rw [HD.out]
          exact (((HO.out.keep q2).mv (l := w.heap.size) (h := w.heap.size + 2) (by repeat (first | exact Chg.refl _ _ _ | (refine Chg.set ?_ _ _ _ (.inl ⟨by omega, by omega⟩)))) (by omega)).wide (by omega) (by simp; omega))
        · exact (by repeat (first | exact q1.keep q2 | (refine Chg.set ?_ _ _ _ (.inr (by omega)))))

    · cases hv : btw y 0 999
      · skip
        have HE := Lib.hid (writeOk_no3 (f := f) (i := i) (k := k) hv)
        have HD := Lib.hid (writeD_no HE.out)
        go_wp2_with (first | (go_at_call 58; refine (frameOk_any _ _ _ (h.keep (q1.alloc _)) hs).mono ?_; rw [hi]; rintro e w2 ⟨rfl, k2⟩; have q2 : Keep w1 w2 := Chg.keep ((Chg.refl 0 0 w1).alloc (.cells #[.slice b1 f.cells.length d1, .slice b2 f.used.length d2] 27 (0, 0))) k2; have bA := BA.out.keep q2; have dA0 := bA.cell 0; have dA1 := bA.cell 1; have bR := BR.out.keep q2; have rR0 := bR.frozen 0; have rR1 := bR.frozen 1; have sR0 := bR.cell 0; have sR1 := bR.cell 1; have lR := bR.lt; have bO := (Blk.new w1 27 #[.slice b1 f.cells.length d1, .slice b2 f.used.length d2]).keep k2; have cO0 := bO.cell 0; have cO1 := bO.cell 1; have lO := bO.lt; have lA2 := bA.lt; clear bA bR bO) | (go_at_call 61; refine (between_any _ _ _ _).mono ?_; rintro e w' ⟨rfl, rfl⟩) | (go_at_call 57; refine (cellOk_any _ _).mono ?_; rintro e w' ⟨rfl, rfl⟩))
        refine bodyPost_ret (v := .tuple #[.agg #[.slice b1 f.cells.length d1, .slice b2 f.used.length d2], .bool false]) (by simp [results, Try.results28, go_sem, sR0, sR1, lR]) rfl ⟨_, by rw [HE.out], ?_, ?_⟩
        · rw [HD.out]
          exact (((HO.out.keep q2).mv (l := w.heap.size) (h := w.heap.size + 2) (by repeat (first | exact Chg.refl _ _ _ | (refine Chg.set ?_ _ _ _ (.inl ⟨by omega, by omega⟩)))) (by omega)).wide (by omega) (by simp; omega))
        · exact (by repeat (first | exact q1.keep q2 | (refine Chg.set ?_ _ _ _ (.inr (by omega)))))

      · have HE := Lib.hid (writeOk_yes hi hk hv)
        have HD := Lib.hid (writeD_yes HE.out)
        obtain ⟨hfo, hi0, hi1, _⟩ := isB_parts hi
        obtain ⟨hk0, hk1⟩ := btw_iff.1 hk
        have hul2 := hfo.used
        have hltC : i.toNat < f.cells.length := by omega
        have hlt : i < f.cells.length := by omega
        have hlt2 : k < 16 := by omega
        have hll := (rowOk_iff.1 (hfo.row i.toNat hltC)).1
        have hltK : k.toNat < (f.cells.getD i.toNat []).length := by omega
        obtain ⟨gC, _, _, rfl, _⟩ := HO.out.rowFull i.toNat hltC
        clear hfo hul2
        go_wp2_with (first | (go_at_call 58; refine (frameOk_any _ _ _ (h.keep (q1.alloc _)) hs).mono ?_; rw [hi]; rintro e w2 ⟨rfl, k2⟩; have q2 : Keep w1 w2 := Chg.keep ((Chg.refl 0 0 w1).alloc (.cells #[.slice (some ⟨gC, 0, none⟩) f.cells.length d1, .slice b2 f.used.length d2] 27 (0, 0))) k2; have bA := BA.out.keep q2; have dA0 := bA.cell 0; have dA1 := bA.cell 1; have bR := BR.out.keep q2; have rR0 := bR.frozen 0; have rR1 := bR.frozen 1; have sR0 := bR.cell 0; have sR1 := bR.cell 1; have lR := bR.lt; have bO := (Blk.new w1 27 #[.slice (some ⟨gC, 0, none⟩) f.cells.length d1, .slice b2 f.used.length d2]).keep k2; have cO0 := bO.cell 0; have cO1 := bO.cell 1; have lO := bO.lt; have lA2 := bA.lt; clear bA bR bO; obtain ⟨gY, gZ, rd, e8, gC0, gC1, gC2, cC, gR0, gR1, gR2, cR, fR, hst⟩ := (HO.out.keep q2).cellFull i.toNat k.toNat hltC hltK; obtain rfl : gC = gY := some_blk e8; have HST := Lib.hid hst; clear hst e8; rw [hll] at cC) | (go_at_call 61; refine (between_any _ _ _ _).mono ?_; rintro e w' ⟨rfl, rfl⟩) | (go_at_call 57; refine (cellOk_any _ _).mono ?_; rintro e w' ⟨rfl, rfl⟩))
        refine bodyPost_ret (v := .tuple #[.agg #[.slice (some ⟨gC, 0, none⟩) f.cells.length d1, .slice b2 f.used.length d2], .bool true]) (by simp [results, Try.results28, go_sem, sR0, sR1, lR]) rfl ⟨_, by rw [HE.out], ?_, ?_⟩
        · rw [HD.out]
          exact (((HST.out y).mv (l := w.heap.size) (h := w.heap.size + 2) (by repeat (first | exact Chg.refl _ _ _ | (refine Chg.set ?_ _ _ _ (.inl ⟨by omega, by omega⟩)))) (by omega)).wide (by omega) (by simp; omega))
        · exact (by repeat (first | exact q1.keep q2 | (refine Chg.set ?_ _ _ _ (.inr (by omega)))))
theorem frameWrite_spec {lo hi : Nat} {f : FrD} (v : Value) (i k y : Int) (w : World) (h : FR lo hi w v f) (hs : sm_Frames f) :
    Calls Try.prog 41 #[v, .int .i64 i, .int .i64 k, .int .i64 y] w fun e w' => ∃ v', e = .returned (.tuple #[v', .bool (writeOk f i k y)]) ∧ FR w.heap.size w'.heap.size w' v' (writeD f i k y) ∧ Keep w w' := by
  have hul : f.used.length ≤ 1048576 := by unfold sm_Frames at hs; omega
  obtain ⟨a1, c1, a2, c2, rfl, h⟩ := h.slices
  go_enter Try.func41, Try.ntmps41
  go_wp2_with fail
  refine (copyFrames_spec _ _ (h.keep (by repeat (first | exact Chg.refl _ _ _ | apply Chg.alloc))) hs).mono ?_
  rintro e w1 ⟨v1, rfl, h1, k1⟩
  have bA := ((Blk.new w 27 #[.slice a1 f.cells.length c1, .slice a2 f.used.length c2]).keep ((Chg.refl 0 0 _).alloc (.cells #[.slice none 0 0, .slice none 0 0] 27 (0, 0)))).keep k1
  have bR := (blk1 w (.cells #[.slice a1 f.cells.length c1, .slice a2 f.used.length c2] 27 (0, 0)) 27 #[.slice none 0 0, .slice none 0 0]).keep k1
  have q1 : Keep w w1 := Chg.keep (by repeat (first | exact Chg.refl _ _ _ | apply Chg.alloc)) k1
  obtain ⟨b1, d1, b2, d2, rfl, h1⟩ := h1.slices
  have hz := k1.size
  simp only [size_alloc] at h1 hz
  have HO := Lib.hid h1
  have BA := Lib.hid bA
  have BR := Lib.hid bR
  have cA0 := bA.cell 0
  have cA1 := bA.cell 1
  have lA := bA.lt
  clear bA bR k1 h1
  cases hi : isB f i
  · cases hk : btw k 0 15
    all_goals cases hv : btw y 0 999
    all_goals
      have HE := Lib.hid (writeOk_no1 (k := k) (v := y) hi)
      have HD := Lib.hid (writeD_no HE.out)
      go_wp2_with (first | (go_at_call 65; refine (frameIs_spec _ _ _ (h.keep (q1.alloc _)) hs).mono ?_; rw [hi]; rintro e w2 ⟨rfl, k2⟩; have q2 : Keep w1 w2 := Chg.keep ((Chg.refl 0 0 w1).alloc (.cells #[.slice b1 f.cells.length d1, .slice b2 f.used.length d2] 27 (0, 0))) k2; have bA := BA.out.keep q2; have dA0 := bA.cell 0; have dA1 := bA.cell 1; have bR := BR.out.keep q2; have rR0 := bR.frozen 0; have rR1 := bR.frozen 1; have sR0 := bR.cell 0; have sR1 := bR.cell 1; have lR := bR.lt; have bO := (Blk.new w1 27 #[.slice b1 f.cells.length d1, .slice b2 f.used.length d2]).keep k2; have cO0 := bO.cell 0; have cO1 := bO.cell 1; have lO := bO.lt; have lA2 := bA.lt; clear bA bR bO) | (go_at_call 54; refine (l01In_any _ _ _ _).mono ?_; rintro e w' ⟨rfl, rfl⟩))
      refine bodyPost_ret (v := .tuple #[.agg #[.slice b1 f.cells.length d1, .slice b2 f.used.length d2], .bool false]) (by simp [results, Try.results41, go_sem, sR0, sR1, lR]) rfl ⟨_, by rw [HE.out], ?_, ?_⟩
      · rw [HD.out]
        exact (((HO.out.keep q2).mv (l := w.heap.size) (h := w.heap.size + 2) (by repeat (first | exact Chg.refl _ _ _ | (refine Chg.set ?_ _ _ _ (.inl ⟨by omega, by omega⟩)))) (by omega)).wide (by omega) (by simp; omega))
      · exact (by repeat (first | exact q1.keep q2 | (refine Chg.set ?_ _ _ _ (.inr (by omega)))))

  · cases hk : btw k 0 15
    · cases hv : btw y 0 999
      all_goals
        have HE := Lib.hid (writeOk_no2 (f := f) (i := i) (v := y) hk)
        have HD := Lib.hid (writeD_no HE.out)
        go_wp2_with (first | (go_at_call 65; refine (frameIs_spec _ _ _ (h.keep (q1.alloc _)) hs).mono ?_; rw [hi]; rintro e w2 ⟨rfl, k2⟩; have q2 : Keep w1 w2 := Chg.keep ((Chg.refl 0 0 w1).alloc (.cells #[.slice b1 f.cells.length d1, .slice b2 f.used.length d2] 27 (0, 0))) k2; have bA := BA.out.keep q2; have dA0 := bA.cell 0; have dA1 := bA.cell 1; have bR := BR.out.keep q2; have rR0 := bR.frozen 0; have rR1 := bR.frozen 1; have sR0 := bR.cell 0; have sR1 := bR.cell 1; have lR := bR.lt; have bO := (Blk.new w1 27 #[.slice b1 f.cells.length d1, .slice b2 f.used.length d2]).keep k2; have cO0 := bO.cell 0; have cO1 := bO.cell 1; have lO := bO.lt; have lA2 := bA.lt; clear bA bR bO) | (go_at_call 54; refine (l01In_any _ _ _ _).mono ?_; rintro e w' ⟨rfl, rfl⟩))
        refine bodyPost_ret (v := .tuple #[.agg #[.slice b1 f.cells.length d1, .slice b2 f.used.length d2], .bool false]) (by simp [results, Try.results41, go_sem, sR0, sR1, lR]) rfl ⟨_, by rw [HE.out], ?_, ?_⟩
        · rw [HD.out]
          exact (((HO.out.keep q2).mv (l := w.heap.size) (h := w.heap.size + 2) (by repeat (first | exact Chg.refl _ _ _ | (refine Chg.set ?_ _ _ _ (.inl ⟨by omega, by omega⟩)))) (by omega)).wide (by omega) (by simp; omega))
        · exact (by repeat (first | exact q1.keep q2 | (refine Chg.set ?_ _ _ _ (.inr (by omega)))))

    · cases hv : btw y 0 999
      · skip
        have HE := Lib.hid (writeOk_no3 (f := f) (i := i) (k := k) hv)
        have HD := Lib.hid (writeD_no HE.out)
        go_wp2_with (first | (go_at_call 65; refine (frameIs_spec _ _ _ (h.keep (q1.alloc _)) hs).mono ?_; rw [hi]; rintro e w2 ⟨rfl, k2⟩; have q2 : Keep w1 w2 := Chg.keep ((Chg.refl 0 0 w1).alloc (.cells #[.slice b1 f.cells.length d1, .slice b2 f.used.length d2] 27 (0, 0))) k2; have bA := BA.out.keep q2; have dA0 := bA.cell 0; have dA1 := bA.cell 1; have bR := BR.out.keep q2; have rR0 := bR.frozen 0; have rR1 := bR.frozen 1; have sR0 := bR.cell 0; have sR1 := bR.cell 1; have lR := bR.lt; have bO := (Blk.new w1 27 #[.slice b1 f.cells.length d1, .slice b2 f.used.length d2]).keep k2; have cO0 := bO.cell 0; have cO1 := bO.cell 1; have lO := bO.lt; have lA2 := bA.lt; clear bA bR bO) | (go_at_call 54; refine (l01In_any _ _ _ _).mono ?_; rintro e w' ⟨rfl, rfl⟩))
        refine bodyPost_ret (v := .tuple #[.agg #[.slice b1 f.cells.length d1, .slice b2 f.used.length d2], .bool false]) (by simp [results, Try.results41, go_sem, sR0, sR1, lR]) rfl ⟨_, by rw [HE.out], ?_, ?_⟩
        · rw [HD.out]
          exact (((HO.out.keep q2).mv (l := w.heap.size) (h := w.heap.size + 2) (by repeat (first | exact Chg.refl _ _ _ | (refine Chg.set ?_ _ _ _ (.inl ⟨by omega, by omega⟩)))) (by omega)).wide (by omega) (by simp; omega))
        · exact (by repeat (first | exact q1.keep q2 | (refine Chg.set ?_ _ _ _ (.inr (by omega)))))

      · have HE := Lib.hid (writeOk_yes hi hk hv)
        have HD := Lib.hid (writeD_yes HE.out)
        obtain ⟨hfo, hi0, hi1, _⟩ := isB_parts hi
        obtain ⟨hk0, hk1⟩ := btw_iff.1 hk
        have hul2 := hfo.used
        have hltC : i.toNat < f.cells.length := by omega
        have hlt : i < f.cells.length := by omega
        have hlt2 : k < 16 := by omega
        have hll := (rowOk_iff.1 (hfo.row i.toNat hltC)).1
        have hltK : k.toNat < (f.cells.getD i.toNat []).length := by omega
        obtain ⟨gC, _, _, rfl, _⟩ := HO.out.rowFull i.toNat hltC
        clear hfo hul2
        go_wp2_with (first | (go_at_call 65; refine (frameIs_spec _ _ _ (h.keep (q1.alloc _)) hs).mono ?_; rw [hi]; rintro e w2 ⟨rfl, k2⟩; have q2 : Keep w1 w2 := Chg.keep ((Chg.refl 0 0 w1).alloc (.cells #[.slice (some ⟨gC, 0, none⟩) f.cells.length d1, .slice b2 f.used.length d2] 27 (0, 0))) k2; have bA := BA.out.keep q2; have dA0 := bA.cell 0; have dA1 := bA.cell 1; have bR := BR.out.keep q2; have rR0 := bR.frozen 0; have rR1 := bR.frozen 1; have sR0 := bR.cell 0; have sR1 := bR.cell 1; have lR := bR.lt; have bO := (Blk.new w1 27 #[.slice (some ⟨gC, 0, none⟩) f.cells.length d1, .slice b2 f.used.length d2]).keep k2; have cO0 := bO.cell 0; have cO1 := bO.cell 1; have lO := bO.lt; have lA2 := bA.lt; clear bA bR bO; obtain ⟨gY, gZ, rd, e8, gC0, gC1, gC2, cC, gR0, gR1, gR2, cR, fR, hst⟩ := (HO.out.keep q2).cellFull i.toNat k.toNat hltC hltK; obtain rfl : gC = gY := some_blk e8; have HST := Lib.hid hst; clear hst e8; rw [hll] at cC) | (go_at_call 54; refine (l01In_any _ _ _ _).mono ?_; rintro e w' ⟨rfl, rfl⟩))
        refine bodyPost_ret (v := .tuple #[.agg #[.slice (some ⟨gC, 0, none⟩) f.cells.length d1, .slice b2 f.used.length d2], .bool true]) (by simp [results, Try.results41, go_sem, sR0, sR1, lR]) rfl ⟨_, by rw [HE.out], ?_, ?_⟩
        · rw [HD.out]
          exact (((HST.out y).mv (l := w.heap.size) (h := w.heap.size + 2) (by repeat (first | exact Chg.refl _ _ _ | (refine Chg.set ?_ _ _ _ (.inl ⟨by omega, by omega⟩)))) (by omega)).wide (by omega) (by simp; omega))
        · exact (by repeat (first | exact q1.keep q2 | (refine Chg.set ?_ _ _ _ (.inr (by omega)))))
end Go.Proofs.Ytodbpbgpfacgcaa
