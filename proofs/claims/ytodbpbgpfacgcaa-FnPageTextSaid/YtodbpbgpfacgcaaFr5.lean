/- The frames' functions: which frame is used, reading a cell, counting. Printed by wip/tools/mk_fr5.py. -/
import Derived.Test.YtodbpbgpfacgcaaFr4
namespace Go.Proofs.Ytodbpbgpfacgcaa
open Go.ChangeShapes Go.WideShapes Go.ChangeAt Go.RowKit
set_option linter.unusedSimpArgs false
set_option linter.unusedVariables false

theorem FR.slices {lo hi : Nat} {w : World} {v : Value} {f : FrD} (h : FR lo hi w v f) : ∃ a1 c1 a2 c2, v = .agg #[.slice a1 f.cells.length c1, .slice a2 f.used.length c2] ∧ FR lo hi w (.agg #[.slice a1 f.cells.length c1, .slice a2 f.used.length c2]) f := by
  obtain ⟨a1, c1, a2, c2, rfl, _⟩ := h.opened
  exact ⟨a1, c1, a2, c2, rfl, h⟩
/-- A mark's cell. -/
theorem FR.usedAt {lo hi : Nat} {w : World} {a1 a2 : Option Addr} {n1 c1 n2 c2 : Nat} {f : FrD} (h : FR lo hi w (.agg #[.slice a1 n1 c1, .slice a2 n2 c2]) f) (j : Nat) (hj : j < f.used.length) :
    ∃ g, a2 = some ⟨g, 0, none⟩ ∧ lo ≤ g ∧ g < hi ∧ g < w.heap.size ∧ w.cell? ⟨g, j, none⟩ = some (.bool (f.used.getD j false)) ∧ w.frozen? ⟨g, j, none⟩ = false := by
  obtain ⟨s1, s2, e, _, h2⟩ := h
  have e2 : s2 = .slice a2 n2 c2 := by simp at e; exact e.2.symm
  subst e2
  obtain ⟨b, d, e3, _, hf⟩ := h2.opened
  obtain ⟨g, rfl, r⟩ := hf j hj
  simp at e3
  exact ⟨g, e3.1, r⟩
/-- A row's cell, and the row. -/
theorem FR.rowAt {lo hi : Nat} {w : World} {a1 a2 : Option Addr} {n1 c1 n2 c2 : Nat} {f : FrD} (h : FR lo hi w (.agg #[.slice a1 n1 c1, .slice a2 n2 c2]) f) (j : Nat) (hj : j < f.cells.length) :
    ∃ g b d, a1 = some ⟨g, 0, none⟩ ∧ lo ≤ g ∧ g < hi ∧ g < w.heap.size ∧ w.cell? ⟨g, j, none⟩ = some (.slice b (f.cells.getD j []).length d) ∧ SI lo hi w (.slice b (f.cells.getD j []).length d) (f.cells.getD j []) := by
  obtain ⟨s1, s2, e, ⟨vs, h1⟩, _⟩ := h
  have e2 : s1 = .slice a1 n1 c1 := by simp at e; exact e.1.symm
  subst e2
  have hr := h1.row j hj
  obtain ⟨bo, d, e4, _, _⟩ := hr.opened
  obtain ⟨b, c, e3, _, hf⟩ := h1.opened
  obtain ⟨g, rfl, x1, x2, x3, x4, _⟩ := hf j hj
  simp at e3
  rw [e4] at x4 hr
  exact ⟨g, bo, d, e3.1, x1, x2, x3, x4, hr⟩
theorem SI.at {lo hi : Nat} {w : World} {b : Option Addr} {n d : Nat} {zs : List Int} (h : SI lo hi w (.slice b n d) zs) (j : Nat) (hj : j < zs.length) : ∃ g, b = some ⟨g, 0, none⟩ ∧ lo ≤ g ∧ g < hi ∧ g < w.heap.size ∧ w.cell? ⟨g, j, none⟩ = some (.int .i64 (zs.getD j 0)) ∧ w.frozen? ⟨g, j, none⟩ = false := by
  obtain ⟨b', d', e, _, hf⟩ := h.opened
  obtain ⟨g, rfl, r⟩ := hf j hj
  simp at e
  exact ⟨g, e.1, r⟩
theorem isB_no1 {f : FrD} {i : Int} (h : btw i 0 ((f.used.length : Int) - 1) = false) : isB f i = false := by unfold isB; rw [h]; simp
theorem isB_no2 {f : FrD} {i : Int} (h : framesOkB f = false) : isB f i = false := by unfold isB; rw [h]; rfl
theorem isB_yes {f : FrD} {i : Int} (h1 : btw i 0 ((f.used.length : Int) - 1) = true) (h2 : framesOkB f = true) : isB f i = f.used.getD i.toNat false := by unfold isB; rw [h1, h2]; simp
theorem frameOk_any {lo hi : Nat} {f : FrD} (v : Value) (i : Int) (w : World) (h : FR lo hi w v f) (hs : sm_Frames f) :
    Calls Try.prog 58 #[v, .int .i64 i] w fun e w' => e = .returned (.bool (isB f i)) ∧ Keep w w' := by
  have hul : f.used.length ≤ 1048576 := by unfold sm_Frames at hs; omega
  obtain ⟨a1, c1, a2, c2, rfl, h⟩ := h.slices
  cases hok : framesOkB f
  · have HE := Lib.hid (isB_no2 (i := i) hok)
    cases hb : btw i 0 ((f.used.length : Int) - 1)
    all_goals
      go_enter Try.func58, Try.ntmps58
      go_wp2_with (first | (go_at_call 61; refine (between_any _ _ _ _).mono ?_; rintro e w' ⟨rfl, rfl⟩) | (go_at_call 26; refine (framesOk_any _ _ (h.keep (by repeat (first | exact Chg.refl _ _ _ | apply Chg.alloc))) hs).mono ?_; rw [hok]; rintro e w1 ⟨rfl, k1⟩; obtain ⟨hc, hfz⟩ := kcell k1))
      go_ret
      exact ⟨by rw [HE.out]; rfl, by repeat (first | exact Chg.refl _ _ _ | apply Chg.alloc | exact Chg.keep (Chg.alloc (Chg.refl _ _ _) _) (by assumption))⟩
  · cases hb : btw i 0 ((f.used.length : Int) - 1)
    · have HE := Lib.hid (isB_no1 hb)
      go_enter Try.func58, Try.ntmps58
      go_wp2_with (first | (go_at_call 61; refine (between_any _ _ _ _).mono ?_; rintro e w' ⟨rfl, rfl⟩) | (go_at_call 26; refine (framesOk_any _ _ (h.keep (by repeat (first | exact Chg.refl _ _ _ | apply Chg.alloc))) hs).mono ?_; rw [hok]; rintro e w1 ⟨rfl, k1⟩; obtain ⟨hc, hfz⟩ := kcell k1))
      go_ret
      exact ⟨by rw [HE.out]; rfl, by repeat (first | exact Chg.refl _ _ _ | apply Chg.alloc | exact Chg.keep (Chg.alloc (Chg.refl _ _ _) _) (by assumption))⟩
    · have HE := Lib.hid (isB_yes hb hok)
      obtain ⟨hi0, hi1⟩ := btw_iff.1 hb
      obtain ⟨g, rfl, _, _, lg, cu, fu⟩ := h.usedAt i.toNat (by omega)
      generalize f.used.getD i.toNat false = u at *
      have hlt : i < f.used.length := by omega
      go_enter Try.func58, Try.ntmps58
      go_wp2_with (first | (go_at_call 61; refine (between_any _ _ _ _).mono ?_; rintro e w' ⟨rfl, rfl⟩) | (go_at_call 26; refine (framesOk_any _ _ (h.keep (by repeat (first | exact Chg.refl _ _ _ | apply Chg.alloc))) hs).mono ?_; rw [hok]; rintro e w1 ⟨rfl, k1⟩; have bx := (Blk.new w 27 #[.slice a1 f.cells.length c1, .slice (some ⟨g, 0, none⟩) f.used.length c2]).keep k1; have lx := bx.lt; have cx0 := bx.cell 0; have cx1 := bx.cell 1; have cu1 := (Keep.grown (Chg.keep ((Chg.refl 0 0 w).alloc _) k1) none).cell cu (by simp); clear bx))
      go_ret
      exact ⟨by rw [HE.out]; rfl, by repeat (first | exact Chg.refl _ _ _ | apply Chg.alloc | exact Chg.keep (Chg.alloc (Chg.refl _ _ _) _) (by assumption))⟩
theorem frameIs_spec {lo hi : Nat} {f : FrD} (v : Value) (i : Int) (w : World) (h : FR lo hi w v f) (hs : sm_Frames f) :
    Calls Try.prog 65 #[v, .int .i64 i] w fun e w' => e = .returned (.bool (isB f i)) ∧ Keep w w' := by
  have hul : f.used.length ≤ 1048576 := by unfold sm_Frames at hs; omega
  obtain ⟨a1, c1, a2, c2, rfl, h⟩ := h.slices
  cases hok : framesOkB f
  · have HE := Lib.hid (isB_no2 (i := i) hok)
    cases hb : btw i 0 ((f.used.length : Int) - 1)
    all_goals
      go_enter Try.func65, Try.ntmps65
      go_wp2_with (first | (go_at_call 54; refine (l01In_any _ _ _ _).mono ?_; rintro e w' ⟨rfl, rfl⟩) | (go_at_call 64; refine (framesOk_spec _ _ (h.keep (by repeat (first | exact Chg.refl _ _ _ | apply Chg.alloc))) hs).mono ?_; rw [hok]; rintro e w1 ⟨rfl, k1⟩; obtain ⟨hc, hfz⟩ := kcell k1))
      go_ret
      exact ⟨by rw [HE.out]; rfl, by repeat (first | exact Chg.refl _ _ _ | apply Chg.alloc | exact Chg.keep (Chg.alloc (Chg.refl _ _ _) _) (by assumption))⟩
  · cases hb : btw i 0 ((f.used.length : Int) - 1)
    · have HE := Lib.hid (isB_no1 hb)
      go_enter Try.func65, Try.ntmps65
      go_wp2_with (first | (go_at_call 54; refine (l01In_any _ _ _ _).mono ?_; rintro e w' ⟨rfl, rfl⟩) | (go_at_call 64; refine (framesOk_spec _ _ (h.keep (by repeat (first | exact Chg.refl _ _ _ | apply Chg.alloc))) hs).mono ?_; rw [hok]; rintro e w1 ⟨rfl, k1⟩; obtain ⟨hc, hfz⟩ := kcell k1))
      go_ret
      exact ⟨by rw [HE.out]; rfl, by repeat (first | exact Chg.refl _ _ _ | apply Chg.alloc | exact Chg.keep (Chg.alloc (Chg.refl _ _ _) _) (by assumption))⟩
    · have HE := Lib.hid (isB_yes hb hok)
      obtain ⟨hi0, hi1⟩ := btw_iff.1 hb
      obtain ⟨g, rfl, _, _, lg, cu, fu⟩ := h.usedAt i.toNat (by omega)
      generalize f.used.getD i.toNat false = u at *
      have hlt : i < f.used.length := by omega
      go_enter Try.func65, Try.ntmps65
      go_wp2_with (first | (go_at_call 54; refine (l01In_any _ _ _ _).mono ?_; rintro e w' ⟨rfl, rfl⟩) | (go_at_call 64; refine (framesOk_spec _ _ (h.keep (by repeat (first | exact Chg.refl _ _ _ | apply Chg.alloc))) hs).mono ?_; rw [hok]; rintro e w1 ⟨rfl, k1⟩; have bx := (Blk.new w 27 #[.slice a1 f.cells.length c1, .slice (some ⟨g, 0, none⟩) f.used.length c2]).keep k1; have lx := bx.lt; have cx0 := bx.cell 0; have cx1 := bx.cell 1; have cu1 := (Keep.grown (Chg.keep ((Chg.refl 0 0 w).alloc _) k1) none).cell cu (by simp); clear bx))
      go_ret
      exact ⟨by rw [HE.out]; rfl, by repeat (first | exact Chg.refl _ _ _ | apply Chg.alloc | exact Chg.keep (Chg.alloc (Chg.refl _ _ _) _) (by assumption))⟩
theorem cellOk_any (k : Int) (w : World) : Calls Try.prog 57 #[.int .i64 k] w fun e w' => e = .returned (.bool (btw k 0 15)) ∧ w = w' := by
  go_enter Try.func57, Try.ntmps57
  go_wp2_with (go_at_call 61; refine (between_any _ _ _ _).mono ?_; rintro e w' ⟨rfl, rfl⟩)
  go_ret
  exact ⟨rfl, rfl⟩
theorem isB_parts {f : FrD} {i : Int} (h : isB f i = true) : FOk f ∧ 0 ≤ i ∧ i < f.used.length ∧ f.used.getD i.toNat false = true := by
  unfold isB at h
  rw [Bool.and_eq_true, Bool.and_eq_true, btw_iff] at h
  exact ⟨framesOk_iff.1 h.1.1, h.1.2.1, by omega, h.2⟩
theorem readOk_no1 {f : FrD} {i k : Int} (h : btw k 0 15 = false) : readOk f i k = false := by unfold readOk; rw [h]; simp
theorem readOk_no2 {f : FrD} {i k : Int} (h : isB f i = false) : readOk f i k = false := by unfold readOk; rw [h]; rfl
theorem readOk_yes {f : FrD} {i k : Int} (h : btw k 0 15 = true) (h2 : isB f i = true) : readOk f i k = true := by unfold readOk; rw [h, h2]; rfl
theorem frameRead_any {lo hi : Nat} {f : FrD} (v : Value) (i k : Int) (w : World) (h : FR lo hi w v f) (hs : sm_Frames f) :
    Calls Try.prog 23 #[v, .int .i64 i, .int .i64 k] w fun e w' => e = .returned (.tuple #[.int .i64 (readD f i k), .bool (readOk f i k)]) ∧ Keep w w' := by
  have hul : f.used.length ≤ 1048576 := by unfold sm_Frames at hs; omega
  obtain ⟨a1, c1, a2, c2, rfl, h⟩ := h.slices
  cases hi : isB f i
  · have HE := Lib.hid (readOk_no2 (k := k) hi)
    cases hk : btw k 0 15
    all_goals
      go_enter Try.func23, Try.ntmps23
      go_wp2_with (first | (go_at_call 57; refine (cellOk_any _ _).mono ?_; rintro e w' ⟨rfl, rfl⟩) | (go_at_call 58; refine (frameOk_any _ _ _ (h.keep (by repeat (first | exact Chg.refl _ _ _ | apply Chg.alloc))) hs).mono ?_; rw [hi]; rintro e w1 ⟨rfl, k1⟩))
      go_ret2
      exact ⟨by unfold readD; rw [HE.out]; rfl, by repeat (first | exact Chg.refl _ _ _ | apply Chg.alloc | exact Chg.keep (Chg.alloc (Chg.refl _ _ _) _) (by assumption))⟩
  · cases hk : btw k 0 15
    · have HE := Lib.hid (readOk_no1 (f := f) (i := i) hk)
      go_enter Try.func23, Try.ntmps23
      go_wp2_with (first | (go_at_call 57; refine (cellOk_any _ _).mono ?_; rintro e w' ⟨rfl, rfl⟩) | (go_at_call 58; refine (frameOk_any _ _ _ (h.keep (by repeat (first | exact Chg.refl _ _ _ | apply Chg.alloc))) hs).mono ?_; rw [hi]; rintro e w1 ⟨rfl, k1⟩))
      go_ret2
      exact ⟨by unfold readD; rw [HE.out]; rfl, by repeat (first | exact Chg.refl _ _ _ | apply Chg.alloc | exact Chg.keep (Chg.alloc (Chg.refl _ _ _) _) (by assumption))⟩
    · have HE := Lib.hid (readOk_yes hk hi)
      obtain ⟨hfo, hi0, hi1, _⟩ := isB_parts hi
      obtain ⟨hk0, hk1⟩ := btw_iff.1 hk
      have hul2 := hfo.used
      have hll := (rowOk_iff.1 (hfo.row i.toNat (by omega))).1
      obtain ⟨g, bo, d, rfl, _, _, lg, cu, hr⟩ := h.rowAt i.toNat (by omega)
      obtain ⟨g2, rfl, _, _, lg2, cv, _⟩ := hr.at k.toNat (by omega)
      have HR := Lib.hid (show readD f i k = (f.cells.getD i.toNat []).getD k.toNat 0 by unfold readD; rw [HE.out]; rfl)
      rw [hll] at cu hr
      generalize (f.cells.getD i.toNat []).getD k.toNat 0 = x at *
      have hlt : i < f.cells.length := by omega
      have hlt2 : k < 16 := by omega
      clear hr hfo hll hul2
      go_enter Try.func23, Try.ntmps23
      go_wp2_with (first | (go_at_call 57; refine (cellOk_any _ _).mono ?_; rintro e w' ⟨rfl, rfl⟩) | (go_at_call 58; refine (frameOk_any _ _ _ (h.keep (by repeat (first | exact Chg.refl _ _ _ | apply Chg.alloc))) hs).mono ?_; rw [hi]; rintro e w1 ⟨rfl, k1⟩; have bx := (Blk.new w 27 #[.slice (some ⟨g, 0, none⟩) f.cells.length c1, .slice a2 f.used.length c2]).keep k1; have lx := bx.lt; have cx0 := bx.cell 0; have cx1 := bx.cell 1; have cu1 := (Keep.grown (Chg.keep ((Chg.refl 0 0 w).alloc _) k1) none).cell cu (by simp); have cv1 := (Keep.grown (Chg.keep ((Chg.refl 0 0 w).alloc _) k1) none).cell cv (by simp); clear bx))
      go_ret2
      exact ⟨by rw [HE.out, HR.out]; rfl, by repeat (first | exact Chg.refl _ _ _ | apply Chg.alloc | exact Chg.keep (Chg.alloc (Chg.refl _ _ _) _) (by assumption))⟩
theorem frameRead_spec {lo hi : Nat} {f : FrD} (v : Value) (i k : Int) (w : World) (h : FR lo hi w v f) (hs : sm_Frames f) :
    Calls Try.prog 29 #[v, .int .i64 i, .int .i64 k] w fun e w' => e = .returned (.tuple #[.int .i64 (readD f i k), .bool (readOk f i k)]) ∧ Keep w w' := by
  have hul : f.used.length ≤ 1048576 := by unfold sm_Frames at hs; omega
  obtain ⟨a1, c1, a2, c2, rfl, h⟩ := h.slices
  cases hi : isB f i
  · have HE := Lib.hid (readOk_no2 (k := k) hi)
    cases hk : btw k 0 15
    all_goals
      go_enter Try.func29, Try.ntmps29
      go_wp2_with (first | (go_at_call 54; refine (l01In_any _ _ _ _).mono ?_; rintro e w' ⟨rfl, rfl⟩) | (go_at_call 65; refine (frameIs_spec _ _ _ (h.keep (by repeat (first | exact Chg.refl _ _ _ | apply Chg.alloc))) hs).mono ?_; rw [hi]; rintro e w1 ⟨rfl, k1⟩))
      go_ret2
      exact ⟨by unfold readD; rw [HE.out]; rfl, by repeat (first | exact Chg.refl _ _ _ | apply Chg.alloc | exact Chg.keep (Chg.alloc (Chg.refl _ _ _) _) (by assumption))⟩
  · cases hk : btw k 0 15
    · have HE := Lib.hid (readOk_no1 (f := f) (i := i) hk)
      go_enter Try.func29, Try.ntmps29
      go_wp2_with (first | (go_at_call 54; refine (l01In_any _ _ _ _).mono ?_; rintro e w' ⟨rfl, rfl⟩) | (go_at_call 65; refine (frameIs_spec _ _ _ (h.keep (by repeat (first | exact Chg.refl _ _ _ | apply Chg.alloc))) hs).mono ?_; rw [hi]; rintro e w1 ⟨rfl, k1⟩))
      go_ret2
      exact ⟨by unfold readD; rw [HE.out]; rfl, by repeat (first | exact Chg.refl _ _ _ | apply Chg.alloc | exact Chg.keep (Chg.alloc (Chg.refl _ _ _) _) (by assumption))⟩
    · have HE := Lib.hid (readOk_yes hk hi)
      obtain ⟨hfo, hi0, hi1, _⟩ := isB_parts hi
      obtain ⟨hk0, hk1⟩ := btw_iff.1 hk
      have hul2 := hfo.used
      have hll := (rowOk_iff.1 (hfo.row i.toNat (by omega))).1
      obtain ⟨g, bo, d, rfl, _, _, lg, cu, hr⟩ := h.rowAt i.toNat (by omega)
      obtain ⟨g2, rfl, _, _, lg2, cv, _⟩ := hr.at k.toNat (by omega)
      have HR := Lib.hid (show readD f i k = (f.cells.getD i.toNat []).getD k.toNat 0 by unfold readD; rw [HE.out]; rfl)
      rw [hll] at cu hr
      generalize (f.cells.getD i.toNat []).getD k.toNat 0 = x at *
      have hlt : i < f.cells.length := by omega
      have hlt2 : k < 16 := by omega
      clear hr hfo hll hul2
      go_enter Try.func29, Try.ntmps29
      go_wp2_with (first | (go_at_call 54; refine (l01In_any _ _ _ _).mono ?_; rintro e w' ⟨rfl, rfl⟩) | (go_at_call 65; refine (frameIs_spec _ _ _ (h.keep (by repeat (first | exact Chg.refl _ _ _ | apply Chg.alloc))) hs).mono ?_; rw [hi]; rintro e w1 ⟨rfl, k1⟩; have bx := (Blk.new w 27 #[.slice (some ⟨g, 0, none⟩) f.cells.length c1, .slice a2 f.used.length c2]).keep k1; have lx := bx.lt; have cx0 := bx.cell 0; have cx1 := bx.cell 1; have cu1 := (Keep.grown (Chg.keep ((Chg.refl 0 0 w).alloc _) k1) none).cell cu (by simp); have cv1 := (Keep.grown (Chg.keep ((Chg.refl 0 0 w).alloc _) k1) none).cell cv (by simp); clear bx))
      go_ret2
      exact ⟨by rw [HE.out, HR.out]; rfl, by repeat (first | exact Chg.refl _ _ _ | apply Chg.alloc | exact Chg.keep (Chg.alloc (Chg.refl _ _ _) _) (by assumption))⟩
theorem cntU_take (us : List Bool) (k : Nat) (h : k < us.length) : cntU (us.take (k + 1)) = cntU (us.take k) + if us.getD k false then 1 else 0 := by
  rw [List.take_succ_eq_append_getElem h]
  unfold cntU
  rw [List.filter_append, List.length_append]
  simp only [List.getD, List.getElem?_eq_getElem h, Option.getD_some]
  cases us[k] <;> simp
theorem cntU_bd (us : List Bool) (k : Nat) : cntU (us.take k) ≤ us.length := by
  unfold cntU
  refine Nat.le_trans (List.length_filter_le _ _) ?_
  simp; omega
theorem usedD_ok {f : FrD} (h : framesOkB f = true) : usedD f = cntU f.used := by unfold usedD cntU; rw [if_pos h]
theorem usedD_no {f : FrD} (h : framesOkB f = false) : usedD f = 0 := by unfold usedD; rw [h]; rfl
theorem usedFrames_any {lo hi : Nat} {f : FrD} (v : Value) (w : World) (h : FR lo hi w v f) (hs : sm_Frames f) :
    Calls Try.prog 16 #[v] w fun e w' => e = .returned (.int .i64 (usedD f)) ∧ Keep w w' := by
  have hul : f.used.length ≤ 1048576 := by unfold sm_Frames at hs; omega
  obtain ⟨a1, c1, a2, c2, rfl, h⟩ := h.slices
  cases hok : framesOkB f
  · have HE := Lib.hid (usedD_no hok)
    go_enter Try.func16, Try.ntmps16
    go_wp2_with (go_at_call 26; refine (framesOk_any _ _ (h.keep (by repeat (first | exact Chg.refl _ _ _ | apply Chg.alloc))) hs).mono ?_; rw [hok]; rintro e w1 ⟨rfl, k1⟩)
    go_ret
    exact ⟨by rw [HE.out]; rfl, by repeat (first | exact Chg.refl _ _ _ | apply Chg.alloc | exact Chg.keep (Chg.alloc (Chg.refl _ _ _) _) (by assumption))⟩
  · have HE := Lib.hid (usedD_ok hok)
    have hu := fun w' (k : Keep w w') j hj => (h.keep k).usedAt j hj
    go_enter Try.func16, Try.ntmps16
    go_wp2_with (go_at_call 26; refine (framesOk_any _ _ (h.keep (by repeat (first | exact Chg.refl _ _ _ | apply Chg.alloc))) hs).mono ?_; rw [hok]; rintro e w1 ⟨rfl, k1⟩; have bx := (Blk.new w 27 #[.slice a1 f.cells.length c1, .slice a2 f.used.length c2]).keep k1; have lx := bx.lt; have cx0 := bx.cell 0; have cx1 := bx.cell 1; clear bx)
    have q1 : Keep w w1 := Chg.keep ((Chg.refl 0 0 w).alloc _) k1
    go_loop [3, 12] (fun n i => ∃ k : Nat, k ≤ f.used.length ∧ i = .int .i64 k ∧ n = .int .i64 (cntU (f.used.take k) : Nat)) (fun _ i => f.used.length - (intOf i).toNat)
    case atStart => exact ⟨0, Nat.zero_le _, rfl, rfl⟩
    case round =>
      obtain ⟨k, hk, rfl, rfl⟩ := hrel
      have hb := cntU_bd f.used k
      by_cases hlt : k < f.used.length
      · obtain ⟨g, rfl, _, _, _, cu, _⟩ := hu w1 q1 k hlt
        have HC := Lib.hid (cntU_take f.used k hlt)
        clear hu
        generalize f.used.getD k false = u at *
        cases u
        · go_wp2_with fail
          go_round
          case rel => exact ⟨k + 1, by omega, by go_num, by rw [HC.out]; rfl⟩
          case measure => simp [intOf]; omega
        · go_wp2_with fail
          go_round
          case rel => exact ⟨k + 1, by omega, by go_num, by rw [HC.out]; go_num⟩
          case measure => simp [intOf]; omega
      · obtain rfl : k = f.used.length := by omega
        clear hu
        go_wp2_with fail
        go_ret
        exact ⟨by rw [HE.out]; rfl, q1⟩
end Go.Proofs.Ytodbpbgpfacgcaa
