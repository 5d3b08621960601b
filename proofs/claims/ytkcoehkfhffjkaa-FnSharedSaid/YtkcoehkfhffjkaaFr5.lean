/- The frames' functions: which frame is used, reading a cell, counting. Printed by wip/tools/mk_fr5.py. -/
import Derived.Test.YtkcoehkfhffjkaaFr4
namespace Go.Proofs.Ytkcoehkfhffjkaa
open Go.ChangeShapes Go.WideShapes Go.ChangeAt Go.RowKit
set_option linter.unusedSimpArgs false
set_option linter.unusedVariables false

theorem FR.slices {lo hi : Nat} {w : World} {v : Value} {f : FrD} (h : FR lo hi w v f) : ∃ a1 c1 a2 c2, v = .agg #[.slice a1 f.cells.length c1, .slice a2 f.used.length c2] ∧ FR lo hi w (.agg #[.slice a1 f.cells.length c1, .slice a2 f.used.length c2]) f := by
  obtain ⟨a1, c1, a2, c2, rfl, _⟩ := h.opened
  exact ⟨a1, c1, a2, c2, rfl, h⟩
/-- A mark's cell. -/
theorem FR.usedAt {lo hi : Nat} {w : World} {a1 a2 : Option Addr} {n1 c1 n2 c2 : Nat} {f : FrD} (h : FR lo hi w (.agg #[.slice a1 n1 c1, .slice a2 n2 c2]) f) (j : Nat) (hj : j < f.used.length) :
    ∃ g, a2 = some ⟨g, 0, none⟩ ∧ lo ≤ g ∧ g < hi ∧ g < w.heap.size ∧ w.cell? ⟨g, j, none⟩ = some (.bool (f.used.getD j false)) ∧ w.frozen? ⟨g, j, none⟩ = false := by
  obtain ⟨s1, s2, e, _, h2⟩ := h
  have e2 : s2 = .slice a2 n2 c2 := by simp at e; exact e.2.symm
  subst e2
  obtain ⟨b, d, e3, _, hf⟩ := h2.opened
  obtain ⟨g, rfl, r⟩ := hf j hj
  simp at e3
  exact ⟨g, e3.1, r⟩
/-- A row's cell, and the row. -/
theorem FR.rowAt {lo hi : Nat} {w : World} {a1 a2 : Option Addr} {n1 c1 n2 c2 : Nat} {f : FrD} (h : FR lo hi w (.agg #[.slice a1 n1 c1, .slice a2 n2 c2]) f) (j : Nat) (hj : j < f.cells.length) :
    ∃ g b d, a1 = some ⟨g, 0, none⟩ ∧ lo ≤ g ∧ g < hi ∧ g < w.heap.size ∧ w.cell? ⟨g, j, none⟩ = some (.slice b (f.cells.getD j []).length d) ∧ SI lo hi w (.slice b (f.cells.getD j []).length d) (f.cells.getD j []) := by
  obtain ⟨s1, s2, e, ⟨vs, h1⟩, _⟩ := h
  have e2 : s1 = .slice a1 n1 c1 := by simp at e; exact e.1.symm
  subst e2
  have hr := h1.row j hj
  obtain ⟨bo, d, e4, _, _⟩ := hr.opened
  obtain ⟨b, c, e3, _, hf⟩ := h1.opened
  obtain ⟨g, rfl, x1, x2, x3, x4, _⟩ := hf j hj
  simp at e3
  rw [e4] at x4 hr
  exact ⟨g, bo, d, e3.1, x1, x2, x3, x4, hr⟩
theorem SI.at {lo hi : Nat} {w : World} {b : Option Addr} {n d : Nat} {zs : List Int} (h : SI lo hi w (.slice b n d) zs) (j : Nat) (hj : j < zs.length) : ∃ g, b = some ⟨g, 0, none⟩ ∧ lo ≤ g ∧ g < hi ∧ g < w.heap.size ∧ w.cell? ⟨g, j, none⟩ = some (.int .i64 (zs.getD j 0)) ∧ w.frozen? ⟨g, j, none⟩ = false := by
  obtain ⟨b', d', e, _, hf⟩ := h.opened
  obtain ⟨g, rfl, r⟩ := hf j hj
  simp at e
  exact ⟨g, e.1, r⟩
theorem isB_no1 {f : FrD} {i : Int} (h : btw i 0 ((f.used.length : Int) - 1) = false) : isB f i = false := by unfold isB; rw [h]; simp
theorem isB_no2 {f : FrD} {i : Int} (h : framesOkB f = false) : isB f i = false := by unfold isB; rw [h]; rfl
theorem isB_yes {f : FrD} {i : Int} (h1 : btw i 0 ((f.used.length : Int) - 1) = true) (h2 : framesOkB f = true) : isB f i = f.used.getD i.toNat false := by unfold isB; rw [h1, h2]; simp
theorem isB_parts {f : FrD} {i : Int} (h : isB f i = true) : FOk f ∧ 0 ≤ i ∧ i < f.used.length ∧ f.used.getD i.toNat false = true := by
  unfold isB at h
  rw [Bool.and_eq_true, Bool.and_eq_true, btw_iff] at h
  exact ⟨framesOk_iff.1 h.1.1, h.1.2.1, by omega, h.2⟩
theorem readOk_no1 {f : FrD} {i k : Int} (h : btw k 0 15 = false) : readOk f i k = false := by unfold readOk; rw [h]; simp
theorem readOk_no2 {f : FrD} {i k : Int} (h : isB f i = false) : readOk f i k = false := by unfold readOk; rw [h]; rfl
theorem readOk_yes {f : FrD} {i k : Int} (h : btw k 0 15 = true) (h2 : isB f i = true) : readOk f i k = true := by unfold readOk; rw [h, h2]; rfl
theorem cntU_take (us : List Bool) (k : Nat) (h : k < us.length) : cntU (us.take (k + 1)) = cntU (us.take k) + if us.getD k false then 1 else 0 := by
  rw [List.take_succ_eq_append_getElem h]
  unfold cntU
  rw [List.filter_append, List.length_append]
  simp only [List.getD, List.getElem?_eq_getElem h, Option.getD_some]
  cases us[k] <;> simp
theorem cntU_bd (us : List Bool) (k : Nat) : cntU (us.take k) ≤ us.length := by
  unfold cntU
  refine Nat.le_trans (List.length_filter_le _ _) ?_
  simp; omega
theorem usedD_ok {f : FrD} (h : framesOkB f = true) : usedD f = cntU f.used := by unfold usedD cntU; rw [if_pos h]
theorem usedD_no {f : FrD} (h : framesOkB f = false) : usedD f = 0 := by unfold usedD; rw [h]; rfl
theorem usedFrames_spec {lo hi : Nat} {f : FrD} (v : Value) (w : World) (h : FR lo hi w v f) (hs : sm_Frames f) :
    Calls Try.prog 43 #[v] w fun e w' => e = .returned (.int .i64 (usedD f)) ∧ Keep w w' := by
  have hul : f.used.length ≤ 1048576 := by unfold sm_Frames at hs; omega
  obtain ⟨a1, c1, a2, c2, rfl, h⟩ := h.slices
  cases hok : framesOkB f
  · have HE := Lib.hid (usedD_no hok)
    have h0 := h.keep ((Chg.refl 0 0 w).alloc (.cells #[.slice a1 f.cells.length c1, .slice a2 f.used.length c2] 34 (0, 0)))
    go_enter Try.func43, Try.ntmps43
    go_wp2_with fail
    go_loop [3, 4] (fun n i => n = .int .i64 0 ∧ i = .int .i64 0) (fun _ _ => 0)
    case atStart => exact ⟨rfl, rfl⟩
    case round =>
      obtain ⟨rfl, rfl⟩ := hrel
      by_cases hz : (0 : Int) < f.used.length
      all_goals
        go_wp2_with (go_at_call 83; refine (framesOk_spec _ _ h0 hs).mono ?_; rw [hok]; rintro e w1 ⟨rfl, k1⟩)
        go_ret
        exact ⟨by rw [HE.out]; rfl, by repeat (first | exact Chg.refl _ _ _ | apply Chg.alloc | exact Chg.keep (Chg.alloc (Chg.refl _ _ _) _) (by assumption))⟩
  · have HE := Lib.hid (usedD_ok hok)
    go_enter Try.func43, Try.ntmps43
    go_wp2_with fail
    go_loopw [3, 4] (fun n i wr => ∃ k : Nat, k ≤ f.used.length ∧ i = .int .i64 k ∧ n = .int .i64 (cntU (f.used.take k) : Nat) ∧ Keep (w.alloc (.cells #[.slice a1 f.cells.length c1, .slice a2 f.used.length c2] 34 (0, 0))) wr) (fun _ i _ => f.used.length - (intOf i).toNat)
    case atStart => exact ⟨0, Nat.zero_le _, rfl, rfl, Chg.refl _ _ _⟩
    case round =>
      obtain ⟨k, hk, rfl, rfl, kr⟩ := hrel
      have hb := cntU_bd f.used k
      have qr : Keep w wr := Chg.keep ((Chg.refl 0 0 w).alloc _) kr
      have bx := (Blk.new w 34 #[.slice a1 f.cells.length c1, .slice a2 f.used.length c2]).keep kr
      have lx := bx.lt
      have cx0 := bx.cell 0
      have cx1 := bx.cell 1
      by_cases hlt : k < f.used.length
      · obtain ⟨g, rfl, _, _, lg, cu, _⟩ := (h.keep qr).usedAt k hlt
        have HC := Lib.hid (cntU_take f.used k hlt)
        have HB := Lib.hid bx
        clear bx
        generalize f.used.getD k false = u at *
        cases u
        · go_wp2_with (go_at_call 83; refine (framesOk_spec _ _ (h.keep qr) hs).mono ?_; rw [hok]; rintro e w1 ⟨rfl, k1⟩; have cu1 := (Keep.grown k1 none).cell cu (by simp); have bx := HB.out.keep k1; have lx1 := bx.lt; have cy0 := bx.cell 0; have cy1 := bx.cell 1; clear bx)
          go_roundw
          case rel => exact ⟨k + 1, by omega, by go_num, by rw [HC.out]; rfl, kr.keep k1⟩
          case measure => simp [intOf]; omega
        · go_wp2_with (go_at_call 83; refine (framesOk_spec _ _ (h.keep qr) hs).mono ?_; rw [hok]; rintro e w1 ⟨rfl, k1⟩; have cu1 := (Keep.grown k1 none).cell cu (by simp); have bx := HB.out.keep k1; have lx1 := bx.lt; have cy0 := bx.cell 0; have cy1 := bx.cell 1; clear bx)
          go_roundw
          case rel => exact ⟨k + 1, by omega, by go_num, by rw [HC.out]; go_num, kr.keep k1⟩
          case measure => simp [intOf]; omega
      · obtain rfl : k = f.used.length := by omega
        go_wp2_with fail
        go_ret
        exact ⟨by first | (rw [HE.out]; rfl) | (rw [HE.out, List.take_length]; rfl), qr⟩
end Go.Proofs.Ytkcoehkfhffjkaa
