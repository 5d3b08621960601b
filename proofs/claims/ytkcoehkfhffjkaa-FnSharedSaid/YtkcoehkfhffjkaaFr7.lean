/- FrameGive and FrameWrite of both. Printed by wip/tools/mk_fr7.py. -/
import Derived.Test.YtkcoehkfhffjkaaFr6
import Derived.BigRegion
namespace Go.Proofs.Ytkcoehkfhffjkaa
open Go.ChangeShapes Go.WideShapes Go.ChangeAt Go.RowKit
set_option linter.unusedSimpArgs false
set_option linter.unusedVariables false
set_option maxRecDepth 100000

theorem giveD_no {f : FrD} {i : Int} (h : isB f i = false) : giveD f i = f := by unfold giveD; rw [h]; rfl
theorem giveD_yes {f : FrD} {i : Int} (h : isB f i = true) : giveD f i = ⟨f.cells.set i.toNat zrow, f.used.set i.toNat false⟩ := by unfold giveD; rw [if_pos h]
theorem writeOk_no1 {f : FrD} {i k v : Int} (h : isB f i = false) : writeOk f i k v = false := by unfold writeOk; rw [h]; rfl
theorem writeOk_no2 {f : FrD} {i k v : Int} (h : btw k 0 15 = false) : writeOk f i k v = false := by unfold writeOk; rw [h]; simp
theorem writeOk_no3 {f : FrD} {i k v : Int} (h : btw v 0 999 = false) : writeOk f i k v = false := by unfold writeOk; rw [h]; simp
theorem writeOk_yes {f : FrD} {i k v : Int} (h1 : isB f i = true) (h2 : btw k 0 15 = true) (h3 : btw v 0 999 = true) : writeOk f i k v = true := by unfold writeOk; rw [h1, h2, h3]; rfl
theorem writeD_no {f : FrD} {i k v : Int} (h : writeOk f i k v = false) : writeD f i k v = f := by unfold writeD; rw [h]; rfl
theorem writeD_yes {f : FrD} {i k v : Int} (h : writeOk f i k v = true) : writeD f i k v = ⟨f.cells.set i.toNat ((f.cells.getD i.toNat []).set k.toNat v), f.used⟩ := by unfold writeD; rw [if_pos h]
theorem z16d_SI (w : World) : SI w.heap.size (w.heap.size + 1) ((w.alloc (.cells z16 3 (0, 0))).drew) (.slice (some ⟨w.heap.size, 0, none⟩) 16 16) zrow := (SI.z16 w).keep ((Chg.refl 0 0 _).drew)
theorem size_set (w : World) (p : Addr) (v : Value) : (w.setCell p v).heap.size = w.heap.size := by simp [World.setCell]
/-- A new block laid behind three stores, or ahead of them. -/
theorem comm3 {w : World} (o : Obj) {g1 i1 g2 i2 g3 i3 : Nat} {v1 v2 v3 : Value} (h1 : g1 < w.heap.size) (h2 : g2 < w.heap.size) (h3 : g3 < w.heap.size) :
    (((w.setCell ⟨g1, i1, none⟩ v1).setCell ⟨g2, i2, none⟩ v2).setCell ⟨g3, i3, none⟩ v3).alloc o = (((w.alloc o).setCell ⟨g1, i1, none⟩ v1).setCell ⟨g2, i2, none⟩ v2).setCell ⟨g3, i3, none⟩ v3 := by
  rw [World.setCell_alloc_past (w := w) o g1 i1 v1 h1, World.setCell_alloc_past (w := w.setCell ⟨g1, i1, none⟩ v1) o g2 i2 v2 (by rw [size_set]; exact h2), World.setCell_alloc_past (w := (w.setCell ⟨g1, i1, none⟩ v1).setCell ⟨g2, i2, none⟩ v2) o g3 i3 v3 (by rw [size_set, size_set]; exact h3)]
theorem put_end {W3 : World} {o : Obj} {gC i R lo0 lo : Nat} {vz x0 x1 v : Value} {f : FrD} (h : FR lo (W3.heap.size + 1) ((W3.alloc o).setCell ⟨gC, i, none⟩ vz) v f) (hC : gC < W3.heap.size) (hR : R < W3.heap.size) (hlo : R < lo) (h0 : lo0 ≤ lo) :
    FR lo0 (((((W3.setCell ⟨gC, i, none⟩ vz).setCell ⟨R, 0, none⟩ x0).setCell ⟨R, 1, none⟩ x1).alloc o).drew).heap.size (((((W3.setCell ⟨gC, i, none⟩ vz).setCell ⟨R, 0, none⟩ x0).setCell ⟨R, 1, none⟩ x1).alloc o).drew) v f := by
  have h2 := (h.mv (l := R) (h := R + 1) (((Chg.refl _ _ _).set R 0 x0 (.inl ⟨Nat.le_refl _, Nat.lt_succ_self _⟩)).set R 1 x1 (.inl ⟨Nat.le_refl _, Nat.lt_succ_self _⟩)) (by omega)).wide h0 (Nat.le_refl _)
  rw [← comm3 o hC hR hR] at h2
  have h3 := h2.keep ((Chg.refl 0 0 _).drew)
  have e : (((((W3.setCell ⟨gC, i, none⟩ vz).setCell ⟨R, 0, none⟩ x0).setCell ⟨R, 1, none⟩ x1).alloc o).drew).heap.size = W3.heap.size + 1 := by
    show ((((W3.setCell ⟨gC, i, none⟩ vz).setCell ⟨R, 0, none⟩ x0).setCell ⟨R, 1, none⟩ x1).alloc o).heap.size = _
    simp only [size_alloc, size_set]
  rw [e]; exact h3
theorem cntRows_set (rows : List (List Int)) (i : Nat) (r : List Int) (h : r.length = (rows.getD i []).length) : cntRows (rows.set i r) = cntRows rows := by
  induction rows generalizing i with
  | nil => rfl
  | cons a rows ih =>
    cases i with
    | zero => simp [cntRows] at *; omega
    | succ i => have := ih i (by simpa using h); simp [cntRows, this]
theorem sm_set {f : FrD} (h : sm_Frames f) (i : Nat) (r : List Int) (us : List Bool) (hr : r.length = (f.cells.getD i []).length) (hu : us.length = f.used.length) : sm_Frames ⟨f.cells.set i r, us⟩ := by
  unfold sm_Frames at *
  simp only [List.length_set, cntRows_set _ _ _ hr, hu]
  exact h
theorem takeD_sm {f : FrD} (h : sm_Frames f) : sm_Frames (takeD f) := by
  unfold takeD
  split
  · unfold sm_Frames at *; simpa using h
  · exact h
theorem giveD_sm {f : FrD} (h : sm_Frames f) (i : Int) : sm_Frames (giveD f i) := by
  unfold giveD
  split
  · rename_i hb
    obtain ⟨hfo, hi0, hi1, _⟩ := isB_parts hb
    have hu := hfo.used
    exact sm_set h _ _ _ (by rw [(rowOk_iff.1 (hfo.row i.toNat (by omega))).1]; rfl) (by simp)
  · exact h
theorem writeD_sm {f : FrD} (h : sm_Frames f) (i k v : Int) : sm_Frames (writeD f i k v) := by
  unfold writeD
  split
  · exact sm_set h _ _ _ (by simp) rfl
  · exact h
theorem some_blk {g g' : Nat} (h : some (⟨g, 0, none⟩ : Addr) = some ⟨g', 0, none⟩) : g = g' := (Addr.mk.inj (Option.some.inj h)).1
end Go.Proofs.Ytkcoehkfhffjkaa
