/- PageText of both. Printed by wip/tools/mk_pg.py. -/
import Derived.Test.YtkcoehkfhffjkaaMa3
namespace Go.Proofs.Ytkcoehkfhffjkaa
open Go.ChangeShapes Go.WideShapes Go.ChangeAt Go.RowKit
set_option linter.unusedSimpArgs false
set_option linter.unusedVariables false
set_option maxRecDepth 100000

theorem pg_parts {m : MaD} {p : Int} (hok : machineOkB m = true) (hne : (entryD m.tb p).1 ≠ 0) : 0 ≤ (entryD m.tb p).2 ∧ (entryD m.tb p).2 < m.fr.cells.length ∧ (m.fr.cells.getD (entryD m.tb p).2.toNat []).length = 16 := by
  have hm := machineOk_iff.1 hok
  obtain ⟨hb, e2⟩ := entryD_in hne
  have hj := btw_len hb
  have hne2 := hne
  rw [e2] at hne2
  obtain ⟨f1, f2, f3⟩ := hm.frame hj hne2
  have hu := hm.fr.used
  rw [e2]
  have hi : (m.tb.getD p.toNat (0, 0)).2.toNat < m.fr.cells.length := by omega
  exact ⟨f1, by omega, (rowOk_iff.1 (hm.fr.row _ hi)).1⟩
theorem pg_no1 {m : MaD} {p : Int} (h : (entryD m.tb p).1 = 0) : pageTextD m p = [] := by unfold pageTextD; rw [h]; simp
theorem pg_no2 {m : MaD} {p : Int} (h : machineOkB m = false) : pageTextD m p = [] := by unfold pageTextD; rw [h]; rfl
theorem pg_yes {m : MaD} {p : Int} (h : machineOkB m = true) (h2 : (entryD m.tb p).1 ≠ 0) : pageTextD m p = m.fr.cells.getD (entryD m.tb p).2.toNat [] := by
  unfold pageTextD; rw [h, bne_iff_ne.2 h2]; rfl
theorem pageTextD_len (m : MaD) (p : Int) : (pageTextD m p).length ≤ 16 := by
  by_cases h : (entryD m.tb p).1 = 0
  · rw [pg_no1 h]; simp
  · cases hok : machineOkB m
    · rw [pg_no2 hok]; simp
    · rw [pg_yes hok h, (pg_parts hok h).2.2]; omega
theorem pageText_any {lo hi : Nat} {m : MaD} (v : Value) (p : Int) (w : World) (h : MA lo hi w v m) (hs : sm_Machine m) :
    Calls Try.prog 14 #[v, .int .i64 p] w fun e w' => ∃ v', e = .returned v' ∧ SI w.heap.size w'.heap.size w' v' (pageTextD m p) ∧ Keep w w' := by
  have htl := hs.tb
  have hcl : m.fr.cells.length ≤ 1048576 := by have := hs.fr; unfold sm_Frames at this; omega
  obtain ⟨a1, c1, a2, c2, a3, c3, rfl, hf, ht⟩ := h.slices
  have h : MA lo hi w (.agg #[.slice a1 m.fr.cells.length c1, .slice a2 m.fr.used.length c2, .slice a3 m.tb.length c3]) m := MA.mk hf ht
  by_cases hz : (entryD m.tb p).1 = 0
  · have HE := Lib.hid (pg_no1 hz)
    have HZ := Lib.hid hz
    clear hz
    go_enter Try.func14, Try.ntmps14
    go_wp2_with (first | (go_at_call 52; refine (pageEntry_any _ _ _ ⟨_, rfl, ht.keep (by repeat (first | exact Chg.refl _ _ _ | apply Chg.alloc))⟩ (by omega)).mono ?_; rw [HZ.out]; rintro e w1 ⟨rfl, k1⟩; have q1 : Keep w w1 := Chg.keep (by repeat (first | exact Chg.refl _ _ _ | apply Chg.alloc)) k1; have bA := (Blk.new w 39 #[.slice a1 m.fr.cells.length c1, .slice a2 m.fr.used.length c2, .slice a3 m.tb.length c3]).keep k1; have x0 := bA.cell 0; have x1 := bA.cell 1; have x2 := bA.cell 2; have lA := bA.lt) | (go_at_call 38; refine (machineOk_any _ _ (h.keep (q1.alloc _)) hs).mono ?_; rw [hok]; rintro e w2 ⟨rfl, k2⟩; have q2 : Keep w w2 := (q1.alloc _).keep k2; have bE := (Blk.new w1 65 #[.int .i64 0, .int .i64 (entryD m.tb p).2]).keep k2; have e0 := bE.cell 0; have e1 := bE.cell 1; have lE := bE.lt; replace bA := bA.keep ((Chg.refl 0 0 w1).alloc (.cells #[.int .i64 0, .int .i64 (entryD m.tb p).2] 65 (0, 0)) |>.keep k2); have y0 := bA.cell 0; have y1 := bA.cell 1; have lA2 := bA.lt; clear bE bA))
    go_ret
    exact ⟨_, rfl, by rw [HE.out]; exact SI.nil _ _ _, q1.alloc _⟩
  · have z1 : ((entryD m.tb p).1 == 0) = false := by rw [beq_eq_false_iff_ne]; exact hz
    cases hok : machineOkB m
    · have HE := Lib.hid (pg_no2 (p := p) hok)
      clear hz
      go_enter Try.func14, Try.ntmps14
      go_wp2_with (first | (go_at_call 52; refine (pageEntry_any _ _ _ ⟨_, rfl, ht.keep (by repeat (first | exact Chg.refl _ _ _ | apply Chg.alloc))⟩ (by omega)).mono ?_; rintro e w1 ⟨rfl, k1⟩; have q1 : Keep w w1 := Chg.keep (by repeat (first | exact Chg.refl _ _ _ | apply Chg.alloc)) k1; have bA := (Blk.new w 39 #[.slice a1 m.fr.cells.length c1, .slice a2 m.fr.used.length c2, .slice a3 m.tb.length c3]).keep k1; have x0 := bA.cell 0; have x1 := bA.cell 1; have x2 := bA.cell 2; have lA := bA.lt) | (go_at_call 38; refine (machineOk_any _ _ (h.keep (q1.alloc _)) hs).mono ?_; rw [hok]; rintro e w2 ⟨rfl, k2⟩; have q2 : Keep w w2 := (q1.alloc _).keep k2; have bE := (Blk.new w1 65 #[.int .i64 (entryD m.tb p).1, .int .i64 (entryD m.tb p).2]).keep k2; have e0 := bE.cell 0; have e1 := bE.cell 1; have lE := bE.lt; replace bA := bA.keep ((Chg.refl 0 0 w1).alloc (.cells #[.int .i64 (entryD m.tb p).1, .int .i64 (entryD m.tb p).2] 65 (0, 0)) |>.keep k2); have y0 := bA.cell 0; have y1 := bA.cell 1; have lA2 := bA.lt; clear bE bA))
      go_ret
      exact ⟨_, rfl, by rw [HE.out]; exact SI.nil _ _ _, q2⟩
    · have HE := Lib.hid (pg_yes hok hz)
      have z1 : ((entryD m.tb p).1 == 0) = false := by rw [beq_eq_false_iff_ne]; exact hz
      obtain ⟨p1, p2, p3⟩ := pg_parts hok hz
      have hlt : (entryD m.tb p).2.toNat < m.fr.cells.length := by omega
      obtain ⟨g, rb, rd, rfl, _, _, lg, cu, hrow⟩ := hf.rowAt (entryD m.tb p).2.toNat hlt
      have HP := Lib.hid p3
      generalize m.fr.cells.getD (entryD m.tb p).2.toNat [] = r at *
      have hrl : r.length ≤ 1000000000 := by omega
      clear hz p3
      go_enter Try.func14, Try.ntmps14
      go_wp2_with (first | (go_at_call 52; refine (pageEntry_any _ _ _ ⟨_, rfl, ht.keep (by repeat (first | exact Chg.refl _ _ _ | apply Chg.alloc))⟩ (by omega)).mono ?_; rintro e w1 ⟨rfl, k1⟩; have q1 : Keep w w1 := Chg.keep (by repeat (first | exact Chg.refl _ _ _ | apply Chg.alloc)) k1; have bA := (Blk.new w 39 #[.slice (some ⟨g, 0, none⟩) m.fr.cells.length c1, .slice a2 m.fr.used.length c2, .slice a3 m.tb.length c3]).keep k1; have x0 := bA.cell 0; have x1 := bA.cell 1; have x2 := bA.cell 2; have lA := bA.lt) | (go_at_call 38; refine (machineOk_any _ _ (h.keep (q1.alloc _)) hs).mono ?_; rw [hok]; rintro e w2 ⟨rfl, k2⟩; have q2 : Keep w w2 := (q1.alloc _).keep k2; have bE := (Blk.new w1 65 #[.int .i64 (entryD m.tb p).1, .int .i64 (entryD m.tb p).2]).keep k2; have e0 := bE.cell 0; have e1 := bE.cell 1; have lE := bE.lt; replace bA := bA.keep ((Chg.refl 0 0 w1).alloc (.cells #[.int .i64 (entryD m.tb p).1, .int .i64 (entryD m.tb p).2] 65 (0, 0)) |>.keep k2); have y0 := bA.cell 0; have y1 := bA.cell 1; have lA2 := bA.lt; clear bE bA; have cu2 := (Keep.grown q2 none).cell cu (by simp); have lg2 := Nat.lt_of_lt_of_le lg q2.size) | (go_at_call 53; refine (copyInts_any _ _ (hrow.keep q2) hrl).mono ?_; rintro e w3 ⟨v3, rfl, h3, k3⟩))
      go_ret
      exact ⟨_, rfl, by rw [HE.out]; exact h3.wide q2.size (Nat.le_refl _), q2.keep k3⟩
theorem pageText_spec {lo hi : Nat} {m : MaD} (v : Value) (p : Int) (w : World) (h : MA lo hi w v m) (hs : sm_Machine m) :
    Calls Try.prog 12 #[v, .int .i64 p] w fun e w' => ∃ v', e = .returned v' ∧ SI w.heap.size w'.heap.size w' v' (pageTextD m p) ∧ Keep w w' := by
  have htl := hs.tb
  have hcl : m.fr.cells.length ≤ 1048576 := by have := hs.fr; unfold sm_Frames at this; omega
  obtain ⟨a1, c1, a2, c2, a3, c3, rfl, hf, ht⟩ := h.slices
  have h : MA lo hi w (.agg #[.slice a1 m.fr.cells.length c1, .slice a2 m.fr.used.length c2, .slice a3 m.tb.length c3]) m := MA.mk hf ht
  cases hok : machineOkB m
  · have HE := Lib.hid (pg_no2 (p := p) hok)
    go_enter Try.func12, Try.ntmps12
    go_wp2_with (first | (go_at_call 35; refine (pageEntry_spec _ _ _ ⟨_, rfl, ht.keep (by repeat (first | exact Chg.refl _ _ _ | apply Chg.alloc))⟩ (by omega)).mono ?_; rintro e w1 ⟨rfl, k1⟩; have q1 : Keep w w1 := Chg.keep (by repeat (first | exact Chg.refl _ _ _ | apply Chg.alloc)) k1; have bA := (Blk.new w 39 #[.slice a1 m.fr.cells.length c1, .slice a2 m.fr.used.length c2, .slice a3 m.tb.length c3]).keep k1; have x0 := bA.cell 0; have x1 := bA.cell 1; have x2 := bA.cell 2; have lA := bA.lt) | (go_at_call 49; refine (machineOk_spec _ _ (h.keep (q1.alloc _)) hs).mono ?_; rw [hok]; rintro e w2 ⟨rfl, k2⟩; have q2 : Keep w w2 := (q1.alloc _).keep k2; have bE := (Blk.new w1 65 #[.int .i64 (entryD m.tb p).1, .int .i64 (entryD m.tb p).2]).keep k2; have e0 := bE.cell 0; have e1 := bE.cell 1; have lE := bE.lt; replace bA := bA.keep ((Chg.refl 0 0 w1).alloc (.cells #[.int .i64 (entryD m.tb p).1, .int .i64 (entryD m.tb p).2] 65 (0, 0)) |>.keep k2); have y0 := bA.cell 0; have y1 := bA.cell 1; have lA2 := bA.lt; clear bE bA))
    go_ret
    refine ⟨_, rfl, ?_, (q2).alloc _⟩
    rw [HE.out]
    exact (SI.empty w2 w.heap.size (q2).size).wide (Nat.le_refl _) (by rw [size_alloc]; omega)
  · by_cases hz : (entryD m.tb p).1 = 0
    · have HE := Lib.hid (pg_no1 hz)
      have HZ := Lib.hid hz
      clear hz
      go_enter Try.func12, Try.ntmps12
      go_wp2_with (first | (go_at_call 35; refine (pageEntry_spec _ _ _ ⟨_, rfl, ht.keep (by repeat (first | exact Chg.refl _ _ _ | apply Chg.alloc))⟩ (by omega)).mono ?_; rw [HZ.out]; rintro e w1 ⟨rfl, k1⟩; have q1 : Keep w w1 := Chg.keep (by repeat (first | exact Chg.refl _ _ _ | apply Chg.alloc)) k1; have bA := (Blk.new w 39 #[.slice a1 m.fr.cells.length c1, .slice a2 m.fr.used.length c2, .slice a3 m.tb.length c3]).keep k1; have x0 := bA.cell 0; have x1 := bA.cell 1; have x2 := bA.cell 2; have lA := bA.lt) | (go_at_call 49; refine (machineOk_spec _ _ (h.keep (q1.alloc _)) hs).mono ?_; rw [hok]; rintro e w2 ⟨rfl, k2⟩; have q2 : Keep w w2 := (q1.alloc _).keep k2; have bE := (Blk.new w1 65 #[.int .i64 0, .int .i64 (entryD m.tb p).2]).keep k2; have e0 := bE.cell 0; have e1 := bE.cell 1; have lE := bE.lt; replace bA := bA.keep ((Chg.refl 0 0 w1).alloc (.cells #[.int .i64 0, .int .i64 (entryD m.tb p).2] 65 (0, 0)) |>.keep k2); have y0 := bA.cell 0; have y1 := bA.cell 1; have lA2 := bA.lt; clear bE bA))
      go_ret
      refine ⟨_, rfl, ?_, (q2).alloc _⟩
      rw [HE.out]
      exact (SI.empty w2 w.heap.size (q2).size).wide (Nat.le_refl _) (by rw [size_alloc]; omega)
    · have HE := Lib.hid (pg_yes hok hz)
      have z1 : ((entryD m.tb p).1 == 0) = false := by rw [beq_eq_false_iff_ne]; exact hz
      obtain ⟨p1, p2, p3⟩ := pg_parts hok hz
      have hlt : (entryD m.tb p).2.toNat < m.fr.cells.length := by omega
      obtain ⟨g, rb, rd, rfl, _, _, lg, cu, hrow⟩ := hf.rowAt (entryD m.tb p).2.toNat hlt
      have HP := Lib.hid p3
      generalize m.fr.cells.getD (entryD m.tb p).2.toNat [] = r at *
      have hrl : r.length ≤ 1000000000 := by omega
      clear hz p3
      go_enter Try.func12, Try.ntmps12
      go_wp2_with (first | (go_at_call 35; refine (pageEntry_spec _ _ _ ⟨_, rfl, ht.keep (by repeat (first | exact Chg.refl _ _ _ | apply Chg.alloc))⟩ (by omega)).mono ?_; rintro e w1 ⟨rfl, k1⟩; have q1 : Keep w w1 := Chg.keep (by repeat (first | exact Chg.refl _ _ _ | apply Chg.alloc)) k1; have bA := (Blk.new w 39 #[.slice (some ⟨g, 0, none⟩) m.fr.cells.length c1, .slice a2 m.fr.used.length c2, .slice a3 m.tb.length c3]).keep k1; have x0 := bA.cell 0; have x1 := bA.cell 1; have x2 := bA.cell 2; have lA := bA.lt) | (go_at_call 49; refine (machineOk_spec _ _ (h.keep (q1.alloc _)) hs).mono ?_; rw [hok]; rintro e w2 ⟨rfl, k2⟩; have q2 : Keep w w2 := (q1.alloc _).keep k2; have bE := (Blk.new w1 65 #[.int .i64 (entryD m.tb p).1, .int .i64 (entryD m.tb p).2]).keep k2; have e0 := bE.cell 0; have e1 := bE.cell 1; have lE := bE.lt; replace bA := bA.keep ((Chg.refl 0 0 w1).alloc (.cells #[.int .i64 (entryD m.tb p).1, .int .i64 (entryD m.tb p).2] 65 (0, 0)) |>.keep k2); have y0 := bA.cell 0; have y1 := bA.cell 1; have lA2 := bA.lt; clear bE bA; have cu2 := (Keep.grown q2 none).cell cu (by simp); have lg2 := Nat.lt_of_lt_of_le lg q2.size; have hemp := Rw.empty w2 3 1 w2.heap.size (Nat.le_refl _); have hsrc := (hrow.keep q2).keep ((Chg.refl 0 0 w2).alloc (.cells #[] 3 (0, 0))); have HEM := Lib.hid hemp; have HSR := Lib.hid hsrc; clear hemp hsrc) | (at_builtin; refine app_row rfl _ _ _ rfl _ _ _ _ _ _ _ _ Try.underlying32 Try.infoInt rfl (by decide) _ _ _ _ _ _ HEM.out HSR.out hrl (ints_one _) (by decide) (by omega) (by simp only [size_alloc]; omega) rfl rfl ?_; intro v3 w3 h3 k3))
      go_ret
      exact ⟨_, rfl, by rw [HE.out]; exact (SI.app0 h3).wide q2.size (Nat.le_refl _), (q2.alloc _).comp k3 (.inl q2.size)⟩
end Go.Proofs.Ytkcoehkfhffjkaa
