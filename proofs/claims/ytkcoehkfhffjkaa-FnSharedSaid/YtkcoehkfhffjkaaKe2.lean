/- Kernels: toKernel, and KernelOk of both. Printed by wip/tools/mk_ke2.py. -/
import Derived.Test.YtkcoehkfhffjkaaKe
namespace Go.Proofs.Ytkcoehkfhffjkaa
open Go.ChangeShapes Go.WideShapes Go.ChangeAt Go.RowKit
set_option linter.unusedSimpArgs false
set_option linter.unusedVariables false
set_option maxRecDepth 100000

theorem KE.mk {lo hi : Nat} {w : World} {s1 s2 s3 s4 : Value} {k : KeD} (h1 : MA lo hi w (.agg #[s1, s2, s3]) k.ma) (h2 : SI lo hi w s4 k.refuse) : KE lo hi w (.agg #[s1, s2, s3, .int .i64 k.calls, s4]) k := ⟨s1, s2, s3, s4, rfl, h1, h2⟩
set_option maxHeartbeats 800000 in
theorem to_Kernel {t : KeD} (v : Value) (w : World) (h : InKe w v t) (hs : sm_Kernel t) : Calls Try.prog 46 #[v] w fun e w' => ∃ v', e = .returned v' ∧ KE w.heap.size w'.heap.size w' v' t ∧ Keep w w' := by
  obtain ⟨a1, c1, a2, c2, a3, c3, a4, c4, rfl, h⟩ := h.opened
  obtain ⟨hf, ht⟩ := h.parts
  clear h
  have qW : Keep w (((w.alloc (.cells #[.slice a1 t.ma.fr.cells.length c1, .slice a2 t.ma.fr.used.length c2, .slice a3 t.ma.tb.length c3, .int .i64 t.calls, .slice a4 t.refuse.length c4] 73 (0, 0))).alloc (.cells #[.slice none 0 0, .slice none 0 0, .slice none 0 0, .int .i64 0, .slice none 0 0] 47 (0, 0))).alloc (.cells #[.slice none 0 0, .slice none 0 0, .slice none 0 0, .int .i64 0, .slice none 0 0] 47 (0, 0))) := (((Chg.refl 0 0 w).alloc _).alloc _).alloc _
  have bA := (Blk.new w 73 #[.slice a1 t.ma.fr.cells.length c1, .slice a2 t.ma.fr.used.length c2, .slice a3 t.ma.tb.length c3, .int .i64 t.calls, .slice a4 t.refuse.length c4]).keep (((Chg.refl 0 0 _).alloc (.cells #[.slice none 0 0, .slice none 0 0, .slice none 0 0, .int .i64 0, .slice none 0 0] 47 (0, 0))).alloc (.cells #[.slice none 0 0, .slice none 0 0, .slice none 0 0, .int .i64 0, .slice none 0 0] 47 (0, 0)))
  have bR := (blk1 w (.cells #[.slice a1 t.ma.fr.cells.length c1, .slice a2 t.ma.fr.used.length c2, .slice a3 t.ma.tb.length c3, .int .i64 t.calls, .slice a4 t.refuse.length c4] 73 (0, 0)) 47 #[.slice none 0 0, .slice none 0 0, .slice none 0 0, .int .i64 0, .slice none 0 0]).keep ((Chg.refl 0 0 _).alloc (.cells #[.slice none 0 0, .slice none 0 0, .slice none 0 0, .int .i64 0, .slice none 0 0] 47 (0, 0)))
  have bO := blk2 w (.cells #[.slice a1 t.ma.fr.cells.length c1, .slice a2 t.ma.fr.used.length c2, .slice a3 t.ma.tb.length c3, .int .i64 t.calls, .slice a4 t.refuse.length c4] 73 (0, 0)) (.cells #[.slice none 0 0, .slice none 0 0, .slice none 0 0, .int .i64 0, .slice none 0 0] 47 (0, 0)) 47 #[.slice none 0 0, .slice none 0 0, .slice none 0 0, .int .i64 0, .slice none 0 0]
  have zW : (((w.alloc (.cells #[.slice a1 t.ma.fr.cells.length c1, .slice a2 t.ma.fr.used.length c2, .slice a3 t.ma.tb.length c3, .int .i64 t.calls, .slice a4 t.refuse.length c4] 73 (0, 0))).alloc (.cells #[.slice none 0 0, .slice none 0 0, .slice none 0 0, .int .i64 0, .slice none 0 0] 47 (0, 0))).alloc (.cells #[.slice none 0 0, .slice none 0 0, .slice none 0 0, .int .i64 0, .slice none 0 0] 47 (0, 0))).heap.size = w.heap.size + 3 := by simp only [size_alloc]
  go_enter Try.func46, Try.ntmps46
  go_wp2_with fail
  generalize (((w.alloc (.cells #[.slice a1 t.ma.fr.cells.length c1, .slice a2 t.ma.fr.used.length c2, .slice a3 t.ma.tb.length c3, .int .i64 t.calls, .slice a4 t.refuse.length c4] 73 (0, 0))).alloc (.cells #[.slice none 0 0, .slice none 0 0, .slice none 0 0, .int .i64 0, .slice none 0 0] 47 (0, 0))).alloc (.cells #[.slice none 0 0, .slice none 0 0, .slice none 0 0, .int .i64 0, .slice none 0 0] 47 (0, 0))) = W0 at *
  refine (to_Machine _ _ (hf.keep qW) hs.ma).mono ?_
  rintro e w1 ⟨v1, rfl, h1, k1⟩
  replace bA := bA.keep k1
  replace bR := bR.keep k1
  replace bO := bO.keep k1
  have q1 : Keep w w1 := qW.keep k1
  obtain ⟨b1, d1, b2, d2, b3, d3, rfl, _⟩ := h1.opened
  have hz := k1.size
  have cA3 := bA.cell 3
  have cA4 := bA.cell 4
  have cO0 := bO.cell 0
  have cO1 := bO.cell 1
  have cO2 := bO.cell 2
  have cO3 := bO.cell 3
  have fO0 := bO.frozen 0
  have fO1 := bO.frozen 1
  have fO2 := bO.frozen 2
  have fO3 := bO.frozen 3
  have lO := bO.lt
  have lA : w.heap.size < w1.heap.size := by omega
  go_wp2_with fail
  have q2 := (((q1.set (w.heap.size + 1 + 1) 0 (.slice b1 t.ma.fr.cells.length d1) (.inr (by omega))).set (w.heap.size + 1 + 1) 1 (.slice b2 t.ma.fr.used.length d2) (.inr (by omega))).set (w.heap.size + 1 + 1) 2 (.slice b3 t.ma.tb.length d3) (.inr (by omega))).set (w.heap.size + 1 + 1) 3 (.int .i64 t.calls) (.inr (by omega))
  refine (toIntS_any _ _ _ (ht.keep q2) hs.rf).mono ?_
  rintro e w2 ⟨v2, rfl, h2, k2⟩
  replace bO := ((((bO.set_ 0 (.slice b1 t.ma.fr.cells.length d1)).set_ 1 (.slice b2 t.ma.fr.used.length d2)).set_ 2 (.slice b3 t.ma.tb.length d3)).set_ 3 (.int .i64 t.calls)).keep k2
  replace bR := ((((bR.far (p := ⟨w.heap.size + 1 + 1, 0, none⟩) (by simp) (.slice b1 t.ma.fr.cells.length d1)).far (p := ⟨w.heap.size + 1 + 1, 1, none⟩) (by simp) (.slice b2 t.ma.fr.used.length d2)).far (p := ⟨w.heap.size + 1 + 1, 2, none⟩) (by simp) (.slice b3 t.ma.tb.length d3)).far (p := ⟨w.heap.size + 1 + 1, 3, none⟩) (by simp) (.int .i64 t.calls)).keep k2
  replace q1 := q2.keep k2
  replace h1 := (h1.mv (l := w.heap.size) (h := w.heap.size + 3) (((((Chg.refl _ _ w1).set (w.heap.size + 1 + 1) 0 (.slice b1 t.ma.fr.cells.length d1) (.inl ⟨by omega, by omega⟩)).set (w.heap.size + 1 + 1) 1 (.slice b2 t.ma.fr.used.length d2) (.inl ⟨by omega, by omega⟩)).set (w.heap.size + 1 + 1) 2 (.slice b3 t.ma.tb.length d3) (.inl ⟨by omega, by omega⟩)).set (w.heap.size + 1 + 1) 3 (.int .i64 t.calls) (.inl ⟨by omega, by omega⟩)) (by omega)).keep k2
  obtain ⟨b4, d4, rfl, _, h2'⟩ := h2.slice
  have hz2 := k2.size
  simp only [World.setCell, Array.size_modify] at hz2 h2'
  replace cO0 := bO.cell 0
  replace cO1 := bO.cell 1
  replace cO2 := bO.cell 2
  replace cO3 := bO.cell 3
  have cO4 := bO.cell 4
  have fO4 := bO.frozen 4
  replace lO := bO.lt
  have cR := bR.cell 0
  have cR1 := bR.cell 1
  have cR2 := bR.cell 2
  have cR3 := bR.cell 3
  have cR4 := bR.cell 4
  have fR := bR.frozen 0
  have fR1 := bR.frozen 1
  have fR2 := bR.frozen 2
  have fR3 := bR.frozen 3
  have fR4 := bR.frozen 4
  have lR := bR.lt
  clear k2 bA bR bO
  go_wp2_with fail
  refine bodyPost_ret (v := .agg #[.slice b1 t.ma.fr.cells.length d1, .slice b2 t.ma.fr.used.length d2, .slice b3 t.ma.tb.length d3, .int .i64 t.calls, .slice b4 t.refuse.length d4]) (by simp [results, Try.results46, go_sem, cR, cR1, cR2, cR3, cR4, lR, lO]) rfl ⟨_, rfl, KE.mk ?_ ?_, ?_⟩
  · exact (h1.mv (((((((Chg.refl w.heap.size (w.heap.size + 3) w2).set (w.heap.size + 1 + 1) 4 (.slice b4 t.refuse.length d4) (.inl ⟨by omega, by omega⟩)).set (w.heap.size + 1) 0 (.slice b1 t.ma.fr.cells.length d1) (.inl ⟨by omega, by omega⟩)).set (w.heap.size + 1) 1 (.slice b2 t.ma.fr.used.length d2) (.inl ⟨by omega, by omega⟩)).set (w.heap.size + 1) 2 (.slice b3 t.ma.tb.length d3) (.inl ⟨by omega, by omega⟩)).set (w.heap.size + 1) 3 (.int .i64 t.calls) (.inl ⟨by omega, by omega⟩)).set (w.heap.size + 1) 4 (.slice b4 t.refuse.length d4) (.inl ⟨by omega, by omega⟩)) (by omega)).wide (by omega) (by simp only [size_set]; omega)
  · exact (h2'.mv (((((((Chg.refl w.heap.size (w.heap.size + 3) w2).set (w.heap.size + 1 + 1) 4 (.slice b4 t.refuse.length d4) (.inl ⟨by omega, by omega⟩)).set (w.heap.size + 1) 0 (.slice b1 t.ma.fr.cells.length d1) (.inl ⟨by omega, by omega⟩)).set (w.heap.size + 1) 1 (.slice b2 t.ma.fr.used.length d2) (.inl ⟨by omega, by omega⟩)).set (w.heap.size + 1) 2 (.slice b3 t.ma.tb.length d3) (.inl ⟨by omega, by omega⟩)).set (w.heap.size + 1) 3 (.int .i64 t.calls) (.inl ⟨by omega, by omega⟩)).set (w.heap.size + 1) 4 (.slice b4 t.refuse.length d4) (.inl ⟨by omega, by omega⟩)) (by omega)).wide (by omega) (by simp only [size_set]; omega)
  · exact ((((((q1.set (w.heap.size + 1 + 1) 4 (.slice b4 t.refuse.length d4) (.inr (by omega))).set (w.heap.size + 1) 0 (.slice b1 t.ma.fr.cells.length d1) (.inr (by omega))).set (w.heap.size + 1) 1 (.slice b2 t.ma.fr.used.length d2) (.inr (by omega))).set (w.heap.size + 1) 2 (.slice b3 t.ma.tb.length d3) (.inr (by omega))).set (w.heap.size + 1) 3 (.int .i64 t.calls) (.inr (by omega))).set (w.heap.size + 1) 4 (.slice b4 t.refuse.length d4) (.inr (by omega)))
def NonTo (r : List Int) (j : Nat) : Prop := ∀ i, i < j → 0 ≤ r.getD i 0
theorem NonTo.succ {r : List Int} {j : Nat} (h : NonTo r j) (h1 : 0 ≤ r.getD j 0) : NonTo r (j + 1) := by
  intro i hi
  by_cases e : i = j
  · subst e; exact h1
  · exact h i (by omega)
theorem non_all {r : List Int} (h : NonTo r r.length) : r.all (fun n => decide (0 ≤ n)) = true := by
  rw [List.all_eq_true]
  intro x hx
  obtain ⟨i, hi, rfl⟩ := List.getElem_of_mem hx
  have := h i hi
  simp [List.getD, hi] at this
  simpa using this
theorem non_bad {r : List Int} {j : Nat} (hj : j < r.length) (h : r.getD j 0 < 0) : r.all (fun n => decide (0 ≤ n)) = false := by
  rw [List.all_eq_false]
  exact ⟨r.getD j 0, by simp [List.getD, hj], by rw [decide_eq_false (by omega)]; simp⟩
theorem kernelOk_no1 {k : KeD} (h : k.refuse.all (fun n => decide (0 ≤ n)) = false) : kernelOkB k = false := by unfold kernelOkB; rw [h]; rfl
theorem kernelOk_no2 {k : KeD} (h : btw k.calls 0 100000 = false) : kernelOkB k = false := by unfold kernelOkB; rw [h]; simp
theorem kernelOk_no3 {k : KeD} (h : ¬ k.refuse.length ≤ 40) : kernelOkB k = false := by unfold kernelOkB; rw [decide_eq_false h]; simp
theorem kernelOk_no4 {k : KeD} (h : machineOkB k.ma = false) : kernelOkB k = false := by unfold kernelOkB; rw [h]; simp
theorem kernelOk_yes {k : KeD} (h1 : k.refuse.all (fun n => decide (0 ≤ n)) = true) (h2 : btw k.calls 0 100000 = true) (h3 : k.refuse.length ≤ 40) (h4 : machineOkB k.ma = true) : kernelOkB k = true := by unfold kernelOkB; rw [h1, h2, decide_eq_true h3, h4]; rfl
theorem SI.cellAt {lo hi : Nat} {w : World} {a : Option Addr} {n c : Nat} {zs : List Int} (h : SI lo hi w (.slice a n c) zs) (j : Nat) (hj : j < zs.length) : ∃ g, a = some ⟨g, 0, none⟩ ∧ g < w.heap.size ∧ w.cell? ⟨g, j, none⟩ = some (.int .i64 (zs.getD j 0)) := by
  obtain ⟨b, d, e, _, hf⟩ := h.opened
  obtain ⟨g, rfl, _, _, x3, x4, _⟩ := hf j hj
  simp at e
  exact ⟨g, e.1, x3, x4⟩
theorem kernelOk_any {lo hi : Nat} {k : KeD} (v : Value) (w : World) (h : KE lo hi w v k) (hs : sm_Kernel k) :
    Calls Try.prog 33 #[v] w fun e w' => e = .returned (.bool (kernelOkB k)) ∧ Keep w w' := by
  have hrf := hs.rf
  obtain ⟨a1, c1, a2, c2, a3, c3, a4, c4, rfl, hm, hr⟩ := h.slices
  have hr' := hr.keep ((Chg.refl 0 0 w).alloc (.cells #[.slice a1 k.ma.fr.cells.length c1, .slice a2 k.ma.fr.used.length c2, .slice a3 k.ma.tb.length c3, .int .i64 k.calls, .slice a4 k.refuse.length c4] 47 (0, 0)))
  go_enter Try.func33, Try.ntmps33
  go_wp2_with fail
  go_loop [8] (fun i => ∃ j : Nat, j ≤ k.refuse.length ∧ i = .int .i64 j ∧ NonTo k.refuse j) (fun i => k.refuse.length - (intOf i).toNat)
  case atStart => exact ⟨0, Nat.zero_le _, rfl, fun i hi => by omega⟩
  case round =>
    obtain ⟨j, hj, rfl, hn⟩ := hrel
    by_cases hlt : j < k.refuse.length
    · obtain ⟨g, rfl, _, cg⟩ := hr'.cellAt j hlt
      have HN := Lib.hid hn
      have HB := Lib.hid (fun h => non_bad hlt h)
      have HG := Lib.hid (fun h => hn.succ (j := j) h)
      clear hn hr'
      generalize k.refuse.getD j 0 = x at *
      by_cases hx : x < 0
      · have HF := Lib.hid (kernelOk_no1 (HB.out hx))
        go_wp2_with fail
        go_ret
        exact ⟨by rw [HF.out]; rfl, (Chg.refl 0 0 w).alloc _⟩
      · have HS := Lib.hid (HG.out (by omega))
        go_wp2_with fail
        go_round
        case rel => exact ⟨j + 1, by omega, by go_num, HS.out⟩
        case measure => simp [intOf]; omega
    · obtain rfl : j = k.refuse.length := by omega
      have HA := Lib.hid (non_all hn)
      clear hn hr'
      cases hok : machineOkB k.ma
      all_goals cases hb : btw k.calls 0 100000
      all_goals by_cases h40 : (k.refuse.length : Int) ≤ 40
      · have hd : decide ((k.refuse.length : Int) ≤ 40) = true := decide_eq_true h40
        have HF := Lib.hid (kernelOk_no4 hok)
        go_wp2_with (first | (go_at_call 65; refine (between_any _ _ _ _).mono ?_; rintro e w' ⟨rfl, rfl⟩) | (go_at_call 38; refine (machineOk_any _ _ (hm.keep ((Chg.refl 0 0 w).alloc _)) hs.ma).mono ?_; rw [hok]; rintro e w2 ⟨rfl, k2⟩; have bA := (Blk.new w 47 #[.slice a1 k.ma.fr.cells.length c1, .slice a2 k.ma.fr.used.length c2, .slice a3 k.ma.tb.length c3, .int .i64 k.calls, .slice a4 k.refuse.length c4]).keep k2; have y3 := bA.cell 3; have y4 := bA.cell 4; have lA := bA.lt; clear bA))
        go_ret
        exact ⟨by rw [HF.out]; rfl, (by first | exact Chg.keep ((Chg.refl 0 0 w).alloc _) k2 | exact (Chg.refl 0 0 w).alloc _)⟩
      · have hd : decide ((k.refuse.length : Int) ≤ 40) = false := decide_eq_false h40
        have HF := Lib.hid (kernelOk_no4 hok)
        go_wp2_with (first | (go_at_call 65; refine (between_any _ _ _ _).mono ?_; rintro e w' ⟨rfl, rfl⟩) | (go_at_call 38; refine (machineOk_any _ _ (hm.keep ((Chg.refl 0 0 w).alloc _)) hs.ma).mono ?_; rw [hok]; rintro e w2 ⟨rfl, k2⟩; have bA := (Blk.new w 47 #[.slice a1 k.ma.fr.cells.length c1, .slice a2 k.ma.fr.used.length c2, .slice a3 k.ma.tb.length c3, .int .i64 k.calls, .slice a4 k.refuse.length c4]).keep k2; have y3 := bA.cell 3; have y4 := bA.cell 4; have lA := bA.lt; clear bA))
        go_ret
        exact ⟨by rw [HF.out]; rfl, (by first | exact Chg.keep ((Chg.refl 0 0 w).alloc _) k2 | exact (Chg.refl 0 0 w).alloc _)⟩
      · have hd : decide ((k.refuse.length : Int) ≤ 40) = true := decide_eq_true h40
        have HF := Lib.hid (kernelOk_no4 hok)
        go_wp2_with (first | (go_at_call 65; refine (between_any _ _ _ _).mono ?_; rintro e w' ⟨rfl, rfl⟩) | (go_at_call 38; refine (machineOk_any _ _ (hm.keep ((Chg.refl 0 0 w).alloc _)) hs.ma).mono ?_; rw [hok]; rintro e w2 ⟨rfl, k2⟩; have bA := (Blk.new w 47 #[.slice a1 k.ma.fr.cells.length c1, .slice a2 k.ma.fr.used.length c2, .slice a3 k.ma.tb.length c3, .int .i64 k.calls, .slice a4 k.refuse.length c4]).keep k2; have y3 := bA.cell 3; have y4 := bA.cell 4; have lA := bA.lt; clear bA))
        go_ret
        exact ⟨by rw [HF.out]; rfl, (by first | exact Chg.keep ((Chg.refl 0 0 w).alloc _) k2 | exact (Chg.refl 0 0 w).alloc _)⟩
      · have hd : decide ((k.refuse.length : Int) ≤ 40) = false := decide_eq_false h40
        have HF := Lib.hid (kernelOk_no4 hok)
        go_wp2_with (first | (go_at_call 65; refine (between_any _ _ _ _).mono ?_; rintro e w' ⟨rfl, rfl⟩) | (go_at_call 38; refine (machineOk_any _ _ (hm.keep ((Chg.refl 0 0 w).alloc _)) hs.ma).mono ?_; rw [hok]; rintro e w2 ⟨rfl, k2⟩; have bA := (Blk.new w 47 #[.slice a1 k.ma.fr.cells.length c1, .slice a2 k.ma.fr.used.length c2, .slice a3 k.ma.tb.length c3, .int .i64 k.calls, .slice a4 k.refuse.length c4]).keep k2; have y3 := bA.cell 3; have y4 := bA.cell 4; have lA := bA.lt; clear bA))
        go_ret
        exact ⟨by rw [HF.out]; rfl, (by first | exact Chg.keep ((Chg.refl 0 0 w).alloc _) k2 | exact (Chg.refl 0 0 w).alloc _)⟩
      · have hd : decide ((k.refuse.length : Int) ≤ 40) = true := decide_eq_true h40
        have HF := Lib.hid (kernelOk_no2 hb)
        go_wp2_with (first | (go_at_call 65; refine (between_any _ _ _ _).mono ?_; rintro e w' ⟨rfl, rfl⟩) | (go_at_call 38; refine (machineOk_any _ _ (hm.keep ((Chg.refl 0 0 w).alloc _)) hs.ma).mono ?_; rw [hok]; rintro e w2 ⟨rfl, k2⟩; have bA := (Blk.new w 47 #[.slice a1 k.ma.fr.cells.length c1, .slice a2 k.ma.fr.used.length c2, .slice a3 k.ma.tb.length c3, .int .i64 k.calls, .slice a4 k.refuse.length c4]).keep k2; have y3 := bA.cell 3; have y4 := bA.cell 4; have lA := bA.lt; clear bA))
        go_ret
        exact ⟨by rw [HF.out]; rfl, (by first | exact Chg.keep ((Chg.refl 0 0 w).alloc _) k2 | exact (Chg.refl 0 0 w).alloc _)⟩
      · have hd : decide ((k.refuse.length : Int) ≤ 40) = false := decide_eq_false h40
        have HF := Lib.hid (kernelOk_no2 hb)
        go_wp2_with (first | (go_at_call 65; refine (between_any _ _ _ _).mono ?_; rintro e w' ⟨rfl, rfl⟩) | (go_at_call 38; refine (machineOk_any _ _ (hm.keep ((Chg.refl 0 0 w).alloc _)) hs.ma).mono ?_; rw [hok]; rintro e w2 ⟨rfl, k2⟩; have bA := (Blk.new w 47 #[.slice a1 k.ma.fr.cells.length c1, .slice a2 k.ma.fr.used.length c2, .slice a3 k.ma.tb.length c3, .int .i64 k.calls, .slice a4 k.refuse.length c4]).keep k2; have y3 := bA.cell 3; have y4 := bA.cell 4; have lA := bA.lt; clear bA))
        go_ret
        exact ⟨by rw [HF.out]; rfl, (by first | exact Chg.keep ((Chg.refl 0 0 w).alloc _) k2 | exact (Chg.refl 0 0 w).alloc _)⟩
      · have hd : decide ((k.refuse.length : Int) ≤ 40) = true := decide_eq_true h40
        have HF := Lib.hid (kernelOk_yes HA.out hb (by omega) hok)
        go_wp2_with (first | (go_at_call 65; refine (between_any _ _ _ _).mono ?_; rintro e w' ⟨rfl, rfl⟩) | (go_at_call 38; refine (machineOk_any _ _ (hm.keep ((Chg.refl 0 0 w).alloc _)) hs.ma).mono ?_; rw [hok]; rintro e w2 ⟨rfl, k2⟩; have bA := (Blk.new w 47 #[.slice a1 k.ma.fr.cells.length c1, .slice a2 k.ma.fr.used.length c2, .slice a3 k.ma.tb.length c3, .int .i64 k.calls, .slice a4 k.refuse.length c4]).keep k2; have y3 := bA.cell 3; have y4 := bA.cell 4; have lA := bA.lt; clear bA))
        go_ret
        exact ⟨by rw [HF.out]; rfl, (by first | exact Chg.keep ((Chg.refl 0 0 w).alloc _) k2 | exact (Chg.refl 0 0 w).alloc _)⟩
      · have hd : decide ((k.refuse.length : Int) ≤ 40) = false := decide_eq_false h40
        have HF := Lib.hid (kernelOk_no3 (k := k) (by omega))
        go_wp2_with (first | (go_at_call 65; refine (between_any _ _ _ _).mono ?_; rintro e w' ⟨rfl, rfl⟩) | (go_at_call 38; refine (machineOk_any _ _ (hm.keep ((Chg.refl 0 0 w).alloc _)) hs.ma).mono ?_; rw [hok]; rintro e w2 ⟨rfl, k2⟩; have bA := (Blk.new w 47 #[.slice a1 k.ma.fr.cells.length c1, .slice a2 k.ma.fr.used.length c2, .slice a3 k.ma.tb.length c3, .int .i64 k.calls, .slice a4 k.refuse.length c4]).keep k2; have y3 := bA.cell 3; have y4 := bA.cell 4; have lA := bA.lt; clear bA))
        go_ret
        exact ⟨by rw [HF.out]; rfl, (by first | exact Chg.keep ((Chg.refl 0 0 w).alloc _) k2 | exact (Chg.refl 0 0 w).alloc _)⟩
theorem kernelOk_spec {lo hi : Nat} {k : KeD} (v : Value) (w : World) (h : KE lo hi w v k) (hs : sm_Kernel k) :
    Calls Try.prog 45 #[v] w fun e w' => e = .returned (.bool (kernelOkB k)) ∧ Keep w w' := by
  have hrf := hs.rf
  obtain ⟨a1, c1, a2, c2, a3, c3, a4, c4, rfl, hm, hr⟩ := h.slices
  have hr' := hr.keep ((Chg.refl 0 0 w).alloc (.cells #[.slice a1 k.ma.fr.cells.length c1, .slice a2 k.ma.fr.used.length c2, .slice a3 k.ma.tb.length c3, .int .i64 k.calls, .slice a4 k.refuse.length c4] 47 (0, 0)))
  go_enter Try.func45, Try.ntmps45
  go_wp2_with fail
  go_loop [3] (fun i => ∃ j : Nat, j ≤ k.refuse.length ∧ i = .int .i64 j ∧ NonTo k.refuse j) (fun i => k.refuse.length - (intOf i).toNat)
  case atStart => exact ⟨0, Nat.zero_le _, rfl, fun i hi => by omega⟩
  case round =>
    obtain ⟨j, hj, rfl, hn⟩ := hrel
    by_cases hlt : j < k.refuse.length
    · obtain ⟨g, rfl, _, cg⟩ := hr'.cellAt j hlt
      have HN := Lib.hid hn
      have HB := Lib.hid (fun h => non_bad hlt h)
      have HG := Lib.hid (fun h => hn.succ (j := j) h)
      clear hn hr'
      generalize k.refuse.getD j 0 = x at *
      by_cases hx : x < 0
      · have HF := Lib.hid (kernelOk_no1 (HB.out hx))
        go_wp2_with fail
        go_ret
        exact ⟨by rw [HF.out]; rfl, (Chg.refl 0 0 w).alloc _⟩
      · have HS := Lib.hid (HG.out (by omega))
        go_wp2_with fail
        go_round
        case rel => exact ⟨j + 1, by omega, by go_num, HS.out⟩
        case measure => simp [intOf]; omega
    · obtain rfl : j = k.refuse.length := by omega
      have HA := Lib.hid (non_all hn)
      clear hn hr'
      cases hok : machineOkB k.ma
      all_goals cases hb : btw k.calls 0 100000
      all_goals by_cases h40 : (k.refuse.length : Int) ≤ 40
      · have hd : decide ((k.refuse.length : Int) ≤ 40) = true := decide_eq_true h40
        have HF := Lib.hid (kernelOk_no4 hok)
        go_wp2_with (first | (go_at_call 62; refine (l01In_any _ _ _ _).mono ?_; rintro e w' ⟨rfl, rfl⟩) | (go_at_call 49; refine (machineOk_spec _ _ (hm.keep ((Chg.refl 0 0 w).alloc _)) hs.ma).mono ?_; rw [hok]; rintro e w2 ⟨rfl, k2⟩; have bA := (Blk.new w 47 #[.slice a1 k.ma.fr.cells.length c1, .slice a2 k.ma.fr.used.length c2, .slice a3 k.ma.tb.length c3, .int .i64 k.calls, .slice a4 k.refuse.length c4]).keep k2; have y3 := bA.cell 3; have y4 := bA.cell 4; have lA := bA.lt; clear bA))
        go_ret
        exact ⟨by rw [HF.out]; rfl, (by first | exact Chg.keep ((Chg.refl 0 0 w).alloc _) k2 | exact (Chg.refl 0 0 w).alloc _)⟩
      · have hd : decide ((k.refuse.length : Int) ≤ 40) = false := decide_eq_false h40
        have HF := Lib.hid (kernelOk_no4 hok)
        go_wp2_with (first | (go_at_call 62; refine (l01In_any _ _ _ _).mono ?_; rintro e w' ⟨rfl, rfl⟩) | (go_at_call 49; refine (machineOk_spec _ _ (hm.keep ((Chg.refl 0 0 w).alloc _)) hs.ma).mono ?_; rw [hok]; rintro e w2 ⟨rfl, k2⟩; have bA := (Blk.new w 47 #[.slice a1 k.ma.fr.cells.length c1, .slice a2 k.ma.fr.used.length c2, .slice a3 k.ma.tb.length c3, .int .i64 k.calls, .slice a4 k.refuse.length c4]).keep k2; have y3 := bA.cell 3; have y4 := bA.cell 4; have lA := bA.lt; clear bA))
        go_ret
        exact ⟨by rw [HF.out]; rfl, (by first | exact Chg.keep ((Chg.refl 0 0 w).alloc _) k2 | exact (Chg.refl 0 0 w).alloc _)⟩
      · have hd : decide ((k.refuse.length : Int) ≤ 40) = true := decide_eq_true h40
        have HF := Lib.hid (kernelOk_no4 hok)
        go_wp2_with (first | (go_at_call 62; refine (l01In_any _ _ _ _).mono ?_; rintro e w' ⟨rfl, rfl⟩) | (go_at_call 49; refine (machineOk_spec _ _ (hm.keep ((Chg.refl 0 0 w).alloc _)) hs.ma).mono ?_; rw [hok]; rintro e w2 ⟨rfl, k2⟩; have bA := (Blk.new w 47 #[.slice a1 k.ma.fr.cells.length c1, .slice a2 k.ma.fr.used.length c2, .slice a3 k.ma.tb.length c3, .int .i64 k.calls, .slice a4 k.refuse.length c4]).keep k2; have y3 := bA.cell 3; have y4 := bA.cell 4; have lA := bA.lt; clear bA))
        go_ret
        exact ⟨by rw [HF.out]; rfl, (by first | exact Chg.keep ((Chg.refl 0 0 w).alloc _) k2 | exact (Chg.refl 0 0 w).alloc _)⟩
      · have hd : decide ((k.refuse.length : Int) ≤ 40) = false := decide_eq_false h40
        have HF := Lib.hid (kernelOk_no4 hok)
        go_wp2_with (first | (go_at_call 62; refine (l01In_any _ _ _ _).mono ?_; rintro e w' ⟨rfl, rfl⟩) | (go_at_call 49; refine (machineOk_spec _ _ (hm.keep ((Chg.refl 0 0 w).alloc _)) hs.ma).mono ?_; rw [hok]; rintro e w2 ⟨rfl, k2⟩; have bA := (Blk.new w 47 #[.slice a1 k.ma.fr.cells.length c1, .slice a2 k.ma.fr.used.length c2, .slice a3 k.ma.tb.length c3, .int .i64 k.calls, .slice a4 k.refuse.length c4]).keep k2; have y3 := bA.cell 3; have y4 := bA.cell 4; have lA := bA.lt; clear bA))
        go_ret
        exact ⟨by rw [HF.out]; rfl, (by first | exact Chg.keep ((Chg.refl 0 0 w).alloc _) k2 | exact (Chg.refl 0 0 w).alloc _)⟩
      · have hd : decide ((k.refuse.length : Int) ≤ 40) = true := decide_eq_true h40
        have HF := Lib.hid (kernelOk_no2 hb)
        go_wp2_with (first | (go_at_call 62; refine (l01In_any _ _ _ _).mono ?_; rintro e w' ⟨rfl, rfl⟩) | (go_at_call 49; refine (machineOk_spec _ _ (hm.keep ((Chg.refl 0 0 w).alloc _)) hs.ma).mono ?_; rw [hok]; rintro e w2 ⟨rfl, k2⟩; have bA := (Blk.new w 47 #[.slice a1 k.ma.fr.cells.length c1, .slice a2 k.ma.fr.used.length c2, .slice a3 k.ma.tb.length c3, .int .i64 k.calls, .slice a4 k.refuse.length c4]).keep k2; have y3 := bA.cell 3; have y4 := bA.cell 4; have lA := bA.lt; clear bA))
        go_ret
        exact ⟨by rw [HF.out]; rfl, (by first | exact Chg.keep ((Chg.refl 0 0 w).alloc _) k2 | exact (Chg.refl 0 0 w).alloc _)⟩
      · have hd : decide ((k.refuse.length : Int) ≤ 40) = false := decide_eq_false h40
        have HF := Lib.hid (kernelOk_no2 hb)
        go_wp2_with (first | (go_at_call 62; refine (l01In_any _ _ _ _).mono ?_; rintro e w' ⟨rfl, rfl⟩) | (go_at_call 49; refine (machineOk_spec _ _ (hm.keep ((Chg.refl 0 0 w).alloc _)) hs.ma).mono ?_; rw [hok]; rintro e w2 ⟨rfl, k2⟩; have bA := (Blk.new w 47 #[.slice a1 k.ma.fr.cells.length c1, .slice a2 k.ma.fr.used.length c2, .slice a3 k.ma.tb.length c3, .int .i64 k.calls, .slice a4 k.refuse.length c4]).keep k2; have y3 := bA.cell 3; have y4 := bA.cell 4; have lA := bA.lt; clear bA))
        go_ret
        exact ⟨by rw [HF.out]; rfl, (by first | exact Chg.keep ((Chg.refl 0 0 w).alloc _) k2 | exact (Chg.refl 0 0 w).alloc _)⟩
      · have hd : decide ((k.refuse.length : Int) ≤ 40) = true := decide_eq_true h40
        have HF := Lib.hid (kernelOk_yes HA.out hb (by omega) hok)
        go_wp2_with (first | (go_at_call 62; refine (l01In_any _ _ _ _).mono ?_; rintro e w' ⟨rfl, rfl⟩) | (go_at_call 49; refine (machineOk_spec _ _ (hm.keep ((Chg.refl 0 0 w).alloc _)) hs.ma).mono ?_; rw [hok]; rintro e w2 ⟨rfl, k2⟩; have bA := (Blk.new w 47 #[.slice a1 k.ma.fr.cells.length c1, .slice a2 k.ma.fr.used.length c2, .slice a3 k.ma.tb.length c3, .int .i64 k.calls, .slice a4 k.refuse.length c4]).keep k2; have y3 := bA.cell 3; have y4 := bA.cell 4; have lA := bA.lt; clear bA))
        go_ret
        exact ⟨by rw [HF.out]; rfl, (by first | exact Chg.keep ((Chg.refl 0 0 w).alloc _) k2 | exact (Chg.refl 0 0 w).alloc _)⟩
      · have hd : decide ((k.refuse.length : Int) ≤ 40) = false := decide_eq_false h40
        have HF := Lib.hid (kernelOk_no3 (k := k) (by omega))
        go_wp2_with (first | (go_at_call 62; refine (l01In_any _ _ _ _).mono ?_; rintro e w' ⟨rfl, rfl⟩) | (go_at_call 49; refine (machineOk_spec _ _ (hm.keep ((Chg.refl 0 0 w).alloc _)) hs.ma).mono ?_; rw [hok]; rintro e w2 ⟨rfl, k2⟩; have bA := (Blk.new w 47 #[.slice a1 k.ma.fr.cells.length c1, .slice a2 k.ma.fr.used.length c2, .slice a3 k.ma.tb.length c3, .int .i64 k.calls, .slice a4 k.refuse.length c4]).keep k2; have y3 := bA.cell 3; have y4 := bA.cell 4; have lA := bA.lt; clear bA))
        go_ret
        exact ⟨by rw [HF.out]; rfl, (by first | exact Chg.keep ((Chg.refl 0 0 w).alloc _) k2 | exact (Chg.refl 0 0 w).alloc _)⟩
end Go.Proofs.Ytkcoehkfhffjkaa
