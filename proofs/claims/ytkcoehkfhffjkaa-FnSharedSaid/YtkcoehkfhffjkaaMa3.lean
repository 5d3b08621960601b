/- Machines: the entry of an address, and Load; of both. Printed by wip/tools/mk_ma3.py. -/
import Derived.Test.YtkcoehkfhffjkaaMa2
namespace Go.Proofs.Ytkcoehkfhffjkaa
open Go.ChangeShapes Go.WideShapes Go.ChangeAt Go.RowKit
set_option linter.unusedSimpArgs false
set_option linter.unusedVariables false
set_option maxRecDepth 100000

theorem entryAt_neg {m : MaD} {a : Int} (h : a < 0) : entryAtD m a = (0, 0) := by unfold entryAtD; rw [decide_eq_false (by omega)]; rfl
theorem entryAt_no {m : MaD} {a : Int} (h : machineOkB m = false) : entryAtD m a = (0, 0) := by unfold entryAtD; rw [h]; simp
theorem entryAt_yes {m : MaD} {a : Int} (h0 : 0 ≤ a) (h : machineOkB m = true) : entryAtD m a = entryD m.tb (a / 16) := by unfold entryAtD; rw [h, decide_eq_true h0]; rfl
theorem at_parts {m : MaD} {a : Int} (h : (entryAtD m a).1 ≠ 0) : 0 ≤ a ∧ MOk m ∧ entryAtD m a = entryD m.tb (a / 16) ∧ 0 ≤ (entryAtD m a).2 ∧ (entryAtD m a).2 < m.fr.cells.length ∧ (m.fr.cells.getD (entryAtD m a).2.toNat []).length = 16 ∧ m.fr.used.getD (entryAtD m a).2.toNat false = true ∧ ((entryAtD m a).1 = 1 ∨ (entryAtD m a).1 = 2) := by
  have hx : (decide (0 ≤ a) && machineOkB m) = true := by
    unfold entryAtD at h
    by_cases hx : (decide (0 ≤ a) && machineOkB m) = true
    · exact hx
    · rw [if_neg hx] at h; exact absurd rfl h
  rw [Bool.and_eq_true, decide_eq_true_eq] at hx
  have e := entryAt_yes hx.1 hx.2
  have hm := machineOk_iff.1 hx.2
  rw [e] at h
  obtain ⟨hb, e2⟩ := entryD_in h
  have hj := btw_len hb
  have hne := h
  rw [e2] at hne
  obtain ⟨f1, f2, f3⟩ := hm.frame hj hne
  have hu := hm.fr.used
  have hent := entOk_iff.1 (hm.tb.ent _ hj)
  rw [e, e2]
  have hi : (m.tb.getD (a / 16).toNat (0, 0)).2.toNat < m.fr.cells.length := by omega
  exact ⟨hx.1, hm, rfl, f1, by omega, (rowOk_iff.1 (hm.fr.row _ hi)).1, f3, by have := hent.1; have := hent.2.1; omega⟩
def lEntD (m : MaD) (a : Int) : Int × Int := if 0 ≤ a then entryD m.tb (a / 16) else (0, 0)
def lOff (a : Int) : Int := if 0 ≤ a then a % 16 else 0
theorem lEnt_ok {m : MaD} {a : Int} (h : machineOkB m = true) : lEntD m a = entryAtD m a := by
  unfold lEntD
  by_cases h0 : 0 ≤ a
  · rw [if_pos h0, entryAt_yes h0 h]
  · rw [if_neg h0, entryAt_neg (by omega)]
theorem entryAt_any {lo hi : Nat} {m : MaD} (v : Value) (a : Int) (w : World) (h : MA lo hi w v m) (hs : sm_Machine m) (ha : a ≤ 9223372036854775807) :
    Calls Try.prog 64 #[v, .int .i64 a] w fun e w' => e = .returned (.agg #[.int .i64 (entryAtD m a).1, .int .i64 (entryAtD m a).2]) ∧ Keep w w' := by
  have htl := hs.tb
  obtain ⟨a1, c1, a2, c2, a3, c3, rfl, hf, ht⟩ := h.slices
  by_cases h0 : a < 0
  · have HE := Lib.hid (entryAt_neg (m := m) h0)
    go_enter Try.func64, Try.ntmps64
    go_wp2_with fail
    exact bodyPost_ret (v := .agg #[.int .i64 0, .int .i64 0]) (by simp [results, Try.results64, go_sem]) rfl ⟨by rw [HE.out], by repeat (first | exact Chg.refl _ _ _ | apply Chg.alloc)⟩
  · obtain ⟨n, rfl⟩ : ∃ n : Nat, a = n := ⟨a.toNat, by omega⟩
    cases hok : machineOkB m
    · have HE := Lib.hid (entryAt_no (a := (n : Int)) hok)
      go_enter Try.func64, Try.ntmps64
      go_wp2_with (go_at_call 38; refine (machineOk_any _ _ (h.keep (by repeat (first | exact Chg.refl _ _ _ | apply Chg.alloc))) hs).mono ?_; rw [hok]; rintro e w1 ⟨rfl, k1⟩; have bR := (blk1 w (.cells #[.slice a1 m.fr.cells.length c1, .slice a2 m.fr.used.length c2, .slice a3 m.tb.length c3] 39 (0, 0)) 65 #[.int .i64 0, .int .i64 0]).keep k1; have x0 := bR.cell 0; have x1 := bR.cell 1; have f0 := bR.frozen 0; have f1 := bR.frozen 1; have lR := bR.lt)
      exact bodyPost_ret (v := .agg #[.int .i64 0, .int .i64 0]) (by simp [results, Try.results64, go_sem, x0, x1, lR]) rfl ⟨by rw [HE.out], by repeat (first | exact Chg.keep (by repeat (first | exact Chg.refl _ _ _ | apply Chg.alloc)) k1 | (refine Chg.set ?_ _ _ _ (.inr (by omega))))⟩
    · have HE := Lib.hid (entryAt_yes (m := m) (a := (n : Int)) (by omega) hok)
      go_enter Try.func64, Try.ntmps64
      go_wp2_with (first | (go_at_call 38; refine (machineOk_any _ _ (h.keep (by repeat (first | exact Chg.refl _ _ _ | apply Chg.alloc))) hs).mono ?_; rw [hok]; rintro e w1 ⟨rfl, k1⟩; have q1 : Keep w w1 := Chg.keep (by repeat (first | exact Chg.refl _ _ _ | apply Chg.alloc)) k1; have bA := (Blk.new w 39 #[.slice a1 m.fr.cells.length c1, .slice a2 m.fr.used.length c2, .slice a3 m.tb.length c3]).keep (Chg.keep ((Chg.refl 0 0 _).alloc _) k1); have bR := (blk1 w (.cells #[.slice a1 m.fr.cells.length c1, .slice a2 m.fr.used.length c2, .slice a3 m.tb.length c3] 39 (0, 0)) 65 #[.int .i64 0, .int .i64 0]).keep k1; have y2 := bA.cell 2; have lA := bA.lt) | (go_at_call 52; refine (pageEntry_any _ _ _ ⟨_, rfl, ht.keep q1⟩ (by omega)).mono ?_; rintro e w2 ⟨rfl, k2⟩; replace bR := bR.keep k2; have x0 := bR.cell 0; have x1 := bR.cell 1; have f0 := bR.frozen 0; have f1 := bR.frozen 1; have lR := bR.lt))
      exact bodyPost_ret (v := .agg #[.int .i64 (entryD m.tb ((n : Int) / 16)).1, .int .i64 (entryD m.tb ((n : Int) / 16)).2]) (by simp [results, Try.results64, go_sem, x0, x1, lR]) rfl ⟨by rw [HE.out], by repeat (first | exact q1.keep k2 | (refine Chg.set ?_ _ _ _ (.inr (by omega))))⟩
theorem lEntry_spec {lo hi : Nat} {m : MaD} (v : Value) (a : Int) (w : World) (h : MA lo hi w v m) (hs : sm_Machine m) (ha : a ≤ 9223372036854775807) :
    Calls Try.prog 61 #[v, .int .i64 a] w fun e w' => e = .returned (.tuple #[.agg #[.int .i64 (lEntD m a).1, .int .i64 (lEntD m a).2], .int .i64 (lOff a)]) ∧ Keep w w' := by
  have htl := hs.tb
  obtain ⟨a1, c1, a2, c2, a3, c3, rfl, hf, ht⟩ := h.slices
  by_cases h0 : a < 0
  · have HE := Lib.hid (show lEntD m a = (0, 0) by unfold lEntD; rw [if_neg (by omega)])
    have HO := Lib.hid (show lOff a = 0 by unfold lOff; rw [if_neg (by omega)])
    go_enter Try.func61, Try.ntmps61
    go_wp2_with fail
    exact bodyPost_ret (v := .tuple #[.agg #[.int .i64 0, .int .i64 0], .int .i64 0]) (by simp [results, Try.results61, go_sem]) rfl ⟨by rw [HE.out, HO.out], by repeat (first | exact Chg.refl _ _ _ | apply Chg.alloc)⟩
  · obtain ⟨n, rfl⟩ : ∃ n : Nat, a = n := ⟨a.toNat, by omega⟩
    have HE := Lib.hid (show lEntD m (n : Int) = entryD m.tb ((n : Int) / 16) by unfold lEntD; rw [if_pos (by omega)])
    have HO := Lib.hid (show lOff (n : Int) = (n : Int) % 16 by unfold lOff; rw [if_pos (by omega)])
    go_enter Try.func61, Try.ntmps61
    go_wp2_with (go_at_call 35; refine (pageEntry_spec _ _ _ ⟨_, rfl, ht.keep (by repeat (first | exact Chg.refl _ _ _ | apply Chg.alloc))⟩ (by omega)).mono ?_; rintro e w2 ⟨rfl, k2⟩; have q2 : Keep w w2 := Chg.keep (by repeat (first | exact Chg.refl _ _ _ | apply Chg.alloc)) k2; have bR := (blk1 w (.cells #[.slice a1 m.fr.cells.length c1, .slice a2 m.fr.used.length c2, .slice a3 m.tb.length c3] 39 (0, 0)) 65 #[.int .i64 0, .int .i64 0]).keep k2; have x0 := bR.cell 0; have x1 := bR.cell 1; have f0 := bR.frozen 0; have f1 := bR.frozen 1; have lR := bR.lt)
    exact bodyPost_ret (v := .tuple #[.agg #[.int .i64 (entryD m.tb ((n : Int) / 16)).1, .int .i64 (entryD m.tb ((n : Int) / 16)).2], .int .i64 ((n : Int) % 16)]) (by simp [results, Try.results61, go_sem, x0, x1, lR]) rfl ⟨by rw [HE.out, HO.out], by repeat (first | exact q2 | (refine Chg.set ?_ _ _ _ (.inr (by omega))))⟩
theorem load_no {m : MaD} {a : Int} (h : (entryAtD m a).1 = 0) : loadD m a = 0 ∧ loadC m a = 1 := by unfold loadD loadC; rw [if_pos h, if_pos h]; exact ⟨rfl, rfl⟩
theorem load_yes {m : MaD} {a : Int} (h : (entryAtD m a).1 ≠ 0) : loadD m a = (m.fr.cells.getD (entryAtD m a).2.toNat []).getD (a % 16).toNat 0 ∧ loadC m a = 0 := by unfold loadD loadC; rw [if_neg h, if_neg h]; exact ⟨rfl, rfl⟩
theorem load_any {lo hi : Nat} {m : MaD} (v : Value) (a : Int) (w : World) (h : MA lo hi w v m) (hs : sm_Machine m) (ha : a ≤ 9223372036854775807) :
    Calls Try.prog 36 #[v, .int .i64 a] w fun e w' => e = .returned (.tuple #[.int .i64 (loadD m a), .int .i64 (loadC m a)]) ∧ Keep w w' := by
  have hcl : m.fr.cells.length ≤ 1048576 := by have := hs.fr; unfold sm_Frames at this; omega
  obtain ⟨a1, c1, a2, c2, a3, c3, rfl, hf, ht⟩ := h.slices
  by_cases hz : (entryAtD m a).1 = 0
  · obtain ⟨e1, e2⟩ := load_no hz
    have HE := Lib.hid e1
    have HC := Lib.hid e2
    clear e1 e2
    go_enter Try.func36, Try.ntmps36
    go_wp2_with (go_at_call 64; refine (entryAt_any _ _ _ (h.keep (by repeat (first | exact Chg.refl _ _ _ | apply Chg.alloc))) hs ha).mono ?_; rw [hz]; rintro e w1 ⟨rfl, k1⟩)
    go_ret2
    exact ⟨by rw [HE.out, HC.out]; rfl, (Chg.keep (by repeat (first | exact Chg.refl _ _ _ | apply Chg.alloc)) k1).alloc _⟩
  · obtain ⟨e1, e2⟩ := load_yes hz
    have HE := Lib.hid e1
    have HC := Lib.hid e2
    obtain ⟨p0, -, -, p1, p2, p3, -, -⟩ := at_parts hz
    have z1 : ((entryAtD m a).1 == 0) = false := by rw [beq_eq_false_iff_ne]; exact hz
    clear e1 e2 hz
    obtain ⟨n, rfl⟩ : ∃ n : Nat, a = n := ⟨a.toNat, by omega⟩
    have hlt : (entryAtD m (n : Int)).2.toNat < m.fr.cells.length := by omega
    obtain ⟨g, gr, d, rfl, _, _, lg, cu, _, _, lr, cr, _, _⟩ := hf.cellFull (entryAtD m (n : Int)).2.toNat (n % 16) hlt (by omega)
    rw [p3] at cu
    have HM := Lib.hid (show ((n : Int) % 16).toNat = n % 16 by omega)
    rw [HM.out] at HE
    generalize (m.fr.cells.getD (entryAtD m (n : Int)).2.toNat []).getD (n % 16) 0 = x at *
    clear p3 hlt
    go_enter Try.func36, Try.ntmps36
    go_wp2_with (go_at_call 64; refine (entryAt_any _ _ _ (h.keep (by repeat (first | exact Chg.refl _ _ _ | apply Chg.alloc))) hs ha).mono ?_; rintro e w1 ⟨rfl, k1⟩; have q1 : Keep w w1 := Chg.keep (by repeat (first | exact Chg.refl _ _ _ | apply Chg.alloc)) k1; have bA := (Blk.new w 39 #[.slice (some ⟨g, 0, none⟩) m.fr.cells.length c1, .slice a2 m.fr.used.length c2, .slice a3 m.tb.length c3]).keep k1; have x0 := bA.cell 0; have x1 := bA.cell 1; have lA := bA.lt; have cu1 := (Keep.grown q1 none).cell cu (by simp); have cr1 := (Keep.grown q1 none).cell cr (by simp); have lg1 := Nat.lt_of_lt_of_le lg q1.size; have lr1 := Nat.lt_of_lt_of_le lr q1.size)
    go_ret2
    exact ⟨by rw [HE.out, HC.out]; rfl, q1.alloc _⟩
theorem load_spec {lo hi : Nat} {m : MaD} (v : Value) (a : Int) (w : World) (h : MA lo hi w v m) (hs : sm_Machine m) (ha : a ≤ 9223372036854775807) :
    Calls Try.prog 37 #[v, .int .i64 a] w fun e w' => e = .returned (.tuple #[.int .i64 (loadD m a), .int .i64 (loadC m a)]) ∧ Keep w w' := by
  have hcl : m.fr.cells.length ≤ 1048576 := by have := hs.fr; unfold sm_Frames at this; omega
  obtain ⟨a1, c1, a2, c2, a3, c3, rfl, hf, ht⟩ := h.slices
  cases hok : machineOkB m
  · obtain ⟨e1, e2⟩ := load_no (m := m) (a := a) (by rw [entryAt_no hok])
    have HE := Lib.hid e1
    have HC := Lib.hid e2
    clear e1 e2
    go_enter Try.func37, Try.ntmps37
    go_wp2_with (first | (go_at_call 61; refine (lEntry_spec _ _ _ (h.keep (by repeat (first | exact Chg.refl _ _ _ | apply Chg.alloc))) hs ha).mono ?_; rintro e w1 ⟨rfl, k1⟩; have q1 : Keep w w1 := Chg.keep (by repeat (first | exact Chg.refl _ _ _ | apply Chg.alloc)) k1; have bA := (Blk.new w 39 #[.slice a1 m.fr.cells.length c1, .slice a2 m.fr.used.length c2, .slice a3 m.tb.length c3]).keep k1; have x0 := bA.cell 0; have x1 := bA.cell 1; have x2 := bA.cell 2; have lA := bA.lt) | (go_at_call 49; refine (machineOk_spec _ _ (h.keep (q1.alloc _)) hs).mono ?_; rw [hok]; rintro e w2 ⟨rfl, k2⟩))
    go_ret2
    exact ⟨by rw [HE.out, HC.out]; rfl, (q1.alloc _).keep k2⟩
  have hle := lEnt_ok (a := a) hok
  by_cases hz : (entryAtD m a).1 = 0
  · obtain ⟨e1, e2⟩ := load_no hz
    have HE := Lib.hid e1
    have HC := Lib.hid e2
    have HL := Lib.hid (hle ▸ hz : (lEntD m a).1 = 0)
    clear e1 e2 hz hle
    go_enter Try.func37, Try.ntmps37
    go_wp2_with (first | (go_at_call 61; refine (lEntry_spec _ _ _ (h.keep (by repeat (first | exact Chg.refl _ _ _ | apply Chg.alloc))) hs ha).mono ?_; rw [HL.out]; rintro e w1 ⟨rfl, k1⟩; have q1 : Keep w w1 := Chg.keep (by repeat (first | exact Chg.refl _ _ _ | apply Chg.alloc)) k1; have bA := (Blk.new w 39 #[.slice a1 m.fr.cells.length c1, .slice a2 m.fr.used.length c2, .slice a3 m.tb.length c3]).keep k1; have x0 := bA.cell 0; have x1 := bA.cell 1; have x2 := bA.cell 2; have lA := bA.lt) | (go_at_call 49; refine (machineOk_spec _ _ (h.keep (q1.alloc _)) hs).mono ?_; rw [hok]; rintro e w2 ⟨rfl, k2⟩; have bE := (Blk.new w1 65 #[.int .i64 0, .int .i64 (lEntD m a).2]).keep k2; have y0 := bE.cell 0; have lE := bE.lt))
    go_ret2
    exact ⟨by rw [HE.out, HC.out]; rfl, (q1.alloc _).keep k2⟩
  · obtain ⟨e1, e2⟩ := load_yes hz
    have HE := Lib.hid e1
    have HC := Lib.hid e2
    obtain ⟨p0, -, -, p1, p2, p3, -, -⟩ := at_parts hz
    have z1 : ((lEntD m a).1 == 0) = false := by rw [hle, beq_eq_false_iff_ne]; exact hz
    rw [← hle] at p1 p2 p3 HE
    clear e1 e2 hz hle
    obtain ⟨n, rfl⟩ : ∃ n : Nat, a = n := ⟨a.toNat, by omega⟩
    have HO := Lib.hid (show lOff (n : Int) = ((n % 16 : Nat) : Int) by unfold lOff; rw [if_pos (by omega)]; omega)
    have hlt : (lEntD m (n : Int)).2.toNat < m.fr.cells.length := by omega
    obtain ⟨g, gr, d, rfl, _, _, lg, cu, _, _, lr, cr, _, _⟩ := hf.cellFull (lEntD m (n : Int)).2.toNat (n % 16) hlt (by omega)
    rw [p3] at cu
    have HM := Lib.hid (show ((n : Int) % 16).toNat = n % 16 by omega)
    rw [HM.out] at HE
    generalize (m.fr.cells.getD (lEntD m (n : Int)).2.toNat []).getD (n % 16) 0 = x at *
    have hk : n % 16 < 16 := by omega
    clear p3 hlt
    go_enter Try.func37, Try.ntmps37
    go_wp2_with (first | (go_at_call 61; refine (lEntry_spec _ _ _ (h.keep (by repeat (first | exact Chg.refl _ _ _ | apply Chg.alloc))) hs ha).mono ?_; rw [HO.out]; rintro e w1 ⟨rfl, k1⟩; have q1 : Keep w w1 := Chg.keep (by repeat (first | exact Chg.refl _ _ _ | apply Chg.alloc)) k1; have bA := (Blk.new w 39 #[.slice (some ⟨g, 0, none⟩) m.fr.cells.length c1, .slice a2 m.fr.used.length c2, .slice a3 m.tb.length c3]).keep k1; have x0 := bA.cell 0; have x1 := bA.cell 1; have x2 := bA.cell 2; have lA := bA.lt) | (go_at_call 49; refine (machineOk_spec _ _ (h.keep (q1.alloc _)) hs).mono ?_; rw [hok]; rintro e w2 ⟨rfl, k2⟩; have bE := (Blk.new w1 65 #[.int .i64 (lEntD m (n : Int)).1, .int .i64 (lEntD m (n : Int)).2]).keep k2; have y0 := bE.cell 0; have y1 := bE.cell 1; have lE := bE.lt; have bA2 := bA.keep ((Chg.refl 0 0 w1).alloc (.cells #[.int .i64 (lEntD m (n : Int)).1, .int .i64 (lEntD m (n : Int)).2] 65 (0, 0)) |>.keep k2); have u0 := bA2.cell 0; have u1 := bA2.cell 1; have lA2 := bA2.lt; have qw : Keep w w2 := (q1.alloc _).keep k2; have cu1 := (Keep.grown qw none).cell cu (by simp); have cr1 := (Keep.grown qw none).cell cr (by simp); have lg1 := Nat.lt_of_lt_of_le lg qw.size; have lr1 := Nat.lt_of_lt_of_le lr qw.size))
    go_ret2
    exact ⟨by rw [HE.out, HC.out]; rfl, qw⟩
end Go.Proofs.Ytkcoehkfhffjkaa
