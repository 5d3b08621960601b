/- Machines: MachineNew, MachineOk, the entry of an address, Load; of both. Printed by wip/tools/mk_ma2.py. -/
import Derived.Test.YtkcoehkfhffjkaaMa
import Derived.Deep.RegionHeld3
namespace Go.Proofs.Ytkcoehkfhffjkaa
open Go.ChangeShapes Go.WideShapes Go.ChangeAt Go.RowKit
set_option linter.unusedSimpArgs false
set_option linter.unusedVariables false
set_option maxRecDepth 100000

theorem machineNew_any (p n : Int) (w : World) :
    Calls Try.prog 59 #[.int .i64 p, .int .i64 n] w fun e w' => ∃ v, e = .returned (.tuple #[v, .bool (machineNewOk p n)]) ∧ MA w.heap.size w'.heap.size w' v (machineNewD p n) ∧ Keep w w' := by
  have hfin : ∀ b : Bool, machineNewOk p n = b → Calls Try.prog 59 #[.int .i64 p, .int .i64 n] w fun e w' => ∃ v, e = .returned (.tuple #[v, .bool (machineNewOk p n)]) ∧ MA w.heap.size w'.heap.size w' v (machineNewD p n) ∧ Keep w w' := by
    intro b hb
    have HB := Lib.hid hb
    have HD := Lib.hid (show machineNewD p n = if machineNewOk p n then ⟨framesNewD n, if btw p 1 32 then List.replicate p.toNat ((0 : Int), (0 : Int)) else []⟩ else ⟨⟨[], []⟩, []⟩ by
      unfold machineNewD machineNewOk
      cases h1 : btw n 1 32
      · rfl
      · cases h2 : btw p 1 32
        · rfl
        · rfl)
    unfold machineNewOk at hb
    go_enter Try.func59, Try.ntmps59
    go_wp2_with fail
    refine (framesNew_any _ _).mono ?_
    rintro e w1 ⟨v1, rfl, h1, k1⟩
    have bR := (Blk.new w 39 #[.slice none 0 0, .slice none 0 0, .slice none 0 0]).keep k1
    have q1 : Keep w w1 := Chg.keep ((Chg.refl 0 0 w).alloc _) k1
    have hz := k1.size
    rw [size_alloc] at h1 hz
    obtain ⟨b1, d1, b2, d2, rfl, h1⟩ := h1.slices
    generalize framesNewD n = fr at *
    clear k1
    go_wp2_with fail
    refine (tableNew_any _ _).mono ?_
    rintro e w2 ⟨v2, rfl, h2, k2⟩
    generalize (if btw p 1 32 then List.replicate p.toNat ((0 : Int), (0 : Int)) else []) = tb at *
    have bF := (Blk.new w1 34 #[.slice b1 fr.cells.length d1, .slice b2 fr.used.length d2]).keep k2
    have q2 : Keep w1 w2 := Chg.keep ((Chg.refl 0 0 w1).alloc _) k2
    have hz2 := k2.size
    rw [size_alloc] at h2 hz2
    obtain ⟨b3, d3, rfl, h2'⟩ := h2.opened
    replace bR := bR.keep q2
    have cR0 := bR.cell 0
    have cR1 := bR.cell 1
    have cR2 := bR.cell 2
    have fR0 := bR.frozen 0
    have fR1 := bR.frozen 1
    have fR2 := bR.frozen 2
    have lR := bR.lt
    have cF0 := bF.cell 0
    have cF1 := bF.cell 1
    have lF := bF.lt
    replace h1 := h1.keep q2
    have q := q1.keep q2
    clear bR bF k2
    cases b
    · have HX := Lib.hid (show machineNewD p n = ⟨⟨[], []⟩, []⟩ by rw [HD.out, HB.out]; rfl)
      cases hn : btw n 1 32
      · go_wp2_with fail
        refine bodyPost_ret (v := .tuple #[.agg #[.slice none 0 0, .slice none 0 0, .slice none 0 0], .bool false]) (by simp [results, Try.results59, go_sem, cR0, cR1, cR2, lR]) rfl ⟨_, by rw [HB.out], by rw [HX.out]; exact MA.mk (FR.mk (SS.nil _ _ _) (SB.nil _ _ _)) (SE.nil _ _ _), ?_⟩
        exact (by repeat (first | exact q | apply Chg.alloc | (refine Chg.set ?_ _ _ _ (.inr (by omega)))))
      · rw [hn, Bool.true_and] at hb
        go_wp2_with fail
        refine bodyPost_ret (v := .tuple #[.agg #[.slice none 0 0, .slice none 0 0, .slice none 0 0], .bool false]) (by simp [results, Try.results59, go_sem, cR0, cR1, cR2, lR]) rfl ⟨_, by rw [HB.out], by rw [HX.out]; exact MA.mk (FR.mk (SS.nil _ _ _) (SB.nil _ _ _)) (SE.nil _ _ _), ?_⟩
        exact (by repeat (first | exact q | apply Chg.alloc | (refine Chg.set ?_ _ _ _ (.inr (by omega)))))
    · have HX := Lib.hid (show machineNewD p n = ⟨fr, tb⟩ by rw [HD.out, HB.out]; rfl)
      rw [Bool.and_eq_true] at hb
      obtain ⟨hn, hp⟩ := hb
      go_wp2_with fail
      refine bodyPost_ret (v := .tuple #[.agg #[.slice b1 fr.cells.length d1, .slice b2 fr.used.length d2, .slice b3 tb.length d3], .bool true]) (by simp [results, Try.results59, go_sem, cR0, cR1, cR2, lR]) rfl ⟨_, by rw [HB.out], ?_, ?_⟩
      · rw [HX.out]
        refine MA.mk ?_ ?_
        · exact ((h1.mv (l := w.heap.size) (h := w.heap.size + 1) (by repeat (first | exact Chg.refl _ _ _ | (refine Chg.set ?_ _ _ _ (.inl ⟨by omega, by omega⟩)))) (by omega)).keep ((Chg.refl 0 0 _).alloc _)).wide (by omega) (by simp only [size_alloc, size_set]; omega)
        · exact ((h2'.mv (l := w.heap.size) (h := w.heap.size + 1) (by repeat (first | exact Chg.refl _ _ _ | (refine Chg.set ?_ _ _ _ (.inl ⟨by omega, by omega⟩)))) (by omega)).keep ((Chg.refl 0 0 _).alloc _)).wide (by omega) (by simp only [size_alloc, size_set]; omega)
      · exact (by repeat (first | exact q | apply Chg.alloc | (refine Chg.set ?_ _ _ _ (.inr (by omega)))))
  exact hfin _ rfl
theorem machineNew_spec (p n : Int) (w : World) :
    Calls Try.prog 58 #[.int .i64 p, .int .i64 n] w fun e w' => ∃ v, e = .returned (.tuple #[v, .bool (machineNewOk p n)]) ∧ MA w.heap.size w'.heap.size w' v (machineNewD p n) ∧ Keep w w' := by
  have hfin : ∀ b : Bool, machineNewOk p n = b → Calls Try.prog 58 #[.int .i64 p, .int .i64 n] w fun e w' => ∃ v, e = .returned (.tuple #[v, .bool (machineNewOk p n)]) ∧ MA w.heap.size w'.heap.size w' v (machineNewD p n) ∧ Keep w w' := by
    intro b hb
    have HB := Lib.hid hb
    have HD := Lib.hid (show machineNewD p n = if machineNewOk p n then ⟨framesNewD n, if btw p 1 32 then List.replicate p.toNat ((0 : Int), (0 : Int)) else []⟩ else ⟨⟨[], []⟩, []⟩ by
      unfold machineNewD machineNewOk
      cases h1 : btw n 1 32
      · rfl
      · cases h2 : btw p 1 32
        · rfl
        · rfl)
    unfold machineNewOk at hb
    go_enter Try.func58, Try.ntmps58
    go_wp2_with fail
    refine (framesNew_spec _ _).mono ?_
    rintro e w1 ⟨v1, rfl, h1, k1⟩
    have bR := (Blk.new w 39 #[.slice none 0 0, .slice none 0 0, .slice none 0 0]).keep k1
    have q1 : Keep w w1 := Chg.keep ((Chg.refl 0 0 w).alloc _) k1
    have hz := k1.size
    rw [size_alloc] at h1 hz
    obtain ⟨b1, d1, b2, d2, rfl, h1⟩ := h1.slices
    generalize framesNewD n = fr at *
    clear k1
    go_wp2_with fail
    refine (tableNew_spec _ _).mono ?_
    rintro e w2 ⟨v2, rfl, h2, k2⟩
    generalize (if btw p 1 32 then List.replicate p.toNat ((0 : Int), (0 : Int)) else []) = tb at *
    have bF := (Blk.new w1 34 #[.slice b1 fr.cells.length d1, .slice b2 fr.used.length d2]).keep k2
    have q2 : Keep w1 w2 := Chg.keep ((Chg.refl 0 0 w1).alloc _) k2
    have hz2 := k2.size
    rw [size_alloc] at h2 hz2
    obtain ⟨b3, d3, rfl, h2'⟩ := h2.opened
    replace bR := bR.keep q2
    have cR0 := bR.cell 0
    have cR1 := bR.cell 1
    have cR2 := bR.cell 2
    have fR0 := bR.frozen 0
    have fR1 := bR.frozen 1
    have fR2 := bR.frozen 2
    have lR := bR.lt
    have cF0 := bF.cell 0
    have cF1 := bF.cell 1
    have lF := bF.lt
    replace h1 := h1.keep q2
    have q := q1.keep q2
    clear bR bF k2
    cases b
    · have HX := Lib.hid (show machineNewD p n = ⟨⟨[], []⟩, []⟩ by rw [HD.out, HB.out]; rfl)
      cases hn : btw n 1 32
      · go_wp2_with fail
        refine bodyPost_ret (v := .tuple #[.agg #[.slice none 0 0, .slice none 0 0, .slice none 0 0], .bool false]) (by simp [results, Try.results58, go_sem, cR0, cR1, cR2, lR]) rfl ⟨_, by rw [HB.out], by rw [HX.out]; exact MA.mk (FR.mk (SS.nil _ _ _) (SB.nil _ _ _)) (SE.nil _ _ _), ?_⟩
        exact (by repeat (first | exact q | apply Chg.alloc | (refine Chg.set ?_ _ _ _ (.inr (by omega)))))
      · rw [hn, Bool.true_and] at hb
        go_wp2_with fail
        refine bodyPost_ret (v := .tuple #[.agg #[.slice none 0 0, .slice none 0 0, .slice none 0 0], .bool false]) (by simp [results, Try.results58, go_sem, cR0, cR1, cR2, lR]) rfl ⟨_, by rw [HB.out], by rw [HX.out]; exact MA.mk (FR.mk (SS.nil _ _ _) (SB.nil _ _ _)) (SE.nil _ _ _), ?_⟩
        exact (by repeat (first | exact q | apply Chg.alloc | (refine Chg.set ?_ _ _ _ (.inr (by omega)))))
    · have HX := Lib.hid (show machineNewD p n = ⟨fr, tb⟩ by rw [HD.out, HB.out]; rfl)
      rw [Bool.and_eq_true] at hb
      obtain ⟨hn, hp⟩ := hb
      go_wp2_with fail
      refine bodyPost_ret (v := .tuple #[.agg #[.slice b1 fr.cells.length d1, .slice b2 fr.used.length d2, .slice b3 tb.length d3], .bool true]) (by simp [results, Try.results58, go_sem, cR0, cR1, cR2, lR]) rfl ⟨_, by rw [HB.out], ?_, ?_⟩
      · rw [HX.out]
        refine MA.mk ?_ ?_
        · exact ((h1.mv (l := w.heap.size) (h := w.heap.size + 1) (by repeat (first | exact Chg.refl _ _ _ | (refine Chg.set ?_ _ _ _ (.inl ⟨by omega, by omega⟩)))) (by omega)).keep ((Chg.refl 0 0 _).alloc _)).wide (by omega) (by simp only [size_alloc, size_set]; omega)
        · exact ((h2'.mv (l := w.heap.size) (h := w.heap.size + 1) (by repeat (first | exact Chg.refl _ _ _ | (refine Chg.set ?_ _ _ _ (.inl ⟨by omega, by omega⟩)))) (by omega)).keep ((Chg.refl 0 0 _).alloc _)).wide (by omega) (by simp only [size_alloc, size_set]; omega)
      · exact (by repeat (first | exact q | apply Chg.alloc | (refine Chg.set ?_ _ _ _ (.inr (by omega)))))
  exact hfin _ rfl
def OksTo (m : MaD) (k : Nat) : Prop := ∀ j, j < k → usedOkB m j = true
theorem OksTo.succ {m : MaD} {k : Nat} (h : OksTo m k) (h1 : usedOkB m k = true) : OksTo m (k + 1) := by
  intro j hj
  by_cases e : j = k
  · subst e; exact h1
  · exact h j (by omega)
theorem machineOk_no1 {m : MaD} (h : framesOkB m.fr = false) : machineOkB m = false := by unfold machineOkB; rw [h]; rfl
theorem machineOk_no2 {m : MaD} (h : tableOkB m.tb m.fr.used.length = false) : machineOkB m = false := by unfold machineOkB; rw [h]; simp
theorem machineOk_no3 {m : MaD} {k : Nat} (hk : k < m.fr.used.length) (h : usedOkB m k = false) : machineOkB m = false := by
  unfold machineOkB
  have : (List.range m.fr.used.length).all (usedOkB m) = false := by
    rw [List.all_eq_false]
    exact ⟨k, by simpa using hk, by rw [h]; simp⟩
  rw [this]; simp
theorem machineOk_yes {m : MaD} (h1 : framesOkB m.fr = true) (h2 : tableOkB m.tb m.fr.used.length = true) (h3 : OksTo m m.fr.used.length) : machineOkB m = true := by
  unfold machineOkB
  rw [h1, h2]
  simp only [Bool.true_and, List.all_eq_true, List.mem_range]
  exact h3
theorem usedOk_eq {m : MaD} {k : Nat} {u b : Bool} (hu : m.fr.used.getD k false = u) (hb : decide (0 < (onD m.tb k).length) = b) : usedOkB m k = (u == b) := by unfold usedOkB; rw [hu, hb]
theorem onD_bd (t : TbD) (f : Int) : (onD t f).length ≤ t.length := onTo_len t f t.length
theorem machineOk_any {lo hi : Nat} {m : MaD} (v : Value) (w : World) (h : MA lo hi w v m) (hs : sm_Machine m) :
    Calls Try.prog 38 #[v] w fun e w' => e = .returned (.bool (machineOkB m)) ∧ Keep w w' := by
  have hul : m.fr.used.length ≤ 1048576 := by have := hs.fr; unfold sm_Frames at this; omega
  have hcl : m.fr.cells.length ≤ 1048576 := by have := hs.fr; unfold sm_Frames at this; omega
  have htl := hs.tb
  obtain ⟨a1, c1, a2, c2, a3, c3, rfl, hf, ht⟩ := h.slices
  clear h
  cases hok : framesOkB m.fr
  · have HE := Lib.hid (machineOk_no1 hok)
    go_enter Try.func38, Try.ntmps38
    go_wp2_with (go_at_call 76; refine (framesOk_any _ _ (hf.keep ((Chg.refl 0 0 w).alloc _)) hs.fr).mono ?_; rw [hok]; rintro e w1 ⟨rfl, k1⟩; have bA := (Blk.new w 39 #[.slice a1 m.fr.cells.length c1, .slice a2 m.fr.used.length c2, .slice a3 m.tb.length c3]).keep k1; have x0 := bA.cell 0; have x1 := bA.cell 1; have x2 := bA.cell 2; have lx := bA.lt)
    go_ret
    exact ⟨by rw [HE.out]; rfl, by repeat (first | exact Chg.refl _ _ _ | apply Chg.alloc | exact Chg.keep (Chg.alloc (Chg.refl _ _ _) _) (by assumption) | exact Chg.keep (Chg.keep (Chg.alloc (Chg.refl _ _ _) _) (by assumption)) (by assumption))⟩
  · have HU := Lib.hid (framesOk_iff.1 hok).used
    cases htk : tableOkB m.tb m.fr.used.length
    · have HE := Lib.hid (machineOk_no2 htk)
      go_enter Try.func38, Try.ntmps38
      go_wp2_with (first | (go_at_call 76; refine (framesOk_any _ _ (hf.keep ((Chg.refl 0 0 w).alloc _)) hs.fr).mono ?_; rw [hok]; rintro e w1 ⟨rfl, k1⟩; have bA := (Blk.new w 39 #[.slice a1 m.fr.cells.length c1, .slice a2 m.fr.used.length c2, .slice a3 m.tb.length c3]).keep k1; have x0 := bA.cell 0; have x1 := bA.cell 1; have x2 := bA.cell 2; have lx := bA.lt) | (go_at_call 77; refine (tableOk_any _ _ _ ⟨_, rfl, ht.keep (Chg.keep ((Chg.refl 0 0 w).alloc _) k1)⟩ (by have := hs.tb; omega)).mono ?_; rw [htk]; rintro e w2 ⟨rfl, k2⟩; replace bA := bA.keep k2; have y0 := bA.cell 0; have y1 := bA.cell 1; have y2 := bA.cell 2; have ly := bA.lt))
      go_ret
      exact ⟨by rw [HE.out]; rfl, by repeat (first | exact Chg.refl _ _ _ | apply Chg.alloc | exact Chg.keep (Chg.alloc (Chg.refl _ _ _) _) (by assumption) | exact Chg.keep (Chg.keep (Chg.alloc (Chg.refl _ _ _) _) (by assumption)) (by assumption))⟩
    · have HYES := Lib.hid (machineOk_yes hok htk)
      go_enter Try.func38, Try.ntmps38
      go_wp2_with (first | (go_at_call 76; refine (framesOk_any _ _ (hf.keep ((Chg.refl 0 0 w).alloc _)) hs.fr).mono ?_; rw [hok]; rintro e w1 ⟨rfl, k1⟩; have bA := (Blk.new w 39 #[.slice a1 m.fr.cells.length c1, .slice a2 m.fr.used.length c2, .slice a3 m.tb.length c3]).keep k1; have x0 := bA.cell 0; have x1 := bA.cell 1; have x2 := bA.cell 2; have lx := bA.lt) | (go_at_call 77; refine (tableOk_any _ _ _ ⟨_, rfl, ht.keep (Chg.keep ((Chg.refl 0 0 w).alloc _) k1)⟩ (by have := hs.tb; omega)).mono ?_; rw [htk]; rintro e w2 ⟨rfl, k2⟩; replace bA := bA.keep k2; have y0 := bA.cell 0; have y1 := bA.cell 1; have y2 := bA.cell 2; have ly := bA.lt))
      have Q := Lib.hid (show Keep w w2 from Chg.keep (Chg.keep ((Chg.refl 0 0 w).alloc _) k1) k2)
      have BA := Lib.hid bA
      clear bA
      go_loopw [23] (fun i wr => ∃ k : Nat, k ≤ m.fr.used.length ∧ i = .int .i64 k ∧ OksTo m k ∧ Keep w2 wr) (fun i _ => m.fr.used.length - (intOf i).toNat)
      case atStart => exact ⟨0, Nat.zero_le _, rfl, fun j hj => by omega, Chg.refl _ _ _⟩
      case round =>
        obtain ⟨k, hk, rfl, ho, kr⟩ := hrel
        have bB := BA.out.keep kr
        have z0 := bB.cell 0
        have z1 := bB.cell 1
        have z2 := bB.cell 2
        have lz := bB.lt
        have HO := Lib.hid ho
        clear ho
        by_cases hlt : k < m.fr.used.length
        · obtain ⟨g, rfl, _, _, lg, cu, _⟩ := (hf.keep (Q.out.keep kr)).usedAt k hlt
          have hltI : (k : Int) < (m.fr.used.length : Int) := by omega
          have hob := onD_bd m.tb k
          rcases hu : m.fr.used.getD k false with _ | _
          all_goals rw [hu] at cu
          all_goals by_cases hpos : (0 : Int) < ((onD m.tb (k : Int)).length : Int)
          · have HB := Lib.hid (usedOk_eq (m := m) (k := k) hu (b := true) (decide_eq_true (by omega)))
            go_wp2_with (go_at_call 78; refine (pagesOn_any _ _ _ ⟨_, rfl, ht.keep (Q.out.keep kr)⟩ (by have := hs.tb; omega)).mono ?_; rintro e w4 ⟨v4, rfl, h4, k3⟩; obtain ⟨bo, dd, rfl, _, _⟩ := h4.opened; replace bB := bB.keep k3; have v0 := bB.cell 0; have v1 := bB.cell 1; have v2 := bB.cell 2; have lv := bB.lt)
            have HF := Lib.hid (machineOk_no3 hlt HB.out)
            go_ret
            exact ⟨by rw [HF.out]; rfl, (Q.out.keep kr).keep k3⟩
          · have HB := Lib.hid (usedOk_eq (m := m) (k := k) hu (b := false) (decide_eq_false (by omega)))
            have hd : (onD m.tb (k : Int)).length = 0 := by omega
            go_wp2_with (go_at_call 78; refine (pagesOn_any _ _ _ ⟨_, rfl, ht.keep (Q.out.keep kr)⟩ (by have := hs.tb; omega)).mono ?_; rintro e w4 ⟨v4, rfl, h4, k3⟩; obtain ⟨bo, dd, rfl, _, _⟩ := h4.opened; replace bB := bB.keep k3; have v0 := bB.cell 0; have v1 := bB.cell 1; have v2 := bB.cell 2; have lv := bB.lt)
            go_roundw
            case rel => exact ⟨k + 1, by omega, by go_num, HO.out.succ HB.out, kr.keep k3⟩
            case measure => simp [intOf]; omega
          · have HB := Lib.hid (usedOk_eq (m := m) (k := k) hu (b := true) (decide_eq_true (by omega)))
            have hd : 0 < (onD m.tb (k : Int)).length := by omega
            have hd2 : ¬ onD m.tb (k : Int) = [] := fun e => by rw [e] at hd; simp at hd
            go_wp2_with (go_at_call 78; refine (pagesOn_any _ _ _ ⟨_, rfl, ht.keep (Q.out.keep kr)⟩ (by have := hs.tb; omega)).mono ?_; rintro e w4 ⟨v4, rfl, h4, k3⟩; obtain ⟨bo, dd, rfl, _, _⟩ := h4.opened; replace bB := bB.keep k3; have v0 := bB.cell 0; have v1 := bB.cell 1; have v2 := bB.cell 2; have lv := bB.lt)
            go_roundw
            case rel => exact ⟨k + 1, by omega, by go_num, HO.out.succ HB.out, kr.keep k3⟩
            case measure => simp [intOf]; omega
          · have HB := Lib.hid (usedOk_eq (m := m) (k := k) hu (b := false) (decide_eq_false (by omega)))
            have hd : (onD m.tb (k : Int)).length = 0 := by omega
            go_wp2_with (go_at_call 78; refine (pagesOn_any _ _ _ ⟨_, rfl, ht.keep (Q.out.keep kr)⟩ (by have := hs.tb; omega)).mono ?_; rintro e w4 ⟨v4, rfl, h4, k3⟩; obtain ⟨bo, dd, rfl, _, _⟩ := h4.opened; replace bB := bB.keep k3; have v0 := bB.cell 0; have v1 := bB.cell 1; have v2 := bB.cell 2; have lv := bB.lt)
            have HF := Lib.hid (machineOk_no3 hlt HB.out)
            go_ret
            exact ⟨by rw [HF.out]; rfl, (Q.out.keep kr).keep k3⟩
        · obtain rfl : k = m.fr.used.length := by omega
          have HY := Lib.hid (HYES.out HO.out)
          go_wp2_with fail
          go_ret
          exact ⟨by rw [HY.out]; rfl, Q.out.keep kr⟩
theorem machineOk_spec {lo hi : Nat} {m : MaD} (v : Value) (w : World) (h : MA lo hi w v m) (hs : sm_Machine m) :
    Calls Try.prog 49 #[v] w fun e w' => e = .returned (.bool (machineOkB m)) ∧ Keep w w' := by
  have hul : m.fr.used.length ≤ 1048576 := by have := hs.fr; unfold sm_Frames at this; omega
  have hcl : m.fr.cells.length ≤ 1048576 := by have := hs.fr; unfold sm_Frames at this; omega
  have htl := hs.tb
  obtain ⟨a1, c1, a2, c2, a3, c3, rfl, hf, ht⟩ := h.slices
  clear h
  cases hok : framesOkB m.fr
  · have HE := Lib.hid (machineOk_no1 hok)
    go_enter Try.func49, Try.ntmps49
    go_wp2_with (go_at_call 83; refine (framesOk_spec _ _ (hf.keep ((Chg.refl 0 0 w).alloc _)) hs.fr).mono ?_; rw [hok]; rintro e w1 ⟨rfl, k1⟩; have bA := (Blk.new w 39 #[.slice a1 m.fr.cells.length c1, .slice a2 m.fr.used.length c2, .slice a3 m.tb.length c3]).keep k1; have x0 := bA.cell 0; have x1 := bA.cell 1; have x2 := bA.cell 2; have lx := bA.lt)
    go_ret
    exact ⟨by rw [HE.out]; rfl, by repeat (first | exact Chg.refl _ _ _ | apply Chg.alloc | exact Chg.keep (Chg.alloc (Chg.refl _ _ _) _) (by assumption) | exact Chg.keep (Chg.keep (Chg.alloc (Chg.refl _ _ _) _) (by assumption)) (by assumption))⟩
  · have HU := Lib.hid (framesOk_iff.1 hok).used
    cases htk : tableOkB m.tb m.fr.used.length
    · have HE := Lib.hid (machineOk_no2 htk)
      go_enter Try.func49, Try.ntmps49
      go_wp2_with (first | (go_at_call 83; refine (framesOk_spec _ _ (hf.keep ((Chg.refl 0 0 w).alloc _)) hs.fr).mono ?_; rw [hok]; rintro e w1 ⟨rfl, k1⟩; have bA := (Blk.new w 39 #[.slice a1 m.fr.cells.length c1, .slice a2 m.fr.used.length c2, .slice a3 m.tb.length c3]).keep k1; have x0 := bA.cell 0; have x1 := bA.cell 1; have x2 := bA.cell 2; have lx := bA.lt) | (go_at_call 88; refine (tableOk_spec _ _ _ ⟨_, rfl, ht.keep (Chg.keep ((Chg.refl 0 0 w).alloc _) k1)⟩ (by have := hs.tb; omega)).mono ?_; rw [← HU.out]; rw [htk]; rintro e w2 ⟨rfl, k2⟩; replace bA := bA.keep k2; have y0 := bA.cell 0; have y1 := bA.cell 1; have y2 := bA.cell 2; have ly := bA.lt))
      go_ret
      exact ⟨by rw [HE.out]; rfl, by repeat (first | exact Chg.refl _ _ _ | apply Chg.alloc | exact Chg.keep (Chg.alloc (Chg.refl _ _ _) _) (by assumption) | exact Chg.keep (Chg.keep (Chg.alloc (Chg.refl _ _ _) _) (by assumption)) (by assumption))⟩
    · have HYES := Lib.hid (machineOk_yes hok htk)
      go_enter Try.func49, Try.ntmps49
      go_wp2_with (first | (go_at_call 83; refine (framesOk_spec _ _ (hf.keep ((Chg.refl 0 0 w).alloc _)) hs.fr).mono ?_; rw [hok]; rintro e w1 ⟨rfl, k1⟩; have bA := (Blk.new w 39 #[.slice a1 m.fr.cells.length c1, .slice a2 m.fr.used.length c2, .slice a3 m.tb.length c3]).keep k1; have x0 := bA.cell 0; have x1 := bA.cell 1; have x2 := bA.cell 2; have lx := bA.lt) | (go_at_call 88; refine (tableOk_spec _ _ _ ⟨_, rfl, ht.keep (Chg.keep ((Chg.refl 0 0 w).alloc _) k1)⟩ (by have := hs.tb; omega)).mono ?_; rw [← HU.out]; rw [htk]; rintro e w2 ⟨rfl, k2⟩; replace bA := bA.keep k2; have y0 := bA.cell 0; have y1 := bA.cell 1; have y2 := bA.cell 2; have ly := bA.lt))
      have Q := Lib.hid (show Keep w w2 from Chg.keep (Chg.keep ((Chg.refl 0 0 w).alloc _) k1) k2)
      have BA := Lib.hid bA
      clear bA
      go_loopw [3] (fun i wr => ∃ k : Nat, k ≤ m.fr.used.length ∧ i = .int .i64 k ∧ OksTo m k ∧ Keep w2 wr) (fun i _ => m.fr.used.length - (intOf i).toNat)
      case atStart => exact ⟨0, Nat.zero_le _, rfl, fun j hj => by omega, Chg.refl _ _ _⟩
      case round =>
        obtain ⟨k, hk, rfl, ho, kr⟩ := hrel
        have bB := BA.out.keep kr
        have z0 := bB.cell 0
        have z1 := bB.cell 1
        have z2 := bB.cell 2
        have lz := bB.lt
        have HO := Lib.hid ho
        clear ho
        by_cases hlt : k < m.fr.used.length
        · obtain ⟨g, rfl, _, _, lg, cu, _⟩ := (hf.keep (Q.out.keep kr)).usedAt k hlt
          have hltI : (k : Int) < (m.fr.used.length : Int) := by omega
          have hob := onD_bd m.tb k
          rcases hu : m.fr.used.getD k false with _ | _
          all_goals rw [hu] at cu
          all_goals by_cases hpos : (0 : Int) < ((onD m.tb (k : Int)).length : Int)
          · have HB := Lib.hid (usedOk_eq (m := m) (k := k) hu (b := true) (decide_eq_true (by omega)))
            go_wp2_with fail
            go_region_held3 (fun z => z.cell? ⟨w.heap.size, 1, none⟩ = some (.slice (some ⟨g, 0, none⟩) m.fr.used.length c2) ∧ z.cell? ⟨w.heap.size, 2, none⟩ = some (.slice a3 m.tb.length c3) ∧ z.cell? ⟨g, k, none⟩ = some (.bool false)) (first | go_keep | exact ⟨(Keep.grown k3 none).cell z1 (by simp), (Keep.grown k3 none).cell z2 (by simp), (Keep.grown k3 none).cell cu (by simp)⟩) (first | (go_at_call 89; refine (pagesOn_spec _ _ _ ⟨_, rfl, ht.keep ((Q.out.keep kr).keep ((Chg.refl 0 0 _).drew))⟩ (by have := hs.tb; omega)).mono ?_; rintro e w4 ⟨v4, rfl, h4, k4⟩; obtain ⟨bo, dd, rfl, _, _⟩ := h4.opened; have k3 : Keep wr w4 := ((Chg.refl 0 0 wr).drew).keep k4))
            all_goals
              have HF := Lib.hid (machineOk_no3 hlt HB.out)
              go_wp2_with fail
              go_ret
              exact ⟨by rw [HF.out]; rfl, (Q.out.keep kr).keep k3⟩
          · have HB := Lib.hid (usedOk_eq (m := m) (k := k) hu (b := false) (decide_eq_false (by omega)))
            have hd : (onD m.tb (k : Int)).length = 0 := by omega
            go_wp2_with fail
            go_region_held3 (fun z => z.cell? ⟨w.heap.size, 1, none⟩ = some (.slice (some ⟨g, 0, none⟩) m.fr.used.length c2) ∧ z.cell? ⟨w.heap.size, 2, none⟩ = some (.slice a3 m.tb.length c3) ∧ z.cell? ⟨g, k, none⟩ = some (.bool false)) (first | go_keep | exact ⟨(Keep.grown k3 none).cell z1 (by simp), (Keep.grown k3 none).cell z2 (by simp), (Keep.grown k3 none).cell cu (by simp)⟩) (first | (go_at_call 89; refine (pagesOn_spec _ _ _ ⟨_, rfl, ht.keep ((Q.out.keep kr).keep ((Chg.refl 0 0 _).drew))⟩ (by have := hs.tb; omega)).mono ?_; rintro e w4 ⟨v4, rfl, h4, k4⟩; obtain ⟨bo, dd, rfl, _, _⟩ := h4.opened; have k3 : Keep wr w4 := ((Chg.refl 0 0 wr).drew).keep k4))
            all_goals
              go_wp2_with fail
              go_roundw
              case rel => exact ⟨k + 1, by omega, by go_num, HO.out.succ HB.out, kr.keep k3⟩
              case measure => simp [intOf]; omega
          · have HB := Lib.hid (usedOk_eq (m := m) (k := k) hu (b := true) (decide_eq_true (by omega)))
            have hd : 0 < (onD m.tb (k : Int)).length := by omega
            have hd2 : ¬ onD m.tb (k : Int) = [] := fun e => by rw [e] at hd; simp at hd
            go_wp2_with fail
            go_region_held3 (fun z => z.cell? ⟨w.heap.size, 1, none⟩ = some (.slice (some ⟨g, 0, none⟩) m.fr.used.length c2) ∧ z.cell? ⟨w.heap.size, 2, none⟩ = some (.slice a3 m.tb.length c3) ∧ z.cell? ⟨g, k, none⟩ = some (.bool true)) (first | go_keep | exact ⟨(Keep.grown k3 none).cell z1 (by simp), (Keep.grown k3 none).cell z2 (by simp), (Keep.grown k3 none).cell cu (by simp)⟩) (first | (go_at_call 89; refine (pagesOn_spec _ _ _ ⟨_, rfl, ht.keep ((Q.out.keep kr).keep ((Chg.refl 0 0 _).drew))⟩ (by have := hs.tb; omega)).mono ?_; rintro e w4 ⟨v4, rfl, h4, k4⟩; obtain ⟨bo, dd, rfl, _, _⟩ := h4.opened; have k3 : Keep wr w4 := ((Chg.refl 0 0 wr).drew).keep k4))
            all_goals
              go_wp2_with fail
              go_roundw
              case rel => exact ⟨k + 1, by omega, by go_num, HO.out.succ HB.out, kr.keep k3⟩
              case measure => simp [intOf]; omega
          · have HB := Lib.hid (usedOk_eq (m := m) (k := k) hu (b := false) (decide_eq_false (by omega)))
            have hd : (onD m.tb (k : Int)).length = 0 := by omega
            go_wp2_with fail
            go_region_held3 (fun z => z.cell? ⟨w.heap.size, 1, none⟩ = some (.slice (some ⟨g, 0, none⟩) m.fr.used.length c2) ∧ z.cell? ⟨w.heap.size, 2, none⟩ = some (.slice a3 m.tb.length c3) ∧ z.cell? ⟨g, k, none⟩ = some (.bool true)) (first | go_keep | exact ⟨(Keep.grown k3 none).cell z1 (by simp), (Keep.grown k3 none).cell z2 (by simp), (Keep.grown k3 none).cell cu (by simp)⟩) (first | (go_at_call 89; refine (pagesOn_spec _ _ _ ⟨_, rfl, ht.keep ((Q.out.keep kr).keep ((Chg.refl 0 0 _).drew))⟩ (by have := hs.tb; omega)).mono ?_; rintro e w4 ⟨v4, rfl, h4, k4⟩; obtain ⟨bo, dd, rfl, _, _⟩ := h4.opened; have k3 : Keep wr w4 := ((Chg.refl 0 0 wr).drew).keep k4))
            all_goals
              have HF := Lib.hid (machineOk_no3 hlt HB.out)
              go_wp2_with fail
              go_ret
              exact ⟨by rw [HF.out]; rfl, (Q.out.keep kr).keep k3⟩
        · obtain rfl : k = m.fr.used.length := by omega
          have HY := Lib.hid (HYES.out HO.out)
          go_wp2_with fail
          go_ret
          exact ⟨by rw [HY.out]; rfl, Q.out.keep kr⟩
end Go.Proofs.Ytkcoehkfhffjkaa
