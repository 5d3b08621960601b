/- The frames' functions: FramesOk of both. -/
import Derived.Test.YtkcoehkfhffjkaaFr3
import Derived.Test.YtkcoehkfhffjkaaMLaw
namespace Go.Proofs.Ytkcoehkfhffjkaa
open Go.ChangeShapes Go.WideShapes Go.ChangeAt Go.RowKit
set_option linter.unusedSimpArgs false
set_option linter.unusedVariables false

/-- The first k rows are as they must be. -/
def RowsTo (f : FrD) (k : Nat) : Prop := ∀ j, j < k → rowOkB (f.used.getD j false) (f.cells.getD j []) = true
def CellsTo (u : Bool) (c : List Int) (k : Nat) : Prop := ∀ j, j < k → cellOkB u (c.getD j 0) = true
theorem RowsTo.succ {f : FrD} {k : Nat} (h : RowsTo f k) (h1 : rowOkB (f.used.getD k false) (f.cells.getD k []) = true) : RowsTo f (k + 1) := by
  intro j hj
  by_cases e : j = k
  · subst e; exact h1
  · exact h j (by omega)
theorem CellsTo.succ {u : Bool} {c : List Int} {k : Nat} (h : CellsTo u c k) (h1 : cellOkB u (c.getD k 0) = true) : CellsTo u c (k + 1) := by
  intro j hj
  by_cases e : j = k
  · subst e; exact h1
  · exact h j (by omega)
theorem rowOk_all {u : Bool} {c : List Int} (h : CellsTo u c c.length) (hl : c.length = 16) : rowOkB u c = true := by
  unfold rowOkB
  rw [hl]
  simp only [beq_self_eq_true, Bool.true_and, List.all_eq_true]
  intro x hx
  obtain ⟨j, hj, rfl⟩ := List.getElem_of_mem hx
  have := h j hj
  simpa [List.getD, hj] using this
theorem rowOk_bad {u : Bool} {c : List Int} {k : Nat} (hk : k < c.length) (h : cellOkB u (c.getD k 0) = false) : rowOkB u c = false := by
  unfold rowOkB
  have : c.all (cellOkB u) = false := by
    rw [List.all_eq_false]
    exact ⟨c.getD k 0, by simp [List.getD, hk], by rw [h]; simp⟩
  rw [this]; simp
theorem framesOk_yes {f : FrD} (h : RowsTo f f.cells.length) (h1 : btw f.cells.length 1 32 = true) (h2 : f.used.length = f.cells.length) : framesOkB f = true := by
  rw [btw_iff] at h1
  exact framesOk_iff.2 ⟨by omega, by omega, h2, h⟩
theorem framesOk_no {f : FrD} {k : Nat} (hk : k < f.cells.length) (h : rowOkB (f.used.getD k false) (f.cells.getD k []) = false) : framesOkB f = false := by
  cases hb : framesOkB f
  · rfl
  · have := (framesOk_iff.1 hb).row k hk
    rw [h] at this; cases this
theorem framesOk_any {lo hi : Nat} {f : FrD} (v : Value) (w : World) (h : FR lo hi w v f) (hs : sm_Frames f) :
    Calls Try.prog 76 #[v] w fun e w' => e = .returned (.bool (framesOkB f)) ∧ Keep w w' := by
  unfold sm_Frames at hs
  obtain ⟨a1, c1, a2, c2, rfl, x1, x2⟩ := h.opened
  clear h
  cases hb1 : btw f.cells.length 1 32
  · have HE := Lib.hid (show framesOkB f = false by unfold framesOkB; rw [hb1]; rfl)
    clear x1 x2
    go_enter Try.func76, Try.ntmps76
    go_wp2_with (go_at_call 65; refine (between_any _ _ _ _).mono ?_; rintro e w' ⟨rfl, rfl⟩)
    go_ret
    exact ⟨by rw [HE.out]; rfl, by repeat (first | exact Chg.refl _ _ _ | apply Chg.alloc)⟩
  by_cases hul : f.used.length = f.cells.length
  case neg =>
    have HE := Lib.hid (show framesOkB f = false by unfold framesOkB; rw [beq_eq_false_iff_ne.2 hul]; simp)
    clear x1 x2
    have hne : ((f.used.length : Int) != (f.cells.length : Int)) = true := by rw [bne_iff_ne]; omega
    clear hul
    go_enter Try.func76, Try.ntmps76
    go_wp2_with (go_at_call 65; refine (between_any _ _ _ _).mono ?_; rintro e w' ⟨rfl, rfl⟩)
    go_ret
    exact ⟨by rw [HE.out]; rfl, by repeat (first | exact Chg.refl _ _ _ | apply Chg.alloc)⟩
  obtain ⟨hn0, hn1⟩ := btw_iff.1 hb1
  have HU := Lib.hid hul
  have HNO := Lib.hid (fun (k : Nat) (hk : k < f.cells.length) h => framesOk_no (f := f) hk h)
  have HYES := Lib.hid (fun h => framesOk_yes (f := f) h hb1 hul)
  rw [hul] at x2 ⊢
  have x1' := x1.keep ((Chg.refl 0 0 w).alloc (.cells #[.slice a1 f.cells.length c1, .slice a2 f.cells.length c2] 34 (0, 0)))
  have x2' := x2.keep ((Chg.refl 0 0 w).alloc (.cells #[.slice a1 f.cells.length c1, .slice a2 f.cells.length c2] 34 (0, 0)))
  clear x1 x2 hul
  obtain ⟨vs, x1'⟩ := x1'
  obtain ⟨_, _, e1, _, f1⟩ := x1'.opened
  obtain ⟨rfl, rfl⟩ : a1 = _ ∧ c1 = _ := by simpa using e1
  obtain ⟨_, _, e2, _, f2⟩ := x2'.opened
  rw [HU.out] at e2 f2
  obtain ⟨rfl, rfl⟩ : a2 = _ ∧ c2 = _ := by simpa using e2
  have X1 := Lib.hid x1'
  clear e1 e2 x1' x2'
  go_enter Try.func76, Try.ntmps76
  go_wp2_with (go_at_call 65; refine (between_any _ _ _ _).mono ?_; rintro e w' ⟨rfl, rfl⟩)
  go_loop [24] (fun i => ∃ k : Nat, k ≤ f.cells.length ∧ i = .int .i64 k ∧ RowsTo f k) (fun i => f.cells.length - (intOf i).toNat)
  case atStart => exact ⟨0, Nat.zero_le _, rfl, fun j hj => by omega⟩
  case round =>
    obtain ⟨k, hk, rfl, hrt⟩ := hrel
    by_cases hlt : k < f.cells.length
    · obtain ⟨g, rfl, _, _, _, ck, _⟩ := f1 k hlt
      obtain ⟨g2, rfl, _, _, _, uk, _⟩ := f2 k hlt
      have hrow := X1.out.row k hlt
      have HN := Lib.hid (HNO.out k hlt)
      have HS := Lib.hid (fun h => hrt.succ (k := k) h)
      generalize hgr : f.cells.getD k [] = r at *
      generalize hgu : f.used.getD k false = u at *
      generalize vs.getD k undef = rv at *
      clear f1 f2 hrt
      obtain ⟨bo, d, rfl, _, fr⟩ := hrow.opened
      by_cases hl : r.length = 16
      · have hl' : ((r.length : Int) != 16) = false := by rw [hl]; rfl
        have HL := Lib.hid hl
        have HBAD := Lib.hid (fun (j : Nat) (hj : j < r.length) h => HN.out (rowOk_bad (u := u) hj h))
        rw [hl] at fr ck
        clear hrow hl hl'
        go_wp2_with fail
        go_loop [34] (fun i => ∃ j : Nat, j ≤ 16 ∧ i = .int .i64 j ∧ CellsTo u r j) (fun i => 16 - (intOf i).toNat)
        case atStart => exact ⟨0, Nat.zero_le _, rfl, fun j hj => by omega⟩
        case round =>
          obtain ⟨j, hj, rfl, hct⟩ := hrel
          by_cases hlj : j < 16
          · obtain ⟨g3, rfl, _, _, _, rk, _⟩ := fr j hlj
            have HB := Lib.hid (HBAD.out j (by rw [HL.out]; exact hlj))
            have HC := Lib.hid (fun h => hct.succ (k := j) h)
            generalize r.getD j 0 = x at *
            clear fr hct
            cases hb : btw x 0 999
            · have HF := Lib.hid (HB.out (by unfold cellOkB; rw [hb]; rfl))
              go_wp2_with (go_at_call 65; refine (between_any _ _ _ _).mono ?_; rintro e w' ⟨rfl, rfl⟩)
              go_ret
              exact ⟨by rw [HF.out]; rfl, by repeat (first | exact Chg.refl _ _ _ | apply Chg.alloc)⟩
            · by_cases hx : x = 0
              · subst hx
                have HY := Lib.hid (HC.out (by unfold cellOkB; rw [hb]; simp))
                go_wp2_with (go_at_call 65; refine (between_any _ _ _ _).mono ?_; rintro e w' ⟨rfl, rfl⟩)
                go_round
                case rel => exact ⟨j + 1, by omega, by go_num, HY.out⟩
                case measure => simp [intOf]; omega
              · have z1 : (x != 0) = true := by rw [bne_iff_ne]; exact hx
                have z2 : (x == 0) = false := by rw [beq_eq_false_iff_ne]; exact hx
                cases u
                · have HF := Lib.hid (HB.out (by unfold cellOkB; rw [hb, z2]; rfl))
                  clear hx
                  go_wp2_with (go_at_call 65; refine (between_any _ _ _ _).mono ?_; rintro e w' ⟨rfl, rfl⟩)
                  go_ret
                  exact ⟨by rw [HF.out]; rfl, by repeat (first | exact Chg.refl _ _ _ | apply Chg.alloc)⟩
                · have HY := Lib.hid (HC.out (by unfold cellOkB; rw [hb]; rfl))
                  clear hx
                  go_wp2_with (go_at_call 65; refine (between_any _ _ _ _).mono ?_; rintro e w' ⟨rfl, rfl⟩)
                  go_round
                  case rel => exact ⟨j + 1, by omega, by go_num, HY.out⟩
                  case measure => simp [intOf]; omega
          · obtain rfl : j = 16 := by omega
            have HR := Lib.hid (HS.out (rowOk_all (by rw [HL.out]; exact hct) HL.out))
            clear fr hct
            go_wp2_with fail
            go_round
            case rel => exact ⟨k + 1, by omega, by go_num, HR.out⟩
            case measure => simp [intOf]; omega
      · have hl' : ((r.length : Int) != 16) = true := by rw [bne_iff_ne]; omega
        have HF := Lib.hid (HN.out (show rowOkB u r = false by unfold rowOkB; rw [beq_eq_false_iff_ne.2 hl]; rfl))
        clear hl
        go_wp2_with fail
        go_ret
        exact ⟨by rw [HF.out]; rfl, by repeat (first | exact Chg.refl _ _ _ | apply Chg.alloc)⟩
    · obtain rfl : k = f.cells.length := by omega
      have HY := Lib.hid (HYES.out hrt)
      clear f1 f2
      go_wp2_with fail
      go_ret
      exact ⟨by rw [HY.out]; rfl, by repeat (first | exact Chg.refl _ _ _ | apply Chg.alloc)⟩
theorem framesOk_spec {lo hi : Nat} {f : FrD} (v : Value) (w : World) (h : FR lo hi w v f) (hs : sm_Frames f) :
    Calls Try.prog 83 #[v] w fun e w' => e = .returned (.bool (framesOkB f)) ∧ Keep w w' := by
  unfold sm_Frames at hs
  obtain ⟨a1, c1, a2, c2, rfl, x1, x2⟩ := h.opened
  clear h
  cases hb1 : btw f.cells.length 1 32
  · have HE := Lib.hid (show framesOkB f = false by unfold framesOkB; rw [hb1]; rfl)
    clear x1 x2
    go_enter Try.func83, Try.ntmps83
    go_wp2_with (go_at_call 62; refine (l01In_any _ _ _ _).mono ?_; rintro e w' ⟨rfl, rfl⟩)
    go_ret
    exact ⟨by rw [HE.out]; rfl, by repeat (first | exact Chg.refl _ _ _ | apply Chg.alloc)⟩
  by_cases hul : f.used.length = f.cells.length
  case neg =>
    have HE := Lib.hid (show framesOkB f = false by unfold framesOkB; rw [beq_eq_false_iff_ne.2 hul]; simp)
    clear x1 x2
    have hne : ((f.used.length : Int) != (f.cells.length : Int)) = true := by rw [bne_iff_ne]; omega
    clear hul
    go_enter Try.func83, Try.ntmps83
    go_wp2_with (go_at_call 62; refine (l01In_any _ _ _ _).mono ?_; rintro e w' ⟨rfl, rfl⟩)
    go_ret
    exact ⟨by rw [HE.out]; rfl, by repeat (first | exact Chg.refl _ _ _ | apply Chg.alloc)⟩
  obtain ⟨hn0, hn1⟩ := btw_iff.1 hb1
  have HU := Lib.hid hul
  have HNO := Lib.hid (fun (k : Nat) (hk : k < f.cells.length) h => framesOk_no (f := f) hk h)
  have HYES := Lib.hid (fun h => framesOk_yes (f := f) h hb1 hul)
  rw [hul] at x2 ⊢
  have x1' := x1.keep ((Chg.refl 0 0 w).alloc (.cells #[.slice a1 f.cells.length c1, .slice a2 f.cells.length c2] 34 (0, 0)))
  have x2' := x2.keep ((Chg.refl 0 0 w).alloc (.cells #[.slice a1 f.cells.length c1, .slice a2 f.cells.length c2] 34 (0, 0)))
  clear x1 x2 hul
  obtain ⟨vs, x1'⟩ := x1'
  obtain ⟨_, _, e1, _, f1⟩ := x1'.opened
  obtain ⟨rfl, rfl⟩ : a1 = _ ∧ c1 = _ := by simpa using e1
  obtain ⟨_, _, e2, _, f2⟩ := x2'.opened
  rw [HU.out] at e2 f2
  obtain ⟨rfl, rfl⟩ : a2 = _ ∧ c2 = _ := by simpa using e2
  have X1 := Lib.hid x1'
  clear e1 e2 x1' x2'
  go_enter Try.func83, Try.ntmps83
  go_wp2_with (go_at_call 62; refine (l01In_any _ _ _ _).mono ?_; rintro e w' ⟨rfl, rfl⟩)
  go_loop [3] (fun i => ∃ k : Nat, k ≤ f.cells.length ∧ i = .int .i64 k ∧ RowsTo f k) (fun i => f.cells.length - (intOf i).toNat)
  case atStart => exact ⟨0, Nat.zero_le _, rfl, fun j hj => by omega⟩
  case round =>
    obtain ⟨k, hk, rfl, hrt⟩ := hrel
    by_cases hlt : k < f.cells.length
    · obtain ⟨g, rfl, _, _, _, ck, _⟩ := f1 k hlt
      obtain ⟨g2, rfl, _, _, _, uk, _⟩ := f2 k hlt
      have hrow := X1.out.row k hlt
      have HN := Lib.hid (HNO.out k hlt)
      have HS := Lib.hid (fun h => hrt.succ (k := k) h)
      generalize hgr : f.cells.getD k [] = r at *
      generalize hgu : f.used.getD k false = u at *
      generalize vs.getD k undef = rv at *
      clear f1 f2 hrt
      obtain ⟨bo, d, rfl, _, fr⟩ := hrow.opened
      by_cases hl : r.length = 16
      · have hl' : ((r.length : Int) != 16) = false := by rw [hl]; rfl
        have HL := Lib.hid hl
        have HBAD := Lib.hid (fun (j : Nat) (hj : j < r.length) h => HN.out (rowOk_bad (u := u) hj h))
        rw [hl] at fr ck
        clear hrow hl hl'
        go_wp2_with fail
        go_loop [4] (fun i => ∃ j : Nat, j ≤ 16 ∧ i = .int .i64 j ∧ CellsTo u r j) (fun i => 16 - (intOf i).toNat)
        case atStart => exact ⟨0, Nat.zero_le _, rfl, fun j hj => by omega⟩
        case round =>
          obtain ⟨j, hj, rfl, hct⟩ := hrel
          by_cases hlj : j < 16
          · obtain ⟨g3, rfl, _, _, _, rk, _⟩ := fr j hlj
            have HB := Lib.hid (HBAD.out j (by rw [HL.out]; exact hlj))
            have HC := Lib.hid (fun h => hct.succ (k := j) h)
            generalize r.getD j 0 = x at *
            clear fr hct
            cases hb : btw x 0 999
            · have HF := Lib.hid (HB.out (by unfold cellOkB; rw [hb]; rfl))
              go_wp2_with (go_at_call 62; refine (l01In_any _ _ _ _).mono ?_; rintro e w' ⟨rfl, rfl⟩)
              go_ret
              exact ⟨by rw [HF.out]; rfl, by repeat (first | exact Chg.refl _ _ _ | apply Chg.alloc)⟩
            · by_cases hx : x = 0
              · subst hx
                have HY := Lib.hid (HC.out (by unfold cellOkB; rw [hb]; simp))
                cases u
                all_goals
                  go_wp2_with (go_at_call 62; refine (l01In_any _ _ _ _).mono ?_; rintro e w' ⟨rfl, rfl⟩)
                  go_round
                  case rel => exact ⟨j + 1, by omega, by go_num, HY.out⟩
                  case measure => simp [intOf]; omega
              · have z1 : (x != 0) = true := by rw [bne_iff_ne]; exact hx
                have z2 : (x == 0) = false := by rw [beq_eq_false_iff_ne]; exact hx
                cases u
                · have HF := Lib.hid (HB.out (by unfold cellOkB; rw [hb, z2]; rfl))
                  clear hx
                  go_wp2_with (go_at_call 62; refine (l01In_any _ _ _ _).mono ?_; rintro e w' ⟨rfl, rfl⟩)
                  go_ret
                  exact ⟨by rw [HF.out]; rfl, by repeat (first | exact Chg.refl _ _ _ | apply Chg.alloc)⟩
                · have HY := Lib.hid (HC.out (by unfold cellOkB; rw [hb]; rfl))
                  clear hx
                  go_wp2_with (go_at_call 62; refine (l01In_any _ _ _ _).mono ?_; rintro e w' ⟨rfl, rfl⟩)
                  go_round
                  case rel => exact ⟨j + 1, by omega, by go_num, HY.out⟩
                  case measure => simp [intOf]; omega
          · obtain rfl : j = 16 := by omega
            have HR := Lib.hid (HS.out (rowOk_all (by rw [HL.out]; exact hct) HL.out))
            clear fr hct
            go_wp2_with fail
            go_round
            case rel => exact ⟨k + 1, by omega, by go_num, HR.out⟩
            case measure => simp [intOf]; omega
      · have hl' : ((r.length : Int) != 16) = true := by rw [bne_iff_ne]; omega
        have HF := Lib.hid (HN.out (show rowOkB u r = false by unfold rowOkB; rw [beq_eq_false_iff_ne.2 hl]; rfl))
        clear hl
        go_wp2_with fail
        go_ret
        exact ⟨by rw [HF.out]; rfl, by repeat (first | exact Chg.refl _ _ _ | apply Chg.alloc)⟩
    · obtain rfl : k = f.cells.length := by omega
      have HY := Lib.hid (HYES.out hrt)
      clear f1 f2
      go_wp2_with fail
      go_ret
      exact ⟨by rw [HY.out]; rfl, by repeat (first | exact Chg.refl _ _ _ | apply Chg.alloc)⟩
end Go.Proofs.Ytkcoehkfhffjkaa
