/- The laws' tests of sameness: two readings of one list, of one list of rows and of one row of marks are the same. -/
import Derived.Test.YtkcoehkfhffjkaaFr7
import Derived.Test.YtkcoehkfhffjkaaMLaw
import Derived.StillTailTactics
namespace Go.Proofs.Ytkcoehkfhffjkaa
open Go.ChangeShapes Go.WideShapes Go.ChangeAt Go.RowKit
set_option linter.unusedSimpArgs false
set_option linter.unusedVariables false
set_option maxRecDepth 100000

theorem sameInts_same {l1 h1 l2 h2 : Nat} {zs : List Int} (v u : Value) (w : World) (f : SI l1 h1 w v zs) (g : SI l2 h2 w u zs) (hlen : zs.length ≤ 1000000000) :
    Calls Try.prog 120 #[v, u] w fun e w' => e = .returned (.bool true) ∧ Keep w w' := by
  obtain ⟨ao, c, rfl, hc, f1⟩ := f.opened
  obtain ⟨bo, d, rfl, hd, f2⟩ := g.opened
  clear f g
  go_enter Try.func120, Try.ntmps120
  go_wp2_with fail
  go_loopw [5] (fun i wr => ∃ k : Nat, k ≤ zs.length ∧ i = .int .i64 k ∧ Keep w wr) (fun i _ => zs.length - (intOf i).toNat)
  case atStart => exact ⟨0, Nat.zero_le _, rfl, Chg.refl _ _ _⟩
  case round =>
    obtain ⟨k, hk, rfl, hg⟩ := hrel
    by_cases hlt : k < zs.length
    · obtain ⟨g, rfl, _, _, _, hc1, _⟩ := f1 k hlt
      obtain ⟨g', rfl, _, _, _, hc2, _⟩ := f2 k hlt
      have hx1 := (hg.grown none).cell hc1 (by simp)
      have hx2 := (hg.grown none).cell hc2 (by simp)
      clear hc1 hc2 f1 f2
      generalize zs.getD k 0 = z at hx1 hx2
      go_wp2_with fail
      go_quiet (fail)
      go_wp2_with fail
      go_roundw
      case rel => exact ⟨k + 1, by omega, by go_num, hg.drewN _⟩
      case measure => simp [intOf]; omega
    · clear f1 f2
      go_wp2_with fail
      go_ret
      exact ⟨rfl, hg⟩
theorem sameLists_same {l1 h1 l2 h2 : Nat} {rows : List (List Int)} (v u : Value) (w : World) (f : SS l1 h1 w v rows) (g : SS l2 h2 w u rows) (hlen : rows.length ≤ 100000000) (hr : ∀ j, j < rows.length → (rows.getD j []).length ≤ 100000000) :
    Calls Try.prog 114 #[v, u] w fun e w' => e = .returned (.bool true) ∧ Keep w w' := by
  obtain ⟨vs, f⟩ := f
  obtain ⟨us, g⟩ := g
  obtain ⟨ao, c, rfl, hc, f1⟩ := f.opened
  obtain ⟨bo, d, rfl, hd, f2⟩ := g.opened
  have HR := Lib.hid hr
  have HV := Lib.hid f
  have HU := Lib.hid g
  clear hr f g
  go_enter Try.func114, Try.ntmps114
  go_wp2_with fail
  go_loopw [5] (fun i wr => ∃ k : Nat, k ≤ rows.length ∧ i = .int .i64 k ∧ Keep w wr) (fun i _ => rows.length - (intOf i).toNat)
  case atStart => exact ⟨0, Nat.zero_le _, rfl, Chg.refl _ _ _⟩
  case round =>
    obtain ⟨k, hk, rfl, hg⟩ := hrel
    by_cases hlt : k < rows.length
    · obtain ⟨g, rfl, _, _, _, hc1, _⟩ := f1 k hlt
      obtain ⟨g', rfl, _, _, _, hc2, _⟩ := f2 k hlt
      have hx1 := (hg.grown none).cell hc1 (by simp)
      have hx2 := (hg.grown none).cell hc2 (by simp)
      have hr1 := (HV.out.row k hlt).keep hg
      have hr2 := (HU.out.row k hlt).keep hg
      have hll := HR.out k hlt
      clear hc1 hc2 f1 f2
      generalize rows.getD k [] = r at *
      generalize vs.getD k undef = v1 at *
      generalize us.getD k undef = u1 at *
      obtain ⟨ao1, c1, rfl, _, _⟩ := hr1.opened
      obtain ⟨bo1, d1, rfl, _, _⟩ := hr2.opened
      go_wp2_with fail
      go_still_tail 8, (by kernel_rfl)
      change wpList _ _ _ _ _ wr.drew
      replace hr1 := hr1.keep ((Chg.refl 0 0 wr).drew)
      replace hr2 := hr2.keep ((Chg.refl 0 0 wr).drew)
      have hg' := hg.drew
      clear hx1 hx2 hg
      generalize wr.drew = w2 at *
      go_wp2_with (go_at_call 120; refine (sameInts_same _ _ _ hr1 hr2 (by omega)).mono ?_; rintro e w3 ⟨rfl, k3⟩)
      go_roundw
      case rel => exact ⟨k + 1, by omega, by go_num, hg'.keep k3⟩
      case measure => simp [intOf]; omega
    · clear f1 f2
      go_wp2_with fail
      go_ret
      exact ⟨rfl, hg⟩
theorem sameBools_same {l1 h1 l2 h2 : Nat} {zs : List Bool} (v u : Value) (w : World) (f : SB l1 h1 w v zs) (g : SB l2 h2 w u zs) (hlen : zs.length ≤ 1000000000) :
    Calls Try.prog 115 #[v, u] w fun e w' => e = .returned (.bool true) ∧ Keep w w' := by
  obtain ⟨ao, c, rfl, hc, f1⟩ := f.opened
  obtain ⟨bo, d, rfl, hd, f2⟩ := g.opened
  clear f g
  go_enter Try.func115, Try.ntmps115
  go_wp2_with fail
  go_loopw [5] (fun i wr => ∃ k : Nat, k ≤ zs.length ∧ i = .int .i64 k ∧ Keep w wr) (fun i _ => zs.length - (intOf i).toNat)
  case atStart => exact ⟨0, Nat.zero_le _, rfl, Chg.refl _ _ _⟩
  case round =>
    obtain ⟨k, hk, rfl, hg⟩ := hrel
    by_cases hlt : k < zs.length
    · obtain ⟨g, rfl, _, _, _, hc1, _⟩ := f1 k hlt
      obtain ⟨g', rfl, _, _, _, hc2, _⟩ := f2 k hlt
      have hx1 := (hg.grown none).cell hc1 (by simp)
      have hx2 := (hg.grown none).cell hc2 (by simp)
      clear hc1 hc2 f1 f2
      generalize zs.getD k false = z at hx1 hx2
      go_wp2_with fail
      go_quiet (fail)
      go_wp2_with fail
      go_roundw
      case rel => exact ⟨k + 1, by omega, by go_num, hg.drewN _⟩
      case measure => simp [intOf]; omega
    · clear f1 f2
      go_wp2_with fail
      go_ret
      exact ⟨rfl, hg⟩
theorem sameFrames_same {l1 h1 l2 h2 : Nat} {f : FrD} (v u : Value) (w : World) (x : FR l1 h1 w v f) (y : FR l2 h2 w u f) (hs : sm_Frames f) :
    Calls Try.prog 81 #[v, u] w fun e w' => e = .returned (.bool true) ∧ Keep w w' := by
  unfold sm_Frames at hs
  obtain ⟨a1, c1, a2, c2, rfl, x1, x2⟩ := x.opened
  obtain ⟨b1, d1, b2, d2, rfl, y1, y2⟩ := y.opened
  have hrl := fun j (_ : j < f.cells.length) => Nat.le_trans (row_le f.cells j) (show cntRows f.cells ≤ 100000000 by omega)
  go_enter Try.func81, Try.ntmps81
  go_wp2_with fail
  refine (sameLists_same _ _ _ (x1.keep (by repeat (first | exact Chg.refl _ _ _ | apply Chg.alloc))) (y1.keep (by repeat (first | exact Chg.refl _ _ _ | apply Chg.alloc))) (by omega) hrl).mono ?_
  rintro e w1 ⟨rfl, k1⟩
  have bA := ((Blk.new w 34 #[.slice a1 f.cells.length c1, .slice a2 f.used.length c2]).keep ((Chg.refl 0 0 _).alloc (.cells #[.slice b1 f.cells.length d1, .slice b2 f.used.length d2] 34 (0, 0)))).keep k1
  have bB := (blk1 w (.cells #[.slice a1 f.cells.length c1, .slice a2 f.used.length c2] 34 (0, 0)) 34 #[.slice b1 f.cells.length d1, .slice b2 f.used.length d2]).keep k1
  have q1 : Keep w w1 := Chg.keep (by repeat (first | exact Chg.refl _ _ _ | apply Chg.alloc)) k1
  have cA := bA.cell 1
  have cB := bB.cell 1
  clear bA bB k1
  go_wp2_with fail
  refine (sameBools_same _ _ _ (x2.keep q1) (y2.keep q1) (by omega)).mono ?_
  rintro e w2 ⟨rfl, k2⟩
  go_wp2_with fail
  go_ret
  exact ⟨rfl, q1.keep k2⟩
/-- What a frame taken from frames in order is. -/
theorem taken_facts {f : FrD} (h : FOk f) (ht : takeOk f = true) : ∃ k : Nat, k < f.used.length ∧ f.used.getD k false = false ∧ takeD f = ⟨f.cells, f.used.set k true⟩ ∧ takeI f = k ∧ isB (takeD f) k = true ∧
    readD (takeD f) k 5 = 0 ∧ readOk (takeD f) k 5 = true ∧ giveD (takeD f) k = f ∧ usedD (takeD f) = usedD f + 1 ∧ f.cells.getD k [] = zrow := by
  have hok := framesOk_iff.2 h
  have hk : freeN f.used < f.used.length := by unfold takeOk at ht; simp at ht; exact ht.2
  have h0 := freeN_lt hk
  refine ⟨freeN f.used, hk, h0, ?_⟩
  have hD : takeD f = ⟨f.cells, f.used.set (freeN f.used) true⟩ := by unfold takeD; rw [if_pos ht]
  have hI : takeI f = (freeN f.used : Nat) := by unfold takeI; rw [if_pos ht]
  have hz : f.cells.getD (freeN f.used) [] = zrow := by
    have hr := h.row (freeN f.used) (by rw [← h.used]; exact hk)
    rw [h0] at hr
    exact row_zero hr
  have hB : isB (takeD f) (freeN f.used : Nat) = true := by
    rw [isB_yes (by rw [hD, btw_iff]; simp; omega) (framesOk_iff.2 (takeD_ok h)), hD]
    exact getD_set_eq _ _ _ _ hk
  have hRo : readOk (takeD f) (freeN f.used : Nat) 5 = true := readOk_yes (by decide) hB
  refine ⟨hD, hI, hB, ?_, hRo, ?_, ?_, hz⟩
  · unfold readD
    rw [if_pos hRo, hD]
    simp only [Int.toNat_natCast]
    rw [hz]
    exact zrow_at _
  · rw [giveD_yes hB, hD]
    simp only [Int.toNat_natCast, List.set_set]
    have e1 : f.cells.set (freeN f.used) zrow = f.cells := by
      apply List.ext_getElem? ; intro i
      by_cases e : freeN f.used = i
      · subst e
        have hl : freeN f.used < f.cells.length := by rw [← h.used]; exact hk
        rw [List.getElem?_set_self hl, List.getElem?_eq_getElem hl]
        rw [List.getD_eq_getElem?_getD, List.getElem?_eq_getElem hl] at hz
        exact congrArg some hz.symm
      · rw [List.getElem?_set_ne e]
    have e2 : f.used.set (freeN f.used) false = f.used := by
      apply List.ext_getElem? ; intro i
      by_cases e : freeN f.used = i
      · subst e
        rw [List.getElem?_set_self hk, List.getElem?_eq_getElem hk]
        rw [List.getD_eq_getElem?_getD, List.getElem?_eq_getElem hk] at h0
        exact congrArg some h0.symm
      · rw [List.getElem?_set_ne e]
    rw [e1, e2]
  · rw [usedD_ok (framesOk_iff.2 (takeD_ok h)), usedD_ok hok, hD]
    show ((cntU (f.used.set _ true) : Nat) : Int) = _
    rw [cntU_set hk h0]; omega
theorem usedD_any (f : FrD) : usedD f = 0 ∨ usedD f = (cntU f.used : Nat) := by
  cases h : framesOkB f
  · exact .inl (usedD_no h)
  · exact .inr (usedD_ok h)
theorem not_taken {f : FrD} (h : FOk f) (ht : takeOk f = false) : takeD f = f ∧ takeI f = -1 ∧ usedD f = (f.used.length : Nat) := by
  obtain ⟨a, b⟩ := takeD_no ht
  refine ⟨a, b, ?_⟩
  have hok := framesOk_iff.2 h
  rw [usedD_ok hok]
  refine congrArg _ (cntU_all fun j hj => ?_)
  unfold takeOk at ht
  rw [hok] at ht
  simp at ht
  exact freeN_before (by omega)
end Go.Proofs.Ytkcoehkfhffjkaa
