/- Frames that are changed: a mark, a cell, a row; FrameTake of both. -/
import Derived.Test.YtkcoehkfhffjkaaFrCopy
namespace Go.Proofs.Ytkcoehkfhffjkaa
open Go.ChangeShapes Go.WideShapes Go.ChangeAt Go.RowKit
set_option linter.unusedSimpArgs false
set_option linter.unusedVariables false
set_option maxRecDepth 100000

theorem FR.parts {lo hi : Nat} {w : World} {s1 s2 : Value} {f : FrD} (h : FR lo hi w (.agg #[s1, s2]) f) : SS lo hi w s1 f.cells ∧ SB lo hi w s2 f.used := by
  obtain ⟨x1, x2, e, h1, h2⟩ := h
  simp at e
  rw [e.1, e.2]; exact ⟨h1, h2⟩
theorem FR.mk {lo hi : Nat} {w : World} {s1 s2 : Value} {f : FrD} (h1 : SS lo hi w s1 f.cells) (h2 : SB lo hi w s2 f.used) : FR lo hi w (.agg #[s1, s2]) f := ⟨s1, s2, rfl, h1, h2⟩
/-- A mark: its cell, and the frames behind a store into it. -/
theorem FR.usedFull {lo hi : Nat} {w : World} {s1 : Value} {a2 : Option Addr} {n2 c2 : Nat} {f : FrD} (h : FR lo hi w (.agg #[s1, .slice a2 n2 c2]) f) (k : Nat) (hk : k < f.used.length) :
    ∃ g, a2 = some ⟨g, 0, none⟩ ∧ lo ≤ g ∧ g < hi ∧ g < w.heap.size ∧ w.cell? ⟨g, k, none⟩ = some (.bool (f.used.getD k false)) ∧ w.frozen? ⟨g, k, none⟩ = false ∧
      ∀ b, FR lo hi (w.setCell ⟨g, k, none⟩ (.bool b)) (.agg #[s1, .slice a2 n2 c2]) ⟨f.cells, f.used.set k b⟩ := by
  obtain ⟨h1, h2⟩ := h.parts
  obtain ⟨a', c', e, _, hf⟩ := h2.opened
  obtain ⟨g, rfl, x1, x2, x3, x4, x5⟩ := hf k hk
  simp at e
  obtain ⟨rfl, rfl, rfl⟩ := e
  refine ⟨g, rfl, x1, x2, x3, x4, x5, fun b => FR.mk ?_ (h2.store rfl k b)⟩
  exact h1.keepNot (Es := [4]) (KeepNot.of_row h2 fun j hj hne => Below.heap_setCell w ⟨g, k, none⟩ (.bool b) j (fun e => hne (by rw [e]; rfl))) (by decide) (by decide)
/-- A cell of a row, and the frames behind a store into it. -/
theorem FR.cellFull {lo hi : Nat} {w : World} {a1 : Option Addr} {n1 c1 : Nat} {s2 : Value} {f : FrD} (h : FR lo hi w (.agg #[.slice a1 n1 c1, s2]) f) (i k : Nat) (hi' : i < f.cells.length) (hk : k < (f.cells.getD i []).length) :
    ∃ g gr d, a1 = some ⟨g, 0, none⟩ ∧ lo ≤ g ∧ g < hi ∧ g < w.heap.size ∧ w.cell? ⟨g, i, none⟩ = some (.slice (some ⟨gr, 0, none⟩) (f.cells.getD i []).length d) ∧ lo ≤ gr ∧ gr < hi ∧ gr < w.heap.size ∧
      w.cell? ⟨gr, k, none⟩ = some (.int .i64 ((f.cells.getD i []).getD k 0)) ∧ w.frozen? ⟨gr, k, none⟩ = false ∧
      ∀ v, FR lo hi (w.setCell ⟨gr, k, none⟩ (.int .i64 v)) (.agg #[.slice a1 n1 c1, s2]) ⟨f.cells.set i ((f.cells.getD i []).set k v), f.used⟩ := by
  obtain ⟨⟨vs, h1⟩, h2⟩ := h.parts
  obtain ⟨a', c', e, _, hf⟩ := h1.opened
  obtain ⟨g, rfl, x1, x2, x3, x4, x5⟩ := hf i hi'
  simp at e
  obtain ⟨rfl, rfl, rfl⟩ := e
  have hr := h1.row i hi'
  obtain ⟨b', d, e', _, hf2⟩ := hr.opened
  obtain ⟨gr, rfl, y1, y2, y3, y4, y5⟩ := hf2 k hk
  rw [e'] at x4
  refine ⟨g, gr, d, rfl, x1, x2, x3, x4, y1, y2, y3, y4, y5, fun v => FR.mk ⟨vs, ?_⟩ ?_⟩
  · refine h1.setRow i hi' _ ?_ fun j hj hne => Below.heap_setCell w ⟨gr, k, none⟩ (.int .i64 v) j (fun e => hne (by rw [e', e]; rfl))
    rw [e'] at hr ⊢
    exact hr.store rfl k v
  · exact h2.keepNot (Es := [3]) (KeepNot.of_row hr fun j hj hne => Below.heap_setCell w ⟨gr, k, none⟩ (.int .i64 v) j (fun e => hne (by rw [e', e]; rfl))) (by decide)
/-- A row's cell, and the frames behind a store of another row. -/
theorem FR.rowFull {lo hi : Nat} {w : World} {a1 : Option Addr} {n1 c1 : Nat} {s2 : Value} {f : FrD} (h : FR lo hi w (.agg #[.slice a1 n1 c1, s2]) f) (i : Nat) (hi' : i < f.cells.length) :
    ∃ g b d, a1 = some ⟨g, 0, none⟩ ∧ lo ≤ g ∧ g < hi ∧ g < w.heap.size ∧ w.cell? ⟨g, i, none⟩ = some (.slice b (f.cells.getD i []).length d) ∧ w.frozen? ⟨g, i, none⟩ = false ∧
      ∀ (v' : Value) (r : List Int) (w' : World) (lo2 hi2 : Nat), Keep w w' → SI lo2 hi2 w' v' r → lo ≤ lo2 → hi ≤ lo2 → hi ≤ hi2 → FR lo hi2 (w'.setCell ⟨g, i, none⟩ v') (.agg #[.slice a1 n1 c1, s2]) ⟨f.cells.set i r, f.used⟩ := by
  obtain ⟨⟨vs, h1⟩, h2⟩ := h.parts
  obtain ⟨a', c', e, _, hf⟩ := h1.opened
  obtain ⟨g, rfl, x1, x2, x3, x4, x5⟩ := hf i hi'
  simp at e
  obtain ⟨rfl, rfl, rfl⟩ := e
  have hr := h1.row i hi'
  obtain ⟨b', d, e', _, _⟩ := hr.opened
  rw [e'] at x4
  refine ⟨g, b', d, rfl, x1, x2, x3, x4, x5, fun v' r w' lo2 hi2 hk hr' l1 l2 l3 => ?_⟩
  have h1' := h1.same (hk.at_ (.inr (.inl (Nat.zero_le _))))
  have h2' := h2.keep hk
  refine FR.mk ⟨_, h1'.put rfl i hi' v' r hr' l1 l2 l3⟩ ?_
  exact (h2'.keepNot (Es := [32]) (KeepNot.of_row h1'.out fun j hj hne => Below.heap_setCell w' ⟨g, i, none⟩ v' j (fun e => hne (by rw [e]; rfl))) (by decide)).wide (Nat.le_refl _) l3
--@walks
theorem takeOk_no1 {f : FrD} (h : framesOkB f = false) : takeOk f = false := by unfold takeOk; rw [h]; rfl
theorem takeOk_no2 {f : FrD} (h : ∀ j, j < f.used.length → f.used.getD j false = true) : takeOk f = false := by
  unfold takeOk
  rw [decide_eq_false (freeN_none h)]; simp
theorem takeD_no {f : FrD} (h : takeOk f = false) : takeD f = f ∧ takeI f = -1 := by unfold takeD takeI; rw [h]; exact ⟨rfl, rfl⟩
theorem take_yes {f : FrD} {k : Nat} (h : framesOkB f = true) (hk : k < f.used.length) (h0 : f.used.getD k false = false) (h1 : ∀ j, j < k → f.used.getD j false = true) : takeOk f = true ∧ takeD f = ⟨f.cells, f.used.set k true⟩ ∧ takeI f = k := by
  have e := freeN_eq hk h0 h1
  have ho : takeOk f = true := by unfold takeOk; rw [h, e]; simp [hk]
  refine ⟨ho, ?_, ?_⟩
  · unfold takeD; rw [if_pos ho, e]
  · unfold takeI; rw [if_pos ho, e]
theorem frameTake_any {lo hi : Nat} {f : FrD} (v : Value) (w : World) (h : FR lo hi w v f) (hs : sm_Frames f) :
    Calls Try.prog 73 #[v] w fun e w' => ∃ v', e = .returned (.tuple #[v', .int .i64 (takeI f), .bool (takeOk f)]) ∧ FR w.heap.size w'.heap.size w' v' (takeD f) ∧ Keep w w' := by
  have hul : f.used.length ≤ 1048576 := by unfold sm_Frames at hs; omega
  obtain ⟨a1, c1, a2, c2, rfl, h⟩ := h.slices
  go_enter Try.func73, Try.ntmps73
  go_wp2_with fail
  refine (copyFrames_any _ _ (h.keep (by repeat (first | exact Chg.refl _ _ _ | apply Chg.alloc))) hs).mono ?_
  rintro e w1 ⟨v1, rfl, h1, k1⟩
  have bA := ((Blk.new w 34 #[.slice a1 f.cells.length c1, .slice a2 f.used.length c2]).keep ((Chg.refl 0 0 _).alloc (.cells #[.slice none 0 0, .slice none 0 0] 34 (0, 0)))).keep k1
  have bR := (blk1 w (.cells #[.slice a1 f.cells.length c1, .slice a2 f.used.length c2] 34 (0, 0)) 34 #[.slice none 0 0, .slice none 0 0]).keep k1
  have q1 : Keep w w1 := Chg.keep (by repeat (first | exact Chg.refl _ _ _ | apply Chg.alloc)) k1
  obtain ⟨b1, d1, b2, d2, rfl, h1⟩ := h1.slices
  have hz := k1.size
  simp only [size_alloc] at h1 hz
  have HO := Lib.hid h1
  have BA := Lib.hid bA
  have BR := Lib.hid bR
  have cA0 := bA.cell 0
  have cA1 := bA.cell 1
  have lA := bA.lt
  clear bA bR k1 h1
  cases hok : framesOkB f
  · obtain ⟨hd, hi'⟩ := takeD_no (takeOk_no1 hok)
    have HE := Lib.hid (takeOk_no1 hok)
    have HD := Lib.hid hd
    have HI := Lib.hid hi'
    clear hd hi'
    go_wp2_with (go_at_call 76; refine (framesOk_any _ _ (h.keep (q1.alloc _)) hs).mono ?_; rw [hok]; rintro e w2 ⟨rfl, k2⟩; have q2 : Keep w1 w2 := Chg.keep ((Chg.refl 0 0 w1).alloc (.cells #[.slice b1 f.cells.length d1, .slice b2 f.used.length d2] 34 (0, 0))) k2; have bA := BA.out.keep q2; have dA0 := bA.cell 0; have dA1 := bA.cell 1; have bR := BR.out.keep q2; have rR0 := bR.frozen 0; have rR1 := bR.frozen 1; have sR0 := bR.cell 0; have sR1 := bR.cell 1; have lR := bR.lt; have bO := (Blk.new w1 34 #[.slice b1 f.cells.length d1, .slice b2 f.used.length d2]).keep k2; have cO0 := bO.cell 0; have cO1 := bO.cell 1; have lO := bO.lt; have lA2 := bA.lt; clear bA bR bO)
    refine bodyPost_ret (v := .tuple #[.agg #[.slice b1 f.cells.length d1, .slice b2 f.used.length d2], .int .i64 (-1), .bool false]) (by simp [results, Try.results73, go_sem, sR0, sR1, lR]) rfl ⟨_, by rw [HE.out, HI.out], ?_, ?_⟩
    · rw [HD.out]
      exact (((HO.out.keep q2).mv (l := w.heap.size) (h := w.heap.size + 2) (by repeat (first | exact Chg.refl _ _ _ | (refine Chg.set ?_ _ _ _ (.inl ⟨by omega, by omega⟩)))) (by omega)).wide (by omega) (by simp; omega))
    · exact (by repeat (first | exact q1.keep q2 | (refine Chg.set ?_ _ _ _ (.inr (by omega)))))
  · go_wp2_with (go_at_call 76; refine (framesOk_any _ _ (h.keep (q1.alloc _)) hs).mono ?_; rw [hok]; rintro e w2 ⟨rfl, k2⟩; have q2 : Keep w1 w2 := Chg.keep ((Chg.refl 0 0 w1).alloc (.cells #[.slice b1 f.cells.length d1, .slice b2 f.used.length d2] 34 (0, 0))) k2; have bA := BA.out.keep q2; have dA0 := bA.cell 0; have dA1 := bA.cell 1; have bR := BR.out.keep q2; have rR0 := bR.frozen 0; have rR1 := bR.frozen 1; have sR0 := bR.cell 0; have sR1 := bR.cell 1; have lR := bR.lt; have bO := (Blk.new w1 34 #[.slice b1 f.cells.length d1, .slice b2 f.used.length d2]).keep k2; have cO0 := bO.cell 0; have cO1 := bO.cell 1; have lO := bO.lt; have lA2 := bA.lt; clear bA bR bO)
    have hU := fun j hj => (h.keep (q1.keep q2)).usedAt j hj
    have hO := (HO.out.keep q2)
    go_loop [15] (fun i => ∃ k : Nat, k ≤ f.used.length ∧ i = .int .i64 k ∧ ∀ j, j < k → f.used.getD j false = true) (fun i => f.used.length - (intOf i).toNat)
    case atStart => exact ⟨0, Nat.zero_le _, rfl, fun j hj => by omega⟩
    case round =>
      obtain ⟨k, hk, rfl, hall⟩ := hrel
      by_cases hlt : k < f.used.length
      · obtain ⟨g, rfl, _, _, lg, cu, _⟩ := hU k hlt
        obtain ⟨gO, rfl, gO0, gO1, gO2, cO, fO, hst⟩ := hO.usedFull k hlt
        have HST := Lib.hid hst
        have HALL := Lib.hid hall
        clear hst hall hU hO
        cases hu : f.used.getD k false
        · rw [hu] at cu cO
          have HT := Lib.hid (take_yes hok hlt hu HALL.out)
          go_wp2_with fail
          refine bodyPost_ret (v := .tuple #[.agg #[.slice b1 f.cells.length d1, .slice (some ⟨gO, 0, none⟩) f.used.length d2], .int .i64 k, .bool true]) (by simp [results, Try.results73, go_sem, sR0, sR1, lR]) rfl ⟨_, by rw [HT.out.1, HT.out.2.2], ?_, ?_⟩
          · rw [HT.out.2.1]
            exact (((HST.out true).mv (l := w.heap.size) (h := w.heap.size + 2) (by repeat (first | exact Chg.refl _ _ _ | (refine Chg.set ?_ _ _ _ (.inl ⟨by omega, by omega⟩)))) (by omega)).wide (by omega) (by simp; omega))
          · exact (by repeat (first | exact q1.keep q2 | (refine Chg.set ?_ _ _ _ (.inr (by omega)))))
        · rw [hu] at cu
          have HA := Lib.hid (show ∀ j, j < k + 1 → f.used.getD j false = true from fun j hj => by
            by_cases e : j = k
            · subst e; exact hu
            · exact HALL.out j (by omega))
          go_wp2_with fail
          go_round
          case rel => exact ⟨k + 1, by omega, by go_num, HA.out⟩
          case measure => simp [intOf]; omega
      · obtain rfl : k = f.used.length := by omega
        obtain ⟨hd, hi'⟩ := takeD_no (takeOk_no2 hall)
        have HE := Lib.hid (takeOk_no2 hall)
        have HD := Lib.hid hd
        have HI := Lib.hid hi'
        clear hd hi' hU hO hall
        go_wp2_with fail
        refine bodyPost_ret (v := .tuple #[.agg #[.slice b1 f.cells.length d1, .slice b2 f.used.length d2], .int .i64 (-1), .bool false]) (by simp [results, Try.results73, go_sem, sR0, sR1, lR]) rfl ⟨_, by rw [HE.out, HI.out], ?_, ?_⟩
        · rw [HD.out]
          exact (((HO.out.keep q2).mv (l := w.heap.size) (h := w.heap.size + 2) (by repeat (first | exact Chg.refl _ _ _ | (refine Chg.set ?_ _ _ _ (.inl ⟨by omega, by omega⟩)))) (by omega)).wide (by omega) (by simp; omega))
        · exact (by repeat (first | exact q1.keep q2 | (refine Chg.set ?_ _ _ _ (.inr (by omega)))))
theorem freeI_yes {us : List Bool} {k : Nat} (hk : k < us.length) (h0 : us.getD k false = false) (h1 : ∀ j, j < k → us.getD j false = true) : freeI us = k := by unfold freeI; rw [freeN_eq hk h0 h1, if_pos hk]
theorem freeI_no {us : List Bool} (h1 : ∀ j, j < us.length → us.getD j false = true) : freeI us = -1 := by unfold freeI; rw [if_neg (freeN_none h1)]
theorem freeI_lt (us : List Bool) : freeI us < us.length := by unfold freeI; split <;> omega
theorem take_yes2 {f : FrD} (h : framesOkB f = true) (h0 : 0 ≤ freeI f.used) : takeOk f = true ∧ takeD f = ⟨f.cells, f.used.set (freeI f.used).toNat true⟩ ∧ takeI f = freeI f.used := by
  have hk : freeN f.used < f.used.length := by unfold freeI at h0; split at h0 <;> omega
  have e : freeI f.used = (freeN f.used : Int) := by unfold freeI; rw [if_pos hk]
  have ho : takeOk f = true := by unfold takeOk; rw [h]; simp [hk]
  refine ⟨ho, ?_, ?_⟩
  · unfold takeD; rw [if_pos ho, e]; rfl
  · unfold takeI; rw [if_pos ho, e]
theorem takeOk_no3 {f : FrD} (h0 : freeI f.used < 0) : takeOk f = false := by
  unfold takeOk
  have hk : ¬ freeN f.used < f.used.length := by unfold freeI at h0; split at h0 <;> omega
  rw [decide_eq_false hk]; simp
end Go.Proofs.Ytkcoehkfhffjkaa
