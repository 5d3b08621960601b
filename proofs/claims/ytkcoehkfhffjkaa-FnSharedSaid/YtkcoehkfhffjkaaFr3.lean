/- Frames as a whole: the laws' own functions on them. -/
import Derived.Test.YtkcoehkfhffjkaaFr2
namespace Go.Proofs.Ytkcoehkfhffjkaa
open Go.ChangeShapes Go.WideShapes Go.ChangeAt Go.RowKit
set_option linter.unusedSimpArgs false
set_option linter.unusedVariables false

/-- Frames in memory that calls made. -/
def FR (lo hi : Nat) (w : World) (v : Value) (f : FrD) : Prop := ∃ s1 s2, v = .agg #[s1, s2] ∧ SS lo hi w s1 f.cells ∧ SB lo hi w s2 f.used
theorem FR.mv {l h lo hi : Nat} {w w' : World} {v : Value} {f : FrD} (hr : FR lo hi w v f) (hc : Chg l h w w') (hd : hi ≤ l ∨ h ≤ lo ∨ h ≤ l ∨ hi ≤ lo ∨ w.heap.size ≤ l) : FR lo hi w' v f := by
  obtain ⟨s1, s2, e, h1, h2⟩ := hr; exact ⟨s1, s2, e, h1.mv hc hd, h2.mv hc hd⟩
theorem FR.keep {lo hi : Nat} {w w' : World} {v : Value} {f : FrD} (hr : FR lo hi w v f) (hc : Keep w w') : FR lo hi w' v f := hr.mv hc (.inr (.inl (Nat.zero_le _)))
theorem FR.wide {lo hi lo' hi' : Nat} {w : World} {v : Value} {f : FrD} (hr : FR lo hi w v f) (h1 : lo' ≤ lo) (h2 : hi ≤ hi') : FR lo' hi' w v f := by
  obtain ⟨s1, s2, e, x1, x2⟩ := hr; exact ⟨s1, s2, e, x1.wide h1 h2, x2.wide h1 h2⟩
theorem SS.slice {lo hi : Nat} {w : World} {v : Value} {rows : List (List Int)} (h : SS lo hi w v rows) : ∃ a c, v = .slice a rows.length c ∧ rows.length ≤ c ∧ SS lo hi w (.slice a rows.length c) rows := by
  obtain ⟨vs, h⟩ := h
  obtain ⟨a, c, rfl, hc, _⟩ := h.opened
  exact ⟨a, c, rfl, hc, vs, h⟩
theorem SB.slice {lo hi : Nat} {w : World} {v : Value} {bs : List Bool} (h : SB lo hi w v bs) : ∃ a c, v = .slice a bs.length c ∧ bs.length ≤ c ∧ SB lo hi w (.slice a bs.length c) bs := by
  obtain ⟨a, c, rfl, hc, _⟩ := h.opened
  exact ⟨a, c, rfl, hc, h⟩
theorem FR.opened {lo hi : Nat} {w : World} {v : Value} {f : FrD} (h : FR lo hi w v f) : ∃ a1 c1 a2 c2, v = .agg #[.slice a1 f.cells.length c1, .slice a2 f.used.length c2] ∧ SS lo hi w (.slice a1 f.cells.length c1) f.cells ∧ SB lo hi w (.slice a2 f.used.length c2) f.used := by
  obtain ⟨s1, s2, rfl, h1, h2⟩ := h
  obtain ⟨a1, c1, rfl, _, h1⟩ := h1.slice
  obtain ⟨a2, c2, rfl, _, h2⟩ := h2.slice
  exact ⟨a1, c1, a2, c2, rfl, h1, h2⟩
/-- Frames that came in. -/
def InFr (w : World) (v : Value) (f : FrD) : Prop := ∃ s1 s2, v = .agg #[s1, s2] ∧ InSS w s1 f.cells ∧ InB w s2 f.used
theorem InFr.keep {w w' : World} {v : Value} {f : FrD} (h : InFr w v f) (hk : Keep w w') : InFr w' v f := by
  obtain ⟨s1, s2, e, h1, h2⟩ := h; exact ⟨s1, s2, e, h1.keep hk, h2.keep hk⟩
theorem InFr.opened {w : World} {v : Value} {f : FrD} (h : InFr w v f) : ∃ a1 c1 a2 c2, v = .agg #[.slice a1 f.cells.length c1, .slice a2 f.used.length c2] ∧ InFr w (.agg #[.slice a1 f.cells.length c1, .slice a2 f.used.length c2]) f := by
  obtain ⟨s1, s2, rfl, h1, h2⟩ := h
  have h1' := h1
  have h2' := h2
  obtain ⟨a1, c1, rfl, _, _⟩ := h1
  obtain ⟨a2, c2, rfl, _, _⟩ := h2
  exact ⟨a1, c1, a2, c2, rfl, _, _, rfl, h1', h2'⟩
def sm_Frames (f : FrD) : Prop := f.cells.length + cntRows f.cells + f.used.length ≤ 1048576
def cnt_Frames (f : FrD) : Nat := cntRows f.cells + f.used.length
def mkFr (k : Int) (f : FrD) : FrD := ⟨markRows k f.cells, markBools (k + cntRows f.cells) f.used.length⟩
theorem row_le (rows : List (List Int)) (j : Nat) : (rows.getD j []).length ≤ cntRows rows := by
  induction rows generalizing j with
  | nil => simp
  | cons r rows ih =>
    cases j with
    | zero => simp [cntRows]
    | succ j => have := ih j; simp [cntRows] at *; omega
theorem blk1 (w : World) (o : Obj) (t : TypeId) (cs : Array Value) : Blk ((w.alloc o).alloc (.cells cs t (0, 0))) (w.heap.size + 1) t cs := by
  have := Blk.new (w.alloc o) t cs
  rwa [size_alloc] at this
theorem blk2 (w : World) (o o2 : Obj) (t : TypeId) (cs : Array Value) : Blk (((w.alloc o).alloc o2).alloc (.cells cs t (0, 0))) (w.heap.size + 1 + 1) t cs := by
  have := Blk.new ((w.alloc o).alloc o2) t cs
  rwa [size_alloc, size_alloc] at this
theorem blk3 (w : World) (o o2 o3 : Obj) (t : TypeId) (cs : Array Value) : Blk ((((w.alloc o).alloc o2).alloc o3).alloc (.cells cs t (0, 0))) (w.heap.size + 1 + 1 + 1) t cs := by
  have := Blk.new (((w.alloc o).alloc o2).alloc o3) t cs
  rwa [size_alloc, size_alloc, size_alloc] at this
theorem szFrames_any (v : Value) (f : FrD) (left : Int) (w : World) (h : InFr w v f) (h0 : 0 ≤ left) (h1 : left ≤ 1048576) :
    Calls Try.prog 47 #[v, .int .i64 left] w fun e w' => ∃ s, e = .returned (.int .i64 s) ∧ -1 ≤ s ∧ (0 ≤ s → s + f.cells.length + cntRows f.cells + f.used.length = left) ∧ Keep w w' := by
  obtain ⟨s1, s2, rfl, hs1, hs2⟩ := h
  have i1 := hs1.keep ((Chg.refl 0 0 w).alloc (.cells #[s1, s2] 25 (0, 0)))
  have i2 := hs2.keep ((Chg.refl 0 0 w).alloc (.cells #[s1, s2] 25 (0, 0)))
  obtain ⟨a1, c1, rfl, _, _⟩ := hs1
  obtain ⟨a2, c2, rfl, _, _⟩ := hs2
  go_enter Try.func47, Try.ntmps47
  go_wp2_with fail
  refine (szIntSS_any _ _ _ _ i1 h0 h1).mono ?_
  rintro e w' ⟨s, rfl, hs0, hs, rfl⟩
  by_cases hx : s < 0
  · go_wp2_with fail
    go_ret
    exact ⟨_, rfl, by omega, by omega, (Chg.refl _ _ _).alloc _⟩
  · have hs := hs (by omega)
    go_wp2_with fail
    refine (szBoolS_any _ _ _ _ i2 (by omega) (by omega)).mono ?_
    rintro e w' ⟨rfl, rfl⟩
    by_cases hy : szI s f.used.length < 0
    · go_wp2_with fail
      go_ret
      exact ⟨_, rfl, by omega, by omega, (Chg.refl _ _ _).alloc _⟩
    · have hz : szI s f.used.length + f.used.length = s := by unfold szI at *; split <;> rename_i hq <;> simp [hq] at hy ⊢
      go_wp2_with fail
      go_ret
      exact ⟨_, rfl, by omega, by omega, (Chg.refl _ _ _).alloc _⟩
theorem toFrames_any (v : Value) (f : FrD) (w : World) (h : InFr w v f) (hn : sm_Frames f) :
    Calls Try.prog 50 #[v] w fun e w' => ∃ v', e = .returned v' ∧ FR w.heap.size w'.heap.size w' v' f ∧ Keep w w' := by
  unfold sm_Frames at hn
  obtain ⟨s1, s2, rfl, hs1, hs2⟩ := h
  have hs1' := hs1
  have hs2' := hs2
  obtain ⟨a1, c1, rfl, _, _⟩ := hs1'
  obtain ⟨a2, c2, rfl, _, _⟩ := hs2'
  have hrl := fun j (_ : j < f.cells.length) => Nat.le_trans (row_le f.cells j) (show cntRows f.cells ≤ 1048576 by omega)
  go_enter Try.func50, Try.ntmps50
  go_wp2_with fail
  refine (toIntSS_any _ _ _ (hs1.keep (by repeat (first | exact Chg.refl _ _ _ | apply Chg.alloc))) (by omega) hrl).mono ?_
  rintro e w1 ⟨v1, rfl, h1, k1⟩
  have bA := ((Blk.new w 25 #[.slice a1 f.cells.length c1, .slice a2 f.used.length c2]).keep (((Chg.refl 0 0 _).alloc (.cells #[.slice none 0 0, .slice none 0 0] 34 (0, 0))).alloc (.cells #[.slice none 0 0, .slice none 0 0] 34 (0, 0)))).keep k1
  have bR := ((blk1 w (.cells #[.slice a1 f.cells.length c1, .slice a2 f.used.length c2] 25 (0, 0)) 34 #[.slice none 0 0, .slice none 0 0]).keep ((Chg.refl 0 0 _).alloc (.cells #[.slice none 0 0, .slice none 0 0] 34 (0, 0)))).keep k1
  have bO := (blk2 w (.cells #[.slice a1 f.cells.length c1, .slice a2 f.used.length c2] 25 (0, 0)) (.cells #[.slice none 0 0, .slice none 0 0] 34 (0, 0)) 34 #[.slice none 0 0, .slice none 0 0]).keep k1
  have q1 : Keep w w1 := Chg.keep (by repeat (first | exact Chg.refl _ _ _ | apply Chg.alloc)) k1
  obtain ⟨b1, d1, rfl, _, h1⟩ := h1.slice
  have hz := k1.size
  simp only [size_alloc] at h1 hz
  have cA := bA.cell 1
  have cO := bO.cell 0
  have fO := bO.frozen 0
  have lO := bO.lt
  clear bA k1
  go_wp2_with fail
  have q2 := q1.set (w.heap.size + 1 + 1) 0 (.slice b1 f.cells.length d1) (.inr (by omega))
  refine (toBoolS_any _ _ _ (hs2.keep q2) (by omega)).mono ?_
  rintro e w2 ⟨v2, rfl, h2, k2⟩
  replace bO := (bO.set_ 0 (.slice b1 f.cells.length d1)).keep k2
  replace bR := (bR.far (p := ⟨w.heap.size + 1 + 1, 0, none⟩) (by simp) (.slice b1 f.cells.length d1)).keep k2
  replace q1 := q2.keep k2
  replace h1 := (h1.mv (l := w.heap.size) (h := w.heap.size + 3) ((Chg.refl _ _ w1).set (w.heap.size + 1 + 1) 0 (.slice b1 f.cells.length d1) (.inl ⟨by omega, by omega⟩)) (by omega)).keep k2
  obtain ⟨b2, d2, rfl, _, h2⟩ := h2.slice
  have hz2 := k2.size
  simp only [World.setCell, Array.size_modify] at hz2 h2
  have cO := bO.cell 0
  have cO1 := bO.cell 1
  have fO := bO.frozen 1
  have lO := bO.lt
  have cR := bR.cell 0
  have cR1 := bR.cell 1
  have fR := bR.frozen 0
  have fR1 := bR.frozen 1
  have lR := bR.lt
  clear k2 cA
  go_wp2_with fail
  refine bodyPost_ret (v := .agg #[.slice b1 f.cells.length d1, .slice b2 f.used.length d2]) (by simp [results, Try.results50, go_sem, cR, cR1, lR, lO]) rfl ⟨_, rfl, ⟨_, _, rfl, ?_, ?_⟩, ?_⟩
  · exact (h1.mv (l := w.heap.size) (h := w.heap.size + 3) (((Chg.refl _ _ w2).set _ _ _ (.inl ⟨by omega, by omega⟩)).set _ _ _ (.inl ⟨by omega, by omega⟩) |>.set _ _ _ (.inl ⟨by omega, by omega⟩)) (by omega)).wide (by omega) (by simpa [World.setCell] using hz2)
  · exact (h2.mv (l := w.heap.size) (h := w.heap.size + 3) (((Chg.refl _ _ w2).set _ _ _ (.inl ⟨by omega, by omega⟩)).set _ _ _ (.inl ⟨by omega, by omega⟩) |>.set _ _ _ (.inl ⟨by omega, by omega⟩)) (by omega)).wide (by omega) (by simp [World.setCell])
  · exact ((q1.set _ _ _ (.inr (by omega))).set _ _ _ (.inr (by omega))).set _ _ _ (.inr (by omega))
theorem eqFrames_same {l1 h1 l2 h2 : Nat} {f : FrD} (v u : Value) (w : World) (x : FR l1 h1 w v f) (y : FR l2 h2 w u f) (hs : sm_Frames f) :
    Calls Try.prog 54 #[v, u] w fun e w' => e = .returned (.bool true) ∧ Keep w w' := by
  unfold sm_Frames at hs
  obtain ⟨a1, c1, a2, c2, rfl, x1, x2⟩ := x.opened
  obtain ⟨b1, d1, b2, d2, rfl, y1, y2⟩ := y.opened
  have hrl := fun j (_ : j < f.cells.length) => Nat.le_trans (row_le f.cells j) (show cntRows f.cells ≤ 100000000 by omega)
  go_enter Try.func54, Try.ntmps54
  go_wp2_with fail
  refine (eqIntSS_same _ _ _ (x1.keep (by repeat (first | exact Chg.refl _ _ _ | apply Chg.alloc))) (y1.keep (by repeat (first | exact Chg.refl _ _ _ | apply Chg.alloc))) (by omega) hrl).mono ?_
  rintro e w1 ⟨rfl, k1⟩
  have bA := ((Blk.new w 34 #[.slice a1 f.cells.length c1, .slice a2 f.used.length c2]).keep ((Chg.refl 0 0 _).alloc (.cells #[.slice b1 f.cells.length d1, .slice b2 f.used.length d2] 34 (0, 0)))).keep k1
  have bB := (blk1 w (.cells #[.slice a1 f.cells.length c1, .slice a2 f.used.length c2] 34 (0, 0)) 34 #[.slice b1 f.cells.length d1, .slice b2 f.used.length d2]).keep k1
  have q1 : Keep w w1 := Chg.keep (by repeat (first | exact Chg.refl _ _ _ | apply Chg.alloc)) k1
  have cA := bA.cell 1
  have cB := bB.cell 1
  clear bA bB k1
  go_wp2_with fail
  refine (eqBoolS_same _ _ _ (x2.keep q1) (y2.keep q1) (by omega)).mono ?_
  rintro e w2 ⟨rfl, k2⟩
  go_wp2_with fail
  go_ret
  exact ⟨rfl, q1.keep k2⟩
theorem markFrames_any {lo hi : Nat} {f : FrD} (v : Value) (k0 : Int) (w : World) (h1 : FR lo hi w v f) (hhi : hi ≤ w.heap.size) (hs : sm_Frames f) (hk0 : 0 ≤ k0) (hk1 : k0 ≤ 10000000) :
    Calls Try.prog 56 #[v, .int .i64 k0] w fun e w' => e = .returned (.int .i64 (k0 + (cnt_Frames f : Int))) ∧ FR lo hi w' v (mkFr k0 f) ∧ KeepNot [3, 4] w w' ∧ Chg lo hi w w' := by
  unfold sm_Frames at hs
  have HC := Lib.hid (show ((cnt_Frames f : Nat) : Int) = (cntRows f.cells : Int) + (f.used.length : Int) by unfold cnt_Frames; omega)
  obtain ⟨a1, c1, a2, c2, rfl, x1, x2⟩ := h1.opened
  go_enter Try.func56, Try.ntmps56
  go_wp2_with fail
  refine (markIntSS_any _ _ _ (x1.keep (by repeat (first | exact Chg.refl _ _ _ | apply Chg.alloc))) (by omega) (by omega) hk0 (by omega)).mono ?_
  rintro e w1 ⟨rfl, y1, n1, k1⟩
  have bA := (Blk.new w 34 #[.slice a1 f.cells.length c1, .slice a2 f.used.length c2]).mv k1 (by omega)
  have q1 : Chg lo hi w w1 := ((Chg.refl lo hi w).alloc _).trans k1
  have m1 : KeepNot [3] w w1 := (KeepNot.of_keep ((Chg.refl 0 0 w).alloc _)).trans n1
  have y2 := x2.keepNot m1 (by decide)
  have cA := bA.cell 1
  clear bA k1 n1
  go_wp2_with fail
  refine (markBoolS_any _ _ _ y2 (by omega) (by omega) (by omega)).mono ?_
  rintro e w2 ⟨rfl, z2, n2, k2⟩
  have z1 := y1.keepNot n2 (by decide) (by decide)
  go_wp2_with fail
  go_ret
  refine ⟨by rw [HC.out, ← Int.add_assoc]; rfl, ⟨_, _, rfl, z1, z2⟩, (m1.mono (by decide)).trans (n2.mono (by decide)), q1.trans k2⟩
theorem heldFrames_any {lo hi : Nat} {f : FrD} (v : Value) (k0 : Int) (w : World) (h1 : FR lo hi w v (mkFr k0 f)) (hs : sm_Frames f) (hk0 : 0 ≤ k0) (hk1 : k0 ≤ 10000000) :
    Calls Try.prog 66 #[v, .int .i64 k0] w fun e w' => e = .returned (.int .i64 (k0 + (cnt_Frames f : Int))) ∧ Keep w w' := by
  unfold sm_Frames at hs
  have HC := Lib.hid (show ((cnt_Frames f : Nat) : Int) = (cntRows f.cells : Int) + (f.used.length : Int) by unfold cnt_Frames; omega)
  obtain ⟨a1, c1, a2, c2, rfl, x1, x2⟩ := h1.opened
  have e1 : (mkFr k0 f).cells.length = f.cells.length := markRows_len _ _
  have e2 : (mkFr k0 f).used.length = f.used.length := markBools_len _ _
  rw [e1] at x1 ⊢
  rw [e2] at x2 ⊢
  clear e1 e2
  go_enter Try.func66, Try.ntmps66
  go_wp2_with fail
  refine (heldIntSS_any _ _ _ (x1.keep (by repeat (first | exact Chg.refl _ _ _ | apply Chg.alloc))) (by omega) (by omega) hk0 (by omega)).mono ?_
  rintro e w1 ⟨rfl, rfl⟩
  go_wp2_with fail
  refine (heldBoolS_any _ _ _ (x2.keep (by repeat (first | exact Chg.refl _ _ _ | apply Chg.alloc))) (by omega) (by omega) (by omega)).mono ?_
  rintro e w2 ⟨rfl, rfl⟩
  go_wp2_with fail
  go_ret
  refine ⟨by rw [HC.out, ← Int.add_assoc]; rfl, by repeat (first | exact Chg.refl _ _ _ | apply Chg.alloc)⟩
end Go.Proofs.Ytkcoehkfhffjkaa
