/- Plain laws of frames, tables and machines: what a valid one is, limb by limb, and what the functions keep. -/
import Derived.Test.YtkcoehkfhffjkaaModel
namespace Go.Proofs.Ytkcoehkfhffjkaa
set_option linter.unusedSimpArgs false
set_option linter.unusedVariables false
set_option linter.unnecessarySimpa false

/-! ## Frames -/
structure FOk (f : FrD) : Prop where
  len0 : 1 ≤ f.cells.length
  len1 : f.cells.length ≤ 32
  used : f.used.length = f.cells.length
  row : ∀ i, i < f.cells.length → rowOkB (f.used.getD i false) (f.cells.getD i []) = true
theorem framesOk_iff {f : FrD} : framesOkB f = true ↔ FOk f := by
  unfold framesOkB frRows
  simp only [Bool.and_eq_true, beq_iff_eq, btw_iff, List.all_eq_true, List.mem_range]
  constructor
  · rintro ⟨⟨⟨h1, h2⟩, h3⟩, h4⟩
    exact ⟨by omega, by omega, h3, h4⟩
  · rintro ⟨h1, h2, h3, h4⟩
    exact ⟨⟨⟨by omega, by omega⟩, h3⟩, h4⟩
theorem rowOk_iff {u : Bool} {c : List Int} : rowOkB u c = true ↔ c.length = 16 ∧ ∀ j, j < 16 → 0 ≤ c.getD j 0 ∧ c.getD j 0 ≤ 999 ∧ (u = true ∨ c.getD j 0 = 0) := by
  unfold rowOkB cellOkB
  simp only [Bool.and_eq_true, beq_iff_eq, List.all_eq_true, btw_iff, Bool.or_eq_true]
  constructor
  · rintro ⟨h1, h2⟩
    refine ⟨h1, fun j hj => ?_⟩
    have := h2 (c.getD j 0) (by simp [List.getD, List.getElem?_eq_getElem (show j < c.length by omega)])
    exact ⟨this.1.1, this.1.2, this.2⟩
  · rintro ⟨h1, h2⟩
    refine ⟨h1, fun x hx => ?_⟩
    obtain ⟨j, hj, rfl⟩ := List.getElem_of_mem hx
    have := h2 j (by omega)
    simp only [List.getD, List.getElem?_eq_getElem hj, Option.getD_some] at this
    exact ⟨⟨this.1, this.2.1⟩, this.2.2⟩
theorem rowOk_true {u : Bool} {c : List Int} (h : rowOkB u c = true) : rowOkB true c = true := by
  rw [rowOk_iff] at *
  exact ⟨h.1, fun j hj => ⟨(h.2 j hj).1, (h.2 j hj).2.1, .inl rfl⟩⟩
theorem zrow_at (j : Nat) : zrow.getD j 0 = 0 := by
  rcases Nat.lt_or_ge j 16 with h | h
  · simp only [zrow, List.getD, List.getElem?_replicate, h, if_true, Option.getD_some]
  · simp only [zrow, List.getD, List.getElem?_replicate, show ¬ j < 16 by omega, if_false, Option.getD_none]
theorem zrow_ok (u : Bool) : rowOkB u zrow = true := by
  rw [rowOk_iff]
  exact ⟨by simp [zrow], fun j hj => by rw [zrow_at]; simp⟩
theorem row_zero {c : List Int} (h : rowOkB false c = true) : c = zrow := by
  rw [rowOk_iff] at h
  apply List.ext_getElem
  · rw [h.1]; simp [zrow]
  · intro j h1 h2
    have := h.2 j (by omega)
    simp only [List.getD, List.getElem?_eq_getElem h1, Option.getD_some] at this
    simp only [Bool.false_eq_true, false_or] at this
    rw [this.2.2]; simp only [zrow, List.getElem_replicate]
theorem rowOk_set {c : List Int} {k : Nat} {v : Int} (h : rowOkB true c = true) (h0 : 0 ≤ v) (h1 : v ≤ 999) : rowOkB true (c.set k v) = true := by
  rw [rowOk_iff] at *
  refine ⟨by simpa using h.1, fun j hj => ?_⟩
  have := h.2 j hj
  by_cases e : k = j
  · subst e
    simp [List.getD, List.getElem?_set, h.1, hj]
    omega
  · simpa [List.getD, List.getElem?_set, e] using this
theorem getD_set_ne {α : Type} (l : List α) (i j : Nat) (x d : α) (h : i ≠ j) : (l.set i x).getD j d = l.getD j d := by simp [List.getD, List.getElem?_set, h]
theorem getD_set_eq {α : Type} (l : List α) (i : Nat) (x d : α) (h : i < l.length) : (l.set i x).getD i d = x := by simp [List.getD, List.getElem?_set, h]
/-- Row and mark i are replaced. -/
theorem FOk.put {f : FrD} (h : FOk f) (i : Nat) (u : Bool) (c : List Int) (hr : rowOkB u c = true) : FOk ⟨f.cells.set i c, f.used.set i u⟩ := by
  refine ⟨by simpa using h.len0, by simpa using h.len1, by simpa using h.used, fun j hj => ?_⟩
  simp only [List.length_set] at hj
  have hu := h.used
  by_cases e : i = j
  · subst e
    rw [getD_set_eq _ _ _ _ hj, getD_set_eq _ _ _ _ (by omega)]
    exact hr
  · rw [getD_set_ne _ _ _ _ _ e, getD_set_ne _ _ _ _ _ e]
    exact h.row j hj
theorem FOk.mark {f : FrD} (h : FOk f) (i : Nat) : FOk ⟨f.cells, f.used.set i true⟩ := by
  refine ⟨h.len0, h.len1, by simpa using h.used, fun j hj => ?_⟩
  have hu := h.used
  dsimp only at hj ⊢
  by_cases e : i = j
  · subst e
    rw [getD_set_eq _ _ _ _ (by omega)]
    exact rowOk_true (h.row _ hj)
  · rw [getD_set_ne _ _ _ _ _ e]
    exact h.row j hj
theorem FOk.cell {f : FrD} (h : FOk f) (i k : Nat) (v : Int) (hi : f.used.getD i false = true) (h0 : 0 ≤ v) (h1 : v ≤ 999) : FOk ⟨f.cells.set i ((f.cells.getD i []).set k v), f.used⟩ := by
  refine ⟨by simpa using h.len0, by simpa using h.len1, by simpa using h.used, fun j hj => ?_⟩
  simp only [List.length_set] at hj
  by_cases e : i = j
  · subst e
    rw [getD_set_eq _ _ _ _ hj, hi]
    have := h.row _ hj
    rw [hi] at this
    exact rowOk_set this h0 h1
  · rw [getD_set_ne _ _ _ _ _ e]
    exact h.row j hj
theorem freeN_lt {us : List Bool} (h : freeN us < us.length) : us.getD (freeN us) false = false := by
  unfold freeN at *
  have := List.findIdx_getElem (w := h)
  simpa [List.getD, h] using this
theorem freeN_before {us : List Bool} {k : Nat} (h : k < freeN us) : us.getD k false = true := by
  unfold freeN at h
  have := List.not_of_lt_findIdx h
  have hk : k < us.length := Nat.lt_of_lt_of_le h List.findIdx_le_length
  simpa [List.getD, hk] using this
theorem freeN_eq {us : List Bool} {k : Nat} (hk : k < us.length) (h0 : us.getD k false = false) (h1 : ∀ j, j < k → us.getD j false = true) : freeN us = k := by
  rcases Nat.lt_trichotomy (freeN us) k with h | h | h
  · have := freeN_lt (us := us) (by omega)
    rw [h1 _ h] at this; cases this
  · exact h
  · have := freeN_before h
    rw [h0] at this; cases this
theorem freeN_none {us : List Bool} (h1 : ∀ j, j < us.length → us.getD j false = true) : ¬ freeN us < us.length := by
  intro h
  have := freeN_lt h
  rw [h1 _ h] at this; cases this
theorem takeD_ok {f : FrD} (h : FOk f) : FOk (takeD f) := by
  unfold takeD
  split
  · exact h.mark _
  · exact h
theorem giveD_ok {f : FrD} (h : FOk f) (i : Int) : FOk (giveD f i) := by
  unfold giveD
  split
  · exact h.put _ _ _ (zrow_ok _)
  · exact h
/-- How many marks are set. -/
def cntU (us : List Bool) : Nat := (us.filter id).length
theorem cntU_set {us : List Bool} {i : Nat} (hi : i < us.length) (h : us.getD i false = false) : cntU (us.set i true) = cntU us + 1 := by
  induction us generalizing i with
  | nil => simp at hi
  | cons u us ih =>
    cases i with
    | zero =>
      simp at h; subst h
      simp [cntU]
    | succ i =>
      have := ih (i := i) (by simpa using hi) (by simpa using h)
      cases u <;> simp [cntU] at * <;> omega
theorem cntU_all {us : List Bool} (h : ∀ j, j < us.length → us.getD j false = true) : cntU us = us.length := by
  induction us with
  | nil => rfl
  | cons u us ih =>
    have h0 := h 0 (by simp)
    have := ih fun j hj => by have := h (j + 1) (by simpa using hj); simpa using this
    simp at h0; subst h0
    simp [cntU] at *
    exact this

/-! ## Tables -/
def OnAt (t : TbD) (f : Int) (j : Nat) : Prop := j < t.length ∧ onB f (t.getD j (0, 0)) = true
theorem onTo_pos (t : TbD) (f : Int) (k : Nat) : 0 < (onTo t f k).length ↔ ∃ j, j < k ∧ onB f (t.getD j (0, 0)) = true := by
  induction k with
  | zero => simp [onTo]
  | succ k ih =>
    unfold onTo
    rw [List.length_append]
    constructor
    · intro h
      by_cases hk : onB f (t.getD k (0, 0)) = true
      · exact ⟨k, by omega, hk⟩
      · rw [if_neg hk] at h
        obtain ⟨j, hj, e⟩ := ih.1 (by simpa using h)
        exact ⟨j, by omega, e⟩
    · rintro ⟨j, hj, e⟩
      by_cases hjk : j = k
      · subst hjk
        rw [if_pos e]; simp
      · have := ih.2 ⟨j, by omega, e⟩
        omega
theorem onD_pos (t : TbD) (f : Int) : 0 < (onD t f).length ↔ ∃ j, OnAt t f j := onTo_pos t f t.length
structure TOk (t : TbD) (n : Int) : Prop where
  len0 : 1 ≤ t.length
  len1 : t.length ≤ 32
  ent : ∀ j, j < t.length → entOkB n (t.getD j (0, 0)) = true
theorem tableOk_iff {t : TbD} {n : Int} : tableOkB t n = true ↔ TOk t n := by
  unfold tableOkB
  simp only [Bool.and_eq_true, btw_iff, List.all_eq_true]
  constructor
  · rintro ⟨h1, h2, h3⟩
    refine ⟨by omega, by omega, fun j hj => h1 _ ?_⟩
    simp [List.getD, hj]
  · rintro ⟨h1, h2, h3⟩
    refine ⟨fun e he => ?_, by omega, by omega⟩
    obtain ⟨j, hj, rfl⟩ := List.getElem_of_mem he
    have := h3 j hj
    simpa [List.getD, hj] using this
theorem entOk_iff {n : Int} {e : Int × Int} : entOkB n e = true ↔ 0 ≤ e.1 ∧ e.1 ≤ 2 ∧ (e.1 = 0 → e.2 = 0) ∧ (e.1 ≠ 0 → 0 ≤ e.2 ∧ e.2 < n) := by
  unfold entOkB
  rw [Bool.and_eq_true, btw_iff]
  by_cases h : e.1 = 0
  · simp [h]
  · simp only [h, if_false, btw_iff]
    constructor
    · rintro ⟨⟨h1, h2⟩, h3, h4⟩; exact ⟨h1, h2, fun hh => absurd hh (by simpa using h), fun _ => ⟨h3, by omega⟩⟩
    · rintro ⟨h1, h2, _, h3⟩; have := h3 h; exact ⟨⟨h1, h2⟩, this.1, by omega⟩
theorem TOk.set {t : TbD} {n : Int} (h : TOk t n) (p : Nat) (e : Int × Int) (he : entOkB n e = true) : TOk (t.set p e) n := by
  refine ⟨by simpa using h.len0, by simpa using h.len1, fun j hj => ?_⟩
  simp only [List.length_set] at hj
  by_cases x : p = j
  · subst x; rw [getD_set_eq _ _ _ _ hj]; exact he
  · rw [getD_set_ne _ _ _ _ _ x]; exact h.ent j hj

/-! ## Machines -/
structure MOk (m : MaD) : Prop where
  fr : FOk m.fr
  tb : TOk m.tb m.fr.used.length
  use : ∀ i : Nat, i < m.fr.used.length → (m.fr.used.getD i false = true ↔ ∃ j, OnAt m.tb i j)
theorem machineOk_iff {m : MaD} : machineOkB m = true ↔ MOk m := by
  unfold machineOkB usedOkB
  simp only [Bool.and_eq_true, framesOk_iff, tableOk_iff, List.all_eq_true, List.mem_range, beq_iff_eq]
  constructor
  · rintro ⟨⟨h1, h2⟩, h3⟩
    refine ⟨h1, h2, fun i hi => ?_⟩
    rw [h3 i hi, decide_eq_true_eq, onD_pos]
  · rintro ⟨h1, h2, h3⟩
    refine ⟨⟨h1, h2⟩, fun i hi => ?_⟩
    have := h3 i hi
    rw [← onD_pos] at this
    cases hx : m.fr.used.getD i false
    · rw [hx] at this
      symm
      rw [decide_eq_false_iff_not]
      intro hy
      exact absurd (this.2 hy) (by simp)
    · symm
      rw [decide_eq_true_eq]
      exact this.1 hx
theorem onB_iff {f : Int} {e : Int × Int} : onB f e = true ↔ e.1 ≠ 0 ∧ e.2 = f := by simp [onB]
/-- The frame of a mapped page is used. -/
theorem MOk.frame {m : MaD} (h : MOk m) {j : Nat} (hj : j < m.tb.length) (he : (m.tb.getD j (0, 0)).1 ≠ 0) :
    0 ≤ (m.tb.getD j (0, 0)).2 ∧ (m.tb.getD j (0, 0)).2 < m.fr.used.length ∧ m.fr.used.getD (m.tb.getD j (0, 0)).2.toNat false = true := by
  have h1 := entOk_iff.1 (h.tb.ent j hj)
  obtain ⟨h2, h3⟩ := h1.2.2.2 he
  refine ⟨h2, h3, (h.use _ (by omega)).2 ⟨j, hj, onB_iff.2 ⟨he, by omega⟩⟩⟩
theorem MOk.cell {m : MaD} (h : MOk m) {i : Nat} (k : Nat) (v : Int) (hi : m.fr.used.getD i false = true) (h0 : 0 ≤ v) (h1 : v ≤ 999) : MOk ⟨⟨m.fr.cells.set i ((m.fr.cells.getD i []).set k v), m.fr.used⟩, m.tb⟩ :=
  ⟨h.fr.cell i k v hi h0 h1, h.tb, h.use⟩
theorem btw_len {α : Type} {p : Int} {l : List α} (h : btw p 0 ((l.length : Int) - 1) = true) : p.toNat < l.length := by rw [btw_iff] at h; omega
theorem entryD_in {t : TbD} {p : Int} (h : (entryD t p).1 ≠ 0) : btw p 0 ((t.length : Int) - 1) = true ∧ entryD t p = t.getD p.toNat (0, 0) := by
  unfold entryD at *
  split at h
  · rename_i hb; exact ⟨hb, by rw [if_pos hb]⟩
  · simp at h
theorem storeD_ok {m : MaD} (h : MOk m) (a v : Int) : MOk (storeD m a v) := by
  unfold storeD
  split
  · rename_i hc
    have hv : btw v 0 999 = true ∧ (entryAtD m a).1 ≠ 0 := by
      unfold storeC at hc
      split at hc
      · simp at hc
      · split at hc
        · simp at hc
        · split at hc
          · rename_i h1 _ h3; exact ⟨h3, h1⟩
          · simp at hc
    have he : entryAtD m a = entryD m.tb (a / 16) ∧ (entryD m.tb (a / 16)).1 ≠ 0 := by
      have h2 := hv.2
      unfold entryAtD at h2 ⊢
      by_cases hx : (decide (0 ≤ a) && machineOkB m) = true
      · rw [if_pos hx] at h2 ⊢; exact ⟨rfl, h2⟩
      · rw [if_neg hx] at h2; exact absurd rfl h2
    obtain ⟨hb, e2⟩ := entryD_in he.2
    have hne := he.2
    rw [he.1, e2] at *
    have := h.frame (btw_len hb) hne
    rw [btw_iff] at hv
    exact h.cell _ _ this.2.2 hv.1.1 hv.1.2
  · exact h
end Go.Proofs.Ytkcoehkfhffjkaa
