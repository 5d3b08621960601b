/- Drawn frames: they are valid. -/
import Derived.Test.YtkcoehkfhffjkaaFr7
import Derived.Test.YtkcoehkfhffjkaaDraw2
import Derived.Deep.RegionHeld3
namespace Go.Proofs.Ytkcoehkfhffjkaa
open Go.ChangeShapes Go.WideShapes Go.ChangeAt Go.RowKit
set_option linter.unusedSimpArgs false
set_option linter.unusedVariables false
set_option maxRecDepth 100000

theorem FOk.anyMark {f : FrD} (h : FOk f) (k : Nat) (b : Bool) (h0 : f.used.getD k false = false) : FOk ⟨f.cells, f.used.set k b⟩ := by
  refine ⟨h.len0, h.len1, by simpa using h.used, fun j hj => ?_⟩
  have hu := h.used
  dsimp only at hj ⊢
  by_cases e : k = j
  · subst e
    rw [getD_set_eq _ _ _ _ (by omega)]
    have := h.row k hj
    rw [h0] at this
    rw [row_zero this]
    exact zrow_ok b
  · rw [getD_set_ne _ _ _ _ _ e]
    exact h.row j hj
theorem framesNewD_ok {n : Int} (h : btw n 1 32 = true) : FOk (framesNewD n) ∧ (framesNewD n).used.length = n.toNat ∧ ∀ j, (framesNewD n).used.getD j false = false := by
  have hn := btw_iff.1 h
  unfold framesNewD
  rw [if_pos h]
  refine ⟨⟨by simp; omega, by simp; omega, by simp, fun i hi => ?_⟩, by simp, fun j => ?_⟩
  · simp only [List.length_replicate] at hi
    simp only [List.getD, List.getElem?_replicate, hi, if_true, Option.getD_some]
    exact zrow_ok false
  · simp only [List.getD, List.getElem?_replicate]
    split <;> rfl
theorem Chg.cellLow {l h : Nat} {a b : World} (hc : Chg l h a b) {g j : Nat} {v : Value} (hv : a.cell? ⟨g, j, none⟩ = some v) (hg : g < l ∨ h ≤ g) : b.cell? ⟨g, j, none⟩ = some v :=
  (World.cell?_of_block (hc.block g (World.block_lt_of_cell? a _ hv) hg)).trans hv
theorem FR.cellNe {lo hi : Nat} {w : World} {g n1 c1 gr len d : Nat} {s2 : Value} {f : FrD} (h : FR lo hi w (.agg #[.slice (some ⟨g, 0, none⟩) n1 c1, s2]) f) (i : Nat) (hi' : i < f.cells.length)
    (hc : w.cell? ⟨g, i, none⟩ = some (.slice (some ⟨gr, 0, none⟩) len d)) : g ≠ gr := by
  obtain ⟨⟨vs, h1⟩, _⟩ := h.parts
  obtain ⟨a', c', e, _, hf⟩ := h1.opened
  obtain ⟨g', rfl, _, _, _, x4, _⟩ := hf i hi'
  simp at e
  rw [← e.1, hc] at x4
  have hr := h1.row i hi'
  rw [← Option.some.inj x4] at hr
  exact Rw.ne h1.out hr (by decide) (k := g) (k' := gr) rfl rfl
theorem sm_small {f : FrD} (h : FOk f) : sm_Frames f := by
  have h0 := h.used
  have h1 := h.len1
  have key : ∀ (l : List (List Int)), (∀ r ∈ l, r.length = 16) → cntRows l = l.length * 16 := by
    intro l
    induction l with
    | nil => intro _; rfl
    | cons r l ih =>
      intro hl
      have e1 := hl r (by simp)
      have e2 := ih fun x hx => hl x (by simp [hx])
      simp only [cntRows, List.length_cons, e1, e2]
      omega
  have hk := key f.cells fun r hr => by
    obtain ⟨i, hi, rfl⟩ := List.getElem_of_mem hr
    have := (rowOk_iff.1 (h.row i hi)).1
    simpa [List.getD, hi] using this
  unfold sm_Frames
  rw [hk]
  omega
end Go.Proofs.Ytkcoehkfhffjkaa
