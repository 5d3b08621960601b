/- Arguments that are rows of numbers, rows of marks, rows of rows, frames; opened. -/
import Derived.Test.YtkcoehkfhffjkaaFr3
import Derived.Test.YtkcoehkfhffjkaaOpenTab
import Derived.Deep.SlicePairs
import Derived.Deep.Slices
namespace Go.Proofs.Ytkcoehkfhffjkaa
open Go.ChangeShapes Go.WideShapes Go.ChangeAt Go.RowKit Go.Deep
set_option linter.unusedVariables false
set_option maxRecDepth 100000
section
variable {H : Type} {enc : TypeId × Value → H} {W : World}
theorem getD_map_range {α : Type} (q : Nat → α) (n j : Nat) (d : α) (h : j < n) : ((List.range n).map q).getD j d = q j := by simp [List.getD, h]
theorem open_ints_in {fuel : Nat} {v : Value} {x : DataW H × List MemPlace} (h : DataW.trod enc Try.prog W 0 (fun _ => true) true fuel 32 [v] = some x) : ∃ zs, InI W v zs := by
  rcases open_slice1 Try.underlying32 (by kernel_rfl) h with ⟨hcs, _⟩ | ⟨a, len, cap, m, n, V, D, Pl, hcs, _, hl, hm, hmm, _, hf⟩
  · simp at hcs
    subst hcs
    exact ⟨[], none, 0, rfl, by simp [maxLen], fun j hj => by simp at hj⟩
  · simp at hcs
    subst hcs
    simp only [if_true] at hmm
    subst hmm
    have key : ∀ j, j < m → ∃ p : Int, V j = .int .i64 p := by
      intro j hj
      obtain ⟨_, t0⟩ := hf j hj
      obtain ⟨a0, e0, _⟩ := DataW.trod_int Try.underlying3 t0
      simp at e0
      exact ⟨a0, e0⟩
    obtain ⟨q, hq⟩ := choose_lt key
    refine ⟨(List.range len).map q, some a, m, by simp, by simp; omega, fun j hj => ?_⟩
    have hj' : j < len := by simpa using hj
    obtain ⟨c0, _⟩ := hf j (by omega)
    have e0 := hq j (by omega)
    rw [getD_map_range q len j 0 hj']
    refine ⟨a, rfl, ?_, by rw [c0, e0]⟩
    have := blk_of_cell c0
    rwa [add_block] at this
theorem open_bools_in {fuel : Nat} {v : Value} {x : DataW H × List MemPlace} (h : DataW.trod enc Try.prog W 0 (fun _ => true) true fuel 23 [v] = some x) : ∃ zs, InB W v zs := by
  rcases open_slice1 Try.underlying23 (by kernel_rfl) h with ⟨hcs, _⟩ | ⟨a, len, cap, m, n, V, D, Pl, hcs, _, hl, hm, hmm, _, hf⟩
  · simp at hcs
    subst hcs
    exact ⟨[], none, 0, rfl, by simp [maxLen], fun j hj => by simp at hj⟩
  · simp at hcs
    subst hcs
    simp only [if_true] at hmm
    subst hmm
    have key : ∀ j, j < m → ∃ p : Bool, V j = .bool p := by
      intro j hj
      obtain ⟨_, t0⟩ := hf j hj
      obtain ⟨a0, e0, _⟩ := DataW.trod_bool Try.underlying4 t0
      simp at e0
      exact ⟨a0, e0⟩
    obtain ⟨q, hq⟩ := choose_lt key
    refine ⟨(List.range len).map q, some a, m, by simp, by simp; omega, fun j hj => ?_⟩
    have hj' : j < len := by simpa using hj
    obtain ⟨c0, _⟩ := hf j (by omega)
    have e0 := hq j (by omega)
    rw [getD_map_range q len j false hj']
    refine ⟨a, rfl, ?_, by rw [c0, e0]⟩
    have := blk_of_cell c0
    rwa [add_block] at this
theorem open_rows_in {fuel : Nat} {v : Value} {x : DataW H × List MemPlace} (h : DataW.trod enc Try.prog W 0 (fun _ => true) true fuel 22 [v] = some x) : ∃ rows, InSS W v rows := by
  rcases open_slice1 Try.underlying22 (by kernel_rfl) h with ⟨hcs, _⟩ | ⟨a, len, cap, m, n, V, D, Pl, hcs, _, hl, hm, hmm, _, hf⟩
  · simp at hcs
    subst hcs
    exact ⟨[], none, 0, rfl, by simp [maxLen], fun j hj => by simp at hj⟩
  · simp at hcs
    subst hcs
    simp only [if_true] at hmm
    subst hmm
    have key : ∀ j, j < m → ∃ p : List Int, InI W (V j) p := by
      intro j hj
      obtain ⟨_, t0⟩ := hf j hj
      exact open_ints_in t0
    obtain ⟨q, hq⟩ := choose_lt key
    refine ⟨(List.range len).map q, some a, m, by simp, by simp; omega, fun j hj => ?_⟩
    have hj' : j < len := by simpa using hj
    obtain ⟨c0, _⟩ := hf j (by omega)
    have e0 := hq j (by omega)
    rw [getD_map_range q len j [] hj']
    refine ⟨a, V j, rfl, ?_, c0, e0⟩
    have := blk_of_cell c0
    rwa [add_block] at this
theorem open_InFr {b0 : Nat} {r : Reach} {v : Value} {d : DataW H} {p : List MemPlace} (hv : Value.okWide Try.prog W r b0 25 v) (h : DataW.Trod enc Try.prog W 0 (fun _ => true) true 25 v d p) : ∃ f, InFr W v f := by
  obtain ⟨cs, rfl, hsz⟩ := okWide_struct Try.underlying25 hv
  obtain ⟨l⟩ := cs
  match l, hsz.trans (show Try.prog.cellsOf 25 = 2 by kernel_rfl) with
  | [c0, c1], _ =>
    obtain ⟨fuel, hf⟩ := h
    obtain ⟨xs, n, _, hx, _, hlen, hg⟩ := DataW.trod_struct Try.underlying25 hf
    match xs, hlen with
    | [y0, y1], _ =>
      have h0 := hg 0 _ rfl
      have h1 := hg 1 _ rfl
      have e0 : Try.prog.cellsOf 22 = 1 := by kernel_rfl
      have e1 : Try.prog.cellsOf 23 = 1 := by kernel_rfl
      simp [Value.cells, e0, e1] at h0 h1
      obtain ⟨rows, hr⟩ := open_rows_in h0
      obtain ⟨us, hu⟩ := open_bools_in h1
      exact ⟨⟨rows, us⟩, c0, c1, rfl, hr, hu⟩
end
end Go.Proofs.Ytkcoehkfhffjkaa
