/- Arguments that are tables, opened. -/
import Derived.Test.YtkcoehkfhffjkaaTab
import Derived.Deep.SlicePairs
namespace Go.Proofs.Ytkcoehkfhffjkaa
open Go.ChangeShapes Go.WideShapes Go.ChangeAt Go.RowKit Go.Deep
set_option linter.unusedVariables false
set_option maxRecDepth 100000
section
variable {H : Type} {enc : TypeId × Value → H} {W : World}
theorem blk_of_cell {w : World} {a : Addr} {v : Value} (h : w.cell? a = some v) : a.block < w.heap.size := World.block_lt_of_cell? w a h
theorem open_es {fuel : Nat} {v : Value} {x : DataW H × List MemPlace} (h : DataW.trod enc Try.prog W 0 (fun _ => true) true fuel 26 [v] = some x) : ∃ es, InEs W v es := by
  rcases open_slice_pairs Try.underlying26 Try.underlying130 (by kernel_rfl) rfl rfl (by kernel_rfl) (by kernel_rfl) h with ⟨hcs, _⟩ | ⟨a, len, cap, m, n, V0, V1, D0, D1, P0, P1, hcs, _, hl, hm, hmm, _, hf⟩
  · simp at hcs
    subst hcs
    exact ⟨[], none, 0, rfl, by simp [maxLen], fun j hj => by simp at hj⟩
  · simp at hcs
    subst hcs
    simp only [if_true] at hmm
    subst hmm
    have key : ∀ j, j < m → ∃ p : Int × Int, V0 j = .int .i64 p.1 ∧ V1 j = .int .i64 p.2 := by
      intro j hj
      obtain ⟨_, _, t0, t1⟩ := hf j hj
      obtain ⟨a0, e0, _⟩ := DataW.trod_int Try.underlying3 t0
      obtain ⟨a1, e1, _⟩ := DataW.trod_int Try.underlying3 t1
      simp at e0 e1
      exact ⟨(a0, a1), e0, e1⟩
    obtain ⟨q, hq⟩ := choose_lt key
    refine ⟨(List.range len).map q, some a, m, by simp, by simp; omega, fun j hj => ?_⟩
    have hj' : j < len := by simpa using hj
    obtain ⟨c0, c1, _⟩ := hf j (by omega)
    obtain ⟨e0, e1⟩ := hq j (by omega)
    have hg : ((List.range len).map q).getD j (0, 0) = q j := by simp [List.getD, hj']
    rw [hg]
    refine ⟨a, rfl, ?_, by rw [c0, e0], by rw [← add_next, c1, e1]⟩
    have := blk_of_cell c0
    rwa [add_block] at this
theorem open_InTb {b0 : Nat} {r : Reach} {v : Value} {d : DataW H} {p : List MemPlace} (hv : Value.okWide Try.prog W r b0 28 v) (h : DataW.Trod enc Try.prog W 0 (fun _ => true) true 28 v d p) : ∃ t, InTb W v t := by
  obtain ⟨cs, rfl, hsz⟩ := okWide_struct Try.underlying28 hv
  obtain ⟨l⟩ := cs
  match l, hsz.trans (show Try.prog.cellsOf 28 = 1 by kernel_rfl) with
  | [c0], _ =>
    obtain ⟨fuel, hf⟩ := h
    obtain ⟨xs, n, _, hx, _, hlen, hg⟩ := DataW.trod_struct Try.underlying28 hf
    match xs, hlen with
    | [y0], _ =>
      have h0 := hg 0 _ rfl
      have e0 : Try.prog.cellsOf 26 = 1 := by kernel_rfl
      simp [Value.cells, e0] at h0
      obtain ⟨es, he⟩ := open_es h0
      exact ⟨es, c0, rfl, he⟩
def InEn (w : World) (v : Value) (e : Int × Int) : Prop := v = .agg #[.int .i64 e.1, .int .i64 e.2]
theorem open_InEn {b0 : Nat} {r : Reach} {v : Value} {d : DataW H} {p : List MemPlace} (hv : Value.okWide Try.prog W r b0 130 v) (h : DataW.Trod enc Try.prog W 0 (fun _ => true) true 130 v d p) : ∃ e : Int × Int, InEn W v e := by
  obtain ⟨cs, rfl, hsz⟩ := okWide_struct Try.underlying130 hv
  obtain ⟨l⟩ := cs
  match l, hsz.trans (show Try.prog.cellsOf 130 = 2 by kernel_rfl) with
  | [c0, c1], _ =>
    obtain ⟨fuel, hf⟩ := h
    obtain ⟨xs, n, _, hx, _, hlen, hg⟩ := DataW.trod_struct Try.underlying130 hf
    match xs, hlen with
    | [y0, y1], _ =>
      have h0 := hg 0 _ rfl
      have h1 := hg 1 _ rfl
      have e0 : Try.prog.cellsOf 3 = 1 := by kernel_rfl
      simp [Value.cells, e0] at h0 h1
      obtain ⟨a0, ea, _⟩ := DataW.trod_int Try.underlying3 h0
      obtain ⟨a1, eb, _⟩ := DataW.trod_int Try.underlying3 h1
      simp at ea eb
      subst ea; subst eb
      exact ⟨(a0, a1), rfl⟩
end
end Go.Proofs.Ytkcoehkfhffjkaa
