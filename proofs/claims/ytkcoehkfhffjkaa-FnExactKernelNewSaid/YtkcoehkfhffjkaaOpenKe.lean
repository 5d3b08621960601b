/- Arguments that are kernels, opened. -/
import Derived.Test.YtkcoehkfhffjkaaKe2
namespace Go.Proofs.Ytkcoehkfhffjkaa
open Go.ChangeShapes Go.WideShapes Go.ChangeAt Go.RowKit Go.Deep
set_option linter.unusedVariables false
set_option maxRecDepth 100000
section
variable {H : Type} {enc : TypeId × Value → H} {W : World}
theorem open_InI {b0 : Nat} {r : Reach} {v : Value} {d : DataW H} {p : List MemPlace} (hv : Value.okWide Try.prog W r b0 32 v) (h : DataW.Trod enc Try.prog W 0 (fun _ => true) true 32 v d p) : ∃ zs, InI W v zs := by
  obtain ⟨a0, len, cap, rfl⟩ := okWide_slice Try.underlying32 hv
  obtain ⟨fuel, hf⟩ := h
  exact open_ints_in (by simpa [Value.cells] using hf)
theorem open_InKe {b0 : Nat} {r : Reach} {v : Value} {d : DataW H} {p : List MemPlace} (hv : Value.okWide Try.prog W r b0 73 v) (h : DataW.Trod enc Try.prog W 0 (fun _ => true) true 73 v d p) : ∃ k, InKe W v k := by
  obtain ⟨cs, rfl, hsz⟩ := okWide_struct Try.underlying73 hv
  obtain ⟨l⟩ := cs
  match l, hsz.trans (show Try.prog.cellsOf 73 = 5 by kernel_rfl) with
  | [c0, c1, c2, c3, c4], _ =>
    obtain ⟨fuel, hf⟩ := h
    obtain ⟨xs, n, _, hx, _, hlen, hg⟩ := DataW.trod_struct Try.underlying73 hf
    match xs, hlen with
    | [y0, y1, y2], _ =>
      have h0 := hg 0 _ rfl
      have h1 := hg 1 _ rfl
      have h2 := hg 2 _ rfl
      have e0 : Try.prog.cellsOf 30 = 3 := by kernel_rfl
      have e1 : Try.prog.cellsOf 3 = 1 := by kernel_rfl
      have e2 : Try.prog.cellsOf 32 = 1 := by kernel_rfl
      simp [Value.cells, e0, e1, e2] at h0 h1 h2
      obtain ⟨m, hm⟩ := ma_cells h0
      obtain ⟨c, ec, _⟩ := DataW.trod_int Try.underlying3 h1
      obtain ⟨zs, hz⟩ := open_ints_in h2
      simp at ec
      subst ec
      exact ⟨⟨m, c, zs⟩, c0, c1, c2, c4, rfl, hm, hz⟩
end
end Go.Proofs.Ytkcoehkfhffjkaa
