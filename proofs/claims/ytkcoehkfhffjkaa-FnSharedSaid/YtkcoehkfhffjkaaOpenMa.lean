/- Arguments that are machines, opened. -/
import Derived.Test.YtkcoehkfhffjkaaOpenFr
import Derived.Test.YtkcoehkfhffjkaaMa2
namespace Go.Proofs.Ytkcoehkfhffjkaa
open Go.ChangeShapes Go.WideShapes Go.ChangeAt Go.RowKit Go.Deep
set_option linter.unusedVariables false
set_option maxRecDepth 100000
theorem wf_le {a : Int} (h : (Lit.int .i64 a).wf = true) : a ≤ 9223372036854775807 := by
  have hmax : IntKind.i64.max = 9223372036854775807 := rfl
  simp [Lit.wf] at h
  omega
theorem cntRows_new (n : Int) : (framesNewD n).cells.length + cntRows (framesNewD n).cells + (framesNewD n).used.length ≤ 576 := by
  unfold framesNewD
  split
  · rename_i h
    have := btw_iff.1 h
    simp only [cntRows_rep, List.length_replicate]
    omega
  · simp [cntRows]
theorem machineNewD_sm (p n : Int) : sm_Machine (machineNewD p n) := by
  unfold machineNewD
  split
  · rename_i h
    unfold machineNewOk at h
    rw [Bool.and_eq_true, btw_iff, btw_iff] at h
    have := cntRows_new n
    unfold sm_Machine
    simp only [List.length_replicate]
    omega
  · simp [sm_Machine, cntRows]
section
variable {H : Type} {enc : TypeId × Value → H} {W : World}
theorem fr_cells {fuel : Nat} {c0 c1 : Value} {x : DataW H × List MemPlace} (hf : DataW.trod enc Try.prog W 0 (fun _ => true) true fuel 25 [c0, c1] = some x) : ∃ f, InFr W (.agg #[c0, c1]) f := by
  obtain ⟨xs, n, _, hx, _, hlen, hg⟩ := DataW.trod_struct Try.underlying25 hf
  match xs, hlen with
  | [y0, y1], _ =>
    have h0 := hg 0 _ rfl
    have h1 := hg 1 _ rfl
    have e0 : Try.prog.cellsOf 22 = 1 := by kernel_rfl
    have e1 : Try.prog.cellsOf 23 = 1 := by kernel_rfl
    simp [e0, e1] at h0 h1
    obtain ⟨rows, hr⟩ := open_rows_in h0
    obtain ⟨us, hu⟩ := open_bools_in h1
    exact ⟨⟨rows, us⟩, c0, c1, rfl, hr, hu⟩
theorem tb_cells {fuel : Nat} {c0 : Value} {x : DataW H × List MemPlace} (hf : DataW.trod enc Try.prog W 0 (fun _ => true) true fuel 28 [c0] = some x) : ∃ t, InTb W (.agg #[c0]) t := by
  obtain ⟨xs, n, _, hx, _, hlen, hg⟩ := DataW.trod_struct Try.underlying28 hf
  match xs, hlen with
  | [y0], _ =>
    have h0 := hg 0 _ rfl
    have e0 : Try.prog.cellsOf 26 = 1 := by kernel_rfl
    simp [e0] at h0
    obtain ⟨es, he⟩ := open_es h0
    exact ⟨es, c0, rfl, he⟩
theorem ma_cells {fuel : Nat} {c0 c1 c2 : Value} {x : DataW H × List MemPlace} (hf : DataW.trod enc Try.prog W 0 (fun _ => true) true fuel 30 [c0, c1, c2] = some x) : ∃ m, InMa W (.agg #[c0, c1, c2]) m := by
  obtain ⟨xs, n, _, hx, _, hlen, hg⟩ := DataW.trod_struct Try.underlying30 hf
  match xs, hlen with
  | [y0, y1], _ =>
    have h0 := hg 0 _ rfl
    have h1 := hg 1 _ rfl
    have e0 : Try.prog.cellsOf 25 = 2 := by kernel_rfl
    have e1 : Try.prog.cellsOf 28 = 1 := by kernel_rfl
    simp [e0, e1] at h0 h1
    obtain ⟨f, hf⟩ := fr_cells h0
    obtain ⟨t, ht⟩ := tb_cells h1
    exact ⟨⟨f, t⟩, c0, c1, c2, rfl, hf, ht⟩
theorem open_InMa {b0 : Nat} {r : Reach} {v : Value} {d : DataW H} {p : List MemPlace} (hv : Value.okWide Try.prog W r b0 30 v) (h : DataW.Trod enc Try.prog W 0 (fun _ => true) true 30 v d p) : ∃ m, InMa W v m := by
  obtain ⟨cs, rfl, hsz⟩ := okWide_struct Try.underlying30 hv
  obtain ⟨l⟩ := cs
  match l, hsz.trans (show Try.prog.cellsOf 30 = 3 by kernel_rfl) with
  | [c0, c1, c2], _ =>
    obtain ⟨fuel, hf⟩ := h
    exact ma_cells hf
end
end Go.Proofs.Ytkcoehkfhffjkaa
