/- The bytes that a law is given, as the drawing functions read them. -/
import Derived.Test.YtpbcaaoohcgalaaDraw
namespace Go.Proofs.Ytpbcaaoohcgalaa
open Go.ChangeShapes Go.WideShapes Go.ChangeAt Go.RowKit
theorem open_code {H : Type} {enc : TypeId × Value → H} {W : World} {a0 : Option Addr} {len0 cap0 : Nat} {d : DataW H} {p : List MemPlace}
    (h : DataW.Trod enc Try.prog W 0 (fun _ => true) true 33 (.slice a0 len0 cap0) d p) : Code W.heap.size W a0 len0 := by
  obtain ⟨fuel, hf⟩ := h
  intro t ht
  rcases open_ints Try.underlying33 Try.underlying5 (by kernel_rfl) hf with ⟨hcs, _⟩ | ⟨x, l, c, zs, hcs, _, hl, hm, hz, _, h4, h5⟩
  · simp [Value.cells] at hcs
    omega
  · simp [Value.cells] at hcs
    obtain ⟨rfl, rfl, rfl⟩ := hcs
    have hzl : zs.length = cap0 := by simpa using hz
    have hc := h4 t (by omega)
    have hm : zs.getD t 0 ∈ zs := by simp [List.getD, List.getElem?_eq_getElem (show t < zs.length by omega)]
    have hw := h5 _ hm
    refine ⟨x, zs.getD t 0, rfl, ?_, hc, ?_⟩
    · rcases Nat.lt_or_ge x.block W.heap.size with h | h
      · exact h
      · have hx : (x.add t).block = x.block := add_block x t
        simp [World.cell?, hx, Array.getElem?_eq_none h] at hc
    · have hmin : IntKind.u8.min = 0 := rfl
      have hmax : IntKind.u8.max = 255 := rfl
      simp [Lit.wf] at hw
      rw [List.getD_eq_getElem?_getD]
      omega
end Go.Proofs.Ytpbcaaoohcgalaa
