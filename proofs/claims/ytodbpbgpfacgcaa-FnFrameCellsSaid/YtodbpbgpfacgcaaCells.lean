/- What a write into a frame leaves behind. -/
import Derived.Test.YtodbpbgpfacgcaaSame
namespace Go.Proofs.Ytodbpbgpfacgcaa
open Go.ChangeShapes Go.WideShapes Go.ChangeAt Go.RowKit
set_option linter.unusedSimpArgs false
set_option linter.unusedVariables false

theorem wrote_facts {f : FrD} {i a b z : Int} (h : isB f i = true) (ha : btw a 0 15 = true) (hb : btw b 0 15 = true) (hz : btw z 0 999 = true) :
    writeOk f i a z = true ∧ framesOkB (writeD f i a z) = true ∧ readOk (writeD f i a z) i a = true ∧ readD (writeD f i a z) i a = z ∧ readOk (writeD f i a z) i b = true ∧ (b ≠ a → readD (writeD f i a z) i b = readD f i b) := by
  obtain ⟨hok, h0, h1, hu⟩ := isB_parts h
  have hwo := writeOk_yes h ha hz
  have hD := writeD_yes hwo
  rw [btw_iff] at ha hb hz
  have hok2 : framesOkB (writeD f i a z) = true := by
    rw [hD]
    exact framesOk_iff.2 (hok.cell _ _ _ hu (by omega) (by omega))
  have hlen : i.toNat < f.cells.length := by have := hok.used; omega
  have hr16 : (f.cells.getD i.toNat []).length = 16 := (rowOk_iff.1 (hok.row _ hlen)).1
  have hB2 : isB (writeD f i a z) i = true := by
    rw [isB_yes (by rw [hD, btw_iff]; simp only; omega) hok2, hD]
    exact hu
  have hrow : (writeD f i a z).cells.getD i.toNat [] = (f.cells.getD i.toNat []).set a.toNat z := by
    rw [hD]; exact getD_set_eq _ _ _ _ hlen
  have hra := readOk_yes (show btw a 0 15 = true by rw [btw_iff]; exact ha) hB2
  have hrb := readOk_yes (show btw b 0 15 = true by rw [btw_iff]; exact hb) hB2
  have hrb0 := readOk_yes (show btw b 0 15 = true by rw [btw_iff]; exact hb) h
  refine ⟨hwo, hok2, hra, ?_, hrb, ?_⟩
  · unfold readD
    rw [if_pos hra, hrow]
    exact getD_set_eq _ _ _ _ (by omega)
  · intro hne
    unfold readD
    rw [if_pos hrb, if_pos hrb0, hrow]
    exact getD_set_ne _ _ _ _ _ (by omega)
end Go.Proofs.Ytodbpbgpfacgcaa
