/- More drawing functions: numbers out of lists, drawn numbers, bitmaps. -/
import Derived.Test.YtkcoehkfhffjkaaLists
namespace Go.Proofs.Ytkcoehkfhffjkaa
open Go.ChangeShapes Go.WideShapes Go.ChangeAt Go.RowKit
set_option linter.unusedSimpArgs false
set_option linter.unusedVariables false

theorem Cur.lt {B C : Nat} {w : World} (h : Cur B C w) : C < w.heap.size := by
  obtain ⟨ao, n, cap, i, hh, h1, _⟩ := h.has
  exact lt_of_block h1
theorem Cur.mv {B C l h : Nat} {w w' : World} (hc : Cur B C w) (hg : Chg l h w w') (hd : C < l ∨ h ≤ l) : Cur B C w' := by
  obtain ⟨ao, n, cap, i, hh, h1, h2, h4, h5⟩ := hc.has
  have hC := lt_of_block h1
  have hle := hc.le
  refine ⟨hc.le, ao, n, cap, i, hh, ?_, h2, h4, ?_⟩
  · rw [hg.block C hC (by omega)]; exact h1
  · intro t ht
    obtain ⟨b, z, e1, e2, e3, e4⟩ := h5 t ht
    exact ⟨b, z, e1, e2, (World.cell?_of_block (hg.block (b.add t).block (by rw [add_block]; omega) (by rw [add_block]; omega))).trans e3, e4⟩
theorem Cur.keep {B C : Nat} {w w' : World} (hc : Cur B C w) (hg : Keep w w') : Cur B C w' := hc.mv hg (.inr (Nat.le_refl _))
theorem Code.keep {w w' : World} {ao : Option Addr} {n : Nat} (h : Code w.heap.size w ao n) (hk : Keep w w') : Code w'.heap.size w' ao n := by
  intro t ht
  obtain ⟨b, z, e1, e2, e3, e4⟩ := h t ht
  have := hk.size
  exact ⟨b, z, e1, by omega, (hk.grown none).cell e3 (by simp), e4⟩
theorem Chg.of_cur {C : Nat} {w w' : World} (h : w.grownBy w' (some C)) : Chg C (C + 1) w w' := Chg.of_grown h (by rintro k ⟨⟩; exact .inl ⟨Nat.le_refl _, by omega⟩)
theorem below_any {B C : Nat} (n : Int) (w : World) (hc : Cur B C w) :
    Calls Try.prog 69 #[.pointer (some ⟨C, 0, none⟩), .int .i64 n] w fun e w' => ∃ x : Int, 0 ≤ x ∧ (0 < n → x < n) ∧ (n ≤ 0 → x = 0) ∧ e = .returned (.int .i64 x) ∧ Cur B C w' ∧ Chg C (C + 1) w w' :=
  (l01Below_any n w hc).mono fun _ _ ⟨x, h1, h2, h3, h4, h5, h6⟩ => ⟨x, h1, h2, h3, h4, h5, Chg.of_cur h6⟩
/-- A number from 0 up to m. -/
theorem below_pos {B C : Nat} (n : Int) (w : World) (hc : Cur B C w) (hn : 0 < n) :
    Calls Try.prog 69 #[.pointer (some ⟨C, 0, none⟩), .int .i64 n] w fun e w' => ∃ x : Int, 0 ≤ x ∧ x < n ∧ e = .returned (.int .i64 x) ∧ Cur B C w' ∧ Chg C (C + 1) w w' :=
  (l01Below_any n w hc).mono fun _ _ ⟨x, h1, h2, h3, h4, h5, h6⟩ => ⟨x, h1, h2 hn, h4, h5, Chg.of_cur h6⟩
theorem once_any {B C : Nat} (n : Int) (w : World) (hc : Cur B C w) :
    Calls Try.prog 119 #[.pointer (some ⟨C, 0, none⟩), .int .i64 n] w fun e w' => ∃ b : Bool, e = .returned (.bool b) ∧ Cur B C w' ∧ Chg C (C + 1) w w' :=
  (l01Once_any n w hc).mono fun _ _ ⟨x, h4, h5, h6⟩ => ⟨x, h4, h5, Chg.of_cur h6⟩
end Go.Proofs.Ytkcoehkfhffjkaa
