/- More drawing functions: numbers out of lists, drawn numbers, bitmaps. -/
import Derived.Test.YtpbcaaoohcgalabDoorLists
namespace Go.Proofs.YtpbcaaoohcgalabDoor
open Go.ChangeShapes Go.WideShapes Go.ChangeAt Go.RowKit
set_option linter.unusedSimpArgs false
set_option linter.unusedVariables false

theorem Cur.lt {B C : Nat} {w : World} (h : Cur B C w) : C < w.heap.size := by
  obtain ⟨ao, n, cap, i, hh, h1, _⟩ := h.has
  exact lt_of_block h1
theorem Cur.mv {B C l h : Nat} {w w' : World} (hc : Cur B C w) (hg : Chg l h w w') (hd : C < l ∨ h ≤ l) : Cur B C w' := by
  obtain ⟨ao, n, cap, i, hh, h1, h2, h4, h5⟩ := hc.has
  have hC := lt_of_block h1
  have hle := hc.le
  refine ⟨hc.le, ao, n, cap, i, hh, ?_, h2, h4, ?_⟩
  · rw [hg.block C hC (by omega)]; exact h1
  · intro t ht
    obtain ⟨b, z, e1, e2, e3, e4⟩ := h5 t ht
    exact ⟨b, z, e1, e2, (World.cell?_of_block (hg.block (b.add t).block (by rw [add_block]; omega) (by rw [add_block]; omega))).trans e3, e4⟩
theorem Cur.keep {B C : Nat} {w w' : World} (hc : Cur B C w) (hg : Keep w w') : Cur B C w' := hc.mv hg (.inr (Nat.le_refl _))
theorem Code.keep {w w' : World} {ao : Option Addr} {n : Nat} (h : Code w.heap.size w ao n) (hk : Keep w w') : Code w'.heap.size w' ao n := by
  intro t ht
  obtain ⟨b, z, e1, e2, e3, e4⟩ := h t ht
  have := hk.size
  exact ⟨b, z, e1, by omega, (hk.grown none).cell e3 (by simp), e4⟩
theorem Chg.of_cur {C : Nat} {w w' : World} (h : w.grownBy w' (some C)) : Chg C (C + 1) w w' := Chg.of_grown h (by rintro k ⟨⟩; exact .inl ⟨Nat.le_refl _, by omega⟩)
theorem below_any {B C : Nat} (n : Int) (w : World) (hc : Cur B C w) :
    Calls Tryd.prog 23 #[.pointer (some ⟨C, 0, none⟩), .int .i64 n] w fun e w' => ∃ x : Int, 0 ≤ x ∧ (0 < n → x < n) ∧ (n ≤ 0 → x = 0) ∧ e = .returned (.int .i64 x) ∧ Cur B C w' ∧ Chg C (C + 1) w w' :=
  (l01Below_any n w hc).mono fun _ _ ⟨x, h1, h2, h3, h4, h5, h6⟩ => ⟨x, h1, h2, h3, h4, h5, Chg.of_cur h6⟩
/-- A number from 0 up to m. -/
theorem below_pos {B C : Nat} (n : Int) (w : World) (hc : Cur B C w) (hn : 0 < n) :
    Calls Tryd.prog 23 #[.pointer (some ⟨C, 0, none⟩), .int .i64 n] w fun e w' => ∃ x : Int, 0 ≤ x ∧ x < n ∧ e = .returned (.int .i64 x) ∧ Cur B C w' ∧ Chg C (C + 1) w w' :=
  (l01Below_any n w hc).mono fun _ _ ⟨x, h1, h2, h3, h4, h5, h6⟩ => ⟨x, h1, h2 hn, h4, h5, Chg.of_cur h6⟩
theorem once_any {B C : Nat} (n : Int) (w : World) (hc : Cur B C w) :
    Calls Tryd.prog 22 #[.pointer (some ⟨C, 0, none⟩), .int .i64 n] w fun e w' => ∃ b : Bool, e = .returned (.bool b) ∧ Cur B C w' ∧ Chg C (C + 1) w w' :=
  (l01Once_any n w hc).mono fun _ _ ⟨x, h4, h5, h6⟩ => ⟨x, h4, h5, Chg.of_cur h6⟩
theorem pickInt_any {B C lo hi : Nat} {zs : List Int} (v : Value) (w : World) (hc : Cur B C w) (hl : SI lo hi w v zs) (hlo : C < lo) (h0 : 0 < zs.length) (h1 : zs.length ≤ 1000000) :
    Calls Tryd.prog 31 #[.pointer (some ⟨C, 0, none⟩), v] w fun e w' => ∃ x ∈ zs, e = .returned (.int .i64 x) ∧ Cur B C w' ∧ Chg C (C + 1) w w' := by
  obtain ⟨ao, c, rfl, hcc, hf⟩ := hl.opened
  clear hf
  go_enter Tryd.func31, Tryd.ntmps31
  go_wp2_with fail
  refine (below_pos _ _ hc (by omega)).mono ?_
  rintro e w1 ⟨x, hx0, hx1, rfl, hc1, hg1⟩
  have hl1 := hl.mv hg1 (by omega)
  obtain ⟨ao', c', e, _, hf⟩ := hl1.opened
  obtain ⟨rfl, rfl⟩ : ao = ao' ∧ c = c' := by simpa using e
  obtain ⟨g, rfl, _, _, _, hcell, _⟩ := hf x.toNat (by omega)
  have hm : zs.getD x.toNat 0 ∈ zs := by simp [List.getD, List.getElem?_eq_getElem (show x.toNat < zs.length by omega)]
  generalize zs.getD x.toNat 0 = y at *
  clear hf hl hl1 e
  go_wp2_with fail
  go_ret
  exact ⟨y, hm, rfl, hc1, hg1⟩
theorem SI.lit (w : World) (lo : Nat) (zs : List Int) (hb : lo ≤ w.heap.size) (hm : zs.length ≤ maxLen) : SI lo (w.heap.size + 1) (w.alloc (.cells (zs.map (Value.int .i64)).toArray 3 (0, 0))) (.slice (some ⟨w.heap.size, 0, none⟩) zs.length zs.length) zs := by
  have := Rw.lit w 3 1 zs.length lo (zs.map (Value.int .i64)).toArray hb hm (by simp)
  simpa [SI] using this
def inI64 (x : Int) : Prop := -9223372036854775808 ≤ x ∧ x ≤ 9223372036854775807
theorem number_any {B C : Nat} (w : World) (hc : Cur B C w) :
    Calls Tryd.prog 24 #[.pointer (some ⟨C, 0, none⟩)] w fun e w' => ∃ x : Int, inI64 x ∧ e = .returned (.int .i64 x) ∧ Cur B C w' ∧ Chg C (C + 1) w w' := by
  have hC := hc.lt
  go_enter Tryd.func24, Tryd.ntmps24
  go_wp2_with fail
  refine (below_pos _ _ hc (by omega)).mono ?_
  rintro e w1 ⟨x, hx0, hx1, rfl, hc1, hg1⟩
  have hz1 := hg1.size
  by_cases e0 : x = 0
  · subst e0
    have hl := SI.lit w1 w1.heap.size [-1, 0, 127, 128, 16383, 16384, 1000000000, 1000000001, 9223372036854775807, -9223372036854775808] (Nat.le_refl _) (by decide)
    go_wp2_with (go_at_call 31; refine (pickInt_any _ _ (hc1.keep ((Chg.refl 0 0 w1).alloc _)) hl (by omega) (by decide) (by decide)).mono ?_; rintro e w2 ⟨y, hy, rfl, hc2, hg2⟩)
    go_ret
    refine ⟨y, ?_, rfl, hc2, (hg1.alloc _).comp hg2 (.inr (.inl ⟨Nat.le_refl _, Nat.le_refl _⟩))⟩
    unfold inI64
    simp at hy
    omega
  · have e0' : (x == 0) = false := by simp; omega
    by_cases e1 : x = 1
    · subst e1
      go_wp2_with (go_at_call 23; refine (below_pos _ _ hc1 (by omega)).mono ?_; rintro e w2 ⟨y, hy0, hy1, rfl, hc2, hg2⟩)
      go_ret
      exact ⟨y, by unfold inI64; omega, rfl, hc2, hg1.trans hg2⟩
    · have e1' : (x == 1) = false := by simp; omega
      go_wp2_with (go_at_call 23; refine (below_pos _ _ hc1 (by omega)).mono ?_; rintro e w2 ⟨y, hy0, hy1, rfl, hc2, hg2⟩)
      go_ret
      exact ⟨y, by unfold inI64; omega, rfl, hc2, hg1.trans hg2⟩
end Go.Proofs.YtpbcaaoohcgalabDoor
