/- The laws' sameEntries and sameMachine on equal machines. -/
import Derived.Test.YtkcoehkfhffjkaaSame
import Derived.Test.YtkcoehkfhffjkaaKe4
namespace Go.Proofs.Ytkcoehkfhffjkaa
open Go.ChangeShapes Go.WideShapes Go.ChangeAt Go.RowKit
set_option linter.unusedSimpArgs false
set_option linter.unusedVariables false
set_option maxRecDepth 100000

theorem sameEntries_same {l1 h1 l2 h2 : Nat} {es : TbD} (v u : Value) (w : World) (f : SE l1 h1 w v es) (g : SE l2 h2 w u es) (hlen : es.length ≤ 1000000000) :
    Calls Try.prog 82 #[v, u] w fun e w' => e = .returned (.bool true) ∧ Keep w w' := by
  obtain ⟨ao, c, rfl, hc, f1⟩ := f.opened
  obtain ⟨bo, d, rfl, hd, f2⟩ := g.opened
  clear f g
  go_enter Try.func82, Try.ntmps82
  go_wp2_with fail
  go_loopw [5] (fun i wr => ∃ k : Nat, k ≤ es.length ∧ i = .int .i64 k ∧ Keep w wr) (fun i _ => es.length - (intOf i).toNat)
  case atStart => exact ⟨0, Nat.zero_le _, rfl, Chg.refl _ _ _⟩
  case round =>
    obtain ⟨k, hk, rfl, hg⟩ := hrel
    by_cases hlt : k < es.length
    · obtain ⟨g, rfl, _, _, _, hc1, hc2, _, _⟩ := f1 k hlt
      obtain ⟨g', rfl, _, _, _, hc3, hc4, _, _⟩ := f2 k hlt
      have hx1 := (hg.grown none).cell hc1 (by simp)
      have hx2 := (hg.grown none).cell hc2 (by simp)
      have hx3 := (hg.grown none).cell hc3 (by simp)
      have hx4 := (hg.grown none).cell hc4 (by simp)
      clear hc1 hc2 hc3 hc4 f1 f2
      generalize es.getD k (0, 0) = z at hx1 hx2 hx3 hx4
      obtain ⟨z1, z2⟩ := z
      dsimp only at hx1 hx2 hx3 hx4
      go_wp2_with fail
      go_quiet (fail)
      go_wp2_with fail
      go_roundw
      case rel => exact ⟨k + 1, by omega, by go_num, hg.drewN _⟩
      case measure => simp [intOf]; omega
    · clear f1 f2
      go_wp2_with fail
      go_ret
      exact ⟨rfl, hg⟩
theorem sameMachine_same {l1 h1 l2 h2 : Nat} {m : MaD} (v u : Value) (w : World) (x : MA l1 h1 w v m) (y : MA l2 h2 w u m) (hs : sm_Machine m) :
    Calls Try.prog 42 #[v, u] w fun e w' => e = .returned (.bool true) ∧ Keep w w' := by
  have htl := hs.tb
  obtain ⟨a1, c1, a2, c2, a3, c3, rfl, x1, x2⟩ := x.slices
  obtain ⟨b1, d1, b2, d2, b3, d3, rfl, y1, y2⟩ := y.slices
  go_enter Try.func42, Try.ntmps42
  go_wp2_with fail
  refine (sameFrames_same _ _ _ (x1.keep (((Chg.refl 0 0 w).alloc _).alloc _)) (y1.keep (((Chg.refl 0 0 w).alloc _).alloc _)) hs.fr).mono ?_
  rintro e w1 ⟨rfl, k1⟩
  have bA := ((Blk.new w 39 #[.slice a1 m.fr.cells.length c1, .slice a2 m.fr.used.length c2, .slice a3 m.tb.length c3]).keep ((Chg.refl 0 0 _).alloc (.cells #[.slice b1 m.fr.cells.length d1, .slice b2 m.fr.used.length d2, .slice b3 m.tb.length d3] 39 (0, 0)))).keep k1
  have bB := (blk1 w (.cells #[.slice a1 m.fr.cells.length c1, .slice a2 m.fr.used.length c2, .slice a3 m.tb.length c3] 39 (0, 0)) 39 #[.slice b1 m.fr.cells.length d1, .slice b2 m.fr.used.length d2, .slice b3 m.tb.length d3]).keep k1
  have q1 : Keep w w1 := Chg.keep (((Chg.refl 0 0 w).alloc _).alloc _) k1
  have cA := bA.cell 2
  have cB := bB.cell 2
  clear bA bB k1
  go_wp2_with fail
  refine (sameEntries_same _ _ _ (x2.keep q1) (y2.keep q1) (by omega)).mono ?_
  rintro e w2 ⟨rfl, k2⟩
  go_wp2_with fail
  go_ret
  exact ⟨rfl, q1.keep k2⟩
end Go.Proofs.Ytkcoehkfhffjkaa
