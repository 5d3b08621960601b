/- The laws' functions on frames, in one form. -/
import Derived.Test.YtkcoehkfhffjkaaFr3
namespace Go.Proofs.Ytkcoehkfhffjkaa
open Go.ChangeShapes Go.WideShapes Go.ChangeAt Go.RowKit
set_option linter.unusedVariables false
def mk_Frames (f : FrD) : FrD := mkFr 1 f
theorem sz_Frames {t : FrD} (v : Value) (w : World) (h : InFr w v t) : Calls Try.prog 47 #[v, .int .i64 1048576] w fun e w' => ∃ s, e = .returned (.int .i64 s) ∧ (0 ≤ s → sm_Frames t) ∧ Keep w w' :=
  (szFrames_any v t _ w h (by omega) (by omega)).mono fun e w' ⟨s, he, h0, h1, hk⟩ => ⟨s, he, fun hs => by have := h1 hs; unfold sm_Frames; omega, hk⟩
theorem to_Frames {t : FrD} (v : Value) (w : World) (h : InFr w v t) (hs : sm_Frames t) : Calls Try.prog 50 #[v] w fun e w' => ∃ v', e = .returned v' ∧ FR w.heap.size w'.heap.size w' v' t ∧ Keep w w' := toFrames_any v t w h hs
theorem eq_Frames {l1 h1 l2 h2 : Nat} {t : FrD} (v u : Value) (w : World) (f : FR l1 h1 w v t) (g : FR l2 h2 w u t) (hs : sm_Frames t) : Calls Try.prog 54 #[v, u] w fun e w' => e = .returned (.bool true) ∧ Keep w w' :=
  eqFrames_same v u w f g hs
theorem mark_Frames {lo hi : Nat} {t : FrD} (v : Value) (w : World) (h : FR lo hi w v t) (hhi : hi ≤ w.heap.size) (hs : sm_Frames t) :
    Calls Try.prog 56 #[v, .int .i64 1] w fun e w' => e = .returned (.int .i64 (1 + (cnt_Frames t : Int))) ∧ FR lo hi w' v (mk_Frames t) ∧ Chg lo hi w w' :=
  (markFrames_any v 1 w h hhi hs (by omega) (by omega)).mono fun e w' ⟨he, h1, _, h2⟩ => ⟨he, h1, h2⟩
theorem held_Frames {lo hi : Nat} {t : FrD} (v : Value) (w : World) (h : FR lo hi w v (mk_Frames t)) (hs : sm_Frames t) :
    Calls Try.prog 66 #[v, .int .i64 1] w fun e w' => e = .returned (.int .i64 (1 + (cnt_Frames t : Int))) ∧ Keep w w' :=
  heldFrames_any v 1 w h hs (by omega) (by omega)
end Go.Proofs.Ytkcoehkfhffjkaa
