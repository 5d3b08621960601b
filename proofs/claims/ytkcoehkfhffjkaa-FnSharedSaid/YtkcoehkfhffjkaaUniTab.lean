/- The laws' functions on tables and on lists of numbers, in one form. -/
import Derived.Test.YtkcoehkfhffjkaaTabSet
namespace Go.Proofs.Ytkcoehkfhffjkaa
open Go.ChangeShapes Go.WideShapes Go.ChangeAt Go.RowKit
set_option linter.unusedVariables false
def sm_Table (t : TbD) : Prop := t.length ≤ 1048576
def cnt_Table (t : TbD) : Nat := 2 * t.length
def mk_Table (t : TbD) : TbD := markEnts 1 t.length
def sm_IntS (zs : List Int) : Prop := zs.length ≤ 1048576
def cnt_IntS (zs : List Int) : Nat := zs.length
def mk_IntS (zs : List Int) : List Int := marks 1 zs.length
theorem sz_Table {t : TbD} (v : Value) (w : World) (h : InTb w v t) : Calls Try.prog 48 #[v, .int .i64 1048576] w fun e w' => ∃ s, e = .returned (.int .i64 s) ∧ (0 ≤ s → sm_Table t) ∧ Keep w w' :=
  (szTable_any v t _ w h (by omega) (by omega)).mono fun e w' ⟨he, hk⟩ => ⟨_, he, fun hs => by unfold szZ at hs; unfold sm_Table; split at hs <;> omega, hk⟩
theorem to_Table {t : TbD} (v : Value) (w : World) (h : InTb w v t) (hs : sm_Table t) : Calls Try.prog 51 #[v] w fun e w' => ∃ v', e = .returned v' ∧ TB w.heap.size w'.heap.size w' v' t ∧ Keep w w' := toTable_any v t w h hs
theorem eq_Table {l1 h1 l2 h2 : Nat} {t : TbD} (v u : Value) (w : World) (f : TB l1 h1 w v t) (g : TB l2 h2 w u t) (hs : sm_Table t) : Calls Try.prog 55 #[v, u] w fun e w' => e = .returned (.bool true) ∧ Keep w w' :=
  eqTable_same v u w f g (by unfold sm_Table at hs; omega)
theorem mark_Table {lo hi : Nat} {t : TbD} (v : Value) (w : World) (h : TB lo hi w v t) (hhi : hi ≤ w.heap.size) (hs : sm_Table t) :
    Calls Try.prog 57 #[v, .int .i64 1] w fun e w' => e = .returned (.int .i64 (1 + (cnt_Table t : Int))) ∧ TB lo hi w' v (mk_Table t) ∧ Chg lo hi w w' :=
  (markTable_any v 1 w h hhi (by unfold sm_Table at hs; omega) (by omega) (by omega)).mono fun e w' ⟨he, h1, _, h2⟩ => ⟨by rw [he]; unfold cnt_Table; simp, h1, h2⟩
theorem held_Table {lo hi : Nat} {t : TbD} (v : Value) (w : World) (h : TB lo hi w v (mk_Table t)) (hs : sm_Table t) :
    Calls Try.prog 67 #[v, .int .i64 1] w fun e w' => e = .returned (.int .i64 (1 + (cnt_Table t : Int))) ∧ Keep w w' :=
  (heldTable_any v 1 w h (by unfold sm_Table at hs; omega) (by omega) (by omega)).mono fun e w' ⟨he, h1⟩ => ⟨by rw [he]; unfold cnt_Table; simp, h1⟩
theorem eq_IntS {l1 h1 l2 h2 : Nat} {t : List Int} (v u : Value) (w : World) (f : SI l1 h1 w v t) (g : SI l2 h2 w u t) (hs : sm_IntS t) : Calls Try.prog 15 #[v, u] w fun e w' => e = .returned (.bool true) ∧ Keep w w' :=
  eqIntS_same v u w f g (by unfold sm_IntS at hs; omega)
theorem mark_IntS {lo hi : Nat} {t : List Int} (v : Value) (w : World) (h : SI lo hi w v t) (hhi : hi ≤ w.heap.size) (hs : sm_IntS t) :
    Calls Try.prog 18 #[v, .int .i64 1] w fun e w' => e = .returned (.int .i64 (1 + (cnt_IntS t : Int))) ∧ SI lo hi w' v (mk_IntS t) ∧ Chg lo hi w w' :=
  (markIntS_any v 1 w h (by unfold sm_IntS at hs; omega) (by omega) (by omega)).mono fun e w' ⟨he, h1, _, h2⟩ => ⟨he, h1, h2⟩
theorem held_IntS {lo hi : Nat} {t : List Int} (v : Value) (w : World) (h : SI lo hi w v (mk_IntS t)) (hs : sm_IntS t) :
    Calls Try.prog 19 #[v, .int .i64 1] w fun e w' => e = .returned (.int .i64 (1 + (cnt_IntS t : Int))) ∧ Keep w w' :=
  (heldIntS_any v 1 w h (by unfold sm_IntS at hs; omega) (by omega) (by omega)).mono fun e w' ⟨he, h1⟩ => ⟨he, by subst h1; exact Chg.refl _ _ _⟩
end Go.Proofs.Ytkcoehkfhffjkaa
