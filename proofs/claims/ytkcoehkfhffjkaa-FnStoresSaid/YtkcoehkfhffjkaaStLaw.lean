/- What a store into a machine leaves for later loads. Plain. -/
import Derived.Test.YtkcoehkfhffjkaaMLaw
import Derived.Test.YtkcoehkfhffjkaaMa3
namespace Go.Proofs.Ytkcoehkfhffjkaa
set_option linter.unusedSimpArgs false
set_option linter.unusedVariables false

theorem entryAt_ok {m : MaD} (h : MOk m) {a : Int} (ha : 0 ≤ a) : entryAtD m a = entryD m.tb (a / 16) := by
  unfold entryAtD
  rw [machineOk_iff.2 h, decide_eq_true ha]; rfl
theorem store_refused {m : MaD} (h : MOk m) {a v : Int} (ha : 0 ≤ a) (hv : btw v 0 999 = true) (h2 : (entryD m.tb (a / 16)).1 ≠ 2) : storeC m a v ≠ 0 ∧ (storeC m a v = 2 ↔ (entryD m.tb (a / 16)).1 = 1) := by
  have he := entryAt_ok h ha
  unfold storeC
  rw [he, hv]
  by_cases h0 : (entryD m.tb (a / 16)).1 = 0
  · rw [if_pos h0]; simp [h0]
  · rw [if_neg h0]
    have hp := at_parts (m := m) (a := a) (by rw [he]; exact h0)
    rw [he] at hp
    have h1 : (entryD m.tb (a / 16)).1 = 1 := by
      rcases hp.2.2.2.2.2.2.2 with x | x
      · exact x
      · exact absurd x h2
    rw [if_pos h1]; simp [h1]
theorem store_taken {m : MaD} (h : MOk m) {a b v : Int} (ha : 0 ≤ a) (hb : 0 ≤ b) (hv : btw v 0 999 = true) (h2 : (entryD m.tb (a / 16)).1 = 2) :
    storeC m a v = 0 ∧ loadD (storeD m a v) a = v ∧ loadC (storeD m a v) b = loadC m b ∧ machineOkB (storeD m a v) = true ∧
      (((entryD m.tb (b / 16)).1 ≠ 0 ∧ (entryD m.tb (b / 16)).2 = (entryD m.tb (a / 16)).2 ∧ b % 16 = a % 16) → loadD (storeD m a v) b = v) ∧
      (¬ ((entryD m.tb (b / 16)).1 ≠ 0 ∧ (entryD m.tb (b / 16)).2 = (entryD m.tb (a / 16)).2 ∧ b % 16 = a % 16) → loadD (storeD m a v) b = loadD m b) := by
  have he := entryAt_ok h ha
  have hC : storeC m a v = 0 := by
    unfold storeC
    rw [he, hv, if_neg (by omega), if_neg (by omega)]; rfl
  have hOk := storeD_ok h a v
  have hT : (storeD m a v).tb = m.tb := by unfold storeD; split <;> rfl
  have ea : entryAtD (storeD m a v) a = entryD m.tb (a / 16) := by rw [entryAt_ok hOk ha, hT]
  have eb : entryAtD (storeD m a v) b = entryD m.tb (b / 16) := by rw [entryAt_ok hOk hb, hT]
  have eb0 := entryAt_ok h hb
  have hp := at_parts (m := m) (a := a) (by rw [he]; omega)
  rw [he] at hp
  obtain ⟨_, _, _, f0, f1, fl, _, _⟩ := hp
  have hF : (storeD m a v).fr.cells = m.fr.cells.set (entryD m.tb (a / 16)).2.toNat ((m.fr.cells.getD (entryD m.tb (a / 16)).2.toNat []).set (a % 16).toNat v) := by
    unfold storeD
    rw [if_pos hC, he]
  have key : ∀ c : Int, 0 ≤ c → (entryD m.tb (c / 16)).1 ≠ 0 → (entryD m.tb (c / 16)).2 = (entryD m.tb (a / 16)).2 → c % 16 = a % 16 → loadD (storeD m a v) c = v := by
    intro c hc c0 c1 c2
    have ec : entryAtD (storeD m a v) c = entryD m.tb (c / 16) := by rw [entryAt_ok hOk hc, hT]
    unfold loadD
    rw [ec, if_neg c0, hF, c1, c2, getD_set_eq _ _ _ _ (by omega)]
    exact getD_set_eq _ _ _ _ (by omega)
  refine ⟨hC, key a ha (by omega) rfl rfl, ?_, machineOk_iff.2 hOk, fun ⟨x, y, z⟩ => key b hb x y z, ?_⟩
  · unfold loadC; rw [eb, eb0]
  · intro hn
    unfold loadD
    rw [eb, eb0]
    by_cases c0 : (entryD m.tb (b / 16)).1 = 0
    · rw [if_pos c0, if_pos c0]
    · rw [if_neg c0, if_neg c0, hF]
      have hpb := at_parts (m := m) (a := b) (by rw [eb0]; exact c0)
      rw [eb0] at hpb
      obtain ⟨_, _, _, g0, g1, gl, _, _⟩ := hpb
      by_cases c1 : (entryD m.tb (b / 16)).2 = (entryD m.tb (a / 16)).2
      · rw [c1, getD_set_eq _ _ _ _ (by omega)]
        refine getD_set_ne _ _ _ _ _ ?_
        intro e
        exact hn ⟨c0, c1, by omega⟩
      · rw [getD_set_ne _ _ _ _ _ (by omega)]
end Go.Proofs.Ytkcoehkfhffjkaa
