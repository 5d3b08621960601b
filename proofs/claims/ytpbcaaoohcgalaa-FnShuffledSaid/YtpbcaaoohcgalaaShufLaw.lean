/- A shuffle is a permutation, and its last seed differs from the first. -/
import Derived.Test.YtpbcaaoohcgalaaShuffle
namespace Go.Proofs.Ytpbcaaoohcgalaa
open Go.ChangeShapes Go.WideShapes Go.ChangeAt Go.RowKit
set_option linter.unusedSimpArgs false
set_option linter.unusedVariables false

/-- l lists n different numbers from 0 to n - 1. -/
def Inj (n : Nat) (l : List Int) : Prop := l.length = n ∧ (∀ a, a < n → 0 ≤ l.getD a 0 ∧ l.getD a 0 < n) ∧ ∀ a b, a < n → b < n → l.getD a 0 = l.getD b 0 → a = b
theorem getD_set (l : List Int) (i a : Nat) (x : Int) (hi : i < l.length) : (l.set i x).getD a 0 = if a = i then x else l.getD a 0 := by
  simp only [List.getD, List.getElem?_set]
  by_cases e : i = a
  · subst e; simp [hi]
  · have e' : ¬ a = i := fun h => e h.symm
    simp [e, e']
theorem swap_get (l : List Int) (i k a : Nat) (hi : i < l.length) (hk : k < l.length) : (swapL l i k).getD a 0 = if a = k then l.getD i 0 else if a = i then l.getD k 0 else l.getD a 0 := by
  unfold swapL
  rw [getD_set _ _ _ _ (by simpa using hk), getD_set _ _ _ _ hi]
theorem Inj.swap {n : Nat} {l : List Int} (h : Inj n l) {i k : Nat} (hi : i < n) (hk : k < n) : Inj n (swapL l i k) := by
  obtain ⟨h1, h2, h3⟩ := h
  refine ⟨by rw [swap_len]; exact h1, ?_, ?_⟩
  · intro a ha
    rw [swap_get l i k a (by omega) (by omega)]
    split
    · exact h2 i hi
    · split
      · exact h2 k hk
      · exact h2 a ha
  · intro a b ha hb he
    rw [swap_get l i k a (by omega) (by omega), swap_get l i k b (by omega) (by omega)] at he
    have g : ∀ x y, x < n → y < n → l.getD x 0 = l.getD y 0 → x = y := h3
    split at he
    · rename_i e1
      split at he
      · omega
      · split at he
        · rename_i e2 e3; have := g i k hi hk he; omega
        · rename_i e2 e3; have := g i b hi hb he; omega
    · rename_i e1
      split at he
      · rename_i e2
        split at he
        · rename_i e3; have := g k i hk hi he; omega
        · split at he
          · omega
          · rename_i e3 e4; have := g k b hk hb he; omega
      · rename_i e2
        split at he
        · rename_i e3; have := g a i ha hi he; omega
        · split at he
          · rename_i e3 e4; have := g a k ha hk he; omega
          · exact g a b ha hb he
theorem upTo_get (n a : Nat) (h : a < n) : (upTo n).getD a 0 = a := by simp [upTo, List.getD, h]
theorem Inj.upTo (n : Nat) : Inj n (upTo n) := by
  refine ⟨upTo_len n, fun a ha => ?_, fun a b ha hb he => ?_⟩
  · rw [upTo_get n a ha]; omega
  · rw [upTo_get n a ha, upTo_get n b hb] at he; omega
theorem shuf_inj (i : Nat) : ∀ (s : Int) (n : Nat) (l : List Int), 0 ≤ s → s ≤ 1073741823 → i ≤ 63 → i < n → Inj n l → Inj n (shufL i s l) := by
  induction i with
  | zero => intro s n l _ _ _ _ h; exact h
  | succ i ih =>
    intro s n l h0 h1 h2 h3 h
    obtain ⟨a, b, c, d⟩ := choose_in (s := s) (i := i) h0 h1 (by omega)
    rw [shufL]
    exact ih _ _ _ c d (by omega) (by omega) (h.swap (by omega) (by omega))
def lcg (x : Int) : Int := (13 * x + 9) % 16
def lcgs : Nat → Int → Int
  | 0, x => x
  | i + 1, x => lcgs i (lcg x)
theorem lcgs_ne : ∀ (i : Fin 15) (x : Fin 16), lcgs (i.1 + 1) (x.1 : Int) ≠ (x.1 : Int) := by decide +kernel
theorem chooseS_mod {s : Int} {i : Nat} (h0 : 0 ≤ s) (h1 : s ≤ 1073741823) (hi : i ≤ 64) : chooseS s (i + 2) % 16 = lcg (s % 16) := by
  have e2 : chooseS s (i + 2) = nextZ s := by unfold chooseS; rw [btw_true (by omega) (by omega), btw_true (by omega) (by omega)]; rfl
  rw [e2]
  unfold nextZ lcg
  rw [btw_true (by omega) (by omega)]
  simp only [if_true]
  omega
theorem shufS_mod (i : Nat) : ∀ s : Int, 0 ≤ s → s ≤ 1073741823 → i ≤ 63 → shufS i s % 16 = lcgs i (s % 16) := by
  induction i with
  | zero => intro s _ _ _; rfl
  | succ i ih =>
    intro s h0 h1 h2
    obtain ⟨a, b, c, d⟩ := choose_in (s := s) (i := i) h0 h1 (by omega)
    rw [shufS, ih _ c d (by omega), chooseS_mod h0 h1 (by omega)]; rfl
theorem shufS_ne {i : Nat} {s : Int} (h0 : 0 ≤ s) (h1 : s ≤ 1073741823) (hi : 1 ≤ i) (hi2 : i ≤ 15) : shufS i s ≠ s := by
  intro e
  have h := shufS_mod i s h0 h1 (by omega)
  rw [e] at h
  have := lcgs_ne ⟨i - 1, by omega⟩ ⟨(s % 16).toNat, by omega⟩
  apply this
  show lcgs (i - 1 + 1) _ = _
  rw [show i - 1 + 1 = i by omega, show (((s % 16).toNat : Nat) : Int) = s % 16 by omega]
  exact h.symm
theorem sameInts_same {l1 h1 l2 h2 : Nat} {zs : List Int} (v u : Value) (w : World) (f : SI l1 h1 w v zs) (g : SI l2 h2 w u zs) (hlen : zs.length ≤ 1000000000) :
    Calls Try.prog 42 #[v, u] w fun e w' => e = .returned (.bool true) ∧ Keep w w' := by
  obtain ⟨ao, c, rfl, hc, f1⟩ := f.opened
  obtain ⟨bo, d, rfl, hd, f2⟩ := g.opened
  clear f g
  go_enter Try.func42, Try.ntmps42
  go_wp2_with fail
  go_loopw [5] (fun i wr => ∃ k : Nat, k ≤ zs.length ∧ i = .int .i64 k ∧ Keep w wr) (fun i _ => zs.length - (intOf i).toNat)
  case atStart => exact ⟨0, Nat.zero_le _, rfl, Chg.refl _ _ _⟩
  case round =>
    obtain ⟨k, hk, rfl, hg⟩ := hrel
    by_cases hlt : k < zs.length
    · obtain ⟨g, rfl, _, _, _, hc1, _⟩ := f1 k hlt
      obtain ⟨g', rfl, _, _, _, hc2, _⟩ := f2 k hlt
      have hx1 := (hg.grown none).cell hc1 (by simp)
      have hx2 := (hg.grown none).cell hc2 (by simp)
      clear hc1 hc2 f1 f2
      generalize zs.getD k 0 = z at hx1 hx2
      go_wp2_with fail
      go_quiet (fail)
      go_wp2_with fail
      go_roundw
      case rel => exact ⟨k + 1, by omega, by go_num, hg.drewN _⟩
      case measure => simp [intOf]; omega
    · clear f1 f2
      go_wp2_with fail
      go_ret
      exact ⟨rfl, hg⟩
/-- The numbers that are still to come are not marked as seen. -/
def Unseen (n : Nat) (l : List Int) (k : Nat) (bs : List Bool) : Prop := bs.length = n ∧ ∀ t, k ≤ t → t < n → bs.getD (l.getD t 0).toNat false = false
theorem getD_setB (l : List Bool) (i a : Nat) (x : Bool) (hi : i < l.length) : (l.set i x).getD a false = if a = i then x else l.getD a false := by
  simp only [List.getD, List.getElem?_set]
  by_cases e : i = a
  · subst e; simp [hi]
  · have e' : ¬ a = i := fun h => e h.symm
    simp [e, e']
theorem Unseen.step {n : Nat} {l : List Int} {k : Nat} {bs : List Bool} (hi : Inj n l) (h : Unseen n l k bs) (hk : k < n) : Unseen n l (k + 1) (bs.set (l.getD k 0).toNat true) := by
  obtain ⟨h1, h2⟩ := h
  refine ⟨by simpa using h1, fun t ht htn => ?_⟩
  have a := hi.2.1 k hk
  have b := hi.2.1 t htn
  rw [getD_setB _ _ _ _ (by omega), if_neg ?_]
  · exact h2 t (by omega) htn
  · intro e
    have := hi.2.2 t k htn hk (by omega)
    omega
end Go.Proofs.Ytpbcaaoohcgalaa
