/- Decimal text: what a numeral is parsed to; the drawn number. (For the seat of the cards.) -/
import Derived.Test.YtpbcaaoohcgalabDoorParse
import Derived.Test.YtpbcaaoohcgalabDoorDraw2
namespace Go.Proofs.YtpbcaaoohcgalabDoor
open Go.ChangeShapes Go.WideShapes Go.ChangeAt Go.RowKit
set_option linter.unusedSimpArgs false
set_option linter.unusedVariables false
open Go.Lib (decDigits itoa nDigits decDigits_length)

theorem fig_dig : ∀ d : Fin 10, isDig (fig d.1) = true ∧ (fig d.1).toNat - 48 = d.1 ∧ (fig d.1 = 48 → d.1 = 0) := by decide
theorem dec_facts (m : Nat) : (decDigits m).all isDig = true ∧ valL (decDigits m) = m ∧ 0 < (decDigits m).length ∧ (0 < m → (decDigits m).getD 0 0 ≠ 48) := by
  induction m using Nat.strongRecOn with
  | ind m ih =>
    by_cases h : m < 10
    · rw [dec_small h]
      obtain ⟨h1, h2, h3⟩ := fig_dig ⟨m, h⟩
      dsimp only at h1 h2 h3
      refine ⟨by simp [h1], by simp [valL, h2], by simp, fun h0 e => ?_⟩
      have := h3 (by simpa using e)
      omega
    · rw [dec_big h]
      obtain ⟨i1, i2, i3, i4⟩ := ih (m / 10) (by omega)
      obtain ⟨h1, h2, _⟩ := fig_dig ⟨m % 10, by omega⟩
      dsimp only at h1 h2
      refine ⟨by simp [List.all_append, h1, i1], by rw [valL_snoc, i2, h2]; omega, by simp, fun _ e => ?_⟩
      apply i4 (by omega)
      rw [← e]
      generalize decDigits (m / 10) = l at *
      cases l with
      | nil => simp at i3
      | cons a l => simp
theorem dec_lead (m : Nat) : leadOk (decDigits m) = true := by
  unfold leadOk
  obtain ⟨_, _, _, h4⟩ := dec_facts m
  by_cases h : m < 10
  · rw [dec_small h]; rfl
  · have := h4 (by omega)
    simp only [Bool.or_eq_true, Bool.not_eq_true', beq_eq_false_iff_ne]
    exact .inr this
def inNum (n : Int) : Bool := decide (n ≥ 0) && decide (n ≤ 1000000000)
theorem parse_dec (m : Nat) : parseOk (decDigits m) = decide (m ≤ 1000000000) := by
  obtain ⟨h1, h2, h3, _⟩ := dec_facts m
  unfold parseOk
  rw [h1, h2, dec_lead, decide_eq_true h3]
  by_cases h : m ≤ 1000000000
  · have : (decDigits m).length ≤ 10 := by rw [decDigits_length]; exact digits_le m 10 (by omega) (by omega)
    rw [decide_eq_true this, decide_eq_true h]; rfl
  · rw [decide_eq_false h]; simp
theorem parse_itoa (n : Int) : parseOk (itoa n) = inNum n := by
  unfold inNum itoa
  by_cases h : n < 0
  · rw [if_pos h, decide_eq_false (show ¬ n ≥ 0 by omega)]
    unfold parseOk
    simp [isDig]
  · rw [if_neg h, parse_dec, decide_eq_true (show n ≥ 0 by omega)]
    rw [Bool.true_and, decide_eq_decide]; omega
theorem parseD_itoa {n : Int} (h : inNum n = true) : parseD (itoa n) = n := by
  unfold parseD
  rw [parse_itoa, if_pos h]
  unfold inNum at h
  rw [Bool.and_eq_true, decide_eq_true_eq, decide_eq_true_eq] at h
  unfold itoa
  rw [if_neg (by omega), (dec_facts n.toNat).2.1]
  omega
theorem itoa_ne (n : Int) : itoa n ≠ [] := by
  unfold itoa
  split
  · simp
  · intro e
    have := (dec_facts n.toNat).2.2.1
    rw [e] at this; simp at this
theorem itoa_size (n : Int) (h1 : -9223372036854775808 ≤ n) (h2 : n ≤ 9223372036854775807) : (itoa n).length ≤ 21 := by
  unfold itoa
  split
  · have := dec_len n.natAbs (by omega)
    simp; omega
  · have := dec_len n.toNat (by omega)
    omega
theorem drawFormatInt_any (ao : Option Addr) (n cap : Nat) (w : World) (hn : n ≤ 1048576) (hcode : Code w.heap.size w ao n) :
    Calls Tryd.prog 10 #[.slice ao n cap] w fun e w' => ∃ x : Int, inI64 x ∧ e = .returned (.int .i64 x) ∧ Keep w w' := by
  go_enter Tryd.func10, Tryd.ntmps10
  go_wp2_with fail
  refine (l01New_any _ _ _ _ hn hcode).mono ?_
  rintro e w1 ⟨rfl, hc, hb, hsz⟩
  have k1 := Keep.of_below hb
  clear hsz hb hcode
  go_wp2_with fail
  refine (once_any _ _ hc).mono ?_
  rintro e w2 ⟨b, rfl, hc2, hg2⟩
  have k2 := k1.comp hg2 (.inl (Nat.le_refl _))
  clear hg2 hc k1
  cases b
  · go_wp2_with fail
    refine (number_any _ hc2).mono ?_
    rintro e w3 ⟨x, hx, rfl, hc3, hg3⟩
    have k3 := k2.comp hg3 (.inl (Nat.le_refl _))
    go_wp2_with fail
    go_ret
    exact ⟨x, hx, rfl, k3⟩
  · go_wp2_with fail
    refine (below_pos _ _ hc2 (by omega)).mono ?_
    rintro e w3 ⟨x, hx0, hx1, rfl, hc3, hg3⟩
    have k3 := k2.comp hg3 (.inl (Nat.le_refl _))
    go_wp2_with fail
    refine (below_pos _ _ hc3 (by omega)).mono ?_
    rintro e w4 ⟨y, hy0, hy1, rfl, hc4, hg4⟩
    have k4 := k3.comp hg4 (.inl (Nat.le_refl _))
    have hb0 : -1000000000000 ≤ x * (y - 1000000) := by
      have h1 : x * (y - 1000000) ≥ x * (-1000000) := Int.mul_le_mul_of_nonneg_left (by omega) hx0
      omega
    have hb1 : x * (y - 1000000) ≤ 1000000000000 := by
      have h1 : x * (y - 1000000) ≤ x * 1000000 := Int.mul_le_mul_of_nonneg_left (by omega) hx0
      omega
    have hwr : wrap64 (x * (y - 1000000)) = x * (y - 1000000) := by unfold wrap64; omega
    go_wp2_with fail
    go_ret
    exact ⟨x * (y - 1000000), ⟨by omega, by omega⟩, rfl, k4⟩
end Go.Proofs.YtpbcaaoohcgalabDoor
