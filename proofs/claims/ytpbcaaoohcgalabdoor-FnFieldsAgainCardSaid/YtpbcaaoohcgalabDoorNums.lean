/- Decimal text: the reference's FormatInt, and ParseUint of both. -/
import Derived.Test.YtpbcaaoohcgalabDoorHex
import Derived.Lib.ItoaNum
import Derived.Lib.ItoaLen
namespace Go.Proofs.YtpbcaaoohcgalabDoor
open Go.ChangeShapes Go.WideShapes Go.ChangeAt Go.RowKit
set_option linter.unusedSimpArgs false
set_option linter.unusedVariables false
open Go.Lib (decDigits itoa nDigits decDigits_length)

theorem fig_dec : ∀ d : Fin 10, fig d.1 = UInt8.ofNat (48 + d.1) := by decide
theorem dec_small {m : Nat} (h : m < 10) : decDigits m = [fig m] := by
  rw [decDigits, dif_pos h, fig_dec ⟨m, h⟩]
theorem dec_big {m : Nat} (h : ¬ m < 10) : decDigits m = decDigits (m / 10) ++ [fig (m % 10)] := by
  rw [decDigits, dif_neg h, fig_dec ⟨m % 10, by omega⟩]
/-- l is the tail of u's numeral behind m's. -/
def Tail (u m : Nat) (l : List UInt8) : Prop := (m = 0 → l = decDigits u) ∧ (m ≠ 0 → decDigits m ++ l = decDigits u)
theorem Tail.step {u m : Nat} {l : List UInt8} (h : Tail u m l) (h0 : m ≠ 0) : Tail u (m / 10) (fig (m % 10) :: l) := by
  have h1 := h.2 h0
  refine ⟨fun hz => ?_, fun hz => ?_⟩
  · rw [← h1, dec_small (by omega), Nat.mod_eq_of_lt (by omega)]; rfl
  · rw [← h1, dec_big (m := m) (by omega)]; simp
theorem Tail.len {u m : Nat} {l : List UInt8} (h : Tail u m l) : l.length ≤ (decDigits u).length := by
  by_cases h0 : m = 0
  · rw [h.1 h0]; omega
  · rw [← h.2 h0]; simp
theorem Tail.start (u : Nat) (h : u ≠ 0) : Tail u u [] := ⟨fun h' => absurd h' h, fun _ => by simp⟩
theorem dec_len (u : Nat) (h : u < 18446744073709551616) : (decDigits u).length ≤ 20 := by
  rw [decDigits_length]; exact Go.Lib.nDigits_le20 u h
theorem SU.lit1 (w : World) (c : UInt8) : SU w.heap.size (w.heap.size + 1) (w.alloc (.cells #[.int .u8 (c.toNat : Int)] 5 (0, 0))) (.slice (some ⟨w.heap.size, 0, none⟩) 1 1) [c] :=
  Rw.lit w _ 1 1 _ #[byteV c] (Nat.le_refl _) (by decide) rfl
theorem formatInt_pos (n : Int) (w : World) (h0 : 0 < n) (h1 : n ≤ 9223372036854775807) :
    Calls Tryd.prog 7 #[.int .i64 n] w fun e w' => e = .returned (.string ⟨(itoa n).toArray⟩) ∧ Keep w w' := by
  have HI := Lib.hid (show itoa n = decDigits n.toNat by unfold itoa; rw [if_neg (by omega)])
  have hn0 : (n == 0) = false := by simp; omega
  have hnl : ¬ n < 0 := by omega
  have hlen := dec_len n.toNat (by omega)
  go_enter Tryd.func7, Tryd.ntmps7
  go_wp2_with fail
  go_loopw [0, 4] (fun a s wr => ∃ (m : Nat) (l : List UInt8), a = .int .i64 m ∧ s = .string ⟨l.toArray⟩ ∧ (m : Int) ≤ n ∧ Tail n.toNat m l ∧ Keep w wr) (fun a _ _ => (intOf a).toNat)
  case atStart => exact ⟨n.toNat, [], by go_num, rfl, by omega, Tail.start _ (by omega), Chg.refl _ _ _⟩
  case round =>
    obtain ⟨m, l, rfl, rfl, hm, ht, hg⟩ := hrel
    have hl : (l.length : Int) ≤ 8388608 := by have := ht.len; omega
    by_cases hz : m = 0
    · subst hz
      have hz1 : ((0 : Int) != 0) = false := rfl
      go_wp2_with fail
      go_ret
      exact ⟨by rw [HI.out, ← ht.1 rfl]; rfl, hg⟩
    · have e1 : ((m : Int) != 0) = true := by simp; omega
      have e2 : ((m : Int) == 0) = false := by simp; omega
      have hst := SU.string (SU.lit1 wr (fig (m % 10)))
      have hadd := fun wx => run_string_add_lists (P := Tryd.prog) (w := wx) [fig (m % 10)] l (by simp) hl
      go_wp2_with (go_at_call 19; refine (figure_any _ _ (by omega) (by omega)).mono ?_; rintro e w' ⟨rfl, rfl⟩)
      go_roundw
      case rel =>
        exact ⟨m / 10, fig (m % 10) :: l, by go_num, rfl, by omega, ht.step hz, hg.alloc _⟩
      case measure => simp [intOf]; omega
theorem formatInt_zero (w : World) :
    Calls Tryd.prog 7 #[.int .i64 0] w fun e w' => e = .returned (.string ⟨(itoa 0).toArray⟩) ∧ Keep w w' := by
  have HI := Lib.hid (show itoa 0 = [48] by unfold itoa; rw [if_neg (by omega)]; rw [Int.toNat_zero, dec_small (by omega)]; rfl)
  go_enter Tryd.func7, Tryd.ntmps7
  go_wp2_with fail
  go_ret
  exact ⟨by rw [HI.out]; rfl, Chg.refl _ _ _⟩
theorem formatInt_neg (n : Int) (w : World) (h0 : n < 0) (h1 : -9223372036854775808 ≤ n) :
    Calls Tryd.prog 7 #[.int .i64 n] w fun e w' => e = .returned (.string ⟨(itoa n).toArray⟩) ∧ Keep w w' := by
  have HI := Lib.hid (show itoa n = 45 :: decDigits n.natAbs by unfold itoa; rw [if_pos h0])
  have hn0 : (n == 0) = false := by simp; omega
  have hlen := dec_len n.natAbs (by omega)
  go_enter Tryd.func7, Tryd.ntmps7
  go_wp2_with fail
  go_loopw [0, 4] (fun a s wr => ∃ (z : Int) (l : List UInt8), a = .int .i64 z ∧ s = .string ⟨l.toArray⟩ ∧ n ≤ z ∧ z ≤ 0 ∧ Tail n.natAbs z.natAbs l ∧ Keep w wr) (fun a _ _ => (intOf a).natAbs)
  case atStart => exact ⟨n, [], rfl, rfl, by omega, by omega, Tail.start _ (by omega), Chg.refl _ _ _⟩
  case round =>
    obtain ⟨z, l, rfl, rfl, hm, hz0, ht, hg⟩ := hrel
    have hl : (l.length : Int) ≤ 8388608 := by have := ht.len; omega
    by_cases hz : z = 0
    · subst hz
      have hadd := fun wx => run_string_add_lists (P := Tryd.prog) (w := wx) [45] l (by simp) hl
      go_wp2_with fail
      go_ret
      exact ⟨by rw [HI.out, ← ht.1 rfl]; rfl, hg⟩
    · have e1 : (z != 0) = true := by simp; omega
      have e2 : (z == 0) = false := by simp; omega
      have b1 : z.tmod 10 = -((z.natAbs % 10 : Nat) : Int) := by
        have := Int.neg_tmod (-z) 10
        rw [Int.neg_neg] at this
        rw [this, Int.tmod_eq_emod_of_nonneg (by omega)]; omega
      have b2 : z.tdiv 10 = -((z.natAbs / 10 : Nat) : Int) := by
        have := Int.neg_tdiv (-z) 10
        rw [Int.neg_neg] at this
        rw [this, Int.tdiv_eq_ediv_of_nonneg (by omega)]; omega
      have HT := Lib.hid ht
      have HB := Lib.hid b2
      clear ht
      by_cases hd : z.natAbs % 10 = 0
      · have b3 : z.tmod 10 = 0 := by rw [b1, hd]; rfl
        have HD := Lib.hid hd
        clear b1 hd
        have hst := SU.string (SU.lit1 wr (fig 0))
        have hadd := fun wx => run_string_add_lists (P := Tryd.prog) (w := wx) [fig 0] l (by simp) hl
        go_wp2_with (go_at_call 19; refine (figure_any _ _ (by omega) (by omega)).mono ?_; rintro e w' ⟨rfl, rfl⟩)
        go_roundw
        case rel =>
          refine ⟨_, fig 0 :: l, rfl, rfl, by omega, by omega, ?_, hg.alloc _⟩
          have := HT.out.step (by omega)
          rw [HD.out] at this
          exact (show ∀ y : Int, y = -((z.natAbs / 10 : Nat) : Int) → Tail n.natAbs y.natAbs _ from fun y hy => by rw [hy, Int.natAbs_neg, Int.natAbs_natCast]; exact this) _ (by omega)
        case measure => simp [intOf]; omega
      · have b3 : ¬ z.natAbs % 10 = 0 := hd
        have hst := SU.string (SU.lit1 wr (fig (z.natAbs % 10)))
        have hadd := fun wx => run_string_add_lists (P := Tryd.prog) (w := wx) [fig (z.natAbs % 10)] l (by simp) hl
        go_wp2_with (go_at_call 19; refine (figure_any _ _ (by omega) (by omega)).mono ?_; rintro e w' ⟨rfl, rfl⟩)
        go_roundw
        case rel =>
          refine ⟨_, fig (z.natAbs % 10) :: l, rfl, rfl, by omega, by omega, ?_, hg.alloc _⟩
          have := HT.out.step (by omega)
          exact (show ∀ y : Int, y = -((z.natAbs / 10 : Nat) : Int) → Tail n.natAbs y.natAbs _ from fun y hy => by rw [hy, Int.natAbs_neg, Int.natAbs_natCast]; exact this) _ (by omega)
        case measure => simp [intOf]; omega
theorem formatInt_spec (n : Int) (w : World) (h1 : -9223372036854775808 ≤ n) (h2 : n ≤ 9223372036854775807) :
    Calls Tryd.prog 7 #[.int .i64 n] w fun e w' => e = .returned (.string ⟨(itoa n).toArray⟩) ∧ Keep w w' := by
  rcases Int.lt_trichotomy n 0 with h | h | h
  · exact formatInt_neg n w h h1
  · subst h; exact formatInt_zero w
  · exact formatInt_pos n w h h2
/-! ## Numbers out of text -/
def isDig (c : UInt8) : Bool := decide (48 ≤ c.toNat) && decide (c.toNat ≤ 57)
def valL (l : List UInt8) : Nat := l.foldl (fun n c => 10 * n + (c.toNat - 48)) 0
theorem valL_snoc (l : List UInt8) (c : UInt8) : valL (l ++ [c]) = 10 * valL l + (c.toNat - 48) := by simp [valL]
def leadOk (l : List UInt8) : Bool := decide (l.length ≤ 1) || !(l.getD 0 0 == 48)
def parseOk (l : List UInt8) : Bool := decide (0 < l.length) && decide (l.length ≤ 10) && leadOk l && l.all isDig && decide (valL l ≤ 1000000000)
def parseD (l : List UInt8) : Int := if parseOk l then valL l else 0
theorem snoc_ind {α : Type} {P : List α → Prop} (h0 : P []) (h1 : ∀ l c, P l → P (l ++ [c])) (l : List α) : P l := by
  have : ∀ m : List α, P m.reverse := by
    intro m
    induction m with
    | nil => exact h0
    | cons c m ih => rw [List.reverse_cons]; exact h1 _ _ ih
  have h := this l.reverse
  rwa [List.reverse_reverse] at h
theorem valL_lt (l : List UInt8) (h : l.all isDig = true) : valL l < 10 ^ l.length := by
  induction l using snoc_ind with
  | h0 => simp [valL]
  | h1 l c ih =>
    rw [List.all_append] at h
    simp only [List.all_cons, List.all_nil, Bool.and_true, Bool.and_eq_true] at h
    have h2 := ih h.1
    have h3 : c.toNat ≤ 57 := by have := h.2; unfold isDig at this; simp at this; omega
    rw [valL_snoc, List.length_append, List.length_singleton, Nat.pow_succ]
    omega
theorem digits_le (u k : Nat) (h : u < 10 ^ k) (hk : 1 ≤ k) : nDigits u ≤ k := by
  induction k generalizing u with
  | zero => omega
  | succ k ih =>
    by_cases h1 : u < 10
    · rw [Go.Lib.nDigits_small h1]; omega
    · rw [Go.Lib.nDigits_big h1]
      have h2 : u / 10 < 10 ^ k := by rw [Nat.pow_succ] at h; omega
      have h3 : 1 ≤ k := by
        rcases Nat.eq_zero_or_pos k with e | e
        · subst e; simp at h; omega
        · exact e
      have := ih _ h2 h3
      omega
/-- A text of digits is the numeral of its value just if it is not empty and has no needless zero ahead. -/
theorem dec_val (l : List UInt8) (h : l.all isDig = true) (h0 : 0 < l.length) (hl : leadOk l = true) : decDigits (valL l) = l ∧ (1 < l.length → 0 < valL l) := by
  induction l using snoc_ind with
  | h0 => simp at h0
  | h1 l c ih =>
    rw [List.all_append] at h
    simp only [List.all_cons, List.all_nil, Bool.and_true, Bool.and_eq_true] at h
    have hc : 48 ≤ c.toNat ∧ c.toNat ≤ 57 := by have := h.2; unfold isDig at this; simpa using this
    have hfig : fig (c.toNat - 48) = c := by
      rw [fig_dec ⟨c.toNat - 48, by omega⟩]
      show UInt8.ofNat (48 + (c.toNat - 48)) = c
      rw [show 48 + (c.toNat - 48) = c.toNat by omega, UInt8.ofNat_toNat]
    by_cases e : l = []
    · subst e
      rw [valL_snoc]
      simp only [valL, List.foldl_nil, Nat.mul_zero, Nat.zero_add, List.nil_append]
      rw [dec_small (by omega), hfig]
      exact ⟨rfl, fun h => by simp at h⟩
    · have hlen : 0 < l.length := by cases l with | nil => exact absurd rfl e | cons => simp
      have hg : (l ++ [c]).getD 0 0 = l.getD 0 0 := by cases l with | nil => exact absurd rfl e | cons => simp
      have hne : (l.getD 0 0 == 48) = false := by
        unfold leadOk at hl
        rw [hg] at hl
        simp only [List.length_append, List.length_singleton, Bool.or_eq_true, decide_eq_true_eq, Bool.not_eq_true'] at hl
        rcases hl with hl | hl
        · omega
        · exact hl
      have hlead : leadOk l = true := by unfold leadOk; rw [hne]; simp
      obtain ⟨h1, h2⟩ := ih h.1 hlen hlead
      have hv : 0 < valL l := by
        by_cases h3 : 1 < l.length
        · exact h2 h3
        · match l, hlen, h3, hne, h with
          | [d], _, _, hne, h =>
            have hd : 48 ≤ d.toNat := by have := h.1; simp [isDig] at this; omega
            have hd2 : d.toNat ≠ 48 := by
              intro h4
              have : d = 48 := UInt8.toNat_inj.1 (by simpa using h4)
              subst this
              simp at hne
            simp only [valL, List.foldl_cons, List.foldl_nil]
            omega
          | _ :: _ :: _, _, h3, _, _ => simp at h3
      rw [valL_snoc]
      refine ⟨?_, fun _ => by omega⟩
      rw [dec_big (by omega), show (10 * valL l + (c.toNat - 48)) / 10 = valL l by omega, show (10 * valL l + (c.toNat - 48)) % 10 = c.toNat - 48 by omega, h1, hfig]
theorem dec_ne (l : List UInt8) (h : l.all isDig = true) (hl : ¬ (0 < l.length ∧ leadOk l = true)) : decDigits (valL l) ≠ l := by
  intro he
  apply hl
  have hp : 0 < l.length := by
    rw [← he, decDigits_length]
    exact Go.Lib.nDigits_pos _
  refine ⟨hp, ?_⟩
  cases hb : leadOk l with
  | true => rfl
  | false =>
    exfalso
    unfold leadOk at hb
    simp only [Bool.or_eq_false_iff, decide_eq_false_iff_not, Bool.not_eq_false'] at hb
    obtain ⟨h1, h2⟩ := hb
    have : valL l < 10 ^ (l.length - 1) := by
      match l, h1, h2, h with
      | c :: m, _, h2, h =>
        have hc : c = 48 := by simpa using h2
        subst hc
        have hm : m.all isDig = true := by simp at h ⊢; exact h.2
        have : valL (48 :: m) = valL m := by simp [valL]
        rw [this]
        simpa using valL_lt m hm
    have h3 : (decDigits (valL l)).length ≤ l.length - 1 := by
      rw [decDigits_length]
      exact digits_le _ _ this (by omega)
    rw [he] at h3
    omega
end Go.Proofs.YtpbcaaoohcgalabDoor
