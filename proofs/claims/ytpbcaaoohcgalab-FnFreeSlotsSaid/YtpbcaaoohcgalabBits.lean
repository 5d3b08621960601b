/- Bitmaps as sets of slots: what setting and clearing does, slot by slot. -/
import Derived.Test.YtpbcaaoohcgalabText
import Derived.Test.YtpbcaaoohcgalabDraw2
import Derived.Laws.BitsAllLaws
import Derived.Laws.BitsLemmas
namespace Go.Proofs.Ytpbcaaoohcgalab
open Go.ChangeShapes Go.WideShapes Go.ChangeAt Go.RowKit
set_option linter.unusedSimpArgs false
set_option linter.unusedVariables false

theorem ofInt_i64 (a : Nat) (ha : a < 9223372036854775808) : (BitVec.ofInt 64 (a : Int)).toNat = a := by
  rw [BitVec.ofInt_natCast, BitVec.toNat_ofNat]; exact Nat.mod_eq_of_lt (by omega)
theorem i64_and_nat (a b : Nat) (ha : a < 9223372036854775808) (hb : b < 9223372036854775808) : bits .and .i64 (a : Int) (b : Int) = ((a &&& b : Nat) : Int) := by
  have hx : a &&& b < 2 ^ 63 := Nat.and_lt_two_pow _ (by omega)
  show IntKind.i64.wrap ((BitVec.ofInt 64 (a : Int) &&& BitVec.ofInt 64 (b : Int)).toNat : Int) = _
  rw [BitVec.toNat_and, ofInt_i64 a ha, ofInt_i64 b hb, IntKind.wrap_i64]
  omega
theorem i64_or_nat (a b : Nat) (ha : a < 9223372036854775808) (hb : b < 9223372036854775808) : bits .or .i64 (a : Int) (b : Int) = ((a ||| b : Nat) : Int) := by
  have hx : a ||| b < 2 ^ 63 := Nat.or_lt_two_pow (by omega) (by omega)
  show IntKind.i64.wrap ((BitVec.ofInt 64 (a : Int) ||| BitVec.ofInt 64 (b : Int)).toNat : Int) = _
  rw [BitVec.toNat_or, ofInt_i64 a ha, ofInt_i64 b hb, IntKind.wrap_i64]
  omega
/-- a without the bits of b. -/
def lessN (a b : Nat) : Nat := (BitVec.ofNat 64 a &&& ~~~ BitVec.ofNat 64 b).toNat
theorem lessN_le (a b : Nat) (ha : a < 9223372036854775808) : lessN a b ≤ a := by
  unfold lessN
  rw [BitVec.toNat_and]
  refine Nat.le_trans Nat.and_le_left ?_
  rw [BitVec.toNat_ofNat]; exact Nat.mod_le _ _
theorem lessN_bit (a b j : Nat) (ha : a < 9223372036854775808) (hb : b < 9223372036854775808) (hj : j < 64) : (lessN a b).testBit j = (a.testBit j && !b.testBit j) := by
  unfold lessN
  rw [← BitVec.getLsbD, BitVec.getLsbD_and, BitVec.getLsbD_not]
  rw [BitVec.getLsbD_ofNat, BitVec.getLsbD_ofNat]
  simp [hj]
theorem i64_andNot_nat (a b : Nat) (ha : a < 9223372036854775808) (hb : b < 9223372036854775808) : bits .andNot .i64 (a : Int) (b : Int) = ((lessN a b : Nat) : Int) := by
  have hx := lessN_le a b ha
  show IntKind.i64.wrap ((BitVec.ofInt 64 (a : Int) &&& ~~~ BitVec.ofInt 64 (b : Int)).toNat : Int) = _
  rw [BitVec.ofInt_natCast, BitVec.ofInt_natCast, IntKind.wrap_i64]
  show _ = ((lessN a b : Nat) : Int)
  unfold lessN at hx ⊢
  omega
theorem hasZ_nat (a i : Nat) (ha : a < 9223372036854775808) : hasZ (a : Int) (i : Int) = a.testBit i := by
  unfold hasZ
  have e : (a : Int) / 2 ^ (i : Int).toNat = ((a / 2 ^ i : Nat) : Int) := by rw [Int.toNat_natCast]; simp
  have h1 : a / 2 ^ i < 9223372036854775808 := Nat.lt_of_le_of_lt (Nat.div_le_self _ _) ha
  rw [e, show (1 : Int) = ((1 : Nat) : Int) from rfl, i64_and_nat _ _ h1 (by omega), Nat.testBit_eq_decide_div_mod_eq, Nat.and_one_is_mod]
  by_cases h : a / 2 ^ i % 2 = 1
  · rw [h]; rfl
  · have : a / 2 ^ i % 2 = 0 := by omega
    rw [this]; rfl
theorem hasB_nat (a i : Nat) (ha : a < 9223372036854775808) (hi : i < 16) : hasB (a : Int) (i : Int) = a.testBit i := by
  unfold hasB
  rw [slotB_true (by omega) (by omega) (by omega), hasZ_nat a i ha]; rfl
theorem withZ_nat (a i : Nat) (ha : a < 65536) (hi : i < 16) : withZ (a : Int) (i : Int) = ((a ||| 2 ^ i : Nat) : Int) := by
  unfold withZ
  have hp := pow16 i (by omega)
  rw [slotB_true (by omega) (by omega) (by omega), if_pos rfl, Int.toNat_natCast, show (2 : Int) ^ i = ((2 ^ i : Nat) : Int) by simp]
  have : (2 : Nat) ^ i ≤ 65536 := by have : ((2 ^ i : Nat) : Int) ≤ 65536 := by simpa using hp.2
                                     omega
  exact i64_or_nat _ _ (by omega) (by omega)
theorem withoutZ_nat (a i : Nat) (ha : a < 65536) (hi : i < 16) : withoutZ (a : Int) (i : Int) = ((lessN a (2 ^ i) : Nat) : Int) := by
  unfold withoutZ
  have hp := pow16 i (by omega)
  rw [slotB_true (by omega) (by omega) (by omega), if_pos rfl, Int.toNat_natCast, show (2 : Int) ^ i = ((2 ^ i : Nat) : Int) by simp]
  have : (2 : Nat) ^ i ≤ 65536 := by have : ((2 ^ i : Nat) : Int) ≤ 65536 := by simpa using hp.2
                                     omega
  exact i64_andNot_nat _ _ (by omega) (by omega)
theorem pow_small (n : Nat) (h : n ≤ 16) : (2 : Nat) ^ n ≤ 65536 := by
  have : ((2 ^ n : Nat) : Int) ≤ 65536 := by simpa using (pow16 n h).2
  omega
theorem or_pow {a k : Nat} (hk : k ≤ 16) (ha : a < 65537) : bits BinOp.or IntKind.i64 (a : Int) (wrap64 (2 ^ k)) = ((a ||| 2 ^ k : Nat) : Int) := by
  have h := pow_small k hk
  have e : wrap64 (2 ^ k) = ((2 ^ k : Nat) : Int) := by
    have := wrap_pow (n := (k : Int)) (by omega)
    rw [Int.toNat_natCast] at this
    rw [this]; simp
  rw [e, i64_or_nat _ _ (by omega) (by omega)]
/-- Setting and clearing one slot of a bitmap of n slots. -/
theorem slots_facts {a n i : Nat} (hn : n ≤ 16) (ha : a < 2 ^ n) (hi : i < n) :
    (∀ k : Nat, k < 16 → k ≠ i → hasB (withZ a i) k = hasB a k ∧ hasB (withoutZ a i) k = hasB a k) ∧ hasB (withZ a i) i = true ∧ hasB (withoutZ a i) i = false ∧ bmOkB n (withZ a i) = true ∧ cntTo (withZ a i) 16 = cntTo (withoutZ a i) 16 + 1 := by
  have hp := pow_small n hn
  have hpi := pow_small i (by omega)
  have hb : a ||| 2 ^ i < 2 ^ n := Nat.or_lt_two_pow ha (Nat.pow_lt_pow_right (by omega) hi)
  have hl := lessN_le a (2 ^ i) (by omega)
  rw [withZ_nat a i (by omega) (by omega), withoutZ_nat a i (by omega) (by omega)]
  have f1 : ∀ k : Nat, k < 16 → k ≠ i → hasB ((a ||| 2 ^ i : Nat) : Int) k = hasB a k ∧ hasB ((lessN a (2 ^ i) : Nat) : Int) k = hasB a k := by
    intro k hk hne
    rw [hasB_nat _ _ (by omega) hk, hasB_nat _ _ (by omega) hk, hasB_nat _ _ (by omega) hk, Nat.testBit_or, lessN_bit _ _ _ (by omega) (by omega) (by omega), Nat.testBit_two_pow_of_ne (fun e => hne e.symm)]
    simp
  have f2 : hasB ((a ||| 2 ^ i : Nat) : Int) i = true := by
    rw [hasB_nat _ _ (by omega) (by omega), Nat.testBit_or, Nat.testBit_two_pow_self]; simp
  have f3 : hasB ((lessN a (2 ^ i) : Nat) : Int) i = false := by
    rw [hasB_nat _ _ (by omega) (by omega), lessN_bit _ _ _ (by omega) (by omega) (by omega), Nat.testBit_two_pow_self]; simp
  refine ⟨f1, f2, f3, ?_, ?_⟩
  · unfold bmOkB
    rw [btw_true (by omega) (by omega), Int.toNat_natCast, btw_true (by omega) ?_]
    · rfl
    · have : ((a ||| 2 ^ i : Nat) : Int) < ((2 ^ n : Nat) : Int) := by omega
      have e : ((2 ^ n : Nat) : Int) = 2 ^ n := by simp
      omega
  · have : ∀ m : Nat, m ≤ 16 → cntTo ((a ||| 2 ^ i : Nat) : Int) m = cntTo ((lessN a (2 ^ i) : Nat) : Int) m + if i < m then 1 else 0 := by
      intro m
      induction m with
      | zero => intro _; simp [cntTo]
      | succ m ih =>
        intro hm
        have := ih (by omega)
        unfold cntTo
        by_cases e : m = i
        · subst e
          rw [f2, f3, this]
          simp
        · obtain ⟨g1, g2⟩ := f1 m (by omega) e
          rw [g1, g2, this]
          by_cases h : i < m
          · rw [if_pos h, if_pos (show i < m + 1 by omega)]; omega
          · rw [if_neg h, if_neg (show ¬ i < m + 1 by omega)]; omega
    rw [this 16 (by omega), if_pos (by omega)]
theorem size_any {B C : Nat} (w : World) (hc : Cur B C w) :
    Calls Try.prog 29 #[.pointer (some ⟨C, 0, none⟩)] w fun e w' => ∃ x : Int, (x = 2 ∨ x = 4 ∨ x = 8 ∨ x = 16) ∧ e = .returned (.int .i64 x) ∧ Cur B C w' ∧ Chg C (C + 1) w w' := by
  have hC := hc.lt
  have hl := SI.lit w w.heap.size [2, 4, 8, 16] (Nat.le_refl _) (by decide)
  go_enter Try.func29, Try.ntmps29
  go_wp2_with (go_at_call 38; refine (pickInt_any _ _ (hc.keep ((Chg.refl 0 0 w).alloc _)) hl (by omega) (by decide) (by decide)).mono ?_; rintro e w2 ⟨y, hy, rfl, hc2, hg2⟩)
  go_ret
  exact ⟨y, by simpa using hy, rfl, hc2, ((Chg.refl C (C + 1) w).alloc _).trans hg2⟩
theorem map_any {B C : Nat} (n : Nat) (w : World) (hc : Cur B C w) (hn : n ≤ 16) :
    Calls Try.prog 30 #[.pointer (some ⟨C, 0, none⟩), .int .i64 n] w fun e w' => ∃ a : Nat, a < 2 ^ n ∧ e = .returned (.int .i64 a) ∧ Cur B C w' ∧ Chg C (C + 1) w w' := by
  go_enter Try.func30, Try.ntmps30
  go_wp2_with fail
  refine (below_pos _ _ hc (by omega)).mono ?_
  rintro e w1 ⟨x, hx0, hx1, rfl, hc1, hg1⟩
  clear hc
  go_wp2_with fail
  go_loopw [5, 7] (fun v i wr => ∃ (k a : Nat), k ≤ n ∧ i = .int .i64 k ∧ v = .int .i64 a ∧ a < 2 ^ k ∧ Cur B C wr ∧ Chg C (C + 1) w wr) (fun _ i _ => n - (intOf i).toNat)
  case atStart => exact ⟨0, 0, Nat.zero_le _, rfl, rfl, by simp, hc1, hg1⟩
  case round =>
    obtain ⟨k, a, hk, rfl, rfl, ha, hcr, hgr⟩ := hrel
    clear hc1 hg1
    have hp := pow_small k (by omega)
    by_cases hlt : k < n
    · go_wp2_with fail
      refine (once_any _ _ hcr).mono ?_
      rintro e w2 ⟨b, rfl, hc2, hg2⟩
      have hg := hgr.trans hg2
      clear hcr hgr hg2
      cases b
      · go_wp2_with fail
        go_roundw
        case rel => exact ⟨k + 1, a, by omega, by go_num, rfl, by rw [Nat.pow_succ]; omega, hc2, hg⟩
        case measure => simp [intOf]; omega
      · go_wp2_with fail
        go_roundw
        case rel => exact ⟨k + 1, a ||| 2 ^ k, by omega, by go_num, by rw [or_pow (by omega) (by omega)], Nat.or_lt_two_pow (by rw [Nat.pow_succ]; omega) (Nat.pow_lt_pow_right (by omega) (by omega)), hc2, hg⟩
        case measure => simp [intOf]; omega
    · obtain rfl : n = k := by omega
      go_wp2_with fail
      go_ret
      exact ⟨a, ha, rfl, hcr, hgr⟩
theorem drawBitmap_any (ao : Option Addr) (n cap : Nat) (w : World) (hn : n ≤ 1048576) (hcode : Code w.heap.size w ao n) :
    Calls Try.prog 13 #[.slice ao n cap] w fun e w' => ∃ m a b : Nat, 2 ≤ m ∧ m ≤ 16 ∧ a < 2 ^ m ∧ e = .returned (.tuple #[.int .i64 m, .int .i64 a, .int .i64 b]) ∧ Keep w w' := by
  go_enter Try.func13, Try.ntmps13
  go_wp2_with fail
  refine (l01New_any _ _ _ _ hn hcode).mono ?_
  rintro e w1 ⟨rfl, hc, hb, hsz⟩
  have k1 := Keep.of_below hb
  clear hsz hb hcode
  go_wp2_with fail
  refine (size_any _ hc).mono ?_
  rintro e w2 ⟨x, hx, rfl, hc2, hg2⟩
  obtain ⟨m, rfl⟩ : ∃ m : Nat, x = m := ⟨x.toNat, by omega⟩
  have hm1 : 2 ≤ m := by omega
  have hm2 : m ≤ 16 := by omega
  have k2 := k1.comp hg2 (.inl (Nat.le_refl _))
  clear hg2 hc k1 hx
  go_wp2_with fail
  refine (map_any _ _ hc2 hm2).mono ?_
  rintro e w3 ⟨a, ha, rfl, hc3, hg3⟩
  have k3 := k2.comp hg3 (.inl (Nat.le_refl _))
  clear hg3 hc2 k2
  go_wp2_with fail
  refine (map_any _ _ hc3 hm2).mono ?_
  rintro e w4 ⟨b, hb, rfl, hc4, hg4⟩
  have k4 := k3.comp hg4 (.inl (Nat.le_refl _))
  go_wp2_with fail
  go_ret3
  exact ⟨m, a, b, hm1, hm2, ha, rfl, k4⟩
end Go.Proofs.Ytpbcaaoohcgalab
