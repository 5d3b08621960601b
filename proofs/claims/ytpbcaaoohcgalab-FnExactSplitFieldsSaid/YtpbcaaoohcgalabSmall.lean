/- Contracts of the small functions on numbers (ranges, bitmaps, seeds, classes): each returns what a plain Lean function of its arguments says, for all arguments, and leaves memory alone. -/
import Derived.Test.YtpbcaaoohcgalabRows
import Derived.WalkKit
import Derived.ProofKit
import Derived.OpenShut
import Derived.Lib.Hide
namespace Go.Proofs.Ytpbcaaoohcgalab
open Go.ChangeShapes Go.WideShapes Go.ChangeAt Go.RowKit

theorem ret_int {k : IntKind} {a b : Int} (h : a = b) : Ending.returned (.int k a) = .returned (.int k b) := by rw [h]
theorem ret_bool {a b : Bool} (h : a = b) : Ending.returned (.bool a) = .returned (.bool b) := by rw [h]
def btw (n lo hi : Int) : Bool := decide (lo ≤ n) && decide (n ≤ hi)
theorem btw_true {n lo hi : Int} (h1 : lo ≤ n) (h2 : n ≤ hi) : btw n lo hi = true := by simp [btw, h1, h2]
theorem btw_false {n lo hi : Int} (h : n < lo ∨ hi < n) : btw n lo hi = false := by
  unfold btw
  rcases h with h | h
  · simp; omega
  · simp; omega
theorem btw_iff {n lo hi : Int} : btw n lo hi = true ↔ lo ≤ n ∧ n ≤ hi := by simp [btw]
theorem between_any (n lo hi : Int) (w : World) :
    Calls Try.prog 33 #[.int .i64 n, .int .i64 lo, .int .i64 hi] w fun e w' => e = .returned (.bool (btw n lo hi)) ∧ w = w' := by
  by_cases h1 : lo ≤ n
  · go_enter Try.func33, Try.ntmps33
    go_wp2
    go_ret
    refine ⟨?_, rfl⟩
    simp [btw, h1]
  · go_enter Try.func33, Try.ntmps33
    go_wp2
    go_ret
    refine ⟨?_, rfl⟩
    simp [btw]
    omega
theorem l01In_any (n lo hi : Int) (w : World) :
    Calls Try.prog 34 #[.int .i64 n, .int .i64 lo, .int .i64 hi] w fun e w' => e = .returned (.bool (btw n lo hi)) ∧ w = w' := by
  by_cases h1 : lo ≤ n
  · go_enter Try.func34, Try.ntmps34
    go_wp2
    go_ret
    refine ⟨?_, rfl⟩
    simp [btw, h1]
  · go_enter Try.func34, Try.ntmps34
    go_wp2
    go_ret
    refine ⟨?_, rfl⟩
    simp [btw]
    omega

/-! ## Bitmaps -/
def slotB (b i : Int) : Bool := decide (0 ≤ b) && btw i 0 15
theorem slotB_true {b i : Int} (h0 : 0 ≤ b) (h1 : 0 ≤ i) (h2 : i ≤ 15) : slotB b i = true := by simp [slotB, h0, btw_true h1 h2]
theorem slotB_iff {b i : Int} : slotB b i = true ↔ 0 ≤ b ∧ 0 ≤ i ∧ i ≤ 15 := by simp [slotB, btw]
theorem slotOk_any (b i : Int) (w : World) :
    Calls Try.prog 32 #[.int .i64 b, .int .i64 i] w fun e w' => e = .returned (.bool (slotB b i)) ∧ w = w' := by
  by_cases h : 0 ≤ b
  all_goals
    go_enter Try.func32, Try.ntmps32
    go_wp2_with (go_at_call 33; refine (between_any _ _ _ _).mono ?_; rintro e w' ⟨rfl, rfl⟩)
    go_ret
    refine ⟨?_, rfl⟩
    simp [slotB]
    first | (intro hh; omega) | (simp [h])
def hasZ (b i : Int) : Bool := bits BinOp.and IntKind.i64 (b / 2 ^ i.toNat) 1 == 1
def hasB (b i : Int) : Bool := slotB b i && hasZ b i
theorem hasSlot_any (b i : Int) (w : World) :
    Calls Try.prog 17 #[.int .i64 b, .int .i64 i] w fun e w' => e = .returned (.bool (hasB b i)) ∧ w = w' := by
  by_cases h : slotB b i = true
  · obtain ⟨h0, h1, h2⟩ := slotB_iff.1 h
    go_enter Try.func17, Try.ntmps17
    go_wp2_with (go_at_call 32; refine (slotOk_any _ _ _).mono ?_; rintro e w' ⟨rfl, rfl⟩)
    go_ret
    refine ⟨?_, rfl⟩
    simp [hasB, hasZ, h]
  · rw [Bool.not_eq_true] at h
    go_enter Try.func17, Try.ntmps17
    go_wp2_with (go_at_call 32; refine (slotOk_any _ _ _).mono ?_; rintro e w' ⟨rfl, rfl⟩)
    go_ret
    refine ⟨?_, rfl⟩
    simp [hasB, h]
theorem pow16 (n : Nat) (h : n ≤ 16) : 1 ≤ (2 : Int) ^ n ∧ (2 : Int) ^ n ≤ 65536 := by
  have : ∀ k : Fin 17, 1 ≤ (2 : Int) ^ k.1 ∧ (2 : Int) ^ k.1 ≤ 65536 := by decide
  exact this ⟨n, by omega⟩
theorem wrap_pow {n : Int} (h2 : n ≤ 16) : wrap64 (2 ^ n.toNat) = 2 ^ n.toNat := by
  have := pow16 n.toNat (by omega)
  exact IntWalk.wrap64_in _ ⟨by omega, by omega⟩
theorem wrap_pow1 {n : Int} (h2 : n ≤ 16) : wrap64 (2 ^ n.toNat - 1) = 2 ^ n.toNat - 1 := by
  have := pow16 n.toNat (by omega)
  exact IntWalk.wrap64_in _ ⟨by omega, by omega⟩
def bmOkB (n b : Int) : Bool := btw n 1 16 && btw b 0 (2 ^ n.toNat - 1)
theorem bitmapOk_any (n b : Int) (w : World) :
    Calls Try.prog 19 #[.int .i64 n, .int .i64 b] w fun e w' => e = .returned (.bool (bmOkB n b)) ∧ w = w' := by
  by_cases h : btw n 1 16 = true
  · obtain ⟨h1, h2⟩ := btw_iff.1 h
    go_enter Try.func19, Try.ntmps19
    go_wp2_with (go_at_call 33; refine (between_any _ _ _ _).mono ?_; rintro e w' ⟨rfl, rfl⟩)
    go_ret
    refine ⟨?_, rfl⟩
    simp [bmOkB, h, wrap_pow h2, wrap_pow1 h2]
  · rw [Bool.not_eq_true] at h
    go_enter Try.func19, Try.ntmps19
    go_wp2_with (go_at_call 33; refine (between_any _ _ _ _).mono ?_; rintro e w' ⟨rfl, rfl⟩)
    go_ret
    refine ⟨?_, rfl⟩
    simp [bmOkB, h]
def withZ (b i : Int) : Int := if slotB b i then bits BinOp.or IntKind.i64 b (2 ^ i.toNat) else b
def withoutZ (b i : Int) : Int := if slotB b i then bits BinOp.andNot IntKind.i64 b (2 ^ i.toNat) else b
theorem withSlot_any (b i : Int) (w : World) :
    Calls Try.prog 15 #[.int .i64 b, .int .i64 i] w fun e w' => e = .returned (.int .i64 (withZ b i)) ∧ w = w' := by
  by_cases h : slotB b i = true
  · obtain ⟨h0, h1, h2⟩ := slotB_iff.1 h
    go_enter Try.func15, Try.ntmps15
    go_wp2_with (go_at_call 32; refine (slotOk_any _ _ _).mono ?_; rintro e w' ⟨rfl, rfl⟩)
    go_ret
    refine ⟨?_, rfl⟩
    simp [withZ, h, wrap_pow (show i ≤ 16 by omega)]
  · rw [Bool.not_eq_true] at h
    go_enter Try.func15, Try.ntmps15
    go_wp2_with (go_at_call 32; refine (slotOk_any _ _ _).mono ?_; rintro e w' ⟨rfl, rfl⟩)
    go_ret
    refine ⟨?_, rfl⟩
    simp [withZ, h]
theorem withoutSlot_any (b i : Int) (w : World) :
    Calls Try.prog 16 #[.int .i64 b, .int .i64 i] w fun e w' => e = .returned (.int .i64 (withoutZ b i)) ∧ w = w' := by
  by_cases h : slotB b i = true
  · obtain ⟨h0, h1, h2⟩ := slotB_iff.1 h
    go_enter Try.func16, Try.ntmps16
    go_wp2_with (go_at_call 32; refine (slotOk_any _ _ _).mono ?_; rintro e w' ⟨rfl, rfl⟩)
    go_ret
    refine ⟨?_, rfl⟩
    simp [withoutZ, h, wrap_pow (show i ≤ 16 by omega)]
  · rw [Bool.not_eq_true] at h
    go_enter Try.func16, Try.ntmps16
    go_wp2_with (go_at_call 32; refine (slotOk_any _ _ _).mono ?_; rintro e w' ⟨rfl, rfl⟩)
    go_ret
    refine ⟨?_, rfl⟩
    simp [withoutZ, h]
def cntTo (b : Int) : Nat → Int
  | 0 => 0
  | k + 1 => cntTo b k + if hasB b k then 1 else 0
theorem cntTo_bd (b : Int) (k : Nat) : 0 ≤ cntTo b k ∧ cntTo b k ≤ k := by
  induction k with
  | zero => simp [cntTo]
  | succ k ih => unfold cntTo; split <;> omega
theorem countSlots_any (b : Int) (w : World) :
    Calls Try.prog 18 #[.int .i64 b] w fun e w' => e = .returned (.int .i64 (cntTo b 16)) ∧ w = w' := by
  go_enter Try.func18, Try.ntmps18
  go_wp2_with fail
  go_loop [3, 4] (fun n i => ∃ k : Nat, k ≤ 16 ∧ i = .int .i64 k ∧ n = .int .i64 (cntTo b k)) (fun _ i => 16 - (intOf i).toNat)
  case atStart => exact ⟨0, Nat.zero_le _, rfl, rfl⟩
  case round =>
    obtain ⟨k, hk, rfl, rfl⟩ := hrel
    have hd := cntTo_bd b k
    by_cases hlt : k < 16
    · cases hb : hasB b k
      · have HS : Hid (cntTo b (k + 1) = cntTo b k) := Lib.hid (by simp [cntTo, hb])
        go_wp2_with (go_at_call 17; refine (hasSlot_any _ _ _).mono ?_; rintro e w' ⟨rfl, rfl⟩)
        go_round
        case rel => exact ⟨k + 1, by omega, by go_num, by rw [HS.out]⟩
        case measure => simp [intOf]; omega
      · have HS : Hid (cntTo b (k + 1) = cntTo b k + 1) := Lib.hid (by simp [cntTo, hb])
        go_wp2_with (go_at_call 17; refine (hasSlot_any _ _ _).mono ?_; rintro e w' ⟨rfl, rfl⟩)
        go_round
        case rel => exact ⟨k + 1, by omega, by go_num, by rw [HS.out]⟩
        case measure => simp [intOf]; omega
    · obtain rfl : k = 16 := by omega
      go_wp2_with fail
      go_ret
      exact ⟨rfl, rfl⟩
/-! ## Seeds -/
def nextZ (s : Int) : Int := if btw s 0 1073741823 then (1103515245 * s + 12345) % 1073741824 else 0
def chooseZ (s n : Int) : Int := if btw s 0 1073741823 && btw n 1 1000 then nextZ s / 1024 % n else 0
def chooseS (s n : Int) : Int := if btw s 0 1073741823 && btw n 1 1000 then nextZ s else s
theorem nextZ_bd (s : Int) : 0 ≤ nextZ s ∧ nextZ s ≤ 1073741823 := by unfold nextZ; split <;> omega
theorem seedOk_any (s : Int) (w : World) :
    Calls Try.prog 36 #[.int .i64 s] w fun e w' => e = .returned (.bool (btw s 0 1073741823)) ∧ w = w' := by
  go_enter Try.func36, Try.ntmps36
  go_wp2_with (first | (go_at_call 33; refine (between_any _ _ _ _).mono ?_; rintro e w' ⟨rfl, rfl⟩))
  go_ret
  exact ⟨rfl, rfl⟩
theorem nextSeed_any (s : Int) (w : World) :
    Calls Try.prog 42 #[.int .i64 s] w fun e w' => e = .returned (.int .i64 (nextZ s)) ∧ w = w' := by
  by_cases h : btw s 0 1073741823 = true
  · obtain ⟨h1, h2⟩ := btw_iff.1 h
    go_enter Try.func42, Try.ntmps42
    go_wp2_with (first | (go_at_call 36; refine (seedOk_any _ _).mono ?_; rintro e w' ⟨rfl, rfl⟩))
    go_ret
    refine ⟨?_, rfl⟩
    simp [nextZ, h]
  · rw [Bool.not_eq_true] at h
    go_enter Try.func42, Try.ntmps42
    go_wp2_with (first | (go_at_call 36; refine (seedOk_any _ _).mono ?_; rintro e w' ⟨rfl, rfl⟩))
    go_ret
    refine ⟨?_, rfl⟩
    simp [nextZ, h]
theorem nextSeed_spec (s : Int) (w : World) :
    Calls Try.prog 41 #[.int .i64 s] w fun e w' => e = .returned (.int .i64 (nextZ s)) ∧ w = w' := by
  by_cases h : btw s 0 1073741823 = true
  · obtain ⟨h1, h2⟩ := btw_iff.1 h
    go_enter Try.func41, Try.ntmps41
    go_wp2_with (first | (go_at_call 34; refine (l01In_any _ _ _ _).mono ?_; rintro e w' ⟨rfl, rfl⟩))
    go_ret
    refine ⟨?_, rfl⟩
    simp [nextZ, h]
  · rw [Bool.not_eq_true] at h
    go_enter Try.func41, Try.ntmps41
    go_wp2_with (first | (go_at_call 34; refine (l01In_any _ _ _ _).mono ?_; rintro e w' ⟨rfl, rfl⟩))
    go_ret
    refine ⟨?_, rfl⟩
    simp [nextZ, h]
theorem choose_any (s : Int) (n : Int) (w : World) :
    Calls Try.prog 37 #[.int .i64 s, .int .i64 n] w fun e w' => e = .returned (.tuple #[.int .i64 (chooseZ s n), .int .i64 (chooseS s n)]) ∧ w = w' := by
  have hb := nextZ_bd s
  by_cases h : btw s 0 1073741823 = true
  · by_cases g : btw n 1 1000 = true
    · obtain ⟨g1, g2⟩ := btw_iff.1 g
      go_enter Try.func37, Try.ntmps37
      go_wp2_with (first | (go_at_call 36; refine (seedOk_any _ _).mono ?_; rintro e w' ⟨rfl, rfl⟩) | (go_at_call 33; refine (between_any _ _ _ _).mono ?_; rintro e w' ⟨rfl, rfl⟩) | (go_at_call 42; refine (nextSeed_any _ _).mono ?_; rintro e w' ⟨rfl, rfl⟩))
      go_ret2
      refine ⟨?_, rfl⟩
      simp [chooseZ, chooseS, h, g]
    · rw [Bool.not_eq_true] at g
      go_enter Try.func37, Try.ntmps37
      go_wp2_with (first | (go_at_call 36; refine (seedOk_any _ _).mono ?_; rintro e w' ⟨rfl, rfl⟩) | (go_at_call 33; refine (between_any _ _ _ _).mono ?_; rintro e w' ⟨rfl, rfl⟩) | (go_at_call 42; refine (nextSeed_any _ _).mono ?_; rintro e w' ⟨rfl, rfl⟩))
      go_ret2
      refine ⟨?_, rfl⟩
      simp [chooseZ, chooseS, h, g]
  · rw [Bool.not_eq_true] at h
    by_cases g : btw n 1 1000 = true
    · skip
      go_enter Try.func37, Try.ntmps37
      go_wp2_with (first | (go_at_call 36; refine (seedOk_any _ _).mono ?_; rintro e w' ⟨rfl, rfl⟩) | (go_at_call 33; refine (between_any _ _ _ _).mono ?_; rintro e w' ⟨rfl, rfl⟩) | (go_at_call 42; refine (nextSeed_any _ _).mono ?_; rintro e w' ⟨rfl, rfl⟩))
      go_ret2
      refine ⟨?_, rfl⟩
      simp [chooseZ, chooseS, h, g]
    · rw [Bool.not_eq_true] at g
      go_enter Try.func37, Try.ntmps37
      go_wp2_with (first | (go_at_call 36; refine (seedOk_any _ _).mono ?_; rintro e w' ⟨rfl, rfl⟩) | (go_at_call 33; refine (between_any _ _ _ _).mono ?_; rintro e w' ⟨rfl, rfl⟩) | (go_at_call 42; refine (nextSeed_any _ _).mono ?_; rintro e w' ⟨rfl, rfl⟩))
      go_ret2
      refine ⟨?_, rfl⟩
      simp [chooseZ, chooseS, h, g]
theorem choose_spec (s : Int) (n : Int) (w : World) :
    Calls Try.prog 35 #[.int .i64 s, .int .i64 n] w fun e w' => e = .returned (.tuple #[.int .i64 (chooseZ s n), .int .i64 (chooseS s n)]) ∧ w = w' := by
  have hb := nextZ_bd s
  by_cases h : btw s 0 1073741823 = true
  · by_cases g : btw n 1 1000 = true
    · obtain ⟨g1, g2⟩ := btw_iff.1 g
      go_enter Try.func35, Try.ntmps35
      go_wp2_with (first | (go_at_call 34; refine (l01In_any _ _ _ _).mono ?_; rintro e w' ⟨rfl, rfl⟩) | (go_at_call 41; refine (nextSeed_spec _ _).mono ?_; rintro e w' ⟨rfl, rfl⟩))
      go_ret2
      refine ⟨?_, rfl⟩
      simp [chooseZ, chooseS, h, g]
    · rw [Bool.not_eq_true] at g
      go_enter Try.func35, Try.ntmps35
      go_wp2_with (first | (go_at_call 34; refine (l01In_any _ _ _ _).mono ?_; rintro e w' ⟨rfl, rfl⟩) | (go_at_call 41; refine (nextSeed_spec _ _).mono ?_; rintro e w' ⟨rfl, rfl⟩))
      go_ret2
      refine ⟨?_, rfl⟩
      simp [chooseZ, chooseS, h, g]
  · rw [Bool.not_eq_true] at h
    by_cases g : btw n 1 1000 = true
    · skip
      go_enter Try.func35, Try.ntmps35
      go_wp2_with (first | (go_at_call 34; refine (l01In_any _ _ _ _).mono ?_; rintro e w' ⟨rfl, rfl⟩) | (go_at_call 41; refine (nextSeed_spec _ _).mono ?_; rintro e w' ⟨rfl, rfl⟩))
      go_ret2
      refine ⟨?_, rfl⟩
      simp [chooseZ, chooseS, h, g]
    · rw [Bool.not_eq_true] at g
      go_enter Try.func35, Try.ntmps35
      go_wp2_with (first | (go_at_call 34; refine (l01In_any _ _ _ _).mono ?_; rintro e w' ⟨rfl, rfl⟩) | (go_at_call 41; refine (nextSeed_spec _ _).mono ?_; rintro e w' ⟨rfl, rfl⟩))
      go_ret2
      refine ⟨?_, rfl⟩
      simp [chooseZ, chooseS, h, g]
/-! ## Classes -/
def sizeZ (c : Int) : Int := if btw c 0 3 then 2 ^ c.toNat else 0
def slotsZ (c : Int) : Int := if btw c 0 3 then 16 / 2 ^ c.toNat else 0
def classZ (s : Int) : Int := if btw s 1 8 then (if s ≤ 1 then 0 else if s ≤ 2 then 1 else if s ≤ 4 then 2 else 3) else -1
def pagesZ (s : Int) : Int := if btw s 9 1000 then (s + 15) / 16 else 0
def clampZ (n lo hi : Int) : Int := if n < lo ∨ hi < lo then lo else if hi < n then hi else n
theorem four {c : Int} (h : btw c 0 3 = true) : c = 0 ∨ c = 1 ∨ c = 2 ∨ c = 3 := by have := btw_iff.1 h; omega
theorem eight {c : Int} (h : btw c 1 8 = true) : c = 1 ∨ c = 2 ∨ c = 3 ∨ c = 4 ∨ c = 5 ∨ c = 6 ∨ c = 7 ∨ c = 8 := by have := btw_iff.1 h; omega
def wasteZ (s : Int) : Int := if btw s 1 8 then sizeZ (classZ s) - s else 0
theorem classZ_in {s : Int} (h : btw s 1 8 = true) : 0 ≤ classZ s ∧ classZ s ≤ 3 := by
  unfold classZ; rw [if_pos h]; (repeat' split) <;> omega
theorem classZ_out {s : Int} (h : btw s 1 8 = false) : classZ s = -1 := by unfold classZ; rw [if_neg (by simp [h])]
theorem sizeZ_bd (c : Int) : 0 ≤ sizeZ c ∧ sizeZ c ≤ 8 := by
  unfold sizeZ
  split
  · rename_i h; rcases four h with rfl | rfl | rfl | rfl <;> decide
  · omega
end Go.Proofs.Ytpbcaaoohcgalab
