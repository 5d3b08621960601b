/- Contracts of the small functions on numbers (ranges, bitmaps, seeds, classes): each returns what a plain Lean function of its arguments says, for all arguments, and leaves memory alone. -/
import Derived.Test.YtpbcaaoohcgalaaRows
import Derived.WalkKit
import Derived.ProofKit
import Derived.OpenShut
import Derived.Lib.Hide
namespace Go.Proofs.Ytpbcaaoohcgalaa
open Go.ChangeShapes Go.WideShapes Go.ChangeAt Go.RowKit

theorem ret_int {k : IntKind} {a b : Int} (h : a = b) : Ending.returned (.int k a) = .returned (.int k b) := by rw [h]
theorem ret_bool {a b : Bool} (h : a = b) : Ending.returned (.bool a) = .returned (.bool b) := by rw [h]
def btw (n lo hi : Int) : Bool := decide (lo ≤ n) && decide (n ≤ hi)
theorem btw_true {n lo hi : Int} (h1 : lo ≤ n) (h2 : n ≤ hi) : btw n lo hi = true := by simp [btw, h1, h2]
theorem btw_false {n lo hi : Int} (h : n < lo ∨ hi < n) : btw n lo hi = false := by
  unfold btw
  rcases h with h | h
  · simp; omega
  · simp; omega
theorem btw_iff {n lo hi : Int} : btw n lo hi = true ↔ lo ≤ n ∧ n ≤ hi := by simp [btw]
theorem between_any (n lo hi : Int) (w : World) :
    Calls Try.prog 47 #[.int .i64 n, .int .i64 lo, .int .i64 hi] w fun e w' => e = .returned (.bool (btw n lo hi)) ∧ w = w' := by
  by_cases h1 : lo ≤ n
  · go_enter Try.func47, Try.ntmps47
    go_wp2
    go_ret
    refine ⟨?_, rfl⟩
    simp [btw, h1]
  · go_enter Try.func47, Try.ntmps47
    go_wp2
    go_ret
    refine ⟨?_, rfl⟩
    simp [btw]
    omega
theorem l01In_any (n lo hi : Int) (w : World) :
    Calls Try.prog 44 #[.int .i64 n, .int .i64 lo, .int .i64 hi] w fun e w' => e = .returned (.bool (btw n lo hi)) ∧ w = w' := by
  by_cases h1 : lo ≤ n
  · go_enter Try.func44, Try.ntmps44
    go_wp2
    go_ret
    refine ⟨?_, rfl⟩
    simp [btw, h1]
  · go_enter Try.func44, Try.ntmps44
    go_wp2
    go_ret
    refine ⟨?_, rfl⟩
    simp [btw]
    omega

/-! ## Bitmaps -/
def slotB (b i : Int) : Bool := decide (0 ≤ b) && btw i 0 15
theorem slotB_true {b i : Int} (h0 : 0 ≤ b) (h1 : 0 ≤ i) (h2 : i ≤ 15) : slotB b i = true := by simp [slotB, h0, btw_true h1 h2]
theorem slotB_iff {b i : Int} : slotB b i = true ↔ 0 ≤ b ∧ 0 ≤ i ∧ i ≤ 15 := by simp [slotB, btw]
theorem slotOk_any (b i : Int) (w : World) :
    Calls Try.prog 63 #[.int .i64 b, .int .i64 i] w fun e w' => e = .returned (.bool (slotB b i)) ∧ w = w' := by
  by_cases h : 0 ≤ b
  all_goals
    go_enter Try.func63, Try.ntmps63
    go_wp2_with (go_at_call 47; refine (between_any _ _ _ _).mono ?_; rintro e w' ⟨rfl, rfl⟩)
    go_ret
    refine ⟨?_, rfl⟩
    simp [slotB]
    first | (intro hh; omega) | (simp [h])
theorem l02Bit_any (b i : Int) (w : World) :
    Calls Try.prog 62 #[.int .i64 b, .int .i64 i] w fun e w' => e = .returned (.bool (slotB b i)) ∧ w = w' := by
  by_cases h : 0 ≤ b
  all_goals
    go_enter Try.func62, Try.ntmps62
    go_wp2_with (go_at_call 44; refine (l01In_any _ _ _ _).mono ?_; rintro e w' ⟨rfl, rfl⟩)
    go_ret
    refine ⟨?_, rfl⟩
    simp [slotB]
    first | (intro hh; omega) | (simp [h])
def hasZ (b i : Int) : Bool := bits BinOp.and IntKind.i64 (b / 2 ^ i.toNat) 1 == 1
def hasB (b i : Int) : Bool := slotB b i && hasZ b i
theorem hasSlot_any (b i : Int) (w : World) :
    Calls Try.prog 51 #[.int .i64 b, .int .i64 i] w fun e w' => e = .returned (.bool (hasB b i)) ∧ w = w' := by
  by_cases h : slotB b i = true
  · obtain ⟨h0, h1, h2⟩ := slotB_iff.1 h
    go_enter Try.func51, Try.ntmps51
    go_wp2_with (go_at_call 63; refine (slotOk_any _ _ _).mono ?_; rintro e w' ⟨rfl, rfl⟩)
    go_ret
    refine ⟨?_, rfl⟩
    simp [hasB, hasZ, h]
  · rw [Bool.not_eq_true] at h
    go_enter Try.func51, Try.ntmps51
    go_wp2_with (go_at_call 63; refine (slotOk_any _ _ _).mono ?_; rintro e w' ⟨rfl, rfl⟩)
    go_ret
    refine ⟨?_, rfl⟩
    simp [hasB, h]
theorem hasSlot_spec (b i : Int) (w : World) :
    Calls Try.prog 49 #[.int .i64 b, .int .i64 i] w fun e w' => e = .returned (.bool (hasB b i)) ∧ w = w' := by
  by_cases h : slotB b i = true
  · obtain ⟨h0, h1, h2⟩ := slotB_iff.1 h
    go_enter Try.func49, Try.ntmps49
    go_wp2_with (go_at_call 62; refine (l02Bit_any _ _ _).mono ?_; rintro e w' ⟨rfl, rfl⟩)
    go_ret
    refine ⟨?_, rfl⟩
    simp [hasB, hasZ, h]
  · rw [Bool.not_eq_true] at h
    go_enter Try.func49, Try.ntmps49
    go_wp2_with (go_at_call 62; refine (l02Bit_any _ _ _).mono ?_; rintro e w' ⟨rfl, rfl⟩)
    go_ret
    refine ⟨?_, rfl⟩
    simp [hasB, h]
theorem pow16 (n : Nat) (h : n ≤ 16) : 1 ≤ (2 : Int) ^ n ∧ (2 : Int) ^ n ≤ 65536 := by
  have : ∀ k : Fin 17, 1 ≤ (2 : Int) ^ k.1 ∧ (2 : Int) ^ k.1 ≤ 65536 := by decide
  exact this ⟨n, by omega⟩
theorem wrap_pow {n : Int} (h2 : n ≤ 16) : wrap64 (2 ^ n.toNat) = 2 ^ n.toNat := by
  have := pow16 n.toNat (by omega)
  exact IntWalk.wrap64_in _ ⟨by omega, by omega⟩
theorem wrap_pow1 {n : Int} (h2 : n ≤ 16) : wrap64 (2 ^ n.toNat - 1) = 2 ^ n.toNat - 1 := by
  have := pow16 n.toNat (by omega)
  exact IntWalk.wrap64_in _ ⟨by omega, by omega⟩
def bmOkB (n b : Int) : Bool := btw n 1 16 && btw b 0 (2 ^ n.toNat - 1)
theorem bitmapOk_any (n b : Int) (w : World) :
    Calls Try.prog 50 #[.int .i64 n, .int .i64 b] w fun e w' => e = .returned (.bool (bmOkB n b)) ∧ w = w' := by
  by_cases h : btw n 1 16 = true
  · obtain ⟨h1, h2⟩ := btw_iff.1 h
    go_enter Try.func50, Try.ntmps50
    go_wp2_with (go_at_call 47; refine (between_any _ _ _ _).mono ?_; rintro e w' ⟨rfl, rfl⟩)
    go_ret
    refine ⟨?_, rfl⟩
    simp [bmOkB, h, wrap_pow h2, wrap_pow1 h2]
  · rw [Bool.not_eq_true] at h
    go_enter Try.func50, Try.ntmps50
    go_wp2_with (go_at_call 47; refine (between_any _ _ _ _).mono ?_; rintro e w' ⟨rfl, rfl⟩)
    go_ret
    refine ⟨?_, rfl⟩
    simp [bmOkB, h]
theorem bitmapOk_spec (n b : Int) (w : World) :
    Calls Try.prog 48 #[.int .i64 n, .int .i64 b] w fun e w' => e = .returned (.bool (bmOkB n b)) ∧ w = w' := by
  by_cases h : btw n 1 16 = true
  · obtain ⟨h1, h2⟩ := btw_iff.1 h
    go_enter Try.func48, Try.ntmps48
    go_wp2_with (go_at_call 44; refine (l01In_any _ _ _ _).mono ?_; rintro e w' ⟨rfl, rfl⟩)
    go_ret
    refine ⟨?_, rfl⟩
    simp [bmOkB, h, wrap_pow h2, wrap_pow1 h2]
  · rw [Bool.not_eq_true] at h
    go_enter Try.func48, Try.ntmps48
    go_wp2_with (go_at_call 44; refine (l01In_any _ _ _ _).mono ?_; rintro e w' ⟨rfl, rfl⟩)
    go_ret
    refine ⟨?_, rfl⟩
    simp [bmOkB, h]
def withZ (b i : Int) : Int := if slotB b i then bits BinOp.or IntKind.i64 b (2 ^ i.toNat) else b
def withoutZ (b i : Int) : Int := if slotB b i then bits BinOp.andNot IntKind.i64 b (2 ^ i.toNat) else b
def cntTo (b : Int) : Nat → Int
  | 0 => 0
  | k + 1 => cntTo b k + if hasB b k then 1 else 0
theorem cntTo_bd (b : Int) (k : Nat) : 0 ≤ cntTo b k ∧ cntTo b k ≤ k := by
  induction k with
  | zero => simp [cntTo]
  | succ k ih => unfold cntTo; split <;> omega
/-! ## Seeds -/
def nextZ (s : Int) : Int := if btw s 0 1073741823 then (1103515245 * s + 12345) % 1073741824 else 0
def chooseZ (s n : Int) : Int := if btw s 0 1073741823 && btw n 1 1000 then nextZ s / 1024 % n else 0
def chooseS (s n : Int) : Int := if btw s 0 1073741823 && btw n 1 1000 then nextZ s else s
theorem nextZ_bd (s : Int) : 0 ≤ nextZ s ∧ nextZ s ≤ 1073741823 := by unfold nextZ; split <;> omega
theorem seedOk_any (s : Int) (w : World) :
    Calls Try.prog 46 #[.int .i64 s] w fun e w' => e = .returned (.bool (btw s 0 1073741823)) ∧ w = w' := by
  go_enter Try.func46, Try.ntmps46
  go_wp2_with (first | (go_at_call 47; refine (between_any _ _ _ _).mono ?_; rintro e w' ⟨rfl, rfl⟩))
  go_ret
  exact ⟨rfl, rfl⟩
theorem nextSeed_any (s : Int) (w : World) :
    Calls Try.prog 29 #[.int .i64 s] w fun e w' => e = .returned (.int .i64 (nextZ s)) ∧ w = w' := by
  by_cases h : btw s 0 1073741823 = true
  · obtain ⟨h1, h2⟩ := btw_iff.1 h
    go_enter Try.func29, Try.ntmps29
    go_wp2_with (first | (go_at_call 46; refine (seedOk_any _ _).mono ?_; rintro e w' ⟨rfl, rfl⟩))
    go_ret
    refine ⟨?_, rfl⟩
    simp [nextZ, h]
  · rw [Bool.not_eq_true] at h
    go_enter Try.func29, Try.ntmps29
    go_wp2_with (first | (go_at_call 46; refine (seedOk_any _ _).mono ?_; rintro e w' ⟨rfl, rfl⟩))
    go_ret
    refine ⟨?_, rfl⟩
    simp [nextZ, h]
theorem nextSeed_spec (s : Int) (w : World) :
    Calls Try.prog 45 #[.int .i64 s] w fun e w' => e = .returned (.int .i64 (nextZ s)) ∧ w = w' := by
  by_cases h : btw s 0 1073741823 = true
  · obtain ⟨h1, h2⟩ := btw_iff.1 h
    go_enter Try.func45, Try.ntmps45
    go_wp2_with (first | (go_at_call 44; refine (l01In_any _ _ _ _).mono ?_; rintro e w' ⟨rfl, rfl⟩))
    go_ret
    refine ⟨?_, rfl⟩
    simp [nextZ, h]
  · rw [Bool.not_eq_true] at h
    go_enter Try.func45, Try.ntmps45
    go_wp2_with (first | (go_at_call 44; refine (l01In_any _ _ _ _).mono ?_; rintro e w' ⟨rfl, rfl⟩))
    go_ret
    refine ⟨?_, rfl⟩
    simp [nextZ, h]
theorem choose_any (s : Int) (n : Int) (w : World) :
    Calls Try.prog 18 #[.int .i64 s, .int .i64 n] w fun e w' => e = .returned (.tuple #[.int .i64 (chooseZ s n), .int .i64 (chooseS s n)]) ∧ w = w' := by
  have hb := nextZ_bd s
  by_cases h : btw s 0 1073741823 = true
  · by_cases g : btw n 1 1000 = true
    · obtain ⟨g1, g2⟩ := btw_iff.1 g
      go_enter Try.func18, Try.ntmps18
      go_wp2_with (first | (go_at_call 46; refine (seedOk_any _ _).mono ?_; rintro e w' ⟨rfl, rfl⟩) | (go_at_call 47; refine (between_any _ _ _ _).mono ?_; rintro e w' ⟨rfl, rfl⟩) | (go_at_call 29; refine (nextSeed_any _ _).mono ?_; rintro e w' ⟨rfl, rfl⟩))
      go_ret2
      refine ⟨?_, rfl⟩
      simp [chooseZ, chooseS, h, g]
    · rw [Bool.not_eq_true] at g
      go_enter Try.func18, Try.ntmps18
      go_wp2_with (first | (go_at_call 46; refine (seedOk_any _ _).mono ?_; rintro e w' ⟨rfl, rfl⟩) | (go_at_call 47; refine (between_any _ _ _ _).mono ?_; rintro e w' ⟨rfl, rfl⟩) | (go_at_call 29; refine (nextSeed_any _ _).mono ?_; rintro e w' ⟨rfl, rfl⟩))
      go_ret2
      refine ⟨?_, rfl⟩
      simp [chooseZ, chooseS, h, g]
  · rw [Bool.not_eq_true] at h
    by_cases g : btw n 1 1000 = true
    · skip
      go_enter Try.func18, Try.ntmps18
      go_wp2_with (first | (go_at_call 46; refine (seedOk_any _ _).mono ?_; rintro e w' ⟨rfl, rfl⟩) | (go_at_call 47; refine (between_any _ _ _ _).mono ?_; rintro e w' ⟨rfl, rfl⟩) | (go_at_call 29; refine (nextSeed_any _ _).mono ?_; rintro e w' ⟨rfl, rfl⟩))
      go_ret2
      refine ⟨?_, rfl⟩
      simp [chooseZ, chooseS, h, g]
    · rw [Bool.not_eq_true] at g
      go_enter Try.func18, Try.ntmps18
      go_wp2_with (first | (go_at_call 46; refine (seedOk_any _ _).mono ?_; rintro e w' ⟨rfl, rfl⟩) | (go_at_call 47; refine (between_any _ _ _ _).mono ?_; rintro e w' ⟨rfl, rfl⟩) | (go_at_call 29; refine (nextSeed_any _ _).mono ?_; rintro e w' ⟨rfl, rfl⟩))
      go_ret2
      refine ⟨?_, rfl⟩
      simp [chooseZ, chooseS, h, g]
theorem choose_spec (s : Int) (n : Int) (w : World) :
    Calls Try.prog 17 #[.int .i64 s, .int .i64 n] w fun e w' => e = .returned (.tuple #[.int .i64 (chooseZ s n), .int .i64 (chooseS s n)]) ∧ w = w' := by
  have hb := nextZ_bd s
  by_cases h : btw s 0 1073741823 = true
  · by_cases g : btw n 1 1000 = true
    · obtain ⟨g1, g2⟩ := btw_iff.1 g
      go_enter Try.func17, Try.ntmps17
      go_wp2_with (first | (go_at_call 44; refine (l01In_any _ _ _ _).mono ?_; rintro e w' ⟨rfl, rfl⟩) | (go_at_call 45; refine (nextSeed_spec _ _).mono ?_; rintro e w' ⟨rfl, rfl⟩))
      go_ret2
      refine ⟨?_, rfl⟩
      simp [chooseZ, chooseS, h, g]
    · rw [Bool.not_eq_true] at g
      go_enter Try.func17, Try.ntmps17
      go_wp2_with (first | (go_at_call 44; refine (l01In_any _ _ _ _).mono ?_; rintro e w' ⟨rfl, rfl⟩) | (go_at_call 45; refine (nextSeed_spec _ _).mono ?_; rintro e w' ⟨rfl, rfl⟩))
      go_ret2
      refine ⟨?_, rfl⟩
      simp [chooseZ, chooseS, h, g]
  · rw [Bool.not_eq_true] at h
    by_cases g : btw n 1 1000 = true
    · skip
      go_enter Try.func17, Try.ntmps17
      go_wp2_with (first | (go_at_call 44; refine (l01In_any _ _ _ _).mono ?_; rintro e w' ⟨rfl, rfl⟩) | (go_at_call 45; refine (nextSeed_spec _ _).mono ?_; rintro e w' ⟨rfl, rfl⟩))
      go_ret2
      refine ⟨?_, rfl⟩
      simp [chooseZ, chooseS, h, g]
    · rw [Bool.not_eq_true] at g
      go_enter Try.func17, Try.ntmps17
      go_wp2_with (first | (go_at_call 44; refine (l01In_any _ _ _ _).mono ?_; rintro e w' ⟨rfl, rfl⟩) | (go_at_call 45; refine (nextSeed_spec _ _).mono ?_; rintro e w' ⟨rfl, rfl⟩))
      go_ret2
      refine ⟨?_, rfl⟩
      simp [chooseZ, chooseS, h, g]
/-! ## Classes -/
def sizeZ (c : Int) : Int := if btw c 0 3 then 2 ^ c.toNat else 0
def slotsZ (c : Int) : Int := if btw c 0 3 then 16 / 2 ^ c.toNat else 0
def classZ (s : Int) : Int := if btw s 1 8 then (if s ≤ 1 then 0 else if s ≤ 2 then 1 else if s ≤ 4 then 2 else 3) else -1
def pagesZ (s : Int) : Int := if btw s 9 1000 then (s + 15) / 16 else 0
def clampZ (n lo hi : Int) : Int := if n < lo ∨ hi < lo then lo else if hi < n then hi else n
theorem four {c : Int} (h : btw c 0 3 = true) : c = 0 ∨ c = 1 ∨ c = 2 ∨ c = 3 := by have := btw_iff.1 h; omega
theorem eight {c : Int} (h : btw c 1 8 = true) : c = 1 ∨ c = 2 ∨ c = 3 ∨ c = 4 ∨ c = 5 ∨ c = 6 ∨ c = 7 ∨ c = 8 := by have := btw_iff.1 h; omega
theorem classOk_any (c : Int) (w : World) :
    Calls Try.prog 61 #[.int .i64 c] w fun e w' => e = .returned (.bool (btw c 0 3)) ∧ w = w' := by
  go_enter Try.func61, Try.ntmps61
  go_wp2_with (first | (go_at_call 47; refine (between_any _ _ _ _).mono ?_; rintro e w' ⟨rfl, rfl⟩))
  go_ret
  exact ⟨rfl, rfl⟩
theorem classSize_any (c : Int) (w : World) :
    Calls Try.prog 39 #[.int .i64 c] w fun e w' => e = .returned (.int .i64 (sizeZ c)) ∧ w = w' := by
  by_cases h : btw c 0 3 = true
  · rcases four h with rfl | rfl | rfl | rfl
    all_goals
      go_enter Try.func39, Try.ntmps39
      go_wp2_with (first | (go_at_call 61; refine (classOk_any _ _).mono ?_; rintro e w' ⟨rfl, rfl⟩))
      go_ret
      refine ⟨?_, rfl⟩
      simp [sizeZ, h]
  · rw [Bool.not_eq_true] at h
    go_enter Try.func39, Try.ntmps39
    go_wp2_with (first | (go_at_call 61; refine (classOk_any _ _).mono ?_; rintro e w' ⟨rfl, rfl⟩))
    go_ret
    refine ⟨?_, rfl⟩
    simp [sizeZ, h]
theorem classSize_spec (c : Int) (w : World) :
    Calls Try.prog 55 #[.int .i64 c] w fun e w' => e = .returned (.int .i64 (sizeZ c)) ∧ w = w' := by
  by_cases h : btw c 0 3 = true
  · rcases four h with rfl | rfl | rfl | rfl
    all_goals
      go_enter Try.func55, Try.ntmps55
      go_wp2_with (first | (go_at_call 44; refine (l01In_any _ _ _ _).mono ?_; rintro e w' ⟨rfl, rfl⟩))
      go_ret
      refine ⟨?_, rfl⟩
      simp [sizeZ, h]
  · rw [Bool.not_eq_true] at h
    go_enter Try.func55, Try.ntmps55
    go_wp2_with (first | (go_at_call 44; refine (l01In_any _ _ _ _).mono ?_; rintro e w' ⟨rfl, rfl⟩))
    go_ret
    refine ⟨?_, rfl⟩
    simp [sizeZ, h]
theorem slotsOf_any (c : Int) (w : World) :
    Calls Try.prog 40 #[.int .i64 c] w fun e w' => e = .returned (.int .i64 (slotsZ c)) ∧ w = w' := by
  by_cases h : btw c 0 3 = true
  · rcases four h with rfl | rfl | rfl | rfl
    all_goals
      have e1 : sizeZ 0 = 1 := rfl
      have e2 : sizeZ 1 = 2 := rfl
      have e3 : sizeZ 2 = 4 := rfl
      have e4 : sizeZ 3 = 8 := rfl
      go_enter Try.func40, Try.ntmps40
      go_wp2_with (first | (go_at_call 61; refine (classOk_any _ _).mono ?_; rintro e w' ⟨rfl, rfl⟩) | (go_at_call 39; refine (classSize_any _ _).mono ?_; rintro e w' ⟨rfl, rfl⟩))
      go_ret
      refine ⟨?_, rfl⟩
      simp [slotsZ, h]
  · rw [Bool.not_eq_true] at h
    go_enter Try.func40, Try.ntmps40
    go_wp2_with (first | (go_at_call 61; refine (classOk_any _ _).mono ?_; rintro e w' ⟨rfl, rfl⟩) | (go_at_call 39; refine (classSize_any _ _).mono ?_; rintro e w' ⟨rfl, rfl⟩))
    go_ret
    refine ⟨?_, rfl⟩
    simp [slotsZ, h]
theorem pagesFor_any (s : Int) (w : World) :
    Calls Try.prog 37 #[.int .i64 s] w fun e w' => e = .returned (.int .i64 (pagesZ s)) ∧ w = w' := by
  by_cases h : btw s 9 1000 = true
  · obtain ⟨h1, h2⟩ := btw_iff.1 h
    go_enter Try.func37, Try.ntmps37
    go_wp2_with (first | (go_at_call 47; refine (between_any _ _ _ _).mono ?_; rintro e w' ⟨rfl, rfl⟩))
    go_ret
    refine ⟨?_, rfl⟩
    simp [pagesZ, h]
    try omega
  · rw [Bool.not_eq_true] at h
    go_enter Try.func37, Try.ntmps37
    go_wp2_with (first | (go_at_call 47; refine (between_any _ _ _ _).mono ?_; rintro e w' ⟨rfl, rfl⟩))
    go_ret
    refine ⟨?_, rfl⟩
    simp [pagesZ, h]
theorem clamp_any (n : Int) (lo : Int) (hi : Int) (w : World) :
    Calls Try.prog 31 #[.int .i64 n, .int .i64 lo, .int .i64 hi] w fun e w' => e = .returned (.int .i64 (clampZ n lo hi)) ∧ w = w' := by
  by_cases h1 : n < lo
  · have h2 : True := trivial
    have h3 : True := trivial
    by_cases hh : hi < lo
    all_goals
      go_enter Try.func31, Try.ntmps31
      go_wp2_with fail
      go_ret
      refine ⟨ret_int ?_, rfl⟩
      unfold clampZ
      (repeat' split) <;> omega
  · by_cases h2 : hi < lo
    · have h3 : True := trivial
      go_enter Try.func31, Try.ntmps31
      go_wp2_with fail
      go_ret
      refine ⟨ret_int ?_, rfl⟩
      unfold clampZ
      (repeat' split) <;> omega
    · by_cases h3 : hi < n
      all_goals
        go_enter Try.func31, Try.ntmps31
        go_wp2_with fail
        go_ret
        refine ⟨ret_int ?_, rfl⟩
        unfold clampZ
        (repeat' split) <;> omega
theorem classOf_spec (s : Int) (w : World) :
    Calls Try.prog 54 #[.int .i64 s] w fun e w' => e = .returned (.int .i64 (classZ s)) ∧ w = w' := by
  by_cases h : btw s 1 8 = true
  · obtain ⟨h1, h2⟩ := btw_iff.1 h
    go_enter Try.func54, Try.ntmps54
    go_wp2_with (first | (go_at_call 44; refine (l01In_any _ _ _ _).mono ?_; rintro e w' ⟨rfl, rfl⟩))
    go_loop [3] (fun k => (k = .int .i64 0) ∨ (k = .int .i64 1 ∧ 1 < s) ∨ (k = .int .i64 2 ∧ 2 < s) ∨ (k = .int .i64 3 ∧ 4 < s)) (fun k => 4 - (intOf k).toNat)
    case atStart => exact .inl rfl
    case round =>
      have e1 : sizeZ 0 = 1 := rfl
      have e2 : sizeZ 1 = 2 := rfl
      have e3 : sizeZ 2 = 4 := rfl
      have e4 : sizeZ 3 = 8 := rfl
      rcases hrel with rfl | ⟨rfl, hs⟩ | ⟨rfl, hs⟩ | ⟨rfl, hs⟩
      · by_cases hc : 1 < s
        · go_wp2_with (first | (go_at_call 44; refine (l01In_any _ _ _ _).mono ?_; rintro e w' ⟨rfl, rfl⟩))
          go_round
          case rel => exact .inr (.inl ⟨rfl, hc⟩)
          case measure => simp [intOf]
        · go_wp2_with (first | (go_at_call 44; refine (l01In_any _ _ _ _).mono ?_; rintro e w' ⟨rfl, rfl⟩))
          go_ret
          exact ⟨ret_int (by unfold classZ; rw [if_pos h, if_pos (by omega)]), rfl⟩
      · by_cases hc : 2 < s
        · go_wp2_with (first | (go_at_call 44; refine (l01In_any _ _ _ _).mono ?_; rintro e w' ⟨rfl, rfl⟩))
          go_round
          case rel => exact .inr (.inr (.inl ⟨rfl, hc⟩))
          case measure => simp [intOf]
        · go_wp2_with (first | (go_at_call 44; refine (l01In_any _ _ _ _).mono ?_; rintro e w' ⟨rfl, rfl⟩))
          go_ret
          exact ⟨ret_int (by unfold classZ; rw [if_pos h, if_neg (by omega), if_pos (by omega)]), rfl⟩
      · by_cases hc : 4 < s
        · go_wp2_with (first | (go_at_call 44; refine (l01In_any _ _ _ _).mono ?_; rintro e w' ⟨rfl, rfl⟩))
          go_round
          case rel => exact .inr (.inr (.inr ⟨rfl, hc⟩))
          case measure => simp [intOf]
        · go_wp2_with (first | (go_at_call 44; refine (l01In_any _ _ _ _).mono ?_; rintro e w' ⟨rfl, rfl⟩))
          go_ret
          exact ⟨ret_int (by unfold classZ; rw [if_pos h, if_neg (by omega), if_neg (by omega), if_pos (by omega)]), rfl⟩
      · go_wp2_with (first | (go_at_call 44; refine (l01In_any _ _ _ _).mono ?_; rintro e w' ⟨rfl, rfl⟩))
        go_ret
        exact ⟨ret_int (by unfold classZ; rw [if_pos h, if_neg (by omega), if_neg (by omega), if_neg (by omega)]), rfl⟩
  · rw [Bool.not_eq_true] at h
    go_enter Try.func54, Try.ntmps54
    go_wp2_with (first | (go_at_call 44; refine (l01In_any _ _ _ _).mono ?_; rintro e w' ⟨rfl, rfl⟩))
    go_ret
    refine ⟨?_, rfl⟩
    simp [classZ, h]
theorem classOf_any (s : Int) (w : World) :
    Calls Try.prog 38 #[.int .i64 s] w fun e w' => e = .returned (.int .i64 (classZ s)) ∧ w = w' := by
  by_cases h : btw s 1 8 = true
  · obtain ⟨h1, h2⟩ := btw_iff.1 h
    go_enter Try.func38, Try.ntmps38
    go_wp2_with (first | (go_at_call 47; refine (between_any _ _ _ _).mono ?_; rintro e w' ⟨rfl, rfl⟩))
    go_loop [3] (fun k => (k = .int .i64 0) ∨ (k = .int .i64 1 ∧ 1 < s) ∨ (k = .int .i64 2 ∧ 2 < s) ∨ (k = .int .i64 3 ∧ 4 < s)) (fun k => 4 - (intOf k).toNat)
    case atStart => exact .inl rfl
    case round =>
      have e1 : sizeZ 0 = 1 := rfl
      have e2 : sizeZ 1 = 2 := rfl
      have e3 : sizeZ 2 = 4 := rfl
      have e4 : sizeZ 3 = 8 := rfl
      rcases hrel with rfl | ⟨rfl, hs⟩ | ⟨rfl, hs⟩ | ⟨rfl, hs⟩
      · by_cases hc : 1 < s
        · go_wp2_with (first | (go_at_call 47; refine (between_any _ _ _ _).mono ?_; rintro e w' ⟨rfl, rfl⟩) | (go_at_call 39; refine (classSize_any _ _).mono ?_; rintro e w' ⟨rfl, rfl⟩))
          go_round
          case rel => exact .inr (.inl ⟨rfl, hc⟩)
          case measure => simp [intOf]
        · go_wp2_with (first | (go_at_call 47; refine (between_any _ _ _ _).mono ?_; rintro e w' ⟨rfl, rfl⟩) | (go_at_call 39; refine (classSize_any _ _).mono ?_; rintro e w' ⟨rfl, rfl⟩))
          go_ret
          exact ⟨ret_int (by unfold classZ; rw [if_pos h, if_pos (by omega)]), rfl⟩
      · by_cases hc : 2 < s
        · go_wp2_with (first | (go_at_call 47; refine (between_any _ _ _ _).mono ?_; rintro e w' ⟨rfl, rfl⟩) | (go_at_call 39; refine (classSize_any _ _).mono ?_; rintro e w' ⟨rfl, rfl⟩))
          go_round
          case rel => exact .inr (.inr (.inl ⟨rfl, hc⟩))
          case measure => simp [intOf]
        · go_wp2_with (first | (go_at_call 47; refine (between_any _ _ _ _).mono ?_; rintro e w' ⟨rfl, rfl⟩) | (go_at_call 39; refine (classSize_any _ _).mono ?_; rintro e w' ⟨rfl, rfl⟩))
          go_ret
          exact ⟨ret_int (by unfold classZ; rw [if_pos h, if_neg (by omega), if_pos (by omega)]), rfl⟩
      · by_cases hc : 4 < s
        · go_wp2_with (first | (go_at_call 47; refine (between_any _ _ _ _).mono ?_; rintro e w' ⟨rfl, rfl⟩) | (go_at_call 39; refine (classSize_any _ _).mono ?_; rintro e w' ⟨rfl, rfl⟩))
          go_round
          case rel => exact .inr (.inr (.inr ⟨rfl, hc⟩))
          case measure => simp [intOf]
        · go_wp2_with (first | (go_at_call 47; refine (between_any _ _ _ _).mono ?_; rintro e w' ⟨rfl, rfl⟩) | (go_at_call 39; refine (classSize_any _ _).mono ?_; rintro e w' ⟨rfl, rfl⟩))
          go_ret
          exact ⟨ret_int (by unfold classZ; rw [if_pos h, if_neg (by omega), if_neg (by omega), if_pos (by omega)]), rfl⟩
      · go_wp2_with (first | (go_at_call 47; refine (between_any _ _ _ _).mono ?_; rintro e w' ⟨rfl, rfl⟩) | (go_at_call 39; refine (classSize_any _ _).mono ?_; rintro e w' ⟨rfl, rfl⟩))
        go_ret
        exact ⟨ret_int (by unfold classZ; rw [if_pos h, if_neg (by omega), if_neg (by omega), if_neg (by omega)]), rfl⟩
  · rw [Bool.not_eq_true] at h
    go_enter Try.func38, Try.ntmps38
    go_wp2_with (first | (go_at_call 47; refine (between_any _ _ _ _).mono ?_; rintro e w' ⟨rfl, rfl⟩))
    go_ret
    refine ⟨?_, rfl⟩
    simp [classZ, h]
def wasteZ (s : Int) : Int := if btw s 1 8 then sizeZ (classZ s) - s else 0
theorem classZ_in {s : Int} (h : btw s 1 8 = true) : 0 ≤ classZ s ∧ classZ s ≤ 3 := by
  unfold classZ; rw [if_pos h]; (repeat' split) <;> omega
theorem classZ_out {s : Int} (h : btw s 1 8 = false) : classZ s = -1 := by unfold classZ; rw [if_neg (by simp [h])]
theorem sizeZ_bd (c : Int) : 0 ≤ sizeZ c ∧ sizeZ c ≤ 8 := by
  unfold sizeZ
  split
  · rename_i h; rcases four h with rfl | rfl | rfl | rfl <;> decide
  · omega
theorem waste_any (s : Int) (w : World) :
    Calls Try.prog 24 #[.int .i64 s] w fun e w' => e = .returned (.int .i64 (wasteZ s)) ∧ w = w' := by
  have hz := sizeZ_bd (classZ s)
  by_cases h : btw s 1 8 = true
  · obtain ⟨h1, h2⟩ := btw_iff.1 h
    have hc := classZ_in h
    go_enter Try.func24, Try.ntmps24
    go_wp2_with (first | (go_at_call 38; refine (classOf_any _ _).mono ?_; rintro e w' ⟨rfl, rfl⟩) | (go_at_call 39; refine (classSize_any _ _).mono ?_; rintro e w' ⟨rfl, rfl⟩))
    go_ret
    refine ⟨?_, rfl⟩
    simp [wasteZ, h]
  · rw [Bool.not_eq_true] at h
    have hc : classZ s < 0 := by rw [classZ_out h]; decide
    go_enter Try.func24, Try.ntmps24
    go_wp2_with (first | (go_at_call 38; refine (classOf_any _ _).mono ?_; rintro e w' ⟨rfl, rfl⟩) | (go_at_call 39; refine (classSize_any _ _).mono ?_; rintro e w' ⟨rfl, rfl⟩))
    go_ret
    refine ⟨?_, rfl⟩
    simp [wasteZ, h]
theorem waste_spec (s : Int) (w : World) :
    Calls Try.prog 23 #[.int .i64 s] w fun e w' => e = .returned (.int .i64 (wasteZ s)) ∧ w = w' := by
  have hz := sizeZ_bd (classZ s)
  by_cases h : btw s 1 8 = true
  · obtain ⟨h1, h2⟩ := btw_iff.1 h
    have hc := classZ_in h
    go_enter Try.func23, Try.ntmps23
    go_wp2_with (first | (go_at_call 54; refine (classOf_spec _ _).mono ?_; rintro e w' ⟨rfl, rfl⟩) | (go_at_call 55; refine (classSize_spec _ _).mono ?_; rintro e w' ⟨rfl, rfl⟩))
    go_ret
    refine ⟨?_, rfl⟩
    simp [wasteZ, h]
  · rw [Bool.not_eq_true] at h
    have hc : classZ s < 0 := by rw [classZ_out h]; decide
    go_enter Try.func23, Try.ntmps23
    go_wp2_with (first | (go_at_call 54; refine (classOf_spec _ _).mono ?_; rintro e w' ⟨rfl, rfl⟩) | (go_at_call 55; refine (classSize_spec _ _).mono ?_; rintro e w' ⟨rfl, rfl⟩))
    go_ret
    refine ⟨?_, rfl⟩
    simp [wasteZ, h]
end Go.Proofs.Ytpbcaaoohcgalaa
