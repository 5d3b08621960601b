/- Contracts of the small functions on numbers (ranges, bitmaps, seeds, classes): each returns what a plain Lean function of its arguments says, for all arguments, and leaves memory alone. -/
import Derived.Test.YtpbcaaoohcgalabDoorRows
import Derived.WalkKit
import Derived.ProofKit
import Derived.OpenShut
import Derived.Lib.Hide
namespace Go.Proofs.YtpbcaaoohcgalabDoor
open Go.ChangeShapes Go.WideShapes Go.ChangeAt Go.RowKit

theorem ret_int {k : IntKind} {a b : Int} (h : a = b) : Ending.returned (.int k a) = .returned (.int k b) := by rw [h]
theorem ret_bool {a b : Bool} (h : a = b) : Ending.returned (.bool a) = .returned (.bool b) := by rw [h]
def btw (n lo hi : Int) : Bool := decide (lo ≤ n) && decide (n ≤ hi)
theorem btw_true {n lo hi : Int} (h1 : lo ≤ n) (h2 : n ≤ hi) : btw n lo hi = true := by simp [btw, h1, h2]
theorem btw_false {n lo hi : Int} (h : n < lo ∨ hi < n) : btw n lo hi = false := by
  unfold btw
  rcases h with h | h
  · simp; omega
  · simp; omega
theorem btw_iff {n lo hi : Int} : btw n lo hi = true ↔ lo ≤ n ∧ n ≤ hi := by simp [btw]

/-! ## Bitmaps -/
def slotB (b i : Int) : Bool := decide (0 ≤ b) && btw i 0 15
theorem slotB_true {b i : Int} (h0 : 0 ≤ b) (h1 : 0 ≤ i) (h2 : i ≤ 15) : slotB b i = true := by simp [slotB, h0, btw_true h1 h2]
theorem slotB_iff {b i : Int} : slotB b i = true ↔ 0 ≤ b ∧ 0 ≤ i ∧ i ≤ 15 := by simp [slotB, btw]
def hasZ (b i : Int) : Bool := bits BinOp.and IntKind.i64 (b / 2 ^ i.toNat) 1 == 1
def hasB (b i : Int) : Bool := slotB b i && hasZ b i
theorem pow16 (n : Nat) (h : n ≤ 16) : 1 ≤ (2 : Int) ^ n ∧ (2 : Int) ^ n ≤ 65536 := by
  have : ∀ k : Fin 17, 1 ≤ (2 : Int) ^ k.1 ∧ (2 : Int) ^ k.1 ≤ 65536 := by decide
  exact this ⟨n, by omega⟩
theorem wrap_pow {n : Int} (h2 : n ≤ 16) : wrap64 (2 ^ n.toNat) = 2 ^ n.toNat := by
  have := pow16 n.toNat (by omega)
  exact IntWalk.wrap64_in _ ⟨by omega, by omega⟩
theorem wrap_pow1 {n : Int} (h2 : n ≤ 16) : wrap64 (2 ^ n.toNat - 1) = 2 ^ n.toNat - 1 := by
  have := pow16 n.toNat (by omega)
  exact IntWalk.wrap64_in _ ⟨by omega, by omega⟩
def bmOkB (n b : Int) : Bool := btw n 1 16 && btw b 0 (2 ^ n.toNat - 1)
def withZ (b i : Int) : Int := if slotB b i then bits BinOp.or IntKind.i64 b (2 ^ i.toNat) else b
def withoutZ (b i : Int) : Int := if slotB b i then bits BinOp.andNot IntKind.i64 b (2 ^ i.toNat) else b
def cntTo (b : Int) : Nat → Int
  | 0 => 0
  | k + 1 => cntTo b k + if hasB b k then 1 else 0
theorem cntTo_bd (b : Int) (k : Nat) : 0 ≤ cntTo b k ∧ cntTo b k ≤ k := by
  induction k with
  | zero => simp [cntTo]
  | succ k ih => unfold cntTo; split <;> omega
/-! ## Seeds -/
def nextZ (s : Int) : Int := if btw s 0 1073741823 then (1103515245 * s + 12345) % 1073741824 else 0
def chooseZ (s n : Int) : Int := if btw s 0 1073741823 && btw n 1 1000 then nextZ s / 1024 % n else 0
def chooseS (s n : Int) : Int := if btw s 0 1073741823 && btw n 1 1000 then nextZ s else s
theorem nextZ_bd (s : Int) : 0 ≤ nextZ s ∧ nextZ s ≤ 1073741823 := by unfold nextZ; split <;> omega
/-! ## Classes -/
def sizeZ (c : Int) : Int := if btw c 0 3 then 2 ^ c.toNat else 0
def slotsZ (c : Int) : Int := if btw c 0 3 then 16 / 2 ^ c.toNat else 0
def classZ (s : Int) : Int := if btw s 1 8 then (if s ≤ 1 then 0 else if s ≤ 2 then 1 else if s ≤ 4 then 2 else 3) else -1
def pagesZ (s : Int) : Int := if btw s 9 1000 then (s + 15) / 16 else 0
def clampZ (n lo hi : Int) : Int := if n < lo ∨ hi < lo then lo else if hi < n then hi else n
theorem four {c : Int} (h : btw c 0 3 = true) : c = 0 ∨ c = 1 ∨ c = 2 ∨ c = 3 := by have := btw_iff.1 h; omega
theorem eight {c : Int} (h : btw c 1 8 = true) : c = 1 ∨ c = 2 ∨ c = 3 ∨ c = 4 ∨ c = 5 ∨ c = 6 ∨ c = 7 ∨ c = 8 := by have := btw_iff.1 h; omega
def wasteZ (s : Int) : Int := if btw s 1 8 then sizeZ (classZ s) - s else 0
theorem classZ_in {s : Int} (h : btw s 1 8 = true) : 0 ≤ classZ s ∧ classZ s ≤ 3 := by
  unfold classZ; rw [if_pos h]; (repeat' split) <;> omega
theorem classZ_out {s : Int} (h : btw s 1 8 = false) : classZ s = -1 := by unfold classZ; rw [if_neg (by simp [h])]
theorem sizeZ_bd (c : Int) : 0 ≤ sizeZ c ∧ sizeZ c ≤ 8 := by
  unfold sizeZ
  split
  · rename_i h; rcases four h with rfl | rfl | rfl | rfl <;> decide
  · omega
end Go.Proofs.YtpbcaaoohcgalabDoor
