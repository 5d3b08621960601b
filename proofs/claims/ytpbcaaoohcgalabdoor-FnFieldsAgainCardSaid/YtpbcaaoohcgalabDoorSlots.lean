/- The free slots of a bitmap, listed: the program's function and the reference's. -/
import Derived.Test.YtpbcaaoohcgalabDoorLists
namespace Go.Proofs.YtpbcaaoohcgalabDoor
open Go.ChangeShapes Go.WideShapes Go.ChangeAt Go.RowKit
set_option linter.unusedSimpArgs false
set_option linter.unusedVariables false

def freeTo (b : Int) : Nat → List Int
  | 0 => []
  | k + 1 => freeTo b k ++ if hasB b k then [] else [(k : Int)]
def freeD (n b : Int) : List Int := if bmOkB n b then freeTo b n.toNat else []
theorem freeTo_len (b : Int) (k : Nat) : (freeTo b k).length ≤ k := by
  induction k with
  | zero => simp [freeTo]
  | succ k ih => unfold freeTo; split <;> simp <;> omega
theorem freeTo_add (b : Int) (k : Nat) : ((freeTo b k).length : Int) + cntTo b k = k := by
  induction k with
  | zero => simp [freeTo, cntTo]
  | succ k ih => unfold freeTo cntTo; split <;> simp <;> omega
theorem freeD_len (n b : Int) : (freeD n b).length ≤ 16 := by
  unfold freeD
  split
  · rename_i h
    have h2 : btw n 1 16 = true := by unfold bmOkB at h; simp at h; exact h.1
    have := freeTo_len b n.toNat
    have := btw_iff.1 h2
    omega
  · simp
theorem bmOk_n {n b : Int} (h : bmOkB n b = true) : 1 ≤ n ∧ n ≤ 16 := by
  unfold bmOkB at h; simp at h; exact btw_iff.1 h.1
end Go.Proofs.YtpbcaaoohcgalabDoor
