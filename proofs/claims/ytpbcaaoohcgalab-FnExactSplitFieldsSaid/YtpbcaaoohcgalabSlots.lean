/- The free slots of a bitmap, listed: the program's function and the reference's. -/
import Derived.Test.YtpbcaaoohcgalabLists
namespace Go.Proofs.Ytpbcaaoohcgalab
open Go.ChangeShapes Go.WideShapes Go.ChangeAt Go.RowKit
set_option linter.unusedSimpArgs false
set_option linter.unusedVariables false

def freeTo (b : Int) : Nat → List Int
  | 0 => []
  | k + 1 => freeTo b k ++ if hasB b k then [] else [(k : Int)]
def freeD (n b : Int) : List Int := if bmOkB n b then freeTo b n.toNat else []
theorem freeTo_len (b : Int) (k : Nat) : (freeTo b k).length ≤ k := by
  induction k with
  | zero => simp [freeTo]
  | succ k ih => unfold freeTo; split <;> simp <;> omega
theorem freeTo_add (b : Int) (k : Nat) : ((freeTo b k).length : Int) + cntTo b k = k := by
  induction k with
  | zero => simp [freeTo, cntTo]
  | succ k ih => unfold freeTo cntTo; split <;> simp <;> omega
theorem freeD_len (n b : Int) : (freeD n b).length ≤ 16 := by
  unfold freeD
  split
  · rename_i h
    have h2 : btw n 1 16 = true := by unfold bmOkB at h; simp at h; exact h.1
    have := freeTo_len b n.toNat
    have := btw_iff.1 h2
    omega
  · simp
theorem bmOk_n {n b : Int} (h : bmOkB n b = true) : 1 ≤ n ∧ n ≤ 16 := by
  unfold bmOkB at h; simp at h; exact btw_iff.1 h.1
theorem freeSlots_any (n b : Int) (w : World) :
    Calls Try.prog 25 #[.int .i64 n, .int .i64 b] w fun e w' => ∃ v, e = .returned v ∧ SI w.heap.size w'.heap.size w' v (freeD n b) ∧ Keep w w' := by
  cases h : bmOkB n b
  · have HE := Lib.hid (show freeD n b = [] by simp [freeD, h])
    go_enter Try.func25, Try.ntmps25
    go_wp2_with (go_at_call 19; refine (bitmapOk_any _ _ _).mono ?_; rintro e w' ⟨rfl, rfl⟩)
    go_ret
    exact ⟨_, rfl, by rw [HE.out]; exact SI.nil _ _ _, Chg.refl _ _ _⟩
  · obtain ⟨hn1, hn2⟩ := bmOk_n h
    have HE := Lib.hid (show freeD n b = freeTo b n.toNat by simp [freeD, h])
    go_enter Try.func25, Try.ntmps25
    go_wp2_with (go_at_call 19; refine (bitmapOk_any _ _ _).mono ?_; rintro e w' ⟨rfl, rfl⟩)
    go_loopw [5, 6] (fun v i wr => ∃ k : Nat, (k : Int) ≤ n ∧ i = .int .i64 k ∧ SI w.heap.size wr.heap.size wr v (freeTo b k) ∧ Keep w wr) (fun _ i _ => (n - intOf i).toNat)
    case atStart => exact ⟨0, by omega, rfl, by simpa [freeTo] using SI.empty w w.heap.size (Nat.le_refl _), (Chg.refl _ _ _).alloc _⟩
    case round =>
      obtain ⟨k, hk, rfl, hown, hg⟩ := hrel
      have hlen := freeTo_len b k
      have hs := hg.size
      by_cases hlt : (k : Int) < n
      · cases hb : hasB b k
        · have HS := Lib.hid (show freeTo b (k + 1) = freeTo b k ++ [(k : Int)] by simp [freeTo, hb])
          go_wp2_with (first | (go_at_call 17; refine (hasSlot_any _ _ _).mono ?_; rintro e w' ⟨rfl, rfl⟩) | (at_builtin; refine app_rw rfl _ _ _ rfl _ _ _ _ _ Try.underlying32 Try.infoInt rfl _ _ _ (.int .i64 k) hown rfl rfl rfl (by decide) (by omega) hs ?_; intro v' w3 hown3 hg3 _))
          go_roundw
          case rel => exact ⟨k + 1, by omega, by go_num, by rw [HS.out]; exact SI.app hown3, hg.comp hg3 (.inl (Nat.le_refl _))⟩
          case measure => simp [intOf]; omega
        · have HS := Lib.hid (show freeTo b (k + 1) = freeTo b k by simp [freeTo, hb])
          go_wp2_with (go_at_call 17; refine (hasSlot_any _ _ _).mono ?_; rintro e w' ⟨rfl, rfl⟩)
          go_roundw
          case rel => exact ⟨k + 1, by omega, by go_num, by rw [HS.out]; exact hown, hg⟩
          case measure => simp [intOf]; omega
      · obtain rfl : n.toNat = k := by omega
        go_wp2_with fail
        go_ret
        exact ⟨_, rfl, by rw [HE.out]; exact hown, hg⟩
end Go.Proofs.Ytpbcaaoohcgalab
