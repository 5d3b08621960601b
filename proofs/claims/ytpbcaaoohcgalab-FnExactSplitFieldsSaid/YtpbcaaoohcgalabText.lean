/- Texts: rows of bytes that a call makes, and the bitmap's text. -/
import Derived.Test.YtpbcaaoohcgalabSlots
import Derived.Laws.BytesArg
import Derived.Laws.Concat
import Derived.Laws.IdiomStrings
import Derived.StillTailTactics
namespace Go.Proofs.Ytpbcaaoohcgalab
open Go.ChangeShapes Go.WideShapes Go.ChangeAt Go.RowKit
set_option linter.unusedSimpArgs false
set_option linter.unusedVariables false

def byteV (c : UInt8) : Value := .int .u8 (c.toNat : Int)
/-- A row of bytes that a call made. -/
def SU (lo hi : Nat) (w : World) (v : Value) (l : List UInt8) : Prop := Rw 5 1 lo hi w v l.length (l.map byteV)
theorem Try.infoU8 : (Try.prog.info? 5).map (fun i => (i.zero, i.size, i.bytes)) = some (some (.int .u8 0), 1, 1) := by kernel_rfl
theorem SU.mv {l h lo hi : Nat} {w w' : World} {v : Value} {s : List UInt8} (hr : SU lo hi w v s) (hc : Chg l h w w') (hd : hi ≤ l ∨ h ≤ lo ∨ h ≤ l ∨ hi ≤ lo ∨ w.heap.size ≤ l) : SU lo hi w' v s := Rw.mv hr hc hd
theorem SU.keep {lo hi : Nat} {w w' : World} {v : Value} {s : List UInt8} (hr : SU lo hi w v s) (hc : Keep w w') : SU lo hi w' v s := Rw.mv hr hc (.inr (.inl (Nat.zero_le _)))
theorem SU.empty (w : World) (lo : Nat) (hb : lo ≤ w.heap.size) : SU lo (w.heap.size + 1) (w.alloc (.cells #[] 5 (0, 0))) (.slice (some ⟨w.heap.size, 0, none⟩) 0 0) [] := Rw.empty w _ _ lo hb
theorem SU.app {lo hi : Nat} {w : World} {v : Value} {l : List UInt8} {y : UInt8} (h : Rw 5 1 lo hi w v (l.length + 1) (l.map byteV ++ [byteV y])) : SU lo hi w v (l ++ [y]) := by
  unfold SU; simpa using h
theorem SU.app2 {lo hi : Nat} {w : World} {v : Value} {l : List UInt8} {a b : Int} {y z : UInt8} (h : Rw 5 1 lo hi w v (l.length + 2) (l.map byteV ++ [.int .u8 a, .int .u8 b])) (ha : a = y.toNat) (hb : b = z.toNat) : SU lo hi w v (l ++ [y, z]) := by
  subst ha; subst hb; unfold SU; simpa [byteV] using h
theorem mk_nil : (⟨#[]⟩ : ByteArray) = ByteArray.empty := rfl
/-- string(out) of such a row. -/
theorem SU.string {lo hi : Nat} {w : World} {v : Value} {l : List UInt8} (h : SU lo hi w v l) : (convert 28 9 v).run Try.prog w = .ok (.string ⟨l.toArray⟩) w := by
  have h' := h.1
  obtain ⟨h1, ⟨rfl, h2⟩ | ⟨g, cap, cur, rfl, hb, hh, hc, hm, hs, ht⟩⟩ := h.1
  · have : l = [] := List.eq_nil_of_length_eq_zero h2
    subst this
    exact run_convert_bytes_nil w _ _ Try.underlying28 Try.underlying5 0 0 _ Try.underlying9
  · have := run_convert_bytes_arg (P := Try.prog) w _ _ Try.underlying28 Try.underlying5 g 0 l.length cap (l.map fun c => (c.toNat : Int)) (by simp) (fun i hi => ?_) _ Try.underlying9
    · rw [this]
      simp [strOfNums, Function.comp_def]
    · rw [Nat.zero_add, World.ownsRow.cellAt h' i (by omega)]
      simp [List.getD, hi, byteV]
def fmtTo (b : Int) : Nat → List UInt8
  | 0 => []
  | k + 1 => fmtTo b k ++ [if hasB b k then 120 else 46]
def fmtD (n b : Int) : List UInt8 := if bmOkB n b then fmtTo b n.toNat else []
theorem fmtTo_len (b : Int) (k : Nat) : (fmtTo b k).length = k := by
  induction k with
  | zero => rfl
  | succ k ih => simp [fmtTo, ih]
theorem formatBitmap_any (n b : Int) (w : World) :
    Calls Try.prog 26 #[.int .i64 n, .int .i64 b] w fun e w' => e = .returned (.string ⟨(fmtD n b).toArray⟩) ∧ Keep w w' := by
  cases h : bmOkB n b
  · have HE := Lib.hid (show fmtD n b = [] by simp [fmtD, h])
    go_enter Try.func26, Try.ntmps26
    go_wp2_with (go_at_call 19; refine (bitmapOk_any _ _ _).mono ?_; rintro e w' ⟨rfl, rfl⟩)
    go_ret
    exact ⟨by rw [HE.out]; rfl, Chg.refl _ _ _⟩
  · obtain ⟨hn1, hn2⟩ := bmOk_n h
    have HE := Lib.hid (show fmtD n b = fmtTo b n.toNat by simp [fmtD, h])
    go_enter Try.func26, Try.ntmps26
    go_wp2_with (go_at_call 19; refine (bitmapOk_any _ _ _).mono ?_; rintro e w' ⟨rfl, rfl⟩)
    go_loopw [5, 6] (fun v i wr => ∃ k : Nat, (k : Int) ≤ n ∧ i = .int .i64 k ∧ SU w.heap.size wr.heap.size wr v (fmtTo b k) ∧ Keep w wr) (fun _ i _ => (n - intOf i).toNat)
    case atStart => exact ⟨0, by omega, rfl, by simpa [fmtTo] using SU.empty w w.heap.size (Nat.le_refl _), (Chg.refl _ _ _).alloc _⟩
    case round =>
      obtain ⟨k, hk, rfl, hown, hg⟩ := hrel
      have hlen : (fmtTo b k).length ≤ k := by rw [fmtTo_len]; omega
      have hs := hg.size
      by_cases hlt : (k : Int) < n
      · cases hb : hasB b k
        · have HS := Lib.hid (show fmtTo b (k + 1) = fmtTo b k ++ [46] by simp [fmtTo, hb])
          go_wp2_with (first | (go_at_call 17; refine (hasSlot_any _ _ _).mono ?_; rintro e w' ⟨rfl, rfl⟩) | (at_builtin; refine app_rw rfl _ _ _ rfl _ _ _ _ _ Try.underlying28 Try.infoU8 rfl _ _ _ (.int .u8 46) hown rfl rfl rfl (by decide) (by omega) hs ?_; intro v' w3 hown3 hg3 _))
          go_roundw
          case rel => exact ⟨k + 1, by omega, by go_num, by rw [HS.out]; exact SU.app hown3, hg.comp hg3 (.inl (Nat.le_refl _))⟩
          case measure => simp [intOf]; omega
        · have HS := Lib.hid (show fmtTo b (k + 1) = fmtTo b k ++ [120] by simp [fmtTo, hb])
          go_wp2_with (first | (go_at_call 17; refine (hasSlot_any _ _ _).mono ?_; rintro e w' ⟨rfl, rfl⟩) | (at_builtin; refine app_rw rfl _ _ _ rfl _ _ _ _ _ Try.underlying28 Try.infoU8 rfl _ _ _ (.int .u8 120) hown rfl rfl rfl (by decide) (by omega) hs ?_; intro v' w3 hown3 hg3 _))
          go_roundw
          case rel => exact ⟨k + 1, by omega, by go_num, by rw [HS.out]; exact SU.app hown3, hg.comp hg3 (.inl (Nat.le_refl _))⟩
          case measure => simp [intOf]; omega
      · obtain rfl : n.toNat = k := by omega
        have hst := hown.string
        go_wp2_with fail
        go_ret
        exact ⟨by rw [HE.out]; rfl, hg⟩
end Go.Proofs.Ytpbcaaoohcgalab
