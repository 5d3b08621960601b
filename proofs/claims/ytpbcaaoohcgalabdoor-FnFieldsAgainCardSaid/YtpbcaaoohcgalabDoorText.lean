/- Texts: rows of bytes that a call makes, and the bitmap's text. -/
import Derived.Test.YtpbcaaoohcgalabDoorSlots
import Derived.Laws.BytesArg
import Derived.Laws.Concat
import Derived.Laws.IdiomStrings
import Derived.StillTailTactics
namespace Go.Proofs.YtpbcaaoohcgalabDoor
open Go.ChangeShapes Go.WideShapes Go.ChangeAt Go.RowKit
set_option linter.unusedSimpArgs false
set_option linter.unusedVariables false

def byteV (c : UInt8) : Value := .int .u8 (c.toNat : Int)
/-- A row of bytes that a call made. -/
def SU (lo hi : Nat) (w : World) (v : Value) (l : List UInt8) : Prop := Rw 5 1 lo hi w v l.length (l.map byteV)
theorem Tryd.infoU8 : (Tryd.prog.info? 5).map (fun i => (i.zero, i.size, i.bytes)) = some (some (.int .u8 0), 1, 1) := by kernel_rfl
theorem SU.mv {l h lo hi : Nat} {w w' : World} {v : Value} {s : List UInt8} (hr : SU lo hi w v s) (hc : Chg l h w w') (hd : hi ≤ l ∨ h ≤ lo ∨ h ≤ l ∨ hi ≤ lo ∨ w.heap.size ≤ l) : SU lo hi w' v s := Rw.mv hr hc hd
theorem SU.keep {lo hi : Nat} {w w' : World} {v : Value} {s : List UInt8} (hr : SU lo hi w v s) (hc : Keep w w') : SU lo hi w' v s := Rw.mv hr hc (.inr (.inl (Nat.zero_le _)))
theorem SU.empty (w : World) (lo : Nat) (hb : lo ≤ w.heap.size) : SU lo (w.heap.size + 1) (w.alloc (.cells #[] 5 (0, 0))) (.slice (some ⟨w.heap.size, 0, none⟩) 0 0) [] := Rw.empty w _ _ lo hb
theorem SU.app {lo hi : Nat} {w : World} {v : Value} {l : List UInt8} {y : UInt8} (h : Rw 5 1 lo hi w v (l.length + 1) (l.map byteV ++ [byteV y])) : SU lo hi w v (l ++ [y]) := by
  unfold SU; simpa using h
theorem SU.app2 {lo hi : Nat} {w : World} {v : Value} {l : List UInt8} {a b : Int} {y z : UInt8} (h : Rw 5 1 lo hi w v (l.length + 2) (l.map byteV ++ [.int .u8 a, .int .u8 b])) (ha : a = y.toNat) (hb : b = z.toNat) : SU lo hi w v (l ++ [y, z]) := by
  subst ha; subst hb; unfold SU; simpa [byteV] using h
theorem mk_nil : (⟨#[]⟩ : ByteArray) = ByteArray.empty := rfl
/-- string(out) of such a row. -/
theorem SU.string {lo hi : Nat} {w : World} {v : Value} {l : List UInt8} (h : SU lo hi w v l) : (convert 24 9 v).run Tryd.prog w = .ok (.string ⟨l.toArray⟩) w := by
  have h' := h.1
  obtain ⟨h1, ⟨rfl, h2⟩ | ⟨g, cap, cur, rfl, hb, hh, hc, hm, hs, ht⟩⟩ := h.1
  · have : l = [] := List.eq_nil_of_length_eq_zero h2
    subst this
    exact run_convert_bytes_nil w _ _ Tryd.underlying24 Tryd.underlying5 0 0 _ Tryd.underlying9
  · have := run_convert_bytes_arg (P := Tryd.prog) w _ _ Tryd.underlying24 Tryd.underlying5 g 0 l.length cap (l.map fun c => (c.toNat : Int)) (by simp) (fun i hi => ?_) _ Tryd.underlying9
    · rw [this]
      simp [strOfNums, Function.comp_def]
    · rw [Nat.zero_add, World.ownsRow.cellAt h' i (by omega)]
      simp [List.getD, hi, byteV]
def fmtTo (b : Int) : Nat → List UInt8
  | 0 => []
  | k + 1 => fmtTo b k ++ [if hasB b k then 120 else 46]
def fmtD (n b : Int) : List UInt8 := if bmOkB n b then fmtTo b n.toNat else []
theorem fmtTo_len (b : Int) (k : Nat) : (fmtTo b k).length = k := by
  induction k with
  | zero => rfl
  | succ k ih => simp [fmtTo, ih]
end Go.Proofs.YtpbcaaoohcgalabDoor
