/- Hexadecimal text: encoding and decoding, the program's functions and the reference's. -/
import Derived.Test.YtpbcaaoohcgalabText
import Derived.Deep.RegionLaw
import Derived.IntWalk
namespace Go.Proofs.Ytpbcaaoohcgalab
open Go.ChangeShapes Go.WideShapes Go.ChangeAt Go.RowKit
set_option linter.unusedSimpArgs false
set_option linter.unusedVariables false

def fig (x : Nat) : UInt8 := if x < 10 then UInt8.ofNat (48 + x) else UInt8.ofNat (87 + x)
def hexL (l : List UInt8) : List UInt8 := l.flatMap fun c => [fig (c.toNat / 16), fig (c.toNat % 16)]
theorem take_snoc (s : ByteArray) (k : Nat) (h : k < s.size) : s.data.toList.take (k + 1) = s.data.toList.take k ++ [s[k]] := by
  rw [List.take_succ_eq_append_getElem (by simpa using h)]; rfl
theorem hexL_snoc (l : List UInt8) (c : UInt8) : hexL (l ++ [c]) = hexL l ++ [fig (c.toNat / 16), fig (c.toNat % 16)] := by simp [hexL]
theorem hexL_len (l : List UInt8) : (hexL l).length = 2 * l.length := by
  induction l with
  | nil => rfl
  | cons c l ih => simp [hexL] at *; omega
theorem digit_at : ∀ x : Fin 16, (⟨#[48, 49, 50, 51, 52, 53, 54, 55, 56, 57, 97, 98, 99, 100, 101, 102]⟩ : ByteArray).data.toList.getD x.1 0 = fig x.1 := by decide
theorem digit_get (i j : Nat) (e : i = j) (h : i < (⟨#[48, 49, 50, 51, 52, 53, 54, 55, 56, 57, 97, 98, 99, 100, 101, 102]⟩ : ByteArray).size) : (⟨#[48, 49, 50, 51, 52, 53, 54, 55, 56, 57, 97, 98, 99, 100, 101, 102]⟩ : ByteArray)[i] = fig j := by
  subst e
  have h' : i < 16 := h
  rw [← digit_at ⟨i, h'⟩]
  simp [List.getD, h']
  rfl
theorem and15 : ∀ c : Fin 256, bits BinOp.and IntKind.u8 (c.1 : Int) 15 = ((c.1 % 16 : Nat) : Int) := by decide +kernel
theorem and15' {c : Nat} (h : c < 256) : bits BinOp.and IntKind.u8 (c : Int) 15 = ((c % 16 : Nat) : Int) := and15 ⟨c, h⟩
end Go.Proofs.Ytpbcaaoohcgalab
