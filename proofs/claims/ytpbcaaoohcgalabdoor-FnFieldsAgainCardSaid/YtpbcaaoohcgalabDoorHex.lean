/- Hexadecimal text: encoding and decoding, the program's functions and the reference's. -/
import Derived.Test.YtpbcaaoohcgalabDoorText
import Derived.Deep.RegionLaw
import Derived.IntWalk
namespace Go.Proofs.YtpbcaaoohcgalabDoor
open Go.ChangeShapes Go.WideShapes Go.ChangeAt Go.RowKit
set_option linter.unusedSimpArgs false
set_option linter.unusedVariables false

def fig (x : Nat) : UInt8 := if x < 10 then UInt8.ofNat (48 + x) else UInt8.ofNat (87 + x)
def hexL (l : List UInt8) : List UInt8 := l.flatMap fun c => [fig (c.toNat / 16), fig (c.toNat % 16)]
theorem take_snoc (s : ByteArray) (k : Nat) (h : k < s.size) : s.data.toList.take (k + 1) = s.data.toList.take k ++ [s[k]] := by
  rw [List.take_succ_eq_append_getElem (by simpa using h)]; rfl
theorem hexL_snoc (l : List UInt8) (c : UInt8) : hexL (l ++ [c]) = hexL l ++ [fig (c.toNat / 16), fig (c.toNat % 16)] := by simp [hexL]
theorem hexL_len (l : List UInt8) : (hexL l).length = 2 * l.length := by
  induction l with
  | nil => rfl
  | cons c l ih => simp [hexL] at *; omega
theorem digit_at : ∀ x : Fin 16, (⟨#[48, 49, 50, 51, 52, 53, 54, 55, 56, 57, 97, 98, 99, 100, 101, 102]⟩ : ByteArray).data.toList.getD x.1 0 = fig x.1 := by decide
theorem digit_get (i j : Nat) (e : i = j) (h : i < (⟨#[48, 49, 50, 51, 52, 53, 54, 55, 56, 57, 97, 98, 99, 100, 101, 102]⟩ : ByteArray).size) : (⟨#[48, 49, 50, 51, 52, 53, 54, 55, 56, 57, 97, 98, 99, 100, 101, 102]⟩ : ByteArray)[i] = fig j := by
  subst e
  have h' : i < 16 := h
  rw [← digit_at ⟨i, h'⟩]
  simp [List.getD, h']
  rfl
theorem and15 : ∀ c : Fin 256, bits BinOp.and IntKind.u8 (c.1 : Int) 15 = ((c.1 % 16 : Nat) : Int) := by decide +kernel
theorem and15' {c : Nat} (h : c < 256) : bits BinOp.and IntKind.u8 (c : Int) 15 = ((c % 16 : Nat) : Int) := and15 ⟨c, h⟩
theorem encodeHex_any (s : ByteArray) (w : World) (hs : s.size ≤ 20000) :
    Calls Tryd.prog 13 #[.string s] w fun e w' => e = .returned (.tuple #[.string ⟨(hexL s.data.toList).toArray⟩, .bool true]) ∧ Keep w w' := by
  go_enter Tryd.func13, Tryd.ntmps13
  go_wp2_with (at_make; refine make0_rw rfl _ _ _ rfl _ _ _ _ Tryd.underlying24 Tryd.infoU8 .i64 .i64 _ (2 * s.size) rfl rfl (by omega) (by omega) (by decide) ?_; intro v1 w1 hown1 hg1)
  go_loopw [4, 5] (fun v i wr => ∃ k : Nat, k ≤ s.size ∧ i = .int .i64 k ∧ SU w.heap.size wr.heap.size wr v (hexL (s.data.toList.take k)) ∧ Keep w wr) (fun _ i _ => s.size - (intOf i).toNat)
  case atStart => exact ⟨0, Nat.zero_le _, rfl, by simpa [hexL] using (show SU _ _ _ _ [] from hown1), hg1⟩
  case round =>
    obtain ⟨k, hk, rfl, hown, hg⟩ := hrel
    clear hown1 hg1
    have hlen : (hexL (s.data.toList.take k)).length ≤ 2 * s.size := by rw [hexL_len]; simp; omega
    have hss := hg.size
    by_cases hlt : k < s.size
    · have HS := Lib.hid (show hexL (s.data.toList.take (k + 1)) = hexL (s.data.toList.take k) ++ [fig (s[k].toNat / 16), fig (s[k].toNat % 16)] by rw [take_snoc s k hlt, hexL_snoc])
      have hc : s[k].toNat < 256 := s[k].toNat_lt
      have hx15 := and15' hc
      have b1 : (0 : Int) ≤ (s[k].toNat : Int) / 16 ∧ (s[k].toNat : Int) / 16 < 16 := by omega
      have b2 : (0 : Int) ≤ bits BinOp.and IntKind.u8 (s[k].toNat : Int) 15 ∧ bits BinOp.and IntKind.u8 (s[k].toNat : Int) 15 < 16 := by omega
      have HX := Lib.hid hx15
      clear hx15 hc
      go_wp2_with fail
      go_region_law ((refine step_app rfl (.tmp 19) (.tmp 30) _ rfl w.heap.size wr.heap.size _ _ _ _ Tryd.underlying24 Tryd.infoU8 rfl (by decide) u4 _ _ (hown.keep (Keep.ad wr _)) ⟨wr.heap.size, 0, none⟩ 2 2 [_, _] rfl (by decide) (new_cells wr _ _) (one2 _ _ _) (by decide) (by omega) (by simp; omega) rfl rfl ?_; intro v' w3 hown3 hg3))
      all_goals
        go_wp2_with fail
        go_roundw
        case rel =>
          refine ⟨k + 1, by omega, by go_num, ?_, (hg.keep (Keep.ad wr _)).comp hg3 (.inl (Nat.le_refl _))⟩
          rw [HS.out]
          exact SU.app2 hown3 (congrArg (fun c : UInt8 => (c.toNat : Int)) (digit_get _ _ (by omega) _)) (congrArg (fun c : UInt8 => (c.toNat : Int)) (digit_get _ _ (by rw [HX.out]; omega) _))
        case measure => simp [intOf]; omega
    · obtain rfl : s.size = k := by omega
      have hst := hown.string
      have HE := Lib.hid (show s.data.toList.take s.size = s.data.toList by rw [List.take_of_length_le (by simp)])
      go_wp2_with fail
      go_ret2
      exact ⟨by simp only [HE.out]; rfl, hg⟩
theorem encodeHex_big (s : ByteArray) (w : World) (hs : 20000 < s.size) :
    Calls Tryd.prog 13 #[.string s] w fun e w' => e = .returned (.tuple #[.string ⟨#[]⟩, .bool false]) ∧ w = w' := by
  have hs' : (20000 : Int) < s.size := by omega
  go_enter Tryd.func13, Tryd.ntmps13
  go_wp2_with fail
  go_ret2
  exact ⟨rfl, rfl⟩
theorem figure_any (x : Int) (w : World) (h0 : 0 ≤ x) (h1 : x < 16) :
    Calls Tryd.prog 19 #[.int .i64 x] w fun e w' => e = .returned (.int .u8 ((fig x.toNat).toNat : Int)) ∧ w = w' := by
  have hf : ∀ n : Fin 16, ((fig n.1).toNat : Int) = if n.1 < 10 then 48 + (n.1 : Int) else 87 + (n.1 : Int) := by decide
  have HF := Lib.hid (hf ⟨x.toNat, by omega⟩)
  clear hf
  by_cases h : x < 10
  · go_enter Tryd.func19, Tryd.ntmps19
    go_wp2_with fail
    go_ret
    refine ⟨ret_int ?_, rfl⟩
    rw [HF.out, if_pos (by simp; omega)]
    simp
    omega
  · go_enter Tryd.func19, Tryd.ntmps19
    go_wp2_with fail
    go_ret
    refine ⟨ret_int ?_, rfl⟩
    rw [HF.out, if_neg (by simp; omega)]
    simp
    omega
end Go.Proofs.YtpbcaaoohcgalabDoor
