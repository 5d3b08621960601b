/- ParseUint: the program's function and the reference's. -/
import Derived.Test.YtpbcaaoohcgalabDoorNums
namespace Go.Proofs.YtpbcaaoohcgalabDoor
open Go.ChangeShapes Go.WideShapes Go.ChangeAt Go.RowKit
set_option linter.unusedSimpArgs false
set_option linter.unusedVariables false
open Go.Lib (decDigits itoa)

theorem byteAt (s : ByteArray) (i : Nat) (h : i < s.size) : s.data.toList.getD i 0 = s[i] := by
  simp [List.getD, h]; rfl
/-- The first k bytes are digits. -/
def DigTo (l : List UInt8) (k : Nat) : Prop := (l.take k).all isDig = true
theorem DigTo.succ {s : ByteArray} {k : Nat} (hk : k < s.size) (h : DigTo s.data.toList k) (h1 : 48 ≤ s[k].toNat) (h2 : s[k].toNat ≤ 57) : DigTo s.data.toList (k + 1) := by
  unfold DigTo at *
  rw [take_snoc s k hk, List.all_append, h]
  simp [isDig, h1, h2]
theorem parse_nodig {s : ByteArray} {k : Nat} (hk : k < s.size) (h : s[k].toNat < 48 ∨ 57 < s[k].toNat) : parseOk s.data.toList = false := by
  have hn : s.data.toList.all isDig = false := by
    rw [List.all_eq_false]
    refine ⟨s[k], ?_, ?_⟩
    · rw [← byteAt s k hk]
      simp [List.getD, hk]
    · unfold isDig; simp; omega
  unfold parseOk
  rw [hn]
  simp
theorem val_succ {s : ByteArray} {k : Nat} (hk : k < s.size) : valL (s.data.toList.take (k + 1)) = 10 * valL (s.data.toList.take k) + (s[k].toNat - 48) := by
  rw [take_snoc s k hk, valL_snoc]
theorem val_bd {s : ByteArray} {k : Nat} (h : DigTo s.data.toList k) (hk : k ≤ 10) : valL (s.data.toList.take k) ≤ 10000000000 := by
  have h1 := valL_lt _ h
  have h2 : (s.data.toList.take k).length ≤ 10 := by simp; omega
  have h3 : (10 : Nat) ^ (s.data.toList.take k).length ≤ 10 ^ 10 := Nat.pow_le_pow_right (by omega) h2
  omega
theorem take_all (s : ByteArray) : s.data.toList.take s.size = s.data.toList := List.take_of_length_le (by simp)
theorem len_all (s : ByteArray) : s.data.toList.length = s.size := by simp
theorem parseUint_loop (s : ByteArray) (w : World) (h0 : 0 < s.size) (h1 : s.size ≤ 10) (hl : leadOk s.data.toList = true) :
    Calls Tryd.prog 11 #[.string s] w fun e w' => e = .returned (.tuple #[.int .i64 (parseD s.data.toList), .bool (parseOk s.data.toList)]) ∧ w = w' := by
  have hz : ((s.size : Int) == 0) = false := by rw [beq_eq_false_iff_ne]; omega
  have HL := Lib.hid hl
  have hlead : s.size ≤ 1 ∨ ((s[0].toNat : Int) == 48) = false := by
    rcases Nat.lt_or_ge 1 s.size with h | h
    · right
      unfold leadOk at hl
      rw [byteAt s 0 h0] at hl
      have : ¬ s.data.toList.length ≤ 1 := by rw [len_all]; omega
      simp only [this, decide_false, Bool.false_or, Bool.not_eq_true'] at hl
      have hne : s[0] ≠ 48 := by simpa using hl
      have : s[0].toNat ≠ 48 := fun e => hne (UInt8.toNat_inj.1 (by simpa using e))
      simp; omega
    · exact .inl h
  clear hl
  by_cases h2 : (1 : Int) < s.size
  · have hs0 : ((s[0].toNat : Int) == 48) = false := by
      rcases hlead with h | h
      · omega
      · exact h
    clear hlead
    go_enter Tryd.func11, Tryd.ntmps11
    go_wp2_with fail
    go_loop [4, 5] (fun n i => ∃ k : Nat, k ≤ s.size ∧ i = .int .i64 k ∧ n = .int .i64 (valL (s.data.toList.take k)) ∧ DigTo s.data.toList k) (fun _ i => s.size - (intOf i).toNat)
    case atStart => exact ⟨0, Nat.zero_le _, rfl, rfl, rfl⟩
    case round =>
      obtain ⟨k, hk, rfl, rfl, hd⟩ := hrel
      have hb := val_bd hd (by omega)
      by_cases hlt : k < s.size
      · have hc : s[k].toNat < 256 := s[k].toNat_lt
        by_cases c1 : (s[k].toNat : Int) < 48
        · have HN := Lib.hid (parse_nodig hlt (.inl (by omega)))
          go_wp2_with fail
          go_ret2
          exact ⟨by simp [parseD, HN.out], rfl⟩
        by_cases c2 : (57 : Int) < s[k].toNat
        · have HN := Lib.hid (parse_nodig hlt (.inr (by omega)))
          go_wp2_with fail
          go_ret2
          exact ⟨by simp [parseD, HN.out], rfl⟩
        have HS := Lib.hid (val_succ hlt)
        have HD := Lib.hid (DigTo.succ hlt hd (by omega) (by omega))
        go_wp2_with fail
        go_round
        case rel => exact ⟨k + 1, by omega, by go_num, by rw [HS.out]; go_num, HD.out⟩
        case measure => simp [intOf]; omega
      · obtain rfl : s.size = k := by omega
        have HT := Lib.hid (take_all s)
        have hd' : s.data.toList.all isDig = true := by have := hd; unfold DigTo at this; rwa [take_all] at this
        have HD := Lib.hid hd'
        clear hd hd'
        by_cases hm : (1000000000 : Int) < valL (s.data.toList.take s.size)
        · have HN := Lib.hid (show parseOk s.data.toList = false by unfold parseOk; rw [show decide (valL s.data.toList ≤ 1000000000) = false by rw [take_all] at hm; simp; omega]; simp)
          go_wp2_with fail
          go_ret2
          exact ⟨by simp [parseD, HN.out], rfl⟩
        · have HY := Lib.hid (show parseOk s.data.toList = true by
            unfold parseOk; rw [HL.out, HD.out, len_all]; rw [take_all] at hm; simp; omega)
          go_wp2_with fail
          go_ret2
          exact ⟨by simp [parseD, HY.out, HT.out], rfl⟩
  · clear hlead
    go_enter Tryd.func11, Tryd.ntmps11
    go_wp2_with fail
    go_loop [4, 5] (fun n i => ∃ k : Nat, k ≤ s.size ∧ i = .int .i64 k ∧ n = .int .i64 (valL (s.data.toList.take k)) ∧ DigTo s.data.toList k) (fun _ i => s.size - (intOf i).toNat)
    case atStart => exact ⟨0, Nat.zero_le _, rfl, rfl, rfl⟩
    case round =>
      obtain ⟨k, hk, rfl, rfl, hd⟩ := hrel
      have hb := val_bd hd (by omega)
      by_cases hlt : k < s.size
      · have hc : s[k].toNat < 256 := s[k].toNat_lt
        by_cases c1 : (s[k].toNat : Int) < 48
        · have HN := Lib.hid (parse_nodig hlt (.inl (by omega)))
          go_wp2_with fail
          go_ret2
          exact ⟨by simp [parseD, HN.out], rfl⟩
        by_cases c2 : (57 : Int) < s[k].toNat
        · have HN := Lib.hid (parse_nodig hlt (.inr (by omega)))
          go_wp2_with fail
          go_ret2
          exact ⟨by simp [parseD, HN.out], rfl⟩
        have HS := Lib.hid (val_succ hlt)
        have HD := Lib.hid (DigTo.succ hlt hd (by omega) (by omega))
        go_wp2_with fail
        go_round
        case rel => exact ⟨k + 1, by omega, by go_num, by rw [HS.out]; go_num, HD.out⟩
        case measure => simp [intOf]; omega
      · obtain rfl : s.size = k := by omega
        have HT := Lib.hid (take_all s)
        have hd' : s.data.toList.all isDig = true := by have := hd; unfold DigTo at this; rwa [take_all] at this
        have HD := Lib.hid hd'
        clear hd hd'
        by_cases hm : (1000000000 : Int) < valL (s.data.toList.take s.size)
        · have HN := Lib.hid (show parseOk s.data.toList = false by unfold parseOk; rw [show decide (valL s.data.toList ≤ 1000000000) = false by rw [take_all] at hm; simp; omega]; simp)
          go_wp2_with fail
          go_ret2
          exact ⟨by simp [parseD, HN.out], rfl⟩
        · have HY := Lib.hid (show parseOk s.data.toList = true by
            unfold parseOk; rw [HL.out, HD.out, len_all]; rw [take_all] at hm; simp; omega)
          go_wp2_with fail
          go_ret2
          exact ⟨by simp [parseD, HY.out, HT.out], rfl⟩
theorem parseUint_any (s : ByteArray) (w : World) (hm : s.size ≤ maxLen) :
    Calls Tryd.prog 11 #[.string s] w fun e w' => e = .returned (.tuple #[.int .i64 (parseD s.data.toList), .bool (parseOk s.data.toList)]) ∧ w = w' := by
  unfold maxLen at hm
  by_cases h0 : 0 < s.size
  · by_cases h1 : s.size ≤ 10
    · cases hl : leadOk s.data.toList
      · have HN := Lib.hid (show parseOk s.data.toList = false by unfold parseOk; rw [hl]; simp)
        unfold leadOk at hl
        rw [len_all, byteAt s 0 h0] at hl
        simp only [Bool.or_eq_false_iff, decide_eq_false_iff_not, Bool.not_eq_false', beq_iff_eq] at hl
        have hs1 : (1 : Int) < s.size := by omega
        have hs0 : ((s[0].toNat : Int) == 48) = true := by rw [hl.2]; rfl
        have hz : ((s.size : Int) == 0) = false := by rw [beq_eq_false_iff_ne]; omega
        clear hl
        go_enter Tryd.func11, Tryd.ntmps11
        go_wp2_with fail
        go_ret2
        exact ⟨by simp [parseD, HN.out], rfl⟩
      · exact parseUint_loop s w h0 h1 hl
    · have HN := Lib.hid (show parseOk s.data.toList = false by unfold parseOk; rw [len_all, show decide (s.size ≤ 10) = false by simp; omega]; simp)
      have h2 : (10 : Int) < s.size := by omega
      have hz : ((s.size : Int) == 0) = false := by rw [beq_eq_false_iff_ne]; omega
      go_enter Tryd.func11, Tryd.ntmps11
      go_wp2_with fail
      go_ret2
      exact ⟨by simp [parseD, HN.out], rfl⟩
  · have HN := Lib.hid (show parseOk s.data.toList = false by unfold parseOk; rw [len_all, decide_eq_false (show ¬ 0 < s.size by omega)]; simp)
    have hz : ((s.size : Int) == 0) = true := by rw [beq_iff_eq]; omega
    go_enter Tryd.func11, Tryd.ntmps11
    go_wp2_with fail
    go_ret2
    exact ⟨by simp [parseD, HN.out], rfl⟩
end Go.Proofs.YtpbcaaoohcgalabDoor
