/- Hexadecimal text decoded. -/
import Derived.Test.YtpbcaaoohcgalabDoorHex
namespace Go.Proofs.YtpbcaaoohcgalabDoor
open Go.ChangeShapes Go.WideShapes Go.ChangeAt Go.RowKit
set_option linter.unusedSimpArgs false
set_option linter.unusedVariables false

def valZ (c : Nat) : Int := if 48 ≤ c ∧ c ≤ 57 then (c : Int) - 48 else if 97 ≤ c ∧ c ≤ 102 then (c : Int) - 87 else -1
theorem valZ_bd (c : Nat) : -1 ≤ valZ c ∧ valZ c ≤ 15 := by unfold valZ; split <;> (try split) <;> omega
theorem hexDigit_any (c : Nat) (w : World) (hc : c < 256) :
    Calls Tryd.prog 27 #[.int .u8 (c : Int)] w fun e w' => e = .returned (.int .i64 (valZ c)) ∧ w = w' := by
  by_cases h1 : 48 ≤ c ∧ c ≤ 57
  · obtain ⟨h1a, h1b⟩ := h1
    have a1 : (48 : Int) ≤ c := by omega
    have a2 : (c : Int) ≤ 57 := by omega
    go_enter Tryd.func27, Tryd.ntmps27
    go_wp2_with fail
    go_ret
    exact ⟨ret_int (by unfold valZ; rw [if_pos ⟨h1a, h1b⟩]; try omega), rfl⟩
  · by_cases h2 : 97 ≤ c ∧ c ≤ 102
    · obtain ⟨h2a, h2b⟩ := h2
      have a1 : (48 : Int) ≤ c := by omega
      have a2 : ¬ (c : Int) ≤ 57 := by omega
      have a3 : (97 : Int) ≤ c := by omega
      have a4 : (c : Int) ≤ 102 := by omega
      go_enter Tryd.func27, Tryd.ntmps27
      go_wp2_with fail
      go_ret
      exact ⟨ret_int (by unfold valZ; rw [if_neg h1, if_pos ⟨h2a, h2b⟩]; try omega), rfl⟩
    · have e : valZ c = -1 := by unfold valZ; rw [if_neg h1, if_neg h2]
      have HE := Lib.hid e
      clear e
      by_cases b1 : (48 : Int) ≤ c
      all_goals by_cases b2 : (c : Int) ≤ 57
      all_goals by_cases b3 : (97 : Int) ≤ c
      all_goals by_cases b4 : (c : Int) ≤ 102
      all_goals first | (exfalso; omega) | skip
      all_goals
        go_enter Tryd.func27, Tryd.ntmps27
        go_wp2_with fail
        go_ret
        exact ⟨ret_int (by rw [HE.out]), rfl⟩
def hiZ (l : List UInt8) (j : Nat) : Int := valZ (l.getD (2 * j) 0).toNat
def loZ (l : List UInt8) (j : Nat) : Int := valZ (l.getD (2 * j + 1) 0).toNat
def pairOk (l : List UInt8) (j : Nat) : Bool := decide (0 ≤ hiZ l j) && decide (0 ≤ loZ l j)
def pairB (l : List UInt8) (j : Nat) : UInt8 := UInt8.ofNat (hiZ l j * 16 + loZ l j).toNat
def decTo (l : List UInt8) (j : Nat) : List UInt8 := (List.range j).map (pairB l)
def decOk (l : List UInt8) : Bool := decide (l.length % 2 = 0) && decide (l.length ≤ 40000) && (List.range (l.length / 2)).all (pairOk l)
def decS (l : List UInt8) : List UInt8 := if decOk l then decTo l (l.length / 2) else []
theorem decTo_succ (l : List UInt8) (j : Nat) : decTo l (j + 1) = decTo l j ++ [pairB l j] := by simp [decTo, List.range_succ]
theorem decTo_len (l : List UInt8) (j : Nat) : (decTo l j).length = j := by simp [decTo]
theorem decOk_no {l : List UInt8} {j : Nat} (hj : j < l.length / 2) (h : pairOk l j = false) : decOk l = false := by
  unfold decOk
  rw [Bool.and_eq_false_iff]; right
  rw [List.all_eq_false]
  exact ⟨j, by simpa using hj, by simp [h]⟩
theorem decOk_yes {l : List UInt8} (h0 : l.length % 2 = 0) (h1 : l.length ≤ 40000) (h : ∀ j, j < l.length / 2 → pairOk l j = true) : decOk l = true := by
  unfold decOk
  simp only [h0, h1, decide_true, Bool.true_and, List.all_eq_true, List.mem_range]
  exact h
theorem byte_at (s : ByteArray) (i : Nat) (h : i < s.size) : s.data.toList.getD i 0 = s[i] := by
  simp [List.getD, h]; rfl
def OkTo (l : List UInt8) (j : Nat) : Prop := ∀ t, t < j → pairOk l t = true
theorem OkTo.succ {l : List UInt8} {j : Nat} (h : OkTo l j) (h1 : pairOk l j = true) : OkTo l (j + 1) := by
  intro t ht
  by_cases e : t = j
  · subst e; exact h1
  · exact h t (by omega)
theorem SU.app1 {lo hi : Nat} {w : World} {v : Value} {l : List UInt8} {a : Int} {y : UInt8} (h : Rw 5 1 lo hi w v (l.length + 1) (l.map byteV ++ [.int .u8 a])) (ha : a = y.toNat) : SU lo hi w v (l ++ [y]) := by
  subst ha; exact SU.app h
theorem kd (w : World) (n : Nat) : Keep w (w.drewN n) := (Chg.refl 0 0 w).drewN n
theorem decodeHex_any_ev (s : ByteArray) (w : World) (he : s.size % 2 = 0) (hs : s.size ≤ 40000) :
    Calls Tryd.prog 14 #[.string s] w fun e w' => e = .returned (.tuple #[.string ⟨(decS s.data.toList).toArray⟩, .bool (decOk s.data.toList)]) ∧ Keep w w' := by
  have hl : s.data.toList.length = s.size := by simp
  have HL := Lib.hid hl
  clear hl
  have he1 : (s.size : Int) % 2 = 0 := by omega
  have HV := Lib.hid he
  clear he
  go_enter Tryd.func14, Tryd.ntmps14
  go_wp2_with (at_make; refine make0_rw rfl _ _ _ rfl _ _ _ _ Tryd.underlying24 Tryd.infoU8 .i64 .i64 _ (s.size / 2) rfl rfl (by omega) (by omega) (by decide) ?_; intro v1 w1 hown1 hg1)
  go_loopw [4, 5] (fun v i wr => ∃ j : Nat, 2 * j ≤ s.size ∧ i = .int .i64 ((2 * j : Nat) : Int) ∧ SU w.heap.size wr.heap.size wr v (decTo s.data.toList j) ∧ OkTo s.data.toList j ∧ Keep w wr) (fun _ i _ => s.size - (intOf i).toNat)
  case atStart => exact ⟨0, Nat.zero_le _, rfl, by simpa [decTo] using (show SU _ _ _ _ [] from hown1), fun t ht => by omega, hg1⟩
  case round =>
    obtain ⟨j, hj, rfl, hown, hok, hg⟩ := hrel
    clear hown1 hg1
    have hlen : (decTo s.data.toList j).length ≤ s.size := by rw [decTo_len]; omega
    have hss := hg.size
    by_cases hlt : 2 * j < s.size
    · have hlt2 : 2 * j + 1 < s.size := by have := HV.out; omega
      have H1 := Lib.hid (show hiZ s.data.toList j = valZ s[2 * j].toNat by unfold hiZ; rw [byte_at s _ hlt])
      have H2 := Lib.hid (show loZ s.data.toList j = valZ s[2 * j + 1].toNat by unfold loZ; rw [byte_at s _ hlt2])
      have hc1 : s[2 * j].toNat < 256 := s[2 * j].toNat_lt
      have hc2 : s[2 * j + 1].toNat < 256 := s[2 * j + 1].toNat_lt
      have hv1 := valZ_bd s[2 * j].toNat
      have hv2 := valZ_bd s[2 * j + 1].toNat
      by_cases p1 : valZ s[2 * j].toNat < 0
      · have hno := decOk_no (l := s.data.toList) (j := j) (by rw [HL.out]; omega) (by unfold pairOk; rw [H1.out]; simp; omega)
        have HN := Lib.hid hno
        clear hno
        go_wp2_with fail
        have q1 := IntWalk.i64_in (2 * (j : Int) + 1) (by omega)
        have q2 : 0 ≤ 2 * (j : Int) + 1 := by omega
        have q3 : (2 * (j : Int) + 1).toNat = 2 * j + 1 := by omega
        have q4 : 2 * (j : Int) + 1 < s.size := by omega
        have q5 : 0 ≤ 2 * (j : Int) := by omega
        have q6 : 2 * (j : Int) < s.size := by omega
        have q7 : (2 * (j : Int)).toNat = 2 * j := by omega
        go_quiet ((go_at_call 27; exact quiet_left (hexDigit_any _ _ (by assumption))))
        go_wp2_with fail
        go_ret2
        exact ⟨by simp [decS, HN.out], hg.keep (kd wr nq)⟩
      by_cases p2 : valZ s[2 * j + 1].toNat < 0
      · have hno := decOk_no (l := s.data.toList) (j := j) (by rw [HL.out]; omega) (by unfold pairOk; rw [H2.out]; simp; omega)
        have HN := Lib.hid hno
        clear hno
        go_wp2_with fail
        have q1 := IntWalk.i64_in (2 * (j : Int) + 1) (by omega)
        have q2 : 0 ≤ 2 * (j : Int) + 1 := by omega
        have q3 : (2 * (j : Int) + 1).toNat = 2 * j + 1 := by omega
        have q4 : 2 * (j : Int) + 1 < s.size := by omega
        have q5 : 0 ≤ 2 * (j : Int) := by omega
        have q6 : 2 * (j : Int) < s.size := by omega
        have q7 : (2 * (j : Int)).toNat = 2 * j := by omega
        go_quiet ((go_at_call 27; exact quiet_left (hexDigit_any _ _ (by assumption))))
        go_wp2_with fail
        go_ret2
        exact ⟨by simp [decS, HN.out], hg.keep (kd wr nq)⟩
      go_wp2_with fail
      have q1 := IntWalk.i64_in (2 * (j : Int) + 1) (by omega)
      have q2 : 0 ≤ 2 * (j : Int) + 1 := by omega
      have q3 : (2 * (j : Int) + 1).toNat = 2 * j + 1 := by omega
      have q4 : 2 * (j : Int) + 1 < s.size := by omega
      have q5 : 0 ≤ 2 * (j : Int) := by omega
      have q6 : 2 * (j : Int) < s.size := by omega
      have q7 : (2 * (j : Int)).toNat = 2 * j := by omega
      go_quiet ((go_at_call 27; exact quiet_left (hexDigit_any _ _ (by assumption))))
      go_wp2_with ((at_builtin; refine app_rw rfl _ _ _ rfl _ _ _ _ _ Tryd.underlying24 Tryd.infoU8 rfl _ _ _ _ (hown.keep (kd wr nq)) rfl rfl rfl (by decide) (by omega) hss ?_; intro v' w3 hown3 hg3 _))
      (try clear q1); (try clear q3); (try clear q7)
      go_roundw
      case rel =>
        refine ⟨j + 1, by omega, by go_num, ?_, ?_, (hg.keep (kd wr nq)).comp hg3 (.inl (Nat.le_refl _))⟩
        · rw [decTo_succ]
          refine SU.app1 hown3 ?_
          unfold pairB
          rw [H1.out, H2.out]
          rw [UInt8.toNat_ofNat']
          omega
        · exact hok.succ (by unfold pairOk; rw [H1.out, H2.out]; simp; omega)
      case measure => simp [intOf]; omega
    · obtain rfl : j = s.size / 2 := by have := HV.out; omega
      have hst := hown.string
      have hyes := decOk_yes (by rw [HL.out]; exact HV.out) (by rw [HL.out]; exact hs) (by rw [HL.out]; exact hok)
      have HY := Lib.hid hyes
      clear hyes
      go_wp2_with fail
      go_ret2
      exact ⟨by simp only [decS, HY.out, if_true, HL.out]; rfl, hg⟩
theorem decodeHex_any_od (s : ByteArray) (w : World) (he : s.size % 2 = 1 ∨ 40000 < s.size) (hm : s.size ≤ maxLen) :
    Calls Tryd.prog 14 #[.string s] w fun e w' => e = .returned (.tuple #[.string ⟨(decS s.data.toList).toArray⟩, .bool (decOk s.data.toList)]) ∧ Keep w w' := by
  have hn : decOk s.data.toList = false := by
    have hl : s.data.toList.length = s.size := by simp
    unfold decOk
    rw [hl]
    rcases he with h | h
    · rw [show decide (s.size % 2 = 0) = false by simp; omega]; rfl
    · rw [show decide (s.size ≤ 40000) = false by simp; omega]; simp
  have HN := Lib.hid hn
  clear hn
  unfold maxLen at hm
  by_cases h1 : (s.size : Int) % 2 = 0
  · have h2 : (40000 : Int) < s.size := by omega
    have h3 : (20000 : Int) < s.size / 2 := by omega
    go_enter Tryd.func14, Tryd.ntmps14
    go_wp2_with fail
    go_ret2
    exact ⟨by simp [decS, HN.out], Chg.refl _ _ _⟩
  · have h2 : (s.size : Int) % 2 = 1 := by omega
    by_cases h3 : (40000 : Int) < s.size
    all_goals
      go_enter Tryd.func14, Tryd.ntmps14
      go_wp2_with fail
      go_ret2
      exact ⟨by simp [decS, HN.out], Chg.refl _ _ _⟩
theorem decodeHex_any (s : ByteArray) (w : World) (hm : s.size ≤ maxLen) :
    Calls Tryd.prog 14 #[.string s] w fun e w' => e = .returned (.tuple #[.string ⟨(decS s.data.toList).toArray⟩, .bool (decOk s.data.toList)]) ∧ Keep w w' := by
  by_cases h : s.size % 2 = 0 ∧ s.size ≤ 40000
  · exact decodeHex_any_ev s w h.1 h.2
  · exact decodeHex_any_od s w (by omega) hm
end Go.Proofs.YtpbcaaoohcgalabDoor
