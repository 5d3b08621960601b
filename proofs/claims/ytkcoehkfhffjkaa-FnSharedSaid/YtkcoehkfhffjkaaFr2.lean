/- Frames: marks, and frames as a whole. -/
import Derived.Test.YtkcoehkfhffjkaaFr
namespace Go.Proofs.Ytkcoehkfhffjkaa
open Go.ChangeShapes Go.WideShapes Go.ChangeAt Go.RowKit
set_option linter.unusedSimpArgs false
set_option linter.unusedVariables false

theorem SS.keepNot {Es : List TypeId} {lo hi : Nat} {w w' : World} {v : Value} {rows : List (List Int)} (h : SS lo hi w v rows) (hk : KeepNot Es w w') (h1 : 32 ∉ Es) (h2 : 3 ∉ Es) : SS lo hi w' v rows := by
  obtain ⟨vs, h⟩ := h
  exact ⟨vs, Rw.keepNot h.out hk h1, fun i hi => Rw.keepNot (h.row i hi) hk h2, h.apart⟩
theorem SB.keepNot {Es : List TypeId} {lo hi : Nat} {w w' : World} {v : Value} {bs : List Bool} (h : SB lo hi w v bs) (hk : KeepNot Es w w') (h1 : 4 ∉ Es) : SB lo hi w' v bs := Rw.keepNot h hk h1
theorem markIntSS_any {lo hi : Nat} {rows : List (List Int)} (v : Value) (k0 : Int) (w : World) (h1 : SS lo hi w v rows) (hlen : rows.length ≤ 100000000) (hcnt : cntRows rows ≤ 100000000) (hk0 : 0 ≤ k0) (hk1 : k0 ≤ 100000000) :
    Calls Try.prog 96 #[v, .int .i64 k0] w fun e w' => e = .returned (.int .i64 (k0 + cntRows rows)) ∧ SS lo hi w' v (markRows k0 rows) ∧ KeepNot [3] w w' ∧ Chg lo hi w w' := by
  obtain ⟨vs, h1⟩ := h1
  obtain ⟨ao, c, rfl, hc, f1⟩ := h1.opened
  clear f1
  go_enter Try.func96, Try.ntmps96
  go_wp2_with fail
  go_loopw [1, 5] (fun m i wr => ∃ k : Nat, k ≤ rows.length ∧ i = .int .i64 k ∧ m = .int .i64 (k0 + cntRows (rows.take k)) ∧ SSv lo hi wr (.slice ao rows.length c) vs (markRows k0 (rows.take k) ++ rows.drop k) ∧ KeepNot [3] w wr ∧ Chg lo hi w wr) (fun _ i _ => rows.length - (intOf i).toNat)
  case atStart => exact ⟨0, Nat.zero_le _, rfl, by simp [cntRows], by simpa [markRows] using h1, KeepNot.refl _ _, Chg.refl _ _ _⟩
  case round =>
    obtain ⟨k, hk, rfl, rfl, hown, hkn, hg⟩ := hrel
    have HKN := Lib.hid hkn
    clear hkn
    have HO := Lib.hid hown
    have HG := Lib.hid hg
    have hl : (markRows k0 (rows.take k) ++ rows.drop k).length = rows.length := by rw [List.length_append, markRows_len]; simp; omega
    have HL := Lib.hid hl
    have hcl := cntRows_le rows k
    obtain ⟨ao', c', e, hc', f1⟩ := hown.opened
    rw [hl] at e hc' f1
    obtain ⟨rfl, rfl⟩ : ao = ao' ∧ c = c' := by simpa using e
    clear e hg
    by_cases hlt : k < rows.length
    · obtain ⟨g, rfl, hbg, hbh, hbs, hc1, hf1⟩ := f1 k hlt
      have hrow := hown.row k (by rw [hl]; exact hlt)
      have er : (markRows k0 (rows.take k) ++ rows.drop k).getD k [] = rows.getD k [] := by
        have hml : (markRows k0 (rows.take k)).length = k := by rw [markRows_len]; simp; omega
        simp only [List.getD, List.getElem?_append, hml]
        simp
      rw [er] at hrow
      have hct := cntRows_take rows k hlt
      have HC := Lib.hid hct
      have hcl2 := cntRows_le rows (k + 1)
      have HS := Lib.hid (markRows_set k0 rows k hlt)
      have hrl : (rows.getD k []).length ≤ 1000000000 := by omega
      clear f1 h1 hl er hct hown
      generalize rows.getD k [] = r at *
      generalize hgv : vs.getD k undef = v1 at *
      have HGV := Lib.hid hgv
      clear hgv
      obtain ⟨bo, d, rfl, _, _⟩ := hrow.opened
      go_wp2_with (go_at_call 18; refine (markIntS_any _ _ _ hrow hrl (by omega) (by omega)).mono ?_; rintro e w2 ⟨rfl, h2, hb2, k2⟩; have H2 := Lib.hid h2; have HB := Lib.hid hb2; have HN2 := Lib.hid (KeepNot.of_row hrow hb2); clear h2 hb2)
      go_roundw
      case rel =>
        refine ⟨k + 1, by omega, by go_num, by rw [HC.out]; go_num, ?_, HKN.out.trans HN2.out, HG.out.trans k2⟩
        rw [← HS.out]
        refine HO.out.setRow k (by rw [HL.out]; exact hlt) _ (by rw [HGV.out]; exact H2.out) ?_
        intro j hj hne
        rw [HGV.out] at hne
        exact HB.out j hj hne
      case measure => simp [intOf]; omega
    · obtain rfl : k = rows.length := by omega
      clear f1 hown
      have HT := Lib.hid (show rows.take rows.length = rows by simp)
      go_wp2_with fail
      go_ret
      refine ⟨by rw [HT.out]; rfl, ⟨vs, ?_⟩, HKN.out, HG.out⟩
      have := HO.out
      simpa using this
theorem heldIntSS_any {lo hi : Nat} {rows : List (List Int)} (v : Value) (k0 : Int) (w : World) (h1 : SS lo hi w v (markRows k0 rows)) (hlen : rows.length ≤ 100000000) (hcnt : cntRows rows ≤ 100000000) (hk0 : 0 ≤ k0) (hk1 : k0 ≤ 100000000) :
    Calls Try.prog 107 #[v, .int .i64 k0] w fun e w' => e = .returned (.int .i64 (k0 + cntRows rows)) ∧ w = w' := by
  obtain ⟨vs, h1⟩ := h1
  obtain ⟨ao, c, rfl, hc, f1⟩ := h1.opened
  rw [markRows_len] at *
  have H1 := Lib.hid h1
  clear h1
  go_enter Try.func107, Try.ntmps107
  go_wp2_with fail
  go_loop [1, 5] (fun m i => ∃ k : Nat, k ≤ rows.length ∧ i = .int .i64 k ∧ m = .int .i64 (k0 + cntRows (rows.take k))) (fun _ i => rows.length - (intOf i).toNat)
  case atStart => exact ⟨0, Nat.zero_le _, rfl, by simp [cntRows]⟩
  case round =>
    obtain ⟨k, hk, rfl, rfl⟩ := hrel
    have hcl := cntRows_le rows k
    by_cases hlt : k < rows.length
    · obtain ⟨g, rfl, _, _, _, hc1, _⟩ := f1 k hlt
      have hrow := H1.out.row k (by rw [markRows_len]; exact hlt)
      rw [markRows_get k0 rows k hlt] at hrow
      have HC := Lib.hid (cntRows_take rows k hlt)
      have hcl2 := cntRows_le rows (k + 1)
      have hct := cntRows_take rows k hlt
      have hrl : (rows.getD k []).length ≤ 1000000000 := by omega
      clear f1 hct
      generalize rows.getD k [] = r at *
      generalize vs.getD k undef = v1 at *
      obtain ⟨bo, d, e, _, _⟩ := hrow.opened
      rw [marks_len] at e
      subst e
      have hnn : ¬ (k0 + (cntRows (rows.take k) : Int) + r.length < 0) := by omega
      go_wp2_with (go_at_call 19; refine (heldIntS_any _ _ _ hrow hrl (by omega) (by omega)).mono ?_; rintro e w' ⟨rfl, rfl⟩)
      go_round
      case rel => exact ⟨k + 1, by omega, by go_num, by rw [HC.out]; go_num⟩
      case measure => simp [intOf]; omega
    · obtain rfl : k = rows.length := by omega
      clear f1
      have HT := Lib.hid (show rows.take rows.length = rows by simp)
      go_wp2_with fail
      go_ret
      exact ⟨rfl, rfl⟩
theorem markBools_len (k0 : Int) (n : Nat) : (markBools k0 n).length = n := by simp [markBools]
theorem markBools_set (k0 : Int) (bs : List Bool) (k : Nat) (hk : k < bs.length) : (markBools k0 k ++ bs.drop k).set k (decide ((k0 + (k : Int)) % 3 = 0)) = markBools k0 (k + 1) ++ bs.drop (k + 1) := by
  rw [List.drop_eq_getElem_cons hk, set_at _ _ _ _ _ (markBools_len k0 k).symm]
  simp [markBools, List.range_succ]
theorem markBoolS_any {lo hi : Nat} {bs : List Bool} (v : Value) (k0 : Int) (w : World) (h1 : SB lo hi w v bs) (hlen : bs.length ≤ 1000000000) (hk0 : 0 ≤ k0) (hk1 : k0 ≤ 1000000000) :
    Calls Try.prog 97 #[v, .int .i64 k0] w fun e w' => e = .returned (.int .i64 (k0 + bs.length)) ∧ SB lo hi w' v (markBools k0 bs.length) ∧ KeepNot [4] w w' ∧ Chg lo hi w w' := by
  obtain ⟨ao, c, rfl, hc, f1⟩ := h1.opened
  clear f1
  go_enter Try.func97, Try.ntmps97
  go_wp2_with fail
  go_loopw [1, 5] (fun m i wr => ∃ k : Nat, k ≤ bs.length ∧ i = .int .i64 k ∧ m = .int .i64 (k0 + k) ∧ SB lo hi wr (.slice ao bs.length c) (markBools k0 k ++ bs.drop k) ∧ KeepNot [4] w wr ∧ Chg lo hi w wr) (fun _ i _ => bs.length - (intOf i).toNat)
  case atStart => exact ⟨0, Nat.zero_le _, rfl, by simp, by simpa [markBools] using h1, KeepNot.refl _ _, Chg.refl _ _ _⟩
  case round =>
    obtain ⟨k, hk, rfl, rfl, hown, hkn, hg⟩ := hrel
    have HKN := Lib.hid hkn
    clear hkn
    have HO := Lib.hid hown
    have HG := Lib.hid hg
    have hl : (markBools k0 k ++ bs.drop k).length = bs.length := by simp [markBools]; omega
    have HL := Lib.hid hl
    obtain ⟨ao', c', e, hc', f1⟩ := hown.opened
    rw [hl] at e hc' f1
    obtain ⟨rfl, rfl⟩ : ao = ao' ∧ c = c' := by simpa using e
    clear e hown h1 hl hg
    by_cases hlt : k < bs.length
    · obtain ⟨g, rfl, hbg, hbh, hbs, hc1, hf1⟩ := f1 k hlt
      clear f1
      have HM := Lib.hid (markBools_set k0 bs k hlt)
      by_cases h3 : (k0 + (k : Int)) % 3 = 0
      · have e1 : (((k0 + (k : Int)) % 3) == 0) = true := by rw [h3]; rfl
        have HD := Lib.hid (show decide ((k0 + (k : Int)) % 3 = 0) = true from decide_eq_true h3)
        go_wp2_with fail
        go_roundw
        case rel =>
          refine ⟨k + 1, by omega, by go_num, by go_num, ?_, HKN.out.trans (KeepNot.of_row HO.out fun j _ hne => Below.heap_setCell _ _ _ j (fun e => hne (by rw [e]; rfl))), HG.out.set g _ _ (.inl ⟨hbg, hbh⟩)⟩
          rw [← HM.out, HD.out]; exact HO.out.store HL.out.symm _ _
        case measure => simp [intOf]; omega
      · have e1 : (((k0 + (k : Int)) % 3) == 0) = false := by rw [beq_eq_false_iff_ne]; exact h3
        have HD := Lib.hid (show decide ((k0 + (k : Int)) % 3 = 0) = false from decide_eq_false h3)
        clear h3
        go_wp2_with fail
        go_roundw
        case rel =>
          refine ⟨k + 1, by omega, by go_num, by go_num, ?_, HKN.out.trans (KeepNot.of_row HO.out fun j _ hne => Below.heap_setCell _ _ _ j (fun e => hne (by rw [e]; rfl))), HG.out.set g _ _ (.inl ⟨hbg, hbh⟩)⟩
          rw [← HM.out, HD.out]; exact HO.out.store HL.out.symm _ _
        case measure => simp [intOf]; omega
    · obtain rfl : k = bs.length := by omega
      clear f1
      go_wp2_with fail
      go_ret
      exact ⟨rfl, by simpa using HO.out, HKN.out, HG.out⟩
theorem heldBoolS_any {lo hi : Nat} {n : Nat} (v : Value) (k0 : Int) (w : World) (h1 : SB lo hi w v (markBools k0 n)) (hlen : n ≤ 1000000000) (hk0 : 0 ≤ k0) (hk1 : k0 ≤ 1000000000) :
    Calls Try.prog 108 #[v, .int .i64 k0] w fun e w' => e = .returned (.int .i64 (k0 + n)) ∧ w = w' := by
  obtain ⟨ao, c, rfl, hc, f1⟩ := h1.opened
  rw [markBools_len] at *
  clear h1
  go_enter Try.func108, Try.ntmps108
  go_wp2_with fail
  go_loop [1, 5] (fun m i => ∃ k : Nat, k ≤ n ∧ i = .int .i64 k ∧ m = .int .i64 (k0 + k)) (fun _ i => n - (intOf i).toNat)
  case atStart => exact ⟨0, Nat.zero_le _, rfl, by simp⟩
  case round =>
    obtain ⟨k, hk, rfl, rfl⟩ := hrel
    by_cases hlt : k < n
    · obtain ⟨g, rfl, _, _, _, hc1, _⟩ := f1 k hlt
      have e : (markBools k0 n).getD k false = decide ((k0 + (k : Int)) % 3 = 0) := by simp [markBools, List.getD, hlt]
      rw [e] at hc1
      clear f1 e
      by_cases h3 : (k0 + (k : Int)) % 3 = 0
      · have e1 : (((k0 + (k : Int)) % 3) == 0) = true := by rw [h3]; rfl
        rw [decide_eq_true h3] at hc1
        go_wp2_with fail
        go_round
        case rel => exact ⟨k + 1, by omega, by go_num, by go_num⟩
        case measure => simp [intOf]; omega
      · have e1 : (((k0 + (k : Int)) % 3) == 0) = false := by rw [beq_eq_false_iff_ne]; exact h3
        rw [decide_eq_false h3] at hc1
        clear h3
        go_wp2_with fail
        go_round
        case rel => exact ⟨k + 1, by omega, by go_num, by go_num⟩
        case measure => simp [intOf]; omega
    · obtain rfl : k = n := by omega
      clear f1
      go_wp2_with fail
      go_ret
      exact ⟨rfl, rfl⟩
end Go.Proofs.Ytkcoehkfhffjkaa
