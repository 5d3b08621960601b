/- SetPage: the program's function and the reference's. Printed by wip/tools/mk_tabset.py. -/
import Derived.Test.YtdodclahcjfajaaTabFn
namespace Go.Proofs.Ytdodclahcjfajaa
open Go.ChangeShapes Go.WideShapes Go.ChangeAt Go.RowKit
set_option linter.unusedSimpArgs false
set_option linter.unusedVariables false

theorem setPage_any {lo hi : Nat} {t : TbD} (v : Value) (pg p q : Int) (w : World) (h : TB lo hi w v t) (hlen : t.length ≤ 1000000000) :
    Calls Try.prog 30 #[v, .int .i64 pg, .agg #[.int .i64 p, .int .i64 q]] w fun e w' => ∃ v', e = .returned (.tuple #[v', .bool (setOk t pg (p, q))]) ∧ TB w.heap.size w'.heap.size w' v' (setD t pg (p, q)) ∧ Keep w w' := by
  obtain ⟨ao, c, rfl, hs⟩ := h.opened
  clear h
  cases hb1 : btw pg 0 ((t.length : Int) - 1)
  ·
    have HN := Lib.hid (show setOk t pg (p, q) = false by unfold setOk; rw [hb1]; rfl)
    have HD := Lib.hid (show setD t pg (p, q) = t by unfold setD; rw [HN.out]; rfl)
    go_enter Try.func30, Try.ntmps30
    go_wp2_with fail
    refine (copyTable_any _ _ (TB.keep ⟨_, rfl, hs⟩ (by repeat (first | exact Chg.refl _ _ _ | apply Chg.alloc))) hlen).mono ?_
    rintro e w1 ⟨v1, rfl, h1, k1⟩
    obtain ⟨hc, hf⟩ := kcell k1
    obtain ⟨bo, d, rfl, h1'⟩ := h1.opened
    have hz := k1.size
    clear h1
    simp only [size_alloc] at h1' hz
    have z5 : w.heap.size < w1.heap.size := by omega
    have z6 : w.heap.size + 1 < w1.heap.size := by omega
    have z7 : w.heap.size + 1 + 1 < w1.heap.size := by omega
    go_wp2_with (go_at_call 54; refine (between_any _ _ _ _).mono ?_; rintro e w' ⟨rfl, rfl⟩)
    refine bodyPost_ret (v := .tuple #[.agg #[.slice bo t.length d], .bool false]) (by simp [results, Try.results30, go_sem, hc, z5, z6, z7]) rfl ⟨_, by rw [HN.out], ⟨_, rfl, ?_⟩, ?_⟩
    · rw [HD.out]
      exact (h1'.mv (l := w.heap.size) (h := w.heap.size + 3) (by repeat (first | exact Chg.refl _ _ _ | apply Chg.alloc | (refine Chg.set ?_ _ _ _ (.inl ⟨by omega, by omega⟩)))) (by omega)).wide (by omega) (by simp)
    · exact (by repeat (first | exact Chg.refl _ _ _ | apply Chg.alloc | (refine Chg.set ?_ _ _ _ (.inr (by omega))) | (refine Chg.keep ?_ k1)))
  obtain ⟨hg0', hg1'⟩ := btw_iff.1 hb1
  cases hb2 : btw p 0 2
  ·
    have HN := Lib.hid (show setOk t pg (p, q) = false by unfold setOk; rw [hb1, hb2]; rfl)
    have HD := Lib.hid (show setD t pg (p, q) = t by unfold setD; rw [HN.out]; rfl)
    go_enter Try.func30, Try.ntmps30
    go_wp2_with fail
    refine (copyTable_any _ _ (TB.keep ⟨_, rfl, hs⟩ (by repeat (first | exact Chg.refl _ _ _ | apply Chg.alloc))) hlen).mono ?_
    rintro e w1 ⟨v1, rfl, h1, k1⟩
    obtain ⟨hc, hf⟩ := kcell k1
    obtain ⟨bo, d, rfl, h1'⟩ := h1.opened
    have hz := k1.size
    clear h1
    simp only [size_alloc] at h1' hz
    have z5 : w.heap.size < w1.heap.size := by omega
    have z6 : w.heap.size + 1 < w1.heap.size := by omega
    have z7 : w.heap.size + 1 + 1 < w1.heap.size := by omega
    go_wp2_with (go_at_call 54; refine (between_any _ _ _ _).mono ?_; rintro e w' ⟨rfl, rfl⟩)
    refine bodyPost_ret (v := .tuple #[.agg #[.slice bo t.length d], .bool false]) (by simp [results, Try.results30, go_sem, hc, z5, z6, z7]) rfl ⟨_, by rw [HN.out], ⟨_, rfl, ?_⟩, ?_⟩
    · rw [HD.out]
      exact (h1'.mv (l := w.heap.size) (h := w.heap.size + 3) (by repeat (first | exact Chg.refl _ _ _ | apply Chg.alloc | (refine Chg.set ?_ _ _ _ (.inl ⟨by omega, by omega⟩)))) (by omega)).wide (by omega) (by simp)
    · exact (by repeat (first | exact Chg.refl _ _ _ | apply Chg.alloc | (refine Chg.set ?_ _ _ _ (.inr (by omega))) | (refine Chg.keep ?_ k1)))
  by_cases hq0 : q < 0
  ·
    have HN := Lib.hid (show setOk t pg (p, q) = false by unfold setOk; rw [hb1, hb2, decide_eq_false (show ¬ 0 ≤ q by omega)]; rfl)
    have HD := Lib.hid (show setD t pg (p, q) = t by unfold setD; rw [HN.out]; rfl)
    go_enter Try.func30, Try.ntmps30
    go_wp2_with fail
    refine (copyTable_any _ _ (TB.keep ⟨_, rfl, hs⟩ (by repeat (first | exact Chg.refl _ _ _ | apply Chg.alloc))) hlen).mono ?_
    rintro e w1 ⟨v1, rfl, h1, k1⟩
    obtain ⟨hc, hf⟩ := kcell k1
    obtain ⟨bo, d, rfl, h1'⟩ := h1.opened
    have hz := k1.size
    clear h1
    simp only [size_alloc] at h1' hz
    have z5 : w.heap.size < w1.heap.size := by omega
    have z6 : w.heap.size + 1 < w1.heap.size := by omega
    have z7 : w.heap.size + 1 + 1 < w1.heap.size := by omega
    go_wp2_with (go_at_call 54; refine (between_any _ _ _ _).mono ?_; rintro e w' ⟨rfl, rfl⟩)
    refine bodyPost_ret (v := .tuple #[.agg #[.slice bo t.length d], .bool false]) (by simp [results, Try.results30, go_sem, hc, z5, z6, z7]) rfl ⟨_, by rw [HN.out], ⟨_, rfl, ?_⟩, ?_⟩
    · rw [HD.out]
      exact (h1'.mv (l := w.heap.size) (h := w.heap.size + 3) (by repeat (first | exact Chg.refl _ _ _ | apply Chg.alloc | (refine Chg.set ?_ _ _ _ (.inl ⟨by omega, by omega⟩)))) (by omega)).wide (by omega) (by simp)
    · exact (by repeat (first | exact Chg.refl _ _ _ | apply Chg.alloc | (refine Chg.set ?_ _ _ _ (.inr (by omega))) | (refine Chg.keep ?_ k1)))
  by_cases hz0 : p = 0
  · subst hz0
    by_cases hq : q = 0
    · subst hq
      have HN := Lib.hid (show setOk t pg ((0 : Int), (0 : Int)) = true by unfold setOk; rw [hb1, hb2]; rfl)
      have HD := Lib.hid (show setD t pg ((0 : Int), (0 : Int)) = t.set pg.toNat ((0 : Int), (0 : Int)) by unfold setD; rw [HN.out]; rfl)
      go_enter Try.func30, Try.ntmps30
      go_wp2_with fail
      refine (copyTable_any _ _ (TB.keep ⟨_, rfl, hs⟩ (by repeat (first | exact Chg.refl _ _ _ | apply Chg.alloc))) hlen).mono ?_
      rintro e w1 ⟨v1, rfl, h1, k1⟩
      obtain ⟨hc, hf⟩ := kcell k1
      obtain ⟨bo, d, rfl, h1'⟩ := h1.opened
      have hz := k1.size
      clear h1
      simp only [size_alloc] at h1' hz
      have z5 : w.heap.size < w1.heap.size := by omega
      have z6 : w.heap.size + 1 < w1.heap.size := by omega
      have z7 : w.heap.size + 1 + 1 < w1.heap.size := by omega
      obtain ⟨bo', d', e, _, hf2⟩ := h1'.opened
      obtain ⟨rfl, rfl⟩ : bo = bo' ∧ d = d' := by simpa using e
      obtain ⟨g, rfl, hg0, hg1, hgs, c1, c2, f1, f2⟩ := hf2 pg.toNat (by omega)
      clear e hf2
      have H1 := Lib.hid h1'
      clear h1'
      generalize t.getD pg.toNat (0, 0) = x at *
      have hpl : pg < t.length := by omega
      go_wp2_with (go_at_call 54; refine (between_any _ _ _ _).mono ?_; rintro e w' ⟨rfl, rfl⟩)
      refine bodyPost_ret (v := .tuple #[.agg #[.slice (some ⟨g, 0, none⟩) t.length d], .bool true]) (by simp [results, Try.results30, go_sem, hc, z5, z6, z7]) rfl ⟨_, by rw [HN.out], ⟨_, rfl, ?_⟩, ?_⟩
      · rw [HD.out]
        exact ((H1.out.store rfl pg.toNat (by omega) 0 0).mv (l := w.heap.size) (h := w.heap.size + 3) (by repeat (first | exact Chg.refl _ _ _ | apply Chg.alloc | (refine Chg.set ?_ _ _ _ (.inl ⟨by omega, by omega⟩)))) (by omega)).wide (by omega) (by simp)
      · exact (by repeat (first | exact Chg.refl _ _ _ | apply Chg.alloc | (refine Chg.set ?_ _ _ _ (.inr (by omega))) | (refine Chg.keep ?_ k1)))
    · have z1 : (q != 0) = true := by rw [bne_iff_ne]; exact hq
      have z2 : (q == 0) = false := by rw [beq_eq_false_iff_ne]; exact hq
      have HN := Lib.hid (show setOk t pg ((0 : Int), q) = false by unfold setOk; rw [hb1, hb2, decide_eq_true (show 0 ≤ q by omega), if_pos rfl, z2]; rfl)
      have HD := Lib.hid (show setD t pg ((0 : Int), q) = t by unfold setD; rw [HN.out]; rfl)
      clear hq
      go_enter Try.func30, Try.ntmps30
      go_wp2_with fail
      refine (copyTable_any _ _ (TB.keep ⟨_, rfl, hs⟩ (by repeat (first | exact Chg.refl _ _ _ | apply Chg.alloc))) hlen).mono ?_
      rintro e w1 ⟨v1, rfl, h1, k1⟩
      obtain ⟨hc, hf⟩ := kcell k1
      obtain ⟨bo, d, rfl, h1'⟩ := h1.opened
      have hz := k1.size
      clear h1
      simp only [size_alloc] at h1' hz
      have z5 : w.heap.size < w1.heap.size := by omega
      have z6 : w.heap.size + 1 < w1.heap.size := by omega
      have z7 : w.heap.size + 1 + 1 < w1.heap.size := by omega
      go_wp2_with (go_at_call 54; refine (between_any _ _ _ _).mono ?_; rintro e w' ⟨rfl, rfl⟩)
      refine bodyPost_ret (v := .tuple #[.agg #[.slice bo t.length d], .bool false]) (by simp [results, Try.results30, go_sem, hc, z5, z6, z7]) rfl ⟨_, by rw [HN.out], ⟨_, rfl, ?_⟩, ?_⟩
      · rw [HD.out]
        exact (h1'.mv (l := w.heap.size) (h := w.heap.size + 3) (by repeat (first | exact Chg.refl _ _ _ | apply Chg.alloc | (refine Chg.set ?_ _ _ _ (.inl ⟨by omega, by omega⟩)))) (by omega)).wide (by omega) (by simp)
      · exact (by repeat (first | exact Chg.refl _ _ _ | apply Chg.alloc | (refine Chg.set ?_ _ _ _ (.inr (by omega))) | (refine Chg.keep ?_ k1)))
  · have z1 : (p != 0) = true := by rw [bne_iff_ne]; exact hz0
    have z2 : (p == 0) = false := by rw [beq_eq_false_iff_ne]; exact hz0
    have HN := Lib.hid (show setOk t pg (p, q) = true by unfold setOk; rw [hb1, hb2, decide_eq_true (show 0 ≤ q by omega), if_neg hz0]; rfl)
    have HD := Lib.hid (show setD t pg (p, q) = t.set pg.toNat (p, q) by unfold setD; rw [HN.out]; rfl)
    clear hz0
    go_enter Try.func30, Try.ntmps30
    go_wp2_with fail
    refine (copyTable_any _ _ (TB.keep ⟨_, rfl, hs⟩ (by repeat (first | exact Chg.refl _ _ _ | apply Chg.alloc))) hlen).mono ?_
    rintro e w1 ⟨v1, rfl, h1, k1⟩
    obtain ⟨hc, hf⟩ := kcell k1
    obtain ⟨bo, d, rfl, h1'⟩ := h1.opened
    have hz := k1.size
    clear h1
    simp only [size_alloc] at h1' hz
    have z5 : w.heap.size < w1.heap.size := by omega
    have z6 : w.heap.size + 1 < w1.heap.size := by omega
    have z7 : w.heap.size + 1 + 1 < w1.heap.size := by omega
    obtain ⟨bo', d', e, _, hf2⟩ := h1'.opened
    obtain ⟨rfl, rfl⟩ : bo = bo' ∧ d = d' := by simpa using e
    obtain ⟨g, rfl, hg0, hg1, hgs, c1, c2, f1, f2⟩ := hf2 pg.toNat (by omega)
    clear e hf2
    have H1 := Lib.hid h1'
    clear h1'
    generalize t.getD pg.toNat (0, 0) = x at *
    have hpl : pg < t.length := by omega
    go_wp2_with (go_at_call 54; refine (between_any _ _ _ _).mono ?_; rintro e w' ⟨rfl, rfl⟩)
    refine bodyPost_ret (v := .tuple #[.agg #[.slice (some ⟨g, 0, none⟩) t.length d], .bool true]) (by simp [results, Try.results30, go_sem, hc, z5, z6, z7]) rfl ⟨_, by rw [HN.out], ⟨_, rfl, ?_⟩, ?_⟩
    · rw [HD.out]
      exact ((H1.out.store rfl pg.toNat (by omega) p q).mv (l := w.heap.size) (h := w.heap.size + 3) (by repeat (first | exact Chg.refl _ _ _ | apply Chg.alloc | (refine Chg.set ?_ _ _ _ (.inl ⟨by omega, by omega⟩)))) (by omega)).wide (by omega) (by simp)
    · exact (by repeat (first | exact Chg.refl _ _ _ | apply Chg.alloc | (refine Chg.set ?_ _ _ _ (.inr (by omega))) | (refine Chg.keep ?_ k1)))
theorem setPage_spec {lo hi : Nat} {t : TbD} (v : Value) (pg p q : Int) (w : World) (h : TB lo hi w v t) (hlen : t.length ≤ 1000000000) :
    Calls Try.prog 36 #[v, .int .i64 pg, .agg #[.int .i64 p, .int .i64 q]] w fun e w' => ∃ v', e = .returned (.tuple #[v', .bool (setOk t pg (p, q))]) ∧ TB w.heap.size w'.heap.size w' v' (setD t pg (p, q)) ∧ Keep w w' := by
  obtain ⟨ao, c, rfl, hs⟩ := h.opened
  clear h
  cases hb1 : btw pg 0 ((t.length : Int) - 1)
  ·
    have HN := Lib.hid (show setOk t pg (p, q) = false by unfold setOk; rw [hb1]; rfl)
    have HD := Lib.hid (show setD t pg (p, q) = t by unfold setD; rw [HN.out]; rfl)
    go_enter Try.func36, Try.ntmps36
    go_wp2_with fail
    refine (copyTable_spec _ _ (TB.keep ⟨_, rfl, hs⟩ (by repeat (first | exact Chg.refl _ _ _ | apply Chg.alloc))) hlen).mono ?_
    rintro e w1 ⟨v1, rfl, h1, k1⟩
    obtain ⟨hc, hf⟩ := kcell k1
    obtain ⟨bo, d, rfl, h1'⟩ := h1.opened
    have hz := k1.size
    clear h1
    simp only [size_alloc] at h1' hz
    have z5 : w.heap.size < w1.heap.size := by omega
    have z6 : w.heap.size + 1 < w1.heap.size := by omega
    have z7 : w.heap.size + 1 + 1 < w1.heap.size := by omega
    go_wp2_with (go_at_call 52; refine (l01In_any _ _ _ _).mono ?_; rintro e w' ⟨rfl, rfl⟩)
    refine bodyPost_ret (v := .tuple #[.agg #[.slice bo t.length d], .bool false]) (by simp [results, Try.results36, go_sem, hc, z5, z6, z7]) rfl ⟨_, by rw [HN.out], ⟨_, rfl, ?_⟩, ?_⟩
    · rw [HD.out]
      exact (h1'.mv (l := w.heap.size) (h := w.heap.size + 3) (by repeat (first | exact Chg.refl _ _ _ | apply Chg.alloc | (refine Chg.set ?_ _ _ _ (.inl ⟨by omega, by omega⟩)))) (by omega)).wide (by omega) (by simp)
    · exact (by repeat (first | exact Chg.refl _ _ _ | apply Chg.alloc | (refine Chg.set ?_ _ _ _ (.inr (by omega))) | (refine Chg.keep ?_ k1)))
  obtain ⟨hg0', hg1'⟩ := btw_iff.1 hb1
  cases hb2 : btw p 0 2
  ·
    have HN := Lib.hid (show setOk t pg (p, q) = false by unfold setOk; rw [hb1, hb2]; rfl)
    have HD := Lib.hid (show setD t pg (p, q) = t by unfold setD; rw [HN.out]; rfl)
    go_enter Try.func36, Try.ntmps36
    go_wp2_with fail
    refine (copyTable_spec _ _ (TB.keep ⟨_, rfl, hs⟩ (by repeat (first | exact Chg.refl _ _ _ | apply Chg.alloc))) hlen).mono ?_
    rintro e w1 ⟨v1, rfl, h1, k1⟩
    obtain ⟨hc, hf⟩ := kcell k1
    obtain ⟨bo, d, rfl, h1'⟩ := h1.opened
    have hz := k1.size
    clear h1
    simp only [size_alloc] at h1' hz
    have z5 : w.heap.size < w1.heap.size := by omega
    have z6 : w.heap.size + 1 < w1.heap.size := by omega
    have z7 : w.heap.size + 1 + 1 < w1.heap.size := by omega
    go_wp2_with (go_at_call 52; refine (l01In_any _ _ _ _).mono ?_; rintro e w' ⟨rfl, rfl⟩)
    refine bodyPost_ret (v := .tuple #[.agg #[.slice bo t.length d], .bool false]) (by simp [results, Try.results36, go_sem, hc, z5, z6, z7]) rfl ⟨_, by rw [HN.out], ⟨_, rfl, ?_⟩, ?_⟩
    · rw [HD.out]
      exact (h1'.mv (l := w.heap.size) (h := w.heap.size + 3) (by repeat (first | exact Chg.refl _ _ _ | apply Chg.alloc | (refine Chg.set ?_ _ _ _ (.inl ⟨by omega, by omega⟩)))) (by omega)).wide (by omega) (by simp)
    · exact (by repeat (first | exact Chg.refl _ _ _ | apply Chg.alloc | (refine Chg.set ?_ _ _ _ (.inr (by omega))) | (refine Chg.keep ?_ k1)))
  by_cases hq0 : q < 0
  ·
    have HN := Lib.hid (show setOk t pg (p, q) = false by unfold setOk; rw [hb1, hb2, decide_eq_false (show ¬ 0 ≤ q by omega)]; rfl)
    have HD := Lib.hid (show setD t pg (p, q) = t by unfold setD; rw [HN.out]; rfl)
    go_enter Try.func36, Try.ntmps36
    go_wp2_with fail
    refine (copyTable_spec _ _ (TB.keep ⟨_, rfl, hs⟩ (by repeat (first | exact Chg.refl _ _ _ | apply Chg.alloc))) hlen).mono ?_
    rintro e w1 ⟨v1, rfl, h1, k1⟩
    obtain ⟨hc, hf⟩ := kcell k1
    obtain ⟨bo, d, rfl, h1'⟩ := h1.opened
    have hz := k1.size
    clear h1
    simp only [size_alloc] at h1' hz
    have z5 : w.heap.size < w1.heap.size := by omega
    have z6 : w.heap.size + 1 < w1.heap.size := by omega
    have z7 : w.heap.size + 1 + 1 < w1.heap.size := by omega
    go_wp2_with (go_at_call 52; refine (l01In_any _ _ _ _).mono ?_; rintro e w' ⟨rfl, rfl⟩)
    refine bodyPost_ret (v := .tuple #[.agg #[.slice bo t.length d], .bool false]) (by simp [results, Try.results36, go_sem, hc, z5, z6, z7]) rfl ⟨_, by rw [HN.out], ⟨_, rfl, ?_⟩, ?_⟩
    · rw [HD.out]
      exact (h1'.mv (l := w.heap.size) (h := w.heap.size + 3) (by repeat (first | exact Chg.refl _ _ _ | apply Chg.alloc | (refine Chg.set ?_ _ _ _ (.inl ⟨by omega, by omega⟩)))) (by omega)).wide (by omega) (by simp)
    · exact (by repeat (first | exact Chg.refl _ _ _ | apply Chg.alloc | (refine Chg.set ?_ _ _ _ (.inr (by omega))) | (refine Chg.keep ?_ k1)))
  by_cases hz0 : p = 0
  · subst hz0
    by_cases hq : q = 0
    · subst hq
      have HN := Lib.hid (show setOk t pg ((0 : Int), (0 : Int)) = true by unfold setOk; rw [hb1, hb2]; rfl)
      have HD := Lib.hid (show setD t pg ((0 : Int), (0 : Int)) = t.set pg.toNat ((0 : Int), (0 : Int)) by unfold setD; rw [HN.out]; rfl)
      go_enter Try.func36, Try.ntmps36
      go_wp2_with fail
      refine (copyTable_spec _ _ (TB.keep ⟨_, rfl, hs⟩ (by repeat (first | exact Chg.refl _ _ _ | apply Chg.alloc))) hlen).mono ?_
      rintro e w1 ⟨v1, rfl, h1, k1⟩
      obtain ⟨hc, hf⟩ := kcell k1
      obtain ⟨bo, d, rfl, h1'⟩ := h1.opened
      have hz := k1.size
      clear h1
      simp only [size_alloc] at h1' hz
      have z5 : w.heap.size < w1.heap.size := by omega
      have z6 : w.heap.size + 1 < w1.heap.size := by omega
      have z7 : w.heap.size + 1 + 1 < w1.heap.size := by omega
      obtain ⟨bo', d', e, _, hf2⟩ := h1'.opened
      obtain ⟨rfl, rfl⟩ : bo = bo' ∧ d = d' := by simpa using e
      obtain ⟨g, rfl, hg0, hg1, hgs, c1, c2, f1, f2⟩ := hf2 pg.toNat (by omega)
      clear e hf2
      have H1 := Lib.hid h1'
      clear h1'
      generalize t.getD pg.toNat (0, 0) = x at *
      have hpl : pg < t.length := by omega
      go_wp2_with (go_at_call 52; refine (l01In_any _ _ _ _).mono ?_; rintro e w' ⟨rfl, rfl⟩)
      refine bodyPost_ret (v := .tuple #[.agg #[.slice (some ⟨g, 0, none⟩) t.length d], .bool true]) (by simp [results, Try.results36, go_sem, hc, z5, z6, z7]) rfl ⟨_, by rw [HN.out], ⟨_, rfl, ?_⟩, ?_⟩
      · rw [HD.out]
        exact ((H1.out.store rfl pg.toNat (by omega) 0 0).mv (l := w.heap.size) (h := w.heap.size + 3) (by repeat (first | exact Chg.refl _ _ _ | apply Chg.alloc | (refine Chg.set ?_ _ _ _ (.inl ⟨by omega, by omega⟩)))) (by omega)).wide (by omega) (by simp)
      · exact (by repeat (first | exact Chg.refl _ _ _ | apply Chg.alloc | (refine Chg.set ?_ _ _ _ (.inr (by omega))) | (refine Chg.keep ?_ k1)))
    · have z1 : (q != 0) = true := by rw [bne_iff_ne]; exact hq
      have z2 : (q == 0) = false := by rw [beq_eq_false_iff_ne]; exact hq
      have HN := Lib.hid (show setOk t pg ((0 : Int), q) = false by unfold setOk; rw [hb1, hb2, decide_eq_true (show 0 ≤ q by omega), if_pos rfl, z2]; rfl)
      have HD := Lib.hid (show setD t pg ((0 : Int), q) = t by unfold setD; rw [HN.out]; rfl)
      clear hq
      go_enter Try.func36, Try.ntmps36
      go_wp2_with fail
      refine (copyTable_spec _ _ (TB.keep ⟨_, rfl, hs⟩ (by repeat (first | exact Chg.refl _ _ _ | apply Chg.alloc))) hlen).mono ?_
      rintro e w1 ⟨v1, rfl, h1, k1⟩
      obtain ⟨hc, hf⟩ := kcell k1
      obtain ⟨bo, d, rfl, h1'⟩ := h1.opened
      have hz := k1.size
      clear h1
      simp only [size_alloc] at h1' hz
      have z5 : w.heap.size < w1.heap.size := by omega
      have z6 : w.heap.size + 1 < w1.heap.size := by omega
      have z7 : w.heap.size + 1 + 1 < w1.heap.size := by omega
      go_wp2_with (go_at_call 52; refine (l01In_any _ _ _ _).mono ?_; rintro e w' ⟨rfl, rfl⟩)
      refine bodyPost_ret (v := .tuple #[.agg #[.slice bo t.length d], .bool false]) (by simp [results, Try.results36, go_sem, hc, z5, z6, z7]) rfl ⟨_, by rw [HN.out], ⟨_, rfl, ?_⟩, ?_⟩
      · rw [HD.out]
        exact (h1'.mv (l := w.heap.size) (h := w.heap.size + 3) (by repeat (first | exact Chg.refl _ _ _ | apply Chg.alloc | (refine Chg.set ?_ _ _ _ (.inl ⟨by omega, by omega⟩)))) (by omega)).wide (by omega) (by simp)
      · exact (by repeat (first | exact Chg.refl _ _ _ | apply Chg.alloc | (refine Chg.set ?_ _ _ _ (.inr (by omega))) | (refine Chg.keep ?_ k1)))
  · have z1 : (p != 0) = true := by rw [bne_iff_ne]; exact hz0
    have z2 : (p == 0) = false := by rw [beq_eq_false_iff_ne]; exact hz0
    have HN := Lib.hid (show setOk t pg (p, q) = true by unfold setOk; rw [hb1, hb2, decide_eq_true (show 0 ≤ q by omega), if_neg hz0]; rfl)
    have HD := Lib.hid (show setD t pg (p, q) = t.set pg.toNat (p, q) by unfold setD; rw [HN.out]; rfl)
    clear hz0
    go_enter Try.func36, Try.ntmps36
    go_wp2_with fail
    refine (copyTable_spec _ _ (TB.keep ⟨_, rfl, hs⟩ (by repeat (first | exact Chg.refl _ _ _ | apply Chg.alloc))) hlen).mono ?_
    rintro e w1 ⟨v1, rfl, h1, k1⟩
    obtain ⟨hc, hf⟩ := kcell k1
    obtain ⟨bo, d, rfl, h1'⟩ := h1.opened
    have hz := k1.size
    clear h1
    simp only [size_alloc] at h1' hz
    have z5 : w.heap.size < w1.heap.size := by omega
    have z6 : w.heap.size + 1 < w1.heap.size := by omega
    have z7 : w.heap.size + 1 + 1 < w1.heap.size := by omega
    obtain ⟨bo', d', e, _, hf2⟩ := h1'.opened
    obtain ⟨rfl, rfl⟩ : bo = bo' ∧ d = d' := by simpa using e
    obtain ⟨g, rfl, hg0, hg1, hgs, c1, c2, f1, f2⟩ := hf2 pg.toNat (by omega)
    clear e hf2
    have H1 := Lib.hid h1'
    clear h1'
    generalize t.getD pg.toNat (0, 0) = x at *
    have hpl : pg < t.length := by omega
    go_wp2_with (go_at_call 52; refine (l01In_any _ _ _ _).mono ?_; rintro e w' ⟨rfl, rfl⟩)
    refine bodyPost_ret (v := .tuple #[.agg #[.slice (some ⟨g, 0, none⟩) t.length d], .bool true]) (by simp [results, Try.results36, go_sem, hc, z5, z6, z7]) rfl ⟨_, by rw [HN.out], ⟨_, rfl, ?_⟩, ?_⟩
    · rw [HD.out]
      exact ((H1.out.store rfl pg.toNat (by omega) p q).mv (l := w.heap.size) (h := w.heap.size + 3) (by repeat (first | exact Chg.refl _ _ _ | apply Chg.alloc | (refine Chg.set ?_ _ _ _ (.inl ⟨by omega, by omega⟩)))) (by omega)).wide (by omega) (by simp)
    · exact (by repeat (first | exact Chg.refl _ _ _ | apply Chg.alloc | (refine Chg.set ?_ _ _ _ (.inr (by omega))) | (refine Chg.keep ?_ k1)))
end Go.Proofs.Ytdodclahcjfajaa
