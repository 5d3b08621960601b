/- Frames: rows of rows and rows of marks, and the laws' own functions on them. -/
import Derived.Test.YtkcoehkfhffjkaaLists
import Derived.Test.YtkcoehkfhffjkaaModel
import Derived.StillTailTactics
namespace Go.Proofs.Ytkcoehkfhffjkaa
open Go.ChangeShapes Go.WideShapes Go.ChangeAt Go.RowKit
set_option linter.unusedSimpArgs false
set_option linter.unusedVariables false
set_option maxRecDepth 100000

theorem Rw.far {E sz lo hi : Nat} {w : World} {v : Value} {n : Nat} {xs : List Value} (h : Rw E sz lo hi w v n xs) {g i : Nat} {u : Value} (hne : v.ownBlock ≠ some g) : Rw E sz lo hi (w.setCell ⟨g, i, none⟩ u) v n xs := by
  refine ⟨⟨h.1.1, ?_⟩, h.2⟩
  rcases h.1.2 with hn | ⟨b, cap, cur, rfl, hb, hg, rest⟩
  · exact .inl hn
  · refine .inr ⟨b, cap, cur, rfl, hb, ?_, rest⟩
    rw [Below.heap_setCell w ⟨g, i, none⟩ u b (by intro e; exact hne (by rw [show b = g from e]; rfl))]; exact hg
/-- An element is replaced by a row that lies beyond. -/
theorem SSv.put {lo hi lo2 hi2 : Nat} {w : World} {g n cap : Nat} {vs : List Value} {rows : List (List Int)} (h : SSv lo hi w (.slice (some ⟨g, 0, none⟩) n cap) vs rows) (hn : n = rows.length) (i : Nat) (hi' : i < rows.length) (v' : Value) (r : List Int) (hr : SI lo2 hi2 w v' r)
    (h1 : lo ≤ lo2) (h2 : hi ≤ lo2) (h3 : hi ≤ hi2) : SSv lo hi2 (w.setCell ⟨g, i, none⟩ v') (.slice (some ⟨g, 0, none⟩) n cap) (vs.set i v') (rows.set i r) := by
  have hlen := h.len
  have hgh : g < hi := h.out.2 g rfl
  refine ⟨?_, ?_, ?_⟩
  · have := (Rw.store (n := rows.length) (by rw [hn] at h; exact h.out) i v').wide (Nat.le_refl lo) h3
    rw [hn]
    simpa using this
  · intro j hj
    simp only [List.length_set] at hj
    by_cases e : j = i
    · subst e
      have e1 : (vs.set j v').getD j undef = v' := by simp [List.getD, show j < vs.length by omega]
      have e2 : (rows.set j r).getD j [] = r := by simp [List.getD, hj]
      rw [e1, e2]
      refine Rw.wide (Rw.far hr ?_) h1 (Nat.le_refl _)
      intro hk
      have := (hr.1.lt g hk).1
      omega
    · have e' : ¬ i = j := fun h => e h.symm
      have e1 : (vs.set i v').getD j undef = vs.getD j undef := by simp [List.getD, List.getElem?_set, e']
      have e2 : (rows.set i r).getD j [] = rows.getD j [] := by simp [List.getD, List.getElem?_set, e']
      rw [e1, e2]
      refine Rw.wide (Rw.far (h.row j hj) ?_) (Nat.le_refl _) h3
      intro hk
      exact Rw.ne h.out (h.row j hj) (by decide) (k := g) (k' := g) rfl hk rfl
  · intro a b hab hb k
    simp only [List.length_set] at hb
    have gd : ∀ j, j < rows.length → (vs.set i v').getD j undef = if j = i then v' else vs.getD j undef := by
      intro j hj
      by_cases e : j = i
      · subst e; simp [List.getD, show j < vs.length by omega]
      · have e' : ¬ i = j := fun h => e h.symm
        simp [List.getD, List.getElem?_set, e, e']
    rw [gd a (by omega), gd b hb]
    intro ha hbk
    by_cases ea : a = i
    · rw [if_pos ea] at ha
      rw [if_neg (by omega)] at hbk
      have x1 := (hr.1.lt k ha).1
      have x2 := (h.row b hb).2 k hbk
      omega
    · rw [if_neg ea] at ha
      by_cases eb : b = i
      · rw [if_pos eb] at hbk
        have x1 := (hr.1.lt k hbk).1
        have x2 := (h.row a (by omega)).2 k ha
        omega
      · rw [if_neg eb] at hbk
        exact h.apart a b hab hb k ha hbk
/-! ## Rows that came in -/
def InI (w : World) (v : Value) (zs : List Int) : Prop := ∃ ao cap, v = .slice ao zs.length cap ∧ zs.length ≤ maxLen ∧ ∀ j, j < zs.length → ∃ x : Addr, ao = some x ∧ x.block < w.heap.size ∧ w.cell? (x.add j) = some (.int .i64 (zs.getD j 0))
def InB (w : World) (v : Value) (bs : List Bool) : Prop := ∃ ao cap, v = .slice ao bs.length cap ∧ bs.length ≤ maxLen ∧ ∀ j, j < bs.length → ∃ x : Addr, ao = some x ∧ x.block < w.heap.size ∧ w.cell? (x.add j) = some (.bool (bs.getD j false))
def InSS (w : World) (v : Value) (rows : List (List Int)) : Prop := ∃ ao cap, v = .slice ao rows.length cap ∧ rows.length ≤ maxLen ∧ ∀ j, j < rows.length → ∃ (x : Addr) (u : Value), ao = some x ∧ x.block < w.heap.size ∧ w.cell? (x.add j) = some u ∧ InI w u (rows.getD j [])
theorem InI.keep {w w' : World} {v : Value} {zs : List Int} (h : InI w v zs) (hk : Keep w w') : InI w' v zs := by
  obtain ⟨ao, cap, rfl, hl, hf⟩ := h
  have := hk.size
  refine ⟨ao, cap, rfl, hl, fun j hj => ?_⟩
  obtain ⟨x, e, hb, c1⟩ := hf j hj
  exact ⟨x, e, by omega, (hk.grown none).cell c1 (by simp)⟩
theorem InB.keep {w w' : World} {v : Value} {bs : List Bool} (h : InB w v bs) (hk : Keep w w') : InB w' v bs := by
  obtain ⟨ao, cap, rfl, hl, hf⟩ := h
  have := hk.size
  refine ⟨ao, cap, rfl, hl, fun j hj => ?_⟩
  obtain ⟨x, e, hb, c1⟩ := hf j hj
  exact ⟨x, e, by omega, (hk.grown none).cell c1 (by simp)⟩
theorem InSS.keep {w w' : World} {v : Value} {rows : List (List Int)} (h : InSS w v rows) (hk : Keep w w') : InSS w' v rows := by
  obtain ⟨ao, cap, rfl, hl, hf⟩ := h
  have := hk.size
  refine ⟨ao, cap, rfl, hl, fun j hj => ?_⟩
  obtain ⟨x, u, e, hb, c1, hi⟩ := hf j hj
  exact ⟨x, u, e, by omega, (hk.grown none).cell c1 (by simp), hi.keep hk⟩
def szI (left : Int) (n : Nat) : Int := if left - n < 0 then -1 else left - n
theorem szIntS_any (v : Value) (zs : List Int) (left : Int) (w : World) (h : InI w v zs) (h0 : 0 ≤ left) (h1 : left ≤ 1048576) :
    Calls Try.prog 84 #[v, .int .i64 left] w fun e w' => e = .returned (.int .i64 (szI left zs.length)) ∧ w = w' := by
  obtain ⟨ao, cap, rfl, hl, _⟩ := h
  unfold maxLen at hl
  by_cases hx : left - (zs.length : Int) < 0
  · have HS := Lib.hid (show szI left zs.length = -1 by unfold szI; rw [if_pos hx])
    go_enter Try.func84, Try.ntmps84
    go_wp2_with fail
    go_ret
    exact ⟨by rw [HS.out]; rfl, rfl⟩
  · have HS := Lib.hid (show szI left zs.length = left - zs.length by unfold szI; rw [if_neg hx])
    go_enter Try.func84, Try.ntmps84
    go_wp2_with fail
    go_ret
    exact ⟨by rw [HS.out]; rfl, rfl⟩
theorem szBoolS_any (v : Value) (zs : List Bool) (left : Int) (w : World) (h : InB w v zs) (h0 : 0 ≤ left) (h1 : left ≤ 1048576) :
    Calls Try.prog 86 #[v, .int .i64 left] w fun e w' => e = .returned (.int .i64 (szI left zs.length)) ∧ w = w' := by
  obtain ⟨ao, cap, rfl, hl, _⟩ := h
  unfold maxLen at hl
  by_cases hx : left - (zs.length : Int) < 0
  · have HS := Lib.hid (show szI left zs.length = -1 by unfold szI; rw [if_pos hx])
    go_enter Try.func86, Try.ntmps86
    go_wp2_with fail
    go_ret
    exact ⟨by rw [HS.out]; rfl, rfl⟩
  · have HS := Lib.hid (show szI left zs.length = left - zs.length by unfold szI; rw [if_neg hx])
    go_enter Try.func86, Try.ntmps86
    go_wp2_with fail
    go_ret
    exact ⟨by rw [HS.out]; rfl, rfl⟩
theorem cntRows_app (a b : List (List Int)) : cntRows (a ++ b) = cntRows a + cntRows b := by
  induction a with
  | nil => simp [cntRows]
  | cons r a ih => simp [cntRows, ih]; omega
theorem cntRows_take (rows : List (List Int)) (k : Nat) (h : k < rows.length) : cntRows (rows.take (k + 1)) = cntRows (rows.take k) + (rows.getD k []).length := by
  rw [List.take_succ_eq_append_getElem h, cntRows_app]
  simp [cntRows, List.getD, h]
theorem cntRows_le (rows : List (List Int)) (k : Nat) : cntRows (rows.take k) ≤ cntRows rows := by
  have := cntRows_app (rows.take k) (rows.drop k)
  rw [List.take_append_drop] at this
  omega
theorem szIntSS_any (v : Value) (rows : List (List Int)) (left : Int) (w : World) (h : InSS w v rows) (h0 : 0 ≤ left) (h1 : left ≤ 1048576) :
    Calls Try.prog 85 #[v, .int .i64 left] w fun e w' => ∃ s, e = .returned (.int .i64 s) ∧ -1 ≤ s ∧ (0 ≤ s → s + rows.length + cntRows rows = left) ∧ w = w' := by
  obtain ⟨ao, cap, rfl, hl, hf⟩ := h
  unfold maxLen at hl
  by_cases hx : left - (rows.length : Int) < 0
  · go_enter Try.func85, Try.ntmps85
    go_wp2_with fail
    go_ret
    exact ⟨_, rfl, by omega, by omega, rfl⟩
  · go_enter Try.func85, Try.ntmps85
    go_wp2_with fail
    go_loop [1, 5] (fun s i => ∃ k : Nat, k ≤ rows.length ∧ i = .int .i64 k ∧ s = .int .i64 (left - rows.length - cntRows (rows.take k)) ∧ 0 ≤ left - rows.length - (cntRows (rows.take k) : Int)) (fun _ i => rows.length - (intOf i).toNat)
    case atStart => exact ⟨0, Nat.zero_le _, rfl, by simp [cntRows], by simp [cntRows]; omega⟩
    case round =>
      obtain ⟨k, hk, rfl, rfl, hs⟩ := hrel
      by_cases hlt : k < rows.length
      · obtain ⟨x, u, rfl, hxb, hc, hu⟩ := hf k hlt
        have HC := Lib.hid (cntRows_take rows k hlt)
        have hle := cntRows_le rows (k + 1)
        generalize hrk : rows.getD k [] = rk at *
        clear hrk
        obtain ⟨bo, d, rfl, hl2, hf2⟩ := hu
        have hu : InI w (.slice bo rk.length d) rk := ⟨bo, d, rfl, hl2, hf2⟩
        clear hf hf2
        by_cases hy : left - rows.length - (cntRows (rows.take k) : Int) - (rk.length : Int) < 0
        · have HS := Lib.hid (show szI (left - rows.length - (cntRows (rows.take k) : Int)) rk.length = -1 by unfold szI; rw [if_pos hy])
          go_wp2_with (go_at_call 84; refine (szIntS_any _ _ _ _ hu (by omega) (by omega)).mono ?_; rw [HS.out]; rintro e w' ⟨rfl, rfl⟩)
          go_ret
          exact ⟨_, rfl, by omega, by omega, rfl⟩
        · have HS := Lib.hid (show szI (left - rows.length - (cntRows (rows.take k) : Int)) rk.length = left - rows.length - (cntRows (rows.take k) : Int) - rk.length by unfold szI; rw [if_neg hy])
          go_wp2_with (go_at_call 84; refine (szIntS_any _ _ _ _ hu (by omega) (by omega)).mono ?_; rw [HS.out]; rintro e w' ⟨rfl, rfl⟩)
          go_round
          case rel => exact ⟨k + 1, by omega, by go_num, by rw [HC.out]; go_num, by rw [HC.out]; omega⟩
          case measure => simp [intOf]; omega
      · obtain rfl : rows.length = k := by omega
        clear hf
        have HT := Lib.hid (show rows.take rows.length = rows by simp)
        go_wp2_with fail
        go_ret
        have hs' := hs
        rw [HT.out] at hs'
        exact ⟨_, rfl, by omega, by omega, rfl⟩
theorem getD_drop {α : Type} (l : List α) (d : α) (k : Nat) (h : k < l.length) : l.drop k = l.getD k d :: l.drop (k + 1) := by
  rw [List.drop_eq_getElem_cons h]; simp [List.getD, h]
/-- The first k are laid, the others are still z. -/
def fillR {α : Type} (l : List α) (z : α) (k : Nat) : List α := l.take k ++ List.replicate (l.length - k) z
theorem fillR_len {α : Type} (l : List α) (z : α) (k : Nat) (hk : k ≤ l.length) : (fillR l z k).length = l.length := by simp [fillR]; omega
theorem fillR_zero {α : Type} (l : List α) (z : α) : fillR l z 0 = List.replicate l.length z := by simp [fillR]
theorem fillR_all {α : Type} (l : List α) (z : α) : fillR l z l.length = l := by simp [fillR]
theorem fillR_set {α : Type} (l : List α) (z d : α) (k : Nat) (hk : k < l.length) : (fillR l z k).set k (l.getD k d) = fillR l z (k + 1) := by
  unfold fillR
  rw [show l.length - k = (l.length - (k + 1)) + 1 by omega, List.replicate_succ, set_at _ _ _ _ _ (by simp; omega), List.take_succ_eq_append_getElem hk]
  simp [List.getD, hk, ← List.take_append_getElem]
theorem toIntS_any (v : Value) (zs : List Int) (w : World) (h : InI w v zs) (hn : zs.length ≤ 1048576) :
    Calls Try.prog 21 #[v] w fun e w' => ∃ v', e = .returned v' ∧ SI w.heap.size w'.heap.size w' v' zs ∧ Keep w w' := by
  obtain ⟨ao, cap, rfl, _, hf⟩ := h
  have HF := Lib.hid hf
  clear hf
  go_enter Try.func21, Try.ntmps21
  go_wp2_with (at_make; refine maken_rw rfl _ _ _ rfl _ _ _ _ Try.underlying32 Try.infoInt .i64 .i64 _ _ zs.length rfl rfl rfl rfl (by omega) (by decide) ?_; intro v1 w1 h1 k1)
  replace h1 := SI.made h1
  obtain ⟨bo, d, e, _, _⟩ := h1.opened
  rw [List.length_replicate] at e
  subst e
  have H1 := Lib.hid h1
  clear h1
  go_loopw [4] (fun i wr => ∃ k : Nat, k ≤ zs.length ∧ i = .int .i64 k ∧ SI w.heap.size w1.heap.size wr (.slice bo zs.length d) (fillR zs 0 k) ∧ w1.heap.size ≤ wr.heap.size ∧ Keep w wr) (fun i _ => zs.length - (intOf i).toNat)
  case atStart => exact ⟨0, Nat.zero_le _, rfl, by rw [fillR_zero]; exact H1.out, Nat.le_refl _, k1⟩
  case round =>
    obtain ⟨k, hk, rfl, hse, hsz, hkr⟩ := hrel
    by_cases hlt : k < zs.length
    · obtain ⟨x, rfl, hxb, hc1⟩ := HF.out k hlt
      have d1 := (hkr.grown none).cell hc1 (by simp)
      have hll := fillR_len zs 0 k hk
      obtain ⟨bo', d', e, _, hf⟩ := hse.opened
      rw [hll] at e hf
      obtain ⟨rfl, rfl⟩ : bo = bo' ∧ d = d' := by simpa using e
      obtain ⟨g, rfl, hg0, hg1, hg2, c1, f1⟩ := hf k hlt
      have H2 := Lib.hid hse
      have HL := Lib.hid hll
      clear e hf hse hll hc1
      generalize hp : zs.getD k 0 = p at *
      have HP := Lib.hid hp
      clear hp
      go_wp2_with fail
      go_roundw
      case rel =>
        refine ⟨k + 1, by omega, by go_num, ?_, by simpa using hsz, hkr.set g _ _ (.inr hg0)⟩
        rw [← fillR_set zs 0 0 k hlt, HP.out]
        exact H2.out.store HL.out.symm k p
      case measure => simp [intOf]; omega
    · obtain rfl : zs.length = k := by omega
      rw [fillR_all] at hse
      go_wp2_with fail
      go_ret
      exact ⟨_, rfl, hse.wide (Nat.le_refl _) hsz, hkr⟩
theorem Try.infoBool : (Try.prog.info? 4).map (fun i => (i.zero, i.size, i.bytes)) = some (some (.bool false), 1, 1) := by kernel_rfl
theorem toBoolS_any (v : Value) (zs : List Bool) (w : World) (h : InB w v zs) (hn : zs.length ≤ 1048576) :
    Calls Try.prog 91 #[v] w fun e w' => ∃ v', e = .returned v' ∧ SB w.heap.size w'.heap.size w' v' zs ∧ Keep w w' := by
  obtain ⟨ao, cap, rfl, _, hf⟩ := h
  have HF := Lib.hid hf
  clear hf
  go_enter Try.func91, Try.ntmps91
  go_wp2_with (at_make; refine maken_rw rfl _ _ _ rfl _ _ _ _ Try.underlying23 Try.infoBool .i64 .i64 _ _ zs.length rfl rfl rfl rfl (by omega) (by decide) ?_; intro v1 w1 h1 k1)
  replace h1 := SB.made h1
  obtain ⟨bo, d, e, _, _⟩ := h1.opened
  rw [List.length_replicate] at e
  subst e
  have H1 := Lib.hid h1
  clear h1
  go_loopw [4] (fun i wr => ∃ k : Nat, k ≤ zs.length ∧ i = .int .i64 k ∧ SB w.heap.size w1.heap.size wr (.slice bo zs.length d) (fillR zs false k) ∧ w1.heap.size ≤ wr.heap.size ∧ Keep w wr) (fun i _ => zs.length - (intOf i).toNat)
  case atStart => exact ⟨0, Nat.zero_le _, rfl, by rw [fillR_zero]; exact H1.out, Nat.le_refl _, k1⟩
  case round =>
    obtain ⟨k, hk, rfl, hse, hsz, hkr⟩ := hrel
    by_cases hlt : k < zs.length
    · obtain ⟨x, rfl, hxb, hc1⟩ := HF.out k hlt
      have d1 := (hkr.grown none).cell hc1 (by simp)
      have hll := fillR_len zs false k hk
      obtain ⟨bo', d', e, _, hf⟩ := hse.opened
      rw [hll] at e hf
      obtain ⟨rfl, rfl⟩ : bo = bo' ∧ d = d' := by simpa using e
      obtain ⟨g, rfl, hg0, hg1, hg2, c1, f1⟩ := hf k hlt
      have H2 := Lib.hid hse
      have HL := Lib.hid hll
      clear e hf hse hll hc1
      generalize hp : zs.getD k false = p at *
      have HP := Lib.hid hp
      clear hp
      go_wp2_with fail
      go_roundw
      case rel =>
        refine ⟨k + 1, by omega, by go_num, ?_, by simpa using hsz, hkr.set g _ _ (.inr hg0)⟩
        rw [← fillR_set zs false false k hlt, HP.out]
        exact H2.out.store HL.out.symm k p
      case measure => simp [intOf]; omega
    · obtain rfl : zs.length = k := by omega
      rw [fillR_all] at hse
      go_wp2_with fail
      go_ret
      exact ⟨_, rfl, hse.wide (Nat.le_refl _) hsz, hkr⟩
theorem Try.infoInts : (Try.prog.info? 32).map (fun i => (i.zero, i.size, i.bytes)) = some (some (.slice none 0 0), 1, 24) := by kernel_rfl
theorem SSv.made {lo hi : Nat} {w : World} {v : Value} {n : Nat} (h : Rw 32 1 lo hi w v n (madeCells (Value.slice none 0 0).cells (n * 1)).toList) : SSv lo hi w v (List.replicate n (.slice none 0 0)) (List.replicate n []) := by
  rw [Nat.mul_one, show (Value.slice none 0 0).cells = #[Value.slice none 0 0] from rfl, toList_madeCells_one] at h
  refine ⟨by simpa using h, fun i hi => ?_, fun i j hij hj k hk => ?_⟩
  · have hi' : i < n := by simpa using hi
    simp only [List.getD, List.getElem?_replicate, hi', if_true, Option.getD_some]
    exact SI.nil _ _ _
  · have hj' : j < n := by simpa using hj
    simp [List.getD, List.getElem?_replicate, show i < n by omega, Value.ownBlock] at hk
theorem toIntSS_any (v : Value) (rows : List (List Int)) (w : World) (h : InSS w v rows) (hn : rows.length ≤ 1048576) (hr : ∀ j, j < rows.length → (rows.getD j []).length ≤ 1048576) :
    Calls Try.prog 90 #[v] w fun e w' => ∃ v', e = .returned v' ∧ SS w.heap.size w'.heap.size w' v' rows ∧ Keep w w' := by
  obtain ⟨ao, cap, rfl, _, hf⟩ := h
  have HF := Lib.hid hf
  have HR := Lib.hid hr
  clear hf hr
  go_enter Try.func90, Try.ntmps90
  go_wp2_with (at_make; refine maken_rw rfl _ _ _ rfl _ _ _ _ Try.underlying22 Try.infoInts .i64 .i64 _ _ rows.length rfl rfl rfl rfl (by omega) (by decide) ?_; intro v1 w1 h1 k1)
  replace h1 := SSv.made h1
  obtain ⟨bo, d, e, _, _⟩ := h1.opened
  rw [List.length_replicate] at e
  subst e
  have H1 := Lib.hid h1
  clear h1
  go_loopw [4] (fun i wr => ∃ (k : Nat) (vs : List Value), k ≤ rows.length ∧ i = .int .i64 k ∧ SSv w.heap.size wr.heap.size wr (.slice bo rows.length d) vs (fillR rows [] k) ∧ Keep w wr) (fun i _ => rows.length - (intOf i).toNat)
  case atStart => exact ⟨0, _, Nat.zero_le _, rfl, by rw [fillR_zero]; exact H1.out, k1⟩
  case round =>
    obtain ⟨k, vs, hk, rfl, hse, hkr⟩ := hrel
    by_cases hlt : k < rows.length
    · obtain ⟨x, u, rfl, hxb, hc1, hu⟩ := HF.out k hlt
      have d1 := (hkr.grown none).cell hc1 (by simp)
      have hu' := hu.keep hkr
      have hr := HR.out k hlt
      clear hc1 hu
      obtain ⟨uo, ud, rfl, hl2, hf2⟩ := hu'
      have hu' : InI wr (.slice uo (rows.getD k []).length ud) (rows.getD k []) := ⟨uo, ud, rfl, hl2, hf2⟩
      clear hf2 hl2
      generalize hp : rows.getD k [] = p at *
      have HP := Lib.hid hp
      clear hp
      go_wp2_with fail
      refine (toIntS_any _ _ _ hu' hr).mono ?_
      rintro e w2 ⟨v2, rfl, h2, k2⟩
      have hse2 := hse.same (k2.at_ (by omega))
      have hll := fillR_len rows [] k hk
      obtain ⟨bo', d', e, _, hf⟩ := hse2.opened
      rw [hll] at e hf
      obtain ⟨rfl, rfl⟩ : bo = bo' ∧ d = d' := by simpa using e
      obtain ⟨g, rfl, hg0, hg1, hg2, c1, f1⟩ := hf k hlt
      obtain ⟨zo, zd, rfl, _, _⟩ := h2.opened
      have H2 := Lib.hid hse2
      have HL := Lib.hid hll
      have HV := Lib.hid h2
      have hk2 := k2.size
      clear e hf hse2 hll hse h2
      go_wp2_with fail
      go_roundw
      case rel =>
        refine ⟨k + 1, vs.set k (.slice zo p.length zd), by omega, by go_num, ?_, (hkr.keep k2).set g _ _ (.inr hg0)⟩
        rw [← fillR_set rows [] [] k hlt, HP.out]
        have := H2.out.put HL.out.symm k (by rw [HL.out]; exact hlt) _ _ HV.out hkr.size (Nat.le_refl _) hk2
        simpa using this
      case measure => simp [intOf]; omega
    · obtain rfl : rows.length = k := by omega
      rw [fillR_all] at hse
      go_wp2_with fail
      go_ret
      exact ⟨_, rfl, ⟨_, hse⟩, hkr⟩
theorem eqIntSS_same {l1 h1 l2 h2 : Nat} {rows : List (List Int)} (v u : Value) (w : World) (f : SS l1 h1 w v rows) (g : SS l2 h2 w u rows) (hlen : rows.length ≤ 100000000) (hr : ∀ j, j < rows.length → (rows.getD j []).length ≤ 100000000) :
    Calls Try.prog 93 #[v, u] w fun e w' => e = .returned (.bool true) ∧ Keep w w' := by
  obtain ⟨vs, f⟩ := f
  obtain ⟨us, g⟩ := g
  obtain ⟨ao, c, rfl, hc, f1⟩ := f.opened
  obtain ⟨bo, d, rfl, hd, f2⟩ := g.opened
  have HR := Lib.hid hr
  have HV := Lib.hid f
  have HU := Lib.hid g
  clear hr f g
  go_enter Try.func93, Try.ntmps93
  go_wp2_with fail
  go_loopw [5] (fun i wr => ∃ k : Nat, k ≤ rows.length ∧ i = .int .i64 k ∧ Keep w wr) (fun i _ => rows.length - (intOf i).toNat)
  case atStart => exact ⟨0, Nat.zero_le _, rfl, Chg.refl _ _ _⟩
  case round =>
    obtain ⟨k, hk, rfl, hg⟩ := hrel
    by_cases hlt : k < rows.length
    · obtain ⟨g, rfl, _, _, _, hc1, _⟩ := f1 k hlt
      obtain ⟨g', rfl, _, _, _, hc2, _⟩ := f2 k hlt
      have hx1 := (hg.grown none).cell hc1 (by simp)
      have hx2 := (hg.grown none).cell hc2 (by simp)
      have hr1 := (HV.out.row k hlt).keep hg
      have hr2 := (HU.out.row k hlt).keep hg
      have hll := HR.out k hlt
      clear hc1 hc2 f1 f2
      generalize rows.getD k [] = r at *
      generalize vs.getD k undef = v1 at *
      generalize us.getD k undef = u1 at *
      obtain ⟨ao1, c1, rfl, _, _⟩ := hr1.opened
      obtain ⟨bo1, d1, rfl, _, _⟩ := hr2.opened
      go_wp2_with fail
      go_still_tail 8, (by kernel_rfl)
      change wpList _ _ _ _ _ wr.drew
      replace hr1 := hr1.keep ((Chg.refl 0 0 wr).drew)
      replace hr2 := hr2.keep ((Chg.refl 0 0 wr).drew)
      have hg' := hg.drew
      clear hx1 hx2 hg
      generalize wr.drew = w2 at *
      go_wp2_with (go_at_call 15; refine (eqIntS_same _ _ _ hr1 hr2 (by omega)).mono ?_; rintro e w3 ⟨rfl, k3⟩)
      go_roundw
      case rel => exact ⟨k + 1, by omega, by go_num, hg'.keep k3⟩
      case measure => simp [intOf]; omega
    · clear f1 f2
      go_wp2_with fail
      go_ret
      exact ⟨rfl, hg⟩
theorem eqBoolS_same {l1 h1 l2 h2 : Nat} {zs : List Bool} (v u : Value) (w : World) (f : SB l1 h1 w v zs) (g : SB l2 h2 w u zs) (hlen : zs.length ≤ 1000000000) :
    Calls Try.prog 94 #[v, u] w fun e w' => e = .returned (.bool true) ∧ Keep w w' := by
  obtain ⟨ao, c, rfl, hc, f1⟩ := f.opened
  obtain ⟨bo, d, rfl, hd, f2⟩ := g.opened
  clear f g
  go_enter Try.func94, Try.ntmps94
  go_wp2_with fail
  go_loopw [5] (fun i wr => ∃ k : Nat, k ≤ zs.length ∧ i = .int .i64 k ∧ Keep w wr) (fun i _ => zs.length - (intOf i).toNat)
  case atStart => exact ⟨0, Nat.zero_le _, rfl, Chg.refl _ _ _⟩
  case round =>
    obtain ⟨k, hk, rfl, hg⟩ := hrel
    by_cases hlt : k < zs.length
    · obtain ⟨g, rfl, _, _, _, hc1, _⟩ := f1 k hlt
      obtain ⟨g', rfl, _, _, _, hc2, _⟩ := f2 k hlt
      have hx1 := (hg.grown none).cell hc1 (by simp)
      have hx2 := (hg.grown none).cell hc2 (by simp)
      clear hc1 hc2 f1 f2
      generalize zs.getD k false = z at hx1 hx2
      go_wp2_with fail
      go_quiet (fail)
      go_wp2_with fail
      go_roundw
      case rel => exact ⟨k + 1, by omega, by go_num, hg.drewN _⟩
      case measure => simp [intOf]; omega
    · clear f1 f2
      go_wp2_with fail
      go_ret
      exact ⟨rfl, hg⟩
theorem markRows_app (k : Int) (a b : List (List Int)) : markRows k (a ++ b) = markRows k a ++ markRows (k + cntRows a) b := by
  induction a generalizing k with
  | nil => simp [markRows, cntRows]
  | cons r a ih => simp [markRows, cntRows, ih, Int.add_assoc]
theorem markRows_len (k : Int) (a : List (List Int)) : (markRows k a).length = a.length := by
  induction a generalizing k with
  | nil => rfl
  | cons r a ih => simp [markRows, ih]
theorem markRows_set (k0 : Int) (rows : List (List Int)) (k : Nat) (hk : k < rows.length) : (markRows k0 (rows.take k) ++ rows.drop k).set k (marks (k0 + cntRows (rows.take k)) (rows.getD k []).length) = markRows k0 (rows.take (k + 1)) ++ rows.drop (k + 1) := by
  rw [List.drop_eq_getElem_cons hk, set_at _ _ _ _ _ (by rw [markRows_len]; simp; omega), List.take_succ_eq_append_getElem hk, markRows_app]
  simp [markRows, marks, List.getD, hk]
theorem markRows_get (k0 : Int) (rows : List (List Int)) (k : Nat) (hk : k < rows.length) : (markRows k0 rows).getD k [] = marks (k0 + cntRows (rows.take k)) (rows.getD k []).length := by
  induction rows generalizing k0 k with
  | nil => simp at hk
  | cons r rows ih =>
    cases k with
    | zero => simp [markRows, cntRows, marks]
    | succ k =>
      have := ih (k0 + r.length) k (by simpa using hk)
      simp only [markRows, List.getD_cons_succ, List.take_succ_cons, cntRows]
      rw [this]
      congr 1
      simp [Int.add_assoc]
end Go.Proofs.Ytkcoehkfhffjkaa
