/- Tables: the laws' own functions on them. -/
import Derived.Test.YtkcoehkfhffjkaaLists
import Derived.Test.YtkcoehkfhffjkaaModel
import Derived.Outline
import Derived.StillTailTactics
namespace Go.Proofs.Ytkcoehkfhffjkaa
open Go.ChangeShapes Go.WideShapes Go.ChangeAt Go.RowKit
set_option linter.unusedSimpArgs false
set_option linter.unusedVariables false
set_option maxRecDepth 100000

/-- A row of entries that came in. -/
def InEs (w : World) (v : Value) (es : TbD) : Prop := ∃ ao cap, v = .slice ao es.length cap ∧ es.length ≤ maxLen ∧ ∀ j, j < es.length → ∃ x : Addr, ao = some x ∧ x.block < w.heap.size ∧ w.cell? (x.add (j * 2)) = some (.int .i64 (es.getD j (0, 0)).1) ∧ w.cell? ⟨(x.add (j * 2)).block, (x.add (j * 2)).off + 1, none⟩ = some (.int .i64 (es.getD j (0, 0)).2)
def InTb (w : World) (v : Value) (t : TbD) : Prop := ∃ s, v = .agg #[s] ∧ InEs w s t
theorem add_next (x : Addr) (n : Nat) : x.add (n + 1) = ⟨(x.add n).block, (x.add n).off + 1, none⟩ := by
  unfold Addr.add
  by_cases h : n = 0
  · subst h; simp
  · simp [h, Nat.add_assoc]
theorem Try.infoEntry : (Try.prog.info? 65).map (fun i => (i.zero, i.size, i.bytes)) = some (some (.agg #[.int .i64 0, .int .i64 0]), 2, 16) := by kernel_rfl
theorem toEntry_any (a b : Int) (w : World) :
    Calls Try.prog 116 #[.agg #[.int .i64 a, .int .i64 b]] w fun e w' => e = .returned (.agg #[.int .i64 a, .int .i64 b]) ∧ Keep w w' := by
  go_enter Try.func116, Try.ntmps116
  go_wp2_with fail
  exact bodyPost_ret (v := .agg #[.int .i64 a, .int .i64 b]) (by simp [results, Try.results116, go_sem]) rfl ⟨rfl, by repeat (first | exact Chg.refl _ _ _ | apply Chg.alloc)⟩
/-- What is left of a number of values, -1 if it is below 0. -/
def szZ (left : Int) (n : Nat) : Int := if left - n < 0 then -1 else left - n
theorem szEntryS_any (v : Value) (es : TbD) (left : Int) (w : World) (h : InEs w v es) (h0 : 0 ≤ left) (h1 : left ≤ 1048576) :
    Calls Try.prog 87 #[v, .int .i64 left] w fun e w' => e = .returned (.int .i64 (szZ left es.length)) ∧ w = w' := by
  obtain ⟨ao, cap, rfl, hl, _⟩ := h
  unfold maxLen at hl
  by_cases hx : left - (es.length : Int) < 0
  · have HS := Lib.hid (show szZ left es.length = -1 by unfold szZ; rw [if_pos hx])
    go_enter Try.func87, Try.ntmps87
    go_wp2_with fail
    go_ret
    exact ⟨by rw [HS.out]; rfl, rfl⟩
  · have HS := Lib.hid (show szZ left es.length = left - es.length by unfold szZ; rw [if_neg hx])
    go_enter Try.func87, Try.ntmps87
    go_wp2_with fail
    go_ret
    exact ⟨by rw [HS.out]; rfl, rfl⟩
theorem getD_cast {α : Type} (l : List α) (d : α) (k : Nat) (h : k < l.length) : l.drop k = l.getD k d :: l.drop (k + 1) := by
  rw [List.drop_eq_getElem_cons h]; simp [List.getD, h]
/-- The first k are laid, the others are still z. -/
def fillTo {α : Type} (l : List α) (z : α) (k : Nat) : List α := l.take k ++ List.replicate (l.length - k) z
theorem fillTo_len {α : Type} (l : List α) (z : α) (k : Nat) (hk : k ≤ l.length) : (fillTo l z k).length = l.length := by simp [fillTo]; omega
theorem fillTo_zero {α : Type} (l : List α) (z : α) : fillTo l z 0 = List.replicate l.length z := by simp [fillTo]
theorem fillTo_all {α : Type} (l : List α) (z : α) : fillTo l z l.length = l := by simp [fillTo]
theorem fillTo_set {α : Type} (l : List α) (z d : α) (k : Nat) (hk : k < l.length) : (fillTo l z k).set k (l.getD k d) = fillTo l z (k + 1) := by
  unfold fillTo
  rw [show l.length - k = (l.length - (k + 1)) + 1 by omega, List.replicate_succ, set_at _ _ _ _ _ (by simp; omega), List.take_succ_eq_append_getElem hk]
  simp [List.getD, hk, ← List.take_append_getElem]
theorem SE.made {lo hi : Nat} {w : World} {v : Value} {n : Nat} (h : Rw 65 2 lo hi w v n (madeCells (Value.agg #[.int .i64 0, .int .i64 0]).cells (n * 2)).toList) : SE lo hi w v (List.replicate n (0, 0)) := by
  unfold SE
  have e : (madeCells (Value.agg #[.int .i64 0, .int .i64 0]).cells (n * 2)).toList = entCells (List.replicate n (0, 0)) := by
    apply List.ext_getElem?
    intro i
    by_cases hi : i < n * 2
    · have h1 : ((madeCells (Value.agg #[.int .i64 0, .int .i64 0]).cells (n * 2)).toList)[i]? = some (.int .i64 0) := by
        simp only [madeCells, Value.cells]
        rw [Array.getElem?_toList, Array.getElem?_map, Array.getElem?_range, if_pos hi]
        rcases (show i % 2 = 0 ∨ i % 2 = 1 by omega) with e | e <;> simp [e]
      have h2 := entCells_get (List.replicate n (0, 0)) (i / 2) (by simp; omega)
      rw [h1]
      by_cases e : i % 2 = 0
      · have := h2.1
        rw [show i / 2 * 2 = i by omega] at this
        rw [this]; simp [List.getD, List.getElem?_replicate]; split <;> rfl
      · have := h2.2
        rw [show i / 2 * 2 + 1 = i by omega] at this
        rw [this]; simp [List.getD, List.getElem?_replicate]; split <;> rfl
    · rw [List.getElem?_eq_none (by simp [size_madeCells]; omega), List.getElem?_eq_none (by rw [entCells_len]; simp; omega)]
  rw [e] at h
  simpa using h
theorem toEntryS_any (v : Value) (es : TbD) (w : World) (h : InEs w v es) (hn : es.length ≤ 1048576) :
    Calls Try.prog 92 #[v] w fun e w' => ∃ v', e = .returned v' ∧ SE w.heap.size w'.heap.size w' v' es ∧ Keep w w' := by
  obtain ⟨ao, cap, rfl, _, hf⟩ := h
  have HF := Lib.hid hf
  clear hf
  go_enter Try.func92, Try.ntmps92
  go_wp2_with (at_make; refine maken_rw rfl _ _ _ rfl _ _ _ _ Try.underlying35 Try.infoEntry .i64 .i64 _ _ es.length rfl rfl rfl rfl (by omega) (by decide) ?_; intro v1 w1 h1 k1)
  replace h1 := SE.made h1
  obtain ⟨bo, d, e, _, _⟩ := h1.opened
  rw [List.length_replicate] at e
  subst e
  have H1 := Lib.hid h1
  clear h1
  go_loopw [4] (fun i wr => ∃ k : Nat, k ≤ es.length ∧ i = .int .i64 k ∧ SE w.heap.size w1.heap.size wr (.slice bo es.length d) (fillTo es (0, 0) k) ∧ w1.heap.size ≤ wr.heap.size ∧ Keep w wr) (fun i _ => es.length - (intOf i).toNat)
  case atStart => exact ⟨0, Nat.zero_le _, rfl, by rw [fillTo_zero]; simpa using H1.out, Nat.le_refl _, k1⟩
  case round =>
    obtain ⟨k, hk, rfl, hse, hsz, hkr⟩ := hrel
    by_cases hlt : k < es.length
    · obtain ⟨x, rfl, hxb, hc1, hc2⟩ := HF.out k hlt
      have d1 := (hkr.grown none).cell hc1 (by simp)
      have d2 := (hkr.grown none).cell hc2 (by simp)
      clear hc1 hc2
      generalize hp : (es.getD k (0, 0)).1 = p at *
      generalize hq : (es.getD k (0, 0)).2 = q at *
      have HP := Lib.hid hp
      have HQ := Lib.hid hq
      clear hp hq
      go_wp2_with fail
      refine (toEntry_any _ _ _).mono ?_
      rintro e w2 ⟨rfl, k2⟩
      have h2 := hse.keep k2
      have hll := fillTo_len es (0, 0) k hk
      obtain ⟨bo', d', e, _, hf⟩ := h2.opened
      rw [hll] at e hf
      obtain ⟨rfl, rfl⟩ : bo = bo' ∧ d = d' := by simpa using e
      obtain ⟨g, rfl, hg0, hg1, hg2, c1, c2, f1, f2⟩ := hf k hlt
      have H2 := Lib.hid h2
      have HL := Lib.hid hll
      have hk2 := k2.size
      clear e hf h2 hll hse
      go_wp2_with fail
      go_roundw
      case rel =>
        refine ⟨k + 1, by omega, by go_num, ?_, by simp; omega, ((hkr.keep k2).set g _ _ (.inr hg0)).set g _ _ (.inr hg0)⟩
        rw [← fillTo_set es (0, 0) (0, 0) k hlt]
        have := H2.out.store HL.out.symm k (by rw [HL.out]; exact hlt) p q
        rw [show (p, q) = es.getD k (0, 0) from Prod.ext HP.out.symm HQ.out.symm] at this
        exact this
      case measure => simp [intOf]; omega
    · obtain rfl : es.length = k := by omega
      rw [fillTo_all] at hse
      go_wp2_with fail
      go_ret
      exact ⟨_, rfl, hse.wide (Nat.le_refl _) hsz, hkr⟩
/-- A table in memory that calls made. -/
def TB (lo hi : Nat) (w : World) (v : Value) (t : TbD) : Prop := ∃ s, v = .agg #[s] ∧ SE lo hi w s t
theorem TB.mv {l h lo hi : Nat} {w w' : World} {v : Value} {t : TbD} (hr : TB lo hi w v t) (hc : Chg l h w w') (hd : hi ≤ l ∨ h ≤ lo ∨ h ≤ l ∨ hi ≤ lo ∨ w.heap.size ≤ l) : TB lo hi w' v t := by
  obtain ⟨s, e, hs⟩ := hr; exact ⟨s, e, hs.mv hc hd⟩
theorem TB.keep {lo hi : Nat} {w w' : World} {v : Value} {t : TbD} (hr : TB lo hi w v t) (hc : Keep w w') : TB lo hi w' v t := hr.mv hc (.inr (.inl (Nat.zero_le _)))
theorem TB.wide {lo hi lo' hi' : Nat} {w : World} {v : Value} {t : TbD} (hr : TB lo hi w v t) (h1 : lo' ≤ lo) (h2 : hi ≤ hi') : TB lo' hi' w v t := by
  obtain ⟨s, e, hs⟩ := hr; exact ⟨s, e, hs.wide h1 h2⟩
theorem szTable_any (v : Value) (t : TbD) (left : Int) (w : World) (h : InTb w v t) (h0 : 0 ≤ left) (h1 : left ≤ 1048576) :
    Calls Try.prog 48 #[v, .int .i64 left] w fun e w' => e = .returned (.int .i64 (szZ left t.length)) ∧ Keep w w' := by
  obtain ⟨s, rfl, hs⟩ := h
  obtain ⟨ao, cap, rfl, hl, hf⟩ := hs
  have hin := fun (o : Obj) => (show InEs (w.alloc o) (.slice ao t.length cap) t from ⟨ao, cap, rfl, hl, fun j hj => by
    obtain ⟨x, e, hb, c1, c2⟩ := hf j hj
    exact ⟨x, e, by rw [size_alloc]; omega, ((World.grownBy_alloc w o none).cell c1 (by simp)), ((World.grownBy_alloc w o none).cell c2 (by simp))⟩⟩)
  clear hf hl
  by_cases hx : szZ left t.length < 0
  · have HS := Lib.hid (show szZ left t.length = -1 by unfold szZ at *; split at hx <;> split <;> omega)
    go_enter Try.func48, Try.ntmps48
    go_wp2_with (go_at_call 87; refine (szEntryS_any _ _ _ _ (hin _) h0 h1).mono ?_; rintro e w' ⟨rfl, rfl⟩)
    go_ret
    exact ⟨by rw [HS.out]; rfl, (Chg.refl _ _ _).alloc _⟩
  · go_enter Try.func48, Try.ntmps48
    go_wp2_with (go_at_call 87; refine (szEntryS_any _ _ _ _ (hin _) h0 h1).mono ?_; rintro e w' ⟨rfl, rfl⟩)
    go_ret
    exact ⟨rfl, (Chg.refl _ _ _).alloc _⟩
theorem InEs.keep {w w' : World} {v : Value} {es : TbD} (h : InEs w v es) (hk : Keep w w') : InEs w' v es := by
  obtain ⟨ao, cap, rfl, hl, hf⟩ := h
  have := hk.size
  refine ⟨ao, cap, rfl, hl, fun j hj => ?_⟩
  obtain ⟨x, e, hb, c1, c2⟩ := hf j hj
  exact ⟨x, e, by omega, (hk.grown none).cell c1 (by simp), (hk.grown none).cell c2 (by simp)⟩
theorem InTb.keep {w w' : World} {v : Value} {t : TbD} (h : InTb w v t) (hk : Keep w w') : InTb w' v t := by
  obtain ⟨s, e, hs⟩ := h; exact ⟨s, e, hs.keep hk⟩
theorem toTable_any (v : Value) (t : TbD) (w : World) (h : InTb w v t) (hn : t.length ≤ 1048576) :
    Calls Try.prog 51 #[v] w fun e w' => ∃ v', e = .returned v' ∧ TB w.heap.size w'.heap.size w' v' t ∧ Keep w w' := by
  obtain ⟨s, rfl, hs⟩ := h
  obtain ⟨ao, cap, rfl, hl, hf⟩ := hs
  have hin : InEs w (.slice ao t.length cap) t := ⟨ao, cap, rfl, hl, hf⟩
  clear hf hl
  go_enter Try.func51, Try.ntmps51
  go_wp2_with fail
  refine (toEntryS_any _ _ _ (hin.keep (by repeat (first | exact Chg.refl _ _ _ | apply Chg.alloc))) hn).mono ?_
  rintro e w1 ⟨v1, rfl, h1, k1⟩
  obtain ⟨hc, hf⟩ := kcell k1
  obtain ⟨bo, d, rfl, _, _⟩ := h1.opened
  have hz := k1.size
  simp only [size_alloc] at h1 hz
  go_wp2_with fail
  refine bodyPost_ret (v := .agg #[.slice bo t.length d]) (by simp [results, Try.results51, go_sem, hc, hz]) rfl ⟨_, rfl, ⟨_, rfl, ?_⟩, ?_⟩
  · exact (h1.mv (l := w.heap.size) (h := w.heap.size + 3) (((Chg.refl _ _ w1).set _ _ _ (.inl ⟨by omega, by omega⟩)).set _ _ _ (.inl ⟨by omega, by omega⟩)) (by omega)).wide (by omega) (by simp)
  · exact (((((((Chg.refl 0 0 w).alloc _).alloc _).alloc _).keep k1).set _ _ _ (.inr (by omega))).set _ _ _ (.inr (by omega)))
theorem eqEntry_same (a b : Int) (w : World) :
    Calls Try.prog 117 #[.agg #[.int .i64 a, .int .i64 b], .agg #[.int .i64 a, .int .i64 b]] w fun e w' => e = .returned (.bool true) ∧ Keep w w' := by
  go_enter Try.func117, Try.ntmps117
  go_wp2_with fail
  go_ret
  exact ⟨rfl, by repeat (first | exact Chg.refl _ _ _ | apply Chg.alloc)⟩
theorem eqEntryS_same {l1 h1 l2 h2 : Nat} {es : TbD} (v u : Value) (w : World) (f : SE l1 h1 w v es) (g : SE l2 h2 w u es) (hlen : es.length ≤ 1000000000) :
    Calls Try.prog 95 #[v, u] w fun e w' => e = .returned (.bool true) ∧ Keep w w' := by
  obtain ⟨ao, c, rfl, hc, f1⟩ := f.opened
  obtain ⟨bo, d, rfl, hd, f2⟩ := g.opened
  clear f g
  go_enter Try.func95, Try.ntmps95
  go_wp2_with fail
  go_loopw [5] (fun i wr => ∃ k : Nat, k ≤ es.length ∧ i = .int .i64 k ∧ Keep w wr) (fun i _ => es.length - (intOf i).toNat)
  case atStart => exact ⟨0, Nat.zero_le _, rfl, Chg.refl _ _ _⟩
  case round =>
    obtain ⟨k, hk, rfl, hg⟩ := hrel
    by_cases hlt : k < es.length
    · obtain ⟨g, rfl, _, _, _, c1, c2, _⟩ := f1 k hlt
      obtain ⟨g', rfl, _, _, _, d1, d2, _⟩ := f2 k hlt
      have x1 := (hg.grown none).cell c1 (by simp)
      have x2 := (hg.grown none).cell c2 (by simp)
      have y1 := (hg.grown none).cell d1 (by simp)
      have y2 := (hg.grown none).cell d2 (by simp)
      clear c1 c2 d1 d2 f1 f2
      generalize (es.getD k (0, 0)).1 = p at *
      generalize (es.getD k (0, 0)).2 = q at *
      go_wp2_with fail
      go_still_tail 8, (by kernel_rfl)
      clear x1 x2 y1 y2
      change wpList _ _ _ _ _ wr.drew
      have hg' := hg.drew
      generalize wr.drew = w2 at *
      go_wp2_with (go_at_call 117; refine (eqEntry_same _ _ _).mono ?_; rintro e w3 ⟨rfl, k3⟩)
      go_roundw
      case rel => exact ⟨k + 1, by omega, by go_num, hg'.keep k3⟩
      case measure => simp [intOf]; omega
    · clear f1 f2
      go_wp2_with fail
      go_ret
      exact ⟨rfl, hg⟩
theorem eqTable_same {l1 h1 l2 h2 : Nat} {t : TbD} (v u : Value) (w : World) (f : TB l1 h1 w v t) (g : TB l2 h2 w u t) (hlen : t.length ≤ 1000000000) :
    Calls Try.prog 55 #[v, u] w fun e w' => e = .returned (.bool true) ∧ Keep w w' := by
  obtain ⟨s, rfl, hs⟩ := f
  obtain ⟨s', rfl, hs'⟩ := g
  obtain ⟨ao, c, rfl, _, _⟩ := hs.opened
  obtain ⟨bo, d, rfl, _, _⟩ := hs'.opened
  go_enter Try.func55, Try.ntmps55
  go_wp2_with (go_at_call 95; refine (eqEntryS_same _ _ _ (hs.keep (by repeat (first | exact Chg.refl _ _ _ | apply Chg.alloc))) (hs'.keep (by repeat (first | exact Chg.refl _ _ _ | apply Chg.alloc))) hlen).mono ?_; rintro e w1 ⟨rfl, k1⟩)
  go_ret
  exact ⟨rfl, Chg.keep (by repeat (first | exact Chg.refl _ _ _ | apply Chg.alloc)) k1⟩
theorem markEnts_len (k0 : Int) (n : Nat) : (markEnts k0 n).length = n := by simp [markEnts]
theorem markEnts_set (k0 : Int) (es : TbD) (k : Nat) (hk : k < es.length) : (markEnts k0 k ++ es.drop k).set k (k0 + 2 * k, k0 + 2 * k + 1) = markEnts k0 (k + 1) ++ es.drop (k + 1) := by
  rw [List.drop_eq_getElem_cons hk, set_at _ _ _ _ _ (markEnts_len k0 k).symm]
  simp [markEnts, List.range_succ]
theorem markEntryS_any {lo hi : Nat} {es : TbD} (v : Value) (k0 : Int) (w : World) (h1 : SE lo hi w v es) (hlen : es.length ≤ 1000000000) (hk0 : 0 ≤ k0) (hk1 : k0 ≤ 1000000000) :
    Calls Try.prog 98 #[v, .int .i64 k0] w fun e w' => e = .returned (.int .i64 (k0 + 2 * es.length)) ∧ SE lo hi w' v (markEnts k0 es.length) ∧ KeepNot [65] w w' ∧ Chg lo hi w w' := by
  obtain ⟨ao, c, rfl, hc, f1⟩ := h1.opened
  clear f1
  go_enter Try.func98, Try.ntmps98
  go_wp2_with fail
  go_loopw [1, 5] (fun m i wr => ∃ k : Nat, k ≤ es.length ∧ i = .int .i64 k ∧ m = .int .i64 (k0 + 2 * k) ∧ SE lo hi wr (.slice ao es.length c) (markEnts k0 k ++ es.drop k) ∧ KeepNot [65] w wr ∧ Chg lo hi w wr) (fun _ i _ => es.length - (intOf i).toNat)
  case atStart => exact ⟨0, Nat.zero_le _, rfl, by simp, by simpa [markEnts] using h1, KeepNot.refl _ _, Chg.refl _ _ _⟩
  case round =>
    obtain ⟨k, hk, rfl, rfl, hown, hkn, hg⟩ := hrel
    have HKN := Lib.hid hkn
    clear hkn
    have HO := Lib.hid hown
    have HG := Lib.hid hg
    have hl : (markEnts k0 k ++ es.drop k).length = es.length := by simp [markEnts]; omega
    have HL := Lib.hid hl
    obtain ⟨ao', c', e, hc', f1⟩ := hown.opened
    rw [hl] at e hc' f1
    obtain ⟨rfl, rfl⟩ : ao = ao' ∧ c = c' := by simpa using e
    clear e hown h1 hl hg
    by_cases hlt : k < es.length
    · obtain ⟨g, rfl, hbg, hbh, hbs, hc1, hc2, hf1, hf2⟩ := f1 k hlt
      clear f1
      go_wp2_with fail
      go_roundw
      case rel =>
        refine ⟨k + 1, by omega, by go_num, by go_num, ?_, HKN.out.trans (KeepNot.of_row HO.out fun j _ hne => ?_), ?_⟩
        · rw [← markEnts_set k0 es k hlt]; exact HO.out.store HL.out.symm k (by rw [HL.out]; exact hlt) _ _
        · have hx : j ≠ g := fun e => hne (by rw [e]; rfl)
          exact (Below.heap_setCell _ _ _ j hx).trans (Below.heap_setCell _ _ _ j hx)
        · exact (HG.out.set g _ _ (.inl ⟨hbg, hbh⟩)).set g _ _ (.inl ⟨hbg, hbh⟩)
      case measure => simp [intOf]; omega
    · obtain rfl : k = es.length := by omega
      clear f1
      go_wp2_with fail
      go_ret
      exact ⟨rfl, by simpa using HO.out, HKN.out, HG.out⟩
theorem heldEntryS_any {lo hi : Nat} {n : Nat} (v : Value) (k0 : Int) (w : World) (h1 : SE lo hi w v (markEnts k0 n)) (hlen : n ≤ 1000000000) (hk0 : 0 ≤ k0) (hk1 : k0 ≤ 1000000000) :
    Calls Try.prog 109 #[v, .int .i64 k0] w fun e w' => e = .returned (.int .i64 (k0 + 2 * n)) ∧ w = w' := by
  obtain ⟨ao, c, rfl, hc, f1⟩ := h1.opened
  rw [markEnts_len] at *
  clear h1
  go_enter Try.func109, Try.ntmps109
  go_wp2_with fail
  go_loop [1, 5] (fun m i => ∃ k : Nat, k ≤ n ∧ i = .int .i64 k ∧ m = .int .i64 (k0 + 2 * k)) (fun _ i => n - (intOf i).toNat)
  case atStart => exact ⟨0, Nat.zero_le _, rfl, by simp⟩
  case round =>
    obtain ⟨k, hk, rfl, rfl⟩ := hrel
    by_cases hlt : k < n
    · obtain ⟨g, rfl, _, _, _, hc1, hc2, _⟩ := f1 k hlt
      have e : (markEnts k0 n).getD k (0, 0) = (k0 + 2 * k, k0 + 2 * k + 1) := by simp [markEnts, List.getD, hlt]
      rw [e] at hc1 hc2
      clear f1 e
      go_wp2_with fail
      go_round
      case rel => exact ⟨k + 1, by omega, by go_num, by go_num⟩
      case measure => simp [intOf]; omega
    · obtain rfl : k = n := by omega
      clear f1
      go_wp2_with fail
      go_ret
      exact ⟨rfl, rfl⟩
theorem markTable_any {lo hi : Nat} {t : TbD} (v : Value) (k0 : Int) (w : World) (h1 : TB lo hi w v t) (hhi : hi ≤ w.heap.size) (hlen : t.length ≤ 1000000000) (hk0 : 0 ≤ k0) (hk1 : k0 ≤ 1000000000) :
    Calls Try.prog 57 #[v, .int .i64 k0] w fun e w' => e = .returned (.int .i64 (k0 + 2 * t.length)) ∧ TB lo hi w' v (markEnts k0 t.length) ∧ KeepNot [65] w w' ∧ Chg lo hi w w' := by
  obtain ⟨s, rfl, hs⟩ := h1
  obtain ⟨ao, c, rfl, _, _⟩ := hs.opened
  go_enter Try.func57, Try.ntmps57
  go_wp2_with (go_at_call 98; refine (markEntryS_any _ _ _ (hs.keep (by repeat (first | exact Chg.refl _ _ _ | apply Chg.alloc))) hlen hk0 hk1).mono ?_; rintro e w1 ⟨rfl, h1, n1, k1⟩)
  go_ret
  exact ⟨rfl, ⟨_, rfl, h1⟩, (KeepNot.of_keep ((Chg.refl 0 0 w).alloc _)).trans n1, ((Chg.refl lo hi w).alloc _).trans k1⟩
theorem heldTable_any {lo hi : Nat} {n : Nat} (v : Value) (k0 : Int) (w : World) (h1 : TB lo hi w v (markEnts k0 n)) (hlen : n ≤ 1000000000) (hk0 : 0 ≤ k0) (hk1 : k0 ≤ 1000000000) :
    Calls Try.prog 67 #[v, .int .i64 k0] w fun e w' => e = .returned (.int .i64 (k0 + 2 * n)) ∧ Keep w w' := by
  obtain ⟨s, rfl, hs⟩ := h1
  obtain ⟨ao, c, e, _, _⟩ := hs.opened
  rw [markEnts_len] at e
  subst e
  go_enter Try.func67, Try.ntmps67
  go_wp2_with (go_at_call 109; refine (heldEntryS_any _ _ _ (hs.keep (by repeat (first | exact Chg.refl _ _ _ | apply Chg.alloc))) hlen hk0 hk1).mono ?_; rintro e w1 ⟨rfl, rfl⟩)
  go_ret
  exact ⟨rfl, (Chg.refl _ _ _).alloc _⟩
end Go.Proofs.Ytkcoehkfhffjkaa
