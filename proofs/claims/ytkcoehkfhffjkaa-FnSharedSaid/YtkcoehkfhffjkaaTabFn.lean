/- The table's functions: the program's and the reference's. Printed by wip/tools/mk_tabfn.py. -/
import Derived.Test.YtkcoehkfhffjkaaTab
namespace Go.Proofs.Ytkcoehkfhffjkaa
open Go.ChangeShapes Go.WideShapes Go.ChangeAt Go.RowKit
set_option linter.unusedSimpArgs false
set_option linter.unusedVariables false

theorem k0 {w w' : World} (h : w = w') : Keep w w' := by subst h; exact Chg.refl _ _ _
theorem TB.opened {lo hi : Nat} {w : World} {v : Value} {t : TbD} (h : TB lo hi w v t) : ∃ ao c, v = .agg #[.slice ao t.length c] ∧ SE lo hi w (.slice ao t.length c) t := by
  obtain ⟨s, rfl, hs⟩ := h
  obtain ⟨ao, c, rfl, _, _⟩ := hs.opened
  exact ⟨ao, c, rfl, hs⟩
theorem TB.made {lo hi : Nat} {w : World} {v : Value} {n : Nat} (h : SE lo hi w v (List.replicate n (0, 0))) : TB lo hi w (.agg #[v]) (List.replicate n (0, 0)) := ⟨_, rfl, h⟩
theorem pageEntry_any {lo hi : Nat} {t : TbD} (v : Value) (p : Int) (w : World) (h : TB lo hi w v t) (hlen : t.length ≤ 1000000000) :
    Calls Try.prog 52 #[v, .int .i64 p] w fun e w' => e = .returned (.agg #[.int .i64 (entryD t p).1, .int .i64 (entryD t p).2]) ∧ Keep w w' := by
  obtain ⟨ao, c, rfl, hs⟩ := h.opened
  clear h
  cases hb : btw p 0 ((t.length : Int) - 1)
  · have HE := Lib.hid (show entryD t p = (0, 0) by unfold entryD; rw [hb]; rfl)
    clear hs
    go_enter Try.func52, Try.ntmps52
    go_wp2_with (go_at_call 65; refine (between_any _ _ _ _).mono ?_; rintro e w' ⟨rfl, rfl⟩)
    exact bodyPost_ret (v := .agg #[.int .i64 0, .int .i64 0]) (by simp [results, Try.results52, go_sem]) rfl ⟨by rw [HE.out], by repeat (first | exact Chg.refl _ _ _ | apply Chg.alloc)⟩
  · obtain ⟨hp0, hp1⟩ := btw_iff.1 hb
    obtain ⟨ao', c', e, _, hf⟩ := hs.opened
    obtain ⟨rfl, rfl⟩ : ao = ao' ∧ c = c' := by simpa using e
    obtain ⟨g, rfl, _, _, hgs, c1, c2, _⟩ := hf p.toNat (by omega)
    have HE := Lib.hid (show entryD t p = t.getD p.toNat (0, 0) by unfold entryD; rw [hb]; rfl)
    clear e hf hs
    generalize hx : t.getD p.toNat (0, 0) = x at *
    have HX := Lib.hid hx
    clear hx
    have hp2 : p < t.length := by omega
    go_enter Try.func52, Try.ntmps52
    go_wp2_with (go_at_call 65; refine (between_any _ _ _ _).mono ?_; rintro e w' ⟨rfl, rfl⟩)
    exact bodyPost_ret (v := .agg #[.int .i64 x.1, .int .i64 x.2]) (by simp [results, Try.results52, go_sem]) rfl ⟨by rw [HE.out], by repeat (first | exact Chg.refl _ _ _ | apply Chg.alloc)⟩
theorem tableNew_any (n : Int) (w : World) :
    Calls Try.prog 102 #[.int .i64 n] w fun e w' => ∃ v, e = .returned (.tuple #[v, .bool (btw n 1 32)]) ∧ TB w.heap.size w'.heap.size w' v (if btw n 1 32 then List.replicate n.toNat (0, 0) else []) ∧ Keep w w' := by
  cases hb : btw n 1 32
  · go_enter Try.func102, Try.ntmps102
    go_wp2_with (go_at_call 65; refine (between_any _ _ _ _).mono ?_; rintro e w' ⟨rfl, rfl⟩)
    exact bodyPost_ret (v := .tuple #[.agg #[.slice none 0 0], .bool false]) (by simp [results, Try.results102, go_sem]) rfl ⟨_, rfl, ⟨_, rfl, SE.nil _ _ _⟩, by repeat (first | exact Chg.refl _ _ _ | apply Chg.alloc)⟩
  · obtain ⟨h1, h2⟩ := btw_iff.1 hb
    obtain ⟨n, rfl⟩ : ∃ m : Nat, n = m := ⟨n.toNat, by omega⟩
    go_enter Try.func102, Try.ntmps102
    go_wp2_with (first | (go_at_call 65; refine (between_any _ _ _ _).mono ?_; rintro e w' ⟨rfl, rfl⟩) | (at_make; refine maken_rw rfl _ _ _ rfl _ _ _ _ Try.underlying35 Try.infoEntry .i64 .i64 _ _ n rfl rfl rfl rfl (by omega) (by decide) ?_; intro v1 w1 h1 k1; replace h1 := SE.made h1; obtain ⟨bo, d, e, _, _⟩ := h1.opened; rw [List.length_replicate] at e; subst e; obtain ⟨hc, hf⟩ := kcell k1; have hz := k1.size; simp only [size_alloc] at h1 hz))
    refine bodyPost_ret (v := .tuple #[.agg #[.slice bo n d], .bool true]) (by simp [results, Try.results102, go_sem, hc, hz]) rfl ⟨_, rfl, ⟨_, rfl, ?_⟩, ?_⟩
    · try rw [Int.toNat_natCast]
      exact (h1.mv (l := w.heap.size) (h := w.heap.size + 1) ((Chg.refl _ _ w1).set _ _ _ (.inl ⟨by omega, by omega⟩)) (by omega)).wide (by omega) (by simp)
    · exact ((((Chg.refl 0 0 w).alloc _).keep k1).set _ _ _ (.inr (by omega)))
theorem pageEntry_spec {lo hi : Nat} {t : TbD} (v : Value) (p : Int) (w : World) (h : TB lo hi w v t) (hlen : t.length ≤ 1000000000) :
    Calls Try.prog 35 #[v, .int .i64 p] w fun e w' => e = .returned (.agg #[.int .i64 (entryD t p).1, .int .i64 (entryD t p).2]) ∧ Keep w w' := by
  obtain ⟨ao, c, rfl, hs⟩ := h.opened
  clear h
  cases hb : btw p 0 ((t.length : Int) - 1)
  · have HE := Lib.hid (show entryD t p = (0, 0) by unfold entryD; rw [hb]; rfl)
    clear hs
    go_enter Try.func35, Try.ntmps35
    go_wp2_with (go_at_call 62; refine (l01In_any _ _ _ _).mono ?_; rintro e w' ⟨rfl, rfl⟩)
    exact bodyPost_ret (v := .agg #[.int .i64 0, .int .i64 0]) (by simp [results, Try.results35, go_sem]) rfl ⟨by rw [HE.out], by repeat (first | exact Chg.refl _ _ _ | apply Chg.alloc)⟩
  · obtain ⟨hp0, hp1⟩ := btw_iff.1 hb
    obtain ⟨ao', c', e, _, hf⟩ := hs.opened
    obtain ⟨rfl, rfl⟩ : ao = ao' ∧ c = c' := by simpa using e
    obtain ⟨g, rfl, _, _, hgs, c1, c2, _⟩ := hf p.toNat (by omega)
    have HE := Lib.hid (show entryD t p = t.getD p.toNat (0, 0) by unfold entryD; rw [hb]; rfl)
    clear e hf hs
    generalize hx : t.getD p.toNat (0, 0) = x at *
    have HX := Lib.hid hx
    clear hx
    have hp2 : p < t.length := by omega
    go_enter Try.func35, Try.ntmps35
    go_wp2_with (go_at_call 62; refine (l01In_any _ _ _ _).mono ?_; rintro e w' ⟨rfl, rfl⟩)
    exact bodyPost_ret (v := .agg #[.int .i64 x.1, .int .i64 x.2]) (by simp [results, Try.results35, go_sem]) rfl ⟨by rw [HE.out], by repeat (first | exact Chg.refl _ _ _ | apply Chg.alloc)⟩
theorem tableNew_spec (n : Int) (w : World) :
    Calls Try.prog 100 #[.int .i64 n] w fun e w' => ∃ v, e = .returned (.tuple #[v, .bool (btw n 1 32)]) ∧ TB w.heap.size w'.heap.size w' v (if btw n 1 32 then List.replicate n.toNat (0, 0) else []) ∧ Keep w w' := by
  cases hb : btw n 1 32
  · go_enter Try.func100, Try.ntmps100
    go_wp2_with (go_at_call 62; refine (l01In_any _ _ _ _).mono ?_; rintro e w' ⟨rfl, rfl⟩)
    exact bodyPost_ret (v := .tuple #[.agg #[.slice none 0 0], .bool false]) (by simp [results, Try.results100, go_sem]) rfl ⟨_, rfl, ⟨_, rfl, SE.nil _ _ _⟩, by repeat (first | exact Chg.refl _ _ _ | apply Chg.alloc)⟩
  · obtain ⟨h1, h2⟩ := btw_iff.1 hb
    obtain ⟨n, rfl⟩ : ∃ m : Nat, n = m := ⟨n.toNat, by omega⟩
    go_enter Try.func100, Try.ntmps100
    go_wp2_with (first | (go_at_call 62; refine (l01In_any _ _ _ _).mono ?_; rintro e w' ⟨rfl, rfl⟩) | (at_make; refine maken_rw rfl _ _ _ rfl _ _ _ _ Try.underlying35 Try.infoEntry .i64 .i64 _ _ n rfl rfl rfl rfl (by omega) (by decide) ?_; intro v1 w1 h1 k1; replace h1 := SE.made h1; obtain ⟨bo, d, e, _, _⟩ := h1.opened; rw [List.length_replicate] at e; subst e; obtain ⟨hc, hf⟩ := kcell k1; have hz := k1.size; simp only [size_alloc] at h1 hz))
    refine bodyPost_ret (v := .tuple #[.agg #[.slice bo n d], .bool true]) (by simp [results, Try.results100, go_sem, hc, hz]) rfl ⟨_, rfl, ⟨_, rfl, ?_⟩, ?_⟩
    · try rw [Int.toNat_natCast]
      exact (h1.mv (l := w.heap.size) (h := w.heap.size + 1) ((Chg.refl _ _ w1).set _ _ _ (.inl ⟨by omega, by omega⟩)) (by omega)).wide (by omega) (by simp)
    · exact ((((Chg.refl 0 0 w).alloc _).keep k1).set _ _ _ (.inr (by omega)))
theorem box2 {w w1 : World} {o1 o3 : Obj} {v : Value} {T : TypeId} (k : Chg (w.heap.size + 1 + 1) (w.heap.size + 1 + 1 + 1) (((w.alloc o1).alloc (.cells #[v] T (0, 0))).alloc o3) w1) :
    w1.cell? ⟨w.heap.size + 1, 0, none⟩ = some v ∧ w1.frozen? ⟨w.heap.size + 1, 0, none⟩ = false ∧ w.heap.size + 1 + 1 + 1 ≤ w1.heap.size := by
  have b1 := Blk.new (w.alloc o1) T #[v]
  rw [size_alloc] at b1
  have b2 := (b1.keep ((Chg.refl 0 0 _).alloc o3)).mv k (.inl (by omega))
  have hz := k.size
  simp only [size_alloc] at hz
  exact ⟨b2.cell 0, b2.frozen 0, hz⟩
theorem SE.app0 {lo hi : Nat} {w : World} {v : Value} {t : TbD} (h : Rw 65 2 lo hi w v (0 + t.length) ([] ++ entCells t)) : SE lo hi w v t := by
  unfold SE; simpa using h
theorem new_cells1 (w : World) (o : Obj) (e : TypeId) (cs : List Value) : ∀ j u, cs[j]? = some u → ((w.alloc o).alloc (.cells cs.toArray e (0, 0))).cell? ((⟨w.heap.size + 1, 0, none⟩ : Addr).add j) = some u := by
  have := new_cells (w.alloc o) e cs
  rwa [size_alloc] at this
theorem mapTo_bd (t : TbD) (k : Nat) : 0 ≤ mapTo t k ∧ mapTo t k ≤ k := by
  induction k with
  | zero => simp [mapTo]
  | succ k ih => unfold mapTo; split <;> omega
theorem onTo_len (t : TbD) (f : Int) (k : Nat) : (onTo t f k).length ≤ k := by
  induction k with
  | zero => simp [onTo]
  | succ k ih => unfold onTo; split <;> simp <;> omega
theorem entCells_one (es : TbD) : ∀ y ∈ entCells es, y.oneCell' = true := by
  intro y hy
  simp [entCells] at hy
  obtain ⟨a, b, _, rfl | rfl⟩ := hy <;> rfl
theorem pagesOn_any {lo hi : Nat} {t : TbD} (v : Value) (fr : Int) (w : World) (h : TB lo hi w v t) (hlen : t.length ≤ 100000000) :
    Calls Try.prog 78 #[v, .int .i64 fr] w fun e w' => ∃ v', e = .returned v' ∧ SI w.heap.size w'.heap.size w' v' (onD t fr) ∧ Keep w w' := by
  obtain ⟨ao, c, rfl, hs⟩ := h.opened
  clear h
  go_enter Try.func78, Try.ntmps78
  go_wp2_with fail
  go_loopw [5, 12] (fun v i wr => ∃ k : Nat, k ≤ t.length ∧ i = .int .i64 k ∧ SI (w.heap.size + 1) wr.heap.size wr v (onTo t fr k) ∧ Keep (w.alloc (.cells #[.slice ao t.length c] 37 (0, 0))) wr) (fun _ i _ => t.length - (intOf i).toNat)
  case atStart => exact ⟨0, Nat.zero_le _, rfl, by simpa [onTo, size_alloc] using SI.empty (w.alloc (.cells #[.slice ao t.length c] 37 (0, 0))) (w.heap.size + 1) (by rw [size_alloc]; omega), (Chg.refl _ _ _).alloc _⟩
  case round =>
    obtain ⟨k, hk, rfl, hown, hkr⟩ := hrel
    have hb := onTo_len t fr k
    have hbox := (hkr.grown none).cell (a := ⟨w.heap.size, 0, none⟩) (v := .slice ao t.length c) ((Blk.new w _ _).cell 0) (by simp)
    have hsz := hkr.size
    rw [size_alloc] at hsz
    by_cases hlt : k < t.length
    · have hs2 := (hs.keep ((Chg.refl 0 0 w).alloc (.cells #[.slice ao t.length c] 37 (0, 0)))).keep hkr
      obtain ⟨ao', c', e, _, hf⟩ := hs2.opened
      obtain ⟨rfl, rfl⟩ : ao = ao' ∧ c = c' := by simpa using e
      obtain ⟨g, rfl, _, _, hgs, c1, c2, _⟩ := hf k hlt
      have HM := Lib.hid (show onTo t fr (k + 1) = onTo t fr k ++ if onB fr (t.getD k (0, 0)) then [(k : Int)] else [] from rfl)
      clear e hf hs2
      generalize hx : t.getD k (0, 0) = x at *
      clear hx
      by_cases hz : x.1 = 0
      · have HZ := Lib.hid (show onB fr x = false by unfold onB; rw [hz]; rfl)
        have z1 : (x.1 != 0) = false := by rw [hz]; rfl
        have z2 : (x.1 == 0) = true := by rw [hz]; rfl
        clear hz
        go_wp2_with fail
        go_roundw
        case rel => exact ⟨k + 1, by omega, by go_num, by rw [HM.out, HZ.out]; simpa using (hown.keep ((Chg.refl 0 0 wr).alloc _)).wide (Nat.le_refl _) (by simp), hkr.alloc _⟩
        case measure => simp [intOf]; omega
      · have z1 : (x.1 != 0) = true := by rw [bne_iff_ne]; exact hz
        have z2 : (x.1 == 0) = false := by rw [beq_eq_false_iff_ne]; exact hz
        clear hz
        by_cases hq : x.2 = fr
        · have HZ := Lib.hid (show onB fr x = true by unfold onB; rw [z1, hq]; simp)
          have q2 : (x.2 == fr) = true := by rw [hq]; simp
          clear hq
          go_wp2_with (at_builtin; refine app_any rfl _ _ _ rfl _ _ _ _ _ _ Try.underlying32 Try.infoInt rfl (by decide) _ _ _ (hown.keep (((Chg.refl 0 0 wr).alloc _).alloc _)) ⟨wr.heap.size + 1, 0, none⟩ 1 1 [.int .i64 k] rfl (by decide) (new_cells1 wr _ _ _) (one1 _ _) (by decide) (by omega) (by rw [size_alloc, size_alloc]; omega) rfl rfl ?_; intro v' w3 hown3 hg3)
          go_roundw
          case rel => exact ⟨k + 1, by omega, by go_num, by rw [HM.out, HZ.out]; exact SI.app hown3, ((hkr.alloc _).alloc _).comp hg3 (.inl (by rw [size_alloc]; omega))⟩
          case measure => simp [intOf]; omega
        · have HZ := Lib.hid (show onB fr x = false by unfold onB; rw [z1]; simp; exact hq)
          have q2 : (x.2 == fr) = false := by rw [beq_eq_false_iff_ne]; exact hq
          clear hq
          go_wp2_with fail
          go_roundw
          case rel => exact ⟨k + 1, by omega, by go_num, by rw [HM.out, HZ.out]; simpa using (hown.keep ((Chg.refl 0 0 wr).alloc _)).wide (Nat.le_refl _) (by simp), hkr.alloc _⟩
          case measure => simp [intOf]; omega
    · obtain rfl : t.length = k := by omega
      go_wp2_with fail
      go_ret
      exact ⟨_, rfl, hown.wide (by omega) (Nat.le_refl _), ((Chg.refl 0 0 w).alloc _).keep hkr⟩
theorem pagesOn_spec {lo hi : Nat} {t : TbD} (v : Value) (fr : Int) (w : World) (h : TB lo hi w v t) (hlen : t.length ≤ 100000000) :
    Calls Try.prog 89 #[v, .int .i64 fr] w fun e w' => ∃ v', e = .returned v' ∧ SI w.heap.size w'.heap.size w' v' (onD t fr) ∧ Keep w w' := by
  obtain ⟨ao, c, rfl, hs⟩ := h.opened
  clear h
  go_enter Try.func89, Try.ntmps89
  go_wp2_with fail
  go_loopw [5, 6] (fun v i wr => ∃ k : Nat, k ≤ t.length ∧ i = .int .i64 k ∧ SI (w.heap.size + 1) wr.heap.size wr v (onTo t fr k) ∧ Keep (w.alloc (.cells #[.slice ao t.length c] 37 (0, 0))) wr) (fun _ i _ => t.length - (intOf i).toNat)
  case atStart => exact ⟨0, Nat.zero_le _, rfl, by simpa [onTo, size_alloc] using SI.empty (w.alloc (.cells #[.slice ao t.length c] 37 (0, 0))) (w.heap.size + 1) (by rw [size_alloc]; omega), (Chg.refl _ _ _).alloc _⟩
  case round =>
    obtain ⟨k, hk, rfl, hown, hkr⟩ := hrel
    have hb := onTo_len t fr k
    have hbox := (hkr.grown none).cell (a := ⟨w.heap.size, 0, none⟩) (v := .slice ao t.length c) ((Blk.new w _ _).cell 0) (by simp)
    have hsz := hkr.size
    rw [size_alloc] at hsz
    by_cases hlt : k < t.length
    · have hs2 := (hs.keep ((Chg.refl 0 0 w).alloc (.cells #[.slice ao t.length c] 37 (0, 0)))).keep hkr
      obtain ⟨ao', c', e, _, hf⟩ := hs2.opened
      obtain ⟨rfl, rfl⟩ : ao = ao' ∧ c = c' := by simpa using e
      obtain ⟨g, rfl, _, _, hgs, c1, c2, _⟩ := hf k hlt
      have HM := Lib.hid (show onTo t fr (k + 1) = onTo t fr k ++ if onB fr (t.getD k (0, 0)) then [(k : Int)] else [] from rfl)
      clear e hf hs2
      generalize hx : t.getD k (0, 0) = x at *
      clear hx
      by_cases hz : x.1 = 0
      · have HZ := Lib.hid (show onB fr x = false by unfold onB; rw [hz]; rfl)
        have z1 : (x.1 != 0) = false := by rw [hz]; rfl
        have z2 : (x.1 == 0) = true := by rw [hz]; rfl
        clear hz
        go_wp2_with fail
        go_roundw
        case rel => exact ⟨k + 1, by omega, by go_num, by rw [HM.out, HZ.out]; simpa using (hown), hkr⟩
        case measure => simp [intOf]; omega
      · have z1 : (x.1 != 0) = true := by rw [bne_iff_ne]; exact hz
        have z2 : (x.1 == 0) = false := by rw [beq_eq_false_iff_ne]; exact hz
        clear hz
        by_cases hq : x.2 = fr
        · have HZ := Lib.hid (show onB fr x = true by unfold onB; rw [z1, hq]; simp)
          have q2 : (x.2 == fr) = true := by rw [hq]; simp
          clear hq
          go_wp2_with (at_builtin; refine app_rw rfl _ _ _ rfl _ _ _ _ _ Try.underlying32 Try.infoInt rfl _ _ _ (.int .i64 k) hown rfl rfl rfl (by decide) (by omega) (by omega) ?_; intro v' w3 hown3 hg3 _)
          go_roundw
          case rel => exact ⟨k + 1, by omega, by go_num, by rw [HM.out, HZ.out]; exact SI.app hown3, hkr.comp hg3 (.inl (by rw [size_alloc]; omega))⟩
          case measure => simp [intOf]; omega
        · have HZ := Lib.hid (show onB fr x = false by unfold onB; rw [z1]; simp; exact hq)
          have q2 : (x.2 == fr) = false := by rw [beq_eq_false_iff_ne]; exact hq
          clear hq
          go_wp2_with fail
          go_roundw
          case rel => exact ⟨k + 1, by omega, by go_num, by rw [HM.out, HZ.out]; simpa using (hown), hkr⟩
          case measure => simp [intOf]; omega
    · obtain rfl : t.length = k := by omega
      go_wp2_with fail
      go_ret
      exact ⟨_, rfl, hown.wide (by omega) (Nat.le_refl _), ((Chg.refl 0 0 w).alloc _).keep hkr⟩
/-- The first k entries are in order. -/
def EntsTo (t : TbD) (n : Int) (k : Nat) : Prop := ∀ j, j < k → entOkB n (t.getD j (0, 0)) = true
theorem EntsTo.succ {t : TbD} {n : Int} {k : Nat} (h : EntsTo t n k) (h1 : entOkB n (t.getD k (0, 0)) = true) : EntsTo t n (k + 1) := by
  intro j hj
  by_cases e : j = k
  · subst e; exact h1
  · exact h j (by omega)
theorem tableOk_yes {t : TbD} {n : Int} (h : EntsTo t n t.length) : tableOkB t n = btw t.length 1 32 := by
  unfold tableOkB
  have : t.all (entOkB n) = true := by
    rw [List.all_eq_true]
    intro e he
    obtain ⟨j, hj, rfl⟩ := List.getElem_of_mem he
    have := h j hj
    simpa [List.getD, hj] using this
  rw [this]; rfl
theorem tableOk_no {t : TbD} {n : Int} {k : Nat} (hk : k < t.length) (h : entOkB n (t.getD k (0, 0)) = false) : tableOkB t n = false := by
  unfold tableOkB
  have : t.all (entOkB n) = false := by
    rw [List.all_eq_false]
    exact ⟨t.getD k (0, 0), by simp [List.getD, hk], by rw [h]; simp⟩
  rw [this]; rfl
theorem tableOk_any {lo hi : Nat} {t : TbD} (v : Value) (n : Int) (w : World) (h : TB lo hi w v t) (hlen : t.length ≤ 1000000000) :
    Calls Try.prog 77 #[v, .int .i64 n] w fun e w' => e = .returned (.bool (tableOkB t n)) ∧ Keep w w' := by
  obtain ⟨ao, c, rfl, hs⟩ := h.opened
  clear h
  go_enter Try.func77, Try.ntmps77
  go_wp2_with fail
  go_loopw [10] (fun i wr => ∃ k : Nat, k ≤ t.length ∧ i = .int .i64 k ∧ EntsTo t n k ∧ Keep (w.alloc (.cells #[.slice ao t.length c] 37 (0, 0))) wr) (fun i _ => t.length - (intOf i).toNat)
  case atStart => exact ⟨0, Nat.zero_le _, rfl, fun j hj => by omega, Chg.refl _ _ _⟩
  case round =>
    obtain ⟨k, hk, rfl, hev, hkr⟩ := hrel
    have hbox := (hkr.grown none).cell (a := ⟨w.heap.size, 0, none⟩) (v := .slice ao t.length c) ((Blk.new w _ _).cell 0) (by simp)
    by_cases hlt : k < t.length
    · have hs2 := (hs.keep ((Chg.refl 0 0 w).alloc (.cells #[.slice ao t.length c] 37 (0, 0)))).keep hkr
      obtain ⟨ao', c', e, _, hf⟩ := hs2.opened
      obtain ⟨rfl, rfl⟩ : ao = ao' ∧ c = c' := by simpa using e
      obtain ⟨g, rfl, _, _, hgs, c1, c2, _⟩ := hf k hlt
      have HNO := Lib.hid (fun h => tableOk_no (n := n) hlt h)
      clear e hf hs2
      generalize hx : t.getD k (0, 0) = x at *
      have HX := Lib.hid hx
      clear hx
      obtain ⟨p, q⟩ := x
      dsimp only at c1 c2
      cases hb : btw p 0 2
      · have HN := Lib.hid (HNO.out (by unfold entOkB; simp [hb]))
        go_wp2_with (go_at_call 65; refine (between_any _ _ _ _).mono ?_; rintro e w' ⟨rfl, rfl⟩)
        go_ret
        exact ⟨by rw [HN.out]; rfl, by repeat (first | exact Chg.refl _ _ _ | apply Chg.alloc | refine Chg.keep ?_ hkr)⟩

      obtain ⟨hp0, hp1⟩ := btw_iff.1 hb
      by_cases hz : p = 0
      · subst hz
        by_cases hq : q = 0
        · subst hq
          have HY := Lib.hid (show entOkB n ((0 : Int), (0 : Int)) = true by unfold entOkB; simp [hb])
          go_wp2_with (go_at_call 65; refine (between_any _ _ _ _).mono ?_; rintro e w' ⟨rfl, rfl⟩)
          go_roundw
          case rel => exact ⟨k + 1, by omega, by go_num, hev.succ (by rw [HX.out]; exact HY.out), hkr.alloc _⟩
          case measure => simp [intOf]; omega

        · have z1 : (q != 0) = true := by rw [bne_iff_ne]; exact hq
          have z2 : (q == 0) = false := by rw [beq_eq_false_iff_ne]; exact hq
          have HN := Lib.hid (HNO.out (by unfold entOkB; simp [z2]))
          clear hq
          by_cases hq0 : q < 0
          · go_wp2_with (go_at_call 65; refine (between_any _ _ _ _).mono ?_; rintro e w' ⟨rfl, rfl⟩)
            go_ret
            exact ⟨by rw [HN.out]; rfl, by repeat (first | exact Chg.refl _ _ _ | apply Chg.alloc | refine Chg.keep ?_ hkr)⟩

          · go_wp2_with (go_at_call 65; refine (between_any _ _ _ _).mono ?_; rintro e w' ⟨rfl, rfl⟩)
            go_ret
            exact ⟨by rw [HN.out]; rfl, by repeat (first | exact Chg.refl _ _ _ | apply Chg.alloc | refine Chg.keep ?_ hkr)⟩

      · have z1 : (p != 0) = true := by rw [bne_iff_ne]; exact hz
        have z2 : (p == 0) = false := by rw [beq_eq_false_iff_ne]; exact hz
        have hp2 : 0 < p := by omega
        by_cases hq0 : q < 0
        · have HN := Lib.hid (HNO.out (by unfold entOkB; simp only [hz, if_false]; rw [btw_false (lo := 0) (hi := n - 1) (.inl hq0)]; simp))
          clear hz
          go_wp2_with (go_at_call 65; refine (between_any _ _ _ _).mono ?_; rintro e w' ⟨rfl, rfl⟩)
          go_ret
          exact ⟨by rw [HN.out]; rfl, by repeat (first | exact Chg.refl _ _ _ | apply Chg.alloc | refine Chg.keep ?_ hkr)⟩

        · by_cases hq1 : n ≤ q
          · have HN := Lib.hid (HNO.out (by unfold entOkB; simp only [hz, if_false]; rw [btw_false (lo := 0) (hi := n - 1) (.inr (by omega))]; simp))
            have d1 : decide (q < n) = false := decide_eq_false (by omega)
            clear hz
            go_wp2_with (go_at_call 65; refine (between_any _ _ _ _).mono ?_; rintro e w' ⟨rfl, rfl⟩)
            go_ret
            exact ⟨by rw [HN.out]; rfl, by repeat (first | exact Chg.refl _ _ _ | apply Chg.alloc | refine Chg.keep ?_ hkr)⟩

          · have HY := Lib.hid (show entOkB n (p, q) = true by unfold entOkB; simp only [hz, if_false]; rw [hb, btw_true (by omega) (by omega)]; rfl)
            clear hz
            go_wp2_with (go_at_call 65; refine (between_any _ _ _ _).mono ?_; rintro e w' ⟨rfl, rfl⟩)
            go_roundw
            case rel => exact ⟨k + 1, by omega, by go_num, hev.succ (by rw [HX.out]; exact HY.out), hkr.alloc _⟩
            case measure => simp [intOf]; omega

    · obtain rfl : t.length = k := by omega
      have HY := Lib.hid (tableOk_yes hev)
      go_wp2_with (go_at_call 65; refine (between_any _ _ _ _).mono ?_; rintro e w' ⟨rfl, rfl⟩)
      go_ret
      exact ⟨by rw [HY.out]; rfl, ((Chg.refl 0 0 w).alloc _).keep hkr⟩
theorem tableOk_spec {lo hi : Nat} {t : TbD} (v : Value) (n : Int) (w : World) (h : TB lo hi w v t) (hlen : t.length ≤ 1000000000) :
    Calls Try.prog 88 #[v, .int .i64 n] w fun e w' => e = .returned (.bool (tableOkB t n)) ∧ Keep w w' := by
  obtain ⟨ao, c, rfl, hs⟩ := h.opened
  clear h
  go_enter Try.func88, Try.ntmps88
  go_wp2_with fail
  go_loopw [5] (fun i wr => ∃ k : Nat, k ≤ t.length ∧ i = .int .i64 k ∧ EntsTo t n k ∧ Keep (w.alloc (.cells #[.slice ao t.length c] 37 (0, 0))) wr) (fun i _ => t.length - (intOf i).toNat)
  case atStart => exact ⟨0, Nat.zero_le _, rfl, fun j hj => by omega, Chg.refl _ _ _⟩
  case round =>
    obtain ⟨k, hk, rfl, hev, hkr⟩ := hrel
    have hbox := (hkr.grown none).cell (a := ⟨w.heap.size, 0, none⟩) (v := .slice ao t.length c) ((Blk.new w _ _).cell 0) (by simp)
    by_cases hlt : k < t.length
    · have hs2 := (hs.keep ((Chg.refl 0 0 w).alloc (.cells #[.slice ao t.length c] 37 (0, 0)))).keep hkr
      obtain ⟨ao', c', e, _, hf⟩ := hs2.opened
      obtain ⟨rfl, rfl⟩ : ao = ao' ∧ c = c' := by simpa using e
      obtain ⟨g, rfl, _, _, hgs, c1, c2, _⟩ := hf k hlt
      have HNO := Lib.hid (fun h => tableOk_no (n := n) hlt h)
      clear e hf hs2
      generalize hx : t.getD k (0, 0) = x at *
      have HX := Lib.hid hx
      clear hx
      obtain ⟨p, q⟩ := x
      dsimp only at c1 c2
      cases hb : btw p 0 2
      · have HN := Lib.hid (HNO.out (by unfold entOkB; simp [hb]))
        go_wp2_with (go_at_call 62; refine (l01In_any _ _ _ _).mono ?_; rintro e w' ⟨rfl, rfl⟩)
        go_ret
        exact ⟨by rw [HN.out]; rfl, by repeat (first | exact Chg.refl _ _ _ | apply Chg.alloc | refine Chg.keep ?_ hkr)⟩

      obtain ⟨hp0, hp1⟩ := btw_iff.1 hb
      by_cases hz : p = 0
      · subst hz
        by_cases hq : q = 0
        · subst hq
          have HY := Lib.hid (show entOkB n ((0 : Int), (0 : Int)) = true by unfold entOkB; simp [hb])
          go_wp2_with (go_at_call 62; refine (l01In_any _ _ _ _).mono ?_; rintro e w' ⟨rfl, rfl⟩)
          go_roundw
          case rel => exact ⟨k + 1, by omega, by go_num, hev.succ (by rw [HX.out]; exact HY.out), hkr.alloc _⟩
          case measure => simp [intOf]; omega

        · have z1 : (q != 0) = true := by rw [bne_iff_ne]; exact hq
          have z2 : (q == 0) = false := by rw [beq_eq_false_iff_ne]; exact hq
          have HN := Lib.hid (HNO.out (by unfold entOkB; simp [z2]))
          clear hq
          by_cases hq0 : q < 0
          · go_wp2_with (go_at_call 62; refine (l01In_any _ _ _ _).mono ?_; rintro e w' ⟨rfl, rfl⟩)
            go_ret
            exact ⟨by rw [HN.out]; rfl, by repeat (first | exact Chg.refl _ _ _ | apply Chg.alloc | refine Chg.keep ?_ hkr)⟩

          · go_wp2_with (go_at_call 62; refine (l01In_any _ _ _ _).mono ?_; rintro e w' ⟨rfl, rfl⟩)
            go_ret
            exact ⟨by rw [HN.out]; rfl, by repeat (first | exact Chg.refl _ _ _ | apply Chg.alloc | refine Chg.keep ?_ hkr)⟩

      · have z1 : (p != 0) = true := by rw [bne_iff_ne]; exact hz
        have z2 : (p == 0) = false := by rw [beq_eq_false_iff_ne]; exact hz
        have hp2 : 0 < p := by omega
        by_cases hq0 : q < 0
        · have HN := Lib.hid (HNO.out (by unfold entOkB; simp only [hz, if_false]; rw [btw_false (lo := 0) (hi := n - 1) (.inl hq0)]; simp))
          clear hz
          go_wp2_with (go_at_call 62; refine (l01In_any _ _ _ _).mono ?_; rintro e w' ⟨rfl, rfl⟩)
          go_ret
          exact ⟨by rw [HN.out]; rfl, by repeat (first | exact Chg.refl _ _ _ | apply Chg.alloc | refine Chg.keep ?_ hkr)⟩

        · by_cases hq1 : n ≤ q
          · have HN := Lib.hid (HNO.out (by unfold entOkB; simp only [hz, if_false]; rw [btw_false (lo := 0) (hi := n - 1) (.inr (by omega))]; simp))
            have d1 : decide (q < n) = false := decide_eq_false (by omega)
            clear hz
            go_wp2_with (go_at_call 62; refine (l01In_any _ _ _ _).mono ?_; rintro e w' ⟨rfl, rfl⟩)
            go_ret
            exact ⟨by rw [HN.out]; rfl, by repeat (first | exact Chg.refl _ _ _ | apply Chg.alloc | refine Chg.keep ?_ hkr)⟩

          · have HY := Lib.hid (show entOkB n (p, q) = true by unfold entOkB; simp only [hz, if_false]; rw [hb, btw_true (by omega) (by omega)]; rfl)
            clear hz
            go_wp2_with (go_at_call 62; refine (l01In_any _ _ _ _).mono ?_; rintro e w' ⟨rfl, rfl⟩)
            go_roundw
            case rel => exact ⟨k + 1, by omega, by go_num, hev.succ (by rw [HX.out]; exact HY.out), hkr.alloc _⟩
            case measure => simp [intOf]; omega

    · obtain rfl : t.length = k := by omega
      have HY := Lib.hid (tableOk_yes hev)
      go_wp2_with (go_at_call 62; refine (l01In_any _ _ _ _).mono ?_; rintro e w' ⟨rfl, rfl⟩)
      go_ret
      exact ⟨by rw [HY.out]; rfl, ((Chg.refl 0 0 w).alloc _).keep hkr⟩
theorem copyTable_any {lo hi : Nat} {t : TbD} (v : Value) (w : World) (h : TB lo hi w v t) (hlen : t.length ≤ 1000000000) :
    Calls Try.prog 106 #[v] w fun e w' => ∃ v', e = .returned v' ∧ TB w.heap.size w'.heap.size w' v' t ∧ Keep w w' := by
  obtain ⟨ao, c, rfl, hs⟩ := h.opened
  clear h
  go_enter Try.func106, Try.ntmps106
  have hemp : Rw 65 2 (w.heap.size + 1 + 1) (w.heap.size + 1 + 1 + 1) (((w.alloc (.cells #[.slice ao t.length c] 37 (0, 0))).alloc (.cells #[.slice none 0 0] 37 (0, 0))).alloc (.cells #[] 65 (0, 0))) (.slice (some ⟨w.heap.size + 1 + 1, 0, none⟩) 0 0) 0 [] := by
    have := Rw.empty ((w.alloc (.cells #[.slice ao t.length c] 37 (0, 0))).alloc (.cells #[.slice none 0 0] 37 (0, 0))) 65 2 (w.heap.size + 1 + 1) (by simp only [size_alloc]; omega)
    simpa only [size_alloc] using this
  have hsrc := hs.keep (((Chg.refl 0 0 w).alloc (.cells #[.slice ao t.length c] 37 (0, 0))).alloc (.cells #[.slice none 0 0] 37 (0, 0)) |>.alloc (.cells #[] 65 (0, 0)))
  have HEM := Lib.hid hemp
  have HSR := Lib.hid hsrc
  clear hemp hsrc
  go_wp2_with (at_builtin; refine app_row rfl _ _ _ rfl _ _ _ _ _ _ _ _ Try.underlying35 Try.infoEntry rfl (by decide) _ _ _ _ _ _ HEM.out HSR.out (by omega) (entCells_one _) (by decide) (by omega) (by simp only [size_alloc]; omega) rfl rfl ?_; intro v1 w1 h1 k1; obtain ⟨c2, f2, hz⟩ := box2 k1; have h1' := SE.app0 h1; clear h1; obtain ⟨bo, d, rfl, _, _⟩ := h1'.opened)
  refine bodyPost_ret (v := .agg #[.slice bo t.length d]) (by simp [results, Try.results106, go_sem, c2, hz]) rfl ⟨_, rfl, ⟨_, rfl, ?_⟩, ?_⟩
  · exact (h1'.mv (l := w.heap.size) (h := w.heap.size + 2) ((Chg.refl _ _ w1).set _ _ _ (.inl ⟨by omega, by omega⟩)) (by omega)).wide (by omega) (by simp)
  · exact (((((Chg.refl 0 0 w).alloc _).alloc _).alloc _).comp k1 (.inl (by omega))).set _ _ _ (.inr (by omega))
theorem copyTable_spec {lo hi : Nat} {t : TbD} (v : Value) (w : World) (h : TB lo hi w v t) (hlen : t.length ≤ 1000000000) :
    Calls Try.prog 104 #[v] w fun e w' => ∃ v', e = .returned v' ∧ TB w.heap.size w'.heap.size w' v' t ∧ Keep w w' := by
  obtain ⟨ao, c, rfl, hs⟩ := h.opened
  clear h
  go_enter Try.func104, Try.ntmps104
  have hemp : Rw 65 2 (w.heap.size + 1 + 1) (w.heap.size + 1 + 1 + 1) (((w.alloc (.cells #[.slice ao t.length c] 37 (0, 0))).alloc (.cells #[.slice none 0 0] 37 (0, 0))).alloc (.cells #[] 65 (0, 0))) (.slice (some ⟨w.heap.size + 1 + 1, 0, none⟩) 0 0) 0 [] := by
    have := Rw.empty ((w.alloc (.cells #[.slice ao t.length c] 37 (0, 0))).alloc (.cells #[.slice none 0 0] 37 (0, 0))) 65 2 (w.heap.size + 1 + 1) (by simp only [size_alloc]; omega)
    simpa only [size_alloc] using this
  have hsrc := hs.keep (((Chg.refl 0 0 w).alloc (.cells #[.slice ao t.length c] 37 (0, 0))).alloc (.cells #[.slice none 0 0] 37 (0, 0)) |>.alloc (.cells #[] 65 (0, 0)))
  have HEM := Lib.hid hemp
  have HSR := Lib.hid hsrc
  clear hemp hsrc
  go_wp2_with (at_builtin; refine app_row rfl _ _ _ rfl _ _ _ _ _ _ _ _ Try.underlying35 Try.infoEntry rfl (by decide) _ _ _ _ _ _ HEM.out HSR.out (by omega) (entCells_one _) (by decide) (by omega) (by simp only [size_alloc]; omega) rfl rfl ?_; intro v1 w1 h1 k1; obtain ⟨c2, f2, hz⟩ := box2 k1; have h1' := SE.app0 h1; clear h1; obtain ⟨bo, d, rfl, _, _⟩ := h1'.opened)
  refine bodyPost_ret (v := .agg #[.slice bo t.length d]) (by simp [results, Try.results104, go_sem, c2, hz]) rfl ⟨_, rfl, ⟨_, rfl, ?_⟩, ?_⟩
  · exact (h1'.mv (l := w.heap.size) (h := w.heap.size + 2) ((Chg.refl _ _ w1).set _ _ _ (.inl ⟨by omega, by omega⟩)) (by omega)).wide (by omega) (by simp)
  · exact (((((Chg.refl 0 0 w).alloc _).alloc _).alloc _).comp k1 (.inl (by omega))).set _ _ _ (.inr (by omega))
end Go.Proofs.Ytkcoehkfhffjkaa
