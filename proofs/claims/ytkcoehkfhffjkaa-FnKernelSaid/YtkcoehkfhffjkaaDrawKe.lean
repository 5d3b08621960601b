/- Drawn kernels: l08Refuse, l08Case, DrawKernel of the reference. -/
import Derived.Test.YtkcoehkfhffjkaaKe4
import Derived.Test.YtkcoehkfhffjkaaDrawMa
namespace Go.Proofs.Ytkcoehkfhffjkaa
open Go.ChangeShapes Go.WideShapes Go.ChangeAt Go.RowKit
set_option linter.unusedSimpArgs false
set_option linter.unusedVariables false
set_option maxRecDepth 100000

theorem l08Refuse_any {B C : Nat} (w : World) (hc : Cur B C w) :
    Calls Try.prog 113 #[.pointer (some ⟨C, 0, none⟩)] w fun e w' => ∃ v zs, e = .returned v ∧ SI w.heap.size w'.heap.size w' v zs ∧ zs.length ≤ 3 ∧ zs.all (fun n => decide (0 ≤ n)) = true ∧ Cur B C w' ∧ Chg C (C + 1) w w' := by
  have hC := hc.lt
  have HC := Lib.hid hc
  go_enter Try.func113, Try.ntmps113
  go_wp2_with fail
  go_loopw [3, 4] (fun v i wr => ∃ zs : List Int, zs.length ≤ 3 ∧ i = .int .i64 zs.length ∧ zs.all (fun n => decide (0 ≤ n)) = true ∧ SI w.heap.size wr.heap.size wr v zs ∧ Cur B C wr ∧ Chg C (C + 1) w wr) (fun _ i _ => 4 - (intOf i).toNat)
  case atStart => exact ⟨[], by decide, rfl, rfl, by rw [size_alloc]; exact SI.empty w w.heap.size (Nat.le_refl _), HC.out.keep ((Chg.refl _ _ _).alloc _), (Chg.refl _ _ _).alloc _⟩
  case round =>
    obtain ⟨zs, hlen, rfl, hall, hown, hcr, hgr⟩ := hrel
    have HA := Lib.hid hall
    clear hall
    have hs := hgr.size
    go_wp2_with fail
    refine (below_pos _ _ hcr (by omega)).mono ?_
    rintro e w1 ⟨x, hx0, hx1, rfl, hc1, hg1⟩
    have hown1 := hown.mv hg1 (by omega)
    have hgr1 := hgr.trans hg1
    have hs1 := hgr1.size
    have zg1 := hg1.size
    clear hown hcr hgr
    by_cases hlt : (zs.length : Int) < x
    · go_wp2_with (first | (go_at_call 69; refine (below_pos _ _ hc1 (by omega)).mono ?_; rintro e w2 ⟨y, hy0, hy1, rfl, hc2, hg2⟩; have hown2 := hown1.mv hg2 (by omega); have hgr2 := hgr1.trans hg2; have hs2 := hgr2.size; have zg2 := hg2.size; clear hown1 hgr1 hc1 hs1) | (at_builtin; refine app_rw rfl _ _ _ rfl _ _ _ _ _ Try.underlying32 Try.infoInt rfl _ _ _ (.int .i64 y) hown2 rfl rfl rfl (by decide) (by omega) hs2 ?_; intro v' w3 hown3 hg3 _))
      go_roundw
      case rel => exact ⟨zs ++ [y], by simp; omega, by simp, by rw [List.all_append, HA.out]; simpa using hy0, SI.app hown3, hc2.mv hg3 (by omega), hgr2.comp hg3 (.inl (by omega))⟩
      case measure => simp [intOf]; omega
    · go_wp2_with fail
      go_ret
      exact ⟨_, zs, rfl, hown1.wide (Nat.le_refl _) (by omega), hlen, HA.out, hc1, hgr1⟩
set_option maxHeartbeats 2000000 in
theorem l08Case_any {B C : Nat} (w : World) (hc : Cur B C w) :
    Calls Try.prog 79 #[.pointer (some ⟨C, 0, none⟩)] w fun e w' => ∃ v k, e = .returned v ∧ KE w.heap.size w'.heap.size w' v k ∧ KOk k ∧ k.calls ≤ 5 ∧ k.ma.fr.cells.length ≤ 5 ∧ k.ma.tb.length ≤ 8 ∧ Cur B C w' ∧ Chg C (C + 1) w w' := by
  have hC := hc.lt
  have bR := Blk.new w 47 #[.slice none 0 0, .slice none 0 0, .slice none 0 0, .int .i64 0, .slice none 0 0]
  go_enter Try.func79, Try.ntmps79
  go_wp2_with fail
  refine (l07Case_any _ (hc.keep ((Chg.refl 0 0 w).alloc _))).mono ?_
  rintro e w1 ⟨v1, m, rfl, hm, ok, h5, h8, hc1, hg1⟩
  have q1 : Chg C (C + 1) w w1 := ((Chg.refl C (C + 1) w).alloc _).trans hg1
  have z1 := hg1.size
  simp only [size_alloc] at z1 hm
  have bR := bR.mv hg1 (by omega)
  obtain ⟨b1, d1, b2, d2, b3, d3, rfl, hf, ht⟩ := hm.slices
  have hm := MA.mk hf ht
  have OK := Lib.hid ok
  clear hf ht hg1 hc ok
  go_wp2_with fail
  refine (below_pos _ _ hc1 (by omega)).mono ?_
  rintro e w2 ⟨x, hx0, hx1, rfl, hc2, hg2⟩
  have hm2 := hm.mv hg2 (by omega)
  have bR := bR.mv hg2 (by omega)
  have q2 := q1.trans hg2
  have z2 := hg2.size
  clear hm hc1 hg2 q1
  go_wp2_with fail
  refine (l08Refuse_any _ hc2).mono ?_
  rintro e w3 ⟨v3, zs, rfl, hz, hzl, hza, hc3, hg3⟩
  obtain ⟨b4, d4, rfl, _, hz⟩ := hz.slice
  have hm3 := hm2.mv hg3 (by omega)
  have bR := bR.mv hg3 (by omega)
  have q3 := q2.trans hg3
  have z3 := hg3.size
  have r0 := bR.cell 0
  have r1 := bR.cell 1
  have r2 := bR.cell 2
  have r3 := bR.cell 3
  have r4 := bR.cell 4
  have s0 := bR.frozen 0
  have s1 := bR.frozen 1
  have s2 := bR.frozen 2
  have s3 := bR.frozen 3
  have s4 := bR.frozen 4
  have lR := bR.lt
  have hm3 := hm3.wide (lo' := w.heap.size + 1) (hi' := w3.heap.size) (Nat.le_refl _) (by omega)
  have hz3 := hz.wide (lo' := w.heap.size + 1) (hi' := w3.heap.size) (by omega) (Nat.le_refl _)
  have HKE := Lib.hid (KE.mk (k := ⟨m, x, zs⟩) hm3 hz3)
  have HZA := Lib.hid hza
  have HC3 := Lib.hid hc3
  have HQ := Lib.hid q3
  clear hm2 hg3 q2 q3 hc2 hc3 hz hm3 hz3 hza bR
  go_wp2_with fail
  refine bodyPost_ret (v := .agg #[.slice b1 m.fr.cells.length d1, .slice b2 m.fr.used.length d2, .slice b3 m.tb.length d3, .int .i64 x, .slice b4 zs.length d4]) (by simp [results, Try.results79, go_sem, r0, r1, r2, r3, r4, lR]) rfl ⟨_, ⟨m, x, zs⟩, rfl, ?_, ⟨HZA.out, hx0, by show x ≤ 100000; omega, by show zs.length ≤ 40; omega, OK.out⟩, by show x ≤ 5; omega, h5, h8, ?_, ?_⟩
  · exact (HKE.out.mv (l := w.heap.size) (h := w.heap.size + 1) ((((((Chg.refl w.heap.size (w.heap.size + 1) w3).set w.heap.size 0 _ (.inl ⟨Nat.le_refl _, Nat.lt_succ_self _⟩)).set w.heap.size 1 _ (.inl ⟨Nat.le_refl _, Nat.lt_succ_self _⟩)).set w.heap.size 2 _ (.inl ⟨Nat.le_refl _, Nat.lt_succ_self _⟩)).set w.heap.size 3 _ (.inl ⟨Nat.le_refl _, Nat.lt_succ_self _⟩)).set w.heap.size 4 _ (.inl ⟨Nat.le_refl _, Nat.lt_succ_self _⟩)) (by omega)).wide (by omega) (by simp only [size_set]; omega)
  · exact HC3.out.mv ((((((Chg.refl w.heap.size (w.heap.size + 1) w3).set w.heap.size 0 _ (.inl ⟨Nat.le_refl _, Nat.lt_succ_self _⟩)).set w.heap.size 1 _ (.inl ⟨Nat.le_refl _, Nat.lt_succ_self _⟩)).set w.heap.size 2 _ (.inl ⟨Nat.le_refl _, Nat.lt_succ_self _⟩)).set w.heap.size 3 _ (.inl ⟨Nat.le_refl _, Nat.lt_succ_self _⟩)).set w.heap.size 4 _ (.inl ⟨Nat.le_refl _, Nat.lt_succ_self _⟩)) (.inl hC)
  · exact (((((HQ.out.set w.heap.size 0 _ (.inr (Nat.le_refl _))).set w.heap.size 1 _ (.inr (Nat.le_refl _))).set w.heap.size 2 _ (.inr (Nat.le_refl _))).set w.heap.size 3 _ (.inr (Nat.le_refl _))).set w.heap.size 4 _ (.inr (Nat.le_refl _)))
theorem drawKernel_any (ao : Option Addr) (n cap : Nat) (w : World) (hn : n ≤ 1048576) (hcode : Code w.heap.size w ao n) :
    Calls Try.prog 39 #[.slice ao n cap] w fun e w' => ∃ v k, e = .returned v ∧ KE w.heap.size w'.heap.size w' v k ∧ KOk k ∧ k.calls ≤ 5 ∧ k.ma.fr.cells.length ≤ 5 ∧ k.ma.tb.length ≤ 8 ∧ Keep w w' := by
  have hcode' := hcode.keep ((Chg.refl 0 0 w).alloc (.cells #[.slice none 0 0, .slice none 0 0, .slice none 0 0, .int .i64 0, .slice none 0 0] 47 (0, 0)))
  have bR := Blk.new w 47 #[.slice none 0 0, .slice none 0 0, .slice none 0 0, .int .i64 0, .slice none 0 0]
  clear hcode
  go_enter Try.func39, Try.ntmps39
  go_wp2_with fail
  refine (l01New_any _ _ _ _ hn hcode').mono ?_
  rintro e w1 ⟨rfl, hc, hb, hsz⟩
  have k1 := Keep.of_below hb
  simp only [size_alloc] at hc
  have bR := bR.keep k1
  have z1 := k1.size
  rw [size_alloc] at z1
  have q1 : Keep w w1 := Chg.keep ((Chg.refl 0 0 w).alloc (.cells #[.slice none 0 0, .slice none 0 0, .slice none 0 0, .int .i64 0, .slice none 0 0] 47 (0, 0))) k1
  clear hcode' hb hsz k1
  go_wp2_with fail
  refine (l08Case_any _ hc).mono ?_
  rintro e w3 ⟨v, k, rfl, hk, ok, hc5, h5, h8, _, hg⟩
  obtain ⟨b1, d1, b2, d2, b3, d3, b4, d4, rfl, hm, hr⟩ := hk.slices
  have HKE := Lib.hid (KE.mk hm hr)
  have bR := bR.mv hg (by omega)
  have z3 := hg.size
  have r0 := bR.cell 0
  have r1 := bR.cell 1
  have r2 := bR.cell 2
  have r3 := bR.cell 3
  have r4 := bR.cell 4
  have s0 := bR.frozen 0
  have s1 := bR.frozen 1
  have s2 := bR.frozen 2
  have s3 := bR.frozen 3
  have s4 := bR.frozen 4
  have lR := bR.lt
  have HQ := Lib.hid (q1.comp hg (.inl (by omega)))
  have OK := Lib.hid ok
  clear bR hc hg hm hr hk ok q1
  go_wp2_with fail
  refine bodyPost_ret (v := .agg #[.slice b1 k.ma.fr.cells.length d1, .slice b2 k.ma.fr.used.length d2, .slice b3 k.ma.tb.length d3, .int .i64 k.calls, .slice b4 k.refuse.length d4]) (by simp [results, Try.results39, go_sem, r0, r1, r2, r3, r4, lR]) rfl ⟨_, k, rfl, ?_, OK.out, hc5, h5, h8, ?_⟩
  · exact (HKE.out.mv (l := w.heap.size) (h := w.heap.size + 1) ((((((Chg.refl w.heap.size (w.heap.size + 1) w3).set w.heap.size 0 _ (.inl ⟨Nat.le_refl _, Nat.lt_succ_self _⟩)).set w.heap.size 1 _ (.inl ⟨Nat.le_refl _, Nat.lt_succ_self _⟩)).set w.heap.size 2 _ (.inl ⟨Nat.le_refl _, Nat.lt_succ_self _⟩)).set w.heap.size 3 _ (.inl ⟨Nat.le_refl _, Nat.lt_succ_self _⟩)).set w.heap.size 4 _ (.inl ⟨Nat.le_refl _, Nat.lt_succ_self _⟩)) (by omega)).wide (by omega) (by simp only [size_set]; omega)
  · exact (((((HQ.out.set w.heap.size 0 _ (.inr (Nat.le_refl _))).set w.heap.size 1 _ (.inr (Nat.le_refl _))).set w.heap.size 2 _ (.inr (Nat.le_refl _))).set w.heap.size 3 _ (.inr (Nat.le_refl _))).set w.heap.size 4 _ (.inr (Nat.le_refl _)))
end Go.Proofs.Ytkcoehkfhffjkaa
