/- Copies of rows, and of frames. -/
import Derived.Test.YtkcoehkfhffjkaaFrNew
import Derived.Test.YtkcoehkfhffjkaaTabFn
import Derived.BigRegion
import Derived.Deep.RegionLaw
import Derived.Deep.RegionHeld3
namespace Go.Proofs.Ytkcoehkfhffjkaa
open Go.ChangeShapes Go.WideShapes Go.ChangeAt Go.RowKit
set_option linter.unusedSimpArgs false
set_option linter.unusedVariables false
set_option maxRecDepth 100000

theorem ints_one (zs : List Int) : ∀ y ∈ zs.map (Value.int .i64), y.oneCell' = true := by
  intro y hy
  simp at hy
  obtain ⟨a, _, rfl⟩ := hy; rfl
theorem bools_one (zs : List Bool) : ∀ y ∈ zs.map Value.bool, y.oneCell' = true := by
  intro y hy
  simp at hy
  rcases hy with ⟨_, rfl⟩ | ⟨_, rfl⟩ <;> rfl
theorem SI.app0 {lo hi : Nat} {w : World} {v : Value} {t : List Int} (h : Rw 3 1 lo hi w v (0 + t.length) ([] ++ t.map (Value.int .i64))) : SI lo hi w v t := by
  unfold SI; simpa using h
theorem SB.app0 {lo hi : Nat} {w : World} {v : Value} {t : List Bool} (h : Rw 4 1 lo hi w v (0 + t.length) ([] ++ t.map Value.bool)) : SB lo hi w v t := by
  unfold SB; simpa using h
theorem copyInts_any {lo hi : Nat} {zs : List Int} (v : Value) (w : World) (h : SI lo hi w v zs) (hlen : zs.length ≤ 1000000000) :
    Calls Try.prog 53 #[v] w fun e w' => ∃ v', e = .returned v' ∧ SI w.heap.size w'.heap.size w' v' zs ∧ Keep w w' := by
  obtain ⟨ao, c, rfl, _, _⟩ := h.opened
  have hemp := Rw.empty w 3 1 w.heap.size (Nat.le_refl _)
  have hsrc := h.keep ((Chg.refl 0 0 w).alloc (.cells #[] 3 (0, 0)))
  have HEM := Lib.hid hemp
  have HSR := Lib.hid hsrc
  clear hemp hsrc h
  go_enter Try.func53, Try.ntmps53
  go_wp2_with (at_builtin; refine app_row rfl _ _ _ rfl _ _ _ _ _ _ _ _ Try.underlying32 Try.infoInt rfl (by decide) _ _ _ _ _ _ HEM.out HSR.out (by omega) (ints_one _) (by decide) (by omega) (by simp only [size_alloc]; omega) rfl rfl ?_; intro v1 w1 h1 k1)
  go_ret
  exact ⟨_, rfl, SI.app0 h1, ((Chg.refl 0 0 w).alloc _).comp k1 (.inl (Nat.le_refl _))⟩
/-- One round: a row that lies beyond is appended to the rows whose value lies in block F. -/
theorem app_step {F k cc cc3 hi2 : Nat} {A wr W w3 : World} {ao ao3 : Option Addr} {u u2 : Value} {T : TypeId} {vs : List Value} {rows : List (List Int)} {r : List Int} (hF : Blk wr F T #[.slice ao k cc, u]) (hS : SSv (F + 1) wr.heap.size wr (.slice ao k cc) vs rows) (hlr : rows.length = k)
    (hk : Keep wr W) (hr : SI wr.heap.size hi2 W u2 r) (h2 : hi2 ≤ W.heap.size) (hA : Chg F (F + 1) A wr) (hs : A.heap.size ≤ F + 1)
    (hown3 : Rw 32 1 (F + 1) w3.heap.size w3 (.slice ao3 (k + 1) cc3) (k + 1) (vs ++ [u2]))
    (hg3 : W.grownBy w3 (Value.slice ao k cc).ownBlock) :
    Blk (w3.setCell ⟨F, 0, none⟩ (.slice ao3 (k + 1) cc3)) F T #[.slice ao3 (k + 1) cc3, u] ∧
    SSv (F + 1) (w3.setCell ⟨F, 0, none⟩ (.slice ao3 (k + 1) cc3)).heap.size (w3.setCell ⟨F, 0, none⟩ (.slice ao3 (k + 1) cc3)) (.slice ao3 (k + 1) cc3) (vs ++ [u2]) (rows ++ [r]) ∧
    Chg F (F + 1) A (w3.setCell ⟨F, 0, none⟩ (.slice ao3 (k + 1) cc3)) := by
  subst hlr
  have hlt := hF.lt
  have hS' := hS.same (hk.at_ (.inr (.inl (Nat.zero_le _))))
  have hsz := hk.size
  have hc3 := Chg.of_app hS'.out hg3
  have hsz3 := hc3.size
  have hss := hS'.app (w3 := w3) hr (by omega) (Nat.le_refl _) (by omega) (by omega) hown3 hg3
  refine ⟨?_, ?_, ?_⟩
  · have := (Blk.app (hF.keep hk) hg3 fun q hq => by have := (hS.out.1.lt q hq).1; omega).set_ 0 (.slice ao3 (rows.length + 1) cc3)
    simpa using this
  · have := hss.same (w' := w3.setCell ⟨F, 0, none⟩ (.slice ao3 (rows.length + 1) cc3)) (((Chg.refl F (F + 1) w3).set F 0 _ (.inl ⟨Nat.le_refl _, by omega⟩)).at_ (by omega))
    simpa [World.setCell] using this
  · exact (((hA.keep hk).comp hc3 (.inl (by omega))).set F 0 _ (.inl ⟨Nat.le_refl _, by omega⟩))
theorem take_next {α : Type} (l : List α) (d : α) (k : Nat) (h : k < l.length) : l.take (k + 1) = l.take k ++ [l.getD k d] := by
  rw [List.take_succ_eq_append_getElem h]; simp [List.getD, h]
theorem copyFrames_any {lo hi : Nat} {f : FrD} (v : Value) (w : World) (h : FR lo hi w v f) (hs : sm_Frames f) :
    Calls Try.prog 105 #[v] w fun e w' => ∃ v', e = .returned v' ∧ FR w.heap.size w'.heap.size w' v' f ∧ Keep w w' := by
  have hrl := fun j => row_le f.cells j
  unfold sm_Frames at hs
  obtain ⟨a1, c1, a2, c2, rfl, h⟩ := h.slices
  have HH := Lib.hid h
  have hemp : Rw 4 1 (w.heap.size + 1 + 1) (w.heap.size + 1 + 1 + 1) (((w.alloc (.cells #[.slice a1 f.cells.length c1, .slice a2 f.used.length c2] 34 (0, 0))).alloc (.cells #[.slice none 0 0, .slice none 0 0] 34 (0, 0))).alloc (.cells #[] 4 (0, 0))) (.slice (some ⟨w.heap.size + 1 + 1, 0, none⟩) 0 0) 0 [] := by
    have := Rw.empty ((w.alloc (.cells #[.slice a1 f.cells.length c1, .slice a2 f.used.length c2] 34 (0, 0))).alloc (.cells #[.slice none 0 0, .slice none 0 0] 34 (0, 0))) 4 1 (w.heap.size + 1 + 1) (by simp only [size_alloc]; omega)
    simpa only [size_alloc] using this
  have hsrc : SB lo hi (((w.alloc (.cells #[.slice a1 f.cells.length c1, .slice a2 f.used.length c2] 34 (0, 0))).alloc (.cells #[.slice none 0 0, .slice none 0 0] 34 (0, 0))).alloc (.cells #[] 4 (0, 0))) (.slice a2 f.used.length c2) f.used := by
    obtain ⟨s1, s2, e, _, h2⟩ := h
    simp at e
    rw [e.2]
    exact h2.keep (((Chg.refl 0 0 w).alloc _).alloc _ |>.alloc _)
  have HEM := Lib.hid hemp
  have HSR := Lib.hid hsrc
  clear hemp hsrc h
  go_enter Try.func105, Try.ntmps105
  go_wp2_with (at_builtin; refine app_row rfl _ _ _ rfl _ _ _ _ _ _ _ _ Try.underlying23 Try.infoBool rfl (by decide) _ _ _ _ _ _ HEM.out HSR.out (by omega) (bools_one _) (by decide) (by omega) (by simp only [size_alloc]; omega) rfl rfl ?_; intro v1 w1 h1 k1; replace h1 := SB.app0 h1; obtain ⟨bo, d, rfl, _, _⟩ := h1.opened; have bA := ((Blk.new w 34 #[.slice a1 f.cells.length c1, .slice a2 f.used.length c2]).keep (((Chg.refl 0 0 _).alloc (.cells #[.slice none 0 0, .slice none 0 0] 34 (0, 0))).alloc (.cells #[] 4 (0, 0)))).mv k1 (by omega); have cA0 := bA.cell 0; have cA1 := bA.cell 1; have lA := bA.lt)
  have hz := k1.size
  simp only [size_alloc] at hz
  have q1 : Keep w w1 := (((Chg.refl 0 0 w).alloc _).alloc _ |>.alloc _).comp k1 (.inl (by omega))
  have bR := ((blk1 w (.cells #[.slice a1 f.cells.length c1, .slice a2 f.used.length c2] 34 (0, 0)) 34 #[.slice none 0 0, .slice none 0 0]).keep ((Chg.refl 0 0 _).alloc (.cells #[] 4 (0, 0)))).mv k1 (by omega)
  clear bA cA0 cA1 lA k1
  go_loopw [14] (fun i wr => ∃ (k : Nat) (cv : Value) (vs : List Value), k ≤ f.cells.length ∧ i = .int .i64 k ∧ Blk wr w1.heap.size 34 #[cv, .slice bo f.used.length d] ∧ SSv (w1.heap.size + 1) wr.heap.size wr cv vs (f.cells.take k) ∧ Chg w1.heap.size (w1.heap.size + 1) (w1.alloc (.cells #[.slice none 0 0, .slice bo f.used.length d] 34 (0, 0))) wr) (fun i _ => f.cells.length - (intOf i).toNat)
  case atStart => exact ⟨0, .slice none 0 0, [], Nat.zero_le _, rfl, Blk.new _ _ _, ⟨Rw.nil _ _ _ _ _, fun i hi => by simp at hi, fun i j _ hj => by simp at hj⟩, Chg.refl _ _ _⟩
  case round =>
    obtain ⟨k, cv, vs, hk, rfl, bF, hss, hg⟩ := hrel
    have c0 := bF.cell 0
    have cF1 := bF.cell 1
    have f0 := bF.frozen 0
    have lF := bF.lt
    have qr : Keep w wr := (q1.alloc _).comp hg (.inl (by omega))
    have htl : (f.cells.take k).length = k := by simp; omega
    obtain ⟨ao, cc, e, _, _⟩ := hss.opened
    rw [htl] at e
    subst e
    by_cases hlt : k < f.cells.length
    · obtain ⟨g, rb, rd, rfl, _, _, lg, ck, hrow⟩ := (HH.out.keep qr).rowAt k hlt
      have hrlk := hrl k
      have HT := Lib.hid (take_next f.cells [] k hlt)
      generalize f.cells.getD k [] = r at *
      have hout : Rw 32 1 (w1.heap.size + 1) wr.heap.size wr (.slice ao k cc) k vs := by have := hss.out; rwa [htl] at this
      have HHO := Lib.hid hout
      have HS := Lib.hid hss
      have HG := Lib.hid hg
      have HF := Lib.hid bF
      have H1 := Lib.hid h1
      have HR := Lib.hid bR
      have HTL := Lib.hid htl
      have HROW := Lib.hid hrow
      have hkn : k ≤ 1000000000 := by omega
      have hrn : r.length ≤ 1000000000 := by omega
      clear hss hg bF h1 bR htl hrow hout hrl hrlk cF1
      go_wp2_with fail
      go_region_law (first | (refine step_appG rfl (.tmp 19) (.tmp 22) _ rfl (w1.heap.size + 1) wr.heap.size _ _ _ _ Try.underlying22 Try.infoInts rfl (by decide) (.slice ao k cc) k vs (Rw.mv HHO.out (k2.alloc _) (.inr (.inl (Nat.zero_le _)))) ⟨w2.heap.size, 0, none⟩ 1 1 _ rfl (by decide) (new_cells w2 _ _) (slc1 _ _ _) (by decide) hkn (by simp only [size_alloc]; omega) rfl rfl ?_; intro v' w3 hown3 hg3; obtain ⟨ao3, cc3, rfl, _, _⟩ := Rw.opened hown3; have bF := Blk.app (HF.out.keep (k2.alloc _)) hg3 (fun q hq => by have := (HHO.out.1.lt q hq).1; omega); have d0 := bF.cell 0; have g0 := bF.frozen 0; have l3 := bF.lt; clear bF) | (go_simp; go_at_call 53; (with_reducible refine (copyInts_any _ _ (HROW.out.keep ((Chg.refl 0 0 wr).drew)) hrn).mono ?_); rintro e w2 ⟨v2, rfl, h2, k2⟩; have k2 : Keep wr w2 := ((Chg.refl 0 0 wr).drew).keep k2; obtain ⟨bo2, d2, rfl, _, _⟩ := h2.opened; have z2 := k2.size; have bF := HF.out.keep k2; have d0 := bF.cell 0; have g0 := bF.frozen 0; have l2 := bF.lt; clear bF))
      all_goals
        have hst := app_step HF.out HS.out HTL.out (k2.alloc _) (h2.keep ((Chg.refl 0 0 w2).alloc _)) (by rw [size_alloc]; omega) HG.out (Nat.le_of_eq (size_alloc _ _)) hown3 hg3
        rw [← HT.out] at hst
        have HST := Lib.hid hst
        clear hst hown3 hg3 h2 d0 g0 l3
        go_wp2_with fail
        go_roundw
        case rel => exact ⟨k + 1, _, _, by omega, by go_num, HST.out⟩
        case measure => simp [intOf]; omega
    · obtain rfl : k = f.cells.length := by omega
      have HT := Lib.hid (show f.cells.take f.cells.length = f.cells by simp)
      have bR' := (bR.keep ((Chg.refl 0 0 _).alloc (.cells #[.slice none 0 0, .slice bo f.used.length d] 34 (0, 0)))).mv hg (by omega)
      have r0 := bR'.cell 0
      have r1 := bR'.cell 1
      have rf0 := bR'.frozen 0
      have rf1 := bR'.frozen 1
      have lR := bR'.lt
      have hb' := (h1.keep ((Chg.refl 0 0 _).alloc (.cells #[.slice none 0 0, .slice bo f.used.length d] 34 (0, 0)))).mv hg (by omega)
      have hz1 := hg.size
      simp only [size_alloc] at hz1
      have lR' : w.heap.size < wr.heap.size := by omega
      clear bR bR' h1
      go_wp2_with fail
      refine bodyPost_ret (v := .agg #[.slice ao f.cells.length cc, .slice bo f.used.length d]) (by simp [results, Try.results105, go_sem, r0, r1, lR]) rfl ⟨_, rfl, ?_, ?_⟩
      · refine ⟨_, _, rfl, ?_, ?_⟩
        · rw [HT.out] at hss
          exact ((show SS _ _ _ _ _ from ⟨vs, hss⟩).mv (l := w.heap.size) (h := w.heap.size + 2) (by repeat (first | exact Chg.refl _ _ _ | (refine Chg.set ?_ _ _ _ (.inl ⟨by omega, by omega⟩)))) (by omega)).wide (by omega) (by simp)
        · exact (hb'.mv (l := w.heap.size) (h := w.heap.size + 2) (by repeat (first | exact Chg.refl _ _ _ | (refine Chg.set ?_ _ _ _ (.inl ⟨by omega, by omega⟩)))) (by omega)).wide (by omega) (by simp; omega)
      · exact (by repeat (first | exact qr | (refine Chg.set ?_ _ _ _ (.inr (by omega)))))
set_option maxHeartbeats 2000000 in
theorem copyFrames_spec {lo hi : Nat} {f : FrD} (v : Value) (w : World) (h : FR lo hi w v f) (hs : sm_Frames f) :
    Calls Try.prog 103 #[v] w fun e w' => ∃ v', e = .returned v' ∧ FR w.heap.size w'.heap.size w' v' f ∧ Keep w w' := by
  have hrl := fun j => row_le f.cells j
  unfold sm_Frames at hs
  obtain ⟨a1, c1, a2, c2, rfl, h⟩ := h.slices
  have HH := Lib.hid h
  have hemp : Rw 4 1 (w.heap.size + 1 + 1) (w.heap.size + 1 + 1 + 1) (((w.alloc (.cells #[.slice a1 f.cells.length c1, .slice a2 f.used.length c2] 34 (0, 0))).alloc (.cells #[.slice none 0 0, .slice none 0 0] 34 (0, 0))).alloc (.cells #[] 4 (0, 0))) (.slice (some ⟨w.heap.size + 1 + 1, 0, none⟩) 0 0) 0 [] := by
    have := Rw.empty ((w.alloc (.cells #[.slice a1 f.cells.length c1, .slice a2 f.used.length c2] 34 (0, 0))).alloc (.cells #[.slice none 0 0, .slice none 0 0] 34 (0, 0))) 4 1 (w.heap.size + 1 + 1) (by simp only [size_alloc]; omega)
    simpa only [size_alloc] using this
  have hsrc : SB lo hi (((w.alloc (.cells #[.slice a1 f.cells.length c1, .slice a2 f.used.length c2] 34 (0, 0))).alloc (.cells #[.slice none 0 0, .slice none 0 0] 34 (0, 0))).alloc (.cells #[] 4 (0, 0))) (.slice a2 f.used.length c2) f.used := by
    obtain ⟨s1, s2, e, _, h2⟩ := h
    simp at e
    rw [e.2]
    exact h2.keep (((Chg.refl 0 0 w).alloc _).alloc _ |>.alloc _)
  have HEM := Lib.hid hemp
  have HSR := Lib.hid hsrc
  clear hemp hsrc h
  go_enter Try.func103, Try.ntmps103
  go_wp2_with (at_builtin; refine app_row rfl _ _ _ rfl _ _ _ _ _ _ _ _ Try.underlying23 Try.infoBool rfl (by decide) _ _ _ _ _ _ HEM.out HSR.out (by omega) (bools_one _) (by decide) (by omega) (by simp only [size_alloc]; omega) rfl rfl ?_; intro v1 w1 h1 k1; replace h1 := SB.app0 h1; obtain ⟨bo, d, rfl, _, _⟩ := h1.opened; have bA := ((Blk.new w 34 #[.slice a1 f.cells.length c1, .slice a2 f.used.length c2]).keep (((Chg.refl 0 0 _).alloc (.cells #[.slice none 0 0, .slice none 0 0] 34 (0, 0))).alloc (.cells #[] 4 (0, 0)))).mv k1 (by omega); have cA0 := bA.cell 0; have cA1 := bA.cell 1; have lA := bA.lt)
  have hz := k1.size
  simp only [size_alloc] at hz
  have q1 : Keep w w1 := (((Chg.refl 0 0 w).alloc _).alloc _ |>.alloc _).comp k1 (.inl (by omega))
  have bR := ((blk1 w (.cells #[.slice a1 f.cells.length c1, .slice a2 f.used.length c2] 34 (0, 0)) 34 #[.slice none 0 0, .slice none 0 0]).keep ((Chg.refl 0 0 _).alloc (.cells #[] 4 (0, 0)))).mv k1 (by omega)
  have BA := Lib.hid bA
  clear bA cA0 cA1 lA k1
  go_loopw [4] (fun i wr => ∃ (k : Nat) (cv : Value) (vs : List Value), k ≤ f.cells.length ∧ i = .int .i64 k ∧ Blk wr w1.heap.size 34 #[cv, .slice bo f.used.length d] ∧ SSv (w1.heap.size + 1) wr.heap.size wr cv vs (f.cells.take k) ∧ Chg w1.heap.size (w1.heap.size + 1) (w1.alloc (.cells #[.slice none 0 0, .slice bo f.used.length d] 34 (0, 0))) wr) (fun i _ => f.cells.length - (intOf i).toNat)
  case atStart => exact ⟨0, .slice none 0 0, [], Nat.zero_le _, rfl, Blk.new _ _ _, ⟨Rw.nil _ _ _ _ _, fun i hi => by simp at hi, fun i j _ hj => by simp at hj⟩, Chg.refl _ _ _⟩
  case round =>
    obtain ⟨k, cv, vs, hk, rfl, bF, hss, hg⟩ := hrel
    have c0 := bF.cell 0
    have cF1 := bF.cell 1
    have f0 := bF.frozen 0
    have lF := bF.lt
    have qr : Keep w wr := (q1.alloc _).comp hg (.inl (by omega))
    have bAr := (BA.out.keep ((Chg.refl 0 0 _).alloc (.cells #[.slice none 0 0, .slice bo f.used.length d] 34 (0, 0)))).mv hg (by omega)
    have cA0 := bAr.cell 0
    have lA := bAr.lt
    have htl : (f.cells.take k).length = k := by simp; omega
    obtain ⟨ao, cc, e, _, _⟩ := hss.opened
    rw [htl] at e
    subst e
    by_cases hlt : k < f.cells.length
    · obtain ⟨g, rb, rd, rfl, _, _, lg, ck0, hrow0⟩ := HH.out.rowAt k hlt
      have ck := (Keep.grown qr none).cell ck0 (by simp)
      have hrow := hrow0.keep qr
      clear ck0 hrow0
      have hrlk := hrl k
      have HT := Lib.hid (take_next f.cells [] k hlt)
      generalize f.cells.getD k [] = r at *
      have hout : Rw 32 1 (w1.heap.size + 1) wr.heap.size wr (.slice ao k cc) k vs := by have := hss.out; rwa [htl] at this
      have HHO := Lib.hid hout
      have HS := Lib.hid hss
      have HG := Lib.hid hg
      have HF := Lib.hid bF
      have H1 := Lib.hid h1
      have HR := Lib.hid bR
      have HTL := Lib.hid htl
      have HROW := Lib.hid hrow
      have hkn : k ≤ 1000000000 := by omega
      have hrn : r.length ≤ 1000000000 := by omega
      have hneA : ¬ ((⟨w.heap.size, 0, none⟩ : Addr).block = w1.heap.size) := by show ¬ (w.heap.size = w1.heap.size); omega
      have hneA : ¬ (some (⟨w.heap.size, 0, none⟩ : Addr).block = some w1.heap.size) := fun e => hneA (Option.some.inj e)
      have hneg : ¬ (some (⟨g, k, none⟩ : Addr).block = some w1.heap.size) := fun e => by have : g = w1.heap.size := Option.some.inj e; omega
      have lg' : g < wr.heap.size := by have := qr.size; omega
      have hltI : (k : Int) < (f.cells.length : Int) := by omega
      have hemp2 := Rw.empty wr 3 1 wr.heap.size (Nat.le_refl _)
      have HE2 := Lib.hid hemp2
      have HAR := Lib.hid bAr
      have HNE := Lib.hid (show ¬ (some g = (Value.slice ao k cc).ownBlock) from fun e => by have := (hout.1.lt g e.symm).1; omega)
      clear hemp2 bAr
      have hb2 : wr.heap.size ≤ ((wr.alloc (.cells #[] 3 (0, 0))).drew).heap.size := by
        show _ ≤ (wr.alloc (.cells #[] 3 (0, 0))).heap.size
        rw [size_alloc]; omega
      clear hss hg bF h1 bR htl hrow hout hrl hrlk cF1
      go_wp2_with fail
      go_region_law (first | (refine step_row rfl (.tmp 19) (.tmp 24) _ rfl wr.heap.size (wr.heap.size + 1) lo hi _ _ _ _ Try.underlying32 Try.infoInt rfl (by decide) _ _ 0 r.length _ _ (Rw.mv HE2.out ((Chg.refl 0 0 _).drew) (.inr (.inl (Nat.zero_le _)))) (Rw.mv HROW.out (Keep.ad wr _) (.inr (.inl (Nat.zero_le _)))) hrn (ints_one _) (by decide) (by decide) hb2 rfl rfl ?_; intro v2 w2 h2 k2; replace h2 := SI.app0 h2; obtain ⟨bo2, d2, rfl, _, _⟩ := h2.opened; have k2 : Keep wr w2 := (Keep.ad wr _).comp k2 (.inl (Nat.le_refl _)); have z2 := k2.size; have bF := HF.out.keep k2; have d0 := bF.cell 0; have g0 := bF.frozen 0; have l2 := bF.lt; clear bF) | (refine step_appG rfl (.tmp 18) (.tmp 26) _ rfl (w1.heap.size + 1) wr.heap.size _ _ _ _ Try.underlying22 Try.infoInts rfl (by decide) (.slice ao k cc) k vs (Rw.mv HHO.out (k2.alloc _) (.inr (.inl (Nat.zero_le _)))) ⟨w2.heap.size, 0, none⟩ 1 1 _ rfl (by decide) (new_cells w2 _ _) (slc1 _ _ _) (by decide) hkn (by simp only [size_alloc]; omega) rfl rfl ?_; intro v' w3 hown3 hg3; obtain ⟨ao3, cc3, rfl, _, _⟩ := Rw.opened hown3; have bF := Blk.app (HF.out.keep (k2.alloc _)) hg3 (fun q hq => by have := (HHO.out.1.lt q hq).1; omega); have d0 := bF.cell 0; have g0 := bF.frozen 0; have l3 := bF.lt; clear bF))
      all_goals
        have hst := app_step HF.out HS.out HTL.out (k2.alloc _) (h2.keep ((Chg.refl 0 0 w2).alloc _)) (by rw [size_alloc]; omega) HG.out (Nat.le_of_eq (size_alloc _ _)) hown3 hg3
        rw [← HT.out] at hst
        have HST := Lib.hid hst
        clear hst hown3 hg3 h2 d0 g0 l3
        go_wp2_with fail
        go_roundw
        case rel => exact ⟨k + 1, _, _, by omega, by go_num, HST.out⟩
        case measure => simp [intOf]; omega
    · obtain rfl : k = f.cells.length := by omega
      have HT := Lib.hid (show f.cells.take f.cells.length = f.cells by simp)
      have bR' := (bR.keep ((Chg.refl 0 0 _).alloc (.cells #[.slice none 0 0, .slice bo f.used.length d] 34 (0, 0)))).mv hg (by omega)
      have r0 := bR'.cell 0
      have r1 := bR'.cell 1
      have rf0 := bR'.frozen 0
      have rf1 := bR'.frozen 1
      have lR := bR'.lt
      have hb' := (h1.keep ((Chg.refl 0 0 _).alloc (.cells #[.slice none 0 0, .slice bo f.used.length d] 34 (0, 0)))).mv hg (by omega)
      have hz1 := hg.size
      simp only [size_alloc] at hz1
      have lR' : w.heap.size < wr.heap.size := by omega
      clear bR bR' h1
      go_wp2_with fail
      refine bodyPost_ret (v := .agg #[.slice ao f.cells.length cc, .slice bo f.used.length d]) (by simp [results, Try.results103, go_sem, r0, r1, lR]) rfl ⟨_, rfl, ?_, ?_⟩
      · refine ⟨_, _, rfl, ?_, ?_⟩
        · rw [HT.out] at hss
          exact ((show SS _ _ _ _ _ from ⟨vs, hss⟩).mv (l := w.heap.size) (h := w.heap.size + 2) (by repeat (first | exact Chg.refl _ _ _ | (refine Chg.set ?_ _ _ _ (.inl ⟨by omega, by omega⟩)))) (by omega)).wide (by omega) (by simp)
        · exact (hb'.mv (l := w.heap.size) (h := w.heap.size + 2) (by repeat (first | exact Chg.refl _ _ _ | (refine Chg.set ?_ _ _ _ (.inl ⟨by omega, by omega⟩)))) (by omega)).wide (by omega) (by simp; omega)
      · exact (by repeat (first | exact qr | (refine Chg.set ?_ _ _ _ (.inr (by omega)))))
end Go.Proofs.Ytkcoehkfhffjkaa
