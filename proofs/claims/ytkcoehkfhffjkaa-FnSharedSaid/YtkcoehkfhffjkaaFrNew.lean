/- FramesNew of both. -/
import Derived.Test.YtkcoehkfhffjkaaRowsApp
import Derived.Test.YtkcoehkfhffjkaaFr5
import Derived.BigRegion
import Derived.Deep.RegionLaw
namespace Go.Proofs.Ytkcoehkfhffjkaa
open Go.ChangeShapes Go.WideShapes Go.ChangeAt Go.RowKit
set_option linter.unusedSimpArgs false
set_option linter.unusedVariables false

theorem new_cellsA (w : World) (o : Obj) (e : TypeId) (cs : List Value) : ∀ j u, cs[j]? = some u → ((w.alloc o).alloc (.cells cs.toArray e (0, 0))).cell? ((⟨w.heap.size + 1, 0, none⟩ : Addr).add j) = some u := by
  have := new_cells (w.alloc o) e cs
  rwa [size_alloc] at this
theorem Blk.app {W w3 : World} {g : Nat} {t : TypeId} {cs : Array Value} {r : Option Nat} (h : Blk W g t cs) (hg : W.grownBy w3 r) (hr : ∀ k, r = some k → k ≠ g) : Blk w3 g t cs := by
  unfold Blk at *
  rw [hg.block g (lt_of_block h) (fun e => hr g e.symm rfl)]; exact h
def z16 : Array Value := madeCells #[Value.int .i64 0] 16
theorem run_z16 (W : World) : (Instr.makeSlice 32 (.int .i64 16) (.int .i64 16)).run Try.prog W = .ok (.slice (some ⟨W.heap.size, 0, none⟩) 16 16) (W.alloc (.cells z16 3)) :=
  run_make_row' (P := Try.prog) 32 3 (.int .i64 0) 8 Try.underlying32 Try.infoInt rfl .i64 .i64 16 (by decide) (by decide) W
theorem Keep.aad (w : World) (o o2 : Obj) : Keep w ((w.alloc o).alloc o2).drew := (((Chg.refl 0 0 w).alloc o).alloc o2).drew
theorem SI.z16 (w : World) : SI w.heap.size (w.heap.size + 1) (w.alloc (.cells z16 3 (0, 0))) (.slice (some ⟨w.heap.size, 0, none⟩) 16 16) zrow := SI.zlit w
theorem slc1 (a : Option Addr) (n c : Nat) : ∀ y ∈ [Value.slice a n c], y.oneCell' = true := by simp [Value.oneCell']
/-- One round: a new zero row is appended to the rows whose value lies in block F. -/
theorem new_step {F k cc cc3 : Nat} {A wr w3 : World} {ao ao3 : Option Addr} {u : Value} {T : TypeId} {vs : List Value} (hF : Blk wr F T #[.slice ao k cc, u]) (hS : SSv (F + 1) wr.heap.size wr (.slice ao k cc) vs (List.replicate k zrow))
    (hA : Chg F (F + 1) A wr) (hs : A.heap.size ≤ F + 1)
    (hown3 : Rw 32 1 (F + 1) w3.heap.size w3 (.slice ao3 (k + 1) cc3) (k + 1) (vs ++ [.slice (some ⟨wr.heap.size, 0, none⟩) 16 16]))
    (hg3 : (((wr.alloc (.cells z16 3 (0, 0))).alloc (.cells #[.slice (some ⟨wr.heap.size, 0, none⟩) 16 16] 32 (0, 0))).drew).grownBy w3 (Value.slice ao k cc).ownBlock) :
    Blk (w3.setCell ⟨F, 0, none⟩ (.slice ao3 (k + 1) cc3)) F T #[.slice ao3 (k + 1) cc3, u] ∧
    SSv (F + 1) (w3.setCell ⟨F, 0, none⟩ (.slice ao3 (k + 1) cc3)).heap.size (w3.setCell ⟨F, 0, none⟩ (.slice ao3 (k + 1) cc3)) (.slice ao3 (k + 1) cc3) (vs ++ [.slice (some ⟨wr.heap.size, 0, none⟩) 16 16]) (List.replicate (k + 1) zrow) ∧
    Chg F (F + 1) A (w3.setCell ⟨F, 0, none⟩ (.slice ao3 (k + 1) cc3)) := by
  have hlt := hF.lt
  have hk := Keep.aad wr (.cells z16 3 (0, 0)) (.cells #[.slice (some ⟨wr.heap.size, 0, none⟩) 16 16] 32 (0, 0))
  have hS' := hS.same (hk.at_ (.inr (.inl (Nat.zero_le _))))
  have hsz : (((wr.alloc (.cells z16 3 (0, 0))).alloc (.cells #[.slice (some ⟨wr.heap.size, 0, none⟩) 16 16] 32 (0, 0))).drew).heap.size = wr.heap.size + 2 := by
    show ((wr.alloc (.cells z16 3 (0, 0))).alloc (.cells #[.slice (some ⟨wr.heap.size, 0, none⟩) 16 16] 32 (0, 0))).heap.size = _
    simp only [size_alloc]
  have hz : SI wr.heap.size (wr.heap.size + 1) (((wr.alloc (.cells z16 3 (0, 0))).alloc (.cells #[.slice (some ⟨wr.heap.size, 0, none⟩) 16 16] 32 (0, 0))).drew) (.slice (some ⟨wr.heap.size, 0, none⟩) 16 16) zrow := (SI.z16 wr).keep (((Chg.refl 0 0 _).alloc _).drew)
  have hr : List.replicate (k + 1) zrow = List.replicate k zrow ++ [zrow] := List.replicate_succ'
  have hc3 := Chg.of_app hS'.out hg3
  have hsz3 := hc3.size
  have hss := hS'.app (w3 := w3) hz (by omega) (Nat.le_refl _) (by omega) (by omega) (by rw [List.length_replicate]; exact hown3) hg3
  refine ⟨?_, ?_, ?_⟩
  · have := (Blk.app (hF.keep hk) hg3 fun q hq => by have := (hS.out.1.lt q hq).1; omega).set_ 0 (.slice ao3 (k + 1) cc3)
    simpa using this
  · rw [hr]
    have := hss.same (w' := w3.setCell ⟨F, 0, none⟩ (.slice ao3 (k + 1) cc3)) (((Chg.refl F (F + 1) w3).set F 0 _ (.inl ⟨Nat.le_refl _, by omega⟩)).at_ (by omega))
    simpa [World.setCell] using this
  · exact (((hA.keep hk).comp hc3 (.inl (by omega))).set F 0 _ (.inl ⟨Nat.le_refl _, by omega⟩))
theorem Rw.alone {E E2 sz sz2 lo hi lo2 hi2 : Nat} {W w3 : World} {v u : Value} {n n2 : Nat} {xs xs2 : List Value} (h : Rw E sz lo hi W u n xs) (hv : Rw E2 sz2 lo2 hi2 W v n2 xs2) (hg : W.grownBy w3 v.ownBlock) (hne : E ≠ E2) : Rw E sz lo hi w3 u n xs :=
  h.grown hg fun k hk hv' => Rw.ne h hv hne hk hv' rfl
theorem SSv.alone {E2 sz2 lo hi lo2 hi2 : Nat} {W w3 : World} {v u : Value} {vs : List Value} {rows : List (List Int)} {n2 : Nat} {xs2 : List Value} (h : SSv lo hi W u vs rows) (hv : Rw E2 sz2 lo2 hi2 W v n2 xs2) (hg : W.grownBy w3 v.ownBlock) (h1 : 32 ≠ E2) (h2 : 3 ≠ E2) : SSv lo hi w3 u vs rows :=
  ⟨h.out.alone hv hg h1, fun i hi => Rw.alone (h.row i hi) hv hg h2, h.apart⟩
/-- The marks beside the rows stay. -/
theorem new_stepB {F k cc cc3 : Nat} {wr w3 : World} {ao ao3 : Option Addr} {uv : Value} {vs : List Value} {us : List Bool} (hS : SSv (F + 1) wr.heap.size wr (.slice ao k cc) vs (List.replicate k zrow)) (hU : SB (F + 1) wr.heap.size wr uv us) (hlt : F < wr.heap.size)
    (hg3 : (((wr.alloc (.cells z16 3 (0, 0))).alloc (.cells #[.slice (some ⟨wr.heap.size, 0, none⟩) 16 16] 32 (0, 0))).drew).grownBy w3 (Value.slice ao k cc).ownBlock) :
    SB (F + 1) (w3.setCell ⟨F, 0, none⟩ (.slice ao3 (k + 1) cc3)).heap.size (w3.setCell ⟨F, 0, none⟩ (.slice ao3 (k + 1) cc3)) uv us := by
  have hk := Keep.aad wr (.cells z16 3 (0, 0)) (.cells #[.slice (some ⟨wr.heap.size, 0, none⟩) 16 16] 32 (0, 0))
  have hS' := hS.same (hk.at_ (.inr (.inl (Nat.zero_le _))))
  have hz := hk.size
  have hz3 := hg3.size
  have h3 : SB (F + 1) wr.heap.size w3 uv us := Rw.alone (hU.keep hk) hS'.out hg3 (by decide)
  have := (h3.mv (((Chg.refl F (F + 1) w3).set F 0 (.slice ao3 (k + 1) cc3) (.inl ⟨Nat.le_refl _, by omega⟩))) (by omega)).wide (Nat.le_refl _) (show wr.heap.size ≤ w3.heap.size by omega)
  simpa [World.setCell] using this
theorem new_step2 {F k : Nat} {A w4 w5 : World} {cv uv v5 : Value} {T : TypeId} {vs : List Value} {rows : List (List Int)} (hF : Blk w4 F T #[cv, uv]) (hS : SSv (F + 1) w4.heap.size w4 cv vs rows) (hU : SB (F + 1) w4.heap.size w4 uv (List.replicate k false))
    (hA : Chg F (F + 1) A w4) (hs : A.heap.size ≤ F + 1)
    (hown5 : Rw 4 1 (F + 1) w5.heap.size w5 v5 (k + 1) ((List.replicate k false).map Value.bool ++ [.bool false]))
    (hg5 : (w4.alloc (.cells #[.bool false] 4 (0, 0))).grownBy w5 uv.ownBlock) :
    Blk (w5.setCell ⟨F, 1, none⟩ v5) F T #[cv, v5] ∧ SSv (F + 1) (w5.setCell ⟨F, 1, none⟩ v5).heap.size (w5.setCell ⟨F, 1, none⟩ v5) cv vs rows ∧ SB (F + 1) (w5.setCell ⟨F, 1, none⟩ v5).heap.size (w5.setCell ⟨F, 1, none⟩ v5) v5 (List.replicate (k + 1) false) ∧ Chg F (F + 1) A (w5.setCell ⟨F, 1, none⟩ v5) := by
  have hlt := hF.lt
  have hk := (Chg.refl 0 0 w4).alloc (.cells #[.bool false] 4 (0, 0))
  have hU' := hU.keep hk
  have hS' := hS.same (hk.at_ (.inr (.inl (Nat.zero_le _))))
  have hz := hk.size
  have hz5 := hg5.size
  have hc5 := Chg.of_app hU' hg5
  have hst := (Chg.refl F (F + 1) w5).set F 1 v5 (.inl ⟨Nat.le_refl _, by omega⟩)
  refine ⟨?_, ?_, ?_, ?_⟩
  · have := (Blk.app (hF.keep hk) hg5 fun q hq => by have := (hU.1.lt q hq).1; omega).set_ 1 v5
    simpa using this
  · have := ((hS'.alone hU' hg5 (by decide) (by decide)).same (hst.at_ (by omega))).wide (Nat.le_refl _) (show w4.heap.size ≤ w5.heap.size by omega)
    simpa [World.setCell] using this
  · have e : ((List.replicate k false).map Value.bool ++ [Value.bool false]) = (List.replicate (k + 1) false).map Value.bool := by rw [List.replicate_succ', List.map_append]; rfl
    rw [e] at hown5
    have h : SB (F + 1) w5.heap.size w5 v5 (List.replicate (k + 1) false) := by unfold SB; simpa using hown5
    have := h.mv hst (by omega)
    simpa [World.setCell] using this
  · exact ((hA.keep hk).comp hc5 (.inl (by omega))).set F 1 v5 (.inl ⟨Nat.le_refl _, by omega⟩)
theorem cntRows_rep (k : Nat) : cntRows (List.replicate k zrow) = k * 16 := by
  induction k with
  | zero => rfl
  | succ k ih => rw [List.replicate_succ, cntRows, ih]; simp [zrow]; omega
theorem framesNewD_sm (n : Int) : sm_Frames (framesNewD n) := by
  unfold framesNewD sm_Frames
  split
  · rename_i h
    have := btw_iff.1 h
    simp only [cntRows_rep, List.length_replicate]
    omega
  · simp [cntRows]
theorem framesNew_any (n : Int) (w : World) :
    Calls Try.prog 101 #[.int .i64 n] w fun e w' => ∃ v, e = .returned (.tuple #[v, .bool (btw n 1 32)]) ∧ FR w.heap.size w'.heap.size w' v (framesNewD n) ∧ Keep w w' := by
  cases hb : btw n 1 32
  · have HE := Lib.hid (show framesNewD n = ⟨[], []⟩ by unfold framesNewD; rw [hb]; rfl)
    go_enter Try.func101, Try.ntmps101
    go_wp2_with (go_at_call 65; refine (between_any _ _ _ _).mono ?_; rintro e w' ⟨rfl, rfl⟩)
    exact bodyPost_ret (v := .tuple #[.agg #[.slice none 0 0, .slice none 0 0], .bool false]) (by simp [results, Try.results101, go_sem]) rfl ⟨_, rfl, by rw [HE.out]; exact ⟨_, _, rfl, SS.nil _ _ _, SB.nil _ _ _⟩, by repeat (first | exact Chg.refl _ _ _ | apply Chg.alloc)⟩
  · obtain ⟨h1, h2⟩ := btw_iff.1 hb
    obtain ⟨n, rfl⟩ : ∃ m : Nat, n = m := ⟨n.toNat, by omega⟩
    have HE := Lib.hid (show framesNewD n = ⟨List.replicate n zrow, List.replicate n false⟩ by unfold framesNewD; rw [hb]; simp)
    go_enter Try.func101, Try.ntmps101
    go_wp2_with (first | (go_at_call 65; refine (between_any _ _ _ _).mono ?_; rintro e w' ⟨rfl, rfl⟩) | (at_make; refine maken_rw rfl _ _ _ rfl _ _ _ _ Try.underlying23 Try.infoBool .i64 .i64 _ _ n rfl rfl rfl rfl (by omega) (by decide) ?_; intro v1 w1 h1 k1; replace h1 := SB.made h1; obtain ⟨bo, d, e, _, _⟩ := h1.opened; rw [List.length_replicate] at e; subst e))
    have hz := k1.size
    simp only [size_alloc] at h1 hz
    have q1 : Keep w w1 := Chg.keep ((Chg.refl 0 0 w).alloc _) k1
    have bR := (Blk.new w 34 #[.slice none 0 0, .slice none 0 0]).keep k1
    go_loopw [5] (fun i wr => ∃ (k : Nat) (cv : Value) (vs : List Value), k ≤ n ∧ i = .int .i64 k ∧ Blk wr w1.heap.size 34 #[cv, .slice bo n d] ∧ SSv (w1.heap.size + 1) wr.heap.size wr cv vs (List.replicate k zrow) ∧ Chg w1.heap.size (w1.heap.size + 1) (w1.alloc (.cells #[.slice none 0 0, .slice bo n d] 34 (0, 0))) wr) (fun i _ => n - (intOf i).toNat)
    case atStart => exact ⟨0, .slice none 0 0, [], Nat.zero_le _, rfl, Blk.new _ _ _, ⟨Rw.nil _ _ _ _ _, fun i hi => by simp at hi, fun i j _ hj => by simp at hj⟩, Chg.refl _ _ _⟩
    case round =>
      obtain ⟨k, cv, vs, hk, rfl, bF, hss, hg⟩ := hrel
      have c0 := bF.cell 0
      have c1 := bF.cell 1
      have f0 := bF.frozen 0
      have lF := bF.lt
      by_cases hlt : k < n
      · obtain ⟨ao, cc, rfl, _, _⟩ := hss.opened
        rw [List.length_replicate] at *
        have H1 := Lib.hid h1
        have HS := Lib.hid hss
        have HG := Lib.hid hg
        have HF := Lib.hid bF
        have HR := Lib.hid bR
        clear h1 hss hg bF bR
        have hout : Rw 32 1 (w1.heap.size + 1) wr.heap.size wr (.slice ao k cc) k vs := by have := HS.out.out; rwa [List.length_replicate] at this
        have hown : Rw 32 1 (w1.heap.size + 1) wr.heap.size ((wr.alloc (.cells z16 3 (0, 0))).alloc (.cells #[.slice (some ⟨wr.heap.size, 0, none⟩) 16 16] 32 (0, 0))).drew (.slice ao k cc) k vs := Rw.mv hout (Keep.aad wr _ _) (.inr (.inl (Nat.zero_le _)))
        have hnew : ∀ j u, [Value.slice (some ⟨wr.heap.size, 0, none⟩) 16 16][j]? = some u → (((wr.alloc (.cells z16 3 (0, 0))).alloc (.cells #[.slice (some ⟨wr.heap.size, 0, none⟩) 16 16] 32 (0, 0))).drew).cell? ((⟨wr.heap.size + 1, 0, none⟩ : Addr).add j) = some u := new_cellsA wr _ _ _
        have hbase : w1.heap.size + 1 ≤ (((wr.alloc (.cells z16 3 (0, 0))).alloc (.cells #[.slice (some ⟨wr.heap.size, 0, none⟩) 16 16] 32 (0, 0))).drew).heap.size := by
          show _ ≤ ((wr.alloc (.cells z16 3 (0, 0))).alloc (.cells #[.slice (some ⟨wr.heap.size, 0, none⟩) 16 16] 32 (0, 0))).heap.size
          simp only [size_alloc]; omega
        have hF3 : ∀ w3, (((wr.alloc (.cells z16 3 (0, 0))).alloc (.cells #[.slice (some ⟨wr.heap.size, 0, none⟩) 16 16] 32 (0, 0))).drew).grownBy w3 (Value.slice ao k cc).ownBlock → Blk w3 w1.heap.size 34 #[.slice ao k cc, .slice bo n d] := fun w3 hg3 => Blk.app (HF.out.keep (Keep.aad wr _ _)) hg3 fun q hq => by have := (hown.1.lt q hq).1; omega
        have HF3 := Lib.hid hF3
        clear hF3
        have HO := Lib.hid hown
        have HN := Lib.hid hnew
        have HB := Lib.hid hbase
        have hkn : k ≤ 1000000000 := by omega
        have hmk := run_z16
        clear hown hnew hbase hout
        go_wp2_with fail
        go_region_law (refine step_appG rfl (.tmp 19) (.tmp 21) _ rfl (w1.heap.size + 1) wr.heap.size _ _ _ _ Try.underlying22 Try.infoInts rfl (by decide) (.slice ao k cc) k vs HO.out ⟨wr.heap.size + 1, 0, none⟩ 1 1 _ rfl (by decide) HN.out (slc1 _ _ _) (by decide) hkn HB.out rfl rfl ?_; intro v' w3 hown3 hg3; obtain ⟨ao3, cc3, rfl, _, _⟩ := Rw.opened hown3; have bF := HF3.out w3 hg3; have d0 := bF.cell 0; have d1 := bF.cell 1; have g0 := bF.frozen 0; have l3 := bF.lt; clear bF)
        all_goals
          have hst := new_step HF.out HS.out HG.out (Nat.le_of_eq (size_alloc _ _)) hown3 hg3
          have HST := Lib.hid hst
          clear hst hown3 hg3
          go_wp2_with fail
          go_roundw
          case rel => exact ⟨k + 1, _, _, by omega, by go_num, HST.out⟩
          case measure => simp [intOf]; omega
      · obtain rfl : k = n := by omega
        obtain ⟨ao, cc, rfl, _, _⟩ := hss.opened
        rw [List.length_replicate] at *
        have bR' := (bR.keep ((Chg.refl 0 0 _).alloc (.cells #[.slice none 0 0, .slice bo k d] 34 (0, 0)))).mv hg (by omega)
        have r0 := bR'.cell 0
        have r1 := bR'.cell 1
        have rf0 := bR'.frozen 0
        have rf1 := bR'.frozen 1
        have lR := bR'.lt
        have qr : Keep w wr := (q1.alloc _).comp hg (.inl (by omega))
        have hb' := (h1.keep ((Chg.refl 0 0 _).alloc (.cells #[.slice none 0 0, .slice bo k d] 34 (0, 0)))).mv hg (by omega)
        have hz1 := hg.size
        simp only [size_alloc] at hz1
        clear bR bR' h1 k1
        go_wp2_with fail
        refine bodyPost_ret (v := .tuple #[.agg #[.slice ao k cc, .slice bo k d], .bool true]) (by simp [results, Try.results101, go_sem, r0, r1, lR]) rfl ⟨_, rfl, ?_, ?_⟩
        · rw [HE.out]
          refine ⟨_, _, rfl, ?_, ?_⟩
          · exact ((show SS _ _ _ _ _ from ⟨vs, hss⟩).mv (l := w.heap.size) (h := w.heap.size + 1) (by repeat (first | exact Chg.refl _ _ _ | (refine Chg.set ?_ _ _ _ (.inl ⟨by omega, by omega⟩)))) (by omega)).wide (by omega) (by simp)
          · exact (hb'.mv (l := w.heap.size) (h := w.heap.size + 1) (by repeat (first | exact Chg.refl _ _ _ | (refine Chg.set ?_ _ _ _ (.inl ⟨by omega, by omega⟩)))) (by omega)).wide (by omega) (by simp; omega)
        · exact (by repeat (first | exact qr | (refine Chg.set ?_ _ _ _ (.inr (by omega)))))
theorem framesNew_spec (n : Int) (w : World) :
    Calls Try.prog 99 #[.int .i64 n] w fun e w' => ∃ v, e = .returned (.tuple #[v, .bool (btw n 1 32)]) ∧ FR w.heap.size w'.heap.size w' v (framesNewD n) ∧ Keep w w' := by
  cases hb : btw n 1 32
  · have HE := Lib.hid (show framesNewD n = ⟨[], []⟩ by unfold framesNewD; rw [hb]; rfl)
    go_enter Try.func99, Try.ntmps99
    go_wp2_with (go_at_call 62; refine (l01In_any _ _ _ _).mono ?_; rintro e w' ⟨rfl, rfl⟩)
    exact bodyPost_ret (v := .tuple #[.agg #[.slice none 0 0, .slice none 0 0], .bool false]) (by simp [results, Try.results99, go_sem]) rfl ⟨_, rfl, by rw [HE.out]; exact ⟨_, _, rfl, SS.nil _ _ _, SB.nil _ _ _⟩, by repeat (first | exact Chg.refl _ _ _ | apply Chg.alloc)⟩
  · obtain ⟨h1, h2⟩ := btw_iff.1 hb
    obtain ⟨n, rfl⟩ : ∃ m : Nat, n = m := ⟨n.toNat, by omega⟩
    have HE := Lib.hid (show framesNewD n = ⟨List.replicate n zrow, List.replicate n false⟩ by unfold framesNewD; rw [hb]; simp)
    go_enter Try.func99, Try.ntmps99
    go_wp2_with (go_at_call 62; refine (l01In_any _ _ _ _).mono ?_; rintro e w' ⟨rfl, rfl⟩)
    go_loopw [5] (fun i wr => ∃ (k : Nat) (cv uv : Value) (vs : List Value), k ≤ n ∧ i = .int .i64 k ∧ Blk wr (w.heap.size + 1) 34 #[cv, uv] ∧ SSv (w.heap.size + 1 + 1) wr.heap.size wr cv vs (List.replicate k zrow) ∧ SB (w.heap.size + 1 + 1) wr.heap.size wr uv (List.replicate k false) ∧ Chg (w.heap.size + 1) (w.heap.size + 1 + 1) ((w.alloc (.cells #[.slice none 0 0, .slice none 0 0] 34 (0, 0))).alloc (.cells #[.slice none 0 0, .slice none 0 0] 34 (0, 0))) wr) (fun i _ => n - (intOf i).toNat)
    case atStart => exact ⟨0, .slice none 0 0, .slice none 0 0, [], Nat.zero_le _, rfl, blk1 _ _ _ _, ⟨Rw.nil _ _ _ _ _, fun i hi => by simp at hi, fun i j _ hj => by simp at hj⟩, SB.nil _ _ _, Chg.refl _ _ _⟩
    case round =>
      obtain ⟨k, cv, uv, vs, hk, rfl, bF, hss, hsb, hg⟩ := hrel
      have c0 := bF.cell 0
      have c1 := bF.cell 1
      have f0 := bF.frozen 0
      have lF := bF.lt
      have hAs : ((w.alloc (.cells #[.slice none 0 0, .slice none 0 0] 34 (0, 0))).alloc (.cells #[.slice none 0 0, .slice none 0 0] 34 (0, 0))).heap.size = w.heap.size + 1 + 1 := by simp only [size_alloc]
      obtain ⟨ao, cc, rfl, _, _⟩ := hss.opened
      obtain ⟨bo, d, rfl, _, _⟩ := hsb.opened
      rw [List.length_replicate] at *
      rw [List.length_replicate] at *
      by_cases hlt : k < n
      · have HS := Lib.hid hss
        have HU := Lib.hid hsb
        have HG := Lib.hid hg
        have HF := Lib.hid bF
        have HA := Lib.hid hAs
        clear hss hsb hg bF hAs
        have hout : Rw 32 1 (w.heap.size + 1 + 1) wr.heap.size wr (.slice ao k cc) k vs := by have := HS.out.out; rwa [List.length_replicate] at this
        have hown : Rw 32 1 (w.heap.size + 1 + 1) wr.heap.size ((wr.alloc (.cells z16 3 (0, 0))).alloc (.cells #[.slice (some ⟨wr.heap.size, 0, none⟩) 16 16] 32 (0, 0))).drew (.slice ao k cc) k vs := Rw.mv hout (Keep.aad wr _ _) (.inr (.inl (Nat.zero_le _)))
        have hnew : ∀ j u, [Value.slice (some ⟨wr.heap.size, 0, none⟩) 16 16][j]? = some u → (((wr.alloc (.cells z16 3 (0, 0))).alloc (.cells #[.slice (some ⟨wr.heap.size, 0, none⟩) 16 16] 32 (0, 0))).drew).cell? ((⟨wr.heap.size + 1, 0, none⟩ : Addr).add j) = some u := new_cellsA wr _ _ _
        have hbase : w.heap.size + 1 + 1 ≤ (((wr.alloc (.cells z16 3 (0, 0))).alloc (.cells #[.slice (some ⟨wr.heap.size, 0, none⟩) 16 16] 32 (0, 0))).drew).heap.size := by
          show _ ≤ ((wr.alloc (.cells z16 3 (0, 0))).alloc (.cells #[.slice (some ⟨wr.heap.size, 0, none⟩) 16 16] 32 (0, 0))).heap.size
          simp only [size_alloc]; omega
        have hF3 : ∀ w3, (((wr.alloc (.cells z16 3 (0, 0))).alloc (.cells #[.slice (some ⟨wr.heap.size, 0, none⟩) 16 16] 32 (0, 0))).drew).grownBy w3 (Value.slice ao k cc).ownBlock → Blk w3 (w.heap.size + 1) 34 #[.slice ao k cc, .slice bo k d] := fun w3 hg3 => Blk.app (HF.out.keep (Keep.aad wr _ _)) hg3 fun q hq => by have := (hown.1.lt q hq).1; omega
        have HF3 := Lib.hid hF3
        clear hF3
        have HO := Lib.hid hown
        have HN := Lib.hid hnew
        have HB := Lib.hid hbase
        have hkn : k ≤ 1000000000 := by omega
        have hmk := run_z16
        have lF' : w.heap.size < wr.heap.size := by omega
        clear hown hnew hbase hout
        go_wp2_with fail
        go_region_law (refine step_appG rfl (.tmp 17) (.tmp 19) _ rfl (w.heap.size + 1 + 1) wr.heap.size _ _ _ _ Try.underlying22 Try.infoInts rfl (by decide) (.slice ao k cc) k vs HO.out ⟨wr.heap.size + 1, 0, none⟩ 1 1 _ rfl (by decide) HN.out (slc1 _ _ _) (by decide) hkn HB.out rfl rfl ?_; intro v' w3 hown3 hg3; obtain ⟨ao3, cc3, rfl, _, _⟩ := Rw.opened hown3; have bF := HF3.out w3 hg3; have d0 := bF.cell 0; have d1 := bF.cell 1; have g0 := bF.frozen 0; have l3 := bF.lt; clear bF)
        all_goals
          obtain ⟨s1, s2, s3⟩ := new_step HF.out HS.out HG.out (Nat.le_of_eq HA.out) hown3 hg3
          have s4 := new_stepB (ao3 := ao3) (cc3 := cc3) HS.out HU.out (by omega) hg3
          clear hown3 hg3 d0 d1 g0 l3
          generalize w3.setCell ⟨w.heap.size + 1, 0, none⟩ (.slice ao3 (k + 1) cc3) = w4 at *
          have d1 := s1.cell 1
          have g1 := s1.frozen 1
          have l4 := s1.lt
          have hu4 := s4.keep ((Chg.refl 0 0 w4).alloc (.cells #[.bool false] 4 (0, 0)))
          have S1 := Lib.hid s1
          have S2 := Lib.hid s2
          have S3 := Lib.hid s3
          have S4 := Lib.hid s4
          have HU4 := Lib.hid (show Rw 4 1 (w.heap.size + 1 + 1) w4.heap.size (w4.alloc (.cells #[.bool false] 4 (0, 0))) (.slice bo k d) k ((List.replicate k false).map Value.bool) by unfold SB at hu4; rwa [List.length_replicate] at hu4)
          clear s1 s2 s3 s4 hu4
          go_wp2_with (at_builtin; refine app_G rfl _ _ _ rfl (w.heap.size + 1 + 1) w4.heap.size _ _ _ _ Try.underlying23 Try.infoBool rfl (by decide) (.slice bo k d) k _ HU4.out ⟨w4.heap.size, 0, none⟩ 1 1 [.bool false] rfl (by decide) (new_cells w4 _ _) (by simp [Value.oneCell']) (by decide) hkn (by simp only [size_alloc]; omega) rfl rfl ?_; intro v5 w5 hown5 hg5; obtain ⟨bo5, d5, rfl, _, _⟩ := Rw.opened hown5; have bF := Blk.app (S1.out.keep ((Chg.refl 0 0 w4).alloc (.cells #[.bool false] 4 (0, 0)))) hg5 (fun q hq => by have := (HU4.out.1.lt q hq).1; omega); have e0 := bF.cell 0; have e1 := bF.cell 1; have ef := bF.frozen 1; have el := bF.lt; clear bF)
          have hst := new_step2 S1.out S2.out S4.out S3.out (Nat.le_of_eq HA.out) hown5 hg5
          have HST := Lib.hid hst
          clear hst hown5 hg5
          go_roundw
          case rel => exact ⟨k + 1, _, _, _, by omega, by go_num, HST.out⟩
          case measure => simp [intOf]; omega
      · obtain rfl : k = n := by omega
        have bR' := ((Blk.new w 34 #[.slice none 0 0, .slice none 0 0]).keep ((Chg.refl 0 0 _).alloc (.cells #[.slice none 0 0, .slice none 0 0] 34 (0, 0)))).mv hg (by omega)
        have r0 := bR'.cell 0
        have r1 := bR'.cell 1
        have rf0 := bR'.frozen 0
        have rf1 := bR'.frozen 1
        have lR := bR'.lt
        have qr : Keep w wr := (((Chg.refl 0 0 w).alloc _).alloc _).comp hg (.inl (by omega))
        clear bR'
        go_wp2_with fail
        refine bodyPost_ret (v := .tuple #[.agg #[.slice ao k cc, .slice bo k d], .bool true]) (by simp [results, Try.results99, go_sem, r0, r1, lR]) rfl ⟨_, rfl, ?_, ?_⟩
        · rw [HE.out]
          refine ⟨_, _, rfl, ?_, ?_⟩
          · exact ((show SS _ _ _ _ _ from ⟨vs, hss⟩).mv (l := w.heap.size) (h := w.heap.size + 1) (by repeat (first | exact Chg.refl _ _ _ | (refine Chg.set ?_ _ _ _ (.inl ⟨by omega, by omega⟩)))) (by omega)).wide (by omega) (by simp)
          · exact (hsb.mv (l := w.heap.size) (h := w.heap.size + 1) (by repeat (first | exact Chg.refl _ _ _ | (refine Chg.set ?_ _ _ _ (.inl ⟨by omega, by omega⟩)))) (by omega)).wide (by omega) (by simp)
        · exact (by repeat (first | exact qr | (refine Chg.set ?_ _ _ _ (.inr (by omega)))))
end Go.Proofs.Ytkcoehkfhffjkaa
