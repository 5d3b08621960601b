/- Kernels: KernelNew of the reference. Printed by wip/tools/mk_kn.py. -/
import Derived.Test.YtkcoehkfhffjkaaKeMade
namespace Go.Proofs.Ytkcoehkfhffjkaa
open Go.ChangeShapes Go.WideShapes Go.ChangeAt Go.RowKit
set_option linter.unusedSimpArgs false
set_option linter.unusedVariables false
set_option maxRecDepth 100000

set_option maxHeartbeats 4000000 in
theorem kernelNew_spec {lo0 hi0 : Nat} {r : List Int} (p n : Int) (v : Value) (w : World) (h : SI lo0 hi0 w v r) (hr : r.length ≤ 1048576) :
    Calls Try.prog 20 #[.int .i64 p, .int .i64 n, v] w fun e w' => ∃ v', e = .returned (.tuple #[v', .bool (kernelNewOk p n r)]) ∧ KEm w.heap.size w'.heap.size w' v' (kernelNewD p n r) ∧ Keep w w' := by
  obtain ⟨ax, cx, rfl, _, h⟩ := h.slice
  have hsk : sm_Kernel ⟨machineNewD p n, 0, r⟩ := by
    have hm := machineNewD_sm p n
    unfold sm_Machine at hm
    exact ⟨hm, hr⟩
  have h0 := h.keep ((Chg.refl 0 0 w).alloc (.cells #[.slice none 0 0, .slice none 0 0, .slice none 0 0, .int .i64 0, .slice none 0 0] 47 (0, 0)))
  have bR := Blk.new w 47 #[.slice none 0 0, .slice none 0 0, .slice none 0 0, .int .i64 0, .slice none 0 0]
  have k0 : Keep w (w.alloc (.cells #[.slice none 0 0, .slice none 0 0, .slice none 0 0, .int .i64 0, .slice none 0 0] 47 (0, 0))) := (Chg.refl 0 0 w).alloc _
  have z0 : (w.alloc (.cells #[.slice none 0 0, .slice none 0 0, .slice none 0 0, .int .i64 0, .slice none 0 0] 47 (0, 0))).heap.size = w.heap.size + 1 := size_alloc _ _
  clear h
  go_enter Try.func20, Try.ntmps20
  go_wp2_with fail
  have HM := Lib.hid (machineNew_spec p n (w.alloc (.cells #[.slice none 0 0, .slice none 0 0, .slice none 0 0, .int .i64 0, .slice none 0 0] 47 (0, 0))))
  generalize w.alloc (.cells #[.slice none 0 0, .slice none 0 0, .slice none 0 0, .int .i64 0, .slice none 0 0] 47 (0, 0)) = w0 at *
  refine HM.out.mono ?_
  clear HM
  have HNO := Lib.hid (show machineNewOk p n = false → kernelNewOk p n r = false from fun hh => by unfold kernelNewOk; rw [hh]; rfl)
  have HNK := Lib.hid (show machineNewOk p n = true → kernelNewOk p n r = kernelOkB ⟨machineNewD p n, 0, r⟩ from fun hh => by unfold kernelNewOk; rw [hh]; rfl)
  have HDN := Lib.hid (fun hh => kernelNewD_no (p := p) (n := n) (r := r) hh)
  have HDY := Lib.hid (fun hh => kernelNewD_yes (p := p) (n := n) (r := r) hh)
  have HSK := Lib.hid hsk
  clear hsk
  generalize machineNewD p n = m at *
  rintro e w1 ⟨v1, rfl, h1, k1⟩
  obtain ⟨b1, d1, b2, d2, b3, d3, rfl, hf1, ht1⟩ := h1.slices
  have h1 := MA.mk hf1 ht1
  clear hf1 ht1
  have z1 := k1.size
  have k2 : Keep w1 (w1.alloc (.cells #[.slice b1 m.fr.cells.length d1, .slice b2 m.fr.used.length d2, .slice b3 m.tb.length d3] 39 (0, 0))) := (Chg.refl 0 0 w1).alloc _
  have HALL := Lib.hid (And.intro (And.intro (h1.keep k2) (h0.keep (k1.keep k2))) (And.intro (And.intro (Blk.new w1 39 #[.slice b1 m.fr.cells.length d1, .slice b2 m.fr.used.length d2, .slice b3 m.tb.length d3]) (bR.keep (k1.keep k2))) (And.intro ((k0.keep k1).keep k2) (show (w1.alloc (.cells #[.slice b1 m.fr.cells.length d1, .slice b2 m.fr.used.length d2, .slice b3 m.tb.length d3] 39 (0, 0))).heap.size = w1.heap.size + 1 from size_alloc _ _))))
  clear h1 h0 k1 k2 bR k0
  generalize hmo : machineNewOk p n = ok
  go_wp2_with fail
  generalize w1.alloc (.cells #[.slice b1 m.fr.cells.length d1, .slice b2 m.fr.used.length d2, .slice b3 m.tb.length d3] 39 (0, 0)) = W2 at *
  obtain ⟨⟨hm2, hr2⟩, ⟨bM, bR⟩, q2, z2⟩ := HALL.out
  have Z2 := Lib.hid (And.intro z0 z2)
  clear HALL z0 z2
  have HS := Lib.hid (show ∀ z, Keep W2 z → (z.cell? ⟨w1.heap.size, 0, none⟩ = some (.slice b1 m.fr.cells.length d1) ∧ z.cell? ⟨w1.heap.size, 1, none⟩ = some (.slice b2 m.fr.used.length d2) ∧ z.cell? ⟨w1.heap.size, 2, none⟩ = some (.slice b3 m.tb.length d3)) from fun z hz => ⟨(bM.keep hz).cell 0, (bM.keep hz).cell 1, (bM.keep hz).cell 2⟩)
  have HM2 := Lib.hid hm2
  have HR2 := Lib.hid hr2
  have BM := Lib.hid bM
  have BR2 := Lib.hid bR
  have m0 := bM.cell 0; have m1 := bM.cell 1; have m2 := bM.cell 2; have lM := bM.lt
  clear hm2 hr2 bM bR
  go_cut [10] from 11 (fun sp z => ∃ (A : Nat) (b4 : Option Addr) (d4 lo hi : Nat), sp = .pointer (some ⟨A, 0, none⟩) ∧ Blk z A 47 #[.slice b1 m.fr.cells.length d1, .slice b2 m.fr.used.length d2, .slice b3 m.tb.length d3, .int .i64 0, .slice b4 r.length d4] ∧ SI lo hi z (.slice b4 r.length d4) r ∧ hi ≤ z.heap.size ∧ W2.heap.size ≤ lo ∧ lo ≤ hi ∧ W2.heap.size ≤ A ∧ Keep W2 z)
  case first =>
    have HEM1 := Lib.hid (show Rw 3 1 W2.heap.size (W2.heap.size + 1) ((W2.alloc (.cells #[] 3 (0, 0))).drew) (.slice (some ⟨W2.heap.size, 0, none⟩) 0 0) 0 [] ∧ SI lo0 hi0 ((W2.alloc (.cells #[] 3 (0, 0))).drew) (.slice ax r.length cx) r from ⟨(Rw.empty W2 3 1 W2.heap.size (Nat.le_refl _)).mv ((Chg.refl 0 0 _).drew) (.inr (.inl (Nat.zero_le _))), HR2.out.keep (((Chg.refl 0 0 _).alloc _).drew)⟩)
    have HSZ1 := Lib.hid (show W2.heap.size ≤ ((W2.alloc (.cells #[] 3 (0, 0))).drew).heap.size from by show _ ≤ ((W2.alloc (.cells #[] 3 (0, 0)))).heap.size; simp only [size_alloc]; omega)
    have HKP1 := Lib.hid (show ∀ z, Chg W2.heap.size (W2.heap.size + 1) ((W2.alloc (.cells #[] 3 (0, 0))).drew) z → Keep W2 z from fun z hz => Chg.comp (((Chg.refl 0 0 W2).alloc _).drew) hz (.inl (by omega)))
    have HEM2 := Lib.hid (show Rw 3 1 (W2.heap.size + 1) ((W2.heap.size + 1) + 1) (((W2.alloc (.cells #[.slice none 0 0, .slice none 0 0, .slice none 0 0, .int .i64 0, .slice none 0 0] 47 (0, 0))).alloc (.cells #[] 3 (0, 0))).drew) (.slice (some ⟨(W2.heap.size + 1), 0, none⟩) 0 0) 0 [] ∧ SI lo0 hi0 (((W2.alloc (.cells #[.slice none 0 0, .slice none 0 0, .slice none 0 0, .int .i64 0, .slice none 0 0] 47 (0, 0))).alloc (.cells #[] 3 (0, 0))).drew) (.slice ax r.length cx) r from ⟨(by have := (Rw.empty (W2.alloc (.cells #[.slice none 0 0, .slice none 0 0, .slice none 0 0, .int .i64 0, .slice none 0 0] 47 (0, 0))) 3 1 (W2.heap.size + 1) (by simp only [size_alloc]; exact Nat.le_refl _)).mv ((Chg.refl 0 0 _).drew) (.inr (.inl (Nat.zero_le _))); simpa only [size_alloc] using this), HR2.out.keep ((((Chg.refl 0 0 _).alloc _).alloc _).drew)⟩)
    have HSZ2 := Lib.hid (show (W2.heap.size + 1) ≤ (((W2.alloc (.cells #[.slice none 0 0, .slice none 0 0, .slice none 0 0, .int .i64 0, .slice none 0 0] 47 (0, 0))).alloc (.cells #[] 3 (0, 0))).drew).heap.size from by show _ ≤ (((W2.alloc (.cells #[.slice none 0 0, .slice none 0 0, .slice none 0 0, .int .i64 0, .slice none 0 0] 47 (0, 0))).alloc (.cells #[] 3 (0, 0)))).heap.size; simp only [size_alloc]; omega)
    have HKP2 := Lib.hid (show ∀ z, Chg (W2.heap.size + 1) ((W2.heap.size + 1) + 1) (((W2.alloc (.cells #[.slice none 0 0, .slice none 0 0, .slice none 0 0, .int .i64 0, .slice none 0 0] 47 (0, 0))).alloc (.cells #[] 3 (0, 0))).drew) z → Keep W2 z from fun z hz => Chg.comp ((((Chg.refl 0 0 W2).alloc _).alloc _).drew) hz (.inl (by omega)))
    have HEM3 := Lib.hid (show Rw 3 1 W2.heap.size (W2.heap.size + 1) (((W2.alloc (.cells #[] 3 (0, 0))).alloc (.cells #[.slice none 0 0, .slice none 0 0, .slice none 0 0, .int .i64 0, .slice none 0 0] 47 (0, 0))).drew) (.slice (some ⟨W2.heap.size, 0, none⟩) 0 0) 0 [] ∧ SI lo0 hi0 (((W2.alloc (.cells #[] 3 (0, 0))).alloc (.cells #[.slice none 0 0, .slice none 0 0, .slice none 0 0, .int .i64 0, .slice none 0 0] 47 (0, 0))).drew) (.slice ax r.length cx) r from ⟨(Rw.empty W2 3 1 W2.heap.size (Nat.le_refl _)).mv (((Chg.refl 0 0 _).alloc (.cells #[.slice none 0 0, .slice none 0 0, .slice none 0 0, .int .i64 0, .slice none 0 0] 47 (0, 0))).drew) (.inr (.inl (Nat.zero_le _))), HR2.out.keep ((((Chg.refl 0 0 _).alloc _).alloc _).drew)⟩)
    have HSZ3 := Lib.hid (show W2.heap.size ≤ (((W2.alloc (.cells #[] 3 (0, 0))).alloc (.cells #[.slice none 0 0, .slice none 0 0, .slice none 0 0, .int .i64 0, .slice none 0 0] 47 (0, 0))).drew).heap.size from by show _ ≤ (((W2.alloc (.cells #[] 3 (0, 0))).alloc (.cells #[.slice none 0 0, .slice none 0 0, .slice none 0 0, .int .i64 0, .slice none 0 0] 47 (0, 0)))).heap.size; simp only [size_alloc]; omega)
    have HKP3 := Lib.hid (show ∀ z, Chg W2.heap.size (W2.heap.size + 1) (((W2.alloc (.cells #[] 3 (0, 0))).alloc (.cells #[.slice none 0 0, .slice none 0 0, .slice none 0 0, .int .i64 0, .slice none 0 0] 47 (0, 0))).drew) z → Keep W2 z from fun z hz => Chg.comp ((((Chg.refl 0 0 W2).alloc _).alloc _).drew) hz (.inl (by omega)))
    have HBN2 := Lib.hid (show ∀ z, Chg (W2.heap.size + 1) (W2.heap.size + 1 + 1) (((W2.alloc (.cells #[.slice none 0 0, .slice none 0 0, .slice none 0 0, .int .i64 0, .slice none 0 0] 47 (0, 0))).alloc (.cells #[] 3 (0, 0))).drew) z → Blk z W2.heap.size 47 #[.slice none 0 0, .slice none 0 0, .slice none 0 0, .int .i64 0, .slice none 0 0] from fun z hz => ((Blk.new W2 47 #[.slice none 0 0, .slice none 0 0, .slice none 0 0, .int .i64 0, .slice none 0 0]).keep (((Chg.refl 0 0 _).alloc _).drew)).mv hz (.inl (Nat.lt_succ_self _)))
    have HBN3 := Lib.hid (show ∀ z, Chg W2.heap.size (W2.heap.size + 1) (((W2.alloc (.cells #[] 3 (0, 0))).alloc (.cells #[.slice none 0 0, .slice none 0 0, .slice none 0 0, .int .i64 0, .slice none 0 0] 47 (0, 0))).drew) z → Blk z (W2.heap.size + 1) 47 #[.slice none 0 0, .slice none 0 0, .slice none 0 0, .int .i64 0, .slice none 0 0] from fun z hz => (by have := (Blk.new (W2.alloc (.cells #[] 3 (0, 0))) 47 #[.slice none 0 0, .slice none 0 0, .slice none 0 0, .int .i64 0, .slice none 0 0]).keep ((Chg.refl 0 0 _).drew); rw [size_alloc] at this; exact this.mv hz (.inr (.inl (Nat.le_refl _)))))
    set_option maxRecDepth 100000 in
    go_region_law (first | (refine step_row rfl (.tmp 18) (.tmp 19) _ rfl W2.heap.size (W2.heap.size + 1) lo0 hi0 _ _ _ _ Try.underlying32 Try.infoInt rfl (by decide) (.slice (some ⟨W2.heap.size, 0, none⟩) 0 0) (.slice ax r.length cx) 0 r.length [] (r.map (Value.int .i64)) HEM1.out.1 HEM1.out.2 (by omega) (ints_one _) (by decide) (by decide) (HSZ1.out) rfl rfl ?_; intro v4 Y1 h4 kk1; have kr1 : Keep W2 Y1 := HKP1.out Y1 kk1; have zk1 := kk1.size; obtain ⟨m0, m1, m2⟩ := HS.out Y1 kr1; have lM := (BM.out.keep kr1).lt; have h4 := SI.app0 h4; obtain ⟨b4, d4, rfl, _, h4⟩ := h4.slice) | (refine step_row rfl (.tmp 18) (.tmp 19) _ rfl (W2.heap.size + 1) ((W2.heap.size + 1) + 1) lo0 hi0 _ _ _ _ Try.underlying32 Try.infoInt rfl (by decide) (.slice (some ⟨(W2.heap.size + 1), 0, none⟩) 0 0) (.slice ax r.length cx) 0 r.length [] (r.map (Value.int .i64)) HEM2.out.1 HEM2.out.2 (by omega) (ints_one _) (by decide) (by decide) (HSZ2.out) rfl rfl ?_; intro v4 Y1 h4 kk1; have kr1 : Keep W2 Y1 := HKP2.out Y1 kk1; have zk1 := kk1.size; obtain ⟨m0, m1, m2⟩ := HS.out Y1 kr1; have lM := (BM.out.keep kr1).lt; have h4 := SI.app0 h4; obtain ⟨b4, d4, rfl, _, h4⟩ := h4.slice; have bN2 := HBN2.out Y1 kk1; have n0 := bN2.cell 0; have n1 := bN2.cell 1; have n2 := bN2.cell 2; have n3 := bN2.cell 3; have n4 := bN2.cell 4; have fn0 := bN2.frozen 0; have fn1 := bN2.frozen 1; have fn2 := bN2.frozen 2; have fn3 := bN2.frozen 3; have fn4 := bN2.frozen 4; have lN := bN2.lt) | (refine step_row rfl (.tmp 18) (.tmp 19) _ rfl W2.heap.size (W2.heap.size + 1) lo0 hi0 _ _ _ _ Try.underlying32 Try.infoInt rfl (by decide) (.slice (some ⟨W2.heap.size, 0, none⟩) 0 0) (.slice ax r.length cx) 0 r.length [] (r.map (Value.int .i64)) HEM3.out.1 HEM3.out.2 (by omega) (ints_one _) (by decide) (by decide) (HSZ3.out) rfl rfl ?_; intro v4 Y1 h4 kk1; have kr1 : Keep W2 Y1 := HKP3.out Y1 kk1; have zk1 := kk1.size; obtain ⟨m0, m1, m2⟩ := HS.out Y1 kr1; have lM := (BM.out.keep kr1).lt; have h4 := SI.app0 h4; obtain ⟨b4, d4, rfl, _, h4⟩ := h4.slice; have bN3 := HBN3.out Y1 kk1; have n0 := bN3.cell 0; have n1 := bN3.cell 1; have n2 := bN3.cell 2; have n3 := bN3.cell 3; have n4 := bN3.cell 4; have fn0 := bN3.frozen 0; have fn1 := bN3.frozen 1; have fn2 := bN3.frozen 2; have fn3 := bN3.frozen 3; have fn4 := bN3.frozen 4; have lN := bN3.lt))
    all_goals
      go_wp2_with fail
      go_meet
      case rel =>
        try simp only [size_alloc, show ∀ w : World, w.drew.heap.size = w.heap.size from fun _ => rfl] at zk1
        first
          | (revert bN3; intro bN3; obtain ⟨kn, hb⟩ := blk_sets5 bN3 (.slice b1 m.fr.cells.length d1) (.slice b2 m.fr.used.length d2) (.slice b3 m.tb.length d3) (.int .i64 0) (.slice b4 r.length d4)
             exact ⟨(W2.heap.size + 1), b4, d4, W2.heap.size, Y1.heap.size, rfl, hb, h4.keepN kn (by decide), by simp only [size_set]; omega, by omega, by omega, by omega, (((((kr1.set (W2.heap.size + 1) 0 _ (.inr (by omega))).set (W2.heap.size + 1) 1 _ (.inr (by omega))).set (W2.heap.size + 1) 2 _ (.inr (by omega))).set (W2.heap.size + 1) 3 _ (.inr (by omega))).set (W2.heap.size + 1) 4 _ (.inr (by omega)))⟩)
          | (revert bN2; intro bN2; obtain ⟨kn, hb⟩ := blk_sets5 bN2 (.slice b1 m.fr.cells.length d1) (.slice b2 m.fr.used.length d2) (.slice b3 m.tb.length d3) (.int .i64 0) (.slice b4 r.length d4)
             exact ⟨W2.heap.size, b4, d4, (W2.heap.size + 1), Y1.heap.size, rfl, hb, h4.keepN kn (by decide), by simp only [size_set]; omega, by omega, by omega, by omega, (((((kr1.set W2.heap.size 0 _ (.inr (by omega))).set W2.heap.size 1 _ (.inr (by omega))).set W2.heap.size 2 _ (.inr (by omega))).set W2.heap.size 3 _ (.inr (by omega))).set W2.heap.size 4 _ (.inr (by omega)))⟩)
          | exact ⟨Y1.heap.size, b4, d4, W2.heap.size, Y1.heap.size, rfl, Blk.new _ _ _, h4.keep ((Chg.refl 0 0 _).alloc _), by simp only [size_alloc]; omega, by omega, by omega, by omega, kr1.alloc _⟩
  obtain ⟨A, b4, d4, lo, hi, rfl, bO, hSI, hhi, hlo, hlh, hA, q3⟩ := hcut
  generalize wc = W3 at *
  have z3 := q3.size
  obtain ⟨z0, z2⟩ := Z2.out
  have BO := Lib.hid bO
  have HK := Lib.hid (show KE w0.heap.size hi W3 (.agg #[.slice b1 m.fr.cells.length d1, .slice b2 m.fr.used.length d2, .slice b3 m.tb.length d3, .int .i64 0, .slice b4 r.length d4]) ⟨m, 0, r⟩ from KE.mk (k := ⟨m, 0, r⟩) ((HM2.out.keep q3).wide (Nat.le_refl _) (by omega)) (hSI.wide (by omega) (Nat.le_refl _)))
  have HKm := Lib.hid (show KEm w0.heap.size hi W3 (.agg #[.slice b1 m.fr.cells.length d1, .slice b2 m.fr.used.length d2, .slice b3 m.tb.length d3, .int .i64 0, .slice b4 r.length d4]) ⟨m, 0, r⟩ from KEm.mk (mid := w1.heap.size) (k := ⟨m, 0, r⟩) (by omega) (by omega) (HM2.out.keep q3) (hSI.wide (by omega) (Nat.le_refl _)))
  have BR := Lib.hid (BR2.out.keep q3)
  have bR := BR.out
  have r0 := bR.cell 0; have r1 := bR.cell 1; have r2 := bR.cell 2; have r3 := bR.cell 3; have r4 := bR.cell 4; have s0 := bR.frozen 0; have s1 := bR.frozen 1; have s2 := bR.frozen 2; have s3 := bR.frozen 3; have s4 := bR.frozen 4; have lR := bR.lt
  have o0 := bO.cell 0; have o1 := bO.cell 1; have o2 := bO.cell 2; have o3 := bO.cell 3; have o4 := bO.cell 4; have lO := bO.lt
  clear bR bO hSI HM2 HR2 BM BR2 HS m0 m1 m2 lM
  cases ok
  · have HE := Lib.hid (HNO.out hmo)
    have HD := Lib.hid (HDN.out HE.out)
    go_wp2_with fail
    refine bodyPost_ret (v := .tuple #[.agg #[.slice none 0 0, .slice none 0 0, .slice none 0 0, .int .i64 0, .slice none 0 0], .bool false]) (by simp [results, Try.results20, go_sem, r0, r1, r2, r3, r4, lR]) rfl ⟨_, by rw [HE.out], ?_, ?_⟩
    · rw [HD.out]
      exact KEm_nil _ _ _ (by simp only [size_set]; omega)
    · exact ((((((q2.keep q3).set w.heap.size 0 _ (.inr (Nat.le_refl _))).set w.heap.size 1 _ (.inr (Nat.le_refl _))).set w.heap.size 2 _ (.inr (Nat.le_refl _))).set w.heap.size 3 _ (.inr (Nat.le_refl _))).set w.heap.size 4 _ (.inr (Nat.le_refl _)))
  · cases hk : kernelOkB ⟨m, 0, r⟩
    all_goals
      have hE := HNK.out hmo
      rw [hk] at hE
      have HE := Lib.hid hE
      clear hE
      go_wp2_with (go_at_call 45; refine (kernelOk_spec _ _ HK.out HSK.out).mono ?_; rw [hk]; rintro e w5 ⟨rfl, k5⟩; have z5 := k5.size; have bR := BR.out.keep k5; have bO := BO.out.keep k5; have r0 := bR.cell 0; have r1 := bR.cell 1; have r2 := bR.cell 2; have r3 := bR.cell 3; have r4 := bR.cell 4; have s0 := bR.frozen 0; have s1 := bR.frozen 1; have s2 := bR.frozen 2; have s3 := bR.frozen 3; have s4 := bR.frozen 4; have lR := bR.lt; have o0 := bO.cell 0; have o1 := bO.cell 1; have o2 := bO.cell 2; have o3 := bO.cell 3; have o4 := bO.cell 4; have lO := bO.lt; clear bR bO)
    · have HD := Lib.hid (HDN.out HE.out)
      refine bodyPost_ret (v := .tuple #[.agg #[.slice none 0 0, .slice none 0 0, .slice none 0 0, .int .i64 0, .slice none 0 0], .bool false]) (by simp [results, Try.results20, go_sem, r0, r1, r2, r3, r4, lR]) rfl ⟨_, by rw [HE.out], ?_, ?_⟩
      · rw [HD.out]
        exact KEm_nil _ _ _ (by simp only [size_set]; omega)
      · exact ((((((q2.keep (q3.keep k5)).set w.heap.size 0 _ (.inr (Nat.le_refl _))).set w.heap.size 1 _ (.inr (Nat.le_refl _))).set w.heap.size 2 _ (.inr (Nat.le_refl _))).set w.heap.size 3 _ (.inr (Nat.le_refl _))).set w.heap.size 4 _ (.inr (Nat.le_refl _)))
    · have HD := Lib.hid (HDY.out HE.out)
      refine bodyPost_ret (v := .tuple #[.agg #[.slice b1 m.fr.cells.length d1, .slice b2 m.fr.used.length d2, .slice b3 m.tb.length d3, .int .i64 0, .slice b4 r.length d4], .bool true]) (by simp [results, Try.results20, go_sem, r0, r1, r2, r3, r4, lR]) rfl ⟨_, by rw [HE.out], ?_, ?_⟩
      · rw [HD.out]
        exact (KEm.ke0 ((HKm.out.keep k5).mv (l := w.heap.size) (h := w.heap.size + 1) ((((((Chg.refl _ _ _).set w.heap.size 0 _ (.inl ⟨Nat.le_refl _, Nat.lt_succ_self _⟩)).set w.heap.size 1 _ (.inl ⟨Nat.le_refl _, Nat.lt_succ_self _⟩)).set w.heap.size 2 _ (.inl ⟨Nat.le_refl _, Nat.lt_succ_self _⟩)).set w.heap.size 3 _ (.inl ⟨Nat.le_refl _, Nat.lt_succ_self _⟩)).set w.heap.size 4 _ (.inl ⟨Nat.le_refl _, Nat.lt_succ_self _⟩)) (by omega)) (by omega) (by simp only [size_set]; omega))
      · exact ((((((q2.keep (q3.keep k5)).set w.heap.size 0 _ (.inr (Nat.le_refl _))).set w.heap.size 1 _ (.inr (Nat.le_refl _))).set w.heap.size 2 _ (.inr (Nat.le_refl _))).set w.heap.size 3 _ (.inr (Nat.le_refl _))).set w.heap.size 4 _ (.inr (Nat.le_refl _)))
end Go.Proofs.Ytkcoehkfhffjkaa
