/- Kernels: KernelNew of both. Printed by wip/tools/mk_kn.py. -/
import Derived.Test.YtkcoehkfhffjkaaKe2
import Derived.Test.YtkcoehkfhffjkaaFr7
import Derived.Deep.RegionHeld3
import Derived.Deep.RegionLaw
import Derived.Deep.Cut
namespace Go.Proofs.Ytkcoehkfhffjkaa
open Go.ChangeShapes Go.WideShapes Go.ChangeAt Go.RowKit
set_option linter.unusedSimpArgs false
set_option linter.unusedVariables false
set_option maxRecDepth 100000

theorem KEm_nil (lo hi : Nat) (w : World) (h : lo ≤ hi) : KEm lo hi w (.agg #[.slice none 0 0, .slice none 0 0, .slice none 0 0, .int .i64 0, .slice none 0 0]) ⟨⟨⟨[], []⟩, []⟩, 0, []⟩ :=
  ⟨lo, .slice none 0 0, .slice none 0 0, .slice none 0 0, .slice none 0 0, Nat.le_refl _, h, rfl, MA.mk (FR.mk (SS.nil _ _ _) (SB.nil _ _ _)) (SE.nil _ _ _), SI.nil _ _ _⟩
theorem KEm.mk {lo mid hi : Nat} {w : World} {s1 s2 s3 s4 : Value} {k : KeD} (h0 : lo ≤ mid) (h3 : mid ≤ hi) (h1 : MA lo mid w (.agg #[s1, s2, s3]) k.ma) (h2 : SI mid hi w s4 k.refuse) : KEm lo hi w (.agg #[s1, s2, s3, .int .i64 k.calls, s4]) k := ⟨mid, s1, s2, s3, s4, h0, h3, rfl, h1, h2⟩
theorem kernelNewD_no {p n : Int} {r : List Int} (h : kernelNewOk p n r = false) : kernelNewD p n r = ⟨⟨⟨[], []⟩, []⟩, 0, []⟩ := by unfold kernelNewD; rw [h]; rfl
theorem kernelNewD_yes {p n : Int} {r : List Int} (h : kernelNewOk p n r = true) : kernelNewD p n r = ⟨machineNewD p n, 0, r⟩ := by unfold kernelNewD; rw [h]; rfl
theorem kernelNewD_sm (p n : Int) (r : List Int) : sm_Kernel (kernelNewD p n r) := by
  by_cases h : kernelNewOk p n r = true
  · rw [kernelNewD_yes h]
    have hm := machineNewD_sm p n
    unfold kernelNewOk at h
    rw [Bool.and_eq_true] at h
    have := (kernelOk_iff.1 h.2).len
    unfold sm_Kernel
    unfold sm_Machine at hm
    dsimp only at this ⊢
    omega
  · rw [kernelNewD_no (by simpa using h)]
    unfold sm_Kernel
    simp [cntRows]
theorem KEm.ke0 {lo hi lo' hi' : Nat} {w : World} {v : Value} {k : KeD} (hr : KEm lo hi w v k) (h1 : lo' ≤ lo) (h2 : hi ≤ hi') : KEm lo' hi' w v k := by
  obtain ⟨mid, s1, s2, s3, s4, m1, m2, e, x1, x2⟩ := hr; exact ⟨mid, s1, s2, s3, s4, by omega, by omega, e, x1.wide h1 (Nat.le_refl _), x2.wide (Nat.le_refl _) h2⟩
theorem SI.keepN {lo hi : Nat} {Es : List TypeId} {w w' : World} {v : Value} {zs : List Int} (h : SI lo hi w v zs) (hk : KeepNot Es w w') (hne : 3 ∉ Es) : SI lo hi w' v zs := Rw.keepNot h hk hne
theorem KeepNot.blk {w : World} {g : Nat} {T : TypeId} {cs : Array Value} (h : Blk w g T cs) (i : Nat) (u : Value) : KeepNot [T] w (w.setCell ⟨g, i, none⟩ u) := by
  intro k cs' T' m hk hT
  refine Below.heap_setCell w ⟨g, i, none⟩ u k fun e => ?_
  have e : k = g := e
  subst e
  unfold Blk at h
  rw [h] at hk
  injection hk with hk
  injection hk with _ ht
  exact hT (by rw [← ht]; exact List.mem_singleton.2 rfl)
theorem blk_sets5 {w : World} {g : Nat} {T : TypeId} {x0 x1 x2 x3 x4 : Value} (h : Blk w g T #[x0, x1, x2, x3, x4]) (y0 y1 y2 y3 y4 : Value) :
    KeepNot [T] w (((((w.setCell ⟨g, 0, none⟩ y0).setCell ⟨g, 1, none⟩ y1).setCell ⟨g, 2, none⟩ y2).setCell ⟨g, 3, none⟩ y3).setCell ⟨g, 4, none⟩ y4) ∧
    Blk (((((w.setCell ⟨g, 0, none⟩ y0).setCell ⟨g, 1, none⟩ y1).setCell ⟨g, 2, none⟩ y2).setCell ⟨g, 3, none⟩ y3).setCell ⟨g, 4, none⟩ y4) g T #[y0, y1, y2, y3, y4] := by
  have h1 := h.set_ 0 y0
  have h2 := h1.set_ 1 y1
  have h3 := h2.set_ 2 y2
  have h4 := h3.set_ 3 y3
  have h5 := h4.set_ 4 y4
  exact ⟨((((KeepNot.blk h 0 y0).trans (KeepNot.blk h1 1 y1)).trans (KeepNot.blk h2 2 y2)).trans (KeepNot.blk h3 3 y3)).trans (KeepNot.blk h4 4 y4), by simpa using h5⟩
set_option maxHeartbeats 4000000 in
theorem kernelNew_any {lo0 hi0 : Nat} {r : List Int} (p n : Int) (v : Value) (w : World) (h : SI lo0 hi0 w v r) (hr : r.length ≤ 1048576) :
    Calls Try.prog 22 #[.int .i64 p, .int .i64 n, v] w fun e w' => ∃ v', e = .returned (.tuple #[v', .bool (kernelNewOk p n r)]) ∧ KEm w.heap.size w'.heap.size w' v' (kernelNewD p n r) ∧ Keep w w' := by
  obtain ⟨ax, cx, rfl, _, h⟩ := h.slice
  have hsk : sm_Kernel ⟨machineNewD p n, 0, r⟩ := by
    have hm := machineNewD_sm p n
    unfold sm_Machine at hm
    exact ⟨hm, hr⟩
  have h0 := h.keep ((Chg.refl 0 0 w).alloc (.cells #[.slice none 0 0, .slice none 0 0, .slice none 0 0, .int .i64 0, .slice none 0 0] 47 (0, 0)))
  have bR := Blk.new w 47 #[.slice none 0 0, .slice none 0 0, .slice none 0 0, .int .i64 0, .slice none 0 0]
  have k0 : Keep w (w.alloc (.cells #[.slice none 0 0, .slice none 0 0, .slice none 0 0, .int .i64 0, .slice none 0 0] 47 (0, 0))) := (Chg.refl 0 0 w).alloc _
  have z0 : (w.alloc (.cells #[.slice none 0 0, .slice none 0 0, .slice none 0 0, .int .i64 0, .slice none 0 0] 47 (0, 0))).heap.size = w.heap.size + 1 := size_alloc _ _
  clear h
  go_enter Try.func22, Try.ntmps22
  go_wp2_with fail
  have HM := Lib.hid (machineNew_any p n (w.alloc (.cells #[.slice none 0 0, .slice none 0 0, .slice none 0 0, .int .i64 0, .slice none 0 0] 47 (0, 0))))
  generalize w.alloc (.cells #[.slice none 0 0, .slice none 0 0, .slice none 0 0, .int .i64 0, .slice none 0 0] 47 (0, 0)) = w0 at *
  refine HM.out.mono ?_
  clear HM
  have HNO := Lib.hid (show machineNewOk p n = false → kernelNewOk p n r = false from fun hh => by unfold kernelNewOk; rw [hh]; rfl)
  have HNK := Lib.hid (show machineNewOk p n = true → kernelNewOk p n r = kernelOkB ⟨machineNewD p n, 0, r⟩ from fun hh => by unfold kernelNewOk; rw [hh]; rfl)
  have HDN := Lib.hid (fun hh => kernelNewD_no (p := p) (n := n) (r := r) hh)
  have HDY := Lib.hid (fun hh => kernelNewD_yes (p := p) (n := n) (r := r) hh)
  have HSK := Lib.hid hsk
  clear hsk
  generalize machineNewD p n = m at *
  rintro e w1 ⟨v1, rfl, h1, k1⟩
  obtain ⟨b1, d1, b2, d2, b3, d3, rfl, hf1, ht1⟩ := h1.slices
  have h1 := MA.mk hf1 ht1
  clear hf1 ht1
  have z1 := k1.size
  have k2 : Keep w1 (w1.alloc (.cells #[.slice b1 m.fr.cells.length d1, .slice b2 m.fr.used.length d2, .slice b3 m.tb.length d3] 39 (0, 0))) := (Chg.refl 0 0 w1).alloc _
  have HALL := Lib.hid (And.intro (And.intro (h1.keep k2) (h0.keep (k1.keep k2))) (And.intro (And.intro (Blk.new w1 39 #[.slice b1 m.fr.cells.length d1, .slice b2 m.fr.used.length d2, .slice b3 m.tb.length d3]) (bR.keep (k1.keep k2))) (And.intro ((k0.keep k1).keep k2) (show (w1.alloc (.cells #[.slice b1 m.fr.cells.length d1, .slice b2 m.fr.used.length d2, .slice b3 m.tb.length d3] 39 (0, 0))).heap.size = w1.heap.size + 1 from size_alloc _ _))))
  clear h1 h0 k1 k2 bR k0
  generalize hmo : machineNewOk p n = ok
  go_wp2_with fail
  generalize w1.alloc (.cells #[.slice b1 m.fr.cells.length d1, .slice b2 m.fr.used.length d2, .slice b3 m.tb.length d3] 39 (0, 0)) = W2 at *
  obtain ⟨⟨hm2, hr2⟩, ⟨bM, bR⟩, q2, z2⟩ := HALL.out
  have Z2 := Lib.hid (And.intro z0 z2)
  clear HALL z0 z2
  have HS := Lib.hid (show ∀ z, Keep W2 z → (z.cell? ⟨w1.heap.size, 0, none⟩ = some (.slice b1 m.fr.cells.length d1) ∧ z.cell? ⟨w1.heap.size, 1, none⟩ = some (.slice b2 m.fr.used.length d2) ∧ z.cell? ⟨w1.heap.size, 2, none⟩ = some (.slice b3 m.tb.length d3)) from fun z hz => ⟨(bM.keep hz).cell 0, (bM.keep hz).cell 1, (bM.keep hz).cell 2⟩)
  have HM2 := Lib.hid hm2
  have HR2 := Lib.hid hr2
  have BM := Lib.hid bM
  have BR2 := Lib.hid bR
  have m0 := bM.cell 0; have m1 := bM.cell 1; have m2 := bM.cell 2; have lM := bM.lt
  clear hm2 hr2 bM bR
  go_cut [10] from 11 (fun sp z => ∃ (A : Nat) (b4 : Option Addr) (d4 lo hi : Nat), sp = .pointer (some ⟨A, 0, none⟩) ∧ Blk z A 47 #[.slice b1 m.fr.cells.length d1, .slice b2 m.fr.used.length d2, .slice b3 m.tb.length d3, .int .i64 0, .slice b4 r.length d4] ∧ SI lo hi z (.slice b4 r.length d4) r ∧ hi ≤ z.heap.size ∧ W2.heap.size ≤ lo ∧ lo ≤ hi ∧ W2.heap.size ≤ A ∧ Keep W2 z)
  case first =>
    set_option maxRecDepth 100000 in
    go_region_held3 (fun z => z.cell? ⟨w1.heap.size, 0, none⟩ = some (.slice b1 m.fr.cells.length d1) ∧ z.cell? ⟨w1.heap.size, 1, none⟩ = some (.slice b2 m.fr.used.length d2) ∧ z.cell? ⟨w1.heap.size, 2, none⟩ = some (.slice b3 m.tb.length d3)) (first | with_reducible exact HS.out _ ((Chg.refl 0 0 W2).drew) | with_reducible exact HS.out _ (((Chg.refl 0 0 W2).alloc _).drew) | with_reducible exact HS.out _ (kr1) | with_reducible exact HS.out _ ((kr1.alloc _)) | with_reducible exact HS.out _ ((((((kr1.set W2.heap.size 0 _ (.inr (Nat.le_refl _))).set W2.heap.size 1 _ (.inr (Nat.le_refl _))).set W2.heap.size 2 _ (.inr (Nat.le_refl _))).set W2.heap.size 3 _ (.inr (Nat.le_refl _))).set W2.heap.size 4 _ (.inr (Nat.le_refl _))))) (first | (go_at_call 53; refine (copyInts_any _ _ (HR2.out.keep (by first | with_reducible exact (Chg.refl 0 0 _).drew | with_reducible exact ((Chg.refl 0 0 _).alloc _).drew)) (by omega)).mono ?_; rintro e Y1 ⟨v4, rfl, h4, kk1⟩; have kr1 : Keep W2 Y1 := Chg.keep (by first | with_reducible exact (Chg.refl 0 0 _).drew | with_reducible exact ((Chg.refl 0 0 _).alloc _).drew) kk1; have zk1 := kk1.size; (first | (have bN := (Blk.new W2 47 #[.slice none 0 0, .slice none 0 0, .slice none 0 0, .int .i64 0, .slice none 0 0]).keep (((Chg.refl 0 0 _).drew).keep kk1); have n0 := bN.cell 0; have n1 := bN.cell 1; have n2 := bN.cell 2; have n3 := bN.cell 3; have n4 := bN.cell 4; have fn0 := bN.frozen 0; have fn1 := bN.frozen 1; have fn2 := bN.frozen 2; have fn3 := bN.frozen 3; have fn4 := bN.frozen 4; have lN := bN.lt) | skip); obtain ⟨b4, d4, rfl, _, h4⟩ := h4.slice))
    all_goals
      go_wp2_with fail
      go_meet
      case rel =>
        try simp only [size_alloc, show ∀ w : World, w.drew.heap.size = w.heap.size from fun _ => rfl] at zk1 h4
        first
          | (have hb := ((((bN.set_ 0 (.slice b1 m.fr.cells.length d1)).set_ 1 (.slice b2 m.fr.used.length d2)).set_ 2 (.slice b3 m.tb.length d3)).set_ 3 (.int .i64 0)).set_ 4 (.slice b4 r.length d4)
             exact ⟨W2.heap.size, b4, d4, W2.heap.size + 1, Y1.heap.size, rfl, by simpa using hb, h4.mv ((((((Chg.refl W2.heap.size (W2.heap.size + 1) Y1).set W2.heap.size 0 _ (.inl ⟨Nat.le_refl _, Nat.lt_succ_self _⟩)).set W2.heap.size 1 _ (.inl ⟨Nat.le_refl _, Nat.lt_succ_self _⟩)).set W2.heap.size 2 _ (.inl ⟨Nat.le_refl _, Nat.lt_succ_self _⟩)).set W2.heap.size 3 _ (.inl ⟨Nat.le_refl _, Nat.lt_succ_self _⟩)).set W2.heap.size 4 _ (.inl ⟨Nat.le_refl _, Nat.lt_succ_self _⟩)) (by omega), by simp only [size_set]; omega, by omega, by omega, by omega, (((((kr1.set W2.heap.size 0 _ (.inr (Nat.le_refl _))).set W2.heap.size 1 _ (.inr (Nat.le_refl _))).set W2.heap.size 2 _ (.inr (Nat.le_refl _))).set W2.heap.size 3 _ (.inr (Nat.le_refl _))).set W2.heap.size 4 _ (.inr (Nat.le_refl _)))⟩)
          | exact ⟨Y1.heap.size, b4, d4, W2.heap.size, Y1.heap.size, rfl, Blk.new _ _ _, h4.keep ((Chg.refl 0 0 _).alloc _), by simp only [size_alloc]; omega, Nat.le_refl _, by omega, by omega, kr1.alloc _⟩
  obtain ⟨A, b4, d4, lo, hi, rfl, bO, hSI, hhi, hlo, hlh, hA, q3⟩ := hcut
  generalize wc = W3 at *
  have z3 := q3.size
  obtain ⟨z0, z2⟩ := Z2.out
  have BO := Lib.hid bO
  have HK := Lib.hid (show KE w0.heap.size hi W3 (.agg #[.slice b1 m.fr.cells.length d1, .slice b2 m.fr.used.length d2, .slice b3 m.tb.length d3, .int .i64 0, .slice b4 r.length d4]) ⟨m, 0, r⟩ from KE.mk (k := ⟨m, 0, r⟩) ((HM2.out.keep q3).wide (Nat.le_refl _) (by omega)) (hSI.wide (by omega) (Nat.le_refl _)))
  have HKm := Lib.hid (show KEm w0.heap.size hi W3 (.agg #[.slice b1 m.fr.cells.length d1, .slice b2 m.fr.used.length d2, .slice b3 m.tb.length d3, .int .i64 0, .slice b4 r.length d4]) ⟨m, 0, r⟩ from KEm.mk (mid := w1.heap.size) (k := ⟨m, 0, r⟩) (by omega) (by omega) (HM2.out.keep q3) (hSI.wide (by omega) (Nat.le_refl _)))
  have BR := Lib.hid (BR2.out.keep q3)
  have bR := BR.out
  have r0 := bR.cell 0; have r1 := bR.cell 1; have r2 := bR.cell 2; have r3 := bR.cell 3; have r4 := bR.cell 4; have s0 := bR.frozen 0; have s1 := bR.frozen 1; have s2 := bR.frozen 2; have s3 := bR.frozen 3; have s4 := bR.frozen 4; have lR := bR.lt
  have o0 := bO.cell 0; have o1 := bO.cell 1; have o2 := bO.cell 2; have o3 := bO.cell 3; have o4 := bO.cell 4; have lO := bO.lt
  clear bR bO hSI HM2 HR2 BM BR2 HS m0 m1 m2 lM
  cases ok
  · have HE := Lib.hid (HNO.out hmo)
    have HD := Lib.hid (HDN.out HE.out)
    go_wp2_with fail
    refine bodyPost_ret (v := .tuple #[.agg #[.slice none 0 0, .slice none 0 0, .slice none 0 0, .int .i64 0, .slice none 0 0], .bool false]) (by simp [results, Try.results22, go_sem, r0, r1, r2, r3, r4, lR]) rfl ⟨_, by rw [HE.out], ?_, ?_⟩
    · rw [HD.out]
      exact KEm_nil _ _ _ (by simp only [size_set]; omega)
    · exact ((((((q2.keep q3).set w.heap.size 0 _ (.inr (Nat.le_refl _))).set w.heap.size 1 _ (.inr (Nat.le_refl _))).set w.heap.size 2 _ (.inr (Nat.le_refl _))).set w.heap.size 3 _ (.inr (Nat.le_refl _))).set w.heap.size 4 _ (.inr (Nat.le_refl _)))
  · cases hk : kernelOkB ⟨m, 0, r⟩
    all_goals
      have hE := HNK.out hmo
      rw [hk] at hE
      have HE := Lib.hid hE
      clear hE
      go_wp2_with (go_at_call 33; refine (kernelOk_any _ _ HK.out HSK.out).mono ?_; rw [hk]; rintro e w5 ⟨rfl, k5⟩; have z5 := k5.size; have bR := BR.out.keep k5; have bO := BO.out.keep k5; have r0 := bR.cell 0; have r1 := bR.cell 1; have r2 := bR.cell 2; have r3 := bR.cell 3; have r4 := bR.cell 4; have s0 := bR.frozen 0; have s1 := bR.frozen 1; have s2 := bR.frozen 2; have s3 := bR.frozen 3; have s4 := bR.frozen 4; have lR := bR.lt; have o0 := bO.cell 0; have o1 := bO.cell 1; have o2 := bO.cell 2; have o3 := bO.cell 3; have o4 := bO.cell 4; have lO := bO.lt; clear bR bO)
    · have HD := Lib.hid (HDN.out HE.out)
      refine bodyPost_ret (v := .tuple #[.agg #[.slice none 0 0, .slice none 0 0, .slice none 0 0, .int .i64 0, .slice none 0 0], .bool false]) (by simp [results, Try.results22, go_sem, r0, r1, r2, r3, r4, lR]) rfl ⟨_, by rw [HE.out], ?_, ?_⟩
      · rw [HD.out]
        exact KEm_nil _ _ _ (by simp only [size_set]; omega)
      · exact ((((((q2.keep (q3.keep k5)).set w.heap.size 0 _ (.inr (Nat.le_refl _))).set w.heap.size 1 _ (.inr (Nat.le_refl _))).set w.heap.size 2 _ (.inr (Nat.le_refl _))).set w.heap.size 3 _ (.inr (Nat.le_refl _))).set w.heap.size 4 _ (.inr (Nat.le_refl _)))
    · have HD := Lib.hid (HDY.out HE.out)
      refine bodyPost_ret (v := .tuple #[.agg #[.slice b1 m.fr.cells.length d1, .slice b2 m.fr.used.length d2, .slice b3 m.tb.length d3, .int .i64 0, .slice b4 r.length d4], .bool true]) (by simp [results, Try.results22, go_sem, r0, r1, r2, r3, r4, lR]) rfl ⟨_, by rw [HE.out], ?_, ?_⟩
      · rw [HD.out]
        exact (KEm.ke0 ((HKm.out.keep k5).mv (l := w.heap.size) (h := w.heap.size + 1) ((((((Chg.refl _ _ _).set w.heap.size 0 _ (.inl ⟨Nat.le_refl _, Nat.lt_succ_self _⟩)).set w.heap.size 1 _ (.inl ⟨Nat.le_refl _, Nat.lt_succ_self _⟩)).set w.heap.size 2 _ (.inl ⟨Nat.le_refl _, Nat.lt_succ_self _⟩)).set w.heap.size 3 _ (.inl ⟨Nat.le_refl _, Nat.lt_succ_self _⟩)).set w.heap.size 4 _ (.inl ⟨Nat.le_refl _, Nat.lt_succ_self _⟩)) (by omega)) (by omega) (by simp only [size_set]; omega))
      · exact ((((((q2.keep (q3.keep k5)).set w.heap.size 0 _ (.inr (Nat.le_refl _))).set w.heap.size 1 _ (.inr (Nat.le_refl _))).set w.heap.size 2 _ (.inr (Nat.le_refl _))).set w.heap.size 3 _ (.inr (Nat.le_refl _))).set w.heap.size 4 _ (.inr (Nat.le_refl _)))
end Go.Proofs.Ytkcoehkfhffjkaa
