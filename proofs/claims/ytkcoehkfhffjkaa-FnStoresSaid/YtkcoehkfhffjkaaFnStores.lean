/- The Go law FnStores returns true for all arguments and leaves its arguments as they were. Conditions: none. The frame follows the kit's shell; the walk is mine. -/
import Derived.Test.YtkcoehkfhffjkaaRows
import Derived.WalkKit
import Derived.ProofKit
import Derived.OpenShut
import Derived.Test.YtkcoehkfhffjkaaOpenCode
import Derived.Test.YtkcoehkfhffjkaaDrawMa
import Derived.Test.YtkcoehkfhffjkaaStLaw
import Derived.Test.YtkcoehkfhffjkaaMa4
import Derived.Test.YtkcoehkfhffjkaaMa3
import Derived.Test.YtkcoehkfhffjkaaMa2
import Derived.Test.YtkcoehkfhffjkaaTabFn
import Derived.Deep.RegionHeld3
import Derived.Deep.Cut
import Derived.ShutString
import Derived.ChangeOld
import Derived.Below
namespace Go.Proofs.Ytkcoehkfhffjkaa.fnStores
open Go.ChangeShapes Go.WideShapes Go.ChangeAt Go.RowKit
open Go.ChangeMaps (open_string shut_string)
set_option linter.unusedVariables false
set_option linter.unusedSimpArgs false

set_option maxHeartbeats 4000000 in
theorem walk (a0 : Option Addr) (len0 cap0 : Nat) (w : World) (w0 : Code w.heap.size w a0 len0) :
    Calls Try.prog 7 #[.slice a0 len0 cap0] w fun e w' => e = .returned (.bool true) ∧ Below w.heap.size w w' := by
  by_cases hbig : (1048576 : Int) < len0
  · go_enter Try.func7, Try.ntmps7
    go_wp2_with (go_at_call 29; refine (big_any _ _ _ _).mono ?_; rintro e w' ⟨rfl, rfl⟩)
    go_ret
    exact ⟨rfl, Below.refl _ _⟩
  go_enter Try.func7, Try.ntmps7
  go_wp2_with (go_at_call 29; refine (big_any _ _ _ _).mono ?_; rintro e w' ⟨rfl, rfl⟩)
  refine (drawMachine_any _ _ _ _ (by omega) w0).mono ?_
  rintro e w1 ⟨v1, m, rfl, hm, ok, h5, h8, k1⟩
  have k1s := k1.size
  have hs : sm_Machine m := sm_smallM ok
  have htl := ok.tb.len0
  obtain ⟨b1, d1, b2, d2, b3, d3, rfl, hf, hse⟩ := hm.slices
  have hcode := w0.keep (k1.alloc (.cells #[.slice b1 m.fr.cells.length d1, .slice b2 m.fr.used.length d2, .slice b3 m.tb.length d3] 39 (0, 0)))
  clear w0
  have HM := Lib.hid hm
  have OK := Lib.hid ok
  clear hf hse hm ok
  go_wp2_with fail
  refine (places_any _ _ _ _ (by omega) hcode).mono ?_
  rintro e w2 ⟨g, c, p, rfl, hc, hg, hgs, hp, hb⟩
  have k2 := Keep.of_below hb
  have s2 := k2.size
  simp only [size_alloc] at s2 hg
  have bM := (Blk.new w1 39 #[.slice b1 m.fr.cells.length d1, .slice b2 m.fr.used.length d2, .slice b3 m.tb.length d3]).keep k2
  have cM0 := bM.cell 0
  have cM1 := bM.cell 1
  have cM2 := bM.cell 2
  have lM := bM.lt
  have q2 : Keep w w2 := (k1.alloc _).keep k2
  have H2 := Lib.hid (HM.out.keep (Chg.keep ((Chg.refl 0 0 w1).alloc (.cells #[.slice b1 m.fr.cells.length d1, .slice b2 m.fr.used.length d2, .slice b3 m.tb.length d3] 39 (0, 0))) k2))
  obtain ⟨p00, p01, c0⟩ := hp 0 (by decide)
  obtain ⟨p10, p11, c1⟩ := hp 1 (by decide)
  obtain ⟨p20, p21, c2⟩ := hp 2 (by decide)
  have BM := Lib.hid bM
  clear hcode hp hb k1 k2 bM
  generalize p 0 = pa at *
  generalize p 1 = pb at *
  generalize p 2 = pz at *
  have a0' := Int.emod_nonneg pa (b := 16 * (m.tb.length : Int)) (by omega)
  have a1' := Int.emod_lt_of_pos pa (show (0 : Int) < 16 * (m.tb.length : Int) by omega)
  have b0' := Int.emod_nonneg pb (b := 16 * (m.tb.length : Int)) (by omega)
  have b1' := Int.emod_lt_of_pos pb (show (0 : Int) < 16 * (m.tb.length : Int) by omega)
  go_wp2_with fail
  generalize pa % (16 * (m.tb.length : Int)) = a at *
  generalize pb % (16 * (m.tb.length : Int)) = b at *
  have hpz : pz.tmod 1000 = pz % 1000 := Int.tmod_eq_emod_of_nonneg p20
  have hvz : btw (pz % 1000) 0 999 = true := btw_true (by omega) (by omega)
  have HSR := Lib.hid (store_refused OK.out (a := a) a0' hvz)
  have HST := Lib.hid (store_taken OK.out (a := a) (b := b) a0' b0' hvz)
  have hs2 : sm_Machine (storeD m a (pz % 1000)) := storeD_sm hs _ _
  generalize hmm : storeD m a (pz % 1000) = mm at *
  generalize hsc : storeC m a (pz % 1000) = sc at *
  have HMM := Lib.hid hmm
  have HSC := Lib.hid hsc
  have HS := Lib.hid (show ∀ z, Keep w2 z → (z.cell? ⟨w1.heap.size, 0, none⟩ = some (.slice b1 m.fr.cells.length d1) ∧ z.cell? ⟨w1.heap.size, 1, none⟩ = some (.slice b2 m.fr.used.length d2) ∧ z.cell? ⟨w1.heap.size, 2, none⟩ = some (.slice b3 m.tb.length d3) ∧ z.cell? ⟨g, 2, none⟩ = some (.int .i64 pz)) from fun z hz => ⟨(BM.out.keep hz).cell 0, (BM.out.keep hz).cell 1, (BM.out.keep hz).cell 2, (Keep.grown hz none).cell c2 (by simp)⟩)
  clear hmm hsc cM0 cM1 cM2 c0 c1 hvz
  go_cut [8, 9] from 19 (fun sp sb z => ∃ (A : Nat) (x1 x2 x3 : Option Addr) (y1 y2 y3 lo hi : Nat), sp = .pointer (some ⟨A, 0, none⟩) ∧ sb = .int .i64 sc ∧ Blk z A 39 #[.slice x1 mm.fr.cells.length y1, .slice x2 mm.fr.used.length y2, .slice x3 mm.tb.length y3] ∧ MA lo hi z (.agg #[.slice x1 mm.fr.cells.length y1, .slice x2 mm.fr.used.length y2, .slice x3 mm.tb.length y3]) mm ∧ Keep w2 z)
  case first =>
    set_option maxRecDepth 100000 in
    go_region_held3 (fun z => z.cell? ⟨w1.heap.size, 0, none⟩ = some (.slice b1 m.fr.cells.length d1) ∧ z.cell? ⟨w1.heap.size, 1, none⟩ = some (.slice b2 m.fr.used.length d2) ∧ z.cell? ⟨w1.heap.size, 2, none⟩ = some (.slice b3 m.tb.length d3) ∧ z.cell? ⟨g, 2, none⟩ = some (.int .i64 pz)) (first | exact HS.out _ ((Chg.refl 0 0 w2).drew) | exact HS.out _ (((Chg.refl 0 0 w2).alloc _).drew) | exact HS.out _ kr1 | exact HS.out _ (kr1.alloc _) | exact HS.out _ (kr1.set _ 0 _ (.inr (Nat.le_refl _))) | exact HS.out _ ((kr1.set _ 0 _ (.inr (Nat.le_refl _))).set _ 1 _ (.inr (Nat.le_refl _))) | exact HS.out _ (((kr1.set _ 0 _ (.inr (Nat.le_refl _))).set _ 1 _ (.inr (Nat.le_refl _))).set _ 2 _ (.inr (Nat.le_refl _)))) (first | (go_at_call 27; refine (store_any _ _ _ _ (H2.out.keep (by repeat (first | exact Chg.refl _ _ _ | apply Chg.drew | apply Chg.alloc))) hs (by omega)).mono ?_; rw [HMM.out, HSC.out]; rintro e Y1 ⟨v3, rfl, h3, kk1⟩; have kr1 : Keep w2 Y1 := Chg.keep (by repeat (first | exact Chg.refl _ _ _ | apply Chg.drew | apply Chg.alloc)) kk1; have zk1 := kk1.size; (first | (have bN := (Blk.new w2 39 #[.slice none 0 0, .slice none 0 0, .slice none 0 0]).keep (((Chg.refl 0 0 _).drew).keep kk1); have cN0 := bN.cell 0; have cN1 := bN.cell 1; have cN2 := bN.cell 2; have fN0 := bN.frozen 0; have fN1 := bN.frozen 1; have fN2 := bN.frozen 2; have lN := bN.lt) | skip); obtain ⟨x1, y1, x2, y2, x3, y3, rfl, _, _⟩ := h3.slices))
    all_goals
      go_wp2_with fail
      go_meet
      case rel =>
        try simp only [size_alloc, show ∀ w : World, w.drew.heap.size = w.heap.size from fun _ => rfl] at zk1 h3
        first
          | exact ⟨_, x1, x2, x3, y1, y2, y3, _, _, rfl, rfl, by simpa using ((bN.set_ 0 (.slice x1 mm.fr.cells.length y1)).set_ 1 (.slice x2 mm.fr.used.length y2)).set_ 2 (.slice x3 mm.tb.length y3), h3.mv ((((Chg.refl w2.heap.size (w2.heap.size + 1) Y1).set w2.heap.size 0 _ (.inl ⟨Nat.le_refl _, Nat.lt_succ_self _⟩)).set w2.heap.size 1 _ (.inl ⟨Nat.le_refl _, Nat.lt_succ_self _⟩)).set w2.heap.size 2 _ (.inl ⟨Nat.le_refl _, Nat.lt_succ_self _⟩)) (by omega), ((kr1.set _ 0 _ (.inr (Nat.le_refl _))).set _ 1 _ (.inr (Nat.le_refl _))).set _ 2 _ (.inr (Nat.le_refl _))⟩
          | exact ⟨_, x1, x2, x3, y1, y2, y3, _, _, rfl, rfl, Blk.new _ _ _, h3.keep ((Chg.refl 0 0 _).alloc _), kr1.alloc _⟩
  obtain ⟨A, x1, x2, x3, y1, y2, y3, lo, hi, rfl, rfl, bA, hA, kc⟩ := hcut
  have bMc := BM.out.keep kc
  have cM0 := bMc.cell 0
  have cM1 := bMc.cell 1
  have cM2 := bMc.cell 2
  have c2 := (Keep.grown kc none).cell c2 (by simp)
  have qc := q2.keep kc
  have HMc := Lib.hid (H2.out.keep kc)
  have HAc := Lib.hid hA
  have BA := Lib.hid bA
  have BMc := Lib.hid bMc
  have cA0 := bA.cell 0
  have cA1 := bA.cell 1
  have cA2 := bA.cell 2
  clear bA hA bMc kc
  go_wp2_with fail
  obtain ⟨s1, s2, s3, e, -, hse⟩ := HMc.out
  have HSE := Lib.hid (show ∃ l h, TB l h wc (.agg #[.slice b3 m.tb.length d3]) m.tb from ⟨_, _, s3, by simp at e; rw [e.2.2], hse⟩)
  clear hse e
  obtain ⟨_, _, hTB⟩ := HSE.out
  refine (pageEntry_spec _ _ _ hTB (by omega)).mono ?_
  rintro e w6 ⟨rfl, k6⟩
  have q6 := qc.keep k6
  generalize hent : entryD m.tb (a / 16) = en at *
  obtain ⟨e1, e2⟩ := en
  dsimp only at *
  have c2 := (Keep.grown k6 none).cell c2 (by simp)
  by_cases h2 : e1 = 2
  · obtain ⟨t1, t2, t3, t4, t5, t6⟩ := HST.out h2
    have T2 := Lib.hid t2
    have T3 := Lib.hid t3
    have T4 := Lib.hid t4
    have T56 := Lib.hid (And.intro t5 t6)
    clear t2 t3 t4 t5 t6
    subst h2
    have cA0 := (BA.out.keep k6).cell 0
    have cA1 := (BA.out.keep k6).cell 1
    have cA2 := (BA.out.keep k6).cell 2
    have cM0 := (BMc.out.keep k6).cell 0
    have cM1 := (BMc.out.keep k6).cell 1
    have cM2 := (BMc.out.keep k6).cell 2
    have lA6 := (BA.out.keep k6).lt
    have lM6 := (BMc.out.keep k6).lt
    have lg6 : g < w6.heap.size := World.block_lt_of_cell? w6 _ c2
    have kX : Keep w6 (w6.alloc (.cells #[.int .i64 2, .int .i64 e2] 65 (0, 0))) := (Chg.refl 0 0 w6).alloc _
    have bE6 : Blk (w6.alloc (.cells #[.int .i64 2, .int .i64 e2] 65 (0, 0))) w6.heap.size 65 #[.int .i64 2, .int .i64 e2] := Blk.new _ _ _
    have r6 : Keep wc (w6.alloc (.cells #[.int .i64 2, .int .i64 e2] 65 (0, 0))) := k6.keep kX
    have c2X := (Keep.grown kX none).cell c2 (by simp)
    go_wp2_with fail
    refine (load_any _ _ _ (HAc.out.keep r6) hs2 (by omega)).mono ?_
    rw [T2.out]
    rintro e w7 ⟨rfl, k7⟩
    have r7 : Keep wc w7 := r6.keep k7
    have cM0 := (BMc.out.keep r7).cell 0
    have cM1 := (BMc.out.keep r7).cell 1
    have cM2 := (BMc.out.keep r7).cell 2
    have cA0 := (BA.out.keep r7).cell 0
    have cA1 := (BA.out.keep r7).cell 1
    have cA2 := (BA.out.keep r7).cell 2
    have c2 := (Keep.grown k7 none).cell c2X (by simp)
    have bE7 := bE6.keep k7
    go_wp2_with fail
    refine (load_any _ _ _ (HAc.out.keep r7) hs2 (by omega)).mono ?_
    rw [T3.out]
    rintro e w8 ⟨rfl, k8⟩
    have r8 : Keep wc w8 := r7.keep k8
    have cM0 := (BMc.out.keep r8).cell 0
    have cM1 := (BMc.out.keep r8).cell 1
    have cM2 := (BMc.out.keep r8).cell 2
    have cA0 := (BA.out.keep r8).cell 0
    have cA1 := (BA.out.keep r8).cell 1
    have cA2 := (BA.out.keep r8).cell 2
    have c2 := (Keep.grown k8 none).cell c2 (by simp)
    have bE8 := bE7.keep k8
    have cE0 := bE8.cell 0
    have cE1 := bE8.cell 1
    have lE := bE8.lt
    go_wp2_with fail
    refine (load_spec _ _ _ (HMc.out.keep r8) hs (by omega)).mono ?_
    rintro e w9 ⟨rfl, k9⟩
    have r9 : Keep wc w9 := r8.keep k9
    have cM0 := (BMc.out.keep r9).cell 0
    have cM1 := (BMc.out.keep r9).cell 1
    have cM2 := (BMc.out.keep r9).cell 2
    have cA0 := (BA.out.keep r9).cell 0
    have cA1 := (BA.out.keep r9).cell 1
    have cA2 := (BA.out.keep r9).cell 2
    have c2 := (Keep.grown k9 none).cell c2 (by simp)
    have bE9 := bE8.keep k9
    have cE0 := bE9.cell 0
    have cE1 := bE9.cell 1
    have lE := bE9.lt
    go_wp2_with fail
    refine (pageEntry_spec _ _ _ (hTB.keep r9) (by omega)).mono ?_
    rintro e w10 ⟨rfl, k10⟩
    have rA : Keep wc w10 := r9.keep k10
    have cA0 := (BA.out.keep rA).cell 0
    have cA1 := (BA.out.keep rA).cell 1
    have cA2 := (BA.out.keep rA).cell 2
    have lA10 := (BA.out.keep rA).lt
    have c2 := (Keep.grown k10 none).cell c2 (by simp)
    have lg10 : g < w10.heap.size := World.block_lt_of_cell? w10 _ c2
    have bE10 := bE9.keep k10
    have cE0 := bE10.cell 0
    have cE1 := bE10.cell 1
    have lE10 := bE10.lt
    generalize hen2 : entryD m.tb (b / 16) = en2 at *
    obtain ⟨f1, f2⟩ := en2
    dsimp only at *
    have qA := qc.keep rA
    by_cases g1 : f1 = 0
    · have hl := T56.out.2 (fun x => x.1 g1)
      subst g1
      go_wp2_with fail
      refine (machineOk_any _ _ (HAc.out.keep (rA.alloc _)) hs2).mono ?_
      rw [T4.out]
      rintro e w11 ⟨rfl, k11⟩
      go_wp2_with fail
      go_ret
      exact ⟨rfl, Keep.below ((qA.alloc _).keep k11)⟩
    · by_cases g2 : f2 = e2
      · by_cases g3 : b % 16 = a % 16
        · have hl := T56.out.1 ⟨g1, g2, g3⟩
          subst g2
          go_wp2_with fail
          refine (machineOk_any _ _ (HAc.out.keep (rA.alloc _)) hs2).mono ?_
          rw [T4.out]
          rintro e w11 ⟨rfl, k11⟩
          go_wp2_with fail
          go_ret
          exact ⟨rfl, Keep.below ((qA.alloc _).keep k11)⟩
        · have hl := T56.out.2 (fun x => g3 x.2.2)
          subst g2
          have hb : ((!(f1 != 0)) || (!(b % 16 == a % 16))) = true := by rw [beq_eq_false_iff_ne.2 g3]; simp
          go_wp2_with fail
          refine (machineOk_any _ _ (HAc.out.keep (rA.alloc _)) hs2).mono ?_
          rw [T4.out]
          rintro e w11 ⟨rfl, k11⟩
          go_wp2_with fail
          try rw [hb]
          go_ret
          exact ⟨rfl, Keep.below ((qA.alloc _).keep k11)⟩
      · have hl := T56.out.2 (fun x => g2 x.2.1)
        go_wp2_with fail
        refine (machineOk_any _ _ (HAc.out.keep (rA.alloc _)) hs2).mono ?_
        rw [T4.out]
        rintro e w11 ⟨rfl, k11⟩
        go_wp2_with fail
        go_ret
        exact ⟨rfl, Keep.below ((qA.alloc _).keep k11)⟩
  · obtain ⟨t1, t2⟩ := HSR.out h2
    by_cases h1 : e1 = 1
    · have t3 := t2.2 h1
      subst h1
      subst t3
      go_wp2_with fail
      go_ret
      exact ⟨rfl, Keep.below (q6.alloc _)⟩
    · have t3 : ¬ sc = 2 := fun x => h1 (t2.1 x)
      clear t2
      have hb : (sc != 0 && (sc == 2) == (e1 == 1)) = true := by rw [beq_eq_false_iff_ne.2 t3, beq_eq_false_iff_ne.2 h1, bne_iff_ne.2 t1]; rfl
      go_wp2_with fail
      try rw [hb]
      go_ret
      exact ⟨rfl, Keep.below (q6.alloc _)⟩

theorem own : ownKnob Try.prog.godebug = none := by kernel_rfl
theorem laidOut : laidOutB Try.prog = true := by kernel_rfl
set_option maxRecDepth 100000 in
theorem lifted (os : Os) (started : os.Started) (H : Type) (enc : TypeId × Value → H) :
    ReturnsInHanded {} Try.checked os 7 .any (Rows.fnStoresSpec.pre6 enc Try.prog Try.f7 Rows.fnStoresRow.domain false) (Rows.fnStoresSpec.post enc Try.prog Try.f7 false true false false) := by
  refine returnsInHanded_of_change (C := Try.checked) own started (by kernel_rfl) Try.func7
    (ChangeSpec.witness6 (enc := enc) (C := Try.checked) false ⟨#[], #[.slice none 0 0], []⟩ 8 (by kernel_rfl) (by kernel_rfl) (by kernel_rfl) (by kernel_rfl)) ?_
  intro W base args ds gs before hval0 hW hcnd _
  have hval : ∀ (j : Nat) t v, Try.f7.params[j]? = some t → args[j]? = some v → Value.okWide Try.prog W .any base t v := hval0
  have hW' := hW
  obtain ⟨p, q, hA0, hV, rfl, hfz, hnd⟩ := hW
  have hA : DataW.TrodAll enc Try.prog W 0 (fun _ => true) true Try.f7.params.toList args.toList ds p := hA0
  rw [Try.params7] at hA hval
  obtain ⟨v0, vs0, d0, ds0, p0, q0, hargs, rfl, rfl, h0, r0⟩ := trodAll_cons hA
  obtain ⟨rfl, rfl, rfl⟩ := trodAll_nil r0
  obtain rfl : args = #[v0] := by cases args; simp_all
  obtain ⟨rfl, rfl⟩ := trodVars_none hV
  have k0 := h0
  have lt0 : ∀ x ∈ p0, x.block < W.heap.size := by obtain ⟨m, hm⟩ := k0; exact DataW.trod_lt m _ _ _ hm
  obtain ⟨a0, len0, cap0, rfl⟩ := okWide_slice Try.underlying57 (hval 0 57 v0 rfl rfl)
  have w0 : Code W.heap.size W a0 len0 := open_code h0
  clear hA0 hval0
  refine (walk a0 len0 cap0 W w0).mono fun e W' ⟨he, bel⟩ => ?_
  subst he
  exact ⟨_, rfl, _, _, _, [], _, [], hW', trodAll_mk1 (shut_bool Try.underlying4 _), (trodAll_cons_mk (Below.trod laidOut (by kernel_rfl) (of_decide_eq_true (by kernel_rfl)) k0 bel lt0) trodAll_mk0), rfl, bel.frame _, fun h => by cases h⟩

theorem over : Rows.fnStoresRow.holds Try.pinned (OpenSpec.ofChange Rows.fnStoresSpec) :=
  OpenClaim.holds_of_wide 7 Try.f7 rfl rfl rfl rfl rfl rfl rfl ⟨rfl, rfl, rfl, rfl, rfl⟩ rfl rfl rfl rfl rfl (by kernel_rfl) Try.func7 (by kernel_rfl)
    (of_decide_eq_true (by kernel_rfl)) (by unfold Func.isWrapper; first | (rw [if_pos (by decide +kernel)]; kernel_rfl) | (rw [if_neg (by decide +kernel)]; exact ⟨rfl, rfl⟩))
    (fun os started H enc _ => lifted os started H enc)

/-- The statement. -/
theorem proved : Rows.FnStoresSaid := over
#print axioms proved
end Go.Proofs.Ytkcoehkfhffjkaa.fnStores
