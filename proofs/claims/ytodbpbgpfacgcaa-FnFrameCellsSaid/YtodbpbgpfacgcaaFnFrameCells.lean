/- The Go law FnFrameCells returns true for all arguments and leaves its arguments as they were. Conditions: none. The frame follows the kit's shell; the walk is mine. -/
import Derived.Test.YtodbpbgpfacgcaaRows
import Derived.WalkKit
import Derived.ProofKit
import Derived.OpenShut
import Derived.Test.YtodbpbgpfacgcaaOpenCode
import Derived.Test.YtodbpbgpfacgcaaDrawFr
import Derived.Test.YtodbpbgpfacgcaaCells
import Derived.Deep.RegionHeld3
import Derived.ShutString
import Derived.ChangeOld
import Derived.Below
namespace Go.Proofs.Ytodbpbgpfacgcaa.fnFrameCells
open Go.ChangeShapes Go.WideShapes Go.ChangeAt Go.RowKit
open Go.ChangeMaps (open_string shut_string)
set_option linter.unusedVariables false
set_option linter.unusedSimpArgs false

theorem walk (a0 : Option Addr) (len0 cap0 : Nat) (w : World) (w0 : Code w.heap.size w a0 len0) :
    Calls Try.prog 6 #[.slice a0 len0 cap0] w fun e w' => e = .returned (.bool true) ∧ Below w.heap.size w w' := by
  by_cases hbig : (1048576 : Int) < len0
  · go_enter Try.func6, Try.ntmps6
    go_wp2_with (go_at_call 13; refine (big_any _ _ _ _).mono ?_; rintro e w' ⟨rfl, rfl⟩)
    go_ret
    exact ⟨rfl, Below.refl _ _⟩
  go_enter Try.func6, Try.ntmps6
  go_wp2_with (go_at_call 13; refine (big_any _ _ _ _).mono ?_; rintro e w' ⟨rfl, rfl⟩)
  refine (drawFrames_any _ _ _ _ (by omega) w0).mono ?_
  rintro e w1 ⟨v1, f, rfl, hf, ok, h5, k1⟩
  have k1s := k1.size
  have hs := sm_small ok
  obtain ⟨b1, d1, b2, d2, rfl, hf⟩ := hf.slices
  have hcode := w0.keep (k1.alloc (.cells #[.slice b1 f.cells.length d1, .slice b2 f.used.length d2] 27 (0, 0)))
  clear w0 h5
  go_wp2_with fail
  refine (places_any _ _ _ _ (by omega) hcode).mono ?_
  rintro e w2 ⟨g, c, p, rfl, hc, hg, hgs, hp, hb⟩
  have k2 := Keep.of_below hb
  have s2 := k2.size
  simp only [size_alloc] at s2 hg
  have bF := (Blk.new w1 27 #[.slice b1 f.cells.length d1, .slice b2 f.used.length d2]).keep k2
  have cF0 := bF.cell 0
  have cF1 := bF.cell 1
  have q2 : Keep w w2 := (k1.alloc _).keep k2
  have hf2 := hf.keep (Chg.keep ((Chg.refl 0 0 w1).alloc _) k2)
  obtain ⟨p00, p01, c0⟩ := hp 0 (by decide)
  obtain ⟨p10, p11, c1⟩ := hp 1 (by decide)
  obtain ⟨p20, p21, c2⟩ := hp 2 (by decide)
  clear hcode hp hb hf k1 k2
  cases hto : takeOk f
  · have HN := Lib.hid (not_taken ok hto)
    clear ok
    go_wp2_with fail
    refine (frameTake_spec _ _ hf2 hs).mono ?_
    rw [HN.out.1, HN.out.2.1, hto]
    rintro e w3 ⟨v3, rfl, h3, k3⟩
    have s3 := k3.size
    obtain ⟨c1', e1, c2', e2, rfl, h3⟩ := h3.slices
    have BF := Lib.hid (bF.keep k3)
    have cF0 := BF.out.cell 0
    have cF1 := BF.out.cell 1
    have fF0 := BF.out.frozen 0
    have fF1 := BF.out.frozen 1
    have lF := BF.out.lt
    have q3 := q2.keep k3
    have hch : Chg w1.heap.size (w1.heap.size + 1) w3 ((w3.setCell ⟨w1.heap.size, 0, none⟩ (.slice c1' f.cells.length e1)).setCell ⟨w1.heap.size, 1, none⟩ (.slice c2' f.used.length e2)) := ((Chg.refl _ _ _).set _ 0 _ (.inl ⟨by omega, by omega⟩)).set _ 1 _ (.inl ⟨by omega, by omega⟩)
    have h4 := h3.mv hch (by omega)
    clear h3 hf2 c0 c1 c2 k3 bF
    go_wp2_with fail
    refine (frameTake_any _ _ h4 hs).mono ?_
    rw [HN.out.1, HN.out.2.1, hto]
    rintro e w4 ⟨v4, rfl, h4', k4⟩
    obtain ⟨c1'', e1', c2'', e2', rfl, h4'⟩ := h4'.slices
    clear h4 h4'
    go_wp2_with fail
    go_ret
    exact ⟨rfl, ((Chg.below q3 (Nat.le_refl _) (.inr (Nat.le_refl _))).trans (Chg.below hch (by have := k1s; omega) (.inl (by have := k1s; omega)))).trans (Chg.below (k4.alloc _) (by have := q3.size; have := hch.size; omega) (.inr (Nat.le_refl _)))⟩
  · obtain ⟨k, hk, h0, hD, hI, hB, -, -, -, -, -⟩ := taken_facts ok hto
    have hs2 := takeD_sm hs
    have HT := Lib.hid (show takeI f = k ∧ takeOk f = true from ⟨hI, hto⟩)
    clear hI hto ok hD h0 hk
    generalize hfd : takeD f = fd at *
    have HFD := Lib.hid hfd
    clear hfd
    generalize hpa : p 0 = pa at *
    generalize hpb : p 1 = pb at *
    generalize hpz : p 2 = pz at *
    clear hpa hpb hpz
    obtain ⟨wo, wok, roa, rda, rob, rdb⟩ := wrote_facts hB (show btw (pa % 16) 0 15 = true by rw [btw_iff]; omega) (show btw (pb % 16) 0 15 = true by rw [btw_iff]; omega) (show btw (pz % 1000) 0 999 = true by rw [btw_iff]; omega)
    have hs3 := writeD_sm hs2 k (pa % 16) (pz % 1000)
    have roh := readOk_yes (show btw (pb % 16) 0 15 = true by rw [btw_iff]; omega) hB
    generalize hfw : writeD fd k (pa % 16) (pz % 1000) = fw at *
    have HFWD := Lib.hid hfw
    have HW := Lib.hid wo
    have HWO := Lib.hid wok
    have HRA := Lib.hid (And.intro roa rda)
    have HRB := Lib.hid rob
    have HRH := Lib.hid roh
    have HEQ := Lib.hid rdb
    clear wo wok roa rda rob rdb roh hfw hB
    go_wp2_with fail
    refine (frameTake_spec _ _ hf2 hs).mono ?_
    rw [HFD.out, HT.out.1, HT.out.2]
    rintro e w3 ⟨v3, rfl, h3, k3⟩
    have s3 := k3.size
    obtain ⟨c1', e1, c2', e2, rfl, h3⟩ := h3.slices
    have BF := Lib.hid (bF.keep k3)
    have cF0 := BF.out.cell 0
    have cF1 := BF.out.cell 1
    have fF0 := BF.out.frozen 0
    have fF1 := BF.out.frozen 1
    have lF := BF.out.lt
    have q3 := q2.keep k3
    have c0 := (Keep.grown k3 none).cell c0 (by simp)
    have c1 := (Keep.grown k3 none).cell c1 (by simp)
    have c2 := (Keep.grown k3 none).cell c2 (by simp)
    clear hf2 k3 bF
    go_wp2_with fail
    have hch : Chg w1.heap.size (w1.heap.size + 1) w3 ((w3.setCell ⟨w1.heap.size, 0, none⟩ (.slice c1' fd.cells.length e1)).setCell ⟨w1.heap.size, 1, none⟩ (.slice c2' fd.used.length e2)) := ((Chg.refl _ _ _).set _ 0 _ (.inl ⟨by omega, by omega⟩)).set _ 1 _ (.inl ⟨by omega, by omega⟩)
    have H4 := Lib.hid (h3.mv hch (by omega))
    have bF4 := (BF.out.set_ 0 (.slice c1' fd.cells.length e1)).set_ 1 (.slice c2' fd.used.length e2)
    simp at bF4
    have cF0 := bF4.cell 0
    have cF1 := bF4.cell 1
    have c2 := hch.cellLow c2 (.inr (by omega))
    have HCH := Lib.hid hch
    have BF4 := Lib.hid bF4
    clear h3 bF4 hch c0 c1 fF0 fF1 BF
    generalize hw4 : (w3.setCell ⟨w1.heap.size, 0, none⟩ (.slice c1' fd.cells.length e1)).setCell ⟨w1.heap.size, 1, none⟩ (.slice c2' fd.used.length e2) = w4 at *
    clear hw4
    have hg4 : g < w4.heap.size := World.block_lt_of_cell? w4 _ c2
    have lB := BF4.out.lt
    have HS := Lib.hid (show ∀ z, Chg w4.heap.size (w4.heap.size + 1) w4 z → (z.cell? ⟨w1.heap.size, 0, none⟩ = some (.slice c1' fd.cells.length e1) ∧ z.cell? ⟨w1.heap.size, 1, none⟩ = some (.slice c2' fd.used.length e2) ∧ z.cell? ⟨g, 2, none⟩ = some (.int .i64 pz)) from fun z hz => ⟨hz.cellLow cF0 (.inl lB), hz.cellLow cF1 (.inl lB), hz.cellLow c2 (.inl hg4)⟩)
    go_region_held3 (fun z => z.cell? ⟨w1.heap.size, 0, none⟩ = some (.slice c1' fd.cells.length e1) ∧ z.cell? ⟨w1.heap.size, 1, none⟩ = some (.slice c2' fd.used.length e2) ∧ z.cell? ⟨g, 2, none⟩ = some (.int .i64 pz)) (first | go_keep | exact HS.out _ kr | exact HS.out _ (kr.alloc _) | exact HS.out _ (kr.set _ 0 _ (.inl ⟨Nat.le_refl _, Nat.lt_succ_self _⟩)) | exact HS.out _ ((kr.set _ 0 _ (.inl ⟨Nat.le_refl _, Nat.lt_succ_self _⟩)).set _ 1 _ (.inl ⟨Nat.le_refl _, Nat.lt_succ_self _⟩))) (first | (go_at_call 28; refine (frameWrite_any _ _ _ _ _ (H4.out.keep (((Chg.refl 0 0 w4).alloc (.cells #[.slice none 0 0, .slice none 0 0] 27 (0, 0))).drew)) hs2).mono ?_; rw [show pz.tmod 1000 = pz % 1000 from Int.tmod_eq_emod_of_nonneg p20, HFWD.out, HW.out]; rintro e w5 ⟨v5, rfl, h5, k5⟩; have kr := Chg.keep (((Chg.refl w4.heap.size (w4.heap.size + 1) w4).alloc (.cells #[.slice none 0 0, .slice none 0 0] 27 (0, 0))).drew) k5; have bN := (Blk.new w4 27 #[.slice none 0 0, .slice none 0 0]).keep (((Chg.refl 0 0 _).drew).keep k5); have cN0 := bN.cell 0; have cN1 := bN.cell 1; have fN0 := bN.frozen 0; have fN1 := bN.frozen 1; have lN := bN.lt; have BN := Lib.hid bN; clear bN; obtain ⟨a1, r1, a2, r2, rfl, h5⟩ := h5.slices) | (go_at_call 28; refine (frameWrite_any _ _ _ _ _ (H4.out.keep ((Chg.refl 0 0 w4).drew)) hs2).mono ?_; rw [show pz.tmod 1000 = pz % 1000 from Int.tmod_eq_emod_of_nonneg p20, HFWD.out, HW.out]; rintro e w5 ⟨v5, rfl, h5, k5⟩; have kr := Chg.keep ((Chg.refl w4.heap.size (w4.heap.size + 1) w4).drew) k5; obtain ⟨a1, r1, a2, r2, rfl, h5⟩ := h5.slices))
    all_goals
      first
        | (have bx := (BN.out.set_ 0 (.slice a1 fw.cells.length r1)).set_ 1 (.slice a2 fw.used.length r2)
           simp at bx
           simp only [show ∀ w : World, w.drew.heap.size = w.heap.size from fun _ => rfl, size_alloc] at h5
           have kx := (kr.set w4.heap.size 0 (.slice a1 fw.cells.length r1) (.inl ⟨Nat.le_refl _, Nat.lt_succ_self _⟩)).set w4.heap.size 1 (.slice a2 fw.used.length r2) (.inl ⟨Nat.le_refl _, Nat.lt_succ_self _⟩)
           have hx := h5.mv (((Chg.refl w4.heap.size (w4.heap.size + 1) w5).set w4.heap.size 0 (.slice a1 fw.cells.length r1) (.inl ⟨Nat.le_refl _, Nat.lt_succ_self _⟩)).set w4.heap.size 1 (.slice a2 fw.used.length r2) (.inl ⟨Nat.le_refl _, Nat.lt_succ_self _⟩)) (by omega)
           have BX := Lib.hid bx
           have KX := Lib.hid kx
           have HX := Lib.hid hx
           clear bx kx hx h5 kr k5 cN0 cN1 fN0 fN1 lN BN
           generalize (w5.setCell ⟨w4.heap.size, 0, none⟩ (.slice a1 fw.cells.length r1)).setCell ⟨w4.heap.size, 1, none⟩ (.slice a2 fw.used.length r2) = w6 at *
           obtain ⟨A, hA⟩ : ∃ A, A = w4.heap.size := ⟨_, rfl⟩
           have HXB := Lib.hid (show Blk w6 A 27 #[.slice a1 fw.cells.length r1, .slice a2 fw.used.length r2] from hA ▸ BX.out))
        | (have bx := Blk.new w5 27 #[.slice a1 fw.cells.length r1, .slice a2 fw.used.length r2]
           have kx := kr.alloc (.cells #[.slice a1 fw.cells.length r1, .slice a2 fw.used.length r2] 27 (0, 0))
           have hx := h5.keep ((Chg.refl 0 0 w5).alloc (.cells #[.slice a1 fw.cells.length r1, .slice a2 fw.used.length r2] 27 (0, 0)))
           have BX := Lib.hid bx
           have KX := Lib.hid kx
           have HX := Lib.hid hx
           clear bx kx hx h5 kr k5
           generalize w5.alloc (.cells #[.slice a1 fw.cells.length r1, .slice a2 fw.used.length r2] 27 (0, 0)) = w6 at *)
    all_goals
      have hcF := HS.out _ KX.out
      obtain ⟨cF0, cF1, c2⟩ := hcF
      have cA0 := BX.out.cell 0
      have cA1 := BX.out.cell 1
      have H6 := Lib.hid (H4.out.mv KX.out (by omega))
      have BF6 := Lib.hid (BF4.out.mv KX.out (by omega))
      go_wp2_with fail
      refine (frameRead_any _ _ _ _ HX.out hs3).mono ?_
      rw [HRA.out.1, HRA.out.2]
      rintro e w7 ⟨rfl, k7⟩
      have cF0 := (BF6.out.keep k7).cell 0
      have cF1 := (BF6.out.keep k7).cell 1
      have cA0 := (BX.out.keep k7).cell 0
      have cA1 := (BX.out.keep k7).cell 1
      have c2 := (Keep.grown k7 none).cell c2 (by simp)
      go_wp2_with fail
      refine (frameRead_any _ _ _ _ (HX.out.keep k7) hs3).mono ?_
      rw [HRB.out]
      rintro e w8 ⟨rfl, k8⟩
      have k68 := k7.keep k8
      have cF0 := (BF6.out.keep k68).cell 0
      have cF1 := (BF6.out.keep k68).cell 1
      have cA0 := (BX.out.keep k68).cell 0
      have cA1 := (BX.out.keep k68).cell 1
      have c2 := (Keep.grown k8 none).cell c2 (by simp)
      go_wp2_with fail
      refine (frameRead_spec _ _ _ _ (H6.out.keep k68) hs2).mono ?_
      rw [HRH.out]
      rintro e w9 ⟨rfl, k9⟩
      have k69 := k68.keep k9
      have cA0 := (BX.out.keep k69).cell 0
      have cA1 := (BX.out.keep k69).cell 1
      have c2 := (Keep.grown k9 none).cell c2 (by simp)
      have hzt : pz.tmod 1000 = pz % 1000 := Int.tmod_eq_emod_of_nonneg p20
      have q3s := q3.size
      have hcs := HCH.out.size
      have kxs := KX.out.size
      have hbl : ∀ w10, Keep w9 w10 → Below w.heap.size w w10 := fun w10 k10 => (((Chg.below q3 (Nat.le_refl _) (.inr (Nat.le_refl _))).trans (Chg.below HCH.out (by omega) (.inl (by omega)))).trans (Chg.below KX.out (by omega) (.inl (by omega)))).trans (Chg.below (k69.keep k10) (by omega) (.inr (Nat.le_refl _)))
      have HBL := Lib.hid hbl
      clear hbl
      by_cases hab : pb % 16 = pa % 16
      · go_wp2_with (go_at_call 26; refine (framesOk_any _ _ (HX.out.keep k69) hs3).mono ?_; rw [HWO.out]; rintro e w10 ⟨rfl, k10⟩)
        go_ret
        exact ⟨rfl, HBL.out _ k10⟩
      · have hrd := HEQ.out hab
        go_wp2_with (go_at_call 26; refine (framesOk_any _ _ (HX.out.keep k69) hs3).mono ?_; rw [HWO.out]; rintro e w10 ⟨rfl, k10⟩)
        go_ret
        exact ⟨rfl, HBL.out _ k10⟩

theorem own : ownKnob Try.prog.godebug = none := by kernel_rfl
theorem laidOut : laidOutB Try.prog = true := by kernel_rfl
set_option maxRecDepth 100000 in
theorem lifted (os : Os) (started : os.Started) (H : Type) (enc : TypeId × Value → H) :
    ReturnsInHanded {} Try.checked os 6 .any (Rows.fnFrameCellsSpec.pre6 enc Try.prog Try.f6 Rows.fnFrameCellsRow.domain false) (Rows.fnFrameCellsSpec.post enc Try.prog Try.f6 false true false false) := by
  refine returnsInHanded_of_change (C := Try.checked) own started (by kernel_rfl) Try.func6
    (ChangeSpec.witness6 (enc := enc) (C := Try.checked) false ⟨#[], #[.slice none 0 0], []⟩ 8 (by kernel_rfl) (by kernel_rfl) (by kernel_rfl) (by kernel_rfl)) ?_
  intro W base args ds gs before hval0 hW hcnd _
  have hval : ∀ (j : Nat) t v, Try.f6.params[j]? = some t → args[j]? = some v → Value.okWide Try.prog W .any base t v := hval0
  have hW' := hW
  obtain ⟨p, q, hA0, hV, rfl, hfz, hnd⟩ := hW
  have hA : DataW.TrodAll enc Try.prog W 0 (fun _ => true) true Try.f6.params.toList args.toList ds p := hA0
  rw [Try.params6] at hA hval
  obtain ⟨v0, vs0, d0, ds0, p0, q0, hargs, rfl, rfl, h0, r0⟩ := trodAll_cons hA
  obtain ⟨rfl, rfl, rfl⟩ := trodAll_nil r0
  obtain rfl : args = #[v0] := by cases args; simp_all
  obtain ⟨rfl, rfl⟩ := trodVars_none hV
  have k0 := h0
  have lt0 : ∀ x ∈ p0, x.block < W.heap.size := by obtain ⟨m, hm⟩ := k0; exact DataW.trod_lt m _ _ _ hm
  obtain ⟨a0, len0, cap0, rfl⟩ := okWide_slice Try.underlying22 (hval 0 22 v0 rfl rfl)
  have w0 : Code W.heap.size W a0 len0 := open_code h0
  clear hA0 hval0
  refine (walk a0 len0 cap0 W w0).mono fun e W' ⟨he, bel⟩ => ?_
  subst he
  exact ⟨_, rfl, _, _, _, [], _, [], hW', trodAll_mk1 (shut_bool Try.underlying4 _), (trodAll_cons_mk (Below.trod laidOut (by kernel_rfl) (of_decide_eq_true (by kernel_rfl)) k0 bel lt0) trodAll_mk0), rfl, bel.frame _, fun h => by cases h⟩

theorem over : Rows.fnFrameCellsRow.holds Try.pinned (OpenSpec.ofChange Rows.fnFrameCellsSpec) :=
  OpenClaim.holds_of_wide 6 Try.f6 rfl rfl rfl rfl rfl rfl rfl ⟨rfl, rfl, rfl, rfl, rfl⟩ rfl rfl rfl rfl rfl (by kernel_rfl) Try.func6 (by kernel_rfl)
    (of_decide_eq_true (by kernel_rfl)) (by unfold Func.isWrapper; first | (rw [if_pos (by decide +kernel)]; kernel_rfl) | (rw [if_neg (by decide +kernel)]; exact ⟨rfl, rfl⟩))
    (fun os started H enc _ => lifted os started H enc)

/-- The statement. -/
theorem proved : Rows.FnFrameCellsSaid := over
#print axioms proved
end Go.Proofs.Ytodbpbgpfacgcaa.fnFrameCells
