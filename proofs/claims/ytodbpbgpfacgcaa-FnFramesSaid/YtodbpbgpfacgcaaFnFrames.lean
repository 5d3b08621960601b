/- The Go law FnFrames returns true for all arguments and leaves its arguments as they were. Conditions: none. The frame follows the kit's shell; the walk is mine. -/
import Derived.Test.YtodbpbgpfacgcaaRows
import Derived.WalkKit
import Derived.ProofKit
import Derived.OpenShut
import Derived.Test.YtodbpbgpfacgcaaOpenCode
import Derived.Test.YtodbpbgpfacgcaaDrawFr
import Derived.Test.YtodbpbgpfacgcaaSame
import Derived.Deep.RegionHeld3
import Derived.ShutString
import Derived.ChangeOld
import Derived.Below
namespace Go.Proofs.Ytodbpbgpfacgcaa.fnFrames
open Go.ChangeShapes Go.WideShapes Go.ChangeAt Go.RowKit
open Go.ChangeMaps (open_string shut_string)
set_option linter.unusedVariables false
set_option linter.unusedSimpArgs false

theorem walk (a0 : Option Addr) (len0 cap0 : Nat) (w : World) (w0 : Code w.heap.size w a0 len0) :
    Calls Try.prog 5 #[.slice a0 len0 cap0] w fun e w' => e = .returned (.bool true) ∧ Below w.heap.size w w' := by
  by_cases hbig : (1048576 : Int) < len0
  · go_enter Try.func5, Try.ntmps5
    go_wp2_with (go_at_call 13; refine (big_any _ _ _ _).mono ?_; rintro e w' ⟨rfl, rfl⟩)
    go_ret
    exact ⟨rfl, Below.refl _ _⟩
  go_enter Try.func5, Try.ntmps5
  go_wp2_with (go_at_call 13; refine (big_any _ _ _ _).mono ?_; rintro e w' ⟨rfl, rfl⟩)
  refine (drawFrames_any _ _ _ _ (by omega) w0).mono ?_
  rintro e w1 ⟨v1, f, rfl, hf, ok, h5, k1⟩
  have hs := sm_small ok
  have hul : f.used.length ≤ 5 := by have := ok.used; omega
  obtain ⟨b1, d1, b2, d2, rfl, hf⟩ := hf.slices
  clear w0 h5
  cases hto : takeOk f
  · have HN := Lib.hid (not_taken ok hto)
    clear ok
    go_wp2_with fail
    refine (frameTake_any _ _ (hf.keep ((Chg.refl 0 0 w1).alloc _)) hs).mono ?_
    rw [HN.out.1, HN.out.2.1, hto]
    rintro e w2 ⟨v2, rfl, h2, k2⟩
    have bF := (Blk.new w1 27 #[.slice b1 f.cells.length d1, .slice b2 f.used.length d2]).keep k2
    have q2 : Keep w w2 := (k1.alloc _).keep k2
    replace hf := hf.keep (Chg.keep ((Chg.refl 0 0 w1).alloc _) k2)
    obtain ⟨c1, e1, c2, e2, rfl, h2⟩ := h2.slices
    have cF0 := bF.cell 0
    have cF1 := bF.cell 1
    have HFW := Lib.hid (hf.keep ((Chg.refl 0 0 w2).alloc (.cells #[.slice c1 f.cells.length e1, .slice c2 f.used.length e2] 27 (0, 0))))
    have HU := Lib.hid HN.out.2.2
    clear hf h2 k2 k1 bF hto
    go_wp2_with fail
    go_region_held3 (fun z => z.cell? ⟨w1.heap.size, 0, none⟩ = some (.slice b1 f.cells.length d1) ∧ z.cell? ⟨w1.heap.size, 1, none⟩ = some (.slice b2 f.used.length d2)) (first | go_keep | exact ⟨(Keep.grown kr none).cell cF0 (by simp), (Keep.grown kr none).cell cF1 (by simp)⟩) (first | (go_at_call 16; refine (usedFrames_any _ _ (HFW.out.keep ((Chg.refl 0 0 _).drew)) hs).mono ?_; rw [HU.out]; rintro e w3 ⟨rfl, k3⟩; have kr : Keep w2 w3 := (((Chg.refl 0 0 w2).alloc _).drew).keep k3))
    go_wp2_with fail
    go_ret
    exact ⟨rfl, Keep.below (q2.keep kr)⟩
  · obtain ⟨k, hk, h0, hD, hI, hB, hR, hRo, hG, hUs, _⟩ := taken_facts ok hto
    have hok2 := framesOk_iff.2 (takeD_ok ok)
    have hs2 := takeD_sm hs
    have HT := Lib.hid (show takeI f = k ∧ takeOk f = true from ⟨hI, hto⟩)
    clear hI hto ok hB
    generalize hfd : takeD f = fd at *
    have HFD := Lib.hid hfd
    clear hfd
    have HRd := Lib.hid (show readD fd k 5 = 0 ∧ readOk fd k 5 = true ∧ giveD fd k = f ∧ isB fd k = true from ⟨hR, hRo, hG, by unfold readOk at hRo; simp at hRo; exact hRo.1⟩)
    have HOK := Lib.hid hok2
    have HUs := Lib.hid hUs
    have HU0 := Lib.hid (show 0 ≤ usedD f ∧ usedD f ≤ 5 from by have h1 := cntU_bd f.used f.used.length; rw [List.take_length] at h1; have h2 := usedD_any f; omega)
    clear hR hRo hG hUs hok2 hD
    go_wp2_with fail
    refine (frameTake_any _ _ (hf.keep ((Chg.refl 0 0 w1).alloc _)) hs).mono ?_
    rw [HFD.out, HT.out.1, HT.out.2]
    rintro e w2 ⟨v2, rfl, h2, k2⟩
    have bF := (Blk.new w1 27 #[.slice b1 f.cells.length d1, .slice b2 f.used.length d2]).keep k2
    have q2 : Keep w w2 := (k1.alloc _).keep k2
    replace hf := hf.keep (Chg.keep ((Chg.refl 0 0 w1).alloc _) k2)
    obtain ⟨c1, e1, c2, e2, rfl, h2⟩ := h2.slices
    have cF0 := bF.cell 0
    have cF1 := bF.cell 1
    have lF := bF.lt
    have hx := h2.keep ((Chg.refl 0 0 w2).alloc (.cells #[.slice c1 fd.cells.length e1, .slice c2 fd.used.length e2] 27 (0, 0)))
    have hfw := hf.keep ((Chg.refl 0 0 w2).alloc (.cells #[.slice c1 fd.cells.length e1, .slice c2 fd.used.length e2] 27 (0, 0)))
    obtain ⟨gU, rfl, _, _, lU, cU, _⟩ := hfw.usedAt k hk
    rw [h0] at cU
    have HX := Lib.hid hx
    have HF := Lib.hid hf
    have H2 := Lib.hid h2
    have HK := Lib.hid k2
    have BF := Lib.hid bF
    clear hf h2 k2 k1 bF hx hfw h0
    go_wp2_with fail
    refine (frameRead_any _ _ _ _ HX.out hs2).mono ?_
    rw [HRd.out.1, HRd.out.2.1]
    rintro e w3 ⟨rfl, k3⟩
    have q3 : Keep w2 w3 := Chg.keep ((Chg.refl 0 0 w2).alloc _) k3
    replace cF0 := (BF.out.keep q3).cell 0
    replace cF1 := (BF.out.keep q3).cell 1
    have bT := (Blk.new w2 27 #[.slice c1 fd.cells.length e1, .slice c2 fd.used.length e2]).keep k3
    have cT0 := bT.cell 0
    have cT1 := bT.cell 1
    have BT := Lib.hid bT
    clear bT cU
    go_wp2_with fail
    refine (frameGive_any _ _ _ (HX.out.keep k3) hs2).mono ?_
    rw [HRd.out.2.2.1, HRd.out.2.2.2]
    rintro e w4 ⟨v4, rfl, h4, k4⟩
    obtain ⟨a1, r1, a2, r2, rfl, h4⟩ := h4.slices
    have q4 : Keep w2 w4 := q3.keep k4
    replace cF0 := (BF.out.keep q4).cell 0
    replace cF1 := (BF.out.keep q4).cell 1
    replace cT0 := (BT.out.keep k4).cell 0
    replace cT1 := (BT.out.keep k4).cell 1
    have q5 : Keep w2 (w4.alloc (.cells #[.slice a1 f.cells.length r1, .slice a2 f.used.length r2] 27 (0, 0))).drew := (q4.alloc _).drew
    have H4 := Lib.hid (h4.keep (((Chg.refl 0 0 w4).alloc (.cells #[.slice a1 f.cells.length r1, .slice a2 f.used.length r2] 27 (0, 0))).drew))
    have HF5 := Lib.hid (HF.out.keep q5)
    have HX5 := Lib.hid (H2.out.keep q5)
    have bG := Blk.new w4 27 #[.slice a1 f.cells.length r1, .slice a2 f.used.length r2]
    have cG0 := bG.cell 0
    have cG1 := bG.cell 1
    have BG := Lib.hid (bG.keep ((Chg.refl 0 0 _).drew))
    have BF5 := Lib.hid (BF.out.keep q5)
    have BT5 := Lib.hid (BT.out.keep (((k4).alloc (.cells #[.slice a1 f.cells.length r1, .slice a2 f.used.length r2] 27 (0, 0))).drew))
    clear h4 bG
    have hall : ∀ w', Keep (w4.alloc (.cells #[.slice a1 f.cells.length r1, .slice a2 f.used.length r2] 27 (0, 0))).drew w' → (w'.cell? ⟨w1.heap.size, 0, none⟩ = some (.slice b1 f.cells.length d1) ∧ w'.cell? ⟨w1.heap.size, 1, none⟩ = some (.slice (some ⟨gU, 0, none⟩) f.used.length d2) ∧ w'.cell? ⟨w2.heap.size, 0, none⟩ = some (.slice c1 fd.cells.length e1) ∧ w'.cell? ⟨w2.heap.size, 1, none⟩ = some (.slice c2 fd.used.length e2) ∧ w'.cell? ⟨w4.heap.size, 0, none⟩ = some (.slice a1 f.cells.length r1) ∧ w'.cell? ⟨w4.heap.size, 1, none⟩ = some (.slice a2 f.used.length r2)) := fun w' kk => ⟨(BF5.out.keep kk).cell 0, (BF5.out.keep kk).cell 1, (BT5.out.keep kk).cell 0, (BT5.out.keep kk).cell 1, (BG.out.keep kk).cell 0, (BG.out.keep kk).cell 1⟩
    have HA := Lib.hid hall
    clear hall
    go_wp2_with fail
    obtain ⟨u, hu⟩ : ∃ u, u = usedD f := ⟨_, rfl⟩
    have HU1 := Lib.hid (show usedD fd = u + 1 ∧ usedD f = u from ⟨by rw [hu]; exact HUs.out, hu.symm⟩)
    have hub := HU0.out
    rw [← hu] at hub
    clear hu HUs HU0
    set_option maxRecDepth 100000 in
    go_region_held3 (fun z => z.cell? ⟨w1.heap.size, 0, none⟩ = some (.slice b1 f.cells.length d1) ∧ z.cell? ⟨w1.heap.size, 1, none⟩ = some (.slice (some ⟨gU, 0, none⟩) f.used.length d2) ∧ z.cell? ⟨w2.heap.size, 0, none⟩ = some (.slice c1 fd.cells.length e1) ∧ z.cell? ⟨w2.heap.size, 1, none⟩ = some (.slice c2 fd.used.length e2) ∧ z.cell? ⟨w4.heap.size, 0, none⟩ = some (.slice a1 f.cells.length r1) ∧ z.cell? ⟨w4.heap.size, 1, none⟩ = some (.slice a2 f.used.length r2)) (first | go_keep | exact HA.out _ kr4 | exact HA.out _ kr3 | exact HA.out _ kr2 | exact HA.out _ kr1) (first | (go_at_call 25; refine (sameFrames_same _ _ _ H4.out HF5.out hs).mono ?_; rintro e w5 ⟨rfl, kr1⟩) | (go_at_call 26; refine (framesOk_any _ _ (HX5.out.keep kr1) hs2).mono ?_; rw [HOK.out]; rintro e w6 ⟨rfl, k6⟩; have kr2 := Chg.keep kr1 k6) | (go_at_call 16; refine (usedFrames_any _ _ (HF5.out.keep kr3) hs).mono ?_; rw [HU1.out.2]; rintro e w8 ⟨rfl, k8⟩; have kr4 := Chg.keep kr3 k8) | (go_at_call 16; refine (usedFrames_any _ _ (HX5.out.keep kr2) hs2).mono ?_; rw [HU1.out.1]; rintro e w7 ⟨rfl, k7⟩; have kr3 := Chg.keep kr2 k7))
    have hw : IntKind.i64.wrap (u + 1) = u + 1 := by
      obtain ⟨u1, u2⟩ := hub
      have hc : u = 0 ∨ u = 1 ∨ u = 2 ∨ u = 3 ∨ u = 4 ∨ u = 5 := by omega
      rcases hc with e | e | e | e | e | e <;> subst e <;> rfl
    have hw2 : (u + 1 == IntKind.i64.wrap (u + 1)) = true := by rw [hw]; simp
    go_wp2_with fail
    rw [hw2]
    go_ret
    exact ⟨rfl, Keep.below ((q2.keep q5).keep kr4)⟩

theorem own : ownKnob Try.prog.godebug = none := by kernel_rfl
theorem laidOut : laidOutB Try.prog = true := by kernel_rfl
set_option maxRecDepth 100000 in
theorem lifted (os : Os) (started : os.Started) (H : Type) (enc : TypeId × Value → H) :
    ReturnsInHanded {} Try.checked os 5 .any (Rows.fnFramesSpec.pre6 enc Try.prog Try.f5 Rows.fnFramesRow.domain false) (Rows.fnFramesSpec.post enc Try.prog Try.f5 false true false false) := by
  refine returnsInHanded_of_change (C := Try.checked) own started (by kernel_rfl) Try.func5
    (ChangeSpec.witness6 (enc := enc) (C := Try.checked) false ⟨#[], #[.slice none 0 0], []⟩ 8 (by kernel_rfl) (by kernel_rfl) (by kernel_rfl) (by kernel_rfl)) ?_
  intro W base args ds gs before hval0 hW hcnd _
  have hval : ∀ (j : Nat) t v, Try.f5.params[j]? = some t → args[j]? = some v → Value.okWide Try.prog W .any base t v := hval0
  have hW' := hW
  obtain ⟨p, q, hA0, hV, rfl, hfz, hnd⟩ := hW
  have hA : DataW.TrodAll enc Try.prog W 0 (fun _ => true) true Try.f5.params.toList args.toList ds p := hA0
  rw [Try.params5] at hA hval
  obtain ⟨v0, vs0, d0, ds0, p0, q0, hargs, rfl, rfl, h0, r0⟩ := trodAll_cons hA
  obtain ⟨rfl, rfl, rfl⟩ := trodAll_nil r0
  obtain rfl : args = #[v0] := by cases args; simp_all
  obtain ⟨rfl, rfl⟩ := trodVars_none hV
  have k0 := h0
  have lt0 : ∀ x ∈ p0, x.block < W.heap.size := by obtain ⟨m, hm⟩ := k0; exact DataW.trod_lt m _ _ _ hm
  obtain ⟨a0, len0, cap0, rfl⟩ := okWide_slice Try.underlying22 (hval 0 22 v0 rfl rfl)
  have w0 : Code W.heap.size W a0 len0 := open_code h0
  clear hA0 hval0
  refine (walk a0 len0 cap0 W w0).mono fun e W' ⟨he, bel⟩ => ?_
  subst he
  exact ⟨_, rfl, _, _, _, [], _, [], hW', trodAll_mk1 (shut_bool Try.underlying4 _), (trodAll_cons_mk (Below.trod laidOut (by kernel_rfl) (of_decide_eq_true (by kernel_rfl)) k0 bel lt0) trodAll_mk0), rfl, bel.frame _, fun h => by cases h⟩

theorem over : Rows.fnFramesRow.holds Try.pinned (OpenSpec.ofChange Rows.fnFramesSpec) :=
  OpenClaim.holds_of_wide 5 Try.f5 rfl rfl rfl rfl rfl rfl rfl ⟨rfl, rfl, rfl, rfl, rfl⟩ rfl rfl rfl rfl rfl (by kernel_rfl) Try.func5 (by kernel_rfl)
    (of_decide_eq_true (by kernel_rfl)) (by unfold Func.isWrapper; first | (rw [if_pos (by decide +kernel)]; kernel_rfl) | (rw [if_neg (by decide +kernel)]; exact ⟨rfl, rfl⟩))
    (fun os started H enc _ => lifted os started H enc)

/-- The statement. -/
theorem proved : Rows.FnFramesSaid := over
#print axioms proved
end Go.Proofs.Ytodbpbgpfacgcaa.fnFrames
