/- The Go law FnFirstFrame returns true for all arguments and leaves its arguments as they were. Conditions: none. The frame follows the kit's shell; the walk is mine. -/
import Derived.Test.YtodbpbgpfacgcaaRows
import Derived.WalkKit
import Derived.ProofKit
import Derived.OpenShut
import Derived.Test.YtodbpbgpfacgcaaOpenCode
import Derived.Test.YtodbpbgpfacgcaaDrawFr
import Derived.Deep.RegionHeld3
import Derived.ShutString
import Derived.ChangeOld
import Derived.Below
namespace Go.Proofs.Ytodbpbgpfacgcaa.fnFirstFrame
open Go.ChangeShapes Go.WideShapes Go.ChangeAt Go.RowKit
open Go.ChangeMaps (open_string shut_string)
set_option linter.unusedVariables false
set_option linter.unusedSimpArgs false

theorem walk (a0 : Option Addr) (len0 cap0 : Nat) (w : World) (w0 : Code w.heap.size w a0 len0) :
    Calls Try.prog 3 #[.slice a0 len0 cap0] w fun e w' => e = .returned (.bool true) ∧ Below w.heap.size w w' := by
  by_cases hbig : (1048576 : Int) < len0
  · go_enter Try.func3, Try.ntmps3
    go_wp2_with (go_at_call 13; refine (big_any _ _ _ _).mono ?_; rintro e w' ⟨rfl, rfl⟩)
    go_ret
    exact ⟨rfl, Below.refl _ _⟩
  go_enter Try.func3, Try.ntmps3
  go_wp2_with (go_at_call 13; refine (big_any _ _ _ _).mono ?_; rintro e w' ⟨rfl, rfl⟩)
  refine (drawFrames_any _ _ _ _ (by omega) w0).mono ?_
  rintro e w1 ⟨v1, f, rfl, hf, ok, h5, k1⟩
  have hs := sm_small ok
  have hu := ok.used
  have hul : f.used.length ≤ 5 := by omega
  have hokB := framesOk_iff.2 ok
  obtain ⟨b1, d1, b2, d2, rfl, hf⟩ := hf.slices
  clear ok hu w0 h5
  go_wp2_with fail
  refine (frameTake_any _ _ (hf.keep ((Chg.refl 0 0 w1).alloc _)) hs).mono ?_
  rintro e w2 ⟨v2, rfl, h2, k2⟩
  have bF := (Blk.new w1 27 #[.slice b1 f.cells.length d1, .slice b2 f.used.length d2]).keep k2
  have q2 : Keep w w2 := (k1.alloc _).keep k2
  have z2 := k2.size
  rw [size_alloc] at h2 z2
  replace hf := hf.keep (Chg.keep ((Chg.refl 0 0 w1).alloc _) k2)
  generalize hD : takeD f = fd at *
  generalize hI : takeI f = ti at *
  generalize hO : takeOk f = to at *
  obtain ⟨c1, e1, c2, e2, rfl, h2⟩ := h2.slices
  have cF0 := bF.cell 0
  have cF1 := bF.cell 1
  have lF := bF.lt
  have hx := h2.keep ((Chg.refl 0 0 w2).alloc (.cells #[.slice c1 fd.cells.length e1, .slice c2 fd.used.length e2] 27 (0, 0)))
  have hfw := hf.keep ((Chg.refl 0 0 w2).alloc (.cells #[.slice c1 fd.cells.length e1, .slice c2 fd.used.length e2] 27 (0, 0)))
  have HX := Lib.hid hx
  have HFW := Lib.hid hfw
  have HD := Lib.hid hD
  have HI := Lib.hid hI
  have HO := Lib.hid hO
  clear hD hI hO hx hfw h2 hf bF k2 k1
  go_wp2_with fail
  go_loop [7] (fun i => ∃ k : Nat, k ≤ f.used.length ∧ i = .int .i64 k ∧ ∀ j, j < k → f.used.getD j false = true) (fun i => f.used.length - (intOf i).toNat)
  case atStart => exact ⟨0, Nat.zero_le _, rfl, fun j hj => by omega⟩
  case round =>
    obtain ⟨k, hk, rfl, hall⟩ := hrel
    have HALL := Lib.hid hall
    clear hall
    by_cases hlt : k < f.used.length
    · obtain ⟨g, rfl, _, _, lg, cu, _⟩ := HFW.out.usedAt k hlt
      cases hu : f.used.getD k false
      · rw [hu] at cu
        obtain ⟨t1, t2, t3⟩ := take_yes hokB hlt hu HALL.out
        obtain rfl : to = true := HO.out.symm.trans t1
        obtain rfl : ti = (k : Int) := HI.out.symm.trans t3
        obtain rfl : fd = ⟨f.cells, f.used.set k true⟩ := HD.out.symm.trans t2
        clear t1 t2 t3
        have hle : (f.used.set k true).length = f.used.length := List.length_set ..
        have hgd : (f.used.set k true).getD k false = true := getD_set_eq _ _ _ _ hlt
        obtain ⟨g2, rfl, _, _, lg2, cx, _⟩ := HX.out.usedAt k (by show k < (f.used.set k true).length; rw [hle]; exact hlt)
        rw [show ((⟨f.cells, f.used.set k true⟩ : FrD).used.getD k false) = true from hgd] at cx
        clear hgd
        simp only [List.length_set] at cu cx
        go_wp2_with fail
        go_ret
        exact ⟨rfl, Keep.below (q2.alloc _)⟩
      · rw [hu] at cu
        have HA := Lib.hid (show ∀ j, j < k + 1 → f.used.getD j false = true from fun j hj => by
          by_cases e : j = k
          · subst e; exact hu
          · exact HALL.out j (by omega))
        go_wp2_with fail
        go_round
        case rel => exact ⟨k + 1, by omega, by go_num, HA.out⟩
        case measure => simp [intOf]; omega
    · obtain rfl : k = f.used.length := by omega
      have hno := takeOk_no2 HALL.out
      obtain ⟨t2, t3⟩ := takeD_no hno
      obtain rfl : to = false := HO.out.symm.trans hno
      obtain rfl : ti = -1 := HI.out.symm.trans t3
      obtain rfl : fd = f := HD.out.symm.trans t2
      have HU := Lib.hid (show usedD fd = (fd.used.length : Nat) by rw [usedD_ok hokB]; exact congrArg _ (cntU_all HALL.out))
      clear hno t2 t3
      go_wp2_with fail
      go_region_held3 (fun z => z.cell? ⟨w1.heap.size, 0, none⟩ = some (.slice b1 fd.cells.length d1) ∧ z.cell? ⟨w1.heap.size, 1, none⟩ = some (.slice b2 fd.used.length d2)) (first | go_keep | exact ⟨(Keep.grown kr none).cell cF0 (by simp), (Keep.grown kr none).cell cF1 (by simp)⟩) (first | (go_at_call 16; refine (usedFrames_any _ _ (HFW.out.keep ((Chg.refl 0 0 _).drew)) hs).mono ?_; rw [HU.out]; rintro e w3 ⟨rfl, k3⟩; have kr : Keep w2 w3 := (((Chg.refl 0 0 w2).alloc _).drew).keep k3))
      all_goals
        go_wp2_with fail
        go_ret
        exact ⟨rfl, Keep.below (q2.keep kr)⟩

theorem own : ownKnob Try.prog.godebug = none := by kernel_rfl
theorem laidOut : laidOutB Try.prog = true := by kernel_rfl
set_option maxRecDepth 100000 in
theorem lifted (os : Os) (started : os.Started) (H : Type) (enc : TypeId × Value → H) :
    ReturnsInHanded {} Try.checked os 3 .any (Rows.fnFirstFrameSpec.pre6 enc Try.prog Try.f3 Rows.fnFirstFrameRow.domain false) (Rows.fnFirstFrameSpec.post enc Try.prog Try.f3 false true false false) := by
  refine returnsInHanded_of_change (C := Try.checked) own started (by kernel_rfl) Try.func3
    (ChangeSpec.witness6 (enc := enc) (C := Try.checked) false ⟨#[], #[.slice none 0 0], []⟩ 8 (by kernel_rfl) (by kernel_rfl) (by kernel_rfl) (by kernel_rfl)) ?_
  intro W base args ds gs before hval0 hW hcnd _
  have hval : ∀ (j : Nat) t v, Try.f3.params[j]? = some t → args[j]? = some v → Value.okWide Try.prog W .any base t v := hval0
  have hW' := hW
  obtain ⟨p, q, hA0, hV, rfl, hfz, hnd⟩ := hW
  have hA : DataW.TrodAll enc Try.prog W 0 (fun _ => true) true Try.f3.params.toList args.toList ds p := hA0
  rw [Try.params3] at hA hval
  obtain ⟨v0, vs0, d0, ds0, p0, q0, hargs, rfl, rfl, h0, r0⟩ := trodAll_cons hA
  obtain ⟨rfl, rfl, rfl⟩ := trodAll_nil r0
  obtain rfl : args = #[v0] := by cases args; simp_all
  obtain ⟨rfl, rfl⟩ := trodVars_none hV
  have k0 := h0
  have lt0 : ∀ x ∈ p0, x.block < W.heap.size := by obtain ⟨m, hm⟩ := k0; exact DataW.trod_lt m _ _ _ hm
  obtain ⟨a0, len0, cap0, rfl⟩ := okWide_slice Try.underlying22 (hval 0 22 v0 rfl rfl)
  have w0 : Code W.heap.size W a0 len0 := open_code h0
  clear hA0 hval0
  refine (walk a0 len0 cap0 W w0).mono fun e W' ⟨he, bel⟩ => ?_
  subst he
  exact ⟨_, rfl, _, _, _, [], _, [], hW', trodAll_mk1 (shut_bool Try.underlying4 _), (trodAll_cons_mk (Below.trod laidOut (by kernel_rfl) (of_decide_eq_true (by kernel_rfl)) k0 bel lt0) trodAll_mk0), rfl, bel.frame _, fun h => by cases h⟩

theorem over : Rows.fnFirstFrameRow.holds Try.pinned (OpenSpec.ofChange Rows.fnFirstFrameSpec) :=
  OpenClaim.holds_of_wide 3 Try.f3 rfl rfl rfl rfl rfl rfl rfl ⟨rfl, rfl, rfl, rfl, rfl⟩ rfl rfl rfl rfl rfl (by kernel_rfl) Try.func3 (by kernel_rfl)
    (of_decide_eq_true (by kernel_rfl)) (by unfold Func.isWrapper; first | (rw [if_pos (by decide +kernel)]; kernel_rfl) | (rw [if_neg (by decide +kernel)]; exact ⟨rfl, rfl⟩))
    (fun os started H enc _ => lifted os started H enc)

/-- The statement. -/
theorem proved : Rows.FnFirstFrameSaid := over
#print axioms proved
end Go.Proofs.Ytodbpbgpfacgcaa.fnFirstFrame
