/- The Go law FnSlots returns true for all arguments and leaves its arguments as they were. Conditions: none. The frame follows the kit's shell; the walk is mine. -/
import Derived.Test.YtpbcaaoohcgalabRows
import Derived.WalkKit
import Derived.ProofKit
import Derived.OpenShut
import Derived.Test.YtpbcaaoohcgalabBits
import Derived.Test.YtpbcaaoohcgalabOpenCode
import Derived.ShutString
import Derived.ChangeOld
import Derived.Below
namespace Go.Proofs.Ytpbcaaoohcgalab.fnSlots
open Go.ChangeShapes Go.WideShapes Go.ChangeAt Go.RowKit
open Go.ChangeMaps (open_string shut_string)
set_option linter.unusedVariables false
set_option linter.unusedSimpArgs false

theorem walk (a0 : Option Addr) (len0 cap0 : Nat) (w : World) (w0 : Code w.heap.size w a0 len0) :
    Calls Try.prog 4 #[.slice a0 len0 cap0] w fun e w' => e = .returned (.bool true) ∧ Below w.heap.size w w' := by
  by_cases hbig : (1048576 : Int) < len0
  · go_enter Try.func4, Try.ntmps4
    go_wp2_with (go_at_call 12; refine (big_any _ _ _ _).mono ?_; rintro e w' ⟨rfl, rfl⟩)
    go_ret
    exact ⟨rfl, Below.refl _ _⟩
  go_enter Try.func4, Try.ntmps4
  go_wp2_with (go_at_call 12; refine (big_any _ _ _ _).mono ?_; rintro e w' ⟨rfl, rfl⟩)
  refine (drawBitmap_any _ _ _ _ (by omega) w0).mono ?_
  rintro e w1 ⟨n, a, _, hn1, hn2, ha, rfl, k1⟩
  have w1' := w0.keep k1
  clear w0
  go_wp2_with fail
  refine (places_any _ _ _ _ (by omega) w1').mono ?_
  rintro e w2 ⟨g, c, p, rfl, hc, hg, hgs, hp, hb⟩
  obtain ⟨p00, p01, c0⟩ := hp 0 (by decide)
  clear hp w1'
  have k2 := k1.keep (Keep.of_below hb)
  generalize p 0 = p0 at *
  have hz : (n : Int) ≠ 0 := by omega
  have hi0 := Int.emod_nonneg p0 hz
  have hi1 := Int.emod_lt_of_pos p0 (show (0 : Int) < n by omega)
  go_wp2_with fail
  generalize p0 % (n : Int) = i at *
  obtain ⟨i, rfl⟩ : ∃ j : Nat, i = j := ⟨i.toNat, by omega⟩
  obtain ⟨f1, f2, f3, f4, f5⟩ := slots_facts (a := a) (n := n) (i := i) hn2 ha (by omega)
  refine (withSlot_any _ _ _).mono ?_
  rintro e w' ⟨rfl, rfl⟩
  go_wp2_with fail
  refine (withoutSlot_any _ _ _).mono ?_
  rintro e w' ⟨rfl, rfl⟩
  generalize withZ (a : Int) (i : Int) = x at *
  generalize withoutZ (a : Int) (i : Int) = y at *
  have cb := cntTo_bd y 16
  have HF := Lib.hid f1
  have H2 := Lib.hid f2
  have H3 := Lib.hid f3
  have H4 := Lib.hid f4
  have H5 := Lib.hid f5
  clear f1 f2 f3 f4 f5 c0
  go_wp2_with fail
  go_loop [10] (fun v => ∃ k : Nat, k ≤ n ∧ v = .int .i64 k) (fun v => n - (intOf v).toNat)
  case atStart => exact ⟨0, Nat.zero_le _, rfl⟩
  case round =>
    obtain ⟨k, hk, rfl⟩ := hrel
    by_cases hlt : k < n
    · by_cases e : k = i
      · subst e
        go_wp2_with fail
        go_round
        case rel => exact ⟨k + 1, by omega, by go_num⟩
        case measure => simp [intOf]; omega
      · obtain ⟨g1, g2⟩ := HF.out k (by omega) e
        have e1 : ((k : Int) != (i : Int)) = true := by rw [bne_iff_ne]; omega
        have e2 : ((k : Int) == (i : Int)) = false := by rw [beq_eq_false_iff_ne]; omega
        have e3 : (k != i) = true := by rw [bne_iff_ne]; omega
        have e4 : (k == i) = false := by rw [beq_eq_false_iff_ne]; omega
        go_wp2_with (go_at_call 17; refine (hasSlot_any _ _ _).mono ?_; rintro e w' ⟨rfl, rfl⟩)
        go_round
        case rel => exact ⟨k + 1, by omega, by go_num⟩
        case measure => simp [intOf]; omega
    · have f2 := H2.out
      have f3 := H3.out
      have f4 := H4.out
      have f5 := H5.out
      go_wp2_with (first | (go_at_call 17; refine (hasSlot_any _ _ _).mono ?_; rintro e w' ⟨rfl, rfl⟩) | (go_at_call 18; refine (countSlots_any _ _).mono ?_; rintro e w' ⟨rfl, rfl⟩) | (go_at_call 19; refine (bitmapOk_any _ _ _).mono ?_; rintro e w' ⟨rfl, rfl⟩))
      go_ret
      exact ⟨rfl, Keep.below k2⟩

theorem own : ownKnob Try.prog.godebug = none := by kernel_rfl
theorem laidOut : laidOutB Try.prog = true := by kernel_rfl
set_option maxRecDepth 100000 in
theorem lifted (os : Os) (started : os.Started) (H : Type) (enc : TypeId × Value → H) :
    ReturnsInHanded {} Try.checked os 4 .any (Rows.fnSlotsSpec.pre6 enc Try.prog Try.f4 Rows.fnSlotsRow.domain false) (Rows.fnSlotsSpec.post enc Try.prog Try.f4 false true false false) := by
  refine returnsInHanded_of_change (C := Try.checked) own started (by kernel_rfl) Try.func4
    (ChangeSpec.witness6 (enc := enc) (C := Try.checked) false ⟨#[], #[.slice none 0 0], []⟩ 8 (by kernel_rfl) (by kernel_rfl) (by kernel_rfl) (by kernel_rfl)) ?_
  intro W base args ds gs before hval0 hW hcnd _
  have hval : ∀ (j : Nat) t v, Try.f4.params[j]? = some t → args[j]? = some v → Value.okWide Try.prog W .any base t v := hval0
  have hW' := hW
  obtain ⟨p, q, hA0, hV, rfl, hfz, hnd⟩ := hW
  have hA : DataW.TrodAll enc Try.prog W 0 (fun _ => true) true Try.f4.params.toList args.toList ds p := hA0
  rw [Try.params4] at hA hval
  obtain ⟨v0, vs0, d0, ds0, p0, q0, hargs, rfl, rfl, h0, r0⟩ := trodAll_cons hA
  obtain ⟨rfl, rfl, rfl⟩ := trodAll_nil r0
  obtain rfl : args = #[v0] := by cases args; simp_all
  obtain ⟨rfl, rfl⟩ := trodVars_none hV
  have k0 := h0
  have lt0 : ∀ x ∈ p0, x.block < W.heap.size := by obtain ⟨m, hm⟩ := k0; exact DataW.trod_lt m _ _ _ hm
  obtain ⟨a0, len0, cap0, rfl⟩ := okWide_slice Try.underlying28 (hval 0 28 v0 rfl rfl)
  have w0 : Code W.heap.size W a0 len0 := open_code h0
  clear hA0 hval0
  refine (walk a0 len0 cap0 W w0).mono fun e W' ⟨he, bel⟩ => ?_
  subst he
  exact ⟨_, rfl, _, _, _, [], _, [], hW', trodAll_mk1 (shut_bool Try.underlying4 _), (trodAll_cons_mk (Below.trod laidOut (by kernel_rfl) (of_decide_eq_true (by kernel_rfl)) k0 bel lt0) trodAll_mk0), rfl, bel.frame _, fun h => by cases h⟩

theorem over : Rows.fnSlotsRow.holds Try.pinned (OpenSpec.ofChange Rows.fnSlotsSpec) :=
  OpenClaim.holds_of_wide 4 Try.f4 rfl rfl rfl rfl rfl rfl rfl ⟨rfl, rfl, rfl, rfl, rfl⟩ rfl rfl rfl rfl rfl (by kernel_rfl) Try.func4 (by kernel_rfl)
    (of_decide_eq_true (by kernel_rfl)) (by unfold Func.isWrapper; first | (rw [if_pos (by decide +kernel)]; kernel_rfl) | (rw [if_neg (by decide +kernel)]; exact ⟨rfl, rfl⟩))
    (fun os started H enc _ => lifted os started H enc)

/-- The statement. -/
theorem proved : Rows.FnSlotsSaid := over
#print axioms proved
end Go.Proofs.Ytpbcaaoohcgalab.fnSlots
