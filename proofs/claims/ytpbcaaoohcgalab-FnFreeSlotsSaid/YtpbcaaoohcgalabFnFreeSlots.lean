/- The Go law FnFreeSlots returns true for all arguments and leaves its arguments as they were. Conditions: none. The frame follows the kit's shell; the walk is mine. -/
import Derived.Test.YtpbcaaoohcgalabRows
import Derived.WalkKit
import Derived.ProofKit
import Derived.OpenShut
import Derived.Test.YtpbcaaoohcgalabBits
import Derived.Test.YtpbcaaoohcgalabOpenCode
import Derived.IntWalk
import Derived.ShutString
import Derived.ChangeOld
import Derived.Below
namespace Go.Proofs.Ytpbcaaoohcgalab.fnFreeSlots
open Go.ChangeShapes Go.WideShapes Go.ChangeAt Go.RowKit
open Go.ChangeMaps (open_string shut_string)
set_option linter.unusedVariables false
set_option linter.unusedSimpArgs false

/-- The t-th free slot. -/
def FrInv (b : Int) (m : Nat) (l : List Int) : Prop := ∀ t, t < l.length → 0 ≤ l.getD t 0 ∧ l.getD t 0 < m ∧ hasB b (l.getD t 0) = false ∧ (0 < t → l.getD (t - 1) 0 < l.getD t 0)
theorem getD_app1 (l : List Int) (x : Int) (t : Nat) (h : t < l.length) : (l ++ [x]).getD t 0 = l.getD t 0 := by
  simp [List.getD, List.getElem?_append, h]
theorem getD_app2 (l : List Int) (x : Int) : (l ++ [x]).getD l.length 0 = x := by simp [List.getD]
theorem frInv (b : Int) (m : Nat) : FrInv b m (freeTo b m) := by
  induction m with
  | zero => intro t ht; simp [freeTo] at ht
  | succ m ih =>
    unfold freeTo
    cases h : hasB b m
    · simp only [Bool.false_eq_true, if_false]
      intro t ht
      by_cases e : t = (freeTo b m).length
      · subst e
        rw [getD_app2]
        refine ⟨by omega, by omega, h, fun h0 => ?_⟩
        rw [getD_app1 _ _ _ (by omega)]
        exact (ih _ (by omega)).2.1
      · have ht' : t < (freeTo b m).length := by simp at ht; omega
        rw [getD_app1 _ _ _ ht']
        obtain ⟨h1, h2, h3, h4⟩ := ih t ht'
        refine ⟨h1, by omega, h3, fun h0 => ?_⟩
        rw [getD_app1 _ _ _ (by omega)]
        exact h4 h0
    · simp only [if_true, List.append_nil]
      intro t ht
      obtain ⟨h1, h2, h3, h4⟩ := ih t ht
      exact ⟨h1, by omega, h3, h4⟩
theorem cnt_all {a n : Nat} (hn : n ≤ 16) (ha : a < 2 ^ n) : cntTo (a : Int) 16 = cntTo (a : Int) n := by
  have hp := pow_small n hn
  have : ∀ m : Nat, m ≤ 16 → n ≤ m → cntTo (a : Int) m = cntTo (a : Int) n := by
    intro m
    induction m with
    | zero => intro _ h; rw [show n = 0 by omega]
    | succ m ih =>
      intro h1 h2
      by_cases e : n = m + 1
      · rw [e]
      · rw [cntTo, ih (by omega) (by omega), hasB_nat a m (by omega) (by omega)]
        have : a < 2 ^ m := Nat.lt_of_lt_of_le ha (Nat.pow_le_pow_right (by omega) (by omega))
        rw [Nat.testBit_lt_two_pow this]
        simp
  exact this 16 (by omega) (by omega)
theorem hasSlot_no {b x : Int} (h : hasB b x = false) (w : World) : Calls Try.prog 17 #[.int .i64 b, .int .i64 x] w fun e w' => e = .returned (.bool false) ∧ w = w' := by
  have := hasSlot_any b x w
  rw [h] at this
  exact this
theorem fmt45 : fmtD 4 5 = [120, 46, 120, 46] := by decide +kernel
theorem walk (a0 : Option Addr) (len0 cap0 : Nat) (w : World) (w0 : Code w.heap.size w a0 len0) :
    Calls Try.prog 6 #[.slice a0 len0 cap0] w fun e w' => e = .returned (.bool true) ∧ Below w.heap.size w w' := by
  by_cases hbig : (1048576 : Int) < len0
  · go_enter Try.func6, Try.ntmps6
    go_wp2_with (go_at_call 12; refine (big_any _ _ _ _).mono ?_; rintro e w' ⟨rfl, rfl⟩)
    go_ret
    exact ⟨rfl, Below.refl _ _⟩
  go_enter Try.func6, Try.ntmps6
  go_wp2_with (go_at_call 12; refine (big_any _ _ _ _).mono ?_; rintro e w' ⟨rfl, rfl⟩)
  refine (drawBitmap_any _ _ _ _ (by omega) w0).mono ?_
  rintro e w1 ⟨n, a, _, hn1, hn2, ha, rfl, k1⟩
  clear w0
  have hp := pow_small n hn2
  have hbm : bmOkB n a = true := by
    unfold bmOkB
    rw [btw_true (by omega) (by omega), Int.toNat_natCast, btw_true (by omega) ?_]
    · rfl
    · have e : ((2 ^ n : Nat) : Int) = 2 ^ n := by simp
      omega
  have hfd : freeD n a = freeTo a n := by unfold freeD; rw [if_pos hbm, Int.toNat_natCast]
  have hfm : fmtD n a = fmtTo a n := by unfold fmtD; rw [if_pos hbm, Int.toNat_natCast]
  have hlen := freeTo_len (a : Int) n
  have hcnt := freeTo_add (a : Int) n
  have hall := cnt_all hn2 ha
  have hinv := frInv (a : Int) n
  have hfl := fmtTo_len (a : Int) n
  go_wp2_with fail
  refine (freeSlots_any _ _ _).mono ?_
  rw [hfd]
  rintro e w2 ⟨v2, rfl, h2, k2⟩
  have k12 := k1.keep k2
  clear hfd k1 hbm
  generalize freeTo (a : Int) n = l at *
  go_wp2_with fail
  refine (formatBitmap_any _ _ _).mono ?_
  rw [hfm]
  rintro e w3 ⟨rfl, k3⟩
  clear hfm
  generalize fmtTo (a : Int) n = f at *
  have k13 := k12.keep k3
  replace h2 := h2.keep k3
  obtain ⟨ao, c, rfl, hc, hf⟩ := h2.opened
  have HI := Lib.hid hinv
  have HF := Lib.hid hf
  have HC := Lib.hid hcnt
  have HA := Lib.hid hall
  have HL := Lib.hid hfl
  clear hinv hf hcnt hall hfl h2
  go_wp2_with fail
  go_loopw [8] (fun v wr => ∃ k : Nat, k ≤ l.length ∧ v = .int .i64 k ∧ Keep w3 wr) (fun v _ => l.length - (intOf v).toNat)
  case atStart => exact ⟨0, Nat.zero_le _, rfl, Chg.refl _ _ _⟩
  case round =>
    obtain ⟨k, hk, rfl, hgr⟩ := hrel
    by_cases hlt : k < l.length
    · obtain ⟨x0, x1, x2, x3⟩ := HI.out k hlt
      obtain ⟨g, rfl, _, _, _, c1, _⟩ := HF.out k hlt
      have d1 := (hgr.grown none).cell c1 (by simp)
      clear c1
      by_cases hk0 : (0 : Int) < k
      · obtain ⟨g', e', _, _, _, c2, _⟩ := HF.out (k - 1) (by omega)
        simp only [Option.some.injEq, Addr.mk.injEq, and_true] at e'
        subst e'
        have d2 := (hgr.grown none).cell c2 (by simp)
        have x4 := x3 (by omega)
        clear c2 x3
        generalize l.getD k 0 = x at *
        generalize l.getD (k - 1) 0 = y at *
        have q1 := IntWalk.i64_in ((k : Int) - 1) (by omega)
        have q2 : 0 ≤ (k : Int) - 1 := by omega
        have q3 : ((k : Int) - 1).toNat = k - 1 := by omega
        have q4 : (k : Int) - 1 < l.length := by omega
        have q5 : 1 ≤ (k : Int) := by omega
        have b1 : decide (x ≤ y) = false := by simp; omega
        have b2 : decide (x < 0) = false := by simp; omega
        have b3 : decide ((n : Int) ≤ x) = false := by simp; omega
        have b4 : decide (0 < k) = true := decide_eq_true (by omega)
        go_wp2_with fail
        go_quiet ((go_at_call 17; exact quiet_left (hasSlot_no x2 _)))
        (try clear q1); (try clear q3)
        go_wp2_with fail
        go_roundw
        case rel => exact ⟨k + 1, by omega, by go_num, hgr.drewN _⟩
        case measure => simp [intOf]; omega
      · clear x3
        generalize l.getD k 0 = x at *
        have b2 : decide (x < 0) = false := by simp; omega
        have b3 : decide ((n : Int) ≤ x) = false := by simp; omega
        have b4 : decide (0 < k) = false := decide_eq_false (by omega)
        go_wp2_with fail
        go_quiet ((go_at_call 17; exact quiet_left (hasSlot_no x2 _)))
        go_wp2_with fail
        go_roundw
        case rel => exact ⟨k + 1, by omega, by go_num, hgr.drewN _⟩
        case measure => simp [intOf]; omega
    · obtain rfl : l.length = k := by omega
      have cb := cntTo_bd (a : Int) 16
      have hx1 : (((l.length : Int) + cntTo (a : Int) 16) == (n : Int)) = true := by rw [beq_iff_eq, HA.out]; exact HC.out
      have hx2 : ((l.length : Int) + cntTo (a : Int) 16) = (n : Int) := by rw [HA.out]; exact HC.out
      have hx3 : f.length = n := HL.out
      have h45 := fmt45
      go_wp2_with (first | (go_at_call 18; refine (countSlots_any _ _).mono ?_; rintro e w' ⟨rfl, rfl⟩) | (go_at_call 26; refine (formatBitmap_any _ _ _).mono ?_; rintro e w5 ⟨rfl, k5⟩))
      go_ret
      exact ⟨rfl, Keep.below ((k13.keep hgr).keep k5)⟩

theorem own : ownKnob Try.prog.godebug = none := by kernel_rfl
theorem laidOut : laidOutB Try.prog = true := by kernel_rfl
set_option maxRecDepth 100000 in
theorem lifted (os : Os) (started : os.Started) (H : Type) (enc : TypeId × Value → H) :
    ReturnsInHanded {} Try.checked os 6 .any (Rows.fnFreeSlotsSpec.pre6 enc Try.prog Try.f6 Rows.fnFreeSlotsRow.domain false) (Rows.fnFreeSlotsSpec.post enc Try.prog Try.f6 false true false false) := by
  refine returnsInHanded_of_change (C := Try.checked) own started (by kernel_rfl) Try.func6
    (ChangeSpec.witness6 (enc := enc) (C := Try.checked) false ⟨#[], #[.slice none 0 0], []⟩ 8 (by kernel_rfl) (by kernel_rfl) (by kernel_rfl) (by kernel_rfl)) ?_
  intro W base args ds gs before hval0 hW hcnd _
  have hval : ∀ (j : Nat) t v, Try.f6.params[j]? = some t → args[j]? = some v → Value.okWide Try.prog W .any base t v := hval0
  have hW' := hW
  obtain ⟨p, q, hA0, hV, rfl, hfz, hnd⟩ := hW
  have hA : DataW.TrodAll enc Try.prog W 0 (fun _ => true) true Try.f6.params.toList args.toList ds p := hA0
  rw [Try.params6] at hA hval
  obtain ⟨v0, vs0, d0, ds0, p0, q0, hargs, rfl, rfl, h0, r0⟩ := trodAll_cons hA
  obtain ⟨rfl, rfl, rfl⟩ := trodAll_nil r0
  obtain rfl : args = #[v0] := by cases args; simp_all
  obtain ⟨rfl, rfl⟩ := trodVars_none hV
  have k0 := h0
  have lt0 : ∀ x ∈ p0, x.block < W.heap.size := by obtain ⟨m, hm⟩ := k0; exact DataW.trod_lt m _ _ _ hm
  obtain ⟨a0, len0, cap0, rfl⟩ := okWide_slice Try.underlying28 (hval 0 28 v0 rfl rfl)
  have w0 : Code W.heap.size W a0 len0 := open_code h0
  clear hA0 hval0
  refine (walk a0 len0 cap0 W w0).mono fun e W' ⟨he, bel⟩ => ?_
  subst he
  exact ⟨_, rfl, _, _, _, [], _, [], hW', trodAll_mk1 (shut_bool Try.underlying4 _), (trodAll_cons_mk (Below.trod laidOut (by kernel_rfl) (of_decide_eq_true (by kernel_rfl)) k0 bel lt0) trodAll_mk0), rfl, bel.frame _, fun h => by cases h⟩

theorem over : Rows.fnFreeSlotsRow.holds Try.pinned (OpenSpec.ofChange Rows.fnFreeSlotsSpec) :=
  OpenClaim.holds_of_wide 6 Try.f6 rfl rfl rfl rfl rfl rfl rfl ⟨rfl, rfl, rfl, rfl, rfl⟩ rfl rfl rfl rfl rfl (by kernel_rfl) Try.func6 (by kernel_rfl)
    (of_decide_eq_true (by kernel_rfl)) (by unfold Func.isWrapper; first | (rw [if_pos (by decide +kernel)]; kernel_rfl) | (rw [if_neg (by decide +kernel)]; exact ⟨rfl, rfl⟩))
    (fun os started H enc _ => lifted os started H enc)

/-- The statement. -/
theorem proved : Rows.FnFreeSlotsSaid := over
#print axioms proved
end Go.Proofs.Ytpbcaaoohcgalab.fnFreeSlots
