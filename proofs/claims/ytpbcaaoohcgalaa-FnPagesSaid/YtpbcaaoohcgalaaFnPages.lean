/- The Go law FnPages returns true for all arguments and leaves its arguments as they were. Conditions: none. The frame follows the kit's shell; the walk is mine. -/
import Derived.Test.YtpbcaaoohcgalaaRows
import Derived.WalkKit
import Derived.ProofKit
import Derived.OpenShut
import Derived.Test.YtpbcaaoohcgalaaOpenCode
import Derived.Test.YtpbcaaoohcgalaaDraw
import Derived.ShutString
import Derived.ChangeOld
import Derived.Below
namespace Go.Proofs.Ytpbcaaoohcgalaa.fnPages
open Go.ChangeShapes Go.WideShapes Go.ChangeAt Go.RowKit
open Go.ChangeMaps (open_string shut_string)
set_option linter.unusedVariables false
set_option linter.unusedSimpArgs false

theorem pages_facts {s : Int} (h1 : 1 ≤ s) (h2 : s ≤ 1000) : (s ≤ 8 → pagesZ s = 0 ∧ 0 ≤ classZ s) ∧ (8 < s → s ≤ pagesZ s * 16 ∧ (pagesZ s - 1) * 16 < s ∧ 0 ≤ pagesZ s ∧ pagesZ s ≤ 100 ∧ classZ s = -1) := by
  constructor
  · intro h
    constructor
    · unfold pagesZ; rw [btw_false (by omega)]; rfl
    · unfold classZ; rw [btw_true (by omega) (by omega)]; simp; split
      · omega
      · split
        · omega
        · split <;> omega
  · intro h
    have e : pagesZ s = (s + 15) / 16 := by unfold pagesZ; rw [btw_true (by omega) (by omega)]; rfl
    have e2 : classZ s = -1 := by unfold classZ; rw [btw_false (by omega)]; rfl
    rw [e, e2]; omega
theorem walk (a0 : Option Addr) (len0 cap0 : Nat) (w : World) (w0 : Code w.heap.size w a0 len0) :
    Calls Try.prog 12 #[.slice a0 len0 cap0] w fun e w' => e = .returned (.bool true) ∧ Below w.heap.size w w' := by
  by_cases hbig : (1048576 : Int) < len0
  · go_enter Try.func12, Try.ntmps12
    go_wp2_with (go_at_call 27; refine (big_any _ _ _ _).mono ?_; rintro e w' ⟨rfl, rfl⟩)
    go_ret
    exact ⟨rfl, Below.refl _ _⟩
  have hcode := w0
  clear w0
  go_enter Try.func12, Try.ntmps12
  have hn0 : pagesZ 17 = 2 := by decide
  go_wp2_with (first | (go_at_call 27; refine (big_any _ _ _ _).mono ?_; rintro e w' ⟨rfl, rfl⟩) | (go_at_call 28; refine (places_any _ _ _ _ (by omega) hcode).mono ?_; rintro e w1 ⟨g, c, p, rfl, hc, hg, hgs, hp, hb⟩; clear hcode; obtain ⟨p00, p01, c0⟩ := hp 0 (by decide); clear hp))
  have hf := pages_facts (s := 1 + p 0 % 1000) (by omega) (by omega)
  by_cases h8 : 1 + p 0 % 1000 ≤ 8
  · obtain ⟨f1, f2⟩ := hf.1 h8
    clear hf
    go_wp2_with (first | (go_at_call 37; refine (pagesFor_any _ _).mono ?_; rintro e w' ⟨rfl, rfl⟩) | (go_at_call 38; refine (classOf_any _ _).mono ?_; rintro e w' ⟨rfl, rfl⟩))
    go_ret
    exact ⟨rfl, hb⟩
  · obtain ⟨f1, f2, f3, f4, f5⟩ := hf.2 (by omega)
    clear hf
    go_wp2_with (first | (go_at_call 37; refine (pagesFor_any _ _).mono ?_; rintro e w' ⟨rfl, rfl⟩) | (go_at_call 38; refine (classOf_any _ _).mono ?_; rintro e w' ⟨rfl, rfl⟩))
    go_ret
    exact ⟨rfl, hb⟩

theorem own : ownKnob Try.prog.godebug = none := by kernel_rfl
theorem laidOut : laidOutB Try.prog = true := by kernel_rfl
set_option maxRecDepth 100000 in
theorem lifted (os : Os) (started : os.Started) (H : Type) (enc : TypeId × Value → H) :
    ReturnsInHanded {} Try.checked os 12 .any (Rows.fnPagesSpec.pre6 enc Try.prog Try.f12 Rows.fnPagesRow.domain false) (Rows.fnPagesSpec.post enc Try.prog Try.f12 false true false false) := by
  refine returnsInHanded_of_change (C := Try.checked) own started (by kernel_rfl) Try.func12
    (ChangeSpec.witness6 (enc := enc) (C := Try.checked) false ⟨#[], #[.slice none 0 0], []⟩ 8 (by kernel_rfl) (by kernel_rfl) (by kernel_rfl) (by kernel_rfl)) ?_
  intro W base args ds gs before hval0 hW hcnd _
  have hval : ∀ (j : Nat) t v, Try.f12.params[j]? = some t → args[j]? = some v → Value.okWide Try.prog W .any base t v := hval0
  have hW' := hW
  obtain ⟨p, q, hA0, hV, rfl, hfz, hnd⟩ := hW
  have hA : DataW.TrodAll enc Try.prog W 0 (fun _ => true) true Try.f12.params.toList args.toList ds p := hA0
  rw [Try.params12] at hA hval
  obtain ⟨v0, vs0, d0, ds0, p0, q0, hargs, rfl, rfl, h0, r0⟩ := trodAll_cons hA
  obtain ⟨rfl, rfl, rfl⟩ := trodAll_nil r0
  obtain rfl : args = #[v0] := by cases args; simp_all
  obtain ⟨rfl, rfl⟩ := trodVars_none hV
  have k0 := h0
  have lt0 : ∀ x ∈ p0, x.block < W.heap.size := by obtain ⟨m, hm⟩ := k0; exact DataW.trod_lt m _ _ _ hm
  obtain ⟨a0, len0, cap0, rfl⟩ := okWide_slice Try.underlying33 (hval 0 33 v0 rfl rfl)
  have w0 : Code W.heap.size W a0 len0 := open_code h0
  clear hA0 hval0
  refine (walk a0 len0 cap0 W w0).mono fun e W' ⟨he, bel⟩ => ?_
  subst he
  exact ⟨_, rfl, _, _, _, [], _, [], hW', trodAll_mk1 (shut_bool Try.underlying4 _), (trodAll_cons_mk (Below.trod laidOut (by kernel_rfl) (of_decide_eq_true (by kernel_rfl)) k0 bel lt0) trodAll_mk0), rfl, bel.frame _, fun h => by cases h⟩

theorem over : Rows.fnPagesRow.holds Try.pinned (OpenSpec.ofChange Rows.fnPagesSpec) :=
  OpenClaim.holds_of_wide 12 Try.f12 rfl rfl rfl rfl rfl rfl rfl ⟨rfl, rfl, rfl, rfl, rfl⟩ rfl rfl rfl rfl rfl (by kernel_rfl) Try.func12 (by kernel_rfl)
    (of_decide_eq_true (by kernel_rfl)) (by unfold Func.isWrapper; first | (rw [if_pos (by decide +kernel)]; kernel_rfl) | (rw [if_neg (by decide +kernel)]; exact ⟨rfl, rfl⟩))
    (fun os started H enc _ => lifted os started H enc)

/-- The statement. -/
theorem proved : Rows.FnPagesSaid := over
#print axioms proved
end Go.Proofs.Ytpbcaaoohcgalaa.fnPages
