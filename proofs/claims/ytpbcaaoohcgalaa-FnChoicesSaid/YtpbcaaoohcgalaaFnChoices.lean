/- The Go law FnChoices returns true for all arguments and leaves its arguments as they were. Conditions: none. The frame follows the kit's shell; the walk is mine. -/
import Derived.Test.YtpbcaaoohcgalaaRows
import Derived.WalkKit
import Derived.ProofKit
import Derived.OpenShut
import Derived.Test.YtpbcaaoohcgalaaOpenCode
import Derived.Test.YtpbcaaoohcgalaaDraw
import Derived.ShutString
import Derived.ChangeOld
import Derived.Below
namespace Go.Proofs.Ytpbcaaoohcgalaa.fnChoices
open Go.ChangeShapes Go.WideShapes Go.ChangeAt Go.RowKit
open Go.ChangeMaps (open_string shut_string)
set_option linter.unusedVariables false
set_option linter.unusedSimpArgs false

theorem choose_facts {s n : Int} (h0 : 0 ≤ s) (h1 : s < 10000) (h2 : 1 ≤ n) (h3 : n ≤ 50) : 0 ≤ chooseZ s n ∧ chooseZ s n < n ∧ Hid (chooseZ s n = nextZ s / 1024 % n) ∧ chooseS s n = nextZ s := by
  have e1 : chooseZ s n = nextZ s / 1024 % n := by unfold chooseZ; rw [btw_true (by omega) (by omega), btw_true (by omega) (by omega)]; rfl
  have e2 : chooseS s n = nextZ s := by unfold chooseS; rw [btw_true (by omega) (by omega), btw_true (by omega) (by omega)]; rfl
  exact ⟨by rw [e1]; exact Int.emod_nonneg _ (by omega), by rw [e1]; exact Int.emod_lt_of_pos _ (by omega), e1, e2⟩
theorem walk (a0 : Option Addr) (len0 cap0 : Nat) (w : World) (w0 : Code w.heap.size w a0 len0) :
    Calls Try.prog 9 #[.slice a0 len0 cap0] w fun e w' => e = .returned (.bool true) ∧ Below w.heap.size w w' := by
  by_cases hbig : (1048576 : Int) < len0
  · go_enter Try.func9, Try.ntmps9
    go_wp2_with (go_at_call 27; refine (big_any _ _ _ _).mono ?_; rintro e w' ⟨rfl, rfl⟩)
    go_ret
    exact ⟨rfl, Below.refl _ _⟩
  have hcode := w0
  clear w0
  go_enter Try.func9, Try.ntmps9
  have hn0 : nextZ 0 = 12345 := by decide
  go_wp2_with (first | (go_at_call 27; refine (big_any _ _ _ _).mono ?_; rintro e w' ⟨rfl, rfl⟩) | (go_at_call 28; refine (places_any _ _ _ _ (by omega) hcode).mono ?_; rintro e w1 ⟨g, c, p, rfl, hc, hg, hgs, hp, hb⟩; clear hcode; obtain ⟨p00, p01, c0⟩ := hp 0 (by decide); obtain ⟨p10, p11, c1⟩ := hp 1 (by decide); clear hp; have hbd := nextZ_bd (p 1)) | (go_at_call 18; refine (choose_any _ _ _).mono ?_; rintro e w' ⟨rfl, rfl⟩; obtain ⟨hk0, hk1, HK, hs⟩ := choose_facts (s := p 1) (n := 1 + p 0 % 50) (by omega) (by omega) (by omega) (by omega)) | (go_at_call 29; refine (nextSeed_any _ _).mono ?_; rintro e w' ⟨rfl, rfl⟩))
  go_ret
  refine ⟨?_, hb⟩
  first | rfl | (apply ret_bool; simp [HK.out])

theorem own : ownKnob Try.prog.godebug = none := by kernel_rfl
theorem laidOut : laidOutB Try.prog = true := by kernel_rfl
set_option maxRecDepth 100000 in
theorem lifted (os : Os) (started : os.Started) (H : Type) (enc : TypeId × Value → H) :
    ReturnsInHanded {} Try.checked os 9 .any (Rows.fnChoicesSpec.pre6 enc Try.prog Try.f9 Rows.fnChoicesRow.domain false) (Rows.fnChoicesSpec.post enc Try.prog Try.f9 false true false false) := by
  refine returnsInHanded_of_change (C := Try.checked) own started (by kernel_rfl) Try.func9
    (ChangeSpec.witness6 (enc := enc) (C := Try.checked) false ⟨#[], #[.slice none 0 0], []⟩ 8 (by kernel_rfl) (by kernel_rfl) (by kernel_rfl) (by kernel_rfl)) ?_
  intro W base args ds gs before hval0 hW hcnd _
  have hval : ∀ (j : Nat) t v, Try.f9.params[j]? = some t → args[j]? = some v → Value.okWide Try.prog W .any base t v := hval0
  have hW' := hW
  obtain ⟨p, q, hA0, hV, rfl, hfz, hnd⟩ := hW
  have hA : DataW.TrodAll enc Try.prog W 0 (fun _ => true) true Try.f9.params.toList args.toList ds p := hA0
  rw [Try.params9] at hA hval
  obtain ⟨v0, vs0, d0, ds0, p0, q0, hargs, rfl, rfl, h0, r0⟩ := trodAll_cons hA
  obtain ⟨rfl, rfl, rfl⟩ := trodAll_nil r0
  obtain rfl : args = #[v0] := by cases args; simp_all
  obtain ⟨rfl, rfl⟩ := trodVars_none hV
  have k0 := h0
  have lt0 : ∀ x ∈ p0, x.block < W.heap.size := by obtain ⟨m, hm⟩ := k0; exact DataW.trod_lt m _ _ _ hm
  obtain ⟨a0, len0, cap0, rfl⟩ := okWide_slice Try.underlying33 (hval 0 33 v0 rfl rfl)
  have w0 : Code W.heap.size W a0 len0 := open_code h0
  clear hA0 hval0
  refine (walk a0 len0 cap0 W w0).mono fun e W' ⟨he, bel⟩ => ?_
  subst he
  exact ⟨_, rfl, _, _, _, [], _, [], hW', trodAll_mk1 (shut_bool Try.underlying4 _), (trodAll_cons_mk (Below.trod laidOut (by kernel_rfl) (of_decide_eq_true (by kernel_rfl)) k0 bel lt0) trodAll_mk0), rfl, bel.frame _, fun h => by cases h⟩

theorem over : Rows.fnChoicesRow.holds Try.pinned (OpenSpec.ofChange Rows.fnChoicesSpec) :=
  OpenClaim.holds_of_wide 9 Try.f9 rfl rfl rfl rfl rfl rfl rfl ⟨rfl, rfl, rfl, rfl, rfl⟩ rfl rfl rfl rfl rfl (by kernel_rfl) Try.func9 (by kernel_rfl)
    (of_decide_eq_true (by kernel_rfl)) (by unfold Func.isWrapper; first | (rw [if_pos (by decide +kernel)]; kernel_rfl) | (rw [if_neg (by decide +kernel)]; exact ⟨rfl, rfl⟩))
    (fun os started H enc _ => lifted os started H enc)

/-- The statement. -/
theorem proved : Rows.FnChoicesSaid := over
#print axioms proved
end Go.Proofs.Ytpbcaaoohcgalaa.fnChoices
