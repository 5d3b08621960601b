/- The Go law FnShuffled returns true for all arguments and leaves its arguments as they were. Conditions: none. The frame follows the kit's shell; the walk is mine. -/
import Derived.Test.YtpbcaaoohcgalaaRows
import Derived.WalkKit
import Derived.ProofKit
import Derived.OpenShut
import Derived.Test.YtpbcaaoohcgalaaShufLaw
import Derived.Test.YtpbcaaoohcgalaaOpenCode
import Derived.ShutString
import Derived.ChangeOld
import Derived.Below
namespace Go.Proofs.Ytpbcaaoohcgalaa.fnShuffled
open Go.ChangeShapes Go.WideShapes Go.ChangeAt Go.RowKit
open Go.ChangeMaps (open_string shut_string)
set_option linter.unusedVariables false
set_option linter.unusedSimpArgs false

theorem Try.infoBool : (Try.prog.info? 4).map (fun i => (i.zero, i.size, i.bytes)) = some (some (.bool false), 1, 1) := by kernel_rfl
theorem walk (a0 : Option Addr) (len0 cap0 : Nat) (w : World) (w0 : Code w.heap.size w a0 len0) :
    Calls Try.prog 14 #[.slice a0 len0 cap0] w fun e w' => e = .returned (.bool true) ∧ Below w.heap.size w w' := by
  by_cases hbig : (1048576 : Int) < len0
  · go_enter Try.func14, Try.ntmps14
    go_wp2_with (go_at_call 27; refine (big_any _ _ _ _).mono ?_; rintro e w' ⟨rfl, rfl⟩)
    go_ret
    exact ⟨rfl, Below.refl _ _⟩
  go_enter Try.func14, Try.ntmps14
  go_wp2_with (go_at_call 27; refine (big_any _ _ _ _).mono ?_; rintro e w' ⟨rfl, rfl⟩)
  refine (places_any _ _ _ _ (by omega) w0).mono ?_
  rintro e w1 ⟨g, c, p, rfl, hc, hg, hgs, hp, hb⟩
  obtain ⟨p00, p01, c0⟩ := hp 0 (by decide)
  obtain ⟨p10, p11, c1⟩ := hp 1 (by decide)
  clear hp w0
  have k1 := Keep.of_below hb
  generalize p 0 = p0 at *
  generalize p 1 = p1 at *
  go_wp2_with fail
  generalize hn : 1 + p0 % 16 = z
  obtain ⟨n, rfl⟩ : ∃ n : Nat, z = n := ⟨z.toNat, by omega⟩
  have hn1 : 1 ≤ n := by omega
  have hn2 : n ≤ 16 := by omega
  clear hn
  refine (shuffled_any _ _ _).mono ?_
  rintro e w2 ⟨v2, rfl, h2, k2⟩
  have hok : shufOk p1 n = true := by unfold shufOk; rw [btw_true (by omega) (by omega), btw_true (by omega) (by omega)]; rfl
  have hInj : Inj n (shufD p1 n) := by
    unfold shufD; rw [if_pos hok, Int.toNat_natCast]
    exact shuf_inj _ _ _ _ (by omega) (by omega) (by omega) (by omega) (Inj.upTo n)
  have hne : n < 2 ∨ (shufE p1 n != p1) = true := by
    by_cases h : n < 2
    · exact .inl h
    · right
      unfold shufE; rw [if_pos hok, Int.toNat_natCast, bne_iff_ne]
      exact shufS_ne (by omega) (by omega) (by omega) (by omega)
  have c1' := (k2.grown none).cell c1 (by simp)
  have hll := hInj.1
  generalize hld : shufD p1 n = l at *
  have HLD := Lib.hid hld
  clear hld
  generalize hse : shufE p1 n = sE at *
  have HSE := Lib.hid hse
  have HK1 := Lib.hid hok
  clear c0 hok hse
  have HN := Lib.hid hne
  have HI := Lib.hid hInj
  have HL := Lib.hid hll
  clear hne hInj hll
  go_wp2_with (at_make; refine maken_rw rfl _ _ _ rfl _ _ _ _ Try.underlying45 Try.infoBool .i64 .i64 _ _ n rfl rfl rfl rfl (by omega) (by decide) ?_; intro v3 w3 h3 k3)
  replace h3 := SB.made h3
  replace h2 := h2.keep k3
  replace c1' := (k3.grown none).cell c1' (by simp)
  obtain ⟨ao, c2, e, hc2, _⟩ := h2.opened
  rw [HL.out] at e hc2
  subst e
  have HS2 := Lib.hid h2
  have HC1 := Lib.hid c1'
  have HS3 := Lib.hid h3
  clear h2 c1' c1 h3
  go_loopw [8] (fun i wr => ∃ (k : Nat) (bs : List Bool), k ≤ n ∧ i = .int .i64 k ∧ SB w2.heap.size w3.heap.size wr v3 bs ∧ Unseen n l k bs ∧ Chg w2.heap.size w3.heap.size w3 wr) (fun i _ => n - (intOf i).toNat)
  case atStart => exact ⟨0, _, Nat.zero_le _, rfl, HS3.out, ⟨by simp, fun t _ _ => by simp [List.getD, List.getElem?_replicate]; split <;> rfl⟩, Chg.refl _ _ _⟩
  case round =>
    obtain ⟨k, bs, hk, rfl, hb3, hun, hch⟩ := hrel
    have h2 := HS2.out.mv hch (by omega)
    have hk1 := k1.size
    have hk2 := k2.size
    have hk3 := k3.size
    by_cases hlt : k < n
    · have hx := HI.out.2.1 k hlt
      have hxs := hun.2 k (Nat.le_refl _) hlt
      have hbl := hun.1
      obtain ⟨ao', c', e, hc', hf⟩ := h2.opened
      rw [HL.out] at e hc' hf
      obtain ⟨rfl, rfl⟩ : ao = ao' ∧ c2 = c' := by simpa using e
      obtain ⟨g2, rfl, _, _, _, hcell, _⟩ := hf k hlt
      obtain ⟨bo, d, e3, hd3, hf3⟩ := hb3.opened
      rw [hbl] at e3 hd3 hf3
      obtain ⟨g3, rfl, hg30, hg31, hg32, hc3, hfr3⟩ := hf3 (l.getD k 0).toNat (by omega)
      rw [hxs] at hc3
      have HX := Lib.hid hx
      have HU := Lib.hid hun
      have HB := Lib.hid hbl
      have HO := Lib.hid hb3
      have H2 := Lib.hid h2
      clear e hf hf3 hx hxs hun hbl hb3 h2
      subst e3
      generalize hgx : l.getD k 0 = x at *
      have HGX := Lib.hid hgx
      have hx0 := HX.out.1
      have hx1 := HX.out.2
      clear hgx
      go_wp2_with fail
      go_roundw
      case rel =>
        refine ⟨k + 1, _, by omega, by go_num, HO.out.store HB.out.symm _ _, ?_, hch.set g3 _ _ (.inl ⟨hg30, hg31⟩)⟩
        rw [← HGX.out]
        exact HU.out.step HI.out hlt
      case measure => simp [intOf]; omega
    · have c1 : wr.cell? ⟨g, 1, none⟩ = some (.int .i64 p1) := (World.cell?_of_block (a := ⟨g, 1, none⟩) (hch.block g (by omega) (.inl (by omega)))).trans HC1.out
      have HG := Lib.hid hch
      obtain rfl : n = k := by omega
      clear hb3 hun hch
      have hlen : l.length ≤ 1000000000 := by rw [HL.out]; omega
      go_wp2_with fail
      refine (shuffled_any _ _ _).mono ?_
      rw [HSE.out, HLD.out]
      rintro e w4 ⟨v4, rfl, h4, k4⟩
      replace h2 := h2.keep k4
      have c1' := (k4.grown none).cell c1 (by simp)
      clear c1
      have hend : Below w.heap.size w w4 := Keep.below ((((k1.keep k2).keep k3).comp HG.out (.inl (by omega))).keep k4)
      rcases HN.out with hn | hn
      · have hn' : (n : Int) < 2 := by omega
        go_wp2_with (go_at_call 42; refine (sameInts_same _ _ _ h2 h4 hlen).mono ?_; rintro e w5 ⟨rfl, k5⟩)
        go_ret
        exact ⟨rfl, hend.trans (k5.below.mono hend.size)⟩
      · by_cases hn' : (n : Int) < 2
        all_goals
          go_wp2_with (go_at_call 42; refine (sameInts_same _ _ _ h2 h4 hlen).mono ?_; rintro e w5 ⟨rfl, k5⟩; replace c1' := (k5.grown none).cell c1' (by simp))
          go_ret
          exact ⟨rfl, hend.trans (k5.below.mono hend.size)⟩

theorem own : ownKnob Try.prog.godebug = none := by kernel_rfl
theorem laidOut : laidOutB Try.prog = true := by kernel_rfl
set_option maxRecDepth 100000 in
theorem lifted (os : Os) (started : os.Started) (H : Type) (enc : TypeId × Value → H) :
    ReturnsInHanded {} Try.checked os 14 .any (Rows.fnShuffledSpec.pre6 enc Try.prog Try.f14 Rows.fnShuffledRow.domain false) (Rows.fnShuffledSpec.post enc Try.prog Try.f14 false true false false) := by
  refine returnsInHanded_of_change (C := Try.checked) own started (by kernel_rfl) Try.func14
    (ChangeSpec.witness6 (enc := enc) (C := Try.checked) false ⟨#[], #[.slice none 0 0], []⟩ 8 (by kernel_rfl) (by kernel_rfl) (by kernel_rfl) (by kernel_rfl)) ?_
  intro W base args ds gs before hval0 hW hcnd _
  have hval : ∀ (j : Nat) t v, Try.f14.params[j]? = some t → args[j]? = some v → Value.okWide Try.prog W .any base t v := hval0
  have hW' := hW
  obtain ⟨p, q, hA0, hV, rfl, hfz, hnd⟩ := hW
  have hA : DataW.TrodAll enc Try.prog W 0 (fun _ => true) true Try.f14.params.toList args.toList ds p := hA0
  rw [Try.params14] at hA hval
  obtain ⟨v0, vs0, d0, ds0, p0, q0, hargs, rfl, rfl, h0, r0⟩ := trodAll_cons hA
  obtain ⟨rfl, rfl, rfl⟩ := trodAll_nil r0
  obtain rfl : args = #[v0] := by cases args; simp_all
  obtain ⟨rfl, rfl⟩ := trodVars_none hV
  have k0 := h0
  have lt0 : ∀ x ∈ p0, x.block < W.heap.size := by obtain ⟨m, hm⟩ := k0; exact DataW.trod_lt m _ _ _ hm
  obtain ⟨a0, len0, cap0, rfl⟩ := okWide_slice Try.underlying33 (hval 0 33 v0 rfl rfl)
  have w0 : Code W.heap.size W a0 len0 := open_code h0
  clear hA0 hval0
  refine (walk a0 len0 cap0 W w0).mono fun e W' ⟨he, bel⟩ => ?_
  subst he
  exact ⟨_, rfl, _, _, _, [], _, [], hW', trodAll_mk1 (shut_bool Try.underlying4 _), (trodAll_cons_mk (Below.trod laidOut (by kernel_rfl) (of_decide_eq_true (by kernel_rfl)) k0 bel lt0) trodAll_mk0), rfl, bel.frame _, fun h => by cases h⟩

theorem over : Rows.fnShuffledRow.holds Try.pinned (OpenSpec.ofChange Rows.fnShuffledSpec) :=
  OpenClaim.holds_of_wide 14 Try.f14 rfl rfl rfl rfl rfl rfl rfl ⟨rfl, rfl, rfl, rfl, rfl⟩ rfl rfl rfl rfl rfl (by kernel_rfl) Try.func14 (by kernel_rfl)
    (of_decide_eq_true (by kernel_rfl)) (by unfold Func.isWrapper; first | (rw [if_pos (by decide +kernel)]; kernel_rfl) | (rw [if_neg (by decide +kernel)]; exact ⟨rfl, rfl⟩))
    (fun os started H enc _ => lifted os started H enc)

/-- The statement. -/
theorem proved : Rows.FnShuffledSaid := over
#print axioms proved
end Go.Proofs.Ytpbcaaoohcgalaa.fnShuffled
