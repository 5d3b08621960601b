/- The Go law FnFieldsAgain returns true for all arguments and leaves its arguments as they were. Conditions: none. The frame follows the kit's shell; the walk is mine. -/
import Derived.Test.YtpbcaaoohcgalabDoorCards
import Derived.Test.YtpbcaaoohcgalabDoorTie
import Derived.LaidMore
import Derived.Stop.Joined
import Derived.SevenTiedAt
import Derived.WalkKit
import Derived.ProofKit
import Derived.OpenShut
import Derived.Test.YtpbcaaoohcgalabDoorOpenCode
import Derived.Test.YtpbcaaoohcgalabDoorItoa
import Derived.Test.YtpbcaaoohcgalabDoorDec
import Derived.Test.YtpbcaaoohcgalabDoorStrs
import Derived.Test.YtpbcaaoohcgalabDoorSplit
import Derived.Test.YtpbcaaoohcgalabDoorDrawSplit
import Derived.ShutString
import Derived.ChangeOld
import Derived.Below
namespace Go.Proofs.YtpbcaaoohcgalabDoor.fnFieldsAgain
open Go.ChangeShapes Go.WideShapes Go.ChangeAt Go.RowKit
open Go.ChangeMaps (open_string shut_string)
set_option linter.unusedVariables false
set_option linter.unusedSimpArgs false

open Go.Lib (itoa decDigits)
theorem itoa_m3 : itoa (-3) = [45, 51] := by
  unfold itoa
  rw [if_pos (by decide), show (-3 : Int).natAbs = 3 from rfl, dec_small (by decide)]
  rfl
theorem joinS_two (a b : List (List UInt8)) : joinS (a ++ b) = joinS a ++ joinS b := by
  induction a with
  | nil => rfl
  | cons f a ih => simp [joinS, ih]
theorem joinS_step {fs : List (List UInt8)} {k : Nat} (h : k < fs.length) : joinS (fs.take (k + 1)) = joinS (fs.take k) ++ fs.getD k [] ++ [32] := by
  rw [List.take_add_one, List.getElem?_eq_getElem h, ← joinS_app]
  simp [List.getD, List.getElem?_eq_getElem h]
theorem joinS_le (fs : List (List UInt8)) (k : Nat) : (joinS (fs.take k)).length ≤ (joinS fs).length := by
  have h : joinS fs = joinS (fs.take k) ++ joinS (fs.drop k) := by rw [← joinS_two, List.take_append_drop]
  rw [h, List.length_append]; omega
theorem fld_size (l : List UInt8) : (fld l).size = l.length := by show l.toArray.size = _; simp
theorem fld_list (l : List UInt8) : (fld l).data.toList = l := by unfold fld; simp
theorem map_fld (fs : List (List UInt8)) (k : Nat) (h : k < fs.length) : (fs.map fld).getD k .empty = fld (fs.getD k []) := by
  simp [List.getD, List.getElem?_eq_getElem h]
set_option maxHeartbeats 1000000 in
theorem walk (a0 : Option Addr) (len0 cap0 : Nat) (w : World) (htab : Tab w) (w0 : Code w.heap.size w a0 len0) :
    Calls Tryd.prog 6 #[.slice a0 len0 cap0] w fun e w' => e = .returned (.bool true) ∧ Below w.heap.size w w' := by
  by_cases hbig : (1048576 : Int) < len0
  · go_enter Tryd.func6, Tryd.ntmps6
    go_wp2_with (go_at_call 9; refine (big_any _ _ _ _).mono ?_; rintro e w' ⟨rfl, rfl⟩)
    go_ret
    exact ⟨rfl, Below.refl _ _⟩
  go_enter Tryd.func6, Tryd.ntmps6
  go_wp2_with (go_at_call 9; refine (big_any _ _ _ _).mono ?_; rintro e w' ⟨rfl, rfl⟩)
  refine (drawSplitFields_any _ _ _ _ (by omega) w0).mono ?_
  rintro e w1 ⟨s, rfl, hs, k1⟩
  clear w0
  have hm : s.size ≤ maxLen := by unfold maxLen; omega
  have hsl : s.data.toList.length = s.size := by simp
  have HP := Lib.hid (fun w => splitFields_any s w hm)
  have HR := Lib.hid (fun w => splitFields_spec s w hm)
  cases hok : splitOk s.data.toList
  · rw [hok, split_no hok] at HP
    rw [hok, split_no hok] at HR
    clear hsl hok
    go_wp2_with fail
    refine (HP.out _).mono ?_
    rintro e w2 ⟨v2, rfl, h2, k2⟩
    obtain ⟨a2, c2, rfl, _, _⟩ := h2.opened
    go_wp2_with fail
    refine (HR.out _).mono ?_
    rintro e w3 ⟨v3, rfl, h3, k3⟩
    have hf := formatInt_any (-3) w3 (by decide) (by decide) (htab.keep ((k1.keep k2).keep k3))
    rw [itoa_m3] at hf
    have HF := Lib.hid hf
    clear hf h2 h3
    go_wp2_with fail
    refine HF.out.mono ?_
    rintro e w4 ⟨rfl, k4⟩
    go_wp2_with fail
    go_ret
    exact ⟨rfl, Keep.below (((k1.keep k2).keep k3).keep k4)⟩
  · have HAG := Lib.hid (fun h => split_again hok h)
    have hjl := joinS_len (l := s.data.toList) []
    rw [hsl] at hjl
    rw [hok, split_yes hok] at HP
    rw [hok, split_yes hok] at HR
    change (joinS (flds s.data.toList)).length ≤ _ at hjl
    have hfl : (flds s.data.toList).length ≤ 24 := by
      unfold splitOk at hok
      rw [Bool.and_eq_true, decide_eq_true_eq] at hok
      exact hok.2
    clear hsl hok
    generalize flds s.data.toList = fs at *
    rw [List.length_nil, Nat.zero_add] at hjl
    have HJ := Lib.hid (fun k => Nat.le_trans (joinS_le fs k) hjl)
    go_wp2_with fail
    refine (HP.out _).mono ?_
    rintro e w2 ⟨v2, rfl, h2, k2⟩
    go_wp2_with fail
    refine (HR.out _).mono ?_
    rintro e w3 ⟨v3, rfl, h3, k3⟩
    replace h2 := h2.keep k3
    obtain ⟨a2, c2, rfl, _, f2⟩ := h2.opened
    rw [List.length_map] at f2 h2 ⊢
    have H2 := Lib.hid h2
    have K3 := Lib.hid ((k1.keep k2).keep k3)
    clear h2 h3 HR HP k1 k2 k3
    go_wp2_with fail
    go_loop [8, 9] (fun sv i => ∃ k : Nat, k ≤ fs.length ∧ i = .int .i64 k ∧ sv = .string (fld (joinS (fs.take k)))) (fun _ i => fs.length - (intOf i).toNat)
    case atStart => exact ⟨0, Nat.zero_le _, rfl, rfl⟩
    case round =>
      obtain ⟨k, hk, rfl, rfl⟩ := hrel
      by_cases hlt : k < fs.length
      · obtain ⟨g, rfl, _, _, hgs, hc1, _⟩ := f2 k hlt
        rw [map_fld fs k hlt] at hc1
        have hst := joinS_step hlt
        have hl1 := HJ.out (k + 1)
        have hl0 := HJ.out k
        rw [hst, List.length_append, List.length_append] at hl1
        have HST := Lib.hid hst
        have had1 : ∀ wx, (Op.stringOp .add (fld (joinS (fs.take k))) (fld (fs.getD k []))).run Tryd.prog wx = .ok (.string (fld (joinS (fs.take k) ++ fs.getD k []))) wx := fun wx => run_string_add_lists (P := Tryd.prog) (w := wx) (joinS (fs.take k)) (fs.getD k []) (by omega) (by omega)
        have had2 : ∀ wx, (Op.stringOp .add (fld (joinS (fs.take k) ++ fs.getD k [])) ⟨#[32]⟩).run Tryd.prog wx = .ok (.string (fld (joinS (fs.take k) ++ fs.getD k [] ++ [32]))) wx := fun wx => run_string_add_lists (P := Tryd.prog) (w := wx) (joinS (fs.take k) ++ fs.getD k []) [32] (by rw [List.length_append]; omega) (by decide)
        rw [← hst] at had2
        clear hst hl1 hl0 f2
        generalize fld (joinS (fs.take k) ++ fs.getD k []) = X at *
        generalize fld (joinS (fs.take k)) = X0 at *
        generalize fld (fs.getD k []) = X1 at *
        go_wp2_with fail
        go_round
        case rel => exact ⟨k + 1, by omega, by go_num, rfl⟩
        case measure => simp [intOf]; omega
      · obtain rfl : k = fs.length := by omega
        rw [List.take_length]
        have hsz := fld_size (joinS fs)
        have hm2 : (fld (joinS fs)).size ≤ maxLen := by rw [hsz]; unfold maxLen; omega
        have HP := Lib.hid (splitFields_any (fld (joinS fs)) w3 hm2)
        rw [fld_list] at HP
        clear f2 hm2
        by_cases h6 : 600 < (joinS fs).length
        · generalize splitOk (joinS fs) = ok2 at HP
          generalize splitV (joinS fs) = zs2 at HP
          rw [← hsz] at h6
          have h6' : (600 : Int) < (fld (joinS fs)).size := by omega
          generalize fld (joinS fs) = X at *
          go_wp2_with fail
          refine HP.out.mono ?_
          rintro e w4 ⟨v4, rfl, h4, k4⟩
          go_wp2_with fail
          go_ret
          exact ⟨rfl, Keep.below (K3.out.keep k4)⟩
        · obtain ⟨e1, e2⟩ := HAG.out (by omega)
          rw [e1, split_yes e1, e2] at HP
          clear e1 e2
          rw [← hsz] at h6
          have h6' : ¬ (600 : Int) < (fld (joinS fs)).size := by omega
          generalize fld (joinS fs) = X at *
          go_wp2_with fail
          refine HP.out.mono ?_
          rintro e w4 ⟨v4, rfl, h4, k4⟩
          have h2 := H2.out.keep k4
          go_wp2_with (go_at_call 18; refine (sameTexts_same _ _ _ h2 h4 (by rw [List.length_map]; omega)).mono ?_; rintro e w5 ⟨rfl, k5⟩)
          go_ret
          exact ⟨rfl, Keep.below ((K3.out.keep k4).keep k5)⟩

theorem own : ownKnob Tryd.prog.godebug = none := by kernel_rfl
theorem laidOut : laidOutB Tryd.prog = true := by kernel_rfl
theorem door_met (os : Os) (args : Array Value) : laidMetH Tryd.prog laid3 ((World.doorLaid Tryd.prog 24 os).forCall (fun _ _ => 0) ⟨#[], args, []⟩).memory :=
  laidMetH_of_parts3 (fuel := 8) (laidMet_of_run' 8 (by kernel_rfl) (by kernel_rfl)) (by kernel_rfl) (by kernel_rfl)
set_option maxRecDepth 100000 in
theorem lifted (os : Os) (started : os.Started) (H : Type) (enc : TypeId × Value → H) :
    ReturnsInHanded {} Tryd.checked os 6 .any (fun w args => (Rows.fnFieldsAgainSpec.pre enc Tryd.prog Tryd.f6 [] false w args ∧ laidMetH Tryd.prog laid3 w) ∧ sizedMet enc Tryd.prog Tryd.f6 (OpenSpec.ofChange Rows.fnFieldsAgainSpec) false w args)
      (Rows.fnFieldsAgainSpec.post enc Tryd.prog Tryd.f6 false true false false) := by
  refine returnsInHanded_of_change_and (C := Tryd.checked) (X := fun w _ => laidMetH Tryd.prog laid3 w) (fun _ _ _ hh h => h.of_heap hh) own started (by kernel_rfl) Tryd.func6
    (ChangeSpec.witness_shaped (enc := enc) (C := Tryd.checked) (os := os) (X := fun w _ => laidMetH Tryd.prog laid3 w) false (World.doorLaid Tryd.prog 24 os) #[.slice none 0 0] 8 rfl (World.shaped_of_RefB (by kernel_rfl) (by kernel_rfl)) (by kernel_rfl) (by kernel_rfl) (by kernel_rfl) (door_met os _)) ?_
  intro W base args ds gs before hval0 hW _ _ hL _
  have hval : ∀ (j : Nat) t v, Tryd.f6.params[j]? = some t → args[j]? = some v → Value.okWide Tryd.prog W .any base t v := hval0
  have hW' := hW
  obtain ⟨p, q, hA0, hV, rfl, hfz, hnd⟩ := hW
  have hA : DataW.TrodAll enc Tryd.prog W 0 (fun _ => true) true Tryd.f6.params.toList args.toList ds p := hA0
  rw [Tryd.params6] at hA hval
  obtain ⟨v0, vs0, d0, ds0, p0, q0, hargs, rfl, rfl, h0, r0⟩ := trodAll_cons hA
  obtain ⟨rfl, rfl, rfl⟩ := trodAll_nil r0
  obtain rfl : args = #[v0] := by cases args; simp_all
  obtain ⟨rfl, rfl⟩ := trodVars_none hV
  have k0 := h0
  have lt0 : ∀ x ∈ p0, x.block < W.heap.size := by obtain ⟨m, hm⟩ := k0; exact DataW.trod_lt m _ _ _ hm
  obtain ⟨a0, len0, cap0, rfl⟩ := okWide_slice Tryd.underlying24 (hval 0 24 v0 rfl rfl)
  have w0 : Code W.heap.size W a0 len0 := open_code h0
  clear hA0 hval0
  refine (walk a0 len0 cap0 W (tab_of_laid hL) w0).mono fun e W' ⟨he, bel⟩ => ?_
  subst he
  exact ⟨_, rfl, _, _, _, [], _, [], hW', trodAll_mk1 (shut_bool Tryd.underlying4 _), (trodAll_cons_mk (Below.trod laidOut (by kernel_rfl) (of_decide_eq_true (by kernel_rfl)) k0 bel lt0) trodAll_mk0), rfl, bel.frame _, fun h => by cases h⟩

theorem over : Rows.fnFieldsAgainRow.holds Tryd.pinned (OpenSpec.ofChange Rows.fnFieldsAgainSpec) :=
  OpenClaim.holds_of_wide 6 Tryd.f6 rfl rfl rfl rfl rfl rfl rfl ⟨rfl, rfl, rfl, rfl, rfl⟩ rfl rfl rfl rfl rfl (by kernel_rfl) Tryd.func6 (by kernel_rfl)
    (of_decide_eq_true (by kernel_rfl)) (by unfold Func.isWrapper; first | (rw [if_pos (by decide +kernel)]; kernel_rfl) | (rw [if_neg (by decide +kernel)]; exact ⟨rfl, rfl⟩))
    (fun os started H enc _ => lifted os started H enc)

/-- The statement: the tied card. -/
theorem proved : Rows.FnFieldsAgainCardSaid :=
  Claim7.holds_tied_plain_at .later [] [.data, .data, .data] true (true, "08893b6fd60ac3d680b345d625bcdaac689e0a0ed7a00da33c95fee968287840") false
    over (fun _ h => by cases h) (by kernel_rfl) (fun _ h => by cases h) fnFieldsAgain_row_tie rfl ⟨rfl, rfl⟩ (by kernel_rfl) rfl
    (fun f fn hf hfn => by
      obtain rfl : f = 6 := Option.some.inj ((show Tryd.prog.funcNamed "loop.example/g00978/laws.FnFieldsAgain" = some 6 by kernel_rfl).symm.trans hf) |>.symm
      obtain rfl : fn = Tryd.f6 := (Option.some.inj (Tryd.func6.symm.trans hfn)).symm
      exact ⟨by kernel_rfl, fun j t ht => by
        rw [Tryd.params6] at ht
        have hm : t ∈ [24] := by simpa using Array.mem_of_getElem? ht
        have hall : ([24].all fun u => !Tryd.prog.wantsStandIn u) = true := by kernel_rfl
        exact (show Tryd.prog.wantsStandIn t = false by simpa using List.all_eq_true.1 hall t hm)⟩)
    (by kernel_rfl)
#print axioms proved
end Go.Proofs.YtpbcaaoohcgalabDoor.fnFieldsAgain
