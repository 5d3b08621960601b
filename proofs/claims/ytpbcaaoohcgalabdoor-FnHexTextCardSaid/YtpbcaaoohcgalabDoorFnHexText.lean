/- The Go law FnHexText returns true for all arguments and leaves its arguments as they were. Conditions: none. The frame follows the kit's shell; the walk is mine. -/
import Derived.Test.YtpbcaaoohcgalabDoorCards
import Derived.Test.YtpbcaaoohcgalabDoorTie
import Derived.LaidMore
import Derived.Stop.Joined
import Derived.SevenTiedAt
import Derived.WalkKit
import Derived.ProofKit
import Derived.OpenShut
import Derived.Test.YtpbcaaoohcgalabDoorOpenCode
import Derived.Test.YtpbcaaoohcgalabDoorItoa
import Derived.Test.YtpbcaaoohcgalabDoorDec
import Derived.Test.YtpbcaaoohcgalabDoorStrs
import Derived.Test.YtpbcaaoohcgalabDoorUnhex
import Derived.ShutString
import Derived.ChangeOld
import Derived.Below
namespace Go.Proofs.YtpbcaaoohcgalabDoor.fnHexText
open Go.ChangeShapes Go.WideShapes Go.ChangeAt Go.RowKit
open Go.ChangeMaps (open_string shut_string)
set_option linter.unusedVariables false
set_option linter.unusedSimpArgs false

open Go.Lib (itoa decDigits)
theorem hexL_at (l : List UInt8) (j : Nat) (hj : j < l.length) : (hexL l).getD (2 * j) 0 = fig ((l.getD j 0).toNat / 16) ∧ (hexL l).getD (2 * j + 1) 0 = fig ((l.getD j 0).toNat % 16) := by
  induction l generalizing j with
  | nil => simp at hj
  | cons c l ih =>
    have e : hexL (c :: l) = fig (c.toNat / 16) :: fig (c.toNat % 16) :: hexL l := by simp [hexL]
    rw [e]
    cases j with
    | zero => simp
    | succ j =>
      have := ih j (by simpa using hj)
      rw [show 2 * (j + 1) = 2 * j + 1 + 1 by omega]
      simpa using this
theorem val_fig : ∀ x : Fin 16, valZ (fig x.1).toNat = (x.1 : Int) := by decide
theorem hex_pair (l : List UInt8) (j : Nat) (hj : j < l.length) : pairOk (hexL l) j = true ∧ pairB (hexL l) j = l.getD j 0 := by
  obtain ⟨h1, h2⟩ := hexL_at l j hj
  have hc := (l.getD j 0).toNat_lt
  have e1 : hiZ (hexL l) j = (((l.getD j 0).toNat / 16 : Nat) : Int) := by
    unfold hiZ; rw [h1]; exact val_fig ⟨(l.getD j 0).toNat / 16, by omega⟩
  have e2 : loZ (hexL l) j = (((l.getD j 0).toNat % 16 : Nat) : Int) := by
    unfold loZ; rw [h2]; exact val_fig ⟨(l.getD j 0).toNat % 16, by omega⟩
  unfold pairOk pairB
  rw [e1, e2]
  refine ⟨by simp; omega, ?_⟩
  rw [show ((((l.getD j 0).toNat / 16 : Nat) : Int) * 16 + (((l.getD j 0).toNat % 16 : Nat) : Int)).toNat = (l.getD j 0).toNat by omega]
  simp
theorem hex_back (l : List UInt8) (h : l.length ≤ 20000) : decOk (hexL l) = true ∧ decS (hexL l) = l := by
  have hl := hexL_len l
  have h0 : decOk (hexL l) = true := decOk_yes (by omega) (by omega) fun j hj => (hex_pair l j (by omega)).1
  refine ⟨h0, ?_⟩
  unfold decS
  rw [if_pos h0, show (hexL l).length / 2 = l.length by omega]
  apply List.ext_getElem
  · rw [decTo_len]
  · intro j h1 h2
    have := (hex_pair l j h2).2
    simp only [decTo, List.getElem_map, List.getElem_range]
    rw [this]
    simp [List.getD, h2]
theorem itoa10 : itoa 10 = [49, 48] := by
  unfold itoa
  rw [if_neg (by decide), show (10 : Int).toNat = 10 from rfl, dec_big (by decide), dec_small (by decide)]
  rfl
theorem walk (a0 : Option Addr) (len0 cap0 : Nat) (w : World) (htab : Tab w) (w0 : Code w.heap.size w a0 len0) :
    Calls Tryd.prog 5 #[.slice a0 len0 cap0] w fun e w' => e = .returned (.bool true) ∧ Below w.heap.size w w' := by
  by_cases hbig : (1048576 : Int) < len0
  · go_enter Tryd.func5, Tryd.ntmps5
    go_wp2_with (go_at_call 9; refine (big_any _ _ _ _).mono ?_; rintro e w' ⟨rfl, rfl⟩)
    go_ret
    exact ⟨rfl, Below.refl _ _⟩
  go_enter Tryd.func5, Tryd.ntmps5
  go_wp2_with (go_at_call 9; refine (big_any _ _ _ _).mono ?_; rintro e w' ⟨rfl, rfl⟩)
  refine (drawEncodeHex_any _ _ _ _ (by omega) w0).mono ?_
  rintro e w1 ⟨s, rfl, hs, k1⟩
  clear w0
  by_cases hb : 20000 < s.size
  · have hb' : (20000 : Int) < s.size := by omega
    go_wp2_with fail
    refine (encodeHex_big s w1 hb).mono ?_
    rintro e w2 ⟨rfl, rfl⟩
    have hf := formatInt_any 10 w1 (by decide) (by decide) (htab.keep k1)
    rw [itoa10] at hf
    go_wp2_with fail
    refine hf.mono ?_
    rintro e w3 ⟨rfl, k3⟩
    go_wp2_with fail
    go_ret
    exact ⟨rfl, Keep.below (k1.keep k3)⟩
  · have hb' : ¬ (20000 : Int) < s.size := by omega
    have hsz : s.data.toList.length = s.size := by simp
    obtain ⟨d1, d2⟩ := hex_back s.data.toList (by omega)
    have hl := hexL_len s.data.toList
    go_wp2_with fail
    refine (encodeHex_any s w1 (by omega)).mono ?_
    rintro e w2 ⟨rfl, k2⟩
    have hd := decodeHex_any ⟨(hexL s.data.toList).toArray⟩ w2 (by unfold maxLen; show (hexL s.data.toList).toArray.size ≤ _; simp; omega)
    rw [show (⟨(hexL s.data.toList).toArray⟩ : ByteArray).data.toList = hexL s.data.toList by simp, d1, d2] at hd
    rw [show (⟨s.data.toList.toArray⟩ : ByteArray) = s by simp] at hd
    have HL := Lib.hid hl
    clear d1 d2 hl
    have hsz2 : (⟨(hexL s.data.toList).toArray⟩ : ByteArray).size = 2 * s.size := by
      show (hexL s.data.toList).toArray.size = _
      rw [List.size_toArray, HL.out, hsz]
    clear hsz
    generalize (⟨(hexL s.data.toList).toArray⟩ : ByteArray) = h at *
    go_wp2_with fail
    refine hd.mono ?_
    rintro e w3 ⟨rfl, k3⟩
    go_wp2_with fail
    go_ret
    exact ⟨rfl, Keep.below ((k1.keep k2).keep k3)⟩

theorem own : ownKnob Tryd.prog.godebug = none := by kernel_rfl
theorem laidOut : laidOutB Tryd.prog = true := by kernel_rfl
theorem door_met (os : Os) (args : Array Value) : laidMetH Tryd.prog laid3 ((World.doorLaid Tryd.prog 24 os).forCall (fun _ _ => 0) ⟨#[], args, []⟩).memory :=
  laidMetH_of_parts3 (fuel := 8) (laidMet_of_run' 8 (by kernel_rfl) (by kernel_rfl)) (by kernel_rfl) (by kernel_rfl)
set_option maxRecDepth 100000 in
theorem lifted (os : Os) (started : os.Started) (H : Type) (enc : TypeId × Value → H) :
    ReturnsInHanded {} Tryd.checked os 5 .any (fun w args => (Rows.fnHexTextSpec.pre enc Tryd.prog Tryd.f5 [] false w args ∧ laidMetH Tryd.prog laid3 w) ∧ sizedMet enc Tryd.prog Tryd.f5 (OpenSpec.ofChange Rows.fnHexTextSpec) false w args)
      (Rows.fnHexTextSpec.post enc Tryd.prog Tryd.f5 false true false false) := by
  refine returnsInHanded_of_change_and (C := Tryd.checked) (X := fun w _ => laidMetH Tryd.prog laid3 w) (fun _ _ _ hh h => h.of_heap hh) own started (by kernel_rfl) Tryd.func5
    (ChangeSpec.witness_shaped (enc := enc) (C := Tryd.checked) (os := os) (X := fun w _ => laidMetH Tryd.prog laid3 w) false (World.doorLaid Tryd.prog 24 os) #[.slice none 0 0] 8 rfl (World.shaped_of_RefB (by kernel_rfl) (by kernel_rfl)) (by kernel_rfl) (by kernel_rfl) (by kernel_rfl) (door_met os _)) ?_
  intro W base args ds gs before hval0 hW _ _ hL _
  have hval : ∀ (j : Nat) t v, Tryd.f5.params[j]? = some t → args[j]? = some v → Value.okWide Tryd.prog W .any base t v := hval0
  have hW' := hW
  obtain ⟨p, q, hA0, hV, rfl, hfz, hnd⟩ := hW
  have hA : DataW.TrodAll enc Tryd.prog W 0 (fun _ => true) true Tryd.f5.params.toList args.toList ds p := hA0
  rw [Tryd.params5] at hA hval
  obtain ⟨v0, vs0, d0, ds0, p0, q0, hargs, rfl, rfl, h0, r0⟩ := trodAll_cons hA
  obtain ⟨rfl, rfl, rfl⟩ := trodAll_nil r0
  obtain rfl : args = #[v0] := by cases args; simp_all
  obtain ⟨rfl, rfl⟩ := trodVars_none hV
  have k0 := h0
  have lt0 : ∀ x ∈ p0, x.block < W.heap.size := by obtain ⟨m, hm⟩ := k0; exact DataW.trod_lt m _ _ _ hm
  obtain ⟨a0, len0, cap0, rfl⟩ := okWide_slice Tryd.underlying24 (hval 0 24 v0 rfl rfl)
  have w0 : Code W.heap.size W a0 len0 := open_code h0
  clear hA0 hval0
  refine (walk a0 len0 cap0 W (tab_of_laid hL) w0).mono fun e W' ⟨he, bel⟩ => ?_
  subst he
  exact ⟨_, rfl, _, _, _, [], _, [], hW', trodAll_mk1 (shut_bool Tryd.underlying4 _), (trodAll_cons_mk (Below.trod laidOut (by kernel_rfl) (of_decide_eq_true (by kernel_rfl)) k0 bel lt0) trodAll_mk0), rfl, bel.frame _, fun h => by cases h⟩

theorem over : Rows.fnHexTextRow.holds Tryd.pinned (OpenSpec.ofChange Rows.fnHexTextSpec) :=
  OpenClaim.holds_of_wide 5 Tryd.f5 rfl rfl rfl rfl rfl rfl rfl ⟨rfl, rfl, rfl, rfl, rfl⟩ rfl rfl rfl rfl rfl (by kernel_rfl) Tryd.func5 (by kernel_rfl)
    (of_decide_eq_true (by kernel_rfl)) (by unfold Func.isWrapper; first | (rw [if_pos (by decide +kernel)]; kernel_rfl) | (rw [if_neg (by decide +kernel)]; exact ⟨rfl, rfl⟩))
    (fun os started H enc _ => lifted os started H enc)

/-- The statement: the tied card. -/
theorem proved : Rows.FnHexTextCardSaid :=
  Claim7.holds_tied_plain_at .later [] [.data, .data, .data] true (true, "08893b6fd60ac3d680b345d625bcdaac689e0a0ed7a00da33c95fee968287840") false
    over (fun _ h => by cases h) (by kernel_rfl) (fun _ h => by cases h) fnHexText_row_tie rfl ⟨rfl, rfl⟩ (by kernel_rfl) rfl
    (fun f fn hf hfn => by
      obtain rfl : f = 5 := Option.some.inj ((show Tryd.prog.funcNamed "loop.example/g00978/laws.FnHexText" = some 5 by kernel_rfl).symm.trans hf) |>.symm
      obtain rfl : fn = Tryd.f5 := (Option.some.inj (Tryd.func5.symm.trans hfn)).symm
      exact ⟨by kernel_rfl, fun j t ht => by
        rw [Tryd.params5] at ht
        have hm : t ∈ [24] := by simpa using Array.mem_of_getElem? ht
        have hall : ([24].all fun u => !Tryd.prog.wantsStandIn u) = true := by kernel_rfl
        exact (show Tryd.prog.wantsStandIn t = false by simpa using List.all_eq_true.1 hall t hm)⟩)
    (by kernel_rfl)
#print axioms proved
end Go.Proofs.YtpbcaaoohcgalabDoor.fnHexText
