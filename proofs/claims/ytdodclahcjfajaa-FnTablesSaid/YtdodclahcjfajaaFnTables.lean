/- The Go law FnTables returns true for all arguments and leaves its arguments as they were. Conditions: none. The frame follows the kit's shell; the walk is mine. -/
import Derived.Test.YtdodclahcjfajaaRows
import Derived.WalkKit
import Derived.ProofKit
import Derived.OpenShut
import Derived.Test.YtdodclahcjfajaaOpenCode
import Derived.Test.YtdodclahcjfajaaTabFn
import Derived.Test.YtdodclahcjfajaaTabSet
import Derived.ShutString
import Derived.ChangeOld
import Derived.Below
namespace Go.Proofs.Ytdodclahcjfajaa.fnTables
open Go.ChangeShapes Go.WideShapes Go.ChangeAt Go.RowKit
open Go.ChangeMaps (open_string shut_string)
set_option linter.unusedVariables false
set_option linter.unusedSimpArgs false

def tabs1 (n a : Nat) : TbD := setD (List.replicate n (0, 0)) a (1, 3)
def tabs2 (n a b : Nat) : TbD := setD (tabs1 n a) b (2, 3)
theorem tabs_facts : ∀ n : Fin 10, ∀ a : Fin 10, ∀ b : Fin 10, 2 ≤ n.val → a.val < n.val → b.val < n.val →
    (setOk (tabs1 n.val a.val) b.val (2, 3) = true ∧ (onD (tabs2 n.val a.val b.val) 3).length = (if a.val = b.val then 1 else 2) ∧ mappedD (tabs2 n.val a.val b.val) = (if a.val = b.val then 1 else 2) ∧
      entryD (tabs2 n.val a.val b.val) b.val = (2, 3) ∧ tableOkB (tabs2 n.val a.val b.val) 4 = true ∧ tableOkB (tabs2 n.val a.val b.val) 3 = false) := by decide +kernel
theorem setD_len (t : TbD) (p : Int) (e : Int × Int) : (setD t p e).length = t.length := by
  unfold setD; split <;> simp
theorem walk (a0 : Option Addr) (len0 cap0 : Nat) (w : World) (w0 : Code w.heap.size w a0 len0) :
    Calls Try.prog 7 #[.slice a0 len0 cap0] w fun e w' => e = .returned (.bool true) ∧ Below w.heap.size w w' := by
  by_cases hbig : (1048576 : Int) < len0
  · go_enter Try.func7, Try.ntmps7
    go_wp2_with (go_at_call 28; refine (big_any _ _ _ _).mono ?_; rintro e w' ⟨rfl, rfl⟩)
    go_ret
    exact ⟨rfl, Below.refl _ _⟩
  go_enter Try.func7, Try.ntmps7
  go_wp2_with (go_at_call 28; refine (big_any _ _ _ _).mono ?_; rintro e w' ⟨rfl, rfl⟩)
  refine (places_any _ _ _ _ (by omega) w0).mono ?_
  rintro e w1 ⟨g, c, p, rfl, hc, hg, hgs, hp, hb⟩
  have k1 := Keep.of_below hb
  obtain ⟨p00, p01, c0⟩ := hp 0 (by decide)
  obtain ⟨p10, p11, c1⟩ := hp 1 (by decide)
  obtain ⟨p20, p21, c2⟩ := hp 2 (by decide)
  clear hp hb w0
  generalize p 0 = pa at *
  generalize p 1 = pb at *
  generalize p 2 = pz at *
  obtain ⟨n, hn⟩ : ∃ n : Nat, 2 + pa % 8 = n := ⟨(2 + pa % 8).toNat, by omega⟩
  have hn0 : 2 ≤ n := by omega
  have hn1 : n ≤ 9 := by omega
  have hnz : ¬ (n : Int) = 0 := by omega
  have hbm := Int.emod_nonneg pb (b := (n : Int)) hnz
  have hbl := Int.emod_lt_of_pos pb (show (0 : Int) < n by omega)
  have hzm := Int.emod_nonneg pz (b := (n : Int)) hnz
  have hzl := Int.emod_lt_of_pos pz (show (0 : Int) < n by omega)
  obtain ⟨a, ha⟩ : ∃ a : Nat, pb % (n : Int) = a := ⟨(pb % (n : Int)).toNat, by omega⟩
  obtain ⟨b, hb⟩ : ∃ b : Nat, pz % (n : Int) = b := ⟨(pz % (n : Int)).toNat, by omega⟩
  have ha1 : a < n := by omega
  have hb1 : b < n := by omega
  have hF := tabs_facts ⟨n, by omega⟩ ⟨a, by omega⟩ ⟨b, by omega⟩ hn0 ha1 hb1
  dsimp only at hF
  have hl1 : (tabs1 n a).length = n := by unfold tabs1; rw [setD_len]; simp
  have hl2 : (tabs2 n a b).length = n := by unfold tabs2; rw [setD_len]; exact hl1
  have HF := Lib.hid hF
  have HL := Lib.hid (And.intro hl1 hl2)
  have HN := Lib.hid hn
  have HE := Lib.hid (show setD (tabs1 n a) (b : Int) (2, 3) = tabs2 n a b from rfl)
  clear hF hl1 hl2
  have ha' : pb.tmod (n : Int) = a := by rw [Int.tmod_eq_emod_of_nonneg p10]; exact ha
  have hb' : pz.tmod (n : Int) = b := by rw [Int.tmod_eq_emod_of_nonneg p20]; exact hb
  go_wp2_with fail
  refine (tableNew_any _ _).mono ?_
  rw [btw_true (show (1 : Int) ≤ n by omega) (show (n : Int) ≤ 32 by omega)]
  simp only [Int.toNat_natCast, if_true]
  rintro e w2 ⟨v2, rfl, h2, k2⟩
  obtain ⟨s2, d2, rfl, h2⟩ := h2.opened
  have H2 := Lib.hid (show TB w1.heap.size w2.heap.size w2 (.agg #[.slice s2 (List.replicate n ((0 : Int), (0 : Int))).length d2]) (List.replicate n (0, 0)) from h2)
  simp only [List.length_replicate] at H2
  simp only [List.length_replicate]
  have q2 := k1.keep k2
  have c1 := (Keep.grown k2 none).cell c1 (by simp)
  have c2 := (Keep.grown k2 none).cell c2 (by simp)
  have z1 := k1.size
  have z2 := k2.size
  have lg : g < w2.heap.size := by omega
  have bB := Blk.new w2 31 #[.slice s2 n d2]
  have cB0 := bB.cell 0
  have fB0 := bB.frozen 0
  have BB := Lib.hid bB
  clear h2 k2 k1 c0 bB
  go_wp2_with fail
  refine (setPage_any _ _ _ _ _ (H2.out.keep ((Chg.refl 0 0 w2).alloc _)) (by simp; omega)).mono ?_
  rw [show setD (List.replicate n (0, 0)) (a : Int) (1, 3) = tabs1 n a from rfl]
  rintro e w3 ⟨v3, rfl, h3, k3⟩
  obtain ⟨s3, d3, rfl, h3⟩ := h3.opened
  have H3 := Lib.hid h3
  have hx := HL.out.1
  generalize tabs1 n a = t1 at *
  rw [hx] at H3 h3
  rw [hx]
  clear hx
  have z3 := k3.size
  simp only [size_alloc] at z3 h3
  have bB := BB.out.keep k3
  have cB0 := bB.cell 0
  have fB0 := bB.frozen 0
  have lB := bB.lt
  have hch : Chg w2.heap.size (w2.heap.size + 1) w3 (w3.setCell ⟨w2.heap.size, 0, none⟩ (.slice s3 n d3)) := (Chg.refl _ _ _).set _ 0 _ (.inl ⟨Nat.le_refl _, Nat.lt_succ_self _⟩)
  have h4 := h3.mv hch (by omega)
  have bB4 := bB.set_ 0 (.slice s3 n d3)
  simp at bB4
  have Q3 := Lib.hid (q2.keep (Chg.keep ((Chg.refl 0 0 w2).alloc (.cells #[.slice s2 n d2] 31 (0, 0))) k3))
  have HCH := Lib.hid hch
  have BB4 := Lib.hid bB4
  clear h3 k3 bB hch bB4 c1 c2
  go_wp2_with fail
  refine (setPage_any _ _ _ _ _ h4 (by have := HL.out.1; omega)).mono ?_
  rw [HE.out, HF.out.1]
  rintro e w5 ⟨v5, rfl, h5, k5⟩
  obtain ⟨s5, d5, rfl, h5⟩ := h5.opened
  have hx := HL.out.2
  have hF := HF.out.2
  generalize tabs2 n a b = t2 at *
  rw [hx] at h5
  rw [hx]
  have z4 := HCH.out.size
  have z5 := k5.size
  have bB := BB4.out.keep k5
  have cB0 := bB.cell 0
  have fB0 := bB.frozen 0
  have lB := bB.lt
  have hch : Chg w2.heap.size (w2.heap.size + 1) w5 (w5.setCell ⟨w2.heap.size, 0, none⟩ (.slice s5 n d5)) := (Chg.refl _ _ _).set _ 0 _ (.inl ⟨Nat.le_refl _, Nat.lt_succ_self _⟩)
  have H6 := Lib.hid (h5.mv hch (by omega))
  have bB6 := bB.set_ 0 (.slice s5 n d5)
  simp at bB6
  have BB6 := Lib.hid bB6
  have HCH2 := Lib.hid hch
  have K5 := Lib.hid k5
  have HF2 := Lib.hid hF
  have htl : t2.length ≤ 9 := by omega
  clear h5 h4 k5 bB hch bB6 hF hx
  go_wp2_with fail
  refine (pagesOn_any _ _ _ H6.out (by omega)).mono ?_
  rintro e w7 ⟨v7, rfl, h7, k7⟩
  obtain ⟨o7, e7, rfl, -, -⟩ := SI.opened h7
  have cB0 := (BB6.out.keep k7).cell 0
  have H7 := Lib.hid (H6.out.keep k7)
  rw [HF2.out.1]
  obtain ⟨-, F2, F3, F4, F5⟩ := HF2.out
  have HF3 := Lib.hid (show mappedD t2 = _ ∧ entryD t2 b = (2, 3) ∧ tableOkB t2 4 = true ∧ tableOkB t2 3 = false from ⟨F2, F3, F4, F5⟩)
  have BB7 := Lib.hid (BB6.out.keep k7)
  have hbl : ∀ w8, Keep w7 w8 → Below w.heap.size w w8 := fun w8 k8 => (((Keep.below Q3.out).trans (Chg.below HCH.out (by have := Q3.out.size; omega) (.inl (by omega)))).trans (Chg.below K5.out (by have := Q3.out.size; omega) (.inr (Nat.le_refl _)))).trans ((Chg.below HCH2.out (by have := Q3.out.size; omega) (.inl (by omega))).trans (Chg.below (k7.keep k8) (by have := Q3.out.size; have := HCH2.out.size; omega) (.inr (Nat.le_refl _))))
  have HBL := Lib.hid hbl
  clear F2 F3 F4 F5 hbl
  by_cases hab : a = b
  · rw [if_pos hab] at *
    go_wp2_with fail
    refine (mappedPages_any _ _ H7.out (by omega)).mono ?_
    rw [HF3.out.1]
    rintro e w8 ⟨rfl, k8⟩
    have cB0 := (BB7.out.keep k8).cell 0
    go_wp2_with fail
    refine (pageEntry_any _ _ _ (H7.out.keep k8) (by omega)).mono ?_
    rw [HF3.out.2.1]
    rintro e w9 ⟨rfl, k9⟩
    have k79 := k8.keep k9
    have cB0 := (BB7.out.keep k79).cell 0
    go_wp2_with fail
    refine (tableOk_any _ _ _ (H7.out.keep k79) (by omega)).mono ?_
    rw [HF3.out.2.2.1]
    rintro e wA ⟨rfl, kA⟩
    have k7A := k79.keep kA
    have cB0 := (BB7.out.keep k7A).cell 0
    go_wp2_with fail
    refine (tableOk_any _ _ _ (H7.out.keep k7A) (by omega)).mono ?_
    rw [HF3.out.2.2.2]
    rintro e wB ⟨rfl, kB⟩
    go_wp2_with fail
    go_ret
    exact ⟨rfl, HBL.out _ (k7A.keep kB)⟩
  · rw [if_neg hab] at *
    go_wp2_with fail
    refine (mappedPages_any _ _ H7.out (by omega)).mono ?_
    rw [HF3.out.1]
    rintro e w8 ⟨rfl, k8⟩
    have cB0 := (BB7.out.keep k8).cell 0
    go_wp2_with fail
    refine (pageEntry_any _ _ _ (H7.out.keep k8) (by omega)).mono ?_
    rw [HF3.out.2.1]
    rintro e w9 ⟨rfl, k9⟩
    have k79 := k8.keep k9
    have cB0 := (BB7.out.keep k79).cell 0
    go_wp2_with fail
    refine (tableOk_any _ _ _ (H7.out.keep k79) (by omega)).mono ?_
    rw [HF3.out.2.2.1]
    rintro e wA ⟨rfl, kA⟩
    have k7A := k79.keep kA
    have cB0 := (BB7.out.keep k7A).cell 0
    go_wp2_with fail
    refine (tableOk_any _ _ _ (H7.out.keep k7A) (by omega)).mono ?_
    rw [HF3.out.2.2.2]
    rintro e wB ⟨rfl, kB⟩
    go_wp2_with fail
    go_ret
    exact ⟨rfl, HBL.out _ (k7A.keep kB)⟩

theorem own : ownKnob Try.prog.godebug = none := by kernel_rfl
theorem laidOut : laidOutB Try.prog = true := by kernel_rfl
set_option maxRecDepth 100000 in
theorem lifted (os : Os) (started : os.Started) (H : Type) (enc : TypeId × Value → H) :
    ReturnsInHanded {} Try.checked os 7 .any (Rows.fnTablesSpec.pre6 enc Try.prog Try.f7 Rows.fnTablesRow.domain false) (Rows.fnTablesSpec.post enc Try.prog Try.f7 false true false false) := by
  refine returnsInHanded_of_change (C := Try.checked) own started (by kernel_rfl) Try.func7
    (ChangeSpec.witness6 (enc := enc) (C := Try.checked) false ⟨#[], #[.slice none 0 0], []⟩ 8 (by kernel_rfl) (by kernel_rfl) (by kernel_rfl) (by kernel_rfl)) ?_
  intro W base args ds gs before hval0 hW hcnd _
  have hval : ∀ (j : Nat) t v, Try.f7.params[j]? = some t → args[j]? = some v → Value.okWide Try.prog W .any base t v := hval0
  have hW' := hW
  obtain ⟨p, q, hA0, hV, rfl, hfz, hnd⟩ := hW
  have hA : DataW.TrodAll enc Try.prog W 0 (fun _ => true) true Try.f7.params.toList args.toList ds p := hA0
  rw [Try.params7] at hA hval
  obtain ⟨v0, vs0, d0, ds0, p0, q0, hargs, rfl, rfl, h0, r0⟩ := trodAll_cons hA
  obtain ⟨rfl, rfl, rfl⟩ := trodAll_nil r0
  obtain rfl : args = #[v0] := by cases args; simp_all
  obtain ⟨rfl, rfl⟩ := trodVars_none hV
  have k0 := h0
  have lt0 : ∀ x ∈ p0, x.block < W.heap.size := by obtain ⟨m, hm⟩ := k0; exact DataW.trod_lt m _ _ _ hm
  obtain ⟨a0, len0, cap0, rfl⟩ := okWide_slice Try.underlying43 (hval 0 43 v0 rfl rfl)
  have w0 : Code W.heap.size W a0 len0 := open_code h0
  clear hA0 hval0
  refine (walk a0 len0 cap0 W w0).mono fun e W' ⟨he, bel⟩ => ?_
  subst he
  exact ⟨_, rfl, _, _, _, [], _, [], hW', trodAll_mk1 (shut_bool Try.underlying4 _), (trodAll_cons_mk (Below.trod laidOut (by kernel_rfl) (of_decide_eq_true (by kernel_rfl)) k0 bel lt0) trodAll_mk0), rfl, bel.frame _, fun h => by cases h⟩

theorem over : Rows.fnTablesRow.holds Try.pinned (OpenSpec.ofChange Rows.fnTablesSpec) :=
  OpenClaim.holds_of_wide 7 Try.f7 rfl rfl rfl rfl rfl rfl rfl ⟨rfl, rfl, rfl, rfl, rfl⟩ rfl rfl rfl rfl rfl (by kernel_rfl) Try.func7 (by kernel_rfl)
    (of_decide_eq_true (by kernel_rfl)) (by unfold Func.isWrapper; first | (rw [if_pos (by decide +kernel)]; kernel_rfl) | (rw [if_neg (by decide +kernel)]; exact ⟨rfl, rfl⟩))
    (fun os started H enc _ => lifted os started H enc)

/-- The statement. -/
theorem proved : Rows.FnTablesSaid := over
#print axioms proved
end Go.Proofs.Ytdodclahcjfajaa.fnTables
