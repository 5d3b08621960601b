/- The Go law FnPageText returns true for all arguments and leaves its arguments as they were. Conditions: none. The frame follows the kit's shell; the walk is mine. -/
import Derived.Test.YtodbpbgpfacgcaaRows
import Derived.WalkKit
import Derived.ProofKit
import Derived.OpenShut
import Derived.Test.YtodbpbgpfacgcaaOpenCode
import Derived.Test.YtodbpbgpfacgcaaDrawMa
import Derived.Test.YtodbpbgpfacgcaaPgText
import Derived.Test.YtodbpbgpfacgcaaMa3
import Derived.Test.YtodbpbgpfacgcaaMa2
import Derived.Deep.RegionHeld3
import Derived.ShutString
import Derived.ChangeOld
import Derived.Below
namespace Go.Proofs.Ytodbpbgpfacgcaa.fnPageText
open Go.ChangeShapes Go.WideShapes Go.ChangeAt Go.RowKit
open Go.ChangeMaps (open_string shut_string)
set_option linter.unusedVariables false
set_option linter.unusedSimpArgs false

theorem addr_small : ∀ page : Fin 8, ∀ k : Fin 16, IntKind.i64.wrap (IntKind.i64.wrap (16 * (page.val : Int)) + (k.val : Int)) = 16 * (page.val : Int) + (k.val : Int) := by decide +kernel
theorem pagetext_facts {m : MaD} (h : MOk m) {page : Nat} {k : Nat} (hk : k < 16) :
    ((entryD m.tb page).1 = 0 → pageTextD m page = [] ∧ loadC m (16 * (page : Int) + k) = 1) ∧
    ((entryD m.tb page).1 ≠ 0 → loadC m (16 * (page : Int) + k) = 0 ∧ (pageTextD m page).length = 16 ∧ (pageTextD m page).getD k 0 = loadD m (16 * (page : Int) + k)) := by
  have hok := machineOk_iff.2 h
  have e1 : (16 * (page : Int) + k) / 16 = page := by omega
  have e2 : ((16 * (page : Int) + k) % 16).toNat = k := by omega
  have e3 : entryAtD m (16 * (page : Int) + k) = entryD m.tb page := by
    unfold entryAtD
    rw [hok, decide_eq_true (show 0 ≤ 16 * (page : Int) + k by omega), e1]; rfl
  constructor
  · intro h0
    exact ⟨pg_no1 h0, (load_no (by rw [e3]; exact h0)).2⟩
  · intro h0
    obtain ⟨l1, l2⟩ := load_yes (show (entryAtD m (16 * (page : Int) + k)).1 ≠ 0 by rw [e3]; exact h0)
    refine ⟨l2, ?_, ?_⟩
    · rw [pg_yes hok h0]; exact (pg_parts hok h0).2.2
    · rw [pg_yes hok h0, l1, e3, e2]
set_option maxHeartbeats 4000000 in
theorem walk (a0 : Option Addr) (len0 cap0 : Nat) (w : World) (w0 : Code w.heap.size w a0 len0) :
    Calls Try.prog 4 #[.slice a0 len0 cap0] w fun e w' => e = .returned (.bool true) ∧ Below w.heap.size w w' := by
  by_cases hbig : (1048576 : Int) < len0
  · go_enter Try.func4, Try.ntmps4
    go_wp2_with (go_at_call 13; refine (big_any _ _ _ _).mono ?_; rintro e w' ⟨rfl, rfl⟩)
    go_ret
    exact ⟨rfl, Below.refl _ _⟩
  go_enter Try.func4, Try.ntmps4
  go_wp2_with (go_at_call 13; refine (big_any _ _ _ _).mono ?_; rintro e w' ⟨rfl, rfl⟩)
  refine (drawMachine_any _ _ _ _ (by omega) w0).mono ?_
  rintro e w1 ⟨v1, m, rfl, hm, ok, h5, h8, k1⟩
  have k1s := k1.size
  have hs : sm_Machine m := sm_smallM ok
  have htl := ok.tb.len0
  obtain ⟨b1, d1, b2, d2, b3, d3, rfl, hf, hse⟩ := hm.slices
  have hcode := w0.keep (k1.alloc (.cells #[.slice b1 m.fr.cells.length d1, .slice b2 m.fr.used.length d2, .slice b3 m.tb.length d3] 36 (0, 0)))
  clear w0
  have HM := Lib.hid hm
  have OK := Lib.hid ok
  clear hf hse hm ok
  go_wp2_with fail
  refine (places_any _ _ _ _ (by omega) hcode).mono ?_
  rintro e w2 ⟨g, c, p, rfl, hc, hg, hgs, hp, hb⟩
  have k2 := Keep.of_below hb
  have s2 := k2.size
  simp only [size_alloc] at s2 hg
  have bM := (Blk.new w1 36 #[.slice b1 m.fr.cells.length d1, .slice b2 m.fr.used.length d2, .slice b3 m.tb.length d3]).keep k2
  have cM0 := bM.cell 0
  have cM1 := bM.cell 1
  have cM2 := bM.cell 2
  have q2 : Keep w w2 := (k1.alloc _).keep k2
  have H2 := Lib.hid (HM.out.keep (Chg.keep ((Chg.refl 0 0 w1).alloc (.cells #[.slice b1 m.fr.cells.length d1, .slice b2 m.fr.used.length d2, .slice b3 m.tb.length d3] 36 (0, 0))) k2))
  obtain ⟨p00, p01, c0⟩ := hp 0 (by decide)
  obtain ⟨p10, p11, c1⟩ := hp 1 (by decide)
  have BM := Lib.hid bM
  clear hcode hp hb k1 k2 bM
  generalize p 0 = pa at *
  generalize p 1 = pb at *
  have hnz : ¬ (m.tb.length : Int) = 0 := by omega
  have hnz2 : ¬ m.tb.length = 0 := by omega
  have hnz3 : ¬ m.tb = [] := fun e => by rw [e] at htl; simp at htl
  have hpm := Int.emod_nonneg pa hnz
  have hpl := Int.emod_lt_of_pos pa (show (0 : Int) < m.tb.length by omega)
  obtain ⟨page, hpage⟩ : ∃ page : Nat, pa % (m.tb.length : Int) = page := ⟨(pa % (m.tb.length : Int)).toNat, by omega⟩
  obtain ⟨k, hk⟩ : ∃ k : Nat, pb % 16 = k := ⟨(pb % 16).toNat, by omega⟩
  have hk16 : k < 16 := by omega
  have hpg8 : page < 8 := by omega
  have hpa : pa.tmod (m.tb.length : Int) = page := by rw [Int.tmod_eq_emod_of_nonneg p00]; exact hpage
  have hpb : pb.tmod 16 = k := by rw [Int.tmod_eq_emod_of_nonneg p10]; exact hk
  have HP := Lib.hid (pagetext_facts OK.out (page := page) hk16)
  clear hpm hpl
  go_wp2_with fail
  go_region_held3 (fun z => z.cell? ⟨g, 0, none⟩ = some (.int .i64 pa) ∧ z.cell? ⟨w1.heap.size, 2, none⟩ = some (.slice b3 m.tb.length d3)) (first | exact ⟨(Keep.grown ((Chg.refl 0 0 w2).drew) none).cell c0 (by simp), (Keep.grown ((Chg.refl 0 0 w2).drew) none).cell cM2 (by simp)⟩ | go_keep) (fail)
  have k3 : Keep w2 w2.drew := (Chg.refl 0 0 w2).drew
  have H3 := Lib.hid (H2.out.keep k3)
  have BM3 := Lib.hid (BM.out.keep k3)
  have q3 := q2.keep k3
  have c1 := (Keep.grown k3 none).cell c1 (by simp)
  have cM0 := BM3.out.cell 0
  have cM1 := BM3.out.cell 1
  have cM2 := BM3.out.cell 2
  have hgs3 : g < w2.drew.heap.size := hgs
  generalize w2.drew = w3 at *
  clear k3 c0 hgs
  go_wp2_with fail
  refine (pageText_any _ _ _ H3.out hs).mono ?_
  rintro e w4 ⟨v4, rfl, h4, k4⟩
  have q4 := q3.keep k4
  have H4 := Lib.hid (H3.out.keep k4)
  have BM4 := Lib.hid (BM3.out.keep k4)
  have c1 := (Keep.grown k4 none).cell c1 (by simp)
  have cM0 := BM4.out.cell 0
  have cM1 := BM4.out.cell 1
  have cM2 := BM4.out.cell 2
  have SI4 := Lib.hid h4
  obtain ⟨a4, d4, rfl, -, -⟩ := SI.opened h4
  have HS4 := Lib.hid (show ∀ z, Keep w4 z → (z.cell? ⟨w1.heap.size, 0, none⟩ = some (.slice b1 m.fr.cells.length d1) ∧ z.cell? ⟨w1.heap.size, 1, none⟩ = some (.slice b2 m.fr.used.length d2) ∧ z.cell? ⟨w1.heap.size, 2, none⟩ = some (.slice b3 m.tb.length d3) ∧ z.cell? ⟨g, 1, none⟩ = some (.int .i64 pb)) from fun z kz => ⟨(BM4.out.keep kz).cell 0, (BM4.out.keep kz).cell 1, (BM4.out.keep kz).cell 2, (Keep.grown kz none).cell c1 (by simp)⟩)
  clear h4 k4
  have hwr : IntKind.i64.wrap (IntKind.i64.wrap (16 * (page : Int)) + k) = 16 * (page : Int) + k := addr_small ⟨page, hpg8⟩ ⟨k, hk16⟩
  go_wp2_with fail
  go_region_held3 (fun z => z.cell? ⟨w1.heap.size, 0, none⟩ = some (.slice b1 m.fr.cells.length d1) ∧ z.cell? ⟨w1.heap.size, 1, none⟩ = some (.slice b2 m.fr.used.length d2) ∧ z.cell? ⟨w1.heap.size, 2, none⟩ = some (.slice b3 m.tb.length d3) ∧ z.cell? ⟨g, 1, none⟩ = some (.int .i64 pb)) (first | exact HS4.out _ ((Chg.refl 0 0 w4).drew) | exact HS4.out _ kr) (first | (go_at_call 20; refine (load_any _ _ _ (H4.out.keep ((Chg.refl 0 0 w4).drew)) hs (by omega)).mono ?_; rintro e w5 ⟨rfl, k5⟩; have kr : Keep w4 w5 := ((Chg.refl 0 0 w4).drew).keep k5))
  have q5 := q4.keep kr
  obtain ⟨cM0, cM1, cM2, c1⟩ := HS4.out _ kr
  have BM5 := Lib.hid (BM4.out.keep kr)
  have HM5 := Lib.hid (H4.out.keep kr)
  have OKB := Lib.hid (machineOk_iff.2 OK.out)
  have hkI : (k : Int) < 16 := by omega
  by_cases h0 : (entryD m.tb page).1 = 0
  · obtain ⟨t1, t2⟩ := HP.out.1 h0
    rw [t1, t2]
    clear t1 t2
    obtain ⟨s1, s2, s3, e, -, hse⟩ := HM5.out
    have e := e
    simp at e
    obtain ⟨-, -, rfl⟩ := e
    have HSE := Lib.hid hse
    clear hse
    set_option maxRecDepth 100000 in
    go_wp2_with fail
    refine (pageEntry_spec _ _ _ ⟨_, rfl, HSE.out⟩ (by omega)).mono ?_
    rintro e w6 ⟨rfl, k6⟩
    have cM0 := (BM5.out.keep k6).cell 0
    have cM1 := (BM5.out.keep k6).cell 1
    have cM2 := (BM5.out.keep k6).cell 2
    rw [h0]
    have hfd : ∀ (x y : Int) (w : World), (Instr.field 44 (.agg #[.int .i64 x, .int .i64 y]) 0).run Try.prog w = .ok (.int .i64 x) w := fun _ _ _ => by kernel_rfl
    set_option maxRecDepth 100000 in
    go_wp2_with fail
    refine (machineOk_any _ _ (HM5.out.keep k6) hs).mono ?_
    rw [OKB.out]
    rintro e w7 ⟨rfl, k7⟩
    set_option maxRecDepth 100000 in
    go_wp2_with fail
    go_ret
    exact ⟨rfl, Keep.below ((q5.keep k6).keep k7)⟩
  · obtain ⟨t1, t2, t3⟩ := HP.out.2 h0
    obtain ⟨gT, rfl, _, _, lT, cT, _⟩ := (SI4.out.keep kr).at k (by rw [t2]; exact hk16)
    rw [t3] at cT
    rw [t1, t2]
    clear t1 t2 t3 SI4
    generalize loadD m (16 * (page : Int) + k) = ld at *
    set_option maxRecDepth 100000 in
    go_wp2_with fail
    go_ret
    exact ⟨rfl, Keep.below q5⟩

theorem own : ownKnob Try.prog.godebug = none := by kernel_rfl
theorem laidOut : laidOutB Try.prog = true := by kernel_rfl
set_option maxRecDepth 100000 in
theorem lifted (os : Os) (started : os.Started) (H : Type) (enc : TypeId × Value → H) :
    ReturnsInHanded {} Try.checked os 4 .any (Rows.fnPageTextSpec.pre6 enc Try.prog Try.f4 Rows.fnPageTextRow.domain false) (Rows.fnPageTextSpec.post enc Try.prog Try.f4 false true false false) := by
  refine returnsInHanded_of_change (C := Try.checked) own started (by kernel_rfl) Try.func4
    (ChangeSpec.witness6 (enc := enc) (C := Try.checked) false ⟨#[], #[.slice none 0 0], []⟩ 8 (by kernel_rfl) (by kernel_rfl) (by kernel_rfl) (by kernel_rfl)) ?_
  intro W base args ds gs before hval0 hW hcnd _
  have hval : ∀ (j : Nat) t v, Try.f4.params[j]? = some t → args[j]? = some v → Value.okWide Try.prog W .any base t v := hval0
  have hW' := hW
  obtain ⟨p, q, hA0, hV, rfl, hfz, hnd⟩ := hW
  have hA : DataW.TrodAll enc Try.prog W 0 (fun _ => true) true Try.f4.params.toList args.toList ds p := hA0
  rw [Try.params4] at hA hval
  obtain ⟨v0, vs0, d0, ds0, p0, q0, hargs, rfl, rfl, h0, r0⟩ := trodAll_cons hA
  obtain ⟨rfl, rfl, rfl⟩ := trodAll_nil r0
  obtain rfl : args = #[v0] := by cases args; simp_all
  obtain ⟨rfl, rfl⟩ := trodVars_none hV
  have k0 := h0
  have lt0 : ∀ x ∈ p0, x.block < W.heap.size := by obtain ⟨m, hm⟩ := k0; exact DataW.trod_lt m _ _ _ hm
  obtain ⟨a0, len0, cap0, rfl⟩ := okWide_slice Try.underlying22 (hval 0 22 v0 rfl rfl)
  have w0 : Code W.heap.size W a0 len0 := open_code h0
  clear hA0 hval0
  refine (walk a0 len0 cap0 W w0).mono fun e W' ⟨he, bel⟩ => ?_
  subst he
  exact ⟨_, rfl, _, _, _, [], _, [], hW', trodAll_mk1 (shut_bool Try.underlying4 _), (trodAll_cons_mk (Below.trod laidOut (by kernel_rfl) (of_decide_eq_true (by kernel_rfl)) k0 bel lt0) trodAll_mk0), rfl, bel.frame _, fun h => by cases h⟩

theorem over : Rows.fnPageTextRow.holds Try.pinned (OpenSpec.ofChange Rows.fnPageTextSpec) :=
  OpenClaim.holds_of_wide 4 Try.f4 rfl rfl rfl rfl rfl rfl rfl ⟨rfl, rfl, rfl, rfl, rfl⟩ rfl rfl rfl rfl rfl (by kernel_rfl) Try.func4 (by kernel_rfl)
    (of_decide_eq_true (by kernel_rfl)) (by unfold Func.isWrapper; first | (rw [if_pos (by decide +kernel)]; kernel_rfl) | (rw [if_neg (by decide +kernel)]; exact ⟨rfl, rfl⟩))
    (fun os started H enc _ => lifted os started H enc)

/-- The statement. -/
theorem proved : Rows.FnPageTextSaid := over
#print axioms proved
end Go.Proofs.Ytodbpbgpfacgcaa.fnPageText
