/- The Go law FnKernel returns true for all arguments and leaves its arguments as they were. Conditions: none. The frame follows the kit's shell; the walk is mine. -/
import Derived.Test.YtkcoehkfhffjkaaRows
import Derived.WalkKit
import Derived.ProofKit
import Derived.OpenShut
import Derived.Test.YtkcoehkfhffjkaaOpenCode
import Derived.Test.YtkcoehkfhffjkaaDrawKe
import Derived.Test.YtkcoehkfhffjkaaSameMa
import Derived.Test.YtkcoehkfhffjkaaKeNew
import Derived.Test.YtkcoehkfhffjkaaKeMade
import Derived.Deep.RegionHeld3
import Derived.Deep.Cut
import Derived.ShutString
import Derived.ChangeOld
import Derived.Below
namespace Go.Proofs.Ytkcoehkfhffjkaa.fnKernel
open Go.ChangeShapes Go.WideShapes Go.ChangeAt Go.RowKit
open Go.ChangeMaps (open_string shut_string)
set_option linter.unusedVariables false
set_option linter.unusedSimpArgs false

theorem chg_cell {l h : Nat} {w w' : World} (hc : Chg l h w w') {g i : Nat} {v : Value} (hv : w.cell? ⟨g, i, none⟩ = some v) (hd : g < l ∨ h ≤ g) : w'.cell? ⟨g, i, none⟩ = some v := by
  have hl := World.block_lt_of_cell? w _ hv
  have e := hc.block g hl hd
  simpa [World.cell?, e] using hv
theorem sm_ok {k : KeD} (h : KOk k) : sm_Kernel k := by
  have := sm_smallM h.ma
  have := h.len
  unfold sm_Kernel
  omega
/-- What the law asks of a call's answer. -/
structure Ans (k y : KeD) (ok : Bool) (last : Bool) : Prop where
  good : KOk y
  same : ok = false → y.ma = k.ma
  calls : (y.calls == k.calls) = last
theorem can_of {k : KeD} (h : KOk k) (hc : k.calls ≤ 5) : canB k = true := canB_iff.2 ⟨by omega, h⟩
theorem succ_ne (n : Int) : (n + 1 == n) = false := beq_eq_false_iff_ne.2 (by omega)
theorem ans_new {k : KeD} (h : KOk k) (hc : k.calls ≤ 5) (p : Int) : Ans k (mapNewD k p) (mapNewOk k p) false := by
  refine ⟨mapNewD_ok h p, fun e => ?_, ?_⟩
  · unfold mapNewD; rw [e, can_of h hc]; rfl
  · unfold mapNewD
    split
    · exact succ_ne _
    · rw [can_of h hc]; exact succ_ne _
theorem ans_on {k : KeD} (h : KOk k) (hc : k.calls ≤ 5) (p o : Int) : Ans k (mapOnD k p o) (mapOnOk k p o) false := by
  refine ⟨mapOnD_ok h p o, fun e => ?_, ?_⟩
  · unfold mapOnD; rw [e, can_of h hc]; rfl
  · unfold mapOnD
    split
    · exact succ_ne _
    · rw [can_of h hc]; exact succ_ne _
theorem ans_prot {k : KeD} (h : KOk k) (hc : k.calls ≤ 5) (p m : Int) : Ans k (protD k p m) (protOk k p m) false := by
  refine ⟨protD_ok h p m, fun e => ?_, ?_⟩
  · unfold protD; rw [e, can_of h hc]; rfl
  · unfold protD
    split
    · exact succ_ne _
    · rw [can_of h hc]; exact succ_ne _
theorem ans_unmap {k : KeD} (h : KOk k) (p : Int) : Ans k (unmapD k p) (unmapOk k p) true := by
  refine ⟨unmapD_ok h p, fun e => ?_, ?_⟩
  · unfold unmapD; rw [e]; rfl
  · unfold unmapD
    split <;> exact beq_self_eq_true _
set_option maxHeartbeats 4000000 in
theorem walk (a0 : Option Addr) (len0 cap0 : Nat) (w : World) (w0 : Code w.heap.size w a0 len0) :
    Calls Try.prog 8 #[.slice a0 len0 cap0] w fun e w' => e = .returned (.bool true) ∧ Below w.heap.size w w' := by
  by_cases hbig : (1048576 : Int) < len0
  · go_enter Try.func8, Try.ntmps8
    go_wp2_with (go_at_call 29; refine (big_any _ _ _ _).mono ?_; rintro e w' ⟨rfl, rfl⟩)
    go_ret
    exact ⟨rfl, Below.refl _ _⟩
  go_enter Try.func8, Try.ntmps8
  go_wp2_with (go_at_call 29; refine (big_any _ _ _ _).mono ?_; rintro e w' ⟨rfl, rfl⟩)
  refine (drawKernel_any _ _ _ _ (by omega) w0).mono ?_
  rintro e w1 ⟨v1, k, rfl, hk, ok, hc5, h5, h8, k1⟩
  obtain ⟨b1, d1, b2, d2, b3, d3, b4, d4, rfl, hm, hr⟩ := hk.slices
  have hk := KE.mk hm hr
  have hs : sm_Kernel k := sm_ok ok
  have sw := k1.size
  have htl := ok.ma.tb.len0
  have kB : Keep w1 (w1.alloc (.cells #[.slice b1 k.ma.fr.cells.length d1, .slice b2 k.ma.fr.used.length d2, .slice b3 k.ma.tb.length d3, .int .i64 k.calls, .slice b4 k.refuse.length d4] 47 (0, 0))) := (Chg.refl 0 0 w1).alloc _
  have hcode := w0.keep (k1.keep kB)
  have OK := Lib.hid ok
  clear w0 hm hr ok
  go_wp2_with fail
  refine (places_any _ _ _ _ (by omega) hcode).mono ?_
  rintro e w2 ⟨g, c, p, rfl, hc, hg, hgs, hp, hb⟩
  have k2 := Keep.of_below hb
  obtain ⟨p00, p01, c0⟩ := hp 0 (by decide)
  obtain ⟨p10, p11, c1⟩ := hp 1 (by decide)
  obtain ⟨p20, p21, c2⟩ := hp 2 (by decide)
  obtain ⟨p30, p31, c3⟩ := hp 3 (by decide)
  have q2 : Keep w1 w2 := kB.keep k2
  have s2 := k2.size
  simp only [size_alloc] at s2 hg
  have bK := (Blk.new w1 47 #[.slice b1 k.ma.fr.cells.length d1, .slice b2 k.ma.fr.used.length d2, .slice b3 k.ma.tb.length d3, .int .i64 k.calls, .slice b4 k.refuse.length d4]).keep k2
  have HK := Lib.hid (hk.keep q2)
  have BK := Lib.hid bK
  have Q2 := Lib.hid (k1.keep q2)
  have o0 := bK.cell 0; have o1 := bK.cell 1; have o2 := bK.cell 2; have o3 := bK.cell 3; have o4 := bK.cell 4; have lK := bK.lt
  clear hcode hp hb k2 kB bK hk k1 q2
  generalize p 0 = pa at *
  generalize p 1 = pb at *
  generalize p 2 = pc at *
  generalize p 3 = pd at *
  have a0' := Int.emod_nonneg pa (b := (k.ma.tb.length : Int)) (by omega)
  have a1' := Int.emod_lt_of_pos pa (show (0 : Int) < k.ma.tb.length by omega)
  have b0' := Int.emod_nonneg pb (b := (k.ma.tb.length : Int)) (by omega)
  have b1' := Int.emod_lt_of_pos pb (show (0 : Int) < k.ma.tb.length by omega)
  have hpc : pc.tmod 4 = pc % 4 := Int.tmod_eq_emod_of_nonneg p20
  have hpd : pd.tmod 2 = pd % 2 := Int.tmod_eq_emod_of_nonneg p30
  have s0 := Int.emod_nonneg pc (b := 4) (by omega)
  have s1 := Int.emod_lt_of_pos pc (show (0 : Int) < 4 by omega)
  have hs4 : pc % 4 = 0 ∨ pc % 4 = 1 ∨ pc % 4 = 2 ∨ pc % 4 = 3 := by omega
  rcases hs4 with hs4 | hs4 | hs4 | hs4
  · go_wp2_with fail
    have kX : Keep w2 (w2.alloc (.cells #[.slice b1 k.ma.fr.cells.length d1, .slice b2 k.ma.fr.used.length d2, .slice b3 k.ma.tb.length d3, .int .i64 k.calls, .slice b4 k.refuse.length d4] 47 (0, 0))) := (Chg.refl 0 0 w2).alloc _
    have HALL := Lib.hid (And.intro (And.intro (And.intro (BK.out.keep kX) (HK.out.keep kX)) (And.intro (Blk.new w2 47 #[.slice b1 k.ma.fr.cells.length d1, .slice b2 k.ma.fr.used.length d2, .slice b3 k.ma.tb.length d3, .int .i64 k.calls, .slice b4 k.refuse.length d4]) (Q2.out.keep kX))) (And.intro ((Keep.grown kX none).cell c2 (by simp)) (And.intro ((Keep.grown kX none).cell c3 (by simp)) (show (w2.alloc (.cells #[.slice b1 k.ma.fr.cells.length d1, .slice b2 k.ma.fr.used.length d2, .slice b3 k.ma.tb.length d3, .int .i64 k.calls, .slice b4 k.refuse.length d4] 47 (0, 0))).heap.size = w2.heap.size + 1 from size_alloc _ _))))
    clear o0 o1 o2 o3 o4 lK c0 c1 c2 c3 kX BK HK Q2
    generalize w2.alloc (.cells #[.slice b1 k.ma.fr.cells.length d1, .slice b2 k.ma.fr.used.length d2, .slice b3 k.ma.tb.length d3, .int .i64 k.calls, .slice b4 k.refuse.length d4] 47 (0, 0)) = W at *
    obtain ⟨⟨⟨bK, hk⟩, bX, qW⟩, c2, c3, zW⟩ := HALL.out
    have BK := Lib.hid bK
    have HK := Lib.hid hk
    have BX := Lib.hid bX
    have QW := Lib.hid qW
    have lX : w2.heap.size < W.heap.size := by omega
    have ZW := Lib.hid zW
    have o0 := bK.cell 0; have o1 := bK.cell 1; have o2 := bK.cell 2; have o3 := bK.cell 3; have o4 := bK.cell 4; have lK := bK.lt
    clear HALL bK hk bX qW zW
    have HANS := Lib.hid (ans_new OK.out hc5 (pa % (k.ma.tb.length : Int)))
    refine (kMapNew_any _ _ _ HK.out hs).mono ?_
    generalize mapNewD k (pa % (k.ma.tb.length : Int)) = y at *
    generalize mapNewOk k (pa % (k.ma.tb.length : Int)) = ok at *
    rintro e w4 ⟨v4, rfl, h4, k4⟩
    obtain ⟨x1, z1, x2, z2, x3, z3, x4, z4, rfl, hm4, hr4⟩ := h4.slices
    have h4 := KE.mk hm4 hr4
    clear hm4 hr4 o0 o1 o2 o3 o4 lK
    have s4 := k4.size
    have bK := BK.out.keep k4
    have bX := BX.out.keep k4
    have o0 := bK.cell 0; have o1 := bK.cell 1; have o2 := bK.cell 2; have o3 := bK.cell 3; have o4 := bK.cell 4; have lK := bK.lt
    have t0 := bX.cell 0; have t1 := bX.cell 1; have t2 := bX.cell 2; have t3 := bX.cell 3; have t4 := bX.cell 4; have f0 := bX.frozen 0; have f1 := bX.frozen 1; have f2 := bX.frozen 2; have f3 := bX.frozen 3; have f4 := bX.frozen 4; have lX := bX.lt
    have c2 := (Keep.grown k4 none).cell c2 (by simp)
    have c3 := (Keep.grown k4 none).cell c3 (by simp)
    have H4 := Lib.hid h4
    have K4 := Lib.hid k4
    have BK4 := Lib.hid bK
    have BX4 := Lib.hid bX
    clear h4 k4 bK bX BK BX
    cases ok
    · go_wp2_with fail
      have zW := ZW.out
      have CH := ((((((Chg.refl w2.heap.size (w2.heap.size + 1) w4).set w2.heap.size 0 (.slice x1 y.ma.fr.cells.length z1) (.inl ⟨Nat.le_refl _, Nat.lt_succ_self _⟩)).set w2.heap.size 1 (.slice x2 y.ma.fr.used.length z2) (.inl ⟨Nat.le_refl _, Nat.lt_succ_self _⟩)).set w2.heap.size 2 (.slice x3 y.ma.tb.length z3) (.inl ⟨Nat.le_refl _, Nat.lt_succ_self _⟩)).set w2.heap.size 3 (.int .i64 y.calls) (.inl ⟨Nat.le_refl _, Nat.lt_succ_self _⟩)).set w2.heap.size 4 (.slice x4 y.refuse.length z4) (.inl ⟨Nat.le_refl _, Nat.lt_succ_self _⟩))
      have HV := Lib.hid (And.intro (And.intro ((blk_sets5 BX4.out (.slice x1 y.ma.fr.cells.length z1) (.slice x2 y.ma.fr.used.length z2) (.slice x3 y.ma.tb.length z3) (.int .i64 y.calls) (.slice x4 y.refuse.length z4)).2) (BK4.out.mv CH (by omega))) (And.intro (And.intro (H4.out.mv CH (by omega)) ((HK.out.keep K4.out).mv CH (by omega))) (And.intro (chg_cell CH c2 (by omega)) ((QW.out.keep K4.out).comp CH (.inl (by omega))))))
      clear CH t0 t1 t2 t3 t4 f0 f1 f2 f3 f4 lX o0 o1 o2 o3 o4 lK c2 c3
      generalize (((((w4.setCell ⟨w2.heap.size, 0, none⟩ (.slice x1 y.ma.fr.cells.length z1)).setCell ⟨w2.heap.size, 1, none⟩ (.slice x2 y.ma.fr.used.length z2)).setCell ⟨w2.heap.size, 2, none⟩ (.slice x3 y.ma.tb.length z3)).setCell ⟨w2.heap.size, 3, none⟩ (.int .i64 y.calls)).setCell ⟨w2.heap.size, 4, none⟩ (.slice x4 y.refuse.length z4)) = V at *
      obtain ⟨⟨bX, bK⟩, ⟨h5', hk5⟩, c2, qV⟩ := HV.out
      have H5 := Lib.hid h5'
      have HK5 := Lib.hid hk5
      have QV := Lib.hid qV
      have BX5 := Lib.hid bX
      have BK5 := Lib.hid bK
      have hok : kernelOkB y = true := kernelOk_iff.2 HANS.out.good
      have hsy : sm_Kernel y := sm_ok HANS.out.good
      have hcl := HANS.out.calls
      have t0 := bX.cell 0; have t1 := bX.cell 1; have t2 := bX.cell 2; have t3 := bX.cell 3; have t4 := bX.cell 4; have f0 := bX.frozen 0; have f1 := bX.frozen 1; have f2 := bX.frozen 2; have f3 := bX.frozen 3; have f4 := bX.frozen 4; have lX := bX.lt
      have o0 := bK.cell 0; have o1 := bK.cell 1; have o2 := bK.cell 2; have o3 := bK.cell 3; have o4 := bK.cell 4; have lK := bK.lt
      clear HV bX bK h5' hk5 qV zW
      have hsm := HANS.out.same rfl
      have hMX : MA W.heap.size w4.heap.size V (.agg #[.slice x1 y.ma.fr.cells.length z1, .slice x2 y.ma.fr.used.length z2, .slice x3 y.ma.tb.length z3]) y.ma := MA.mk H5.out.parts.1 H5.out.parts.2.1
      have hMK : MA w.heap.size w1.heap.size V (.agg #[.slice b1 k.ma.fr.cells.length d1, .slice b2 k.ma.fr.used.length d2, .slice b3 k.ma.tb.length d3]) y.ma := by rw [hsm]; exact MA.mk HK5.out.parts.1 HK5.out.parts.2.1
      have HMX := Lib.hid hMX
      have HMK := Lib.hid hMK
      clear hsm hMX hMK
      have HS := Lib.hid (show ∀ z, Keep V z → (z.cell? ⟨w2.heap.size, 0, none⟩ = some (.slice x1 y.ma.fr.cells.length z1) ∧ z.cell? ⟨w2.heap.size, 1, none⟩ = some (.slice x2 y.ma.fr.used.length z2) ∧ z.cell? ⟨w2.heap.size, 2, none⟩ = some (.slice x3 y.ma.tb.length z3) ∧ z.cell? ⟨w2.heap.size, 3, none⟩ = some (.int .i64 y.calls) ∧ z.cell? ⟨w2.heap.size, 4, none⟩ = some (.slice x4 y.refuse.length z4) ∧ z.cell? ⟨g, 2, none⟩ = some (.int .i64 pc) ∧ z.cell? ⟨w1.heap.size, 3, none⟩ = some (.int .i64 k.calls) ∧ z.cell? ⟨w1.heap.size, 0, none⟩ = some (.slice b1 k.ma.fr.cells.length d1) ∧ z.cell? ⟨w1.heap.size, 1, none⟩ = some (.slice b2 k.ma.fr.used.length d2) ∧ z.cell? ⟨w1.heap.size, 2, none⟩ = some (.slice b3 k.ma.tb.length d3)) from fun z hz => ⟨(BX5.out.keep hz).cell 0, (BX5.out.keep hz).cell 1, (BX5.out.keep hz).cell 2, (BX5.out.keep hz).cell 3, (BX5.out.keep hz).cell 4, (Keep.grown hz none).cell c2 (by simp), (BK5.out.keep hz).cell 3, (BK5.out.keep hz).cell 0, (BK5.out.keep hz).cell 1, (BK5.out.keep hz).cell 2⟩)
      set_option maxRecDepth 100000 in
      go_region_held3 (fun z => z.cell? ⟨w2.heap.size, 0, none⟩ = some (.slice x1 y.ma.fr.cells.length z1) ∧ z.cell? ⟨w2.heap.size, 1, none⟩ = some (.slice x2 y.ma.fr.used.length z2) ∧ z.cell? ⟨w2.heap.size, 2, none⟩ = some (.slice x3 y.ma.tb.length z3) ∧ z.cell? ⟨w2.heap.size, 3, none⟩ = some (.int .i64 y.calls) ∧ z.cell? ⟨w2.heap.size, 4, none⟩ = some (.slice x4 y.refuse.length z4) ∧ z.cell? ⟨g, 2, none⟩ = some (.int .i64 pc) ∧ z.cell? ⟨w1.heap.size, 3, none⟩ = some (.int .i64 k.calls) ∧ z.cell? ⟨w1.heap.size, 0, none⟩ = some (.slice b1 k.ma.fr.cells.length d1) ∧ z.cell? ⟨w1.heap.size, 1, none⟩ = some (.slice b2 k.ma.fr.used.length d2) ∧ z.cell? ⟨w1.heap.size, 2, none⟩ = some (.slice b3 k.ma.tb.length d3)) (first | with_reducible exact HS.out _ ((Chg.refl 0 0 V).drew) | with_reducible exact HS.out _ kr2 | with_reducible exact HS.out _ kr1) (first | (go_at_call 42; refine (sameMachine_same _ _ _ (HMX.out.keep ((Chg.refl 0 0 V).drew)) (HMK.out.keep ((Chg.refl 0 0 V).drew)) hsy.ma).mono ?_; rintro e Y1 ⟨rfl, kk1⟩; have kr1 : Keep V Y1 := Chg.keep ((Chg.refl 0 0 V).drew) kk1; have hx := HS.out Y1 kr1; obtain ⟨t0, t1, t2, t3, t4, c2, o3, o0, o1, o2⟩ := hx) | (go_at_call 33; refine (kernelOk_any _ _ (H5.out.keep kr1) hsy).mono ?_; rw [hok]; rintro e Y2 ⟨rfl, kk2⟩; have kr2 : Keep V Y2 := Chg.keep kr1 kk2; have hx := HS.out Y2 kr2; obtain ⟨t0, t1, t2, t3, t4, c2, o3, o0, o1, o2⟩ := hx))
      all_goals
        go_wp2_with fail
        go_ret
        exact ⟨rfl, Keep.below (QV.out.keep kr2)⟩
    · go_wp2_with fail
      have zW := ZW.out
      have CH := ((((((Chg.refl w2.heap.size (w2.heap.size + 1) w4).set w2.heap.size 0 (.slice x1 y.ma.fr.cells.length z1) (.inl ⟨Nat.le_refl _, Nat.lt_succ_self _⟩)).set w2.heap.size 1 (.slice x2 y.ma.fr.used.length z2) (.inl ⟨Nat.le_refl _, Nat.lt_succ_self _⟩)).set w2.heap.size 2 (.slice x3 y.ma.tb.length z3) (.inl ⟨Nat.le_refl _, Nat.lt_succ_self _⟩)).set w2.heap.size 3 (.int .i64 y.calls) (.inl ⟨Nat.le_refl _, Nat.lt_succ_self _⟩)).set w2.heap.size 4 (.slice x4 y.refuse.length z4) (.inl ⟨Nat.le_refl _, Nat.lt_succ_self _⟩))
      have HV := Lib.hid (And.intro (And.intro ((blk_sets5 BX4.out (.slice x1 y.ma.fr.cells.length z1) (.slice x2 y.ma.fr.used.length z2) (.slice x3 y.ma.tb.length z3) (.int .i64 y.calls) (.slice x4 y.refuse.length z4)).2) (BK4.out.mv CH (by omega))) (And.intro (And.intro (H4.out.mv CH (by omega)) ((HK.out.keep K4.out).mv CH (by omega))) (And.intro (chg_cell CH c2 (by omega)) ((QW.out.keep K4.out).comp CH (.inl (by omega))))))
      clear CH t0 t1 t2 t3 t4 f0 f1 f2 f3 f4 lX o0 o1 o2 o3 o4 lK c2 c3
      generalize (((((w4.setCell ⟨w2.heap.size, 0, none⟩ (.slice x1 y.ma.fr.cells.length z1)).setCell ⟨w2.heap.size, 1, none⟩ (.slice x2 y.ma.fr.used.length z2)).setCell ⟨w2.heap.size, 2, none⟩ (.slice x3 y.ma.tb.length z3)).setCell ⟨w2.heap.size, 3, none⟩ (.int .i64 y.calls)).setCell ⟨w2.heap.size, 4, none⟩ (.slice x4 y.refuse.length z4)) = V at *
      obtain ⟨⟨bX, bK⟩, ⟨h5', hk5⟩, c2, qV⟩ := HV.out
      have H5 := Lib.hid h5'
      have HK5 := Lib.hid hk5
      have QV := Lib.hid qV
      have BX5 := Lib.hid bX
      have BK5 := Lib.hid bK
      have hok : kernelOkB y = true := kernelOk_iff.2 HANS.out.good
      have hsy : sm_Kernel y := sm_ok HANS.out.good
      have hcl := HANS.out.calls
      have t0 := bX.cell 0; have t1 := bX.cell 1; have t2 := bX.cell 2; have t3 := bX.cell 3; have t4 := bX.cell 4; have f0 := bX.frozen 0; have f1 := bX.frozen 1; have f2 := bX.frozen 2; have f3 := bX.frozen 3; have f4 := bX.frozen 4; have lX := bX.lt
      have o0 := bK.cell 0; have o1 := bK.cell 1; have o2 := bK.cell 2; have o3 := bK.cell 3; have o4 := bK.cell 4; have lK := bK.lt
      clear HV bX bK h5' hk5 qV zW
      have HS := Lib.hid (show ∀ z, Keep V z → (z.cell? ⟨w2.heap.size, 0, none⟩ = some (.slice x1 y.ma.fr.cells.length z1) ∧ z.cell? ⟨w2.heap.size, 1, none⟩ = some (.slice x2 y.ma.fr.used.length z2) ∧ z.cell? ⟨w2.heap.size, 2, none⟩ = some (.slice x3 y.ma.tb.length z3) ∧ z.cell? ⟨w2.heap.size, 3, none⟩ = some (.int .i64 y.calls) ∧ z.cell? ⟨w2.heap.size, 4, none⟩ = some (.slice x4 y.refuse.length z4) ∧ z.cell? ⟨g, 2, none⟩ = some (.int .i64 pc) ∧ z.cell? ⟨w1.heap.size, 3, none⟩ = some (.int .i64 k.calls)) from fun z hz => ⟨(BX5.out.keep hz).cell 0, (BX5.out.keep hz).cell 1, (BX5.out.keep hz).cell 2, (BX5.out.keep hz).cell 3, (BX5.out.keep hz).cell 4, (Keep.grown hz none).cell c2 (by simp), (BK5.out.keep hz).cell 3⟩)
      set_option maxRecDepth 100000 in
      go_region_held3 (fun z => z.cell? ⟨w2.heap.size, 0, none⟩ = some (.slice x1 y.ma.fr.cells.length z1) ∧ z.cell? ⟨w2.heap.size, 1, none⟩ = some (.slice x2 y.ma.fr.used.length z2) ∧ z.cell? ⟨w2.heap.size, 2, none⟩ = some (.slice x3 y.ma.tb.length z3) ∧ z.cell? ⟨w2.heap.size, 3, none⟩ = some (.int .i64 y.calls) ∧ z.cell? ⟨w2.heap.size, 4, none⟩ = some (.slice x4 y.refuse.length z4) ∧ z.cell? ⟨g, 2, none⟩ = some (.int .i64 pc) ∧ z.cell? ⟨w1.heap.size, 3, none⟩ = some (.int .i64 k.calls)) (first | with_reducible exact HS.out _ ((Chg.refl 0 0 V).drew) | with_reducible exact HS.out _ kr1) (first | (go_at_call 33; refine (kernelOk_any _ _ (H5.out.keep ((Chg.refl 0 0 V).drew)) hsy).mono ?_; rw [hok]; rintro e Y1 ⟨rfl, kk1⟩; have kr1 : Keep V Y1 := Chg.keep ((Chg.refl 0 0 V).drew) kk1; have hx := HS.out Y1 kr1; obtain ⟨t0, t1, t2, t3, t4, c2, o3⟩ := hx))
      all_goals
        go_wp2_with fail
        go_ret
        exact ⟨rfl, Keep.below (QV.out.keep kr1)⟩
  · go_wp2_with fail
    have kX : Keep w2 (w2.alloc (.cells #[.slice b1 k.ma.fr.cells.length d1, .slice b2 k.ma.fr.used.length d2, .slice b3 k.ma.tb.length d3, .int .i64 k.calls, .slice b4 k.refuse.length d4] 47 (0, 0))) := (Chg.refl 0 0 w2).alloc _
    have HALL := Lib.hid (And.intro (And.intro (And.intro (BK.out.keep kX) (HK.out.keep kX)) (And.intro (Blk.new w2 47 #[.slice b1 k.ma.fr.cells.length d1, .slice b2 k.ma.fr.used.length d2, .slice b3 k.ma.tb.length d3, .int .i64 k.calls, .slice b4 k.refuse.length d4]) (Q2.out.keep kX))) (And.intro ((Keep.grown kX none).cell c2 (by simp)) (And.intro ((Keep.grown kX none).cell c3 (by simp)) (show (w2.alloc (.cells #[.slice b1 k.ma.fr.cells.length d1, .slice b2 k.ma.fr.used.length d2, .slice b3 k.ma.tb.length d3, .int .i64 k.calls, .slice b4 k.refuse.length d4] 47 (0, 0))).heap.size = w2.heap.size + 1 from size_alloc _ _))))
    clear o0 o1 o2 o3 o4 lK c0 c1 c2 c3 kX BK HK Q2
    generalize w2.alloc (.cells #[.slice b1 k.ma.fr.cells.length d1, .slice b2 k.ma.fr.used.length d2, .slice b3 k.ma.tb.length d3, .int .i64 k.calls, .slice b4 k.refuse.length d4] 47 (0, 0)) = W at *
    obtain ⟨⟨⟨bK, hk⟩, bX, qW⟩, c2, c3, zW⟩ := HALL.out
    have BK := Lib.hid bK
    have HK := Lib.hid hk
    have BX := Lib.hid bX
    have QW := Lib.hid qW
    have lX : w2.heap.size < W.heap.size := by omega
    have ZW := Lib.hid zW
    have o0 := bK.cell 0; have o1 := bK.cell 1; have o2 := bK.cell 2; have o3 := bK.cell 3; have o4 := bK.cell 4; have lK := bK.lt
    clear HALL bK hk bX qW zW
    have HANS := Lib.hid (ans_on OK.out hc5 (pa % (k.ma.tb.length : Int)) (pb % (k.ma.tb.length : Int)))
    refine (kMapOn_any _ _ _ _ HK.out hs).mono ?_
    generalize mapOnD k (pa % (k.ma.tb.length : Int)) (pb % (k.ma.tb.length : Int)) = y at *
    generalize mapOnOk k (pa % (k.ma.tb.length : Int)) (pb % (k.ma.tb.length : Int)) = ok at *
    rintro e w4 ⟨v4, rfl, h4, k4⟩
    obtain ⟨x1, z1, x2, z2, x3, z3, x4, z4, rfl, hm4, hr4⟩ := h4.slices
    have h4 := KE.mk hm4 hr4
    clear hm4 hr4 o0 o1 o2 o3 o4 lK
    have s4 := k4.size
    have bK := BK.out.keep k4
    have bX := BX.out.keep k4
    have o0 := bK.cell 0; have o1 := bK.cell 1; have o2 := bK.cell 2; have o3 := bK.cell 3; have o4 := bK.cell 4; have lK := bK.lt
    have t0 := bX.cell 0; have t1 := bX.cell 1; have t2 := bX.cell 2; have t3 := bX.cell 3; have t4 := bX.cell 4; have f0 := bX.frozen 0; have f1 := bX.frozen 1; have f2 := bX.frozen 2; have f3 := bX.frozen 3; have f4 := bX.frozen 4; have lX := bX.lt
    have c2 := (Keep.grown k4 none).cell c2 (by simp)
    have c3 := (Keep.grown k4 none).cell c3 (by simp)
    have H4 := Lib.hid h4
    have K4 := Lib.hid k4
    have BK4 := Lib.hid bK
    have BX4 := Lib.hid bX
    clear h4 k4 bK bX BK BX
    cases ok
    · go_wp2_with fail
      have zW := ZW.out
      have CH := ((((((Chg.refl w2.heap.size (w2.heap.size + 1) w4).set w2.heap.size 0 (.slice x1 y.ma.fr.cells.length z1) (.inl ⟨Nat.le_refl _, Nat.lt_succ_self _⟩)).set w2.heap.size 1 (.slice x2 y.ma.fr.used.length z2) (.inl ⟨Nat.le_refl _, Nat.lt_succ_self _⟩)).set w2.heap.size 2 (.slice x3 y.ma.tb.length z3) (.inl ⟨Nat.le_refl _, Nat.lt_succ_self _⟩)).set w2.heap.size 3 (.int .i64 y.calls) (.inl ⟨Nat.le_refl _, Nat.lt_succ_self _⟩)).set w2.heap.size 4 (.slice x4 y.refuse.length z4) (.inl ⟨Nat.le_refl _, Nat.lt_succ_self _⟩))
      have HV := Lib.hid (And.intro (And.intro ((blk_sets5 BX4.out (.slice x1 y.ma.fr.cells.length z1) (.slice x2 y.ma.fr.used.length z2) (.slice x3 y.ma.tb.length z3) (.int .i64 y.calls) (.slice x4 y.refuse.length z4)).2) (BK4.out.mv CH (by omega))) (And.intro (And.intro (H4.out.mv CH (by omega)) ((HK.out.keep K4.out).mv CH (by omega))) (And.intro (chg_cell CH c2 (by omega)) ((QW.out.keep K4.out).comp CH (.inl (by omega))))))
      clear CH t0 t1 t2 t3 t4 f0 f1 f2 f3 f4 lX o0 o1 o2 o3 o4 lK c2 c3
      generalize (((((w4.setCell ⟨w2.heap.size, 0, none⟩ (.slice x1 y.ma.fr.cells.length z1)).setCell ⟨w2.heap.size, 1, none⟩ (.slice x2 y.ma.fr.used.length z2)).setCell ⟨w2.heap.size, 2, none⟩ (.slice x3 y.ma.tb.length z3)).setCell ⟨w2.heap.size, 3, none⟩ (.int .i64 y.calls)).setCell ⟨w2.heap.size, 4, none⟩ (.slice x4 y.refuse.length z4)) = V at *
      obtain ⟨⟨bX, bK⟩, ⟨h5', hk5⟩, c2, qV⟩ := HV.out
      have H5 := Lib.hid h5'
      have HK5 := Lib.hid hk5
      have QV := Lib.hid qV
      have BX5 := Lib.hid bX
      have BK5 := Lib.hid bK
      have hok : kernelOkB y = true := kernelOk_iff.2 HANS.out.good
      have hsy : sm_Kernel y := sm_ok HANS.out.good
      have hcl := HANS.out.calls
      have t0 := bX.cell 0; have t1 := bX.cell 1; have t2 := bX.cell 2; have t3 := bX.cell 3; have t4 := bX.cell 4; have f0 := bX.frozen 0; have f1 := bX.frozen 1; have f2 := bX.frozen 2; have f3 := bX.frozen 3; have f4 := bX.frozen 4; have lX := bX.lt
      have o0 := bK.cell 0; have o1 := bK.cell 1; have o2 := bK.cell 2; have o3 := bK.cell 3; have o4 := bK.cell 4; have lK := bK.lt
      clear HV bX bK h5' hk5 qV zW
      have hsm := HANS.out.same rfl
      have hMX : MA W.heap.size w4.heap.size V (.agg #[.slice x1 y.ma.fr.cells.length z1, .slice x2 y.ma.fr.used.length z2, .slice x3 y.ma.tb.length z3]) y.ma := MA.mk H5.out.parts.1 H5.out.parts.2.1
      have hMK : MA w.heap.size w1.heap.size V (.agg #[.slice b1 k.ma.fr.cells.length d1, .slice b2 k.ma.fr.used.length d2, .slice b3 k.ma.tb.length d3]) y.ma := by rw [hsm]; exact MA.mk HK5.out.parts.1 HK5.out.parts.2.1
      have HMX := Lib.hid hMX
      have HMK := Lib.hid hMK
      clear hsm hMX hMK
      have HS := Lib.hid (show ∀ z, Keep V z → (z.cell? ⟨w2.heap.size, 0, none⟩ = some (.slice x1 y.ma.fr.cells.length z1) ∧ z.cell? ⟨w2.heap.size, 1, none⟩ = some (.slice x2 y.ma.fr.used.length z2) ∧ z.cell? ⟨w2.heap.size, 2, none⟩ = some (.slice x3 y.ma.tb.length z3) ∧ z.cell? ⟨w2.heap.size, 3, none⟩ = some (.int .i64 y.calls) ∧ z.cell? ⟨w2.heap.size, 4, none⟩ = some (.slice x4 y.refuse.length z4) ∧ z.cell? ⟨g, 2, none⟩ = some (.int .i64 pc) ∧ z.cell? ⟨w1.heap.size, 3, none⟩ = some (.int .i64 k.calls) ∧ z.cell? ⟨w1.heap.size, 0, none⟩ = some (.slice b1 k.ma.fr.cells.length d1) ∧ z.cell? ⟨w1.heap.size, 1, none⟩ = some (.slice b2 k.ma.fr.used.length d2) ∧ z.cell? ⟨w1.heap.size, 2, none⟩ = some (.slice b3 k.ma.tb.length d3)) from fun z hz => ⟨(BX5.out.keep hz).cell 0, (BX5.out.keep hz).cell 1, (BX5.out.keep hz).cell 2, (BX5.out.keep hz).cell 3, (BX5.out.keep hz).cell 4, (Keep.grown hz none).cell c2 (by simp), (BK5.out.keep hz).cell 3, (BK5.out.keep hz).cell 0, (BK5.out.keep hz).cell 1, (BK5.out.keep hz).cell 2⟩)
      set_option maxRecDepth 100000 in
      go_region_held3 (fun z => z.cell? ⟨w2.heap.size, 0, none⟩ = some (.slice x1 y.ma.fr.cells.length z1) ∧ z.cell? ⟨w2.heap.size, 1, none⟩ = some (.slice x2 y.ma.fr.used.length z2) ∧ z.cell? ⟨w2.heap.size, 2, none⟩ = some (.slice x3 y.ma.tb.length z3) ∧ z.cell? ⟨w2.heap.size, 3, none⟩ = some (.int .i64 y.calls) ∧ z.cell? ⟨w2.heap.size, 4, none⟩ = some (.slice x4 y.refuse.length z4) ∧ z.cell? ⟨g, 2, none⟩ = some (.int .i64 pc) ∧ z.cell? ⟨w1.heap.size, 3, none⟩ = some (.int .i64 k.calls) ∧ z.cell? ⟨w1.heap.size, 0, none⟩ = some (.slice b1 k.ma.fr.cells.length d1) ∧ z.cell? ⟨w1.heap.size, 1, none⟩ = some (.slice b2 k.ma.fr.used.length d2) ∧ z.cell? ⟨w1.heap.size, 2, none⟩ = some (.slice b3 k.ma.tb.length d3)) (first | with_reducible exact HS.out _ ((Chg.refl 0 0 V).drew) | with_reducible exact HS.out _ kr2 | with_reducible exact HS.out _ kr1) (first | (go_at_call 42; refine (sameMachine_same _ _ _ (HMX.out.keep ((Chg.refl 0 0 V).drew)) (HMK.out.keep ((Chg.refl 0 0 V).drew)) hsy.ma).mono ?_; rintro e Y1 ⟨rfl, kk1⟩; have kr1 : Keep V Y1 := Chg.keep ((Chg.refl 0 0 V).drew) kk1; have hx := HS.out Y1 kr1; obtain ⟨t0, t1, t2, t3, t4, c2, o3, o0, o1, o2⟩ := hx) | (go_at_call 33; refine (kernelOk_any _ _ (H5.out.keep kr1) hsy).mono ?_; rw [hok]; rintro e Y2 ⟨rfl, kk2⟩; have kr2 : Keep V Y2 := Chg.keep kr1 kk2; have hx := HS.out Y2 kr2; obtain ⟨t0, t1, t2, t3, t4, c2, o3, o0, o1, o2⟩ := hx))
      all_goals
        go_wp2_with fail
        go_ret
        exact ⟨rfl, Keep.below (QV.out.keep kr2)⟩
    · go_wp2_with fail
      have zW := ZW.out
      have CH := ((((((Chg.refl w2.heap.size (w2.heap.size + 1) w4).set w2.heap.size 0 (.slice x1 y.ma.fr.cells.length z1) (.inl ⟨Nat.le_refl _, Nat.lt_succ_self _⟩)).set w2.heap.size 1 (.slice x2 y.ma.fr.used.length z2) (.inl ⟨Nat.le_refl _, Nat.lt_succ_self _⟩)).set w2.heap.size 2 (.slice x3 y.ma.tb.length z3) (.inl ⟨Nat.le_refl _, Nat.lt_succ_self _⟩)).set w2.heap.size 3 (.int .i64 y.calls) (.inl ⟨Nat.le_refl _, Nat.lt_succ_self _⟩)).set w2.heap.size 4 (.slice x4 y.refuse.length z4) (.inl ⟨Nat.le_refl _, Nat.lt_succ_self _⟩))
      have HV := Lib.hid (And.intro (And.intro ((blk_sets5 BX4.out (.slice x1 y.ma.fr.cells.length z1) (.slice x2 y.ma.fr.used.length z2) (.slice x3 y.ma.tb.length z3) (.int .i64 y.calls) (.slice x4 y.refuse.length z4)).2) (BK4.out.mv CH (by omega))) (And.intro (And.intro (H4.out.mv CH (by omega)) ((HK.out.keep K4.out).mv CH (by omega))) (And.intro (chg_cell CH c2 (by omega)) ((QW.out.keep K4.out).comp CH (.inl (by omega))))))
      clear CH t0 t1 t2 t3 t4 f0 f1 f2 f3 f4 lX o0 o1 o2 o3 o4 lK c2 c3
      generalize (((((w4.setCell ⟨w2.heap.size, 0, none⟩ (.slice x1 y.ma.fr.cells.length z1)).setCell ⟨w2.heap.size, 1, none⟩ (.slice x2 y.ma.fr.used.length z2)).setCell ⟨w2.heap.size, 2, none⟩ (.slice x3 y.ma.tb.length z3)).setCell ⟨w2.heap.size, 3, none⟩ (.int .i64 y.calls)).setCell ⟨w2.heap.size, 4, none⟩ (.slice x4 y.refuse.length z4)) = V at *
      obtain ⟨⟨bX, bK⟩, ⟨h5', hk5⟩, c2, qV⟩ := HV.out
      have H5 := Lib.hid h5'
      have HK5 := Lib.hid hk5
      have QV := Lib.hid qV
      have BX5 := Lib.hid bX
      have BK5 := Lib.hid bK
      have hok : kernelOkB y = true := kernelOk_iff.2 HANS.out.good
      have hsy : sm_Kernel y := sm_ok HANS.out.good
      have hcl := HANS.out.calls
      have t0 := bX.cell 0; have t1 := bX.cell 1; have t2 := bX.cell 2; have t3 := bX.cell 3; have t4 := bX.cell 4; have f0 := bX.frozen 0; have f1 := bX.frozen 1; have f2 := bX.frozen 2; have f3 := bX.frozen 3; have f4 := bX.frozen 4; have lX := bX.lt
      have o0 := bK.cell 0; have o1 := bK.cell 1; have o2 := bK.cell 2; have o3 := bK.cell 3; have o4 := bK.cell 4; have lK := bK.lt
      clear HV bX bK h5' hk5 qV zW
      have HS := Lib.hid (show ∀ z, Keep V z → (z.cell? ⟨w2.heap.size, 0, none⟩ = some (.slice x1 y.ma.fr.cells.length z1) ∧ z.cell? ⟨w2.heap.size, 1, none⟩ = some (.slice x2 y.ma.fr.used.length z2) ∧ z.cell? ⟨w2.heap.size, 2, none⟩ = some (.slice x3 y.ma.tb.length z3) ∧ z.cell? ⟨w2.heap.size, 3, none⟩ = some (.int .i64 y.calls) ∧ z.cell? ⟨w2.heap.size, 4, none⟩ = some (.slice x4 y.refuse.length z4) ∧ z.cell? ⟨g, 2, none⟩ = some (.int .i64 pc) ∧ z.cell? ⟨w1.heap.size, 3, none⟩ = some (.int .i64 k.calls)) from fun z hz => ⟨(BX5.out.keep hz).cell 0, (BX5.out.keep hz).cell 1, (BX5.out.keep hz).cell 2, (BX5.out.keep hz).cell 3, (BX5.out.keep hz).cell 4, (Keep.grown hz none).cell c2 (by simp), (BK5.out.keep hz).cell 3⟩)
      set_option maxRecDepth 100000 in
      go_region_held3 (fun z => z.cell? ⟨w2.heap.size, 0, none⟩ = some (.slice x1 y.ma.fr.cells.length z1) ∧ z.cell? ⟨w2.heap.size, 1, none⟩ = some (.slice x2 y.ma.fr.used.length z2) ∧ z.cell? ⟨w2.heap.size, 2, none⟩ = some (.slice x3 y.ma.tb.length z3) ∧ z.cell? ⟨w2.heap.size, 3, none⟩ = some (.int .i64 y.calls) ∧ z.cell? ⟨w2.heap.size, 4, none⟩ = some (.slice x4 y.refuse.length z4) ∧ z.cell? ⟨g, 2, none⟩ = some (.int .i64 pc) ∧ z.cell? ⟨w1.heap.size, 3, none⟩ = some (.int .i64 k.calls)) (first | with_reducible exact HS.out _ ((Chg.refl 0 0 V).drew) | with_reducible exact HS.out _ kr1) (first | (go_at_call 33; refine (kernelOk_any _ _ (H5.out.keep ((Chg.refl 0 0 V).drew)) hsy).mono ?_; rw [hok]; rintro e Y1 ⟨rfl, kk1⟩; have kr1 : Keep V Y1 := Chg.keep ((Chg.refl 0 0 V).drew) kk1; have hx := HS.out Y1 kr1; obtain ⟨t0, t1, t2, t3, t4, c2, o3⟩ := hx))
      all_goals
        go_wp2_with fail
        go_ret
        exact ⟨rfl, Keep.below (QV.out.keep kr1)⟩
  · go_wp2_with fail
    have kX : Keep w2 (w2.alloc (.cells #[.slice b1 k.ma.fr.cells.length d1, .slice b2 k.ma.fr.used.length d2, .slice b3 k.ma.tb.length d3, .int .i64 k.calls, .slice b4 k.refuse.length d4] 47 (0, 0))) := (Chg.refl 0 0 w2).alloc _
    have HALL := Lib.hid (And.intro (And.intro (And.intro (BK.out.keep kX) (HK.out.keep kX)) (And.intro (Blk.new w2 47 #[.slice b1 k.ma.fr.cells.length d1, .slice b2 k.ma.fr.used.length d2, .slice b3 k.ma.tb.length d3, .int .i64 k.calls, .slice b4 k.refuse.length d4]) (Q2.out.keep kX))) (And.intro ((Keep.grown kX none).cell c2 (by simp)) (And.intro ((Keep.grown kX none).cell c3 (by simp)) (show (w2.alloc (.cells #[.slice b1 k.ma.fr.cells.length d1, .slice b2 k.ma.fr.used.length d2, .slice b3 k.ma.tb.length d3, .int .i64 k.calls, .slice b4 k.refuse.length d4] 47 (0, 0))).heap.size = w2.heap.size + 1 from size_alloc _ _))))
    clear o0 o1 o2 o3 o4 lK c0 c1 c2 c3 kX BK HK Q2
    generalize w2.alloc (.cells #[.slice b1 k.ma.fr.cells.length d1, .slice b2 k.ma.fr.used.length d2, .slice b3 k.ma.tb.length d3, .int .i64 k.calls, .slice b4 k.refuse.length d4] 47 (0, 0)) = W at *
    obtain ⟨⟨⟨bK, hk⟩, bX, qW⟩, c2, c3, zW⟩ := HALL.out
    have BK := Lib.hid bK
    have HK := Lib.hid hk
    have BX := Lib.hid bX
    have QW := Lib.hid qW
    have lX : w2.heap.size < W.heap.size := by omega
    have ZW := Lib.hid zW
    have o0 := bK.cell 0; have o1 := bK.cell 1; have o2 := bK.cell 2; have o3 := bK.cell 3; have o4 := bK.cell 4; have lK := bK.lt
    clear HALL bK hk bX qW zW
    have HANS := Lib.hid (ans_prot OK.out hc5 (pa % (k.ma.tb.length : Int)) (1 + pd % 2))
    have hwd : IntKind.i64.wrap (1 + pd % 2) = 1 + pd % 2 := by rw [IntKind.wrap_i64]; omega
    have HS := Lib.hid (show ∀ z, Chg w2.heap.size (w2.heap.size + 1) W z → (z.cell? ⟨w1.heap.size, 0, none⟩ = some (.slice b1 k.ma.fr.cells.length d1) ∧ z.cell? ⟨w1.heap.size, 1, none⟩ = some (.slice b2 k.ma.fr.used.length d2) ∧ z.cell? ⟨w1.heap.size, 2, none⟩ = some (.slice b3 k.ma.tb.length d3) ∧ z.cell? ⟨w1.heap.size, 3, none⟩ = some (.int .i64 k.calls) ∧ z.cell? ⟨w1.heap.size, 4, none⟩ = some (.slice b4 k.refuse.length d4) ∧ z.cell? ⟨g, 3, none⟩ = some (.int .i64 pd)) from fun z hz => ⟨(BK.out.mv hz (by omega)).cell 0, (BK.out.mv hz (by omega)).cell 1, (BK.out.mv hz (by omega)).cell 2, (BK.out.mv hz (by omega)).cell 3, (BK.out.mv hz (by omega)).cell 4, chg_cell hz c3 (by omega)⟩)
    set_option maxRecDepth 100000 in
    go_region_held3 (fun z => z.cell? ⟨w1.heap.size, 0, none⟩ = some (.slice b1 k.ma.fr.cells.length d1) ∧ z.cell? ⟨w1.heap.size, 1, none⟩ = some (.slice b2 k.ma.fr.used.length d2) ∧ z.cell? ⟨w1.heap.size, 2, none⟩ = some (.slice b3 k.ma.tb.length d3) ∧ z.cell? ⟨w1.heap.size, 3, none⟩ = some (.int .i64 k.calls) ∧ z.cell? ⟨w1.heap.size, 4, none⟩ = some (.slice b4 k.refuse.length d4) ∧ z.cell? ⟨g, 3, none⟩ = some (.int .i64 pd)) (first | with_reducible exact HS.out _ ((Chg.refl _ _ W).drew) | with_reducible exact HS.out _ (Keep.any k4) | with_reducible exact HS.out _ ((((((Keep.any k4).set w2.heap.size 0 (.slice x1 y.ma.fr.cells.length z1) (.inl ⟨Nat.le_refl _, Nat.lt_succ_self _⟩)).set w2.heap.size 1 (.slice x2 y.ma.fr.used.length z2) (.inl ⟨Nat.le_refl _, Nat.lt_succ_self _⟩)).set w2.heap.size 2 (.slice x3 y.ma.tb.length z3) (.inl ⟨Nat.le_refl _, Nat.lt_succ_self _⟩)).set w2.heap.size 3 (.int .i64 y.calls) (.inl ⟨Nat.le_refl _, Nat.lt_succ_self _⟩)).set w2.heap.size 4 (.slice x4 y.refuse.length z4) (.inl ⟨Nat.le_refl _, Nat.lt_succ_self _⟩))) (first | (go_at_call 32; refine (kProtect_any _ _ _ _ (HK.out.keep ((Chg.refl 0 0 W).drew)) hs).mono ?_; generalize protD k (pa % (k.ma.tb.length : Int)) (1 + pd % 2) = y at *; generalize protOk k (pa % (k.ma.tb.length : Int)) (1 + pd % 2) = ok at *; rintro e w4 ⟨v4, rfl, h4, k4⟩; obtain ⟨x1, z1, x2, z2, x3, z3, x4, z4, rfl, hm4, hr4⟩ := h4.slices; have h4 : KE W.heap.size w4.heap.size w4 (.agg #[.slice x1 y.ma.fr.cells.length z1, .slice x2 y.ma.fr.used.length z2, .slice x3 y.ma.tb.length z3, .int .i64 y.calls, .slice x4 y.refuse.length z4]) y := KE.mk hm4 hr4; clear hm4 hr4; have k4 : Keep W w4 := Chg.keep ((Chg.refl 0 0 W).drew) k4; have s4 := k4.size; have bK := BK.out.keep k4; have bX := BX.out.keep k4; have o0 := bK.cell 0; have o1 := bK.cell 1; have o2 := bK.cell 2; have o3 := bK.cell 3; have o4 := bK.cell 4; have lK := bK.lt; have t0 := bX.cell 0; have t1 := bX.cell 1; have t2 := bX.cell 2; have t3 := bX.cell 3; have t4 := bX.cell 4; have f0 := bX.frozen 0; have f1 := bX.frozen 1; have f2 := bX.frozen 2; have f3 := bX.frozen 3; have f4 := bX.frozen 4; have lX := bX.lt; have c2 := (Keep.grown k4 none).cell c2 (by simp); have c3 := (Keep.grown k4 none).cell c3 (by simp); have H4 := Lib.hid h4; have K4 := Lib.hid k4; have BK4 := Lib.hid bK; have BX4 := Lib.hid bX; clear h4 bK bX))
    all_goals
      cases ok
      · go_wp2_with fail
        have zW := ZW.out
        have CH := ((((((Chg.refl w2.heap.size (w2.heap.size + 1) w4).set w2.heap.size 0 (.slice x1 y.ma.fr.cells.length z1) (.inl ⟨Nat.le_refl _, Nat.lt_succ_self _⟩)).set w2.heap.size 1 (.slice x2 y.ma.fr.used.length z2) (.inl ⟨Nat.le_refl _, Nat.lt_succ_self _⟩)).set w2.heap.size 2 (.slice x3 y.ma.tb.length z3) (.inl ⟨Nat.le_refl _, Nat.lt_succ_self _⟩)).set w2.heap.size 3 (.int .i64 y.calls) (.inl ⟨Nat.le_refl _, Nat.lt_succ_self _⟩)).set w2.heap.size 4 (.slice x4 y.refuse.length z4) (.inl ⟨Nat.le_refl _, Nat.lt_succ_self _⟩))
        have HV := Lib.hid (And.intro (And.intro ((blk_sets5 BX4.out (.slice x1 y.ma.fr.cells.length z1) (.slice x2 y.ma.fr.used.length z2) (.slice x3 y.ma.tb.length z3) (.int .i64 y.calls) (.slice x4 y.refuse.length z4)).2) (BK4.out.mv CH (by omega))) (And.intro (And.intro (H4.out.mv CH (by omega)) ((HK.out.keep K4.out).mv CH (by omega))) (And.intro (chg_cell CH c2 (by omega)) ((QW.out.keep K4.out).comp CH (.inl (by omega))))))
        clear CH t0 t1 t2 t3 t4 f0 f1 f2 f3 f4 lX o0 o1 o2 o3 o4 lK c2 c3
        generalize (((((w4.setCell ⟨w2.heap.size, 0, none⟩ (.slice x1 y.ma.fr.cells.length z1)).setCell ⟨w2.heap.size, 1, none⟩ (.slice x2 y.ma.fr.used.length z2)).setCell ⟨w2.heap.size, 2, none⟩ (.slice x3 y.ma.tb.length z3)).setCell ⟨w2.heap.size, 3, none⟩ (.int .i64 y.calls)).setCell ⟨w2.heap.size, 4, none⟩ (.slice x4 y.refuse.length z4)) = V at *
        obtain ⟨⟨bX, bK⟩, ⟨h5', hk5⟩, c2, qV⟩ := HV.out
        have H5 := Lib.hid h5'
        have HK5 := Lib.hid hk5
        have QV := Lib.hid qV
        have BX5 := Lib.hid bX
        have BK5 := Lib.hid bK
        have hok : kernelOkB y = true := kernelOk_iff.2 HANS.out.good
        have hsy : sm_Kernel y := sm_ok HANS.out.good
        have hcl := HANS.out.calls
        have t0 := bX.cell 0; have t1 := bX.cell 1; have t2 := bX.cell 2; have t3 := bX.cell 3; have t4 := bX.cell 4; have f0 := bX.frozen 0; have f1 := bX.frozen 1; have f2 := bX.frozen 2; have f3 := bX.frozen 3; have f4 := bX.frozen 4; have lX := bX.lt
        have o0 := bK.cell 0; have o1 := bK.cell 1; have o2 := bK.cell 2; have o3 := bK.cell 3; have o4 := bK.cell 4; have lK := bK.lt
        clear HV bX bK h5' hk5 qV zW
        have hsm := HANS.out.same rfl
        have hMX : MA W.heap.size w4.heap.size V (.agg #[.slice x1 y.ma.fr.cells.length z1, .slice x2 y.ma.fr.used.length z2, .slice x3 y.ma.tb.length z3]) y.ma := MA.mk H5.out.parts.1 H5.out.parts.2.1
        have hMK : MA w.heap.size w1.heap.size V (.agg #[.slice b1 k.ma.fr.cells.length d1, .slice b2 k.ma.fr.used.length d2, .slice b3 k.ma.tb.length d3]) y.ma := by rw [hsm]; exact MA.mk HK5.out.parts.1 HK5.out.parts.2.1
        have HMX := Lib.hid hMX
        have HMK := Lib.hid hMK
        clear hsm hMX hMK
        have HS := Lib.hid (show ∀ z, Keep V z → (z.cell? ⟨w2.heap.size, 0, none⟩ = some (.slice x1 y.ma.fr.cells.length z1) ∧ z.cell? ⟨w2.heap.size, 1, none⟩ = some (.slice x2 y.ma.fr.used.length z2) ∧ z.cell? ⟨w2.heap.size, 2, none⟩ = some (.slice x3 y.ma.tb.length z3) ∧ z.cell? ⟨w2.heap.size, 3, none⟩ = some (.int .i64 y.calls) ∧ z.cell? ⟨w2.heap.size, 4, none⟩ = some (.slice x4 y.refuse.length z4) ∧ z.cell? ⟨g, 2, none⟩ = some (.int .i64 pc) ∧ z.cell? ⟨w1.heap.size, 3, none⟩ = some (.int .i64 k.calls) ∧ z.cell? ⟨w1.heap.size, 0, none⟩ = some (.slice b1 k.ma.fr.cells.length d1) ∧ z.cell? ⟨w1.heap.size, 1, none⟩ = some (.slice b2 k.ma.fr.used.length d2) ∧ z.cell? ⟨w1.heap.size, 2, none⟩ = some (.slice b3 k.ma.tb.length d3)) from fun z hz => ⟨(BX5.out.keep hz).cell 0, (BX5.out.keep hz).cell 1, (BX5.out.keep hz).cell 2, (BX5.out.keep hz).cell 3, (BX5.out.keep hz).cell 4, (Keep.grown hz none).cell c2 (by simp), (BK5.out.keep hz).cell 3, (BK5.out.keep hz).cell 0, (BK5.out.keep hz).cell 1, (BK5.out.keep hz).cell 2⟩)
        set_option maxRecDepth 100000 in
        go_region_held3 (fun z => z.cell? ⟨w2.heap.size, 0, none⟩ = some (.slice x1 y.ma.fr.cells.length z1) ∧ z.cell? ⟨w2.heap.size, 1, none⟩ = some (.slice x2 y.ma.fr.used.length z2) ∧ z.cell? ⟨w2.heap.size, 2, none⟩ = some (.slice x3 y.ma.tb.length z3) ∧ z.cell? ⟨w2.heap.size, 3, none⟩ = some (.int .i64 y.calls) ∧ z.cell? ⟨w2.heap.size, 4, none⟩ = some (.slice x4 y.refuse.length z4) ∧ z.cell? ⟨g, 2, none⟩ = some (.int .i64 pc) ∧ z.cell? ⟨w1.heap.size, 3, none⟩ = some (.int .i64 k.calls) ∧ z.cell? ⟨w1.heap.size, 0, none⟩ = some (.slice b1 k.ma.fr.cells.length d1) ∧ z.cell? ⟨w1.heap.size, 1, none⟩ = some (.slice b2 k.ma.fr.used.length d2) ∧ z.cell? ⟨w1.heap.size, 2, none⟩ = some (.slice b3 k.ma.tb.length d3)) (first | with_reducible exact HS.out _ ((Chg.refl 0 0 V).drew) | with_reducible exact HS.out _ kr2 | with_reducible exact HS.out _ kr1) (first | (go_at_call 42; refine (sameMachine_same _ _ _ (HMX.out.keep ((Chg.refl 0 0 V).drew)) (HMK.out.keep ((Chg.refl 0 0 V).drew)) hsy.ma).mono ?_; rintro e Y1 ⟨rfl, kk1⟩; have kr1 : Keep V Y1 := Chg.keep ((Chg.refl 0 0 V).drew) kk1; have hx := HS.out Y1 kr1; obtain ⟨t0, t1, t2, t3, t4, c2, o3, o0, o1, o2⟩ := hx) | (go_at_call 33; refine (kernelOk_any _ _ (H5.out.keep kr1) hsy).mono ?_; rw [hok]; rintro e Y2 ⟨rfl, kk2⟩; have kr2 : Keep V Y2 := Chg.keep kr1 kk2; have hx := HS.out Y2 kr2; obtain ⟨t0, t1, t2, t3, t4, c2, o3, o0, o1, o2⟩ := hx))
        all_goals
          go_wp2_with fail
          go_ret
          exact ⟨rfl, Keep.below (QV.out.keep kr2)⟩
      · go_wp2_with fail
        have zW := ZW.out
        have CH := ((((((Chg.refl w2.heap.size (w2.heap.size + 1) w4).set w2.heap.size 0 (.slice x1 y.ma.fr.cells.length z1) (.inl ⟨Nat.le_refl _, Nat.lt_succ_self _⟩)).set w2.heap.size 1 (.slice x2 y.ma.fr.used.length z2) (.inl ⟨Nat.le_refl _, Nat.lt_succ_self _⟩)).set w2.heap.size 2 (.slice x3 y.ma.tb.length z3) (.inl ⟨Nat.le_refl _, Nat.lt_succ_self _⟩)).set w2.heap.size 3 (.int .i64 y.calls) (.inl ⟨Nat.le_refl _, Nat.lt_succ_self _⟩)).set w2.heap.size 4 (.slice x4 y.refuse.length z4) (.inl ⟨Nat.le_refl _, Nat.lt_succ_self _⟩))
        have HV := Lib.hid (And.intro (And.intro ((blk_sets5 BX4.out (.slice x1 y.ma.fr.cells.length z1) (.slice x2 y.ma.fr.used.length z2) (.slice x3 y.ma.tb.length z3) (.int .i64 y.calls) (.slice x4 y.refuse.length z4)).2) (BK4.out.mv CH (by omega))) (And.intro (And.intro (H4.out.mv CH (by omega)) ((HK.out.keep K4.out).mv CH (by omega))) (And.intro (chg_cell CH c2 (by omega)) ((QW.out.keep K4.out).comp CH (.inl (by omega))))))
        clear CH t0 t1 t2 t3 t4 f0 f1 f2 f3 f4 lX o0 o1 o2 o3 o4 lK c2 c3
        generalize (((((w4.setCell ⟨w2.heap.size, 0, none⟩ (.slice x1 y.ma.fr.cells.length z1)).setCell ⟨w2.heap.size, 1, none⟩ (.slice x2 y.ma.fr.used.length z2)).setCell ⟨w2.heap.size, 2, none⟩ (.slice x3 y.ma.tb.length z3)).setCell ⟨w2.heap.size, 3, none⟩ (.int .i64 y.calls)).setCell ⟨w2.heap.size, 4, none⟩ (.slice x4 y.refuse.length z4)) = V at *
        obtain ⟨⟨bX, bK⟩, ⟨h5', hk5⟩, c2, qV⟩ := HV.out
        have H5 := Lib.hid h5'
        have HK5 := Lib.hid hk5
        have QV := Lib.hid qV
        have BX5 := Lib.hid bX
        have BK5 := Lib.hid bK
        have hok : kernelOkB y = true := kernelOk_iff.2 HANS.out.good
        have hsy : sm_Kernel y := sm_ok HANS.out.good
        have hcl := HANS.out.calls
        have t0 := bX.cell 0; have t1 := bX.cell 1; have t2 := bX.cell 2; have t3 := bX.cell 3; have t4 := bX.cell 4; have f0 := bX.frozen 0; have f1 := bX.frozen 1; have f2 := bX.frozen 2; have f3 := bX.frozen 3; have f4 := bX.frozen 4; have lX := bX.lt
        have o0 := bK.cell 0; have o1 := bK.cell 1; have o2 := bK.cell 2; have o3 := bK.cell 3; have o4 := bK.cell 4; have lK := bK.lt
        clear HV bX bK h5' hk5 qV zW
        have HS := Lib.hid (show ∀ z, Keep V z → (z.cell? ⟨w2.heap.size, 0, none⟩ = some (.slice x1 y.ma.fr.cells.length z1) ∧ z.cell? ⟨w2.heap.size, 1, none⟩ = some (.slice x2 y.ma.fr.used.length z2) ∧ z.cell? ⟨w2.heap.size, 2, none⟩ = some (.slice x3 y.ma.tb.length z3) ∧ z.cell? ⟨w2.heap.size, 3, none⟩ = some (.int .i64 y.calls) ∧ z.cell? ⟨w2.heap.size, 4, none⟩ = some (.slice x4 y.refuse.length z4) ∧ z.cell? ⟨g, 2, none⟩ = some (.int .i64 pc) ∧ z.cell? ⟨w1.heap.size, 3, none⟩ = some (.int .i64 k.calls)) from fun z hz => ⟨(BX5.out.keep hz).cell 0, (BX5.out.keep hz).cell 1, (BX5.out.keep hz).cell 2, (BX5.out.keep hz).cell 3, (BX5.out.keep hz).cell 4, (Keep.grown hz none).cell c2 (by simp), (BK5.out.keep hz).cell 3⟩)
        set_option maxRecDepth 100000 in
        go_region_held3 (fun z => z.cell? ⟨w2.heap.size, 0, none⟩ = some (.slice x1 y.ma.fr.cells.length z1) ∧ z.cell? ⟨w2.heap.size, 1, none⟩ = some (.slice x2 y.ma.fr.used.length z2) ∧ z.cell? ⟨w2.heap.size, 2, none⟩ = some (.slice x3 y.ma.tb.length z3) ∧ z.cell? ⟨w2.heap.size, 3, none⟩ = some (.int .i64 y.calls) ∧ z.cell? ⟨w2.heap.size, 4, none⟩ = some (.slice x4 y.refuse.length z4) ∧ z.cell? ⟨g, 2, none⟩ = some (.int .i64 pc) ∧ z.cell? ⟨w1.heap.size, 3, none⟩ = some (.int .i64 k.calls)) (first | with_reducible exact HS.out _ ((Chg.refl 0 0 V).drew) | with_reducible exact HS.out _ kr1) (first | (go_at_call 33; refine (kernelOk_any _ _ (H5.out.keep ((Chg.refl 0 0 V).drew)) hsy).mono ?_; rw [hok]; rintro e Y1 ⟨rfl, kk1⟩; have kr1 : Keep V Y1 := Chg.keep ((Chg.refl 0 0 V).drew) kk1; have hx := HS.out Y1 kr1; obtain ⟨t0, t1, t2, t3, t4, c2, o3⟩ := hx))
        all_goals
          go_wp2_with fail
          go_ret
          exact ⟨rfl, Keep.below (QV.out.keep kr1)⟩
  · go_wp2_with fail
    have kX : Keep w2 (w2.alloc (.cells #[.slice b1 k.ma.fr.cells.length d1, .slice b2 k.ma.fr.used.length d2, .slice b3 k.ma.tb.length d3, .int .i64 k.calls, .slice b4 k.refuse.length d4] 47 (0, 0))) := (Chg.refl 0 0 w2).alloc _
    have HALL := Lib.hid (And.intro (And.intro (And.intro (BK.out.keep kX) (HK.out.keep kX)) (And.intro (Blk.new w2 47 #[.slice b1 k.ma.fr.cells.length d1, .slice b2 k.ma.fr.used.length d2, .slice b3 k.ma.tb.length d3, .int .i64 k.calls, .slice b4 k.refuse.length d4]) (Q2.out.keep kX))) (And.intro ((Keep.grown kX none).cell c2 (by simp)) (And.intro ((Keep.grown kX none).cell c3 (by simp)) (show (w2.alloc (.cells #[.slice b1 k.ma.fr.cells.length d1, .slice b2 k.ma.fr.used.length d2, .slice b3 k.ma.tb.length d3, .int .i64 k.calls, .slice b4 k.refuse.length d4] 47 (0, 0))).heap.size = w2.heap.size + 1 from size_alloc _ _))))
    clear o0 o1 o2 o3 o4 lK c0 c1 c2 c3 kX BK HK Q2
    generalize w2.alloc (.cells #[.slice b1 k.ma.fr.cells.length d1, .slice b2 k.ma.fr.used.length d2, .slice b3 k.ma.tb.length d3, .int .i64 k.calls, .slice b4 k.refuse.length d4] 47 (0, 0)) = W at *
    obtain ⟨⟨⟨bK, hk⟩, bX, qW⟩, c2, c3, zW⟩ := HALL.out
    have BK := Lib.hid bK
    have HK := Lib.hid hk
    have BX := Lib.hid bX
    have QW := Lib.hid qW
    have lX : w2.heap.size < W.heap.size := by omega
    have ZW := Lib.hid zW
    have o0 := bK.cell 0; have o1 := bK.cell 1; have o2 := bK.cell 2; have o3 := bK.cell 3; have o4 := bK.cell 4; have lK := bK.lt
    clear HALL bK hk bX qW zW
    have HANS := Lib.hid (ans_unmap OK.out (pa % (k.ma.tb.length : Int)))
    refine (kUnmap_any _ _ _ HK.out hs).mono ?_
    generalize unmapD k (pa % (k.ma.tb.length : Int)) = y at *
    generalize unmapOk k (pa % (k.ma.tb.length : Int)) = ok at *
    rintro e w4 ⟨v4, rfl, h4, k4⟩
    obtain ⟨x1, z1, x2, z2, x3, z3, x4, z4, rfl, hm4, hr4⟩ := h4.slices
    have h4 := KE.mk hm4 hr4
    clear hm4 hr4 o0 o1 o2 o3 o4 lK
    have s4 := k4.size
    have bK := BK.out.keep k4
    have bX := BX.out.keep k4
    have o0 := bK.cell 0; have o1 := bK.cell 1; have o2 := bK.cell 2; have o3 := bK.cell 3; have o4 := bK.cell 4; have lK := bK.lt
    have t0 := bX.cell 0; have t1 := bX.cell 1; have t2 := bX.cell 2; have t3 := bX.cell 3; have t4 := bX.cell 4; have f0 := bX.frozen 0; have f1 := bX.frozen 1; have f2 := bX.frozen 2; have f3 := bX.frozen 3; have f4 := bX.frozen 4; have lX := bX.lt
    have c2 := (Keep.grown k4 none).cell c2 (by simp)
    have c3 := (Keep.grown k4 none).cell c3 (by simp)
    have H4 := Lib.hid h4
    have K4 := Lib.hid k4
    have BK4 := Lib.hid bK
    have BX4 := Lib.hid bX
    clear h4 k4 bK bX BK BX
    cases ok
    · go_wp2_with fail
      have zW := ZW.out
      have CH := ((((((Chg.refl w2.heap.size (w2.heap.size + 1) w4).set w2.heap.size 0 (.slice x1 y.ma.fr.cells.length z1) (.inl ⟨Nat.le_refl _, Nat.lt_succ_self _⟩)).set w2.heap.size 1 (.slice x2 y.ma.fr.used.length z2) (.inl ⟨Nat.le_refl _, Nat.lt_succ_self _⟩)).set w2.heap.size 2 (.slice x3 y.ma.tb.length z3) (.inl ⟨Nat.le_refl _, Nat.lt_succ_self _⟩)).set w2.heap.size 3 (.int .i64 y.calls) (.inl ⟨Nat.le_refl _, Nat.lt_succ_self _⟩)).set w2.heap.size 4 (.slice x4 y.refuse.length z4) (.inl ⟨Nat.le_refl _, Nat.lt_succ_self _⟩))
      have HV := Lib.hid (And.intro (And.intro ((blk_sets5 BX4.out (.slice x1 y.ma.fr.cells.length z1) (.slice x2 y.ma.fr.used.length z2) (.slice x3 y.ma.tb.length z3) (.int .i64 y.calls) (.slice x4 y.refuse.length z4)).2) (BK4.out.mv CH (by omega))) (And.intro (And.intro (H4.out.mv CH (by omega)) ((HK.out.keep K4.out).mv CH (by omega))) (And.intro (chg_cell CH c2 (by omega)) ((QW.out.keep K4.out).comp CH (.inl (by omega))))))
      clear CH t0 t1 t2 t3 t4 f0 f1 f2 f3 f4 lX o0 o1 o2 o3 o4 lK c2 c3
      generalize (((((w4.setCell ⟨w2.heap.size, 0, none⟩ (.slice x1 y.ma.fr.cells.length z1)).setCell ⟨w2.heap.size, 1, none⟩ (.slice x2 y.ma.fr.used.length z2)).setCell ⟨w2.heap.size, 2, none⟩ (.slice x3 y.ma.tb.length z3)).setCell ⟨w2.heap.size, 3, none⟩ (.int .i64 y.calls)).setCell ⟨w2.heap.size, 4, none⟩ (.slice x4 y.refuse.length z4)) = V at *
      obtain ⟨⟨bX, bK⟩, ⟨h5', hk5⟩, c2, qV⟩ := HV.out
      have H5 := Lib.hid h5'
      have HK5 := Lib.hid hk5
      have QV := Lib.hid qV
      have BX5 := Lib.hid bX
      have BK5 := Lib.hid bK
      have hok : kernelOkB y = true := kernelOk_iff.2 HANS.out.good
      have hsy : sm_Kernel y := sm_ok HANS.out.good
      have hcl := HANS.out.calls
      have t0 := bX.cell 0; have t1 := bX.cell 1; have t2 := bX.cell 2; have t3 := bX.cell 3; have t4 := bX.cell 4; have f0 := bX.frozen 0; have f1 := bX.frozen 1; have f2 := bX.frozen 2; have f3 := bX.frozen 3; have f4 := bX.frozen 4; have lX := bX.lt
      have o0 := bK.cell 0; have o1 := bK.cell 1; have o2 := bK.cell 2; have o3 := bK.cell 3; have o4 := bK.cell 4; have lK := bK.lt
      clear HV bX bK h5' hk5 qV zW
      have hsm := HANS.out.same rfl
      have hMX : MA W.heap.size w4.heap.size V (.agg #[.slice x1 y.ma.fr.cells.length z1, .slice x2 y.ma.fr.used.length z2, .slice x3 y.ma.tb.length z3]) y.ma := MA.mk H5.out.parts.1 H5.out.parts.2.1
      have hMK : MA w.heap.size w1.heap.size V (.agg #[.slice b1 k.ma.fr.cells.length d1, .slice b2 k.ma.fr.used.length d2, .slice b3 k.ma.tb.length d3]) y.ma := by rw [hsm]; exact MA.mk HK5.out.parts.1 HK5.out.parts.2.1
      have HMX := Lib.hid hMX
      have HMK := Lib.hid hMK
      clear hsm hMX hMK
      have HS := Lib.hid (show ∀ z, Keep V z → (z.cell? ⟨w2.heap.size, 0, none⟩ = some (.slice x1 y.ma.fr.cells.length z1) ∧ z.cell? ⟨w2.heap.size, 1, none⟩ = some (.slice x2 y.ma.fr.used.length z2) ∧ z.cell? ⟨w2.heap.size, 2, none⟩ = some (.slice x3 y.ma.tb.length z3) ∧ z.cell? ⟨w2.heap.size, 3, none⟩ = some (.int .i64 y.calls) ∧ z.cell? ⟨w2.heap.size, 4, none⟩ = some (.slice x4 y.refuse.length z4) ∧ z.cell? ⟨g, 2, none⟩ = some (.int .i64 pc) ∧ z.cell? ⟨w1.heap.size, 3, none⟩ = some (.int .i64 k.calls) ∧ z.cell? ⟨w1.heap.size, 0, none⟩ = some (.slice b1 k.ma.fr.cells.length d1) ∧ z.cell? ⟨w1.heap.size, 1, none⟩ = some (.slice b2 k.ma.fr.used.length d2) ∧ z.cell? ⟨w1.heap.size, 2, none⟩ = some (.slice b3 k.ma.tb.length d3)) from fun z hz => ⟨(BX5.out.keep hz).cell 0, (BX5.out.keep hz).cell 1, (BX5.out.keep hz).cell 2, (BX5.out.keep hz).cell 3, (BX5.out.keep hz).cell 4, (Keep.grown hz none).cell c2 (by simp), (BK5.out.keep hz).cell 3, (BK5.out.keep hz).cell 0, (BK5.out.keep hz).cell 1, (BK5.out.keep hz).cell 2⟩)
      set_option maxRecDepth 100000 in
      go_region_held3 (fun z => z.cell? ⟨w2.heap.size, 0, none⟩ = some (.slice x1 y.ma.fr.cells.length z1) ∧ z.cell? ⟨w2.heap.size, 1, none⟩ = some (.slice x2 y.ma.fr.used.length z2) ∧ z.cell? ⟨w2.heap.size, 2, none⟩ = some (.slice x3 y.ma.tb.length z3) ∧ z.cell? ⟨w2.heap.size, 3, none⟩ = some (.int .i64 y.calls) ∧ z.cell? ⟨w2.heap.size, 4, none⟩ = some (.slice x4 y.refuse.length z4) ∧ z.cell? ⟨g, 2, none⟩ = some (.int .i64 pc) ∧ z.cell? ⟨w1.heap.size, 3, none⟩ = some (.int .i64 k.calls) ∧ z.cell? ⟨w1.heap.size, 0, none⟩ = some (.slice b1 k.ma.fr.cells.length d1) ∧ z.cell? ⟨w1.heap.size, 1, none⟩ = some (.slice b2 k.ma.fr.used.length d2) ∧ z.cell? ⟨w1.heap.size, 2, none⟩ = some (.slice b3 k.ma.tb.length d3)) (first | with_reducible exact HS.out _ ((Chg.refl 0 0 V).drew) | with_reducible exact HS.out _ kr2 | with_reducible exact HS.out _ kr1) (first | (go_at_call 42; refine (sameMachine_same _ _ _ (HMX.out.keep ((Chg.refl 0 0 V).drew)) (HMK.out.keep ((Chg.refl 0 0 V).drew)) hsy.ma).mono ?_; rintro e Y1 ⟨rfl, kk1⟩; have kr1 : Keep V Y1 := Chg.keep ((Chg.refl 0 0 V).drew) kk1; have hx := HS.out Y1 kr1; obtain ⟨t0, t1, t2, t3, t4, c2, o3, o0, o1, o2⟩ := hx) | (go_at_call 33; refine (kernelOk_any _ _ (H5.out.keep kr1) hsy).mono ?_; rw [hok]; rintro e Y2 ⟨rfl, kk2⟩; have kr2 : Keep V Y2 := Chg.keep kr1 kk2; have hx := HS.out Y2 kr2; obtain ⟨t0, t1, t2, t3, t4, c2, o3, o0, o1, o2⟩ := hx))
      all_goals
        go_wp2_with fail
        go_ret
        exact ⟨rfl, Keep.below (QV.out.keep kr2)⟩
    · go_wp2_with fail
      have zW := ZW.out
      have CH := ((((((Chg.refl w2.heap.size (w2.heap.size + 1) w4).set w2.heap.size 0 (.slice x1 y.ma.fr.cells.length z1) (.inl ⟨Nat.le_refl _, Nat.lt_succ_self _⟩)).set w2.heap.size 1 (.slice x2 y.ma.fr.used.length z2) (.inl ⟨Nat.le_refl _, Nat.lt_succ_self _⟩)).set w2.heap.size 2 (.slice x3 y.ma.tb.length z3) (.inl ⟨Nat.le_refl _, Nat.lt_succ_self _⟩)).set w2.heap.size 3 (.int .i64 y.calls) (.inl ⟨Nat.le_refl _, Nat.lt_succ_self _⟩)).set w2.heap.size 4 (.slice x4 y.refuse.length z4) (.inl ⟨Nat.le_refl _, Nat.lt_succ_self _⟩))
      have HV := Lib.hid (And.intro (And.intro ((blk_sets5 BX4.out (.slice x1 y.ma.fr.cells.length z1) (.slice x2 y.ma.fr.used.length z2) (.slice x3 y.ma.tb.length z3) (.int .i64 y.calls) (.slice x4 y.refuse.length z4)).2) (BK4.out.mv CH (by omega))) (And.intro (And.intro (H4.out.mv CH (by omega)) ((HK.out.keep K4.out).mv CH (by omega))) (And.intro (chg_cell CH c2 (by omega)) ((QW.out.keep K4.out).comp CH (.inl (by omega))))))
      clear CH t0 t1 t2 t3 t4 f0 f1 f2 f3 f4 lX o0 o1 o2 o3 o4 lK c2 c3
      generalize (((((w4.setCell ⟨w2.heap.size, 0, none⟩ (.slice x1 y.ma.fr.cells.length z1)).setCell ⟨w2.heap.size, 1, none⟩ (.slice x2 y.ma.fr.used.length z2)).setCell ⟨w2.heap.size, 2, none⟩ (.slice x3 y.ma.tb.length z3)).setCell ⟨w2.heap.size, 3, none⟩ (.int .i64 y.calls)).setCell ⟨w2.heap.size, 4, none⟩ (.slice x4 y.refuse.length z4)) = V at *
      obtain ⟨⟨bX, bK⟩, ⟨h5', hk5⟩, c2, qV⟩ := HV.out
      have H5 := Lib.hid h5'
      have HK5 := Lib.hid hk5
      have QV := Lib.hid qV
      have BX5 := Lib.hid bX
      have BK5 := Lib.hid bK
      have hok : kernelOkB y = true := kernelOk_iff.2 HANS.out.good
      have hsy : sm_Kernel y := sm_ok HANS.out.good
      have hcl := HANS.out.calls
      have t0 := bX.cell 0; have t1 := bX.cell 1; have t2 := bX.cell 2; have t3 := bX.cell 3; have t4 := bX.cell 4; have f0 := bX.frozen 0; have f1 := bX.frozen 1; have f2 := bX.frozen 2; have f3 := bX.frozen 3; have f4 := bX.frozen 4; have lX := bX.lt
      have o0 := bK.cell 0; have o1 := bK.cell 1; have o2 := bK.cell 2; have o3 := bK.cell 3; have o4 := bK.cell 4; have lK := bK.lt
      clear HV bX bK h5' hk5 qV zW
      have HS := Lib.hid (show ∀ z, Keep V z → (z.cell? ⟨w2.heap.size, 0, none⟩ = some (.slice x1 y.ma.fr.cells.length z1) ∧ z.cell? ⟨w2.heap.size, 1, none⟩ = some (.slice x2 y.ma.fr.used.length z2) ∧ z.cell? ⟨w2.heap.size, 2, none⟩ = some (.slice x3 y.ma.tb.length z3) ∧ z.cell? ⟨w2.heap.size, 3, none⟩ = some (.int .i64 y.calls) ∧ z.cell? ⟨w2.heap.size, 4, none⟩ = some (.slice x4 y.refuse.length z4) ∧ z.cell? ⟨g, 2, none⟩ = some (.int .i64 pc) ∧ z.cell? ⟨w1.heap.size, 3, none⟩ = some (.int .i64 k.calls)) from fun z hz => ⟨(BX5.out.keep hz).cell 0, (BX5.out.keep hz).cell 1, (BX5.out.keep hz).cell 2, (BX5.out.keep hz).cell 3, (BX5.out.keep hz).cell 4, (Keep.grown hz none).cell c2 (by simp), (BK5.out.keep hz).cell 3⟩)
      set_option maxRecDepth 100000 in
      go_region_held3 (fun z => z.cell? ⟨w2.heap.size, 0, none⟩ = some (.slice x1 y.ma.fr.cells.length z1) ∧ z.cell? ⟨w2.heap.size, 1, none⟩ = some (.slice x2 y.ma.fr.used.length z2) ∧ z.cell? ⟨w2.heap.size, 2, none⟩ = some (.slice x3 y.ma.tb.length z3) ∧ z.cell? ⟨w2.heap.size, 3, none⟩ = some (.int .i64 y.calls) ∧ z.cell? ⟨w2.heap.size, 4, none⟩ = some (.slice x4 y.refuse.length z4) ∧ z.cell? ⟨g, 2, none⟩ = some (.int .i64 pc) ∧ z.cell? ⟨w1.heap.size, 3, none⟩ = some (.int .i64 k.calls)) (first | with_reducible exact HS.out _ ((Chg.refl 0 0 V).drew) | with_reducible exact HS.out _ kr1) (first | (go_at_call 33; refine (kernelOk_any _ _ (H5.out.keep ((Chg.refl 0 0 V).drew)) hsy).mono ?_; rw [hok]; rintro e Y1 ⟨rfl, kk1⟩; have kr1 : Keep V Y1 := Chg.keep ((Chg.refl 0 0 V).drew) kk1; have hx := HS.out Y1 kr1; obtain ⟨t0, t1, t2, t3, t4, c2, o3⟩ := hx))
      all_goals
        go_wp2_with fail
        go_ret
        exact ⟨rfl, Keep.below (QV.out.keep kr1)⟩

theorem own : ownKnob Try.prog.godebug = none := by kernel_rfl
theorem laidOut : laidOutB Try.prog = true := by kernel_rfl
set_option maxRecDepth 100000 in
theorem lifted (os : Os) (started : os.Started) (H : Type) (enc : TypeId × Value → H) :
    ReturnsInHanded {} Try.checked os 8 .any (Rows.fnKernelSpec.pre6 enc Try.prog Try.f8 Rows.fnKernelRow.domain false) (Rows.fnKernelSpec.post enc Try.prog Try.f8 false true false false) := by
  refine returnsInHanded_of_change (C := Try.checked) own started (by kernel_rfl) Try.func8
    (ChangeSpec.witness6 (enc := enc) (C := Try.checked) false ⟨#[], #[.slice none 0 0], []⟩ 8 (by kernel_rfl) (by kernel_rfl) (by kernel_rfl) (by kernel_rfl)) ?_
  intro W base args ds gs before hval0 hW hcnd _
  have hval : ∀ (j : Nat) t v, Try.f8.params[j]? = some t → args[j]? = some v → Value.okWide Try.prog W .any base t v := hval0
  have hW' := hW
  obtain ⟨p, q, hA0, hV, rfl, hfz, hnd⟩ := hW
  have hA : DataW.TrodAll enc Try.prog W 0 (fun _ => true) true Try.f8.params.toList args.toList ds p := hA0
  rw [Try.params8] at hA hval
  obtain ⟨v0, vs0, d0, ds0, p0, q0, hargs, rfl, rfl, h0, r0⟩ := trodAll_cons hA
  obtain ⟨rfl, rfl, rfl⟩ := trodAll_nil r0
  obtain rfl : args = #[v0] := by cases args; simp_all
  obtain ⟨rfl, rfl⟩ := trodVars_none hV
  have k0 := h0
  have lt0 : ∀ x ∈ p0, x.block < W.heap.size := by obtain ⟨m, hm⟩ := k0; exact DataW.trod_lt m _ _ _ hm
  obtain ⟨a0, len0, cap0, rfl⟩ := okWide_slice Try.underlying57 (hval 0 57 v0 rfl rfl)
  have w0 : Code W.heap.size W a0 len0 := open_code h0
  clear hA0 hval0
  refine (walk a0 len0 cap0 W w0).mono fun e W' ⟨he, bel⟩ => ?_
  subst he
  exact ⟨_, rfl, _, _, _, [], _, [], hW', trodAll_mk1 (shut_bool Try.underlying4 _), (trodAll_cons_mk (Below.trod laidOut (by kernel_rfl) (of_decide_eq_true (by kernel_rfl)) k0 bel lt0) trodAll_mk0), rfl, bel.frame _, fun h => by cases h⟩

theorem over : Rows.fnKernelRow.holds Try.pinned (OpenSpec.ofChange Rows.fnKernelSpec) :=
  OpenClaim.holds_of_wide 8 Try.f8 rfl rfl rfl rfl rfl rfl rfl ⟨rfl, rfl, rfl, rfl, rfl⟩ rfl rfl rfl rfl rfl (by kernel_rfl) Try.func8 (by kernel_rfl)
    (of_decide_eq_true (by kernel_rfl)) (by unfold Func.isWrapper; first | (rw [if_pos (by decide +kernel)]; kernel_rfl) | (rw [if_neg (by decide +kernel)]; exact ⟨rfl, rfl⟩))
    (fun os started H enc _ => lifted os started H enc)

/-- The statement. -/
theorem proved : Rows.FnKernelSaid := over
#print axioms proved
end Go.Proofs.Ytkcoehkfhffjkaa.fnKernel
