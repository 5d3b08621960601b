/- The Go law FnShared returns true for all arguments and leaves its arguments as they were. Conditions: none. The frame follows the kit's shell; the walk is mine. -/
import Derived.Test.YtkcoehkfhffjkaaRows
import Derived.WalkKit
import Derived.ProofKit
import Derived.OpenShut
import Derived.Test.YtkcoehkfhffjkaaOpenCode
import Derived.Test.YtkcoehkfhffjkaaDrawMa
import Derived.Test.YtkcoehkfhffjkaaKeNew
import Derived.Test.YtkcoehkfhffjkaaKeMade
import Derived.Test.YtkcoehkfhffjkaaFr5
import Derived.Test.YtkcoehkfhffjkaaMa3
import Derived.Test.YtkcoehkfhffjkaaMa4
import Derived.Deep.RegionHeld3
import Derived.Deep.Cut
import Derived.ShutString
import Derived.ChangeOld
import Derived.Below
namespace Go.Proofs.Ytkcoehkfhffjkaa.fnShared
open Go.ChangeShapes Go.WideShapes Go.ChangeAt Go.RowKit
open Go.ChangeMaps (open_string shut_string)
set_option linter.unusedVariables false
set_option linter.unusedSimpArgs false

def s0 : KeD := kernelNewD 4 4 []
def s1 : KeD := mapNewD s0 0
def s2 : KeD := mapNewD s1 1
def s3 (q : Int) : KeD := ⟨storeD s2.ma (16 + q) 7, s2.calls, s2.refuse⟩
def s4 (q : Int) : KeD := mapOnD (s3 q) 0 1
def s5 (q : Int) : KeD := unmapD (s4 q) 1
def shChk (q : Int) : Bool := kernelNewOk 4 4 [] && mapOnOk (s3 q) 0 1 && unmapOk (s4 q) 1 && (loadD (s4 q).ma q == 7) && (usedD (s4 q).ma.fr == 1) && (loadD (s5 q).ma q == 7) &&
  kernelOkB s0 && kernelOkB s1 && kernelOkB s2 && kernelOkB (s3 q) && kernelOkB (s4 q) && kernelOkB (s5 q)
theorem sh_all : ∀ q : Fin 16, shChk (q.1 : Int) = true := by decide +kernel
structure Sh (q : Int) : Prop where
  n : kernelNewOk 4 4 [] = true
  on : mapOnOk (s3 q) 0 1 = true
  un : unmapOk (s4 q) 1 = true
  l4 : loadD (s4 q).ma q = 7
  u4 : usedD (s4 q).ma.fr = 1
  l5 : loadD (s5 q).ma q = 7
  ok0 : kernelOkB s0 = true
  ok1 : kernelOkB s1 = true
  ok2 : kernelOkB s2 = true
  ok3 : kernelOkB (s3 q) = true
  ok4 : kernelOkB (s4 q) = true
  ok5 : kernelOkB (s5 q) = true
theorem sh_facts {q : Int} (h0 : 0 ≤ q) (h1 : q < 16) : Sh q := by
  have h := sh_all ⟨q.toNat, by omega⟩
  dsimp only at h
  rw [show ((q.toNat : Nat) : Int) = q by omega] at h
  unfold shChk at h
  simp only [Bool.and_eq_true, beq_iff_eq] at h
  obtain ⟨⟨⟨⟨⟨⟨⟨⟨⟨⟨⟨a1, a2⟩, a3⟩, a4⟩, a5⟩, a6⟩, a7⟩, a8⟩, a9⟩, a10⟩, a11⟩, a12⟩ := h
  exact ⟨a1, a2, a3, a4, a5, a6, a7, a8, a9, a10, a11, a12⟩
theorem sm_ok {k : KeD} (h : kernelOkB k = true) : sm_Kernel k := by
  have h := kernelOk_iff.1 h
  have := sm_smallM h.ma
  have := h.len
  unfold sm_Kernel
  omega
theorem chg_cell {l h : Nat} {w w' : World} (hc : Chg l h w w') {g i : Nat} {v : Value} (hv : w.cell? ⟨g, i, none⟩ = some v) (hd : g < l ∨ h ≤ g) : w'.cell? ⟨g, i, none⟩ = some v := by
  have hl := World.block_lt_of_cell? w _ hv
  have e := hc.block g hl hd
  simpa [World.cell?, e] using hv
theorem ke_ma {lo hi : Nat} {w : World} {t1 t2 t3 x t4 : Value} {k : KeD} (h : KE lo hi w (.agg #[t1, t2, t3, x, t4]) k) : MA lo hi w (.agg #[t1, t2, t3]) k.ma := MA.mk h.parts.1 h.parts.2.1
set_option maxHeartbeats 4000000 in
theorem walk (a0 : Option Addr) (len0 cap0 : Nat) (w : World) (w0 : Code w.heap.size w a0 len0) :
    Calls Try.prog 9 #[.slice a0 len0 cap0] w fun e w' => e = .returned (.bool true) ∧ Below w.heap.size w w' := by
  by_cases hbig : (1048576 : Int) < len0
  · go_enter Try.func9, Try.ntmps9
    go_wp2_with (go_at_call 29; refine (big_any _ _ _ _).mono ?_; rintro e w' ⟨rfl, rfl⟩)
    go_ret
    exact ⟨rfl, Below.refl _ _⟩
  go_enter Try.func9, Try.ntmps9
  go_wp2_with (go_at_call 29; refine (big_any _ _ _ _).mono ?_; rintro e w' ⟨rfl, rfl⟩)
  refine (places_any _ _ _ _ (by omega) w0).mono ?_
  rintro e W1 ⟨g, c, p, rfl, hc, hg, hgs, hp, hbe⟩
  have k1 := Keep.of_below hbe
  obtain ⟨p00, p01, c0⟩ := hp 0 (by decide)
  have c00 := c0
  clear w0 hp hbe
  generalize p 0 = pa at *
  have a0 := Int.emod_nonneg pa (b := 16) (by omega)
  have a1 := Int.emod_lt_of_pos pa (show (0 : Int) < 16 by omega)
  have hpa : pa.tmod 16 = pa % 16 := Int.tmod_eq_emod_of_nonneg p00
  have HF := Lib.hid (sh_facts a0 a1)
  have hwa : IntKind.i64.wrap (16 + pa % 16) = 16 + pa % 16 := by rw [IntKind.wrap_i64]; omega
  generalize hq : pa % 16 = q at *
  clear hq
  have hl0 := SI.empty W1 W1.heap.size (Nat.le_refl _)
  have kE : Keep W1 (W1.alloc (.cells #[] 3 (0, 0))) := (Chg.refl 0 0 W1).alloc _
  have zE : (W1.alloc (.cells #[] 3 (0, 0))).heap.size = W1.heap.size + 1 := size_alloc _ _
  have HE := Lib.hid (And.intro hl0 (And.intro kE zE))
  clear hl0 kE zE
  go_wp2_with fail
  refine (kernelNew_any 4 4 _ _ HE.out.1 (by decide)).mono ?_
  rw [show kernelNewD 4 4 [] = s0 from rfl, HF.out.n]
  rintro e W2 ⟨v2, rfl, h2, k2⟩
  obtain ⟨b1, d1, b2, d2, b3, d3, b4, d4, rfl, hm, hr⟩ := h2.ke.slices
  have h2 := KE.mk hm hr
  have q2 : Keep W1 W2 := HE.out.2.1.keep k2
  have c0 := (Keep.grown q2 none).cell c0 (by simp)
  have H2 := Lib.hid h2
  have Q2 := Lib.hid q2
  clear hm hr h2 k2 q2
  have C0 := Lib.hid c00
  have Q2S := Lib.hid (show W1.heap.size ≤ W2.heap.size from Q2.out.size)
  go_wp2_with fail
  have kX : Keep W2 (W2.alloc (.cells #[.slice b1 s0.ma.fr.cells.length d1, .slice b2 s0.ma.fr.used.length d2, .slice b3 s0.ma.tb.length d3, .int .i64 s0.calls, .slice b4 s0.refuse.length d4] 47 (0, 0))) := (Chg.refl 0 0 W2).alloc _
  have HALL := Lib.hid (And.intro (And.intro (H2.out.keep kX) (Blk.new W2 47 #[.slice b1 s0.ma.fr.cells.length d1, .slice b2 s0.ma.fr.used.length d2, .slice b3 s0.ma.tb.length d3, .int .i64 s0.calls, .slice b4 s0.refuse.length d4])) (And.intro (And.intro (Q2.out.keep kX) ((Keep.grown kX none).cell c0 (by simp))) (show W2.heap.size < (W2.alloc (.cells #[.slice b1 s0.ma.fr.cells.length d1, .slice b2 s0.ma.fr.used.length d2, .slice b3 s0.ma.tb.length d3, .int .i64 s0.calls, .slice b4 s0.refuse.length d4] 47 (0, 0))).heap.size by rw [size_alloc]; exact Nat.lt_succ_self _)))
  clear c0 kX H2 Q2
  generalize W2.alloc (.cells #[.slice b1 s0.ma.fr.cells.length d1, .slice b2 s0.ma.fr.used.length d2, .slice b3 s0.ma.tb.length d3, .int .i64 s0.calls, .slice b4 s0.refuse.length d4] 47 (0, 0)) = W at *
  obtain ⟨⟨hk, bX⟩, ⟨qW, c0⟩, zW⟩ := HALL.out
  have HK1 := Lib.hid hk
  have BX1 := Lib.hid bX
  have QW1 := Lib.hid qW
  have ZW1 := Lib.hid zW
  have o0 := bX.cell 0
  have o1 := bX.cell 1
  have o2 := bX.cell 2
  have o3 := bX.cell 3
  have o4 := bX.cell 4
  have f0 := bX.frozen 0
  have f1 := bX.frozen 1
  have f2 := bX.frozen 2
  have f3 := bX.frozen 3
  have f4 := bX.frozen 4
  have lB := bX.lt
  clear HALL hk bX qW zW
  refine (kMapNew_any _ _ _ HK1.out (sm_ok HF.out.ok0)).mono ?_
  rw [show mapNewD s0 0 = s1 from rfl]
  generalize mapNewOk s0 0 = bb
  rintro e W3 ⟨v4, rfl, h4, k4⟩
  obtain ⟨x1, y1, x2, y2, x3, y3, x4, y4, rfl, hm4, hr4⟩ := h4.slices
  have h4 := KE.mk hm4 hr4
  have s4 := k4.size
  have bX := BX1.out.keep k4
  clear hm4 hr4 o0 f0 o1 f1 o2 f2 o3 f3 o4 f4 lB
  have o0 := bX.cell 0
  have o1 := bX.cell 1
  have o2 := bX.cell 2
  have o3 := bX.cell 3
  have o4 := bX.cell 4
  have f0 := bX.frozen 0
  have f1 := bX.frozen 1
  have f2 := bX.frozen 2
  have f3 := bX.frozen 3
  have f4 := bX.frozen 4
  have lB := bX.lt
  have c0 := (Keep.grown k4 none).cell c0 (by simp)
  have q4 := QW1.out.keep k4
  have H4 := Lib.hid h4
  have K4 := Lib.hid k4
  have BX4 := Lib.hid bX
  have Q4 := Lib.hid q4
  clear h4 k4 bX q4 HK1 BX1 QW1
  go_wp2_with fail
  have zW := ZW1.out
  have lg := World.block_lt_of_cell? W1 _ C0.out
  have q4s := Q2S.out
  have CH := ((((((Chg.refl W2.heap.size (W2.heap.size + 1) W3).set W2.heap.size 0 (.slice x1 s1.ma.fr.cells.length y1) (.inl ⟨Nat.le_refl _, Nat.lt_succ_self _⟩)).set W2.heap.size 1 (.slice x2 s1.ma.fr.used.length y2) (.inl ⟨Nat.le_refl _, Nat.lt_succ_self _⟩)).set W2.heap.size 2 (.slice x3 s1.ma.tb.length y3) (.inl ⟨Nat.le_refl _, Nat.lt_succ_self _⟩)).set W2.heap.size 3 (.int .i64 s1.calls) (.inl ⟨Nat.le_refl _, Nat.lt_succ_self _⟩)).set W2.heap.size 4 (.slice x4 s1.refuse.length y4) (.inl ⟨Nat.le_refl _, Nat.lt_succ_self _⟩))
  have HV := Lib.hid (And.intro (And.intro (H4.out.mv CH (by omega)) ((blk_sets5 BX4.out (.slice x1 s1.ma.fr.cells.length y1) (.slice x2 s1.ma.fr.used.length y2) (.slice x3 s1.ma.tb.length y3) (.int .i64 s1.calls) (.slice x4 s1.refuse.length y4)).2)) (And.intro (And.intro (Q4.out.comp CH (.inl (by omega))) (chg_cell CH c0 (by omega))) (show (((((W3.setCell ⟨W2.heap.size, 0, none⟩ (.slice x1 s1.ma.fr.cells.length y1)).setCell ⟨W2.heap.size, 1, none⟩ (.slice x2 s1.ma.fr.used.length y2)).setCell ⟨W2.heap.size, 2, none⟩ (.slice x3 s1.ma.tb.length y3)).setCell ⟨W2.heap.size, 3, none⟩ (.int .i64 s1.calls)).setCell ⟨W2.heap.size, 4, none⟩ (.slice x4 s1.refuse.length y4)).heap.size = W3.heap.size by simp only [size_set])))
  clear CH c0 o0 f0 o1 f1 o2 f2 o3 f3 o4 f4 lB
  generalize (((((W3.setCell ⟨W2.heap.size, 0, none⟩ (.slice x1 s1.ma.fr.cells.length y1)).setCell ⟨W2.heap.size, 1, none⟩ (.slice x2 s1.ma.fr.used.length y2)).setCell ⟨W2.heap.size, 2, none⟩ (.slice x3 s1.ma.tb.length y3)).setCell ⟨W2.heap.size, 3, none⟩ (.int .i64 s1.calls)).setCell ⟨W2.heap.size, 4, none⟩ (.slice x4 s1.refuse.length y4)) = V1 at *
  obtain ⟨⟨hk, bX⟩, ⟨qW, c0⟩, zV⟩ := HV.out
  have HK2 := Lib.hid hk
  have BX2 := Lib.hid bX
  have QW2 := Lib.hid qW
  have ZW2 := Lib.hid (show W2.heap.size < V1.heap.size by omega)
  have o0 := bX.cell 0
  have o1 := bX.cell 1
  have o2 := bX.cell 2
  have o3 := bX.cell 3
  have o4 := bX.cell 4
  have f0 := bX.frozen 0
  have f1 := bX.frozen 1
  have f2 := bX.frozen 2
  have f3 := bX.frozen 3
  have f4 := bX.frozen 4
  have lB := bX.lt
  clear HV hk bX qW zV zW H4 K4 BX4 Q4 s4 lg q4s
  refine (kMapNew_any _ _ _ HK2.out (sm_ok HF.out.ok1)).mono ?_
  rw [show mapNewD s1 1 = s2 from rfl]
  generalize mapNewOk s1 1 = bb
  rintro e W4 ⟨v4, rfl, h4, k4⟩
  obtain ⟨u1, v1, u2, v2, u3, v3, u4, v4, rfl, hm4, hr4⟩ := h4.slices
  have h4 := KE.mk hm4 hr4
  have s4 := k4.size
  have bX := BX2.out.keep k4
  clear hm4 hr4 o0 f0 o1 f1 o2 f2 o3 f3 o4 f4 lB
  have o0 := bX.cell 0
  have o1 := bX.cell 1
  have o2 := bX.cell 2
  have o3 := bX.cell 3
  have o4 := bX.cell 4
  have f0 := bX.frozen 0
  have f1 := bX.frozen 1
  have f2 := bX.frozen 2
  have f3 := bX.frozen 3
  have f4 := bX.frozen 4
  have lB := bX.lt
  have c0 := (Keep.grown k4 none).cell c0 (by simp)
  have q4 := QW2.out.keep k4
  have H4 := Lib.hid h4
  have K4 := Lib.hid k4
  have BX4 := Lib.hid bX
  have Q4 := Lib.hid q4
  clear h4 k4 bX q4 HK2 BX2 QW2
  go_wp2_with fail
  have zW := ZW2.out
  have lg := World.block_lt_of_cell? W1 _ C0.out
  have q4s := Q2S.out
  have CH := ((((((Chg.refl W2.heap.size (W2.heap.size + 1) W4).set W2.heap.size 0 (.slice u1 s2.ma.fr.cells.length v1) (.inl ⟨Nat.le_refl _, Nat.lt_succ_self _⟩)).set W2.heap.size 1 (.slice u2 s2.ma.fr.used.length v2) (.inl ⟨Nat.le_refl _, Nat.lt_succ_self _⟩)).set W2.heap.size 2 (.slice u3 s2.ma.tb.length v3) (.inl ⟨Nat.le_refl _, Nat.lt_succ_self _⟩)).set W2.heap.size 3 (.int .i64 s2.calls) (.inl ⟨Nat.le_refl _, Nat.lt_succ_self _⟩)).set W2.heap.size 4 (.slice u4 s2.refuse.length v4) (.inl ⟨Nat.le_refl _, Nat.lt_succ_self _⟩))
  have HV := Lib.hid (And.intro (And.intro (H4.out.mv CH (by omega)) ((blk_sets5 BX4.out (.slice u1 s2.ma.fr.cells.length v1) (.slice u2 s2.ma.fr.used.length v2) (.slice u3 s2.ma.tb.length v3) (.int .i64 s2.calls) (.slice u4 s2.refuse.length v4)).2)) (And.intro (And.intro (Q4.out.comp CH (.inl (by omega))) (chg_cell CH c0 (by omega))) (show (((((W4.setCell ⟨W2.heap.size, 0, none⟩ (.slice u1 s2.ma.fr.cells.length v1)).setCell ⟨W2.heap.size, 1, none⟩ (.slice u2 s2.ma.fr.used.length v2)).setCell ⟨W2.heap.size, 2, none⟩ (.slice u3 s2.ma.tb.length v3)).setCell ⟨W2.heap.size, 3, none⟩ (.int .i64 s2.calls)).setCell ⟨W2.heap.size, 4, none⟩ (.slice u4 s2.refuse.length v4)).heap.size = W4.heap.size by simp only [size_set])))
  clear CH c0 o0 f0 o1 f1 o2 f2 o3 f3 o4 f4 lB
  generalize (((((W4.setCell ⟨W2.heap.size, 0, none⟩ (.slice u1 s2.ma.fr.cells.length v1)).setCell ⟨W2.heap.size, 1, none⟩ (.slice u2 s2.ma.fr.used.length v2)).setCell ⟨W2.heap.size, 2, none⟩ (.slice u3 s2.ma.tb.length v3)).setCell ⟨W2.heap.size, 3, none⟩ (.int .i64 s2.calls)).setCell ⟨W2.heap.size, 4, none⟩ (.slice u4 s2.refuse.length v4)) = V2 at *
  obtain ⟨⟨hk, bX⟩, ⟨qW, c0⟩, zV⟩ := HV.out
  have HK3 := Lib.hid hk
  have BX3 := Lib.hid bX
  have QW3 := Lib.hid qW
  have ZW3 := Lib.hid (show W2.heap.size < V2.heap.size by omega)
  have o0 := bX.cell 0
  have o1 := bX.cell 1
  have o2 := bX.cell 2
  have o3 := bX.cell 3
  have o4 := bX.cell 4
  have f0 := bX.frozen 0
  have f1 := bX.frozen 1
  have f2 := bX.frozen 2
  have f3 := bX.frozen 3
  have f4 := bX.frozen 4
  have lB := bX.lt
  clear HV hk bX qW zV zW H4 K4 BX4 Q4 s4 lg q4s
  have HMA := Lib.hid (ke_ma HK3.out)
  have HL1 := Lib.hid (HMA.out.keep ((Chg.refl 0 0 V2).drew))
  have HL2 := Lib.hid (HMA.out.keep (((Chg.refl 0 0 V2).alloc (.cells #[.slice none 0 0, .slice none 0 0, .slice none 0 0] 39 (0, 0))).drew))
  have HQ1 := Lib.hid (show Keep V2 (V2.drew) from (Chg.refl 0 0 V2).drew)
  have HQ2 := Lib.hid (show Keep V2 ((V2.alloc (.cells #[.slice none 0 0, .slice none 0 0, .slice none 0 0] 39 (0, 0))).drew) from ((Chg.refl 0 0 V2).alloc _).drew)
  have HZ1 := Lib.hid (show (V2.drew).heap.size = V2.heap.size from rfl)
  have HZ2 := Lib.hid (show ((V2.alloc (.cells #[.slice none 0 0, .slice none 0 0, .slice none 0 0] 39 (0, 0))).drew).heap.size = V2.heap.size + 1 from size_alloc _ _)
  have HB2 := Lib.hid (show Blk ((V2.alloc (.cells #[.slice none 0 0, .slice none 0 0, .slice none 0 0] 39 (0, 0))).drew) V2.heap.size 39 #[.slice none 0 0, .slice none 0 0, .slice none 0 0] from (Blk.new V2 39 #[.slice none 0 0, .slice none 0 0, .slice none 0 0]).keep ((Chg.refl 0 0 _).drew))
  have HSM := Lib.hid (sm_ok HF.out.ok2).ma
  generalize hsc : storeC s2.ma (16 + q) 7 = sc
  have HSC := Lib.hid hsc
  have HS3 := Lib.hid (show storeD s2.ma (16 + q) 7 = (s3 q).ma from rfl)
  have HS := Lib.hid (show ∀ z, Keep V2 z → (z.cell? ⟨g, 0, none⟩ = some (.int .i64 pa) ∧ z.cell? ⟨W2.heap.size, 0, none⟩ = some (.slice u1 s2.ma.fr.cells.length v1) ∧ z.cell? ⟨W2.heap.size, 1, none⟩ = some (.slice u2 s2.ma.fr.used.length v2) ∧ z.cell? ⟨W2.heap.size, 2, none⟩ = some (.slice u3 s2.ma.tb.length v3) ∧ z.cell? ⟨W2.heap.size, 3, none⟩ = some (.int .i64 s2.calls) ∧ z.cell? ⟨W2.heap.size, 4, none⟩ = some (.slice u4 s2.refuse.length v4)) from fun z hz => ⟨(Keep.grown hz none).cell c0 (by simp), (BX3.out.keep hz).cell 0, (BX3.out.keep hz).cell 1, (BX3.out.keep hz).cell 2, (BX3.out.keep hz).cell 3, (BX3.out.keep hz).cell 4⟩)
  clear hsc HMA
  go_cut [6, 7] from 16 (fun sp sb z => ∃ (A : Nat) (x1 x2 x3 : Option Addr) (y1 y2 y3 lo hi : Nat), sp = .pointer (some ⟨A, 0, none⟩) ∧ sb = .int .i64 sc ∧ Blk z A 39 #[.slice x1 (s3 q).ma.fr.cells.length y1, .slice x2 (s3 q).ma.fr.used.length y2, .slice x3 (s3 q).ma.tb.length y3] ∧ MA lo hi z (.agg #[.slice x1 (s3 q).ma.fr.cells.length y1, .slice x2 (s3 q).ma.fr.used.length y2, .slice x3 (s3 q).ma.tb.length y3]) (s3 q).ma ∧ V2.heap.size ≤ A ∧ V2.heap.size ≤ lo ∧ Keep V2 z)
  case first =>
    set_option maxRecDepth 100000 in
    go_region_held3 (fun z => z.cell? ⟨g, 0, none⟩ = some (.int .i64 pa) ∧ z.cell? ⟨W2.heap.size, 0, none⟩ = some (.slice u1 s2.ma.fr.cells.length v1) ∧ z.cell? ⟨W2.heap.size, 1, none⟩ = some (.slice u2 s2.ma.fr.used.length v2) ∧ z.cell? ⟨W2.heap.size, 2, none⟩ = some (.slice u3 s2.ma.tb.length v3) ∧ z.cell? ⟨W2.heap.size, 3, none⟩ = some (.int .i64 s2.calls) ∧ z.cell? ⟨W2.heap.size, 4, none⟩ = some (.slice u4 s2.refuse.length v4)) (first | with_reducible exact HS.out _ ((Chg.refl 0 0 V2).drew) | with_reducible exact HS.out _ (((Chg.refl 0 0 V2).alloc _).drew) | with_reducible exact HS.out _ kr1 | with_reducible exact HS.out _ (kr1.alloc _) | with_reducible exact HS.out _ (((kr1.set V2.heap.size 0 _ (.inr (Nat.le_refl _))).set V2.heap.size 1 _ (.inr (Nat.le_refl _))).set V2.heap.size 2 _ (.inr (Nat.le_refl _)))) (first | (go_at_call 26; (with_reducible refine (store_spec _ _ _ _ HL1.out HSM.out (by omega)).mono ?_); rw [HSC.out, HS3.out]; rintro e Y1 ⟨v4, rfl, h4, kk1⟩; have kr1 : Keep V2 Y1 := HQ1.out.keep kk1; have zk1 := kk1.size; have ez := HZ1.out; rw [ez] at h4 zk1; have EZ1 := Lib.hid ez; clear ez; obtain ⟨x1, y1, x2, y2, x3, y3, rfl, hf4, ht4⟩ := h4.slices; have h4 : MA _ _ Y1 (.agg #[.slice x1 (s3 q).ma.fr.cells.length y1, .slice x2 (s3 q).ma.fr.used.length y2, .slice x3 (s3 q).ma.tb.length y3]) (s3 q).ma := MA.mk hf4 ht4; clear hf4 ht4) | (go_at_call 26; (with_reducible refine (store_spec _ _ _ _ HL2.out HSM.out (by omega)).mono ?_); rw [HSC.out, HS3.out]; rintro e Y1 ⟨v4, rfl, h4, kk1⟩; have kr1 : Keep V2 Y1 := HQ2.out.keep kk1; have zk1 := kk1.size; have ez := HZ2.out; rw [ez] at h4 zk1; have EZ2 := Lib.hid ez; clear ez; obtain ⟨x1, y1, x2, y2, x3, y3, rfl, hf4, ht4⟩ := h4.slices; have h4 : MA _ _ Y1 (.agg #[.slice x1 (s3 q).ma.fr.cells.length y1, .slice x2 (s3 q).ma.fr.used.length y2, .slice x3 (s3 q).ma.tb.length y3]) (s3 q).ma := MA.mk hf4 ht4; clear hf4 ht4; have bN := HB2.out.keep kk1; have n0 := bN.cell 0; have n1 := bN.cell 1; have n2 := bN.cell 2; have fn0 := bN.frozen 0; have fn1 := bN.frozen 1; have fn2 := bN.frozen 2; have lN := bN.lt))
    all_goals
      go_wp2_with fail
      go_meet
      case rel =>
        first
        | (revert bN; intro bN; exact ⟨V2.heap.size, x1, x2, x3, y1, y2, y3, V2.heap.size + 1, Y1.heap.size, rfl, rfl, by simpa using ((bN.set_ 0 (.slice x1 (s3 q).ma.fr.cells.length y1)).set_ 1 (.slice x2 (s3 q).ma.fr.used.length y2)).set_ 2 (.slice x3 (s3 q).ma.tb.length y3), h4.mv ((((Chg.refl V2.heap.size (V2.heap.size + 1) Y1).set V2.heap.size 0 _ (.inl ⟨Nat.le_refl _, Nat.lt_succ_self _⟩)).set V2.heap.size 1 _ (.inl ⟨Nat.le_refl _, Nat.lt_succ_self _⟩)).set V2.heap.size 2 _ (.inl ⟨Nat.le_refl _, Nat.lt_succ_self _⟩)) (by omega), Nat.le_refl _, Nat.le_succ _, (((kr1.set V2.heap.size 0 _ (.inr (Nat.le_refl _))).set V2.heap.size 1 _ (.inr (Nat.le_refl _))).set V2.heap.size 2 _ (.inr (Nat.le_refl _)))⟩)
        | exact ⟨Y1.heap.size, x1, x2, x3, y1, y2, y3, V2.heap.size, Y1.heap.size, rfl, rfl, Blk.new _ _ _, h4.keep ((Chg.refl 0 0 _).alloc _), zk1, Nat.le_refl _, kr1.alloc _⟩
  obtain ⟨A, m1, m2, m3, n1, n2, n3, lo, hi, rfl, rfl, bA, hA, hVA, hVl, qc⟩ := hcut
  generalize wc = WC at *
  have bX := BX3.out.keep qc
  have c0 := (Keep.grown qc none).cell c0 (by simp)
  clear o0 o1 o2 o3 o4 f0 f1 f2 f3 f4 lB HL1 HL2 HQ1 HQ2 HZ1 HZ2 HB2 HS HSC HS3 HSM h2 h4
  have o0 := bX.cell 0
  have o1 := bX.cell 1
  have o2 := bX.cell 2
  have o3 := bX.cell 3
  have o4 := bX.cell 4
  have f0 := bX.frozen 0
  have f1 := bX.frozen 1
  have f2 := bX.frozen 2
  have f3 := bX.frozen 3
  have f4 := bX.frozen 4
  have lB := bX.lt
  have z0 := bA.cell 0
  have z1 := bA.cell 1
  have z2 := bA.cell 2
  have lA := bA.lt
  have hqc := qc.size
  have HC := Lib.hid (And.intro (And.intro bX hA) (And.intro qc (And.intro hVl hqc)))
  clear bX bA hA qc hVl hqc hVA
  go_wp2_with fail
  obtain ⟨⟨bX, hA⟩, ⟨qc, hVl, hqc⟩⟩ := HC.out
  have zB := ZW3.out
  have lg := World.block_lt_of_cell? W1 _ C0.out
  have q2s := Q2S.out
  have q3 := QW3.out.keep qc
  have hrf := HK3.out.parts.2.2.2.keep qc
  have CH := ((((Chg.refl W2.heap.size (W2.heap.size + 1) WC).set W2.heap.size 0 (.slice m1 (s3 q).ma.fr.cells.length n1) (.inl ⟨Nat.le_refl _, Nat.lt_succ_self _⟩)).set W2.heap.size 1 (.slice m2 (s3 q).ma.fr.used.length n2) (.inl ⟨Nat.le_refl _, Nat.lt_succ_self _⟩)).set W2.heap.size 2 (.slice m3 (s3 q).ma.tb.length n3) (.inl ⟨Nat.le_refl _, Nat.lt_succ_self _⟩))
  have hA3 := hA.mv CH (by omega)
  have zB2 := ZW2.out
  have hr3 := hrf.mv CH (by omega)
  have hk3 : KE 0 (hi + W4.heap.size) (((WC.setCell ⟨W2.heap.size, 0, none⟩ (.slice m1 (s3 q).ma.fr.cells.length n1)).setCell ⟨W2.heap.size, 1, none⟩ (.slice m2 (s3 q).ma.fr.used.length n2)).setCell ⟨W2.heap.size, 2, none⟩ (.slice m3 (s3 q).ma.tb.length n3)) (.agg #[.slice m1 (s3 q).ma.fr.cells.length n1, .slice m2 (s3 q).ma.fr.used.length n2, .slice m3 (s3 q).ma.tb.length n3, .int .i64 s2.calls, .slice u4 s2.refuse.length v4]) (s3 q) := KE.mk (k := s3 q) (hA3.wide (Nat.zero_le _) (Nat.le_add_right _ _)) (hr3.wide (Nat.zero_le _) (Nat.le_add_left _ _))
  have HALL := Lib.hid (And.intro hk3 (And.intro (q3.comp CH (.inl q2s)) (chg_cell CH c0 (by omega))))
  clear CH hA3 hr3 hk3 bX hA qc hVl hqc q3 hrf c0 o0 o1 o2 o3 o4 f0 f1 f2 f3 f4 lB z0 z1 z2 lA
  generalize (((WC.setCell ⟨W2.heap.size, 0, none⟩ (.slice m1 (s3 q).ma.fr.cells.length n1)).setCell ⟨W2.heap.size, 1, none⟩ (.slice m2 (s3 q).ma.fr.used.length n2)).setCell ⟨W2.heap.size, 2, none⟩ (.slice m3 (s3 q).ma.tb.length n3)) = V3 at *
  obtain ⟨hk3, q3, c0⟩ := HALL.out
  have HK3b := Lib.hid hk3
  have Q3 := Lib.hid q3
  clear HALL hk3 q3
  refine (kMapOn_any _ _ _ _ HK3b.out (sm_ok HF.out.ok3)).mono ?_
  rw [show mapOnD (s3 q) 0 1 = s4 q from rfl, HF.out.on]
  rintro e W5 ⟨v5, rfl, h5, k5⟩
  obtain ⟨r1, z1, r2, z2, r3, z3, r4, z4, rfl, hm4, hr4⟩ := h5.slices
  have h5 := KE.mk hm4 hr4
  have c0 := (Keep.grown k5 none).cell c0 (by simp)
  have H5 := Lib.hid h5
  have Q5 := Lib.hid (Q3.out.keep k5)
  clear hm4 hr4 h5 k5 Q3 HK3b
  go_wp2_with fail
  have kX : Keep W5 (W5.alloc (.cells #[.slice r1 (s4 q).ma.fr.cells.length z1, .slice r2 (s4 q).ma.fr.used.length z2, .slice r3 (s4 q).ma.tb.length z3, .int .i64 (s4 q).calls, .slice r4 (s4 q).refuse.length z4] 47 (0, 0))) := (Chg.refl 0 0 W5).alloc _
  have HALL := Lib.hid (And.intro (And.intro (H5.out.keep kX) (Blk.new W5 47 #[.slice r1 (s4 q).ma.fr.cells.length z1, .slice r2 (s4 q).ma.fr.used.length z2, .slice r3 (s4 q).ma.tb.length z3, .int .i64 (s4 q).calls, .slice r4 (s4 q).refuse.length z4])) (And.intro (And.intro (Q5.out.keep kX) ((Keep.grown kX none).cell c0 (by simp))) (show W5.heap.size < (W5.alloc (.cells #[.slice r1 (s4 q).ma.fr.cells.length z1, .slice r2 (s4 q).ma.fr.used.length z2, .slice r3 (s4 q).ma.tb.length z3, .int .i64 (s4 q).calls, .slice r4 (s4 q).refuse.length z4] 47 (0, 0))).heap.size by rw [size_alloc]; exact Nat.lt_succ_self _)))
  clear c0 kX H5 Q5
  generalize W5.alloc (.cells #[.slice r1 (s4 q).ma.fr.cells.length z1, .slice r2 (s4 q).ma.fr.used.length z2, .slice r3 (s4 q).ma.tb.length z3, .int .i64 (s4 q).calls, .slice r4 (s4 q).refuse.length z4] 47 (0, 0)) = V4 at *
  obtain ⟨⟨hk, bX⟩, ⟨qW, c0⟩, zW⟩ := HALL.out
  have HK4 := Lib.hid hk
  have BX4 := Lib.hid bX
  have QW4 := Lib.hid qW
  have ZW4 := Lib.hid zW
  have o0 := bX.cell 0
  have o1 := bX.cell 1
  have o2 := bX.cell 2
  have o3 := bX.cell 3
  have o4 := bX.cell 4
  have f0 := bX.frozen 0
  have f1 := bX.frozen 1
  have f2 := bX.frozen 2
  have f3 := bX.frozen 3
  have f4 := bX.frozen 4
  have lB := bX.lt
  clear HALL hk bX qW zW
  have HL1 := Lib.hid ((ke_ma HK4.out).keep ((Chg.refl 0 0 V4).drew))
  have HQ1 := Lib.hid (show Keep V4 V4.drew from (Chg.refl 0 0 V4).drew)
  have HSM := Lib.hid (sm_ok HF.out.ok4).ma
  have HLD := Lib.hid HF.out.l4
  have HS := Lib.hid (show ∀ z, Keep V4 z → (z.cell? ⟨g, 0, none⟩ = some (.int .i64 pa) ∧ z.cell? ⟨W5.heap.size, 0, none⟩ = some (.slice r1 (s4 q).ma.fr.cells.length z1) ∧ z.cell? ⟨W5.heap.size, 1, none⟩ = some (.slice r2 (s4 q).ma.fr.used.length z2) ∧ z.cell? ⟨W5.heap.size, 2, none⟩ = some (.slice r3 (s4 q).ma.tb.length z3) ∧ z.cell? ⟨W5.heap.size, 3, none⟩ = some (.int .i64 (s4 q).calls) ∧ z.cell? ⟨W5.heap.size, 4, none⟩ = some (.slice r4 (s4 q).refuse.length z4)) from fun z hz => ⟨(Keep.grown hz none).cell c0 (by simp), (BX4.out.keep hz).cell 0, (BX4.out.keep hz).cell 1, (BX4.out.keep hz).cell 2, (BX4.out.keep hz).cell 3, (BX4.out.keep hz).cell 4⟩)
  go_cut [10, 11] from 16 (fun sp sb z => sp = .int .i64 7 ∧ (∃ cc : Int, sb = .int .i64 cc) ∧ Keep V4 z)
  case first =>
    set_option maxRecDepth 100000 in
    go_region_held3 (fun z => z.cell? ⟨g, 0, none⟩ = some (.int .i64 pa) ∧ z.cell? ⟨W5.heap.size, 0, none⟩ = some (.slice r1 (s4 q).ma.fr.cells.length z1) ∧ z.cell? ⟨W5.heap.size, 1, none⟩ = some (.slice r2 (s4 q).ma.fr.used.length z2) ∧ z.cell? ⟨W5.heap.size, 2, none⟩ = some (.slice r3 (s4 q).ma.tb.length z3) ∧ z.cell? ⟨W5.heap.size, 3, none⟩ = some (.int .i64 (s4 q).calls) ∧ z.cell? ⟨W5.heap.size, 4, none⟩ = some (.slice r4 (s4 q).refuse.length z4)) (first | with_reducible exact HS.out _ ((Chg.refl 0 0 V4).drew) | with_reducible exact HS.out _ kr1) (first | (go_at_call 37; (with_reducible refine (load_spec _ _ _ HL1.out HSM.out (by omega)).mono ?_); rw [HLD.out]; rintro e Y1 ⟨rfl, kk1⟩; have kr1 : Keep V4 Y1 := HQ1.out.keep kk1; have hx := HS.out Y1 kr1; obtain ⟨c0, o0, o1, o2, o3, o4⟩ := hx))
    all_goals
      go_wp2_with fail
      go_meet
      case rel => exact ⟨rfl, ⟨_, rfl⟩, kr1⟩
  obtain ⟨rfl, ⟨cc, rfl⟩, qc⟩ := hcut
  generalize wc = V5 at *
  have bX := BX4.out.keep qc
  have c0 := (Keep.grown qc none).cell c0 (by simp)
  clear o0 o1 o2 o3 o4 f0 f1 f2 f3 f4 lB HL1 HQ1 HSM HLD HS
  have o0 := bX.cell 0
  have o1 := bX.cell 1
  have o2 := bX.cell 2
  have o3 := bX.cell 3
  have o4 := bX.cell 4
  have f0 := bX.frozen 0
  have f1 := bX.frozen 1
  have f2 := bX.frozen 2
  have f3 := bX.frozen 3
  have f4 := bX.frozen 4
  have lB := bX.lt
  have HK5 := Lib.hid (HK4.out.keep qc)
  have BX5 := Lib.hid bX
  have QW5 := Lib.hid (QW4.out.keep qc)
  clear bX qc HK4 BX4 QW4 ZW4
  go_wp2_with fail
  refine (kUnmap_any _ _ _ HK5.out (sm_ok HF.out.ok4)).mono ?_
  rw [show unmapD (s4 q) 1 = s5 q from rfl, HF.out.un]
  rintro e W6 ⟨v6, rfl, h6, k6⟩
  obtain ⟨l1, w1, l2, w2, l3, w3, l4, w4, rfl, hm4, hr4⟩ := h6.slices
  have h6 := KE.mk hm4 hr4
  have c0 := (Keep.grown k6 none).cell c0 (by simp)
  have H6 := Lib.hid h6
  have Q6 := Lib.hid (QW5.out.keep k6)
  have k7 := k6.alloc (.cells #[.slice l1 (s5 q).ma.fr.cells.length w1, .slice l2 (s5 q).ma.fr.used.length w2, .slice l3 (s5 q).ma.tb.length w3, .int .i64 (s5 q).calls, .slice l4 (s5 q).refuse.length w4] 47 (0, 0))
  have HK7 := Lib.hid (HK5.out.keep k7)
  have BX7 := Lib.hid (BX5.out.keep k7)
  clear hm4 hr4 h6 k6 k7 o0 o1 o2 o3 o4 f0 f1 f2 f3 f4 lB HK5 BX5 QW5
  go_wp2_with fail
  have kX : Keep W6 (W6.alloc (.cells #[.slice l1 (s5 q).ma.fr.cells.length w1, .slice l2 (s5 q).ma.fr.used.length w2, .slice l3 (s5 q).ma.tb.length w3, .int .i64 (s5 q).calls, .slice l4 (s5 q).refuse.length w4] 47 (0, 0))) := (Chg.refl 0 0 W6).alloc _
  have HALL := Lib.hid (And.intro (And.intro (H6.out.keep kX) (Blk.new W6 47 #[.slice l1 (s5 q).ma.fr.cells.length w1, .slice l2 (s5 q).ma.fr.used.length w2, .slice l3 (s5 q).ma.tb.length w3, .int .i64 (s5 q).calls, .slice l4 (s5 q).refuse.length w4])) (And.intro (And.intro (Q6.out.keep kX) ((Keep.grown kX none).cell c0 (by simp))) (show W6.heap.size < (W6.alloc (.cells #[.slice l1 (s5 q).ma.fr.cells.length w1, .slice l2 (s5 q).ma.fr.used.length w2, .slice l3 (s5 q).ma.tb.length w3, .int .i64 (s5 q).calls, .slice l4 (s5 q).refuse.length w4] 47 (0, 0))).heap.size by rw [size_alloc]; exact Nat.lt_succ_self _)))
  clear c0 kX H6 Q6
  generalize W6.alloc (.cells #[.slice l1 (s5 q).ma.fr.cells.length w1, .slice l2 (s5 q).ma.fr.used.length w2, .slice l3 (s5 q).ma.tb.length w3, .int .i64 (s5 q).calls, .slice l4 (s5 q).refuse.length w4] 47 (0, 0)) = V6 at *
  obtain ⟨⟨hk, bX⟩, ⟨qW, c0⟩, zW⟩ := HALL.out
  have HK6 := Lib.hid hk
  have BX6 := Lib.hid bX
  have QW6 := Lib.hid qW
  have ZW6 := Lib.hid zW
  have o0 := bX.cell 0
  have o1 := bX.cell 1
  have o2 := bX.cell 2
  have o3 := bX.cell 3
  have o4 := bX.cell 4
  have f0 := bX.frozen 0
  have f1 := bX.frozen 1
  have f2 := bX.frozen 2
  have f3 := bX.frozen 3
  have f4 := bX.frozen 4
  have lB := bX.lt
  clear HALL hk bX qW zW
  have HL1 := Lib.hid ((ke_ma HK6.out).keep ((Chg.refl 0 0 V6).drew))
  have HQ1 := Lib.hid (show Keep V6 V6.drew from (Chg.refl 0 0 V6).drew)
  have HSM := Lib.hid (sm_ok HF.out.ok5).ma
  have HLD := Lib.hid HF.out.l5
  have HS := Lib.hid (show ∀ z, Keep V6 z → (z.cell? ⟨g, 0, none⟩ = some (.int .i64 pa) ∧ z.cell? ⟨W6.heap.size, 0, none⟩ = some (.slice l1 (s5 q).ma.fr.cells.length w1) ∧ z.cell? ⟨W6.heap.size, 1, none⟩ = some (.slice l2 (s5 q).ma.fr.used.length w2) ∧ z.cell? ⟨W6.heap.size, 2, none⟩ = some (.slice l3 (s5 q).ma.tb.length w3) ∧ z.cell? ⟨W6.heap.size, 3, none⟩ = some (.int .i64 (s5 q).calls) ∧ z.cell? ⟨W6.heap.size, 4, none⟩ = some (.slice l4 (s5 q).refuse.length w4)) from fun z hz => ⟨(Keep.grown hz none).cell c0 (by simp), (BX6.out.keep hz).cell 0, (BX6.out.keep hz).cell 1, (BX6.out.keep hz).cell 2, (BX6.out.keep hz).cell 3, (BX6.out.keep hz).cell 4⟩)
  go_cut [14, 15] from 16 (fun sp sb z => sp = .int .i64 7 ∧ (∃ cc : Int, sb = .int .i64 cc) ∧ Keep V6 z)
  case first =>
    set_option maxRecDepth 100000 in
    go_region_held3 (fun z => z.cell? ⟨g, 0, none⟩ = some (.int .i64 pa) ∧ z.cell? ⟨W6.heap.size, 0, none⟩ = some (.slice l1 (s5 q).ma.fr.cells.length w1) ∧ z.cell? ⟨W6.heap.size, 1, none⟩ = some (.slice l2 (s5 q).ma.fr.used.length w2) ∧ z.cell? ⟨W6.heap.size, 2, none⟩ = some (.slice l3 (s5 q).ma.tb.length w3) ∧ z.cell? ⟨W6.heap.size, 3, none⟩ = some (.int .i64 (s5 q).calls) ∧ z.cell? ⟨W6.heap.size, 4, none⟩ = some (.slice l4 (s5 q).refuse.length w4)) (first | with_reducible exact HS.out _ ((Chg.refl 0 0 V6).drew) | with_reducible exact HS.out _ kr1) (first | (go_at_call 37; (with_reducible refine (load_spec _ _ _ HL1.out HSM.out (by omega)).mono ?_); rw [HLD.out]; rintro e Y1 ⟨rfl, kk1⟩; have kr1 : Keep V6 Y1 := HQ1.out.keep kk1; have hx := HS.out Y1 kr1; obtain ⟨c0, o0, o1, o2, o3, o4⟩ := hx))
    all_goals
      go_wp2_with fail
      go_meet
      case rel => exact ⟨rfl, ⟨_, rfl⟩, kr1⟩
  obtain ⟨rfl, ⟨cc, rfl⟩, qc⟩ := hcut
  generalize wc = V7 at *
  have bX := BX6.out.keep qc
  have c0 := (Keep.grown qc none).cell c0 (by simp)
  clear o0 o1 o2 o3 o4 f0 f1 f2 f3 f4 lB HL1 HQ1 HSM HLD HS
  clear bX
  have bX := BX7.out.keep qc
  have o0 := bX.cell 0
  have o1 := bX.cell 1
  have o2 := bX.cell 2
  have o3 := bX.cell 3
  have o4 := bX.cell 4
  have f0 := bX.frozen 0
  have f1 := bX.frozen 1
  have f2 := bX.frozen 2
  have f3 := bX.frozen 3
  have f4 := bX.frozen 4
  have lB := bX.lt
  have HFR := Lib.hid (HK7.out.keep qc).parts.1
  have HSF := Lib.hid (sm_ok HF.out.ok4).ma.fr
  have HUF := Lib.hid HF.out.u4
  have QW7 := Lib.hid (QW6.out.keep qc)
  clear bX qc
  go_wp2_with (go_at_call 43; refine (usedFrames_spec _ _ HFR.out HSF.out).mono ?_; rw [HUF.out]; rintro e W8 ⟨rfl, k8⟩)
  go_ret
  exact ⟨rfl, Keep.below (k1.keep (QW7.out.keep k8))⟩

theorem own : ownKnob Try.prog.godebug = none := by kernel_rfl
theorem laidOut : laidOutB Try.prog = true := by kernel_rfl
set_option maxRecDepth 100000 in
theorem lifted (os : Os) (started : os.Started) (H : Type) (enc : TypeId × Value → H) :
    ReturnsInHanded {} Try.checked os 9 .any (Rows.fnSharedSpec.pre6 enc Try.prog Try.f9 Rows.fnSharedRow.domain false) (Rows.fnSharedSpec.post enc Try.prog Try.f9 false true false false) := by
  refine returnsInHanded_of_change (C := Try.checked) own started (by kernel_rfl) Try.func9
    (ChangeSpec.witness6 (enc := enc) (C := Try.checked) false ⟨#[], #[.slice none 0 0], []⟩ 8 (by kernel_rfl) (by kernel_rfl) (by kernel_rfl) (by kernel_rfl)) ?_
  intro W base args ds gs before hval0 hW hcnd _
  have hval : ∀ (j : Nat) t v, Try.f9.params[j]? = some t → args[j]? = some v → Value.okWide Try.prog W .any base t v := hval0
  have hW' := hW
  obtain ⟨p, q, hA0, hV, rfl, hfz, hnd⟩ := hW
  have hA : DataW.TrodAll enc Try.prog W 0 (fun _ => true) true Try.f9.params.toList args.toList ds p := hA0
  rw [Try.params9] at hA hval
  obtain ⟨v0, vs0, d0, ds0, p0, q0, hargs, rfl, rfl, h0, r0⟩ := trodAll_cons hA
  obtain ⟨rfl, rfl, rfl⟩ := trodAll_nil r0
  obtain rfl : args = #[v0] := by cases args; simp_all
  obtain ⟨rfl, rfl⟩ := trodVars_none hV
  have k0 := h0
  have lt0 : ∀ x ∈ p0, x.block < W.heap.size := by obtain ⟨m, hm⟩ := k0; exact DataW.trod_lt m _ _ _ hm
  obtain ⟨a0, len0, cap0, rfl⟩ := okWide_slice Try.underlying57 (hval 0 57 v0 rfl rfl)
  have w0 : Code W.heap.size W a0 len0 := open_code h0
  clear hA0 hval0
  refine (walk a0 len0 cap0 W w0).mono fun e W' ⟨he, bel⟩ => ?_
  subst he
  exact ⟨_, rfl, _, _, _, [], _, [], hW', trodAll_mk1 (shut_bool Try.underlying4 _), (trodAll_cons_mk (Below.trod laidOut (by kernel_rfl) (of_decide_eq_true (by kernel_rfl)) k0 bel lt0) trodAll_mk0), rfl, bel.frame _, fun h => by cases h⟩

theorem over : Rows.fnSharedRow.holds Try.pinned (OpenSpec.ofChange Rows.fnSharedSpec) :=
  OpenClaim.holds_of_wide 9 Try.f9 rfl rfl rfl rfl rfl rfl rfl ⟨rfl, rfl, rfl, rfl, rfl⟩ rfl rfl rfl rfl rfl (by kernel_rfl) Try.func9 (by kernel_rfl)
    (of_decide_eq_true (by kernel_rfl)) (by unfold Func.isWrapper; first | (rw [if_pos (by decide +kernel)]; kernel_rfl) | (rw [if_neg (by decide +kernel)]; exact ⟨rfl, rfl⟩))
    (fun os started H enc _ => lifted os started H enc)

/-- The statement. -/
theorem proved : Rows.FnSharedSaid := over
#print axioms proved
end Go.Proofs.Ytkcoehkfhffjkaa.fnShared
