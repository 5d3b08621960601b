/- The Go law FnExactSetPage returns true for all arguments and leaves its arguments as they were. Conditions: none. The frame follows the kit's shell; the walk is mine. -/
import Derived.Test.YtdodclahcjfajaaRows
import Derived.WalkKit
import Derived.ProofKit
import Derived.OpenShut
import Derived.Test.YtdodclahcjfajaaOpenTab
import Derived.Test.YtdodclahcjfajaaUniTab
import Derived.Test.YtdodclahcjfajaaFr3
import Derived.Test.YtdodclahcjfajaaTabSet
import Derived.Deep.RegionHeld3
import Derived.Deep.Cut
import Derived.ShutString
import Derived.ChangeOld
import Derived.Below
namespace Go.Proofs.Ytdodclahcjfajaa.fnExactSetPage
open Go.ChangeShapes Go.WideShapes Go.ChangeAt Go.RowKit
open Go.ChangeMaps (open_string shut_string)
set_option linter.unusedVariables false
set_option linter.unusedSimpArgs false

theorem setD_sm {t : TbD} (h : sm_Table t) (p : Int) (e : Int × Int) : sm_Table (setD t p e) := by
  unfold setD sm_Table at *
  split <;> simpa using h
set_option maxHeartbeats 4000000 in
theorem walk (v0 : Value) (x0 : TbD) (a1 : Int) (v2 : Value) (x2 : (Int × Int)) (w : World) (w0 : InTb w v0 x0) (w1 : (Lit.int .i64 a1).wf = true) (w2 : InEn w v2 x2) :
    Calls Try.prog 9 #[v0, .int .i64 a1, v2] w fun e w' => e = .returned (.bool true) ∧ Below w.heap.size w w' := by
  obtain ⟨x2a, x2b⟩ := x2
  obtain rfl : v2 = .agg #[.int .i64 x2a, .int .i64 x2b] := w2
  obtain ⟨sA, rfl, hsA⟩ := w0
  obtain ⟨aA, cA, rfl, hlA, hfA⟩ := hsA
  have hin : InTb w (.agg #[.slice aA x0.length cA]) x0 := ⟨_, rfl, aA, cA, rfl, hlA, hfA⟩
  clear hfA hlA
  have HIN := Lib.hid hin
  go_enter Try.func9, Try.ntmps9
  go_wp2_with fail
  have b_xA := (Blk.new w 24 #[.slice aA x0.length cA]).keep ((Chg.refl 0 0 _).alloc (.cells #[.int .i64 x2a, .int .i64 x2b] 51 (0, 0)))
  have b_xE := blk1 w (.cells #[.slice aA x0.length cA] 24 (0, 0)) 51 #[.int .i64 x2a, .int .i64 x2b]
  have Q1 : Keep w ((w.alloc (.cells #[.slice aA x0.length cA] 24 (0, 0))).alloc (.cells #[.int .i64 x2a, .int .i64 x2b] 51 (0, 0))) := (((Chg.refl 0 0 w).alloc _).alloc _)
  have t1 : w.heap.size + 2 ≤ ((w.alloc (.cells #[.slice aA x0.length cA] 24 (0, 0))).alloc (.cells #[.int .i64 x2a, .int .i64 x2b] 51 (0, 0))).heap.size := by simp only [size_alloc]; omega
  generalize ((w.alloc (.cells #[.slice aA x0.length cA] 24 (0, 0))).alloc (.cells #[.int .i64 x2a, .int .i64 x2b] 51 (0, 0))) = V1 at *
  have c_A_0 : V1.cell? ⟨w.heap.size, 0, none⟩ = some (.slice aA x0.length cA) := b_xA.cell 0
  have l_A := b_xA.lt
  have c_E_0 : V1.cell? ⟨w.heap.size + 1, 0, none⟩ = some (.int .i64 x2a) := b_xE.cell 0
  have c_E_1 : V1.cell? ⟨w.heap.size + 1, 1, none⟩ = some (.int .i64 x2b) := b_xE.cell 1
  have l_E := b_xE.lt
  replace hin := HIN.out.keep Q1
  go_wp2_with fail
  refine (sz_Table _ _ hin).mono ?_
  rintro e V2 ⟨s, rfl, hs0, k2⟩
  have q2 : Keep V1 V2 := Chg.keep (by repeat (first | exact Chg.refl _ _ _ | apply Chg.alloc)) k2
  have t2 := k2.size
  try simp only [size_alloc] at t2
  replace b_xA := b_xA.keep q2
  replace c_A_0 : V2.cell? ⟨w.heap.size, 0, none⟩ = some (.slice aA x0.length cA) := b_xA.cell 0
  replace l_A := b_xA.lt
  replace b_xE := b_xE.keep q2
  replace c_E_0 : V2.cell? ⟨w.heap.size + 1, 0, none⟩ = some (.int .i64 x2a) := b_xE.cell 0
  replace c_E_1 : V2.cell? ⟨w.heap.size + 1, 1, none⟩ = some (.int .i64 x2b) := b_xE.cell 1
  replace l_E := b_xE.lt
  have Q2 := Chg.keep Q1 q2
  replace hin := HIN.out.keep Q2
  by_cases hsz : s < 0
  · go_wp2_with fail
    go_ret
    exact ⟨rfl, Keep.below Q2⟩
  have hs := hs0 (by omega)
  clear hs0
  have hr0 : sm_Table (setD x0 a1 (x2a, x2b)) := setD_sm hs _ _
  generalize hR0 : setD x0 a1 (x2a, x2b) = r0 at hr0 ⊢
  have HR0 := Lib.hid hR0
  clear hR0
  generalize hR1 : setOk x0 a1 (x2a, x2b) = r1
  have HR1 := Lib.hid hR1
  clear hR1
  go_wp2_with fail
  have HS := Lib.hid (show ∀ z, Keep V2 z → (z.cell? ⟨w.heap.size, 0, none⟩ = some (.slice aA x0.length cA) ∧ z.cell? ⟨w.heap.size + 1, 0, none⟩ = some (.int .i64 x2a) ∧ z.cell? ⟨w.heap.size + 1, 1, none⟩ = some (.int .i64 x2b)) from fun z hz => ⟨(Keep.grown hz none).cell c_A_0 (by simp), (Keep.grown hz none).cell c_E_0 (by simp), (Keep.grown hz none).cell c_E_1 (by simp)⟩)
  go_cut [8, 9] from 18 (fun sp sb z => ∃ (A : Nat) (b : Option Addr) (d lo hi : Nat), sp = .pointer (some ⟨A, 0, none⟩) ∧ sb = .bool r1 ∧ Blk z A 31 #[.slice b r0.length d] ∧ TB lo hi z (.agg #[.slice b r0.length d]) r0 ∧ hi ≤ z.heap.size ∧ V2.heap.size ≤ lo ∧ (A < lo ∨ hi ≤ A) ∧ V2.heap.size ≤ A ∧ Keep V2 z)
  case first =>
    set_option maxRecDepth 100000 in
    go_region_held3 (fun z => z.cell? ⟨w.heap.size, 0, none⟩ = some (.slice aA x0.length cA) ∧ z.cell? ⟨w.heap.size + 1, 0, none⟩ = some (.int .i64 x2a) ∧ z.cell? ⟨w.heap.size + 1, 1, none⟩ = some (.int .i64 x2b)) (first | go_keep | exact HS.out _ (by repeat (first | exact kr3 | exact kr2 | exact kr1 | exact Chg.refl _ _ _ | apply Chg.drew | apply Chg.alloc | (refine Chg.set ?_ _ 0 _ (.inr (by omega)))))) (first | (go_at_call 16; refine (to_Table _ _ (hin.keep (by repeat (first | exact Chg.refl _ _ _ | apply Chg.drew | apply Chg.alloc))) hs).mono ?_; rintro e Y1 ⟨v_T, rfl, h_T, kk1⟩; have kr1 : Keep V2 Y1 := Chg.keep (by repeat (first | exact Chg.refl _ _ _ | exact Chg.refl _ _ _ | apply Chg.drew | apply Chg.alloc)) kk1; have zz1 := kr1.size; have zk1 := kk1.size; (first | (replace bN := bN.keep kk1; replace cN0 := bN.cell 0; replace fN0 := bN.frozen 0; replace lN := bN.lt) | (have bN := (Blk.new V2 31 #[.slice none 0 0]).keep (((Chg.refl 0 0 _).drew).keep kk1); have cN0 := bN.cell 0; have fN0 := bN.frozen 0; have lN := bN.lt) | skip)) | (go_at_call 37; refine (toEntry_any _ _ _).mono ?_; rintro e Y2 ⟨rfl, kk2⟩; have kr2 : Keep V2 Y2 := Chg.keep (by repeat (first | exact kr1 | exact Chg.refl _ _ _ | apply Chg.drew | apply Chg.alloc)) kk2; have zz2 := kr2.size; have zk2 := kk2.size; (first | (replace bN := bN.keep kk2; replace cN0 := bN.cell 0; replace fN0 := bN.frozen 0; replace lN := bN.lt) | (have bN : Blk Y2 Y1.heap.size 31 #[.slice none 0 0] := (Blk.new Y1 31 #[.slice none 0 0]).keep kk2; have cN0 := bN.cell 0; have fN0 := bN.frozen 0; have lN := bN.lt) | skip); have kl2 : Keep Y1 Y2 := Chg.keep (by repeat (first | exact Chg.refl _ _ _ | apply Chg.drew | apply Chg.alloc)) kk2) | (go_at_call 36; refine (setPage_spec _ _ _ _ _ (h_T.keep (by repeat (first | exact kl2 | exact Chg.refl _ _ _ | apply Chg.drew | apply Chg.alloc))) (by unfold sm_Table at hs; omega)).mono ?_; rw [HR0.out, HR1.out]; rintro e Y3 ⟨v_W0, rfl, h_W0, kk3⟩; have kr3 : Keep V2 Y3 := Chg.keep (by repeat (first | exact kr2 | exact Chg.refl _ _ _ | apply Chg.drew | apply Chg.alloc)) kk3; have zz3 := kr3.size; have zk3 := kk3.size; (first | (replace bN := bN.keep kk3; replace cN0 := bN.cell 0; replace fN0 := bN.frozen 0; replace lN := bN.lt) | (have bN : Blk Y3 Y2.heap.size 31 #[.slice none 0 0] := (Blk.new Y2 31 #[.slice none 0 0]).keep kk3; have cN0 := bN.cell 0; have fN0 := bN.frozen 0; have lN := bN.lt) | skip); have kl3 : Keep Y2 Y3 := Chg.keep (by repeat (first | exact Chg.refl _ _ _ | apply Chg.drew | apply Chg.alloc)) kk3; obtain ⟨b_W0, d_W0, rfl, _⟩ := h_W0.opened))
    all_goals
      go_wp2_with fail
      go_meet
      case rel =>
        try simp only [size_alloc, show ∀ w : World, w.drew.heap.size = w.heap.size from fun _ => rfl] at zk1 zk2 zk3 h_W0
        first
          | exact ⟨_, b_W0, d_W0, _, _, rfl, rfl, Blk.new _ _ _, h_W0.keep ((Chg.refl 0 0 _).alloc _), by first | omega | (simp only [size_alloc]; omega) | (simp [World.setCell] <;> omega), by first | omega | (simp only [size_alloc]; omega) | (simp [World.setCell] <;> omega), by first | omega | (simp only [size_alloc]; omega) | (simp [World.setCell] <;> omega), by first | omega | (simp only [size_alloc]; omega) | (simp [World.setCell] <;> omega), kr3.alloc _⟩
          | exact ⟨_, b_W0, d_W0, _, _, rfl, rfl, by simpa using bN.set_ 0 (.slice b_W0 r0.length d_W0), h_W0.mv ((Chg.refl _ _ Y3).set _ 0 (.slice b_W0 r0.length d_W0) (.inl ⟨Nat.le_refl _, Nat.lt_succ_self _⟩)) (by omega), by first | omega | (simp only [size_alloc]; omega) | (simp [World.setCell] <;> omega), by first | omega | (simp only [size_alloc]; omega) | (simp [World.setCell] <;> omega), by first | omega | (simp only [size_alloc]; omega) | (simp [World.setCell] <;> omega), by first | omega | (simp only [size_alloc]; omega) | (simp [World.setCell] <;> omega), kr3.set _ 0 _ (.inr (by first | omega | (simp only [size_alloc]; omega) | (simp [World.setCell] <;> omega)))⟩
  clear HS
  revert hcut
  generalize wc = V3
  rintro ⟨A_W0, b_W0, d_W0, lo_W0, hi_W0, rfl, rfl, b_xW0, h_W0, hhi_W0, hlo_W0, hA_W0, hAl_W0, q3⟩
  have t3 := q3.size
  replace b_xA := b_xA.keep q3
  replace c_A_0 : V3.cell? ⟨w.heap.size, 0, none⟩ = some (.slice aA x0.length cA) := b_xA.cell 0
  replace l_A := b_xA.lt
  replace b_xE := b_xE.keep q3
  replace c_E_0 : V3.cell? ⟨w.heap.size + 1, 0, none⟩ = some (.int .i64 x2a) := b_xE.cell 0
  replace c_E_1 : V3.cell? ⟨w.heap.size + 1, 1, none⟩ = some (.int .i64 x2b) := b_xE.cell 1
  replace l_E := b_xE.lt
  have lw_W0 := b_xW0.lt
  have c_W0_0 : V3.cell? ⟨A_W0, 0, none⟩ = some (.slice b_W0 r0.length d_W0) := b_xW0.cell 0
  have l_W0 := b_xW0.lt
  have Q3 := Chg.keep Q2 q3
  replace hin := HIN.out.keep Q3
  go_wp2_with fail
  refine (to_Table _ _ hin hs).mono ?_
  rintro e V4 ⟨v_X, rfl, h_X, k4⟩
  have q4 : Keep V3 V4 := Chg.keep (by repeat (first | exact Chg.refl _ _ _ | apply Chg.alloc)) k4
  have t4 := k4.size
  try simp only [size_alloc] at t4
  replace h_W0 := h_W0.keep q4
  replace b_xA := b_xA.keep q4
  replace c_A_0 : V4.cell? ⟨w.heap.size, 0, none⟩ = some (.slice aA x0.length cA) := b_xA.cell 0
  replace l_A := b_xA.lt
  replace b_xE := b_xE.keep q4
  replace c_E_0 : V4.cell? ⟨w.heap.size + 1, 0, none⟩ = some (.int .i64 x2a) := b_xE.cell 0
  replace c_E_1 : V4.cell? ⟨w.heap.size + 1, 1, none⟩ = some (.int .i64 x2b) := b_xE.cell 1
  replace l_E := b_xE.lt
  replace b_xW0 := b_xW0.keep q4
  replace c_W0_0 : V4.cell? ⟨A_W0, 0, none⟩ = some (.slice b_W0 r0.length d_W0) := b_xW0.cell 0
  replace l_W0 := b_xW0.lt
  have Q4 := Chg.keep Q3 q4
  replace hin := HIN.out.keep Q4
  try simp only [size_alloc] at h_X
  obtain ⟨b_X, d_X, rfl, _⟩ := h_X.opened
  have b_xX := Blk.new V4 31 #[.slice b_X x0.length d_X]
  have q5 : Keep V4 (V4.alloc (.cells #[.slice b_X x0.length d_X] 31 (0, 0))) := (Chg.refl 0 0 _).alloc _
  go_wp2_with fail
  generalize V4.alloc (.cells #[.slice b_X x0.length d_X] 31 (0, 0)) = V5 at *
  have t5 := q5.size
  replace h_W0 := h_W0.keep q5
  replace h_X := h_X.keep q5
  replace b_xA := b_xA.keep q5
  replace c_A_0 : V5.cell? ⟨w.heap.size, 0, none⟩ = some (.slice aA x0.length cA) := b_xA.cell 0
  replace l_A := b_xA.lt
  replace b_xE := b_xE.keep q5
  replace c_E_0 : V5.cell? ⟨w.heap.size + 1, 0, none⟩ = some (.int .i64 x2a) := b_xE.cell 0
  replace c_E_1 : V5.cell? ⟨w.heap.size + 1, 1, none⟩ = some (.int .i64 x2b) := b_xE.cell 1
  replace l_E := b_xE.lt
  replace b_xW0 := b_xW0.keep q5
  replace c_W0_0 : V5.cell? ⟨A_W0, 0, none⟩ = some (.slice b_W0 r0.length d_W0) := b_xW0.cell 0
  replace l_W0 := b_xW0.lt
  have lw_X := b_xX.lt
  have c_X_0 : V5.cell? ⟨V4.heap.size, 0, none⟩ = some (.slice b_X x0.length d_X) := b_xX.cell 0
  have l_X := b_xX.lt
  have Q5 := Chg.keep Q4 q5
  replace hin := HIN.out.keep Q5
  go_wp2_with fail
  have HS := Lib.hid (show ∀ z, Keep V5 z → (z.cell? ⟨w.heap.size + 1, 0, none⟩ = some (.int .i64 x2a) ∧ z.cell? ⟨w.heap.size + 1, 1, none⟩ = some (.int .i64 x2b) ∧ z.cell? ⟨V4.heap.size, 0, none⟩ = some (.slice b_X x0.length d_X)) from fun z hz => ⟨(Keep.grown hz none).cell c_E_0 (by simp), (Keep.grown hz none).cell c_E_1 (by simp), (Keep.grown hz none).cell c_X_0 (by simp)⟩)
  go_cut [11, 12] from 18 (fun sp sb z => ∃ (A : Nat) (b : Option Addr) (d lo hi : Nat), sp = .pointer (some ⟨A, 0, none⟩) ∧ sb = .bool r1 ∧ Blk z A 31 #[.slice b r0.length d] ∧ TB lo hi z (.agg #[.slice b r0.length d]) r0 ∧ hi ≤ z.heap.size ∧ V5.heap.size ≤ lo ∧ (A < lo ∨ hi ≤ A) ∧ V5.heap.size ≤ A ∧ Keep V5 z)
  case first =>
    set_option maxRecDepth 100000 in
    go_region_held3 (fun z => z.cell? ⟨w.heap.size + 1, 0, none⟩ = some (.int .i64 x2a) ∧ z.cell? ⟨w.heap.size + 1, 1, none⟩ = some (.int .i64 x2b) ∧ z.cell? ⟨V4.heap.size, 0, none⟩ = some (.slice b_X x0.length d_X)) (first | go_keep | exact HS.out _ (by repeat (first | exact kr2 | exact kr1 | exact Chg.refl _ _ _ | apply Chg.drew | apply Chg.alloc | (refine Chg.set ?_ _ 0 _ (.inr (by omega)))))) (first | (go_at_call 37; refine (toEntry_any _ _ _).mono ?_; rintro e Y1 ⟨rfl, kk1⟩; have kr1 : Keep V5 Y1 := Chg.keep (by repeat (first | exact Chg.refl _ _ _ | exact Chg.refl _ _ _ | apply Chg.drew | apply Chg.alloc)) kk1; have zz1 := kr1.size; have zk1 := kk1.size; (first | (replace bN := bN.keep kk1; replace cN0 := bN.cell 0; replace fN0 := bN.frozen 0; replace lN := bN.lt) | (have bN := (Blk.new V5 31 #[.slice none 0 0]).keep (((Chg.refl 0 0 _).drew).keep kk1); have cN0 := bN.cell 0; have fN0 := bN.frozen 0; have lN := bN.lt) | skip)) | (go_at_call 30; refine (setPage_any _ _ _ _ _ (h_X.keep (by repeat (first | exact kr1 | exact Chg.refl _ _ _ | apply Chg.drew | apply Chg.alloc))) (by unfold sm_Table at hs; omega)).mono ?_; rw [HR0.out, HR1.out]; rintro e Y2 ⟨v_G0, rfl, h_G0, kk2⟩; have kr2 : Keep V5 Y2 := Chg.keep (by repeat (first | exact kr1 | exact Chg.refl _ _ _ | apply Chg.drew | apply Chg.alloc)) kk2; have zz2 := kr2.size; have zk2 := kk2.size; (first | (replace bN := bN.keep kk2; replace cN0 := bN.cell 0; replace fN0 := bN.frozen 0; replace lN := bN.lt) | (have bN : Blk Y2 Y1.heap.size 31 #[.slice none 0 0] := (Blk.new Y1 31 #[.slice none 0 0]).keep kk2; have cN0 := bN.cell 0; have fN0 := bN.frozen 0; have lN := bN.lt) | skip); have kl2 : Keep Y1 Y2 := Chg.keep (by repeat (first | exact Chg.refl _ _ _ | apply Chg.drew | apply Chg.alloc)) kk2; obtain ⟨b_G0, d_G0, rfl, _⟩ := h_G0.opened))
    all_goals
      go_wp2_with fail
      go_meet
      case rel =>
        try simp only [size_alloc, show ∀ w : World, w.drew.heap.size = w.heap.size from fun _ => rfl] at zk1 zk2 h_G0
        first
          | exact ⟨_, b_G0, d_G0, _, _, rfl, rfl, Blk.new _ _ _, h_G0.keep ((Chg.refl 0 0 _).alloc _), by first | omega | (simp only [size_alloc]; omega) | (simp [World.setCell] <;> omega), by first | omega | (simp only [size_alloc]; omega) | (simp [World.setCell] <;> omega), by first | omega | (simp only [size_alloc]; omega) | (simp [World.setCell] <;> omega), by first | omega | (simp only [size_alloc]; omega) | (simp [World.setCell] <;> omega), kr2.alloc _⟩
          | exact ⟨_, b_G0, d_G0, _, _, rfl, rfl, by simpa using bN.set_ 0 (.slice b_G0 r0.length d_G0), h_G0.mv ((Chg.refl _ _ Y2).set _ 0 (.slice b_G0 r0.length d_G0) (.inl ⟨Nat.le_refl _, Nat.lt_succ_self _⟩)) (by omega), by first | omega | (simp only [size_alloc]; omega) | (simp [World.setCell] <;> omega), by first | omega | (simp only [size_alloc]; omega) | (simp [World.setCell] <;> omega), by first | omega | (simp only [size_alloc]; omega) | (simp [World.setCell] <;> omega), by first | omega | (simp only [size_alloc]; omega) | (simp [World.setCell] <;> omega), kr2.set _ 0 _ (.inr (by first | omega | (simp only [size_alloc]; omega) | (simp [World.setCell] <;> omega)))⟩
  clear HS
  revert hcut
  generalize wc = V6
  rintro ⟨A_G0, b_G0, d_G0, lo_G0, hi_G0, rfl, rfl, b_xG0, h_G0, hhi_G0, hlo_G0, hA_G0, hAl_G0, q6⟩
  have t6 := q6.size
  replace h_W0 := h_W0.keep q6
  replace h_X := h_X.keep q6
  replace b_xA := b_xA.keep q6
  replace c_A_0 : V6.cell? ⟨w.heap.size, 0, none⟩ = some (.slice aA x0.length cA) := b_xA.cell 0
  replace l_A := b_xA.lt
  replace b_xE := b_xE.keep q6
  replace c_E_0 : V6.cell? ⟨w.heap.size + 1, 0, none⟩ = some (.int .i64 x2a) := b_xE.cell 0
  replace c_E_1 : V6.cell? ⟨w.heap.size + 1, 1, none⟩ = some (.int .i64 x2b) := b_xE.cell 1
  replace l_E := b_xE.lt
  replace b_xW0 := b_xW0.keep q6
  replace c_W0_0 : V6.cell? ⟨A_W0, 0, none⟩ = some (.slice b_W0 r0.length d_W0) := b_xW0.cell 0
  replace l_W0 := b_xW0.lt
  replace b_xX := b_xX.keep q6
  replace c_X_0 : V6.cell? ⟨V4.heap.size, 0, none⟩ = some (.slice b_X x0.length d_X) := b_xX.cell 0
  replace l_X := b_xX.lt
  have lw_G0 := b_xG0.lt
  have c_G0_0 : V6.cell? ⟨A_G0, 0, none⟩ = some (.slice b_G0 r0.length d_G0) := b_xG0.cell 0
  have l_G0 := b_xG0.lt
  have Q6 := Chg.keep Q5 q6
  replace hin := HIN.out.keep Q6
  go_wp2_with fail
  refine (eq_Table _ _ _ h_G0 h_W0 hr0).mono ?_
  rintro e V7 ⟨rfl, k7⟩
  have q7 : Keep V6 V7 := Chg.keep (by repeat (first | exact Chg.refl _ _ _ | apply Chg.alloc)) k7
  have t7 := k7.size
  try simp only [size_alloc] at t7
  replace h_W0 := h_W0.keep q7
  replace h_X := h_X.keep q7
  replace h_G0 := h_G0.keep q7
  replace b_xA := b_xA.keep q7
  replace c_A_0 : V7.cell? ⟨w.heap.size, 0, none⟩ = some (.slice aA x0.length cA) := b_xA.cell 0
  replace l_A := b_xA.lt
  replace b_xE := b_xE.keep q7
  replace c_E_0 : V7.cell? ⟨w.heap.size + 1, 0, none⟩ = some (.int .i64 x2a) := b_xE.cell 0
  replace c_E_1 : V7.cell? ⟨w.heap.size + 1, 1, none⟩ = some (.int .i64 x2b) := b_xE.cell 1
  replace l_E := b_xE.lt
  replace b_xW0 := b_xW0.keep q7
  replace c_W0_0 : V7.cell? ⟨A_W0, 0, none⟩ = some (.slice b_W0 r0.length d_W0) := b_xW0.cell 0
  replace l_W0 := b_xW0.lt
  replace b_xX := b_xX.keep q7
  replace c_X_0 : V7.cell? ⟨V4.heap.size, 0, none⟩ = some (.slice b_X x0.length d_X) := b_xX.cell 0
  replace l_X := b_xX.lt
  replace b_xG0 := b_xG0.keep q7
  replace c_G0_0 : V7.cell? ⟨A_G0, 0, none⟩ = some (.slice b_G0 r0.length d_G0) := b_xG0.cell 0
  replace l_G0 := b_xG0.lt
  have Q7 := Chg.keep Q6 q7
  replace hin := HIN.out.keep Q7
  go_wp2_with fail
  go_region_held3 (fun z => z.cell? ⟨V4.heap.size, 0, none⟩ = some (.slice b_X x0.length d_X) ∧ z.cell? ⟨w.heap.size, 0, none⟩ = some (.slice aA x0.length cA)) (first | go_keep | exact ⟨(Keep.grown kr1 none).cell c_X_0 (by simp), (Keep.grown kr1 none).cell c_A_0 (by simp)⟩ | exact ⟨(Keep.grown (Chg.keep kr1 kr2) none).cell c_X_0 (by simp), (Keep.grown (Chg.keep kr1 kr2) none).cell c_A_0 (by simp)⟩) (first | (go_at_call 16; refine (to_Table _ _ (hin.keep (Chg.refl _ _ _).drew) hs).mono ?_; rintro e V8 ⟨v_r, rfl, h_r, kr1⟩) | (go_at_call 19; refine (eq_Table _ _ _ ((h_X.keep (Chg.refl _ _ _).drew).keep kr1) h_r hs).mono ?_; rintro e V9 ⟨rfl, kr2⟩))
  have q9 : Keep V7 V9 := Chg.keep (Chg.keep (Chg.refl _ _ _).drew kr1) kr2
  have t9 := q9.size
  clear h_r
  replace h_W0 := h_W0.keep q9
  replace h_X := h_X.keep q9
  replace h_G0 := h_G0.keep q9
  replace b_xA := b_xA.keep q9
  replace c_A_0 : V9.cell? ⟨w.heap.size, 0, none⟩ = some (.slice aA x0.length cA) := b_xA.cell 0
  replace l_A := b_xA.lt
  replace b_xE := b_xE.keep q9
  replace c_E_0 : V9.cell? ⟨w.heap.size + 1, 0, none⟩ = some (.int .i64 x2a) := b_xE.cell 0
  replace c_E_1 : V9.cell? ⟨w.heap.size + 1, 1, none⟩ = some (.int .i64 x2b) := b_xE.cell 1
  replace l_E := b_xE.lt
  replace b_xW0 := b_xW0.keep q9
  replace c_W0_0 : V9.cell? ⟨A_W0, 0, none⟩ = some (.slice b_W0 r0.length d_W0) := b_xW0.cell 0
  replace l_W0 := b_xW0.lt
  replace b_xX := b_xX.keep q9
  replace c_X_0 : V9.cell? ⟨V4.heap.size, 0, none⟩ = some (.slice b_X x0.length d_X) := b_xX.cell 0
  replace l_X := b_xX.lt
  replace b_xG0 := b_xG0.keep q9
  replace c_G0_0 : V9.cell? ⟨A_G0, 0, none⟩ = some (.slice b_G0 r0.length d_G0) := b_xG0.cell 0
  replace l_G0 := b_xG0.lt
  have Q9 := Chg.keep Q7 q9
  replace hin := HIN.out.keep Q9
  go_wp2_with fail
  refine (mark_Table _ _ h_X (by omega) hs).mono ?_
  rintro e V10 ⟨rfl, h_X, k10⟩
  have q10 := Chg.trans (a := V9) (by repeat (first | exact Chg.refl _ _ _ | apply Chg.alloc)) k10
  have t10 := k10.size
  try simp only [size_alloc] at t10
  have tt10 := q10.size
  replace h_W0 := h_W0.mv q10 (by omega)
  replace h_G0 := h_G0.mv q10 (by omega)
  replace b_xA := b_xA.mv q10 (by omega)
  replace c_A_0 : V10.cell? ⟨w.heap.size, 0, none⟩ = some (.slice aA x0.length cA) := b_xA.cell 0
  replace l_A := b_xA.lt
  replace b_xE := b_xE.mv q10 (by omega)
  replace c_E_0 : V10.cell? ⟨w.heap.size + 1, 0, none⟩ = some (.int .i64 x2a) := b_xE.cell 0
  replace c_E_1 : V10.cell? ⟨w.heap.size + 1, 1, none⟩ = some (.int .i64 x2b) := b_xE.cell 1
  replace l_E := b_xE.lt
  replace b_xW0 := b_xW0.mv q10 (by omega)
  replace c_W0_0 : V10.cell? ⟨A_W0, 0, none⟩ = some (.slice b_W0 r0.length d_W0) := b_xW0.cell 0
  replace l_W0 := b_xW0.lt
  replace b_xX := b_xX.mv q10 (by omega)
  replace c_X_0 : V10.cell? ⟨V4.heap.size, 0, none⟩ = some (.slice b_X x0.length d_X) := b_xX.cell 0
  replace l_X := b_xX.lt
  replace b_xG0 := b_xG0.mv q10 (by omega)
  replace c_G0_0 : V10.cell? ⟨A_G0, 0, none⟩ = some (.slice b_G0 r0.length d_G0) := b_xG0.cell 0
  replace l_G0 := b_xG0.lt
  have Q10 := Chg.comp Q9 q10 (.inl (by omega))
  replace hin := HIN.out.keep Q10
  go_wp2_with fail
  refine (eq_Table _ _ _ h_G0 h_W0 hr0).mono ?_
  rintro e V11 ⟨rfl, k11⟩
  have q11 : Keep V10 V11 := Chg.keep (by repeat (first | exact Chg.refl _ _ _ | apply Chg.alloc)) k11
  have t11 := k11.size
  try simp only [size_alloc] at t11
  replace h_W0 := h_W0.keep q11
  replace h_X := h_X.keep q11
  replace h_G0 := h_G0.keep q11
  replace b_xA := b_xA.keep q11
  replace c_A_0 : V11.cell? ⟨w.heap.size, 0, none⟩ = some (.slice aA x0.length cA) := b_xA.cell 0
  replace l_A := b_xA.lt
  replace b_xE := b_xE.keep q11
  replace c_E_0 : V11.cell? ⟨w.heap.size + 1, 0, none⟩ = some (.int .i64 x2a) := b_xE.cell 0
  replace c_E_1 : V11.cell? ⟨w.heap.size + 1, 1, none⟩ = some (.int .i64 x2b) := b_xE.cell 1
  replace l_E := b_xE.lt
  replace b_xW0 := b_xW0.keep q11
  replace c_W0_0 : V11.cell? ⟨A_W0, 0, none⟩ = some (.slice b_W0 r0.length d_W0) := b_xW0.cell 0
  replace l_W0 := b_xW0.lt
  replace b_xX := b_xX.keep q11
  replace c_X_0 : V11.cell? ⟨V4.heap.size, 0, none⟩ = some (.slice b_X x0.length d_X) := b_xX.cell 0
  replace l_X := b_xX.lt
  replace b_xG0 := b_xG0.keep q11
  replace c_G0_0 : V11.cell? ⟨A_G0, 0, none⟩ = some (.slice b_G0 r0.length d_G0) := b_xG0.cell 0
  replace l_G0 := b_xG0.lt
  have Q11 := Chg.keep Q10 q11
  replace hin := HIN.out.keep Q11
  go_wp2_with fail
  refine (mark_Table _ _ h_G0 (by omega) hr0).mono ?_
  rintro e V12 ⟨rfl, h_G0, k12⟩
  have q12 := Chg.trans (a := V11) (by repeat (first | exact Chg.refl _ _ _ | apply Chg.alloc)) k12
  have t12 := k12.size
  try simp only [size_alloc] at t12
  have tt12 := q12.size
  replace h_W0 := h_W0.mv q12 (by omega)
  replace h_X := h_X.mv q12 (by omega)
  replace b_xA := b_xA.mv q12 (by omega)
  replace c_A_0 : V12.cell? ⟨w.heap.size, 0, none⟩ = some (.slice aA x0.length cA) := b_xA.cell 0
  replace l_A := b_xA.lt
  replace b_xE := b_xE.mv q12 (by omega)
  replace c_E_0 : V12.cell? ⟨w.heap.size + 1, 0, none⟩ = some (.int .i64 x2a) := b_xE.cell 0
  replace c_E_1 : V12.cell? ⟨w.heap.size + 1, 1, none⟩ = some (.int .i64 x2b) := b_xE.cell 1
  replace l_E := b_xE.lt
  replace b_xW0 := b_xW0.mv q12 (by omega)
  replace c_W0_0 : V12.cell? ⟨A_W0, 0, none⟩ = some (.slice b_W0 r0.length d_W0) := b_xW0.cell 0
  replace l_W0 := b_xW0.lt
  replace b_xX := b_xX.mv q12 (by omega)
  replace c_X_0 : V12.cell? ⟨V4.heap.size, 0, none⟩ = some (.slice b_X x0.length d_X) := b_xX.cell 0
  replace l_X := b_xX.lt
  replace b_xG0 := b_xG0.mv q12 (by omega)
  replace c_G0_0 : V12.cell? ⟨A_G0, 0, none⟩ = some (.slice b_G0 r0.length d_G0) := b_xG0.cell 0
  replace l_G0 := b_xG0.lt
  have Q12 := Chg.comp Q11 q12 (.inl (by omega))
  replace hin := HIN.out.keep Q12
  go_wp2_with fail
  refine (held_Table _ _ h_G0 hr0).mono ?_
  rintro e V13 ⟨rfl, k13⟩
  have q13 : Keep V12 V13 := Chg.keep (by repeat (first | exact Chg.refl _ _ _ | apply Chg.alloc)) k13
  have t13 := k13.size
  try simp only [size_alloc] at t13
  replace h_W0 := h_W0.keep q13
  replace h_X := h_X.keep q13
  replace h_G0 := h_G0.keep q13
  replace b_xA := b_xA.keep q13
  replace c_A_0 : V13.cell? ⟨w.heap.size, 0, none⟩ = some (.slice aA x0.length cA) := b_xA.cell 0
  replace l_A := b_xA.lt
  replace b_xE := b_xE.keep q13
  replace c_E_0 : V13.cell? ⟨w.heap.size + 1, 0, none⟩ = some (.int .i64 x2a) := b_xE.cell 0
  replace c_E_1 : V13.cell? ⟨w.heap.size + 1, 1, none⟩ = some (.int .i64 x2b) := b_xE.cell 1
  replace l_E := b_xE.lt
  replace b_xW0 := b_xW0.keep q13
  replace c_W0_0 : V13.cell? ⟨A_W0, 0, none⟩ = some (.slice b_W0 r0.length d_W0) := b_xW0.cell 0
  replace l_W0 := b_xW0.lt
  replace b_xX := b_xX.keep q13
  replace c_X_0 : V13.cell? ⟨V4.heap.size, 0, none⟩ = some (.slice b_X x0.length d_X) := b_xX.cell 0
  replace l_X := b_xX.lt
  replace b_xG0 := b_xG0.keep q13
  replace c_G0_0 : V13.cell? ⟨A_G0, 0, none⟩ = some (.slice b_G0 r0.length d_G0) := b_xG0.cell 0
  replace l_G0 := b_xG0.lt
  have Q13 := Chg.keep Q12 q13
  replace hin := HIN.out.keep Q13
  go_wp2_with fail
  have HS := Lib.hid (show ∀ z, Keep V13 z → (z.cell? ⟨w.heap.size, 0, none⟩ = some (.slice aA x0.length cA) ∧ z.cell? ⟨w.heap.size + 1, 0, none⟩ = some (.int .i64 x2a) ∧ z.cell? ⟨w.heap.size + 1, 1, none⟩ = some (.int .i64 x2b)) from fun z hz => ⟨(Keep.grown hz none).cell c_A_0 (by simp), (Keep.grown hz none).cell c_E_0 (by simp), (Keep.grown hz none).cell c_E_1 (by simp)⟩)
  go_cut [16, 17] from 18 (fun sp sb z => ∃ (A : Nat) (b : Option Addr) (d lo hi : Nat), sp = .pointer (some ⟨A, 0, none⟩) ∧ sb = .bool r1 ∧ Blk z A 31 #[.slice b r0.length d] ∧ TB lo hi z (.agg #[.slice b r0.length d]) r0 ∧ hi ≤ z.heap.size ∧ V13.heap.size ≤ lo ∧ (A < lo ∨ hi ≤ A) ∧ V13.heap.size ≤ A ∧ Keep V13 z)
  case first =>
    set_option maxRecDepth 100000 in
    go_region_held3 (fun z => z.cell? ⟨w.heap.size, 0, none⟩ = some (.slice aA x0.length cA) ∧ z.cell? ⟨w.heap.size + 1, 0, none⟩ = some (.int .i64 x2a) ∧ z.cell? ⟨w.heap.size + 1, 1, none⟩ = some (.int .i64 x2b)) (first | go_keep | exact HS.out _ (by repeat (first | exact kr3 | exact kr2 | exact kr1 | exact Chg.refl _ _ _ | apply Chg.drew | apply Chg.alloc | (refine Chg.set ?_ _ 0 _ (.inr (by omega)))))) (first | (go_at_call 16; refine (to_Table _ _ (hin.keep (by repeat (first | exact Chg.refl _ _ _ | apply Chg.drew | apply Chg.alloc))) hs).mono ?_; rintro e Y1 ⟨v_Y, rfl, h_Y, kk1⟩; have kr1 : Keep V13 Y1 := Chg.keep (by repeat (first | exact Chg.refl _ _ _ | exact Chg.refl _ _ _ | apply Chg.drew | apply Chg.alloc)) kk1; have zz1 := kr1.size; have zk1 := kk1.size; (first | (replace bN := bN.keep kk1; replace cN0 := bN.cell 0; replace fN0 := bN.frozen 0; replace lN := bN.lt) | (have bN := (Blk.new V13 31 #[.slice none 0 0]).keep (((Chg.refl 0 0 _).drew).keep kk1); have cN0 := bN.cell 0; have fN0 := bN.frozen 0; have lN := bN.lt) | skip)) | (go_at_call 37; refine (toEntry_any _ _ _).mono ?_; rintro e Y2 ⟨rfl, kk2⟩; have kr2 : Keep V13 Y2 := Chg.keep (by repeat (first | exact kr1 | exact Chg.refl _ _ _ | apply Chg.drew | apply Chg.alloc)) kk2; have zz2 := kr2.size; have zk2 := kk2.size; (first | (replace bN := bN.keep kk2; replace cN0 := bN.cell 0; replace fN0 := bN.frozen 0; replace lN := bN.lt) | (have bN : Blk Y2 Y1.heap.size 31 #[.slice none 0 0] := (Blk.new Y1 31 #[.slice none 0 0]).keep kk2; have cN0 := bN.cell 0; have fN0 := bN.frozen 0; have lN := bN.lt) | skip); have kl2 : Keep Y1 Y2 := Chg.keep (by repeat (first | exact Chg.refl _ _ _ | apply Chg.drew | apply Chg.alloc)) kk2) | (go_at_call 30; refine (setPage_any _ _ _ _ _ (h_Y.keep (by repeat (first | exact kl2 | exact Chg.refl _ _ _ | apply Chg.drew | apply Chg.alloc))) (by unfold sm_Table at hs; omega)).mono ?_; rw [HR0.out, HR1.out]; rintro e Y3 ⟨v_H0, rfl, h_H0, kk3⟩; have kr3 : Keep V13 Y3 := Chg.keep (by repeat (first | exact kr2 | exact Chg.refl _ _ _ | apply Chg.drew | apply Chg.alloc)) kk3; have zz3 := kr3.size; have zk3 := kk3.size; (first | (replace bN := bN.keep kk3; replace cN0 := bN.cell 0; replace fN0 := bN.frozen 0; replace lN := bN.lt) | (have bN : Blk Y3 Y2.heap.size 31 #[.slice none 0 0] := (Blk.new Y2 31 #[.slice none 0 0]).keep kk3; have cN0 := bN.cell 0; have fN0 := bN.frozen 0; have lN := bN.lt) | skip); have kl3 : Keep Y2 Y3 := Chg.keep (by repeat (first | exact Chg.refl _ _ _ | apply Chg.drew | apply Chg.alloc)) kk3; obtain ⟨b_H0, d_H0, rfl, _⟩ := h_H0.opened))
    all_goals
      go_wp2_with fail
      go_meet
      case rel =>
        try simp only [size_alloc, show ∀ w : World, w.drew.heap.size = w.heap.size from fun _ => rfl] at zk1 zk2 zk3 h_H0
        first
          | exact ⟨_, b_H0, d_H0, _, _, rfl, rfl, Blk.new _ _ _, h_H0.keep ((Chg.refl 0 0 _).alloc _), by first | omega | (simp only [size_alloc]; omega) | (simp [World.setCell] <;> omega), by first | omega | (simp only [size_alloc]; omega) | (simp [World.setCell] <;> omega), by first | omega | (simp only [size_alloc]; omega) | (simp [World.setCell] <;> omega), by first | omega | (simp only [size_alloc]; omega) | (simp [World.setCell] <;> omega), kr3.alloc _⟩
          | exact ⟨_, b_H0, d_H0, _, _, rfl, rfl, by simpa using bN.set_ 0 (.slice b_H0 r0.length d_H0), h_H0.mv ((Chg.refl _ _ Y3).set _ 0 (.slice b_H0 r0.length d_H0) (.inl ⟨Nat.le_refl _, Nat.lt_succ_self _⟩)) (by omega), by first | omega | (simp only [size_alloc]; omega) | (simp [World.setCell] <;> omega), by first | omega | (simp only [size_alloc]; omega) | (simp [World.setCell] <;> omega), by first | omega | (simp only [size_alloc]; omega) | (simp [World.setCell] <;> omega), by first | omega | (simp only [size_alloc]; omega) | (simp [World.setCell] <;> omega), kr3.set _ 0 _ (.inr (by first | omega | (simp only [size_alloc]; omega) | (simp [World.setCell] <;> omega)))⟩
  clear HS
  revert hcut
  generalize wc = V14
  rintro ⟨A_H0, b_H0, d_H0, lo_H0, hi_H0, rfl, rfl, b_xH0, h_H0, hhi_H0, hlo_H0, hA_H0, hAl_H0, q14⟩
  have t14 := q14.size
  replace h_W0 := h_W0.keep q14
  replace h_X := h_X.keep q14
  replace h_G0 := h_G0.keep q14
  replace b_xA := b_xA.keep q14
  replace c_A_0 : V14.cell? ⟨w.heap.size, 0, none⟩ = some (.slice aA x0.length cA) := b_xA.cell 0
  replace l_A := b_xA.lt
  replace b_xE := b_xE.keep q14
  replace c_E_0 : V14.cell? ⟨w.heap.size + 1, 0, none⟩ = some (.int .i64 x2a) := b_xE.cell 0
  replace c_E_1 : V14.cell? ⟨w.heap.size + 1, 1, none⟩ = some (.int .i64 x2b) := b_xE.cell 1
  replace l_E := b_xE.lt
  replace b_xW0 := b_xW0.keep q14
  replace c_W0_0 : V14.cell? ⟨A_W0, 0, none⟩ = some (.slice b_W0 r0.length d_W0) := b_xW0.cell 0
  replace l_W0 := b_xW0.lt
  replace b_xX := b_xX.keep q14
  replace c_X_0 : V14.cell? ⟨V4.heap.size, 0, none⟩ = some (.slice b_X x0.length d_X) := b_xX.cell 0
  replace l_X := b_xX.lt
  replace b_xG0 := b_xG0.keep q14
  replace c_G0_0 : V14.cell? ⟨A_G0, 0, none⟩ = some (.slice b_G0 r0.length d_G0) := b_xG0.cell 0
  replace l_G0 := b_xG0.lt
  have lw_H0 := b_xH0.lt
  have c_H0_0 : V14.cell? ⟨A_H0, 0, none⟩ = some (.slice b_H0 r0.length d_H0) := b_xH0.cell 0
  have l_H0 := b_xH0.lt
  have Q14 := Chg.keep Q13 q14
  replace hin := HIN.out.keep Q14
  go_wp2_with fail
  refine (eq_Table _ _ _ h_H0 h_W0 hr0).mono ?_
  rintro e V15 ⟨rfl, k15⟩
  have q15 : Keep V14 V15 := Chg.keep (by repeat (first | exact Chg.refl _ _ _ | apply Chg.alloc)) k15
  have t15 := k15.size
  try simp only [size_alloc] at t15
  replace h_W0 := h_W0.keep q15
  replace h_X := h_X.keep q15
  replace h_G0 := h_G0.keep q15
  replace h_H0 := h_H0.keep q15
  replace b_xA := b_xA.keep q15
  replace c_A_0 : V15.cell? ⟨w.heap.size, 0, none⟩ = some (.slice aA x0.length cA) := b_xA.cell 0
  replace l_A := b_xA.lt
  replace b_xE := b_xE.keep q15
  replace c_E_0 : V15.cell? ⟨w.heap.size + 1, 0, none⟩ = some (.int .i64 x2a) := b_xE.cell 0
  replace c_E_1 : V15.cell? ⟨w.heap.size + 1, 1, none⟩ = some (.int .i64 x2b) := b_xE.cell 1
  replace l_E := b_xE.lt
  replace b_xW0 := b_xW0.keep q15
  replace c_W0_0 : V15.cell? ⟨A_W0, 0, none⟩ = some (.slice b_W0 r0.length d_W0) := b_xW0.cell 0
  replace l_W0 := b_xW0.lt
  replace b_xX := b_xX.keep q15
  replace c_X_0 : V15.cell? ⟨V4.heap.size, 0, none⟩ = some (.slice b_X x0.length d_X) := b_xX.cell 0
  replace l_X := b_xX.lt
  replace b_xG0 := b_xG0.keep q15
  replace c_G0_0 : V15.cell? ⟨A_G0, 0, none⟩ = some (.slice b_G0 r0.length d_G0) := b_xG0.cell 0
  replace l_G0 := b_xG0.lt
  replace b_xH0 := b_xH0.keep q15
  replace c_H0_0 : V15.cell? ⟨A_H0, 0, none⟩ = some (.slice b_H0 r0.length d_H0) := b_xH0.cell 0
  replace l_H0 := b_xH0.lt
  have Q15 := Chg.keep Q14 q15
  replace hin := HIN.out.keep Q15
  go_wp2_with fail
  refine (held_Table _ _ h_G0 hr0).mono ?_
  rintro e V16 ⟨rfl, k16⟩
  have q16 : Keep V15 V16 := Chg.keep (by repeat (first | exact Chg.refl _ _ _ | apply Chg.alloc)) k16
  have t16 := k16.size
  try simp only [size_alloc] at t16
  replace h_W0 := h_W0.keep q16
  replace h_X := h_X.keep q16
  replace h_G0 := h_G0.keep q16
  replace h_H0 := h_H0.keep q16
  replace b_xA := b_xA.keep q16
  replace c_A_0 : V16.cell? ⟨w.heap.size, 0, none⟩ = some (.slice aA x0.length cA) := b_xA.cell 0
  replace l_A := b_xA.lt
  replace b_xE := b_xE.keep q16
  replace c_E_0 : V16.cell? ⟨w.heap.size + 1, 0, none⟩ = some (.int .i64 x2a) := b_xE.cell 0
  replace c_E_1 : V16.cell? ⟨w.heap.size + 1, 1, none⟩ = some (.int .i64 x2b) := b_xE.cell 1
  replace l_E := b_xE.lt
  replace b_xW0 := b_xW0.keep q16
  replace c_W0_0 : V16.cell? ⟨A_W0, 0, none⟩ = some (.slice b_W0 r0.length d_W0) := b_xW0.cell 0
  replace l_W0 := b_xW0.lt
  replace b_xX := b_xX.keep q16
  replace c_X_0 : V16.cell? ⟨V4.heap.size, 0, none⟩ = some (.slice b_X x0.length d_X) := b_xX.cell 0
  replace l_X := b_xX.lt
  replace b_xG0 := b_xG0.keep q16
  replace c_G0_0 : V16.cell? ⟨A_G0, 0, none⟩ = some (.slice b_G0 r0.length d_G0) := b_xG0.cell 0
  replace l_G0 := b_xG0.lt
  replace b_xH0 := b_xH0.keep q16
  replace c_H0_0 : V16.cell? ⟨A_H0, 0, none⟩ = some (.slice b_H0 r0.length d_H0) := b_xH0.cell 0
  replace l_H0 := b_xH0.lt
  have Q16 := Chg.keep Q15 q16
  replace hin := HIN.out.keep Q16
  go_wp2_with fail
  go_ret
  exact ⟨rfl, Keep.below Q16⟩

theorem own : ownKnob Try.prog.godebug = none := by kernel_rfl
theorem laidOut : laidOutB Try.prog = true := by kernel_rfl
set_option maxRecDepth 100000 in
theorem lifted (os : Os) (started : os.Started) (H : Type) (enc : TypeId × Value → H) :
    ReturnsInHanded {} Try.checked os 9 .any (Rows.fnExactSetPageSpec.pre6 enc Try.prog Try.f9 Rows.fnExactSetPageRow.domain false) (Rows.fnExactSetPageSpec.post enc Try.prog Try.f9 false true false false) := by
  refine returnsInHanded_of_change (C := Try.checked) own started (by kernel_rfl) Try.func9
    (ChangeSpec.witness6 (enc := enc) (C := Try.checked) false ⟨#[], #[.agg #[.slice none 0 0], .int .i64 0, .agg #[.int .i64 0, .int .i64 0]], []⟩ 8 (by kernel_rfl) (by kernel_rfl) (by kernel_rfl) (by kernel_rfl)) ?_
  intro W base args ds gs before hval0 hW hcnd _
  have hval : ∀ (j : Nat) t v, Try.f9.params[j]? = some t → args[j]? = some v → Value.okWide Try.prog W .any base t v := hval0
  have hW' := hW
  obtain ⟨p, q, hA0, hV, rfl, hfz, hnd⟩ := hW
  have hA : DataW.TrodAll enc Try.prog W 0 (fun _ => true) true Try.f9.params.toList args.toList ds p := hA0
  rw [Try.params9] at hA hval
  obtain ⟨v0, vs0, d0, ds0, p0, q0, hargs, rfl, rfl, h0, r0⟩ := trodAll_cons hA
  obtain ⟨v1, vs1, d1, ds1, p1, q1, rfl, rfl, rfl, h1, r1⟩ := trodAll_cons r0
  obtain ⟨v2, vs2, d2, ds2, p2, q2, rfl, rfl, rfl, h2, r2⟩ := trodAll_cons r1
  obtain ⟨rfl, rfl, rfl⟩ := trodAll_nil r2
  obtain rfl : args = #[v0, v1, v2] := by cases args; simp_all
  obtain ⟨rfl, rfl⟩ := trodVars_none hV
  have k0 := h0
  have lt0 : ∀ x ∈ p0, x.block < W.heap.size := by obtain ⟨m, hm⟩ := k0; exact DataW.trod_lt m _ _ _ hm
  obtain ⟨x0, w0⟩ := open_InTb (hval 0 24 v0 rfl rfl) h0
  obtain ⟨a1, rfl, rfl, rfl, w1⟩ := open_int Try.underlying3 (hval 1 3 v1 rfl rfl) h1
  have k2 := h2
  have lt2 : ∀ x ∈ p2, x.block < W.heap.size := by obtain ⟨m, hm⟩ := k2; exact DataW.trod_lt m _ _ _ hm
  obtain ⟨x2, w2⟩ := open_InEn (hval 2 51 v2 rfl rfl) h2
  clear hA0 hval0
  refine (walk _ x0 a1 _ x2 W w0 w1 w2).mono fun e W' ⟨he, bel⟩ => ?_
  subst he
  exact ⟨_, rfl, _, _, _, [], _, [], hW', trodAll_mk1 (shut_bool Try.underlying4 _), (trodAll_cons_mk (Below.trod laidOut (by kernel_rfl) (of_decide_eq_true (by kernel_rfl)) k0 bel lt0) (trodAll_cons_mk (shut_int Try.underlying3 w1) (trodAll_cons_mk (Below.trod laidOut (by kernel_rfl) (of_decide_eq_true (by kernel_rfl)) k2 bel lt2) trodAll_mk0))), rfl, bel.frame _, fun h => by cases h⟩

theorem over : Rows.fnExactSetPageRow.holds Try.pinned (OpenSpec.ofChange Rows.fnExactSetPageSpec) :=
  OpenClaim.holds_of_wide 9 Try.f9 rfl rfl rfl rfl rfl rfl rfl ⟨rfl, rfl, rfl, rfl, rfl⟩ rfl rfl rfl rfl rfl (by kernel_rfl) Try.func9 (by kernel_rfl)
    (of_decide_eq_true (by kernel_rfl)) (by unfold Func.isWrapper; first | (rw [if_pos (by decide +kernel)]; kernel_rfl) | (rw [if_neg (by decide +kernel)]; exact ⟨rfl, rfl⟩))
    (fun os started H enc _ => lifted os started H enc)

/-- The statement. -/
theorem proved : Rows.FnExactSetPageSaid := over
#print axioms proved
end Go.Proofs.Ytdodclahcjfajaa.fnExactSetPage
