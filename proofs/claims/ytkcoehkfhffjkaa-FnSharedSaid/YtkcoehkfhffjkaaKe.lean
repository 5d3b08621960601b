/- Kernels: the laws' own functions on them, and KernelOk of both. -/
import Derived.Test.YtkcoehkfhffjkaaMa4
import Derived.Test.YtkcoehkfhffjkaaPgText
import Derived.Test.YtkcoehkfhffjkaaKLaw
import Derived.Test.YtkcoehkfhffjkaaOpenMa
namespace Go.Proofs.Ytkcoehkfhffjkaa
open Go.ChangeShapes Go.WideShapes Go.ChangeAt Go.RowKit
set_option linter.unusedSimpArgs false
set_option linter.unusedVariables false
set_option maxRecDepth 100000

/-- A kernel in memory that calls made. -/
def KE (lo hi : Nat) (w : World) (v : Value) (k : KeD) : Prop := ∃ s1 s2 s3 s4, v = .agg #[s1, s2, s3, .int .i64 k.calls, s4] ∧ MA lo hi w (.agg #[s1, s2, s3]) k.ma ∧ SI lo hi w s4 k.refuse
theorem KE.mv {l h lo hi : Nat} {w w' : World} {v : Value} {k : KeD} (hr : KE lo hi w v k) (hc : Chg l h w w') (hd : hi ≤ l ∨ h ≤ lo ∨ h ≤ l ∨ hi ≤ lo ∨ w.heap.size ≤ l) : KE lo hi w' v k := by
  obtain ⟨s1, s2, s3, s4, e, h1, h2⟩ := hr; exact ⟨s1, s2, s3, s4, e, h1.mv hc hd, h2.mv hc hd⟩
theorem KE.keep {lo hi : Nat} {w w' : World} {v : Value} {k : KeD} (hr : KE lo hi w v k) (hc : Keep w w') : KE lo hi w' v k := hr.mv hc (.inr (.inl (Nat.zero_le _)))
theorem KE.wide {lo hi lo' hi' : Nat} {w : World} {v : Value} {k : KeD} (hr : KE lo hi w v k) (h1 : lo' ≤ lo) (h2 : hi ≤ hi') : KE lo' hi' w v k := by
  obtain ⟨s1, s2, s3, s4, e, x1, x2⟩ := hr; exact ⟨s1, s2, s3, s4, e, x1.wide h1 h2, x2.wide h1 h2⟩
/-- The same, the refused calls' row apart from the machine. -/
def KEm (lo hi : Nat) (w : World) (v : Value) (k : KeD) : Prop := ∃ mid s1 s2 s3 s4, lo ≤ mid ∧ mid ≤ hi ∧ v = .agg #[s1, s2, s3, .int .i64 k.calls, s4] ∧ MA lo mid w (.agg #[s1, s2, s3]) k.ma ∧ SI mid hi w s4 k.refuse
theorem KEm.mv {l h lo hi : Nat} {w w' : World} {v : Value} {k : KeD} (hr : KEm lo hi w v k) (hc : Chg l h w w') (hd : hi ≤ l ∨ h ≤ lo ∨ h ≤ l ∨ w.heap.size ≤ l) : KEm lo hi w' v k := by
  obtain ⟨mid, s1, s2, s3, s4, m1, m2, e, h1, h2⟩ := hr; exact ⟨mid, s1, s2, s3, s4, m1, m2, e, h1.mv hc (by omega), h2.mv hc (by omega)⟩
theorem KEm.keep {lo hi : Nat} {w w' : World} {v : Value} {k : KeD} (hr : KEm lo hi w v k) (hc : Keep w w') : KEm lo hi w' v k := hr.mv hc (.inr (.inl (Nat.zero_le _)))
theorem KEm.ke {lo hi : Nat} {w : World} {v : Value} {k : KeD} (hr : KEm lo hi w v k) : KE lo hi w v k := by
  obtain ⟨mid, s1, s2, s3, s4, m1, m2, e, h1, h2⟩ := hr; exact ⟨s1, s2, s3, s4, e, h1.wide (Nat.le_refl _) m2, h2.wide m1 (Nat.le_refl _)⟩
theorem SI.slice {lo hi : Nat} {w : World} {v : Value} {zs : List Int} (h : SI lo hi w v zs) : ∃ a c, v = .slice a zs.length c ∧ zs.length ≤ c ∧ SI lo hi w (.slice a zs.length c) zs := by
  obtain ⟨a, c, rfl, hc, _⟩ := h.opened
  exact ⟨a, c, rfl, hc, h⟩
theorem KE.slices {lo hi : Nat} {w : World} {v : Value} {k : KeD} (h : KE lo hi w v k) : ∃ a1 c1 a2 c2 a3 c3 a4 c4, v = .agg #[.slice a1 k.ma.fr.cells.length c1, .slice a2 k.ma.fr.used.length c2, .slice a3 k.ma.tb.length c3, .int .i64 k.calls, .slice a4 k.refuse.length c4] ∧
    MA lo hi w (.agg #[.slice a1 k.ma.fr.cells.length c1, .slice a2 k.ma.fr.used.length c2, .slice a3 k.ma.tb.length c3]) k.ma ∧ SI lo hi w (.slice a4 k.refuse.length c4) k.refuse := by
  obtain ⟨s1, s2, s3, s4, rfl, h1, h2⟩ := h
  have h1' := h1
  obtain ⟨a1, c1, a2, c2, a3, c3, e, _, _⟩ := h1.slices
  obtain ⟨a4, c4, rfl, _, h2⟩ := h2.slice
  simp at e
  obtain ⟨rfl, rfl, rfl⟩ := e
  exact ⟨a1, c1, a2, c2, a3, c3, a4, c4, rfl, h1', h2⟩
theorem KEm.slices {lo hi : Nat} {w : World} {v : Value} {k : KeD} (h : KEm lo hi w v k) : ∃ mid a1 c1 a2 c2 a3 c3 a4 c4, lo ≤ mid ∧ mid ≤ hi ∧ v = .agg #[.slice a1 k.ma.fr.cells.length c1, .slice a2 k.ma.fr.used.length c2, .slice a3 k.ma.tb.length c3, .int .i64 k.calls, .slice a4 k.refuse.length c4] ∧
    MA lo mid w (.agg #[.slice a1 k.ma.fr.cells.length c1, .slice a2 k.ma.fr.used.length c2, .slice a3 k.ma.tb.length c3]) k.ma ∧ SI mid hi w (.slice a4 k.refuse.length c4) k.refuse := by
  obtain ⟨mid, s1, s2, s3, s4, m1, m2, rfl, h1, h2⟩ := h
  have h1' := h1
  obtain ⟨a1, c1, a2, c2, a3, c3, e, _, _⟩ := h1.slices
  obtain ⟨a4, c4, rfl, _, h2⟩ := h2.slice
  simp at e
  obtain ⟨rfl, rfl, rfl⟩ := e
  exact ⟨mid, a1, c1, a2, c2, a3, c3, a4, c4, m1, m2, rfl, h1', h2⟩
theorem KE.opened {lo hi : Nat} {w : World} {v : Value} {k : KeD} (h : KE lo hi w v k) : ∃ a1 c1 a2 c2 a3 c3 a4 c4, v = .agg #[.slice a1 k.ma.fr.cells.length c1, .slice a2 k.ma.fr.used.length c2, .slice a3 k.ma.tb.length c3, .int .i64 k.calls, .slice a4 k.refuse.length c4] ∧ True := by
  obtain ⟨a1, c1, a2, c2, a3, c3, a4, c4, e, _, _⟩ := h.slices
  exact ⟨a1, c1, a2, c2, a3, c3, a4, c4, e, trivial⟩
theorem KEm.opened {lo hi : Nat} {w : World} {v : Value} {k : KeD} (h : KEm lo hi w v k) : ∃ a1 c1 a2 c2 a3 c3 a4 c4, v = .agg #[.slice a1 k.ma.fr.cells.length c1, .slice a2 k.ma.fr.used.length c2, .slice a3 k.ma.tb.length c3, .int .i64 k.calls, .slice a4 k.refuse.length c4] ∧ True := h.ke.opened
def InKe (w : World) (v : Value) (k : KeD) : Prop := ∃ s1 s2 s3 s4, v = .agg #[s1, s2, s3, .int .i64 k.calls, s4] ∧ InMa w (.agg #[s1, s2, s3]) k.ma ∧ InI w s4 k.refuse
theorem InKe.keep {w w' : World} {v : Value} {k : KeD} (h : InKe w v k) (hk : Keep w w') : InKe w' v k := by
  obtain ⟨s1, s2, s3, s4, e, h1, h2⟩ := h; exact ⟨s1, s2, s3, s4, e, h1.keep hk, h2.keep hk⟩
theorem InKe.opened {w : World} {v : Value} {k : KeD} (h : InKe w v k) : ∃ a1 c1 a2 c2 a3 c3 a4 c4, v = .agg #[.slice a1 k.ma.fr.cells.length c1, .slice a2 k.ma.fr.used.length c2, .slice a3 k.ma.tb.length c3, .int .i64 k.calls, .slice a4 k.refuse.length c4] ∧
    InKe w (.agg #[.slice a1 k.ma.fr.cells.length c1, .slice a2 k.ma.fr.used.length c2, .slice a3 k.ma.tb.length c3, .int .i64 k.calls, .slice a4 k.refuse.length c4]) k := by
  obtain ⟨s1, s2, s3, s4, rfl, h1, h2⟩ := h
  have h1' := h1
  have h2' := h2
  obtain ⟨a1, c1, a2, c2, a3, c3, e, _⟩ := h1.opened
  obtain ⟨a4, c4, rfl, _⟩ := h2
  simp at e
  obtain ⟨rfl, rfl, rfl⟩ := e
  exact ⟨a1, c1, a2, c2, a3, c3, a4, c4, rfl, _, _, _, _, rfl, h1', h2'⟩
theorem InKe.parts {w : World} {s1 s2 s3 c s4 : Value} {k : KeD} (h : InKe w (.agg #[s1, s2, s3, c, s4]) k) : InMa w (.agg #[s1, s2, s3]) k.ma ∧ InI w s4 k.refuse := by
  obtain ⟨x1, x2, x3, x4, e, h1, h2⟩ := h
  simp at e
  rw [e.1, e.2.1, e.2.2.1, e.2.2.2.2]; exact ⟨h1, h2⟩
def sm_Kernel (k : KeD) : Prop := k.ma.fr.cells.length + cntRows k.ma.fr.cells + k.ma.fr.used.length + k.ma.tb.length ≤ 1048576 ∧ k.refuse.length ≤ 1048576
theorem sm_Kernel.ma {k : KeD} (h : sm_Kernel k) : sm_Machine k.ma := by unfold sm_Kernel at h; unfold sm_Machine; omega
theorem sm_Kernel.rf {k : KeD} (h : sm_Kernel k) : k.refuse.length ≤ 1048576 := by unfold sm_Kernel at h; omega
def cnt_Kernel (k : KeD) : Nat := cnt_Machine k.ma + k.refuse.length
def mk_Kernel (k : KeD) : KeD := ⟨mkMa 1 k.ma, k.calls, marks (1 + cnt_Machine k.ma) k.refuse.length⟩
theorem sz_Kernel {t : KeD} (v : Value) (w : World) (h : InKe w v t) : Calls Try.prog 44 #[v, .int .i64 1048576] w fun e w' => ∃ s, e = .returned (.int .i64 s) ∧ (0 ≤ s → sm_Kernel t) ∧ Keep w w' := by
  obtain ⟨a1, c1, a2, c2, a3, c3, a4, c4, rfl, h⟩ := h.opened
  obtain ⟨hf, ht⟩ := h.parts
  clear h
  go_enter Try.func44, Try.ntmps44
  go_wp2_with fail
  refine (szMachine_any _ _ _ _ (hf.keep ((Chg.refl 0 0 w).alloc _)) (by omega) (by omega)).mono ?_
  rintro e w1 ⟨s, rfl, hs0, hs, k1⟩
  have q1 : Keep w w1 := Chg.keep ((Chg.refl 0 0 w).alloc _) k1
  have bA := (Blk.new w 73 #[.slice a1 t.ma.fr.cells.length c1, .slice a2 t.ma.fr.used.length c2, .slice a3 t.ma.tb.length c3, .int .i64 t.calls, .slice a4 t.refuse.length c4]).keep k1
  have cA := bA.cell 4
  clear bA
  by_cases hx : s < 0
  · go_wp2_with fail
    go_ret
    exact ⟨_, rfl, by omega, q1⟩
  · have hs := hs (by omega)
    go_wp2_with fail
    refine (szIntS_any _ _ _ _ (ht.keep q1) (by omega) (by omega)).mono ?_
    rintro e w' ⟨rfl, rfl⟩
    by_cases hy : szI s t.refuse.length < 0
    · go_wp2_with fail
      go_ret
      exact ⟨_, rfl, by omega, q1⟩
    · have hz : szI s t.refuse.length + t.refuse.length = s := by unfold szI at *; split <;> rename_i hq <;> simp [hq] at hy ⊢
      go_wp2_with fail
      go_ret
      exact ⟨_, rfl, fun _ => by unfold sm_Kernel; omega, q1⟩
theorem eq_Kernel {l1 h1 l2 h2 : Nat} {t : KeD} (v u : Value) (w : World) (x : KE l1 h1 w v t) (y : KE l2 h2 w u t) (hs : sm_Kernel t) :
    Calls Try.prog 23 #[v, u] w fun e w' => e = .returned (.bool true) ∧ Keep w w' := by
  obtain ⟨a1, c1, a2, c2, a3, c3, a4, c4, rfl, x1, x2⟩ := x.slices
  obtain ⟨b1, d1, b2, d2, b3, d3, b4, d4, rfl, y1, y2⟩ := y.slices
  go_enter Try.func23, Try.ntmps23
  go_wp2_with fail
  refine (eq_Machine _ _ _ (x1.keep (by repeat (first | exact Chg.refl _ _ _ | apply Chg.alloc))) (y1.keep (by repeat (first | exact Chg.refl _ _ _ | apply Chg.alloc))) hs.ma).mono ?_
  rintro e w1 ⟨rfl, k1⟩
  have bA := ((Blk.new w 47 #[.slice a1 t.ma.fr.cells.length c1, .slice a2 t.ma.fr.used.length c2, .slice a3 t.ma.tb.length c3, .int .i64 t.calls, .slice a4 t.refuse.length c4]).keep ((Chg.refl 0 0 _).alloc (.cells #[.slice b1 t.ma.fr.cells.length d1, .slice b2 t.ma.fr.used.length d2, .slice b3 t.ma.tb.length d3, .int .i64 t.calls, .slice b4 t.refuse.length d4] 47 (0, 0)))).keep k1
  have bB := (blk1 w (.cells #[.slice a1 t.ma.fr.cells.length c1, .slice a2 t.ma.fr.used.length c2, .slice a3 t.ma.tb.length c3, .int .i64 t.calls, .slice a4 t.refuse.length c4] 47 (0, 0)) 47 #[.slice b1 t.ma.fr.cells.length d1, .slice b2 t.ma.fr.used.length d2, .slice b3 t.ma.tb.length d3, .int .i64 t.calls, .slice b4 t.refuse.length d4]).keep k1
  have q1 : Keep w w1 := Chg.keep (by repeat (first | exact Chg.refl _ _ _ | apply Chg.alloc)) k1
  have cA3 := bA.cell 3
  have cB3 := bB.cell 3
  have cA := bA.cell 4
  have cB := bB.cell 4
  clear bA bB k1
  go_wp2_with fail
  refine (eqIntS_same _ _ _ (x2.keep q1) (y2.keep q1) (by have := hs.rf; omega)).mono ?_
  rintro e w2 ⟨rfl, k2⟩
  go_wp2_with fail
  go_ret
  exact ⟨rfl, q1.keep k2⟩
theorem mark_Kernel {lo hi : Nat} {t : KeD} (v : Value) (w : World) (h : KEm lo hi w v t) (hhi : hi ≤ w.heap.size) (hs : sm_Kernel t) :
    Calls Try.prog 24 #[v, .int .i64 1] w fun e w' => e = .returned (.int .i64 (1 + (cnt_Kernel t : Int))) ∧ KEm lo hi w' v (mk_Kernel t) ∧ Chg lo hi w w' := by
  have hb : cnt_Machine t.ma ≤ 2097152 := by unfold sm_Kernel at hs; unfold cnt_Machine cnt_Frames; omega
  have hrf := hs.rf
  have HC := Lib.hid (show ((cnt_Kernel t : Nat) : Int) = (cnt_Machine t.ma : Int) + (t.refuse.length : Int) by unfold cnt_Kernel; omega)
  obtain ⟨mid, a1, c1, a2, c2, a3, c3, a4, c4, m1, m2, rfl, x1, x2⟩ := h.slices
  go_enter Try.func24, Try.ntmps24
  go_wp2_with fail
  refine (markMachine_any _ _ _ (x1.keep ((Chg.refl 0 0 w).alloc _)) (by rw [size_alloc]; omega) hs.ma (by omega) (by omega)).mono ?_
  rintro e w1 ⟨rfl, y1, k1⟩
  have bA := (Blk.new w 47 #[.slice a1 t.ma.fr.cells.length c1, .slice a2 t.ma.fr.used.length c2, .slice a3 t.ma.tb.length c3, .int .i64 t.calls, .slice a4 t.refuse.length c4]).mv k1 (by omega)
  have q1 : Chg lo mid w w1 := ((Chg.refl lo mid w).alloc _).trans k1
  have y2 := x2.mv q1 (by omega)
  have cA := bA.cell 4
  clear bA k1
  go_wp2_with fail
  refine (markIntS_any _ _ _ y2 (by omega) (by omega) (by omega)).mono ?_
  rintro e w2 ⟨rfl, z2, _, k2⟩
  have z1 := y1.mv k2 (by omega)
  go_wp2_with fail
  go_ret
  refine ⟨by rw [HC.out, ← Int.add_assoc]; rfl, ⟨mid, _, _, _, _, m1, m2, rfl, z1, z2⟩, ?_⟩
  exact (q1.mono (.inl ⟨Nat.le_refl _, m2⟩)).trans (k2.mono (.inl ⟨m1, Nat.le_refl _⟩))
theorem held_Kernel {lo hi : Nat} {t : KeD} (v : Value) (w : World) (h : KEm lo hi w v (mk_Kernel t)) (hs : sm_Kernel t) :
    Calls Try.prog 25 #[v, .int .i64 1] w fun e w' => e = .returned (.int .i64 (1 + (cnt_Kernel t : Int))) ∧ Keep w w' := by
  have hb : cnt_Machine t.ma ≤ 2097152 := by unfold sm_Kernel at hs; unfold cnt_Machine cnt_Frames; omega
  have hrf := hs.rf
  have HC := Lib.hid (show ((cnt_Kernel t : Nat) : Int) = (cnt_Machine t.ma : Int) + (t.refuse.length : Int) by unfold cnt_Kernel; omega)
  obtain ⟨mid, s1, s2, s3, s4, m1, m2, rfl, x1, x2⟩ := h
  have x1' := x1
  obtain ⟨a1, c1, a2, c2, a3, c3, e, _⟩ := x1'.opened
  obtain ⟨a4, c4, rfl, _, x2⟩ := x2.slice
  simp at e
  obtain ⟨rfl, rfl, rfl⟩ := e
  go_enter Try.func25, Try.ntmps25
  go_wp2_with fail
  refine (heldMachine_any _ _ _ (x1.keep ((Chg.refl 0 0 w).alloc _)) hs.ma (by omega) (by omega)).mono ?_
  rintro e w1 ⟨rfl, k1⟩
  have bA := (Blk.new w 47 #[.slice a1 (mk_Kernel t).ma.fr.cells.length c1, .slice a2 (mk_Kernel t).ma.fr.used.length c2, .slice a3 (mk_Kernel t).ma.tb.length c3, .int .i64 (mk_Kernel t).calls, .slice a4 (mk_Kernel t).refuse.length c4]).keep k1
  have q1 : Keep w w1 := Chg.keep ((Chg.refl 0 0 w).alloc _) k1
  have cA := bA.cell 4
  clear bA k1
  go_wp2_with fail
  refine (heldIntS_any _ _ _ (x2.keep q1) (by omega) (by omega) (by omega)).mono ?_
  rintro e w2 ⟨rfl, rfl⟩
  go_wp2_with fail
  go_ret
  refine ⟨by rw [HC.out, ← Int.add_assoc]; rfl, q1⟩
end Go.Proofs.Ytkcoehkfhffjkaa
