/- Kernels: stores into a kernel's rows; release of the program. Printed by wip/tools/mk_ke4.py. -/
import Derived.Test.YtkcoehkfhffjkaaKe3
import Derived.BigRegion
namespace Go.Proofs.Ytkcoehkfhffjkaa
open Go.ChangeShapes Go.WideShapes Go.ChangeAt Go.RowKit
set_option linter.unusedSimpArgs false
set_option linter.unusedVariables false
set_option maxRecDepth 100000

theorem KeepNot.set {E sz lo hi : Nat} {w : World} {g n c : Nat} {m : Nat} {xs : List Value} (h : Rw E sz lo hi w (.slice (some ⟨g, 0, none⟩) n c) m xs) (j : Nat) (u : Value) : KeepNot [E] w (w.setCell ⟨g, j, none⟩ u) :=
  KeepNot.of_row h fun k hk hne => Below.heap_setCell w ⟨g, j, none⟩ u k (fun e => hne (by rw [e]; rfl))
theorem FR.keepNot {lo hi : Nat} {w w' : World} {v : Value} {f : FrD} {Es : List TypeId} (h : FR lo hi w v f) (hk : KeepNot Es w w') (h1 : 3 ∉ Es) (h2 : 32 ∉ Es) (h3 : 4 ∉ Es) : FR lo hi w' v f := by
  obtain ⟨s1, s2, e, x1, x2⟩ := h
  exact ⟨s1, s2, e, x1.keepNot hk h2 h1, Rw.keepNot x2 hk h3⟩
theorem MA.parts {lo hi : Nat} {w : World} {s1 s2 s3 : Value} {m : MaD} (h : MA lo hi w (.agg #[s1, s2, s3]) m) : FR lo hi w (.agg #[s1, s2]) m.fr ∧ SE lo hi w s3 m.tb := by
  obtain ⟨x1, x2, x3, e, h1, h2⟩ := h
  simp at e
  obtain ⟨rfl, rfl, rfl⟩ := e
  exact ⟨h1, h2⟩
theorem KE.parts {lo hi : Nat} {w : World} {s1 s2 s3 x s4 : Value} {k : KeD} (h : KE lo hi w (.agg #[s1, s2, s3, x, s4]) k) : FR lo hi w (.agg #[s1, s2]) k.ma.fr ∧ SE lo hi w s3 k.ma.tb ∧ x = .int .i64 k.calls ∧ SI lo hi w s4 k.refuse := by
  obtain ⟨x1, x2, x3, x4, e, h1, h2⟩ := h
  simp at e
  obtain ⟨rfl, rfl, rfl, rfl, rfl⟩ := e
  exact ⟨h1.parts.1, h1.parts.2, rfl, h2⟩
theorem KE.mk4 {lo hi : Nat} {w : World} {s1 s2 s3 s4 : Value} {k : KeD} (h1 : FR lo hi w (.agg #[s1, s2]) k.ma.fr) (h2 : SE lo hi w s3 k.ma.tb) (h3 : SI lo hi w s4 k.refuse) : KE lo hi w (.agg #[s1, s2, s3, .int .i64 k.calls, s4]) k := KE.mk (MA.mk h1 h2) h3
theorem entCells_set1 (es : List (Int × Int)) (j : Nat) (x : Int) (hj : j < es.length) : (entCells es).set (j * 2) (.int .i64 x) = entCells (es.set j (x, (es.getD j (0, 0)).2)) := by
  induction es generalizing j with
  | nil => simp at hj
  | cons e es ih =>
    cases j with
    | zero => simp [entCells]
    | succ j =>
      have := ih j (by simpa using hj)
      have e1 : (j + 1) * 2 = j * 2 + 2 := by omega
      rw [e1]
      simpa [entCells] using this
theorem SE.store1 {lo hi : Nat} {w : World} {g n cap : Nat} {es : List (Int × Int)} (h : SE lo hi w (.slice (some ⟨g, 0, none⟩) n cap) es) (hn : n = es.length) (j : Nat) (hj : j < es.length) (x : Int) :
    SE lo hi (w.setCell ⟨g, j * 2, none⟩ (.int .i64 x)) (.slice (some ⟨g, 0, none⟩) n cap) (es.set j (x, (es.getD j (0, 0)).2)) := by
  subst hn
  have := Rw.store h (j * 2) (.int .i64 x)
  rw [entCells_set1 es j x hj] at this
  unfold SE
  simpa using this
/-- A table's entry: its cells, and the kernel behind a store of it (of its mode alone). -/
theorem KE.entFull {lo hi : Nat} {w : World} {s1 s2 x s4 : Value} {a3 : Option Addr} {n3 c3 : Nat} {k : KeD} (h : KE lo hi w (.agg #[s1, s2, .slice a3 n3 c3, x, s4]) k) (j : Nat) (hj : j < k.ma.tb.length) :
    ∃ g, a3 = some ⟨g, 0, none⟩ ∧ lo ≤ g ∧ g < hi ∧ g < w.heap.size ∧ w.cell? ⟨g, j * 2, none⟩ = some (.int .i64 (k.ma.tb.getD j (0, 0)).1) ∧ w.cell? ⟨g, j * 2 + 1, none⟩ = some (.int .i64 (k.ma.tb.getD j (0, 0)).2) ∧ w.frozen? ⟨g, j * 2, none⟩ = false ∧ w.frozen? ⟨g, j * 2 + 1, none⟩ = false ∧
      (∀ y z, KE lo hi ((w.setCell ⟨g, j * 2, none⟩ (.int .i64 y)).setCell ⟨g, j * 2 + 1, none⟩ (.int .i64 z)) (.agg #[s1, s2, .slice a3 n3 c3, x, s4]) ⟨⟨k.ma.fr, k.ma.tb.set j (y, z)⟩, k.calls, k.refuse⟩) ∧
      (∀ y, KE lo hi (w.setCell ⟨g, j * 2, none⟩ (.int .i64 y)) (.agg #[s1, s2, .slice a3 n3 c3, x, s4]) ⟨⟨k.ma.fr, k.ma.tb.set j (y, (k.ma.tb.getD j (0, 0)).2)⟩, k.calls, k.refuse⟩) := by
  obtain ⟨hf, ht, rfl, hr⟩ := h.parts
  obtain ⟨a', c', e, _, hc⟩ := ht.opened
  obtain ⟨g, rfl, x1, x2, x3, x4, x5, x6, x7⟩ := hc j hj
  simp at e
  obtain ⟨rfl, rfl, rfl⟩ := e
  have kn : ∀ (i : Nat) (u : Value), KeepNot [65] w (w.setCell ⟨g, i, none⟩ u) := fun i u => KeepNot.set ht i u
  refine ⟨g, rfl, x1, x2, x3, x4, x5, x6, x7, fun y z => ?_, fun y => ?_⟩
  · have k2 := (kn (j * 2) (.int .i64 y)).trans (KeepNot.set (E := 65) (Rw.store ht (j * 2) (.int .i64 y)) (j * 2 + 1) (.int .i64 z))
    exact KE.mk4 (k := ⟨⟨k.ma.fr, k.ma.tb.set j (y, z)⟩, k.calls, k.refuse⟩) (hf.keepNot k2 (by decide) (by decide) (by decide)) (ht.store rfl j hj y z) (Rw.keepNot hr k2 (by decide))
  · have k1 := kn (j * 2) (.int .i64 y)
    exact KE.mk4 (k := ⟨⟨k.ma.fr, k.ma.tb.set j (y, (k.ma.tb.getD j (0, 0)).2)⟩, k.calls, k.refuse⟩) (hf.keepNot k1 (by decide) (by decide) (by decide)) (ht.store1 rfl j hj y) (Rw.keepNot hr k1 (by decide))
theorem relD_no {m : MaD} {f : Int} (h : ¬ (onD m.tb f).length = 0) : relD m f = m := by unfold relD; rw [if_neg h]
theorem relD_yes {m : MaD} {f : Int} (h : (onD m.tb f).length = 0) : relD m f = ⟨⟨m.fr.cells.set f.toNat zrow, m.fr.used.set f.toNat false⟩, m.tb⟩ := by unfold relD; rw [if_pos h]
theorem onD_le (t : TbD) (f : Int) : (onD t f).length ≤ t.length := by unfold onD; exact onTo_len t f t.length
set_option maxHeartbeats 2000000 in
theorem release_any {lo hi A : Nat} {k : KeD} (b1 b2 b3 b4 : Option Addr) (d1 d2 d3 d4 : Nat) (f : Int) (w : World) (bA : Blk w A 47 #[.slice b1 k.ma.fr.cells.length d1, .slice b2 k.ma.fr.used.length d2, .slice b3 k.ma.tb.length d3, .int .i64 k.calls, .slice b4 k.refuse.length d4]) (h : KE lo hi w (.agg #[.slice b1 k.ma.fr.cells.length d1, .slice b2 k.ma.fr.used.length d2, .slice b3 k.ma.tb.length d3, .int .i64 k.calls, .slice b4 k.refuse.length d4]) k) (hs : sm_Kernel k) (hhi : hi ≤ w.heap.size) (hA : A < lo ∨ hi ≤ A)
    (hf0 : 0 ≤ f) (hf1 : f.toNat < k.ma.fr.used.length) (hf2 : f.toNat < k.ma.fr.cells.length) :
    Calls Try.prog 80 #[.pointer (some ⟨A, 0, none⟩), .int .i64 f] w fun e w' => e = .returned (.tuple #[]) ∧ KE lo w'.heap.size w' (.agg #[.slice b1 k.ma.fr.cells.length d1, .slice b2 k.ma.fr.used.length d2, .slice b3 k.ma.tb.length d3, .int .i64 k.calls, .slice b4 k.refuse.length d4]) ⟨relD k.ma f, k.calls, k.refuse⟩ ∧ Chg lo hi w w' := by
  have htl := hs.ma.tb
  obtain ⟨hf, ht, -, hr⟩ := h.parts
  have hTB : TB lo hi w (.agg #[.slice b3 k.ma.tb.length d3]) k.ma.tb := ⟨_, rfl, ht⟩
  have hol := onD_le k.ma.tb f
  have cA0 := bA.cell 0
  have cA1 := bA.cell 1
  have cA2 := bA.cell 2
  have lA := bA.lt
  have hul : k.ma.fr.used.length ≤ 1048576 := by have := hs.ma.fr; unfold sm_Frames at this; omega
  have hcl : k.ma.fr.cells.length ≤ 1048576 := by have := hs.ma.fr; unfold sm_Frames at this; omega
  go_enter Try.func80, Try.ntmps80
  go_wp2_with fail
  refine (pagesOn_any _ _ _ hTB (by omega)).mono ?_
  rintro e w1 ⟨v1, rfl, h1, k1⟩
  obtain ⟨p1, q1, rfl, _, _⟩ := h1.slice
  clear h1
  have hz := k1.size
  have bA1 := bA.keep k1
  have cA0 := bA1.cell 0
  have cA1 := bA1.cell 1
  have cA2 := bA1.cell 2
  have lA1 := bA1.lt
  have hf' := hf.keep k1
  have ht' := ht.keep k1
  have hr' := hr.keep k1
  have HF := Lib.hid hf'
  have HT := Lib.hid ht'
  have HR := Lib.hid hr'
  have BA := Lib.hid bA1
  have HK1 := Lib.hid k1
  have HH := Lib.hid (h.keep k1)
  have HRY := Lib.hid (fun hh => relD_yes (m := k.ma) (f := f) hh)
  have HRN := Lib.hid (fun hh => relD_no (m := k.ma) (f := f) hh)
  clear bA bA1 hf ht hr hf' ht' hr' hTB h
  generalize (onD k.ma.tb f).length = n at *
  by_cases hn : n = 0
  · subst hn
    have HY := Lib.hid (HRY.out rfl)
    obtain ⟨gU, rfl, gU0, gU1, gU2, cU, fU, hst⟩ := HF.out.usedFull f.toNat hf1
    obtain ⟨gC, rb, rd, rfl, gC0, gC1, gC2, cC, fC, hst2⟩ := (hst false).rowFull f.toNat hf2
    have gCl : gC < w1.heap.size := by simpa [World.setCell] using gC2
    have HST := Lib.hid hst2
    have HSU := Lib.hid (hst false)
    have hltU : f < k.ma.fr.used.length := by omega
    have hltC : f < k.ma.fr.cells.length := by omega
    have hneU : ¬ A = gU := by omega
    have hneC : ¬ A = gC := by omega
    have hneU' : ¬ gU = A := by omega
    have hneC' : ¬ gC = A := by omega
    have hmk := run_z16
    clear hst hst2
    go_wp2_with fail
    go_region
    all_goals
      go_wp2_with fail
      go_end0
      have lw : (w1.setCell ⟨gU, f.toNat, none⟩ (.bool false)).heap.size = w1.heap.size := by simp [World.setCell]
      have hz3 := SI.z16 (w1.setCell ⟨gU, f.toNat, none⟩ (.bool false))
      have hfr := HST.out _ _ _ _ _ ((Chg.refl 0 0 _).alloc _) hz3 (by omega) (by omega) (by omega)
      rw [World.setCell_alloc_past (w := w1.setCell ⟨gU, f.toNat, none⟩ (.bool false)) _ gC _ _ (by omega)] at hfr
      rw [lw] at hfr
      have hfr := hfr.keep ((Chg.refl 0 0 _).drew)
      obtain ⟨-, hus⟩ := HF.out.parts
      obtain ⟨⟨vs, hss⟩, -⟩ := HSU.out.parts
      have kn1 : KeepNot [4] w1 (w1.setCell ⟨gU, f.toNat, none⟩ (.bool false)) := KeepNot.set hus _ _
      have kn2 : KeepNot [32] (w1.setCell ⟨gU, f.toNat, none⟩ (.bool false)) ((w1.setCell ⟨gU, f.toNat, none⟩ (.bool false)).setCell ⟨gC, f.toNat, none⟩ (.slice (some ⟨w1.heap.size, 0, none⟩) 16 16)) := KeepNot.set hss.out _ _
      have kn : KeepNot [4, 32] w1 (((w1.setCell ⟨gU, f.toNat, none⟩ (.bool false)).setCell ⟨gC, f.toNat, none⟩ (.slice (some ⟨w1.heap.size, 0, none⟩) 16 16)).alloc (.cells z16 3 (0, 0))).drew :=
        ((kn1.mono (by simp)).trans (kn2.mono (by simp))).trans (KeepNot.of_keep (((Chg.refl 0 0 _).alloc _).drew))
      have hend : (((w1.setCell ⟨gU, f.toNat, none⟩ (.bool false)).setCell ⟨gC, f.toNat, none⟩ (.slice (some ⟨w1.heap.size, 0, none⟩) 16 16)).alloc (.cells z16 3 (0, 0))).drew.heap.size = w1.heap.size + 1 := by
        show (((w1.setCell ⟨gU, f.toNat, none⟩ (.bool false)).setCell ⟨gC, f.toNat, none⟩ (.slice (some ⟨w1.heap.size, 0, none⟩) 16 16)).alloc (.cells z16 3 (0, 0))).heap.size = _
        simp only [size_alloc, size_set]
      refine ⟨rfl, ?_, ?_⟩
      · rw [HY.out, hend]
        exact KE.mk4 (k := ⟨⟨⟨k.ma.fr.cells.set f.toNat zrow, k.ma.fr.used.set f.toNat false⟩, k.ma.tb⟩, k.calls, k.refuse⟩) hfr ((show SE _ _ _ _ _ from Rw.keepNot HT.out kn (by decide)).wide (Nat.le_refl _) (by omega)) ((show SI _ _ _ _ _ from Rw.keepNot HR.out kn (by decide)).wide (Nat.le_refl _) (by omega))
      · exact ((((HK1.out.any (l := lo) (h := hi)).set gU _ _ (.inl ⟨gU0, gU1⟩)).set gC _ _ (.inl ⟨gC0, gC1⟩)).alloc _).drew
  · have HN := Lib.hid (HRN.out hn)
    have hn' : ¬ (n : Int) = 0 := by omega
    go_wp2_with fail
    go_end0
    refine ⟨rfl, ?_, HK1.out.any⟩
    rw [HN.out]
    exact HH.out.wide (Nat.le_refl _) (by omega)
end Go.Proofs.Ytkcoehkfhffjkaa
