/- Drawn tables: they are valid. -/
import Derived.Test.YtkcoehkfhffjkaaDrawFr
import Derived.Test.YtkcoehkfhffjkaaTabFn
import Derived.Test.YtkcoehkfhffjkaaMLaw
import Derived.Deep.RegionHeld3
namespace Go.Proofs.Ytkcoehkfhffjkaa
open Go.ChangeShapes Go.WideShapes Go.ChangeAt Go.RowKit
set_option linter.unusedSimpArgs false
set_option linter.unusedVariables false
set_option maxRecDepth 100000

theorem SE.full {lo hi : Nat} {w : World} {a : Option Addr} {n c : Nat} {t : List (Int × Int)} (h : SE lo hi w (.slice a n c) t) (hn : n = t.length) (k : Nat) (hk : k < t.length) :
    ∃ g, a = some ⟨g, 0, none⟩ ∧ lo ≤ g ∧ g < hi ∧ g < w.heap.size ∧ w.cell? ⟨g, k * 2, none⟩ = some (.int .i64 (t.getD k (0, 0)).1) ∧ w.cell? ⟨g, k * 2 + 1, none⟩ = some (.int .i64 (t.getD k (0, 0)).2) ∧
      w.frozen? ⟨g, k * 2, none⟩ = false ∧ w.frozen? ⟨g, k * 2 + 1, none⟩ = false ∧
      ∀ x y, SE lo hi ((w.setCell ⟨g, k * 2, none⟩ (.int .i64 x)).setCell ⟨g, k * 2 + 1, none⟩ (.int .i64 y)) (.slice a n c) (t.set k (x, y)) := by
  obtain ⟨a', c', e, _, hf⟩ := h.opened
  obtain ⟨g, rfl, h0, h1, hs, c1, c2, f1, f2⟩ := hf k hk
  simp at e
  obtain ⟨rfl, -, rfl⟩ := e
  exact ⟨g, rfl, h0, h1, hs, c1, c2, f1, f2, fun x y => h.store hn k hk x y⟩
theorem ent_zero (n : Int) : entOkB n (0, 0) = true := by rw [entOk_iff]; simp
theorem ent_new {n a z : Int} (h0 : 0 ≤ a) (h1 : a < 2) (h2 : 0 ≤ z) (h3 : z < n) : entOkB n (1 + a, z) = true := by
  rw [entOk_iff]; dsimp only; omega
theorem l06Case_any {B C : Nat} (n : Int) (w : World) (hc : Cur B C w) (hn0 : 1 ≤ n) (hn1 : n ≤ 32) :
    Calls Try.prog 112 #[.pointer (some ⟨C, 0, none⟩), .int .i64 n] w fun e w' => ∃ v t, e = .returned v ∧ TB w.heap.size w'.heap.size w' v t ∧ TOk t n ∧ t.length ≤ 8 ∧ Cur B C w' ∧ Chg C (C + 1) w w' := by
  have hC := hc.lt
  have bR := Blk.new w 37 #[.slice none 0 0]
  go_enter Try.func112, Try.ntmps112
  go_wp2_with fail
  refine (below_pos _ _ (hc.keep ((Chg.refl 0 0 w).alloc _)) (by omega)).mono ?_
  rintro e w1 ⟨x, hx0, hx1, rfl, hc1, hg1⟩
  have g1 : Chg C (C + 1) w w1 := ((Chg.refl C (C + 1) w).alloc _).trans hg1
  have s1 := hg1.size
  rw [size_alloc] at s1
  replace bR := bR.mv hg1 (by omega)
  have hb : btw (1 + x) 1 32 = true := btw_true (by omega) (by omega)
  go_wp2_with fail
  refine (tableNew_spec _ _).mono ?_
  rw [hb]
  simp only [if_true]
  rintro e w2 ⟨v2, rfl, h2, k2⟩
  have g2 : Chg C (C + 1) w w2 := g1.keep k2
  have s2 := k2.size
  replace bR := bR.keep k2
  replace hc1 := hc1.keep k2
  obtain ⟨s2', rfl, h2⟩ := h2
  obtain ⟨b1, d1, rfl, -, -⟩ := SE.opened h2
  simp only [List.length_replicate] at h2
  simp only [List.length_replicate]
  have hall : ∀ j, entOkB n ((List.replicate (1 + x).toNat ((0 : Int), (0 : Int))).getD j (0, 0)) = true := by
    intro j
    have : (List.replicate (1 + x).toNat ((0 : Int), (0 : Int))).getD j (0, 0) = (0, 0) := by
      simp only [List.getD, List.getElem?_replicate]; split <;> rfl
    rw [this]; exact ent_zero n
  have hl0 : (List.replicate (1 + x).toNat ((0 : Int), (0 : Int))).length = (1 + x).toNat := List.length_replicate ..
  have hm0 : 1 ≤ (1 + x).toNat := by omega
  have hm1 : (1 + x).toNat ≤ 8 := by omega
  generalize List.replicate (1 + x).toNat ((0 : Int), (0 : Int)) = t0 at *
  generalize (1 + x).toNat = m at *
  have HC1 := Lib.hid hc1
  have H2 := Lib.hid h2
  have HALL := Lib.hid hall
  have HL0 := Lib.hid hl0
  have G2 := Lib.hid g2
  have BR := Lib.hid bR
  clear hc1 h2 hall hl0 g2 bR g1 hg1 k2
  go_wp2_with fail
  go_loopw [7] (fun i wr => ∃ (k : Nat) (t : TbD), k ≤ m ∧ i = .int .i64 k ∧ t.length = m ∧ (∀ j, entOkB n (t.getD j (0, 0)) = true) ∧ SE w1.heap.size w2.heap.size wr (.slice b1 m d1) t ∧ Cur B C wr ∧ Chg C (C + 1) w wr ∧ Blk wr w2.heap.size 37 #[.slice b1 m d1] ∧ Blk wr w.heap.size 37 #[.slice none 0 0]) (fun i _ => m - (intOf i).toNat)
  case atStart => exact ⟨0, t0, Nat.zero_le _, rfl, HL0.out, HALL.out, H2.out.keep ((Chg.refl 0 0 w2).alloc _), HC1.out.keep ((Chg.refl 0 0 w2).alloc _), G2.out.alloc _, Blk.new _ _ _, BR.out.keep ((Chg.refl 0 0 w2).alloc _)⟩
  case round =>
    obtain ⟨k, t, hk, rfl, htl, hents, hse, hcr, hgr, bF, bR⟩ := hrel
    have cF0 := bF.cell 0
    have lF := bF.lt
    by_cases hlt : k < m
    · have hltI : (k : Int) < (m : Int) := by omega
      have HENT := Lib.hid hents
      have HSE := Lib.hid hse
      have HGR := Lib.hid hgr
      have BF := Lib.hid bF
      have BRr := Lib.hid bR
      have HTL := Lib.hid htl
      clear hents hse hgr bF bR htl
      go_wp2_with fail
      refine (once_any _ _ hcr).mono ?_
      rintro e w3 ⟨b, rfl, hc3, hg3⟩
      have HC3 := Lib.hid hc3
      have HG3 := Lib.hid hg3
      cases b
      rotate_left
      · have hse3 := HSE.out.mv hg3 (by omega)
        have bF3 := BF.out.mv hg3 (by omega)
        have bR3 := BRr.out.mv hg3 (by omega)
        have HR := Lib.hid (⟨HTL.out, HENT.out, hse3, hc3, HGR.out.trans hg3, bF3, bR3⟩ : _ ∧ _ ∧ _ ∧ _ ∧ _ ∧ _ ∧ _)
        clear hse3 bF3 bR3 hc3 hg3 hcr cF0
        go_wp2_with fail
        go_roundw
        case rel => exact ⟨k + 1, t, by omega, by go_num, HR.out⟩
        case measure => simp [intOf]; omega
      · have hse3 := HSE.out.mv hg3 (by omega)
        obtain ⟨gE, rfl, gE0, gE1, _, _, _, _, _, _⟩ := hse3.full HTL.out.symm k (by rw [HTL.out]; exact hlt)
        have bF3 := BF.out.mv hg3 (by omega)
        have cF0 := bF3.cell 0
        have BF3 := Lib.hid bF3
        have BR3 := Lib.hid (BRr.out.mv hg3 (by omega))
        have HSE3 := Lib.hid hse3
        have z3 := hg3.size
        clear hse3 bF3 hc3 hg3 hcr
        go_wp2_with fail
        go_region_held3 (fun z => z.cell? ⟨w2.heap.size, 0, none⟩ = some (.slice (some ⟨gE, 0, none⟩) m d1)) (first | go_keep | exact x1 | exact y1 | exact y2 _ | exact y3 _ _) (first | (go_at_call 69; (with_reducible refine (below_pos 2 _ (HC3.out.keep ((Chg.refl 0 0 w3).drew)) (by omega)).mono ?_); rintro e w6 ⟨a, ha0, ha1, rfl, hc6, hg6⟩; have hg6 : Chg C (C + 1) w3 w6 := ((Chg.refl C (C + 1) w3).drew).trans hg6; have x1 := hg6.cellLow cF0 (.inr (by omega))) | (go_at_call 69; (with_reducible refine (below_pos n _ hc6 (by omega)).mono ?_); rintro e w7 ⟨z, hz0, hz1, rfl, hc7, hg7⟩; have y1 := hg7.cellLow x1 (.inr (by omega)); have hg7 : Chg C (C + 1) w3 w7 := hg6.trans hg7; have hf7 := HSE3.out.mv hg7 (by omega); obtain ⟨gY, e8, _, _, lZ, cZ, cZ2, fZ, fZ2, hst⟩ := hf7.full HTL.out.symm k (by rw [HTL.out]; exact hlt); obtain rfl : gE = gY := some_blk e8; have HST := Lib.hid hst; have HC7 := Lib.hid hc7; have HG7 := Lib.hid hg7; have y2 := fun u : Value => (grownBy_setCell w7 gE (k * 2) u).cell y1 (fun e => (by have := Option.some.inj e; dsimp at this; omega)); have y3 := fun u u' : Value => (grownBy_setCell (w7.setCell ⟨gE, k * 2, none⟩ u) gE (k * 2 + 1) u').cell (y2 u) (fun e => (by have := Option.some.inj e; dsimp at this; omega)); clear hst e8 hf7 hc7))
        have hw : IntKind.i64.wrap (1 + a) = 1 + a := by
          have : a = 0 ∨ a = 1 := by omega
          rcases this with e | e <;> subst e <;> rfl
        rw [hw]
        have hst8 : Chg w1.heap.size w2.heap.size w7 ((w7.setCell ⟨gE, k * 2, none⟩ (.int .i64 (1 + a))).setCell ⟨gE, k * 2 + 1, none⟩ (.int .i64 z)) := ((Chg.refl _ _ _).set gE (k * 2) _ (.inl ⟨gE0, gE1⟩)).set gE (k * 2 + 1) _ (.inl ⟨gE0, gE1⟩)
        have r1 : ∀ j, entOkB n ((t.set k (1 + a, z)).getD j (0, 0)) = true := fun j => by
          by_cases e : k = j
          · subst e
            rw [getD_set_eq _ _ _ _ (by rw [HTL.out]; exact hlt)]
            exact ent_new ha0 ha1 hz0 hz1
          · rw [getD_set_ne _ _ _ _ _ e]; exact HENT.out j
        have r2 := HST.out (1 + a) z
        have r3 := HC7.out.mv hst8 (by omega)
        have r4 : Chg C (C + 1) w ((w7.setCell ⟨gE, k * 2, none⟩ (.int .i64 (1 + a))).setCell ⟨gE, k * 2 + 1, none⟩ (.int .i64 z)) := (((HGR.out.trans HG3.out).trans HG7.out).set gE (k * 2) _ (.inr (by omega))).set gE (k * 2 + 1) _ (.inr (by omega))
        have r5 := (BF3.out.mv HG7.out (by omega)).mv hst8 (by omega)
        have r6 := (BR3.out.mv HG7.out (by omega)).mv hst8 (by omega)
        have HR := Lib.hid (⟨r1, r2, r3, r4, r5, r6⟩ : _ ∧ _ ∧ _ ∧ _ ∧ _ ∧ _)
        clear r1 r2 r3 r4 r5 r6 hst8 hc6 hg6 hg7
        go_wp2_with fail
        go_roundw
        case rel => exact ⟨k + 1, t.set k (1 + a, z), by omega, by go_num, by rw [List.length_set]; exact HTL.out, HR.out⟩
        case measure => simp [intOf]; omega
    · obtain rfl : k = m := by omega
      have r0 := bR.cell 0
      have rf0 := bR.frozen 0
      have lR := bR.lt
      have hzr := hgr.size
      have HCR := Lib.hid hcr
      have HTO := Lib.hid (show TOk t n from ⟨by omega, by omega, fun j _ => hents j⟩)
      have HTL := Lib.hid htl
      clear bF bR htl hents
      go_wp2_with fail
      refine bodyPost_ret (v := .agg #[.slice b1 k d1]) (by simp [results, Try.results112, go_sem, r0, lR]) rfl ⟨_, t, rfl, ⟨_, rfl, ?_⟩, HTO.out, by rw [HTL.out]; exact hm1, ?_, ?_⟩
      · exact (hse.mv ((Chg.refl w.heap.size (w.heap.size + 1) wr).set w.heap.size 0 (.slice b1 k d1) (.inl ⟨by omega, by omega⟩)) (by omega)).wide (by omega) (by simp only [size_set]; omega)
      · exact HCR.out.mv ((Chg.refl w.heap.size (w.heap.size + 1) wr).set w.heap.size 0 (.slice b1 k d1) (.inl ⟨by omega, by omega⟩)) (by omega)
      · exact hgr.set w.heap.size 0 (.slice b1 k d1) (.inr (Nat.le_refl _))
end Go.Proofs.Ytkcoehkfhffjkaa
