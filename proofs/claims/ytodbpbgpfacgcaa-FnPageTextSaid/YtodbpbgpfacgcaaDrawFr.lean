/- Drawn frames: they are valid. -/
import Derived.Test.YtodbpbgpfacgcaaFr7
import Derived.Test.YtodbpbgpfacgcaaDraw2
import Derived.Deep.RegionHeld3
namespace Go.Proofs.Ytodbpbgpfacgcaa
open Go.ChangeShapes Go.WideShapes Go.ChangeAt Go.RowKit
set_option linter.unusedSimpArgs false
set_option linter.unusedVariables false
set_option maxRecDepth 100000

theorem FOk.anyMark {f : FrD} (h : FOk f) (k : Nat) (b : Bool) (h0 : f.used.getD k false = false) : FOk ⟨f.cells, f.used.set k b⟩ := by
  refine ⟨h.len0, h.len1, by simpa using h.used, fun j hj => ?_⟩
  have hu := h.used
  dsimp only at hj ⊢
  by_cases e : k = j
  · subst e
    rw [getD_set_eq _ _ _ _ (by omega)]
    have := h.row k hj
    rw [h0] at this
    rw [row_zero this]
    exact zrow_ok b
  · rw [getD_set_ne _ _ _ _ _ e]
    exact h.row j hj
theorem framesNewD_ok {n : Int} (h : btw n 1 32 = true) : FOk (framesNewD n) ∧ (framesNewD n).used.length = n.toNat ∧ ∀ j, (framesNewD n).used.getD j false = false := by
  have hn := btw_iff.1 h
  unfold framesNewD
  rw [if_pos h]
  refine ⟨⟨by simp; omega, by simp; omega, by simp, fun i hi => ?_⟩, by simp, fun j => ?_⟩
  · simp only [List.length_replicate] at hi
    simp only [List.getD, List.getElem?_replicate, hi, if_true, Option.getD_some]
    exact zrow_ok false
  · simp only [List.getD, List.getElem?_replicate]
    split <;> rfl
theorem Chg.cellLow {l h : Nat} {a b : World} (hc : Chg l h a b) {g j : Nat} {v : Value} (hv : a.cell? ⟨g, j, none⟩ = some v) (hg : g < l ∨ h ≤ g) : b.cell? ⟨g, j, none⟩ = some v :=
  (World.cell?_of_block (hc.block g (World.block_lt_of_cell? a _ hv) hg)).trans hv
theorem FR.cellNe {lo hi : Nat} {w : World} {g n1 c1 gr len d : Nat} {s2 : Value} {f : FrD} (h : FR lo hi w (.agg #[.slice (some ⟨g, 0, none⟩) n1 c1, s2]) f) (i : Nat) (hi' : i < f.cells.length)
    (hc : w.cell? ⟨g, i, none⟩ = some (.slice (some ⟨gr, 0, none⟩) len d)) : g ≠ gr := by
  obtain ⟨⟨vs, h1⟩, _⟩ := h.parts
  obtain ⟨a', c', e, _, hf⟩ := h1.opened
  obtain ⟨g', rfl, _, _, _, x4, _⟩ := hf i hi'
  simp at e
  rw [← e.1, hc] at x4
  have hr := h1.row i hi'
  rw [← Option.some.inj x4] at hr
  exact Rw.ne h1.out hr (by decide) (k := g) (k' := gr) rfl rfl
theorem l05Case_any {B C : Nat} (w : World) (hc : Cur B C w) :
    Calls Try.prog 46 #[.pointer (some ⟨C, 0, none⟩)] w fun e w' => ∃ v f, e = .returned v ∧ FR w.heap.size w'.heap.size w' v f ∧ FOk f ∧ f.cells.length ≤ 5 ∧ Cur B C w' ∧ Chg C (C + 1) w w' := by
  have hC := hc.lt
  have bR := Blk.new w 27 #[.slice none 0 0, .slice none 0 0]
  go_enter Try.func46, Try.ntmps46
  go_wp2_with fail
  refine (below_pos _ _ (hc.keep ((Chg.refl 0 0 w).alloc _)) (by omega)).mono ?_
  rintro e w1 ⟨x, hx0, hx1, rfl, hc1, hg1⟩
  have g1 : Chg C (C + 1) w w1 := ((Chg.refl C (C + 1) w).alloc _).trans hg1
  have s1 := hg1.size
  rw [size_alloc] at s1
  replace bR := bR.mv hg1 (by omega)
  have hb : btw (1 + x) 1 32 = true := btw_true (by omega) (by omega)
  go_wp2_with fail
  refine (framesNew_spec _ _).mono ?_
  rw [hb]
  rintro e w2 ⟨v2, rfl, h2, k2⟩
  obtain ⟨ok, hlen, hall⟩ := framesNewD_ok hb
  have g2 : Chg C (C + 1) w w2 := g1.keep k2
  have s2 := k2.size
  replace bR := bR.keep k2
  replace hc1 := hc1.keep k2
  obtain ⟨b1, d1, b2, d2, rfl, h2⟩ := h2.slices
  have hcl := ok.used
  have hn : (framesNewD (1 + x)).used.length = (1 + x).toNat := hlen
  generalize framesNewD (1 + x) = f0 at *
  have hn5 : f0.used.length ≤ 5 := by omega
  have HC1 := Lib.hid hc1
  have H2 := Lib.hid h2
  have OK := Lib.hid ok
  have HALL := Lib.hid hall
  have G2 := Lib.hid g2
  have BR := Lib.hid bR
  have HCL := Lib.hid hcl
  clear hc1 h2 ok hall g2 bR hcl g1 hg1 k2 hlen hn
  go_wp2_with fail
  go_loopw [5] (fun i wr => ∃ (k : Nat) (f : FrD), k ≤ f0.used.length ∧ i = .int .i64 k ∧ f.used.length = f0.used.length ∧ f.cells.length = f0.cells.length ∧ FOk f ∧ (∀ j, k ≤ j → f.used.getD j false = false) ∧ FR w1.heap.size w2.heap.size wr (.agg #[.slice b1 f0.cells.length d1, .slice b2 f0.used.length d2]) f ∧ Cur B C wr ∧ Chg C (C + 1) w wr ∧ Blk wr w2.heap.size 27 #[.slice b1 f0.cells.length d1, .slice b2 f0.used.length d2] ∧ Blk wr w.heap.size 27 #[.slice none 0 0, .slice none 0 0]) (fun i _ => f0.used.length - (intOf i).toNat)
  case atStart => exact ⟨0, f0, Nat.zero_le _, rfl, rfl, rfl, OK.out, fun j _ => HALL.out j, H2.out.keep ((Chg.refl 0 0 w2).alloc _), HC1.out.keep ((Chg.refl 0 0 w2).alloc _), G2.out.alloc _, Blk.new _ _ _, BR.out.keep ((Chg.refl 0 0 w2).alloc _)⟩
  case round =>
    obtain ⟨k, f, hk, rfl, hu, hcell, hok, hfree, hfr, hcr, hgr, bF, bR⟩ := hrel
    have cF0 := bF.cell 0
    have cF1 := bF.cell 1
    have lF := bF.lt
    by_cases hlt : k < f0.used.length
    · have hlt' : k < f.used.length := by omega
      have hltI : (k : Int) < (f0.used.length : Int) := by omega
      obtain ⟨gU, rfl, gU0, gU1, _, _, _, _⟩ := hfr.usedFull k hlt'
      have HOK := Lib.hid hok
      have HFREE := Lib.hid hfree
      have HFR := Lib.hid hfr
      have HCR := Lib.hid hcr
      have HGR := Lib.hid hgr
      have BF := Lib.hid bF
      have BRr := Lib.hid bR
      have HU := Lib.hid hu
      have HCE := Lib.hid hcell
      clear hok hfree hfr hcr hgr bF bR hu hcell
      go_wp2_with fail
      go_region_held3 (fun z => z.cell? ⟨w2.heap.size, 1, none⟩ = some (.slice (some ⟨gU, 0, none⟩) f0.used.length d2)) (first | go_keep | exact y1 | exact (grownBy_setCell _ _ _ _).cell y1 (fun e => by have := Option.some.inj e; dsimp at this; omega)) (first | (go_at_call 88; refine (once_any _ _ (HCR.out.keep ((Chg.refl 0 0 wr).drew))).mono ?_; rintro e w3 ⟨b, rfl, hc3, hg3⟩; have hg3 : Chg C (C + 1) wr w3 := ((Chg.refl C (C + 1) wr).drew).trans hg3; have y1 := hg3.cellLow cF1 (.inr (by omega)); have hf3 := HFR.out.mv hg3 (by omega); obtain ⟨gY, e9, _, _, lU, cU, fU, hst⟩ := hf3.usedFull k hlt'; obtain rfl : gU = gY := some_blk e9; have HST := Lib.hid hst; have HC3 := Lib.hid hc3; have HG3 := Lib.hid hg3; clear hst e9 hf3 hc3 hg3))
      have hgUw : gU < w3.heap.size := lU
      have hst4 : Chg w1.heap.size w2.heap.size w3 (w3.setCell ⟨gU, k, none⟩ (.bool b)) := (Chg.refl _ _ _).set gU k _ (.inl ⟨gU0, gU1⟩)
      have t1 : FOk ⟨f.cells, f.used.set k b⟩ := HOK.out.anyMark k b (HFREE.out k (Nat.le_refl _))
      have t2 := HST.out b
      have t3 := HC3.out.mv hst4 (by omega)
      have t4 : Chg C (C + 1) w (w3.setCell ⟨gU, k, none⟩ (.bool b)) := (HGR.out.trans HG3.out).set gU k _ (.inr (by omega))
      have t5 := (BF.out.mv HG3.out (by omega)).mv hst4 (by omega)
      have t6 := (BRr.out.mv HG3.out (by omega)).mv hst4 (by omega)
      have t7 : ∀ j, k + 1 ≤ j → (f.used.set k b).getD j false = false := fun j hj => by rw [getD_set_ne _ _ _ _ _ (by omega)]; exact HFREE.out j (by omega)
      have t8 : (f.used.set k b).length = f0.used.length := by rw [List.length_set]; exact HU.out
      have t9 : (f.used.set k b).getD k false = b := getD_set_eq _ _ _ _ hlt'
      clear HST HC3 HG3 y1 cU fU hst4 HFR HCR HGR BF BRr cF0 cF1 lU
      have HCE2 := HCE.out
      generalize w3.setCell ⟨gU, k, none⟩ (.bool b) = w4 at *
      generalize f.used.set k b = us at *
      have T7 := Lib.hid t7
      have T8 := Lib.hid t8
      have T9 := Lib.hid t9
      clear t7 t8 t9
      go_wp2_with fail
      go_loopw [6] (fun kk wq => ∃ (n : Nat) (cs : List (List Int)), n ≤ 5 ∧ kk = .int .i64 n ∧ cs.length = f0.cells.length ∧ FOk ⟨cs, us⟩ ∧ FR w1.heap.size w2.heap.size wq (.agg #[.slice b1 f0.cells.length d1, .slice (some ⟨gU, 0, none⟩) f0.used.length d2]) ⟨cs, us⟩ ∧ Cur B C wq ∧ Chg C (C + 1) w wq ∧ Blk wq w2.heap.size 27 #[.slice b1 f0.cells.length d1, .slice (some ⟨gU, 0, none⟩) f0.used.length d2] ∧ Blk wq w.heap.size 27 #[.slice none 0 0, .slice none 0 0]) (fun kk _ => 6 - (intOf kk).toNat)
      case atStart => exact ⟨0, f.cells, Nat.zero_le _, rfl, HCE2, t1, t2, t3, t4, t5, t6⟩
      case round =>
        obtain ⟨n, cs, hn, rfl, hcs, hok, hfr, hcr, hgr, bF, bR⟩ := hrel
        clear t1 t2 t3 t4 t5 t6
        have hltC : k < cs.length := by rw [hcs]; have := HCL.out; omega
        have hltCI : (k : Int) < (f0.cells.length : Int) := by have := HCL.out; omega
        go_wp2_with fail
        refine (below_pos _ _ hcr (by omega)).mono ?_
        rintro e w5 ⟨y, hy0, hy1, rfl, hc5, hg5⟩
        have z5 := hg5.size
        replace hgr := hgr.trans hg5
        replace hfr := hfr.mv hg5 (by omega)
        replace bF := bF.mv hg5 (by omega)
        replace bR := bR.mv hg5 (by omega)
        have cF0 := bF.cell 0
        have cF1 := bF.cell 1
        have lF5 := bF.lt
        obtain ⟨gX, e9, _, _, lU, cU, _, _⟩ := hfr.usedFull k (by show k < us.length; rw [T8.out]; exact hlt)
        obtain rfl : gU = gX := some_blk e9
        rw [show ((⟨cs, us⟩ : FrD).used.getD k false) = b from T9.out] at cU
        clear e9 hg5 hcr
        have HREL := Lib.hid (show FOk ⟨cs, us⟩ ∧ FR w1.heap.size w2.heap.size w5 (.agg #[.slice b1 f0.cells.length d1, .slice (some ⟨gU, 0, none⟩) f0.used.length d2]) ⟨cs, us⟩ ∧ Cur B C w5 ∧ Chg C (C + 1) w w5 ∧ Blk w5 w2.heap.size 27 #[.slice b1 f0.cells.length d1, .slice (some ⟨gU, 0, none⟩) f0.used.length d2] ∧ Blk w5 w.heap.size 27 #[.slice none 0 0, .slice none 0 0] from ⟨hok, hfr, hc5, hgr, bF, bR⟩)
        have HCS := Lib.hid hcs
        clear hok hfr hc5 hgr bF bR hcs
        by_cases hny : (n : Int) < y
        · cases b
          · go_wp2_with fail
            go_roundw
            case rel => exact ⟨k + 1, ⟨cs, us⟩, by omega, by go_num, T8.out, HCS.out, HREL.out.1, T7.out, HREL.out.2⟩
            case measure => simp [intOf]; omega
          · obtain ⟨ok, hfr, hc5, hgr, bF, bR⟩ := HREL.out
            have hrl : ((⟨cs, us⟩ : FrD).cells.getD k []).length = 16 := (rowOk_iff.1 (ok.row k hltC)).1
            obtain ⟨gC, gX, dX, e9, gC0, gC1, gC2, cC, gX0, gX1, gX2, _, _, _⟩ := hfr.cellFull k 0 hltC (by omega)
            obtain rfl := e9
            have hneCX := hfr.cellNe k hltC cC
            rw [hrl] at cC
            have HFR := Lib.hid hfr
            have HC5 := Lib.hid hc5
            have HGR := Lib.hid hgr
            have BF := Lib.hid bF
            have BRr := Lib.hid bR
            have HOK2 := Lib.hid ok
            have HRL := Lib.hid hrl
            clear ok hfr hc5 hgr bF bR hrl
            go_wp2_with fail
            go_region_held3 (fun z => z.cell? ⟨w2.heap.size, 0, none⟩ = some (.slice (some ⟨gC, 0, none⟩) f0.cells.length d1) ∧ z.cell? ⟨gC, k, none⟩ = some (.slice (some ⟨gX, 0, none⟩) 16 dX)) (first | go_keep | exact ⟨x1, x2⟩ | exact ⟨y1, y2⟩ | exact ⟨(grownBy_setCell _ _ _ _).cell y1 (fun e => by have := Option.some.inj e; dsimp at this; omega), (grownBy_setCell _ _ _ _).cell y2 (fun e => by have := Option.some.inj e; dsimp at this; omega)⟩) (first | (go_at_call 50; (with_reducible refine (below_pos 16 _ (HC5.out.keep ((Chg.refl 0 0 w5).drew)) (by omega)).mono ?_); rintro e w6 ⟨a, ha0, ha1, rfl, hc6, hg6⟩; have hg6 : Chg C (C + 1) w5 w6 := ((Chg.refl C (C + 1) w5).drew).trans hg6; have x1 := hg6.cellLow cF0 (.inr (by omega)); have x2 := hg6.cellLow cC (.inr (by omega))) | (go_at_call 50; (with_reducible refine (below_pos 1000 _ hc6 (by omega)).mono ?_); rintro e w7 ⟨z, hz0, hz1, rfl, hc7, hg7⟩; have y1 := hg7.cellLow x1 (.inr (by omega)); have y2 := hg7.cellLow x2 (.inr (by omega)); have hg7 : Chg C (C + 1) w5 w7 := hg6.trans hg7; have hf7 := HFR.out.mv hg7 (by omega); obtain ⟨gY, gZ, dZ, e8, _, _, _, cY, _, _, lZ, cZ, fZ, hst⟩ := hf7.cellFull k a.toNat hltC (by rw [HRL.out]; omega); obtain rfl : gC = gY := some_blk e8; have e7 := Option.some.inj (y2.symm.trans cY); obtain rfl : gX = gZ := (by injection e7 with e7; exact some_blk e7); have HST := Lib.hid hst; have HC7 := Lib.hid hc7; have HG7 := Lib.hid hg7; clear hst e8 e7 cY hf7 hc7))
            all_goals
              have hst8 : Chg w1.heap.size w2.heap.size w7 (w7.setCell ⟨gX, a.toNat, none⟩ (.int .i64 z)) := (Chg.refl _ _ _).set gX a.toNat _ (.inl ⟨gX0, gX1⟩)
              have r1 := HOK2.out.cell k a.toNat z T9.out (by omega) (by omega)
              have r2 := HST.out z
              have r3 := HC7.out.mv hst8 (by omega)
              have r4 : Chg C (C + 1) w (w7.setCell ⟨gX, a.toNat, none⟩ (.int .i64 z)) := (HGR.out.trans HG7.out).set gX a.toNat _ (.inr (by omega))
              have r5 := (BF.out.mv HG7.out (by omega)).mv hst8 (by omega)
              have r6 := (BRr.out.mv HG7.out (by omega)).mv hst8 (by omega)
              have HR := Lib.hid (⟨r1, r2, r3, r4, r5, r6⟩ : _ ∧ _ ∧ _ ∧ _ ∧ _ ∧ _)
              clear r1 r2 r3 r4 r5 r6 hst8 hc6 hg6 hg7
              go_wp2_with fail
              go_roundw
              case rel => exact ⟨n + 1, _, by omega, by go_num, by rw [List.length_set]; exact HCS.out, HR.out⟩
              case measure => simp [intOf]; omega
        · go_wp2_with fail
          go_roundw
          case rel => exact ⟨k + 1, ⟨cs, us⟩, by omega, by go_num, T8.out, HCS.out, HREL.out.1, T7.out, HREL.out.2⟩
          case measure => simp [intOf]; omega
    · obtain rfl : k = f0.used.length := by omega
      have r0 := bR.cell 0
      have r1 := bR.cell 1
      have rf0 := bR.frozen 0
      have rf1 := bR.frozen 1
      have lR := bR.lt
      have hzr := hgr.size
      have HCN := Lib.hid (show f.cells.length ≤ 5 by rw [hcell]; have := HCL.out; omega)
      have HCR := Lib.hid hcr
      clear bF bR hu hcell
      go_wp2_with fail
      refine bodyPost_ret (v := .agg #[.slice b1 f0.cells.length d1, .slice b2 f0.used.length d2]) (by simp [results, Try.results46, go_sem, r0, r1, lR]) rfl ⟨_, f, rfl, ?_, hok, HCN.out, ?_, ?_⟩
      · exact (hfr.mv (((Chg.refl w.heap.size (w.heap.size + 1) wr).set w.heap.size 0 (.slice b1 f0.cells.length d1) (.inl ⟨by omega, by omega⟩)).set w.heap.size 1 (.slice b2 f0.used.length d2) (.inl ⟨by omega, by omega⟩)) (by omega)).wide (by omega) (by simp only [size_set]; omega)
      · exact HCR.out.mv (((Chg.refl w.heap.size (w.heap.size + 1) wr).set w.heap.size 0 (.slice b1 f0.cells.length d1) (.inl ⟨by omega, by omega⟩)).set w.heap.size 1 (.slice b2 f0.used.length d2) (.inl ⟨by omega, by omega⟩)) (by omega)
      · exact ((hgr.set w.heap.size 0 (.slice b1 f0.cells.length d1) (.inr (Nat.le_refl _))).set w.heap.size 1 (.slice b2 f0.used.length d2) (.inr (Nat.le_refl _)))
theorem drawFrames_any (ao : Option Addr) (n cap : Nat) (w : World) (hn : n ≤ 1048576) (hcode : Code w.heap.size w ao n) :
    Calls Try.prog 14 #[.slice ao n cap] w fun e w' => ∃ v f, e = .returned v ∧ FR w.heap.size w'.heap.size w' v f ∧ FOk f ∧ f.cells.length ≤ 5 ∧ Keep w w' := by
  have hcode' := hcode.keep ((Chg.refl 0 0 w).alloc (.cells #[.slice none 0 0, .slice none 0 0] 27 (0, 0)))
  have bR := Blk.new w 27 #[.slice none 0 0, .slice none 0 0]
  clear hcode
  go_enter Try.func14, Try.ntmps14
  go_wp2_with fail
  refine (l01New_any _ _ _ _ hn hcode').mono ?_
  rintro e w1 ⟨rfl, hc, hb, hsz⟩
  have k1 := Keep.of_below hb
  simp only [size_alloc] at hc
  replace bR := bR.keep k1
  have z1 := k1.size
  rw [size_alloc] at z1
  clear hcode' hb hsz
  go_wp2_with fail
  refine (l05Case_any _ hc).mono ?_
  rintro e w2 ⟨v, f, rfl, hf, ok, h5, _, hg⟩
  obtain ⟨b1, d1, b2, d2, rfl, hf⟩ := hf.slices
  replace bR := bR.mv hg (by omega)
  have r0 := bR.cell 0
  have r1 := bR.cell 1
  have f0 := bR.frozen 0
  have f1 := bR.frozen 1
  have lR := bR.lt
  have q2 : Keep w w2 := (Chg.keep ((Chg.refl 0 0 w).alloc _) k1).comp hg (.inl (by omega))
  clear bR hc hg
  go_wp2_with fail
  refine bodyPost_ret (v := .agg #[.slice b1 f.cells.length d1, .slice b2 f.used.length d2]) (by simp [results, Try.results14, go_sem, r0, r1, lR]) rfl ⟨_, f, rfl, ?_, ok, h5, ?_⟩
  · exact (hf.mv (((Chg.refl w.heap.size (w.heap.size + 1) w2).set w.heap.size 0 (.slice b1 f.cells.length d1) (.inl ⟨by omega, by omega⟩)).set w.heap.size 1 (.slice b2 f.used.length d2) (.inl ⟨by omega, by omega⟩)) (by omega)).wide (by omega) (by simp only [size_set]; omega)
  · exact ((q2.set w.heap.size 0 (.slice b1 f.cells.length d1) (.inr (Nat.le_refl _))).set w.heap.size 1 (.slice b2 f.used.length d2) (.inr (Nat.le_refl _)))
theorem sm_small {f : FrD} (h : FOk f) : sm_Frames f := by
  have h0 := h.used
  have h1 := h.len1
  have key : ∀ (l : List (List Int)), (∀ r ∈ l, r.length = 16) → cntRows l = l.length * 16 := by
    intro l
    induction l with
    | nil => intro _; rfl
    | cons r l ih =>
      intro hl
      have e1 := hl r (by simp)
      have e2 := ih fun x hx => hl x (by simp [hx])
      simp only [cntRows, List.length_cons, e1, e2]
      omega
  have hk := key f.cells fun r hr => by
    obtain ⟨i, hi, rfl⟩ := List.getElem_of_mem hr
    have := (rowOk_iff.1 (h.row i hi)).1
    simpa [List.getD, hi] using this
  unfold sm_Frames
  rw [hk]
  omega
end Go.Proofs.Ytodbpbgpfacgcaa
