/- Drawn machines: they are valid. -/
import Derived.Test.YtkcoehkfhffjkaaDrawTb
import Derived.Test.YtkcoehkfhffjkaaMa
import Derived.Deep.RegionHeld3
import Derived.Deep.Cut
namespace Go.Proofs.Ytkcoehkfhffjkaa
open Go.ChangeShapes Go.WideShapes Go.ChangeAt Go.RowKit
set_option linter.unusedSimpArgs false
set_option linter.unusedVariables false
set_option maxRecDepth 100000

/-- What a page of the table does to the frames' marks. -/
def UsedTo (t : TbD) (us : List Bool) (k : Nat) : Prop := ∀ i : Nat, i < us.length → (us.getD i false = true ↔ ∃ j, j < k ∧ onB i (t.getD j (0, 0)) = true)
theorem UsedTo.zero (t : TbD) {us : List Bool} (h : ∀ j, us.getD j false = false) : UsedTo t us 0 := by
  intro i hi
  constructor
  · intro x; rw [h i] at x; cases x
  · rintro ⟨j, hj, _⟩; omega
theorem UsedTo.skip {t : TbD} {us : List Bool} {k : Nat} (h : UsedTo t us k) (h0 : (t.getD k (0, 0)).1 = 0) : UsedTo t us (k + 1) := by
  intro i hi
  rw [h i hi]
  constructor
  · rintro ⟨j, hj, e⟩; exact ⟨j, by omega, e⟩
  · rintro ⟨j, hj, e⟩
    by_cases x : j = k
    · subst x; rw [onB_iff] at e; exact absurd h0 e.1
    · exact ⟨j, by omega, e⟩
theorem UsedTo.mark {t : TbD} {us : List Bool} {k q : Nat} (h : UsedTo t us k) (h0 : (t.getD k (0, 0)).1 ≠ 0) (h1 : (t.getD k (0, 0)).2 = q) (hq : q < us.length) : UsedTo t (us.set q true) (k + 1) := by
  intro i hi
  rw [List.length_set] at hi
  by_cases x : q = i
  · subst x
    rw [getD_set_eq _ _ _ _ hq]
    exact ⟨fun _ => ⟨k, by omega, by rw [onB_iff]; exact ⟨h0, h1⟩⟩, fun _ => rfl⟩
  · rw [getD_set_ne _ _ _ _ _ x, h i hi]
    constructor
    · rintro ⟨j, hj, e⟩; exact ⟨j, by omega, e⟩
    · rintro ⟨j, hj, e⟩
      by_cases y : j = k
      · subst y; rw [onB_iff, h1] at e; exact absurd (by omega) x
      · exact ⟨j, by omega, e⟩
theorem MOk.drawn {f : FrD} {t : TbD} (hf : FOk f) (ht : TOk t f.used.length) (hu : UsedTo t f.used t.length) : MOk ⟨f, t⟩ :=
  ⟨hf, ht, fun i hi => by rw [hu i hi]; exact Iff.rfl⟩
set_option maxHeartbeats 4000000 in
theorem l07Case_any {B C : Nat} (w : World) (hc : Cur B C w) :
    Calls Try.prog 75 #[.pointer (some ⟨C, 0, none⟩)] w fun e w' => ∃ v m, e = .returned v ∧ MA w.heap.size w'.heap.size w' v m ∧ MOk m ∧ m.fr.cells.length ≤ 5 ∧ m.tb.length ≤ 8 ∧ Cur B C w' ∧ Chg C (C + 1) w w' := by
  have hC := hc.lt
  have bR := Blk.new w 39 #[.slice none 0 0, .slice none 0 0, .slice none 0 0]
  go_enter Try.func75, Try.ntmps75
  go_wp2_with fail
  refine (below_pos _ _ (hc.keep ((Chg.refl 0 0 w).alloc _)) (by omega)).mono ?_
  rintro e w1 ⟨x, hx0, hx1, rfl, hc1, hg1⟩
  have g1 : Chg C (C + 1) w w1 := ((Chg.refl C (C + 1) w).alloc _).trans hg1
  have s1 := hg1.size
  rw [size_alloc] at s1
  replace bR := bR.mv hg1 (by omega)
  have hb : btw (2 + x) 1 32 = true := btw_true (by omega) (by omega)
  have hxb : 1 ≤ 2 + x ∧ 2 + x ≤ 5 := by omega
  go_wp2_with fail
  generalize 2 + x = q at *
  refine (framesNew_spec _ _).mono ?_
  rw [hb]
  rintro e w2 ⟨v2, rfl, h2, k2⟩
  obtain ⟨ok, hlen, hall⟩ := framesNewD_ok hb
  have g2 : Chg C (C + 1) w w2 := g1.keep k2
  have s2 := k2.size
  replace bR := bR.keep k2
  replace hc1 := hc1.keep k2
  obtain ⟨b1, d1, b2, d2, rfl, h2⟩ := h2.slices
  have HCL := Lib.hid ok.used
  generalize framesNewD q = f0 at *
  obtain rfl : q = (f0.used.length : Nat) := by omega
  have hn5 : f0.used.length ≤ 5 := by omega
  have hn1 : 1 ≤ f0.used.length := by omega
  clear hlen
  have bF := Blk.new w2 34 #[.slice b1 f0.cells.length d1, .slice b2 f0.used.length d2]
  have kF : Keep w2 (w2.alloc (.cells #[.slice b1 f0.cells.length d1, .slice b2 f0.used.length d2] 34 (0, 0))) := (Chg.refl 0 0 w2).alloc _
  replace bR := bR.keep kF
  replace hc1 := hc1.keep kF
  replace h2 := h2.keep kF
  replace g2 := g2.keep kF
  have lw2 := kF.size
  have cF0 := bF.cell 0
  have cF1 := bF.cell 1
  have lF := bF.lt
  go_wp2_with fail
  generalize w2.alloc (.cells #[.slice b1 f0.cells.length d1, .slice b2 f0.used.length d2] 34 (0, 0)) = V at *
  have HC1 := Lib.hid hc1
  have HS := Lib.hid (show ∀ z, Chg C (C + 1) V z → (z.cell? ⟨w2.heap.size, 0, none⟩ = some (.slice b1 f0.cells.length d1) ∧ z.cell? ⟨w2.heap.size, 1, none⟩ = some (.slice b2 f0.used.length d2)) from fun z hz => ⟨hz.cellLow cF0 (.inr (by omega)), hz.cellLow cF1 (.inr (by omega))⟩)
  have H2 := Lib.hid h2
  have OK := Lib.hid ok
  have HALL := Lib.hid hall
  have G2 := Lib.hid g2
  have BR := Lib.hid bR
  clear hc1 h2 ok hall g2 bR g1 hg1 k2 bF kF cF0 cF1
  go_cut [6] from 9 (fun sp z => ∃ (A : Nat) (b3 : Option Addr) (d3 lo3 hi3 : Nat) (t : TbD), sp = .pointer (some ⟨A, 0, none⟩) ∧ Blk z A 39 #[.slice b1 f0.cells.length d1, .slice b2 f0.used.length d2, .slice b3 t.length d3] ∧ SE lo3 hi3 z (.slice b3 t.length d3) t ∧ TOk t f0.used.length ∧ t.length ≤ 8 ∧ hi3 ≤ z.heap.size ∧ V.heap.size ≤ lo3 ∧ (A < lo3 ∨ hi3 ≤ A) ∧ V.heap.size ≤ A ∧ Cur B C z ∧ Chg C (C + 1) V z)
  case first =>
    go_region_held3 (fun z => z.cell? ⟨w2.heap.size, 0, none⟩ = some (.slice b1 f0.cells.length d1) ∧ z.cell? ⟨w2.heap.size, 1, none⟩ = some (.slice b2 f0.used.length d2)) (first | exact HS.out _ ((Chg.refl C (C + 1) V).drew) | exact HS.out _ (((Chg.refl C (C + 1) V).alloc _).drew) | exact HS.out _ kr1 | exact HS.out _ (kr1.alloc _) | exact HS.out _ (kr1.set _ 0 _ (.inr (Nat.le_refl _))) | exact HS.out _ ((kr1.set _ 0 _ (.inr (Nat.le_refl _))).set _ 1 _ (.inr (Nat.le_refl _))) | exact HS.out _ (((kr1.set _ 0 _ (.inr (Nat.le_refl _))).set _ 1 _ (.inr (Nat.le_refl _))).set _ 2 _ (.inr (Nat.le_refl _)))) (first | (go_at_call 112; refine (l06Case_any _ _ (HC1.out.keep (by repeat (first | exact Chg.refl _ _ _ | apply Chg.drew | apply Chg.alloc))) (by omega) (by omega)).mono ?_; rintro e Y1 ⟨v3, t, rfl, h3, ht, ht8, hc3, kk1⟩; have kr1 : Chg C (C + 1) V Y1 := Chg.trans (by repeat (first | exact Chg.refl _ _ _ | apply Chg.drew | apply Chg.alloc)) kk1; have zz1 := kr1.size; have zk1 := kk1.size; (first | (have bN := (Blk.new V 39 #[.slice none 0 0, .slice none 0 0, .slice none 0 0]).mv (((Chg.refl C (C + 1) _).drew).trans kk1) (by omega); have cN0 := bN.cell 0; have cN1 := bN.cell 1; have cN2 := bN.cell 2; have fN0 := bN.frozen 0; have fN1 := bN.frozen 1; have fN2 := bN.frozen 2; have lN := bN.lt) | skip); obtain ⟨s3, rfl, h3⟩ := h3; obtain ⟨b3, d3, rfl, -, -⟩ := SE.opened h3))
    all_goals
      go_wp2_with fail
      go_meet
      case rel =>
        try simp only [size_alloc, show ∀ w : World, w.drew.heap.size = w.heap.size from fun _ => rfl] at zk1 h3
        first
          | exact ⟨_, b3, d3, _, _, t, rfl, by simpa using ((bN.set_ 0 (.slice b1 f0.cells.length d1)).set_ 1 (.slice b2 f0.used.length d2)).set_ 2 (.slice b3 t.length d3), h3.mv ((((Chg.refl V.heap.size (V.heap.size + 1) Y1).set V.heap.size 0 _ (.inl ⟨Nat.le_refl _, Nat.lt_succ_self _⟩)).set V.heap.size 1 _ (.inl ⟨Nat.le_refl _, Nat.lt_succ_self _⟩)).set V.heap.size 2 _ (.inl ⟨Nat.le_refl _, Nat.lt_succ_self _⟩)) (by omega), ht, ht8, by simp only [size_set]; omega, by omega, by omega, by omega, hc3.mv ((((Chg.refl V.heap.size (V.heap.size + 1) Y1).set V.heap.size 0 _ (.inl ⟨Nat.le_refl _, Nat.lt_succ_self _⟩)).set V.heap.size 1 _ (.inl ⟨Nat.le_refl _, Nat.lt_succ_self _⟩)).set V.heap.size 2 _ (.inl ⟨Nat.le_refl _, Nat.lt_succ_self _⟩)) (by omega), ((kr1.set _ 0 _ (.inr (by omega))).set _ 1 _ (.inr (by omega))).set _ 2 _ (.inr (by omega))⟩
          | exact ⟨_, b3, d3, _, _, t, rfl, Blk.new _ _ _, h3.keep ((Chg.refl 0 0 _).alloc _), ht, ht8, by simp only [size_alloc]; omega, by omega, by omega, by omega, hc3.keep ((Chg.refl 0 0 _).alloc _), kr1.alloc _⟩
  obtain ⟨A, b3, d3, lo3, hi3, t, rfl, bA, hse, ht, ht8, hhi3, hlo3, hA3, hAl, hcr, hgV⟩ := hcut
  have zc := hgV.size
  have hf := H2.out.mv hgV (by omega)
  have gW : Chg C (C + 1) w wc := G2.out.trans hgV
  have bRc := BR.out.mv hgV (by omega)
  have lA := bA.lt
  have cA2 := bA.cell 2
  have HSTART := Lib.hid (⟨OK.out, UsedTo.zero t HALL.out, hf, hse, hcr, gW, Nat.le_refl _, bA, bRc⟩ : FOk f0 ∧ UsedTo t f0.used 0 ∧ FR w1.heap.size w2.heap.size wc (.agg #[.slice b1 f0.cells.length d1, .slice b2 f0.used.length d2]) f0 ∧ SE lo3 hi3 wc (.slice b3 t.length d3) t ∧ Cur B C wc ∧ Chg C (C + 1) w wc ∧ wc.heap.size ≤ wc.heap.size ∧ Blk wc A 39 #[.slice b1 f0.cells.length d1, .slice b2 f0.used.length d2, .slice b3 t.length d3] ∧ Blk wc w.heap.size 39 #[.slice none 0 0, .slice none 0 0, .slice none 0 0])
  have HT := Lib.hid ht
  clear hf hse hcr gW bA bRc ht hgV H2 HALL OK BR G2 HC1 HS
  go_wp2_with fail
  go_loopw [7] (fun i wr => ∃ (k : Nat) (f : FrD), k ≤ t.length ∧ i = .int .i64 k ∧ f.used.length = f0.used.length ∧ f.cells.length = f0.cells.length ∧ FOk f ∧ UsedTo t f.used k ∧ FR w1.heap.size w2.heap.size wr (.agg #[.slice b1 f0.cells.length d1, .slice b2 f0.used.length d2]) f ∧ SE lo3 hi3 wr (.slice b3 t.length d3) t ∧ Cur B C wr ∧ Chg C (C + 1) w wr ∧ wc.heap.size ≤ wr.heap.size ∧ Blk wr A 39 #[.slice b1 f0.cells.length d1, .slice b2 f0.used.length d2, .slice b3 t.length d3] ∧ Blk wr w.heap.size 39 #[.slice none 0 0, .slice none 0 0, .slice none 0 0]) (fun i _ => t.length - (intOf i).toNat)
  case atStart => exact ⟨0, f0, Nat.zero_le _, rfl, rfl, rfl, HSTART.out⟩
  case round =>
    obtain ⟨k, f, hk, rfl, hu, hce, hok, hus, hfr, hse, hcr, hgr, hzr, bA, bR⟩ := hrel
    have cA0 := bA.cell 0
    have cA1 := bA.cell 1
    have cA2 := bA.cell 2
    have lA := bA.lt
    by_cases hlt : k < t.length
    · have hltI : (k : Int) < (t.length : Int) := by omega
      have hent := entOk_iff.1 (HT.out.ent k hlt)
      obtain ⟨gE, rfl, gE0, gE1, lE, c1, c2, _, _, _⟩ := hse.full rfl k hlt
      obtain ⟨mo, hmo⟩ : ∃ mo, (t.getD k (0, 0)).1 = mo := ⟨_, rfl⟩
      obtain ⟨fr, hfrq⟩ : ∃ fr, (t.getD k (0, 0)).2 = fr := ⟨_, rfl⟩
      rw [hmo] at c1 hent
      rw [hfrq] at c2 hent
      have HMO := Lib.hid hmo
      have HFQ := Lib.hid hfrq
      clear hmo hfrq
      have HREL := Lib.hid (⟨hok, hus, hfr, hse, hcr, hgr, hzr, bA, bR⟩ : _ ∧ _ ∧ _ ∧ _ ∧ _ ∧ _ ∧ _ ∧ _ ∧ _)
      have HLEN := Lib.hid (And.intro hu hce)
      clear hok hus hfr hse hcr hgr bA bR hu hce
      by_cases h0 : mo = 0
      · subst h0
        clear hent
        go_wp2_with fail
        go_roundw
        case rel =>
          obtain ⟨hok, hus, hfr, hse, hcr, hgr, hzr, bA, bR⟩ := HREL.out
          exact ⟨k + 1, f, by omega, by go_num, HLEN.out.1, HLEN.out.2, hok, hus.skip HMO.out, hfr.keep ((Chg.refl 0 0 wr).alloc _), hse.keep ((Chg.refl 0 0 wr).alloc _), hcr.keep ((Chg.refl 0 0 wr).alloc _), hgr.alloc _, by simp only [size_alloc]; omega, bA.keep ((Chg.refl 0 0 wr).alloc _), bR.keep ((Chg.refl 0 0 wr).alloc _)⟩
        case measure => simp [intOf]; omega
      · have hpos : 0 < mo := by omega
        obtain ⟨q, rfl⟩ : ∃ q : Nat, fr = q := ⟨fr.toNat, by have := hent.2.2.2 h0; omega⟩
        have hq0 : q < f0.used.length := by have := hent.2.2.2 h0; omega
        have hqI : (q : Int) < (f0.used.length : Int) := by omega
        have hqC : (q : Int) < (f0.cells.length : Int) := by have := HCL.out; omega
        clear hent
        have hf3 := HREL.out.2.2.1.keep ((Chg.refl 0 0 wr).alloc (.cells #[.int .i64 mo, .int .i64 q] 65 (0, 0)))
        obtain ⟨gU, rfl, gU0, gU1, lU, cU, fU, hst⟩ := hf3.usedFull q (by rw [HLEN.out.1]; exact hq0)
        have HST := Lib.hid hst
        clear hst hf3
        go_wp2_with fail
        obtain ⟨hok, hus, hfr, hse, hcr, hgr, hzr, bA, bR⟩ := HREL.out
        have kE : Keep wr (wr.alloc (.cells #[.int .i64 mo, .int .i64 q] 65 (0, 0))) := (Chg.refl 0 0 wr).alloc _
        have zE : (wr.alloc (.cells #[.int .i64 mo, .int .i64 q] 65 (0, 0))).heap.size = wr.heap.size + 1 := size_alloc _ _
        have hst4 : Chg w1.heap.size w2.heap.size (wr.alloc (.cells #[.int .i64 mo, .int .i64 q] 65 (0, 0))) ((wr.alloc (.cells #[.int .i64 mo, .int .i64 q] 65 (0, 0))).setCell ⟨gU, q, none⟩ (.bool true)) := (Chg.refl _ _ _).set gU q _ (.inl ⟨gU0, gU1⟩)
        have z4 := hst4.size
        have u1 : FOk ⟨f.cells, f.used.set q true⟩ := hok.mark q
        have u2 : UsedTo t (f.used.set q true) (k + 1) := hus.mark (by rw [HMO.out]; exact h0) HFQ.out (by rw [HLEN.out.1]; exact hq0)
        have u3 := HST.out true
        have u4 := (hse.keep kE).mv hst4 (by omega)
        have u5 := (hcr.keep kE).mv hst4 (by omega)
        have u6 : Chg C (C + 1) w ((wr.alloc (.cells #[.int .i64 mo, .int .i64 q] 65 (0, 0))).setCell ⟨gU, q, none⟩ (.bool true)) := (hgr.alloc _).set gU q _ (.inr (by omega))
        have u7 : wc.heap.size + 1 ≤ ((wr.alloc (.cells #[.int .i64 mo, .int .i64 q] 65 (0, 0))).setCell ⟨gU, q, none⟩ (.bool true)).heap.size := by omega
        have u8 := (bA.keep kE).mv hst4 (by omega)
        have u9 := (bR.keep kE).mv hst4 (by omega)
        have bE : Blk (wr.alloc (.cells #[.int .i64 mo, .int .i64 q] 65 (0, 0))) wr.heap.size 65 #[.int .i64 mo, .int .i64 q] := Blk.new _ _ _
        have u10 := bE.mv hst4 (by omega)
        have u11 : (f.used.set q true).getD q false = true := getD_set_eq _ _ _ _ (by rw [HLEN.out.1]; exact hq0)
        have u12 : (f.used.set q true).length = f0.used.length := by rw [List.length_set]; exact HLEN.out.1
        have hltC : q < f.cells.length := by have := HLEN.out.2; omega
        clear hok hus hfr hse hcr hgr bA bR hst4 bE kE cU fU cA0 cA1 cA2 c1 c2 lU
        generalize (wr.alloc (.cells #[.int .i64 mo, .int .i64 q] 65 (0, 0))).setCell ⟨gU, q, none⟩ (.bool true) = w5 at *
        generalize f.used.set q true = us at *
        have HU12 := Lib.hid u12
        have HU11 := Lib.hid u11
        clear u12 u11
        have hrl : (f.cells.getD q []).length = 16 := (rowOk_iff.1 (u1.row q hltC)).1
        obtain ⟨gC, gX, dX, e9, gC0, gC1, gC2, cC, gX0, gX1, gX2, _, _, _⟩ := u3.cellFull q 0 hltC (by dsimp only; omega)
        obtain rfl := e9
        have hneCX := u3.cellNe q hltC cC
        dsimp only at cC
        rw [hrl] at cC
        have cA0 := u8.cell 0
        have cE1 := u10.cell 1
        have lA5 := u8.lt
        have lE5 := u10.lt
        have HU1 := Lib.hid u1
        have HU2 := Lib.hid u2
        have HU3 := Lib.hid u3
        have HU4 := Lib.hid u4
        have HU5 := Lib.hid u5
        have HU6 := Lib.hid u6
        have HU8 := Lib.hid u8
        have HU9 := Lib.hid u9
        have HRL := Lib.hid hrl
        clear u1 u2 u3 u4 u5 u6 u8 u9 u10 hrl
        go_region_held3 (fun z => z.cell? ⟨A, 0, none⟩ = some (.slice (some ⟨gC, 0, none⟩) f0.cells.length d1) ∧ z.cell? ⟨wr.heap.size, 1, none⟩ = some (.int .i64 q) ∧ z.cell? ⟨gC, q, none⟩ = some (.slice (some ⟨gX, 0, none⟩) 16 dX)) (first | exact ⟨x1, x2, x3⟩ | exact ⟨y1, y2, y3⟩ | exact ⟨v1 _, v2 _, v3 _⟩ | go_keep) (first | (go_at_call 69; (with_reducible refine (below_pos 16 _ (HU5.out.keep ((Chg.refl 0 0 w5).drew)) (by omega)).mono ?_); rintro e w6 ⟨a, ha0, ha1, rfl, hc6, hg6⟩; have hg6 : Chg C (C + 1) w5 w6 := ((Chg.refl C (C + 1) w5).drew).trans hg6; have x1 := hg6.cellLow cA0 (.inr (by omega)); have x2 := hg6.cellLow cE1 (.inr (by omega)); have x3 := hg6.cellLow cC (.inr (by omega))) | (go_at_call 69; (with_reducible refine (below_pos 1000 _ hc6 (by omega)).mono ?_); rintro e w7 ⟨z, hz0, hz1, rfl, hc7, hg7⟩; have y1 := hg7.cellLow x1 (.inr (by omega)); have y2 := hg7.cellLow x2 (.inr (by omega)); have y3 := hg7.cellLow x3 (.inr (by omega)); have hg7 : Chg C (C + 1) w5 w7 := hg6.trans hg7; have hf7 := HU3.out.mv hg7 (by omega); obtain ⟨gY, gZ, dZ, e8, _, _, _, cY, _, _, lZ, cZ, fZ, hst⟩ := hf7.cellFull q a.toNat hltC (by rw [HRL.out]; omega); obtain rfl : gC = gY := some_blk e8; have e7 := Option.some.inj (y3.symm.trans cY); obtain rfl : gX = gZ := (by injection e7 with e7; exact some_blk e7); have HST7 := Lib.hid hst; have HC7 := Lib.hid hc7; have HG7 := Lib.hid hg7; have v1 := fun u : Value => (grownBy_setCell w7 gX a.toNat u).cell y1 (fun e => (by have := Option.some.inj e; dsimp at this; omega)); have v2 := fun u : Value => (grownBy_setCell w7 gX a.toNat u).cell y2 (fun e => (by have := Option.some.inj e; dsimp at this; omega)); have v3 := fun u : Value => (grownBy_setCell w7 gX a.toNat u).cell y3 (fun e => (by have := Option.some.inj e; dsimp at this; omega)); clear hst e8 e7 cY hf7 hc7))
        all_goals
          have hst8 : Chg w1.heap.size w2.heap.size w7 (w7.setCell ⟨gX, a.toNat, none⟩ (.int .i64 z)) := (Chg.refl _ _ _).set gX a.toNat _ (.inl ⟨gX0, gX1⟩)
          have z8 := hst8.size
          have z7 := HG7.out.size
          have r1 := HU1.out.cell q a.toNat z HU11.out (by omega) (by omega)
          have r3 := HST7.out z
          have r4 := (HU4.out.mv HG7.out (by omega)).mv hst8 (by omega)
          have r5 := HC7.out.mv hst8 (by omega)
          have r6 : Chg C (C + 1) w (w7.setCell ⟨gX, a.toNat, none⟩ (.int .i64 z)) := (HU6.out.trans HG7.out).set gX a.toNat _ (.inr (by omega))
          have r7 : wc.heap.size ≤ (w7.setCell ⟨gX, a.toNat, none⟩ (.int .i64 z)).heap.size := by omega
          have r8 := (HU8.out.mv HG7.out (by omega)).mv hst8 (by omega)
          have r9 := (HU9.out.mv HG7.out (by omega)).mv hst8 (by omega)
          have HR := Lib.hid (⟨r1, HU2.out, r3, r4, r5, r6, r7, r8, r9⟩ : _ ∧ _ ∧ _ ∧ _ ∧ _ ∧ _ ∧ _ ∧ _ ∧ _)
          clear r1 r3 r4 r5 r6 r7 r8 r9 hst8 hc6 hg6 hg7 v1 v2 v3 y1 y2 y3 x1 x2 x3
          go_wp2_with fail
          go_roundw
          case rel => exact ⟨k + 1, _, by omega, by go_num, HU12.out, by rw [List.length_set]; exact HLEN.out.2, HR.out⟩
          case measure => simp [intOf]; omega
    · obtain rfl : k = t.length := by omega
      have r0 := bR.cell 0
      have r1 := bR.cell 1
      have r2 := bR.cell 2
      have rf0 := bR.frozen 0
      have rf1 := bR.frozen 1
      have rf2 := bR.frozen 2
      have lR := bR.lt
      have hzr2 := hgr.size
      have HCR := Lib.hid hcr
      have HM := Lib.hid (show MOk ⟨f, t⟩ from MOk.drawn hok (by rw [hu]; exact HT.out) hus)
      have HLN := Lib.hid (show f.cells.length ≤ 5 ∧ f.cells.length = f0.cells.length ∧ f.used.length = f0.used.length from ⟨by rw [hce]; have := HCL.out; omega, hce, hu⟩)
      have hch : Chg w.heap.size (w.heap.size + 1) wr (((wr.setCell ⟨w.heap.size, 0, none⟩ (.slice b1 f0.cells.length d1)).setCell ⟨w.heap.size, 1, none⟩ (.slice b2 f0.used.length d2)).setCell ⟨w.heap.size, 2, none⟩ (.slice b3 t.length d3)) := (((Chg.refl _ _ _).set _ 0 _ (.inl ⟨by omega, by omega⟩)).set _ 1 _ (.inl ⟨by omega, by omega⟩)).set _ 2 _ (.inl ⟨by omega, by omega⟩)
      have hzc := hch.size
      have r3 : MA w.heap.size (((wr.setCell ⟨w.heap.size, 0, none⟩ (.slice b1 f0.cells.length d1)).setCell ⟨w.heap.size, 1, none⟩ (.slice b2 f0.used.length d2)).setCell ⟨w.heap.size, 2, none⟩ (.slice b3 t.length d3)).heap.size (((wr.setCell ⟨w.heap.size, 0, none⟩ (.slice b1 f0.cells.length d1)).setCell ⟨w.heap.size, 1, none⟩ (.slice b2 f0.used.length d2)).setCell ⟨w.heap.size, 2, none⟩ (.slice b3 t.length d3)) (.agg #[.slice b1 f0.cells.length d1, .slice b2 f0.used.length d2, .slice b3 t.length d3]) ⟨f, t⟩ :=
        MA.mk ((hfr.mv hch (by omega)).wide (by omega) (by omega)) ((hse.mv hch (by omega)).wide (by omega) (by omega))
      have r4 := HCR.out.mv hch (by omega)
      have r5 : Chg C (C + 1) w (((wr.setCell ⟨w.heap.size, 0, none⟩ (.slice b1 f0.cells.length d1)).setCell ⟨w.heap.size, 1, none⟩ (.slice b2 f0.used.length d2)).setCell ⟨w.heap.size, 2, none⟩ (.slice b3 t.length d3)) := ((hgr.set _ 0 _ (.inr (Nat.le_refl _))).set _ 1 _ (.inr (Nat.le_refl _))).set _ 2 _ (.inr (Nat.le_refl _))
      have HEND := Lib.hid (And.intro r3 (And.intro r4 r5))
      clear bA bR hu hce hok hus hfr hse hcr hgr hch r3 r4 r5
      go_wp2_with fail
      exact bodyPost_ret (v := .agg #[.slice b1 f0.cells.length d1, .slice b2 f0.used.length d2, .slice b3 t.length d3]) (by simp [results, Try.results75, go_sem, r0, r1, r2, lR]) rfl ⟨_, ⟨f, t⟩, rfl, HEND.out.1, HM.out, HLN.out.1, ht8, HEND.out.2.1, HEND.out.2.2⟩
theorem drawMachine_any (ao : Option Addr) (n cap : Nat) (w : World) (hn : n ≤ 1048576) (hcode : Code w.heap.size w ao n) :
    Calls Try.prog 34 #[.slice ao n cap] w fun e w' => ∃ v m, e = .returned v ∧ MA w.heap.size w'.heap.size w' v m ∧ MOk m ∧ m.fr.cells.length ≤ 5 ∧ m.tb.length ≤ 8 ∧ Keep w w' := by
  have hcode' := hcode.keep ((Chg.refl 0 0 w).alloc (.cells #[.slice none 0 0, .slice none 0 0, .slice none 0 0] 39 (0, 0)))
  have bR := Blk.new w 39 #[.slice none 0 0, .slice none 0 0, .slice none 0 0]
  clear hcode
  go_enter Try.func34, Try.ntmps34
  go_wp2_with fail
  refine (l01New_any _ _ _ _ hn hcode').mono ?_
  rintro e w1 ⟨rfl, hc, hb, hsz⟩
  have k1 := Keep.of_below hb
  simp only [size_alloc] at hc
  replace bR := bR.keep k1
  have z1 := k1.size
  rw [size_alloc] at z1
  clear hcode' hb hsz
  go_wp2_with fail
  refine (l07Case_any _ hc).mono ?_
  rintro e w2 ⟨v, m, rfl, hm, ok, h5, h8, _, hg⟩
  obtain ⟨b1, d1, b2, d2, b3, d3, rfl, hf, hse⟩ := hm.slices
  replace bR := bR.mv hg (by omega)
  have r0 := bR.cell 0
  have r1 := bR.cell 1
  have r2 := bR.cell 2
  have f0 := bR.frozen 0
  have f1 := bR.frozen 1
  have f2 := bR.frozen 2
  have lR := bR.lt
  have q2 : Keep w w2 := (Chg.keep ((Chg.refl 0 0 w).alloc _) k1).comp hg (.inl (by omega))
  have hch : Chg w.heap.size (w.heap.size + 1) w2 (((w2.setCell ⟨w.heap.size, 0, none⟩ (.slice b1 m.fr.cells.length d1)).setCell ⟨w.heap.size, 1, none⟩ (.slice b2 m.fr.used.length d2)).setCell ⟨w.heap.size, 2, none⟩ (.slice b3 m.tb.length d3)) := (((Chg.refl _ _ _).set _ 0 _ (.inl ⟨by omega, by omega⟩)).set _ 1 _ (.inl ⟨by omega, by omega⟩)).set _ 2 _ (.inl ⟨by omega, by omega⟩)
  have hzc := hch.size
  have e1 : MA w.heap.size (((w2.setCell ⟨w.heap.size, 0, none⟩ (.slice b1 m.fr.cells.length d1)).setCell ⟨w.heap.size, 1, none⟩ (.slice b2 m.fr.used.length d2)).setCell ⟨w.heap.size, 2, none⟩ (.slice b3 m.tb.length d3)).heap.size (((w2.setCell ⟨w.heap.size, 0, none⟩ (.slice b1 m.fr.cells.length d1)).setCell ⟨w.heap.size, 1, none⟩ (.slice b2 m.fr.used.length d2)).setCell ⟨w.heap.size, 2, none⟩ (.slice b3 m.tb.length d3)) (.agg #[.slice b1 m.fr.cells.length d1, .slice b2 m.fr.used.length d2, .slice b3 m.tb.length d3]) m := MA.mk ((hf.mv hch (by omega)).wide (by omega) (by omega)) ((hse.mv hch (by omega)).wide (by omega) (by omega))
  have e2 : Keep w (((w2.setCell ⟨w.heap.size, 0, none⟩ (.slice b1 m.fr.cells.length d1)).setCell ⟨w.heap.size, 1, none⟩ (.slice b2 m.fr.used.length d2)).setCell ⟨w.heap.size, 2, none⟩ (.slice b3 m.tb.length d3)) := ((q2.set w.heap.size 0 _ (.inr (Nat.le_refl _))).set w.heap.size 1 _ (.inr (Nat.le_refl _))).set w.heap.size 2 _ (.inr (Nat.le_refl _))
  have HEND := Lib.hid (And.intro e1 e2)
  have OK := Lib.hid ok
  clear bR hc hg hf hse hm hch e1 e2 ok
  go_wp2_with fail
  exact bodyPost_ret (v := (.agg #[.slice b1 m.fr.cells.length d1, .slice b2 m.fr.used.length d2, .slice b3 m.tb.length d3])) (by simp [results, Try.results34, go_sem, r0, r1, r2, lR]) rfl ⟨_, m, rfl, HEND.out.1, OK.out, h5, h8, HEND.out.2⟩
theorem sm_smallM {m : MaD} (h : MOk m) : m.fr.cells.length + cntRows m.fr.cells + m.fr.used.length + m.tb.length ≤ 1048576 := by
  have h0 := h.fr.used
  have h1 := h.fr.len1
  have h2 := h.tb.len1
  have key : ∀ (l : List (List Int)), (∀ r ∈ l, r.length = 16) → cntRows l = l.length * 16 := by
    intro l
    induction l with
    | nil => intro _; rfl
    | cons r l ih =>
      intro hl
      have e1 := hl r (by simp)
      have e2 := ih fun x hx => hl x (by simp [hx])
      simp only [cntRows, List.length_cons, e1, e2]
      omega
  have hk := key m.fr.cells fun r hr => by
    obtain ⟨i, hi, rfl⟩ := List.getElem_of_mem hr
    have := (rowOk_iff.1 (h.fr.row i hi)).1
    simpa [List.getD, hi] using this
  rw [hk]
  omega
end Go.Proofs.Ytkcoehkfhffjkaa
