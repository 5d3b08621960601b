/- The Go law FnCallNumbers returns true for all arguments and leaves its arguments as they were. Conditions: none. The frame follows the kit's shell; the walk is mine. -/
import Derived.Test.YtkcoehkfhffjkaaRows
import Derived.WalkKit
import Derived.ProofKit
import Derived.OpenShut
import Derived.Test.YtkcoehkfhffjkaaOpenCode
import Derived.Test.YtkcoehkfhffjkaaDrawMa
import Derived.Test.YtkcoehkfhffjkaaKeNew
import Derived.Test.YtkcoehkfhffjkaaKeMadeS
import Derived.Deep.RegionHeld3
import Derived.Deep.Cut
import Derived.ShutString
import Derived.ChangeOld
import Derived.Below
namespace Go.Proofs.Ytkcoehkfhffjkaa.fnCallNumbers
open Go.ChangeShapes Go.WideShapes Go.ChangeAt Go.RowKit
open Go.ChangeMaps (open_string shut_string)
set_option linter.unusedVariables false
set_option linter.unusedSimpArgs false

def kcn (a b : Int) : Nat → KeD
  | 0 => kernelNewD 2 2 [1 + a, 1 + b]
  | 1 => mapNewD (kernelNewD 2 2 [1 + a, 1 + b]) 0
  | i + 2 => protD (kcn a b (i + 1)) 0 (1 + ((i + 1 : Nat) : Int) % 2)
def cnChk (a b : Int) : Bool := kernelNewOk 2 2 [1 + a, 1 + b] && mapNewOk (kcn a b 0) 0 && (List.range 9).all (fun i => kernelOkB (kcn a b i)) &&
  (List.range 8).all (fun i => i == 0 || ((protOk (kcn a b i) 0 (1 + (i : Int) % 2) == !((i : Int) == 1 + a || (i : Int) == 1 + b)) && (kcn a b (i + 1)).calls == (i : Int) + 1))
theorem cn_all : ∀ a b : Fin 6, cnChk (a.1 : Int) (b.1 : Int) = true := by decide +kernel
theorem cn_facts {a b : Int} (a0 : 0 ≤ a) (a1 : a < 6) (b0 : 0 ≤ b) (b1 : b < 6) : kernelNewOk 2 2 [1 + a, 1 + b] = true ∧ mapNewOk (kcn a b 0) 0 = true ∧ (∀ i, i < 9 → kernelOkB (kcn a b i) = true) ∧
    ∀ i : Nat, 1 ≤ i → i < 8 → protOk (kcn a b i) 0 (1 + (i : Int) % 2) = !((i : Int) == 1 + a || (i : Int) == 1 + b) ∧ (kcn a b (i + 1)).calls = (i : Int) + 1 := by
  have h := cn_all ⟨a.toNat, by omega⟩ ⟨b.toNat, by omega⟩
  dsimp only at h
  rw [show ((a.toNat : Nat) : Int) = a by omega, show ((b.toNat : Nat) : Int) = b by omega] at h
  unfold cnChk at h
  simp only [Bool.and_eq_true, List.all_eq_true, List.mem_range, Bool.or_eq_true, beq_iff_eq] at h
  obtain ⟨⟨⟨h1, h2⟩, h3⟩, h4⟩ := h
  refine ⟨h1, h2, h3, fun i i1 i2 => ?_⟩
  rcases h4 i i2 with e | e
  · omega
  · exact e
theorem chg_cell {l h : Nat} {w w' : World} (hc : Chg l h w w') {g i : Nat} {v : Value} (hv : w.cell? ⟨g, i, none⟩ = some v) (hd : g < l ∨ h ≤ g) : w'.cell? ⟨g, i, none⟩ = some v := by
  have hl := World.block_lt_of_cell? w _ hv
  have e := hc.block g hl hd
  simpa [World.cell?, e] using hv
theorem SI.lit2 (w : World) (lo : Nat) (x y : Int) (hb : lo ≤ w.heap.size) : SI lo (w.heap.size + 1) (w.alloc (.cells #[.int .i64 x, .int .i64 y] 3 (0, 0))) (.slice (some ⟨w.heap.size, 0, none⟩) 2 2) [x, y] :=
  Rw.lit w _ 1 2 lo #[.int .i64 x, .int .i64 y] hb (by decide) rfl
theorem sm_ok {k : KeD} (h : kernelOkB k = true) : sm_Kernel k := by
  have h := kernelOk_iff.1 h
  have := sm_smallM h.ma
  have := h.len
  unfold sm_Kernel
  omega
set_option maxHeartbeats 4000000 in
theorem walk (a0 : Option Addr) (len0 cap0 : Nat) (w : World) (w0 : Code w.heap.size w a0 len0) :
    Calls Try.prog 6 #[.slice a0 len0 cap0] w fun e w' => e = .returned (.bool true) ∧ Below w.heap.size w w' := by
  by_cases hbig : (1048576 : Int) < len0
  · go_enter Try.func6, Try.ntmps6
    go_wp2_with (go_at_call 29; refine (big_any _ _ _ _).mono ?_; rintro e w' ⟨rfl, rfl⟩)
    go_ret
    exact ⟨rfl, Below.refl _ _⟩
  go_enter Try.func6, Try.ntmps6
  go_wp2_with (go_at_call 29; refine (big_any _ _ _ _).mono ?_; rintro e w' ⟨rfl, rfl⟩)
  refine (places_any _ _ _ _ (by omega) w0).mono ?_
  rintro e W2 ⟨g, c, p, rfl, hc, hg, hgs, hp, hbe⟩
  have k2 := Keep.of_below hbe
  obtain ⟨p00, p01, c0⟩ := hp 0 (by decide)
  obtain ⟨p10, p11, c1⟩ := hp 1 (by decide)
  clear w0 hp hbe
  generalize p 0 = pa at *
  generalize p 1 = pb at *
  have a0 := Int.emod_nonneg pa (b := 6) (by omega)
  have a1 := Int.emod_lt_of_pos pa (show (0 : Int) < 6 by omega)
  have b0 := Int.emod_nonneg pb (b := 6) (by omega)
  have b1 := Int.emod_lt_of_pos pb (show (0 : Int) < 6 by omega)
  have hpa : pa.tmod 6 = pa % 6 := Int.tmod_eq_emod_of_nonneg p00
  have hpb : pb.tmod 6 = pb % 6 := Int.tmod_eq_emod_of_nonneg p10
  obtain ⟨f1, f2, f3, f4⟩ := cn_facts a0 a1 b0 b1
  have hwa : IntKind.i64.wrap (1 + pa % 6) = 1 + pa % 6 := by rw [IntKind.wrap_i64]; omega
  have hwb : IntKind.i64.wrap (1 + pb % 6) = 1 + pb % 6 := by rw [IntKind.wrap_i64]; omega
  generalize ha : pa % 6 = a at *
  generalize hb : pb % 6 = b at *
  have F2 := Lib.hid f2
  have F3 := Lib.hid f3
  have F4 := Lib.hid f4
  have HN1 := Lib.hid f1
  have HN2 := Lib.hid (show kernelNewD 2 2 [1 + a, 1 + b] = kcn a b 0 from rfl)
  clear f1 f2 f3 f4
  generalize hk0 : kcn a b 0 = k0 at HN2
  have HK0 := Lib.hid hk0
  clear hk0
  have HLE := Lib.hid (show [1 + a, 1 + b].length ≤ 1048576 from (by decide : 2 ≤ 1048576))
  have HL1 := Lib.hid (show SI W2.heap.size (W2.heap.size + 1) ((W2.alloc (.cells #[.int .i64 (1 + a), .int .i64 (1 + b)] 3 (0, 0))).drew) (.slice (some ⟨W2.heap.size, 0, none⟩) 2 2) [1 + a, 1 + b] from (SI.lit2 W2 W2.heap.size (1 + a) (1 + b) (Nat.le_refl _)).keep ((Chg.refl 0 0 _).drew))
  have HQ1 := Lib.hid (show Keep W2 ((W2.alloc (.cells #[.int .i64 (1 + a), .int .i64 (1 + b)] 3 (0, 0))).drew) from (((Chg.refl 0 0 W2).alloc _).drew))
  have HZ1 := Lib.hid (show ((W2.alloc (.cells #[.int .i64 (1 + a), .int .i64 (1 + b)] 3 (0, 0))).drew).heap.size = W2.heap.size + 1 from by show ((W2.alloc (.cells #[.int .i64 (1 + a), .int .i64 (1 + b)] 3 (0, 0)))).heap.size = _; simp only [size_alloc])
  have HL2 := Lib.hid (show SI (W2.heap.size + 1) ((W2.heap.size + 1) + 1) (((W2.alloc (.cells #[.slice none 0 0, .slice none 0 0, .slice none 0 0, .int .i64 0, .slice none 0 0] 47 (0, 0))).alloc (.cells #[.int .i64 (1 + a), .int .i64 (1 + b)] 3 (0, 0))).drew) (.slice (some ⟨(W2.heap.size + 1), 0, none⟩) 2 2) [1 + a, 1 + b] from (by have := (SI.lit2 (W2.alloc (.cells #[.slice none 0 0, .slice none 0 0, .slice none 0 0, .int .i64 0, .slice none 0 0] 47 (0, 0))) (W2.heap.size + 1) (1 + a) (1 + b) (by simp only [size_alloc]; exact Nat.le_refl _)).keep ((Chg.refl 0 0 _).drew); simpa only [size_alloc] using this))
  have HQ2 := Lib.hid (show Keep W2 (((W2.alloc (.cells #[.slice none 0 0, .slice none 0 0, .slice none 0 0, .int .i64 0, .slice none 0 0] 47 (0, 0))).alloc (.cells #[.int .i64 (1 + a), .int .i64 (1 + b)] 3 (0, 0))).drew) from ((((Chg.refl 0 0 W2).alloc _).alloc _).drew))
  have HZ2 := Lib.hid (show (((W2.alloc (.cells #[.slice none 0 0, .slice none 0 0, .slice none 0 0, .int .i64 0, .slice none 0 0] 47 (0, 0))).alloc (.cells #[.int .i64 (1 + a), .int .i64 (1 + b)] 3 (0, 0))).drew).heap.size = W2.heap.size + 2 from by show (((W2.alloc (.cells #[.slice none 0 0, .slice none 0 0, .slice none 0 0, .int .i64 0, .slice none 0 0] 47 (0, 0))).alloc (.cells #[.int .i64 (1 + a), .int .i64 (1 + b)] 3 (0, 0)))).heap.size = _; simp only [size_alloc])
  have HB2 := Lib.hid (show Blk (((W2.alloc (.cells #[.slice none 0 0, .slice none 0 0, .slice none 0 0, .int .i64 0, .slice none 0 0] 47 (0, 0))).alloc (.cells #[.int .i64 (1 + a), .int .i64 (1 + b)] 3 (0, 0))).drew) W2.heap.size 47 #[.slice none 0 0, .slice none 0 0, .slice none 0 0, .int .i64 0, .slice none 0 0] from ((Blk.new W2 47 #[.slice none 0 0, .slice none 0 0, .slice none 0 0, .int .i64 0, .slice none 0 0]).keep (((Chg.refl 0 0 _).alloc _).drew)))
  have HL3 := Lib.hid (show SI W2.heap.size (W2.heap.size + 1) (((W2.alloc (.cells #[.int .i64 (1 + a), .int .i64 (1 + b)] 3 (0, 0))).alloc (.cells #[.slice none 0 0, .slice none 0 0, .slice none 0 0, .int .i64 0, .slice none 0 0] 47 (0, 0))).drew) (.slice (some ⟨W2.heap.size, 0, none⟩) 2 2) [1 + a, 1 + b] from (SI.lit2 W2 W2.heap.size (1 + a) (1 + b) (Nat.le_refl _)).keep (((Chg.refl 0 0 _).alloc (.cells #[.slice none 0 0, .slice none 0 0, .slice none 0 0, .int .i64 0, .slice none 0 0] 47 (0, 0))).drew))
  have HQ3 := Lib.hid (show Keep W2 (((W2.alloc (.cells #[.int .i64 (1 + a), .int .i64 (1 + b)] 3 (0, 0))).alloc (.cells #[.slice none 0 0, .slice none 0 0, .slice none 0 0, .int .i64 0, .slice none 0 0] 47 (0, 0))).drew) from ((((Chg.refl 0 0 W2).alloc _).alloc _).drew))
  have HZ3 := Lib.hid (show (((W2.alloc (.cells #[.int .i64 (1 + a), .int .i64 (1 + b)] 3 (0, 0))).alloc (.cells #[.slice none 0 0, .slice none 0 0, .slice none 0 0, .int .i64 0, .slice none 0 0] 47 (0, 0))).drew).heap.size = W2.heap.size + 2 from by show (((W2.alloc (.cells #[.int .i64 (1 + a), .int .i64 (1 + b)] 3 (0, 0))).alloc (.cells #[.slice none 0 0, .slice none 0 0, .slice none 0 0, .int .i64 0, .slice none 0 0] 47 (0, 0)))).heap.size = _; simp only [size_alloc])
  have HB3 := Lib.hid (show Blk (((W2.alloc (.cells #[.int .i64 (1 + a), .int .i64 (1 + b)] 3 (0, 0))).alloc (.cells #[.slice none 0 0, .slice none 0 0, .slice none 0 0, .int .i64 0, .slice none 0 0] 47 (0, 0))).drew) (W2.heap.size + 1) 47 #[.slice none 0 0, .slice none 0 0, .slice none 0 0, .int .i64 0, .slice none 0 0] from (by have := (Blk.new (W2.alloc (.cells #[.int .i64 (1 + a), .int .i64 (1 + b)] 3 (0, 0))) 47 #[.slice none 0 0, .slice none 0 0, .slice none 0 0, .int .i64 0, .slice none 0 0]).keep ((Chg.refl 0 0 _).drew); rw [size_alloc] at this; exact this))
  have HS := Lib.hid (show ∀ z, Keep W2 z → (z.cell? ⟨g, 0, none⟩ = some (.int .i64 pa) ∧ z.cell? ⟨g, 1, none⟩ = some (.int .i64 pb)) from fun z hz => ⟨(Keep.grown hz none).cell c0 (by simp), (Keep.grown hz none).cell c1 (by simp)⟩)
  go_wp2_with fail
  go_cut [4, 5] from 10 (fun sp sb z => ∃ (A : Nat) (b1 b2 b3 b4 : Option Addr) (d1 d2 d3 d4 lo hi : Nat), sp = .pointer (some ⟨A, 0, none⟩) ∧ sb = .bool true ∧ Blk z A 47 #[.slice b1 k0.ma.fr.cells.length d1, .slice b2 k0.ma.fr.used.length d2, .slice b3 k0.ma.tb.length d3, .int .i64 k0.calls, .slice b4 k0.refuse.length d4] ∧ KE lo hi z (.agg #[.slice b1 k0.ma.fr.cells.length d1, .slice b2 k0.ma.fr.used.length d2, .slice b3 k0.ma.tb.length d3, .int .i64 k0.calls, .slice b4 k0.refuse.length d4]) k0 ∧ hi ≤ z.heap.size ∧ W2.heap.size ≤ A ∧ (A < lo ∨ hi ≤ A) ∧ Keep W2 z)
  case first =>
    set_option maxRecDepth 100000 in
    go_region_held3 (fun z => z.cell? ⟨g, 0, none⟩ = some (.int .i64 pa) ∧ z.cell? ⟨g, 1, none⟩ = some (.int .i64 pb)) (first | with_reducible exact HS.out _ ((Chg.refl 0 0 W2).drew) | with_reducible exact HS.out _ (((Chg.refl 0 0 W2).alloc _).drew) | with_reducible exact HS.out _ ((((Chg.refl 0 0 W2).alloc _).alloc _).drew) | with_reducible exact HS.out _ kr1 | with_reducible exact HS.out _ (kr1.alloc _) | with_reducible exact HS.out _ (((((kr1.set W2.heap.size 0 _ (.inr (Nat.le_refl _))).set W2.heap.size 1 _ (.inr (Nat.le_refl _))).set W2.heap.size 2 _ (.inr (Nat.le_refl _))).set W2.heap.size 3 _ (.inr (Nat.le_refl _))).set W2.heap.size 4 _ (.inr (Nat.le_refl _))) | with_reducible exact HS.out _ (((((kr1.set (W2.heap.size + 1) 0 _ (.inr (Nat.le_succ _))).set (W2.heap.size + 1) 1 _ (.inr (Nat.le_succ _))).set (W2.heap.size + 1) 2 _ (.inr (Nat.le_succ _))).set (W2.heap.size + 1) 3 _ (.inr (Nat.le_succ _))).set (W2.heap.size + 1) 4 _ (.inr (Nat.le_succ _)))) (first | (go_at_call 22; (with_reducible refine (kernelNew_any 2 2 _ _ HL1.out HLE.out).mono ?_); rw [HN1.out, HN2.out]; rintro e Y1 ⟨v4, rfl, h4, kk1⟩; have kr1 : Keep W2 Y1 := HQ1.out.keep kk1; have zk1 := kk1.size; have ez := HZ1.out; rw [ez] at h4 zk1; have EZ1 := Lib.hid ez; clear ez; obtain ⟨b1, d1, b2, d2, b3, d3, b4, d4, rfl, hm4, hr4⟩ := h4.ke.slices; have h4 := KE.mk hm4 hr4; clear hm4 hr4) | (go_at_call 22; (with_reducible refine (kernelNew_any 2 2 _ _ HL2.out HLE.out).mono ?_); rw [HN1.out, HN2.out]; rintro e Y1 ⟨v4, rfl, h4, kk1⟩; have kr1 : Keep W2 Y1 := HQ2.out.keep kk1; have zk1 := kk1.size; have ez := HZ2.out; rw [ez] at h4 zk1; have EZ2 := Lib.hid ez; clear ez; obtain ⟨b1, d1, b2, d2, b3, d3, b4, d4, rfl, hm4, hr4⟩ := h4.ke.slices; have h4 := KE.mk hm4 hr4; clear hm4 hr4; have bN2 := HB2.out.keep kk1; have n0 := bN2.cell 0; have n1 := bN2.cell 1; have n2 := bN2.cell 2; have n3 := bN2.cell 3; have n4 := bN2.cell 4; have fn0 := bN2.frozen 0; have fn1 := bN2.frozen 1; have fn2 := bN2.frozen 2; have fn3 := bN2.frozen 3; have fn4 := bN2.frozen 4; have lN := bN2.lt) | (go_at_call 22; (with_reducible refine (kernelNew_any 2 2 _ _ HL3.out HLE.out).mono ?_); rw [HN1.out, HN2.out]; rintro e Y1 ⟨v4, rfl, h4, kk1⟩; have kr1 : Keep W2 Y1 := HQ3.out.keep kk1; have zk1 := kk1.size; have ez := HZ3.out; rw [ez] at h4 zk1; have EZ3 := Lib.hid ez; clear ez; obtain ⟨b1, d1, b2, d2, b3, d3, b4, d4, rfl, hm4, hr4⟩ := h4.ke.slices; have h4 := KE.mk hm4 hr4; clear hm4 hr4; have bN3 := HB3.out.keep kk1; have n0 := bN3.cell 0; have n1 := bN3.cell 1; have n2 := bN3.cell 2; have n3 := bN3.cell 3; have n4 := bN3.cell 4; have fn0 := bN3.frozen 0; have fn1 := bN3.frozen 1; have fn2 := bN3.frozen 2; have fn3 := bN3.frozen 3; have fn4 := bN3.frozen 4; have lN := bN3.lt))
    all_goals
      go_wp2_with fail
      go_meet
      case rel =>
        first
        | (revert bN3; intro bN3; obtain ⟨kn, hb⟩ := blk_sets5 bN3 (.slice b1 k0.ma.fr.cells.length d1) (.slice b2 k0.ma.fr.used.length d2) (.slice b3 k0.ma.tb.length d3) (.int .i64 k0.calls) (.slice b4 k0.refuse.length d4); exact ⟨(W2.heap.size + 1), b1, b2, b3, b4, d1, d2, d3, d4, W2.heap.size + 2, Y1.heap.size, rfl, rfl, hb, h4.mv ((((((Chg.refl (W2.heap.size + 1) ((W2.heap.size + 1) + 1) Y1).set (W2.heap.size + 1) 0 _ (.inl ⟨Nat.le_refl _, Nat.lt_succ_self _⟩)).set (W2.heap.size + 1) 1 _ (.inl ⟨Nat.le_refl _, Nat.lt_succ_self _⟩)).set (W2.heap.size + 1) 2 _ (.inl ⟨Nat.le_refl _, Nat.lt_succ_self _⟩)).set (W2.heap.size + 1) 3 _ (.inl ⟨Nat.le_refl _, Nat.lt_succ_self _⟩)).set (W2.heap.size + 1) 4 _ (.inl ⟨Nat.le_refl _, Nat.lt_succ_self _⟩)) (by omega), by simp only [size_set]; omega, by omega, by omega, (((((kr1.set (W2.heap.size + 1) 0 _ (.inr (by omega))).set (W2.heap.size + 1) 1 _ (.inr (by omega))).set (W2.heap.size + 1) 2 _ (.inr (by omega))).set (W2.heap.size + 1) 3 _ (.inr (by omega))).set (W2.heap.size + 1) 4 _ (.inr (by omega)))⟩)
        | (revert bN2; intro bN2; obtain ⟨kn, hb⟩ := blk_sets5 bN2 (.slice b1 k0.ma.fr.cells.length d1) (.slice b2 k0.ma.fr.used.length d2) (.slice b3 k0.ma.tb.length d3) (.int .i64 k0.calls) (.slice b4 k0.refuse.length d4); exact ⟨W2.heap.size, b1, b2, b3, b4, d1, d2, d3, d4, W2.heap.size + 2, Y1.heap.size, rfl, rfl, hb, h4.mv ((((((Chg.refl W2.heap.size (W2.heap.size + 1) Y1).set W2.heap.size 0 _ (.inl ⟨Nat.le_refl _, Nat.lt_succ_self _⟩)).set W2.heap.size 1 _ (.inl ⟨Nat.le_refl _, Nat.lt_succ_self _⟩)).set W2.heap.size 2 _ (.inl ⟨Nat.le_refl _, Nat.lt_succ_self _⟩)).set W2.heap.size 3 _ (.inl ⟨Nat.le_refl _, Nat.lt_succ_self _⟩)).set W2.heap.size 4 _ (.inl ⟨Nat.le_refl _, Nat.lt_succ_self _⟩)) (by omega), by simp only [size_set]; omega, by omega, by omega, (((((kr1.set W2.heap.size 0 _ (.inr (by omega))).set W2.heap.size 1 _ (.inr (by omega))).set W2.heap.size 2 _ (.inr (by omega))).set W2.heap.size 3 _ (.inr (by omega))).set W2.heap.size 4 _ (.inr (by omega)))⟩)
        | exact ⟨Y1.heap.size, b1, b2, b3, b4, d1, d2, d3, d4, W2.heap.size + 1, Y1.heap.size, rfl, rfl, Blk.new _ _ _, h4.keep ((Chg.refl 0 0 _).alloc _), by simp only [size_alloc]; omega, by omega, by omega, kr1.alloc _⟩
  obtain ⟨A, x1, x2, x3, x4, y1, y2, y3, y4, lo, hi, rfl, rfl, bA, hA, hhi, hAW, hAd, q3⟩ := hcut
  generalize wc = W3 at *
  have QW := Lib.hid (k2.keep q3)
  have hgA : g < A := by omega
  have c0 := (Keep.grown q3 none).cell c0 (by simp)
  have c1 := (Keep.grown q3 none).cell c1 (by simp)
  have hs0 : sm_Kernel k0 := by have := sm_ok (F3.out 0 (by decide)); rw [HK0.out] at this; exact this
  have hm1 : mapNewOk k0 0 = true := by have := F2.out; rw [HK0.out] at this; exact this
  have hd1 : mapNewD k0 0 = kcn a b 1 := by rw [← HK0.out]; rfl
  have HM := Lib.hid (And.intro hm1 hd1)
  have zA := q3.size
  have BA := Lib.hid bA
  have z0 := bA.cell 0
  have z1 := bA.cell 1
  have z2 := bA.cell 2
  have z3 := bA.cell 3
  have z4 := bA.cell 4
  have lA := bA.lt
  have LA3 := Lib.hid lA
  clear bA q3 hm1 hd1 HS HL1 HL2 HL3 HQ1 HQ2 HQ3 HZ1 HZ2 HZ3 HB2 HB3 HLE hwa hwb hpa hpb
  go_wp2_with fail
  refine (kMapNew_any _ _ _ hA hs0).mono ?_
  rw [HM.out.1, HM.out.2]
  rintro e W4 ⟨v4, rfl, h4, k4⟩
  have hk1s : sm_Kernel (kcn a b 1) := sm_ok (F3.out 1 (by decide))
  obtain ⟨b1, d1, b2, d2, b3, d3, b4, d4, rfl, hm4, hr4⟩ := h4.slices
  have h4 := KE.mk hm4 hr4
  clear hm4 hr4 hA z0 z1 z2 z3 z4
  have z4 := k4.size
  have bA := BA.out.keep k4
  have z0 := bA.cell 0
  have z1 := bA.cell 1
  have z2 := bA.cell 2
  have z3 := bA.cell 3
  have z4' := bA.cell 4
  have w0 := bA.frozen 0
  have w1 := bA.frozen 1
  have w2 := bA.frozen 2
  have w3 := bA.frozen 3
  have w4 := bA.frozen 4
  have lA := bA.lt
  have c0 := (Keep.grown k4 none).cell c0 (by simp)
  have c1 := (Keep.grown k4 none).cell c1 (by simp)
  have H4 := Lib.hid h4
  have K4 := Lib.hid k4
  have BA4 := Lib.hid bA
  clear h4 k4 BA bA hs0
  have lg : g < W4.heap.size := World.block_lt_of_cell? W4 _ c0
  have lA3 : A < W3.heap.size := LA3.out
  have HC0 := Lib.hid c0
  have HIN := Lib.hid (show (A ≤ A ∧ A < A + 1) ∨ W4.heap.size ≤ A from .inl ⟨Nat.le_refl _, Nat.lt_succ_self _⟩)
  have HC1 := Lib.hid c1

  go_wp2_with fail
  go_loopw [7] (fun i wr => ∃ (j : Nat) (b1 b2 b3 b4 : Option Addr) (d1 d2 d3 d4 lo hi : Nat) (cc : Int), 1 ≤ j ∧ j ≤ 8 ∧ i = .int .i64 j ∧ Blk wr A 47 #[.slice b1 (kcn a b j).ma.fr.cells.length d1, .slice b2 (kcn a b j).ma.fr.used.length d2, .slice b3 (kcn a b j).ma.tb.length d3, .int .i64 cc, .slice b4 (kcn a b j).refuse.length d4] ∧ KE lo hi wr (.agg #[.slice b1 (kcn a b j).ma.fr.cells.length d1, .slice b2 (kcn a b j).ma.fr.used.length d2, .slice b3 (kcn a b j).ma.tb.length d3, .int .i64 cc, .slice b4 (kcn a b j).refuse.length d4]) (kcn a b j) ∧ A < lo ∧ hi ≤ wr.heap.size ∧ Chg A (A + 1) W4 wr) (fun i _ => 8 - (intOf i).toNat)
  case atStart => exact ⟨1, b1, b2, b3, b4, d1, d2, d3, d4, W3.heap.size, W4.heap.size, (kcn a b 1).calls, Nat.le_refl _, by decide, rfl, (blk_sets5 BA4.out _ _ _ _ _).2, H4.out.mv ((((((Chg.refl A (A + 1) W4).set A 0 _ HIN.out).set A 1 _ HIN.out).set A 2 _ HIN.out).set A 3 _ HIN.out).set A 4 _ HIN.out) (by omega), lA3, by simp only [size_set]; omega, ((((((Chg.refl A (A + 1) W4).set A 0 _ HIN.out).set A 1 _ HIN.out).set A 2 _ HIN.out).set A 3 _ HIN.out).set A 4 _ HIN.out)⟩
  case round =>
    obtain ⟨j, b1, b2, b3, b4, d1, d2, d3, d4, lo, hi, cc, j1, j8, rfl, bA, hK, hAlo, hhr, hch⟩ := hrel
    have c0 := chg_cell hch HC0.out (by omega)
    have c1 := chg_cell hch HC1.out (by omega)
    have zc := hch.size
    have HCH := Lib.hid hch
    have hsm : sm_Kernel (kcn a b j) := sm_ok (F3.out j (by omega))
    have BA := Lib.hid bA
    have HKj := Lib.hid hK
    have o0 := bA.cell 0
    have o1 := bA.cell 1
    have o2 := bA.cell 2
    have o3 := bA.cell 3
    have o4 := bA.cell 4
    have lA := bA.lt
    clear hch
    by_cases hlt : j < 8
    · obtain ⟨f5, f6⟩ := F4.out j j1 hlt
      have hnx : protD (kcn a b j) 0 (1 + (j : Int) % 2) = kcn a b (j + 1) := by
        obtain ⟨m, rfl⟩ : ∃ m, j = m + 1 := ⟨j - 1, by omega⟩
        rfl
      have HNX := Lib.hid hnx
      have HCA := Lib.hid f6
      have HPO := Lib.hid f5
      clear hnx f5 f6 bA hK
      cases hA : ((j : Int) == 1 + a)
      all_goals cases hB : ((j : Int) == 1 + b)
      all_goals
        have hpo := HPO.out
        rw [hA, hB] at hpo
        simp only [Bool.or_true, Bool.true_or, Bool.or_false, Bool.or_self, Bool.not_true, Bool.not_false] at hpo
        have HPB := Lib.hid hpo
        clear hpo
        go_wp2_with (go_at_call 32; refine (kProtect_any _ _ _ _ HKj.out hsm).mono ?_; rw [HPB.out, HNX.out]; rintro e w5 ⟨v5, rfl, h5, k5⟩; obtain ⟨p1, q1, p2, q2, p3, q3, p4, q4, e5, hm5, hr5⟩ := h5.slices; rw [HCA.out] at e5; subst e5; have h5 := KE.mk hm5 hr5; rw [HCA.out] at h5; have H5 := Lib.hid h5; have z5 := k5.size; have bA := BA.out.keep k5; have t0 := bA.cell 0; have t1 := bA.cell 1; have t2 := bA.cell 2; have t3 := bA.cell 3; have t4 := bA.cell 4; have w0 := bA.frozen 0; have w1 := bA.frozen 1; have w2 := bA.frozen 2; have w3 := bA.frozen 3; have w4 := bA.frozen 4; have lA5 := bA.lt; have c0 := (Keep.grown k5 none).cell c0 (by simp); have c1 := (Keep.grown k5 none).cell c1 (by simp); have lg5 := World.block_lt_of_cell? w5 _ c0; have BA5 := Lib.hid bA; have K5 := Lib.hid k5; clear bA h5 hm5 hr5)
        go_roundw
        case rel => exact ⟨j + 1, p1, p2, p3, p4, q1, q2, q3, q4, wr.heap.size, w5.heap.size, (j : Int) + 1, by omega, by omega, by go_num, ((blk_sets5 BA5.out _ _ _ _ _).2).keep ((Chg.refl 0 0 _).alloc _), (H5.out.mv ((((((Chg.refl A (A + 1) w5).set A 0 _ (.inl ⟨Nat.le_refl _, Nat.lt_succ_self _⟩)).set A 1 _ (.inl ⟨Nat.le_refl _, Nat.lt_succ_self _⟩)).set A 2 _ (.inl ⟨Nat.le_refl _, Nat.lt_succ_self _⟩)).set A 3 _ (.inl ⟨Nat.le_refl _, Nat.lt_succ_self _⟩)).set A 4 _ (.inl ⟨Nat.le_refl _, Nat.lt_succ_self _⟩)) (by omega)).keep ((Chg.refl 0 0 _).alloc _), lA, by simp only [size_alloc, size_set]; omega, (((((((HCH.out.keep K5.out).set A 0 _ HIN.out).set A 1 _ HIN.out).set A 2 _ HIN.out).set A 3 _ HIN.out).set A 4 _ HIN.out)).alloc _⟩
        case measure => simp [intOf]; omega
    · obtain rfl : j = 8 := by omega
      have hok := F3.out 8 (by decide)
      clear bA hK
      go_wp2_with (go_at_call 33; refine (kernelOk_any _ _ HKj.out hsm).mono ?_; rw [hok]; rintro e w5 ⟨rfl, k5⟩)
      go_ret
      exact ⟨rfl, Chg.below (((QW.out.keep K4.out).comp HCH.out (.inl (by omega))).keep k5) (Nat.le_refl _) (.inr (Nat.le_refl _))⟩

theorem own : ownKnob Try.prog.godebug = none := by kernel_rfl
theorem laidOut : laidOutB Try.prog = true := by kernel_rfl
set_option maxRecDepth 100000 in
theorem lifted (os : Os) (started : os.Started) (H : Type) (enc : TypeId × Value → H) :
    ReturnsInHanded {} Try.checked os 6 .any (Rows.fnCallNumbersSpec.pre6 enc Try.prog Try.f6 Rows.fnCallNumbersRow.domain false) (Rows.fnCallNumbersSpec.post enc Try.prog Try.f6 false true false false) := by
  refine returnsInHanded_of_change (C := Try.checked) own started (by kernel_rfl) Try.func6
    (ChangeSpec.witness6 (enc := enc) (C := Try.checked) false ⟨#[], #[.slice none 0 0], []⟩ 8 (by kernel_rfl) (by kernel_rfl) (by kernel_rfl) (by kernel_rfl)) ?_
  intro W base args ds gs before hval0 hW hcnd _
  have hval : ∀ (j : Nat) t v, Try.f6.params[j]? = some t → args[j]? = some v → Value.okWide Try.prog W .any base t v := hval0
  have hW' := hW
  obtain ⟨p, q, hA0, hV, rfl, hfz, hnd⟩ := hW
  have hA : DataW.TrodAll enc Try.prog W 0 (fun _ => true) true Try.f6.params.toList args.toList ds p := hA0
  rw [Try.params6] at hA hval
  obtain ⟨v0, vs0, d0, ds0, p0, q0, hargs, rfl, rfl, h0, r0⟩ := trodAll_cons hA
  obtain ⟨rfl, rfl, rfl⟩ := trodAll_nil r0
  obtain rfl : args = #[v0] := by cases args; simp_all
  obtain ⟨rfl, rfl⟩ := trodVars_none hV
  have k0 := h0
  have lt0 : ∀ x ∈ p0, x.block < W.heap.size := by obtain ⟨m, hm⟩ := k0; exact DataW.trod_lt m _ _ _ hm
  obtain ⟨a0, len0, cap0, rfl⟩ := okWide_slice Try.underlying57 (hval 0 57 v0 rfl rfl)
  have w0 : Code W.heap.size W a0 len0 := open_code h0
  clear hA0 hval0
  refine (walk a0 len0 cap0 W w0).mono fun e W' ⟨he, bel⟩ => ?_
  subst he
  exact ⟨_, rfl, _, _, _, [], _, [], hW', trodAll_mk1 (shut_bool Try.underlying4 _), (trodAll_cons_mk (Below.trod laidOut (by kernel_rfl) (of_decide_eq_true (by kernel_rfl)) k0 bel lt0) trodAll_mk0), rfl, bel.frame _, fun h => by cases h⟩

theorem over : Rows.fnCallNumbersRow.holds Try.pinned (OpenSpec.ofChange Rows.fnCallNumbersSpec) :=
  OpenClaim.holds_of_wide 6 Try.f6 rfl rfl rfl rfl rfl rfl rfl ⟨rfl, rfl, rfl, rfl, rfl⟩ rfl rfl rfl rfl rfl (by kernel_rfl) Try.func6 (by kernel_rfl)
    (of_decide_eq_true (by kernel_rfl)) (by unfold Func.isWrapper; first | (rw [if_pos (by decide +kernel)]; kernel_rfl) | (rw [if_neg (by decide +kernel)]; exact ⟨rfl, rfl⟩))
    (fun os started H enc _ => lifted os started H enc)

/-- The statement. -/
theorem proved : Rows.FnCallNumbersSaid := over
#print axioms proved
end Go.Proofs.Ytkcoehkfhffjkaa.fnCallNumbers
