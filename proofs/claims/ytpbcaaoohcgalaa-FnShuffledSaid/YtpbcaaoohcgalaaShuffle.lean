/- Shuffled: the program's function and the reference's. -/
import Derived.Test.YtpbcaaoohcgalaaSlots
import Derived.RegionTactic
import Derived.BigRegion
namespace Go.Proofs.Ytpbcaaoohcgalaa
open Go.ChangeShapes Go.WideShapes Go.ChangeAt Go.RowKit
set_option linter.unusedSimpArgs false
set_option linter.unusedVariables false

def swapL (l : List Int) (i k : Nat) : List Int := (l.set i (l.getD k 0)).set k (l.getD i 0)
/-- The list and the seed behind the rounds i, i - 1, .. 1. -/
def shufL : Nat → Int → List Int → List Int
  | 0, _, l => l
  | i + 1, s, l => shufL i (chooseS s (i + 2)) (swapL l (i + 1) (chooseZ s (i + 2)).toNat)
def shufS : Nat → Int → Int
  | 0, s => s
  | i + 1, s => shufS i (chooseS s (i + 2))
def upTo (n : Nat) : List Int := (List.range n).map fun j : Nat => (j : Int)
theorem upTo_succ (n : Nat) : upTo (n + 1) = upTo n ++ [(n : Int)] := by simp [upTo, List.range_succ]
theorem upTo_len (n : Nat) : (upTo n).length = n := by simp [upTo]
def shufOk (s n : Int) : Bool := btw s 0 1073741823 && btw n 0 64
def shufD (s n : Int) : List Int := if shufOk s n then shufL (n.toNat - 1) s (upTo n.toNat) else []
def shufE (s n : Int) : Int := if shufOk s n then shufS (n.toNat - 1) s else s
theorem swap_len (l : List Int) (i k : Nat) : (swapL l i k).length = l.length := by simp [swapL]
theorem shufL_len (i : Nat) (s : Int) (l : List Int) : (shufL i s l).length = l.length := by
  induction i generalizing s l with
  | zero => rfl
  | succ i ih => rw [shufL, ih, swap_len]
theorem shufD_len (s n : Int) : (shufD s n).length ≤ 64 := by
  unfold shufD
  split
  · rename_i h
    unfold shufOk at h
    simp only [Bool.and_eq_true, btw_iff] at h
    rw [shufL_len, upTo_len]; omega
  · simp
theorem choose_in {s : Int} {i : Nat} (h0 : 0 ≤ s) (h1 : s ≤ 1073741823) (hi : i ≤ 64) : 0 ≤ chooseZ s (i + 2) ∧ chooseZ s (i + 2) < i + 2 ∧ 0 ≤ chooseS s (i + 2) ∧ chooseS s (i + 2) ≤ 1073741823 := by
  have e1 : chooseZ s (i + 2) = nextZ s / 1024 % (i + 2) := by unfold chooseZ; rw [btw_true (by omega) (by omega), btw_true (by omega) (by omega)]; rfl
  have e2 : chooseS s (i + 2) = nextZ s := by unfold chooseS; rw [btw_true (by omega) (by omega), btw_true (by omega) (by omega)]; rfl
  have hb := nextZ_bd s
  rw [e1, e2]
  exact ⟨Int.emod_nonneg _ (by omega), Int.emod_lt_of_pos _ (by omega), by omega, by omega⟩
/-- What the rounds that are left will make. -/
def ShInv (s n z sd : Int) (l : List Int) : Prop := shufL z.toNat sd l = shufD s n ∧ shufS z.toNat sd = shufE s n ∧ l.length = n.toNat
theorem ShInv.step {s n sd : Int} {j k : Nat} {l : List Int} (h : ShInv s n (j + 1) sd l) (hk : chooseZ sd (j + 2) = k) : ShInv s n j (chooseS sd (j + 2)) ((l.set (j + 1) (l.getD k 0)).set k (l.getD (j + 1) 0)) := by
  obtain ⟨h1, h2, h3⟩ := h
  have e : ((j : Int) + 1).toNat = j + 1 := by omega
  rw [e] at h1 h2
  refine ⟨?_, ?_, by simpa using h3⟩
  · rw [← h1, Int.toNat_natCast]
    show _ = shufL j (chooseS sd (j + 2)) (swapL l (j + 1) (chooseZ sd (j + 2)).toNat)
    rw [hk, Int.toNat_natCast]; rfl
  · rw [← h2, Int.toNat_natCast]; rfl
theorem choose_at {sd : Int} {j k : Nat} (x : Int) (hx : x = j + 2) (hk : chooseZ sd (j + 2) = k) (w : World) :
    Calls Try.prog 18 #[.int .i64 sd, .int .i64 x] w fun e w' => e = .returned (.tuple #[.int .i64 (k : Int), .int .i64 (chooseS sd (j + 2))]) ∧ w = w' := by
  subst hx
  refine (choose_any _ _ _).mono ?_
  rw [hk]
  exact fun _ _ h => h
theorem shuffled_any (s n : Int) (w : World) :
    Calls Try.prog 41 #[.int .i64 s, .int .i64 n] w fun e w' => ∃ v, e = .returned (.tuple #[v, .int .i64 (shufE s n)]) ∧ SI w.heap.size w'.heap.size w' v (shufD s n) ∧ Keep w w' := by
  cases h : shufOk s n
  · have HE := Lib.hid (show shufD s n = [] by simp [shufD, h])
    have HS := Lib.hid (show shufE s n = s by simp [shufE, h])
    unfold shufOk at h
    cases h1 : btw s 0 1073741823
    · go_enter Try.func41, Try.ntmps41
      go_wp2_with (first | (go_at_call 46; refine (seedOk_any _ _).mono ?_; rintro e w' ⟨rfl, rfl⟩) | (go_at_call 47; refine (between_any _ _ _ _).mono ?_; rintro e w' ⟨rfl, rfl⟩))
      go_ret2
      exact ⟨_, by rw [HS.out]; rfl, by rw [HE.out]; exact SI.nil _ _ _, Chg.refl _ _ _⟩
    · rw [h1] at h
      have h2 : btw n 0 64 = false := by simpa using h
      go_enter Try.func41, Try.ntmps41
      go_wp2_with (first | (go_at_call 46; refine (seedOk_any _ _).mono ?_; rintro e w' ⟨rfl, rfl⟩) | (go_at_call 47; refine (between_any _ _ _ _).mono ?_; rintro e w' ⟨rfl, rfl⟩))
      go_ret2
      exact ⟨_, by rw [HS.out]; rfl, by rw [HE.out]; exact SI.nil _ _ _, Chg.refl _ _ _⟩
  · have HE := Lib.hid (show shufD s n = shufL (n.toNat - 1) s (upTo n.toNat) by simp [shufD, h])
    have HS := Lib.hid (show shufE s n = shufS (n.toNat - 1) s by simp [shufE, h])
    unfold shufOk at h
    simp only [Bool.and_eq_true] at h
    obtain ⟨h1, h2⟩ := h
    have hs := btw_iff.1 h1
    have hn := btw_iff.1 h2
    go_enter Try.func41, Try.ntmps41
    go_wp2_with (first | (go_at_call 46; refine (seedOk_any _ _).mono ?_; rintro e w' ⟨rfl, rfl⟩) | (go_at_call 47; refine (between_any _ _ _ _).mono ?_; rintro e w' ⟨rfl, rfl⟩))
    go_loopw [6, 7] (fun v i wr => ∃ k : Nat, (k : Int) ≤ n ∧ i = .int .i64 k ∧ SI w.heap.size wr.heap.size wr v (upTo k) ∧ Keep w wr) (fun _ i _ => (n - intOf i).toNat)
    case atStart => exact ⟨0, by omega, rfl, by simpa [upTo] using SI.empty w w.heap.size (Nat.le_refl _), (Chg.refl _ _ _).alloc _⟩
    case round =>
      obtain ⟨k, hk, rfl, hown, hg⟩ := hrel
      have hlen : (upTo k).length ≤ k := by rw [upTo_len]; omega
      have hss := hg.size
      by_cases hlt : (k : Int) < n
      · go_wp2_with (at_builtin; refine app_rw rfl _ _ _ rfl _ _ _ _ _ Try.underlying35 Try.infoInt rfl _ _ _ (.int .i64 k) hown rfl rfl rfl (by decide) (by omega) hss ?_; intro v' w3 hown3 hg3 _)
        go_roundw
        case rel => exact ⟨k + 1, by omega, by go_num, by rw [upTo_succ]; exact SI.app hown3, hg.comp hg3 (.inl (Nat.le_refl _))⟩
        case measure => simp [intOf]; omega
      · obtain rfl : n.toNat = k := by omega
        obtain ⟨wo, rfl⟩ : ∃ wo : World, wo = wr := ⟨_, rfl⟩
        have HI := Lib.hid (show ShInv s n (n - 1) s (upTo n.toNat) from ⟨by rw [HE.out]; congr 1; omega, by rw [HS.out]; congr 1; omega, upTo_len _⟩)
        obtain ⟨ao, c, e, hc, _⟩ := hown.opened
        rw [upTo_len] at e hc
        subst e
        clear hlen
        go_wp2_with fail
        go_loopw [0, 8] (fun a i wr => ∃ (z sd : Int) (l : List Int), i = .int .i64 z ∧ a = .int .i64 sd ∧ -1 ≤ z ∧ z ≤ n - 1 ∧ 0 ≤ sd ∧ sd ≤ 1073741823 ∧ ShInv s n z sd l ∧ SI w.heap.size wo.heap.size wr (.slice ao n.toNat c) l ∧ wo.heap.size ≤ wr.heap.size ∧ Keep w wr) (fun _ i _ => (intOf i).toNat)
        case atStart => exact ⟨_, _, _, rfl, rfl, by omega, by omega, by omega, by omega, HI.out, hown, Nat.le_refl _, hg⟩
        case round =>
          obtain ⟨z, sd, l, rfl, rfl, hz0, hz1, hs0, hs1, hinv, hown2, hsz, hg2⟩ := hrel
          clear hown hg HI
          by_cases hz : 0 < z
          · obtain ⟨j, rfl⟩ : ∃ j : Nat, z = j + 1 := ⟨z.toNat - 1, by omega⟩
            obtain ⟨hk0, hk1, hd0, hd1⟩ := choose_in (s := sd) (i := j) hs0 hs1 (by omega)
            obtain ⟨k, hkz⟩ : ∃ k : Nat, chooseZ sd (j + 2) = k := ⟨(chooseZ sd (j + 2)).toNat, by omega⟩
            have HK := Lib.hid hkz
            have hkn : (k : Int) < j + 2 := by omega
            have hll := hinv.2.2
            obtain ⟨ao', c', e, hc', hf⟩ := hown2.opened
            rw [hll] at e hc' hf
            obtain ⟨rfl, rfl⟩ : ao = ao' ∧ c = c' := by simpa using e
            obtain ⟨g, rfl, hg0, hg1, hgs, c1, f1⟩ := hf (j + 1) (by omega)
            obtain ⟨g', e', _, _, _, c2, f2⟩ := hf k (by omega)
            simp only [Option.some.injEq, Addr.mk.injEq, and_true] at e'
            subst e'
            clear e hf hkz hk0 hk1
            have HV := Lib.hid hinv
            have HO := Lib.hid hown2
            have HL := Lib.hid hll
            clear hinv hown2 hll
            have i1 : (k : Int) < (n.toNat : Int) := by omega
            have i2 : (j : Int) + 1 < (n.toNat : Int) := by omega
            have i3 : ((j : Int) + 1).toNat = j + 1 := by omega
            have i4 : 0 ≤ (j : Int) + 1 := by omega
            generalize hx : l.getD (j + 1) 0 = x at c1
            generalize hy : l.getD k 0 = y at c2
            have HX := Lib.hid hx
            have HY := Lib.hid hy
            clear hx hy
            obtain ⟨v', hy'⟩ := cell?_setCell_some (w := wr) (p := ⟨g, j + 1, none⟩) (x := .int .i64 y) (q := ⟨g, k, none⟩) c2
            go_wp2_with (go_at_call 18; refine (choose_at _ (by omega) HK.out _).mono ?_; rintro e w' ⟨rfl, rfl⟩)
            go_region
            go_wp2_with fail
            go_roundw
            case rel =>
              refine ⟨j, chooseS sd (j + 2), (l.set (j + 1) (l.getD k 0)).set k (l.getD (j + 1) 0), by go_num, rfl, by omega, by omega, hd0, hd1, HV.out.step HK.out, ?_, by simpa using hsz, ?_⟩
              · rw [HX.out, HY.out]; exact (HO.out.store HL.out.symm (j + 1) y).store (by simp [HL.out]) k x
              · exact ((hg2.set g (j + 1) _ (.inr hg0)).set g k _ (.inr hg0)).drew
            case measure => simp [intOf]; try omega
          · go_wp2_with fail
            go_ret2
            obtain ⟨h1, h2, h3⟩ := hinv
            rw [show z.toNat = 0 by omega] at h1 h2
            exact ⟨_, by rw [← h2]; rfl, by rw [← h1]; exact hown2.wide (Nat.le_refl _) hsz, hg2⟩
end Go.Proofs.Ytpbcaaoohcgalaa
