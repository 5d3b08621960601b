/- Rows of texts: the laws' own functions on them (equal, mark, held). -/
import Derived.Test.YtpbcaaoohcgalabSplit
import Derived.Test.YtpbcaaoohcgalabNums
import Derived.Deep.RegionHeld3
namespace Go.Proofs.Ytpbcaaoohcgalab
open Go.ChangeShapes Go.WideShapes Go.ChangeAt Go.RowKit
set_option linter.unusedSimpArgs false
set_option linter.unusedVariables false
set_option maxRecDepth 100000
open Go.Lib (decDigits itoa nDigits decDigits_length)

/-- The text that the laws lay at number k. -/
def mtD (k : Nat) : ByteArray := ⟨(109 :: decDigits k).toArray⟩
def marksS (k0 n : Nat) : List ByteArray := (List.range n).map fun j => mtD (k0 + j)
theorem marksS_len (k0 n : Nat) : (marksS k0 n).length = n := by simp [marksS]
theorem marksS_get {k0 n k : Nat} (h : k < n) : (marksS k0 n).getD k .empty = mtD (k0 + k) := by simp [marksS, List.getD, h]
theorem marksS_set (k0 : Nat) (zs : List ByteArray) (k : Nat) (hk : k < zs.length) : (marksS k0 k ++ zs.drop k).set k (mtD (k0 + k)) = marksS k0 (k + 1) ++ zs.drop (k + 1) := by
  rw [List.drop_eq_getElem_cons hk, set_at _ _ _ _ _ (marksS_len k0 k).symm]
  simp [marksS, List.range_succ]
theorem markText_any (k : Nat) (w : World) (h0 : 0 < k) (h1 : k ≤ 1000000000) :
    Calls Try.prog 27 #[.int .i64 (k : Int)] w fun e w' => e = .returned (.string (mtD k)) ∧ Keep w w' := by
  have hlen := dec_len k (by omega)
  have hk0 : ¬ (k : Int) ≤ 0 := by omega
  go_enter Try.func27, Try.ntmps27
  go_wp2_with fail
  go_loopw [0, 3] (fun a s wr => ∃ (m : Nat) (l : List UInt8), a = .int .i64 m ∧ s = .string ⟨l.toArray⟩ ∧ m ≤ k ∧ Tail k m l ∧ Keep w wr) (fun a _ _ => (intOf a).toNat)
  case atStart => exact ⟨k, [], rfl, rfl, Nat.le_refl _, Tail.start _ (by omega), Chg.refl _ _ _⟩
  case round =>
    obtain ⟨m, l, rfl, rfl, hm, ht, hg⟩ := hrel
    have hl : (l.length : Int) ≤ 8388608 := by have := ht.len; omega
    by_cases hz : m = 0
    · subst hz
      have hadd := fun wx => run_string_add_lists (P := Try.prog) (w := wx) [109] l (by decide) hl
      go_wp2_with fail
      go_ret
      exact ⟨by unfold mtD; rw [← ht.1 rfl]; rfl, hg⟩
    · have e1 : (0 : Int) < m := by omega
      have hd : (m : Int).tmod 10 = (m : Int) % 10 := Int.tmod_eq_emod_of_nonneg (by omega)
      have hfz : ((fig (m % 10)).toNat : Int) = 48 + (m : Int) % 10 := by
        have : ∀ d : Fin 10, ((fig d.1).toNat : Int) = 48 + ((d.1 : Nat) : Int) := by decide
        have h := this ⟨m % 10, by omega⟩
        simpa using h
      have hst := SU.string (SU.lit1 wr (fig (m % 10)))
      rw [hfz] at hst
      have hadd := fun wx => run_string_add_lists (P := Try.prog) (w := wx) [fig (m % 10)] l (by simp) hl
      clear hfz
      go_wp2_with fail
      go_roundw
      case rel =>
        exact ⟨m / 10, fig (m % 10) :: l, by go_num, rfl, by omega, ht.step hz, hg.alloc _⟩
      case measure => simp [intOf]; omega
theorem eqStringS_same {l1 h1 l2 h2 : Nat} {zs : List ByteArray} (v u : Value) (w : World) (f : SSt l1 h1 w v zs) (g : SSt l2 h2 w u zs) (hlen : zs.length ≤ 1000000000) :
    Calls Try.prog 9 #[v, u] w fun e w' => e = .returned (.bool true) ∧ Keep w w' := by
  obtain ⟨ao, c, rfl, hc, f1⟩ := f.opened
  obtain ⟨bo, d, rfl, hd, f2⟩ := g.opened
  clear f g
  go_enter Try.func9, Try.ntmps9
  go_wp2_with fail
  go_loopw [5] (fun i wr => ∃ k : Nat, k ≤ zs.length ∧ i = .int .i64 k ∧ Keep w wr) (fun i _ => zs.length - (intOf i).toNat)
  case atStart => exact ⟨0, Nat.zero_le _, rfl, Chg.refl _ _ _⟩
  case round =>
    obtain ⟨k, hk, rfl, hg⟩ := hrel
    by_cases hlt : k < zs.length
    · obtain ⟨g, rfl, _, _, _, hc1, _⟩ := f1 k hlt
      obtain ⟨g', rfl, _, _, _, hc2, _⟩ := f2 k hlt
      have hx1 := (hg.grown none).cell hc1 (by simp)
      have hx2 := (hg.grown none).cell hc2 (by simp)
      clear hc1 hc2 f1 f2
      generalize zs.getD k .empty = z at hx1 hx2
      go_wp2_with fail
      go_quiet (fail)
      go_wp2_with fail
      go_roundw
      case rel => exact ⟨k + 1, by omega, by go_num, hg.drewN _⟩
      case measure => simp [intOf]; omega
    · clear f1 f2
      go_wp2_with fail
      go_ret
      exact ⟨rfl, hg⟩
theorem markStringS_any {lo hi : Nat} {zs : List ByteArray} (v : Value) (k0 : Nat) (w : World) (h1 : SSt lo hi w v zs) (hlen : zs.length ≤ 1000000) (hk0 : 0 < k0) (hk1 : k0 ≤ 1000000) :
    Calls Try.prog 10 #[v, .int .i64 (k0 : Int)] w fun e w' => e = .returned (.int .i64 ((k0 + zs.length : Nat) : Int)) ∧ SSt lo hi w' v (marksS k0 zs.length) ∧ Chg lo hi w w' := by
  obtain ⟨ao, c, rfl, hc, f1⟩ := h1.opened
  clear f1
  go_enter Try.func10, Try.ntmps10
  go_wp2_with fail
  go_loopw [1, 5] (fun m i wr => ∃ k : Nat, k ≤ zs.length ∧ i = .int .i64 k ∧ m = .int .i64 ((k0 + k : Nat) : Int) ∧ SSt lo hi wr (.slice ao zs.length c) (marksS k0 k ++ zs.drop k) ∧ Chg lo hi w wr) (fun _ i _ => zs.length - (intOf i).toNat)
  case atStart => exact ⟨0, Nat.zero_le _, rfl, by simp, by simpa [marksS] using h1, Chg.refl _ _ _⟩
  case round =>
    obtain ⟨k, hk, rfl, rfl, hown, hg⟩ := hrel
    have hl : (marksS k0 k ++ zs.drop k).length = zs.length := by simp [marksS]; omega
    have HL := Lib.hid hl
    clear hl h1
    by_cases hlt : k < zs.length
    · go_wp2_with fail
      have hmt := markText_any (k0 + k) wr (by omega) (by omega)
      rw [show ((k0 + k : Nat) : Int) = (k0 : Int) + k by omega] at hmt
      refine hmt.mono ?_
      rintro e w2 ⟨rfl, k2⟩
      have hown2 := hown.keep k2
      obtain ⟨ao', c', e, hc', f1⟩ := hown2.opened
      rw [HL.out] at e hc' f1
      obtain ⟨rfl, rfl⟩ : ao = ao' ∧ c = c' := by simpa using e
      obtain ⟨g, rfl, hbg, hbh, hbs, hc1, hfr⟩ := f1 k hlt
      have HO := Lib.hid hown2
      have HG := Lib.hid (hg.keep k2)
      clear e f1 hown hown2 hg hmt k2
      go_wp2_with fail
      go_roundw
      case rel =>
        refine ⟨k + 1, by omega, by go_num, by go_num, ?_, HG.out.set g _ _ (.inl ⟨hbg, hbh⟩)⟩
        rw [← marksS_set k0 zs k hlt]; exact HO.out.store HL.out.symm _ _
      case measure => simp [intOf]; omega
    · obtain rfl : k = zs.length := by omega
      go_wp2_with fail
      go_ret
      exact ⟨rfl, by simpa using hown, hg⟩
theorem heldStringS_any {lo hi : Nat} {n : Nat} (v : Value) (k0 : Nat) (w : World) (h1 : SSt lo hi w v (marksS k0 n)) (hlen : n ≤ 1000000) (hk0 : 0 < k0) (hk1 : k0 ≤ 1000000) :
    Calls Try.prog 11 #[v, .int .i64 (k0 : Int)] w fun e w' => e = .returned (.int .i64 ((k0 + n : Nat) : Int)) ∧ Keep w w' := by
  obtain ⟨ao, c, rfl, hc, f1⟩ := h1.opened
  rw [marksS_len] at *
  clear h1
  go_enter Try.func11, Try.ntmps11
  go_wp2_with fail
  go_loopw [1, 5] (fun m i wr => ∃ k : Nat, k ≤ n ∧ i = .int .i64 k ∧ m = .int .i64 ((k0 + k : Nat) : Int) ∧ Keep w wr) (fun _ i _ => n - (intOf i).toNat)
  case atStart => exact ⟨0, Nat.zero_le _, rfl, by simp, Chg.refl _ _ _⟩
  case round =>
    obtain ⟨k, hk, rfl, rfl, hg⟩ := hrel
    by_cases hlt : k < n
    · obtain ⟨g, rfl, _, _, _, hc1, _⟩ := f1 k hlt
      rw [marksS_get hlt] at hc1
      have hx1 := (hg.grown none).cell hc1 (by simp)
      clear hc1 f1
      have hmt := markText_any (k0 + k) wr.drew (by omega) (by omega)
      rw [show ((k0 + k : Nat) : Int) = (k0 : Int) + k by omega] at hmt
      have HM := Lib.hid hmt
      have HS := Lib.hid (show ∀ z, Keep wr z → z.cell? ⟨g, k, none⟩ = some (.string (mtD (k0 + k))) from fun z hz => (Keep.grown hz none).cell hx1 (by simp))
      clear hmt
      generalize mtD (k0 + k) = y at *
      go_wp2_with fail
      go_region_held3 (fun z => z.cell? ⟨g, k, none⟩ = some (.string y)) (first | exact HS.out _ ((Chg.refl 0 0 wr).drew) | exact HS.out _ kr1) (first | (go_at_call 27; refine HM.out.mono ?_; rintro e Y1 ⟨rfl, kk1⟩; have kr1 : Keep wr Y1 := Chg.keep ((Chg.refl 0 0 wr).drew) kk1))
      all_goals
        go_wp2_with fail
        go_roundw
        case rel => exact ⟨k + 1, by omega, by go_num, by go_num, hg.keep kr1⟩
        case measure => simp [intOf]; omega
    · obtain rfl : k = n := by omega
      clear f1
      go_wp2_with fail
      go_ret
      exact ⟨rfl, hg⟩
end Go.Proofs.Ytpbcaaoohcgalab
