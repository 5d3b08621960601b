/- Drawn texts: l01Long, l01Text, DrawEncodeHex of the reference. (For the seat of the cards.) -/
import Derived.Test.YtpbcaaoohcgalabDoorHex
import Derived.Test.YtpbcaaoohcgalabDoorDraw2
namespace Go.Proofs.YtpbcaaoohcgalabDoor
open Go.ChangeShapes Go.WideShapes Go.ChangeAt Go.RowKit
set_option linter.unusedSimpArgs false
set_option linter.unusedVariables false

theorem SU.made {lo hi : Nat} {w : World} {v : Value} {n : Nat} (h : Rw 5 1 lo hi w v n (madeCells (Value.int .u8 0).cells (n * 1)).toList) : SU lo hi w v (List.replicate n 0) := by
  unfold SU
  rw [Nat.mul_one, show (Value.int .u8 0).cells = #[Value.int .u8 0] from rfl, toList_madeCells_one] at h
  simpa [byteV] using h
theorem SU.opened {lo hi : Nat} {w : World} {v : Value} {l : List UInt8} (h : SU lo hi w v l) :
    ∃ ao cap, v = .slice ao l.length cap ∧ l.length ≤ cap ∧ ∀ j, j < l.length → ∃ g z, ao = some ⟨g, 0, none⟩ ∧ lo ≤ g ∧ g < hi ∧ g < w.heap.size ∧ w.cell? ⟨g, j, none⟩ = some (.int .u8 z) ∧ w.frozen? ⟨g, j, none⟩ = false := by
  obtain ⟨ao, cap, e, hc, hf⟩ := Rw.opened h
  refine ⟨ao, cap, e, hc, fun j hj => ?_⟩
  obtain ⟨g, u, e1, h1, h2, h3, hx, hcell, hfr⟩ := hf j (by omega)
  refine ⟨g, ((l[j]'hj).toNat : Int), e1, h1, h2, h3, ?_, hfr⟩
  rw [hcell, ← hx]
  simp [byteV, List.getElem?_eq_getElem hj]
theorem SU.store {lo hi : Nat} {w : World} {g n cap : Nat} {l : List UInt8} (h : SU lo hi w (.slice (some ⟨g, 0, none⟩) n cap) l) (hn : n = l.length) (j : Nat) (y : UInt8) : SU lo hi (w.setCell ⟨g, j, none⟩ (byteV y)) (.slice (some ⟨g, 0, none⟩) n cap) (l.set j y) := by
  subst hn
  have := Rw.store h j (byteV y)
  unfold SU
  simpa [List.map_set] using this
theorem l01Long_any (n : Nat) (X : Int) (x : UInt8) (hX : byteV x = .int .u8 X) (w : World) (hn : n ≤ 1000000) :
    Calls Tryd.prog 25 #[.int .i64 (n : Int), .int .u8 X] w fun e w' => ∃ s : ByteArray, e = .returned (.string s) ∧ s.size = n ∧ Keep w w' := by
  have HX := Lib.hid hX
  clear hX
  go_enter Tryd.func25, Tryd.ntmps25
  go_wp2_with (at_make; refine maken_rw rfl _ _ _ rfl _ _ _ _ Tryd.underlying24 Tryd.infoU8 .i64 .i64 _ _ n rfl rfl rfl rfl (by omega) (by decide) ?_; intro v1 w1 h1 k1)
  replace h1 := SU.made h1
  obtain ⟨bo, d, e, _, _⟩ := h1.opened
  rw [List.length_replicate] at e
  subst e
  have H1 := Lib.hid h1
  clear h1
  go_loopw [6] (fun i wr => ∃ (k : Nat) (l : List UInt8), k ≤ n ∧ i = .int .i64 k ∧ l.length = n ∧ SU w.heap.size w1.heap.size wr (.slice bo n d) l ∧ Keep w wr) (fun i _ => n - (intOf i).toNat)
  case atStart => exact ⟨0, _, Nat.zero_le _, rfl, by simp, H1.out, k1⟩
  case round =>
    obtain ⟨k, l, hk, rfl, hl, hse, hkr⟩ := hrel
    have HL := Lib.hid hl
    have HS := Lib.hid hse
    by_cases hlt : k < n
    · obtain ⟨bo', d', e, _, hf⟩ := hse.opened
      rw [hl] at e hf
      obtain ⟨rfl, rfl⟩ : bo = bo' ∧ d = d' := by simpa using e
      obtain ⟨g, z, rfl, hg0, hg1, hg2, c1, f1⟩ := hf k hlt
      clear e hf hse hl
      go_wp2_with fail
      go_roundw
      case rel =>
        refine ⟨k + 1, l.set k x, by omega, by go_num, by simpa using HL.out, ?_, hkr.set g _ _ (.inr hg0)⟩
        rw [← HX.out]
        exact HS.out.store HL.out.symm k x
      case measure => simp [intOf]; omega
    · have hst := hse.string
      clear hse hl
      go_wp2_with fail
      go_ret
      exact ⟨_, rfl, by show l.toArray.size = n; simpa using HL.out, hkr⟩
theorem l01Text_any {B C : Nat} (n : Int) (w : World) (hc : Cur B C w) (hn : n ≤ 5000) :
    Calls Tryd.prog 26 #[.pointer (some ⟨C, 0, none⟩), .int .i64 n] w fun e w' => ∃ s : ByteArray, e = .returned (.string s) ∧ s.size ≤ 5000 ∧ Cur B C w' ∧ Chg C (C + 1) w w' := by
  have hC := hc.lt
  have HC := Lib.hid hc
  go_enter Tryd.func26, Tryd.ntmps26
  go_wp2_with fail
  go_loopw [5, 6] (fun v i wr => ∃ l : List UInt8, l.length ≤ 5000 ∧ i = .int .i64 l.length ∧ SU w.heap.size wr.heap.size wr v l ∧ Cur B C wr ∧ Chg C (C + 1) w wr) (fun _ i _ => (n - intOf i).toNat)
  case atStart => exact ⟨[], by decide, rfl, by rw [size_alloc]; exact SU.empty w w.heap.size (Nat.le_refl _), HC.out.keep ((Chg.refl _ _ _).alloc _), (Chg.refl _ _ _).alloc _⟩
  case round =>
    obtain ⟨l, hlen, rfl, hown, hcr, hgr⟩ := hrel
    have hs := hgr.size
    by_cases hlt : (l.length : Int) < n
    · go_wp2_with (first | (go_at_call 30; refine (l01Byte_any _ hcr).mono ?_; rintro e w2 ⟨x, hx0, hx1, rfl, hc2, hg2⟩; obtain ⟨m, rfl⟩ : ∃ m : Nat, x = m := ⟨x.toNat, by omega⟩; replace hg2 := Chg.of_cur hg2; have hown2 := hown.mv hg2 (by omega); have hgr2 := hgr.trans hg2; have hs2 := hgr2.size; have zg2 := hg2.size; clear hown hgr hcr hs) | (at_builtin; refine app_rw rfl _ _ _ rfl _ _ _ _ _ Tryd.underlying24 Tryd.infoU8 rfl _ _ _ (.int .u8 (m : Int)) hown2 rfl rfl rfl (by decide) (by omega) hs2 ?_; intro v' w3 hown3 hg3 _))
      go_roundw
      case rel =>
        refine ⟨l ++ [UInt8.ofNat m], by simp; omega, by simp, SU.app (y := UInt8.ofNat m) ?_, hc2.mv hg3 (by omega), hgr2.comp hg3 (.inl (by omega))⟩
        have e : byteV (UInt8.ofNat m) = .int .u8 (m : Int) := by
          have e2 : (UInt8.ofNat m).toNat = m := by rw [UInt8.toNat_ofNat']; omega
          unfold byteV
          rw [e2]
        rw [e]; exact hown3
      case measure => simp [intOf]; omega
    · have hst := hown.string
      go_wp2_with fail
      go_ret
      exact ⟨_, rfl, by show l.toArray.size ≤ _; simpa using hlen, hcr, hgr⟩
theorem drawEncodeHex_any (ao : Option Addr) (n cap : Nat) (w : World) (hn : n ≤ 1048576) (hcode : Code w.heap.size w ao n) :
    Calls Tryd.prog 12 #[.slice ao n cap] w fun e w' => ∃ s : ByteArray, e = .returned (.string s) ∧ s.size ≤ 20001 ∧ Keep w w' := by
  go_enter Tryd.func12, Tryd.ntmps12
  go_wp2_with fail
  refine (l01New_any _ _ _ _ hn hcode).mono ?_
  rintro e w1 ⟨rfl, hc, hb, hsz⟩
  have k1 := Keep.of_below hb
  clear hsz hb hcode
  go_wp2_with fail
  refine (once_any _ _ hc).mono ?_
  rintro e w2 ⟨b, rfl, hc2, hg2⟩
  have k2 := k1.comp hg2 (.inl (Nat.le_refl _))
  clear hg2 hc k1
  cases b
  · go_wp2_with fail
    refine (below_pos _ _ hc2 (by omega)).mono ?_
    rintro e w3 ⟨x, hx0, hx1, rfl, hc3, hg3⟩
    have k3 := k2.comp hg3 (.inl (Nat.le_refl _))
    go_wp2_with fail
    refine (l01Text_any _ _ hc3 (by omega)).mono ?_
    rintro e w4 ⟨s, rfl, hs, hc4, hg4⟩
    have k4 := k3.comp hg4 (.inl (Nat.le_refl _))
    go_wp2_with fail
    go_ret
    exact ⟨s, rfl, by omega, k4⟩
  · go_wp2_with fail
    refine (below_pos _ _ hc2 (by omega)).mono ?_
    rintro e w3 ⟨x, hx0, hx1, rfl, hc3, hg3⟩
    have k3 := k2.comp hg3 (.inl (Nat.le_refl _))
    obtain ⟨m, rfl⟩ : ∃ m : Nat, x = m := ⟨x.toNat, by omega⟩
    have hl := l01Long_any (20000 + m) 200 200 rfl w3 (by omega)
    rw [show ((20000 + m : Nat) : Int) = 20000 + (m : Int) by omega] at hl
    go_wp2_with fail
    refine hl.mono ?_
    rintro e w4 ⟨s, rfl, hs, hg4⟩
    go_wp2_with fail
    go_ret
    exact ⟨s, rfl, by omega, k3.keep hg4⟩
end Go.Proofs.YtpbcaaoohcgalabDoor
