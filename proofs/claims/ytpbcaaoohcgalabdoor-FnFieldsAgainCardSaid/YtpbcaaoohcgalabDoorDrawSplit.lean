/- Drawn lines: l01Pick and DrawSplitFields of the reference; the laws' sameTexts. (For the seat of the cards.) -/
import Derived.Test.YtpbcaaoohcgalabDoorSplit
import Derived.Test.YtpbcaaoohcgalabDoorStrs
import Derived.Test.YtpbcaaoohcgalabDoorNums
import Derived.Laws.Concat
import Derived.Deep.Cut
import Derived.Deep.CutRange
namespace Go.Proofs.YtpbcaaoohcgalabDoor
open Go.ChangeShapes Go.WideShapes Go.ChangeAt Go.RowKit
set_option linter.unusedSimpArgs false
set_option linter.unusedVariables false
set_option maxRecDepth 100000

theorem l01Pick_any {B C lo hi : Nat} {ss : List ByteArray} (v : Value) (w : World) (hc : Cur B C w) (hl : SSt lo hi w v ss) (hlo : C < lo) (h0 : 0 < ss.length) (h1 : ss.length ≤ 1000000) :
    Calls Tryd.prog 28 #[.pointer (some ⟨C, 0, none⟩), v] w fun e w' => ∃ x ∈ ss, e = .returned (.string x) ∧ Cur B C w' ∧ Chg C (C + 1) w w' := by
  obtain ⟨ao, c, rfl, hcc, hf⟩ := hl.opened
  clear hf
  go_enter Tryd.func28, Tryd.ntmps28
  go_wp2_with fail
  refine (below_pos _ _ hc (by omega)).mono ?_
  rintro e w1 ⟨x, hx0, hx1, rfl, hc1, hg1⟩
  have hl1 := hl.mv hg1 (by omega)
  obtain ⟨ao', c', e, _, hf⟩ := hl1.opened
  obtain ⟨rfl, rfl⟩ : ao = ao' ∧ c = c' := by simpa using e
  obtain ⟨g, rfl, _, _, _, hcell, _⟩ := hf x.toNat (by omega)
  have hm : ss.getD x.toNat .empty ∈ ss := by simp [List.getD, List.getElem?_eq_getElem (show x.toNat < ss.length by omega)]
  generalize ss.getD x.toNat .empty = y at *
  clear hf hl hl1 e
  go_wp2_with fail
  go_ret
  exact ⟨y, hm, rfl, hc1, hg1⟩
theorem SSt.lit (w : World) (lo : Nat) (zs : List ByteArray) (hb : lo ≤ w.heap.size) (hm : zs.length ≤ maxLen) : SSt lo (w.heap.size + 1) (w.alloc (.cells (zs.map Value.string).toArray 9 (0, 0))) (.slice (some ⟨w.heap.size, 0, none⟩) zs.length zs.length) zs := by
  have := Rw.lit w 9 1 zs.length lo (zs.map Value.string).toArray hb hm (by simp)
  simpa [SSt] using this
theorem sameTexts_same {l1 h1 l2 h2 : Nat} {zs : List ByteArray} (v u : Value) (w : World) (f : SSt l1 h1 w v zs) (g : SSt l2 h2 w u zs) (hlen : zs.length ≤ 1000000000) :
    Calls Tryd.prog 18 #[v, u] w fun e w' => e = .returned (.bool true) ∧ Keep w w' := by
  obtain ⟨ao, c, rfl, hc, f1⟩ := f.opened
  obtain ⟨bo, d, rfl, hd, f2⟩ := g.opened
  clear f g
  go_enter Tryd.func18, Tryd.ntmps18
  go_wp2_with fail
  go_loopw [5] (fun i wr => ∃ k : Nat, k ≤ zs.length ∧ i = .int .i64 k ∧ Keep w wr) (fun i _ => zs.length - (intOf i).toNat)
  case atStart => exact ⟨0, Nat.zero_le _, rfl, Chg.refl _ _ _⟩
  case round =>
    obtain ⟨k, hk, rfl, hg⟩ := hrel
    by_cases hlt : k < zs.length
    · obtain ⟨g, rfl, _, _, _, hc1, _⟩ := f1 k hlt
      obtain ⟨g', rfl, _, _, _, hc2, _⟩ := f2 k hlt
      have hx1 := (hg.grown none).cell hc1 (by simp)
      have hx2 := (hg.grown none).cell hc2 (by simp)
      clear hc1 hc2 f1 f2
      generalize zs.getD k .empty = z at hx1 hx2
      go_wp2_with fail
      go_quiet (fail)
      go_wp2_with fail
      go_roundw
      case rel => exact ⟨k + 1, by omega, by go_num, hg.drewN _⟩
      case measure => simp [intOf]; omega
    · clear f1 f2
      go_wp2_with fail
      go_ret
      exact ⟨rfl, hg⟩
set_option maxHeartbeats 1000000 in
theorem drawSplitFields_any (ao : Option Addr) (n cap : Nat) (w : World) (hn : n ≤ 1048576) (hcode : Code w.heap.size w ao n) :
    Calls Tryd.prog 15 #[.slice ao n cap] w fun e w' => ∃ s : ByteArray, e = .returned (.string s) ∧ s.size ≤ 1000 ∧ Keep w w' := by
  go_enter Tryd.func15, Tryd.ntmps15
  go_wp2_with fail
  refine (l01New_any _ _ _ _ hn hcode).mono ?_
  rintro e w1 ⟨rfl, hc, hb, hsz⟩
  have k1 := Keep.of_below hb
  clear hsz hb hcode
  go_wp2_with fail
  refine (below_pos _ _ hc (by omega)).mono ?_
  rintro e w2 ⟨n0, hx0, hx1, rfl, hc2, hg2⟩
  have k2 := k1.comp hg2 (.inl (Nat.le_refl _))
  clear hg2 hc k1
  go_wp2_with fail
  refine (once_any _ _ hc2).mono ?_
  rintro e w3 ⟨b, rfl, hc3, hg3⟩
  have k3 := k2.comp hg3 (.inl (Nat.le_refl _))
  clear hg3 hc2 k2
  have hn0 : n0 ≤ 25 := by omega
  clear hx1
  go_upto_if 13 with fail
  go_cut [4] from 14 (fun nv z => ∃ nn : Int, nv = .int .i64 nn ∧ 0 ≤ nn ∧ nn ≤ 25 ∧ Cur w.heap.size w.heap.size z ∧ Keep w z)
  case first =>
    cases b
    · go_wp2_with fail
      go_meet
      exact ⟨n0, rfl, hx0, hn0, hc3, k3⟩
    · go_wp2_with fail
      refine (below_pos _ _ hc3 (by omega)).mono ?_
      rintro e w4 ⟨y, hy0, hy1, rfl, hc4, hg4⟩
      go_wp2_with fail
      go_meet
      exact ⟨24 + y, rfl, by omega, by omega, hc4, k3.comp hg4 (.inl (Nat.le_refl _))⟩
  clear hx0 hn0 hc3 k3
  obtain ⟨nn, rfl, hn0, hn1, hc, k⟩ := hcut
  obtain ⟨N, rfl⟩ : ∃ N : Nat, nn = N := ⟨nn.toNat, by omega⟩
  generalize wc = W at *
  go_wp2_with fail
  go_loopw [5, 6] (fun sv i wr => ∃ (st : ByteArray) (k : Nat), k ≤ N ∧ sv = .string st ∧ i = .int .i64 k ∧ st.size ≤ 10 * k ∧ Cur w.heap.size w.heap.size wr ∧ Keep w wr) (fun _ i _ => N - (intOf i).toNat)
  case atStart => exact ⟨_, 0, Nat.zero_le _, rfl, rfl, Nat.le_refl _, hc, k⟩
  case round =>
    obtain ⟨st, k, hk, rfl, rfl, hst, hc, hg⟩ := hrel
    by_cases hlt : k < N
    · have hkN : (k : Int) < N := by omega
      by_cases hk0 : k = 0
      case' pos =>
        have hkz : ¬ (0 : Int) < k := by omega
        go_upto_if 27 with (go_at_call 22; refine (once_any _ _ hc).mono ?_; rintro e w5 ⟨b, rfl, hc5, hg5⟩; have hc := hc5; have hg := hg.comp hg5 (.inl (Nat.le_refl _)); clear hc5 hg5)
      case' neg =>
        have hkz : (0 : Int) < k := by omega
        go_upto_if 27 with fail
      all_goals
        go_cut [5] from 28 to 50 (fun sv z => ∃ st : ByteArray, sv = .string st ∧ st.size ≤ 10 * k + 3 ∧ Cur w.heap.size w.heap.size z ∧ Keep w z)
        case first =>
          try cases b
          all_goals
            go_wp2_with fail
            first
            | (go_meet; exact ⟨st, rfl, by omega, hc, hg⟩)
            | (refine (below_pos _ _ hc (by omega)).mono ?_
               rintro e w6 ⟨x, hx0, hx1, rfl, hc6, hg6⟩
               go_wp2_with fail
               refine (below_pos _ _ hc6 (by omega)).mono ?_
               rintro e w7 ⟨y, hy0, hy1, rfl, hc7, hg7⟩
               obtain ⟨m, hm, hm3⟩ : ∃ m : Nat, 1 + x * y = (m : Int) ∧ m ≤ 3 := by
                 obtain rfl | rfl : x = 0 ∨ x = 1 := by omega
                 · exact ⟨1, by omega, by omega⟩
                 · exact ⟨(1 + y).toNat, by omega, by omega⟩
               have hxy : IntKind.i64.wrap (x * y) = x * y := by rw [IntKind.wrap_i64]; omega
               have hw1 : wrap64 (1 + x * y) = 1 + x * y := by unfold wrap64; omega
               have hl := l01Long_any m 32 32 rfl w7 (by omega)
               rw [← hm] at hl
               have k7 := (hg.comp hg6 (.inl (Nat.le_refl _))).comp hg7 (.inl (Nat.le_refl _))
               clear hm hg hg6 hg7 hc hc6
               go_wp2_with fail
               rw [hw1]
               refine hl.mono ?_
               rintro e w8 ⟨t, rfl, ht, k8⟩
               have hadd := fun wx => run_string_add_sum (P := Tryd.prog) (w := wx) st t (by omega)
               go_wp2_with fail
               go_meet
               exact ⟨st ++ t, rfl, by rw [ByteArray.size_append]; omega, hc7.keep k8, k7.keep k8⟩)
        clear hst hc hg
        obtain ⟨st, rfl, hst, hc, hg⟩ := hcut
        generalize wc = W1 at *
        go_wp2_with fail
        go_loopw [5, 7] (fun sv j wr => ∃ (st : ByteArray) (m : Nat), m ≤ 5 ∧ sv = .string st ∧ j = .int .i64 m ∧ st.size ≤ 10 * k + 3 + m ∧ Cur w.heap.size w.heap.size wr ∧ Keep w wr) (fun _ j _ => 6 - (intOf j).toNat)
        case atStart => exact ⟨st, 0, by decide, rfl, rfl, hst, hc, hg⟩
        case round =>
          clear hst hc hg
          obtain ⟨st, m, hm, rfl, rfl, hst, hc, hg⟩ := hrel
          go_wp2_with fail
          refine (below_pos _ _ hc (by omega)).mono ?_
          rintro e w6 ⟨x, hx0, hx1, rfl, hc6, hg6⟩
          have hg := hg.comp hg6 (.inl (Nat.le_refl _))
          clear hc hg6
          by_cases hmx : (m : Int) ≤ x
          · go_wp2_with fail
            refine (below_pos _ _ hc6 (by omega)).mono ?_
            rintro e w7 ⟨y, hy0, hy1, rfl, hc7, hg7⟩
            have hg := hg.comp hg7 (.inl (Nat.le_refl _))
            clear hc6 hg7
            obtain ⟨yn, rfl⟩ : ∃ yn : Nat, y = yn := ⟨y.toNat, by omega⟩
            have hst2 := SU.string (SU.lit1 w7 (UInt8.ofNat (33 + yn)))
            rw [show (((UInt8.ofNat (33 + yn)).toNat : Nat) : Int) = 33 + (yn : Int) by rw [UInt8.toNat_ofNat']; omega] at hst2
            have hadd := fun wx => run_string_add_sum (P := Tryd.prog) (w := wx) st ⟨[UInt8.ofNat (33 + yn)].toArray⟩ (by show st.size + [UInt8.ofNat (33 + yn)].toArray.size ≤ _; simp; omega)
            go_wp2_with fail
            go_roundw
            case rel => exact ⟨_, m + 1, by omega, rfl, by go_num, by rw [ByteArray.size_append]; show st.size + [UInt8.ofNat (33 + yn)].toArray.size ≤ _; simp; omega, hc7.keep ((Chg.refl 0 0 _).alloc _), hg.alloc _⟩
            case measure => simp [intOf]; omega
          · go_wp2_with fail
            go_roundw
            case rel => exact ⟨st, k + 1, by omega, rfl, by go_num, by omega, hc6, hg⟩
            case measure => simp [intOf]; omega
    · obtain rfl : k = N := by omega
      go_wp2_with fail
      refine (below_pos _ _ hc (by omega)).mono ?_
      rintro e w6 ⟨x, hx0, hx1, rfl, hc6, hg6⟩
      have hg := hg.comp hg6 (.inl (Nat.le_refl _))
      have hC := hc6.lt
      clear hc hg6
      by_cases e0 : x = 0
      · subst e0
        have hl := SSt.lit w6 w6.heap.size [⟨#[32]⟩, ⟨#[32, 32]⟩, ⟨#[9]⟩, ⟨#[10]⟩, ⟨#[127]⟩, ⟨#[233]⟩] (Nat.le_refl _) (by decide)
        go_wp2_with fail
        refine (l01Pick_any _ _ (hc6.keep ((Chg.refl 0 0 w6).alloc _)) hl (by omega) (by decide) (by decide)).mono ?_
        rintro e w7 ⟨t, ht, rfl, hc7, hg7⟩
        have ht2 : t.size ≤ 2 := by
          simp only [List.mem_cons, List.not_mem_nil, or_false] at ht
          rcases ht with rfl | rfl | rfl | rfl | rfl | rfl <;> decide
        have hg := (hg.alloc _).comp hg7 (.inl (Nat.le_refl _))
        have hadd := fun wx => run_string_add_sum (P := Tryd.prog) (w := wx) st t (by omega)
        clear ht hl hg7
        go_wp2_with fail
        go_ret
        exact ⟨st ++ t, rfl, by rw [ByteArray.size_append]; omega, hg⟩
      · have e0' : (x == 0) = false := by simp; omega
        by_cases e1 : x = 1
        · subst e1
          by_cases h600 : st.size < 600
          · have h6 : (st.size : Int) < 600 := by omega
            go_wp2_with fail
            refine (below_pos _ _ hc6 (by omega)).mono ?_
            rintro e w7 ⟨y, hy0, hy1, rfl, hc7, hg7⟩
            have hg := hg.comp hg7 (.inl (Nat.le_refl _))
            clear hg7
            obtain ⟨yn, rfl⟩ : ∃ yn : Nat, y = yn := ⟨y.toNat, by omega⟩
            have hl := l01Long_any (600 - st.size + yn) 32 32 rfl w7 (by omega)
            rw [show ((600 - st.size + yn : Nat) : Int) = 600 - (st.size : Int) + (yn : Int) by omega] at hl
            go_wp2_with fail
            refine hl.mono ?_
            rintro e w8 ⟨t, rfl, ht, k8⟩
            have hadd := fun wx => run_string_add_sum (P := Tryd.prog) (w := wx) st t (by omega)
            go_wp2_with fail
            go_ret
            exact ⟨st ++ t, rfl, by rw [ByteArray.size_append]; omega, hg.keep k8⟩
          · exfalso
            omega
        · have e1' : (x == 1) = false := by simp; omega
          go_wp2_with fail
          go_ret
          exact ⟨st, rfl, by omega, hg⟩
end Go.Proofs.YtpbcaaoohcgalabDoor
