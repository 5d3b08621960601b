/- Kernels: copyKernel, canCall, mapped, slices.Contains, counted of the program. Printed by wip/tools/mk_ke3.py. -/
import Derived.Test.YtkcoehkfhffjkaaKe2
import Derived.Test.YtkcoehkfhffjkaaFr7
namespace Go.Proofs.Ytkcoehkfhffjkaa
open Go.ChangeShapes Go.WideShapes Go.ChangeAt Go.RowKit
set_option linter.unusedSimpArgs false
set_option linter.unusedVariables false
set_option maxRecDepth 100000

theorem canB_no {k : KeD} (h : k.calls = 100000) : canB k = false := by unfold canB; rw [h]; rfl
theorem canB_yes (k : KeD) : canB k = (k.calls != 100000 && kernelOkB k) := by unfold canB; by_cases h : k.calls = 100000 <;> simp [h]
theorem contains_at {zs : List Int} {k : Nat} {x : Int} (h : k < zs.length) (hx : zs.getD k 0 = x) : zs.contains x = true := by
  rw [List.contains_iff_mem]
  simp [List.getD, h] at hx
  exact hx ▸ List.getElem_mem h
theorem contains_none {zs : List Int} {x : Int} (h : ∀ j, j < zs.length → zs.getD j 0 ≠ x) : zs.contains x = false := by
  rw [Bool.eq_false_iff]
  intro hc
  obtain ⟨j, hj, e⟩ := List.getElem_of_mem (List.contains_iff_mem.1 hc)
  exact h j hj (by simp [List.getD, hj, e])
theorem tick_le {k : KeD} (h : canB k = true) : 0 ≤ k.calls ∧ k.calls ≤ 99999 := by
  obtain ⟨h1, h2⟩ := canB_iff.1 h
  have := h2.calls0
  have := h2.calls1
  omega
theorem slIndex_any {lo hi : Nat} {zs : List Int} (v : Value) (x : Int) (w : World) (h : SI lo hi w v zs) (hlen : zs.length ≤ 1000000000) :
    Calls Try.prog 118 #[v, .int .i64 x] w fun e w' => ∃ i : Int, e = .returned (.int .i64 i) ∧ (0 ≤ i ↔ x ∈ zs) ∧ w = w' := by
  obtain ⟨ao, c, rfl, _, hf⟩ := h.opened
  clear h
  go_enter Try.func118, Try.ntmps118
  go_wp2_with fail
  go_loop [8] (fun i => ∃ k : Nat, k ≤ zs.length ∧ i = .int .i64 k ∧ ∀ j, j < k → zs.getD j 0 ≠ x) (fun i => zs.length - (intOf i).toNat)
  case atStart => exact ⟨0, Nat.zero_le _, rfl, fun j hj => by omega⟩
  case round =>
    obtain ⟨k, hk, rfl, hn⟩ := hrel
    by_cases hlt : k < zs.length
    · obtain ⟨g, rfl, _, _, _, ck, _⟩ := hf k hlt
      have HN := Lib.hid hn
      clear hn hf
      have HC := Lib.hid (fun h => contains_at (x := x) hlt h)
      have HS := Lib.hid (fun h : zs.getD k 0 ≠ x => fun (j : Nat) (hj : j < k + 1) => show zs.getD j 0 ≠ x from if e : j < k then HN.out j e else by obtain rfl : j = k := (by omega); exact h)
      generalize zs.getD k 0 = y at *
      by_cases hx : x = y
      · go_wp2_with fail
        go_ret
        have hm := List.contains_iff_mem.1 (HC.out hx.symm)
        rw [hx] at hm
        exact ⟨_, rfl, ⟨fun _ => hm, fun _ => by omega⟩, rfl⟩
      · go_wp2_with fail
        go_round
        case rel => exact ⟨k + 1, by omega, by go_num, HS.out (fun e => hx e.symm)⟩
        case measure => simp [intOf]; omega
    · obtain rfl : k = zs.length := by omega
      have HN := Lib.hid (contains_none hn)
      clear hn hf
      go_wp2_with fail
      go_ret
      have hm : ¬ x ∈ zs := fun hh => by have := List.contains_iff_mem.2 hh; rw [HN.out] at this; cases this
      exact ⟨_, rfl, ⟨fun hh => by omega, fun hh => absurd hh hm⟩, rfl⟩
theorem slContains_any {lo hi : Nat} {zs : List Int} (v : Value) (x : Int) (w : World) (h : SI lo hi w v zs) (hlen : zs.length ≤ 1000000000) :
    Calls Try.prog 111 #[v, .int .i64 x] w fun e w' => e = .returned (.bool (zs.contains x)) ∧ w = w' := by
  obtain ⟨ao, c, rfl, _, h⟩ := h.slice
  go_enter Try.func111, Try.ntmps111
  go_wp2_with fail
  refine (slIndex_any _ _ _ h hlen).mono ?_
  rintro e w' ⟨i, rfl, hi, rfl⟩
  go_wp2_with fail
  go_ret
  have e : decide (x ∈ zs) = zs.contains x := by
    rw [Bool.eq_iff_iff, decide_eq_true_eq, List.contains_iff_mem]
  exact ⟨by rw [← e]; rfl, rfl⟩
theorem canCall_any {lo hi : Nat} {k : KeD} (v : Value) (w : World) (h : KE lo hi w v k) (hs : sm_Kernel k) :
    Calls Try.prog 70 #[v] w fun e w' => e = .returned (.bool (canB k)) ∧ Keep w w' := by
  obtain ⟨a1, c1, a2, c2, a3, c3, a4, c4, rfl, hm, hr⟩ := h.slices
  have h' : KE lo hi w (.agg #[.slice a1 k.ma.fr.cells.length c1, .slice a2 k.ma.fr.used.length c2, .slice a3 k.ma.tb.length c3, .int .i64 k.calls, .slice a4 k.refuse.length c4]) k := KE.mk hm hr
  by_cases hc : k.calls = 100000
  · have HB := Lib.hid (canB_no hc)
    go_enter Try.func70, Try.ntmps70
    go_wp2_with fail
    go_ret
    exact ⟨by rw [HB.out]; rfl, (Chg.refl 0 0 w).alloc _⟩
  · have HB := Lib.hid (canB_yes k)
    go_enter Try.func70, Try.ntmps70
    go_wp2_with (go_at_call 33; refine (kernelOk_any _ _ (h'.keep ((Chg.refl 0 0 w).alloc _)) hs).mono ?_; rintro e w1 ⟨rfl, k1⟩)
    go_ret
    exact ⟨by rw [HB.out]; rfl, Chg.keep ((Chg.refl 0 0 w).alloc _) k1⟩
theorem entry_field0 (a b : Int) (w : World) : (Instr.field 65 (.agg #[.int .i64 a, .int .i64 b]) 0).run Try.prog w = .ok (.int .i64 a) w := by kernel_rfl
set_option maxHeartbeats 1000000 in
theorem mapped_any {lo hi : Nat} {k : KeD} (v : Value) (p : Int) (w : World) (h : KE lo hi w v k) (hs : sm_Kernel k) :
    Calls Try.prog 74 #[v, .int .i64 p] w fun e w' => e = .returned (.bool (mapB k.ma p)) ∧ Keep w w' := by
  obtain ⟨a1, c1, a2, c2, a3, c3, a4, c4, rfl, hm, hr⟩ := h.slices
  have htl := hs.ma.tb
  have ht : TB lo hi w (.agg #[.slice a3 k.ma.tb.length c3]) k.ma.tb := by
    obtain ⟨s1, s2, s3, e, _, h3⟩ := hm
    simp at e
    obtain ⟨rfl, rfl, rfl⟩ := e
    exact ⟨_, rfl, h3⟩
  clear h hm hr
  have HB := Lib.hid (show mapB k.ma p = ((entryD k.ma.tb p).1 != 0) from rfl)
  have hfd := entry_field0
  go_enter Try.func74, Try.ntmps74
  go_wp2_with (go_at_call 52; refine (pageEntry_any _ _ _ (ht.keep ((Chg.refl 0 0 w).alloc _)) (by omega)).mono ?_; rintro e w1 ⟨rfl, k1⟩)
  go_ret
  exact ⟨by rw [HB.out]; rfl, Chg.keep ((Chg.refl 0 0 w).alloc _) k1⟩
end Go.Proofs.Ytkcoehkfhffjkaa
