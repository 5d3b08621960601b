/- Slices of numbers that a call made: the laws' own functions on them (equal, mark, held), and lists that are appended. -/
import Derived.Test.YtpbcaaoohcgalaaMem
namespace Go.Proofs.Ytpbcaaoohcgalaa
open Go.ChangeShapes Go.WideShapes Go.ChangeAt Go.RowKit
set_option linter.unusedSimpArgs false
set_option linter.unusedVariables false

/-- 'out = append(out, x)' on a row that the call itself made; x of one cell. -/
theorem app_rw {P : Program} {w : World} {ops : Array Oper} {rest : List Oper} {o : Oper} {a : Act} {Q : Exit → Act → World → Prop} (hgd : o.guard = none) (s x : Operand) (t : TypeId)
    (ho : o.op = .call { callee := .builtin .append, args := #[s, x], argTypes := #[t, t] })
    (lo hi : Nat) (e : TypeId) (z : Value) (bytes : Nat) (ht : P.underlying t = some (.slice e)) (hinfo : (P.info? e).map (fun i => (i.zero, i.size, i.bytes)) = some (some z, 1, bytes)) (hzs : z.cells.size = 1)
    (v : Value) (n : Nat) (xs : List Value) (y : Value) (hown : Rw e 1 lo hi w v n xs) (hs : a.eval s = v) (hx : a.eval x = .slice (some ⟨w.heap.size, 0, none⟩) 1 1) (hy : y.oneCell' = true) (hby : bytes ≤ 24) (hn : n ≤ 1000000000)
    (hbase : lo ≤ w.heap.size)
    (h : ∀ v' w', Rw e 1 lo w'.heap.size w' v' (n + 1) (xs ++ [y]) → Chg lo hi w w' → v' ≠ .slice none 0 0 → wpList P ops Q rest (a.put o.dst v') w') :
    wpList P ops Q (o :: rest) a (w.alloc (.cells #[y] e (0, 0))) := by
  obtain ⟨i0, hi0, hz0, hz1, hz2⟩ := info_parts hinfo
  refine wpList_append_own _ hgd s x t ho lo e i0 z 1 bytes ht hi0 hz0 hz1 hz2 hzs (by decide) v n xs hs (hown.1.alloc _) ⟨w.heap.size, 0, none⟩ 1 1 [y] hx rfl ?_ ?_ ?_ ?_ ?_ ?_
  · intro j u hj
    match j, hj with
    | 0, hj =>
      simp at hj; subst hj
      have := heap_alloc_new w (.cells #[y] e (0, 0))
      simp only [Addr.add, World.cell?, this, if_true]
      rfl
  · intro u hu; simp at hu; subst hu; exact hy
  · unfold maxLen; omega
  · have : (n + 1) * bytes ≤ (1000000000 + 1) * 24 := Nat.mul_le_mul (by omega) hby
    omega
  · have : (w.alloc (.cells #[y] e (0, 0))).heap.size = w.heap.size + 1 := Array.size_push _
    omega
  · intro v' w' h1 h2 h3
    refine h v' w' (Rw.of_own h1) ?_ ?_
    · refine Chg.of_grown (grownBy.trans (World.grownBy_alloc w _ _) h2) ?_
      intro k hk
      have := hown.1.lt k hk
      have := hown.2 k hk
      omega
    · intro hv; have := h3.1 hv; omega
theorem Rw.empty (w : World) (E sz lo : Nat) (hb : lo ≤ w.heap.size) : Rw E sz lo (w.heap.size + 1) (w.alloc (.cells #[] E (0, 0))) (.slice (some ⟨w.heap.size, 0, none⟩) 0 0) 0 [] :=
  Rw.lit w E sz 0 lo #[] hb (by decide) (by simp)
theorem SI.empty (w : World) (lo : Nat) (hb : lo ≤ w.heap.size) : SI lo (w.heap.size + 1) (w.alloc (.cells #[] 3 (0, 0))) (.slice (some ⟨w.heap.size, 0, none⟩) 0 0) [] := Rw.empty w _ _ lo hb
theorem SI.app {lo hi : Nat} {w : World} {v : Value} {zs : List Int} {y : Int} (h : Rw 3 1 lo hi w v (zs.length + 1) (zs.map (Value.int .i64) ++ [.int .i64 y])) : SI lo hi w v (zs ++ [y]) := by
  unfold SI; simpa using h
theorem eqIntS_same {l1 h1 l2 h2 : Nat} {zs : List Int} (v u : Value) (w : World) (f : SI l1 h1 w v zs) (g : SI l2 h2 w u zs) (hlen : zs.length ≤ 1000000000) :
    Calls Try.prog 34 #[v, u] w fun e w' => e = .returned (.bool true) ∧ Keep w w' := by
  obtain ⟨ao, c, rfl, hc, f1⟩ := f.opened
  obtain ⟨bo, d, rfl, hd, f2⟩ := g.opened
  clear f g
  go_enter Try.func34, Try.ntmps34
  go_wp2_with fail
  go_loopw [5] (fun i wr => ∃ k : Nat, k ≤ zs.length ∧ i = .int .i64 k ∧ Keep w wr) (fun i _ => zs.length - (intOf i).toNat)
  case atStart => exact ⟨0, Nat.zero_le _, rfl, Chg.refl _ _ _⟩
  case round =>
    obtain ⟨k, hk, rfl, hg⟩ := hrel
    by_cases hlt : k < zs.length
    · obtain ⟨g, rfl, _, _, _, hc1, _⟩ := f1 k hlt
      obtain ⟨g', rfl, _, _, _, hc2, _⟩ := f2 k hlt
      have hx1 := (hg.grown none).cell hc1 (by simp)
      have hx2 := (hg.grown none).cell hc2 (by simp)
      clear hc1 hc2 f1 f2
      generalize zs.getD k 0 = z at hx1 hx2
      go_wp2_with fail
      go_quiet (fail)
      go_wp2_with fail
      go_roundw
      case rel => exact ⟨k + 1, by omega, by go_num, hg.drewN _⟩
      case measure => simp [intOf]; omega
    · clear f1 f2
      go_wp2_with fail
      go_ret
      exact ⟨rfl, hg⟩
/-- The marks that are laid into a slice. -/
def marks (k0 : Int) (n : Nat) : List Int := (List.range n).map (fun j : Nat => k0 + (j : Int))
theorem marks_len (k0 : Int) (n : Nat) : (marks k0 n).length = n := by simp [marks]
theorem set_at {α : Type} (A B : List α) (x y : α) (k : Nat) (hk : k = A.length) : (A ++ x :: B).set k y = A ++ y :: B := by
  subst hk; simp
theorem marks_set (k0 : Int) (zs : List Int) (k : Nat) (hk : k < zs.length) : (marks k0 k ++ zs.drop k).set k (k0 + k) = marks k0 (k + 1) ++ zs.drop (k + 1) := by
  rw [List.drop_eq_getElem_cons hk, set_at _ _ _ _ _ (marks_len k0 k).symm]
  simp [marks, List.range_succ]
theorem markIntS_any {lo hi : Nat} {zs : List Int} (v : Value) (k0 : Int) (w : World) (h1 : SI lo hi w v zs) (hlen : zs.length ≤ 1000000000) (hk0 : 0 ≤ k0) (hk1 : k0 ≤ 1000000000) :
    Calls Try.prog 35 #[v, .int .i64 k0] w fun e w' => e = .returned (.int .i64 (k0 + zs.length)) ∧ SI lo hi w' v (marks k0 zs.length) ∧ (∀ k, k < w.heap.size → v.ownBlock ≠ some k → w'.heap[k]? = w.heap[k]?) ∧ Chg lo hi w w' := by
  obtain ⟨ao, c, rfl, hc, f1⟩ := h1.opened
  clear f1
  go_enter Try.func35, Try.ntmps35
  go_wp2_with fail
  go_loopw [1, 5] (fun m i wr => ∃ k : Nat, k ≤ zs.length ∧ i = .int .i64 k ∧ m = .int .i64 (k0 + k) ∧ SI lo hi wr (.slice ao zs.length c) (marks k0 k ++ zs.drop k) ∧ w.grownBy wr (Value.slice ao zs.length c).ownBlock) (fun _ i _ => zs.length - (intOf i).toNat)
  case atStart => exact ⟨0, Nat.zero_le _, rfl, by simp, by simpa [marks] using h1, World.grownBy.refl _ _⟩
  case round =>
    obtain ⟨k, hk, rfl, rfl, hown, hg⟩ := hrel
    have HO := Lib.hid hown
    have H1 := Lib.hid h1
    have HG := Lib.hid hg
    have hl : (marks k0 k ++ zs.drop k).length = zs.length := by simp [marks]; omega
    have HL := Lib.hid hl
    obtain ⟨ao', c', e, hc', f1⟩ := hown.opened
    rw [hl] at e hc' f1
    obtain ⟨rfl, rfl⟩ : ao = ao' ∧ c = c' := by simpa using e
    clear e hown h1 hl hg
    by_cases hlt : k < zs.length
    · obtain ⟨g, rfl, hbg, hbh, hbs, hc1, hfr⟩ := f1 k hlt
      clear f1
      go_wp2_with fail
      go_roundw
      case rel =>
        refine ⟨k + 1, by omega, by go_num, by go_num, ?_, ?_⟩
        · rw [← marks_set k0 zs k hlt]; exact HO.out.store HL.out.symm _ _
        · exact gS HG.out
      case measure => simp [intOf]; omega
    · obtain rfl : k = zs.length := by omega
      clear f1
      go_wp2_with fail
      go_ret
      have hl1 := H1.out
      refine ⟨rfl, by simpa using HO.out, fun k hk hne => HG.out.block k hk (fun e => hne e.symm), Chg.of_grown HG.out fun k hk => .inl ⟨(hl1.1.lt k hk).1, hl1.2 k hk⟩⟩
theorem heldIntS_any {lo hi : Nat} {n : Nat} (v : Value) (k0 : Int) (w : World) (h1 : SI lo hi w v (marks k0 n)) (hlen : n ≤ 1000000000) (hk0 : 0 ≤ k0) (hk1 : k0 ≤ 1000000000) :
    Calls Try.prog 36 #[v, .int .i64 k0] w fun e w' => e = .returned (.int .i64 (k0 + n)) ∧ w = w' := by
  obtain ⟨ao, c, rfl, hc, f1⟩ := h1.opened
  rw [marks_len] at *
  clear h1
  go_enter Try.func36, Try.ntmps36
  go_wp2_with fail
  go_loop [1, 5] (fun m i => ∃ k : Nat, k ≤ n ∧ i = .int .i64 k ∧ m = .int .i64 (k0 + k)) (fun _ i => n - (intOf i).toNat)
  case atStart => exact ⟨0, Nat.zero_le _, rfl, by simp⟩
  case round =>
    obtain ⟨k, hk, rfl, rfl⟩ := hrel
    by_cases hlt : k < n
    · obtain ⟨g, rfl, _, _, _, hc1, _⟩ := f1 k hlt
      have e : (marks k0 n).getD k 0 = k0 + k := by simp [marks, List.getD, hlt]
      rw [e] at hc1
      clear f1 e
      go_wp2_with fail
      go_round
      case rel => exact ⟨k + 1, by omega, by go_num, by go_num⟩
      case measure => simp [intOf]; omega
    · obtain rfl : k = n := by omega
      clear f1
      go_wp2_with fail
      go_ret
      exact ⟨rfl, rfl⟩
end Go.Proofs.Ytpbcaaoohcgalaa
