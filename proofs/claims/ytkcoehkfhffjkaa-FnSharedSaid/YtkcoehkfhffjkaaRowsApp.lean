/- Rows of rows, appended to. -/
import Derived.Test.YtkcoehkfhffjkaaFr3
import Derived.Deep.RegionLaw
namespace Go.Proofs.Ytkcoehkfhffjkaa
open Go.ChangeShapes Go.WideShapes Go.ChangeAt Go.RowKit
set_option linter.unusedSimpArgs false
set_option linter.unusedVariables false

/-- append on a row that the call itself made, of cells that lie anywhere, as a step of a region that draws; only its own block turns. -/
theorem step_appG {P : Program} {ops : Array Oper} {o : Oper} {a : Act} {W : World} {K : Act → World → Prop} {Q : Exit → Act → World → Prop} {E : Prop}
    (hgd : o.guard = none) (s x : Operand) (t : TypeId) (ho : o.op = Op.call { callee := Callee.builtin Builtin.append, args := #[s, x], argTypes := #[t, t] })
    (lo hi : Nat) (e : TypeId) (z : Value) (size bytes : Nat) (ht : P.underlying t = some (.slice e)) (hinfo : (P.info? e).map (fun i => (i.zero, i.size, i.bytes)) = some (some z, size, bytes)) (hzs : z.cells.size = size) (hsz : 0 < size)
    (v : Value) (n : Nat) (xs : List Value) (hown : Rw e size lo hi W v n xs) (A : Addr) (m c : Nat) (news : List Value) (hl : news.length = m * size) (hm : m ≤ 1000000000) (hnews : ∀ j u, news[j]? = some u → W.cell? (A.add j) = some u) (hy : ∀ y ∈ news, y.oneCell' = true) (hby : bytes ≤ 24) (hn : n ≤ 1000000000)
    (hbase : lo ≤ W.heap.size) (hs : a.eval s = v) (hx : a.eval x = .slice (some A) m c)
    (h : ∀ v' w', Rw e size lo w'.heap.size w' v' (n + m) (xs ++ news) → W.grownBy w' v.ownBlock → K (a.put o.dst v') w') :
    if Region.wanted o (yielded ops a.tmps) = true then Oper.wp P o a W K Q else E := by
  have hw : Region.wanted o (yielded ops a.tmps) = true := by simp [Region.wanted, hgd]
  rw [if_pos hw]
  obtain ⟨i0, hi0, hz0, hz1, hz2⟩ := info_parts hinfo
  obtain ⟨v', w', hrun, h2, h3, h4⟩ := run_append_own W lo t o.type e i0 z size bytes ht hi0 hz0 hz1 hz2 hzs hsz v n xs hown.1 A m c news hl hnews hy (by unfold maxLen; omega) (by
    have : (n + m) * bytes ≤ (1000000000 + 1000000000) * 24 := Nat.mul_le_mul (by omega) hby
    omega) hbase
  unfold Oper.wp execOp
  simp only [ho, resolve, invoke, builtin, Sem.run_bind, Sem.run_pure, Result.andThen_ok, List.map_toArray, List.map_cons, List.map_nil, hs, hx, hrun]
  exact h v' w' (Rw.of_own h2) h3
/-- The same, in a plain region. -/
theorem app_G {P : Program} {W : World} {ops : Array Oper} {rest : List Oper} {o : Oper} {a : Act} {Q : Exit → Act → World → Prop} (hgd : o.guard = none) (s x : Operand) (t : TypeId)
    (ho : o.op = .call { callee := .builtin .append, args := #[s, x], argTypes := #[t, t] })
    (lo hi : Nat) (e : TypeId) (z : Value) (size bytes : Nat) (ht : P.underlying t = some (.slice e)) (hinfo : (P.info? e).map (fun i => (i.zero, i.size, i.bytes)) = some (some z, size, bytes)) (hzs : z.cells.size = size) (hsz : 0 < size)
    (v : Value) (n : Nat) (xs : List Value) (hown : Rw e size lo hi W v n xs) (A : Addr) (m c : Nat) (news : List Value) (hl : news.length = m * size) (hm : m ≤ 1000000000) (hnews : ∀ j u, news[j]? = some u → W.cell? (A.add j) = some u) (hy : ∀ y ∈ news, y.oneCell' = true) (hby : bytes ≤ 24) (hn : n ≤ 1000000000)
    (hbase : lo ≤ W.heap.size) (hs : a.eval s = v) (hx : a.eval x = .slice (some A) m c)
    (h : ∀ v' w', Rw e size lo w'.heap.size w' v' (n + m) (xs ++ news) → W.grownBy w' v.ownBlock → wpList P ops Q rest (a.put o.dst v') w') : wpList P ops Q (o :: rest) a W := by
  refine wpList_plain hgd fun K hK => ?_
  obtain ⟨i0, hi0, hz0, hz1, hz2⟩ := info_parts hinfo
  obtain ⟨v', w', hrun, h2, h3, h4⟩ := run_append_own W lo t o.type e i0 z size bytes ht hi0 hz0 hz1 hz2 hzs hsz v n xs hown.1 A m c news hl hnews hy (by unfold maxLen; omega) (by
    have : (n + m) * bytes ≤ (1000000000 + 1000000000) * 24 := Nat.mul_le_mul (by omega) hby
    omega) hbase
  unfold Oper.wp execOp
  simp only [ho, resolve, invoke, builtin, Sem.run_bind, Sem.run_pure, Result.andThen_ok, List.map_toArray, List.map_cons, List.map_nil, hs, hx, hrun]
  exact hK _ _ (h v' w' (Rw.of_own h2) h3)
theorem Chg.of_app {E sz lo hi n : Nat} {W w3 : World} {v : Value} {xs : List Value} (hown : Rw E sz lo hi W v n xs) (hg : W.grownBy w3 v.ownBlock) : Chg lo hi W w3 := by
  refine Chg.of_grown hg ?_
  intro k hk
  have := hown.1.lt k hk
  have := hown.2 k hk
  omega
/-- Another row is not touched by append, of whatever type. -/
theorem Rw.grown {E sz lo hi : Nat} {W w3 : World} {v : Value} {n : Nat} {xs : List Value} {r : Option Nat} (h : Rw E sz lo hi W v n xs) (hg : W.grownBy w3 r) (hr : ∀ k, v.ownBlock = some k → r ≠ some k) : Rw E sz lo hi w3 v n xs := by
  refine ⟨⟨h.1.1, ?_⟩, h.2⟩
  rcases h.1.2 with hn | ⟨b, cap, cur, rfl, hb, hh, rest⟩
  · exact .inl hn
  · refine .inr ⟨b, cap, cur, rfl, hb, ?_, rest⟩
    rw [hg.block b (lt_of_block hh) (fun e => hr b rfl e.symm)]; exact hh
/-- One row more. -/
theorem SSv.app {lo hi lo2 hi2 : Nat} {W w3 : World} {v v' u : Value} {vs : List Value} {rows : List (List Int)} {r : List Int} (h : SSv lo hi W v vs rows) (hr : SI lo2 hi2 W u r) (h1 : lo ≤ lo2) (h2 : hi ≤ lo2) (h3 : hi2 ≤ W.heap.size) (h4 : hi ≤ W.heap.size)
    (hown : Rw 32 1 lo w3.heap.size w3 v' (rows.length + 1) (vs ++ [u])) (hg : W.grownBy w3 v.ownBlock) : SSv lo w3.heap.size w3 v' (vs ++ [u]) (rows ++ [r]) := by
  have hlen := h.len
  have hsz := hg.size
  have gd : ∀ j, (vs ++ [u]).getD j undef = if j < rows.length then vs.getD j undef else if j = rows.length then u else undef := by
    intro j
    by_cases hj : j < rows.length
    · simp [List.getD, hj, List.getElem?_append_left (show j < vs.length by omega)]
    · by_cases e : j = rows.length
      · subst e; simp [List.getD, ← hlen]
      · simp [List.getD, hj, e, List.getElem?_eq_none (show (vs ++ [u]).length ≤ j by simp; omega)]
  have old : ∀ i, i < rows.length → SI lo w3.heap.size w3 (vs.getD i undef) (rows.getD i []) := by
    intro i hi'
    have hri := h.row i hi'
    refine Rw.wide (Rw.grown hri hg fun k hk hv => ?_) (Nat.le_refl _) ?_
    · exact Rw.ne h.out hri (by decide) hv hk rfl
    · omega
  have new : SI lo w3.heap.size w3 u r := by
    refine Rw.wide (Rw.grown hr hg fun k hk hv => ?_) h1 (by omega)
    have x1 := (hr.1.lt k hk).1
    have x2 := h.out.2 k hv
    omega
  have rd : ∀ j, (rows ++ [r]).getD j [] = if j < rows.length then rows.getD j [] else if j = rows.length then r else [] := by
    intro j
    by_cases hj : j < rows.length
    · simp [List.getD, hj, List.getElem?_append_left hj]
    · by_cases e : j = rows.length
      · subst e; simp [List.getD]
      · simp [List.getD, hj, e, List.getElem?_eq_none (show (rows ++ [r]).length ≤ j by simp; omega)]
  refine ⟨by simpa using hown, fun i hi' => ?_, fun i j hij hj k hk => ?_⟩
  · simp only [List.length_append, List.length_singleton] at hi'
    rw [gd, rd]
    by_cases hj : i < rows.length
    · rw [if_pos hj, if_pos hj]; exact old i hj
    · rw [if_neg hj, if_neg hj, if_pos (by omega), if_pos (by omega)]; exact new
  · simp only [List.length_append, List.length_singleton] at hj
    rw [gd] at hk ⊢
    rw [if_pos (by omega)] at hk
    by_cases hj' : j < rows.length
    · rw [if_pos hj']; exact h.apart i j hij hj' k hk
    · rw [if_neg hj', if_pos (by omega)]
      intro hu
      have x1 := (hr.1.lt k hu).1
      have x2 := (h.row i (by omega)).2 k hk
      omega
theorem SI.zlit (w : World) : SI w.heap.size (w.heap.size + 1) (w.alloc (.cells (madeCells #[Value.int .i64 0] 16) 3 (0, 0))) (.slice (some ⟨w.heap.size, 0, none⟩) 16 16) zrow := by
  have := Rw.lit w 3 1 16 w.heap.size (madeCells #[Value.int .i64 0] 16) (Nat.le_refl _) (by decide) (by rw [size_madeCells])
  exact SI.made (n := 16) this
end Go.Proofs.Ytkcoehkfhffjkaa
