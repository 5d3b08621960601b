/- Slices of numbers that a call made: the laws' own functions on them (equal, mark, held), and lists that are appended. -/
import Derived.Test.YtpbcaaoohcgalabDoorMem
namespace Go.Proofs.YtpbcaaoohcgalabDoor
open Go.ChangeShapes Go.WideShapes Go.ChangeAt Go.RowKit
set_option linter.unusedSimpArgs false
set_option linter.unusedVariables false

/-- 'out = append(out, x)' on a row that the call itself made; x of one cell. -/
theorem app_rw {P : Program} {w : World} {ops : Array Oper} {rest : List Oper} {o : Oper} {a : Act} {Q : Exit → Act → World → Prop} (hgd : o.guard = none) (s x : Operand) (t : TypeId)
    (ho : o.op = .call { callee := .builtin .append, args := #[s, x], argTypes := #[t, t] })
    (lo hi : Nat) (e : TypeId) (z : Value) (bytes : Nat) (ht : P.underlying t = some (.slice e)) (hinfo : (P.info? e).map (fun i => (i.zero, i.size, i.bytes)) = some (some z, 1, bytes)) (hzs : z.cells.size = 1)
    (v : Value) (n : Nat) (xs : List Value) (y : Value) (hown : Rw e 1 lo hi w v n xs) (hs : a.eval s = v) (hx : a.eval x = .slice (some ⟨w.heap.size, 0, none⟩) 1 1) (hy : y.oneCell' = true) (hby : bytes ≤ 24) (hn : n ≤ 1000000000)
    (hbase : lo ≤ w.heap.size)
    (h : ∀ v' w', Rw e 1 lo w'.heap.size w' v' (n + 1) (xs ++ [y]) → Chg lo hi w w' → v' ≠ .slice none 0 0 → wpList P ops Q rest (a.put o.dst v') w') :
    wpList P ops Q (o :: rest) a (w.alloc (.cells #[y] e (0, 0))) := by
  obtain ⟨i0, hi0, hz0, hz1, hz2⟩ := info_parts hinfo
  refine wpList_append_own _ hgd s x t ho lo e i0 z 1 bytes ht hi0 hz0 hz1 hz2 hzs (by decide) v n xs hs (hown.1.alloc _) ⟨w.heap.size, 0, none⟩ 1 1 [y] hx rfl ?_ ?_ ?_ ?_ ?_ ?_
  · intro j u hj
    match j, hj with
    | 0, hj =>
      simp at hj; subst hj
      have := heap_alloc_new w (.cells #[y] e (0, 0))
      simp only [Addr.add, World.cell?, this, if_true]
      rfl
  · intro u hu; simp at hu; subst hu; exact hy
  · unfold maxLen; omega
  · have : (n + 1) * bytes ≤ (1000000000 + 1) * 24 := Nat.mul_le_mul (by omega) hby
    omega
  · have : (w.alloc (.cells #[y] e (0, 0))).heap.size = w.heap.size + 1 := Array.size_push _
    omega
  · intro v' w' h1 h2 h3
    refine h v' w' (Rw.of_own h1) ?_ ?_
    · refine Chg.of_grown (grownBy.trans (World.grownBy_alloc w _ _) h2) ?_
      intro k hk
      have := hown.1.lt k hk
      have := hown.2 k hk
      omega
    · intro hv; have := h3.1 hv; omega
/-- 'out = append(out, x, y)' on a row that the call itself made; each of one cell. -/
theorem app_rws {P : Program} {w : World} {ops : Array Oper} {rest : List Oper} {o : Oper} {a : Act} {Q : Exit → Act → World → Prop} (hgd : o.guard = none) (s x : Operand) (t : TypeId)
    (ho : o.op = .call { callee := .builtin .append, args := #[s, x], argTypes := #[t, t] })
    (lo hi : Nat) (e : TypeId) (z : Value) (bytes : Nat) (ht : P.underlying t = some (.slice e)) (hinfo : (P.info? e).map (fun i => (i.zero, i.size, i.bytes)) = some (some z, 1, bytes)) (hzs : z.cells.size = 1)
    (v : Value) (n : Nat) (xs : List Value) (cs : Array Value) (m : Nat) (hown : Rw e 1 lo hi w v n xs) (hcs : cs.size = m) (hm : m ≤ 1000000000) (hs : a.eval s = v) (hx : a.eval x = .slice (some ⟨w.heap.size, 0, none⟩) m m) (hy : ∀ y ∈ cs.toList, y.oneCell' = true) (hby : bytes ≤ 24) (hn : n ≤ 1000000000)
    (hbase : lo ≤ w.heap.size)
    (h : ∀ v' w', Rw e 1 lo w'.heap.size w' v' (n + m) (xs ++ cs.toList) → Chg lo hi w w' → wpList P ops Q rest (a.put o.dst v') w') :
    wpList P ops Q (o :: rest) a (w.alloc (.cells cs e (0, 0))) := by
  obtain ⟨i0, hi0, hz0, hz1, hz2⟩ := info_parts hinfo
  refine wpList_append_own _ hgd s x t ho lo e i0 z 1 bytes ht hi0 hz0 hz1 hz2 hzs (by decide) v n xs hs (hown.1.alloc _) ⟨w.heap.size, 0, none⟩ m m cs.toList hx (by simpa using hcs) ?_ hy ?_ ?_ ?_ ?_
  · intro j u hj
    have hb := Blk.new w e cs
    rw [show (⟨w.heap.size, 0, none⟩ : Addr).add j = ⟨w.heap.size, j, none⟩ by unfold Addr.add; split <;> simp_all]
    rw [hb.cell j]
    simpa using hj
  · unfold maxLen; omega
  · have : (n + m) * bytes ≤ (1000000000 + 1000000000) * 24 := Nat.mul_le_mul (by omega) hby
    omega
  · have : (w.alloc (.cells cs e (0, 0))).heap.size = w.heap.size + 1 := Array.size_push _
    omega
  · intro v' w' h1 h2 h3
    refine h v' w' (Rw.of_own h1) ?_
    refine Chg.of_grown (grownBy.trans (World.grownBy_alloc w _ _) h2) ?_
    intro k hk
    have := hown.1.lt k hk
    have := hown.2 k hk
    omega
/-- append on a row that the call itself made, of cells that lie anywhere, as a step of a region that draws. -/
theorem run_app {P : Program} {W : World} (lo hi : Nat) (t ty e : TypeId) (z : Value) (size bytes : Nat) (ht : P.underlying t = some (.slice e)) (hinfo : (P.info? e).map (fun i => (i.zero, i.size, i.bytes)) = some (some z, size, bytes)) (hzs : z.cells.size = size) (hsz : 0 < size)
    (v : Value) (n : Nat) (xs : List Value) (hown : Rw e size lo hi W v n xs) (A : Addr) (m c : Nat) (news : List Value) (hl : news.length = m * size) (hm : m ≤ 1000000000) (hnews : ∀ j u, news[j]? = some u → W.cell? (A.add j) = some u) (hy : ∀ y ∈ news, y.oneCell' = true) (hby : bytes ≤ 24) (hn : n ≤ 1000000000)
    (hbase : lo ≤ W.heap.size) :
    ∃ v' w', (Builtin.append_ #[t, t] ty #[v, .slice (some A) m c]).run P W = .ok v' w' ∧ Rw e size lo w'.heap.size w' v' (n + m) (xs ++ news) ∧ Chg lo hi W w' := by
  obtain ⟨i0, hi0, hz0, hz1, hz2⟩ := info_parts hinfo
  obtain ⟨v', w', h1, h2, h3, h4⟩ := run_append_own W lo t ty e i0 z size bytes ht hi0 hz0 hz1 hz2 hzs hsz v n xs hown.1 A m c news hl hnews hy (by unfold maxLen; omega) (by
    have : (n + m) * bytes ≤ (1000000000 + 1000000000) * 24 := Nat.mul_le_mul (by omega) hby
    omega) hbase
  refine ⟨v', w', h1, Rw.of_own h2, Chg.of_grown h3 ?_⟩
  intro k hk
  have := hown.1.lt k hk
  have := hown.2 k hk
  omega
theorem step_app {P : Program} {ops : Array Oper} {o : Oper} {a : Act} {W : World} {K : Act → World → Prop} {Q : Exit → Act → World → Prop} {E : Prop}
    (hgd : o.guard = none) (s x : Operand) (t : TypeId) (ho : o.op = Op.call { callee := Callee.builtin Builtin.append, args := #[s, x], argTypes := #[t, t] })
    (lo hi : Nat) (e : TypeId) (z : Value) (size bytes : Nat) (ht : P.underlying t = some (.slice e)) (hinfo : (P.info? e).map (fun i => (i.zero, i.size, i.bytes)) = some (some z, size, bytes)) (hzs : z.cells.size = size) (hsz : 0 < size)
    (v : Value) (n : Nat) (xs : List Value) (hown : Rw e size lo hi W v n xs) (A : Addr) (m c : Nat) (news : List Value) (hl : news.length = m * size) (hm : m ≤ 1000000000) (hnews : ∀ j u, news[j]? = some u → W.cell? (A.add j) = some u) (hy : ∀ y ∈ news, y.oneCell' = true) (hby : bytes ≤ 24) (hn : n ≤ 1000000000)
    (hbase : lo ≤ W.heap.size) (hs : a.eval s = v) (hx : a.eval x = .slice (some A) m c)
    (h : ∀ v' w', Rw e size lo w'.heap.size w' v' (n + m) (xs ++ news) → Chg lo hi W w' → K (a.put o.dst v') w') :
    if Region.wanted o (yielded ops a.tmps) = true then Oper.wp P o a W K Q else E := by
  have hw : Region.wanted o (yielded ops a.tmps) = true := by simp [Region.wanted, hgd]
  rw [if_pos hw]
  obtain ⟨v', w', hrun, h2, h3⟩ := run_app (P := P) lo hi t o.type e z size bytes ht hinfo hzs hsz v n xs hown A m c news hl hm hnews hy hby hn hbase
  unfold Oper.wp execOp
  simp only [ho, resolve, invoke, builtin, Sem.run_bind, Sem.run_pure, Result.andThen_ok, List.map_toArray, List.map_cons, List.map_nil, hs, hx, hrun]
  exact h v' w' h2 h3
/-- append, in a plain region, of cells that lie anywhere. -/
theorem app_any {P : Program} {W : World} {ops : Array Oper} {rest : List Oper} {o : Oper} {a : Act} {Q : Exit → Act → World → Prop} (hgd : o.guard = none) (s x : Operand) (t : TypeId)
    (ho : o.op = .call { callee := .builtin .append, args := #[s, x], argTypes := #[t, t] })
    (lo hi : Nat) (e : TypeId) (z : Value) (size bytes : Nat) (ht : P.underlying t = some (.slice e)) (hinfo : (P.info? e).map (fun i => (i.zero, i.size, i.bytes)) = some (some z, size, bytes)) (hzs : z.cells.size = size) (hsz : 0 < size)
    (v : Value) (n : Nat) (xs : List Value) (hown : Rw e size lo hi W v n xs) (A : Addr) (m c : Nat) (news : List Value) (hl : news.length = m * size) (hm : m ≤ 1000000000) (hnews : ∀ j u, news[j]? = some u → W.cell? (A.add j) = some u) (hy : ∀ y ∈ news, y.oneCell' = true) (hby : bytes ≤ 24) (hn : n ≤ 1000000000)
    (hbase : lo ≤ W.heap.size) (hs : a.eval s = v) (hx : a.eval x = .slice (some A) m c)
    (h : ∀ v' w', Rw e size lo w'.heap.size w' v' (n + m) (xs ++ news) → Chg lo hi W w' → wpList P ops Q rest (a.put o.dst v') w') : wpList P ops Q (o :: rest) a W := by
  refine wpList_plain hgd fun K hK => ?_
  obtain ⟨v', w', hrun, h2, h3⟩ := run_app (P := P) lo hi t o.type e z size bytes ht hinfo hzs hsz v n xs hown A m c news hl hm hnews hy hby hn hbase
  unfold Oper.wp execOp
  simp only [ho, resolve, invoke, builtin, Sem.run_bind, Sem.run_pure, Result.andThen_ok, List.map_toArray, List.map_cons, List.map_nil, hs, hx, hrun]
  exact hK _ _ (h v' w' h2 h3)
theorem quiet_left {P : Program} {f : FuncId} {args : Array Value} {w : World} {n : Nat} {v : Value}
    (h : Calls P f args (w.drewN n) fun e w' => e = .returned v ∧ w.drewN n = w') : Calls P f args (w.drewN n) fun e w'' => e = .returned v ∧ ∃ m, w'' = w.drewN m :=
  h.mono fun _ _ ⟨he, hm⟩ => ⟨he, n, hm.symm⟩
theorem quiet_add_left {P : Program} {f : FuncId} {args : Array Value} {w : World} {a n : Nat} {v : Value}
    (h : Calls P f args (w.drewN (a + n)) fun e w' => e = .returned v ∧ w.drewN (a + n) = w') :
    Calls P f args (w.drewN (a + n)) fun e w'' => e = .returned v ∧ ∃ m, w'' = w.drewN (a + m) :=
  h.mono fun _ _ ⟨he, hm⟩ => ⟨he, n, hm.symm⟩
/-- Two rules for the walk: old cells and old marks read as before. -/
theorem kcell {W w1 : World} (hb : Keep W w1) : (∀ b o, b < W.heap.size → w1.cell? ⟨b, o, none⟩ = W.cell? ⟨b, o, none⟩) ∧ (∀ b o, b < W.heap.size → w1.frozen? ⟨b, o, none⟩ = W.frozen? ⟨b, o, none⟩) :=
  ⟨fun b o h => hb.below.cell (p := ⟨b, o, none⟩) h, fun b o h => hb.below.frozen (p := ⟨b, o, none⟩) h⟩
theorem Keep.ad (w : World) (o : Obj) : Keep w (w.alloc o).drew := ((Chg.refl 0 0 w).alloc o).drew
theorem one2 (k : IntKind) (a b : Int) : ∀ y ∈ [Value.int k a, Value.int k b], y.oneCell' = true := by simp [Value.oneCell']
theorem one1 (k : IntKind) (a : Int) : ∀ y ∈ [Value.int k a], y.oneCell' = true := by simp [Value.oneCell']
theorem add0 (g j : Nat) : (⟨g, 0, none⟩ : Addr).add j = ⟨g, j, none⟩ := by unfold Addr.add; split <;> simp_all
/-- The cells of a new block. -/
theorem new_cells (w : World) (e : TypeId) (cs : List Value) : ∀ j u, cs[j]? = some u → (w.alloc (.cells cs.toArray e (0, 0))).cell? ((⟨w.heap.size, 0, none⟩ : Addr).add j) = some u := by
  intro j u hj
  rw [add0, (Blk.new w e cs.toArray).cell j]
  simpa using hj
theorem run_append_of_nil {P : Program} (w : World) (base : Nat) (t ty e : TypeId) (i : TypeInfo) (size : Nat) (ht : P.underlying t = some (.slice e)) (hi : P.info? e = some i)
    (v : Value) (n : Nat) (xs : List Value) (hown : w.ownsRow base e size v n xs) (c : Nat) : (Builtin.append_ #[t, t] ty #[v, .slice none 0 c]).run P w = .ok v w := by
  rcases hown.2 with ⟨rfl, rfl⟩ | ⟨g, cap, cur, rfl, _, _, hnc, _⟩
  · simp [Builtin.append_, run_underlying ht, sizeOf, typeInfo, hi, Builtin.lenOf, Builtin.firstCells]
  · simp [Builtin.append_, run_underlying ht, sizeOf, typeInfo, hi, Builtin.lenOf, Builtin.firstCells, hnc, storeCells]
/-- append of a whole row that calls made, nil or not. -/
theorem run_app_row {P : Program} {W : World} (lo hi lo' hi' : Nat) (t ty e : TypeId) (z : Value) (size bytes : Nat) (ht : P.underlying t = some (.slice e)) (hinfo : (P.info? e).map (fun i => (i.zero, i.size, i.bytes)) = some (some z, size, bytes)) (hzs : z.cells.size = size) (hsz : 0 < size)
    (v u : Value) (n m : Nat) (xs news : List Value) (hown : Rw e size lo hi W v n xs) (hsrc : Rw e size lo' hi' W u m news) (hm : m ≤ 1000000000) (hy : ∀ y ∈ news, y.oneCell' = true) (hby : bytes ≤ 24) (hn : n ≤ 1000000000)
    (hbase : lo ≤ W.heap.size) :
    ∃ v' w', (Builtin.append_ #[t, t] ty #[v, u]).run P W = .ok v' w' ∧ Rw e size lo w'.heap.size w' v' (n + m) (xs ++ news) ∧ Chg lo hi W w' := by
  obtain ⟨i0, hi0, hz0, hz1, hz2⟩ := info_parts hinfo
  have hs' := hsrc.1
  have hsl := hsrc.1.1
  rcases hs'.2 with ⟨rfl, rfl⟩ | ⟨g, cap, cur, rfl, _, hg, _⟩
  · have : news = [] := List.eq_nil_of_length_eq_zero (by simpa using hsl)
    subst this
    exact ⟨v, W, run_append_of_nil W lo t ty e i0 size ht hi0 v n xs hown.1 0, by simpa using Rw.of_own hown.1, Chg.refl _ _ _⟩
  · refine run_app (P := P) lo hi t ty e z size bytes ht hinfo hzs hsz v n xs hown ⟨g, 0, none⟩ m cap news hsl hm ?_ hy hby hn hbase
    exact hs'.cells (g := g) rfl
theorem app_row {P : Program} {W : World} {ops : Array Oper} {rest : List Oper} {o : Oper} {a : Act} {Q : Exit → Act → World → Prop} (hgd : o.guard = none) (s x : Operand) (t : TypeId)
    (ho : o.op = .call { callee := .builtin .append, args := #[s, x], argTypes := #[t, t] })
    (lo hi lo' hi' : Nat) (e : TypeId) (z : Value) (size bytes : Nat) (ht : P.underlying t = some (.slice e)) (hinfo : (P.info? e).map (fun i => (i.zero, i.size, i.bytes)) = some (some z, size, bytes)) (hzs : z.cells.size = size) (hsz : 0 < size)
    (v u : Value) (n m : Nat) (xs news : List Value) (hown : Rw e size lo hi W v n xs) (hsrc : Rw e size lo' hi' W u m news) (hm : m ≤ 1000000000) (hy : ∀ y ∈ news, y.oneCell' = true) (hby : bytes ≤ 24) (hn : n ≤ 1000000000)
    (hbase : lo ≤ W.heap.size) (hs : a.eval s = v) (hx : a.eval x = u)
    (h : ∀ v' w', Rw e size lo w'.heap.size w' v' (n + m) (xs ++ news) → Chg lo hi W w' → wpList P ops Q rest (a.put o.dst v') w') : wpList P ops Q (o :: rest) a W := by
  refine wpList_plain hgd fun K hK => ?_
  obtain ⟨v', w', hrun, h2, h3⟩ := run_app_row (P := P) lo hi lo' hi' t o.type e z size bytes ht hinfo hzs hsz v u n m xs news hown hsrc hm hy hby hn hbase
  unfold Oper.wp execOp
  simp only [ho, resolve, invoke, builtin, Sem.run_bind, Sem.run_pure, Result.andThen_ok, List.map_toArray, List.map_cons, List.map_nil, hs, hx, hrun]
  exact hK _ _ (h v' w' h2 h3)
theorem step_row {P : Program} {ops : Array Oper} {o : Oper} {a : Act} {W : World} {K : Act → World → Prop} {Q : Exit → Act → World → Prop} {E : Prop}
    (hgd : o.guard = none) (s x : Operand) (t : TypeId) (ho : o.op = Op.call { callee := Callee.builtin Builtin.append, args := #[s, x], argTypes := #[t, t] })
    (lo hi lo' hi' : Nat) (e : TypeId) (z : Value) (size bytes : Nat) (ht : P.underlying t = some (.slice e)) (hinfo : (P.info? e).map (fun i => (i.zero, i.size, i.bytes)) = some (some z, size, bytes)) (hzs : z.cells.size = size) (hsz : 0 < size)
    (v u : Value) (n m : Nat) (xs news : List Value) (hown : Rw e size lo hi W v n xs) (hsrc : Rw e size lo' hi' W u m news) (hm : m ≤ 1000000000) (hy : ∀ y ∈ news, y.oneCell' = true) (hby : bytes ≤ 24) (hn : n ≤ 1000000000)
    (hbase : lo ≤ W.heap.size) (hs : a.eval s = v) (hx : a.eval x = u)
    (h : ∀ v' w', Rw e size lo w'.heap.size w' v' (n + m) (xs ++ news) → Chg lo hi W w' → K (a.put o.dst v') w') :
    if Region.wanted o (yielded ops a.tmps) = true then Oper.wp P o a W K Q else E := by
  have hw : Region.wanted o (yielded ops a.tmps) = true := by simp [Region.wanted, hgd]
  rw [if_pos hw]
  obtain ⟨v', w', hrun, h2, h3⟩ := run_app_row (P := P) lo hi lo' hi' t o.type e z size bytes ht hinfo hzs hsz v u n m xs news hown hsrc hm hy hby hn hbase
  unfold Oper.wp execOp
  simp only [ho, resolve, invoke, builtin, Sem.run_bind, Sem.run_pure, Result.andThen_ok, List.map_toArray, List.map_cons, List.map_nil, hs, hx, hrun]
  exact h v' w' h2 h3
/-- 'make([]T, 0, n)'. -/
theorem make0_rw {P : Program} {w : World} {ops : Array Oper} {rest : List Oper} {o : Oper} {a : Act} {Q : Exit → Act → World → Prop}
    (hg : o.guard = none) (l c : Operand) (t : TypeId) (hop : o.op = Op.makeSlice t l c)
    (e : TypeId) (z : Value) (size bytes : Nat) (h1 : P.underlying t = some (.slice e)) (hinfo : (P.info? e).map (fun i => (i.zero, i.size, i.bytes)) = some (some z, size, bytes))
    (kl kc : IntKind) (C : Int) (n : Nat) (hl : a.eval l = .int kl 0) (hc : a.eval c = .int kc C) (hC : C = (n : Int)) (hn : n ≤ 1000000000) (hby : bytes ≤ 24)
    (hK : ∀ v' w', Rw e size w.heap.size w'.heap.size w' v' 0 [] → Keep w w' → wpList P ops Q rest (a.put o.dst v') w') :
    wpList P ops Q (o :: rest) a w := by
  obtain ⟨i0, hi0, hz0, hz1, hz2⟩ := info_parts hinfo
  refine wpList_make_own w hg l c t hop w.heap.size e i0 z size h1 hi0 hz0 hz1 kl kc C n hl hc hC ?_ ?_ (Nat.le_refl _) fun w' h2 h3 => hK _ w' (Rw.of_own h2) (Keep.of_grown h3)
  · rw [hz2]
    have : bytes * n ≤ 24 * 1000000000 := Nat.mul_le_mul hby hn
    omega
  · unfold maxLen; omega
/-- 'make([]T, n)'. -/
theorem maken_rw {P : Program} {w : World} {ops : Array Oper} {rest : List Oper} {o : Oper} {a : Act} {Q : Exit → Act → World → Prop}
    (hg : o.guard = none) (l c : Operand) (t : TypeId) (hop : o.op = Op.makeSlice t l c)
    (e : TypeId) (z : Value) (size bytes : Nat) (h1 : P.underlying t = some (.slice e)) (hinfo : (P.info? e).map (fun i => (i.zero, i.size, i.bytes)) = some (some z, size, bytes))
    (kl kc : IntKind) (L C : Int) (n : Nat) (hl : a.eval l = .int kl L) (hc : a.eval c = .int kc C) (hL : L = (n : Int)) (hC : C = (n : Int)) (hn : n ≤ 1000000000) (hby : bytes ≤ 24)
    (hK : ∀ v' w', Rw e size w.heap.size w'.heap.size w' v' n (madeCells z.cells (n * size)).toList → Keep w w' → wpList P ops Q rest (a.put o.dst v') w') :
    wpList P ops Q (o :: rest) a w := by
  obtain ⟨i0, hi0, hz0, hz1, hz2⟩ := info_parts hinfo
  refine wpList_make_full w hg l c t hop w.heap.size e i0 z size h1 hi0 hz0 hz1 kl kc L C n hl hc hL hC ?_ ?_ (Nat.le_refl _) fun w' h2 h3 => hK _ w' (Rw.of_own h2) (Keep.of_grown h3)
  · rw [hz2]
    have : bytes * n ≤ 24 * 1000000000 := Nat.mul_le_mul hby hn
    omega
  · unfold maxLen; omega
theorem Rw.empty (w : World) (E sz lo : Nat) (hb : lo ≤ w.heap.size) : Rw E sz lo (w.heap.size + 1) (w.alloc (.cells #[] E (0, 0))) (.slice (some ⟨w.heap.size, 0, none⟩) 0 0) 0 [] :=
  Rw.lit w E sz 0 lo #[] hb (by decide) (by simp)
theorem SI.empty (w : World) (lo : Nat) (hb : lo ≤ w.heap.size) : SI lo (w.heap.size + 1) (w.alloc (.cells #[] 3 (0, 0))) (.slice (some ⟨w.heap.size, 0, none⟩) 0 0) [] := Rw.empty w _ _ lo hb
theorem SI.app {lo hi : Nat} {w : World} {v : Value} {zs : List Int} {y : Int} (h : Rw 3 1 lo hi w v (zs.length + 1) (zs.map (Value.int .i64) ++ [.int .i64 y])) : SI lo hi w v (zs ++ [y]) := by
  unfold SI; simpa using h
/-- The marks that are laid into a slice. -/
def marks (k0 : Int) (n : Nat) : List Int := (List.range n).map (fun j : Nat => k0 + (j : Int))
theorem marks_len (k0 : Int) (n : Nat) : (marks k0 n).length = n := by simp [marks]
theorem set_at {α : Type} (A B : List α) (x y : α) (k : Nat) (hk : k = A.length) : (A ++ x :: B).set k y = A ++ y :: B := by
  subst hk; simp
theorem marks_set (k0 : Int) (zs : List Int) (k : Nat) (hk : k < zs.length) : (marks k0 k ++ zs.drop k).set k (k0 + k) = marks k0 (k + 1) ++ zs.drop (k + 1) := by
  rw [List.drop_eq_getElem_cons hk, set_at _ _ _ _ _ (marks_len k0 k).symm]
  simp [marks, List.range_succ]
/-- Blocks of other element types than those of Es have not turned. -/
def KeepNot (Es : List TypeId) (w w' : World) : Prop := ∀ (k : Nat) (cs : Array Value) (T : TypeId) (m : Nat × Nat), w.heap[k]? = some (.cells cs T m) → T ∉ Es → w'.heap[k]? = w.heap[k]?
theorem KeepNot.refl (Es : List TypeId) (w : World) : KeepNot Es w w := fun _ _ _ _ _ _ => rfl
theorem KeepNot.trans {Es : List TypeId} {a b c : World} (h1 : KeepNot Es a b) (h2 : KeepNot Es b c) : KeepNot Es a c := by
  intro k cs T m h hT
  have e := h1 k cs T m h hT
  rw [h2 k cs T m (e.trans h) hT, e]
theorem KeepNot.mono {Es Fs : List TypeId} {a b : World} (h1 : KeepNot Es a b) (hs : ∀ T, T ∈ Es → T ∈ Fs) : KeepNot Fs a b := fun k cs T m h hT => h1 k cs T m h fun hx => hT (hs T hx)
theorem KeepNot.of_keep {Es : List TypeId} {a b : World} (h : Keep a b) : KeepNot Es a b := fun k cs T m hk _ => h.block k (lt_of_block hk) (.inr (Nat.zero_le _))
theorem KeepNot.of_row {E sz lo hi : Nat} {w w' : World} {v : Value} {n : Nat} {xs : List Value} (h : Rw E sz lo hi w v n xs) (hk : ∀ k, k < w.heap.size → v.ownBlock ≠ some k → w'.heap[k]? = w.heap[k]?) : KeepNot [E] w w' := by
  intro k cs T m hc hT
  refine hk k (lt_of_block hc) ?_
  intro e
  obtain ⟨_, ⟨rfl, _⟩ | ⟨g, cap, cur, rfl, _, hh, _⟩⟩ := h.1
  · simp [Value.ownBlock] at e
  · simp [Value.ownBlock] at e
    subst e
    rw [hh] at hc
    injection hc with hc
    injection hc with _ ht
    exact hT (by rw [← ht]; exact List.mem_singleton.2 rfl)
theorem Rw.keepNot {E sz lo hi : Nat} {Es : List TypeId} {w w' : World} {v : Value} {n : Nat} {xs : List Value} (h : Rw E sz lo hi w v n xs) (hk : KeepNot Es w w') (hne : E ∉ Es) : Rw E sz lo hi w' v n xs := by
  refine ⟨⟨h.1.1, ?_⟩, h.2⟩
  rcases h.1.2 with hn | ⟨g, cap, cur, rfl, hb, hg, rest⟩
  · exact .inl hn
  · exact .inr ⟨g, cap, cur, rfl, hb, by rw [hk g _ _ _ hg hne]; exact hg, rest⟩
end Go.Proofs.YtpbcaaoohcgalabDoor
