/- Words for memory that calls make: which blocks have turned, rows of numbers, marks, pairs and texts that lie in blocks of a range, and rows of rows. -/
import Derived.Test.YtpbcaaoohcgalabDoorDraw
import Derived.Deep.OwnRows
namespace Go.Proofs.YtpbcaaoohcgalabDoor
open Go.ChangeShapes Go.WideShapes Go.ChangeAt Go.RowKit
set_option linter.unusedSimpArgs false
set_option linter.unusedVariables false

/-- Only blocks from l up to h, and new ones, have turned. -/
structure Chg (l h : Nat) (w w' : World) : Prop where
  os : w'.os = w.os
  tape : w'.tape = w.tape
  output : w'.output = w.output
  size : w.heap.size ≤ w'.heap.size
  block : ∀ k, k < w.heap.size → (k < l ∨ h ≤ k) → w'.heap[k]? = w.heap[k]?
/-- No old block has turned. -/
abbrev Keep (w w' : World) : Prop := Chg 0 0 w w'
theorem Chg.refl (l h : Nat) (w : World) : Chg l h w w := ⟨rfl, rfl, rfl, Nat.le_refl _, fun _ _ _ => rfl⟩
theorem Chg.comp {l h l' h' : Nat} {a b c : World} (h1 : Chg l h a b) (h2 : Chg l' h' b c) (hx : a.heap.size ≤ l' ∨ (l ≤ l' ∧ h' ≤ h) ∨ h' ≤ l') : Chg l h a c :=
  ⟨h2.os.trans h1.os, h2.tape.trans h1.tape, h2.output.trans h1.output, Nat.le_trans h1.size h2.size, fun k hk hn => (h2.block k (Nat.lt_of_lt_of_le hk h1.size) (by omega)).trans (h1.block k hk hn)⟩
theorem Chg.trans {l h : Nat} {a b c : World} (h1 : Chg l h a b) (h2 : Chg l h b c) : Chg l h a c := h1.comp h2 (.inr (.inl ⟨Nat.le_refl _, Nat.le_refl _⟩))
theorem Chg.keep {l h : Nat} {a b c : World} (h1 : Chg l h a b) (h2 : Keep b c) : Chg l h a c := h1.comp h2 (.inr (.inr (Nat.le_refl _)))
theorem Chg.mono {l h l' h' : Nat} {a b : World} (h1 : Chg l h a b) (hx : l' ≤ l ∧ h ≤ h' ∨ h ≤ l ∨ a.heap.size ≤ l) : Chg l' h' a b := ⟨h1.os, h1.tape, h1.output, h1.size, fun k hk hn => h1.block k hk (by omega)⟩
theorem Keep.any {l h : Nat} {a b : World} (h1 : Keep a b) : Chg l h a b := h1.mono (.inr (.inl (Nat.le_refl _)))
theorem Chg.of_grown {l h : Nat} {a b : World} {r : Option Nat} (hg : a.grownBy b r) (hr : ∀ k, r = some k → (l ≤ k ∧ k < h) ∨ a.heap.size ≤ k) : Chg l h a b :=
  ⟨hg.os, hg.tape, hg.output, hg.size, fun k hk hn => hg.block k hk (by intro e; have := hr k e.symm; omega)⟩
theorem Keep.of_grown {a b : World} (hg : a.grownBy b none) : Keep a b := Chg.of_grown hg (by simp)
theorem Keep.of_below {a b : World} (hb : Below a.heap.size a b) : Keep a b := ⟨hb.os, hb.tape, hb.output, hb.size, fun k hk _ => hb.block k hk⟩
theorem Chg.below {l h B : Nat} {a b : World} (hc : Chg l h a b) (hB : B ≤ a.heap.size) (hx : B ≤ l ∨ h ≤ l) : Below B a b :=
  ⟨hc.os, hc.tape, hc.output, hc.size, fun k hk => hc.block k (by omega) (by omega)⟩
theorem Keep.below {a b : World} (hc : Keep a b) : Below a.heap.size a b := Chg.below hc (Nat.le_refl _) (.inr (Nat.le_refl _))
theorem Keep.grown {a b : World} (hc : Keep a b) (r : Option Nat) : a.grownBy b r := ⟨hc.os, hc.tape, hc.output, hc.size, fun k hk _ => hc.block k hk (.inr (Nat.zero_le _))⟩
theorem Chg.alloc {l h : Nat} {a b : World} (hc : Chg l h a b) (o : Obj) : Chg l h a (b.alloc o) := hc.keep (Keep.of_grown (World.grownBy_alloc b o none))
theorem Chg.drewN {l h : Nat} {a b : World} (hc : Chg l h a b) (n : Nat) : Chg l h a (b.drewN n) := ⟨hc.os, hc.tape, hc.output, hc.size, hc.block⟩
theorem Chg.drew {l h : Nat} {a b : World} (hc : Chg l h a b) : Chg l h a b.drew := ⟨hc.os, hc.tape, hc.output, hc.size, hc.block⟩
theorem Chg.set {l h : Nat} {a b : World} (hc : Chg l h a b) (g j : Nat) (u : Value) (hx : (l ≤ g ∧ g < h) ∨ a.heap.size ≤ g) : Chg l h a (b.setCell ⟨g, j, none⟩ u) :=
  ⟨hc.os, hc.tape, hc.output, by simpa [World.setCell] using hc.size, fun k hk hn => (Below.heap_setCell b ⟨g, j, none⟩ u k (by intro e; have e2 : k = g := e; omega)).trans (hc.block k hk hn)⟩
/-- What a fact on the blocks from lo up to hi asks, to be carried on. -/
theorem Chg.at_ {l h lo hi : Nat} {w w' : World} (hc : Chg l h w w') (hd : hi ≤ l ∨ h ≤ lo ∨ h ≤ l ∨ hi ≤ lo ∨ w.heap.size ≤ l) : ∀ k, lo ≤ k → k < hi → k < w.heap.size → w'.heap[k]? = w.heap[k]? :=
  fun k h1 h2 h3 => hc.block k h3 (by omega)

/-- A block that is known whole. -/
def Blk (w : World) (g : Nat) (t : TypeId) (cs : Array Value) : Prop := w.heap[g]? = some (.cells cs t (0, 0))
theorem Blk.lt {w : World} {g : Nat} {t : TypeId} {cs : Array Value} (h : Blk w g t cs) : g < w.heap.size := lt_of_block h
theorem Blk.cell {w : World} {g : Nat} {t : TypeId} {cs : Array Value} (h : Blk w g t cs) (i : Nat) : w.cell? ⟨g, i, none⟩ = cs[i]? := cell_of_row w g i cs t (0, 0) h
theorem Blk.frozen {w : World} {g : Nat} {t : TypeId} {cs : Array Value} (h : Blk w g t cs) (i : Nat) : w.frozen? ⟨g, i, none⟩ = false := by
  unfold Blk at h
  simp [World.frozen?, h]
theorem Blk.new (w : World) (t : TypeId) (cs : Array Value) : Blk (w.alloc (.cells cs t)) w.heap.size t cs := heap_alloc_new w _
theorem Blk.mv {l h : Nat} {w w' : World} {g : Nat} {t : TypeId} {cs : Array Value} (hb : Blk w g t cs) (hc : Chg l h w w') (hd : g < l ∨ h ≤ g ∨ h ≤ l ∨ w.heap.size ≤ l) : Blk w' g t cs :=
  (hc.block g hb.lt (by have := hb.lt; omega)).trans hb
theorem Blk.keep {w w' : World} {g : Nat} {t : TypeId} {cs : Array Value} (hb : Blk w g t cs) (hc : Keep w w') : Blk w' g t cs := hb.mv hc (.inr (.inl (Nat.zero_le _)))
theorem Blk.set_ {w : World} {g : Nat} {t : TypeId} {cs : Array Value} (h : Blk w g t cs) (i : Nat) (u : Value) : Blk (w.setCell ⟨g, i, none⟩ u) g t (cs.setIfInBounds i u) := by
  unfold Blk at h ⊢
  simp [World.setCell, Array.getElem?_modify, h]
theorem Blk.far {w : World} {g : Nat} {t : TypeId} {cs : Array Value} (h : Blk w g t cs) {p : Addr} (hp : g ≠ p.block) (u : Value) : Blk (w.setCell p u) g t cs := (Below.heap_setCell w p u g hp).trans h

/-- A row of n elements, each of sz cells of type E: it is nil or a whole block from lo up to hi. -/
def Rw (E sz lo hi : Nat) (w : World) (v : Value) (n : Nat) (xs : List Value) : Prop := w.ownsRow lo E sz v n xs ∧ ∀ k, v.ownBlock = some k → k < hi
theorem Rw.same {E sz lo hi : Nat} {w w' : World} {v : Value} {n : Nat} {xs : List Value} (h : Rw E sz lo hi w v n xs) (hk : ∀ k, lo ≤ k → k < hi → k < w.heap.size → w'.heap[k]? = w.heap[k]?) : Rw E sz lo hi w' v n xs := by
  refine ⟨⟨h.1.1, ?_⟩, h.2⟩
  rcases h.1.2 with hn | ⟨g, cap, cur, rfl, hb, hg, rest⟩
  · exact .inl hn
  · refine .inr ⟨g, cap, cur, rfl, hb, ?_, rest⟩
    rw [hk g hb (h.2 g rfl) (lt_of_block hg)]; exact hg
theorem Rw.mv {l h E sz lo hi : Nat} {w w' : World} {v : Value} {n : Nat} {xs : List Value} (hr : Rw E sz lo hi w v n xs) (hc : Chg l h w w') (hd : hi ≤ l ∨ h ≤ lo ∨ h ≤ l ∨ hi ≤ lo ∨ w.heap.size ≤ l) : Rw E sz lo hi w' v n xs := hr.same (hc.at_ hd)
theorem Rw.wide {E sz lo hi lo' hi' : Nat} {w : World} {v : Value} {n : Nat} {xs : List Value} (h : Rw E sz lo hi w v n xs) (h1 : lo' ≤ lo) (h2 : hi ≤ hi') : Rw E sz lo' hi' w v n xs := by
  refine ⟨⟨h.1.1, h.1.2.imp id ?_⟩, fun k hk => Nat.lt_of_lt_of_le (h.2 k hk) h2⟩
  rintro ⟨g, cap, cur, h3, h4, h5⟩
  exact ⟨g, cap, cur, h3, Nat.le_trans h1 h4, h5⟩
theorem Rw.nil (E sz lo hi : Nat) (w : World) : Rw E sz lo hi w (.slice none 0 0) 0 [] := ⟨World.ownsRow_nil w lo E sz, by simp [Value.ownBlock]⟩
theorem Rw.of_own {E sz lo : Nat} {w : World} {v : Value} {n : Nat} {xs : List Value} (h : w.ownsRow lo E sz v n xs) : Rw E sz lo w.heap.size w v n xs := ⟨h, fun k hk => (h.lt k hk).2⟩
theorem Rw.lit (w : World) (E sz n lo : Nat) (cs : Array Value) (hb : lo ≤ w.heap.size) (hm : n ≤ maxLen) (hs : cs.size = n * sz) : Rw E sz lo (w.heap.size + 1) (w.alloc (.cells cs E (0, 0))) (.slice (some ⟨w.heap.size, 0, none⟩) n n) n cs.toList :=
  ⟨World.ownsRow_lit w cs n hb hm hs, by intro k hk; simp [Value.ownBlock] at hk; omega⟩
/-- The value, and each cell of the row. -/
theorem Rw.opened {E sz lo hi : Nat} {w : World} {v : Value} {n : Nat} {xs : List Value} (h : Rw E sz lo hi w v n xs) :
    ∃ ao cap, v = .slice ao n cap ∧ n ≤ cap ∧ ∀ j, j < n * sz → ∃ g u, ao = some ⟨g, 0, none⟩ ∧ lo ≤ g ∧ g < hi ∧ g < w.heap.size ∧ xs[j]? = some u ∧ w.cell? ⟨g, j, none⟩ = some u ∧ w.frozen? ⟨g, j, none⟩ = false := by
  have h' := h.1
  have hl := h.1.1
  obtain ⟨_, ⟨rfl, rfl⟩ | ⟨g, cap, cur, rfl, hb, hh, hc, hm, hs, ht⟩⟩ := h.1
  · exact ⟨none, 0, rfl, Nat.le_refl _, fun j hj => by simp at hj⟩
  · refine ⟨_, cap, rfl, hc, ?_⟩
    intro j hj
    have hx : xs[j]? = some (xs[j]'(by omega)) := List.getElem?_eq_getElem (by omega)
    exact ⟨g, _, rfl, hb, h.2 g rfl, lt_of_block hh, hx, (World.ownsRow.cellAt h' j hj).trans hx, World.ownsRow.frozenAt h' j⟩
theorem Rw.store {E sz lo hi : Nat} {w : World} {g cap : Nat} {n : Nat} {xs : List Value} (h : Rw E sz lo hi w (.slice (some ⟨g, 0, none⟩) n cap) n xs) (j : Nat) (u : Value) :
    Rw E sz lo hi (w.setCell ⟨g, j, none⟩ u) (.slice (some ⟨g, 0, none⟩) n cap) n (xs.set j u) := ⟨(World.ownsRow.stored h.1 j u).1, h.2⟩
theorem Rw.ne {E sz lo hi E' sz' lo' hi' : Nat} {w : World} {v v' : Value} {n n' : Nat} {xs xs' : List Value} (h : Rw E sz lo hi w v n xs) (h' : Rw E' sz' lo' hi' w v' n' xs') (hE : E ≠ E') {k k' : Nat} (hk : v.ownBlock = some k) (hk' : v'.ownBlock = some k') : k ≠ k' := by
  rintro rfl
  obtain ⟨_, ⟨rfl, _⟩ | ⟨g, cap, cur, rfl, _, hh, _⟩⟩ := h.1
  · simp [Value.ownBlock] at hk
  obtain ⟨_, ⟨rfl, _⟩ | ⟨g', cap', cur', rfl, _, hh', _⟩⟩ := h'.1
  · simp [Value.ownBlock] at hk'
  simp [Value.ownBlock] at hk hk'
  subst hk; subst hk'
  rw [hh] at hh'
  injection hh' with hh'
  injection hh' with _ ht
  exact hE ht
theorem Rw.ne_blk {E sz lo hi : Nat} {w : World} {v : Value} {n : Nat} {xs : List Value} {g : Nat} {t : TypeId} {cs : Array Value} (h : Rw E sz lo hi w v n xs) (h' : Blk w g t cs) (hE : E ≠ t) : v.ownBlock ≠ some g := by
  intro hk
  obtain ⟨_, ⟨rfl, _⟩ | ⟨g, cap, cur, rfl, _, hh, _⟩⟩ := h.1
  · simp [Value.ownBlock] at hk
  simp [Value.ownBlock] at hk
  subst hk
  unfold Blk at h'
  rw [hh] at h'
  injection h' with hh'
  injection hh' with _ ht
  exact hE ht

/-! ## Rows of numbers -/
def SI (lo hi : Nat) (w : World) (v : Value) (zs : List Int) : Prop := Rw 3 1 lo hi w v zs.length (zs.map (Value.int .i64))
theorem SI.mv {l h lo hi : Nat} {w w' : World} {v : Value} {zs : List Int} (hr : SI lo hi w v zs) (hc : Chg l h w w') (hd : hi ≤ l ∨ h ≤ lo ∨ h ≤ l ∨ hi ≤ lo ∨ w.heap.size ≤ l) : SI lo hi w' v zs := Rw.mv hr hc hd
theorem SI.keep {lo hi : Nat} {w w' : World} {v : Value} {zs : List Int} (hr : SI lo hi w v zs) (hc : Keep w w') : SI lo hi w' v zs := Rw.mv hr hc (.inr (.inl (Nat.zero_le _)))
theorem SI.wide {lo hi lo' hi' : Nat} {w : World} {v : Value} {zs : List Int} (h : SI lo hi w v zs) (h1 : lo' ≤ lo) (h2 : hi ≤ hi') : SI lo' hi' w v zs := Rw.wide h h1 h2
theorem SI.of_own {lo : Nat} {w : World} {v : Value} {zs : List Int} (h : OwnI lo w v zs) : SI lo w.heap.size w v zs := Rw.of_own h
theorem SI.made {lo hi : Nat} {w : World} {v : Value} {n : Nat} (h : Rw 3 1 lo hi w v n (madeCells (Value.int .i64 0).cells (n * 1)).toList) : SI lo hi w v (List.replicate n 0) := by
  unfold SI
  rw [Nat.mul_one, show (Value.int .i64 0).cells = #[Value.int .i64 0] from rfl, toList_madeCells_one] at h
  simpa using h
theorem SI.nil (lo hi : Nat) (w : World) : SI lo hi w (.slice none 0 0) [] := Rw.nil _ _ _ _ _
theorem SI.opened {lo hi : Nat} {w : World} {v : Value} {zs : List Int} (h : SI lo hi w v zs) :
    ∃ ao cap, v = .slice ao zs.length cap ∧ zs.length ≤ cap ∧ ∀ j, j < zs.length → ∃ g, ao = some ⟨g, 0, none⟩ ∧ lo ≤ g ∧ g < hi ∧ g < w.heap.size ∧ w.cell? ⟨g, j, none⟩ = some (.int .i64 (zs.getD j 0)) ∧ w.frozen? ⟨g, j, none⟩ = false := by
  obtain ⟨ao, cap, e, hc, hf⟩ := Rw.opened h
  refine ⟨ao, cap, e, hc, fun j hj => ?_⟩
  obtain ⟨g, u, e1, h1, h2, h3, hx, hcell, hfr⟩ := hf j (by omega)
  refine ⟨g, e1, h1, h2, h3, ?_, hfr⟩
  rw [hcell, ← hx]
  simp [List.getD, List.getElem?_eq_getElem hj]
theorem SI.store {lo hi : Nat} {w : World} {g n cap : Nat} {zs : List Int} (h : SI lo hi w (.slice (some ⟨g, 0, none⟩) n cap) zs) (hn : n = zs.length) (j : Nat) (y : Int) : SI lo hi (w.setCell ⟨g, j, none⟩ (.int .i64 y)) (.slice (some ⟨g, 0, none⟩) n cap) (zs.set j y) := by
  subst hn
  have := Rw.store h j (.int .i64 y)
  unfold SI
  simpa [List.map_set] using this
/-! ## Rows of bools -/
/-! ## Rows of pairs (table entries) -/
/-! ## Rows of rows of numbers -/
def SSt (lo hi : Nat) (w : World) (v : Value) (ss : List ByteArray) : Prop := Rw 9 1 lo hi w v ss.length (ss.map Value.string)
theorem SSt.mv {l h lo hi : Nat} {w w' : World} {v : Value} {ss : List ByteArray} (hr : SSt lo hi w v ss) (hc : Chg l h w w') (hd : hi ≤ l ∨ h ≤ lo ∨ h ≤ l ∨ hi ≤ lo ∨ w.heap.size ≤ l) : SSt lo hi w' v ss := Rw.mv hr hc hd
theorem SSt.keep {lo hi : Nat} {w w' : World} {v : Value} {ss : List ByteArray} (hr : SSt lo hi w v ss) (hc : Keep w w') : SSt lo hi w' v ss := Rw.mv hr hc (.inr (.inl (Nat.zero_le _)))
theorem SSt.wide {lo hi lo' hi' : Nat} {w : World} {v : Value} {ss : List ByteArray} (h : SSt lo hi w v ss) (h1 : lo' ≤ lo) (h2 : hi ≤ hi') : SSt lo' hi' w v ss := Rw.wide h h1 h2
theorem SSt.nil (lo hi : Nat) (w : World) : SSt lo hi w (.slice none 0 0) [] := Rw.nil _ _ _ _ _
theorem SSt.opened {lo hi : Nat} {w : World} {v : Value} {ss : List ByteArray} (h : SSt lo hi w v ss) :
    ∃ ao cap, v = .slice ao ss.length cap ∧ ss.length ≤ cap ∧ ∀ j, j < ss.length → ∃ g, ao = some ⟨g, 0, none⟩ ∧ lo ≤ g ∧ g < hi ∧ g < w.heap.size ∧ w.cell? ⟨g, j, none⟩ = some (.string (ss.getD j .empty)) ∧ w.frozen? ⟨g, j, none⟩ = false := by
  obtain ⟨ao, cap, e, hc, hf⟩ := Rw.opened h
  refine ⟨ao, cap, e, hc, fun j hj => ?_⟩
  obtain ⟨g, u, e1, h1, h2, h3, hx, hcell, hfr⟩ := hf j (by omega)
  refine ⟨g, e1, h1, h2, h3, ?_, hfr⟩
  rw [hcell, ← hx]
  simp [List.getD, List.getElem?_eq_getElem hj]
theorem SSt.store {lo hi : Nat} {w : World} {g n cap : Nat} {ss : List ByteArray} (h : SSt lo hi w (.slice (some ⟨g, 0, none⟩) n cap) ss) (hn : n = ss.length) (j : Nat) (y : ByteArray) : SSt lo hi (w.setCell ⟨g, j, none⟩ (.string y)) (.slice (some ⟨g, 0, none⟩) n cap) (ss.set j y) := by
  subst hn
  have := Rw.store h j (.string y)
  unfold SSt
  simpa [List.map_set] using this
end Go.Proofs.YtpbcaaoohcgalabDoor
