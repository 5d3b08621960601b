/- The drawing functions of the reference: a cursor over bytes gives numbers in their ranges and writes its own block alone. -/
import Derived.Test.YtpbcaaoohcgalaaSmall
import Derived.BigQuiet
import Derived.Deep.QuietTactic
import Derived.OneCell
import Derived.OwnWalk
namespace Go.Proofs.Ytpbcaaoohcgalaa
open Go.ChangeShapes Go.WideShapes Go.ChangeAt Go.RowKit
set_option linter.unusedSimpArgs false
set_option linter.unusedVariables false

theorem and_mask {x : Int} {m : Nat} (hm : m < 9223372036854775808) : 0 ≤ bits BinOp.and IntKind.i64 x m ∧ bits BinOp.and IntKind.i64 x m ≤ m := by
  have h1 : (BitVec.ofInt 64 x &&& BitVec.ofInt 64 (m : Int)).toNat ≤ m := by
    rw [BitVec.toNat_and]
    refine Nat.le_trans Nat.and_le_right ?_
    simp [BitVec.toNat_ofInt]
    omega
  have h2 : bits BinOp.and IntKind.i64 x m = wrap64 ((BitVec.ofInt 64 x &&& BitVec.ofInt 64 (m : Int)).toNat : Int) := IntWalk.i64_left _
  rw [h2, IntWalk.wrap64_in _ ⟨by omega, by omega⟩]
  omega
theorem and_255 (x : Int) : 0 ≤ bits BinOp.and IntKind.i64 x 255 ∧ bits BinOp.and IntKind.i64 x 255 ≤ 255 := and_mask (m := 255) (by omega)
theorem and_30 (x : Int) : 0 ≤ bits BinOp.and IntKind.i64 x 1073741823 ∧ bits BinOp.and IntKind.i64 x 1073741823 ≤ 1073741823 := and_mask (m := 1073741823) (by omega)

theorem grownBy.trans {a b c : World} {r : Option Nat} (h : a.grownBy b r) (k : b.grownBy c r) : a.grownBy c r :=
  ⟨k.os.trans h.os, k.tape.trans h.tape, k.output.trans h.output, Nat.le_trans h.size k.size, fun i hi hr => (k.block i (Nat.lt_of_lt_of_le hi h.size) hr).trans (h.block i hi hr)⟩

/-- The cursor that lies in block C; its bytes lie below block B. -/
structure Cur (B C : Nat) (w : World) : Prop where
  le : B ≤ C
  has : ∃ (ao : Option Addr) (n cap : Nat) (i : Nat) (h : Int), w.heap[C]? = some (.cells #[.slice ao n cap, .int .i64 i, .int .i64 h] 57 (0, 0)) ∧ n ≤ 1048576 ∧ i ≤ n ∧
    ∀ t : Nat, t < n → ∃ (b : Addr) (z : Int), ao = some b ∧ b.block < B ∧ w.cell? (b.add t) = some (.int .u8 z) ∧ 0 ≤ z ∧ z ≤ 255

theorem add_block (b : Addr) (t : Nat) : (b.add t).block = b.block := by unfold Addr.add; split <;> rfl
theorem Cur.kept {B C : Nat} {w w' : World} {r : Option Nat} (h : Cur B C w) (hg : w.grownBy w' r) (hr : ∀ k, r = some k → C < k) : Cur B C w' := by
  obtain ⟨ao, n, cap, i, hh, h1, h2, h4, h5⟩ := h.has
  have hC := lt_of_block h1
  have hle := h.le
  refine ⟨h.le, ao, n, cap, i, hh, ?_, h2, h4, ?_⟩
  · rw [hg.block C hC (by intro e; have := hr C e.symm; omega)]; exact h1
  · intro t ht
    obtain ⟨b, z, e1, e2, e3, e4⟩ := h5 t ht
    refine ⟨b, z, e1, e2, ?_, e4⟩
    have hx : ¬ (some (b.add t).block = r) := by rw [add_block]; intro e; have := hr _ e.symm; omega
    exact hg.cell e3 hx
theorem set3_2 {w : World} {C : Nat} {a b c u : Value} {T : TypeId} (h : w.heap[C]? = some (.cells #[a, b, c] T (0, 0))) : (w.setCell ⟨C, 2, none⟩ u).heap[C]? = some (.cells #[a, b, u] T (0, 0)) := by
  have hlt := lt_of_block h
  have h' : w.heap[C] = .cells #[a, b, c] T (0, 0) := by simpa [Array.getElem?_eq_getElem hlt] using h
  show (w.heap.modify C _)[C]? = _
  rw [Array.getElem?_eq_getElem (by simpa using hlt), Array.getElem_modify_self, h']
  rfl
theorem set3_1 {w : World} {C : Nat} {a b c u : Value} {T : TypeId} (h : w.heap[C]? = some (.cells #[a, b, c] T (0, 0))) : (w.setCell ⟨C, 1, none⟩ u).heap[C]? = some (.cells #[a, u, c] T (0, 0)) := by
  have hlt := lt_of_block h
  have h' : w.heap[C] = .cells #[a, b, c] T (0, 0) := by simpa [Array.getElem?_eq_getElem hlt] using h
  show (w.heap.modify C _)[C]? = _
  rw [Array.getElem?_eq_getElem (by simpa using hlt), Array.getElem_modify_self, h']
  rfl
theorem grownBy_setCell (w : World) (C j : Nat) (u : Value) : w.grownBy (w.setCell ⟨C, j, none⟩ u) (some C) := by
  have hB := Below.setCell (Below.refl C w) (p := ⟨C, j, none⟩) (Nat.le_refl _) u
  exact ⟨hB.os, hB.tape, hB.output, hB.size, fun k hk hne => Below.heap_setCell w ⟨C, j, none⟩ u k (fun e => hne (by rw [e]))⟩
theorem grownBy_drewN (w : World) (n : Nat) (r : Option Nat) : w.grownBy (w.drewN n) r := ⟨rfl, rfl, rfl, Nat.le_refl _, fun _ _ _ => rfl⟩
theorem gS {a w : World} {C j : Nat} {u : Value} (h : a.grownBy w (some C)) : a.grownBy (w.setCell ⟨C, j, none⟩ u) (some C) := grownBy.trans h (grownBy_setCell w C j u)
theorem gD {a w : World} {n : Nat} {r : Option Nat} (h : a.grownBy w r) : a.grownBy (w.drewN n) r := grownBy.trans h (grownBy_drewN w n r)
theorem cur_next {B C : Nat} {w w' : World} {ao : Option Addr} {n cap : Nat} {i i' : Nat} {h h' : Int} {T : TypeId} (hT : T = 57) (hle : B ≤ C) (hb : w.heap[C]? = some (.cells #[.slice ao n cap, .int .i64 i, .int .i64 h] T (0, 0)))
    (hn : n ≤ 1048576) (hin : i' ≤ n) (hcode : ∀ t : Nat, t < n → ∃ (b : Addr) (z : Int), ao = some b ∧ b.block < B ∧ w.cell? (b.add t) = some (.int .u8 z) ∧ 0 ≤ z ∧ z ≤ 255)
    (hg : w.grownBy w' (some C)) (hb' : w'.heap[C]? = some (.cells #[.slice ao n cap, .int .i64 i', .int .i64 h'] T (0, 0))) : Cur B C w' := by
  subst hT
  refine ⟨hle, ao, n, cap, i', h', hb', hn, hin, ?_⟩
  intro t ht
  obtain ⟨b, z, e1, e2, e3, e4⟩ := hcode t ht
  refine ⟨b, z, e1, e2, ?_, e4⟩
  exact hg.cell e3 (by rw [add_block]; intro e; simp at e; omega)
theorem l01Byte_any {B C : Nat} (w : World) (hc : Cur B C w) :
    Calls Try.prog 64 #[.pointer (some ⟨C, 0, none⟩)] w fun e w' => ∃ x : Int, 0 ≤ x ∧ x ≤ 255 ∧ e = .returned (.int .i64 x) ∧ Cur B C w' ∧ w.grownBy w' (some C) := by
  obtain ⟨ao, n, cap, i, h, hb, hn, hin, hcode⟩ := hc.has
  have hle := hc.le
  have HB := Lib.hid hb
  have HC := Lib.hid hcode
  clear hc
  have c0 : w.cell? ⟨C, 0, none⟩ = some (.slice ao n cap) := by simp [World.cell?, hb]
  have c1 : w.cell? ⟨C, 1, none⟩ = some (.int .i64 i) := by simp [World.cell?, hb]
  have c2 : w.cell? ⟨C, 2, none⟩ = some (.int .i64 h) := by simp [World.cell?, hb]
  have f1 : w.frozen? ⟨C, 1, none⟩ = false := by simp [World.frozen?, hb]
  have f2 : w.frozen? ⟨C, 2, none⟩ = false := by simp [World.frozen?, hb]
  by_cases hlt : i < n
  · obtain ⟨b, z, rfl, hbB, hz, hz0, hz1⟩ := hcode i hlt
    clear hb hcode
    have hne : b.block ≠ C := by omega
    have hz' : ∀ v, (w.setCell ⟨C, 2, none⟩ v).cell? (b.add i) = some (.int .u8 z) := fun v => (grownBy_setCell w C 2 v).cell hz (by rw [add_block]; simpa using hne)
    clear hz
    go_enter Try.func64, Try.ntmps64
    go_wp2_with fail
    go_quiet (fail)
    go_wp2_with fail
    go_quiet (fail)
    go_wp2_with fail
    go_quiet (fail)
    go_wp2_with fail
    go_ret
    refine ⟨_, (and_255 _).1, (and_255 _).2, rfl, ?_, ?_⟩
    · exact cur_next (i' := i + 1) rfl hle HB.out hn (by omega) HC.out (by repeat (first | exact World.grownBy.refl _ _ | apply gS | apply gD)) (set3_1 (set3_2 HB.out))
    · exact (by repeat (first | exact World.grownBy.refl _ _ | apply gS | apply gD))
  · clear hb hcode
    go_enter Try.func64, Try.ntmps64
    go_wp2_with fail
    go_quiet (fail)
    go_wp2_with fail
    go_quiet (fail)
    go_wp2_with fail
    go_ret
    refine ⟨_, (and_255 _).1, (and_255 _).2, rfl, ?_, ?_⟩
    · exact cur_next rfl hle HB.out hn hin HC.out (by repeat (first | exact World.grownBy.refl _ _ | apply gS | apply gD)) (set3_2 HB.out)
    · exact (by repeat (first | exact World.grownBy.refl _ _ | apply gS | apply gD))
theorem l01Below_any {B C : Nat} (n : Int) (w : World) (hc : Cur B C w) :
    Calls Try.prog 58 #[.pointer (some ⟨C, 0, none⟩), .int .i64 n] w fun e w' => ∃ x : Int, 0 ≤ x ∧ (0 < n → x < n) ∧ (n ≤ 0 → x = 0) ∧ e = .returned (.int .i64 x) ∧ Cur B C w' ∧ w.grownBy w' (some C) := by
  by_cases h0 : n ≤ 0
  · go_enter Try.func58, Try.ntmps58
    go_wp2_with fail
    go_ret
    exact ⟨0, by omega, by omega, by omega, rfl, hc, World.grownBy.refl _ _⟩
  · by_cases h1 : n ≤ 256
    · have hn0 : n ≠ 0 := by omega
      go_enter Try.func58, Try.ntmps58
      go_wp2_with (go_at_call 64; refine (l01Byte_any _ (by assumption)).mono ?_; rintro e w1 ⟨x, hx0, hx1, rfl, hc1, hg1⟩)
      go_ret
      refine ⟨_, Int.emod_nonneg _ hn0, fun _ => Int.emod_lt_of_pos _ (by omega), by omega, rfl, hc1, hg1⟩
    · have hn0 : n ≠ 0 := by omega
      go_enter Try.func58, Try.ntmps58
      go_wp2_with (first | (go_at_call 64; refine (l01Byte_any _ hc).mono ?_; rintro e w1 ⟨x, hx0, hx1, rfl, hc1, hg1⟩; clear hc) | (go_at_call 64; refine (l01Byte_any _ hc1).mono ?_; rintro e w2 ⟨y, hy0, hy1, rfl, hc2, hg2⟩; clear hc1) | (go_at_call 64; refine (l01Byte_any _ hc2).mono ?_; rintro e w3 ⟨z, hz0, hz1, rfl, hc3, hg3⟩; clear hc2) | (go_at_call 64; refine (l01Byte_any _ hc3).mono ?_; rintro e w4 ⟨v, hv0, hv1, rfl, hc4, hg4⟩; clear hc3))
      go_ret
      refine ⟨_, Int.emod_nonneg _ hn0, fun _ => Int.emod_lt_of_pos _ (by omega), by omega, rfl, hc4, grownBy.trans hg1 (grownBy.trans hg2 (grownBy.trans hg3 hg4))⟩
theorem l01Once_any {B C : Nat} (n : Int) (w : World) (hc : Cur B C w) :
    Calls Try.prog 59 #[.pointer (some ⟨C, 0, none⟩), .int .i64 n] w fun e w' => ∃ b : Bool, e = .returned (.bool b) ∧ Cur B C w' ∧ w.grownBy w' (some C) := by
  go_enter Try.func59, Try.ntmps59
  go_wp2_with (go_at_call 58; refine (l01Below_any _ _ hc).mono ?_; rintro e w1 ⟨x, hx0, hx1, hx2, rfl, hc1, hg1⟩)
  go_ret
  exact ⟨_, rfl, hc1, hg1⟩
/-- The bytes that a law is given, in blocks below B. -/
def Code (B : Nat) (w : World) (ao : Option Addr) (n : Nat) : Prop := ∀ t : Nat, t < n → ∃ (b : Addr) (z : Int), ao = some b ∧ b.block < B ∧ w.cell? (b.add t) = some (.int .u8 z) ∧ 0 ≤ z ∧ z ≤ 255
theorem size_alloc (w : World) (o : Obj) : (w.alloc o).heap.size = w.heap.size + 1 := Array.size_push _
theorem cur_new {ao : Option Addr} {n cap : Nat} {y : Int} {w : World} (hn : n ≤ 1048576) (hcode : Code w.heap.size w ao n) :
    Cur w.heap.size w.heap.size (w.alloc (.cells #[.slice ao n cap, .int .i64 0, .int .i64 y] 57 (0, 0))) ∧ Below w.heap.size w (w.alloc (.cells #[.slice ao n cap, .int .i64 0, .int .i64 y] 57 (0, 0))) := by
  have hB := Below.alloc (Below.refl w.heap.size w) (Nat.le_refl _) (.cells #[.slice ao n cap, .int .i64 0, .int .i64 y] 57 (0, 0))
  refine ⟨⟨Nat.le_refl _, ao, n, cap, 0, y, heap_alloc_new _ _, hn, Nat.zero_le _, ?_⟩, hB⟩
  intro t ht
  obtain ⟨b, z, e1, e2, e3, e4⟩ := hcode t ht
  exact ⟨b, z, e1, e2, (hB.cell (by rw [add_block]; exact e2)).trans e3, e4⟩
theorem l01New_any (ao : Option Addr) (n cap : Nat) (w : World) (hn : n ≤ 1048576) (hcode : Code w.heap.size w ao n) :
    Calls Try.prog 57 #[.slice ao n cap] w fun e w' => e = .returned (.pointer (some ⟨w.heap.size, 0, none⟩)) ∧ Cur w.heap.size w.heap.size w' ∧ Below w.heap.size w w' ∧ w'.heap.size = w.heap.size + 1 := by
  have HC := Lib.hid hcode
  go_enter Try.func57, Try.ntmps57
  go_wp2_with fail
  go_loop [3, 4] (fun h i => ∃ (k : Nat) (y : Int), k ≤ n ∧ i = .int .i64 k ∧ h = .int .i64 y) (fun _ i => n - (intOf i).toNat)
  case atStart => exact ⟨0, _, Nat.zero_le _, rfl, rfl⟩
  case round =>
    obtain ⟨k, y, hk, rfl, rfl⟩ := hrel
    by_cases hlt : k < n
    · by_cases h4 : (k : Int) < 4000
      · obtain ⟨b, z, rfl, hb, hz, hz0, hz1⟩ := hcode k hlt
        clear hcode
        go_wp2_with fail
        go_round
        case rel => exact ⟨k + 1, _, by omega, by go_num, rfl⟩
        case measure => simp [intOf]; omega
      · clear hcode
        go_wp2_with fail
        go_ret
        exact ⟨rfl, (cur_new hn HC.out).1, (cur_new hn HC.out).2, size_alloc _ _⟩
    · clear hcode
      go_wp2_with fail
      go_ret
      exact ⟨rfl, (cur_new hn HC.out).1, (cur_new hn HC.out).2, size_alloc _ _⟩
/-- 'out = append(out, x)' on a row that the call itself made; x of one cell. -/
theorem app_one {P : Program} {w : World} {ops : Array Oper} {rest : List Oper} {o : Oper} {a : Act} {Q : Exit → Act → World → Prop} (hgd : o.guard = none) (s x : Operand) (t : TypeId)
    (ho : o.op = .call { callee := .builtin .append, args := #[s, x], argTypes := #[t, t] })
    (base : Nat) (e : TypeId) (z : Value) (bytes : Nat) (ht : P.underlying t = some (.slice e)) (hinfo : (P.info? e).map (fun i => (i.zero, i.size, i.bytes)) = some (some z, 1, bytes)) (hzs : z.cells.size = 1)
    (v : Value) (n : Nat) (xs : List Value) (y : Value) (hs : a.eval s = v) (hown : w.ownsRow base e 1 v n xs) (hx : a.eval x = .slice (some ⟨w.heap.size, 0, none⟩) 1 1) (hy : y.oneCell' = true) (hby : bytes ≤ 16) (hn : n ≤ 1000000000)
    (hbase : base ≤ w.heap.size)
    (h : ∀ v' w', w'.ownsRow base e 1 v' (n + 1) (xs ++ [y]) → w.grownBy w' v.ownBlock → v' ≠ .slice none 0 0 → wpList P ops Q rest (a.put o.dst v') w') :
    wpList P ops Q (o :: rest) a (w.alloc (.cells #[y] e (0, 0))) := by
  obtain ⟨i0, hi, hz0, hz1, hz2⟩ := info_parts hinfo
  refine wpList_append_own _ hgd s x t ho base e i0 z 1 bytes ht hi hz0 hz1 hz2 hzs (by decide) v n xs hs (hown.alloc _) ⟨w.heap.size, 0, none⟩ 1 1 [y] hx rfl ?_ ?_ ?_ ?_ ?_ ?_
  · intro j u hj
    match j, hj with
    | 0, hj =>
      simp at hj; subst hj
      have := heap_alloc_new w (.cells #[y] e (0, 0))
      simp only [Addr.add, World.cell?, this, if_true]
      rfl
  · intro u hu; simp at hu; subst hu; exact hy
  · unfold maxLen; omega
  · have : (n + 1) * bytes ≤ (1000000000 + 1) * 16 := Nat.mul_le_mul (by omega) hby
    omega
  · have : (w.alloc (.cells #[y] e (0, 0))).heap.size = w.heap.size + 1 := Array.size_push _
    omega
  · intro v' w' h1 h2 h3
    refine h v' w' h1 ?_ ?_
    · exact grownBy.trans (World.grownBy_alloc w _ _) h2
    · intro hv; have := h3.1 hv; omega
theorem own_kept {w w' : World} {base e n : Nat} {v : Value} {xs : List Value} {r : Option Nat} (h : w.ownsRow base e 1 v n xs) (hg : w.grownBy w' r) (hr : ∀ k, r = some k → k < base) : w'.ownsRow base e 1 v n xs := by
  refine h.kept hg ?_
  cases hv : v.ownBlock with
  | none => exact .inl rfl
  | some k => right; intro e; have := hr k e.symm; have := h.lt k hv; omega
theorem own_mono {w : World} {base base' e n : Nat} {v : Value} {xs : List Value} (h : w.ownsRow base e 1 v n xs) (hb : base' ≤ base) : w.ownsRow base' e 1 v n xs := by
  refine ⟨h.1, h.2.imp id ?_⟩
  rintro ⟨g, cap, cur, h1, h2, h3⟩
  exact ⟨g, cap, cur, h1, Nat.le_trans hb h2, h3⟩
theorem own_empty (w : World) (base e : Nat) (hb : base ≤ w.heap.size) : (w.alloc (.cells #[] e (0, 0))).ownsRow base e 1 (.slice (some ⟨w.heap.size, 0, none⟩) 0 0) 0 [] :=
  World.ownsRow_lit w #[] 0 hb (by decide) rfl
theorem Try.infoInt : (Try.prog.info? 3).map (fun i => (i.zero, i.size, i.bytes)) = some (some (.int .i64 0), 1, 8) := by kernel_rfl
/-- A slice of numbers that a call made: it owns the numbers zs. -/
def OwnI (base : Nat) (w : World) (v : Value) (zs : List Int) : Prop := w.ownsRow base 3 1 v zs.length (zs.map (Value.int .i64))
theorem OwnI.app {base : Nat} {w : World} {v : Value} {zs : List Int} {y : Int} (h : w.ownsRow base 3 1 v (zs.length + 1) (zs.map (Value.int .i64) ++ [.int .i64 y])) : OwnI base w v (zs ++ [y]) := by
  unfold OwnI; simpa using h
theorem drawPlaces_any (ao : Option Addr) (n cap : Nat) (w : World) (hn : n ≤ 1048576) (hcode : Code w.heap.size w ao n) :
    Calls Try.prog 28 #[.slice ao n cap] w fun e w' => ∃ (v : Value) (zs : List Int), e = .returned v ∧ zs.length = 12 ∧ (∀ z ∈ zs, 0 ≤ z ∧ z < 10000) ∧ OwnI w.heap.size w' v zs ∧ Below w.heap.size w w' := by
  go_enter Try.func28, Try.ntmps28
  go_wp2_with (go_at_call 57; refine (l01New_any _ _ _ _ hn hcode).mono ?_; rintro e w1 ⟨rfl, hc, hb, hsz⟩; have HS := Lib.hid hsz; clear hsz)
  clear hcode
  go_loopw [4, 5] (fun v i wr => ∃ (zs : List Int), zs.length ≤ 12 ∧ i = .int .i64 zs.length ∧ (∀ z ∈ zs, 0 ≤ z ∧ z < 10000) ∧ OwnI (w.heap.size + 1) wr v zs ∧ Cur w.heap.size w.heap.size wr ∧ Below w.heap.size w wr ∧ w.heap.size + 1 ≤ wr.heap.size) (fun _ i _ => 12 - (intOf i).toNat)
  case atStart =>
    have hb1 := World.grownBy_alloc w1 (.cells #[] 3 (0, 0)) none
    have hsz := HS.out
    exact ⟨[], by decide, rfl, by simp, own_empty w1 (w.heap.size + 1) 3 (by omega), hc.kept hb1 (by simp), hb.grown hb1 (by omega) (by simp), Nat.le_trans (by omega) hb1.size⟩
  case round =>
    obtain ⟨zs, hlen, rfl, hzs, hown, hcr, hbr, hsr⟩ := hrel
    clear hc hb HS
    by_cases hlt : zs.length < 12
    · go_wp2_with (first | (go_at_call 58; refine (l01Below_any _ _ hcr).mono ?_; rintro e w2 ⟨x, hx0, hx1, hx2, rfl, hc2, hg2⟩; have hown2 := own_kept hown hg2 (by rintro k ⟨⟩; omega); have hb2 := hbr.grown hg2 (by omega) (by rintro k ⟨⟩; omega); have hs2 := Nat.le_trans hsr hg2.size; clear hown hbr hcr hsr hg2) | (at_builtin; refine app_one rfl _ _ _ rfl _ _ _ _ Try.underlying35 Try.infoInt rfl _ _ _ (.int .i64 x) rfl hown2 rfl rfl (by decide) (by omega) hs2 ?_; intro v' w3 hown3 hg3 _; have hlt3 := hown2.lt; have hc3 := hc2.kept hg3 (fun k hk => by have := hlt3 k hk; omega); have hb3 := hb2.grown hg3 (by omega) (fun k hk => by have := hlt3 k hk; omega); have hs3 := Nat.le_trans hs2 hg3.size; clear hown2 hlt3 hc2 hb2 hs2 hg3))
      go_roundw
      case rel =>
        refine ⟨zs ++ [x], by simp; omega, by simp, ?_, OwnI.app hown3, hc3, hb3, hs3⟩
        intro z hz
        rcases List.mem_append.1 hz with h | h
        · exact hzs z h
        · simp at h; subst h; exact ⟨hx0, hx1 (by decide)⟩
      case measure => simp [intOf]; omega
    · go_wp2_with fail
      go_ret
      exact ⟨_, zs, rfl, by omega, hzs, own_mono hown (by omega), hbr⟩
theorem OwnI.shape {base : Nat} {w : World} {v : Value} {zs : List Int} (h : OwnI base w v zs) (hl : 0 < zs.length) :
    ∃ g cap, v = .slice (some ⟨g, 0, none⟩) zs.length cap ∧ zs.length ≤ cap ∧ base ≤ g ∧ g < w.heap.size ∧ (∀ j, j < zs.length → w.cell? ⟨g, j, none⟩ = some (.int .i64 (zs.getD j 0))) ∧ ∀ j, w.frozen? ⟨g, j, none⟩ = false := by
  have h' := h
  obtain ⟨h1, ⟨rfl, h2⟩ | ⟨g, cap, cur, rfl, hb, hh, hc, hm, hs, ht⟩⟩ := h
  · omega
  · refine ⟨g, cap, rfl, hc, hb, lt_of_block hh, ?_, ?_⟩
    · intro j hj
      rw [World.ownsRow.cellAt h' j (by omega)]
      simp [List.getElem?_eq_getElem, hj, List.getD]
    · intro j; exact World.ownsRow.frozenAt h' j
theorem big_any (ao : Option Addr) (n cap : Nat) (w : World) :
    Calls Try.prog 27 #[.slice ao n cap] w fun e w' => e = .returned (.bool (decide (1048576 < (n : Int)))) ∧ w = w' := by
  go_enter Try.func27, Try.ntmps27
  go_wp2_with fail
  go_ret
  exact ⟨rfl, rfl⟩
theorem places_any (ao : Option Addr) (n cap : Nat) (w : World) (hn : n ≤ 1048576) (hcode : Code w.heap.size w ao n) :
    Calls Try.prog 28 #[.slice ao n cap] w fun e w' => ∃ (g c : Nat) (p : Nat → Int), e = .returned (.slice (some ⟨g, 0, none⟩) 12 c) ∧ 12 ≤ c ∧ w.heap.size ≤ g ∧ g < w'.heap.size ∧ (∀ j, j < 12 → 0 ≤ p j ∧ p j < 10000 ∧ w'.cell? ⟨g, j, none⟩ = some (.int .i64 (p j))) ∧ Below w.heap.size w w' := by
  refine (drawPlaces_any ao n cap w hn hcode).mono ?_
  rintro e w' ⟨v, zs, rfl, hl, hz, hown, hb⟩
  obtain ⟨g, c, rfl, h1, h2, h3, h4, h5⟩ := hown.shape (by omega)
  refine ⟨g, c, fun j => zs.getD j 0, by rw [hl], by omega, h2, h3, ?_, hb⟩
  intro j hj
  have hj' : j < zs.length := by omega
  have hm : zs.getD j 0 ∈ zs := by simp [List.getD, List.getElem?_eq_getElem hj']
  exact ⟨(hz _ hm).1, (hz _ hm).2, h4 j hj'⟩
