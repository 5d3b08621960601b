/- SplitFields: the fields of a text, plain; their rows; the program's and the reference's SplitFields. -/
import Derived.Test.YtpbcaaoohcgalabDoorHex
import Derived.Laws.DeepStrings4
namespace Go.Proofs.YtpbcaaoohcgalabDoor
open Go.ChangeShapes Go.WideShapes Go.ChangeAt Go.RowKit
set_option linter.unusedSimpArgs false
set_option linter.unusedVariables false
set_option maxRecDepth 100000

/-! ## Plain -/
def spl (cur : List UInt8) : List UInt8 → List (List UInt8)
  | [] => if cur = [] then [] else [cur]
  | c :: t => if c = 32 then (if cur = [] then spl [] t else cur :: spl [] t) else spl (cur ++ [c]) t
def flds (l : List UInt8) : List (List UInt8) := spl [] l
def fld (l : List UInt8) : ByteArray := ⟨l.toArray⟩
def okC (c : UInt8) : Bool := decide (32 ≤ c.toNat) && decide (c.toNat ≤ 126)
def splitOk (l : List UInt8) : Bool := decide (l.length ≤ 600) && l.all okC && decide ((flds l).length ≤ 24)
def splitV (l : List UInt8) : List ByteArray := if splitOk l then (flds l).map fld else []
theorem okC_iff {c : UInt8} : okC c = true ↔ 32 ≤ c.toNat ∧ c.toNat ≤ 126 := by simp [okC]
theorem spl_cons (cur : List UInt8) (c : UInt8) (t : List UInt8) : spl cur (c :: t) = if c = 32 then (if cur = [] then spl [] t else cur :: spl [] t) else spl (cur ++ [c]) t := by rw [spl]
theorem spl_nil (cur : List UInt8) : spl cur [] = if cur = [] then [] else [cur] := by rw [spl]
theorem spl_in {l : List UInt8} : ∀ {cur : List UInt8}, (32 : UInt8) ∉ cur → ∀ f ∈ spl cur l, f ≠ [] ∧ (32 : UInt8) ∉ f ∧ ∀ c ∈ f, c ∈ cur ∨ c ∈ l := by
  induction l with
  | nil =>
    intro cur hc f hf
    rw [spl_nil] at hf
    split at hf
    · cases hf
    · next h => rw [List.mem_singleton] at hf; subst hf; exact ⟨h, hc, fun c h => .inl h⟩
  | cons x t ih =>
    intro cur hc f hf
    rw [spl_cons] at hf
    split at hf
    · next hx =>
      split at hf
      · obtain ⟨a, b, d⟩ := ih (cur := []) (by simp) f hf
        refine ⟨a, b, fun c h => ?_⟩
        rcases d c h with h | h
        · cases h
        · exact .inr (List.mem_cons_of_mem _ h)
      · next hne =>
        rcases List.mem_cons.1 hf with rfl | hf
        · exact ⟨hne, hc, fun c h => .inl h⟩
        · obtain ⟨a, b, d⟩ := ih (cur := []) (by simp) f hf
          refine ⟨a, b, fun c h => ?_⟩
          rcases d c h with h | h
          · cases h
          · exact .inr (List.mem_cons_of_mem _ h)
    · next hx =>
      have hx' : ¬ (32 : UInt8) = x := fun e => hx e.symm
      obtain ⟨a, b, d⟩ := ih (cur := cur ++ [x]) (by simp [hc, hx']) f hf
      refine ⟨a, b, fun c h => ?_⟩
      rcases d c h with h | h
      · rcases List.mem_append.1 h with h | h
        · exact .inl h
        · rw [List.mem_singleton] at h; subst h; exact .inr (List.mem_cons_self ..)
      · exact .inr (List.mem_cons_of_mem _ h)
theorem spl_take (f : List UInt8) : ∀ (cur t : List UInt8), (32 : UInt8) ∉ f → cur ++ f ≠ [] → spl cur (f ++ 32 :: t) = (cur ++ f) :: spl [] t := by
  induction f with
  | nil => intro cur t _ h; rw [List.append_nil] at h ⊢; rw [List.nil_append, spl_cons, if_pos rfl, if_neg h]
  | cons x f ih =>
    intro cur t hf h
    have hx : ¬ x = 32 := fun e => hf (by rw [e]; exact List.mem_cons_self ..)
    rw [List.cons_append, spl_cons, if_neg hx, ih (cur ++ [x]) t (fun e => hf (List.mem_cons_of_mem _ e)) (by simp)]
    simp
/-- The fields, each with a space behind it. -/
def joinS : List (List UInt8) → List UInt8
  | [] => []
  | f :: fs => f ++ 32 :: joinS fs
theorem flds_join : ∀ (fs : List (List UInt8)), (∀ f ∈ fs, f ≠ [] ∧ (32 : UInt8) ∉ f) → flds (joinS fs) = fs := by
  intro fs
  induction fs with
  | nil => intro _; rfl
  | cons f fs ih =>
    intro h
    obtain ⟨h1, h2⟩ := h f (List.mem_cons_self ..)
    have e := ih fun g hg => h g (List.mem_cons_of_mem _ hg)
    unfold flds at e ⊢
    rw [joinS, spl_take f [] _ h2 (by simpa using h1), e, List.nil_append]
theorem joinS_in : ∀ (fs : List (List UInt8)) (p : UInt8 → Prop), p 32 → (∀ f ∈ fs, ∀ c ∈ f, p c) → ∀ c ∈ joinS fs, p c := by
  intro fs p h32
  induction fs with
  | nil => intro _ c hc; cases hc
  | cons f fs ih =>
    intro h c hc
    rw [joinS, List.mem_append, List.mem_cons] at hc
    rcases hc with hc | rfl | hc
    · exact h f (List.mem_cons_self ..) c hc
    · exact h32
    · exact ih (fun g hg => h g (List.mem_cons_of_mem _ hg)) c hc
theorem joinS_app (fs : List (List UInt8)) (f : List UInt8) : joinS (fs ++ [f]) = joinS fs ++ f ++ [32] := by
  induction fs with
  | nil => simp [joinS]
  | cons g fs ih => simp [joinS, ih]
theorem joinS_len {l : List UInt8} : ∀ cur : List UInt8, (joinS (spl cur l)).length ≤ cur.length + l.length + 1 := by
  induction l with
  | nil => intro cur; rw [spl_nil]; split <;> simp [joinS]
  | cons x t ih =>
    intro cur
    rw [spl_cons]
    split
    · split
      · have := ih []; simp at this ⊢; omega
      · have := ih []; simp [joinS] at this ⊢; omega
    · have := ih (cur ++ [x]); simp at this ⊢; omega
theorem flds_in {l : List UInt8} : ∀ f ∈ flds l, f ≠ [] ∧ (32 : UInt8) ∉ f ∧ ∀ c ∈ f, c ∈ l := by
  intro f hf
  obtain ⟨a, b, d⟩ := spl_in (cur := []) (by simp) f hf
  refine ⟨a, b, fun c h => ?_⟩
  rcases d c h with h | h
  · cases h
  · exact h
/-- A line's fields, each with a space behind it, have the same fields. -/
theorem split_again {l : List UInt8} (h : splitOk l = true) (hs : (joinS (flds l)).length ≤ 600) : splitOk (joinS (flds l)) = true ∧ flds (joinS (flds l)) = flds l := by
  have e := flds_join (flds l) fun f hf => ⟨(flds_in f hf).1, (flds_in f hf).2.1⟩
  unfold splitOk at h ⊢
  rw [Bool.and_eq_true, Bool.and_eq_true, decide_eq_true_eq, decide_eq_true_eq] at h
  obtain ⟨⟨h1, h2⟩, h3⟩ := h
  refine ⟨?_, e⟩
  rw [e, Bool.and_eq_true, Bool.and_eq_true, decide_eq_true_eq, decide_eq_true_eq]
  refine ⟨⟨hs, ?_⟩, h3⟩
  rw [List.all_eq_true] at h2 ⊢
  exact joinS_in (flds l) (fun c => okC c = true) (by decide) fun f hf c hc => h2 c ((flds_in f hf).2.2 c hc)
theorem spl_len {l : List UInt8} : ∀ cur : List UInt8, (spl cur l).length ≤ l.length + 1 := by
  induction l with
  | nil => intro cur; rw [spl_nil]; split <;> simp
  | cons x t ih =>
    intro cur
    rw [spl_cons]
    split
    · split
      · have := ih []; simp at this ⊢; omega
      · have := ih []; simp at this ⊢; omega
    · have := ih (cur ++ [x]); simp at this ⊢; omega
theorem flds_mem_len {l : List UInt8} : ∀ cur : List UInt8, ∀ f ∈ spl cur l, f.length ≤ cur.length + l.length := by
  induction l with
  | nil => intro cur f hf; rw [spl_nil] at hf; split at hf
           · cases hf
           · rw [List.mem_singleton] at hf; subst hf; simp
  | cons x t ih =>
    intro cur f hf
    rw [spl_cons] at hf
    split at hf
    · split at hf
      · have := ih [] f hf; simp at this ⊢; omega
      · rcases List.mem_cons.1 hf with rfl | hf
        · simp
        · have := ih [] f hf; simp at this ⊢; omega
    · have := ih (cur ++ [x]) f hf; simp at this ⊢; omega
/-- What has been read up to i: done fields, and a piece from b to i. -/
def SpAt (l : List UInt8) (done : List (List UInt8)) (b i : Nat) : Prop := b ≤ i ∧ i ≤ l.length ∧ done ++ spl ((l.drop b).take (i - b)) (l.drop i) = flds l
theorem piece_nil (l : List UInt8) (i : Nat) : (l.drop i).take (i - i) = [] := by simp
theorem piece_succ {l : List UInt8} {b i : Nat} (hb : b ≤ i) (hi : i < l.length) : (l.drop b).take (i + 1 - b) = (l.drop b).take (i - b) ++ [l[i]] := by
  rw [show i + 1 - b = (i - b) + 1 by omega, List.take_add_one, List.getElem?_drop, show b + (i - b) = i by omega, List.getElem?_eq_getElem hi]; rfl
theorem piece_ne {l : List UInt8} {b i : Nat} (hb : b < i) (hi : i ≤ l.length) : (l.drop b).take (i - b) ≠ [] := by
  intro e
  have := congrArg List.length e
  simp at this
  omega
theorem SpAt.start (l : List UInt8) : SpAt l [] 0 0 := ⟨Nat.le_refl _, Nat.zero_le _, by simp [flds]⟩
theorem SpAt.space {l : List UInt8} {done : List (List UInt8)} {i : Nat} (h : SpAt l done i i) (hi : i < l.length) (hc : l[i] = 32) : SpAt l done (i + 1) (i + 1) := by
  obtain ⟨_, _, h⟩ := h
  refine ⟨Nat.le_refl _, hi, ?_⟩
  rw [piece_nil] at h ⊢
  rw [List.drop_eq_getElem_cons hi, spl_cons, if_pos hc, if_pos rfl] at h
  exact h
theorem SpAt.take {l : List UInt8} {done : List (List UInt8)} {b i : Nat} (h : SpAt l done b i) (hi : i < l.length) (hc : ¬ l[i] = 32) : SpAt l done b (i + 1) := by
  obtain ⟨hb, _, h⟩ := h
  refine ⟨by omega, hi, ?_⟩
  rw [List.drop_eq_getElem_cons hi, spl_cons, if_neg hc] at h
  rw [piece_succ hb hi]; exact h
theorem SpAt.cut {l : List UInt8} {done : List (List UInt8)} {b i : Nat} (h : SpAt l done b i) (hb : b < i) (hi : i < l.length) (hc : l[i] = 32) : SpAt l (done ++ [(l.drop b).take (i - b)]) (i + 1) (i + 1) := by
  obtain ⟨_, _, h⟩ := h
  refine ⟨Nat.le_refl _, hi, ?_⟩
  rw [List.drop_eq_getElem_cons hi, spl_cons, if_pos hc, if_neg (piece_ne hb (by omega))] at h
  rw [piece_nil, List.append_assoc]; exact h
/-- The program's way: the piece is laid down, and the space is read in the next round. -/
theorem SpAt.cut0 {l : List UInt8} {done : List (List UInt8)} {b i : Nat} (h : SpAt l done b i) (hb : b < i) (hi : i = l.length ∨ ∃ h : i < l.length, l[i] = 32) : SpAt l (done ++ [(l.drop b).take (i - b)]) i i := by
  obtain ⟨_, hl, h⟩ := h
  refine ⟨Nat.le_refl _, hl, ?_⟩
  rw [piece_nil, List.append_assoc]
  rcases hi with rfl | ⟨hi, hc⟩
  · rw [List.drop_length] at h ⊢
    rw [spl_nil, if_neg (piece_ne hb (Nat.le_refl _))] at h
    rw [spl_nil, if_pos rfl]; exact h
  · rw [List.drop_eq_getElem_cons hi, spl_cons, if_pos hc, if_neg (piece_ne hb (by omega))] at h
    rw [List.drop_eq_getElem_cons hi, spl_cons, if_pos hc, if_pos rfl]; exact h
theorem SpAt.done {l : List UInt8} {done : List (List UInt8)} (h : SpAt l done l.length l.length) : done = flds l := by
  obtain ⟨_, _, h⟩ := h
  rw [piece_nil, List.drop_length, spl_nil, if_pos rfl, List.append_nil] at h
  exact h
theorem SpAt.len {l : List UInt8} {done : List (List UInt8)} {b i : Nat} (h : SpAt l done b i) : done.length ≤ l.length + 1 := by
  have e := congrArg List.length h.2.2
  have := spl_len (l := l) []
  rw [List.length_append] at e
  unfold flds at e
  omega
theorem extract_fld (s : ByteArray) (a b : Nat) : s.extract a b = fld ((s.data.toList.drop a).take (b - a)) := by
  have h := ByteArray.extract_mk s.data.toList a b
  rw [show (⟨s.data.toList.toArray⟩ : ByteArray) = s from rfl] at h
  exact h
theorem split_no {l : List UInt8} (h : splitOk l = false) : splitV l = [] := by unfold splitV; rw [h]; rfl
theorem split_yes {l : List UInt8} (h : splitOk l = true) : splitV l = (flds l).map fld := by unfold splitV; rw [h]; rfl
theorem split_long {l : List UInt8} (h : 600 < l.length) : splitOk l = false := by
  unfold splitOk
  rw [show decide (l.length ≤ 600) = false by simp; omega]; rfl
theorem split_bad {l : List UInt8} {k : Nat} (hk : k < l.length) (h : okC (l.getD k 0) = false) : splitOk l = false := by
  unfold splitOk
  rw [show l.all okC = false by
    rw [List.all_eq_false]
    refine ⟨l.getD k 0, ?_, by rw [h]; decide⟩
    simp [List.getD, List.getElem?_eq_getElem hk]]
  simp
theorem split_many {l : List UInt8} (h : 24 < (flds l).length) : splitOk l = false := by
  unfold splitOk
  rw [show decide ((flds l).length ≤ 24) = false by simp; omega]; simp
def OkUpto (l : List UInt8) (k : Nat) : Prop := ∀ j, j < k → okC (l.getD j 0) = true
theorem OkUpto.succ {l : List UInt8} {k : Nat} (h : OkUpto l k) (h1 : okC (l.getD k 0) = true) : OkUpto l (k + 1) := by
  intro j hj
  by_cases e : j = k
  · subst e; exact h1
  · exact h j (by omega)
theorem split_good {l : List UInt8} (h1 : l.length ≤ 600) (h2 : OkUpto l l.length) (h3 : (flds l).length ≤ 24) : splitOk l = true := by
  unfold splitOk
  simp only [h1, h3, decide_true, Bool.true_and, Bool.and_true, List.all_eq_true]
  intro c hc
  obtain ⟨j, hj, rfl⟩ := List.getElem_of_mem hc
  have := h2 j hj
  simpa [List.getD, List.getElem?_eq_getElem hj] using this
theorem byte_atS (s : ByteArray) (i : Nat) (h : i < s.size) : s.data.toList.getD i 0 = s[i] := by
  simp [List.getD, h]; rfl
theorem byte_get (s : ByteArray) (i : Nat) (h : i < s.size) : s.data.toList[i]'(by simpa using h) = s[i] := by simp; rfl
theorem u8_eq (c : UInt8) (n : Nat) (hn : n < 256) : c = UInt8.ofNat n ↔ c.toNat = n := by
  constructor
  · rintro rfl; rw [UInt8.toNat_ofNat']; omega
  · intro h; rw [← h]; simp

/-! ## Rows of texts -/
theorem Tryd.infoStr : (Tryd.prog.info? 9).map (fun i => (i.zero, i.size, i.bytes)) = some (some (.string ByteArray.empty), 1, 16) := by kernel_rfl
theorem SSt.empty (w : World) (lo : Nat) (hb : lo ≤ w.heap.size) : SSt lo (w.heap.size + 1) (w.alloc (.cells #[] 9 (0, 0))) (.slice (some ⟨w.heap.size, 0, none⟩) 0 0) [] := Rw.empty w _ _ lo hb
theorem SSt.app {lo hi : Nat} {w : World} {v : Value} {ss : List ByteArray} {y : ByteArray} (h : Rw 9 1 lo hi w v (ss.length + 1) (ss.map Value.string ++ [.string y])) : SSt lo hi w v (ss ++ [y]) := by
  unfold SSt; simpa using h
theorem splitFields_any (s : ByteArray) (w : World) (hm : s.size ≤ maxLen) :
    Calls Tryd.prog 16 #[.string s] w fun e w' => ∃ v, e = .returned (.tuple #[v, .bool (splitOk s.data.toList)]) ∧ SSt w.heap.size w'.heap.size w' v (splitV s.data.toList) ∧ Keep w w' := by
  have hl : s.data.toList.length = s.size := by simp
  have HL := Lib.hid hl
  clear hl
  unfold maxLen at hm
  by_cases hlen : 600 < s.size
  · have HE := Lib.hid (split_long (l := s.data.toList) (by rw [HL.out]; exact hlen))
    have hz : (600 : Int) < s.size := by omega
    go_enter Tryd.func16, Tryd.ntmps16
    go_wp2_with fail
    refine bodyPost_ret (v := .tuple #[.slice none 0 0, .bool false]) (by simp [results, Tryd.results16, go_sem]) rfl ⟨.slice none 0 0, by rw [HE.out], by rw [split_no HE.out]; exact SSt.nil _ _ _, Chg.refl _ _ _⟩
  have hz : ¬ (600 : Int) < s.size := by omega
  go_enter Tryd.func16, Tryd.ntmps16
  go_wp2_with fail
  go_loop [4] (fun i => ∃ k : Nat, k ≤ s.size ∧ i = .int .i64 k ∧ OkUpto s.data.toList k) (fun i => s.size - (intOf i).toNat)
  case atStart => exact ⟨0, Nat.zero_le _, rfl, fun j hj => by omega⟩
  case round =>
    obtain ⟨k, hk, rfl, hok⟩ := hrel
    by_cases hlt : k < s.size
    · have H1 := Lib.hid (byte_atS s k hlt)
      have hc := s[k].toNat_lt
      by_cases p1 : s[k].toNat < 32
      · have HE := Lib.hid (split_bad (l := s.data.toList) (k := k) (by rw [HL.out]; exact hlt) (by rw [H1.out]; unfold okC; rw [show decide (32 ≤ s[k].toNat) = false by simp; omega]; rfl))
        go_wp2_with fail
        refine bodyPost_ret (v := .tuple #[.slice none 0 0, .bool false]) (by simp [results, Tryd.results16, go_sem]) rfl ⟨.slice none 0 0, by rw [HE.out], by rw [split_no HE.out]; exact SSt.nil _ _ _, Chg.refl _ _ _⟩
      by_cases p2 : 126 < s[k].toNat
      · have HE := Lib.hid (split_bad (l := s.data.toList) (k := k) (by rw [HL.out]; exact hlt) (by rw [H1.out]; unfold okC; rw [show decide (s[k].toNat ≤ 126) = false by simp; omega]; simp))
        go_wp2_with fail
        refine bodyPost_ret (v := .tuple #[.slice none 0 0, .bool false]) (by simp [results, Tryd.results16, go_sem]) rfl ⟨.slice none 0 0, by rw [HE.out], by rw [split_no HE.out]; exact SSt.nil _ _ _, Chg.refl _ _ _⟩
      go_wp2_with fail
      go_round
      case rel => exact ⟨k + 1, by omega, by go_num, hok.succ (by rw [H1.out]; exact okC_iff.2 ⟨by omega, by omega⟩)⟩
      case measure => simp [intOf] <;> omega
    · obtain rfl : k = s.size := by omega
      have HOK := Lib.hid hok
      clear hok
      go_wp2_with fail
      go_loopw [5, 6] (fun v i wr => ∃ (done : List (List UInt8)) (k : Nat), i = .int .i64 k ∧ SSt w.heap.size wr.heap.size wr v (done.map fld) ∧ SpAt s.data.toList done k k ∧ Keep w wr) (fun _ i _ => s.size - (intOf i).toNat)
      case atStart => exact ⟨[], 0, rfl, by rw [size_alloc]; exact SSt.empty w w.heap.size (Nat.le_refl _), SpAt.start _, (Chg.refl _ _ _).alloc _⟩
      case round =>
        obtain ⟨done, k, rfl, hown, hat, hg⟩ := hrel
        have hk := hat.2.1
        rw [HL.out] at hk
        have hdl := hat.len
        rw [HL.out] at hdl
        have hgs := hg.size
        by_cases hlt : k < s.size
        · have hlt' : k < s.data.toList.length := by rw [HL.out]; exact hlt
          have H1 := Lib.hid (byte_get s k hlt)
          have hc := s[k].toNat_lt
          by_cases p1 : s[k].toNat = 32
          · have hat2 := hat.space hlt' (by rw [H1.out]; exact (u8_eq _ 32 (by decide)).2 p1)
            have HA := Lib.hid hat2
            clear hat hat2
            go_wp2_with fail
            go_roundw
            case rel => exact ⟨done, k + 1, by go_num, hown, HA.out, hg⟩
            case measure => simp [intOf] <;> omega
          · have HA := Lib.hid hat
            clear hat
            go_wp2_with fail
            go_loop [6] (fun i => ∃ m : Nat, k ≤ m ∧ m ≤ s.size ∧ i = .int .i64 m ∧ SpAt s.data.toList done k m) (fun i => s.size - (intOf i).toNat)
            case atStart => exact ⟨k, Nat.le_refl _, hk, rfl, HA.out⟩
            case round =>
              obtain ⟨m, hm0, hm1, rfl, hat⟩ := hrel
              have HA2 := Lib.hid hat
              clear hat
              by_cases hml : m < s.size
              · have hml' : m < s.data.toList.length := by rw [HL.out]; exact hml
                have H2 := Lib.hid (byte_get s m hml)
                have hcm := s[m].toNat_lt
                by_cases p2 : s[m].toNat = 32
                · have hkm : k < m := by
                    rcases Nat.lt_or_ge k m with h | h
                    · exact h
                    · obtain rfl : k = m := by omega
                      exact absurd p2 p1
                  have hex := extract_fld s k m
                  have HX := Lib.hid (HA2.out.cut0 hkm (.inr ⟨hml', by rw [H2.out]; exact (u8_eq _ 32 (by decide)).2 p2⟩))
                  generalize hf : (s.data.toList.drop k).take (m - k) = f at *
                  clear hf
                  go_wp2_with (at_builtin; refine app_rw rfl _ _ _ rfl _ _ _ _ _ Tryd.underlying32 Tryd.infoStr rfl _ _ _ (.string (fld f)) hown rfl (by first | rfl | (rw [← hex]; rfl)) rfl (by decide) (by simp; omega) hgs ?_; intro v' w3 hown3 hg3 _)
                  go_roundw
                  case rel => exact ⟨done ++ [f], m, rfl, by rw [List.map_append]; exact SSt.app hown3, HX.out, hg.comp hg3 (.inl (Nat.le_refl _))⟩
                  case measure => simp [intOf] <;> omega
                · have HX := Lib.hid (HA2.out.take hml' (by rw [H2.out]; exact fun e => p2 ((u8_eq _ 32 (by decide)).1 e)))
                  go_wp2_with fail
                  go_round
                  case rel => exact ⟨m + 1, by omega, by omega, by go_num, HX.out⟩
                  case measure => simp [intOf] <;> omega
              · obtain rfl : m = s.size := by omega
                have hkm : k < s.size := hlt
                have hex := extract_fld s k s.size
                have HX := Lib.hid (HA2.out.cut0 hkm (.inl HL.out.symm))
                generalize hf : (s.data.toList.drop k).take (s.size - k) = f at *
                clear hf
                go_wp2_with (at_builtin; refine app_rw rfl _ _ _ rfl _ _ _ _ _ Tryd.underlying32 Tryd.infoStr rfl _ _ _ (.string (fld f)) hown rfl (by first | rfl | (rw [← hex]; rfl)) rfl (by decide) (by simp; omega) hgs ?_; intro v' w3 hown3 hg3 _)
                go_roundw
                case rel => exact ⟨done ++ [f], s.size, rfl, by rw [List.map_append]; exact SSt.app hown3, HX.out, hg.comp hg3 (.inl (Nat.le_refl _))⟩
                case measure => simp [intOf] <;> omega
        · obtain rfl : k = s.size := by omega
          have hd : done = flds s.data.toList := by
            have h' := hat
            rw [← HL.out] at h'
            exact h'.done
          subst hd
          obtain ⟨ao, cap, rfl, _, _⟩ := hown.opened
          rw [List.length_map] at *
          by_cases hmany : 24 < (flds s.data.toList).length
          · have hmz : (24 : Int) < (flds s.data.toList).length := by omega
            have HE := Lib.hid (split_many hmany)
            clear hat hown
            go_wp2_with fail
            refine bodyPost_ret (v := .tuple #[.slice none 0 0, .bool false]) (by simp [results, Tryd.results16, go_sem]) rfl ⟨.slice none 0 0, by rw [HE.out], by rw [split_no HE.out]; exact SSt.nil _ _ _, hg⟩
          · have hmz : ¬ (24 : Int) < (flds s.data.toList).length := by omega
            have HE := Lib.hid (split_good (by rw [HL.out]; omega) (by rw [HL.out]; exact HOK.out) (Nat.le_of_not_lt hmany))
            have HOW := Lib.hid hown
            clear hat hown
            go_wp2_with fail
            refine bodyPost_ret (v := .tuple #[.slice ao (flds s.data.toList).length cap, .bool true]) (by simp [results, Tryd.results16, go_sem]) rfl ⟨.slice ao (flds s.data.toList).length cap, by rw [HE.out], by rw [split_yes HE.out]; exact HOW.out, hg⟩
theorem splitFields_spec (s : ByteArray) (w : World) (hm : s.size ≤ maxLen) :
    Calls Tryd.prog 17 #[.string s] w fun e w' => ∃ v, e = .returned (.tuple #[v, .bool (splitOk s.data.toList)]) ∧ SSt w.heap.size w'.heap.size w' v (splitV s.data.toList) ∧ Keep w w' := by
  have hl : s.data.toList.length = s.size := by simp
  have HL := Lib.hid hl
  clear hl
  unfold maxLen at hm
  by_cases hlen : 600 < s.size
  · have HE := Lib.hid (split_long (l := s.data.toList) (by rw [HL.out]; exact hlen))
    have hz : (600 : Int) < s.size := by omega
    go_enter Tryd.func17, Tryd.ntmps17
    go_wp2_with fail
    refine bodyPost_ret (v := .tuple #[.slice (some ⟨w.heap.size, 0, none⟩) 0 0, .bool false]) (by simp [results, Tryd.results17, go_sem]) rfl ⟨_, by rw [HE.out], by rw [split_no HE.out, size_alloc]; exact SSt.empty w w.heap.size (Nat.le_refl _), (Chg.refl _ _ _).alloc _⟩
  have hz : ¬ (600 : Int) < s.size := by omega
  go_enter Tryd.func17, Tryd.ntmps17
  go_wp2_with fail
  go_loopw [4, 5, 6] (fun v b i wr => ∃ (done : List (List UInt8)) (bg k : Nat), i = .int .i64 k ∧ b = .int .i64 bg ∧ done.length ≤ 700 ∧ SSt w.heap.size wr.heap.size wr v (done.map fld) ∧ ((k ≤ s.size ∧ SpAt s.data.toList done bg k ∧ OkUpto s.data.toList k) ∨ (k = s.size + 1 ∧ done = flds s.data.toList ∧ OkUpto s.data.toList s.size)) ∧ Keep w wr) (fun _ _ i _ => s.size + 1 - (intOf i).toNat)
  case atStart => exact ⟨[], 0, 0, rfl, rfl, by decide, by rw [size_alloc]; exact SSt.empty w w.heap.size (Nat.le_refl _), .inl ⟨Nat.zero_le _, SpAt.start _, fun j hj => by omega⟩, (Chg.refl _ _ _).alloc _⟩
  case round =>
    obtain ⟨done, bg, k, rfl, rfl, hdl, hown, hst, hg⟩ := hrel
    have hgs := hg.size
    rcases hst with ⟨hk, hat, hok⟩ | ⟨rfl, rfl, hok⟩
    · have hbk := hat.1
      by_cases hlt : k < s.size
      · have hlt' : k < s.data.toList.length := by rw [HL.out]; exact hlt
        have H1 := Lib.hid (byte_get s k hlt)
        have H2 := Lib.hid (byte_atS s k hlt)
        have hc := s[k].toNat_lt
        have HA := Lib.hid hat
        have HK := Lib.hid hok
        clear hat hok
        by_cases p1 : s[k].toNat < 32
        · have HE := Lib.hid (split_bad (l := s.data.toList) (k := k) (by rw [HL.out]; exact hlt) (by rw [H2.out]; unfold okC; rw [show decide (32 ≤ s[k].toNat) = false by simp; omega]; rfl))
          go_wp2_with fail
          refine bodyPost_ret (v := .tuple #[.slice (some ⟨wr.heap.size, 0, none⟩) 0 0, .bool false]) (by simp [results, Tryd.results17, go_sem]) rfl ⟨_, by rw [HE.out], by rw [split_no HE.out, size_alloc]; exact SSt.empty wr w.heap.size hgs, hg.alloc _⟩
        by_cases p2 : 126 < s[k].toNat
        · have HE := Lib.hid (split_bad (l := s.data.toList) (k := k) (by rw [HL.out]; exact hlt) (by rw [H2.out]; unfold okC; rw [show decide (s[k].toNat ≤ 126) = false by simp; omega]; simp))
          go_wp2_with fail
          refine bodyPost_ret (v := .tuple #[.slice (some ⟨wr.heap.size, 0, none⟩) 0 0, .bool false]) (by simp [results, Tryd.results17, go_sem]) rfl ⟨_, by rw [HE.out], by rw [split_no HE.out, size_alloc]; exact SSt.empty wr w.heap.size hgs, hg.alloc _⟩
        have HK2 := Lib.hid (HK.out.succ (by rw [H2.out]; exact okC_iff.2 ⟨by omega, by omega⟩))
        by_cases p3 : s[k].toNat = 32
        · by_cases p4 : bg < k
          · have hex := extract_fld s bg k
            have hat2 := HA.out.cut p4 hlt' (by rw [H1.out]; exact (u8_eq _ 32 (by decide)).2 p3)
            have hll := hat2.len
            rw [HL.out] at hll
            have HX := Lib.hid hat2
            clear hat2
            generalize hf : (s.data.toList.drop bg).take (k - bg) = f at *
            clear hf
            go_wp2_with (at_builtin; refine app_rw rfl _ _ _ rfl _ _ _ _ _ Tryd.underlying32 Tryd.infoStr rfl _ _ _ (.string (fld f)) hown rfl (by first | rfl | (rw [← hex]; rfl)) rfl (by decide) (by simp; omega) hgs ?_; intro v' w3 hown3 hg3 _)
            go_roundw
            case rel => exact ⟨done ++ [f], k + 1, k + 1, by go_num, by go_num, by omega, by rw [List.map_append]; exact SSt.app hown3, .inl ⟨by omega, HX.out, HK2.out⟩, hg.comp hg3 (.inl (Nat.le_refl _))⟩
            case measure => simp [intOf] <;> omega
          · obtain rfl : bg = k := by omega
            have HX := Lib.hid (HA.out.space hlt' (by rw [H1.out]; exact (u8_eq _ 32 (by decide)).2 p3))
            go_wp2_with fail
            go_roundw
            case rel => exact ⟨done, bg + 1, bg + 1, by go_num, by go_num, hdl, hown, .inl ⟨by omega, HX.out, HK2.out⟩, hg⟩
            case measure => simp [intOf] <;> omega
        · have HX := Lib.hid (HA.out.take hlt' (by rw [H1.out]; exact fun e => p3 ((u8_eq _ 32 (by decide)).1 e)))
          go_wp2_with fail
          go_roundw
          case rel => exact ⟨done, bg, k + 1, by go_num, rfl, hdl, hown, .inl ⟨by omega, HX.out, HK2.out⟩, hg⟩
          case measure => simp [intOf] <;> omega
      · obtain rfl : k = s.size := by omega
        by_cases p4 : bg < s.size
        · have hex := extract_fld s bg s.size
          have hat2 := hat.cut0 p4 (.inl HL.out.symm)
          have hll := hat2.len
          rw [HL.out] at hll
          have HX := Lib.hid (show done ++ [(s.data.toList.drop bg).take (s.size - bg)] = flds s.data.toList by have h' := hat2; rw [← HL.out] at h'; rw [← HL.out]; exact h'.done)
          clear hat hat2
          generalize hf : (s.data.toList.drop bg).take (s.size - bg) = f at *
          clear hf
          go_wp2_with (at_builtin; refine app_rw rfl _ _ _ rfl _ _ _ _ _ Tryd.underlying32 Tryd.infoStr rfl _ _ _ (.string (fld f)) hown rfl (by first | rfl | (rw [← hex]; rfl)) rfl (by decide) (by simp; omega) hgs ?_; intro v' w3 hown3 hg3 _)
          go_roundw
          case rel => exact ⟨done ++ [f], s.size + 1, s.size + 1, by go_num, by go_num, by omega, by rw [List.map_append]; exact SSt.app hown3, .inr ⟨rfl, HX.out, hok⟩, hg.comp hg3 (.inl (Nat.le_refl _))⟩
          case measure => simp [intOf] <;> omega
        · obtain rfl : bg = s.size := by omega
          have HX := Lib.hid (show done = flds s.data.toList by have h' := hat; rw [← HL.out] at h'; exact h'.done)
          clear hat
          go_wp2_with fail
          go_roundw
          case rel => exact ⟨done, s.size + 1, s.size + 1, by go_num, by go_num, hdl, hown, .inr ⟨rfl, HX.out, hok⟩, hg⟩
          case measure => simp [intOf] <;> omega
    · obtain ⟨ao, cap, rfl, _, _⟩ := hown.opened
      rw [List.length_map] at *
      by_cases hmany : 24 < (flds s.data.toList).length
      · have hmz : (24 : Int) < (flds s.data.toList).length := by omega
        have HE := Lib.hid (split_many hmany)
        clear hown
        go_wp2_with fail
        refine bodyPost_ret (v := .tuple #[.slice (some ⟨wr.heap.size, 0, none⟩) 0 0, .bool false]) (by simp [results, Tryd.results17, go_sem]) rfl ⟨_, by rw [HE.out], by rw [split_no HE.out, size_alloc]; exact SSt.empty wr w.heap.size hgs, hg.alloc _⟩
      · have hmz : ¬ (24 : Int) < (flds s.data.toList).length := by omega
        have HE := Lib.hid (split_good (by rw [HL.out]; omega) (by rw [HL.out]; exact hok) (Nat.le_of_not_lt hmany))
        have HOW := Lib.hid hown
        clear hown hok
        go_wp2_with fail
        refine bodyPost_ret (v := .tuple #[.slice ao (flds s.data.toList).length cap, .bool true]) (by simp [results, Tryd.results17, go_sem]) rfl ⟨.slice ao (flds s.data.toList).length cap, by rw [HE.out], by rw [split_yes HE.out]; exact HOW.out, hg⟩
end Go.Proofs.YtpbcaaoohcgalabDoor
