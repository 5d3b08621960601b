/- The kernel's functions in plain Lean, and what they keep. -/
import Derived.Test.YtkcoehkfhffjkaaMLaw
namespace Go.Proofs.Ytkcoehkfhffjkaa
set_option linter.unusedSimpArgs false
set_option linter.unusedVariables false

def canB (k : KeD) : Bool := decide (k.calls ≠ 100000) && kernelOkB k
def mapB (m : MaD) (p : Int) : Bool := (entryD m.tb p).1 != 0
def grantB (k : KeD) : Bool := !(k.refuse.contains k.calls)
def tickD (k : KeD) : KeD := ⟨k.ma, k.calls + 1, k.refuse⟩
def relD (m : MaD) (f : Int) : MaD := if (onD m.tb f).length = 0 then ⟨⟨m.fr.cells.set f.toNat zrow, m.fr.used.set f.toNat false⟩, m.tb⟩ else m
def mapNewOk (k : KeD) (p : Int) : Bool := canB k && grantB k && takeOk k.ma.fr && btw p 0 ((k.ma.tb.length : Int) - 1) && !mapB k.ma p
def mapNewM (m : MaD) (p : Int) : MaD := ⟨takeD m.fr, m.tb.set p.toNat (2, takeI m.fr)⟩
def mapNewD (k : KeD) (p : Int) : KeD := if mapNewOk k p then ⟨mapNewM k.ma p, k.calls + 1, k.refuse⟩ else if canB k then tickD k else k
def mapOnOk (k : KeD) (p o : Int) : Bool := canB k && grantB k && mapB k.ma p && mapB k.ma o && (p != o)
def mapOnM (m : MaD) (p o : Int) : MaD := relD ⟨m.fr, m.tb.set p.toNat (2, (m.tb.getD o.toNat (0, 0)).2)⟩ (m.tb.getD p.toNat (0, 0)).2
def mapOnD (k : KeD) (p o : Int) : KeD := if mapOnOk k p o then ⟨mapOnM k.ma p o, k.calls + 1, k.refuse⟩ else if canB k then tickD k else k
def protOk (k : KeD) (p m : Int) : Bool := canB k && grantB k && mapB k.ma p && btw m 1 2
def protM (m : MaD) (p mode : Int) : MaD := ⟨m.fr, m.tb.set p.toNat (mode, (m.tb.getD p.toNat (0, 0)).2)⟩
def protD (k : KeD) (p mode : Int) : KeD := if protOk k p mode then ⟨protM k.ma p mode, k.calls + 1, k.refuse⟩ else if canB k then tickD k else k
def unmapOk (k : KeD) (p : Int) : Bool := canB k && mapB k.ma p
def unmapM (m : MaD) (p : Int) : MaD := relD ⟨m.fr, m.tb.set p.toNat (0, 0)⟩ (m.tb.getD p.toNat (0, 0)).2
def unmapD (k : KeD) (p : Int) : KeD := if unmapOk k p then ⟨unmapM k.ma p, k.calls, k.refuse⟩ else k
def kernelNewOk (p n : Int) (r : List Int) : Bool := machineNewOk p n && kernelOkB ⟨machineNewD p n, 0, r⟩
def kernelNewD (p n : Int) (r : List Int) : KeD := if kernelNewOk p n r then ⟨machineNewD p n, 0, r⟩ else ⟨⟨⟨[], []⟩, []⟩, 0, []⟩

structure KOk (k : KeD) : Prop where
  ref : k.refuse.all (fun n => decide (0 ≤ n)) = true
  calls0 : 0 ≤ k.calls
  calls1 : k.calls ≤ 100000
  len : k.refuse.length ≤ 40
  ma : MOk k.ma
theorem kernelOk_iff {k : KeD} : kernelOkB k = true ↔ KOk k := by
  unfold kernelOkB
  simp only [Bool.and_eq_true, btw_iff, decide_eq_true_eq, machineOk_iff]
  constructor
  · rintro ⟨⟨⟨h1, h2, h3⟩, h4⟩, h5⟩; exact ⟨h1, h2, h3, h4, h5⟩
  · rintro ⟨h1, h2, h3, h4, h5⟩; exact ⟨⟨⟨h1, h2, h3⟩, h4⟩, h5⟩
theorem canB_iff {k : KeD} : canB k = true ↔ k.calls ≠ 100000 ∧ KOk k := by
  unfold canB
  rw [Bool.and_eq_true, kernelOk_iff, decide_eq_true_eq]
theorem mapB_iff {m : MaD} {p : Int} : mapB m p = true ↔ btw p 0 ((m.tb.length : Int) - 1) = true ∧ (m.tb.getD p.toNat (0, 0)).1 ≠ 0 := by
  unfold mapB entryD
  by_cases h : btw p 0 ((m.tb.length : Int) - 1) = true
  · simp [h]
  · simp [h]

theorem onAt_set_ne {t : TbD} {f : Int} {p j : Nat} {e : Int × Int} (h : p ≠ j) : OnAt (t.set p e) f j ↔ OnAt t f j := by
  unfold OnAt
  rw [List.length_set, getD_set_ne _ _ _ _ _ h]
theorem onAt_set_eq {t : TbD} {f : Int} {p : Nat} {e : Int × Int} (h : p < t.length) : OnAt (t.set p e) f p ↔ onB f e = true := by
  unfold OnAt
  rw [List.length_set, getD_set_eq _ _ _ _ h]
  simp [h]
theorem entOk_two {n f : Int} (m : Int) (hm : btw m 1 2 = true) (h0 : 0 ≤ f) (h1 : f < n) : entOkB n (m, f) = true := by
  rw [btw_iff] at hm
  rw [entOk_iff]
  exact ⟨by dsimp; omega, by dsimp; omega, fun h => by dsimp at h; omega, fun _ => ⟨h0, h1⟩⟩
theorem used_taken {f : FrD} (h : FOk f) (ht : takeOk f = true) : takeD f = ⟨f.cells, f.used.set (freeN f.used) true⟩ ∧ takeI f = (freeN f.used : Int) ∧ freeN f.used < f.used.length := by
  unfold takeOk at ht
  unfold takeD takeI takeOk
  rw [ht]
  rw [Bool.and_eq_true, decide_eq_true_eq] at ht
  exact ⟨rfl, rfl, ht.2⟩
theorem mapNewM_ok {m : MaD} (h : MOk m) (p : Int) (ht : takeOk m.fr = true) (hp : btw p 0 ((m.tb.length : Int) - 1) = true) (hm : mapB m p = false) : MOk (mapNewM m p) := by
  obtain ⟨e1, e2, e3⟩ := used_taken h.fr ht
  have hpl := btw_len hp
  have hz : (m.tb.getD p.toNat (0, 0)).1 = 0 := by
    by_cases hx : (m.tb.getD p.toNat (0, 0)).1 = 0
    · exact hx
    · rw [mapB_iff.2 ⟨hp, hx⟩] at hm; cases hm
  unfold mapNewM
  rw [e1, e2]
  refine ⟨h.fr.mark _, ?_, fun i hi => ?_⟩
  · simp only [List.length_set]
    exact h.tb.set _ _ (entOk_two 2 rfl (by omega) (by omega))
  · simp only [List.length_set] at hi
    dsimp only
    by_cases e : freeN m.fr.used = i
    · subst e
      rw [getD_set_eq _ _ _ _ hi]
      refine ⟨fun _ => ⟨p.toNat, (onAt_set_eq hpl).2 (onB_iff.2 ⟨by simp, rfl⟩)⟩, fun _ => rfl⟩
    · rw [getD_set_ne _ _ _ _ _ e, h.use i hi]
      constructor
      · rintro ⟨j, hj⟩
        refine ⟨j, ?_⟩
        by_cases x : p.toNat = j
        · subst x
          have := (onB_iff.1 hj.2).1
          exact absurd hz this
        · exact (onAt_set_ne x).2 hj
      · rintro ⟨j, hj⟩
        refine ⟨j, ?_⟩
        by_cases x : p.toNat = j
        · subst x
          have := (onB_iff.1 ((onAt_set_eq hpl).1 hj)).2
          dsimp at this; omega
        · exact (onAt_set_ne x).1 hj
/-- A frame that no page is on is given back. -/
theorem relD_ok {m : MaD} (hf : FOk m.fr) (ht : TOk m.tb m.fr.used.length) (f : Int) (h0 : 0 ≤ f) (hu : ∀ i : Nat, i < m.fr.used.length → (i : Int) ≠ f → (m.fr.used.getD i false = true ↔ ∃ j, OnAt m.tb i j)) (hf1 : m.fr.used.getD f.toNat false = true) : MOk (relD m f) := by
  unfold relD
  split
  · rename_i hn
    have hno : ¬ ∃ j, OnAt m.tb f j := by rw [← onD_pos]; omega
    refine ⟨hf.put _ _ _ (zrow_ok _), by simpa using ht, fun i hi => ?_⟩
    simp only [List.length_set] at hi
    dsimp only
    by_cases e : f.toNat = i
    · subst e
      rw [getD_set_eq _ _ _ _ hi]
      have : ((f.toNat : Nat) : Int) = f := by omega
      rw [this]
      exact ⟨fun h => absurd h (by simp), fun h => absurd h hno⟩
    · rw [getD_set_ne _ _ _ _ _ e]
      exact hu i hi (by omega)
  · rename_i hn
    refine ⟨hf, ht, fun i hi => ?_⟩
    by_cases e : (i : Int) = f
    · have hp : ∃ j, OnAt m.tb f j := by rw [← onD_pos]; omega
      rw [e]
      rw [show f.toNat = i by omega] at hf1
      exact ⟨fun _ => hp, fun _ => hf1⟩
    · exact hu i hi e
theorem mapOnM_ok {m : MaD} (h : MOk m) (p o : Int) (hp : mapB m p = true) (ho : mapB m o = true) (hne : p ≠ o) : MOk (mapOnM m p o) := by
  obtain ⟨hp1, hp2⟩ := mapB_iff.1 hp
  obtain ⟨ho1, ho2⟩ := mapB_iff.1 ho
  have hpl := btw_len hp1
  have hol := btw_len ho1
  obtain ⟨p3, p4, p5⟩ := h.frame hpl hp2
  obtain ⟨o3, o4, o5⟩ := h.frame hol ho2
  have hx : p.toNat ≠ o.toNat := by rw [btw_iff] at hp1 ho1; omega
  unfold mapOnM
  refine relD_ok (m := ⟨m.fr, m.tb.set p.toNat (2, (m.tb.getD o.toNat (0, 0)).2)⟩) h.fr (h.tb.set _ _ (entOk_two 2 rfl o3 o4)) _ p3 (fun i hi hif => ?_) p5
  dsimp only at hi hif ⊢
  rw [h.use i hi]
  constructor
  · rintro ⟨j, hj⟩
    by_cases x : p.toNat = j
    · subst x
      have := (onB_iff.1 hj.2).2
      exact absurd this.symm hif
    · exact ⟨j, (onAt_set_ne x).2 hj⟩
  · rintro ⟨j, hj⟩
    by_cases x : p.toNat = j
    · subst x
      have := (onB_iff.1 ((onAt_set_eq hpl).1 hj)).2
      dsimp at this
      exact ⟨o.toNat, hol, onB_iff.2 ⟨ho2, this⟩⟩
    · exact ⟨j, (onAt_set_ne x).1 hj⟩
theorem unmapM_ok {m : MaD} (h : MOk m) (p : Int) (hp : mapB m p = true) : MOk (unmapM m p) := by
  obtain ⟨hp1, hp2⟩ := mapB_iff.1 hp
  have hpl := btw_len hp1
  obtain ⟨p3, p4, p5⟩ := h.frame hpl hp2
  unfold unmapM
  refine relD_ok (m := ⟨m.fr, m.tb.set p.toNat (0, 0)⟩) h.fr (h.tb.set _ _ (by rw [entOk_iff]; simp)) _ p3 (fun i hi hif => ?_) p5
  dsimp only at hi hif ⊢
  rw [h.use i hi]
  constructor
  · rintro ⟨j, hj⟩
    by_cases x : p.toNat = j
    · subst x
      have := (onB_iff.1 hj.2).2
      exact absurd this.symm hif
    · exact ⟨j, (onAt_set_ne x).2 hj⟩
  · rintro ⟨j, hj⟩
    by_cases x : p.toNat = j
    · subst x
      have := (onB_iff.1 ((onAt_set_eq hpl).1 hj)).1
      simp at this
    · exact ⟨j, (onAt_set_ne x).1 hj⟩
theorem protM_ok {m : MaD} (h : MOk m) (p mode : Int) (hp : mapB m p = true) (hm : btw mode 1 2 = true) : MOk (protM m p mode) := by
  obtain ⟨hp1, hp2⟩ := mapB_iff.1 hp
  have hpl := btw_len hp1
  obtain ⟨p3, p4, p5⟩ := h.frame hpl hp2
  unfold protM
  refine ⟨h.fr, h.tb.set _ _ (entOk_two mode hm p3 p4), fun i hi => ?_⟩
  dsimp only at hi ⊢
  rw [h.use i hi]
  have hm' := btw_iff.1 hm
  constructor
  · rintro ⟨j, hj⟩
    refine ⟨j, ?_⟩
    by_cases x : p.toNat = j
    · subst x
      exact (onAt_set_eq hpl).2 (onB_iff.2 ⟨by dsimp; omega, (onB_iff.1 hj.2).2⟩)
    · exact (onAt_set_ne x).2 hj
  · rintro ⟨j, hj⟩
    refine ⟨j, ?_⟩
    by_cases x : p.toNat = j
    · subst x
      exact ⟨hpl, onB_iff.2 ⟨hp2, (onB_iff.1 ((onAt_set_eq hpl).1 hj)).2⟩⟩
    · exact (onAt_set_ne x).1 hj
theorem KOk.tick {k : KeD} (h : KOk k) (hc : k.calls ≠ 100000) : KOk (tickD k) := ⟨h.ref, by have := h.calls0; show 0 ≤ k.calls + 1; omega, by have := h.calls1; show k.calls + 1 ≤ 100000; omega, h.len, h.ma⟩
theorem mapNewD_ok {k : KeD} (h : KOk k) (p : Int) : KOk (mapNewD k p) := by
  unfold mapNewD
  split
  · rename_i hx
    unfold mapNewOk at hx
    simp only [Bool.and_eq_true, Bool.not_eq_true'] at hx
    obtain ⟨⟨⟨⟨h1, h2⟩, h3⟩, h4⟩, h5⟩ := hx
    have ht := h.tick (canB_iff.1 h1).1
    exact ⟨ht.ref, ht.calls0, ht.calls1, ht.len, mapNewM_ok h.ma p h3 h4 h5⟩
  · split
    · rename_i h1; exact h.tick (canB_iff.1 h1).1
    · exact h
theorem mapOnD_ok {k : KeD} (h : KOk k) (p o : Int) : KOk (mapOnD k p o) := by
  unfold mapOnD
  split
  · rename_i hx
    unfold mapOnOk at hx
    simp only [Bool.and_eq_true, bne_iff_ne] at hx
    obtain ⟨⟨⟨⟨h1, h2⟩, h3⟩, h4⟩, h5⟩ := hx
    have ht := h.tick (canB_iff.1 h1).1
    exact ⟨ht.ref, ht.calls0, ht.calls1, ht.len, mapOnM_ok h.ma p o h3 h4 h5⟩
  · split
    · rename_i h1; exact h.tick (canB_iff.1 h1).1
    · exact h
theorem protD_ok {k : KeD} (h : KOk k) (p m : Int) : KOk (protD k p m) := by
  unfold protD
  split
  · rename_i hx
    unfold protOk at hx
    simp only [Bool.and_eq_true] at hx
    obtain ⟨⟨⟨h1, h2⟩, h3⟩, h4⟩ := hx
    have ht := h.tick (canB_iff.1 h1).1
    exact ⟨ht.ref, ht.calls0, ht.calls1, ht.len, protM_ok h.ma p m h3 h4⟩
  · split
    · rename_i h1; exact h.tick (canB_iff.1 h1).1
    · exact h
theorem unmapD_ok {k : KeD} (h : KOk k) (p : Int) : KOk (unmapD k p) := by
  unfold unmapD
  split
  · rename_i hx
    unfold unmapOk at hx
    simp only [Bool.and_eq_true] at hx
    exact ⟨h.ref, h.calls0, h.calls1, h.len, unmapM_ok h.ma p hx.2⟩
  · exact h
end Go.Proofs.Ytkcoehkfhffjkaa
