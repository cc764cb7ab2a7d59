/- JSON: rows of values that a call builds anew out of old ones: elements may hold old blocks (of S0) and new ones. -/
import Derived.Test.YteeijmfnjcddmaaGreatDoorRg
namespace Go.Proofs.YteeijmfnjcddmaaGreatDoor
open Go.RowKit

/-- Old blocks of S0, or new ones between lo and hi. -/
def Mix (S0 : Nat → Prop) (lo hi : Nat) : Nat → Prop := fun g => S0 g ∨ (lo ≤ g ∧ g < hi)
/-- Two rows under construction: elements and keys, from lo on, apart from each other and from what the elements hold. -/
def TRows (S0 : Nat → Prop) (lo : Nat) (w : World) (l : List Jv) (ks : List Bs) (lv kv : Value) : Prop :=
  ∃ (cs : List Value) (T : Nat → Prop), w.ownsRow lo 25 5 lv l.length cs ∧ w.ownsRow lo 9 1 kv ks.length (ks.map sV) ∧ RCells T w l cs ∧
    (∀ g, T g → (S0 g ∨ lo ≤ g) ∧ g < w.heap.size ∧ lv.ownBlock ≠ some g ∧ kv.ownBlock ≠ some g) ∧ (∀ g, lv.ownBlock = some g → kv.ownBlock ≠ some g)

section
variable {S0 : Nat → Prop} {lo : Nat} {w w1 : World} {l : List Jv} {ks : List Bs} {lv kv : Value}
theorem TRows.frX {X : Nat → Prop} (h : TRows S0 lo w l ks lv kv) (f : Fr X w w1) (hX : ∀ g, X g → ¬ S0 g ∧ g < lo) : TRows S0 lo w1 l ks lv kv := by
  obtain ⟨cs, T, h1, h2, h3, h4, h5⟩ := h
  have hT : ∀ g, T g → ¬ X g := fun g hg e => by
    obtain ⟨a, _⟩ := h4 g hg
    obtain ⟨b, c⟩ := hX g e
    rcases a with a | a
    · exact b a
    · omega
  refine ⟨cs, T, f.row h1 (fun g hg e => by have := (h1.lt g hg).1; have := (hX g e).2; omega), f.row h2 (fun g hg e => by have := (h2.lt g hg).1; have := (hX g e).2; omega), RCells.fr (fun g hg => f.block g (h4 g hg).2.1 (hT g hg)) l cs h3, fun g hg => ?_, h5⟩
  obtain ⟨a, b, c, d⟩ := h4 g hg
  exact ⟨a, Nat.lt_of_lt_of_le b f.size, c, d⟩
theorem TRows.fr (h : TRows S0 lo w l ks lv kv) (f : Fr NoB w w1) : TRows S0 lo w1 l ks lv kv := h.frX f (fun _ e => e.elim)
theorem TRows.lvs (h : TRows S0 lo w l ks lv kv) : ∃ a c, lv = .slice a l.length c := by
  obtain ⟨cs, T, h1, h2, h3, h4, h5⟩ := h
  rcases h1.2 with ⟨e1, e2⟩ | ⟨g1, c1, u1, e1, _⟩
  · exact ⟨none, 0, by rw [e1, e2]⟩
  · exact ⟨_, _, e1⟩
theorem TRows.kvs (h : TRows S0 lo w l ks lv kv) : ∃ a c, kv = .slice a ks.length c := by
  obtain ⟨cs, T, h1, h2, h3, h4, h5⟩ := h
  rcases h2.2 with ⟨e1, e2⟩ | ⟨g1, c1, u1, e1, _⟩
  · exact ⟨none, 0, by rw [e1, e2]⟩
  · exact ⟨_, _, e1⟩
theorem TRows.lts (h : TRows S0 lo w l ks lv kv) : (∀ g, lv.ownBlock = some g → lo ≤ g ∧ g < w.heap.size) ∧ (∀ g, kv.ownBlock = some g → lo ≤ g ∧ g < w.heap.size) := by
  obtain ⟨cs, T, h1, h2, h3, h4, h5⟩ := h
  exact ⟨fun g hg => h1.lt g hg, fun g hg => h2.lt g hg⟩
theorem TRows.keys (h : TRows S0 lo w l ks lv kv) : w.ownsRow lo 9 1 kv ks.length (ks.map sV) := by
  obtain ⟨cs, T, h1, h2, h3, h4, h5⟩ := h; exact h2
theorem TRows.vals (h : TRows S0 lo w l ks lv kv) : ∃ cs, w.ownsRow lo 25 5 lv l.length cs := by
  obtain ⟨cs, T, h1, h2, h3, h4, h5⟩ := h; exact ⟨cs, h1⟩
/-- A key more. -/
theorem TRows.key (h : TRows S0 lo w l ks lv kv) (key : Bs) (g cap : Nat)
    (hown : w1.ownsRow lo 9 1 (.slice (some ⟨g, 0, none⟩) (ks.length + 1) cap) (ks.length + 1) (ks.map sV ++ [sV key])) (hgr : w.grownBy w1 kv.ownBlock) (hat : kv.ownBlock = some g ∨ g = w.heap.size) :
    TRows S0 lo w1 l (ks ++ [key]) lv (.slice (some ⟨g, 0, none⟩) (ks.length + 1) cap) := by
  obtain ⟨cs, T, h1, h2, h3, h4, h5⟩ := h
  have hl : ∀ x, lv.ownBlock = some x → x ≠ g := fun x hx e => by
    subst e
    rcases hat with hat | hat
    · exact h5 x hx hat
    · have := (h1.lt x hx).2; omega
  refine ⟨cs, T, h1.kept hgr ?_, by simpa using hown, RCells.fr (fun x hx => hgr.block x (h4 x hx).2.1 (fun e => (h4 x hx).2.2.2 e.symm)) l cs h3, fun x hx => ?_, fun x hx e => ?_⟩
  · cases hb : lv.ownBlock with
    | none => exact Or.inl rfl
    | some x => exact Or.inr (fun e => h5 x hb e.symm)
  · obtain ⟨a, b, c, d⟩ := h4 x hx
    refine ⟨a, Nat.lt_of_lt_of_le b hgr.size, c, fun e => ?_⟩
    have e' : g = x := by simpa [Value.ownBlock] using e
    subst e'
    rcases hat with hat | hat
    · exact d hat
    · omega
  · have e' : g = x := by simpa [Value.ownBlock] using e
    exact hl x hx e'.symm
/-- An element more: j, made by a call that began at lo2 and ended at hi, is appended. -/
theorem TRows.item {lo2 hi : Nat} (h : TRows S0 lo w l ks lv kv) (hS : ∀ g, S0 g → g < lo) {j : Jv} {v0 v1 v2 v3 v4 : Value} (hj : RAt (Mix S0 lo2 hi) w j (.agg #[v0, v1, v2, v3, v4]))
    (hlo : lo ≤ lo2) (hhi : hi ≤ w.heap.size) (hw : lo ≤ w.heap.size) (hlv : ∀ g, lv.ownBlock = some g → g < lo2) (hkv : ∀ g, kv.ownBlock = some g → g < lo2) (g cap : Nat) {cs : List Value}
    (hcs : w.ownsRow lo 25 5 lv l.length cs)
    (hown : w1.ownsRow lo 25 5 (.slice (some ⟨g, 0, none⟩) (l.length + 1) cap) (l.length + 1) (cs ++ [v0, v1, v2, v3, v4])) (hgr : w.grownBy w1 lv.ownBlock) (hat : lv.ownBlock = some g ∨ g = w.heap.size) :
    TRows S0 lo w1 (l ++ [j]) ks (.slice (some ⟨g, 0, none⟩) (l.length + 1) cap) kv := by
  obtain ⟨cs', T, h1, h2, h3, h4, h5⟩ := h
  have hce : cs = cs' := by
    rcases h1.2 with ⟨e1, e2⟩ | ⟨g1, c1, u1, e1, e2, e3, e4, e5, e6, e7⟩
    · have a := h1.1; have b := hcs.1; rw [e2] at a b; simp at a b; rw [a, b]
    · rcases hcs.2 with ⟨f1, f2⟩ | ⟨g2, c2, u2, f1, f2, f3, f4, f5, f6, f7⟩
      · rw [e1] at f1; cases f1
      · rw [e1] at f1; simp at f1; obtain ⟨rfl, rfl⟩ := f1
        rw [e3] at f3; simp at f3; subst f3
        rw [← e7, ← f7]
  subst hce
  have hmx : ∀ x, Mix S0 lo2 hi x → x < lo ∨ (lo2 ≤ x ∧ x < hi) := fun x hx => hx.imp (hS x) id
  have hlvlo : ∀ x, lv.ownBlock = some x → lo ≤ x := fun x hx => (h1.lt x hx).1
  have hkvlo : ∀ x, kv.ownBlock = some x → lo ≤ x := fun x hx => (h2.lt x hx).1
  have hgn : ∀ x, (T x ∨ Mix S0 lo2 hi x) → x ≠ g := fun x hx e => by
    subst e
    rcases hx with hx | hx
    · rcases hat with hat | hat
      · exact (h4 x hx).2.2.1 hat
      · have := (h4 x hx).2.1; omega
    · have hx' := hmx x hx
      rcases hat with hat | hat
      · have := hlv x hat; have := hlvlo x hat; omega
      · omega
  have hrow : ∀ x, (T x ∨ Mix S0 lo2 hi x) → x < w.heap.size ∧ some x ≠ lv.ownBlock := fun x hx => by
    refine ⟨?_, fun e => ?_⟩
    · rcases hx with hx | hx
      · exact (h4 x hx).2.1
      · have hx' := hmx x hx; omega
    · rcases hx with hx | hx
      · exact (h4 x hx).2.2.1 e.symm
      · have hx' := hmx x hx; have := hlv x e.symm; have := hlvlo x e.symm; omega
  refine ⟨cs ++ [v0, v1, v2, v3, v4], fun x => T x ∨ Mix S0 lo2 hi x, by simpa using hown, h2.kept hgr ?_, RCells.fr (fun x hx => hgr.block x (hrow x hx).1 (hrow x hx).2) _ _ (RCells.snoc (RAt.mono (fun x hx => Or.inr hx) j _ hj) l cs (RCells.mono (fun x hx => Or.inl hx) l cs h3)), fun x hx => ?_, fun x hx e => ?_⟩
  · cases hb : kv.ownBlock with
    | none => exact Or.inl rfl
    | some x => exact Or.inr (fun e => h5 x e.symm hb)
  · refine ⟨?_, Nat.lt_of_lt_of_le (hrow x hx).1 hgr.size, fun e => ?_, fun e => ?_⟩
    · rcases hx with hx | hx
      · exact (h4 x hx).1
      · rcases hx with hx | hx
        · exact Or.inl hx
        · exact Or.inr (by omega)
    · have e' : g = x := by simpa [Value.ownBlock] using e
      exact hgn x hx e'.symm
    · rcases hx with hx | hx
      · exact (h4 x hx).2.2.2 e
      · have hx' := hmx x hx; have := hkv x e; have := hkvlo x e; omega
  · have e' : g = x := by simpa [Value.ownBlock] using hx
    subst e'
    rcases hat with hat | hat
    · exact h5 g hat e
    · have := (h2.lt g e).2; omega
/-- The elements' row, done. -/
theorem TRows.cells {b : Nat} (h : TRows S0 lo w l ks lv kv) (hb : b ≤ lo) : ∃ cs, RCells (Mix S0 b w.heap.size) w l cs ∧ InMem (Mix S0 b w.heap.size) w lv l.length cs ∧ InMem (Mix S0 b w.heap.size) w kv ks.length (ks.map sV) := by
  obtain ⟨cs, T, h1, h2, h3, h4, h5⟩ := h
  have hm : ∀ g, Rng lo w.heap.size g → Mix S0 b w.heap.size g := fun g hg => Or.inr ⟨Nat.le_trans hb hg.1, hg.2⟩
  refine ⟨cs, RCells.mono (fun g hg => ?_) l cs h3, (InMem.own h1).mono hm, (InMem.own h2).mono hm⟩
  obtain ⟨a, c, _⟩ := h4 g hg
  exact a.imp id (fun e => ⟨Nat.le_trans hb e, c⟩)
end
/-- At the beginning: both rows empty. -/
theorem TRows.start (S0 : Nat → Prop) (W : World) : TRows S0 W.heap.size ((W.alloc (.cells #[] 9)).alloc (.cells #[] 25)) [] [] (.slice (some ⟨W.heap.size + 1, 0, none⟩) 0 0) (.slice (some ⟨W.heap.size, 0, none⟩) 0 0) := by
  refine ⟨[], fun _ => False, own_empty _ _ _ _ _ (by simp) (by simp), ?_, by simp [RCells], fun _ h => h.elim, fun g hg => by simp [Value.ownBlock] at hg ⊢; omega⟩
  exact ((Fr.refl NoB (W.alloc (.cells #[] 9))).alloc (.cells #[] 25)).row (own_empty W _ _ _ _ rfl (Nat.le_refl _)) (fun _ _ e => e)
theorem TRows.list (S0 : Nat → Prop) (W : World) : TRows S0 W.heap.size (W.alloc (.cells #[] 25)) [] [] (.slice (some ⟨W.heap.size, 0, none⟩) 0 0) (.slice none 0 0) :=
  ⟨[], fun _ => False, own_empty _ _ _ _ _ rfl (Nat.le_refl _), World.ownsRow_nil _ _ _ _, by simp [RCells], fun _ h => h.elim, fun g _ => by simp [Value.ownBlock]⟩
end Go.Proofs.YteeijmfnjcddmaaGreatDoor
