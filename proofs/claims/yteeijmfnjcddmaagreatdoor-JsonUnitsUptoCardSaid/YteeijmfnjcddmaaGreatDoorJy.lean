/- JSON: the two rows of a value that is being built; slices.Contains over its keys. -/
import Derived.Test.YteeijmfnjcddmaaGreatDoorJx
import Derived.Deep.AppendLies
import Derived.Deep.Onto
import Derived.Laws.Cover4
namespace Go.Proofs.YteeijmfnjcddmaaGreatDoor
open Go.RowKit

/-- The rows of a value under construction: its elements and its keys, from lo on, apart from each other and from what lies deeper. -/
def JRows (lo : Nat) (w : World) (l : List Jv) (ks : List Bs) (lv kv : Value) : Prop :=
  ∃ (cs : List Value) (S : Nat → Prop), w.ownsRow lo 25 5 lv l.length cs ∧ w.ownsRow lo 9 1 kv ks.length (ks.map sV) ∧ RCells S w l cs ∧
    (∀ g, S g → lo ≤ g ∧ g < w.heap.size ∧ lv.ownBlock ≠ some g ∧ kv.ownBlock ≠ some g) ∧ (∀ g, lv.ownBlock = some g → kv.ownBlock ≠ some g)

theorem JRows.nil (lo : Nat) (w : World) : JRows lo w [] [] (.slice none 0 0) (.slice none 0 0) :=
  ⟨[], fun _ => False, World.ownsRow_nil _ _ _ _, World.ownsRow_nil _ _ _ _, by simp [RCells], fun _ h => h.elim, fun _ h => by simp [Value.ownBlock] at h⟩
theorem JRows.fr {T : Nat → Prop} {lo : Nat} {w w' : World} {l : List Jv} {ks : List Bs} {lv kv : Value} (h : JRows lo w l ks lv kv) (f : Fr T w w') (hT : ∀ g, lo ≤ g → ¬ T g) : JRows lo w' l ks lv kv := by
  obtain ⟨cs, S, h1, h2, h3, h4, h5⟩ := h
  refine ⟨cs, S, f.row h1 (fun g hg => hT g (h1.lt g hg).1), f.row h2 (fun g hg => hT g (h2.lt g hg).1), RCells.fr (fun g hg => f.block g (h4 g hg).2.1 (hT g (h4 g hg).1)) l cs h3, fun g hg => ?_, h5⟩
  obtain ⟨a, b, c, d⟩ := h4 g hg
  exact ⟨a, Nat.lt_of_lt_of_le b f.size, c, d⟩
theorem JRows.keys {lo : Nat} {w : World} {l : List Jv} {ks : List Bs} {lv kv : Value} (h : JRows lo w l ks lv kv) : w.ownsRow lo 9 1 kv ks.length (ks.map sV) := by
  obtain ⟨cs, S, h1, h2, h3, h4, h5⟩ := h; exact h2
/-- A key more. -/
theorem JRows.key {lo : Nat} {w w1 : World} {l : List Jv} {ks : List Bs} {lv kv : Value} (h : JRows lo w l ks lv kv) (key : Bs) (g cap : Nat)
    (hown : w1.ownsRow lo 9 1 (.slice (some ⟨g, 0, none⟩) (ks.length + 1) cap) (ks.length + 1) (ks.map sV ++ [sV key])) (hgr : w.grownBy w1 kv.ownBlock) (hat : kv.ownBlock = some g ∨ g = w.heap.size) :
    JRows lo w1 l (ks ++ [key]) lv (.slice (some ⟨g, 0, none⟩) (ks.length + 1) cap) := by
  obtain ⟨cs, S, h1, h2, h3, h4, h5⟩ := h
  have hl : ∀ x, lv.ownBlock = some x → x ≠ g := fun x hx e => by
    subst e
    rcases hat with hat | hat
    · exact h5 x hx hat
    · have := (h1.lt x hx).2; omega
  refine ⟨cs, S, h1.kept hgr ?_, by simpa using hown, RCells.fr (fun x hx => hgr.block x (h4 x hx).2.1 (fun e => (h4 x hx).2.2.2 e.symm)) l cs h3, fun x hx => ?_, fun x hx e => ?_⟩
  · cases hb : lv.ownBlock with
    | none => exact Or.inl rfl
    | some x => exact Or.inr (fun e => h5 x hb e.symm)
  · obtain ⟨a, b, c, d⟩ := h4 x hx
    refine ⟨a, Nat.lt_of_lt_of_le b hgr.size, c, fun e => ?_⟩
    have e' : g = x := by simpa [Value.ownBlock] using e
    subst e'
    rcases hat with hat | hat
    · exact d hat
    · omega
  · have e' : g = x := by simpa [Value.ownBlock] using e
    exact hl x hx e'.symm
/-- An element more: j, made by a call that began at lo2 and ended in w2, is appended. -/
theorem JRows.item {lo lo2 : Nat} {w w1 : World} {hi : Nat} {l : List Jv} {ks : List Bs} {lv kv : Value} (h : JRows lo w l ks lv kv) {j : Jv} {v0 v1 v2 v3 v4 : Value} (hj : RAt (Rng lo2 hi) w j (.agg #[v0, v1, v2, v3, v4]))
    (hlo : lo ≤ lo2) (hhi : hi ≤ w.heap.size) (hlv : ∀ g, lv.ownBlock = some g → g < lo2) (hkv : ∀ g, kv.ownBlock = some g → g < lo2) (g cap : Nat) {cs : List Value}
    (hcs : w.ownsRow lo 25 5 lv l.length cs)
    (hown : w1.ownsRow lo 25 5 (.slice (some ⟨g, 0, none⟩) (l.length + 1) cap) (l.length + 1) (cs ++ [v0, v1, v2, v3, v4])) (hgr : w.grownBy w1 lv.ownBlock) (hat : lv.ownBlock = some g ∨ g = w.heap.size) :
    JRows lo w1 (l ++ [j]) ks (.slice (some ⟨g, 0, none⟩) (l.length + 1) cap) kv := by
  obtain ⟨cs', S, h1, h2, h3, h4, h5⟩ := h
  have hce : cs = cs' := by
    rcases h1.2 with ⟨e1, e2⟩ | ⟨g1, c1, u1, e1, e2, e3, e4, e5, e6, e7⟩
    · have a := h1.1; have b := hcs.1; rw [e2] at a b; simp at a b; rw [a, b]
    · rcases hcs.2 with ⟨f1, f2⟩ | ⟨g2, c2, u2, f1, f2, f3, f4, f5, f6, f7⟩
      · rw [e1] at f1; cases f1
      · rw [e1] at f1; simp at f1; obtain ⟨rfl, rfl⟩ := f1
        rw [e3] at f3; simp at f3; subst f3
        rw [← e7, ← f7]
  subst hce
  have hgn : ∀ x, (S x ∨ Rng lo2 hi x) → x ≠ g := fun x hx e => by
    subst e
    rcases hx with hx | hx
    · rcases hat with hat | hat
      · exact (h4 x hx).2.2.1 hat
      · have := (h4 x hx).2.1; omega
    · have hx' : lo2 ≤ x ∧ x < hi := hx
      rcases hat with hat | hat
      · have := hlv x hat; omega
      · omega
  have hrow : ∀ x, (S x ∨ Rng lo2 hi x) → x < w.heap.size ∧ some x ≠ lv.ownBlock := fun x hx => by
    refine ⟨?_, fun e => ?_⟩
    · rcases hx with hx | hx
      · exact (h4 x hx).2.1
      · have hx' : lo2 ≤ x ∧ x < hi := hx; omega
    · rcases hx with hx | hx
      · exact (h4 x hx).2.2.1 e.symm
      · have hx' : lo2 ≤ x ∧ x < hi := hx; have := hlv x e.symm; omega
  refine ⟨cs ++ [v0, v1, v2, v3, v4], fun x => S x ∨ Rng lo2 hi x, by simpa using hown, h2.kept hgr ?_, RCells.fr (fun x hx => hgr.block x (hrow x hx).1 (hrow x hx).2) _ _ (RCells.snoc (RAt.mono (fun x hx => Or.inr hx) j _ hj) l cs (RCells.mono (fun x hx => Or.inl hx) l cs h3)), fun x hx => ?_, fun x hx e => ?_⟩
  · cases hb : kv.ownBlock with
    | none => exact Or.inl rfl
    | some x => exact Or.inr (fun e => h5 x e.symm hb)
  · refine ⟨?_, Nat.lt_of_lt_of_le (hrow x hx).1 hgr.size, fun e => ?_, fun e => ?_⟩
    · rcases hx with hx | hx
      · exact (h4 x hx).1
      · have hx' : lo2 ≤ x ∧ x < hi := hx; omega
    · have e' : g = x := by simpa [Value.ownBlock] using e
      exact hgn x hx e'.symm
    · rcases hx with hx | hx
      · exact (h4 x hx).2.2.2 e
      · have hx' : lo2 ≤ x ∧ x < hi := hx; have := hkv x e; omega
  · have e' : g = x := by simpa [Value.ownBlock] using hx
    subst e'
    rcases hat with hat | hat
    · exact h5 g hat e
    · have := (h2.lt g e).2; omega
/-- Done. -/
theorem JRows.top {lo hi : Nat} {w : World} {l : List Jv} {ks : List Bs} {lv kv : Value} (h : JRows lo w l ks lv kv) (k : Int) (hlo : hi ≤ lo) (hk : IntOk k) (hl : l.length ≤ big) (hks : ks.length ≤ big ∧ ∀ s ∈ ks, s.length ≤ big) : JTop hi w (.mk k 0 [] l ks) (jV k 0 [] lv kv) := by
  obtain ⟨cs, S, h1, h2, h3, h4, h5⟩ := h
  exact ⟨lv, kv, cs, S, rfl, hk, by unfold IntOk; omega, by simp, hl, hks, h1.mono hlo, h2.mono hlo, h3, fun g hg => by obtain ⟨a, b, c, d⟩ := h4 g hg; exact ⟨by omega, b, c, d⟩⟩

theorem contains_any {lo : Nat} (ks : List Bs) (kv : Value) (key : Bs) (w : World) (h : w.ownsRow lo 9 1 kv ks.length (ks.map sV)) (hl : ks.length ≤ big) :
    Calls Tryz.prog 92 #[kv, .string ⟨key.toArray⟩] w fun e w' => e = .returned (.bool (ks.contains key)) ∧ w = w' := by
  have hcells := @World.ownsRow.cells _ _ _ _ _ _ _ h
  rcases h.2 with ⟨rfl, h0⟩ | ⟨g, cap, cur, rfl, hg, hh, _⟩
  · have hks : ks = [] := List.eq_nil_of_length_eq_zero h0
    subst hks
    refine (Tryz.slices_Contains_string_empty none 0 ⟨key.toArray⟩ w).mono ?_
    rintro e w' ⟨rfl, rfl⟩
    exact ⟨rfl, rfl⟩
  · refine (Tryz.slices_Contains_string g 0 ks.length cap (ks.map (fun s : Bs => (⟨s.toArray⟩ : ByteArray))) ⟨key.toArray⟩ w (by simp) (by unfold big at hl; omega) ?_).mono ?_
    · intro j hj
      have hj' : j < ks.length := by simpa using hj
      have := hcells (g := g) rfl j (sV ks[j]) (by simp [hj'])
      rw [add_at] at this
      simpa [List.getD, hj'] using this
    · rintro e w' ⟨rfl, rfl⟩
      refine ⟨?_, rfl⟩
      have e2 : Lib.containsS ((ks.map (fun s : Bs => (⟨s.toArray⟩ : ByteArray))).take ks.length) ⟨key.toArray⟩ = ks.contains key := by
        rw [Bool.eq_iff_iff, Lib.containsS_iff]
        rw [List.take_of_length_le (by simp)]
        simp
      rw [e2]
end Go.Proofs.YteeijmfnjcddmaaGreatDoor
