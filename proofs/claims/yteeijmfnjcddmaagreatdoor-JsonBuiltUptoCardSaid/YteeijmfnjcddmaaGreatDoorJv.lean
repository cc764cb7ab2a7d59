/- JSON values in memory. -/
import Derived.Test.YteeijmfnjcddmaaGreatDoorJq
namespace Go.Proofs.YteeijmfnjcddmaaGreatDoor
open Go.RowKit

abbrev sV (s : Bs) : Value := .string ⟨s.toArray⟩
/-- The struct of a JSON value. -/
abbrev jV (k i : Int) (t : Bs) (lv kv : Value) : Value := .agg #[.int .i64 k, .int .i64 i, .string ⟨t.toArray⟩, lv, kv]

def big : Nat := 140737488355328
/-- A slice of n elements whose cells are cs, in a block of S. -/
def InMem (S : Nat → Prop) (w : World) (v : Value) (n : Nat) (cs : List Value) : Prop :=
  (n = 0 ∧ ∃ a c, v = .slice a 0 c) ∨ ∃ g o c, v = .slice (some ⟨g, o, none⟩) n c ∧ S g ∧ ∀ (i : Nat) u, cs[i]? = some u → w.cell? ⟨g, o + i, none⟩ = some u
def RStrs (S : Nat → Prop) (w : World) (ks : List Bs) (v : Value) : Prop :=
  InMem S w v ks.length (ks.map sV) ∧ ks.length ≤ big ∧ ∀ s ∈ ks, s.length ≤ big
def IntOk (n : Int) : Prop := -9223372036854775808 ≤ n ∧ n ≤ 9223372036854775807

mutual
/-- A value that reads as j, through blocks of S. -/
def RAt (S : Nat → Prop) (w : World) : Jv → Value → Prop
  | .mk k i t l ks, v => ∃ lv kv : Value, v = jV k i t lv kv ∧ IntOk k ∧ IntOk i ∧ t.length ≤ big ∧ RStrs S w ks kv ∧ l.length ≤ big ∧ ∃ cs, RCells S w l cs ∧ InMem S w lv l.length cs
/-- The cells of some values. -/
def RCells (S : Nat → Prop) (w : World) : List Jv → List Value → Prop
  | [], cs => cs = []
  | j :: r, cs => ∃ v0 v1 v2 v3 v4 rest, cs = v0 :: v1 :: v2 :: v3 :: v4 :: rest ∧ RAt S w j (.agg #[v0, v1, v2, v3, v4]) ∧ RCells S w r rest
end

theorem InMem.fr {S : Nat → Prop} {w w' : World} {v : Value} {n : Nat} {cs : List Value} (h : InMem S w v n cs) (f : ∀ g, S g → w'.heap[g]? = w.heap[g]?) : InMem S w' v n cs := by
  rcases h with h | ⟨g, o, c, hv, hS, hc⟩
  · exact Or.inl h
  · exact Or.inr ⟨g, o, c, hv, hS, fun i u hu => (World.cell?_of_block (w := w) (f g hS)).trans (hc i u hu)⟩
theorem InMem.mono {S T : Nat → Prop} {w : World} {v : Value} {n : Nat} {cs : List Value} (h : InMem S w v n cs) (f : ∀ g, S g → T g) : InMem T w v n cs := by
  rcases h with h | ⟨g, o, c, hv, hS, hc⟩
  · exact Or.inl h
  · exact Or.inr ⟨g, o, c, hv, f g hS, hc⟩
theorem RStrs.fr {S : Nat → Prop} {w w' : World} {ks : List Bs} {v : Value} (h : RStrs S w ks v) (f : ∀ g, S g → w'.heap[g]? = w.heap[g]?) : RStrs S w' ks v := ⟨h.1.fr f, h.2⟩
theorem RStrs.mono {S T : Nat → Prop} {w : World} {ks : List Bs} {v : Value} (h : RStrs S w ks v) (f : ∀ g, S g → T g) : RStrs T w ks v := ⟨h.1.mono f, h.2⟩

mutual
theorem RAt.fr {S : Nat → Prop} {w w' : World} (f : ∀ g, S g → w'.heap[g]? = w.heap[g]?) : ∀ (j : Jv) (v : Value), RAt S w j v → RAt S w' j v
  | .mk k i t l ks, v, h => by
    simp only [RAt] at h ⊢
    obtain ⟨lv, kv, h1, h2, h3, h4, h5, h6, cs, h7, h8⟩ := h
    exact ⟨lv, kv, h1, h2, h3, h4, h5.fr f, h6, cs, RCells.fr f l cs h7, h8.fr f⟩
theorem RCells.fr {S : Nat → Prop} {w w' : World} (f : ∀ g, S g → w'.heap[g]? = w.heap[g]?) : ∀ (l : List Jv) (cs : List Value), RCells S w l cs → RCells S w' l cs
  | [], cs, h => by simp only [RCells] at h ⊢; exact h
  | j :: r, cs, h => by
    simp only [RCells] at h ⊢
    obtain ⟨v0, v1, v2, v3, v4, rest, h1, h2, h3⟩ := h
    exact ⟨v0, v1, v2, v3, v4, rest, h1, RAt.fr f j _ h2, RCells.fr f r rest h3⟩
end
mutual
theorem RAt.mono {S T : Nat → Prop} {w : World} (f : ∀ g, S g → T g) : ∀ (j : Jv) (v : Value), RAt S w j v → RAt T w j v
  | .mk k i t l ks, v, h => by
    simp only [RAt] at h ⊢
    obtain ⟨lv, kv, h1, h2, h3, h4, h5, h6, cs, h7, h8⟩ := h
    exact ⟨lv, kv, h1, h2, h3, h4, h5.mono f, h6, cs, RCells.mono f l cs h7, h8.mono f⟩
theorem RCells.mono {S T : Nat → Prop} {w : World} (f : ∀ g, S g → T g) : ∀ (l : List Jv) (cs : List Value), RCells S w l cs → RCells T w l cs
  | [], cs, h => by simp only [RCells] at h ⊢; exact h
  | j :: r, cs, h => by
    simp only [RCells] at h ⊢
    obtain ⟨v0, v1, v2, v3, v4, rest, h1, h2, h3⟩ := h
    exact ⟨v0, v1, v2, v3, v4, rest, h1, RAt.mono f j _ h2, RCells.mono f r rest h3⟩
end
theorem RCells.len {S : Nat → Prop} {w : World} : ∀ (l : List Jv) (cs : List Value), RCells S w l cs → cs.length = l.length * 5
  | [], cs, h => by simp only [RCells] at h; rw [h]; rfl
  | j :: r, cs, h => by
    simp only [RCells] at h
    obtain ⟨v0, v1, v2, v3, v4, rest, rfl, _, h3⟩ := h
    have := RCells.len r rest h3
    simp; omega
theorem RCells.snoc {S : Nat → Prop} {w : World} {j : Jv} {v0 v1 v2 v3 v4 : Value} (hj : RAt S w j (.agg #[v0, v1, v2, v3, v4])) : ∀ (l : List Jv) (cs : List Value), RCells S w l cs → RCells S w (l ++ [j]) (cs ++ [v0, v1, v2, v3, v4])
  | [], cs, h => by
    simp only [RCells] at h
    subst h
    simp only [List.nil_append, RCells]
    exact ⟨v0, v1, v2, v3, v4, [], rfl, hj, rfl⟩
  | i :: r, cs, h => by
    simp only [RCells] at h
    obtain ⟨u0, u1, u2, u3, u4, rest, rfl, h2, h3⟩ := h
    simp only [List.cons_append, RCells]
    exact ⟨u0, u1, u2, u3, u4, _, rfl, h2, RCells.snoc hj r rest h3⟩

/-- A value that a call has made: its rows are the call's own, from lo on; what is deeper lies in new blocks apart from them. -/
def JTop (lo : Nat) (w : World) : Jv → Value → Prop
  | .mk k i t l ks, v => ∃ (lv kv : Value) (cs : List Value) (S : Nat → Prop), v = jV k i t lv kv ∧ IntOk k ∧ IntOk i ∧ t.length ≤ big ∧ l.length ≤ big ∧ (ks.length ≤ big ∧ ∀ s ∈ ks, s.length ≤ big) ∧
    w.ownsRow lo 25 5 lv l.length cs ∧ w.ownsRow lo 9 1 kv ks.length (ks.map sV) ∧ RCells S w l cs ∧ (∀ g, S g → lo ≤ g ∧ g < w.heap.size ∧ lv.ownBlock ≠ some g ∧ kv.ownBlock ≠ some g)
/-- New blocks. -/
def Rng (lo hi : Nat) : Nat → Prop := fun g => lo ≤ g ∧ g < hi
theorem add_at (g o i : Nat) : (⟨g, o, none⟩ : Addr).add i = ⟨g, o + i, none⟩ := by
  by_cases h : i = 0
  · subst h; simp [Addr.add]
  · simp [Addr.add, h]
theorem InMem.own {w : World} {lo : Nat} {e : TypeId} {size n : Nat} {v : Value} {cs : List Value} (h : w.ownsRow lo e size v n cs) : InMem (Rng lo w.heap.size) w v n cs := by
  have hc := @World.ownsRow.cells _ _ _ _ _ _ _ h
  rcases h.2 with ⟨rfl, h0⟩ | ⟨g, cap, cur, rfl, hg, hh, _⟩
  · exact Or.inl ⟨h0, none, 0, by rw [h0] at *⟩
  · refine Or.inr ⟨g, 0, cap, rfl, ⟨hg, lt_of_block hh⟩, fun i u hu => ?_⟩
    have := hc (g := g) rfl i u hu
    rwa [add_at] at this
theorem JTop.at_ {lo : Nat} {w : World} : ∀ {j : Jv} {v : Value}, JTop lo w j v → RAt (Rng lo w.heap.size) w j v
  | .mk k i t l ks, v, h => by
    obtain ⟨lv, kv, cs, S, h1, h2, h3, h4, h5, h6, h7, h8, h9, h10⟩ := h
    simp only [RAt]
    exact ⟨lv, kv, h1, h2, h3, h4, ⟨InMem.own h8, h6⟩, h5, cs, RCells.mono (fun g hg => ⟨(h10 g hg).1, (h10 g hg).2.1⟩) l cs h9, InMem.own h7⟩
end Go.Proofs.YteeijmfnjcddmaaGreatDoor
