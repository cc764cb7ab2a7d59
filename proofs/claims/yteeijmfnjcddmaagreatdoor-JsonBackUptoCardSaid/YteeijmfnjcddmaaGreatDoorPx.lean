/- JSON: what Parse hands back, in one shape; values laid into variables. -/
import Derived.Test.YteeijmfnjcddmaaGreatDoorRs
namespace Go.Proofs.YteeijmfnjcddmaaGreatDoor
open Go.RowKit

/-- The error's number of what was read. -/
def errP : Except Nat Jv → Nat | .ok _ => 0 | .error n => n
/-- The value of what was read. -/
def valP : Except Nat Jv → Jv | .ok j => j | .error _ => Jv.nul
/-- What Parse hands back, in one shape. -/
def ParO (q : Except Nat Jv) (w : World) (e : Ending) (w' : World) : Prop := ∃ v, e = .returned (.tuple #[v, .int .i64 (errP q : Int)]) ∧ RAt (All w') w' (valP q) v ∧ Fr NoB w w'

theorem RAt.form {S : Nat → Prop} {w : World} {j : Jv} {v : Value} (h : RAt S w j v) : ∃ v0 v1 v2 v3 v4, v = .agg #[v0, v1, v2, v3, v4] ∧ (#[v0, v1, v2, v3, v4].all (·.oneCell')) = true := by
  cases j with
  | mk k i t l ks =>
    have h0 := h
    simp only [RAt] at h
    obtain ⟨lv, kv, rfl, _⟩ := h
    exact ⟨_, _, _, _, _, rfl, all_one h0.one⟩
/-- A value that a call has handed back, laid into a variable of its own. -/
theorem put_row (u : World) (v0 v1 v2 v3 v4 : Value) : Fr NoB u ((u.alloc (.cells zj 25)).setRow u.heap.size #[v0, v1, v2, v3, v4]) ∧ Blk ((u.alloc (.cells zj 25)).setRow u.heap.size #[v0, v1, v2, v3, v4]) u.heap.size 25 #[v0, v1, v2, v3, v4] :=
  ⟨((Fr.refl NoB u).alloc _).setRow u.heap.size _ (Or.inl (Nat.le_refl _)), (Blk.new u 25 zj).setRow _⟩
theorem Blk.five {w : World} {g : Nat} {v0 v1 v2 v3 v4 : Value} (h : Blk w g 25 #[v0, v1, v2, v3, v4]) : w.cell? ⟨g, 0, none⟩ = some v0 ∧ w.cell? ⟨g, 1, none⟩ = some v1 ∧ w.cell? ⟨g, 2, none⟩ = some v2 ∧ w.cell? ⟨g, 3, none⟩ = some v3 ∧ w.cell? ⟨g, 4, none⟩ = some v4 :=
  ⟨(h.cell 0).trans rfl, (h.cell 1).trans rfl, (h.cell 2).trans rfl, (h.cell 3).trans rfl, (h.cell 4).trans rfl⟩
theorem own_strs {w : World} {lo : Nat} {v : Value} {ks : List Bs} (h : w.ownsRow lo 9 1 v ks.length (ks.map sV)) (h1 : ks.length ≤ big) (h2 : ∀ s ∈ ks, s.length ≤ big) : RStrs (All w) w ks v :=
  ⟨(InMem.own h).mono (fun _ hg => hg.2), h1, h2⟩
theorem RStrs.all {w u : World} {ks : List Bs} {v : Value} (h : RStrs (All w) w ks v) (f : Fr NoB w u) : RStrs (All u) u ks v :=
  RStrs.mono (RStrs.fr h (fun g hg => f.block g hg (fun e => e))) (fun _ hg => Nat.lt_of_lt_of_le hg f.size)
end Go.Proofs.YteeijmfnjcddmaaGreatDoor
