/- JSON: what must and the document's small readers do. -/
import Derived.Test.YteeijmfnjcddmaaGreatDoorW
import Derived.Test.YteeijmfnjcddmaaGreatDoorMe
import Derived.Test.YteeijmfnjcddmaaGreatDoorChecked
import Derived.WalkLawsBesides
import Derived.Test.YteeijmfnjcddmaaGreatDoorRec
import Derived.Deep.RegionHeld3
import Derived.Deep.LoopGhost
namespace Go.Proofs.YteeijmfnjcddmaaGreatDoor
open Go.RowKit

/-- What must panics with. -/
def wrongV (n : Int) : Value := .iface 84 (.agg #[.int .i64 n])
/-- A panic of must's. -/
abbrev Wr (n : Int) : Ending := .panicked [{ v := wrongV n, recovered := false }]

theorem must_yes (n : Int) (w : World) : Calls Tryz.prog 40 #[.bool true, .int .i64 n] w fun e w' => e = .returned (.tuple #[]) ∧ w = w' := by
  go_enter Tryz.func40, Tryz.ntmps40
  go_wp2
  go_end0
  exact ⟨rfl, rfl⟩
theorem must_no (n : Int) (w : World) : Calls Tryz.prog 40 #[.bool false, .int .i64 n] w fun e w' => e = Wr n ∧ w = w' := by
  go_enter Tryz.func40, Tryz.ntmps40
  go_wp2
  exact ⟨rfl, rfl, rfl⟩

theorem must_ok (t : Bool) (n : Int) (w : World) (h : t = true) : Calls Tryz.prog 40 #[.bool t, .int .i64 n] w fun e w' => e = .returned (.tuple #[]) ∧ w = w' := by subst h; exact must_yes n w
theorem must_bad (t : Bool) (n : Int) (w : World) (h : t = false) : Calls Tryz.prog 40 #[.bool t, .int .i64 n] w fun e w' => e = Wr n ∧ w = w' := by subst h; exact must_no n w

theorem caught_panicking (p : Addr) (x n : Int) (older : List PanicEntry) (w : World) (hc : w.cell? p = some (.int .i64 x)) (hz : w.frozen? p = false) (hp : p.block < w.heap.size) :
    CallsD Tryz.prog 31 #[.pointer (some p)] (.panicking ({ v := wrongV n, recovered := false } :: older)) w fun e u' w' =>
      e = .returned (.tuple #[]) ∧ u' = .panicking ({ v := wrongV n, recovered := true } :: older) ∧ w' = (w.alloc (.cells #[.int .i64 n] 84)).setCell p (.int .i64 n) := by
  unfold wrongV
  have hc' : (w.alloc (.cells #[.int .i64 n] 84)).cell? p = some (.int .i64 x) := (((Fr.refl NoB w).alloc _).cell hp (fun h => h)).trans hc
  have hz' : (w.alloc (.cells #[.int .i64 n] 84)).frozen? p = false := (((Fr.refl NoB w).alloc _).frozen hp (fun h => h)).trans hz
  have hta : ∀ w, (Instr.typeAssert (.iface 84 (.agg #[.int .i64 n])) 20 84 true).run Tryz.prog w = .ok (.tuple #[.agg #[.int .i64 n], .bool true]) w := fun _ => by kernel_rfl
  refine callsD_of_wpS Tryz.func31 rfl fun c₀ cs hu => ?_
  apply wpS_seq
  simp only [Tryz.ntmps31, List.size_toArray, List.length_cons, List.length_nil, Nat.reduceAdd, Nat.reduceSub, Array.replicate_succ, Array.replicate_zero, List.push_toArray, List.append_toArray, List.nil_append, List.cons_append]
  refine wpS_region_recover (.iface 84 (.agg #[.int .i64 n])) ({ c₀ with mode := .panicking ({ v := .iface 84 (.agg #[.int .i64 n]), recovered := true } :: older) } :: cs) (by simp [go_sem]) (by rfl) (Or.inl (by simp [recoverD, hu])) ?_
  clear hu
  simp only [Exit.thenS]
  go_wp2
  refine wpS_of_wp ?_
  go_wp2
  exact ⟨rfl, _, rfl, _, results_none rfl _ _ _, rfl, rfl, rfl⟩
theorem caught_idle (p : Addr) (w : World) :
    CallsD Tryz.prog 31 #[.pointer (some p)] .returning w fun e u' w' => e = .returned (.tuple #[]) ∧ u' = .returning ∧ w' = w.alloc (.cells #[.int .i64 0] 84) := by
  have hta : ∀ w, (Instr.typeAssert .nilIface 20 84 true).run Tryz.prog w = .ok (.tuple #[.agg #[.int .i64 0], .bool false]) w := fun _ => by kernel_rfl
  refine callsD_of_wpS Tryz.func31 rfl fun c₀ cs hu => ?_
  apply wpS_seq
  simp only [Tryz.ntmps31, List.size_toArray, List.length_cons, List.length_nil, Nat.reduceAdd, Nat.reduceSub, Array.replicate_succ, Array.replicate_zero, List.push_toArray, List.append_toArray, List.nil_append, List.cons_append]
  refine wpS_region_recover .nilIface (c₀ :: cs) (by simp [go_sem]) (by rfl) (Or.inr ⟨by simp [recoverD, hu], rfl, rfl⟩) ?_
  simp only [Exit.thenS]
  go_wp2
  refine wpS_of_wp ?_
  go_wp2
  refine ⟨rfl, .returning, ?_, _, results_none rfl _ _ _, rfl, rfl, rfl⟩
  cases c₀; simp_all
end Go.Proofs.YteeijmfnjcddmaaGreatDoor
