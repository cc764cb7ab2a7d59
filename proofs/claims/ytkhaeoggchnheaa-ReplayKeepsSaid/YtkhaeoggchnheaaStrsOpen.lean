/- An argument that is a slice of strings, opened. -/
import Derived.Test.YtkhaeoggchnheaaOpsOpen
import Derived.Test.YtkhaeoggchnheaaKeeps
import Derived.SliceStrings
namespace Go.Proofs.Ytkhaeoggchnheaa
open Go.ChangeShapes Go.WideShapes Go.Deep

theorem add_of_none {x : Addr} (hsp : x.spot = none) (k : Nat) : x.add k = ⟨x.block, x.off + k, none⟩ := by
  obtain ⟨b, off, spot⟩ := x
  simp only at hsp
  subst hsp
  unfold Addr.add
  split
  · rename_i h; subst h; rfl
  · rfl

theorem open_strs {H : Type} {enc : TypeId × Value → H} {W : World} {a : Option Addr} {n c : Nat} {d : DataW H} {p : List MemPlace} (h : DataW.Trod enc Try.prog W 0 (fun _ => true) true 36 (.slice a n c) d p) :
    n ≤ maxLen ∧ Strs W a n W.heap.size := by
  obtain ⟨fuel, hf⟩ := h
  rcases open_strings Try.underlying36 Try.underlying9 (by kernel_rfl) hf with ⟨hcs, _⟩ | ⟨x, l, cap, ss, hcs, _, hl, hm, hz, _, hcell, hws⟩
  · simp [Value.cells] at hcs
    obtain ⟨rfl, rfl, rfl⟩ := hcs
    exact ⟨by unfold maxLen; omega, fun i hi => absurd hi (by omega)⟩
  · simp [Value.cells] at hcs
    obtain ⟨rfl, rfl, rfl⟩ := hcs
    simp only [if_true] at hz
    refine ⟨by omega, fun i hi => ?_⟩
    have hsp : x.spot = none := by simpa [Addr.add] using World.cell?_spot (hcell 0 (by omega))
    have hc := hcell i (by omega)
    have hlt := World.block_lt_of_cell? W _ hc
    rw [add_of_none hsp] at hc hlt
    have hx : x = ⟨x.block, x.off, none⟩ := by obtain ⟨b, off, spot⟩ := x; simp only at hsp; subst hsp; rfl
    refine ⟨x.block, x.off, _, congrArg some hx, hlt, ?_, hc⟩
    have hi' : i < ss.length := by omega
    rw [List.getD_eq_getElem?_getD, List.getElem?_eq_getElem hi']
    exact hws _ (List.getElem_mem hi')

end Go.Proofs.Ytkhaeoggchnheaa
