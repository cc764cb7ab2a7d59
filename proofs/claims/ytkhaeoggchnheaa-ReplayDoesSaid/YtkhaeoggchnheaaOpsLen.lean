/- How long the script's datum is. -/
import Derived.Test.YtkhaeoggchnheaaOpsOpen
namespace Go.Proofs.Ytkhaeoggchnheaa
open Go.ChangeShapes Go.WideShapes Go.Deep

theorem bytesOp : Try.prog.bytesOf 30 = 48 := by kernel_rfl
theorem ops_len {H : Type} {enc : TypeId × Value → H} {W : World} {a : Option Addr} {n c : Nat} {d : DataW H} {p : List MemPlace} (h : DataW.Trod enc Try.prog W 0 (fun _ => true) true 22 (.slice a n c) d p) :
    n = 0 ∨ ∃ elems spare, d = .slice elems spare ∧ elems.length = n := by
  obtain ⟨fuel, hf⟩ := h
  rcases open_slice_fields Try.underlying22 Try.underlying30 (by kernel_rfl) (by kernel_rfl) hf with ⟨hcs, _⟩ | ⟨x, l, cap, m, D, Pl, hcs, _, hl, hm, hmm, hx, hcell⟩
  · simp [Value.cells] at hcs
    exact Or.inl hcs.2.1
  · simp [Value.cells] at hcs
    obtain ⟨rfl, rfl, rfl⟩ := hcs
    injection hx with h1 h2
    exact Or.inr ⟨_, _, h1, by simp⟩

end Go.Proofs.Ytkhaeoggchnheaa
