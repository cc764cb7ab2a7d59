/- An argument that is a slice of numbers, opened. -/
import Derived.Test.YteeijmfnjcddmaaGreatDoorOj
import Derived.Deep.Slices
namespace Go.Proofs.YteeijmfnjcddmaaGreatDoor
open Go.ChangeShapes Go.WideShapes Go.Deep Go.RowKit

theorem bulk_count {H : Type} : ∀ l : List (DataW H), (∀ d ∈ l, 1 ≤ Rows.uptoBulk d) → l.length ≤ Rows.uptoBulkAll l
  | [], _ => by simp
  | d :: r, h => by
    have h1 := h d (List.mem_cons_self ..)
    have h2 := bulk_count r (fun x hx => h x (List.mem_cons_of_mem _ hx))
    simp only [List.length_cons, Rows.uptoBulkAll]
    omega
section
variable {H : Type} {enc : TypeId × Value → H} {w : World} {base : Nat} {spare : Nat → Bool} {held : Bool}
theorem open_ints {fuel : Nat} {v : Value} {x : DataW H × List MemPlace} (h : DataW.trod enc Tryz.prog w base spare held fuel 45 [v] = some x) :
    ∃ l : List Int, InMem (fun g => g < w.heap.size) w v l.length (l.map (Value.int .i64)) ∧ l.length + 1 ≤ Rows.uptoBulk x.1 := by
  rcases open_slice1 Tryz.underlying45 (by kernel_rfl) h with ⟨hc, hx⟩ | ⟨a, len, cap, m, n, V, D, Pl, hc, hb0, hl, hm, hmm, hx, hi⟩
  · simp at hc
    subst hc
    exact ⟨[], Or.inl ⟨rfl, none, 0, rfl⟩, by rw [hx]; simp [Rows.uptoBulk]⟩
  · simp at hc
    subst hc
    have hlm : len ≤ m := by rw [hmm]; split <;> omega
    have hD : ∀ k, k < len → Rows.uptoBulk (D k) = 1 := fun k hk => by
      obtain ⟨z, _, hz, _⟩ := DataW.trod_int Tryz.underlying3 (hi k (by omega)).2
      simp only [Prod.mk.injEq] at hz
      rw [hz.1]; simp [Rows.uptoBulk]
    have step : ∀ k, k ≤ len → ∃ l : List Int, l.length = k ∧ ∀ (i : Nat) u, (l.map (Value.int .i64))[i]? = some u → w.cell? (a.add i) = some u := by
      intro k
      induction k with
      | zero => intro _; exact ⟨[], rfl, by simp⟩
      | succ k ih =>
        intro hk
        obtain ⟨l, h1, h2⟩ := ih (by omega)
        obtain ⟨hc, ht⟩ := hi k (by omega)
        obtain ⟨z, hz, _, _⟩ := DataW.trod_int Tryz.underlying3 ht
        simp only [List.cons.injEq, and_true] at hz
        rw [hz] at hc
        refine ⟨l ++ [z], by simp [h1], fun i u hu => ?_⟩
        rw [List.map_append] at hu
        by_cases hlt : i < (l.map (Value.int .i64)).length
        · exact h2 i u (by rwa [List.getElem?_append_left hlt] at hu)
        · rw [List.getElem?_append_right (by omega)] at hu
          have h1' : (l.map (Value.int .i64)).length = k := by rw [List.length_map, h1]
          have hik : i = k := by
            have := (List.getElem?_eq_some_iff.1 hu).1
            simp at this; omega
          subst hik
          rw [h1', Nat.sub_self] at hu
          simp at hu
          rw [← hu]; exact hc
    obtain ⟨l, h1, h2⟩ := step len (Nat.le_refl _)
    refine ⟨l, ?_, ?_⟩
    · rw [h1]
      by_cases h0 : len = 0
      · subst h0; exact Or.inl ⟨rfl, some a, cap, rfl⟩
      · have c0 := (hi 0 (by omega)).1
        have hsp : a.spot = none := by simpa [Addr.add] using World.cell?_spot c0
        have hlt := World.block_lt_of_cell? w _ c0
        rw [block_add] at hlt
        obtain ⟨b, off, spot⟩ := a
        simp only at hsp
        subst hsp
        exact Or.inr ⟨b, off, cap, rfl, hlt, fun i u hu => by have := h2 i u hu; rwa [add_at] at this⟩
    · rw [h1, hx]
      have hk := bulk_count ((List.range len).map D) (fun d hd => by
        obtain ⟨k, hk, rfl⟩ := List.mem_map.1 hd
        rw [hD k (List.mem_range.1 hk)]; omega)
      simp only [List.length_map, List.length_range] at hk
      simp only [Rows.uptoBulk]
      omega
end
end Go.Proofs.YteeijmfnjcddmaaGreatDoor
