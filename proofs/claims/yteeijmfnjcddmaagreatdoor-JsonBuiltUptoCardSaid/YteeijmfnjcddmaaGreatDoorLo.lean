/- JSON: order: the places of a value's elements, as they are told. -/
import Derived.Test.YteeijmfnjcddmaaGreatDoorKd
import Derived.Test.YteeijmfnjcddmaaGreatDoorShelfB
import Derived.Shelf.SlSortCmp.Whole1
import Derived.Deep.OwnRows
namespace Go.Proofs.YteeijmfnjcddmaaGreatDoor
open Go.RowKit Go.Shelf Go.Sort

/-- The key of a place. -/
def keyAt (ks : List Bs) (i : Nat) : Bs := ks.getD i []
/-- The places, as they are told. -/
def orderP (obj : Bool) (ks : List Bs) (n : Nat) : List Nat := if obj then (List.range n).mergeSort (fun a b => decide (keyAt ks a ≤ keyAt ks b)) else List.range n
theorem orderP_perm (obj : Bool) (ks : List Bs) (n : Nat) : (orderP obj ks n).Perm (List.range n) := by
  unfold orderP; split
  · exact List.mergeSort_perm _ _
  · exact List.Perm.refl _
theorem orderP_len (obj : Bool) (ks : List Bs) (n : Nat) : (orderP obj ks n).length = n := by rw [(orderP_perm obj ks n).length_eq, List.length_range]
theorem orderP_lt {obj : Bool} {ks : List Bs} {n m : Nat} (h : m ∈ orderP obj ks n) : m < n := List.mem_range.1 ((orderP_perm obj ks n).mem_iff.1 h)

theorem cmp_lt : ∀ a b : Bs, Lib.compareBytes a b < 0 ↔ a < b
  | [], [] => by simp [Lib.compareBytes]
  | [], b :: bs => by simp [Lib.compareBytes]
  | a :: u, [] => by simp [Lib.compareBytes]
  | a :: u, b :: v => by
    rw [List.cons_lt_cons_iff, Lib.compareBytes]
    by_cases h1 : a < b
    · simp [h1]
    · by_cases h2 : b < a
      · have : a ≠ b := fun e => by subst e; exact h1 h2
        simp [h1, h2, this]
      · have : a = b := UInt8.le_antisymm (UInt8.not_lt.1 h2) (UInt8.not_lt.1 h1)
        simp [this, cmp_lt u v]

section
variable {α : Type} [Inhabited α] {enc : α → Value}
theorem grownBy_sw {w : World} {g n : Nat} {os : Array Obj} (d : Array α) : w.grownBy (sortWorld enc w g 0 n d os) (some g) := by
  refine ⟨rfl, rfl, rfl, by simp [sortWorld], fun k hk hne => ?_⟩
  unfold sortWorld
  rw [heap_grow_old _ _ (by simpa using hk)]
  have : g ≠ k := fun e => hne (by rw [e])
  simp [putRow, mapBlock, Sort.ahead, Array.getElem?_modify, this]
theorem heap_sw {w : World} {g n : Nat} {os : Array Obj} {cur : Array Value} {e : TypeId} {fr : Nat × Nat} (d : Array α) (hb : w.heap[g]? = some (.cells cur e fr)) :
    (sortWorld enc w g 0 n d os).heap[g]? = some (.cells (putCells enc 0 d cur) e fr) := by
  have hg : g < w.heap.size := (Array.getElem?_eq_some_iff.1 hb).1
  unfold sortWorld
  rw [heap_grow_old _ _ (by simpa using hg)]
  simp [putRow, mapBlock, Sort.ahead, Array.getElem?_modify, hb, onCells]
theorem put_all (cur : Array Value) (ts : List α) (h : ts.length = cur.size) : putCells enc 0 ts.toArray cur = (ts.map enc).toArray := by
  apply Array.ext_getElem?
  intro j
  by_cases hj : j < ts.length
  · simp [putCells, hj, show j < cur.size by omega]
  · simp [putCells, show ¬ j < cur.size by omega, show ts.length ≤ j by omega]
theorem holds_list {w : World} {g : Nat} {e : TypeId} (ts : List α) (hb : Blk w g e (ts.map enc).toArray) : Holds enc w g 0 ts.toArray := by
  intro j hj
  have hj' : j < ts.length := by simpa using hj
  refine ⟨?_, hb.frozen _⟩
  rw [hb.cell]
  simp [hj']
end

theorem order1_any (ks : List Bs) (vb g o c : Nat) (w : World) (hv : w.cell? ⟨vb, 4, none⟩ = some (.slice (some ⟨g, o, none⟩) ks.length c)) (hc : ∀ (i : Nat) u, (ks.map sV)[i]? = some u → w.cell? ⟨g, o + i, none⟩ = some u) (x y : Nat) (hx : x < ks.length) (hy : y < ks.length) :
    Calls Tryz.prog 83 #[.int .i64 x, .int .i64 y, .pointer (some ⟨vb, 0, none⟩)] w fun e w' => e = .returned (.int .i64 (Lib.compareBytes ks[x] ks[y])) ∧ ∃ q, w' = w.drewN q := by
  have cx := hc x _ (by rw [List.getElem?_map, List.getElem?_eq_getElem hx]; rfl)
  have cy := hc y _ (by rw [List.getElem?_map, List.getElem?_eq_getElem hy]; rfl)
  generalize ks[x] = a at cx ⊢
  generalize ks[y] = b at cy ⊢
  generalize ks.length = n at *
  clear hc
  have i1 : (0 : Int) ≤ x := by omega
  have i2 : (x : Int) < n := by omega
  have i3 : (0 : Int) ≤ y := by omega
  have i4 : (y : Int) < n := by omega
  go_enter Tryz.func83, Tryz.ntmps83
  go_wp2
  go_quiet ((go_at_call 84; exact Calls.quiet_of_same (Tryz.strings_Compare ⟨a.toArray⟩ ⟨b.toArray⟩ _)))
  go_wp2
  go_ret
  exact ⟨rfl, _, rfl⟩

/-- Numbers as they stand in a row. -/
abbrev iV (n : Nat) : Value := .int .i64 (n : Int)
theorem set_next (n m : Nat) (h : m < n) : (((List.range m).map iV ++ List.replicate (n - m) (Value.int .i64 0)).toArray).setIfInBounds m (iV m) = ((List.range (m + 1)).map iV ++ List.replicate (n - (m + 1)) (Value.int .i64 0)).toArray := by
  rw [List.setIfInBounds_toArray]
  congr 1
  have e : n - m = (n - (m + 1)) + 1 := by omega
  rw [List.set_append_right _ _ (by simp), e, List.replicate_succ, List.range_succ]
  simp

end Go.Proofs.YteeijmfnjcddmaaGreatDoor
