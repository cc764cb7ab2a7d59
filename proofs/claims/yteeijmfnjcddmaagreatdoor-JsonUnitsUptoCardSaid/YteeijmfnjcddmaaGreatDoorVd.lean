/- JSON: single: are all texts unlike? -/
import Derived.Test.YteeijmfnjcddmaaGreatDoorVa
import Derived.Test.YteeijmfnjcddmaaGreatDoorVc
import Derived.Test.YteeijmfnjcddmaaGreatDoorShelfB
import Derived.Sort.OwnSorted
import Derived.Lib.RowBridge
namespace Go.Proofs.YteeijmfnjcddmaaGreatDoor
open Go.RowKit Go.Shelf Go.Sort

theorem values_any (a : Option Addr) (len cap : Nat) (w : World) :
    Calls Tryz.prog 77 #[.slice a len cap] w fun e w' => e = .returned (.func (.func 105) #[] #[.pointer (some ⟨w.heap.size, 0, none⟩)]) ∧ w.alloc (.cells #[.slice a len cap] 23) = w' :=
  (callsIn_wide (n := 6)).1 ((values_in Fence.wide 6 trivial rfl a len cap w).mono fun _ _ ⟨h1, h2⟩ => ⟨h1, h2.symm⟩)
theorem collect_any (sb n₀ : Nat) (sv : Value) (zs : List Bs) (hlen : zs.length ≤ maxLen) (hbytes : zs.length * 16 ≤ 140737488351232) (w : World) (hsb : sb < w.heap.size) (hn₀ : n₀ ≤ w.heap.size)
    (hc0 : w.cell? ⟨sb, 0, none⟩ = some sv) (hL : Txs n₀ w sv zs) :
    Calls Tryz.prog 103 #[.func (.func 105) #[] #[.pointer (some ⟨sb, 0, none⟩)]] w fun e W' => ∃ v, e = .returned v ∧ W'.ownsRow w.heap.size 9 1 v zs.length (zs.map sV) ∧ Below w.heap.size w W' :=
  (callsIn_wide (n := 6)).1 (collect_in Fence.wide 6 trivial trivial trivial rfl (by omega) sb n₀ sv zs hlen hbytes w hsb hn₀ hc0 hL)

theorem sort_row (blk off cap : Nat) (ss : List Bs) (w : World) (hH : Holds encStr w blk off ss.toArray) (hblk : blk < w.heap.size) (hsz : ss.length < 4611686018427387904) :
    Calls Tryz.prog 104 #[.slice (some ⟨blk, off, none⟩) ss.length cap] w fun e w' => e = .returned (.tuple #[]) ∧ ∃ n os, w' = grow (putRow encStr (Sort.ahead w n) blk off (ss.mergeSort fun x y => decide (x ≤ y)).toArray) os :=
  AnyM.slices_Sort_string Tryz.sortS blk off cap ss w hH hblk hsz
theorem sort_none (p : Option Addr) (cap : Nat) (w : World) : Calls Tryz.prog 104 #[.slice p 0 cap] w fun e w' => e = .returned (.tuple #[]) ∧ w = w' :=
  (AnyM.slices_Sort_string_none Tryz.sortS p cap w).mono fun _ _ ⟨h1, h2⟩ => ⟨h1, h2.symm⟩

/-- The texts in their order. -/
def sortP (zs : List Bs) : List Bs := zs.mergeSort fun x y => decide (x ≤ y)

set_option maxRecDepth 100000 in
set_option maxHeartbeats 1600000 in
theorem sorted_any (sb n₀ : Nat) (sv : Value) (zs : List Bs) (hlen : zs.length ≤ maxLen) (hbytes : zs.length * 16 ≤ 140737488351232) (w : World) (hsb : sb < w.heap.size) (hn₀ : n₀ ≤ w.heap.size)
    (hc0 : w.cell? ⟨sb, 0, none⟩ = some sv) (hL : Txs n₀ w sv zs) :
    Calls Tryz.prog 76 #[.func (.func 105) #[] #[.pointer (some ⟨sb, 0, none⟩)]] w fun e W' => ∃ v, e = .returned v ∧ W'.ownsRow w.heap.size 9 1 v zs.length ((sortP zs).map sV) ∧ Fr NoB w W' := by
  have HC := Lib.hid (collect_any sb n₀ sv zs hlen hbytes w hsb hn₀ hc0 hL)
  clear hc0 hL
  go_enter Tryz.func76, Tryz.ntmps76
  go_wp2_with (go_at_call 103; ((with_reducible refine HC.out.mono ?_); rintro e W ⟨v, rfl, hrow, hb⟩))
  have hrow0 := hrow
  rcases hrow.2 with ⟨rfl, hz⟩ | ⟨gb, cap, cur, rfl, hbase, hgb, r1, r2, r3, r4⟩
  · have hzs : zs = [] := List.eq_nil_of_length_eq_zero hz
    subst hzs
    refine (sort_none none 0 W).mono ?_
    rintro e w' ⟨rfl, rfl⟩
    go_wp2
    go_ret
    exact ⟨.slice none 0 0, rfl, by simpa [sortP] using hrow0, Fr.of_below hb⟩
  · have hH : Holds encStr W gb 0 zs.toArray := holds_of_block hgb (by simpa using r4)
    have hgl : gb < W.heap.size := lt_of_block hgb
    refine (sort_row gb 0 cap zs W hH hgl (by unfold maxLen at hlen; omega)).mono ?_
    rintro e w' ⟨rfl, nn, os, rfl⟩
    have hbs := hb.grown (grownBy_sorted (n := nn) (os := os) (sortP zs).toArray) hb.size (fun j hj => by cases hj; exact hbase)
    go_wp2
    go_ret
    exact ⟨_, rfl, ownsRow_sorted (by simp) hbase hgb r1 r2 r3, Fr.of_below hbs⟩

/-! The plain part: what is left of a sorted row, where no text stands twice. -/
theorem keeps_at (zs : List Bs) (j : Nat) (h : j + 1 < zs.length) : Lib.keeps zs.toArray (j + 1) = decide (zs[j + 1] ≠ zs[j]) := by
  unfold Lib.keeps
  have h1 : zs.toArray[j + 1]! = zs[j + 1] := by rw [getElem!_pos _ _ (by simpa using h)]; simp
  have h2 : zs.toArray[j + 1 - 1]! = zs[j] := by rw [Nat.add_sub_cancel, getElem!_pos _ _ (by simp; omega)]; simp
  rw [h1, h2]
  simp
theorem compact_len (zs : List Bs) : (Lib.compact zs).length = zs.length ↔ ∀ j (h : j + 1 < zs.length), zs[j + 1] ≠ zs[j] := by
  unfold Lib.compact Lib.compactUpTo
  rw [List.length_map]
  constructor
  · intro he j h hn
    have hl : ((List.range zs.length).filter (Lib.keeps zs.toArray)).length = (List.range zs.length).length := by rw [he]; simp
    have hall := List.length_filter_eq_length_iff.1 hl (j + 1) (List.mem_range.2 h)
    rw [keeps_at zs j h] at hall
    simp [hn] at hall
  · intro hne
    have : (List.range zs.length).filter (Lib.keeps zs.toArray) = List.range zs.length := List.filter_eq_self.2 (fun j hj => by
      cases j with
      | zero => exact Lib.keeps_lt_one _ 0 (by omega)
      | succ j => rw [keeps_at zs j (List.mem_range.1 hj)]; simpa using hne j (List.mem_range.1 hj))
    rw [this]; simp
theorem sortP_perm (zs : List Bs) : (sortP zs).Perm zs := List.mergeSort_perm _ _
theorem sortP_sorted (zs : List Bs) : (sortP zs).Pairwise (fun x y => x ≤ y) := by
  have := List.pairwise_mergeSort (le := fun x y : Bs => decide (x ≤ y)) (fun a b c h1 h2 => by simp only [decide_eq_true_eq] at *; exact List.le_trans h1 h2) (fun a b => by simp only [Bool.or_eq_true, decide_eq_true_eq]; exact List.le_total a b) zs
  exact this.imp (fun h => by simpa using h)
theorem single_len (zs : List Bs) : (Lib.compact (sortP zs)).length = zs.length ↔ zs.Nodup := by
  rw [← (sortP_perm zs).nodup_iff]
  have hl : (sortP zs).length = zs.length := (sortP_perm zs).length_eq
  rw [← hl, compact_len]
  have hs := sortP_sorted zs
  generalize sortP zs = l at hs
  constructor
  · intro hne
    induction l with
    | nil => exact List.nodup_nil
    | cons a r ih =>
      rw [List.pairwise_cons] at hs
      rw [List.nodup_cons]
      refine ⟨fun ha => ?_, ih hs.2 (fun j h => hne (j + 1) (by simp; omega))⟩
      cases r with
      | nil => simp at ha
      | cons b q =>
        have h01 := hne 0 (by simp)
        have hab := hs.1 b (by simp)
        have hba : b ≤ a := by
          rcases List.mem_cons.1 ha with rfl | hq
          · exact List.le_refl _
          · exact (List.pairwise_cons.1 hs.2).1 a hq
        exact h01 (List.le_antisymm hba hab)
  · intro hn j h he
    exact List.pairwise_iff_getElem.1 hn j (j + 1) (by omega) h (by omega) he.symm

theorem Fr.put {S : Nat → Prop} {a w : World} (h : Fr S a w) (g n : Nat) (d : Array Bs) (hg : a.heap.size ≤ g) : Fr S a (putRow encStr (Sort.ahead w n) g 0 d) :=
  ⟨h.os, h.tape, h.output, by simpa [putRow, mapBlock, Sort.ahead] using h.size, fun k hk hn => by
    have hne : g ≠ k := by omega
    have e : (putRow encStr (Sort.ahead w n) g 0 d).heap[k]? = w.heap[k]? := by simp [putRow, mapBlock, Sort.ahead, Array.getElem?_modify, hne]
    exact e.trans (h.block k hk hn)⟩

/-- Texts in memory, as slices.Values wants them. -/
theorem InMem.txs {S : Nat → Prop} {w : World} {kv : Value} {ks : List Bs} (h : InMem S w kv ks.length (ks.map sV)) (hS : ∀ g, S g → g < w.heap.size) : Txs w.heap.size w kv ks := by
  rcases h with ⟨h0, a, c, rfl⟩ | ⟨g, o, c, rfl, hg, hc⟩
  · exact Or.inl ⟨a, c, rfl, List.eq_nil_of_length_eq_zero h0⟩
  · exact Or.inr ⟨g, o, c, rfl, hS g hg, fun j hj => hc j _ (by simp [hj])⟩

set_option maxRecDepth 100000 in
set_option maxHeartbeats 1600000 in
theorem single_any (S : Nat → Prop) (ks : List Bs) (kv : Value) (w : World) (hS : ∀ g, S g → g < w.heap.size) (h : InMem S w kv ks.length (ks.map sV)) (hl : ks.length * 16 ≤ 140737488351232) :
    Calls Tryz.prog 52 #[kv] w fun e w' => e = .returned (.bool (decide ks.Nodup)) ∧ Fr NoB w w' := by
  have hT := h.txs hS
  obtain ⟨a, n, c, rfl, hn⟩ : ∃ a n c, kv = .slice a n c ∧ n = ks.length := by
    rcases h with ⟨h0, a, c, rfl⟩ | ⟨g, o, c, rfl, hg, hc⟩
    · exact ⟨a, 0, c, rfl, h0.symm⟩
    · exact ⟨_, _, c, rfl, rfl⟩
  subst hn
  clear h hS
  have f1 : Fr NoB w (w.alloc (.cells #[.slice a ks.length c] 23)) := (Fr.refl _ _).alloc _
  have b1 := Blk.new w 23 #[.slice a ks.length c]
  have HS := Lib.hid (sorted_any w.heap.size w.heap.size _ ks (by unfold maxLen; omega) hl _ (by simp) (by simp) ((b1.cell 0).trans rfl) (hT.below (f1.toBelow)))
  clear hT
  have hlen := single_len ks
  have hsl : (sortP ks).length = ks.length := (sortP_perm ks).length_eq
  generalize sortP ks = zs at HS hlen hsl
  go_enter Tryz.func52, Tryz.ntmps52
  go_wp2_with (first | (go_at_call 77; ((with_reducible refine (values_any _ _ _ _).mono ?_); rintro e w1 ⟨rfl, rfl⟩)) | (go_at_call 76; ((with_reducible refine HS.out.mono ?_); rintro e W ⟨v, rfl, hrow, fW⟩)))
  rcases hrow.2 with ⟨rfl, hz⟩ | ⟨gb, cap, cur, rfl, hbase, hgb, r1, r2, r3, r4⟩
  · have hks : ks = [] := List.eq_nil_of_length_eq_zero hz
    subst hks
    refine (Tryz.slices_Compact_string_empty none 0 W).mono ?_
    rintro e w' ⟨rfl, rfl⟩
    go_wp2
    go_ret
    exact ⟨by simp, f1.trans fW⟩
  · have hH : Holds encStr W gb 0 zs.toArray := holds_of_block hgb (by rw [hsl]; simpa using r4)
    have hb2 : w.heap.size + 1 ≤ gb := by simpa using hbase
    have hC := Tryz.slices_Compact_string gb 0 cap zs W hH (by omega) (by omega)
    rw [hsl] at hC
    refine hC.mono ?_
    rintro e w' ⟨rfl, q, rfl⟩
    have fin := (f1.trans fW).put gb q (Lib.compact zs ++ List.replicate (ks.length - (Lib.compact zs).length) []).toArray (by omega)
    have hle : (Lib.compact zs).length ≤ zs.length := Lib.compact_length_le zs
    generalize (Lib.compact zs).length = cl at hlen hle fin ⊢
    clear hC
    have hbe : ((cl : Int) == (ks.length : Int)) = decide ks.Nodup := by
      rw [Bool.eq_iff_iff]
      simp only [decide_eq_true_eq, beq_iff_eq]
      rw [← hlen]
      omega
    go_wp2
    go_ret
    exact ⟨rfl, fin⟩
end Go.Proofs.YteeijmfnjcddmaaGreatDoor
