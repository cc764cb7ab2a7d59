/- JSON: order: the places of a value's elements, as they are told. -/
import Derived.Test.YteeijmfnjcddmaaGreatDoorKc
import Derived.Test.YteeijmfnjcddmaaGreatDoorShelfB
import Derived.Shelf.SlSortCmp.Whole1
import Derived.Deep.OwnRows
import Derived.Shelf.SlSortCmp.NoneTotal
namespace Go.Proofs.YteeijmfnjcddmaaGreatDoor
open Go.RowKit Go.Shelf Go.Sort

theorem cmp_lt : ∀ a b : Bs, Lib.compareBytes a b < 0 ↔ a < b
  | [], [] => by simp [Lib.compareBytes]
  | [], b :: bs => by simp [Lib.compareBytes]
  | a :: u, [] => by simp [Lib.compareBytes]
  | a :: u, b :: v => by
    rw [List.cons_lt_cons_iff, Lib.compareBytes]
    by_cases h1 : a < b
    · simp [h1]
    · by_cases h2 : b < a
      · have : a ≠ b := fun e => by subst e; exact h1 h2
        simp [h1, h2, this]
      · have : a = b := UInt8.le_antisymm (UInt8.not_lt.1 h2) (UInt8.not_lt.1 h1)
        simp [this, cmp_lt u v]

section
variable {α : Type} [Inhabited α] {enc : α → Value}
theorem grownBy_sw {w : World} {g n : Nat} {os : Array Obj} (d : Array α) : w.grownBy (sortWorld enc w g 0 n d os) (some g) := by
  refine ⟨rfl, rfl, rfl, by simp [sortWorld], fun k hk hne => ?_⟩
  unfold sortWorld
  rw [heap_grow_old _ _ (by simpa using hk)]
  have : g ≠ k := fun e => hne (by rw [e])
  simp [putRow, mapBlock, Sort.ahead, Array.getElem?_modify, this]
theorem heap_sw {w : World} {g n : Nat} {os : Array Obj} {cur : Array Value} {e : TypeId} {fr : Nat × Nat} (d : Array α) (hb : w.heap[g]? = some (.cells cur e fr)) :
    (sortWorld enc w g 0 n d os).heap[g]? = some (.cells (putCells enc 0 d cur) e fr) := by
  have hg : g < w.heap.size := (Array.getElem?_eq_some_iff.1 hb).1
  unfold sortWorld
  rw [heap_grow_old _ _ (by simpa using hg)]
  simp [putRow, mapBlock, Sort.ahead, Array.getElem?_modify, hb, onCells]
theorem put_all (cur : Array Value) (ts : List α) (h : ts.length = cur.size) : putCells enc 0 ts.toArray cur = (ts.map enc).toArray := by
  apply Array.ext_getElem?
  intro j
  by_cases hj : j < ts.length
  · simp [putCells, hj, show j < cur.size by omega]
  · simp [putCells, show ¬ j < cur.size by omega, show ts.length ≤ j by omega]
theorem holds_list {w : World} {g : Nat} {e : TypeId} (ts : List α) (hb : Blk w g e (ts.map enc).toArray) : Holds enc w g 0 ts.toArray := by
  intro j hj
  have hj' : j < ts.length := by simpa using hj
  refine ⟨?_, hb.frozen _⟩
  rw [hb.cell]
  simp [hj']
end

theorem order1_any (ks : List Bs) (vb g o c : Nat) (w : World) (hv : w.cell? ⟨vb, 4, none⟩ = some (.slice (some ⟨g, o, none⟩) ks.length c)) (hc : ∀ (i : Nat) u, (ks.map sV)[i]? = some u → w.cell? ⟨g, o + i, none⟩ = some u) (x y : Nat) (hx : x < ks.length) (hy : y < ks.length) :
    Calls Tryz.prog 83 #[.int .i64 x, .int .i64 y, .pointer (some ⟨vb, 0, none⟩)] w fun e w' => e = .returned (.int .i64 (Lib.compareBytes ks[x] ks[y])) ∧ ∃ q, w' = w.drewN q := by
  have cx := hc x _ (by rw [List.getElem?_map, List.getElem?_eq_getElem hx]; rfl)
  have cy := hc y _ (by rw [List.getElem?_map, List.getElem?_eq_getElem hy]; rfl)
  generalize ks[x] = a at cx ⊢
  generalize ks[y] = b at cy ⊢
  generalize ks.length = n at *
  clear hc
  have i1 : (0 : Int) ≤ x := by omega
  have i2 : (x : Int) < n := by omega
  have i3 : (0 : Int) ≤ y := by omega
  have i4 : (y : Int) < n := by omega
  go_enter Tryz.func83, Tryz.ntmps83
  go_wp2
  go_quiet ((go_at_call 84; exact Calls.quiet_of_same (Tryz.strings_Compare ⟨a.toArray⟩ ⟨b.toArray⟩ _)))
  go_wp2
  go_ret
  exact ⟨rfl, _, rfl⟩

/-- Numbers as they stand in a row. -/
abbrev iV (n : Nat) : Value := .int .i64 (n : Int)
theorem set_next (n m : Nat) (h : m < n) : (((List.range m).map iV ++ List.replicate (n - m) (Value.int .i64 0)).toArray).setIfInBounds m (iV m) = ((List.range (m + 1)).map iV ++ List.replicate (n - (m + 1)) (Value.int .i64 0)).toArray := by
  rw [List.setIfInBounds_toArray]
  congr 1
  have e : n - m = (n - (m + 1)) + 1 := by omega
  rw [List.set_append_right _ _ (by simp), e, List.replicate_succ, List.range_succ]
  simp

end Go.Proofs.YteeijmfnjcddmaaGreatDoor
/- JSON: order, whole. -/
namespace Go.Proofs.YteeijmfnjcddmaaGreatDoor
open Go.RowKit Go.Shelf Go.Sort

theorem sort_order (ks : List Bs) (vb g gk ok ck : Nat) (w : World) (hn : 0 < ks.length) (hnd : ks.Nodup) (hl : ks.length ≤ big) (hb : Blk w g 3 ((List.range ks.length).map iV).toArray)
    (hv : w.cell? ⟨vb, 4, none⟩ = some (.slice (some ⟨gk, ok, none⟩) ks.length ck)) (hc : ∀ (i : Nat) u, (ks.map sV)[i]? = some u → w.cell? ⟨gk, ok + i, none⟩ = some u) (h1 : vb ≠ g) (h2 : gk ≠ g) (h3 : vb < w.heap.size) (h4 : gk < w.heap.size) :
    Calls Tryz.prog 82 #[.slice (some ⟨g, 0, none⟩) ks.length ks.length, .func (.func 83) #[] #[.pointer (some ⟨vb, 0, none⟩)]] w fun e w' => e = .returned (.tuple #[]) ∧ Blk w' g 3 ((orderP true ks ks.length).map iV).toArray ∧ Fr (Only g) w w' := by
  haveI : Inhabited (Fin ks.length) := ⟨⟨0, hn⟩⟩
  let enc : Fin ks.length → Value := fun i => iV i.val
  let cf : Fin ks.length → Fin ks.length → Int := fun x y => Lib.compareBytes ks[x.val] ks[y.val]
  have hlt : ∀ x y, ltOf cf x y = decide (ks[x.val] < ks[y.val]) := fun x y => by
    unfold ltOf; rw [decide_eq_decide]; exact cmp_lt _ _
  have hO : SWO (ltOf cf) := {
    irrefl := fun x => by rw [hlt]; simp [List.lt_irrefl]
    trans := fun x y z a b => by rw [hlt] at *; simp only [decide_eq_true_eq] at *; exact List.lt_trans a b
    ntrans := fun x y z a b => by rw [hlt] at *; simp only [decide_eq_false_iff_not] at *; exact List.not_lt.2 (List.le_trans (List.not_lt.1 b) (List.not_lt.1 a)) }
  have hT : ∀ x y, ltOf cf x y = false → ltOf cf y x = false → x = y := fun x y a b => by
    rw [hlt] at a b
    simp only [decide_eq_false_iff_not] at a b
    have e : ks[x.val] = ks[y.val] := List.le_antisymm (List.not_lt.1 b) (List.not_lt.1 a)
    apply Fin.ext
    rcases Nat.lt_trichotomy x.val y.val with h | h | h
    · exact absurd e (List.pairwise_iff_getElem.1 hnd x.val y.val x.isLt y.isLt h)
    · exact h
    · exact absurd e.symm (List.pairwise_iff_getElem.1 hnd y.val x.val y.isLt x.isLt h)
  have hfr : (List.finRange ks.length).map Fin.val = List.range ks.length := by
    apply List.ext_getElem (by simp)
    intro i h1 h2
    simp
  have hfl : ((List.finRange ks.length).map enc) = (List.range ks.length).map iV := by
    apply List.ext_getElem (by simp)
    intro i h1 h2
    simp [enc]
  have eg : ∀ args w, (callFunc 83 args).run Tryz.prog w = .ok (.enter 83 args) w := enters_of Tryz.func83 (by kernel_rfl) rfl
  have hcmp : CmpLays1 Tryz.prog 83 #[.pointer (some ⟨vb, 0, none⟩)] enc cf g 0 (List.finRange ks.length).toArray.size w := by
    intro m os dk hs x y
    have gb := grownBy_sw (enc := enc) (w := w) (g := g) (n := m) (os := os) dk
    have bk : ∀ k, k < w.heap.size → k ≠ g → (sortWorld enc w g 0 m dk os).heap[k]? = w.heap[k]? := fun k hk hne => gb.block k hk (fun e => hne (by cases e; rfl))
    refine (order1_any ks vb gk ok ck _ ((World.cell?_of_block (w := w) (bk vb h3 h1)).trans hv) (fun i u hu => (World.cell?_of_block (w := w) (bk gk h4 h2)).trans (hc i u hu)) x.val y.val x.isLt y.isLt).mono ?_
    rintro e w' ⟨rfl, q, rfl⟩
    exact ⟨rfl, q, #[], by rw [grow_empty]⟩
  have hH : Holds enc w g 0 (List.finRange ks.length).toArray := holds_list _ (by rw [hfl]; exact hb)
  have main := Any.slices_SortFunc_total Tryz.sortF enc (fun _ => rfl) cf hO 83 #[.pointer (some ⟨vb, 0, none⟩)] g 0 ks.length (List.finRange ks.length).toArray w eg hcmp hH hb.lt (by unfold big at hl; simp; omega) hT
  have hsz : (List.finRange ks.length).toArray.size = ks.length := by simp
  rw [hsz] at main
  refine main.mono ?_
  rintro e w' ⟨rfl, n, os, rfl⟩
  have gb := grownBy_sw (enc := enc) (w := w) (g := g) (n := n) (os := os) ((List.finRange ks.length).toArray.toList.mergeSort fun x y => !(ltOf cf) y x).toArray
  refine ⟨rfl, ?_, (Fr.refl (Only g) w).grown gb (fun j hj _ => by cases hj; rfl)⟩
  have hh := heap_sw (enc := enc) (n := n) (os := os) ((List.finRange ks.length).toArray.toList.mergeSort fun x y => !(ltOf cf) y x).toArray hb
  rw [put_all _ _ (by simp [(List.mergeSort_perm _ _).length_eq])] at hh
  have he : ((List.finRange ks.length).toArray.toList.mergeSort fun x y => !(ltOf cf) y x).map enc = (orderP true ks ks.length).map iV := by
    have e1 : enc = iV ∘ Fin.val := rfl
    rw [e1, ← List.map_map]
    congr 1
    rw [List.toList_toArray, List.map_mergeSort (s := fun a b => decide (keyAt ks a ≤ keyAt ks b)), hfr]
    · rfl
    · intro a _ b _
      have ea : keyAt ks a.val = ks[a.val] := by simp [keyAt, List.getD]
      have eb : keyAt ks b.val = ks[b.val] := by simp [keyAt, List.getD]
      rw [hlt, ea, eb, ← decide_not, decide_eq_decide]
      exact List.not_lt
  rw [he] at hh
  exact hh

theorem info_int3 : (Tryz.prog.info? 3).map (fun i => (i.zero, i.size, i.bytes)) = some (some (.int .i64 0), 1, 8) := by kernel_rfl
theorem made_zero (n : Nat) : madeCells #[Value.int .i64 0] n = Array.replicate n (Value.int .i64 0) := by
  unfold madeCells
  apply Array.ext_getElem?
  intro j
  by_cases h : j < n
  · simp [h, Nat.mod_one]
  · simp [h]
theorem rep_zero (n : Nat) : Array.replicate n (Value.int .i64 0) = ((List.range 0).map iV ++ List.replicate (n - 0) (Value.int .i64 0)).toArray := by simp

set_option maxRecDepth 100000 in
set_option maxHeartbeats 3200000 in
theorem order_any (S : Nat → Prop) (k i : Int) (t : Bs) (n : Nat) (ks : List Bs) (la : Option Addr) (lc : Nat) (kv : Value) (w : World) (hS : ∀ g, S g → g < w.heap.size) (hkv : InMem S w kv ks.length (ks.map sV)) (hn : n * 8 ≤ big) (hk : k = 6 → ks.length = n ∧ ks.Nodup) :
    Calls Tryz.prog 57 #[jV k i t (.slice la n lc) kv] w fun e w' => ∃ g, e = .returned (.slice (some ⟨g, 0, none⟩) n n) ∧ w.heap.size ≤ g ∧ Blk w' g 3 ((orderP (k == 6) ks n).map iV).toArray ∧ Fr NoB w w' := by
  unfold big at hn
  have hmk := run_make_row' (P := Tryz.prog) 45 3 (.int .i64 0) 8 Tryz.underlying45 info_int3 rfl .i64 .i64 n (by omega) (by omega)
  rw [made_zero] at hmk
  have f0 : Fr NoB w (w.alloc (.cells #[.int .i64 k, .int .i64 i, .string ⟨t.toArray⟩, .slice la n lc, kv] 25)) := (Fr.refl _ _).alloc _
  have g0 := Blk.new w 25 #[.int .i64 k, .int .i64 i, .string ⟨t.toArray⟩, .slice la n lc, kv]
  have hsz0 : (w.alloc (.cells #[.int .i64 k, .int .i64 i, .string ⟨t.toArray⟩, .slice la n lc, kv] 25)).heap.size = w.heap.size + 1 := by simp
  have H1 := hkv.fr (w' := w.alloc (.cells #[.int .i64 k, .int .i64 i, .string ⟨t.toArray⟩, .slice la n lc, kv] 25)) (fun g hg => f0.block g (hS g hg) (fun e => e))
  generalize hW : w.alloc (.cells #[.int .i64 k, .int .i64 i, .string ⟨t.toArray⟩, .slice la n lc, kv] 25) = W at f0 g0 hsz0 H1
  have HK := Lib.hid hk
  have HKV := Lib.hid H1
  have c0 : W.cell? ⟨w.heap.size, 0, none⟩ = some (.int .i64 k) := (g0.cell 0).trans rfl
  have c3 : W.cell? ⟨w.heap.size, 3, none⟩ = some (.slice la n lc) := (g0.cell 3).trans rfl
  have HW := Lib.hid hW
  clear hkv H1 hk hW
  go_enter Tryz.func57, Tryz.ntmps57
  go_wp2_with fail
  rw [HW.out, ← hsz0]
  have f1 : Fr NoB W (W.alloc (.cells (Array.replicate n (Value.int .i64 0)) 3)) := (Fr.refl _ _).alloc _
  have gb := Blk.new W 3 (Array.replicate n (Value.int .i64 0))
  generalize W.alloc (.cells (Array.replicate n (Value.int .i64 0)) 3) = V at f1 gb ⊢
  rw [rep_zero] at gb
  have hne : w.heap.size ≠ W.heap.size := by omega
  have hlt : w.heap.size < W.heap.size := by omega
  generalize hGB : W.heap.size = GB at gb hne hlt ⊢
  have HGB := Lib.hid hGB
  clear hGB hmk
  go_loopw [11] (fun v wr => ∃ m : Nat, m ≤ n ∧ v = .int .i64 m ∧ Blk wr GB 3 ((List.range m).map iV ++ List.replicate (n - m) (Value.int .i64 0)).toArray ∧ Fr (Only GB) V wr) (fun v _ => n - (intOf v).toNat)
  case atStart => exact ⟨0, Nat.zero_le _, rfl, gb, Fr.refl _ _⟩
  case round =>
    obtain ⟨m, hm, rfl, hb, ht⟩ := hrel
    by_cases hlm : m < n
    · have hz := hb.frozen m
      have hcm : ∃ u, wr.cell? ⟨GB, m, none⟩ = some u := by
        rw [hb.cell]
        rw [List.getElem?_toArray]
        exact ⟨_, List.getElem?_eq_getElem (by simp; omega)⟩
      obtain ⟨u, hu⟩ := hcm
      have hnx := hb.set_ m (iV m)
      rw [set_next n m hlm] at hnx
      have HN := Lib.hid hnx
      have HF := Lib.hid (ht.only (o := m) (iV m))
      clear hb hnx
      go_wp2_with fail
      go_roundw
      case rel => exact ⟨m + 1, by omega, by simp, HN.out, HF.out⟩
      case measure => simp [intOf]; omega
    · obtain rfl : m = n := by omega
      have hb2 : Blk wr GB 3 ((List.range m).map iV).toArray := by simpa using hb
      have hc0 : wr.cell? ⟨w.heap.size, 0, none⟩ = some (.int .i64 k) := by
        rw [ht.cell (p := ⟨w.heap.size, 0, none⟩) (by have := f1.size; show w.heap.size < _; omega) (fun e => hne e), f1.cell (p := ⟨w.heap.size, 0, none⟩) (by show w.heap.size < _; have := HGB.out; omega) (fun e => e)]
        exact c0
      have fall : Fr NoB w wr := (f0.trans f1).andThen ht (fun j hj e => by have e' : j = GB := e; omega)
      by_cases hk6 : k = 6
      · subst hk6
        obtain ⟨hkn, hnd⟩ := HK.out rfl
        have hcv : wr.cell? ⟨w.heap.size, 4, none⟩ = some kv := by
          rw [ht.cell (p := ⟨w.heap.size, 4, none⟩) (by have := f1.size; show w.heap.size < _; omega) (fun e => hne e), f1.cell (p := ⟨w.heap.size, 4, none⟩) (by show w.heap.size < _; have := HGB.out; omega) (fun e => e)]
          exact (g0.cell 4).trans rfl
        by_cases hn0 : m = 0
        · subst hn0
          have HC : Hid (∀ fv, Calls Tryz.prog 82 #[.slice (some ⟨GB, 0, none⟩) 0 0, fv] wr fun e w' => e = .returned (.tuple #[]) ∧ w' = wr) := Lib.hid (fun fv => AnyF.slices_SortFunc_none (P := Tryz.prog) (ρ := Tryz.sortF_ren) { Tryz.sortF with } (some ⟨GB, 0, none⟩) 0 fv wr)
          have ho : orderP (6 == (6 : Int)) ks 0 = [] := List.eq_nil_of_length_eq_zero (orderP_len _ _ _)
          clear hcv
          go_wp2_with (go_at_call 82; ((with_reducible refine (HC.out _).mono ?_); rintro e w' ⟨rfl, rfl⟩))
          go_ret
          exact ⟨GB, rfl, by omega, by rw [ho]; simpa using hb2, fall⟩
        · rcases HKV.out with ⟨h0, _⟩ | ⟨gk, ok, ck, rfl, hgk, hck⟩
          · omega
          · have hgl : gk < w.heap.size := hS gk hgk
            subst hkn
            have hck2 : ∀ (i : Nat) u, (ks.map sV)[i]? = some u → wr.cell? ⟨gk, ok + i, none⟩ = some u := fun i u hu => by
              rw [ht.cell (p := ⟨gk, ok + i, none⟩) (by have := f1.size; show gk < _; omega) (fun e => by have e' : gk = GB := e; omega), f1.cell (p := ⟨gk, ok + i, none⟩) (by show gk < _; have := HGB.out; omega) (fun e => e)]
              exact hck i u hu
            have HC := Lib.hid (sort_order ks w.heap.size GB gk ok ck wr (by omega) hnd (by unfold big; omega) hb2 hcv hck2 (by omega) (by omega) (by have := fall.size; have := hb2.lt; omega) (by have := hb2.lt; omega))
            clear hcv hck2
            go_wp2_with (go_at_call 82; ((with_reducible refine HC.out.mono ?_); rintro e w' ⟨rfl, hb3, f3⟩))
            go_ret
            exact ⟨GB, rfl, by omega, hb3, fall.andThen f3 (fun j hj e => by have e' : j = GB := e; omega)⟩
      · have hk6' : (k == 6) = false := by simpa using hk6
        go_wp2_with fail
        go_ret
        exact ⟨GB, rfl, by omega, by rw [hk6']; exact hb2, fall⟩
end Go.Proofs.YteeijmfnjcddmaaGreatDoor
