/- An argument that is a JSON value, opened; how great it is. -/
import Derived.Test.YteeijmfnjcddmaaGreatDoorCa
import Derived.ProofKit
import Derived.OpenShut
import Derived.ShutString
import Derived.ChangeOld
import Derived.Deep.Slices
import Derived.Deep.Fields
import Derived.ChangeSame
import Derived.SliceStrings
namespace Go.Proofs.YteeijmfnjcddmaaGreatDoor
open Go.ChangeShapes Go.WideShapes Go.Deep Go.RowKit

theorem laidOut : laidOutB Tryz.prog = true := by kernel_rfl
theorem block_add (a : Addr) (n : Nat) : (a.add n).block = a.block := by unfold Addr.add; split <;> rfl

mutual
theorem JSm_of : ∀ j : Jv, szJ j ≤ 8388608 → JSm j
  | .mk k i t l ks, h => by
    simp only [szJ] at h
    simp only [JSm]
    have h1 := szK_len ks
    exact ⟨by omega, by omega, fun s hs => by have := szK_mem ks s hs; omega, JSms_of l (by omega)⟩
theorem JSms_of : ∀ l : List Jv, szL l ≤ 8388608 → JSms l
  | [], _ => by simp [JSms]
  | j :: r, h => by
    simp only [szL] at h
    simp only [JSms]
    exact ⟨JSm_of j (by omega), JSms_of r (by omega)⟩
end

theorem bulkAll_append {H : Type} (l r : List (DataW H)) : Rows.uptoBulkAll (l ++ r) = Rows.uptoBulkAll l + Rows.uptoBulkAll r := by
  induction l with
  | nil => simp [Rows.uptoBulkAll]
  | cons x l ih => simp only [List.cons_append, Rows.uptoBulkAll, ih]; omega
theorem bulk_part {H : Type} {d : DataW H} {l : List (DataW H)} (h : d ∈ l) : Rows.uptoBulk d ≤ Rows.uptoBulkAll l := by
  induction l with
  | nil => cases h
  | cons x r ih =>
    simp only [Rows.uptoBulkAll]
    cases List.mem_cons.1 h with
    | inl e => subst e; omega
    | inr e => have := ih e; omega

theorem five {α : Type} : ∀ (l : List α), l.length = 5 → ∃ a b c d e, l = [a, b, c, d, e]
  | [a, b, c, d, e], _ => ⟨a, b, c, d, e, rfl⟩
  | [], h => by simp at h
  | [_], h => by simp at h
  | [_, _], h => by simp at h
  | [_, _, _], h => by simp at h
  | [_, _, _, _], h => by simp at h
  | _ :: _ :: _ :: _ :: _ :: _ :: _, h => by simp at h
theorem int_ok {n : Int} (h : (Lit.int .i64 n).wf = true) : IntOk n := by
  have e1 : IntKind.i64.min = -9223372036854775808 := rfl
  have e2 : IntKind.i64.max = 9223372036854775807 := rfl
  simp [Lit.wf, e1, e2] at h
  unfold IntOk; omega
section
variable {H : Type} {enc : TypeId × Value → H} {w : World} {base : Nat} {spare : Nat → Bool} {held : Bool}
/-- A slice of texts. -/
theorem open_keys {fuel : Nat} {v : Value} {x : DataW H × List MemPlace} (h : DataW.trod enc Tryz.prog w base spare held fuel 23 [v] = some x) (hb : Rows.uptoBulk x.1 ≤ 1048576) :
    ∃ ks : List Bs, RStrs (fun g => g < w.heap.size) w ks v ∧ szK ks + 1 ≤ Rows.uptoBulk x.1 := by
  rcases open_strings Tryz.underlying23 Tryz.underlying9 (by kernel_rfl) h with ⟨hc, hx⟩ | ⟨a, len, cap, ss, hc, hb0, hl, hm, hss, hx, hcell, hsz⟩
  · simp at hc
    subst hc
    exact ⟨[], ⟨Or.inl ⟨rfl, none, 0, rfl⟩, by unfold big; simp, by simp⟩, by rw [hx]; simp [szK, Rows.uptoBulk]⟩
  · simp at hc
    subst hc
    have hlen : len ≤ ss.length := by rw [hss]; split <;> omega
    have hbu : ∀ l : List ByteArray, szK (l.map (fun s => s.data.toList)) ≤ Rows.uptoBulkAll (strs (H := H) l) := by
      intro l
      induction l with
      | nil => simp [szK, Rows.uptoBulkAll, strs]
      | cons s r ih =>
        simp only [strs, List.map_cons, szK, Rows.uptoBulkAll, Rows.uptoBulk] at ih ⊢
        omega
    have hk := hbu (ss.take len)
    rw [hx] at hb ⊢
    simp only [Rows.uptoBulk] at hb ⊢
    have hkl := szK_len ((ss.take len).map (fun s => s.data.toList))
    have hkm := szK_mem ((ss.take len).map (fun s => s.data.toList))
    have hll : ((ss.take len).map (fun s => s.data.toList)).length = len := by simp; omega
    refine ⟨(ss.take len).map (fun s => s.data.toList), ⟨?_, by unfold big; omega, fun s hs => by have := hkm s hs; unfold big; omega⟩, by omega⟩
    rw [hll]
    by_cases h0 : len = 0
    · subst h0; exact Or.inl ⟨rfl, some a, cap, rfl⟩
    · have c0 := hcell 0 (by omega)
      have hsp : a.spot = none := by simpa [Addr.add] using World.cell?_spot c0
      have hlt := World.block_lt_of_cell? w _ c0
      rw [block_add] at hlt
      obtain ⟨b, off, spot⟩ := a
      simp only at hsp
      subst hsp
      refine Or.inr ⟨b, off, cap, rfl, hlt, fun i u hu => ?_⟩
      have hi : i < len := by
        have := (List.getElem?_eq_some_iff.1 hu).1
        simp at this; omega
      have hc := hcell i (by omega)
      rw [add_at] at hc
      rw [hc]
      have hu2 : (ss.take len)[i]? = some ss[i] := by rw [List.getElem?_take_of_lt hi, List.getElem?_eq_getElem (by omega)]
      simp only [List.getElem?_map, hu2, Option.map_some, Option.some.injEq] at hu
      rw [← hu]
      simp [List.getD, show i < ss.length by omega]

set_option maxRecDepth 100000 in
/-- A JSON value. -/
theorem open_jv : ∀ (N : Nat) (fuel : Nat) (cs : List Value) (d : DataW H) (pl : List MemPlace), Rows.uptoBulk d ≤ N → N ≤ 1048576 → DataW.trod enc Tryz.prog w base spare held fuel 25 cs = some (d, pl) →
    ∃ j v0 v1 v2 v3 v4, cs = [v0, v1, v2, v3, v4] ∧ RAt (fun g => g < w.heap.size) w j (.agg #[v0, v1, v2, v3, v4]) ∧ szJ j ≤ Rows.uptoBulk d := by
  intro N
  induction N with
  | zero => intro fuel cs d pl hd; exact absurd hd (by cases d with | lit l => cases l <;> simp [Rows.uptoBulk] | _ => simp [Rows.uptoBulk])
  | succ N ih =>
  intro fuel cs d pl hd hN h
  obtain ⟨ys, n, _, hy, hcl, hyl, hf⟩ := DataW.trod_struct Tryz.underlying25 h
  simp only [Prod.mk.injEq] at hy
  obtain ⟨rfl, _⟩ := hy
  have hc5 : Tryz.prog.cellsOf 25 = 5 := by kernel_rfl
  rw [hc5] at hcl
  obtain ⟨v0, v1, v2, v3, v4, rfl⟩ : ∃ v0 v1 v2 v3 v4, cs = [v0, v1, v2, v3, v4] := five cs hcl
  have hys : ys.length = 5 := hyl
  obtain ⟨y0, y1, y2, y3, y4, rfl⟩ : ∃ y0 y1 y2 y3 y4, ys = [y0, y1, y2, y3, y4] := five ys hys
  have t0 : DataW.trod enc Tryz.prog w base spare held n 3 [v0] = some y0 := hf 0 _ rfl
  have t1 : DataW.trod enc Tryz.prog w base spare held n 3 [v1] = some y1 := hf 1 _ rfl
  have t2 : DataW.trod enc Tryz.prog w base spare held n 9 [v2] = some y2 := hf 2 _ rfl
  have t3 : DataW.trod enc Tryz.prog w base spare held n 22 [v3] = some y3 := hf 3 _ rfl
  have t4 : DataW.trod enc Tryz.prog w base spare held n 23 [v4] = some y4 := hf 4 _ rfl
  clear hf
  have hbk : Rows.uptoBulk (.agg ([y0, y1, y2, y3, y4].map (·.1)) : DataW H) = Rows.uptoBulk y0.1 + (Rows.uptoBulk y1.1 + (Rows.uptoBulk y2.1 + (Rows.uptoBulk y3.1 + (Rows.uptoBulk y4.1 + 0)))) + 1 := by simp only [List.map_cons, List.map_nil, Rows.uptoBulk, Rows.uptoBulkAll]
  rw [hbk] at hd ⊢
  obtain ⟨z0, e0, x0, w0⟩ := DataW.trod_int Tryz.underlying3 t0
  obtain ⟨z1, e1, x1, w1⟩ := DataW.trod_int Tryz.underlying3 t1
  obtain ⟨s2, e2, x2, w2⟩ := DataW.trod_string Tryz.underlying9 t2
  simp only [List.cons.injEq, and_true] at e0 e1 e2
  subst e0 e1 e2
  have b0 : Rows.uptoBulk y0.1 = 1 := by rw [x0]; simp [Rows.uptoBulk]
  have b1 : Rows.uptoBulk y1.1 = 1 := by rw [x1]; simp [Rows.uptoBulk]
  have b2 : Rows.uptoBulk y2.1 = s2.data.toList.length + 1 := by rw [x2]; simp [Rows.uptoBulk]
  obtain ⟨ks, hks, hkb⟩ := open_keys t4 (by omega)
  have fin : ∀ (l : List Jv) (cs : List Value), RCells (fun g => g < w.heap.size) w l cs → InMem (fun g => g < w.heap.size) w v3 l.length cs → szL l + 1 ≤ Rows.uptoBulk y3.1 → ∃ j v0 v1 v2' v3' v4', [Value.int .i64 z0, .int .i64 z1, .string s2, v3, v4] = [v0, v1, v2', v3', v4'] ∧ RAt (fun g => g < w.heap.size) w j (.agg #[v0, v1, v2', v3', v4']) ∧ szJ j ≤ Rows.uptoBulk y0.1 + (Rows.uptoBulk y1.1 + (Rows.uptoBulk y2.1 + (Rows.uptoBulk y3.1 + (Rows.uptoBulk y4.1 + 0)))) + 1 := by
    intro l cs h1 h2 h3
    refine ⟨.mk z0 z1 s2.data.toList l ks, _, _, _, _, _, rfl, ?_, ?_⟩
    · simp only [RAt]
      have hl := szL_len l
      exact ⟨v3, v4, by simp [jV], int_ok w0, int_ok w1, by unfold big; omega, hks, by unfold big; omega, cs, h1, h2⟩
    · simp only [szJ]; omega
  rcases open_slice Tryz.underlying22 t3 with ⟨hc, hx⟩ | ⟨a, len, cap, m, nn, D, Pl, hc, hb0, hl, hm, hmm, hx, hi⟩
  · simp at hc
    subst hc
    exact fin [] [] (by simp [RCells]) (Or.inl ⟨rfl, none, 0, rfl⟩) (by rw [hx]; simp [szL, Rows.uptoBulk])
  · simp at hc
    subst hc
    have hlm : len ≤ m := by rw [hmm]; split <;> omega
    rw [hc5] at hi
    have hb3 : Rows.uptoBulk y3.1 = Rows.uptoBulkAll ((List.range len).map D) + Rows.uptoBulkAll ((List.range (m - len)).map fun j => D (len + j)) + 1 := by rw [hx]; simp [Rows.uptoBulk]
    have step : ∀ k, k ≤ len → ∃ (l : List Jv) (cs : List Value), l.length = k ∧ RCells (fun g => g < w.heap.size) w l cs ∧ (∀ (i : Nat) u, cs[i]? = some u → w.cell? (a.add i) = some u) ∧ szL l ≤ Rows.uptoBulkAll ((List.range k).map D) := by
      intro k
      induction k with
      | zero => intro _; exact ⟨[], [], rfl, by simp [RCells], by simp, by simp [szL, Rows.uptoBulkAll]⟩
      | succ k ihk =>
        intro hk
        obtain ⟨l, cs, h1, h2, h3, h4⟩ := ihk (by omega)
        obtain ⟨cs', hcs', htr⟩ := hi k (by omega)
        have hDk : Rows.uptoBulk (D k) ≤ Rows.uptoBulkAll ((List.range len).map D) := bulk_part (List.mem_map.2 ⟨k, List.mem_range.2 (by omega), rfl⟩)
        obtain ⟨j, u0, u1, u2, u3, u4, rfl, hat, hsz⟩ := ih nn cs' (D k) (Pl k) (by omega) (by omega) htr
        obtain ⟨_, _, hat'⟩ := World.cells?_some hcs'
        refine ⟨l ++ [j], cs ++ [u0, u1, u2, u3, u4], by simp [h1], RCells.snoc hat l cs h2, ?_, ?_⟩
        · intro i u hu
          have hcl := RCells.len l cs h2
          by_cases hlt : i < cs.length
          · exact h3 i u (by rwa [List.getElem?_append_left hlt] at hu)
          · rw [List.getElem?_append_right (by omega)] at hu
            have hi5 : i - cs.length < 5 := by have := (List.getElem?_eq_some_iff.1 hu).1; simpa using this
            have hc := hat' (i - cs.length) hi5
            rw [add_add, show k * 5 + (i - cs.length) = i by omega, hu] at hc
            exact hc
        · rw [szL_snoc, List.range_succ, List.map_append, bulkAll_append]
          simp only [List.map_cons, List.map_nil, Rows.uptoBulkAll]
          omega
    obtain ⟨l, cs, h1, h2, h3, h4⟩ := step len (Nat.le_refl _)
    refine fin l cs h2 ?_ (by omega)
    rw [h1]
    by_cases h0 : len = 0
    · subst h0; exact Or.inl ⟨rfl, some a, cap, rfl⟩
    · have hcl := RCells.len l cs h2
      have c0 := h3 0 cs[0] (List.getElem?_eq_getElem (by omega))
      have hsp : a.spot = none := by simpa [Addr.add] using World.cell?_spot c0
      have hlt := World.block_lt_of_cell? w _ c0
      rw [block_add] at hlt
      obtain ⟨b, off, spot⟩ := a
      simp only at hsp
      subst hsp
      exact Or.inr ⟨b, off, cap, rfl, hlt, fun i u hu => by have := h3 i u hu; rwa [add_at] at this⟩
end
end Go.Proofs.YteeijmfnjcddmaaGreatDoor
