/- ReplayDoes: the walk. -/
import Derived.Test.YtkhaeoggchnheaaSim
import Derived.Test.YtkhaeoggchnheaaRooms
namespace Go.Proofs.Ytkhaeoggchnheaa
open Go.RowKit Go.Maps Go.WideMaps

theorem POK.grown {w w' : World} {base : Nat} {room : Int} {q : Pr} {g t : Nat} (h : POK w base room q) (hg : w.grownBy w' (some g)) (ht : tag w g = t + 2) (h1 : t ≠ 48) (h2 : t ≠ 53) (h3 : t ≠ 55) : POK w' base room q := by
  have f : Fr (fun k => k = g) w w' := (Fr.refl _ _).grown hg (fun j hj _ => by injection hj with hj; exact hj.symm)
  have q1 := tag_blk h.c.blk
  have q2 := tag_map h.c.own
  have q3 := tag_blk h.r.blk
  refine h.fr f ?_ ?_ ?_ ?_
  · intro e; rw [e, ht] at q1; exact h1 (Nat.add_right_cancel q1)
  · intro e; rw [e, ht] at q2; omega
  · intro e; rw [e, ht] at q3; exact h2 (Nat.add_right_cancel q3)
  · intro g' hg' e
    have q4 := tag_rowB h.r hg'
    rw [e, ht] at q4; exact h3 (Nat.add_right_cancel q4)

theorem DInv.push {w0 w w1 w2 w3 w4 : World} {room : Int} {ps : List Pr} {gx cx gy cy k gx' cx' gy' cy' : Nat} (h : DInv w0 w room ps gx cx gy cy k) {n : Nat} {p : Pr} (hn : ps[n]? = some p)
    (hc : ClonePost w w1 (w.heap.size + 1) w.heap.size room p.clock p.es)
    (gr1 : w1.grownBy w2 (some gx)) (hx : w2.ownsRow w0.heap.size 23 1 (.slice (some ⟨gx', 0, none⟩) (ps.length + 1) cx') (ps.length + 1) ((ps.map fun p => Value.pointer (some ⟨p.b, 0, none⟩)) ++ [.pointer (some ⟨w.heap.size + 1, 0, none⟩)]))
    (hcp : CopyPost w2 w3 w0.heap.size room p.clock p.L)
    (gr2 : w3.grownBy w4 (some gy)) (hy : w4.ownsRow w0.heap.size 39 1 (.slice (some ⟨gy', 0, none⟩) (ps.length + 1) cy') (ps.length + 1) ((ps.map fun p => Value.pointer (some ⟨p.rb, 0, none⟩)) ++ [.pointer (some ⟨w2.heap.size, 0, none⟩)])) :
    ∃ ps', ps'.length = ps.length + 1 ∧ DInv w0 w4 room ps' gx' cx' gy' cy' (k + 1) := by
  obtain ⟨A', cap', hR, hrow⟩ := hcp.ex
  have s0 : w0.heap.size ≤ w.heap.size := h.fr.size
  have s1 := hc.fr.size
  have s1' : w.heap.size + 1 < w1.heap.size := hc.c.blk.lt
  have s2 := gr1.size
  have s3 := hcp.fr.size
  have s4 := gr2.size
  have tx : tag w1 gx = 23 + 2 := tag_row (hc.fr.row h.xs (fun _ _ x => x)) rfl
  have ty1 : tag w1 gy = 39 + 2 := tag_row (hc.fr.row h.ys (fun _ _ x => x)) rfl
  have hneg : gy ≠ gx := fun e => by rw [e, tx] at ty1; exact absurd ty1 (by decide)
  have ys1 := hc.fr.row h.ys (fun _ _ x => x)
  have ys2 : w2.ownsRow w0.heap.size 39 1 (.slice (some ⟨gy, 0, none⟩) ps.length cy) ps.length (ps.map fun p => .pointer (some ⟨p.rb, 0, none⟩)) := ys1.kept gr1 (by simpa [Value.ownBlock] using hneg)
  have ys3 := hcp.fr.row ys2 (fun _ _ x => x)
  have ty : tag w3 gy = 39 + 2 := tag_row ys3 rfl
  have hx3 := hcp.fr.row hx (fun _ _ x => x)
  have tx3 : tag w3 gx' = 23 + 2 := tag_row hx3 rfl
  have hneg2 : gx' ≠ gy := fun e => by rw [e, ty] at tx3; exact absurd tx3 (by decide)
  have old : ∀ (i : Nat) q, ps[i]? = some q → POK w4 w0.heap.size room q := fun i q hq =>
    ((((h.all i q hq).no hc.fr).grown gr1 tx (by decide) (by decide) (by decide)).no hcp.fr).grown gr2 ty (by decide) (by decide) (by decide)
  have hp := h.all n p hn
  have c2 : IsC w2 (w.heap.size + 1) w.heap.size room p.clock p.es.length (.map p.es) := by
    have q1 := tag_blk hc.c.blk
    have q2 := tag_map hc.c.own
    refine ⟨(gr1.block _ hc.c.blk.lt ?_).trans hc.c.blk, hc.c.own.kept gr1 ?_, hc.c.ne⟩
    · intro e; injection e with e; rw [e, tx] at q1; exact absurd q1 (by decide)
    · intro e; injection e with e; rw [e, tx] at q2; exact absurd q2 (by decide)
  have c3 := c2.fr hcp.fr (fun x => x) (fun x => x)
  have r4 : POK w4 w0.heap.size room ⟨w.heap.size + 1, w.heap.size, w2.heap.size, A', cap', p.clock, p.es, p.L⟩ :=
    (POK.grown (q := ⟨w.heap.size + 1, w.heap.size, w2.heap.size, A', cap', p.clock, p.es, p.L⟩) ⟨c3, hR, hp.i, hp.s, by show w0.heap.size ≤ w.heap.size + 1; omega, s0, by show w0.heap.size ≤ w2.heap.size; omega⟩ gr2 ty (by decide) (by decide) (by decide))
  have lt_of : ∀ (i : Nat) q, ps[i]? = some q → q.b < w.heap.size ∧ q.mb < w.heap.size ∧ q.rb < w.heap.size ∧ ∀ g, rowB q.A = some g → g < w.heap.size := by
    intro i q hq
    have hh := h.all i q hq
    refine ⟨hh.c.blk.lt, hh.c.own.lt, hh.r.blk.lt, fun g hg => ?_⟩
    rcases hh.r.shape with ⟨e, _⟩ | ⟨g', e, _, hl, _⟩
    · rw [e] at hg; cases hg
    · rw [e] at hg; simp [rowB] at hg; omega
  have apn : ∀ (i : Nat) q, ps[i]? = some q → Apart q ⟨w.heap.size + 1, w.heap.size, w2.heap.size, A', cap', p.clock, p.es, p.L⟩ := by
    intro i q hq
    obtain ⟨l1, l2, l3, l4⟩ := lt_of i q hq
    refine ⟨?_, ?_, ?_, fun g hg hg' => ?_⟩
    · show q.b ≠ w.heap.size + 1; omega
    · show q.mb ≠ w.heap.size; omega
    · show q.rb ≠ w2.heap.size; omega
    · have := l4 g hg
      have := hrow g hg'
      omega
  have gapp : ∀ (i : Nat) q, (ps ++ [(⟨w.heap.size + 1, w.heap.size, w2.heap.size, A', cap', p.clock, p.es, p.L⟩ : Pr)])[i]? = some q → (ps[i]? = some q ∧ i < ps.length) ∨ (i = ps.length ∧ q = ⟨w.heap.size + 1, w.heap.size, w2.heap.size, A', cap', p.clock, p.es, p.L⟩) := by
    intro i q hq
    rcases Nat.lt_or_ge i ps.length with hl | hl
    · rw [List.getElem?_append_left hl] at hq
      exact Or.inl ⟨hq, hl⟩
    · rw [List.getElem?_append_right hl] at hq
      by_cases e : i = ps.length
      · subst e
        simp at hq
        exact Or.inr ⟨rfl, hq.symm⟩
      · rw [List.getElem?_eq_none (by simp; omega)] at hq
        cases hq
  refine ⟨ps ++ [⟨w.heap.size + 1, w.heap.size, w2.heap.size, A', cap', p.clock, p.es, p.L⟩], by simp, ?_, ?_, ?_, ?_, ?_, by simp, by have := h.len; simp; omega, ?_⟩
  · intro i q hq
    rcases gapp i q hq with ⟨hq, _⟩ | ⟨_, e⟩
    · exact old i q hq
    · rw [e]; exact r4
  · intro i j q q' hq hq' hij
    rcases gapp i q hq with ⟨hq2, _⟩ | ⟨ei, e⟩
    · rcases gapp j q' hq' with ⟨hq3, _⟩ | ⟨ej, e'⟩
      · exact h.ap i j q q' hq2 hq3 hij
      · rw [e']; exact apn i q hq2
    · rcases gapp j q' hq' with ⟨hq3, _⟩ | ⟨ej, e'⟩
      · rw [e]
        have a := apn j q' hq3
        exact ⟨fun x => a.b x.symm, fun x => a.mb x.symm, fun x => a.rb x.symm, fun g hg hg' => a.row g hg' hg⟩
      · omega
  · have := hx3.kept gr2 (by simpa [Value.ownBlock] using hneg2)
    simpa using this
  · simpa using hy
  · have hgx : w0.heap.size ≤ gx := by
      rcases h.xs.2 with ⟨e, _⟩ | ⟨g', _, _, e, hg', _⟩
      · cases e
      · injection e with e; injection e with e; injection e with e; omega
    have hgy : w0.heap.size ≤ gy := by
      rcases h.ys.2 with ⟨e, _⟩ | ⟨g', _, _, e, hg', _⟩
      · cases e
      · injection e with e; injection e with e; injection e with e; omega
    exact (((h.fr.no hc.fr).grown gr1 (fun j hj hl => by cases hj; omega)).no hcp.fr).grown gr2 (fun j hj hl => by cases hj; omega)
  · intro i q hq
    rcases gapp i q hq with ⟨hq, _⟩ | ⟨_, e⟩
    · have := h.lens i q hq; omega
    · rw [e]
      have := h.lens n p hn
      show p.L.length ≤ k + 1
      omega

set_option maxRecDepth 100000 in
theorem does_no (room : Int) (v : Value) (w : World) (h : room < 1 ∨ 64 < room) :
    Calls Try.prog 6 #[.int .i64 room, v] w fun e w' => e = .returned (.bool true) ∧ Fr NoB w w' := by
  go_enter Try.func6, Try.ntmps6
  go_wp2_with fail
  refine (new_no room w h).mono ?_
  rintro e w1 ⟨rfl, rfl⟩
  go_wp2_with fail
  refine (rnew_no room w h).mono ?_
  rintro e w1 ⟨rfl, rfl⟩
  go_wp2_with fail
  refine (fixed_any _).mono ?_
  rintro e w' ⟨rfl, hF⟩
  go_wp2_with fail
  go_ret
  exact ⟨rfl, hF⟩

end Go.Proofs.Ytkhaeoggchnheaa
