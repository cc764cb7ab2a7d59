/- JSON, the document's reader: the state of what is nested. -/
import Derived.Test.YteeijmfnjcddmaaGreatDoorRw
import Derived.Test.YteeijmfnjcddmaaGreatDoorJz
import Derived.Deep.RegionLaw
import Derived.Test.YteeijmfnjcddmaaGreatDoorDk
namespace Go.Proofs.YteeijmfnjcddmaaGreatDoor
open Go.RowKit

/-- What is nested, no error yet: the result's block w0.heap.size, the variable's block V, the rows behind. -/
structure QN (w0 : World) (b V : Nat) (kd : Int) (s : Bs) (k : Nat) (l : List Jv) (ks : List Bs) (w : World) (lv kv : Value) : Prop where
  rd : QSt w b s k 0
  res : Blk w w0.heap.size 25 zj
  var : Blk w V 25 #[.int .i64 kd, .int .i64 0, .string ⟨#[]⟩, lv, kv]
  rows : JRows (V + 1) w l ks lv kv
  fr : Fr (Only b) w0 w
  lt : w0.heap.size < V
  sz : V + 1 ≤ w.heap.size
  len : l.length ≤ k
  keys : ks.length ≤ l.length + 1 ∧ ∀ s ∈ ks, s.length ≤ big

/-- The reader goes on. -/
theorem QN.goes {w0 w w' : World} {b V k k' : Nat} {kd : Int} {s : Bs} {l : List Jv} {ks : List Bs} {lv kv : Value} (h : QN w0 b V kd s k l ks w lv kv) (hb : b < w0.heap.size) (f : Fr (Only b) w w') (q : QSt w' b s k' 0) (hk : k ≤ k') : QN w0 b V kd s k' l ks w' lv kv := by
  have hV := h.lt
  exact ⟨q, f.blk h.res (fun (e : w0.heap.size = b) => by omega), f.blk h.var (fun (e : V = b) => by omega), h.rows.fr f (fun x hx (e : x = b) => by omega), h.fr.trans f, hV, Nat.le_trans h.sz f.size, by have := h.len; omega, h.keys⟩
theorem QN.cells {w0 w : World} {b V k : Nat} {kd : Int} {s : Bs} {l : List Jv} {ks : List Bs} {lv kv : Value} (h : QN w0 b V kd s k l ks w lv kv) : w.cell? ⟨V, 3, none⟩ = some lv ∧ w.cell? ⟨V, 4, none⟩ = some kv ∧ w.frozen? ⟨V, 3, none⟩ = false ∧ w.frozen? ⟨V, 4, none⟩ = false :=
  ⟨(h.var.cell 3).trans rfl, (h.var.cell 4).trans rfl, h.var.frozen 3, h.var.frozen 4⟩
theorem QN.drew {w0 w : World} {b V k : Nat} {kd : Int} {s : Bs} {l : List Jv} {ks : List Bs} {lv kv : Value} (h : QN w0 b V kd s k l ks w lv kv) : QN w0 b V kd s k l ks w.drew lv kv :=
  ⟨h.rd, h.res, h.var, h.rows.fr (Fr.refl NoB w).drew (fun _ _ e => e), h.fr.drew, h.lt, h.sz, h.len, h.keys⟩
theorem QN.grown {w0 w w1 : World} {b V k : Nat} {kd : Int} {s : Bs} {l : List Jv} {ks : List Bs} {lv kv : Value} (h : QN w0 b V kd s k l ks w lv kv) {o : Obj} {row : Option Nat} (hrow : ∀ x, row = some x → V + 1 ≤ x) (hgr : (w.alloc o).grownBy w1 row) :
    Blk w1 V 25 #[.int .i64 kd, .int .i64 0, .string ⟨#[]⟩, lv, kv] := by
  have hF : Fr (fun x => row = some x) w w1 := (Fr.refl _ w |>.alloc o).grown hgr (fun j hj _ => hj)
  exact hF.blk h.var (fun e => by have := hrow _ e; omega)
/-- A key is put behind the others. -/
theorem QN.key {w0 w w1 : World} {b V k : Nat} {kd : Int} {s : Bs} {l : List Jv} {ks : List Bs} {lv kv : Value} (h : QN w0 b V kd s k l ks w lv kv) (hb : b < w0.heap.size) (hkl : ks.length ≤ l.length) (key : Bs) (hkey : key.length ≤ big) (g cap : Nat) (o : Obj)
    (hown : w1.ownsRow (V + 1) 9 1 (.slice (some ⟨g, 0, none⟩) (ks.length + 1) cap) (ks.length + 1) (ks.map sV ++ [sV key])) (hgr : (w.alloc o).grownBy w1 kv.ownBlock) (hat : kv.ownBlock = some g ∨ g = w.heap.size + 1) :
    QN w0 b V kd s k l (ks ++ [key]) (w1.setCell ⟨V, 4, none⟩ (.slice (some ⟨g, 0, none⟩) (ks.length + 1) cap)) lv (.slice (some ⟨g, 0, none⟩) (ks.length + 1) cap) := by
  have hsz := h.sz
  have hlt := h.lt
  have ha : Fr NoB w (w.alloc o) := (Fr.refl _ _).alloc _
  have hka := (h.rows.fr ha (fun _ _ e => e))
  have hko : ∀ x, kv.ownBlock = some x → V + 1 ≤ x := fun x hx => (hka.keys.lt x hx).1
  have hgn : V + 1 ≤ g := by rcases hat with hat | hat; exact hko g hat; omega
  have hrow := hka.key key g cap hown hgr (by simpa using hat)
  have hF : Fr (fun x => kv.ownBlock = some x) w w1 := (Fr.refl _ w |>.alloc o).grown hgr (fun j hj _ => hj)
  have hn : ∀ x, x < V + 1 → ¬ (kv.ownBlock = some x) := fun x hx e => by have := hko x e; omega
  have hS : Fr (Only V) w1 (w1.setCell ⟨V, 4, none⟩ (.slice (some ⟨g, 0, none⟩) (ks.length + 1) cap)) := (Fr.refl _ w1).only _
  refine ⟨hS.blk (hF.blk h.rd (hn b (by omega))) (fun (e : b = V) => by omega), hS.blk (hF.blk h.res (hn _ (by omega))) (fun (e : w0.heap.size = V) => by omega), ?_, hrow.fr hS (fun x hx (e : x = V) => by omega), ?_, hlt, by have := hF.size; simp [World.setCell]; omega, h.len, by simp; omega, ?_⟩
  · have := (hF.blk h.var (hn _ (by omega))).set_ 4 (.slice (some ⟨g, 0, none⟩) (ks.length + 1) cap)
    simpa using this
  · exact ((h.fr.alloc o).grown hgr (fun j hj hlt => absurd hlt (by have := hko j hj; omega))).setCell_new (p := ⟨V, 4, none⟩) (by simp; omega) _
  · intro x hx
    rcases List.mem_append.1 hx with hx | hx
    · exact h.keys.2 x hx
    · rw [List.mem_singleton.1 hx]; exact hkey
/-- An element is put behind the others. -/
theorem QN.item {w0 w w1 w2 : World} {b V k k' : Nat} {kd : Int} {s : Bs} {l : List Jv} {ks : List Bs} {lv kv : Value} (h : QN w0 b V kd s k l ks w lv kv) (hb : b < w0.heap.size) (f : Fr (Only b) w w1) (q : QSt w1 b s k' 0) (hk : k < k')
    {j : Jv} {v0 v1 v2 v3 v4 : Value} (hj : JTop w.heap.size w1 j (.agg #[v0, v1, v2, v3, v4])) (g cap : Nat) {cs : List Value} (o : Obj) (hcs : (w1.alloc o).ownsRow (V + 1) 25 5 lv l.length cs)
    (hown : w2.ownsRow (V + 1) 25 5 (.slice (some ⟨g, 0, none⟩) (l.length + 1) cap) (l.length + 1) (cs ++ [v0, v1, v2, v3, v4])) (hgr : (w1.alloc o).grownBy w2 lv.ownBlock) (hat : lv.ownBlock = some g ∨ g = w1.heap.size + 1) :
    QN w0 b V kd s k' (l ++ [j]) ks (w2.setCell ⟨V, 3, none⟩ (.slice (some ⟨g, 0, none⟩) (l.length + 1) cap)) (.slice (some ⟨g, 0, none⟩) (l.length + 1) cap) kv := by
  have st1 := h.goes hb f q (Nat.le_of_lt hk)
  have hsz := h.sz
  have hlt := h.lt
  have hsz1 := st1.sz
  have hg1 := f.size
  obtain ⟨cs0, hcs0⟩ := h.rows.elems
  have hl0 : ∀ x, lv.ownBlock = some x → V + 1 ≤ x ∧ x < w.heap.size := fun x hx => hcs0.lt x hx
  have hk0 : ∀ x, kv.ownBlock = some x → x < w.heap.size := fun x hx => (h.rows.keys.lt x hx).2
  have ha : Fr NoB w1 (w1.alloc o) := (Fr.refl _ _).alloc _
  have hra := st1.rows.fr ha (fun _ _ e => e)
  have hja : RAt (Rng w.heap.size w1.heap.size) (w1.alloc o) j (.agg #[v0, v1, v2, v3, v4]) := RAt.fr (fun x hx => ha.block x hx.2 (fun e => e)) j _ hj.at_
  have hrow := hra.item hja (by omega) (by simp) (fun x hx => (hl0 x hx).2) hk0 g cap hcs hown hgr (by simpa using hat)
  have hF : Fr (fun x => lv.ownBlock = some x) w1 w2 := (Fr.refl _ w1 |>.alloc o).grown hgr (fun j hj _ => hj)
  have hn : ∀ x, x < V + 1 → ¬ (lv.ownBlock = some x) := fun x hx e => by have := (hl0 x e).1; omega
  have hS : Fr (Only V) w2 (w2.setCell ⟨V, 3, none⟩ (.slice (some ⟨g, 0, none⟩) (l.length + 1) cap)) := (Fr.refl _ w2).only _
  refine ⟨hS.blk (hF.blk st1.rd (hn b (by omega))) (fun (e : b = V) => by omega), hS.blk (hF.blk st1.res (hn _ (by omega))) (fun (e : w0.heap.size = V) => by omega), ?_, hrow.fr hS (fun x hx (e : x = V) => by omega), ?_, hlt, by have := hF.size; simp [World.setCell]; omega, by have := h.len; simp; omega, by have := h.keys.1; simp; omega, h.keys.2⟩
  · have := (hF.blk st1.var (hn _ (by omega))).set_ 3 (.slice (some ⟨g, 0, none⟩) (l.length + 1) cap)
    simpa using this
  · exact ((st1.fr.alloc o).grown hgr (fun j hj hlt => absurd hlt (by have := (hl0 j hj).1; omega))).setCell_new (p := ⟨V, 3, none⟩) (by simp; omega) _
/-- The last step: the variable is copied into the result. -/
theorem QN.done {w0 w : World} {b V k d i : Nat} {kd : Int} {s : Bs} {l : List Jv} {ks : List Bs} {lv kv : Value} (h : QN w0 b V kd s k l ks w lv kv) (hb : b < w0.heap.size) (hkd : IntOk kd) (hl : s.length ≤ 65536) (hik : i < k) (hk : k ≤ s.length) {r : Bs} (hr : s.drop k = r) :
    QVal (.ok (.mk kd 0 [] l ks, r)) s i b d w0 (.returned (jV kd 0 [] lv kv)) (w.setRow w0.heap.size #[.int .i64 kd, .int .i64 0, .string ⟨#[]⟩, lv, kv]) := by
  have hV := h.lt
  have fO := Fr.rowO w w0.heap.size #[.int .i64 kd, .int .i64 0, .string ⟨#[]⟩, lv, kv]
  refine ⟨_, rfl, ?_, ⟨k, fO.blk h.rd (fun (e : b = w0.heap.size) => by omega), hr, hik, hk⟩, ?_⟩
  · have hr := h.rows.fr fO (fun g hg (e : g = w0.heap.size) => by omega)
    have hl := h.len
    exact hr.top kd (by omega) hkd (by unfold big; omega) ⟨by have := h.keys.1; unfold big; omega, h.keys.2⟩
  · exact h.fr.setRow w0.heap.size _ (Or.inl (Nat.le_refl _))
theorem blanks_idem (x : Bs) : blanks (blanks x) = blanks x := by
  unfold blanks Lib.trimLeftS
  induction x with
  | nil => rfl
  | cons c r ih =>
    rw [List.dropWhile_cons]
    cases h : blankCs.contains c
    · simp only [Bool.false_eq_true, if_false]
      rw [List.dropWhile_cons, h]
      simp
    · simpa using ih
end Go.Proofs.YteeijmfnjcddmaaGreatDoor
/- JSON, the document's reader: value at a list. -/
namespace Go.Proofs.YteeijmfnjcddmaaGreatDoor
open Go.RowKit
attribute [local go_sem ↓] Go.wp_at_zero Go.wp_at_succ

/-- value, so many levels from the end. -/
def VQ (d : Nat) : Prop := ∀ (b i : Nat) (s : Bs) (w : World) (n : Int), QSt w b s i 0 → b < w.heap.size → i ≤ s.length → s.length ≤ 65536 → n = 32 - (d : Int) →
  Calls Tryz.prog 41 #[.pointer (some ⟨b, 0, none⟩), .int .i64 n] w (QVal (valueP d (blanks (s.drop i))) s i b d w)
theorem takeP_at (s : Bs) (k : Nat) (c : UInt8) (hc : c ≠ 0) : takeP [c] (s.drop k) = if byteAt s k = c then some (blanks (s.drop (k + 1))) else none := by
  unfold takeP
  by_cases hk : k < s.length
  · rw [drop_b hk]
    by_cases h : byteAt s k = c
    · rw [if_pos h, if_pos (by rw [h]; exact ⟨s.drop (k + 1), rfl⟩)]; rfl
    · rw [if_neg h, if_neg (fun e => h (by obtain ⟨t, ht⟩ := e; simp at ht; exact ht.1.symm))]
  · rw [List.drop_eq_nil_of_le (by omega), if_neg (by intro e; obtain ⟨t, ht⟩ := e; simp at ht)]
    have : byteAt s k = 0 := by simp [byteAt, List.getD, hk]
    rw [if_neg (by rw [this]; exact Ne.symm hc)]
/-- The list, or the object, closed here. -/
def endP (kd : Int) (close : UInt8) (s : Bs) (k : Nat) (l : List Jv) (ks : List Bs) : Pr :=
  if byteAt s k = close then .ok (.mk kd 0 [] l ks, blanks (s.drop (k + 1))) else .error 90
/-- The loop's state. -/
def NLoop (w : World) (i b V d : Nat) (obj : Bool) (close : UInt8) (s : Bs) (q : Pr) (v8 : Value) (wr : World) : Prop :=
  (∃ (k f : Nat) (l : List Jv) (ks : List Bs) (lv kv : Value), QN w b V (nkP obj) s k l ks wr lv kv ∧ (ks.length ≤ l.length ∧ ks.Nodup) ∧ v8 = .bool true ∧ i < k ∧ k ≤ s.length ∧ Hid (itemsP (valueP d) obj close f (blanks (s.drop k)) l ks = q ∧ s.length - k < f))
  ∨ (∃ (k : Nat) (l : List Jv) (ks : List Bs) (lv kv : Value), QN w b V (nkP obj) s k l ks wr lv kv ∧ v8 = .bool false ∧ i < k ∧ k ≤ s.length ∧ Hid (endP (nkP obj) close s k l ks = q))
  ∨ (∃ (k e : Nat) (v0 v1 v2 v3 v4 : Value) (m : Bool), VSt w b V s k e #[v0, v1, v2, v3, v4] wr ∧ (#[v0, v1, v2, v3, v4].all (·.oneCell')) = true ∧ e ≠ 0 ∧ Hid (q = .error e) ∧ k ≤ s.length + 14 + 4 * d ∧ v8 = .bool m)
def nmes (s : Bs) (b : Nat) (wr : World) : Nat := if intAt wr ⟨b, 2, none⟩ = 0 then 1 + (s.length - intAt wr ⟨b, 1, none⟩) else 0

theorem QVal.form {q : Pr} {s : Bs} {i b d : Nat} {w w' : World} {en : Ending} (h : QVal q s i b d w en w') : ∃ v0 v1 v2 v3 v4, en = .returned (.agg #[v0, v1, v2, v3, v4]) ∧ (∀ u ∈ [v0, v1, v2, v3, v4], u.oneCell' = true) ∧ Fr (Only b) w w' ∧
    ((∃ j r k, q = .ok (j, r) ∧ JTop w.heap.size w' j (.agg #[v0, v1, v2, v3, v4]) ∧ QSt w' b s k 0 ∧ s.drop k = r ∧ i < k ∧ k ≤ s.length) ∨ (∃ e k, q = .error e ∧ e ≠ 0 ∧ QSt w' b s k e ∧ k ≤ s.length + 12 + 4 * d)) := by
  unfold QVal at h
  cases q with
  | ok p =>
    obtain ⟨j, r⟩ := p
    obtain ⟨v, h1, h2, ⟨k, h3, h4, h5, h6⟩, h7⟩ := h
    obtain ⟨v0, v1, v2, v3, v4, rfl, ho⟩ := h2.form
    exact ⟨v0, v1, v2, v3, v4, h1, ho, h7, Or.inl ⟨j, r, k, rfl, h2, h3, h4, h5, h6⟩⟩
  | error n =>
    obtain ⟨v0, v1, v2, v3, v4, h1, ho, h2, ⟨k, h3, h4⟩, h5⟩ := h
    exact ⟨v0, v1, v2, v3, v4, h1, by simpa using ho, h5, Or.inr ⟨n, k, rfl, h2, h3, h4⟩⟩
/-- Behind an element: it was read, or an error was met. -/
def NItem (w : World) (b V d : Nat) (obj : Bool) (close : UInt8) (s : Bs) (q : Pr) (f k : Nat) (l : List Jv) (ks : List Bs) (wx : World) : Prop :=
  (∃ (k' : Nat) (j : Jv) (lv kv : Value), QN w b V (nkP obj) s k' (l ++ [j]) ks wx lv kv ∧ k < k' ∧ k' ≤ s.length ∧
    Hid ((match takeP [close] (s.drop k') with | some s4 => .ok (.mk (nkP obj) 0 [] (l ++ [j]) ks, s4) | none => match takeP [44] (s.drop k') with | none => .error 90 | some s4 => itemsP (valueP d) obj close f s4 (l ++ [j]) ks) = q))
  ∨ (∃ (k e : Nat) (v0 v1 v2 v3 v4 : Value), VSt w b V s k e #[v0, v1, v2, v3, v4] wx ∧ (#[v0, v1, v2, v3, v4].all (·.oneCell')) = true ∧ e ≠ 0 ∧ Hid (q = .error e) ∧ k ≤ s.length + 12 + 4 * d)

theorem nitem_of {w u w1 w2 : World} {b V k d f : Nat} {obj : Bool} {close : UInt8} {s : Bs} {q : Pr} {l : List Jv} {ks : List Bs} {lv kv v0 v1 v2 v3 v4 : Value} (hb : b < w.heap.size) (st : QN w b V (nkP obj) s k l ks u lv kv) (g1 : Fr (Only b) u w1)
    (hqo : (∃ j r k', valueP d (blanks (s.drop k)) = .ok (j, r) ∧ JTop u.heap.size w1 j (.agg #[v0, v1, v2, v3, v4]) ∧ QSt w1 b s k' 0 ∧ s.drop k' = r ∧ k < k' ∧ k' ≤ s.length) ∨ (∃ e k', valueP d (blanks (s.drop k)) = .error e ∧ e ≠ 0 ∧ QSt w1 b s k' e ∧ k' ≤ s.length + 12 + 4 * d))
    (hq : itemP (valueP d) obj close f (blanks (s.drop k)) l ks = q) (g cap : Nat) {cs : List Value} (o : Obj) (hcs : (w1.alloc o).ownsRow (V + 1) 25 5 lv l.length cs)
    (hown : w2.ownsRow (V + 1) 25 5 (.slice (some ⟨g, 0, none⟩) (l.length + 1) cap) (l.length + 1) (cs ++ [v0, v1, v2, v3, v4])) (hgr : (w1.alloc o).grownBy w2 lv.ownBlock) (hat : lv.ownBlock = some g ∨ g = w1.heap.size + 1) :
    NItem w b V d obj close s q f k l ks (w2.setCell ⟨V, 3, none⟩ (.slice (some ⟨g, 0, none⟩) (l.length + 1) cap)) := by
  rcases hqo with ⟨j, r, k', hv, hj, hq1, hr, hk, hk'⟩ | ⟨e, k', hv, he, hq1, hk'⟩
  · refine Or.inl ⟨k', j, _, _, st.item hb g1 hq1 hk hj g cap o hcs hown hgr hat, hk, hk', Lib.hid ?_⟩
    unfold itemP at hq
    rw [hv] at hq
    rw [hr]
    exact hq
  · have hlt := st.lt
    have hl0 : ∀ x, lv.ownBlock = some x → V + 1 ≤ x := fun x hx => (hcs.lt x hx).1
    have hF : Fr (fun x => lv.ownBlock = some x) w1 w2 := (Fr.refl _ w1 |>.alloc o).grown hgr (fun j hj _ => hj)
    have hn : ∀ x, x < V + 1 → ¬ (lv.ownBlock = some x) := fun x hx e => by have := hl0 x e; omega
    have hS : Fr (Only V) w2 (w2.setCell ⟨V, 3, none⟩ (.slice (some ⟨g, 0, none⟩) (l.length + 1) cap)) := (Fr.refl _ w2).only _
    have gV := (hF.blk (g1.blk st.var (fun (e : V = b) => by omega)) (hn _ (by omega))).set_ 3 (.slice (some ⟨g, 0, none⟩) (l.length + 1) cap)
    refine Or.inr ⟨k', e, .int .i64 (nkP obj), .int .i64 0, .string ⟨#[]⟩, .slice (some ⟨g, 0, none⟩) (l.length + 1) cap, kv, ⟨hS.blk (hF.blk hq1 (hn b (by omega))) (fun (e : b = V) => by omega), hS.blk (hF.blk (g1.blk st.res (fun (e : w.heap.size = b) => by omega)) (hn _ (by omega))) (fun (e : w.heap.size = V) => by omega), by simpa using gV, ?_, hlt⟩, ?_, he, Lib.hid ?_, hk'⟩
    · exact (((st.fr.trans g1).alloc o).grown hgr (fun j hj hlt => absurd hlt (by have := hl0 j hj; omega))).setCell_new (p := ⟨V, 3, none⟩) (by simp; omega) _
    · have := st.rows.one (nkP obj) 0 ⟨#[]⟩
      simp [Value.oneCell'] at this ⊢
      exact this.2
    · unfold itemP at hq
      rw [hv] at hq
      exact hq.symm

theorem nmes_of {s : Bs} {b k e : Nat} {u : World} (h : QSt u b s k e) : nmes s b u = if e = 0 then 1 + (s.length - k) else 0 := by
  obtain ⟨c0, c1, c2, _, _⟩ := h.cells
  unfold nmes intAt
  rw [c1, c2]
  simp
theorem byte_in {s : Bs} {k : Nat} {c : UInt8} (h : byteAt s k = c) (hc : c ≠ 0) : k < s.length := by
  rcases Nat.lt_or_ge k s.length with hk | hk
  · exact hk
  · exact absurd (h.symm.trans (by simp [byteAt, List.getD, hk])) hc
set_option maxRecDepth 100000 in
set_option maxHeartbeats 6400000 in
theorem qv_list {d b i : Nat} {s : Bs} {w : World} {n : Int} (hV : VQ d) (hd : d ≤ 31) (hn : n = 31 - (d : Int)) (h : QSt w b s i 0) (hb : b < w.heap.size) (hi : i ≤ s.length) (hl : s.length ≤ 65536) (hc : byteAt s (i + skipB (s.drop i)) = 91) :
    Calls Tryz.prog 41 #[.pointer (some ⟨b, 0, none⟩), .int .i64 n] w (QVal (valueP (d + 1) (blanks (s.drop i))) s i b (d + 1) w) := by
  have hj := sk_le hi
  have hij : i ≤ i + skipB (s.drop i) := by omega
  have hlt : i + skipB (s.drop i) < s.length := by
    rcases Nat.lt_or_ge (i + skipB (s.drop i)) s.length with h | h
    · exact h
    · have : byteAt s (i + skipB (s.drop i)) = 0 := by simp [byteAt, List.getD, h]
      rw [hc] at this; cases this
  have HQ : Hid (valueP (d + 1) (blanks (s.drop i)) = nestP (valueP d) false 93 (blanks (s.drop (i + skipB (s.drop i) + 1)))) := Lib.hid (by
    rw [← drop_sk, drop_b hlt, hc]
    rfl)
  have f0 : Fr NoB w (w.alloc (.cells zj 25)) := (Fr.refl _ _).alloc _
  have q0 := h.fr f0
  have g0 : Blk (w.alloc (.cells zj 25)) w.heap.size 25 zj := Blk.new w 25 zj
  have HBl := Lib.hid (blanks_q q0 (by unfold big; omega) (by unfold big; omega))
  generalize hW : w.alloc (.cells zj 25) = W at *
  have HW := Lib.hid hW
  clear hW
  generalize valueP (d + 1) (blanks (s.drop i)) = Q at *
  generalize i + skipB (s.drop i) = j at *
  have HC := Lib.hid hc
  have HV := Lib.hid hV
  clear hc hV
  have hn0 : 0 ≤ n := by omega
  have hn1 : n ≤ 31 := by omega
  have HN := Lib.hid hn
  clear hn
  go_enter Tryz.func41, Tryz.ntmps41
  go_upto_region 19 with (first | (rw [HW.out]) | (go_at_call 67; ((with_reducible refine HBl.out.mono ?_); rintro e w1 ⟨rfl, q1, f1⟩)) | (go_at_call 68; ((with_reducible refine (at_is q1 HC.out).mono ?_); rintro e w2 ⟨rfl, f2⟩; have q2 := q1.fr f2; have fV : Fr NoB w2 (w2.alloc (.cells zj 25)) := (Fr.refl _ _).alloc _; have q3 := q2.fr fV; obtain ⟨c0, c1, c2, z1, z2⟩ := q3.cells; have gV : Blk (w2.alloc (.cells zj 25)) w2.heap.size 25 zj := Blk.new w2 25 zj; have hV0 : (w2.alloc (.cells zj 25)).cell? ⟨w2.heap.size, 0, none⟩ = some (.int .i64 0) := (gV.cell 0).trans rfl; have zV0 := gV.frozen 0)))
  have hVr : w.heap.size < w2.heap.size := Blk.lt (f2.blk (f1.blk g0 (fun (e : w.heap.size = b) => by omega)) (fun x => x))
  have gR3 := fV.blk (f2.blk (f1.blk g0 (fun (e : w.heap.size = b) => by omega)) (fun x => x)) (fun x => x)
  have F3 : Fr (Only b) w (w2.alloc (.cells zj 25)) := ((f0.noB.trans f1).trans f2.noB).trans fV.noB
  have q4 := q3.goto (j + 1)
  rw [show ((j + 1 : Nat) : Int) = (j : Int) + 1 by omega] at q4
  have hA : Fr (Only b) (w2.alloc (.cells zj 25)) ((w2.alloc (.cells zj 25)).setCell ⟨b, 1, none⟩ (.int .i64 ((j : Int) + 1))) := (Fr.refl _ _).only _
  have gV4 := hA.blk gV (fun (e : w2.heap.size = b) => by omega)
  have gR4 := hA.blk gR3 (fun (e : w.heap.size = b) => by omega)
  have F4 := F3.trans hA
  have z4 : w2.heap.size + 1 ≤ ((w2.alloc (.cells zj 25)).setCell ⟨b, 1, none⟩ (.int .i64 ((j : Int) + 1))).heap.size := Blk.lt gV4
  generalize hw4 : (w2.alloc (.cells zj 25)).setCell ⟨b, 1, none⟩ (.int .i64 ((j : Int) + 1)) = w4 at *
  clear hw4 hA c0 c1 c2 z1 z2 hV0 zV0 gV gR3 q3 fV q2 F3
  generalize hV2 : w2.heap.size = V at *
  clear hV2
  have hS : Fr (Only V) w4 (w4.setCell ⟨V, 0, none⟩ (.int .i64 5)) := (Fr.refl _ _).only _
  have q5 := hS.blk q4 (fun (e : b = V) => by omega)
  have gR5 := hS.blk gR4 (fun (e : w.heap.size = V) => by omega)
  have gV5 : Blk (w4.setCell ⟨V, 0, none⟩ (.int .i64 5)) V 25 #[.int .i64 5, .int .i64 0, .string ⟨#[]⟩, .slice none 0 0, .slice none 0 0] := by
    have := gV4.set_ 0 (.int .i64 5)
    simpa using this
  have F5 : Fr (Only b) w (w4.setCell ⟨V, 0, none⟩ (.int .i64 5)) := F4.setCell_new (p := ⟨V, 0, none⟩) (by simp; omega) _
  have z5 : V + 1 ≤ (w4.setCell ⟨V, 0, none⟩ (.int .i64 5)).heap.size := Blk.lt gV5
  generalize hw5 : w4.setCell ⟨V, 0, none⟩ (.int .i64 5) = w5 at *
  clear hw5 hS q4 gR4 gV4 F4 z4
  have hj1 : j + 1 ≤ s.length := hlt
  have HB2 := Lib.hid (blanks_q (show QSt w5 b s (j + 1) 0 from q5) (by unfold big; omega) (by unfold big; omega))
  have hk := sk_le hj1
  have hjk : j + 1 ≤ j + 1 + skipB (s.drop (j + 1)) := by omega
  have hdk := drop_sk s (j + 1)
  rw [← hdk] at HQ
  have hbk := blanks_idem (s.drop (j + 1))
  rw [← hdk] at hbk
  clear hdk
  generalize j + 1 + skipB (s.drop (j + 1)) = k at *
  have HBK := Lib.hid hbk
  clear hbk
  go_upto_block 1 with (first | (go_at_call 67; ((with_reducible refine HB2.out.mono ?_); rintro e w6 ⟨rfl, q6, f6⟩)) | (go_at_call 68; ((with_reducible refine (at_q q6).mono ?_); rintro e w7 ⟨rfl, f7⟩)))
  have F7 := (F5.trans f6).trans f7.noB
  have gV7 := f7.blk (f6.blk gV5 (fun (e : V = b) => by omega)) (fun x => x)
  have gR7 := f7.blk (f6.blk gR5 (fun (e : w.heap.size = b) => by omega)) (fun x => x)
  have q7 := q6.fr f7
  have st0 : QN w b V (nkP false) s k [] [] w7 (.slice none 0 0) (.slice none 0 0) := ⟨q7, gR7, gV7, JRows.nil _ _, F7, hVr, Blk.lt gV7, by simp, by simp⟩
  have HI : Hid (NLoop w i b V d false 93 s Q (.bool (!((((byteAt s k).toNat : Int)) == 93))) w7) := Lib.hid (by
    have hq := HQ.out
    unfold nestP at hq
    rw [takeP_at _ _ _ (by decide)] at hq
    by_cases h93 : byteAt s k = 93
    · rw [if_pos h93] at hq
      have hb93 : (!((((byteAt s k).toNat : Int)) == 93)) = false := by rw [h93]; rfl
      rw [hb93]
      exact Or.inr (Or.inl ⟨k, [], [], _, _, st0, rfl, by omega, hk, Lib.hid (by unfold endP; rw [if_pos h93, hq]; rfl)⟩)
    · rw [if_neg h93] at hq
      have hb93 : (!((((byteAt s k).toNat : Int)) == 93)) = true := by
        have := u8_ne 93 (by omega) h93
        simpa using this
      rw [hb93]
      exact Or.inl ⟨k, (s.drop k).length + 1, [], [], _, _, st0, by simp, rfl, by omega, hk, Lib.hid ⟨by rw [HBK.out, hq], by rw [List.length_drop]; omega⟩⟩)
  generalize byteAt s k = c0 at *
  clear HB2 HBl F7 gV7 gR7 q7 st0 f7 f6 q6 q5 gR5 gV5 F5 z5 HQ HBK HC f2 f1 q1 f0 q0 g0 hk hjk hj1 HW
  have hwr : IntKind.i64.wrap (n + 1) = n + 1 := IntWalk.i64_in _ (by omega)
  go_wp2_with fail
  go_loopw [8] (fun v8 wr => NLoop w i b V d false 93 s Q v8 wr) (fun _ wr => nmes s b wr)
  case atStart => exact HI.out
  case round =>
    clear HI
    rcases hrel with ⟨k, f, l, ks, lv, kv, st, hks, rfl, hik, hk2, HQ2⟩ | ⟨k, l, ks, lv, kv, st, rfl, hik, hk2, HQ2⟩ | ⟨k, e, v0, v1, v2, v3, v4, m, hv, hone, he0, HQ2, hk, rfl⟩
    · obtain ⟨c0, c1, c2, z1, z2⟩ := st.rd.cells
      obtain ⟨c3, c4, z3, z4⟩ := st.cells
      obtain ⟨f', rfl⟩ : ∃ f', f = f' + 1 := ⟨f - 1, by have := HQ2.out.2; omega⟩
      have hq : itemP (valueP d) false 93 f' (blanks (s.drop k)) l ks = Q := by
        have := HQ2.out.1
        rw [items_succ] at this
        exact this
      have HQ3 := Lib.hid hq
      clear hq
      obtain ⟨i1, hj0, hy0, hy1, hy2⟩ := info_parts info_json
      obtain ⟨cs, hcs⟩ := st.rows.elems
      have HVQ : Hid (∀ u, QSt u b s k 0 → b < u.heap.size → Calls Tryz.prog 41 #[.pointer (some ⟨b, 0, none⟩), .int .i64 (n + 1)] u (QVal (valueP d (blanks (s.drop k))) s k b d u)) := Lib.hid (fun u hu hbu => HV.out b k s u (n + 1) hu hbu hk2 hl (by have := HN.out; omega))
      have hlk := st.len
      have hsz := st.sz
      have hdz : wr.drew.heap.size = wr.heap.size := rfl
      have hbw : b < wr.drew.heap.size := by omega
      go_upto_if 96 with fail
      go_cut [] (fun wx => NItem w b V d false 93 s Q f' k l ks wx)
      case first =>
        go_upto_region 32 with fail
        go_region_law (first | (refine step_append_lies _ (by rfl) _ _ _ (by rfl) (V + 1) 25 i1 (jV 0 0 [] (.slice none 0 0) (.slice none 0 0)) 5 80 Tryz.underlying22 hj0 hy0 hy1 hy2 (by rfl) (by decide) lv l.length cs (by rfl) (hcs1.alloc _) ⟨w1.heap.size, 0, none⟩ 1 1 [v0, v1, v2, v3, v4] (by rfl) (by rfl) (World.news_of_block (cs := #[v0, v1, v2, v3, v4]) (t := 25) (fr := (0, 0)) (heap_alloc_new w1 _)) h1c (by omega) (by unfold maxLen; omega) (by omega) (by simp; omega) (w1.heap.size + 1) (by simp) ?_; intro g cap w2 hown hgr hat hglt; have hF : Fr (fun x => lv.ownBlock = some x) w1 w2 := (Fr.refl _ w1 |>.alloc _).grown hgr (fun j hj _ => hj); have B5 := hF.blk gV1 (fun e => by have := (hcs.lt _ e).1; omega); have c5 : w2.cell? ⟨V, 3, none⟩ = some lv := (B5.cell 3).trans rfl; have z5 := B5.frozen 3) | (go_simp; go_at_call 41; ((with_reducible refine (HVQ.out _ st.drew.rd hbw).mono ?_); rintro e w1 hqv; obtain ⟨v0, v1, v2, v3, v4, rfl, h1c, g1, hqo⟩ := hqv.form; have gV1 := g1.blk st.drew.var (fun (e : V = b) => by omega); have d3 : w1.cell? ⟨V, 3, none⟩ = some lv := (gV1.cell 3).trans rfl; have y3 := gV1.frozen 3; have hz1 := g1.size; have dA : (w1.alloc (.cells #[v0, v1, v2, v3, v4] 25)).cell? ⟨V, 3, none⟩ = some lv := ((gV1.alloc _).cell 3).trans rfl; have hcs1 := g1.row (hcs.drew) (fun x hx e => by have e' : x = b := e; have := (hcs.lt x hx).1; omega))))
        all_goals (go_wp2_with fail; go_meet; exact nitem_of hb st.drew g1 hqo HQ3.out g cap _ (hcs1.alloc _) hown hgr hat)
      case rest =>
        clear c0 c1 c2 z1 z2 c3 c4 z3 z4 HVQ hj0 hy0 hy1 hy2 hcs HQ3
        rcases hcut with ⟨k', j', lv', kv', st', hkk, hk', HQ4⟩ | ⟨k', e, v0, v1, v2, v3, v4, hv, hone, he0, HQ4, hk'⟩
        · have hq4 := HQ4.out
          rw [takeP_at _ _ _ (by decide), takeP_at _ _ _ (by decide)] at hq4
          have hm := nmes_of st.rd
          by_cases h44 : byteAt s k' = 44
          · have hk1 := byte_in h44 (by decide)
            have HQ5 : Hid (itemsP (valueP d) false 93 f' (blanks (s.drop (k' + 1))) (l ++ [j']) ks = Q) := Lib.hid (by
              rw [if_neg (by rw [h44]; decide), if_pos h44] at hq4; exact hq4)
            clear hq4 HQ4
            go_wp2_with (go_at_call 68; ((with_reducible refine (at_is st'.rd h44).mono ?_); rintro e w1 ⟨rfl, f1⟩; have q1 := st'.rd.fr f1; obtain ⟨d0, d1, d2, y1, y2⟩ := q1.cells))
            have q2 := q1.goto (k' + 1)
            rw [show ((k' + 1 : Nat) : Int) = (k' : Int) + 1 by omega] at q2
            have hm2 := nmes_of q2
            go_roundw
            case rel => exact Or.inl ⟨k' + 1, f', l ++ [j'], ks, lv', kv', st'.goes hb (f1.noB.only _) q2 (by omega), ⟨by have := hks.1; simp; omega, hks.2⟩, rfl, by omega, by omega, Lib.hid ⟨HQ5.out, by have := HQ2.out.2; omega⟩⟩
            case measure =>
              rw [hm2, hm]; simp; omega
          · have HQ5 : Hid (endP (nkP false) 93 s k' (l ++ [j']) ks = Q) := Lib.hid (by
              unfold endP
              rw [if_neg h44] at hq4
              by_cases h93 : byteAt s k' = 93
              · rw [if_pos h93] at hq4 ⊢; exact hq4
              · rw [if_neg h93] at hq4 ⊢; exact hq4)
            have b44 : (((byteAt s k').toNat : Int) == 44) = false := u8_ne 44 (by omega) h44
            have HAT := Lib.hid (fun (u : World) (hu : QSt u b s k' 0) => at_q hu)
            clear hq4 HQ4 h44
            generalize byteAt s k' = c at *
            go_wp2_with (go_at_call 68; ((with_reducible refine (HAT.out _ st'.rd).mono ?_); rintro e w1 ⟨rfl, f1⟩; have q1 := st'.rd.fr f1))
            have hm2 := nmes_of q1
            go_roundw
            case rel => exact Or.inr (Or.inl ⟨k', l ++ [j'], ks, lv', kv', st'.goes hb f1.noB q1 (Nat.le_refl _), rfl, by omega, hk', HQ5⟩)
            case measure =>
              rw [hm2, hm]; simp; omega
        · have hm := nmes_of st.rd
          have hV1 := hv.lt
          by_cases h44 : byteAt s k' = 44
          · go_wp2_with (go_at_call 68; ((with_reducible refine (at_is hv.rd h44).mono ?_); rintro e w1 ⟨rfl, f1⟩; have q1 := hv.rd.fr f1; obtain ⟨d0, d1, d2, y1, y2⟩ := q1.cells))
            have q2 := q1.goto (k' + 1)
            rw [show ((k' + 1 : Nat) : Int) = (k' : Int) + 1 by omega] at q2
            have hm2 := nmes_of q2
            have fS : Fr (Only b) w1 (w1.setCell ⟨b, 1, none⟩ (.int .i64 ((k' : Int) + 1))) := (Fr.refl _ _).only _
            go_roundw
            case rel => exact Or.inr (Or.inr ⟨k' + 1, e, v0, v1, v2, v3, v4, true, ⟨q2, fS.blk (f1.blk hv.res (fun x => x)) (fun (e : w.heap.size = b) => by omega), fS.blk (f1.blk hv.var (fun x => x)) (fun (e : V = b) => by omega), (hv.fr.trans f1.noB).trans fS, hV1⟩, hone, he0, HQ4, by omega, rfl⟩)
            case measure =>
              rw [hm2, hm, if_neg he0]; first | (simp; done) | (simp; omega)
          · have b44 : (((byteAt s k').toNat : Int) == 44) = false := u8_ne 44 (by omega) h44
            have HAT := Lib.hid (fun (u : World) (hu : QSt u b s k' e) => at_q hu)
            clear h44
            generalize byteAt s k' = c at *
            go_wp2_with (go_at_call 68; ((with_reducible refine (HAT.out _ hv.rd).mono ?_); rintro e w1 ⟨rfl, f1⟩; have q1 := hv.rd.fr f1))
            have hm2 := nmes_of q1
            go_roundw
            case rel => exact Or.inr (Or.inr ⟨k', e, v0, v1, v2, v3, v4, false, ⟨q1, f1.blk hv.res (fun x => x), f1.blk hv.var (fun x => x), hv.fr.trans f1.noB, hV1⟩, hone, he0, HQ4, by omega, rfl⟩)
            case measure =>
              rw [hm2, hm, if_neg he0]; first | (simp; done) | (simp; omega)
    · have hV1 := st.lt
      have hn5 : nkP false = 5 := rfl
      by_cases h93 : byteAt s k = 93
      · have hk1 := byte_in h93 (by decide)
        have HQ5 : Hid (Q = .ok (.mk (nkP false) 0 [] l ks, blanks (s.drop (k + 1)))) := Lib.hid (by have := HQ2.out; unfold endP at this; rw [if_pos h93] at this; exact this.symm)
        obtain ⟨c0, c1, c2, z1, z2⟩ := st.rd.cells
        go_wp2_with (first | (go_at_call 68; ((with_reducible refine (at_is st.rd h93).mono ?_); rintro e w1 ⟨rfl, f1⟩; have q1 := st.rd.fr f1; have q2 : QSt (w1.setCell ⟨b, 1, none⟩ (.int .i64 ((k : Int) + 1))) b s (k + 1) 0 := (by simpa using q1.goto (k + 1)); obtain ⟨d0, d1, d2, y1, y2⟩ := q1.cells; obtain ⟨e0, e1, e2, x1, x2⟩ := q2.cells; have st2 := st.goes hb (f1.noB.only _) q2 (by omega))) | (go_at_call 67; ((with_reducible refine (blanks_q q2 (by unfold big; omega) (by unfold big; omega)).mono ?_); rintro e w3 ⟨rfl, q3, f3⟩; have st3 := st2.goes hb f3 q3 (by omega); have gV3 := st3.var; have gR3 := st3.res)) | (refine wpList_load_row rfl 25 _ rfl V rfl 25 _ _ _ gV3 Tryz.underlying25 rfl size_json ?_) | (refine wpList_store_row rfl 25 _ _ rfl w.heap.size #[.int .i64 (nkP false), .int .i64 0, .string ⟨#[]⟩, lv, kv] rfl rfl 25 zj gR3 size_json rfl (st3.rows.one _ _ _) ?_))
        have gB := gR3.setRow #[.int .i64 (nkP false), .int .i64 0, .string ⟨#[]⟩, lv, kv]
        have dn := st3.done (d := d + 1) (i := i) hb (nk_ok false) hl (by omega) (sk_le (by omega)) (drop_sk s (k + 1))
        exact bodyPost_ret (v := jV (nkP false) 0 [] lv kv) (json_back rfl _ _ w.heap.size _ _ _ _ _ rfl gB) rfl (by rw [HQ5.out]; exact dn)
      · have HQ5 : Hid (Q = .error 90) := Lib.hid (by have := HQ2.out; unfold endP at this; rw [if_neg h93] at this; exact this.symm)
        have b93 : (((byteAt s k).toNat : Int) != 93) = true := by
          have := u8_ne 93 (by omega) h93
          simpa using this
        have HAT := Lib.hid (fun (u : World) (hu : QSt u b s k 0) => at_q hu)
        obtain ⟨c0, c1, c2, z1, z2⟩ := st.rd.cells
        clear h93
        generalize byteAt s k = c at *
        go_wp2_with (first | (go_at_call 68; ((with_reducible refine (HAT.out _ st.rd).mono ?_); rintro e w1 ⟨rfl, f1⟩; have q1 := st.rd.fr f1)) | (go_at_call 42; ((with_reducible refine (wrong_90w q1).mono ?_); rintro e w2 ⟨rfl, q2', f2⟩; have q2 : QSt w2 b s k 90 := (by simpa using q2'); obtain ⟨d0, d1, d2, y1, y2⟩ := q2.cells; have q3 : QSt (w2.setCell ⟨b, 1, none⟩ (.int .i64 ((k : Int) + 1))) b s (k + 1) 90 := (by simpa using q2.goto (k + 1)); obtain ⟨e0, e1, e2, x1, x2⟩ := q3.cells; have f3 : Fr (Only b) wr (w2.setCell ⟨b, 1, none⟩ (.int .i64 ((k : Int) + 1))) := (f1.noB.trans f2).only _; have gV3 := f3.blk st.var (fun (e : V = b) => by omega); have gR3 := f3.blk st.res (fun (e : w.heap.size = b) => by omega))) | (refine wpList_load_row rfl 25 _ rfl V rfl 25 _ _ _ gV3 Tryz.underlying25 rfl size_json ?_) | (refine wpList_store_row rfl 25 _ _ rfl w.heap.size #[.int .i64 (nkP false), .int .i64 0, .string ⟨#[]⟩, lv, kv] rfl rfl 25 zj gR3 size_json rfl (st.rows.one _ _ _) ?_))
        have gB := gR3.setRow #[.int .i64 (nkP false), .int .i64 0, .string ⟨#[]⟩, lv, kv]
        have fB := (st.fr.trans f3).setRow w.heap.size #[.int .i64 (nkP false), .int .i64 0, .string ⟨#[]⟩, lv, kv] (Or.inl (Nat.le_refl _))
        have qB := (Fr.rowO _ w.heap.size #[.int .i64 (nkP false), .int .i64 0, .string ⟨#[]⟩, lv, kv]).blk q3 (fun (e : b = w.heap.size) => by omega)
        exact bodyPost_ret (v := jV (nkP false) 0 [] lv kv) (json_back rfl _ _ w.heap.size _ _ _ _ _ rfl gB) rfl (by rw [HQ5.out]; exact ⟨_, _, _, _, _, rfl, st.rows.one _ _ _, by omega, ⟨k + 1, qB, by omega⟩, fB⟩)
    · have hV1 := hv.lt
      have k1 : ((e : Int) == 0) = false := by simp; omega
      have HWR : Hid (∀ u, QSt u b s k e → Calls Tryz.prog 42 #[.pointer (some ⟨b, 0, none⟩), .int .i64 90] u fun en w' => en = .returned (.tuple #[]) ∧ QSt w' b s k e ∧ Fr (Only b) u w') := Lib.hid (fun u hu => by have := wrong_90w hu; rw [if_neg he0] at this; exact this)
      obtain ⟨c0, c1, c2, z1, z2⟩ := hv.rd.cells
      by_cases h93 : byteAt s k = 93
      · cases m <;> (
          go_wp2_with (first | (go_at_call 68; ((with_reducible refine (at_is hv.rd h93).mono ?_); rintro e' w1 ⟨rfl, f1⟩; have q1 := hv.rd.fr f1; have q2 : QSt (w1.setCell ⟨b, 1, none⟩ (.int .i64 ((k : Int) + 1))) b s (k + 1) e := (by simpa using q1.goto (k + 1)); obtain ⟨d0, d1, d2, y1, y2⟩ := q1.cells; obtain ⟨e0, e1, e2, x1, x2⟩ := q2.cells; have f3 : Fr (Only b) wr (w1.setCell ⟨b, 1, none⟩ (.int .i64 ((k : Int) + 1))) := f1.noB.only _; have gV3 := f3.blk hv.var (fun (e : V = b) => by omega); have gR3 := f3.blk hv.res (fun (e : w.heap.size = b) => by omega))) | (refine wpList_load_row rfl 25 _ rfl V rfl 25 _ _ _ gV3 Tryz.underlying25 rfl size_json ?_) | (refine wpList_store_row rfl 25 _ _ rfl w.heap.size #[v0, v1, v2, v3, v4] rfl rfl 25 zj gR3 size_json rfl hone ?_))
          have gB := gR3.setRow #[v0, v1, v2, v3, v4]
          have fB := (hv.fr.trans f3).setRow w.heap.size #[v0, v1, v2, v3, v4] (Or.inl (Nat.le_refl _))
          have qB := (Fr.rowO _ w.heap.size #[v0, v1, v2, v3, v4]).blk q2 (fun (e : b = w.heap.size) => by omega)
          exact bodyPost_ret (v := .agg #[v0, v1, v2, v3, v4]) (json_back rfl _ _ w.heap.size _ _ _ _ _ rfl gB) rfl (by rw [HQ2.out]; exact ⟨_, _, _, _, _, rfl, hone, he0, ⟨k + 1, qB, by omega⟩, fB⟩))
      · have b93 : (((byteAt s k).toNat : Int) != 93) = true := by
          have := u8_ne 93 (by omega) h93
          simpa using this
        have HAT := Lib.hid (fun (u : World) (hu : QSt u b s k e) => at_q hu)
        clear h93
        generalize byteAt s k = c at *
        cases m <;> (
          go_wp2_with (first | (go_at_call 68; ((with_reducible refine (HAT.out _ hv.rd).mono ?_); rintro e' w1 ⟨rfl, f1⟩; have q1 := hv.rd.fr f1)) | (go_at_call 42; ((with_reducible refine (HWR.out _ q1).mono ?_); rintro e' w2 ⟨rfl, q2, f2⟩; obtain ⟨d0, d1, d2, y1, y2⟩ := q2.cells; have q3 : QSt (w2.setCell ⟨b, 1, none⟩ (.int .i64 ((k : Int) + 1))) b s (k + 1) e := (by simpa using q2.goto (k + 1)); obtain ⟨e0, e1, e2, x1, x2⟩ := q3.cells; have f3 : Fr (Only b) wr (w2.setCell ⟨b, 1, none⟩ (.int .i64 ((k : Int) + 1))) := (f1.noB.trans f2).only _; have gV3 := f3.blk hv.var (fun (e : V = b) => by omega); have gR3 := f3.blk hv.res (fun (e : w.heap.size = b) => by omega))) | (refine wpList_load_row rfl 25 _ rfl V rfl 25 _ _ _ gV3 Tryz.underlying25 rfl size_json ?_) | (refine wpList_store_row rfl 25 _ _ rfl w.heap.size #[v0, v1, v2, v3, v4] rfl rfl 25 zj gR3 size_json rfl hone ?_))
          have gB := gR3.setRow #[v0, v1, v2, v3, v4]
          have fB := (hv.fr.trans f3).setRow w.heap.size #[v0, v1, v2, v3, v4] (Or.inl (Nat.le_refl _))
          have qB := (Fr.rowO _ w.heap.size #[v0, v1, v2, v3, v4]).blk q3 (fun (e : b = w.heap.size) => by omega)
          exact bodyPost_ret (v := .agg #[v0, v1, v2, v3, v4]) (json_back rfl _ _ w.heap.size _ _ _ _ _ rfl gB) rfl (by rw [HQ2.out]; exact ⟨_, _, _, _, _, rfl, hone, he0, ⟨k + 1, qB, by omega⟩, fB⟩))
end Go.Proofs.YteeijmfnjcddmaaGreatDoor
/- JSON, the document's reader: value at an object. Printed by gen_ob.py. -/
namespace Go.Proofs.YteeijmfnjcddmaaGreatDoor
open Go.RowKit
attribute [local go_sem ↓] Go.wp_at_zero Go.wp_at_succ

/-- Behind the key: it was read, or an error was met. -/
def NKey (w : World) (b V d : Nat) (s : Bs) (q : Pr) (f k : Nat) (l : List Jv) (wx : World) : Prop :=
  (∃ (k' : Nat) (ks : List Bs) (lv kv : Value), QN w b V (nkP true) s k' l ks wx lv kv ∧ (ks.length ≤ l.length + 1 ∧ ks.Nodup) ∧ k < k' ∧ k' ≤ s.length ∧ Hid (itemP (valueP d) true 125 f (blanks (s.drop k')) l ks = q))
  ∨ (∃ (k e : Nat) (v0 v1 v2 v3 v4 : Value), VSt w b V s k e #[v0, v1, v2, v3, v4] wx ∧ (#[v0, v1, v2, v3, v4].all (·.oneCell')) = true ∧ e ≠ 0 ∧ Hid (q = .error e) ∧ k ≤ s.length + 13)

theorem TxtIs.form {s : Bs} {i b : Nat} {w w' : World} {en : Ending} (h : TxtIs s i b w en w') : ∃ t, en = .returned (sV t) ∧ Fr (Only b) w w' ∧
    ((∃ r k, textP (s.drop i) = some (t, r) ∧ QSt w' b s k 0 ∧ blanks (s.drop k) = r ∧ i < k ∧ k ≤ s.length) ∨ (∃ k, textP (s.drop i) = none ∧ QSt w' b s k 90 ∧ k ≤ s.length + 12)) := by
  unfold TxtIs at h
  cases ht : textP (s.drop i) with
  | none =>
    rw [ht] at h
    obtain ⟨t, h1, ⟨k, h2, h3⟩, h4⟩ := h
    exact ⟨t, h1, h4, Or.inr ⟨k, rfl, h2, h3⟩⟩
  | some p =>
    obtain ⟨t, r⟩ := p
    rw [ht] at h
    obtain ⟨h1, ⟨k, h2, h3, h4, h5⟩, h6⟩ := h
    exact ⟨t, h1, h6, Or.inl ⟨r, k, rfl, h2, h3, h4, h5⟩⟩
/-- Behind the key's text: it stands among the keys, or an error was met. -/
def NTxt (w : World) (b V : Nat) (s : Bs) (k1 : Nat) (l : List Jv) (ks : List Bs) (lv : Value) (wx : World) : Prop :=
  (∃ (t r : Bs) (k2 : Nat) (kv : Value), QN w b V (nkP true) s k2 l (ks ++ [t]) wx lv kv ∧ textP (s.drop k1) = some (t, r) ∧ blanks (s.drop k2) = r ∧ k1 < k2 ∧ k2 ≤ s.length)
  ∨ (∃ (k2 : Nat) (v0 v1 v2 v3 v4 : Value), VSt w b V s k2 90 #[v0, v1, v2, v3, v4] wx ∧ (#[v0, v1, v2, v3, v4].all (·.oneCell')) = true ∧ textP (s.drop k1) = none ∧ k2 ≤ s.length + 12)
theorem ntxt_of {w u w2 w5 : World} {b V k1 : Nat} {s t : Bs} {l : List Jv} {ks : List Bs} {lv kv : Value} (hb : b < w.heap.size) (st : QN w b V (nkP true) s k1 l ks u lv kv) (hkl : ks.length ≤ l.length) (g1 : Fr (Only b) u w2) (hsl : (s.drop k1).length ≤ 65536)
    (hqo : (∃ r k, textP (s.drop k1) = some (t, r) ∧ QSt w2 b s k 0 ∧ blanks (s.drop k) = r ∧ k1 < k ∧ k ≤ s.length) ∨ (∃ k, textP (s.drop k1) = none ∧ QSt w2 b s k 90 ∧ k ≤ s.length + 12)) (g cap : Nat) (o : Obj) (hcs : (w2.alloc o).ownsRow (V + 1) 9 1 kv ks.length (ks.map sV))
    (hown : w5.ownsRow (V + 1) 9 1 (.slice (some ⟨g, 0, none⟩) (ks.length + 1) cap) (ks.length + 1) (ks.map sV ++ [sV t])) (hgr : (w2.alloc o).grownBy w5 kv.ownBlock) (hat : kv.ownBlock = some g ∨ g = w2.heap.size + 1) :
    NTxt w b V s k1 l ks lv (w5.setCell ⟨V, 4, none⟩ (.slice (some ⟨g, 0, none⟩) (ks.length + 1) cap)) := by
  rcases hqo with ⟨r, k, ht, hq1, hr, hk, hk'⟩ | ⟨k, ht, hq1, hk'⟩
  · exact Or.inl ⟨t, r, k, _, (st.goes hb g1 hq1 (Nat.le_of_lt hk)).key hb hkl t (by have := textP_tlen hsl ht; unfold big; omega) g cap o hown hgr hat, ht, hr, hk, hk'⟩
  · have hlt := st.lt
    have hl0 : ∀ x, kv.ownBlock = some x → V + 1 ≤ x := fun x hx => (hcs.lt x hx).1
    have hF : Fr (fun x => kv.ownBlock = some x) w2 w5 := (Fr.refl _ w2 |>.alloc o).grown hgr (fun j hj _ => hj)
    have hn : ∀ x, x < V + 1 → ¬ (kv.ownBlock = some x) := fun x hx e => by have := hl0 x e; omega
    have hS : Fr (Only V) w5 (w5.setCell ⟨V, 4, none⟩ (.slice (some ⟨g, 0, none⟩) (ks.length + 1) cap)) := (Fr.refl _ w5).only _
    have gV := (hF.blk (g1.blk st.var (fun (e : V = b) => by omega)) (hn _ (by omega))).set_ 4 (.slice (some ⟨g, 0, none⟩) (ks.length + 1) cap)
    refine Or.inr ⟨k, .int .i64 (nkP true), .int .i64 0, .string ⟨#[]⟩, lv, .slice (some ⟨g, 0, none⟩) (ks.length + 1) cap, ⟨hS.blk (hF.blk hq1 (hn b (by omega))) (fun (e : b = V) => by omega), hS.blk (hF.blk (g1.blk st.res (fun (e : w.heap.size = b) => by omega)) (hn _ (by omega))) (fun (e : w.heap.size = V) => by omega), by simpa using gV, ?_, hlt⟩, ?_, ht, hk'⟩
    · exact (((st.fr.trans g1).alloc o).grown hgr (fun j hj hlt => absurd hlt (by have := hl0 j hj; omega))).setCell_new (p := ⟨V, 4, none⟩) (by simp; omega) _
    · have := st.rows.one (nkP true) 0 ⟨#[]⟩
      simp [Value.oneCell'] at this ⊢
      exact this.1

theorem QN.vst {w0 w : World} {b V k : Nat} {kd : Int} {s : Bs} {l : List Jv} {ks : List Bs} {lv kv : Value} (h : QN w0 b V kd s k l ks w lv kv) : VSt w0 b V s k 0 #[.int .i64 kd, .int .i64 0, .string ⟨#[]⟩, lv, kv] w := ⟨h.rd, h.res, h.var, h.fr, h.lt⟩
theorem VSt.goes {w0 w w' : World} {b V k k' e e' : Nat} {s : Bs} {row : Array Value} (h : VSt w0 b V s k e row w) (hb : b < w0.heap.size) (f : Fr (Only b) w w') (q : QSt w' b s k' e') : VSt w0 b V s k' e' row w' := by
  have hV := h.lt
  exact ⟨q, f.blk h.res (fun (e : w0.heap.size = b) => by omega), f.blk h.var (fun (e : V = b) => by omega), h.fr.trans f, hV⟩
theorem wrong_94w {b i e : Nat} {s : Bs} {w : World} (h : QSt w b s i e) : Calls Tryz.prog 42 #[.pointer (some ⟨b, 0, none⟩), .int .i64 94] w fun en w' => en = .returned (.tuple #[]) ∧ QSt w' b s i (if e = 0 then 94 else e) ∧ Fr (Only b) w w' := wrong_any h 94
/-- Behind a member: it was read, or an error was met. -/
def NItO (w : World) (b V d : Nat) (s : Bs) (q : Pr) (f k : Nat) (l : List Jv) (wx : World) : Prop :=
  (∃ (k' : Nat) (j : Jv) (ks : List Bs) (lv kv : Value), QN w b V (nkP true) s k' (l ++ [j]) ks wx lv kv ∧ (ks.length ≤ l.length + 1 ∧ ks.Nodup) ∧ k < k' ∧ k' ≤ s.length ∧
    Hid ((match takeP [125] (s.drop k') with | some s4 => .ok (.mk (nkP true) 0 [] (l ++ [j]) ks, s4) | none => match takeP [44] (s.drop k') with | none => .error 90 | some s4 => itemsP (valueP d) true 125 f s4 (l ++ [j]) ks) = q))
  ∨ (∃ (k e : Nat) (v0 v1 v2 v3 v4 : Value), VSt w b V s k e #[v0, v1, v2, v3, v4] wx ∧ (#[v0, v1, v2, v3, v4].all (·.oneCell')) = true ∧ e ≠ 0 ∧ Hid (q = .error e) ∧ k ≤ s.length + 13 + 4 * d)
theorem nito_of {w : World} {b V d : Nat} {s : Bs} {q : Pr} {f k k1 : Nat} {l : List Jv} {ks : List Bs} {wx : World} (h : NItem w b V d true 125 s q f k1 l ks wx) (hk : k < k1) (hks : ks.length ≤ l.length + 1 ∧ ks.Nodup) : NItO w b V d s q f k l wx := by
  rcases h with ⟨k', j, lv, kv, a, b', c, e⟩ | ⟨k', e, v0, v1, v2, v3, v4, a, b', c, q, h⟩
  · exact Or.inl ⟨k', j, ks, lv, kv, a, hks, by omega, c, e⟩
  · exact Or.inr ⟨k', e, v0, v1, v2, v3, v4, a, b', c, q, by omega⟩

set_option maxRecDepth 100000 in
set_option maxHeartbeats 6400000 in
theorem qv_obj {d b i : Nat} {s : Bs} {w : World} {n : Int} (hV : VQ d) (hd : d ≤ 31) (hn : n = 31 - (d : Int)) (h : QSt w b s i 0) (hb : b < w.heap.size) (hi : i ≤ s.length) (hl : s.length ≤ 65536) (hc : byteAt s (i + skipB (s.drop i)) = 123) :
    Calls Tryz.prog 41 #[.pointer (some ⟨b, 0, none⟩), .int .i64 n] w (QVal (valueP (d + 1) (blanks (s.drop i))) s i b (d + 1) w) := by
  have hj := sk_le hi
  have hij : i ≤ i + skipB (s.drop i) := by omega
  have hlt : i + skipB (s.drop i) < s.length := by
    rcases Nat.lt_or_ge (i + skipB (s.drop i)) s.length with h | h
    · exact h
    · have : byteAt s (i + skipB (s.drop i)) = 0 := by simp [byteAt, List.getD, h]
      rw [hc] at this; cases this
  have HQ : Hid (valueP (d + 1) (blanks (s.drop i)) = nestP (valueP d) true 125 (blanks (s.drop (i + skipB (s.drop i) + 1)))) := Lib.hid (by
    rw [← drop_sk, drop_b hlt, hc]
    rfl)
  have f0 : Fr NoB w (w.alloc (.cells zj 25)) := (Fr.refl _ _).alloc _
  have q0 := h.fr f0
  have g0 : Blk (w.alloc (.cells zj 25)) w.heap.size 25 zj := Blk.new w 25 zj
  have HBl := Lib.hid (blanks_q q0 (by unfold big; omega) (by unfold big; omega))
  generalize hW : w.alloc (.cells zj 25) = W at *
  have HW := Lib.hid hW
  clear hW
  generalize valueP (d + 1) (blanks (s.drop i)) = Q at *
  generalize i + skipB (s.drop i) = j at *
  have HC := Lib.hid hc
  have HV := Lib.hid hV
  clear hc hV
  have hn0 : 0 ≤ n := by omega
  have hn1 : n ≤ 31 := by omega
  have HN := Lib.hid hn
  clear hn
  go_enter Tryz.func41, Tryz.ntmps41
  go_upto_region 19 with (first | (rw [HW.out]) | (go_at_call 67; ((with_reducible refine HBl.out.mono ?_); rintro e w1 ⟨rfl, q1, f1⟩)) | (go_at_call 68; ((with_reducible refine (at_is q1 HC.out).mono ?_); rintro e w2 ⟨rfl, f2⟩; have q2 := q1.fr f2; have fV : Fr NoB w2 (w2.alloc (.cells zj 25)) := (Fr.refl _ _).alloc _; have q3 := q2.fr fV; obtain ⟨c0, c1, c2, z1, z2⟩ := q3.cells; have gV : Blk (w2.alloc (.cells zj 25)) w2.heap.size 25 zj := Blk.new w2 25 zj; have hV0 : (w2.alloc (.cells zj 25)).cell? ⟨w2.heap.size, 0, none⟩ = some (.int .i64 0) := (gV.cell 0).trans rfl; have zV0 := gV.frozen 0)))
  have hVr : w.heap.size < w2.heap.size := Blk.lt (f2.blk (f1.blk g0 (fun (e : w.heap.size = b) => by omega)) (fun x => x))
  have gR3 := fV.blk (f2.blk (f1.blk g0 (fun (e : w.heap.size = b) => by omega)) (fun x => x)) (fun x => x)
  have F3 : Fr (Only b) w (w2.alloc (.cells zj 25)) := ((f0.noB.trans f1).trans f2.noB).trans fV.noB
  have q4 := q3.goto (j + 1)
  rw [show ((j + 1 : Nat) : Int) = (j : Int) + 1 by omega] at q4
  have hA : Fr (Only b) (w2.alloc (.cells zj 25)) ((w2.alloc (.cells zj 25)).setCell ⟨b, 1, none⟩ (.int .i64 ((j : Int) + 1))) := (Fr.refl _ _).only _
  have gV4 := hA.blk gV (fun (e : w2.heap.size = b) => by omega)
  have gR4 := hA.blk gR3 (fun (e : w.heap.size = b) => by omega)
  have F4 := F3.trans hA
  have z4 : w2.heap.size + 1 ≤ ((w2.alloc (.cells zj 25)).setCell ⟨b, 1, none⟩ (.int .i64 ((j : Int) + 1))).heap.size := Blk.lt gV4
  generalize hw4 : (w2.alloc (.cells zj 25)).setCell ⟨b, 1, none⟩ (.int .i64 ((j : Int) + 1)) = w4 at *
  clear hw4 hA c0 c1 c2 z1 z2 hV0 zV0 gV gR3 q3 fV q2 F3
  generalize hV2 : w2.heap.size = V at *
  clear hV2
  have hS : Fr (Only V) w4 ((w4.setCell ⟨V, 0, none⟩ (.int .i64 5)).setCell ⟨V, 0, none⟩ (.int .i64 6)) := ((Fr.refl _ _).only _).only _
  have q5 := hS.blk q4 (fun (e : b = V) => by omega)
  have gR5 := hS.blk gR4 (fun (e : w.heap.size = V) => by omega)
  have gV5 : Blk ((w4.setCell ⟨V, 0, none⟩ (.int .i64 5)).setCell ⟨V, 0, none⟩ (.int .i64 6)) V 25 #[.int .i64 6, .int .i64 0, .string ⟨#[]⟩, .slice none 0 0, .slice none 0 0] := by
    have := (gV4.set_ 0 (.int .i64 5)).set_ 0 (.int .i64 6)
    simpa using this
  have F5 : Fr (Only b) w ((w4.setCell ⟨V, 0, none⟩ (.int .i64 5)).setCell ⟨V, 0, none⟩ (.int .i64 6)) := (F4.setCell_new (p := ⟨V, 0, none⟩) (by simp; omega) _).setCell_new (p := ⟨V, 0, none⟩) (by simp; omega) _
  have z5 : V + 1 ≤ ((w4.setCell ⟨V, 0, none⟩ (.int .i64 5)).setCell ⟨V, 0, none⟩ (.int .i64 6)).heap.size := Blk.lt gV5
  generalize hw5 : (w4.setCell ⟨V, 0, none⟩ (.int .i64 5)).setCell ⟨V, 0, none⟩ (.int .i64 6) = w5 at *
  clear hw5 hS q4 gR4 gV4 F4 z4
  have hj1 : j + 1 ≤ s.length := hlt
  have HB2 := Lib.hid (blanks_q (show QSt w5 b s (j + 1) 0 from q5) (by unfold big; omega) (by unfold big; omega))
  have hk := sk_le hj1
  have hjk : j + 1 ≤ j + 1 + skipB (s.drop (j + 1)) := by omega
  have hdk := drop_sk s (j + 1)
  rw [← hdk] at HQ
  have hbk := blanks_idem (s.drop (j + 1))
  rw [← hdk] at hbk
  clear hdk
  generalize j + 1 + skipB (s.drop (j + 1)) = k at *
  have HBK := Lib.hid hbk
  clear hbk
  go_upto_block 1 with (first | (go_at_call 67; ((with_reducible refine HB2.out.mono ?_); rintro e w6 ⟨rfl, q6, f6⟩)) | (go_at_call 68; ((with_reducible refine (at_q q6).mono ?_); rintro e w7 ⟨rfl, f7⟩)))
  have F7 := (F5.trans f6).trans f7.noB
  have gV7 := f7.blk (f6.blk gV5 (fun (e : V = b) => by omega)) (fun x => x)
  have gR7 := f7.blk (f6.blk gR5 (fun (e : w.heap.size = b) => by omega)) (fun x => x)
  have q7 := q6.fr f7
  have st0 : QN w b V (nkP true) s k [] [] w7 (.slice none 0 0) (.slice none 0 0) := ⟨q7, gR7, gV7, JRows.nil _ _, F7, hVr, Blk.lt gV7, by simp, by simp⟩
  have HI : Hid (NLoop w i b V d true 125 s Q (.bool (!((((byteAt s k).toNat : Int)) == 125))) w7) := Lib.hid (by
    have hq := HQ.out
    unfold nestP at hq
    rw [takeP_at _ _ _ (by decide)] at hq
    by_cases h125 : byteAt s k = 125
    · rw [if_pos h125] at hq
      have hb125 : (!((((byteAt s k).toNat : Int)) == 125)) = false := by rw [h125]; rfl
      rw [hb125]
      exact Or.inr (Or.inl ⟨k, [], [], _, _, st0, rfl, by omega, hk, Lib.hid (by unfold endP; rw [if_pos h125, hq]; rfl)⟩)
    · rw [if_neg h125] at hq
      have hb125 : (!((((byteAt s k).toNat : Int)) == 125)) = true := by
        have := u8_ne 125 (by omega) h125
        simpa using this
      rw [hb125]
      exact Or.inl ⟨k, (s.drop k).length + 1, [], [], _, _, st0, by simp, rfl, by omega, hk, Lib.hid ⟨by rw [HBK.out, hq], by rw [List.length_drop]; omega⟩⟩)
  generalize byteAt s k = c0 at *
  clear HB2 HBl F7 gV7 gR7 q7 st0 f7 f6 q6 q5 gR5 gV5 F5 z5 HQ HBK HC f2 f1 q1 f0 q0 g0 hk hjk hj1 HW
  have hwr : IntKind.i64.wrap (n + 1) = n + 1 := IntWalk.i64_in _ (by omega)
  go_wp2_with fail
  go_loopw [8] (fun v8 wr => NLoop w i b V d true 125 s Q v8 wr) (fun _ wr => nmes s b wr)
  case atStart => exact HI.out
  case round =>
    clear HI
    rcases hrel with ⟨k, f, l, ks, lv, kv, st, hks, rfl, hik, hk2, HQ2⟩ | ⟨k, l, ks, lv, kv, st, rfl, hik, hk2, HQ2⟩ | ⟨k, e, v0, v1, v2, v3, v4, m, hv, hone, he0, HQ2, hk, rfl⟩
    · obtain ⟨c0, c1, c2, z1, z2⟩ := st.rd.cells
      obtain ⟨c3, c4, z3, z4⟩ := st.cells
      obtain ⟨f', rfl⟩ : ∃ f', f = f' + 1 := ⟨f - 1, by have := HQ2.out.2; omega⟩
      have hkq : (match keyP true (blanks (s.drop k)) ks with | .error e => .error e | .ok (ks', s2) => itemP (valueP d) true 125 f' s2 l ks') = Q := by
        have := HQ2.out.1
        rw [items_succ] at this
        exact this
      have HKQ := Lib.hid hkq
      clear hkq
      have hlk := st.len
      have hsz := st.sz
      go_upto_if 56 with fail
      go_cut [] (fun wx => NKey w b V d s Q f' k l wx)
      case first =>
        go_wp2_with (go_at_call 67; ((with_reducible refine (blanks_q st.rd (by unfold big; omega) (by unfold big; omega)).mono ?_); rintro e w1 ⟨rfl, q1, f1⟩))
        have hk1 := sk_le hk2
        have hkk1 : k ≤ k + skipB (s.drop k) := by omega
        rw [← drop_sk] at HKQ
        generalize k + skipB (s.drop k) = k1 at *
        have st1 := st.goes hb f1 q1 hkk1
        obtain ⟨i0, hi0, hz0, hz1, hz2⟩ := info_parts info_str
        have hck := st1.rows.keys
        have hks1 := hks.1
        have hsz1 := st1.sz
        have hdz : w1.drew.heap.size = w1.heap.size := rfl
        have hbw : b < w1.drew.heap.size := by omega
        have hT := Lib.hid (text_q st1.drew.rd hbw hk1 (by omega))
        obtain ⟨c3, c4, z3, z4⟩ := st1.cells
        go_upto_region 24 with fail
        go_cut [] (fun wx => NTxt w b V s k1 l ks lv wx)
        case first =>
          go_region_law (first | (refine step_append_lies _ (by rfl) _ _ _ (by rfl) (V + 1) 9 i0 (.string ⟨#[]⟩) 1 16 Tryz.underlying23 hi0 hz0 hz1 hz2 (by rfl) (by decide) kv ks.length (ks.map sV) (by rfl) (hck1.alloc _) ⟨w2.heap.size, 0, none⟩ 1 1 [sV t] (by rfl) (by rfl) (cell_one_new _ _ _) (by intro u hu; rw [List.mem_singleton] at hu; subst hu; rfl) (by omega) (by unfold maxLen; omega) (by omega) (by simp; omega) (w2.heap.size + 1) (by simp) ?_; intro g cap w5 hown hgr hat hglt; have hF : Fr (fun x => kv.ownBlock = some x) w2 w5 := (Fr.refl _ w2 |>.alloc _).grown hgr (fun j hj _ => hj); have B5 := hF.blk gV2 (fun e => by have := (hck1.lt _ e).1; omega); have c5 : w5.cell? ⟨V, 4, none⟩ = some kv := (B5.cell 4).trans rfl; have z5 := B5.frozen 4) | (go_simp; go_at_call 69; ((with_reducible refine hT.out.mono ?_); rintro e w2 htx; obtain ⟨t, rfl, g1, hqo⟩ := htx.form; have gV2 := g1.blk st1.drew.var (fun (e : V = b) => by omega); have d4 : w2.cell? ⟨V, 4, none⟩ = some kv := (gV2.cell 4).trans rfl; have y4 := gV2.frozen 4; have hgz := g1.size; have dA : (w2.alloc (.cells #[sV t] 9)).cell? ⟨V, 4, none⟩ = some kv := ((gV2.alloc _).cell 4).trans rfl; have hck1 := g1.row (hck.drew) (fun x hx e => by have e' : x = b := e; have := (hck.lt x hx).1; omega))))
          all_goals (go_wp2_with fail; go_meet; exact ntxt_of hb st1.drew hks1 g1 (by rw [List.length_drop]; omega) hqo g cap _ (hck1.alloc _) hown hgr hat)
        case rest =>
          clear c0 c1 c2 z1 z2 c3 c4 z3 z4 hT hi0 hz0 hz1 hz2 hck
          rcases hcut with ⟨t, r, k2, kv2, st2, ht, hr, hk12, hk2s⟩ | ⟨k2, v0, v1, v2, v3, v4, hv, hone, ht, hk2s⟩
          · have hlk2 := st2.len
            have hV2 := st2.vst
            have hk3s := sk_le hk2s
            have hk3 := Nat.le_add_right k2 (skipB (s.drop k2))
            have hdk := drop_sk s k2
            rw [hr] at hdk
            generalize hk3e : k2 + skipB (s.drop k2) = k3 at *
            have HK3 := Lib.hid hk3e
            clear hk3e
            obtain ⟨c0, c1, c2, z1, z2⟩ := st2.rd.cells
            obtain ⟨c3, c4, z3, z4⟩ := st2.cells
            have HTW := Lib.hid (rtwice_any (Rng (V + 1) wc.heap.size) (ks ++ [t]) kv2 wc (fun g hg => hg.2) (InMem.own st2.rows.keys) (by have := st2.keys.1; unfold big; omega))
            by_cases hmem : t ∈ ks
            · have HE : Hid (Q = .error 94) := Lib.hid (by
                have := HKQ.out
                unfold keyP at this
                rw [ht] at this
                simpa [hmem] using this.symm)
              have HND : Hid ((!decide (ks ++ [t]).Nodup) = true) := Lib.hid (by
                have : ¬ (ks ++ [t]).Nodup := fun h => by
                  rw [List.nodup_append] at h
                  exact h.2.2 t hmem t (by simp) rfl
                simp [this])
              rw [HND.out] at HTW
              clear HKQ hdk hr ht hmem
              by_cases h58 : byteAt s k3 = 58
              · go_wp2_with (first | (go_at_call 70; ((with_reducible refine HTW.out.mono ?_); rintro e w1 ⟨rfl, f1⟩; have q1 := st2.rd.fr f1)) | (go_at_call 42; ((with_reducible refine (wrong_94w q1).mono ?_); rintro e w2 ⟨rfl, q2', f2⟩; have q2 : QSt w2 b s k2 94 := (by simpa using q2'))) | (go_at_call 67; ((with_reducible refine (blanks_q q2 (by unfold big; omega) (by unfold big; omega)).mono ?_); rintro e w3 ⟨rfl, q3, f3⟩; rw [HK3.out] at q3)) | (go_at_call 68; ((with_reducible refine (at_is q3 h58).mono ?_); rintro e w4 ⟨rfl, f4⟩; have q4 := q3.fr f4; obtain ⟨d0, d1, d2, y1, y2⟩ := q4.cells)))
                go_meet
                have q6 : QSt (w4.setCell ⟨b, 1, none⟩ (.int .i64 ((k3 : Int) + 1))) b s (k3 + 1) 94 := (by simpa using q4.goto (k3 + 1))
                have f6 : Fr (Only b) wc (w4.setCell ⟨b, 1, none⟩ (.int .i64 ((k3 : Int) + 1))) := (((f1.noB.trans f2).trans f3).trans f4.noB).only _
                exact Or.inr ⟨k3 + 1, 94, _, _, _, _, _, hV2.goes hb f6 q6, (st2.rows.one _ _ _), by decide, HE, by omega⟩
              · have b58 : (((byteAt s k3).toNat : Int) != 58) = true := by
                  have := u8_ne 58 (by omega) h58
                  simpa using this
                have HAT := Lib.hid (fun (u : World) (hu : QSt u b s k3 94) => at_q hu)
                clear h58
                generalize byteAt s k3 = c at *
                go_wp2_with (first | (go_at_call 70; ((with_reducible refine HTW.out.mono ?_); rintro e w1 ⟨rfl, f1⟩; have q1 := st2.rd.fr f1)) | (go_at_call 42; ((with_reducible refine (wrong_94w q1).mono ?_); rintro e w2 ⟨rfl, q2', f2⟩; have q2 : QSt w2 b s k2 94 := (by simpa using q2'))) | (go_at_call 67; ((with_reducible refine (blanks_q q2 (by unfold big; omega) (by unfold big; omega)).mono ?_); rintro e w3 ⟨rfl, q3, f3⟩; rw [HK3.out] at q3)) | (go_at_call 68; ((with_reducible refine (HAT.out _ q3).mono ?_); rintro e w4 ⟨rfl, f4⟩; have q4 := q3.fr f4)) | (go_at_call 42; ((with_reducible refine (wrong_90w q4).mono ?_); rintro e w5 ⟨rfl, q5', f5⟩; have q5 : QSt w5 b s k3 94 := (by simpa using q5'); obtain ⟨d0, d1, d2, y1, y2⟩ := q5.cells)))
                go_meet
                have q6 : QSt (w5.setCell ⟨b, 1, none⟩ (.int .i64 ((k3 : Int) + 1))) b s (k3 + 1) 94 := (by simpa using q5.goto (k3 + 1))
                have f6 : Fr (Only b) wc (w5.setCell ⟨b, 1, none⟩ (.int .i64 ((k3 : Int) + 1))) := ((((f1.noB.trans f2).trans f3).trans f4.noB).trans f5).only _
                exact Or.inr ⟨k3 + 1, 94, _, _, _, _, _, hV2.goes hb f6 q6, (st2.rows.one _ _ _), by decide, HE, by omega⟩
            · have hkq : (match takeP [58] r with | none => .error 90 | some s2 => itemP (valueP d) true 125 f' s2 l (ks ++ [t])) = Q := by
                have := HKQ.out
                unfold keyP at this
                rw [ht] at this
                simp only [if_true, List.contains_eq_mem, hmem, decide_false, Bool.false_eq_true, if_false] at this
                rw [← this]
                cases takeP [58] r <;> rfl
              have hnd : (ks ++ [t]).Nodup := by
                rw [List.nodup_append]
                exact ⟨hks.2, by simp, fun a ha b hb e => hmem (by rw [List.mem_singleton] at hb; rw [← hb, ← e]; exact ha)⟩
              have HND : Hid ((!decide (ks ++ [t]).Nodup) = false) := Lib.hid (by simp [hnd])
              rw [HND.out] at HTW
              rw [← hdk, takeP_at _ _ _ (by decide)] at hkq
              have HK2 := Lib.hid hkq
              clear HKQ hkq hdk hr ht hmem
              have hlt2 := st2.keys.1
              by_cases h58 : byteAt s k3 = 58
              · go_wp2_with (first | (go_at_call 70; ((with_reducible refine HTW.out.mono ?_); rintro e w1 ⟨rfl, f1⟩; have q1 := st2.rd.fr f1)) | (go_at_call 67; ((with_reducible refine (blanks_q q1 (by unfold big; omega) (by unfold big; omega)).mono ?_); rintro e w3 ⟨rfl, q3, f3⟩; rw [HK3.out] at q3)) | (go_at_call 68; ((with_reducible refine (at_is q3 h58).mono ?_); rintro e w4 ⟨rfl, f4⟩; have q4 := q3.fr f4; obtain ⟨d0, d1, d2, y1, y2⟩ := q4.cells)))
                go_meet
                have q6 : QSt (w4.setCell ⟨b, 1, none⟩ (.int .i64 ((k3 : Int) + 1))) b s (k3 + 1) 0 := (by simpa using q4.goto (k3 + 1))
                have f6 : Fr (Only b) wc (w4.setCell ⟨b, 1, none⟩ (.int .i64 ((k3 : Int) + 1))) := (((f1.noB).trans f3).trans f4.noB).only _
                exact Or.inl ⟨k3 + 1, ks ++ [t], lv, kv2, st2.goes hb f6 q6 (by omega), ⟨by simpa using hlt2, hnd⟩, by omega, byte_in h58 (by decide), Lib.hid (by have := HK2.out; rw [if_pos h58] at this; exact this)⟩
              · have HE : Hid (Q = .error 90) := Lib.hid (by have := HK2.out; rw [if_neg h58] at this; exact this.symm)
                have b58 : (((byteAt s k3).toNat : Int) != 58) = true := by
                  have := u8_ne 58 (by omega) h58
                  simpa using this
                have HAT := Lib.hid (fun (u : World) (hu : QSt u b s k3 0) => at_q hu)
                clear h58 HK2
                generalize byteAt s k3 = c at *
                go_wp2_with (first | (go_at_call 70; ((with_reducible refine HTW.out.mono ?_); rintro e w1 ⟨rfl, f1⟩; have q1 := st2.rd.fr f1)) | (go_at_call 67; ((with_reducible refine (blanks_q q1 (by unfold big; omega) (by unfold big; omega)).mono ?_); rintro e w3 ⟨rfl, q3, f3⟩; rw [HK3.out] at q3)) | (go_at_call 68; ((with_reducible refine (HAT.out _ q3).mono ?_); rintro e w4 ⟨rfl, f4⟩; have q4 := q3.fr f4)) | (go_at_call 42; ((with_reducible refine (wrong_90w q4).mono ?_); rintro e w5 ⟨rfl, q5', f5⟩; have q5 : QSt w5 b s k3 90 := (by simpa using q5'); obtain ⟨d0, d1, d2, y1, y2⟩ := q5.cells)))
                go_meet
                have q6 : QSt (w5.setCell ⟨b, 1, none⟩ (.int .i64 ((k3 : Int) + 1))) b s (k3 + 1) 90 := (by simpa using q5.goto (k3 + 1))
                have f6 : Fr (Only b) wc (w5.setCell ⟨b, 1, none⟩ (.int .i64 ((k3 : Int) + 1))) := ((((f1.noB).trans f3).trans f4.noB).trans f5).only _
                exact Or.inr ⟨k3 + 1, 90, _, _, _, _, _, hV2.goes hb f6 q6, (st2.rows.one _ _ _), by decide, HE, by omega⟩
          · have HE : Hid (Q = .error 90) := Lib.hid (by
              have := HKQ.out
              unfold keyP at this
              rw [ht] at this
              simpa using this.symm)
            have hk3s : k2 + skipB (s.drop k2) ≤ s.length + 12 := by
              rcases Nat.le_total k2 s.length with h | h
              · have := sk_le h; omega
              · rw [sk_far h]; exact hk2s
            generalize hk3e : k2 + skipB (s.drop k2) = k3 at *
            have HK3 := Lib.hid hk3e
            clear hk3e HKQ ht
            have k90 : ((90 : Int) == 0) = false := rfl
            obtain ⟨c0, c1, c2, z1, z2⟩ := hv.rd.cells
            by_cases h58 : byteAt s k3 = 58
            · go_wp2_with (first | (go_at_call 67; ((with_reducible refine (blanks_q hv.rd (by unfold big; omega) (by unfold big; omega)).mono ?_); rintro e w3 ⟨rfl, q3, f3⟩; rw [HK3.out] at q3)) | (go_at_call 68; ((with_reducible refine (at_is q3 h58).mono ?_); rintro e w4 ⟨rfl, f4⟩; have q4 := q3.fr f4; obtain ⟨d0, d1, d2, y1, y2⟩ := q4.cells)))
              go_meet
              have q6 : QSt (w4.setCell ⟨b, 1, none⟩ (.int .i64 ((k3 : Int) + 1))) b s (k3 + 1) 90 := (by simpa using q4.goto (k3 + 1))
              have f6 : Fr (Only b) wc (w4.setCell ⟨b, 1, none⟩ (.int .i64 ((k3 : Int) + 1))) := (f3.trans f4.noB).only _
              exact Or.inr ⟨k3 + 1, 90, _, _, _, _, _, hv.goes hb f6 q6, hone, by decide, HE, by omega⟩
            · have b58 : (((byteAt s k3).toNat : Int) != 58) = true := by
                have := u8_ne 58 (by omega) h58
                simpa using this
              have HAT := Lib.hid (fun (u : World) (hu : QSt u b s k3 90) => at_q hu)
              clear h58
              generalize byteAt s k3 = c at *
              go_wp2_with (first | (go_at_call 67; ((with_reducible refine (blanks_q hv.rd (by unfold big; omega) (by unfold big; omega)).mono ?_); rintro e w3 ⟨rfl, q3, f3⟩; rw [HK3.out] at q3)) | (go_at_call 68; ((with_reducible refine (HAT.out _ q3).mono ?_); rintro e w4 ⟨rfl, f4⟩; have q4 := q3.fr f4)) | (go_at_call 42; ((with_reducible refine (wrong_90w q4).mono ?_); rintro e w5 ⟨rfl, q5', f5⟩; have q5 : QSt w5 b s k3 90 := (by simpa using q5'); obtain ⟨d0, d1, d2, y1, y2⟩ := q5.cells)))
              go_meet
              have q6 : QSt (w5.setCell ⟨b, 1, none⟩ (.int .i64 ((k3 : Int) + 1))) b s (k3 + 1) 90 := (by simpa using q5.goto (k3 + 1))
              have f6 : Fr (Only b) wc (w5.setCell ⟨b, 1, none⟩ (.int .i64 ((k3 : Int) + 1))) := ((f3.trans f4.noB).trans f5).only _
              exact Or.inr ⟨k3 + 1, 90, _, _, _, _, _, hv.goes hb f6 q6, hone, by decide, HE, by omega⟩
      case rest =>
        have hm := nmes_of st.rd
        clear c0 c1 c2 z1 z2 c3 c4 z3 z4 HKQ
        obtain ⟨kq, eq, hqs⟩ : ∃ kq eq : Nat, QSt wc b s kq eq := by
          rcases hcut with ⟨k1, ks1, lv1, kv1, st1, _⟩ | ⟨k1, e, v0, v1, v2, v3, v4, hv, _⟩
          · exact ⟨_, _, st1.rd⟩
          · exact ⟨_, _, hv.rd⟩
        obtain ⟨c0, c1, c2, z1, z2⟩ := hqs.cells
        go_upto_if 96 with fail
        go_cut [] (fun wx => NItO w b V d s Q f' k l wx)
        case first =>
          rcases hcut with ⟨k1, ks1, lv1, kv1, st1, hks1, hkk1, hk1s, HQ3⟩ | ⟨k1, e, v0, v1, v2, v3, v4, hv, hone, he0, HQ3, hk1⟩
          · have e0 : eq = 0 := by
              have := c2.symm.trans st1.rd.cells.2.2.1
              simpa using this
            subst e0
            clear c0 c1 c2 z1 z2
            obtain ⟨c0, c1, c2, z1, z2⟩ := st1.rd.cells
            obtain ⟨c3, c4, z3, z4⟩ := st1.cells
            obtain ⟨i1, hj0, hy0, hy1, hy2⟩ := info_parts info_json
            obtain ⟨cs, hcs⟩ := st1.rows.elems
            have HVQ : Hid (∀ u, QSt u b s k1 0 → b < u.heap.size → Calls Tryz.prog 41 #[.pointer (some ⟨b, 0, none⟩), .int .i64 (n + 1)] u (QVal (valueP d (blanks (s.drop k1))) s k1 b d u)) := Lib.hid (fun u hu hbu => HV.out b k1 s u (n + 1) hu hbu hk1s hl (by have := HN.out; omega))
            have hlk := st1.len
            have hsz := st1.sz
            have hdz : wc.drew.heap.size = wc.heap.size := rfl
            have hbw : b < wc.drew.heap.size := by have := st1.lt; omega
            go_upto_region 32 with fail
            go_region_law (first | (refine step_append_lies _ (by rfl) _ _ _ (by rfl) (V + 1) 25 i1 (jV 0 0 [] (.slice none 0 0) (.slice none 0 0)) 5 80 Tryz.underlying22 hj0 hy0 hy1 hy2 (by rfl) (by decide) lv1 l.length cs (by rfl) (hcs1.alloc _) ⟨w1.heap.size, 0, none⟩ 1 1 [v0, v1, v2, v3, v4] (by rfl) (by rfl) (World.news_of_block (cs := #[v0, v1, v2, v3, v4]) (t := 25) (fr := (0, 0)) (heap_alloc_new w1 _)) h1c (by omega) (by unfold maxLen; omega) (by omega) (by simp; omega) (w1.heap.size + 1) (by simp) ?_; intro g cap w2 hown hgr hat hglt; have hF : Fr (fun x => lv1.ownBlock = some x) w1 w2 := (Fr.refl _ w1 |>.alloc _).grown hgr (fun j hj _ => hj); have B5 := hF.blk gV1 (fun e => by have := (hcs.lt _ e).1; omega); have c5 : w2.cell? ⟨V, 3, none⟩ = some lv1 := (B5.cell 3).trans rfl; have z5 := B5.frozen 3) | (go_simp; go_at_call 41; ((with_reducible refine (HVQ.out _ st1.drew.rd hbw).mono ?_); rintro e w1 hqv; obtain ⟨v0, v1, v2, v3, v4, rfl, h1c, g1, hqo⟩ := hqv.form; have gV1 := g1.blk st1.drew.var (fun (e : V = b) => by omega); have d3 : w1.cell? ⟨V, 3, none⟩ = some lv1 := (gV1.cell 3).trans rfl; have y3 := gV1.frozen 3; have hz1 := g1.size; have dA : (w1.alloc (.cells #[v0, v1, v2, v3, v4] 25)).cell? ⟨V, 3, none⟩ = some lv1 := ((gV1.alloc _).cell 3).trans rfl; have hcs1 := g1.row (hcs.drew) (fun x hx e => by have e' : x = b := e; have := (hcs.lt x hx).1; omega))))
            all_goals (go_wp2_with fail; go_meet; exact nito_of (nitem_of hb st1.drew g1 hqo HQ3.out g cap _ (hcs1.alloc _) hown hgr hat) hkk1 hks1)
          · have hV1 := hv.lt
            have e0 : eq = e := by
              have := c2.symm.trans hv.rd.cells.2.2.1
              simp at this
              omega
            subst e0
            have k1e : ((eq : Int) == 0) = false := by simp; omega
            go_wp2_with fail
            go_meet
            exact Or.inr ⟨k1, eq, v0, v1, v2, v3, v4, hv, hone, he0, HQ3, by omega⟩
        case rest =>
          clear c0 c1 c2 z1 z2 hqs
          rcases hcut with ⟨k', j', ks, lv', kv', st', hks, hkk, hk', HQ4⟩ | ⟨k', e, v0, v1, v2, v3, v4, hv, hone, he0, HQ4, hk'⟩
          · have hq4 := HQ4.out
            rw [takeP_at _ _ _ (by decide), takeP_at _ _ _ (by decide)] at hq4
            by_cases h44 : byteAt s k' = 44
            · have hk1 := byte_in h44 (by decide)
              have HQ5 : Hid (itemsP (valueP d) true 125 f' (blanks (s.drop (k' + 1))) (l ++ [j']) ks = Q) := Lib.hid (by
                rw [if_neg (by rw [h44]; decide), if_pos h44] at hq4; exact hq4)
              clear hq4 HQ4
              go_wp2_with (go_at_call 68; ((with_reducible refine (at_is st'.rd h44).mono ?_); rintro e w1 ⟨rfl, f1⟩; have q1 := st'.rd.fr f1; obtain ⟨d0, d1, d2, y1, y2⟩ := q1.cells))
              have q2 := q1.goto (k' + 1)
              rw [show ((k' + 1 : Nat) : Int) = (k' : Int) + 1 by omega] at q2
              have hm2 := nmes_of q2
              go_roundw
              case rel => exact Or.inl ⟨k' + 1, f', l ++ [j'], ks, lv', kv', st'.goes hb (f1.noB.only _) q2 (by omega), ⟨by have := hks.1; simp; omega, hks.2⟩, rfl, by omega, by omega, Lib.hid ⟨HQ5.out, by have := HQ2.out.2; omega⟩⟩
              case measure =>
                rw [hm2, hm]; simp; omega
            · have HQ5 : Hid (endP (nkP true) 125 s k' (l ++ [j']) ks = Q) := Lib.hid (by
                unfold endP
                rw [if_neg h44] at hq4
                by_cases h125 : byteAt s k' = 125
                · rw [if_pos h125] at hq4 ⊢; exact hq4
                · rw [if_neg h125] at hq4 ⊢; exact hq4)
              have b44 : (((byteAt s k').toNat : Int) == 44) = false := u8_ne 44 (by omega) h44
              have HAT := Lib.hid (fun (u : World) (hu : QSt u b s k' 0) => at_q hu)
              clear hq4 HQ4 h44
              generalize byteAt s k' = c at *
              go_wp2_with (go_at_call 68; ((with_reducible refine (HAT.out _ st'.rd).mono ?_); rintro e w1 ⟨rfl, f1⟩; have q1 := st'.rd.fr f1))
              have hm2 := nmes_of q1
              go_roundw
              case rel => exact Or.inr (Or.inl ⟨k', l ++ [j'], ks, lv', kv', st'.goes hb f1.noB q1 (Nat.le_refl _), rfl, by omega, hk', HQ5⟩)
              case measure =>
                rw [hm2, hm]; simp; omega
          · have hV1 := hv.lt
            by_cases h44 : byteAt s k' = 44
            · go_wp2_with (go_at_call 68; ((with_reducible refine (at_is hv.rd h44).mono ?_); rintro e w1 ⟨rfl, f1⟩; have q1 := hv.rd.fr f1; obtain ⟨d0, d1, d2, y1, y2⟩ := q1.cells))
              have q2 := q1.goto (k' + 1)
              rw [show ((k' + 1 : Nat) : Int) = (k' : Int) + 1 by omega] at q2
              have hm2 := nmes_of q2
              have fS : Fr (Only b) w1 (w1.setCell ⟨b, 1, none⟩ (.int .i64 ((k' : Int) + 1))) := (Fr.refl _ _).only _
              go_roundw
              case rel => exact Or.inr (Or.inr ⟨k' + 1, e, v0, v1, v2, v3, v4, true, ⟨q2, fS.blk (f1.blk hv.res (fun x => x)) (fun (e : w.heap.size = b) => by omega), fS.blk (f1.blk hv.var (fun x => x)) (fun (e : V = b) => by omega), (hv.fr.trans f1.noB).trans fS, hV1⟩, hone, he0, HQ4, by omega, rfl⟩)
              case measure =>
                rw [hm2, hm, if_neg he0]; first | (simp; done) | (simp; omega)
            · have b44 : (((byteAt s k').toNat : Int) == 44) = false := u8_ne 44 (by omega) h44
              have HAT := Lib.hid (fun (u : World) (hu : QSt u b s k' e) => at_q hu)
              clear h44
              generalize byteAt s k' = c at *
              go_wp2_with (go_at_call 68; ((with_reducible refine (HAT.out _ hv.rd).mono ?_); rintro e w1 ⟨rfl, f1⟩; have q1 := hv.rd.fr f1))
              have hm2 := nmes_of q1
              go_roundw
              case rel => exact Or.inr (Or.inr ⟨k', e, v0, v1, v2, v3, v4, false, ⟨q1, f1.blk hv.res (fun x => x), f1.blk hv.var (fun x => x), hv.fr.trans f1.noB, hV1⟩, hone, he0, HQ4, by omega, rfl⟩)
              case measure =>
                rw [hm2, hm, if_neg he0]; first | (simp; done) | (simp; omega)
    · have hV1 := st.lt
      have hn5 : nkP true = 6 := rfl
      by_cases h125 : byteAt s k = 125
      · have hk1 := byte_in h125 (by decide)
        have HQ5 : Hid (Q = .ok (.mk (nkP true) 0 [] l ks, blanks (s.drop (k + 1)))) := Lib.hid (by have := HQ2.out; unfold endP at this; rw [if_pos h125] at this; exact this.symm)
        obtain ⟨c0, c1, c2, z1, z2⟩ := st.rd.cells
        go_wp2_with (first | (go_at_call 68; ((with_reducible refine (at_is st.rd h125).mono ?_); rintro e w1 ⟨rfl, f1⟩; have q1 := st.rd.fr f1; have q2 : QSt (w1.setCell ⟨b, 1, none⟩ (.int .i64 ((k : Int) + 1))) b s (k + 1) 0 := (by simpa using q1.goto (k + 1)); obtain ⟨d0, d1, d2, y1, y2⟩ := q1.cells; obtain ⟨e0, e1, e2, x1, x2⟩ := q2.cells; have st2 := st.goes hb (f1.noB.only _) q2 (by omega))) | (go_at_call 67; ((with_reducible refine (blanks_q q2 (by unfold big; omega) (by unfold big; omega)).mono ?_); rintro e w3 ⟨rfl, q3, f3⟩; have st3 := st2.goes hb f3 q3 (by omega); have gV3 := st3.var; have gR3 := st3.res)) | (refine wpList_load_row rfl 25 _ rfl V rfl 25 _ _ _ gV3 Tryz.underlying25 rfl size_json ?_) | (refine wpList_store_row rfl 25 _ _ rfl w.heap.size #[.int .i64 (nkP true), .int .i64 0, .string ⟨#[]⟩, lv, kv] rfl rfl 25 zj gR3 size_json rfl (st3.rows.one _ _ _) ?_))
        have gB := gR3.setRow #[.int .i64 (nkP true), .int .i64 0, .string ⟨#[]⟩, lv, kv]
        have dn := st3.done (d := d + 1) (i := i) hb (nk_ok true) hl (by omega) (sk_le (by omega)) (drop_sk s (k + 1))
        exact bodyPost_ret (v := jV (nkP true) 0 [] lv kv) (json_back rfl _ _ w.heap.size _ _ _ _ _ rfl gB) rfl (by rw [HQ5.out]; exact dn)
      · have HQ5 : Hid (Q = .error 90) := Lib.hid (by have := HQ2.out; unfold endP at this; rw [if_neg h125] at this; exact this.symm)
        have b125 : (((byteAt s k).toNat : Int) != 125) = true := by
          have := u8_ne 125 (by omega) h125
          simpa using this
        have HAT := Lib.hid (fun (u : World) (hu : QSt u b s k 0) => at_q hu)
        obtain ⟨c0, c1, c2, z1, z2⟩ := st.rd.cells
        clear h125
        generalize byteAt s k = c at *
        go_wp2_with (first | (go_at_call 68; ((with_reducible refine (HAT.out _ st.rd).mono ?_); rintro e w1 ⟨rfl, f1⟩; have q1 := st.rd.fr f1)) | (go_at_call 42; ((with_reducible refine (wrong_90w q1).mono ?_); rintro e w2 ⟨rfl, q2', f2⟩; have q2 : QSt w2 b s k 90 := (by simpa using q2'); obtain ⟨d0, d1, d2, y1, y2⟩ := q2.cells; have q3 : QSt (w2.setCell ⟨b, 1, none⟩ (.int .i64 ((k : Int) + 1))) b s (k + 1) 90 := (by simpa using q2.goto (k + 1)); obtain ⟨e0, e1, e2, x1, x2⟩ := q3.cells; have f3 : Fr (Only b) wr (w2.setCell ⟨b, 1, none⟩ (.int .i64 ((k : Int) + 1))) := (f1.noB.trans f2).only _; have gV3 := f3.blk st.var (fun (e : V = b) => by omega); have gR3 := f3.blk st.res (fun (e : w.heap.size = b) => by omega))) | (refine wpList_load_row rfl 25 _ rfl V rfl 25 _ _ _ gV3 Tryz.underlying25 rfl size_json ?_) | (refine wpList_store_row rfl 25 _ _ rfl w.heap.size #[.int .i64 (nkP true), .int .i64 0, .string ⟨#[]⟩, lv, kv] rfl rfl 25 zj gR3 size_json rfl (st.rows.one _ _ _) ?_))
        have gB := gR3.setRow #[.int .i64 (nkP true), .int .i64 0, .string ⟨#[]⟩, lv, kv]
        have fB := (st.fr.trans f3).setRow w.heap.size #[.int .i64 (nkP true), .int .i64 0, .string ⟨#[]⟩, lv, kv] (Or.inl (Nat.le_refl _))
        have qB := (Fr.rowO _ w.heap.size #[.int .i64 (nkP true), .int .i64 0, .string ⟨#[]⟩, lv, kv]).blk q3 (fun (e : b = w.heap.size) => by omega)
        exact bodyPost_ret (v := jV (nkP true) 0 [] lv kv) (json_back rfl _ _ w.heap.size _ _ _ _ _ rfl gB) rfl (by rw [HQ5.out]; exact ⟨_, _, _, _, _, rfl, st.rows.one _ _ _, by omega, ⟨k + 1, qB, by omega⟩, fB⟩)
    · have hV1 := hv.lt
      have k1 : ((e : Int) == 0) = false := by simp; omega
      have HWR : Hid (∀ u, QSt u b s k e → Calls Tryz.prog 42 #[.pointer (some ⟨b, 0, none⟩), .int .i64 90] u fun en w' => en = .returned (.tuple #[]) ∧ QSt w' b s k e ∧ Fr (Only b) u w') := Lib.hid (fun u hu => by have := wrong_90w hu; rw [if_neg he0] at this; exact this)
      obtain ⟨c0, c1, c2, z1, z2⟩ := hv.rd.cells
      by_cases h125 : byteAt s k = 125
      · cases m <;> (
          go_wp2_with (first | (go_at_call 68; ((with_reducible refine (at_is hv.rd h125).mono ?_); rintro e' w1 ⟨rfl, f1⟩; have q1 := hv.rd.fr f1; have q2 : QSt (w1.setCell ⟨b, 1, none⟩ (.int .i64 ((k : Int) + 1))) b s (k + 1) e := (by simpa using q1.goto (k + 1)); obtain ⟨d0, d1, d2, y1, y2⟩ := q1.cells; obtain ⟨e0, e1, e2, x1, x2⟩ := q2.cells; have f3 : Fr (Only b) wr (w1.setCell ⟨b, 1, none⟩ (.int .i64 ((k : Int) + 1))) := f1.noB.only _; have gV3 := f3.blk hv.var (fun (e : V = b) => by omega); have gR3 := f3.blk hv.res (fun (e : w.heap.size = b) => by omega))) | (refine wpList_load_row rfl 25 _ rfl V rfl 25 _ _ _ gV3 Tryz.underlying25 rfl size_json ?_) | (refine wpList_store_row rfl 25 _ _ rfl w.heap.size #[v0, v1, v2, v3, v4] rfl rfl 25 zj gR3 size_json rfl hone ?_))
          have gB := gR3.setRow #[v0, v1, v2, v3, v4]
          have fB := (hv.fr.trans f3).setRow w.heap.size #[v0, v1, v2, v3, v4] (Or.inl (Nat.le_refl _))
          have qB := (Fr.rowO _ w.heap.size #[v0, v1, v2, v3, v4]).blk q2 (fun (e : b = w.heap.size) => by omega)
          exact bodyPost_ret (v := .agg #[v0, v1, v2, v3, v4]) (json_back rfl _ _ w.heap.size _ _ _ _ _ rfl gB) rfl (by rw [HQ2.out]; exact ⟨_, _, _, _, _, rfl, hone, he0, ⟨k + 1, qB, by omega⟩, fB⟩))
      · have b125 : (((byteAt s k).toNat : Int) != 125) = true := by
          have := u8_ne 125 (by omega) h125
          simpa using this
        have HAT := Lib.hid (fun (u : World) (hu : QSt u b s k e) => at_q hu)
        clear h125
        generalize byteAt s k = c at *
        cases m <;> (
          go_wp2_with (first | (go_at_call 68; ((with_reducible refine (HAT.out _ hv.rd).mono ?_); rintro e' w1 ⟨rfl, f1⟩; have q1 := hv.rd.fr f1)) | (go_at_call 42; ((with_reducible refine (HWR.out _ q1).mono ?_); rintro e' w2 ⟨rfl, q2, f2⟩; obtain ⟨d0, d1, d2, y1, y2⟩ := q2.cells; have q3 : QSt (w2.setCell ⟨b, 1, none⟩ (.int .i64 ((k : Int) + 1))) b s (k + 1) e := (by simpa using q2.goto (k + 1)); obtain ⟨e0, e1, e2, x1, x2⟩ := q3.cells; have f3 : Fr (Only b) wr (w2.setCell ⟨b, 1, none⟩ (.int .i64 ((k : Int) + 1))) := (f1.noB.trans f2).only _; have gV3 := f3.blk hv.var (fun (e : V = b) => by omega); have gR3 := f3.blk hv.res (fun (e : w.heap.size = b) => by omega))) | (refine wpList_load_row rfl 25 _ rfl V rfl 25 _ _ _ gV3 Tryz.underlying25 rfl size_json ?_) | (refine wpList_store_row rfl 25 _ _ rfl w.heap.size #[v0, v1, v2, v3, v4] rfl rfl 25 zj gR3 size_json rfl hone ?_))
          have gB := gR3.setRow #[v0, v1, v2, v3, v4]
          have fB := (hv.fr.trans f3).setRow w.heap.size #[v0, v1, v2, v3, v4] (Or.inl (Nat.le_refl _))
          have qB := (Fr.rowO _ w.heap.size #[v0, v1, v2, v3, v4]).blk q3 (fun (e : b = w.heap.size) => by omega)
          exact bodyPost_ret (v := .agg #[v0, v1, v2, v3, v4]) (json_back rfl _ _ w.heap.size _ _ _ _ _ rfl gB) rfl (by rw [HQ2.out]; exact ⟨_, _, _, _, _, rfl, hone, he0, ⟨k + 1, qB, by omega⟩, fB⟩))
end Go.Proofs.YteeijmfnjcddmaaGreatDoor
