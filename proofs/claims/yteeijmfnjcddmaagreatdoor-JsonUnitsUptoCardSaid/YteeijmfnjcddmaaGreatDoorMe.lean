/- JSON values in memory; words that all walks share. No library function. -/
import Derived.Test.YteeijmfnjcddmaaGreatDoorJq
import Derived.Test.YteeijmfnjcddmaaGreatDoorChecked
import Derived.WalkLawsBesides
import Derived.Deep.RegionHeld3
import Derived.Deep.LoopGhost
import Derived.Laws.Tables
import Derived.Laws.Rows
import Derived.StillTailTactics
import Derived.Deep.DeepCutAuto
import Derived.Deep.CutBlock
import Derived.Deep.DrawnRows
import Derived.IntWalk
import Derived.Deep.AppendLies
import Derived.Deep.Onto
import Derived.Laws.Cover4
namespace Go.Proofs.YteeijmfnjcddmaaGreatDoor
open Go.RowKit

abbrev sV (s : Bs) : Value := .string ⟨s.toArray⟩
/-- The struct of a JSON value. -/
abbrev jV (k i : Int) (t : Bs) (lv kv : Value) : Value := .agg #[.int .i64 k, .int .i64 i, .string ⟨t.toArray⟩, lv, kv]

def big : Nat := 140737488355328
/-- A slice of n elements whose cells are cs, in a block of S. -/
def InMem (S : Nat → Prop) (w : World) (v : Value) (n : Nat) (cs : List Value) : Prop :=
  (n = 0 ∧ ∃ a c, v = .slice a 0 c) ∨ ∃ g o c, v = .slice (some ⟨g, o, none⟩) n c ∧ S g ∧ ∀ (i : Nat) u, cs[i]? = some u → w.cell? ⟨g, o + i, none⟩ = some u
def RStrs (S : Nat → Prop) (w : World) (ks : List Bs) (v : Value) : Prop :=
  InMem S w v ks.length (ks.map sV) ∧ ks.length ≤ big ∧ ∀ s ∈ ks, s.length ≤ big
def IntOk (n : Int) : Prop := -9223372036854775808 ≤ n ∧ n ≤ 9223372036854775807

mutual
/-- A value that reads as j, through blocks of S. -/
def RAt (S : Nat → Prop) (w : World) : Jv → Value → Prop
  | .mk k i t l ks, v => ∃ lv kv : Value, v = jV k i t lv kv ∧ IntOk k ∧ IntOk i ∧ t.length ≤ big ∧ RStrs S w ks kv ∧ l.length ≤ big ∧ ∃ cs, RCells S w l cs ∧ InMem S w lv l.length cs
/-- The cells of some values. -/
def RCells (S : Nat → Prop) (w : World) : List Jv → List Value → Prop
  | [], cs => cs = []
  | j :: r, cs => ∃ v0 v1 v2 v3 v4 rest, cs = v0 :: v1 :: v2 :: v3 :: v4 :: rest ∧ RAt S w j (.agg #[v0, v1, v2, v3, v4]) ∧ RCells S w r rest
end

theorem InMem.fr {S : Nat → Prop} {w w' : World} {v : Value} {n : Nat} {cs : List Value} (h : InMem S w v n cs) (f : ∀ g, S g → w'.heap[g]? = w.heap[g]?) : InMem S w' v n cs := by
  rcases h with h | ⟨g, o, c, hv, hS, hc⟩
  · exact Or.inl h
  · exact Or.inr ⟨g, o, c, hv, hS, fun i u hu => (World.cell?_of_block (w := w) (f g hS)).trans (hc i u hu)⟩
theorem InMem.mono {S T : Nat → Prop} {w : World} {v : Value} {n : Nat} {cs : List Value} (h : InMem S w v n cs) (f : ∀ g, S g → T g) : InMem T w v n cs := by
  rcases h with h | ⟨g, o, c, hv, hS, hc⟩
  · exact Or.inl h
  · exact Or.inr ⟨g, o, c, hv, f g hS, hc⟩
theorem RStrs.fr {S : Nat → Prop} {w w' : World} {ks : List Bs} {v : Value} (h : RStrs S w ks v) (f : ∀ g, S g → w'.heap[g]? = w.heap[g]?) : RStrs S w' ks v := ⟨h.1.fr f, h.2⟩
theorem RStrs.mono {S T : Nat → Prop} {w : World} {ks : List Bs} {v : Value} (h : RStrs S w ks v) (f : ∀ g, S g → T g) : RStrs T w ks v := ⟨h.1.mono f, h.2⟩

mutual
theorem RAt.fr {S : Nat → Prop} {w w' : World} (f : ∀ g, S g → w'.heap[g]? = w.heap[g]?) : ∀ (j : Jv) (v : Value), RAt S w j v → RAt S w' j v
  | .mk k i t l ks, v, h => by
    simp only [RAt] at h ⊢
    obtain ⟨lv, kv, h1, h2, h3, h4, h5, h6, cs, h7, h8⟩ := h
    exact ⟨lv, kv, h1, h2, h3, h4, h5.fr f, h6, cs, RCells.fr f l cs h7, h8.fr f⟩
theorem RCells.fr {S : Nat → Prop} {w w' : World} (f : ∀ g, S g → w'.heap[g]? = w.heap[g]?) : ∀ (l : List Jv) (cs : List Value), RCells S w l cs → RCells S w' l cs
  | [], cs, h => by simp only [RCells] at h ⊢; exact h
  | j :: r, cs, h => by
    simp only [RCells] at h ⊢
    obtain ⟨v0, v1, v2, v3, v4, rest, h1, h2, h3⟩ := h
    exact ⟨v0, v1, v2, v3, v4, rest, h1, RAt.fr f j _ h2, RCells.fr f r rest h3⟩
end
mutual
theorem RAt.mono {S T : Nat → Prop} {w : World} (f : ∀ g, S g → T g) : ∀ (j : Jv) (v : Value), RAt S w j v → RAt T w j v
  | .mk k i t l ks, v, h => by
    simp only [RAt] at h ⊢
    obtain ⟨lv, kv, h1, h2, h3, h4, h5, h6, cs, h7, h8⟩ := h
    exact ⟨lv, kv, h1, h2, h3, h4, h5.mono f, h6, cs, RCells.mono f l cs h7, h8.mono f⟩
theorem RCells.mono {S T : Nat → Prop} {w : World} (f : ∀ g, S g → T g) : ∀ (l : List Jv) (cs : List Value), RCells S w l cs → RCells T w l cs
  | [], cs, h => by simp only [RCells] at h ⊢; exact h
  | j :: r, cs, h => by
    simp only [RCells] at h ⊢
    obtain ⟨v0, v1, v2, v3, v4, rest, h1, h2, h3⟩ := h
    exact ⟨v0, v1, v2, v3, v4, rest, h1, RAt.mono f j _ h2, RCells.mono f r rest h3⟩
end
theorem RCells.len {S : Nat → Prop} {w : World} : ∀ (l : List Jv) (cs : List Value), RCells S w l cs → cs.length = l.length * 5
  | [], cs, h => by simp only [RCells] at h; rw [h]; rfl
  | j :: r, cs, h => by
    simp only [RCells] at h
    obtain ⟨v0, v1, v2, v3, v4, rest, rfl, _, h3⟩ := h
    have := RCells.len r rest h3
    simp; omega
theorem RCells.snoc {S : Nat → Prop} {w : World} {j : Jv} {v0 v1 v2 v3 v4 : Value} (hj : RAt S w j (.agg #[v0, v1, v2, v3, v4])) : ∀ (l : List Jv) (cs : List Value), RCells S w l cs → RCells S w (l ++ [j]) (cs ++ [v0, v1, v2, v3, v4])
  | [], cs, h => by
    simp only [RCells] at h
    subst h
    simp only [List.nil_append, RCells]
    exact ⟨v0, v1, v2, v3, v4, [], rfl, hj, rfl⟩
  | i :: r, cs, h => by
    simp only [RCells] at h
    obtain ⟨u0, u1, u2, u3, u4, rest, rfl, h2, h3⟩ := h
    simp only [List.cons_append, RCells]
    exact ⟨u0, u1, u2, u3, u4, _, rfl, h2, RCells.snoc hj r rest h3⟩

/-- A value that a call has made: its rows are the call's own, from lo on; what is deeper lies in new blocks apart from them. -/
def JTop (lo : Nat) (w : World) : Jv → Value → Prop
  | .mk k i t l ks, v => ∃ (lv kv : Value) (cs : List Value) (S : Nat → Prop), v = jV k i t lv kv ∧ IntOk k ∧ IntOk i ∧ t.length ≤ big ∧ l.length ≤ big ∧ (ks.length ≤ big ∧ ∀ s ∈ ks, s.length ≤ big) ∧
    w.ownsRow lo 25 5 lv l.length cs ∧ w.ownsRow lo 9 1 kv ks.length (ks.map sV) ∧ RCells S w l cs ∧ (∀ g, S g → lo ≤ g ∧ g < w.heap.size ∧ lv.ownBlock ≠ some g ∧ kv.ownBlock ≠ some g)
/-- New blocks. -/
def Rng (lo hi : Nat) : Nat → Prop := fun g => lo ≤ g ∧ g < hi
theorem add_at (g o i : Nat) : (⟨g, o, none⟩ : Addr).add i = ⟨g, o + i, none⟩ := by
  by_cases h : i = 0
  · subst h; simp [Addr.add]
  · simp [Addr.add, h]
theorem InMem.own {w : World} {lo : Nat} {e : TypeId} {size n : Nat} {v : Value} {cs : List Value} (h : w.ownsRow lo e size v n cs) : InMem (Rng lo w.heap.size) w v n cs := by
  have hc := @World.ownsRow.cells _ _ _ _ _ _ _ h
  rcases h.2 with ⟨rfl, h0⟩ | ⟨g, cap, cur, rfl, hg, hh, _⟩
  · exact Or.inl ⟨h0, none, 0, by rw [h0] at *⟩
  · refine Or.inr ⟨g, 0, cap, rfl, ⟨hg, lt_of_block hh⟩, fun i u hu => ?_⟩
    have := hc (g := g) rfl i u hu
    rwa [add_at] at this
theorem JTop.at_ {lo : Nat} {w : World} : ∀ {j : Jv} {v : Value}, JTop lo w j v → RAt (Rng lo w.heap.size) w j v
  | .mk k i t l ks, v, h => by
    obtain ⟨lv, kv, cs, S, h1, h2, h3, h4, h5, h6, h7, h8, h9, h10⟩ := h
    simp only [RAt]
    exact ⟨lv, kv, h1, h2, h3, h4, ⟨InMem.own h8, h6⟩, h5, cs, RCells.mono (fun g hg => ⟨(h10 g hg).1, (h10 g hg).2.1⟩) l cs h9, InMem.own h7⟩
theorem Blk.setRow {w : World} {g : Nat} {t : TypeId} {cs : Array Value} (h : Blk w g t cs) (ds : Array Value) : Blk (w.setRow g ds) g t ds := by
  unfold Blk at h ⊢
  simp [World.setRow, Array.getElem?_modify, h]
theorem setRow_other (w : World) (g k : Nat) (ds : Array Value) (h : k ≠ g) : (w.setRow g ds).heap[k]? = w.heap[k]? := by
  simp [World.setRow, Array.getElem?_modify, Ne.symm h]
theorem Fr.setRow {S : Nat → Prop} {a w : World} (h : Fr S a w) (g : Nat) (ds : Array Value) (hg : a.heap.size ≤ g ∨ S g) : Fr S a (w.setRow g ds) :=
  ⟨h.os, h.tape, h.output, by simpa [World.setRow] using h.size, fun k hk hn => (setRow_other w g k ds (fun e => by subst e; rcases hg with hg | hg; omega; exact hn hg)).trans (h.block k hk hn)⟩
/-- Block g alone is written whole. -/
theorem Fr.rowO (w : World) (g : Nat) (ds : Array Value) : Fr (Only g) w (w.setRow g ds) :=
  ⟨rfl, rfl, rfl, by simp [World.setRow], fun k _ hn => setRow_other w g k ds hn⟩
theorem size_json : (Tryz.prog.info? 25).map (·.size) = some 5 := by kernel_rfl
theorem json_back {fn : Func} {p : Tmp} (h : fn.results = #[.cell p 25]) (tmps : Array Value) (w : World) (g : Nat) (v0 v1 v2 v3 v4 : Value) (hp : tmps.getD p undef = .pointer (some ⟨g, 0, none⟩)) (hb : Blk w g 25 #[v0, v1, v2, v3, v4]) :
    (results fn tmps).run Tryz.prog w = .ok (.agg #[v0, v1, v2, v3, v4]) w :=
  results_cell_row h tmps w g _ _ _ _ hp hb Tryz.underlying25 rfl size_json
theorem one_json (k i : Int) (t : ByteArray) (a b : Option Addr) (n c m d : Nat) : (#[Value.int .i64 k, .int .i64 i, .string t, .slice a n c, .slice b m d].all (·.oneCell')) = true := by simp [Value.oneCell']
/-- The zero of a JSON value, in its cells. -/
abbrev zj : Array Value := #[.int .i64 0, .int .i64 0, .string ⟨#[]⟩, .slice none 0 0, .slice none 0 0]
theorem info_str : (Tryz.prog.info? 9).map (fun i => (i.zero, i.size, i.bytes)) = some (some (.string ⟨#[]⟩), 1, 16) := by kernel_rfl
theorem info_json : (Tryz.prog.info? 25).map (fun i => (i.zero, i.size, i.bytes)) = some (some (jV 0 0 [] (.slice none 0 0) (.slice none 0 0)), 5, 80) := by kernel_rfl
theorem all_one {v0 v1 v2 v3 v4 : Value} (h : ∀ u ∈ [v0, v1, v2, v3, v4], u.oneCell' = true) : (#[v0, v1, v2, v3, v4].all (·.oneCell')) = true := by
  rw [Array.all_eq_true]
  intro i hi
  have hm : #[v0, v1, v2, v3, v4][i] ∈ #[v0, v1, v2, v3, v4] := Array.getElem_mem hi
  exact h _ (Array.mem_def.1 hm)
theorem RAt.one {S : Nat → Prop} {w : World} {j : Jv} {v0 v1 v2 v3 v4 : Value} (h : RAt S w j (.agg #[v0, v1, v2, v3, v4])) : ∀ u ∈ [v0, v1, v2, v3, v4], u.oneCell' = true := by
  cases j with
  | mk k i t l ks =>
    simp only [RAt] at h
    obtain ⟨lv, kv, h1, h2, h3, h4, h5, h6, cs, h7, h8⟩ := h
    simp only [jV, Value.agg.injEq, Array.mk.injEq, List.cons.injEq, and_true] at h1
    obtain ⟨rfl, rfl, rfl, rfl, rfl⟩ := h1
    rcases h8 with ⟨_, a, c, rfl⟩ | ⟨g, o, c, rfl, _⟩ <;> rcases h5.1 with ⟨_, a, c, rfl⟩ | ⟨g, o, c, rfl, _⟩ <;> simp [Value.oneCell']
theorem RCells.get {S : Nat → Prop} {w : World} : ∀ (l : List Jv) (cs : List Value) (m : Nat) (hm : m < l.length), RCells S w l cs →
    ∃ v0 v1 v2 v3 v4, cs[m * 5]? = some v0 ∧ cs[m * 5 + 1]? = some v1 ∧ cs[m * 5 + 2]? = some v2 ∧ cs[m * 5 + 3]? = some v3 ∧ cs[m * 5 + 4]? = some v4 ∧ RAt S w l[m] (.agg #[v0, v1, v2, v3, v4])
  | [], cs, m, hm, h => by simp at hm
  | j :: r, cs, 0, hm, h => by
    simp only [RCells] at h
    obtain ⟨v0, v1, v2, v3, v4, rest, rfl, h2, h3⟩ := h
    exact ⟨v0, v1, v2, v3, v4, rfl, rfl, rfl, rfl, rfl, h2⟩
  | j :: r, cs, m + 1, hm, h => by
    simp only [RCells] at h
    obtain ⟨v0, v1, v2, v3, v4, rest, rfl, h2, h3⟩ := h
    obtain ⟨u0, u1, u2, u3, u4, a0, a1, a2, a3, a4, ha⟩ := RCells.get r rest m (by simpa using hm) h3
    have e : ∀ i, (m + 1) * 5 + i = (m * 5 + i) + 5 := fun i => by omega
    refine ⟨u0, u1, u2, u3, u4, ?_, ?_, ?_, ?_, ?_, ha⟩
    · have := e 0; simp only [Nat.add_zero] at this; rw [this]; simpa using a0
    · rw [e 1]; simpa using a1
    · rw [e 2]; simpa using a2
    · rw [e 3]; simpa using a3
    · rw [e 4]; simpa using a4
theorem ba_inj {a b : Bs} : ((⟨a.toArray⟩ : ByteArray) = ⟨b.toArray⟩) ↔ a = b := by
  constructor
  · intro h; injection h with h; simpa using congrArg Array.toList h
  · rintro rfl; rfl
theorem get_back {fn : Func} (h : fn.results = #[.cell 4 25, .tmp 5]) (tmps : Array Value) (w : World) (g : Nat) (v0 v1 v2 v3 v4 : Value) (n : Value)
    (hp : tmps.getD 4 undef = .pointer (some ⟨g, 0, none⟩)) (hq : tmps.getD 5 undef = n) (hb : Blk w g 25 #[v0, v1, v2, v3, v4]) :
    (results fn tmps).run Tryz.prog w = .ok (.tuple #[.agg #[v0, v1, v2, v3, v4], n]) w := by
  have hp' : tmps[4]?.getD undef = .pointer (some ⟨g, 0, none⟩) := by simpa using hp
  have hq' : tmps[5]?.getD undef = n := by simpa using hq
  simp [results, h, hp', hq', asAddr, run_loadVar_row w g 25 25 _ (0, 0) _ hb Tryz.underlying25 rfl size_json]
theorem nul_at (S : Nat → Prop) (w : World) : RAt S w Jv.nul (jV 0 0 [] (.slice none 0 0) (.slice none 0 0)) := by
  simp only [Jv.nul, RAt]
  exact ⟨_, _, rfl, by unfold IntOk; omega, by unfold IntOk; omega, by unfold big; simp, ⟨Or.inl ⟨rfl, _, _, rfl⟩, by unfold big; simp, by simp⟩, by unfold big; simp, [], by simp [RCells], Or.inl ⟨rfl, _, _, rfl⟩⟩
theorem own_old {w : World} {B sz n : Nat} {e : TypeId} {v : Value} {xs : List Value} (h : w.ownsRow B e sz v n xs) {k : Nat} (hk : v.ownBlock = some k) : B ≤ k := by
  rcases h.2 with ⟨rfl, _⟩ | ⟨g, cap, cur, rfl, hg, _⟩
  · cases hk
  · cases hk; exact hg
theorem RAt.get5 {S : Nat → Prop} {w : World} {x : Jv} {v0 v1 v2 v3 v4 : Value} (h : RAt S w x (.agg #[v0, v1, v2, v3, v4])) : v0 = .int .i64 x.kind ∧ v1 = .int .i64 x.int ∧ v2 = .string ⟨x.text.toArray⟩ ∧ x.text.length ≤ big := by
  cases x with
  | mk k i t l ks =>
    simp only [RAt] at h
    obtain ⟨lv, kv, h1, h2, h3, h4, h5, h6, cs, h7, h8⟩ := h
    simp only [jV, Value.agg.injEq, Array.mk.injEq, List.cons.injEq, and_true] at h1
    obtain ⟨rfl, rfl, rfl, rfl, rfl⟩ := h1
    exact ⟨rfl, rfl, rfl, h4⟩
theorem jat_leaf (S : Nat → Prop) (w : World) (k i : Int) (t : Bs) (hk : IntOk k) (hi : IntOk i) (ht : t.length ≤ big) (la ka : Option Addr) (lc kc : Nat) : RAt S w (.mk k i t [] []) (jV k i t (.slice la 0 lc) (.slice ka 0 kc)) := by
  simp only [RAt]
  exact ⟨_, _, rfl, hk, hi, ht, ⟨Or.inl ⟨rfl, _, _, rfl⟩, by unfold big; simp, by simp⟩, by unfold big; simp, [], by simp [RCells], Or.inl ⟨rfl, _, _, rfl⟩⟩
/-- Every block that is there. -/
abbrev All (w : World) : Nat → Prop := fun g => g < w.heap.size
theorem RAt.all {w u : World} {j : Jv} {v : Value} (h : RAt (All w) w j v) (f : Fr NoB w u) : RAt (All u) u j v :=
  RAt.mono (fun _ hg => Nat.lt_of_lt_of_le hg f.size) j v (RAt.fr (fun g hg => f.block g hg (fun e => e)) j v h)
theorem ba_list (l : Bs) : (⟨l.toArray⟩ : ByteArray).toList = l := by rw [ByteArray.toList_eq]
theorem ba_app (a b : ByteArray) : (a ++ b).toList = a.toList ++ b.toList := by rw [ByteArray.toList_eq, ByteArray.toList_eq, ByteArray.toList_eq]; simp [ByteArray.data_append]
theorem InMem.sl {S : Nat → Prop} {w : World} {v : Value} {n : Nat} {cs : List Value} (h : InMem S w v n cs) : ∃ a c, v = .slice a n c := by
  rcases h with ⟨h0, a, c, rfl⟩ | ⟨g, o, c, rfl, _⟩
  · exact ⟨a, c, by rw [h0]⟩
  · exact ⟨_, c, rfl⟩
/-- A cell of a row, in a later world. -/
theorem InMem.at_ {w u : World} {a : Option Addr} {n c : Nat} {cs : List Value} (h : InMem (All w) w (.slice a n c) n cs) (f : Fr NoB w u) (hn : 0 < n) : ∃ g o, a = some ⟨g, o, none⟩ ∧ ∀ (i : Nat) x, cs[i]? = some x → u.cell? ⟨g, o + i, none⟩ = some x := by
  rcases h with ⟨h0, _⟩ | ⟨g, o, c', he, hg, hc⟩
  · omega
  · simp only [Value.slice.injEq, true_and] at he
    exact ⟨g, o, he.1, fun i x hx => (f.cell (p := ⟨g, o + i, none⟩) hg (fun e => e)).trans (hc i x hx)⟩
theorem ret_int {k : IntKind} {a b : Int} (h : a = b) : Ending.returned (.int k a) = .returned (.int k b) := by rw [h]
theorem ext_drop (s : Bs) (i : Nat) : ((⟨s.toArray⟩ : ByteArray).extract i s.length) = ⟨(s.drop i).toArray⟩ := by
  apply ByteArray.ext
  rw [ByteArray.data_extract]
  simp [List.take_of_length_le]
theorem ext_take (s : Bs) (i : Nat) : ((⟨s.toArray⟩ : ByteArray).extract 0 i) = ⟨(s.take i).toArray⟩ := by
  apply ByteArray.ext
  rw [ByteArray.data_extract]
  simp
theorem get_list (s : Bs) (i : Nat) (h : i < s.length) : (⟨s.toArray⟩ : ByteArray)[i]'h = s[i] := rfl
theorem u8_eq {c : UInt8} {n : Nat} (hn : n < 256) : ((c.toNat : Int) == (n : Int)) = (c == n.toUInt8) := by
  rw [Bool.eq_iff_iff]
  simp only [beq_iff_eq]
  constructor
  · intro h
    have : c.toNat = n := by omega
    rw [← this]; simp
  · intro h
    subst h
    simp; omega
theorem u8_ne {c : UInt8} (n : Nat) (hn : n < 256) (h : c ≠ n.toUInt8) : ((c.toNat : Int) == (n : Int)) = false := by
  rw [u8_eq hn]; simpa using h
end Go.Proofs.YteeijmfnjcddmaaGreatDoor
