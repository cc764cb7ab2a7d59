/- JSON, the document's side: Same, at two values that read as one. -/
import Derived.Test.YtbifjamddbpcjaaGreatDoorJl
import Derived.StillTailTactics
import Derived.Lib.AppendStr
import Derived.Deep.RegionLaw
import Derived.Laws.CopyRow
namespace Go.Proofs.YtbifjamddbpcjaaGreatDoor
open Go.RowKit

/-- What Same has to do, at two values that read as one. -/
def SM (j : Jv) : Prop := ∀ (va vb : Value) (w : World), RAt (All w) w j va → RAt (All w) w j vb → Calls Tryz.prog 14 #[va, vb] w fun e w' => e = .returned (.bool true) ∧ Fr NoB w w'

set_option maxRecDepth 100000 in
set_option maxHeartbeats 6400000 in
theorem same_mk (k i : Int) (t : Bs) (l : List Jv) (ks : List Bs) (la lb ka kb : Option Addr) (c1 c2 c3 c4 : Nat) (w : World) (hll : l.length ≤ big) (hkl : ks.length ≤ big)
    (hka : InMem (All w) w (.slice ka ks.length c3) ks.length (ks.map sV)) (hkb : InMem (All w) w (.slice kb ks.length c4) ks.length (ks.map sV))
    (cs ds : List Value) (hcs : RCells (All w) w l cs) (hds : RCells (All w) w l ds) (hla : InMem (All w) w (.slice la l.length c1) l.length cs) (hlb : InMem (All w) w (.slice lb l.length c2) l.length ds) (hIH : ∀ x ∈ l, SM x) :
    Calls Tryz.prog 14 #[jV k i t (.slice la l.length c1) (.slice ka ks.length c3), jV k i t (.slice lb l.length c2) (.slice kb ks.length c4)] w fun e w' => e = .returned (.bool true) ∧ Fr NoB w w' := by
  unfold big at hll hkl
  have f0 : Fr NoB w ((w.alloc (.cells #[.int .i64 k, .int .i64 i, .string ⟨t.toArray⟩, .slice la l.length c1, .slice ka ks.length c3] 31)).alloc (.cells #[.int .i64 k, .int .i64 i, .string ⟨t.toArray⟩, .slice lb l.length c2, .slice kb ks.length c4] 31)) := ((Fr.refl _ _).alloc _).alloc _
  have gA : Blk ((w.alloc (.cells #[.int .i64 k, .int .i64 i, .string ⟨t.toArray⟩, .slice la l.length c1, .slice ka ks.length c3] 31)).alloc (.cells #[.int .i64 k, .int .i64 i, .string ⟨t.toArray⟩, .slice lb l.length c2, .slice kb ks.length c4] 31)) w.heap.size 31 #[.int .i64 k, .int .i64 i, .string ⟨t.toArray⟩, .slice la l.length c1, .slice ka ks.length c3] := (Blk.new w 31 _).alloc _
  have gB : Blk ((w.alloc (.cells #[.int .i64 k, .int .i64 i, .string ⟨t.toArray⟩, .slice la l.length c1, .slice ka ks.length c3] 31)).alloc (.cells #[.int .i64 k, .int .i64 i, .string ⟨t.toArray⟩, .slice lb l.length c2, .slice kb ks.length c4] 31)) (w.heap.size + 1) 31 #[.int .i64 k, .int .i64 i, .string ⟨t.toArray⟩, .slice lb l.length c2, .slice kb ks.length c4] := by
    have := Blk.new (w.alloc (.cells #[.int .i64 k, .int .i64 i, .string ⟨t.toArray⟩, .slice la l.length c1, .slice ka ks.length c3] 31)) 31 #[.int .i64 k, .int .i64 i, .string ⟨t.toArray⟩, .slice lb l.length c2, .slice kb ks.length c4]
    simpa using this
  generalize hW : (w.alloc (.cells #[.int .i64 k, .int .i64 i, .string ⟨t.toArray⟩, .slice la l.length c1, .slice ka ks.length c3] 31)).alloc (.cells #[.int .i64 k, .int .i64 i, .string ⟨t.toArray⟩, .slice lb l.length c2, .slice kb ks.length c4] 31) = W at f0 gA gB
  have HW := Lib.hid hW
  have HBX : Hid (∀ u, Fr NoB W u → u.cell? ⟨w.heap.size, 3, none⟩ = some (.slice la l.length c1) ∧ u.cell? ⟨w.heap.size, 4, none⟩ = some (.slice ka ks.length c3) ∧ u.cell? ⟨w.heap.size + 1, 3, none⟩ = some (.slice lb l.length c2) ∧ u.cell? ⟨w.heap.size + 1, 4, none⟩ = some (.slice kb ks.length c4)) := Lib.hid (fun u f => by
    have a := f.blk gA (fun e => e)
    have b := f.blk gB (fun e => e)
    exact ⟨(a.cell 3).trans rfl, (a.cell 4).trans rfl, (b.cell 3).trans rfl, (b.cell 4).trans rfl⟩)
  have a0 : W.cell? ⟨w.heap.size, 0, none⟩ = some (.int .i64 k) := (gA.cell 0).trans rfl
  have a1 : W.cell? ⟨w.heap.size, 1, none⟩ = some (.int .i64 i) := (gA.cell 1).trans rfl
  have a2 : W.cell? ⟨w.heap.size, 2, none⟩ = some (.string ⟨t.toArray⟩) := (gA.cell 2).trans rfl
  have a3 : W.cell? ⟨w.heap.size, 3, none⟩ = some (.slice la l.length c1) := (gA.cell 3).trans rfl
  have a4 : W.cell? ⟨w.heap.size, 4, none⟩ = some (.slice ka ks.length c3) := (gA.cell 4).trans rfl
  have b0 : W.cell? ⟨w.heap.size + 1, 0, none⟩ = some (.int .i64 k) := (gB.cell 0).trans rfl
  have b1 : W.cell? ⟨w.heap.size + 1, 1, none⟩ = some (.int .i64 i) := (gB.cell 1).trans rfl
  have b2 : W.cell? ⟨w.heap.size + 1, 2, none⟩ = some (.string ⟨t.toArray⟩) := (gB.cell 2).trans rfl
  have b3 : W.cell? ⟨w.heap.size + 1, 3, none⟩ = some (.slice lb l.length c2) := (gB.cell 3).trans rfl
  have b4 : W.cell? ⟨w.heap.size + 1, 4, none⟩ = some (.slice kb ks.length c4) := (gB.cell 4).trans rfl
  have HA := Lib.hid (And.intro hka hkb)
  have HL := Lib.hid (And.intro (And.intro hcs hla) (And.intro hds hlb))
  have HIH := Lib.hid hIH
  clear hW hka hkb hcs hds hla hlb hIH gA gB
  go_enter Tryz.func14, Tryz.ntmps14
  go_wp2_with (rw [HW.out])
  clear a0 a1 a2 a3 a4 b0 b1 b2 b3 b4
  go_loopw [5] (fun v wr => ∃ m : Nat, m ≤ ks.length ∧ v = .int .i64 m ∧ Fr NoB W wr) (fun v _ => ks.length - (intOf v).toNat)
  case atStart => exact ⟨0, Nat.zero_le _, rfl, Fr.refl _ _⟩
  case round =>
    obtain ⟨m, hm, rfl, hf⟩ := hrel
    obtain ⟨x3, x4, y3, y4⟩ := HBX.out wr hf
    by_cases hlt : m < ks.length
    · obtain ⟨ga, oa, rfl, ha⟩ := HA.out.1.at_ (f0.trans hf) (by omega)
      obtain ⟨gb, ob, rfl, hb⟩ := HA.out.2.at_ (f0.trans hf) (by omega)
      have da := ha m (sV ks[m]) (by simp [hlt])
      have db := hb m (sV ks[m]) (by simp [hlt])
      generalize ks[m] = q at da db
      clear ha hb
      have i1 : (0 : Int) ≤ m := by omega
      have i2 : (m : Int) < ks.length := by omega
      go_wp2_with fail
      go_quiet (fail)
      go_wp2_with fail
      go_roundw
      case rel => exact ⟨m + 1, by omega, by simp, hf.drewN _⟩
      case measure => simp [intOf]; omega
    · obtain rfl : m = ks.length := by omega
      go_wp2_with fail
      go_loopw [6] (fun v wr => ∃ m : Nat, m ≤ l.length ∧ v = .int .i64 m ∧ Fr NoB W wr) (fun v _ => l.length - (intOf v).toNat)
      case atStart => exact ⟨0, Nat.zero_le _, rfl, hf⟩
      case round =>
        obtain ⟨m, hm, rfl, hf⟩ := hrel
        obtain ⟨x3, x4, y3, y4⟩ := HBX.out _ hf
        by_cases hlt : m < l.length
        · obtain ⟨⟨hcs, hla⟩, ⟨hds, hlb⟩⟩ := HL.out
          obtain ⟨ga, oa, rfl, ha⟩ := hla.at_ (f0.trans hf) (by omega)
          obtain ⟨gb, ob, rfl, hb⟩ := hlb.at_ (f0.trans hf) (by omega)
          obtain ⟨v0, v1, v2, v3, v4, p0, p1, p2, p3, p4, hat⟩ := RCells.get l cs m hlt hcs
          obtain ⟨u0, u1, u2, u3, u4, q0, q1, q2, q3, q4, hbt⟩ := RCells.get l ds m hlt hds
          have d0 : wr.cell? ⟨ga, oa + m * 5, none⟩ = some v0 := ha _ _ p0
          have d1 : wr.cell? ⟨ga, oa + m * 5 + 1, none⟩ = some v1 := ha _ _ p1
          have d2 : wr.cell? ⟨ga, oa + m * 5 + 2, none⟩ = some v2 := ha _ _ p2
          have d3 : wr.cell? ⟨ga, oa + m * 5 + 3, none⟩ = some v3 := ha _ _ p3
          have d4 : wr.cell? ⟨ga, oa + m * 5 + 4, none⟩ = some v4 := ha _ _ p4
          have e0 : wr.cell? ⟨gb, ob + m * 5, none⟩ = some u0 := hb _ _ q0
          have e1 : wr.cell? ⟨gb, ob + m * 5 + 1, none⟩ = some u1 := hb _ _ q1
          have e2 : wr.cell? ⟨gb, ob + m * 5 + 2, none⟩ = some u2 := hb _ _ q2
          have e3 : wr.cell? ⟨gb, ob + m * 5 + 3, none⟩ = some u3 := hb _ _ q3
          have e4 : wr.cell? ⟨gb, ob + m * 5 + 4, none⟩ = some u4 := hb _ _ q4
          have i1 : (0 : Int) ≤ m := by omega
          have i2 : (m : Int) < l.length := by omega
          clear ha hb
          go_wp2_with fail
          go_still_tail 10, (by kernel_rfl)
          have fD : Fr NoB W wr.drew := hf.drew
          have HC := Lib.hid (HIH.out l[m] (List.getElem_mem hlt) _ _ wr.drew (hat.all (f0.trans fD)) (hbt.all (f0.trans fD)))
          clear hat hbt p0 p1 p2 p3 p4 q0 q1 q2 q3 q4 hcs hds hla hlb
          go_wp2_with (go_at_call 14; ((with_reducible refine HC.out.mono ?_); rintro e w2 ⟨rfl, f2⟩))
          go_roundw
          case rel => exact ⟨m + 1, by omega, by simp, fD.trans f2⟩
          case measure => simp [intOf]; omega
        · obtain rfl : m = l.length := by omega
          go_wp2_with fail
          go_ret
          exact ⟨rfl, f0.trans hf⟩
mutual
theorem SM_all : ∀ j : Jv, SM j
  | .mk k i t l ks => by
    intro va vb w ha hb
    simp only [RAt] at ha hb
    obtain ⟨lv, kv, rfl, hk, hi, ht, hks, hl, cs, hcs, hlm⟩ := ha
    obtain ⟨lv', kv', rfl, _, _, _, hks', _, ds, hds, hlm'⟩ := hb
    obtain ⟨la, lc, rfl⟩ := hlm.sl
    obtain ⟨lb, lc', rfl⟩ := hlm'.sl
    obtain ⟨ka, kc, rfl⟩ := hks.1.sl
    obtain ⟨kb, kc', rfl⟩ := hks'.1.sl
    exact same_mk k i t l ks la lb ka kb lc lc' kc kc' w hl hks.2.1 hks.1 hks'.1 cs ds hcs hds hlm hlm' (SMs_all l)
theorem SMs_all : ∀ (l : List Jv), ∀ x ∈ l, SM x
  | [], x, hx => absurd hx (by simp)
  | j :: r, x, hx => by
    cases hx with
    | head => exact SM_all j
    | tail _ h => exact SMs_all r x h
end
/-- Same, at two values that read as one. -/
theorem same_any (j : Jv) (va vb : Value) (w : World) (ha : RAt (All w) w j va) (hb : RAt (All w) w j vb) : Calls Tryz.prog 14 #[va, vb] w fun e w' => e = .returned (.bool true) ∧ Fr NoB w w' := SM_all j va vb w ha hb
end Go.Proofs.YtbifjamddbpcjaaGreatDoor
/- JSON: what Parse hands back, in one shape; values laid into variables. -/
namespace Go.Proofs.YtbifjamddbpcjaaGreatDoor
open Go.RowKit

/-- The error's number of what was read. -/
def errP : Except Nat Jv → Nat | .ok _ => 0 | .error n => n
/-- The value of what was read. -/
def valP : Except Nat Jv → Jv | .ok j => j | .error _ => Jv.nul
/-- What Parse hands back, in one shape. -/
def ParO (q : Except Nat Jv) (w : World) (e : Ending) (w' : World) : Prop := ∃ v, e = .returned (.tuple #[v, .int .i64 (errP q : Int)]) ∧ RAt (All w') w' (valP q) v ∧ Fr NoB w w'

theorem RAt.form {S : Nat → Prop} {w : World} {j : Jv} {v : Value} (h : RAt S w j v) : ∃ v0 v1 v2 v3 v4, v = .agg #[v0, v1, v2, v3, v4] ∧ (#[v0, v1, v2, v3, v4].all (·.oneCell')) = true := by
  cases j with
  | mk k i t l ks =>
    have h0 := h
    simp only [RAt] at h
    obtain ⟨lv, kv, rfl, _⟩ := h
    exact ⟨_, _, _, _, _, rfl, all_one h0.one⟩
/-- A value that a call has handed back, laid into a variable of its own. -/
theorem put_row (u : World) (v0 v1 v2 v3 v4 : Value) : Fr NoB u ((u.alloc (.cells zj 31)).setRow u.heap.size #[v0, v1, v2, v3, v4]) ∧ Blk ((u.alloc (.cells zj 31)).setRow u.heap.size #[v0, v1, v2, v3, v4]) u.heap.size 31 #[v0, v1, v2, v3, v4] :=
  ⟨((Fr.refl NoB u).alloc _).setRow u.heap.size _ (Or.inl (Nat.le_refl _)), (Blk.new u 31 zj).setRow _⟩
theorem Blk.five {w : World} {g : Nat} {v0 v1 v2 v3 v4 : Value} (h : Blk w g 31 #[v0, v1, v2, v3, v4]) : w.cell? ⟨g, 0, none⟩ = some v0 ∧ w.cell? ⟨g, 1, none⟩ = some v1 ∧ w.cell? ⟨g, 2, none⟩ = some v2 ∧ w.cell? ⟨g, 3, none⟩ = some v3 ∧ w.cell? ⟨g, 4, none⟩ = some v4 :=
  ⟨(h.cell 0).trans rfl, (h.cell 1).trans rfl, (h.cell 2).trans rfl, (h.cell 3).trans rfl, (h.cell 4).trans rfl⟩
theorem own_strs {w : World} {lo : Nat} {v : Value} {ks : List Bs} (h : w.ownsRow lo 9 1 v ks.length (ks.map sV)) (h1 : ks.length ≤ big) (h2 : ∀ s ∈ ks, s.length ≤ big) : RStrs (All w) w ks v :=
  ⟨(InMem.own h).mono (fun _ hg => hg.2), h1, h2⟩
theorem RStrs.all {w u : World} {ks : List Bs} {v : Value} (h : RStrs (All w) w ks v) (f : Fr NoB w u) : RStrs (All u) u ks v :=
  RStrs.mono (RStrs.fr h (fun g hg => f.block g hg (fun e => e))) (fun _ hg => Nat.lt_of_lt_of_le hg f.size)
end Go.Proofs.YtbifjamddbpcjaaGreatDoor
/- JSON: the two rows of a value that is being built. No library function. -/
namespace Go.Proofs.YtbifjamddbpcjaaGreatDoor
open Go.RowKit

/-- The rows of a value under construction: its elements and its keys, from lo on, apart from each other and from what lies deeper. -/
def JRows (lo : Nat) (w : World) (l : List Jv) (ks : List Bs) (lv kv : Value) : Prop :=
  ∃ (cs : List Value) (S : Nat → Prop), w.ownsRow lo 31 5 lv l.length cs ∧ w.ownsRow lo 9 1 kv ks.length (ks.map sV) ∧ RCells S w l cs ∧
    (∀ g, S g → lo ≤ g ∧ g < w.heap.size ∧ lv.ownBlock ≠ some g ∧ kv.ownBlock ≠ some g) ∧ (∀ g, lv.ownBlock = some g → kv.ownBlock ≠ some g)

theorem JRows.nil (lo : Nat) (w : World) : JRows lo w [] [] (.slice none 0 0) (.slice none 0 0) :=
  ⟨[], fun _ => False, World.ownsRow_nil _ _ _ _, World.ownsRow_nil _ _ _ _, by simp [RCells], fun _ h => h.elim, fun _ h => by simp [Value.ownBlock] at h⟩
theorem JRows.fr {T : Nat → Prop} {lo : Nat} {w w' : World} {l : List Jv} {ks : List Bs} {lv kv : Value} (h : JRows lo w l ks lv kv) (f : Fr T w w') (hT : ∀ g, lo ≤ g → ¬ T g) : JRows lo w' l ks lv kv := by
  obtain ⟨cs, S, h1, h2, h3, h4, h5⟩ := h
  refine ⟨cs, S, f.row h1 (fun g hg => hT g (h1.lt g hg).1), f.row h2 (fun g hg => hT g (h2.lt g hg).1), RCells.fr (fun g hg => f.block g (h4 g hg).2.1 (hT g (h4 g hg).1)) l cs h3, fun g hg => ?_, h5⟩
  obtain ⟨a, b, c, d⟩ := h4 g hg
  exact ⟨a, Nat.lt_of_lt_of_le b f.size, c, d⟩
theorem JRows.keys {lo : Nat} {w : World} {l : List Jv} {ks : List Bs} {lv kv : Value} (h : JRows lo w l ks lv kv) : w.ownsRow lo 9 1 kv ks.length (ks.map sV) := by
  obtain ⟨cs, S, h1, h2, h3, h4, h5⟩ := h; exact h2
/-- A key more. -/
theorem JRows.key {lo : Nat} {w w1 : World} {l : List Jv} {ks : List Bs} {lv kv : Value} (h : JRows lo w l ks lv kv) (key : Bs) (g cap : Nat)
    (hown : w1.ownsRow lo 9 1 (.slice (some ⟨g, 0, none⟩) (ks.length + 1) cap) (ks.length + 1) (ks.map sV ++ [sV key])) (hgr : w.grownBy w1 kv.ownBlock) (hat : kv.ownBlock = some g ∨ g = w.heap.size) :
    JRows lo w1 l (ks ++ [key]) lv (.slice (some ⟨g, 0, none⟩) (ks.length + 1) cap) := by
  obtain ⟨cs, S, h1, h2, h3, h4, h5⟩ := h
  have hl : ∀ x, lv.ownBlock = some x → x ≠ g := fun x hx e => by
    subst e
    rcases hat with hat | hat
    · exact h5 x hx hat
    · have := (h1.lt x hx).2; omega
  refine ⟨cs, S, h1.kept hgr ?_, by simpa using hown, RCells.fr (fun x hx => hgr.block x (h4 x hx).2.1 (fun e => (h4 x hx).2.2.2 e.symm)) l cs h3, fun x hx => ?_, fun x hx e => ?_⟩
  · cases hb : lv.ownBlock with
    | none => exact Or.inl rfl
    | some x => exact Or.inr (fun e => h5 x hb e.symm)
  · obtain ⟨a, b, c, d⟩ := h4 x hx
    refine ⟨a, Nat.lt_of_lt_of_le b hgr.size, c, fun e => ?_⟩
    have e' : g = x := by simpa [Value.ownBlock] using e
    subst e'
    rcases hat with hat | hat
    · exact d hat
    · omega
  · have e' : g = x := by simpa [Value.ownBlock] using e
    exact hl x hx e'.symm
/-- An element more: j, made by a call that began at lo2 and ended in w2, is appended. -/
theorem JRows.item {lo lo2 : Nat} {w w1 : World} {hi : Nat} {l : List Jv} {ks : List Bs} {lv kv : Value} (h : JRows lo w l ks lv kv) {j : Jv} {v0 v1 v2 v3 v4 : Value} (hj : RAt (Rng lo2 hi) w j (.agg #[v0, v1, v2, v3, v4]))
    (hlo : lo ≤ lo2) (hhi : hi ≤ w.heap.size) (hlv : ∀ g, lv.ownBlock = some g → g < lo2) (hkv : ∀ g, kv.ownBlock = some g → g < lo2) (g cap : Nat) {cs : List Value}
    (hcs : w.ownsRow lo 31 5 lv l.length cs)
    (hown : w1.ownsRow lo 31 5 (.slice (some ⟨g, 0, none⟩) (l.length + 1) cap) (l.length + 1) (cs ++ [v0, v1, v2, v3, v4])) (hgr : w.grownBy w1 lv.ownBlock) (hat : lv.ownBlock = some g ∨ g = w.heap.size) :
    JRows lo w1 (l ++ [j]) ks (.slice (some ⟨g, 0, none⟩) (l.length + 1) cap) kv := by
  obtain ⟨cs', S, h1, h2, h3, h4, h5⟩ := h
  have hce : cs = cs' := by
    rcases h1.2 with ⟨e1, e2⟩ | ⟨g1, c1, u1, e1, e2, e3, e4, e5, e6, e7⟩
    · have a := h1.1; have b := hcs.1; rw [e2] at a b; simp at a b; rw [a, b]
    · rcases hcs.2 with ⟨f1, f2⟩ | ⟨g2, c2, u2, f1, f2, f3, f4, f5, f6, f7⟩
      · rw [e1] at f1; cases f1
      · rw [e1] at f1; simp at f1; obtain ⟨rfl, rfl⟩ := f1
        rw [e3] at f3; simp at f3; subst f3
        rw [← e7, ← f7]
  subst hce
  have hgn : ∀ x, (S x ∨ Rng lo2 hi x) → x ≠ g := fun x hx e => by
    subst e
    rcases hx with hx | hx
    · rcases hat with hat | hat
      · exact (h4 x hx).2.2.1 hat
      · have := (h4 x hx).2.1; omega
    · have hx' : lo2 ≤ x ∧ x < hi := hx
      rcases hat with hat | hat
      · have := hlv x hat; omega
      · omega
  have hrow : ∀ x, (S x ∨ Rng lo2 hi x) → x < w.heap.size ∧ some x ≠ lv.ownBlock := fun x hx => by
    refine ⟨?_, fun e => ?_⟩
    · rcases hx with hx | hx
      · exact (h4 x hx).2.1
      · have hx' : lo2 ≤ x ∧ x < hi := hx; omega
    · rcases hx with hx | hx
      · exact (h4 x hx).2.2.1 e.symm
      · have hx' : lo2 ≤ x ∧ x < hi := hx; have := hlv x e.symm; omega
  refine ⟨cs ++ [v0, v1, v2, v3, v4], fun x => S x ∨ Rng lo2 hi x, by simpa using hown, h2.kept hgr ?_, RCells.fr (fun x hx => hgr.block x (hrow x hx).1 (hrow x hx).2) _ _ (RCells.snoc (RAt.mono (fun x hx => Or.inr hx) j _ hj) l cs (RCells.mono (fun x hx => Or.inl hx) l cs h3)), fun x hx => ?_, fun x hx e => ?_⟩
  · cases hb : kv.ownBlock with
    | none => exact Or.inl rfl
    | some x => exact Or.inr (fun e => h5 x e.symm hb)
  · refine ⟨?_, Nat.lt_of_lt_of_le (hrow x hx).1 hgr.size, fun e => ?_, fun e => ?_⟩
    · rcases hx with hx | hx
      · exact (h4 x hx).1
      · have hx' : lo2 ≤ x ∧ x < hi := hx; omega
    · have e' : g = x := by simpa [Value.ownBlock] using e
      exact hgn x hx e'.symm
    · rcases hx with hx | hx
      · exact (h4 x hx).2.2.2 e
      · have hx' : lo2 ≤ x ∧ x < hi := hx; have := hkv x e; omega
  · have e' : g = x := by simpa [Value.ownBlock] using hx
    subst e'
    rcases hat with hat | hat
    · exact h5 g hat e
    · have := (h2.lt g e).2; omega
/-- Done. -/
theorem JRows.top {lo hi : Nat} {w : World} {l : List Jv} {ks : List Bs} {lv kv : Value} (h : JRows lo w l ks lv kv) (k : Int) (hlo : hi ≤ lo) (hk : IntOk k) (hl : l.length ≤ big) (hks : ks.length ≤ big ∧ ∀ s ∈ ks, s.length ≤ big) : JTop hi w (.mk k 0 [] l ks) (jV k 0 [] lv kv) := by
  obtain ⟨cs, S, h1, h2, h3, h4, h5⟩ := h
  exact ⟨lv, kv, cs, S, rfl, hk, by unfold IntOk; omega, by simp, hl, hks, h1.mono hlo, h2.mono hlo, h3, fun g hg => by obtain ⟨a, b, c, d⟩ := h4 g hg; exact ⟨by omega, b, c, d⟩⟩
end Go.Proofs.YtbifjamddbpcjaaGreatDoor
/- Rows of bytes that are a call's own. -/
namespace Go.Proofs.YtbifjamddbpcjaaGreatDoor
open Go.RowKit

abbrev bC (l : Bs) : List Value := l.map (fun b => Value.int .u8 (b.toNat : Int))
/-- A row of bytes that is the call's own. -/
def BR (lo : Nat) (w : World) (v : Value) (s : Bs) : Prop := w.ownsRow lo 5 1 v s.length (bC s)
theorem info_byteD : (Tryz.prog.info? 5).map (fun i => (i.zero, i.size, i.bytes)) = some (some (.int .u8 0), 1, 1) := by kernel_rfl
theorem bC_one (l : Bs) : ∀ u ∈ bC l, u.oneCell' = true := by
  intro u hu
  obtain ⟨b, _, rfl⟩ := List.mem_map.1 hu
  rfl
theorem BR.fr {lo : Nat} {w w' : World} {v : Value} {s : Bs} (h : BR lo w v s) (f : Fr NoB w w') : BR lo w' v s := f.row h (fun _ _ e => e)
theorem BR.lt {lo : Nat} {w : World} {v : Value} {s : Bs} (h : BR lo w v s) {g : Nat} (hg : v.ownBlock = some g) : lo ≤ g ∧ g < w.heap.size := World.ownsRow.lt h g hg
theorem BR.grown {lo : Nat} {w0 w w' : World} {v : Value} {s : Bs} (h : BR lo w v s) (f : Fr NoB w0 w) (hg : w.grownBy w' v.ownBlock) (hlo : w0.heap.size ≤ lo) : Fr NoB w0 w' :=
  f.grown hg (fun j hj hlt => absurd (h.lt hj).1 (by omega))
theorem BR.sl {lo : Nat} {w : World} {v : Value} {s : Bs} (h : BR lo w v s) (hs : s ≠ []) : ∃ g c, v = .slice (some ⟨g, 0, none⟩) s.length c ∧ lo ≤ g ∧ g < w.heap.size ∧ ∀ (i : Nat) u, (bC s)[i]? = some u → w.cell? ⟨g, i, none⟩ = some u := by
  have hc := @World.ownsRow.cells _ _ _ _ _ _ _ h
  have hlt := fun g hg => h.lt (g := g) hg
  rcases h.2 with ⟨rfl, h0⟩ | ⟨g, cap, cur, rfl, hg, hh, _⟩
  · exact absurd (List.eq_nil_of_length_eq_zero h0) hs
  · refine ⟨g, cap, rfl, hg, lt_of_block hh, fun i u hu => ?_⟩
    have := hc (g := g) rfl i u hu
    rwa [add_at, Nat.zero_add] at this
/-- string(b), of a row of bytes. -/
theorem BR.conv {lo : Nat} {w : World} {v : Value} {s : Bs} (h : BR lo w v s) : (convert 81 9 v).run Tryz.prog w = .ok (.string ⟨s.toArray⟩) w := by
  by_cases hs : s = []
  · subst hs
    rcases h.2 with ⟨rfl, _⟩ | ⟨g, cap, cur, rfl, _⟩
    · exact run_convert_bytes_nil w 81 5 Tryz.underlying81 Tryz.underlying5 0 0 9 Tryz.underlying9
    · exact run_convert_bytes_back (P := Tryz.prog) w 81 9 5 ⟨g, 0, none⟩ cap [] Tryz.underlying81 Tryz.underlying5 Tryz.underlying9 (fun j hj => by simp at hj)
  · obtain ⟨g, c, rfl, _, _, hc⟩ := h.sl hs
    refine run_convert_bytes_back (P := Tryz.prog) w 81 9 5 ⟨g, 0, none⟩ c s Tryz.underlying81 Tryz.underlying5 Tryz.underlying9 (fun j hj => ?_)
    rw [add_at, Nat.zero_add]
    exact hc j _ (by simp [hj])
theorem br_str {ops : Array Oper} {rest : List Oper} {o : Oper} {a : Act} {Q : Exit → Act → World → Prop} {w : World} (hgd : o.guard = none) (sl x : Operand)
    (ho : o.op = .call { callee := .builtin .append, args := #[sl, x], argTypes := #[81, 9] }) (lo : Nat) (v : Value) (s : Bs) (hs : a.eval sl = v) (hown : BR lo w v s) (t : Bs) (hx : a.eval x = .string ⟨t.toArray⟩)
    (hsz : s.length + t.length ≤ 140737488355328) (hlo : lo ≤ w.heap.size) (h : ∀ v' w', BR lo w' v' (s ++ t) → w.grownBy w' v.ownBlock → wpList Tryz.prog ops Q rest (a.put o.dst v') w') : wpList Tryz.prog ops Q (o :: rest) a w := by
  obtain ⟨i0, hi0, hz0, hz1, hz2⟩ := info_parts info_byteD
  have hts : (⟨t.toArray⟩ : ByteArray).size = t.length := by show t.toArray.size = _; simp
  have hsc : Lib.strCells ⟨t.toArray⟩ = bC t := rfl
  refine Lib.wpList_append_own_string w hgd sl x 81 9 ho lo 5 i0 Tryz.underlying81 Tryz.underlying9 hi0 hz0 hz1 hz2 v s.length (bC s) hs hown ⟨t.toArray⟩ hx (by rw [hts]; unfold maxLen; omega) (by rw [hts]; exact hsz) hlo (fun v' w' h1 h2 _ => h v' w' ?_ h2)
  unfold BR
  rw [hts, hsc] at h1
  simpa using h1
theorem br_row {ops : Array Oper} {rest : List Oper} {o : Oper} {a : Act} {Q : Exit → Act → World → Prop} {w : World} (hgd : o.guard = none) (sl x : Operand)
    (ho : o.op = .call { callee := .builtin .append, args := #[sl, x], argTypes := #[81, 81] }) (lo : Nat) (v : Value) (s : Bs) (hs : a.eval sl = v) (hown : BR lo w v s) (g m c : Nat) (t : Bs) (hx : a.eval x = .slice (some ⟨g, 0, none⟩) m c) (hm : t.length = m)
    (hc : ∀ (i : Nat) u, (bC t)[i]? = some u → w.cell? ⟨g, i, none⟩ = some u)
    (hsz : s.length + t.length ≤ 140737488355328) (hlo : lo ≤ w.heap.size) (h : ∀ v' w', BR lo w' v' (s ++ t) → w.grownBy w' v.ownBlock → wpList Tryz.prog ops Q rest (a.put o.dst v') w') : wpList Tryz.prog ops Q (o :: rest) a w := by
  obtain ⟨i0, hi0, hz0, hz1, hz2⟩ := info_parts info_byteD
  subst hm
  refine wpList_append_own w hgd sl x 81 ho lo 5 i0 (.int .u8 0) 1 1 Tryz.underlying81 hi0 hz0 hz1 hz2 rfl (by decide) v s.length (bC s) hs hown ⟨g, 0, none⟩ t.length c (bC t) hx (by simp) (fun j u hu => by rw [add_at, Nat.zero_add]; exact hc j u hu) (bC_one t) (by unfold maxLen; omega) (by omega) hlo (fun v' w' h1 h2 _ => h v' w' ?_ h2)
  unfold BR
  simpa using h1
/-- The cells of bytes that have just been laid. -/
theorem new_cells (w : World) (C : Array Value) (t : Bs) (h : C.toList = bC t) : ∀ (i : Nat) u, (bC t)[i]? = some u → (w.alloc (.cells C 5)).cell? ⟨w.heap.size, i, none⟩ = some u := by
  intro i u hu
  rw [World.cell?_alloc_mark, ← Array.getElem?_toList, h]
  exact hu
theorem BR.first (w : World) (C : Array Value) (t : Bs) (h : C.toList = bC t) (hl : t.length ≤ maxLen) : BR w.heap.size (w.alloc (.cells C 5)) (.slice (some ⟨w.heap.size, 0, none⟩) t.length t.length) t := by
  have hs : C.size = t.length := by rw [← Array.length_toList, h]; simp
  exact ⟨by simp, Or.inr ⟨_, _, C, rfl, Nat.le_refl _, heap_alloc_new w _, Nat.le_refl _, hl, by rw [hs]; omega, by rw [h, Nat.mul_one]; exact List.take_of_length_le (by simp)⟩⟩
end Go.Proofs.YtbifjamddbpcjaaGreatDoor
/- copy into a row, by the row's cells: from a row, from a text. -/
namespace Go.Proofs.YtbifjamddbpcjaaGreatDoor
open Go.RowKit

theorem step_copy_blk {ops : Array Oper} {o : Oper} {a : Act} {w : World} {K : Act → World → Prop} {Q : Exit → Act → World → Prop} {E : Prop} (hgd : o.guard = none) (d s : Operand) (dT sT : TypeId)
    (ho : o.op = .call { callee := .builtin .copy, args := #[d, s], argTypes := #[dT, sT] }) (elem : TypeId) (hu : Tryz.prog.underlying dT = some (.slice elem)) (hsz : (Tryz.prog.info? elem).map (·.size) = some 1)
    (g off dLen dCap : Nat) (ad : Addr) (sLen sCap : Nat) (hd : a.eval d = .slice (some ⟨g, off, none⟩) dLen dCap) (hs : a.eval s = .slice (some ad) sLen sCap)
    (cur : Array Value) (t : TypeId) (hg : Blk w g t cur) (cs : List Value) (hn : cs.length = Nat.min sLen dLen)
    (hsrc : ∀ j v, cs[j]? = some v → w.cell? (ad.add j) = some v) (hfit : off + cs.length ≤ cur.size) (h1 : ∀ v ∈ cs, v.oneCell' = true)
    (new : Array Value) (hnew : (cur.toList.take off ++ cs ++ cur.toList.drop (off + cs.length)).toArray = new) (hKK : ∀ w', Blk w' g t new → Fr (Only g) w w' → K (a.put o.dst (goInt cs.length)) w') :
    if Region.wanted o (yielded ops a.tmps) = true then Oper.wp Tryz.prog o a w K Q else E := by
  have hw : Region.wanted o (yielded ops a.tmps) = true := by simp [Region.wanted, hgd]
  have hK := hKK (w.setRow g new) (hg.setRow new) (Fr.rowO w g new)
  subst hnew
  rw [if_pos hw]
  have hrun := run_copy_row (P := Tryz.prog) w dT sT o.type elem g off dLen dCap ad sLen sCap cur t cs hu hsz hg hn hsrc hfit h1
  unfold Oper.wp
  simp [execOp, ho, resolve, invoke, builtin, hd, hs, hrun, Result.andThen]
  simp only [List.append_assoc] at hK
  exact hK
theorem run_copy_str (w : World) (dT sT ty elem : TypeId) (g o dLen dCap : Nat) (s : Bs) (n : Nat) (cur : Array Value) (t : TypeId)
    (hu : Tryz.prog.underlying dT = some (.slice elem)) (hs : (Tryz.prog.info? elem).map (·.size) = some 1)
    (hg : Blk w g t cur) (hn : n = Nat.min s.length dLen) (hfit : o + n ≤ cur.size) :
    (Builtin.copy_ #[dT, sT] ty #[.slice (some ⟨g, o, none⟩) dLen dCap, .string ⟨s.toArray⟩]).run Tryz.prog w =
      .ok (goInt n) (w.setRow g (cur.toList.take o ++ bC (s.take n) ++ cur.toList.drop (o + n)).toArray) := by
  have hl : (bC (s.take n)).length = n := by simp; rw [hn]; exact Nat.min_eq_left (Nat.min_le_left _ _)
  have hst := run_storeCells_at Tryz.prog g o t (bC (s.take n)) 0 cur w hg (by rw [hl]; simpa using hfit) (bC_one _)
  rw [hl] at hst
  cases hq : Tryz.prog.info? elem with
  | none => simp [hq] at hs
  | some i =>
    have hi : i.size = 1 := by simpa [hq] using hs
    have hz : (⟨s.toArray⟩ : ByteArray).size = s.length := by show s.toArray.size = _; simp
    simp [Builtin.copy_, run_underlying hu, Builtin.lenOf, Builtin.firstCells, sizeOf, typeInfo, hq, hz, ← hn]
    rw [show bC (s.take n) = (s.map (fun b => Value.int IntKind.u8 (b.toNat : Int))).take n from List.map_take] at hst
    rw [hst]
    simp
theorem step_copy_str {ops : Array Oper} {o : Oper} {a : Act} {w : World} {K : Act → World → Prop} {Q : Exit → Act → World → Prop} {E : Prop} (hgd : o.guard = none) (d s : Operand) (dT sT : TypeId)
    (ho : o.op = .call { callee := .builtin .copy, args := #[d, s], argTypes := #[dT, sT] }) (elem : TypeId) (hu : Tryz.prog.underlying dT = some (.slice elem)) (hsz : (Tryz.prog.info? elem).map (·.size) = some 1)
    (g off dLen dCap : Nat) (t8 : Bs) (hd : a.eval d = .slice (some ⟨g, off, none⟩) dLen dCap) (hs : a.eval s = .string ⟨t8.toArray⟩)
    (cur : Array Value) (t : TypeId) (hg : Blk w g t cur) (n : Nat) (hn : n = Nat.min t8.length dLen) (hfit : off + n ≤ cur.size)
    (new : Array Value) (hnew : (cur.toList.take off ++ bC (t8.take n) ++ cur.toList.drop (off + n)).toArray = new) (hKK : ∀ w', Blk w' g t new → Fr (Only g) w w' → K (a.put o.dst (goInt n)) w') :
    if Region.wanted o (yielded ops a.tmps) = true then Oper.wp Tryz.prog o a w K Q else E := by
  have hw : Region.wanted o (yielded ops a.tmps) = true := by simp [Region.wanted, hgd]
  have hK := hKK (w.setRow g new) (hg.setRow new) (Fr.rowO w g new)
  subst hnew
  rw [if_pos hw]
  have hrun := run_copy_str w dT sT o.type elem g off dLen dCap t8 n cur t hu hsz hg hn hfit
  unfold Oper.wp
  simp only [execOp, ho, resolve, invoke, builtin, Sem.run_bind, Sem.run_pure, Result.andThen_ok, List.map_toArray, List.map_cons, List.map_nil, hd, hs, hrun]
  exact hK
end Go.Proofs.YtbifjamddbpcjaaGreatDoor
