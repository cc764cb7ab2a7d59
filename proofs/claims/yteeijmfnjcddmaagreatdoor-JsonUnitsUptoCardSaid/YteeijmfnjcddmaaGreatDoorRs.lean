/- JSON, the document's side: Same, at two values that read as one. -/
import Derived.Test.YteeijmfnjcddmaaGreatDoorMe
import Derived.StillTailTactics
namespace Go.Proofs.YteeijmfnjcddmaaGreatDoor
open Go.RowKit

/-- What Same has to do, at two values that read as one. -/
def SM (j : Jv) : Prop := ∀ (va vb : Value) (w : World), RAt (All w) w j va → RAt (All w) w j vb → Calls Tryz.prog 19 #[va, vb] w fun e w' => e = .returned (.bool true) ∧ Fr NoB w w'

set_option maxRecDepth 100000 in
set_option maxHeartbeats 6400000 in
theorem same_mk (k i : Int) (t : Bs) (l : List Jv) (ks : List Bs) (la lb ka kb : Option Addr) (c1 c2 c3 c4 : Nat) (w : World) (hll : l.length ≤ big) (hkl : ks.length ≤ big)
    (hka : InMem (All w) w (.slice ka ks.length c3) ks.length (ks.map sV)) (hkb : InMem (All w) w (.slice kb ks.length c4) ks.length (ks.map sV))
    (cs ds : List Value) (hcs : RCells (All w) w l cs) (hds : RCells (All w) w l ds) (hla : InMem (All w) w (.slice la l.length c1) l.length cs) (hlb : InMem (All w) w (.slice lb l.length c2) l.length ds) (hIH : ∀ x ∈ l, SM x) :
    Calls Tryz.prog 19 #[jV k i t (.slice la l.length c1) (.slice ka ks.length c3), jV k i t (.slice lb l.length c2) (.slice kb ks.length c4)] w fun e w' => e = .returned (.bool true) ∧ Fr NoB w w' := by
  unfold big at hll hkl
  have f0 : Fr NoB w ((w.alloc (.cells #[.int .i64 k, .int .i64 i, .string ⟨t.toArray⟩, .slice la l.length c1, .slice ka ks.length c3] 25)).alloc (.cells #[.int .i64 k, .int .i64 i, .string ⟨t.toArray⟩, .slice lb l.length c2, .slice kb ks.length c4] 25)) := ((Fr.refl _ _).alloc _).alloc _
  have gA : Blk ((w.alloc (.cells #[.int .i64 k, .int .i64 i, .string ⟨t.toArray⟩, .slice la l.length c1, .slice ka ks.length c3] 25)).alloc (.cells #[.int .i64 k, .int .i64 i, .string ⟨t.toArray⟩, .slice lb l.length c2, .slice kb ks.length c4] 25)) w.heap.size 25 #[.int .i64 k, .int .i64 i, .string ⟨t.toArray⟩, .slice la l.length c1, .slice ka ks.length c3] := (Blk.new w 25 _).alloc _
  have gB : Blk ((w.alloc (.cells #[.int .i64 k, .int .i64 i, .string ⟨t.toArray⟩, .slice la l.length c1, .slice ka ks.length c3] 25)).alloc (.cells #[.int .i64 k, .int .i64 i, .string ⟨t.toArray⟩, .slice lb l.length c2, .slice kb ks.length c4] 25)) (w.heap.size + 1) 25 #[.int .i64 k, .int .i64 i, .string ⟨t.toArray⟩, .slice lb l.length c2, .slice kb ks.length c4] := by
    have := Blk.new (w.alloc (.cells #[.int .i64 k, .int .i64 i, .string ⟨t.toArray⟩, .slice la l.length c1, .slice ka ks.length c3] 25)) 25 #[.int .i64 k, .int .i64 i, .string ⟨t.toArray⟩, .slice lb l.length c2, .slice kb ks.length c4]
    simpa using this
  generalize hW : (w.alloc (.cells #[.int .i64 k, .int .i64 i, .string ⟨t.toArray⟩, .slice la l.length c1, .slice ka ks.length c3] 25)).alloc (.cells #[.int .i64 k, .int .i64 i, .string ⟨t.toArray⟩, .slice lb l.length c2, .slice kb ks.length c4] 25) = W at f0 gA gB
  have HW := Lib.hid hW
  have HBX : Hid (∀ u, Fr NoB W u → u.cell? ⟨w.heap.size, 3, none⟩ = some (.slice la l.length c1) ∧ u.cell? ⟨w.heap.size, 4, none⟩ = some (.slice ka ks.length c3) ∧ u.cell? ⟨w.heap.size + 1, 3, none⟩ = some (.slice lb l.length c2) ∧ u.cell? ⟨w.heap.size + 1, 4, none⟩ = some (.slice kb ks.length c4)) := Lib.hid (fun u f => by
    have a := f.blk gA (fun e => e)
    have b := f.blk gB (fun e => e)
    exact ⟨(a.cell 3).trans rfl, (a.cell 4).trans rfl, (b.cell 3).trans rfl, (b.cell 4).trans rfl⟩)
  have a0 : W.cell? ⟨w.heap.size, 0, none⟩ = some (.int .i64 k) := (gA.cell 0).trans rfl
  have a1 : W.cell? ⟨w.heap.size, 1, none⟩ = some (.int .i64 i) := (gA.cell 1).trans rfl
  have a2 : W.cell? ⟨w.heap.size, 2, none⟩ = some (.string ⟨t.toArray⟩) := (gA.cell 2).trans rfl
  have a3 : W.cell? ⟨w.heap.size, 3, none⟩ = some (.slice la l.length c1) := (gA.cell 3).trans rfl
  have a4 : W.cell? ⟨w.heap.size, 4, none⟩ = some (.slice ka ks.length c3) := (gA.cell 4).trans rfl
  have b0 : W.cell? ⟨w.heap.size + 1, 0, none⟩ = some (.int .i64 k) := (gB.cell 0).trans rfl
  have b1 : W.cell? ⟨w.heap.size + 1, 1, none⟩ = some (.int .i64 i) := (gB.cell 1).trans rfl
  have b2 : W.cell? ⟨w.heap.size + 1, 2, none⟩ = some (.string ⟨t.toArray⟩) := (gB.cell 2).trans rfl
  have b3 : W.cell? ⟨w.heap.size + 1, 3, none⟩ = some (.slice lb l.length c2) := (gB.cell 3).trans rfl
  have b4 : W.cell? ⟨w.heap.size + 1, 4, none⟩ = some (.slice kb ks.length c4) := (gB.cell 4).trans rfl
  have HA := Lib.hid (And.intro hka hkb)
  have HL := Lib.hid (And.intro (And.intro hcs hla) (And.intro hds hlb))
  have HIH := Lib.hid hIH
  clear hW hka hkb hcs hds hla hlb hIH gA gB
  go_enter Tryz.func19, Tryz.ntmps19
  go_wp2_with (rw [HW.out])
  clear a0 a1 a2 a3 a4 b0 b1 b2 b3 b4
  go_loopw [5] (fun v wr => ∃ m : Nat, m ≤ ks.length ∧ v = .int .i64 m ∧ Fr NoB W wr) (fun v _ => ks.length - (intOf v).toNat)
  case atStart => exact ⟨0, Nat.zero_le _, rfl, Fr.refl _ _⟩
  case round =>
    obtain ⟨m, hm, rfl, hf⟩ := hrel
    obtain ⟨x3, x4, y3, y4⟩ := HBX.out wr hf
    by_cases hlt : m < ks.length
    · obtain ⟨ga, oa, rfl, ha⟩ := HA.out.1.at_ (f0.trans hf) (by omega)
      obtain ⟨gb, ob, rfl, hb⟩ := HA.out.2.at_ (f0.trans hf) (by omega)
      have da := ha m (sV ks[m]) (by simp [hlt])
      have db := hb m (sV ks[m]) (by simp [hlt])
      generalize ks[m] = q at da db
      clear ha hb
      have i1 : (0 : Int) ≤ m := by omega
      have i2 : (m : Int) < ks.length := by omega
      go_wp2_with fail
      go_quiet (fail)
      go_wp2_with fail
      go_roundw
      case rel => exact ⟨m + 1, by omega, by simp, hf.drewN _⟩
      case measure => simp [intOf]; omega
    · obtain rfl : m = ks.length := by omega
      go_wp2_with fail
      go_loopw [6] (fun v wr => ∃ m : Nat, m ≤ l.length ∧ v = .int .i64 m ∧ Fr NoB W wr) (fun v _ => l.length - (intOf v).toNat)
      case atStart => exact ⟨0, Nat.zero_le _, rfl, hf⟩
      case round =>
        obtain ⟨m, hm, rfl, hf⟩ := hrel
        obtain ⟨x3, x4, y3, y4⟩ := HBX.out _ hf
        by_cases hlt : m < l.length
        · obtain ⟨⟨hcs, hla⟩, ⟨hds, hlb⟩⟩ := HL.out
          obtain ⟨ga, oa, rfl, ha⟩ := hla.at_ (f0.trans hf) (by omega)
          obtain ⟨gb, ob, rfl, hb⟩ := hlb.at_ (f0.trans hf) (by omega)
          obtain ⟨v0, v1, v2, v3, v4, p0, p1, p2, p3, p4, hat⟩ := RCells.get l cs m hlt hcs
          obtain ⟨u0, u1, u2, u3, u4, q0, q1, q2, q3, q4, hbt⟩ := RCells.get l ds m hlt hds
          have d0 : wr.cell? ⟨ga, oa + m * 5, none⟩ = some v0 := ha _ _ p0
          have d1 : wr.cell? ⟨ga, oa + m * 5 + 1, none⟩ = some v1 := ha _ _ p1
          have d2 : wr.cell? ⟨ga, oa + m * 5 + 2, none⟩ = some v2 := ha _ _ p2
          have d3 : wr.cell? ⟨ga, oa + m * 5 + 3, none⟩ = some v3 := ha _ _ p3
          have d4 : wr.cell? ⟨ga, oa + m * 5 + 4, none⟩ = some v4 := ha _ _ p4
          have e0 : wr.cell? ⟨gb, ob + m * 5, none⟩ = some u0 := hb _ _ q0
          have e1 : wr.cell? ⟨gb, ob + m * 5 + 1, none⟩ = some u1 := hb _ _ q1
          have e2 : wr.cell? ⟨gb, ob + m * 5 + 2, none⟩ = some u2 := hb _ _ q2
          have e3 : wr.cell? ⟨gb, ob + m * 5 + 3, none⟩ = some u3 := hb _ _ q3
          have e4 : wr.cell? ⟨gb, ob + m * 5 + 4, none⟩ = some u4 := hb _ _ q4
          have i1 : (0 : Int) ≤ m := by omega
          have i2 : (m : Int) < l.length := by omega
          clear ha hb
          go_wp2_with fail
          go_still_tail 10, (by kernel_rfl)
          have fD : Fr NoB W wr.drew := hf.drew
          have HC := Lib.hid (HIH.out l[m] (List.getElem_mem hlt) _ _ wr.drew (hat.all (f0.trans fD)) (hbt.all (f0.trans fD)))
          clear hat hbt p0 p1 p2 p3 p4 q0 q1 q2 q3 q4 hcs hds hla hlb
          go_wp2_with (go_at_call 19; ((with_reducible refine HC.out.mono ?_); rintro e w2 ⟨rfl, f2⟩))
          go_roundw
          case rel => exact ⟨m + 1, by omega, by simp, fD.trans f2⟩
          case measure => simp [intOf]; omega
        · obtain rfl : m = l.length := by omega
          go_wp2_with fail
          go_ret
          exact ⟨rfl, f0.trans hf⟩
mutual
theorem SM_all : ∀ j : Jv, SM j
  | .mk k i t l ks => by
    intro va vb w ha hb
    simp only [RAt] at ha hb
    obtain ⟨lv, kv, rfl, hk, hi, ht, hks, hl, cs, hcs, hlm⟩ := ha
    obtain ⟨lv', kv', rfl, _, _, _, hks', _, ds, hds, hlm'⟩ := hb
    obtain ⟨la, lc, rfl⟩ := hlm.sl
    obtain ⟨lb, lc', rfl⟩ := hlm'.sl
    obtain ⟨ka, kc, rfl⟩ := hks.1.sl
    obtain ⟨kb, kc', rfl⟩ := hks'.1.sl
    exact same_mk k i t l ks la lb ka kb lc lc' kc kc' w hl hks.2.1 hks.1 hks'.1 cs ds hcs hds hlm hlm' (SMs_all l)
theorem SMs_all : ∀ (l : List Jv), ∀ x ∈ l, SM x
  | [], x, hx => absurd hx (by simp)
  | j :: r, x, hx => by
    cases hx with
    | head => exact SM_all j
    | tail _ h => exact SMs_all r x h
end
/-- Same, at two values that read as one. -/
theorem same_any (j : Jv) (va vb : Value) (w : World) (ha : RAt (All w) w j va) (hb : RAt (All w) w j vb) : Calls Tryz.prog 19 #[va, vb] w fun e w' => e = .returned (.bool true) ∧ Fr NoB w w' := SM_all j va vb w ha hb
end Go.Proofs.YteeijmfnjcddmaaGreatDoor
/- JSON: what Parse hands back, in one shape; values laid into variables. -/
namespace Go.Proofs.YteeijmfnjcddmaaGreatDoor
open Go.RowKit

/-- The error's number of what was read. -/
def errP : Except Nat Jv → Nat | .ok _ => 0 | .error n => n
/-- The value of what was read. -/
def valP : Except Nat Jv → Jv | .ok j => j | .error _ => Jv.nul
/-- What Parse hands back, in one shape. -/
def ParO (q : Except Nat Jv) (w : World) (e : Ending) (w' : World) : Prop := ∃ v, e = .returned (.tuple #[v, .int .i64 (errP q : Int)]) ∧ RAt (All w') w' (valP q) v ∧ Fr NoB w w'

theorem RAt.form {S : Nat → Prop} {w : World} {j : Jv} {v : Value} (h : RAt S w j v) : ∃ v0 v1 v2 v3 v4, v = .agg #[v0, v1, v2, v3, v4] ∧ (#[v0, v1, v2, v3, v4].all (·.oneCell')) = true := by
  cases j with
  | mk k i t l ks =>
    have h0 := h
    simp only [RAt] at h
    obtain ⟨lv, kv, rfl, _⟩ := h
    exact ⟨_, _, _, _, _, rfl, all_one h0.one⟩
/-- A value that a call has handed back, laid into a variable of its own. -/
theorem put_row (u : World) (v0 v1 v2 v3 v4 : Value) : Fr NoB u ((u.alloc (.cells zj 25)).setRow u.heap.size #[v0, v1, v2, v3, v4]) ∧ Blk ((u.alloc (.cells zj 25)).setRow u.heap.size #[v0, v1, v2, v3, v4]) u.heap.size 25 #[v0, v1, v2, v3, v4] :=
  ⟨((Fr.refl NoB u).alloc _).setRow u.heap.size _ (Or.inl (Nat.le_refl _)), (Blk.new u 25 zj).setRow _⟩
theorem Blk.five {w : World} {g : Nat} {v0 v1 v2 v3 v4 : Value} (h : Blk w g 25 #[v0, v1, v2, v3, v4]) : w.cell? ⟨g, 0, none⟩ = some v0 ∧ w.cell? ⟨g, 1, none⟩ = some v1 ∧ w.cell? ⟨g, 2, none⟩ = some v2 ∧ w.cell? ⟨g, 3, none⟩ = some v3 ∧ w.cell? ⟨g, 4, none⟩ = some v4 :=
  ⟨(h.cell 0).trans rfl, (h.cell 1).trans rfl, (h.cell 2).trans rfl, (h.cell 3).trans rfl, (h.cell 4).trans rfl⟩
theorem own_strs {w : World} {lo : Nat} {v : Value} {ks : List Bs} (h : w.ownsRow lo 9 1 v ks.length (ks.map sV)) (h1 : ks.length ≤ big) (h2 : ∀ s ∈ ks, s.length ≤ big) : RStrs (All w) w ks v :=
  ⟨(InMem.own h).mono (fun _ hg => hg.2), h1, h2⟩
theorem RStrs.all {w u : World} {ks : List Bs} {v : Value} (h : RStrs (All w) w ks v) (f : Fr NoB w u) : RStrs (All u) u ks v :=
  RStrs.mono (RStrs.fr h (fun g hg => f.block g hg (fun e => e))) (fun _ hg => Nat.lt_of_lt_of_le hg f.size)
end Go.Proofs.YteeijmfnjcddmaaGreatDoor
