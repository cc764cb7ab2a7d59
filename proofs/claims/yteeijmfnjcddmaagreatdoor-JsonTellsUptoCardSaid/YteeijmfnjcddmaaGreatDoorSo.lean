/- JSON, plain: what the document's Sorted chooses: the least key behind the last one. -/
import Derived.Test.YteeijmfnjcddmaaGreatDoorPs
import Derived.Test.YteeijmfnjcddmaaGreatDoorTr
import Derived.Test.YteeijmfnjcddmaaGreatDoorTn
import Derived.Deep.RegionLaw
import Derived.Test.YteeijmfnjcddmaaGreatDoorRs
namespace Go.Proofs.YteeijmfnjcddmaaGreatDoor

theorem bs_lt_of {a b : Bs} (h : a ≤ b) (hn : a ≠ b) : a < b := by
  rcases Classical.em (a < b) with h1 | h1
  · exact h1
  · exact absurd (List.le_antisymm h (List.not_lt.1 h1)) hn
theorem keys_strict {l : List Jv} {ks : List Bs} (hl : ks.length = l.length) (hn : ks.Nodup) : (keysS l ks).Pairwise (· < ·) := by
  have h1 := keysS_sorted l ks
  have h2 : (keysS l ks).Pairwise (· ≠ ·) := (keysS_perm hl).nodup_iff.2 hn
  exact (h1.and h2).imp (fun h => bs_lt_of h.1 h.2)
/-- The values in the order of their keys, themselves as they are. -/
def valsO (l : List Jv) (ks : List Bs) : List Jv := (orderP true ks l.length).map (fun p => l.getD p Jv.nul)
theorem valsO_len (l : List Jv) (ks : List Bs) : (valsO l ks).length = l.length := by simp [valsO, orderP_len]
theorem valsO_mem {l : List Jv} {ks : List Bs} {x : Jv} (h : x ∈ valsO l ks) : x ∈ l := by
  obtain ⟨p, hp, rfl⟩ := List.mem_map.1 h
  have := orderP_lt hp
  simp [List.getD, this]
theorem valsO_sort (l : List Jv) (ks : List Bs) : (valsO l ks).map sortJ = valsS l ks := by
  unfold valsO valsS
  rw [List.map_map]
  apply List.map_congr_left
  intro p hp
  have := orderP_lt hp
  simp [sortsJ_eq, List.getD, this]
/-- The place of the m-th member. -/
def plc (l : List Jv) (ks : List Bs) (m : Nat) : Nat := (orderP true ks l.length).getD m 0
theorem plc_lt {l : List Jv} {ks : List Bs} {m : Nat} (h : m < l.length) : plc l ks m < l.length := by
  have ho : m < (orderP true ks l.length).length := by rw [orderP_len]; exact h
  unfold plc
  rw [List.getD_eq_getElem?_getD, List.getElem?_eq_getElem ho]
  exact orderP_lt (List.getElem_mem ho)
theorem keysS_at {l : List Jv} {ks : List Bs} {m : Nat} (h : m < l.length) (hm : m < (keysS l ks).length) : (keysS l ks)[m] = keyAt ks (plc l ks m) := by
  have ho : m < (orderP true ks l.length).length := by rw [orderP_len]; exact h
  unfold keysS plc
  rw [List.getD_eq_getElem?_getD, List.getElem?_eq_getElem ho]
  exact List.getElem_map ..
theorem valsO_at {l : List Jv} {ks : List Bs} {m : Nat} (h : m < l.length) (hm : m < (valsO l ks).length) : (valsO l ks)[m] = l[plc l ks m]'(plc_lt h) := by
  have ho : m < (orderP true ks l.length).length := by rw [orderP_len]; exact h
  have hp := plc_lt (ks := ks) h
  unfold plc at hp
  unfold valsO plc
  simp only [List.getD_eq_getElem?_getD, List.getElem?_eq_getElem ho, Option.getD_some] at hp ⊢
  simp [hp]
/-- A key behind those that were told. -/
def beh (l : List Jv) (ks : List Bs) (m p : Nat) : Prop := m = 0 ∨ keyAt (keysS l ks) (m - 1) < keyAt ks p
theorem keyAt_S {l : List Jv} {ks : List Bs} {m : Nat} (h : m < l.length) : keyAt (keysS l ks) m = keyAt ks (plc l ks m) := by
  have hm : m < (keysS l ks).length := by rw [keysS_len]; exact h
  rw [← keysS_at h hm]
  simp [keyAt, List.getD, hm]
theorem keyAt_mono {l : List Jv} {ks : List Bs} (hl : ks.length = l.length) (hn : ks.Nodup) {a b : Nat} (h : a < b) (hb : b < l.length) : keyAt (keysS l ks) a < keyAt (keysS l ks) b := by
  have h1 := List.pairwise_iff_getElem.1 (keys_strict hl hn) a b (by rw [keysS_len]; omega) (by rw [keysS_len]; omega) h
  simpa [keyAt, List.getD, keysS_len, show a < l.length by omega, hb] using h1
theorem beh_here {l : List Jv} {ks : List Bs} (hl : ks.length = l.length) (hn : ks.Nodup) {m : Nat} (h : m < l.length) : beh l ks m (plc l ks m) := by
  by_cases h0 : m = 0
  · exact Or.inl h0
  · right
    rw [← keyAt_S h]
    exact keyAt_mono hl hn (by omega) h
theorem bs_lt_trans {a b c : Bs} (h1 : a < b) (h2 : b < c) : a < c := List.lt_trans h1 h2
/-- What is chosen. -/
theorem sel {l : List Jv} {ks : List Bs} (hl : ks.length = l.length) (hn : ks.Nodup) {m q : Nat} (hm : m < l.length) (hq : q < l.length) (hb : beh l ks m q) (hmin : ∀ p, p < l.length → beh l ks m p → ¬ keyAt ks p < keyAt ks q) : plc l ks m = q := by
  have h1 := hmin _ (plc_lt hm) (beh_here hl hn hm)
  have hmem : q ∈ orderP true ks l.length := (orderP_perm true ks l.length).mem_iff.2 (List.mem_range.2 hq)
  obtain ⟨i, hi, hiq⟩ := List.getElem_of_mem hmem
  rw [orderP_len] at hi
  have hpi : plc l ks i = q := by
    have ho : i < (orderP true ks l.length).length := by rw [orderP_len]; exact hi
    unfold plc
    rw [List.getD_eq_getElem?_getD, List.getElem?_eq_getElem ho]
    exact hiq
  have him : m ≤ i := by
    rcases hb with h0 | hb
    · omega
    · rcases Nat.lt_or_ge i m with hlt | hge
      · exfalso
        rw [← hpi, ← keyAt_S hi] at hb
        rcases Nat.lt_or_ge i (m - 1) with h2 | h2
        · exact List.lt_irrefl _ (bs_lt_trans hb (keyAt_mono hl hn h2 (by omega)))
        · have : i = m - 1 := by omega
          rw [this] at hb
          exact List.lt_irrefl _ hb
      · exact hge
  rcases Nat.lt_or_ge m i with hlt | hge
  · exfalso
    apply h1
    rw [← hpi, ← keyAt_S hi, ← keyAt_S hm]
    exact keyAt_mono hl hn hlt hi
  · have : m = i := by omega
    rw [this]; exact hpi
end Go.Proofs.YteeijmfnjcddmaaGreatDoor
/- JSON, the document's side: Sorted. -/
namespace Go.Proofs.YteeijmfnjcddmaaGreatDoor
open Go.RowKit

/-- How long the slice in a cell is. -/
def lenAt (w : World) (a : Addr) : Nat := match w.cell? a with | some (.slice _ n _) => n | _ => 0
/-- What Sorted's inner loop has chosen among the first places. -/
def Least (l : List Jv) (ks : List Bs) (m p : Nat) (z : Int) : Prop := (z < 0 ∧ ∀ x, x < p → ¬ beh l ks m x) ∨ ∃ q : Nat, q < p ∧ z = q ∧ beh l ks m q ∧ ∀ x, x < p → beh l ks m x → ¬ keyAt ks x < keyAt ks q

theorem bless : ∀ a b : Bs, Op.bytesLess a b = decide (a < b)
  | _, [] => by simp [Op.bytesLess]
  | [], b :: y => by simp [Op.bytesLess]
  | a :: x, b :: y => by
    rw [Op.bytesLess, bless x y]
    by_cases h : a < b
    · simp [h, List.cons_lt_cons_iff]
    · by_cases he : a = b
      · subst he
        simp
      · simp [h, he, List.cons_lt_cons_iff]
theorem least_new {l : List Jv} {ks : List Bs} {m p : Nat} {z : Int} (h : Least l ks m p z) (hb : beh l ks m p) (hz : z < 0 ∨ ∃ q : Nat, z = q ∧ keyAt ks p < keyAt ks q) : Least l ks m (p + 1) p := by
  refine Or.inr ⟨p, by omega, rfl, hb, fun x hx hbx hlt => ?_⟩
  rcases Nat.lt_or_ge x p with hxp | hxp
  · rcases h with ⟨_, h⟩ | ⟨q, _, hq, _, h⟩
    · exact h x hxp hbx
    · rcases hz with hz | ⟨q', hq', hz⟩
      · omega
      · have : q = q' := by omega
        subst this
        exact h x hxp hbx (bs_lt_trans hlt hz)
  · have : x = p := by omega
    subst this
    exact List.lt_irrefl _ hlt
theorem least_no {l : List Jv} {ks : List Bs} {m p : Nat} {z : Int} (h : Least l ks m p z) (hb : ¬ beh l ks m p) : Least l ks m (p + 1) z := by
  rcases h with ⟨hz, h⟩ | ⟨q, hq, hz, hbq, h⟩
  · refine Or.inl ⟨hz, fun x hx hbx => ?_⟩
    rcases Nat.lt_or_ge x p with hxp | hxp
    · exact h x hxp hbx
    · have : x = p := by omega
      subst this; exact hb hbx
  · refine Or.inr ⟨q, by omega, hz, hbq, fun x hx hbx => ?_⟩
    rcases Nat.lt_or_ge x p with hxp | hxp
    · exact h x hxp hbx
    · have : x = p := by omega
      subst this; exact absurd hbx hb
theorem least_keep {l : List Jv} {ks : List Bs} {m p q : Nat} (h : Least l ks m p q) (hlt : ¬ keyAt ks p < keyAt ks q) : Least l ks m (p + 1) q := by
  rcases h with ⟨hz, h⟩ | ⟨q', hq, hz, hbq, h⟩
  · omega
  · have : q = q' := by omega
    subst this
    refine Or.inr ⟨q, by omega, rfl, hbq, fun x hx hbx => ?_⟩
    rcases Nat.lt_or_ge x p with hxp | hxp
    · exact h x hxp hbx
    · have : x = p := by omega
      subst this; exact hlt
theorem least_end {l : List Jv} {ks : List Bs} (hl : ks.length = l.length) (hn : ks.Nodup) {m : Nat} {z : Int} (hm : m < l.length) (h : Least l ks m l.length z) : z = (plc l ks m : Int) := by
  rcases h with ⟨_, h⟩ | ⟨q, hq, hz, hbq, h⟩
  · exact absurd (beh_here hl hn hm) (h _ (plc_lt hm))
  · rw [hz, sel hl hn hm hq hbq h]

def behB (l : List Jv) (ks : List Bs) (m p : Nat) : Bool := decide (m = 0) || decide (keyAt (keysS l ks) (m - 1) < keyAt ks p)
theorem behB_iff {l : List Jv} {ks : List Bs} {m p : Nat} : behB l ks m p = true ↔ beh l ks m p := by simp [behB, beh]

set_option maxRecDepth 100000 in
set_option maxHeartbeats 6400000 in
theorem sorted_obj (l : List Jv) (ks : List Bs) (S : Nat → Prop) (i : Int) (t : Bs) (la ka : Option Addr) (lc kc : Nat) (w : World) (hS : ∀ g, S g → g < w.heap.size) (hks : RStrs S w ks (.slice ka ks.length kc))
    (cs : List Value) (hcs : RCells S w l cs) (hlm : InMem S w (.slice la l.length lc) l.length cs) (hll : l.length ≤ 8388608) (hkl : ks.length = l.length) (hnd : ks.Nodup) :
    Calls Tryz.prog 44 #[jV 6 i t (.slice la l.length lc) (.slice ka ks.length kc)] w fun e w' => ∃ u, e = .returned u ∧ RAt (Mix S w.heap.size w'.heap.size) w' (.mk 6 0 [] (valsO l ks) (keysS l ks)) u ∧ Fr NoB w w' := by
  obtain ⟨i1, hj0, hy0, hy1, hy2⟩ := info_parts info_json
  obtain ⟨i0, hi0, hz0, hz1, hz2⟩ := info_parts info_str
  rw [hkl] at hks ⊢
  have f : Fr NoB w (((w.alloc (.cells #[.int .i64 6, .int .i64 i, .string ⟨t.toArray⟩, .slice la l.length lc, .slice ka l.length kc] 25)).alloc (.cells zj 25)).alloc (.cells zj 25)) := (((Fr.refl _ _).alloc _).alloc _).alloc _
  have g0 : Blk (((w.alloc (.cells #[.int .i64 6, .int .i64 i, .string ⟨t.toArray⟩, .slice la l.length lc, .slice ka l.length kc] 25)).alloc (.cells zj 25)).alloc (.cells zj 25)) w.heap.size 25 #[.int .i64 6, .int .i64 i, .string ⟨t.toArray⟩, .slice la l.length lc, .slice ka l.length kc] := ((Blk.new w 25 _).alloc _).alloc _
  have g1 : Blk (((w.alloc (.cells #[.int .i64 6, .int .i64 i, .string ⟨t.toArray⟩, .slice la l.length lc, .slice ka l.length kc] 25)).alloc (.cells zj 25)).alloc (.cells zj 25)) (w.heap.size + 1) 25 zj := by
    have := (Blk.new (w.alloc (.cells #[.int .i64 6, .int .i64 i, .string ⟨t.toArray⟩, .slice la l.length lc, .slice ka l.length kc] 25)) 25 zj).alloc (.cells zj 25)
    simpa using this
  have g2 : Blk (((w.alloc (.cells #[.int .i64 6, .int .i64 i, .string ⟨t.toArray⟩, .slice la l.length lc, .slice ka l.length kc] 25)).alloc (.cells zj 25)).alloc (.cells zj 25)) (w.heap.size + 2) 25 zj := by
    have := Blk.new ((w.alloc (.cells #[.int .i64 6, .int .i64 i, .string ⟨t.toArray⟩, .slice la l.length lc, .slice ka l.length kc] 25)).alloc (.cells zj 25)) 25 zj
    simpa using this
  have hsW : (((w.alloc (.cells #[.int .i64 6, .int .i64 i, .string ⟨t.toArray⟩, .slice la l.length lc, .slice ka l.length kc] 25)).alloc (.cells zj 25)).alloc (.cells zj 25)).heap.size = w.heap.size + 3 := by simp
  generalize hW : (((w.alloc (.cells #[.int .i64 6, .int .i64 i, .string ⟨t.toArray⟩, .slice la l.length lc, .slice ka l.length kc] 25)).alloc (.cells zj 25)).alloc (.cells zj 25)) = W at f g0 g1 g2 hsW
  have HW := Lib.hid hW
  have W1 : World := (w.alloc (.cells #[.int .i64 6, .int .i64 i, .string ⟨t.toArray⟩, .slice la l.length lc, .slice ka l.length kc] 25)).alloc (.cells zj 25)
  have q0 : ((w.alloc (.cells #[.int .i64 6, .int .i64 i, .string ⟨t.toArray⟩, .slice la l.length lc, .slice ka l.length kc] 25)).alloc (.cells zj 25)).cell? ⟨w.heap.size, 0, none⟩ = some (.int .i64 6) := (((Blk.new w 25 #[.int .i64 6, .int .i64 i, .string ⟨t.toArray⟩, .slice la l.length lc, .slice ka l.length kc]).alloc (.cells zj 25)).cell 0).trans rfl
  clear W1
  have hone0 := one_json 6 0 ⟨#[]⟩ none none 0 0 0 0
  have fO := Fr.rowO W (w.heap.size + 2) #[.int .i64 6, .int .i64 0, .string ⟨#[]⟩, .slice none 0 0, .slice none 0 0]
  have G2 := g2.setRow #[.int .i64 6, .int .i64 0, .string ⟨#[]⟩, .slice none 0 0, .slice none 0 0]
  have G0 := fO.blk g0 (fun e => by have e' : w.heap.size = w.heap.size + 2 := e; omega)
  have G1 := fO.blk g1 (fun e => by have e' : w.heap.size + 1 = w.heap.size + 2 := e; omega)
  have fF : Fr NoB w (W.setRow (w.heap.size + 2) #[.int .i64 6, .int .i64 0, .string ⟨#[]⟩, .slice none 0 0, .slice none 0 0]) := f.setRow (w.heap.size + 2) _ (Or.inl (by omega))
  have hsV : (W.setRow (w.heap.size + 2) #[.int .i64 6, .int .i64 0, .string ⟨#[]⟩, .slice none 0 0, .slice none 0 0]).heap.size = w.heap.size + 3 := by rw [← hsW]; simp [World.setRow]
  generalize hV : W.setRow (w.heap.size + 2) #[.int .i64 6, .int .i64 0, .string ⟨#[]⟩, .slice none 0 0, .slice none 0 0] = V at fO G2 G0 G1 fF hsV
  have HV := Lib.hid hV
  have HB : Hid (∀ u, Fr (Only (w.heap.size + 2)) V u → Blk u w.heap.size 25 #[.int .i64 6, .int .i64 i, .string ⟨t.toArray⟩, .slice la l.length lc, .slice ka l.length kc] ∧ Blk u (w.heap.size + 1) 25 zj) := Lib.hid (fun u fu => ⟨fu.blk G0 (fun e => by have e' : w.heap.size = w.heap.size + 2 := e; omega), fu.blk G1 (fun e => by have e' : w.heap.size + 1 = w.heap.size + 2 := e; omega)⟩)
  have HL := Lib.hid (And.intro hcs hlm)
  have HKB := Lib.hid hks.2
  have HKM : Hid (InMem S w (.slice ka l.length kc) l.length (ks.map sV)) := Lib.hid (by have := hks.1; rwa [hkl] at this)
  have HS := Lib.hid hS
  have HKL := Lib.hid (And.intro hkl hnd)
  have st : TRows S (w.heap.size + 3) V ((valsO l ks).take 0) ((keysS l ks).take 0) (.slice none 0 0) (.slice none 0 0) := ⟨[], fun _ => False, World.ownsRow_nil _ _ _ _, World.ownsRow_nil _ _ _ _, by simp [RCells], fun _ h => h.elim, fun g hg => by simp [Value.ownBlock] at hg⟩
  have HFW : Hid (∀ u, Fr (Only (w.heap.size + 2)) V u → Fr NoB w u) := Lib.hid (fun u fu => fF.andThen fu (fun j hj e => by have e' : j = w.heap.size + 2 := e; omega))
  clear hW hV hcs hlm hks hS hkl hnd g0 g1 fO G0 G1
  go_enter Tryz.func44, Tryz.ntmps44
  go_wp2_with (first | (refine wpList_store_row rfl 25 _ _ rfl (w.heap.size + 2) #[.int .i64 6, .int .i64 0, .string ⟨#[]⟩, .slice none 0 0, .slice none 0 0] rfl rfl 25 zj g2 size_json rfl hone0 ?_; rw [HV.out]) | (rw [HW.out]))
  simp only [Act.put, Nat.add_assoc, Nat.reduceAdd]
  go_loopw [4] (fun _ wr => ∃ (m : Nat) (lv kv : Value), m ≤ l.length ∧ Blk wr (w.heap.size + 2) 25 #[.int .i64 6, .int .i64 0, .string ⟨#[]⟩, lv, kv] ∧ TRows S (w.heap.size + 3) wr ((valsO l ks).take m) ((keysS l ks).take m) lv kv ∧ Fr (Only (w.heap.size + 2)) V wr) (fun _ wr => l.length - lenAt wr ⟨w.heap.size + 2, 4, none⟩)
  case atStart => exact ⟨0, _, _, Nat.zero_le _, G2, st, Fr.refl _ _⟩
  case round =>
    obtain ⟨m, lv, kv, hm, B2, hst, hf⟩ := hrel
    obtain ⟨B0, B1⟩ := HB.out _ hf
    have d3 : wr.cell? ⟨w.heap.size, 3, none⟩ = some (.slice la l.length lc) := (B0.cell 3).trans rfl
    have d4 : wr.cell? ⟨w.heap.size, 4, none⟩ = some (.slice ka l.length kc) := (B0.cell 4).trans rfl
    have hkt : ((keysS l ks).take m).length = m := by rw [List.length_take, keysS_len]; omega
    have hlt' : ((valsO l ks).take m).length = m := by rw [List.length_take, valsO_len]; omega
    obtain ⟨ak, ck, hkv⟩ := hst.kvs
    rw [hkt] at hkv
    obtain ⟨al, cl, hlv⟩ := hst.lvs
    rw [hlt'] at hlv
    subst hkv hlv
    have o4 : wr.cell? ⟨w.heap.size + 2, 4, none⟩ = some (.slice ak m ck) := (B2.cell 4).trans rfl
    have o3 : wr.cell? ⟨w.heap.size + 2, 3, none⟩ = some (.slice al m cl) := (B2.cell 3).trans rfl
    by_cases hlt : m < l.length
    · have hL0 : Hid (lenAt wr ⟨w.heap.size + 2, 4, none⟩ = m) := Lib.hid (by unfold lenAt; rw [o4])
      have k2 : (m : Int) < l.length := by omega
      have hn0 : 0 < l.length := by omega
      have fw := HFW.out wr hf
      go_wp2_with fail
      go_loopw [4, 5] (fun v4 v5 wr2 => ∃ (p : Nat) (z : Int), p ≤ l.length ∧ v5 = .int .i64 p ∧ v4 = .int .i64 z ∧ Fr NoB wr wr2 ∧ Hid (Least l ks m p z)) (fun _ v5 _ => l.length - (intOf v5).toNat)
      case atStart => exact ⟨0, -1, Nat.zero_le _, rfl, rfl, Fr.refl _ _, Lib.hid (Or.inl ⟨by omega, fun x hx => by omega⟩)⟩
      case round =>
        obtain ⟨p, z, hp, rfl, rfl, h2, HLe⟩ := hrel
        have D4 := (h2.blk B0 (fun e => e)).five.2.2.2.2
        have O4 := (h2.blk B2 (fun e => e)).five.2.2.2.2
        obtain ⟨gk, ok, rfl, hkc⟩ := HKM.out.atS HS.out (fw.trans h2) hn0
        by_cases hpl : p < l.length
        · have k3 : (0 : Int) ≤ p := by omega
          have k4 : (p : Int) < l.length := by omega
          have hpk : p < ks.length := by rw [HKL.out.1]; exact hpl
          have ep := hkc p (sV ks[p]) (by simp [hpk])
          have ekp : ks[p] = keyAt ks p := by simp [keyAt, List.getD, hpk]
          rw [ekp] at ep
          have HEP : Hid (∀ u, Fr NoB wr u → u.cell? ⟨w.heap.size, 4, none⟩ = some (.slice (some ⟨gk, ok, none⟩) l.length kc) ∧ ∀ x, x < l.length → u.cell? ⟨gk, ok + x, none⟩ = some (sV (keyAt ks x))) := Lib.hid (fun u fu => by
            refine ⟨((h2.trans fu).blk B0 (fun e => e)).five.2.2.2.2, fun x hx => ?_⟩
            have hxk : x < ks.length := by rw [HKL.out.1]; exact hx
            obtain ⟨gk', ok', he, hkc'⟩ := HKM.out.atS HS.out ((fw.trans h2).trans fu) hn0
            simp only [Option.some.injEq, Addr.mk.injEq, and_true] at he
            obtain ⟨rfl, rfl⟩ := he
            have h := hkc' x (sV ks[x]) (by simp [hxk])
            rwa [show ks[x] = keyAt ks x by simp [keyAt, List.getD, hxk]] at h)
          clear ekp hkc
          go_upto_region 9 with fail
          go_cut [6] (fun v6 wx => v6 = .bool (behB l ks m p) ∧ Fr NoB wr wx)
          case first =>
            by_cases hm0 : m = 0
            · have HBH : Hid (behB l ks m p = true) := Lib.hid (behB_iff.2 (Or.inl hm0))
              have k12 : ((m : Int) == 0) = true := by simp [hm0]
              clear HLe HEP hm0
              generalize keyAt ks p = kp at *
              go_wp2_with fail
              go_quiet (fail)
              go_wp2_with fail
              go_meet
              exact ⟨by rw [HBH.out], (Fr.refl _ _).drewN _⟩
            · obtain ⟨m', hm'⟩ : ∃ m', m = m' + 1 := ⟨m - 1, by omega⟩
              have own := hst.keys
              obtain ⟨g2', rfl⟩ : ∃ g, ak = some ⟨g, 0, none⟩ := by
                rcases own.2 with ⟨e1, e2⟩ | ⟨g, c1, u1, e1, _⟩
                · rw [hkt] at e2; omega
                · simp only [Value.slice.injEq] at e1; exact ⟨g, e1.1⟩
              have hm'l : m' < ((keysS l ks).take m).length := by omega
              have hkm : ((keysS l ks).take m)[m'] = keyAt (keysS l ks) m' := by
                have : m' < (keysS l ks).length := by rw [keysS_len]; omega
                simp [keyAt, List.getD, this]
              have em : wr.cell? ⟨g2', m', none⟩ = some (sV (keyAt (keysS l ks) m')) := by
                have h := @World.ownsRow.cells _ _ _ _ _ _ _ own g2' rfl m' (sV (keyAt (keysS l ks) m')) (by rw [List.getElem?_map, List.getElem?_eq_getElem hm'l, hkm]; rfl)
                rw [add_at, Nat.zero_add] at h
                exact (h2.cell (p := ⟨g2', m', none⟩) (own.lt g2' rfl).2 (fun e => e)).trans h
              have HBH : Hid (behB l ks m p = decide (keyAt (keysS l ks) m' < keyAt ks p)) := Lib.hid (by unfold behB; rw [hm']; simp)
              clear hkm own
              have k5 : (0 : Int) ≤ m' := by omega
              have k6 : IntKind.i64.wrap (m' : Int) = m' := IntWalk.i64_in _ (by omega)
              have k6b : (m : Int) - 1 = m' := by omega
              have k7 : ((m : Int) == 0) = false := by simp; omega
              have k8 : (m' : Int) < m := by omega
              clear hm0 hm' HLe HEP
              by_cases hb' : keyAt (keysS l ks) m' < keyAt ks p
              · have hbl : Op.bytesLess (keyAt ks p) (keyAt (keysS l ks) m') = false := by rw [bless]; simp; exact fun e => List.lt_irrefl _ (bs_lt_trans hb' e)
                have hbe : (keyAt ks p == keyAt (keysS l ks) m') = false := by simp; intro e; rw [e] at hb'; exact List.lt_irrefl _ hb'
                have HBH2 : Hid (behB l ks m p = true) := Lib.hid (by rw [HBH.out]; simpa using hb')
                clear hb' HBH
                generalize keyAt (keysS l ks) m' = km at *
                generalize keyAt ks p = kp at *
                go_wp2_with fail
                go_quiet (fail)
                go_wp2_with fail
                go_meet
                exact ⟨by rw [HBH2.out], (Fr.refl _ _).drewN _⟩
              · have HBH2 : Hid (behB l ks m p = false) := Lib.hid (by rw [HBH.out]; simpa using hb')
                by_cases he : keyAt ks p = keyAt (keysS l ks) m'
                · have hbl : Op.bytesLess (keyAt ks p) (keyAt (keysS l ks) m') = false := by rw [bless, he]; simp
                  have hbe : (keyAt ks p == keyAt (keysS l ks) m') = true := by simpa using he
                  clear he hb' HBH
                  generalize keyAt (keysS l ks) m' = km at *
                  generalize keyAt ks p = kp at *
                  go_wp2_with fail
                  go_quiet (fail)
                  go_wp2_with fail
                  go_meet
                  exact ⟨by rw [HBH2.out], (Fr.refl _ _).drewN _⟩
                · have hbl : Op.bytesLess (keyAt ks p) (keyAt (keysS l ks) m') = true := by
                    rw [bless]
                    simp
                    exact bs_lt_of (List.not_lt.1 hb') he
                  clear he hb' HBH
                  generalize keyAt (keysS l ks) m' = km at *
                  generalize keyAt ks p = kp at *
                  go_wp2_with fail
                  go_quiet (fail)
                  go_wp2_with fail
                  go_meet
                  exact ⟨by rw [HBH2.out], (Fr.refl _ _).drewN _⟩
          case rest =>
            obtain ⟨rfl, f6⟩ := hcut
            obtain ⟨D4', hkx⟩ := HEP.out _ f6
            have ep' := hkx p hpl
            clear ep D4 O4
            have fz := h2.trans f6
            cases hbb : behB l ks m p with
            | false =>
              have HR := Lib.hid (least_no HLe.out (fun e => by rw [behB_iff.2 e] at hbb; cases hbb))
              clear HLe HEP hkx hbb
              generalize keyAt ks p = kp at *
              go_wp2_with fail
              go_quiet (fail)
              go_wp2_with fail
              go_roundw
              case rel => exact ⟨p + 1, z, by omega, by simp, rfl, fz.drewN _, HR⟩
              case measure => simp [intOf]; omega
            | true =>
              have hb := behB_iff.1 hbb
              clear hbb
              rcases HLe.out with ⟨hzn, _⟩ | ⟨q, hq, rfl, _, _⟩
              · have hz0' : z < 0 := hzn
                have HR := Lib.hid (least_new HLe.out hb (Or.inl hzn))
                clear HLe HEP hkx hb
                generalize keyAt ks p = kp at *
                go_wp2_with fail
                go_quiet (fail)
                go_wp2_with fail
                go_roundw
                case rel => exact ⟨p + 1, p, by omega, by simp, rfl, fz.drewN _, HR⟩
                case measure => simp [intOf]; omega
              · have k9 : (0 : Int) ≤ q := by omega
                have k10 : (q : Int) < l.length := by omega
                have k11 : ¬ (q : Int) < 0 := by omega
                have eq' := hkx q (by omega)
                by_cases hlq : keyAt ks p < keyAt ks q
                · have HR := Lib.hid (least_new HLe.out hb (Or.inr ⟨q, rfl, hlq⟩))
                  have hbl2 : Op.bytesLess (keyAt ks p) (keyAt ks q) = true := by rw [bless]; simpa using hlq
                  clear HLe hlq HEP hkx hb
                  generalize keyAt ks p = kp at *
                  generalize keyAt ks q = kq at *
                  go_wp2_with fail
                  go_quiet (fail)
                  go_wp2_with fail
                  go_roundw
                  case rel => exact ⟨p + 1, p, by omega, by simp, rfl, fz.drewN _, HR⟩
                  case measure => simp [intOf]; omega
                · have HR := Lib.hid (least_keep HLe.out hlq)
                  have hbl2 : Op.bytesLess (keyAt ks p) (keyAt ks q) = false := by rw [bless]; simpa using hlq
                  clear HLe hlq HEP hkx hb
                  generalize keyAt ks p = kp at *
                  generalize keyAt ks q = kq at *
                  go_wp2_with fail
                  go_quiet (fail)
                  go_wp2_with fail
                  go_roundw
                  case rel => exact ⟨p + 1, q, by omega, by simp, rfl, fz.drewN _, HR⟩
                  case measure => simp [intOf]; omega
        · obtain rfl : p = l.length := by omega
          obtain rfl : z = ((plc l ks m : Nat) : Int) := least_end HKL.out.1 HKL.out.2 hlt HLe.out
          have hql := plc_lt (ks := ks) hlt
          have hqk : plc l ks m < ks.length := by rw [HKL.out.1]; exact hql
          have HTK : Hid ((keysS l ks).take (m + 1) = (keysS l ks).take m ++ [keyAt ks (plc l ks m)]) := Lib.hid (by
            have hmk : m < (keysS l ks).length := by rw [keysS_len]; exact hlt
            rw [(List.take_append_getElem hmk).symm, keysS_at hlt hmk])
          have HTV : Hid ((valsO l ks).take (m + 1) = (valsO l ks).take m ++ [l[plc l ks m]]) := Lib.hid (by
            have hmk : m < (valsO l ks).length := by rw [valsO_len]; exact hlt
            rw [(List.take_append_getElem hmk).symm, valsO_at hlt hmk])
          have eq' := hkc (plc l ks m) (sV ks[plc l ks m]) (by simp [hqk])
          rw [show ks[plc l ks m] = keyAt ks (plc l ks m) by simp [keyAt, List.getD, hqk]] at eq'
          obtain ⟨hcs, hlm⟩ := HL.out
          obtain ⟨v0, v1, v2, v3, v4, p0, p1, p2, p3, p4, hatx⟩ := RCells.get l cs (plc l ks m) hql hcs
          obtain ⟨gl, ol, rfl, _⟩ := hlm.atS HS.out (fw.trans h2) hn0
          have HE : Hid (∀ u, Fr NoB w u → u.cell? ⟨gl, ol + plc l ks m * 5, none⟩ = some v0 ∧ u.cell? ⟨gl, ol + plc l ks m * 5 + 1, none⟩ = some v1 ∧ u.cell? ⟨gl, ol + plc l ks m * 5 + 2, none⟩ = some v2 ∧ u.cell? ⟨gl, ol + plc l ks m * 5 + 3, none⟩ = some v3 ∧ u.cell? ⟨gl, ol + plc l ks m * 5 + 4, none⟩ = some v4) := Lib.hid (fun u fu => by
            obtain ⟨ga', oa', he, hc'⟩ := hlm.atS HS.out fu hn0
            simp only [Option.some.injEq, Addr.mk.injEq, and_true] at he
            obtain ⟨rfl, rfl⟩ := he
            exact ⟨hc' _ _ p0, hc' _ _ p1, hc' _ _ p2, hc' _ _ p3, hc' _ _ p4⟩)
          have HAT : Hid (RAt S w l[plc l ks m] (.agg #[v0, v1, v2, v3, v4])) := Lib.hid hatx
          have o1 := all5 (all_one hatx.one)
          clear HLe hkc hcs hlm p0 p1 p2 p3 p4 hatx
          have k9 : (0 : Int) ≤ ((plc l ks m : Nat) : Int) := by omega
          have k10 : ((plc l ks m : Nat) : Int) < l.length := by omega
          have k11 : ¬ ((plc l ks m : Nat) : Int) < 0 := by omega
          generalize l[plc l ks m] = x at *
          generalize keyAt ks (plc l ks m) = key at *
          generalize plc l ks m = q at *
          generalize (keysS l ks).take m = Ks at *
          generalize (valsO l ks).take m = Vs at *
          have st1 := (hst.fr h2).fr ((Fr.refl NoB wr).drew)
          have fa : Fr NoB wr.drew (wr.drew.alloc (.cells #[.string ⟨key.toArray⟩] 9)) := (Fr.refl NoB wr.drew).alloc _
          have st2 := st1.fr fa
          have ownk := st2.keys
          rw [hkt] at ownk
          have hkb := st2.lts.2
          have B2' : Blk (wr.drew.alloc (.cells #[.string ⟨key.toArray⟩] 9)) (w.heap.size + 2) 25 #[.int .i64 6, .int .i64 0, .string ⟨#[]⟩, .slice al m cl, .slice ak m ck] := ((h2.blk B2 (fun e => e)).drew).alloc _
          have fA : Fr NoB _ (wr.drew.alloc (.cells #[.string ⟨key.toArray⟩] 9)) := h2.drew.trans fa
          have hsw : w.heap.size + 3 ≤ wr.heap.size := by rw [← hsV]; exact (hf.andThen h2 (fun _ _ e => e.elim)).size
          have cA : (wr.alloc (.cells #[sV key] 9)).cell? ⟨w.heap.size + 2, 4, none⟩ = some (.slice ak m ck) := (B2'.cell 4).trans rfl
          go_upto_region 14 with fail
          go_cut [] (fun wy => ∃ kv', Blk wy (w.heap.size + 2) 25 #[.int .i64 6, .int .i64 0, .string ⟨#[]⟩, .slice al m cl, kv'] ∧ TRows S (w.heap.size + 3) wy Vs (Ks ++ [key]) (.slice al m cl) kv' ∧ Fr (Only (w.heap.size + 2)) V wy)
          case first =>
            go_region_law (first | (refine step_append_lies _ (by rfl) _ _ _ (by rfl) (w.heap.size + 3) 9 i0 (.string ⟨#[]⟩) 1 16 Tryz.underlying23 hi0 hz0 hz1 hz2 (by rfl) (by decide) (.slice ak m ck) m (Ks.map sV) (by rfl) ownk ⟨wr.heap.size, 0, none⟩ 1 1 [sV key] (by rfl) (by rfl) (World.news_of_block (cs := #[.string ⟨key.toArray⟩]) (t := 9) (fr := (0, 0)) (heap_alloc_new wr.drew _)) (by intro u hu; rw [List.mem_singleton] at hu; subst hu; rfl) (by omega) (by unfold maxLen; omega) (by omega) (by simp; omega) (wr.heap.size + 1) (by simp) ?_; intro g cap w4 hown hgr hat hglt; have B5 : Blk w4 (w.heap.size + 2) 25 #[.int .i64 6, .int .i64 0, .string ⟨#[]⟩, .slice al m cl, .slice ak m ck] := (hgr.block (w.heap.size + 2) B2'.lt (fun e => by have := (hkb _ e.symm).1; omega)).trans B2'; have c5 := (B5.cell 4).trans (show _ = some (Value.slice ak m ck) from rfl); have z5 := B5.frozen 4))
            all_goals (go_wp2_with fail)
            all_goals go_meet
            all_goals (refine ⟨_, by simpa using B5.set_ 4 (.slice (some ⟨g, 0, none⟩) (m + 1) cap), ?_, ?_⟩)
            all_goals first
              | exact ((hf.andThen fA (fun _ _ e => e.elim)).grown hgr (fun j hj hlt => absurd (hkb j hj).1 (by omega))).only _
              | (have sK := (st2.key key g cap (by rw [hkt]; exact hown) hgr (by simpa using hat)).frX (X := Only (w.heap.size + 2)) ((Fr.refl _ w4).only (b := w.heap.size + 2) (o := 4) (.slice (some ⟨g, 0, none⟩) (m + 1) cap)) (fun y hy => by
                  have e : y = w.heap.size + 2 := hy
                  exact ⟨fun h => by have := HS.out y h; omega, by omega⟩)
                 rw [hkt] at sK
                 exact sK)
          case rest =>
            obtain ⟨kv', B3, st3, f3⟩ := hcut
            have fw3 := HFW.out wc f3
            obtain ⟨e0, e1, e2, e3, e4⟩ := HE.out wc fw3
            obtain ⟨B0', B1'⟩ := HB.out wc f3
            have D3 : wc.cell? ⟨w.heap.size, 3, none⟩ = some (.slice (some ⟨gl, ol, none⟩) l.length lc) := (B0'.cell 3).trans rfl
            have O3 : wc.cell? ⟨w.heap.size + 2, 3, none⟩ = some (.slice al m cl) := (B3.cell 3).trans rfl
            have fa2 : Fr NoB wc (wc.drew.alloc (.cells #[v0, v1, v2, v3, v4] 25)) := (Fr.refl NoB wc).drew.alloc _
            have st4 := st3.fr fa2
            obtain ⟨cs1, own1⟩ := st4.vals
            rw [hlt'] at own1
            obtain ⟨hlv, hkv⟩ := st3.lts
            obtain ⟨ak', ck', hk'⟩ := st3.kvs
            have hsw3 : w.heap.size + 3 ≤ wc.heap.size := by rw [← hsV]; exact f3.size
            have B4 : Blk (wc.drew.alloc (.cells #[v0, v1, v2, v3, v4] 25)) (w.heap.size + 2) 25 #[.int .i64 6, .int .i64 0, .string ⟨#[]⟩, .slice al m cl, kv'] := fa2.blk B3 (fun e => e)
            have cA3 : (wc.alloc (.cells #[v0, v1, v2, v3, v4] 25)).cell? ⟨w.heap.size + 2, 3, none⟩ = some (.slice al m cl) := (B4.cell 3).trans rfl
            have hjx : RAt (Mix S wc.heap.size wc.heap.size) (wc.drew.alloc (.cells #[v0, v1, v2, v3, v4] 25)) x (.agg #[v0, v1, v2, v3, v4]) := RAt.mono (fun y hy => Or.inl hy) _ _ (RAt.fr (fun y hy => (fw3.trans fa2).block y (HS.out y hy) (fun e => e)) _ _ HAT.out)
            clear B0' B1' D4 d3 d4 o3 o4 O4 eq' st1 st2 ownk B2' cA hst hkb
            go_wp2_with fail
            go_region_law (first | (refine step_append_lies _ (by rfl) _ _ _ (by rfl) (w.heap.size + 3) 25 i1 (jV 0 0 [] (.slice none 0 0) (.slice none 0 0)) 5 80 Tryz.underlying22 hj0 hy0 hy1 hy2 (by rfl) (by decide) (.slice al m cl) m cs1 (by rfl) own1 ⟨wc.heap.size, 0, none⟩ 1 1 [v0, v1, v2, v3, v4] (by rfl) (by rfl) (World.news_of_block (cs := #[v0, v1, v2, v3, v4]) (t := 25) (fr := (0, 0)) (heap_alloc_new wc.drew _)) o1 (by omega) (by unfold maxLen; omega) (by omega) (by simp; omega) (wc.heap.size + 1) (by simp) ?_; intro g cap w4 hown hgr hat hglt; have B5 : Blk w4 (w.heap.size + 2) 25 #[.int .i64 6, .int .i64 0, .string ⟨#[]⟩, .slice al m cl, kv'] := (hgr.block (w.heap.size + 2) B4.lt (fun e => by have := (hlv _ e.symm).1; omega)).trans B4; have c5 := (B5.cell 3).trans (show _ = some (Value.slice al m cl) from rfl); have z5 := B5.frozen 3))
            all_goals (go_wp2_with fail)
            all_goals (refine ⟨⟨m + 1, .slice (some ⟨g, 0, none⟩) (m + 1) cap, kv', by omega, by simpa using B5.set_ 3 (.slice (some ⟨g, 0, none⟩) (m + 1) cap), ?_, ?_⟩, ?_⟩)
            all_goals first
              | exact ((f3.andThen fa2 (fun _ _ e => e.elim)).grown hgr (fun j hj hlt => absurd (hlv j hj).1 (by omega))).only _
              | (have sI := (st4.item (lo2 := wc.heap.size) (hi := wc.heap.size) (fun y hy => by have := HS.out y hy; omega) hjx hsw3 (by simp) (by simp; omega) (fun y hy => (hlv y hy).2) (fun y hy => (hkv y hy).2) g cap (by rw [hlt']; exact own1) (by rw [hlt']; exact hown) hgr (by simpa using hat)).frX (X := Only (w.heap.size + 2)) ((Fr.refl _ w4).only (b := w.heap.size + 2) (o := 3) (.slice (some ⟨g, 0, none⟩) (m + 1) cap)) (fun y hy => by
                  have e : y = w.heap.size + 2 := hy
                  exact ⟨fun h => by have := HS.out y h; omega, by omega⟩)
                 rw [hlt'] at sI
                 rw [HTV.out, HTK.out]
                 exact sI)
              | (have hL1 : lenAt (w4.setCell ⟨w.heap.size + 2, 3, none⟩ (.slice (some ⟨g, 0, none⟩) (m + 1) cap)) ⟨w.heap.size + 2, 4, none⟩ = m + 1 := by
                  unfold lenAt
                  rw [((B5.set_ 3 (.slice (some ⟨g, 0, none⟩) (m + 1) cap)).cell 4).trans (show _ = some kv' from rfl), hk']
                  simp [hkt]
                 rw [hL1, hL0.out]
                 omega)
    · obtain rfl : m = l.length := by omega
      rw [show (valsO l ks).take l.length = valsO l ks by rw [← valsO_len l ks, List.take_length]] at hst
      rw [show (keysS l ks).take l.length = keysS l ks by rw [← keysS_len l ks, List.take_length]] at hst
      have hone := one_json 6 0 ⟨#[]⟩ al ak l.length cl l.length ck
      have fX : Fr (Only (w.heap.size + 1)) wr (wr.setRow (w.heap.size + 1) #[.int .i64 6, .int .i64 0, .string ⟨#[]⟩, .slice al l.length cl, .slice ak l.length ck]) := Fr.rowO _ _ _
      have fN : Fr NoB w (wr.setRow (w.heap.size + 1) #[.int .i64 6, .int .i64 0, .string ⟨#[]⟩, .slice al l.length cl, .slice ak l.length ck]) := (HFW.out wr hf).setRow (w.heap.size + 1) _ (Or.inl (by omega))
      have stF := hst.frX fX (fun y hy => by
        have e : y = w.heap.size + 1 := hy
        exact ⟨fun h => by have := HS.out y h; omega, by omega⟩)
      obtain ⟨cs', q1, q2, q3⟩ := stF.cells (b := w.heap.size) (by omega)
      have rN := B1.setRow #[.int .i64 6, .int .i64 0, .string ⟨#[]⟩, .slice al l.length cl, .slice ak l.length ck]
      have hKB := HKB.out
      have hKL := HKL.out
      clear HB HL HS HKB HKM HKL hst fX stF st
      go_wp2_with (first | (refine wpList_load_row rfl 25 _ rfl (w.heap.size + 2) rfl 25 _ _ _ B2 Tryz.underlying25 rfl size_json ?_) | (refine wpList_store_row rfl 25 _ _ rfl (w.heap.size + 1) #[.int .i64 6, .int .i64 0, .string ⟨#[]⟩, .slice al l.length cl, .slice ak l.length ck] rfl rfl 25 zj B1 size_json rfl hone ?_))
      refine bodyPost_ret (v := jV 6 0 [] (.slice al l.length cl) (.slice ak l.length ck)) (json_back rfl _ _ (w.heap.size + 1) _ _ _ _ _ rfl rN) rfl ⟨_, rfl, ?_, fN⟩
      simp only [RAt]
      rw [keysS_len] at q3
      rw [valsO_len] at q2
      exact ⟨_, _, rfl, by unfold IntOk; omega, by unfold IntOk; omega, by simp, ⟨by rw [keysS_len]; exact q3, by rw [keysS_len]; unfold big; omega, fun s hs => hKB.2 s ((keysS_perm hKL.1).mem_iff.1 hs)⟩, by rw [valsO_len]; unfold big; omega, cs', q1, by rw [valsO_len]; exact q2⟩
end Go.Proofs.YteeijmfnjcddmaaGreatDoor
/- JSON, the document's side: Sorted at any value that may be; All. -/
namespace Go.Proofs.YteeijmfnjcddmaaGreatDoor
open Go.RowKit

/-- An object with its members in the order of their keys, its elements as they are. -/
def srtJ : Jv → Jv
  | .mk k i t l ks => if k = 6 then .mk 6 0 [] (valsO l ks) (keysS l ks) else .mk k i t l ks
theorem ok_mk {k i : Int} {t : Bs} {l : List Jv} {ks : List Bs} (h : okJ (.mk k i t l ks) = true) : formP k i t l.length ks = true ∧ ∀ x ∈ l, okJ x = true := by
  rw [okJ, Bool.and_eq_true] at h
  exact ⟨h.1, oksJ_all h.2⟩
theorem ok_obj {i : Int} {t : Bs} {l : List Jv} {ks : List Bs} (h : okJ (.mk 6 i t l ks) = true) : i = 0 ∧ t = [] ∧ ks.length = l.length ∧ ks.Nodup := by
  have h1 := (ok_mk h).1
  have h2 := (form_kind h1).2.2 rfl
  unfold formP at h1
  simp only [Bool.and_eq_true, intIn, textIn, Bool.or_eq_true] at h1
  obtain ⟨⟨_, hi⟩, ht⟩ := h1
  refine ⟨?_, ?_, h2.1, h2.2⟩
  · rcases hi with hi | hi
    · simpa using hi
    · exact absurd hi.1.1 (by decide)
  · rcases ht with ht | ht
    · simpa using ht
    · exact absurd ht.1 (by decide)
theorem sort_srt {k i : Int} {t : Bs} {l : List Jv} {ks : List Bs} (h : okJ (.mk k i t l ks) = true) :
    ∃ i' t' l' ks', srtJ (.mk k i t l ks) = .mk k i' t' l' ks' ∧ sortJ (.mk k i t l ks) = .mk k i' t' (l'.map sortJ) ks' ∧ ∀ x ∈ l', x ∈ l := by
  by_cases h6 : k = 6
  · subst h6
    obtain ⟨rfl, rfl, _, _⟩ := ok_obj h
    refine ⟨0, [], valsO l ks, keysS l ks, by rw [srtJ, if_pos rfl], ?_, fun x hx => valsO_mem hx⟩
    rw [sortJ_obj, valsO_sort]
  · exact ⟨i, t, l, ks, by rw [srtJ, if_neg h6], by rw [sortJ, if_neg h6, sortsJ_eq], fun x hx => hx⟩

set_option maxRecDepth 100000 in
set_option maxHeartbeats 3200000 in
/-- Sorted, at a value that may be. -/
theorem srt_any (j : Jv) (S : Nat → Prop) (v : Value) (w : World) (hS : ∀ g, S g → g < w.heap.size) (hat : RAt S w j v) (hok : okJ j = true) (hsz : szJ j ≤ 8388608) :
    Calls Tryz.prog 44 #[v] w fun e w' => ∃ u, e = .returned u ∧ RAt (Mix S w.heap.size w'.heap.size) w' (srtJ j) u ∧ Fr NoB w w' := by
  cases j with
  | mk k i t l ks =>
    have hat0 := hat
    simp only [RAt] at hat
    obtain ⟨lv, kv, rfl, hk, hi, ht, hks, hl, cs, hcs, hlm⟩ := hat
    obtain ⟨la, lc, rfl⟩ := hlm.sl
    obtain ⟨ka, kc, rfl⟩ := hks.1.sl
    have hll := szL_len l
    simp only [szJ] at hsz
    by_cases h6 : k = 6
    · subst h6
      obtain ⟨rfl, rfl, h1, h2⟩ := ok_obj hok
      rw [srtJ, if_pos rfl]
      exact sorted_obj l ks S 0 [] la ka lc kc w hS hks cs hcs hlm (by omega) h1 h2
    · have h6b : (k != 6) = true := by simpa using h6
      rw [srtJ, if_neg h6]
      have f : Fr NoB w ((w.alloc (.cells #[.int .i64 k, .int .i64 i, .string ⟨t.toArray⟩, .slice la l.length lc, .slice ka ks.length kc] 25)).alloc (.cells zj 25)) := ((Fr.refl _ _).alloc _).alloc _
      have g0 : Blk ((w.alloc (.cells #[.int .i64 k, .int .i64 i, .string ⟨t.toArray⟩, .slice la l.length lc, .slice ka ks.length kc] 25)).alloc (.cells zj 25)) w.heap.size 25 #[.int .i64 k, .int .i64 i, .string ⟨t.toArray⟩, .slice la l.length lc, .slice ka ks.length kc] := (Blk.new w 25 _).alloc _
      have g1 : Blk ((w.alloc (.cells #[.int .i64 k, .int .i64 i, .string ⟨t.toArray⟩, .slice la l.length lc, .slice ka ks.length kc] 25)).alloc (.cells zj 25)) (w.heap.size + 1) 25 zj := by
        have := Blk.new (w.alloc (.cells #[.int .i64 k, .int .i64 i, .string ⟨t.toArray⟩, .slice la l.length lc, .slice ka ks.length kc] 25)) 25 zj
        simpa using this
      generalize hW : (w.alloc (.cells #[.int .i64 k, .int .i64 i, .string ⟨t.toArray⟩, .slice la l.length lc, .slice ka ks.length kc] 25)).alloc (.cells zj 25) = W at f g0 g1
      have HW := Lib.hid hW
      have c0 : W.cell? ⟨w.heap.size, 0, none⟩ = some (.int .i64 k) := (g0.cell 0).trans rfl
      have hone := one_json k i ⟨t.toArray⟩ la ka l.length lc ks.length kc
      have rN := g1.setRow #[.int .i64 k, .int .i64 i, .string ⟨t.toArray⟩, .slice la l.length lc, .slice ka ks.length kc]
      have fN := f.setRow (w.heap.size + 1) #[.int .i64 k, .int .i64 i, .string ⟨t.toArray⟩, .slice la l.length lc, .slice ka ks.length kc] (Or.inl (by omega))
      have HAT := Lib.hid hat0
      have HS := Lib.hid hS
      clear hW hat0 hcs hlm hks hS h6
      go_enter Tryz.func44, Tryz.ntmps44
      go_wp2_with (first | (refine wpList_load_row rfl 25 _ rfl w.heap.size rfl 25 _ _ _ g0 Tryz.underlying25 rfl size_json ?_) | (refine wpList_store_row rfl 25 _ _ rfl (w.heap.size + 1) #[.int .i64 k, .int .i64 i, .string ⟨t.toArray⟩, .slice la l.length lc, .slice ka ks.length kc] rfl rfl 25 zj g1 size_json rfl hone ?_) | (rw [HW.out]))
      refine bodyPost_ret (v := jV k i t (.slice la l.length lc) (.slice ka ks.length kc)) (json_back rfl _ _ (w.heap.size + 1) _ _ _ _ _ rfl rN) rfl ⟨_, rfl, ?_, fN⟩
      exact RAt.mono (fun g hg => Or.inl hg) _ _ (RAt.fr (fun g hg => fN.block g (HS.out g hg) (fun e => e)) _ _ HAT.out)

/-- What All has to do. -/
def AL (j : Jv) : Prop := ∀ (S : Nat → Prop) (v : Value) (w : World), (∀ g, S g → g < w.heap.size) → RAt S w j v → okJ j = true → szJ j ≤ 8388608 → Calls Tryz.prog 25 #[v] w fun e w' => ∃ u, e = .returned u ∧ RAt (Mix S w.heap.size w'.heap.size) w' (sortJ j) u ∧ Fr NoB w w'

set_option maxRecDepth 100000 in
set_option maxHeartbeats 6400000 in
theorem all_mk (k i : Int) (t : Bs) (l : List Jv) (ks : List Bs) (S : Nat → Prop) (a0 a1 a2 a3 a4 : Value) (w : World) (hS : ∀ g, S g → g < w.heap.size) (hll : l.length ≤ 8388608)
    (hSo : ∀ u, Fr NoB w u → Calls Tryz.prog 44 #[.agg #[a0, a1, a2, a3, a4]] u fun e w' => ∃ x, e = .returned x ∧ RAt (Mix S u.heap.size w'.heap.size) w' (.mk k i t l ks) x ∧ Fr NoB u w') (hIH : ∀ x ∈ l, AL x) (hok : ∀ x ∈ l, okJ x = true ∧ szJ x ≤ 8388608) :
    Calls Tryz.prog 25 #[.agg #[a0, a1, a2, a3, a4]] w fun e w' => ∃ u, e = .returned u ∧ RAt (Mix S w.heap.size w'.heap.size) w' (.mk k i t (l.map sortJ) ks) u ∧ Fr NoB w w' := by
  obtain ⟨i1, hj0, hy0, hy1, hy2⟩ := info_parts info_json
  have f : Fr NoB w ((w.alloc (.cells #[a0, a1, a2, a3, a4] 25)).alloc (.cells zj 25)) := ((Fr.refl _ _).alloc _).alloc _
  have g0 : Blk ((w.alloc (.cells #[a0, a1, a2, a3, a4] 25)).alloc (.cells zj 25)) w.heap.size 25 #[a0, a1, a2, a3, a4] := (Blk.new w 25 _).alloc _
  have g1 : Blk ((w.alloc (.cells #[a0, a1, a2, a3, a4] 25)).alloc (.cells zj 25)) (w.heap.size + 1) 25 zj := by
    have := Blk.new (w.alloc (.cells #[a0, a1, a2, a3, a4] 25)) 25 zj
    simpa using this
  have hsW : ((w.alloc (.cells #[a0, a1, a2, a3, a4] 25)).alloc (.cells zj 25)).heap.size = w.heap.size + 2 := by simp
  generalize hW : (w.alloc (.cells #[a0, a1, a2, a3, a4] 25)).alloc (.cells zj 25) = W at f g0 g1 hsW
  have HW := Lib.hid hW
  have HSO := Lib.hid (hSo W f)
  have HIH := Lib.hid hIH
  have HOK := Lib.hid hok
  have HS := Lib.hid hS
  clear hW hIH hS hSo hok
  go_enter Tryz.func25, Tryz.ntmps25
  go_upto_region 2 with (first | (rw [HW.out]; refine wpList_load_row rfl 25 _ rfl w.heap.size rfl 25 _ _ _ g0 Tryz.underlying25 rfl size_json ?_) | (go_at_call 44; ((with_reducible refine HSO.out.mono ?_); rintro e w1 ⟨x, rfl, hx, f1⟩; obtain ⟨x0, x1, x2, x3, x4, rfl, o1⟩ := hx.form; have B0a := f1.blk g0 (fun e => e))) | (refine wpList_store_row rfl 25 _ _ rfl w.heap.size #[x0, x1, x2, x3, x4] rfl rfl 25 #[a0, a1, a2, a3, a4] B0a size_json rfl o1 ?_))
  have hx0 := hx
  simp only [RAt] at hx
  obtain ⟨lv, kv, he, hk, hi, ht, hks, hl, cs, hcs, hlm⟩ := hx
  simp only [jV, Value.agg.injEq, Array.mk.injEq, List.cons.injEq, and_true] at he
  obtain ⟨rfl, rfl, rfl, rfl, rfl⟩ := he
  obtain ⟨la, lc, rfl⟩ := hlm.sl
  obtain ⟨ka, kc, rfl⟩ := hks.1.sl
  have hs1 := f1.size
  have B0b := B0a.setRow #[.int .i64 k, .int .i64 i, .string ⟨t.toArray⟩, .slice la l.length lc, .slice ka ks.length kc]
  have fR : Fr (Only w.heap.size) w1 (w1.setRow w.heap.size #[.int .i64 k, .int .i64 i, .string ⟨t.toArray⟩, .slice la l.length lc, .slice ka ks.length kc]) := Fr.rowO _ _ _
  have B1b := fR.blk (f1.blk g1 (fun e => e)) (fun e => by have e' : w.heap.size + 1 = w.heap.size := e; omega)
  have fV : Fr NoB w (w1.setRow w.heap.size #[.int .i64 k, .int .i64 i, .string ⟨t.toArray⟩, .slice la l.length lc, .slice ka ks.length kc]) := (f.trans f1).setRow w.heap.size _ (Or.inl (Nat.le_refl _))
  have hsV : (w1.setRow w.heap.size #[.int .i64 k, .int .i64 i, .string ⟨t.toArray⟩, .slice la l.length lc, .slice ka ks.length kc]).heap.size = w1.heap.size := by simp [World.setRow]
  have hT : ∀ g, Mix S W.heap.size w1.heap.size g → g < w1.heap.size ∧ ¬ g = w.heap.size ∧ ¬ g = w.heap.size + 1 := fun g hg => by
    rcases hg with hg | hg
    · have := HS.out g hg; omega
    · omega
  have hcs2 := RCells.fr (fun g hg => fR.block g (hT g hg).1 (hT g hg).2.1) _ _ hcs
  have hlm2 := hlm.fr (fun g hg => fR.block g (hT g hg).1 (hT g hg).2.1)
  have hks2 := hks.fr (fun g hg => fR.block g (hT g hg).1 (hT g hg).2.1)
  have hTm : ∀ g, Mix S W.heap.size w1.heap.size g → Mix S w.heap.size w1.heap.size g := fun g hg => hg.imp id (fun h => ⟨by omega, h.2⟩)
  generalize hV : w1.setRow w.heap.size #[.int .i64 k, .int .i64 i, .string ⟨t.toArray⟩, .slice la l.length lc, .slice ka ks.length kc] = V at *
  generalize hM : Mix S W.heap.size w1.heap.size = M at *
  rw [← hsV] at hT hTm
  have HB : Hid (∀ u, Fr NoB V u → Blk u w.heap.size 25 #[.int .i64 k, .int .i64 i, .string ⟨t.toArray⟩, .slice la l.length lc, .slice ka ks.length kc] ∧ Blk u (w.heap.size + 1) 25 zj) := Lib.hid (fun u fu => ⟨fu.blk B0b (fun e => e), fu.blk B1b (fun e => e)⟩)
  have HL := Lib.hid (And.intro hcs2 hlm2)
  have HK := Lib.hid hks2
  have HT := Lib.hid hT
  have HTM := Lib.hid hTm
  have st : TRows M V.heap.size (V.alloc (.cells #[] 25)) [] [] (.slice (some ⟨V.heap.size, 0, none⟩) 0 0) (.slice none 0 0) := TRows.list M V
  have fE : Fr NoB V (V.alloc (.cells #[] 25)) := (Fr.refl _ _).alloc _
  have hwV : w.heap.size + 2 ≤ V.heap.size := by omega
  clear hx0 hcs hlm hks hcs2 hlm2 hks2 hT hTm B0a B0b B1b g0 g1 fR hV hM HSO HW o1 f f1 hs1 hsV hsW
  go_wp2_with fail
  go_loopw [3, 4] (fun v3 v4 wr => ∃ m : Nat, m ≤ l.length ∧ v4 = .int .i64 m ∧ TRows M V.heap.size wr ((l.take m).map sortJ) [] v3 (.slice none 0 0) ∧ Fr NoB V wr) (fun _ v4 _ => l.length - (intOf v4).toNat)
  case atStart => exact ⟨0, Nat.zero_le _, rfl, st, fE⟩
  case round =>
    obtain ⟨m, hm, rfl, hst, hf⟩ := hrel
    obtain ⟨B0, B1⟩ := HB.out _ hf
    have d3 : wr.cell? ⟨w.heap.size, 3, none⟩ = some (.slice la l.length lc) := (B0.cell 3).trans rfl
    by_cases hlt : m < l.length
    · have k1 : (0 : Int) ≤ m := by omega
      have k2 : (m : Int) < l.length := by omega
      obtain ⟨hcs, hlm⟩ := HL.out
      obtain ⟨ga, oa, rfl, hcell⟩ := hlm.atS (fun g hg => (HT.out g hg).1) hf (by omega)
      obtain ⟨v0, v1, v2, v3, v4, p0, p1, p2, p3, p4, hat⟩ := RCells.get l cs m hlt hcs
      have e0 : wr.cell? ⟨ga, oa + m * 5, none⟩ = some v0 := hcell _ _ p0
      have e1 : wr.cell? ⟨ga, oa + m * 5 + 1, none⟩ = some v1 := hcell _ _ p1
      have e2 : wr.cell? ⟨ga, oa + m * 5 + 2, none⟩ = some v2 := hcell _ _ p2
      have e3 : wr.cell? ⟨ga, oa + m * 5 + 3, none⟩ = some v3 := hcell _ _ p3
      have e4 : wr.cell? ⟨ga, oa + m * 5 + 4, none⟩ = some v4 := hcell _ _ p4
      have HC := Lib.hid (HIH.out l[m] (List.getElem_mem hlt) M _ wr (fun g hg => Nat.lt_of_lt_of_le (HT.out g hg).1 hf.size) (RAt.fr (fun g hg => hf.block g (HT.out g hg).1 (fun e => e)) _ _ hat) (HOK.out _ (List.getElem_mem hlt)).1 (HOK.out _ (List.getElem_mem hlt)).2)
      have htk : (l.take (m + 1)).map sortJ = (l.take m).map sortJ ++ [sortJ l[m]] := by rw [(List.take_append_getElem hlt).symm, List.map_append]; rfl
      have HTK := Lib.hid htk
      have hml : ((l.take m).map sortJ).length ≤ l.length := by simp; omega
      clear hcell p0 p1 p2 p3 p4 hat hcs hlm htk B0 B1
      generalize sortJ l[m] = x at *
      generalize (l.take m).map sortJ = N at *
      obtain ⟨cs1, own1⟩ := hst.vals
      have hlv := hst.lts.1
      have hsw2 := hf.size
      go_wp2_with (first | (go_at_call 25; ((with_reducible refine HC.out.mono ?_); rintro e w2 ⟨u1, rfl, hu, f2⟩; obtain ⟨x0, x1, x2, x3, x4, rfl, o1⟩ := hu.form; have hs2 := f2.size; have fa : Fr NoB w2 (w2.alloc (.cells #[x0, x1, x2, x3, x4] 25)) := (Fr.refl NoB w2).alloc _; have s3 := (hst.fr f2).fr fa; have own3 := (f2.trans fa).row own1 (fun _ _ e => e))) | (at_builtin; go_loud (refine wpList_append_lies _ rfl _ _ 22 rfl V.heap.size 25 i1 (jV 0 0 [] (.slice none 0 0) (.slice none 0 0)) 5 80 Tryz.underlying22 hj0 hy0 hy1 hy2 rfl (by decide) u3 _ _ rfl own3 ⟨w2.heap.size, 0, none⟩ 1 1 [x0, x1, x2, x3, x4] rfl rfl (World.news_of_block (cs := #[x0, x1, x2, x3, x4]) (t := 25) (fr := (0, 0)) (heap_alloc_new w2 _)) (all5 o1) (by omega) (by unfold maxLen; omega) (by omega) (by simp; omega) (w2.heap.size + 1) (by simp) ?_; intro g cap w4 hown hgr hat hglt)))
      have st4 := s3.item (lo2 := wr.heap.size) (hi := w2.heap.size) (fun g hg => (HT.out g hg).1) (RAt.fr (fun g hg => fa.block g (by rcases hg with hg | hg; have := (HT.out g hg).1; omega; exact hg.2) (fun e => e)) _ _ hu) hsw2 (by simp) (by simp; omega) (fun g hg => (hlv g hg).2) (fun g hg => by simp [Value.ownBlock] at hg) g cap own3 hown hgr (by simpa using hat)
      have f4 : Fr NoB V w4 := ((hf.trans f2).trans fa).grown hgr (fun j hj hlt => absurd (hlv j hj).1 (by omega))
      go_roundw
      case rel => exact ⟨m + 1, by omega, by simp, by rw [HTK.out]; exact st4, f4⟩
      case measure => simp [intOf]; omega
    · obtain rfl : m = l.length := by omega
      rw [List.take_length] at hst
      obtain ⟨av, cv, hv⟩ := hst.lvs
      rw [List.length_map] at hv
      subst hv
      have z3 := B0.frozen 3
      have gN := B0.set_ 3 (.slice av l.length cv)
      have gM := B1.far (p := ⟨w.heap.size, 3, none⟩) (by simp) (.slice av l.length cv)
      have hone := one_json k i ⟨t.toArray⟩ av ka l.length cv ks.length kc
      have fX : Fr (fun g => g = w.heap.size ∨ g = w.heap.size + 1) wr ((wr.setCell ⟨w.heap.size, 3, none⟩ (.slice av l.length cv)).setRow (w.heap.size + 1) #[.int .i64 k, .int .i64 i, .string ⟨t.toArray⟩, .slice av l.length cv, .slice ka ks.length kc]) := ((Fr.refl _ wr).setCell (p := ⟨w.heap.size, 3, none⟩) (Or.inl rfl) _).setRow (w.heap.size + 1) _ (Or.inr (Or.inr rfl))
      have fN : Fr NoB w ((wr.setCell ⟨w.heap.size, 3, none⟩ (.slice av l.length cv)).setRow (w.heap.size + 1) #[.int .i64 k, .int .i64 i, .string ⟨t.toArray⟩, .slice av l.length cv, .slice ka ks.length kc]) := ((fV.trans hf).setCell_new (p := ⟨w.heap.size, 3, none⟩) (Nat.le_refl _) _).setRow (w.heap.size + 1) _ (Or.inl (by omega))
      have stF := hst.frX fX (fun g hg => ⟨fun e => by have := HT.out g e; omega, by omega⟩)
      obtain ⟨cs', q1, q2, _⟩ := stF.cells (b := V.heap.size) (Nat.le_refl _)
      have hks := HK.out
      have rN := gM.setRow #[.int .i64 k, .int .i64 i, .string ⟨t.toArray⟩, .slice av l.length cv, .slice ka ks.length kc]
      have hT := HT.out
      have hTM := HTM.out
      have hfs := hf.size
      have hfs2 := fX.size
      clear B0 B1 HB HL HIH HS HK hst stF st fE HT HTM
      go_wp2_with (first | (refine wpList_load_row rfl 25 _ rfl w.heap.size rfl 25 _ _ _ gN Tryz.underlying25 rfl size_json ?_) | (refine wpList_store_row rfl 25 _ _ rfl (w.heap.size + 1) #[.int .i64 k, .int .i64 i, .string ⟨t.toArray⟩, .slice av l.length cv, .slice ka ks.length kc] rfl rfl 25 zj gM size_json rfl hone ?_))
      refine bodyPost_ret (v := jV k i t (.slice av l.length cv) (.slice ka ks.length kc)) (json_back rfl _ _ (w.heap.size + 1) _ _ _ _ _ rfl rN) rfl ⟨_, rfl, ?_, fN⟩
      have hMix : ∀ g N, V.heap.size ≤ N → Mix M V.heap.size N g → Mix S w.heap.size N g := fun g N hN hg => by
        rcases hg with hg | hg
        · exact (hTM g hg).imp id (fun h => ⟨h.1, by omega⟩)
        · exact Or.inr ⟨by omega, hg.2⟩
      have hszN := Nat.le_trans hfs hfs2
      simp only [RAt]
      refine ⟨_, _, rfl, hk, hi, ht, RStrs.mono ((hks.fr (fun g hg => hf.block g (hT g hg).1 (fun e => e))).fr (fun g hg => fX.block g (Nat.lt_of_lt_of_le (hT g hg).1 hfs) (fun e => by have := hT g hg; omega))) (fun g hg => hMix g _ hszN (Or.inl hg)), by unfold big; simp; omega, cs', RCells.mono (fun g hg => hMix g _ hszN hg) _ _ q1, InMem.mono q2 (fun g hg => hMix g _ hszN hg)⟩
mutual
theorem AL_all : ∀ j : Jv, AL j
  | .mk k i t l ks => by
    intro S v w hS hat hok hsz
    have ih := ALs_all l
    obtain ⟨i', t', l', ks', e1, e2, e3⟩ := sort_srt hok
    obtain ⟨a0, a1, a2, a3, a4, rfl, _⟩ := hat.form
    have hsl : szL l ≤ 8388608 := by simp only [szJ] at hsz; omega
    rw [e2]
    refine all_mk k i' t' l' ks' S a0 a1 a2 a3 a4 w hS ?_ (fun u fu => ?_) (fun x hx => ih x (e3 x hx)) (fun x hx => ⟨(ok_mk hok).2 x (e3 x hx), by have := szL_mem (e3 x hx); omega⟩)
    · have hl := szL_len l
      by_cases h6 : k = 6
      · subst h6
        rw [srtJ, if_pos rfl] at e1
        cases e1
        rw [valsO_len]; omega
      · rw [srtJ, if_neg h6] at e1
        cases e1
        omega
    · rw [← e1]
      exact srt_any _ S _ u (fun g hg => Nat.lt_of_lt_of_le (hS g hg) fu.size) (RAt.fr (fun g hg => fu.block g (hS g hg) (fun e => e)) _ _ hat) hok hsz
theorem ALs_all : ∀ (l : List Jv), ∀ x ∈ l, AL x
  | [], x, hx => absurd hx (by simp)
  | j :: r, x, hx => by
    cases hx with
    | head => exact AL_all j
    | tail _ h => exact ALs_all r x h
end
/-- All, whole. -/
theorem rAll_any (j : Jv) (v : Value) (w : World) (hat : RAt (All w) w j v) (hok : okJ j = true) (hs : szJ j ≤ 8388608) : Calls Tryz.prog 25 #[v] w fun e w' => ∃ u, e = .returned u ∧ RAt (All w') w' (sortJ j) u ∧ Fr NoB w w' :=
  (AL_all j (All w) v w (fun _ h => h) hat hok hs).mono (fun _ _ ⟨u, h1, h2, h3⟩ => ⟨u, h1, RAt.mono (fun _ hg => hg.elim (fun h => Nat.lt_of_lt_of_le h h3.size) (fun h => h.2)) _ _ h2, h3⟩)
end Go.Proofs.YteeijmfnjcddmaaGreatDoor
