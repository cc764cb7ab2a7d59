/- JSON, the document's side: Sorted. -/
import Derived.Test.YteeijmfnjcddmaaGreatDoorTr
import Derived.Test.YteeijmfnjcddmaaGreatDoorTn
import Derived.Test.YteeijmfnjcddmaaGreatDoorSo
import Derived.Deep.RegionLaw
namespace Go.Proofs.YteeijmfnjcddmaaGreatDoor
open Go.RowKit

/-- How long the slice in a cell is. -/
def lenAt (w : World) (a : Addr) : Nat := match w.cell? a with | some (.slice _ n _) => n | _ => 0
/-- What Sorted's inner loop has chosen among the first places. -/
def Least (l : List Jv) (ks : List Bs) (m p : Nat) (z : Int) : Prop := (z < 0 ∧ ∀ x, x < p → ¬ beh l ks m x) ∨ ∃ q : Nat, q < p ∧ z = q ∧ beh l ks m q ∧ ∀ x, x < p → beh l ks m x → ¬ keyAt ks x < keyAt ks q

theorem bless : ∀ a b : Bs, Op.bytesLess a b = decide (a < b)
  | _, [] => by simp [Op.bytesLess]
  | [], b :: y => by simp [Op.bytesLess]
  | a :: x, b :: y => by
    rw [Op.bytesLess, bless x y]
    by_cases h : a < b
    · simp [h, List.cons_lt_cons_iff]
    · by_cases he : a = b
      · subst he
        simp
      · simp [h, he, List.cons_lt_cons_iff]
theorem least_new {l : List Jv} {ks : List Bs} {m p : Nat} {z : Int} (h : Least l ks m p z) (hb : beh l ks m p) (hz : z < 0 ∨ ∃ q : Nat, z = q ∧ keyAt ks p < keyAt ks q) : Least l ks m (p + 1) p := by
  refine Or.inr ⟨p, by omega, rfl, hb, fun x hx hbx hlt => ?_⟩
  rcases Nat.lt_or_ge x p with hxp | hxp
  · rcases h with ⟨_, h⟩ | ⟨q, _, hq, _, h⟩
    · exact h x hxp hbx
    · rcases hz with hz | ⟨q', hq', hz⟩
      · omega
      · have : q = q' := by omega
        subst this
        exact h x hxp hbx (bs_lt_trans hlt hz)
  · have : x = p := by omega
    subst this
    exact List.lt_irrefl _ hlt
theorem least_no {l : List Jv} {ks : List Bs} {m p : Nat} {z : Int} (h : Least l ks m p z) (hb : ¬ beh l ks m p) : Least l ks m (p + 1) z := by
  rcases h with ⟨hz, h⟩ | ⟨q, hq, hz, hbq, h⟩
  · refine Or.inl ⟨hz, fun x hx hbx => ?_⟩
    rcases Nat.lt_or_ge x p with hxp | hxp
    · exact h x hxp hbx
    · have : x = p := by omega
      subst this; exact hb hbx
  · refine Or.inr ⟨q, by omega, hz, hbq, fun x hx hbx => ?_⟩
    rcases Nat.lt_or_ge x p with hxp | hxp
    · exact h x hxp hbx
    · have : x = p := by omega
      subst this; exact absurd hbx hb
theorem least_keep {l : List Jv} {ks : List Bs} {m p q : Nat} (h : Least l ks m p q) (hlt : ¬ keyAt ks p < keyAt ks q) : Least l ks m (p + 1) q := by
  rcases h with ⟨hz, h⟩ | ⟨q', hq, hz, hbq, h⟩
  · omega
  · have : q = q' := by omega
    subst this
    refine Or.inr ⟨q, by omega, rfl, hbq, fun x hx hbx => ?_⟩
    rcases Nat.lt_or_ge x p with hxp | hxp
    · exact h x hxp hbx
    · have : x = p := by omega
      subst this; exact hlt
theorem least_end {l : List Jv} {ks : List Bs} (hl : ks.length = l.length) (hn : ks.Nodup) {m : Nat} {z : Int} (hm : m < l.length) (h : Least l ks m l.length z) : z = (plc l ks m : Int) := by
  rcases h with ⟨_, h⟩ | ⟨q, hq, hz, hbq, h⟩
  · exact absurd (beh_here hl hn hm) (h _ (plc_lt hm))
  · rw [hz, sel hl hn hm hq hbq h]

def behB (l : List Jv) (ks : List Bs) (m p : Nat) : Bool := decide (m = 0) || decide (keyAt (keysS l ks) (m - 1) < keyAt ks p)
theorem behB_iff {l : List Jv} {ks : List Bs} {m p : Nat} : behB l ks m p = true ↔ beh l ks m p := by simp [behB, beh]

set_option maxRecDepth 100000 in
set_option maxHeartbeats 6400000 in
theorem sorted_obj (l : List Jv) (ks : List Bs) (S : Nat → Prop) (i : Int) (t : Bs) (la ka : Option Addr) (lc kc : Nat) (w : World) (hS : ∀ g, S g → g < w.heap.size) (hks : RStrs S w ks (.slice ka ks.length kc))
    (cs : List Value) (hcs : RCells S w l cs) (hlm : InMem S w (.slice la l.length lc) l.length cs) (hll : l.length ≤ 8388608) (hkl : ks.length = l.length) (hnd : ks.Nodup) :
    Calls Tryz.prog 44 #[jV 6 i t (.slice la l.length lc) (.slice ka ks.length kc)] w fun e w' => ∃ u, e = .returned u ∧ RAt (Mix S w.heap.size w'.heap.size) w' (.mk 6 0 [] (valsO l ks) (keysS l ks)) u ∧ Fr NoB w w' := by
  obtain ⟨i1, hj0, hy0, hy1, hy2⟩ := info_parts info_json
  obtain ⟨i0, hi0, hz0, hz1, hz2⟩ := info_parts info_str
  rw [hkl] at hks ⊢
  have f : Fr NoB w (((w.alloc (.cells #[.int .i64 6, .int .i64 i, .string ⟨t.toArray⟩, .slice la l.length lc, .slice ka l.length kc] 25)).alloc (.cells zj 25)).alloc (.cells zj 25)) := (((Fr.refl _ _).alloc _).alloc _).alloc _
  have g0 : Blk (((w.alloc (.cells #[.int .i64 6, .int .i64 i, .string ⟨t.toArray⟩, .slice la l.length lc, .slice ka l.length kc] 25)).alloc (.cells zj 25)).alloc (.cells zj 25)) w.heap.size 25 #[.int .i64 6, .int .i64 i, .string ⟨t.toArray⟩, .slice la l.length lc, .slice ka l.length kc] := ((Blk.new w 25 _).alloc _).alloc _
  have g1 : Blk (((w.alloc (.cells #[.int .i64 6, .int .i64 i, .string ⟨t.toArray⟩, .slice la l.length lc, .slice ka l.length kc] 25)).alloc (.cells zj 25)).alloc (.cells zj 25)) (w.heap.size + 1) 25 zj := by
    have := (Blk.new (w.alloc (.cells #[.int .i64 6, .int .i64 i, .string ⟨t.toArray⟩, .slice la l.length lc, .slice ka l.length kc] 25)) 25 zj).alloc (.cells zj 25)
    simpa using this
  have g2 : Blk (((w.alloc (.cells #[.int .i64 6, .int .i64 i, .string ⟨t.toArray⟩, .slice la l.length lc, .slice ka l.length kc] 25)).alloc (.cells zj 25)).alloc (.cells zj 25)) (w.heap.size + 2) 25 zj := by
    have := Blk.new ((w.alloc (.cells #[.int .i64 6, .int .i64 i, .string ⟨t.toArray⟩, .slice la l.length lc, .slice ka l.length kc] 25)).alloc (.cells zj 25)) 25 zj
    simpa using this
  have hsW : (((w.alloc (.cells #[.int .i64 6, .int .i64 i, .string ⟨t.toArray⟩, .slice la l.length lc, .slice ka l.length kc] 25)).alloc (.cells zj 25)).alloc (.cells zj 25)).heap.size = w.heap.size + 3 := by simp
  generalize hW : (((w.alloc (.cells #[.int .i64 6, .int .i64 i, .string ⟨t.toArray⟩, .slice la l.length lc, .slice ka l.length kc] 25)).alloc (.cells zj 25)).alloc (.cells zj 25)) = W at f g0 g1 g2 hsW
  have HW := Lib.hid hW
  have W1 : World := (w.alloc (.cells #[.int .i64 6, .int .i64 i, .string ⟨t.toArray⟩, .slice la l.length lc, .slice ka l.length kc] 25)).alloc (.cells zj 25)
  have q0 : ((w.alloc (.cells #[.int .i64 6, .int .i64 i, .string ⟨t.toArray⟩, .slice la l.length lc, .slice ka l.length kc] 25)).alloc (.cells zj 25)).cell? ⟨w.heap.size, 0, none⟩ = some (.int .i64 6) := (((Blk.new w 25 #[.int .i64 6, .int .i64 i, .string ⟨t.toArray⟩, .slice la l.length lc, .slice ka l.length kc]).alloc (.cells zj 25)).cell 0).trans rfl
  clear W1
  have hone0 := one_json 6 0 ⟨#[]⟩ none none 0 0 0 0
  have fO := Fr.rowO W (w.heap.size + 2) #[.int .i64 6, .int .i64 0, .string ⟨#[]⟩, .slice none 0 0, .slice none 0 0]
  have G2 := g2.setRow #[.int .i64 6, .int .i64 0, .string ⟨#[]⟩, .slice none 0 0, .slice none 0 0]
  have G0 := fO.blk g0 (fun e => by have e' : w.heap.size = w.heap.size + 2 := e; omega)
  have G1 := fO.blk g1 (fun e => by have e' : w.heap.size + 1 = w.heap.size + 2 := e; omega)
  have fF : Fr NoB w (W.setRow (w.heap.size + 2) #[.int .i64 6, .int .i64 0, .string ⟨#[]⟩, .slice none 0 0, .slice none 0 0]) := f.setRow (w.heap.size + 2) _ (Or.inl (by omega))
  have hsV : (W.setRow (w.heap.size + 2) #[.int .i64 6, .int .i64 0, .string ⟨#[]⟩, .slice none 0 0, .slice none 0 0]).heap.size = w.heap.size + 3 := by rw [← hsW]; simp [World.setRow]
  generalize hV : W.setRow (w.heap.size + 2) #[.int .i64 6, .int .i64 0, .string ⟨#[]⟩, .slice none 0 0, .slice none 0 0] = V at fO G2 G0 G1 fF hsV
  have HV := Lib.hid hV
  have HB : Hid (∀ u, Fr (Only (w.heap.size + 2)) V u → Blk u w.heap.size 25 #[.int .i64 6, .int .i64 i, .string ⟨t.toArray⟩, .slice la l.length lc, .slice ka l.length kc] ∧ Blk u (w.heap.size + 1) 25 zj) := Lib.hid (fun u fu => ⟨fu.blk G0 (fun e => by have e' : w.heap.size = w.heap.size + 2 := e; omega), fu.blk G1 (fun e => by have e' : w.heap.size + 1 = w.heap.size + 2 := e; omega)⟩)
  have HL := Lib.hid (And.intro hcs hlm)
  have HKB := Lib.hid hks.2
  have HKM : Hid (InMem S w (.slice ka l.length kc) l.length (ks.map sV)) := Lib.hid (by have := hks.1; rwa [hkl] at this)
  have HS := Lib.hid hS
  have HKL := Lib.hid (And.intro hkl hnd)
  have st : TRows S (w.heap.size + 3) V ((valsO l ks).take 0) ((keysS l ks).take 0) (.slice none 0 0) (.slice none 0 0) := ⟨[], fun _ => False, World.ownsRow_nil _ _ _ _, World.ownsRow_nil _ _ _ _, by simp [RCells], fun _ h => h.elim, fun g hg => by simp [Value.ownBlock] at hg⟩
  have HFW : Hid (∀ u, Fr (Only (w.heap.size + 2)) V u → Fr NoB w u) := Lib.hid (fun u fu => fF.andThen fu (fun j hj e => by have e' : j = w.heap.size + 2 := e; omega))
  clear hW hV hcs hlm hks hS hkl hnd g0 g1 fO G0 G1
  go_enter Tryz.func44, Tryz.ntmps44
  go_wp2_with (first | (refine wpList_store_row rfl 25 _ _ rfl (w.heap.size + 2) #[.int .i64 6, .int .i64 0, .string ⟨#[]⟩, .slice none 0 0, .slice none 0 0] rfl rfl 25 zj g2 size_json rfl hone0 ?_; rw [HV.out]) | (rw [HW.out]))
  simp only [Act.put, Nat.add_assoc, Nat.reduceAdd]
  go_loopw [4] (fun _ wr => ∃ (m : Nat) (lv kv : Value), m ≤ l.length ∧ Blk wr (w.heap.size + 2) 25 #[.int .i64 6, .int .i64 0, .string ⟨#[]⟩, lv, kv] ∧ TRows S (w.heap.size + 3) wr ((valsO l ks).take m) ((keysS l ks).take m) lv kv ∧ Fr (Only (w.heap.size + 2)) V wr) (fun _ wr => l.length - lenAt wr ⟨w.heap.size + 2, 4, none⟩)
  case atStart => exact ⟨0, _, _, Nat.zero_le _, G2, st, Fr.refl _ _⟩
  case round =>
    obtain ⟨m, lv, kv, hm, B2, hst, hf⟩ := hrel
    obtain ⟨B0, B1⟩ := HB.out _ hf
    have d3 : wr.cell? ⟨w.heap.size, 3, none⟩ = some (.slice la l.length lc) := (B0.cell 3).trans rfl
    have d4 : wr.cell? ⟨w.heap.size, 4, none⟩ = some (.slice ka l.length kc) := (B0.cell 4).trans rfl
    have hkt : ((keysS l ks).take m).length = m := by rw [List.length_take, keysS_len]; omega
    have hlt' : ((valsO l ks).take m).length = m := by rw [List.length_take, valsO_len]; omega
    obtain ⟨ak, ck, hkv⟩ := hst.kvs
    rw [hkt] at hkv
    obtain ⟨al, cl, hlv⟩ := hst.lvs
    rw [hlt'] at hlv
    subst hkv hlv
    have o4 : wr.cell? ⟨w.heap.size + 2, 4, none⟩ = some (.slice ak m ck) := (B2.cell 4).trans rfl
    have o3 : wr.cell? ⟨w.heap.size + 2, 3, none⟩ = some (.slice al m cl) := (B2.cell 3).trans rfl
    by_cases hlt : m < l.length
    · have hL0 : Hid (lenAt wr ⟨w.heap.size + 2, 4, none⟩ = m) := Lib.hid (by unfold lenAt; rw [o4])
      have k2 : (m : Int) < l.length := by omega
      have hn0 : 0 < l.length := by omega
      have fw := HFW.out wr hf
      go_wp2_with fail
      go_loopw [4, 5] (fun v4 v5 wr2 => ∃ (p : Nat) (z : Int), p ≤ l.length ∧ v5 = .int .i64 p ∧ v4 = .int .i64 z ∧ Fr NoB wr wr2 ∧ Hid (Least l ks m p z)) (fun _ v5 _ => l.length - (intOf v5).toNat)
      case atStart => exact ⟨0, -1, Nat.zero_le _, rfl, rfl, Fr.refl _ _, Lib.hid (Or.inl ⟨by omega, fun x hx => by omega⟩)⟩
      case round =>
        obtain ⟨p, z, hp, rfl, rfl, h2, HLe⟩ := hrel
        have D4 := (h2.blk B0 (fun e => e)).five.2.2.2.2
        have O4 := (h2.blk B2 (fun e => e)).five.2.2.2.2
        obtain ⟨gk, ok, rfl, hkc⟩ := HKM.out.atS HS.out (fw.trans h2) hn0
        by_cases hpl : p < l.length
        · have k3 : (0 : Int) ≤ p := by omega
          have k4 : (p : Int) < l.length := by omega
          have hpk : p < ks.length := by rw [HKL.out.1]; exact hpl
          have ep := hkc p (sV ks[p]) (by simp [hpk])
          have ekp : ks[p] = keyAt ks p := by simp [keyAt, List.getD, hpk]
          rw [ekp] at ep
          have HEP : Hid (∀ u, Fr NoB wr u → u.cell? ⟨w.heap.size, 4, none⟩ = some (.slice (some ⟨gk, ok, none⟩) l.length kc) ∧ ∀ x, x < l.length → u.cell? ⟨gk, ok + x, none⟩ = some (sV (keyAt ks x))) := Lib.hid (fun u fu => by
            refine ⟨((h2.trans fu).blk B0 (fun e => e)).five.2.2.2.2, fun x hx => ?_⟩
            have hxk : x < ks.length := by rw [HKL.out.1]; exact hx
            obtain ⟨gk', ok', he, hkc'⟩ := HKM.out.atS HS.out ((fw.trans h2).trans fu) hn0
            simp only [Option.some.injEq, Addr.mk.injEq, and_true] at he
            obtain ⟨rfl, rfl⟩ := he
            have h := hkc' x (sV ks[x]) (by simp [hxk])
            rwa [show ks[x] = keyAt ks x by simp [keyAt, List.getD, hxk]] at h)
          clear ekp hkc
          go_upto_region 9 with fail
          go_cut [6] (fun v6 wx => v6 = .bool (behB l ks m p) ∧ Fr NoB wr wx)
          case first =>
            by_cases hm0 : m = 0
            · have HBH : Hid (behB l ks m p = true) := Lib.hid (behB_iff.2 (Or.inl hm0))
              have k12 : ((m : Int) == 0) = true := by simp [hm0]
              clear HLe HEP hm0
              generalize keyAt ks p = kp at *
              go_wp2_with fail
              go_quiet (fail)
              go_wp2_with fail
              go_meet
              exact ⟨by rw [HBH.out], (Fr.refl _ _).drewN _⟩
            · obtain ⟨m', hm'⟩ : ∃ m', m = m' + 1 := ⟨m - 1, by omega⟩
              have own := hst.keys
              obtain ⟨g2', rfl⟩ : ∃ g, ak = some ⟨g, 0, none⟩ := by
                rcases own.2 with ⟨e1, e2⟩ | ⟨g, c1, u1, e1, _⟩
                · rw [hkt] at e2; omega
                · simp only [Value.slice.injEq] at e1; exact ⟨g, e1.1⟩
              have hm'l : m' < ((keysS l ks).take m).length := by omega
              have hkm : ((keysS l ks).take m)[m'] = keyAt (keysS l ks) m' := by
                have : m' < (keysS l ks).length := by rw [keysS_len]; omega
                simp [keyAt, List.getD, this]
              have em : wr.cell? ⟨g2', m', none⟩ = some (sV (keyAt (keysS l ks) m')) := by
                have h := @World.ownsRow.cells _ _ _ _ _ _ _ own g2' rfl m' (sV (keyAt (keysS l ks) m')) (by rw [List.getElem?_map, List.getElem?_eq_getElem hm'l, hkm]; rfl)
                rw [add_at, Nat.zero_add] at h
                exact (h2.cell (p := ⟨g2', m', none⟩) (own.lt g2' rfl).2 (fun e => e)).trans h
              have HBH : Hid (behB l ks m p = decide (keyAt (keysS l ks) m' < keyAt ks p)) := Lib.hid (by unfold behB; rw [hm']; simp)
              clear hkm own
              have k5 : (0 : Int) ≤ m' := by omega
              have k6 : IntKind.i64.wrap (m' : Int) = m' := IntWalk.i64_in _ (by omega)
              have k6b : (m : Int) - 1 = m' := by omega
              have k7 : ((m : Int) == 0) = false := by simp; omega
              have k8 : (m' : Int) < m := by omega
              clear hm0 hm' HLe HEP
              by_cases hb' : keyAt (keysS l ks) m' < keyAt ks p
              · have hbl : Op.bytesLess (keyAt ks p) (keyAt (keysS l ks) m') = false := by rw [bless]; simp; exact fun e => List.lt_irrefl _ (bs_lt_trans hb' e)
                have hbe : (keyAt ks p == keyAt (keysS l ks) m') = false := by simp; intro e; rw [e] at hb'; exact List.lt_irrefl _ hb'
                have HBH2 : Hid (behB l ks m p = true) := Lib.hid (by rw [HBH.out]; simpa using hb')
                clear hb' HBH
                generalize keyAt (keysS l ks) m' = km at *
                generalize keyAt ks p = kp at *
                go_wp2_with fail
                go_quiet (fail)
                go_wp2_with fail
                go_meet
                exact ⟨by rw [HBH2.out], (Fr.refl _ _).drewN _⟩
              · have HBH2 : Hid (behB l ks m p = false) := Lib.hid (by rw [HBH.out]; simpa using hb')
                by_cases he : keyAt ks p = keyAt (keysS l ks) m'
                · have hbl : Op.bytesLess (keyAt ks p) (keyAt (keysS l ks) m') = false := by rw [bless, he]; simp
                  have hbe : (keyAt ks p == keyAt (keysS l ks) m') = true := by simpa using he
                  clear he hb' HBH
                  generalize keyAt (keysS l ks) m' = km at *
                  generalize keyAt ks p = kp at *
                  go_wp2_with fail
                  go_quiet (fail)
                  go_wp2_with fail
                  go_meet
                  exact ⟨by rw [HBH2.out], (Fr.refl _ _).drewN _⟩
                · have hbl : Op.bytesLess (keyAt ks p) (keyAt (keysS l ks) m') = true := by
                    rw [bless]
                    simp
                    exact bs_lt_of (List.not_lt.1 hb') he
                  clear he hb' HBH
                  generalize keyAt (keysS l ks) m' = km at *
                  generalize keyAt ks p = kp at *
                  go_wp2_with fail
                  go_quiet (fail)
                  go_wp2_with fail
                  go_meet
                  exact ⟨by rw [HBH2.out], (Fr.refl _ _).drewN _⟩
          case rest =>
            obtain ⟨rfl, f6⟩ := hcut
            obtain ⟨D4', hkx⟩ := HEP.out _ f6
            have ep' := hkx p hpl
            clear ep D4 O4
            have fz := h2.trans f6
            cases hbb : behB l ks m p with
            | false =>
              have HR := Lib.hid (least_no HLe.out (fun e => by rw [behB_iff.2 e] at hbb; cases hbb))
              clear HLe HEP hkx hbb
              generalize keyAt ks p = kp at *
              go_wp2_with fail
              go_quiet (fail)
              go_wp2_with fail
              go_roundw
              case rel => exact ⟨p + 1, z, by omega, by simp, rfl, fz.drewN _, HR⟩
              case measure => simp [intOf]; omega
            | true =>
              have hb := behB_iff.1 hbb
              clear hbb
              rcases HLe.out with ⟨hzn, _⟩ | ⟨q, hq, rfl, _, _⟩
              · have hz0' : z < 0 := hzn
                have HR := Lib.hid (least_new HLe.out hb (Or.inl hzn))
                clear HLe HEP hkx hb
                generalize keyAt ks p = kp at *
                go_wp2_with fail
                go_quiet (fail)
                go_wp2_with fail
                go_roundw
                case rel => exact ⟨p + 1, p, by omega, by simp, rfl, fz.drewN _, HR⟩
                case measure => simp [intOf]; omega
              · have k9 : (0 : Int) ≤ q := by omega
                have k10 : (q : Int) < l.length := by omega
                have k11 : ¬ (q : Int) < 0 := by omega
                have eq' := hkx q (by omega)
                by_cases hlq : keyAt ks p < keyAt ks q
                · have HR := Lib.hid (least_new HLe.out hb (Or.inr ⟨q, rfl, hlq⟩))
                  have hbl2 : Op.bytesLess (keyAt ks p) (keyAt ks q) = true := by rw [bless]; simpa using hlq
                  clear HLe hlq HEP hkx hb
                  generalize keyAt ks p = kp at *
                  generalize keyAt ks q = kq at *
                  go_wp2_with fail
                  go_quiet (fail)
                  go_wp2_with fail
                  go_roundw
                  case rel => exact ⟨p + 1, p, by omega, by simp, rfl, fz.drewN _, HR⟩
                  case measure => simp [intOf]; omega
                · have HR := Lib.hid (least_keep HLe.out hlq)
                  have hbl2 : Op.bytesLess (keyAt ks p) (keyAt ks q) = false := by rw [bless]; simpa using hlq
                  clear HLe hlq HEP hkx hb
                  generalize keyAt ks p = kp at *
                  generalize keyAt ks q = kq at *
                  go_wp2_with fail
                  go_quiet (fail)
                  go_wp2_with fail
                  go_roundw
                  case rel => exact ⟨p + 1, q, by omega, by simp, rfl, fz.drewN _, HR⟩
                  case measure => simp [intOf]; omega
        · obtain rfl : p = l.length := by omega
          obtain rfl : z = ((plc l ks m : Nat) : Int) := least_end HKL.out.1 HKL.out.2 hlt HLe.out
          have hql := plc_lt (ks := ks) hlt
          have hqk : plc l ks m < ks.length := by rw [HKL.out.1]; exact hql
          have HTK : Hid ((keysS l ks).take (m + 1) = (keysS l ks).take m ++ [keyAt ks (plc l ks m)]) := Lib.hid (by
            have hmk : m < (keysS l ks).length := by rw [keysS_len]; exact hlt
            rw [(List.take_append_getElem hmk).symm, keysS_at hlt hmk])
          have HTV : Hid ((valsO l ks).take (m + 1) = (valsO l ks).take m ++ [l[plc l ks m]]) := Lib.hid (by
            have hmk : m < (valsO l ks).length := by rw [valsO_len]; exact hlt
            rw [(List.take_append_getElem hmk).symm, valsO_at hlt hmk])
          have eq' := hkc (plc l ks m) (sV ks[plc l ks m]) (by simp [hqk])
          rw [show ks[plc l ks m] = keyAt ks (plc l ks m) by simp [keyAt, List.getD, hqk]] at eq'
          obtain ⟨hcs, hlm⟩ := HL.out
          obtain ⟨v0, v1, v2, v3, v4, p0, p1, p2, p3, p4, hatx⟩ := RCells.get l cs (plc l ks m) hql hcs
          obtain ⟨gl, ol, rfl, _⟩ := hlm.atS HS.out (fw.trans h2) hn0
          have HE : Hid (∀ u, Fr NoB w u → u.cell? ⟨gl, ol + plc l ks m * 5, none⟩ = some v0 ∧ u.cell? ⟨gl, ol + plc l ks m * 5 + 1, none⟩ = some v1 ∧ u.cell? ⟨gl, ol + plc l ks m * 5 + 2, none⟩ = some v2 ∧ u.cell? ⟨gl, ol + plc l ks m * 5 + 3, none⟩ = some v3 ∧ u.cell? ⟨gl, ol + plc l ks m * 5 + 4, none⟩ = some v4) := Lib.hid (fun u fu => by
            obtain ⟨ga', oa', he, hc'⟩ := hlm.atS HS.out fu hn0
            simp only [Option.some.injEq, Addr.mk.injEq, and_true] at he
            obtain ⟨rfl, rfl⟩ := he
            exact ⟨hc' _ _ p0, hc' _ _ p1, hc' _ _ p2, hc' _ _ p3, hc' _ _ p4⟩)
          have HAT : Hid (RAt S w l[plc l ks m] (.agg #[v0, v1, v2, v3, v4])) := Lib.hid hatx
          have o1 := all5 (all_one hatx.one)
          clear HLe hkc hcs hlm p0 p1 p2 p3 p4 hatx
          have k9 : (0 : Int) ≤ ((plc l ks m : Nat) : Int) := by omega
          have k10 : ((plc l ks m : Nat) : Int) < l.length := by omega
          have k11 : ¬ ((plc l ks m : Nat) : Int) < 0 := by omega
          generalize l[plc l ks m] = x at *
          generalize keyAt ks (plc l ks m) = key at *
          generalize plc l ks m = q at *
          generalize (keysS l ks).take m = Ks at *
          generalize (valsO l ks).take m = Vs at *
          have st1 := (hst.fr h2).fr ((Fr.refl NoB wr).drew)
          have fa : Fr NoB wr.drew (wr.drew.alloc (.cells #[.string ⟨key.toArray⟩] 9)) := (Fr.refl NoB wr.drew).alloc _
          have st2 := st1.fr fa
          have ownk := st2.keys
          rw [hkt] at ownk
          have hkb := st2.lts.2
          have B2' : Blk (wr.drew.alloc (.cells #[.string ⟨key.toArray⟩] 9)) (w.heap.size + 2) 25 #[.int .i64 6, .int .i64 0, .string ⟨#[]⟩, .slice al m cl, .slice ak m ck] := ((h2.blk B2 (fun e => e)).drew).alloc _
          have fA : Fr NoB _ (wr.drew.alloc (.cells #[.string ⟨key.toArray⟩] 9)) := h2.drew.trans fa
          have hsw : w.heap.size + 3 ≤ wr.heap.size := by rw [← hsV]; exact (hf.andThen h2 (fun _ _ e => e.elim)).size
          have cA : (wr.alloc (.cells #[sV key] 9)).cell? ⟨w.heap.size + 2, 4, none⟩ = some (.slice ak m ck) := (B2'.cell 4).trans rfl
          go_upto_region 14 with fail
          go_cut [] (fun wy => ∃ kv', Blk wy (w.heap.size + 2) 25 #[.int .i64 6, .int .i64 0, .string ⟨#[]⟩, .slice al m cl, kv'] ∧ TRows S (w.heap.size + 3) wy Vs (Ks ++ [key]) (.slice al m cl) kv' ∧ Fr (Only (w.heap.size + 2)) V wy)
          case first =>
            go_region_law (first | (refine step_append_lies _ (by rfl) _ _ _ (by rfl) (w.heap.size + 3) 9 i0 (.string ⟨#[]⟩) 1 16 Tryz.underlying23 hi0 hz0 hz1 hz2 (by rfl) (by decide) (.slice ak m ck) m (Ks.map sV) (by rfl) ownk ⟨wr.heap.size, 0, none⟩ 1 1 [sV key] (by rfl) (by rfl) (World.news_of_block (cs := #[.string ⟨key.toArray⟩]) (t := 9) (fr := (0, 0)) (heap_alloc_new wr.drew _)) (by intro u hu; rw [List.mem_singleton] at hu; subst hu; rfl) (by omega) (by unfold maxLen; omega) (by omega) (by simp; omega) (wr.heap.size + 1) (by simp) ?_; intro g cap w4 hown hgr hat hglt; have B5 : Blk w4 (w.heap.size + 2) 25 #[.int .i64 6, .int .i64 0, .string ⟨#[]⟩, .slice al m cl, .slice ak m ck] := (hgr.block (w.heap.size + 2) B2'.lt (fun e => by have := (hkb _ e.symm).1; omega)).trans B2'; have c5 := (B5.cell 4).trans (show _ = some (Value.slice ak m ck) from rfl); have z5 := B5.frozen 4))
            all_goals (go_wp2_with fail)
            all_goals go_meet
            all_goals (refine ⟨_, by simpa using B5.set_ 4 (.slice (some ⟨g, 0, none⟩) (m + 1) cap), ?_, ?_⟩)
            all_goals first
              | exact ((hf.andThen fA (fun _ _ e => e.elim)).grown hgr (fun j hj hlt => absurd (hkb j hj).1 (by omega))).only _
              | (have sK := (st2.key key g cap (by rw [hkt]; exact hown) hgr (by simpa using hat)).frX (X := Only (w.heap.size + 2)) ((Fr.refl _ w4).only (b := w.heap.size + 2) (o := 4) (.slice (some ⟨g, 0, none⟩) (m + 1) cap)) (fun y hy => by
                  have e : y = w.heap.size + 2 := hy
                  exact ⟨fun h => by have := HS.out y h; omega, by omega⟩)
                 rw [hkt] at sK
                 exact sK)
          case rest =>
            obtain ⟨kv', B3, st3, f3⟩ := hcut
            have fw3 := HFW.out wc f3
            obtain ⟨e0, e1, e2, e3, e4⟩ := HE.out wc fw3
            obtain ⟨B0', B1'⟩ := HB.out wc f3
            have D3 : wc.cell? ⟨w.heap.size, 3, none⟩ = some (.slice (some ⟨gl, ol, none⟩) l.length lc) := (B0'.cell 3).trans rfl
            have O3 : wc.cell? ⟨w.heap.size + 2, 3, none⟩ = some (.slice al m cl) := (B3.cell 3).trans rfl
            have fa2 : Fr NoB wc (wc.drew.alloc (.cells #[v0, v1, v2, v3, v4] 25)) := (Fr.refl NoB wc).drew.alloc _
            have st4 := st3.fr fa2
            obtain ⟨cs1, own1⟩ := st4.vals
            rw [hlt'] at own1
            obtain ⟨hlv, hkv⟩ := st3.lts
            obtain ⟨ak', ck', hk'⟩ := st3.kvs
            have hsw3 : w.heap.size + 3 ≤ wc.heap.size := by rw [← hsV]; exact f3.size
            have B4 : Blk (wc.drew.alloc (.cells #[v0, v1, v2, v3, v4] 25)) (w.heap.size + 2) 25 #[.int .i64 6, .int .i64 0, .string ⟨#[]⟩, .slice al m cl, kv'] := fa2.blk B3 (fun e => e)
            have cA3 : (wc.alloc (.cells #[v0, v1, v2, v3, v4] 25)).cell? ⟨w.heap.size + 2, 3, none⟩ = some (.slice al m cl) := (B4.cell 3).trans rfl
            have hjx : RAt (Mix S wc.heap.size wc.heap.size) (wc.drew.alloc (.cells #[v0, v1, v2, v3, v4] 25)) x (.agg #[v0, v1, v2, v3, v4]) := RAt.mono (fun y hy => Or.inl hy) _ _ (RAt.fr (fun y hy => (fw3.trans fa2).block y (HS.out y hy) (fun e => e)) _ _ HAT.out)
            clear B0' B1' D4 d3 d4 o3 o4 O4 eq' st1 st2 ownk B2' cA hst hkb
            go_wp2_with fail
            go_region_law (first | (refine step_append_lies _ (by rfl) _ _ _ (by rfl) (w.heap.size + 3) 25 i1 (jV 0 0 [] (.slice none 0 0) (.slice none 0 0)) 5 80 Tryz.underlying22 hj0 hy0 hy1 hy2 (by rfl) (by decide) (.slice al m cl) m cs1 (by rfl) own1 ⟨wc.heap.size, 0, none⟩ 1 1 [v0, v1, v2, v3, v4] (by rfl) (by rfl) (World.news_of_block (cs := #[v0, v1, v2, v3, v4]) (t := 25) (fr := (0, 0)) (heap_alloc_new wc.drew _)) o1 (by omega) (by unfold maxLen; omega) (by omega) (by simp; omega) (wc.heap.size + 1) (by simp) ?_; intro g cap w4 hown hgr hat hglt; have B5 : Blk w4 (w.heap.size + 2) 25 #[.int .i64 6, .int .i64 0, .string ⟨#[]⟩, .slice al m cl, kv'] := (hgr.block (w.heap.size + 2) B4.lt (fun e => by have := (hlv _ e.symm).1; omega)).trans B4; have c5 := (B5.cell 3).trans (show _ = some (Value.slice al m cl) from rfl); have z5 := B5.frozen 3))
            all_goals (go_wp2_with fail)
            all_goals (refine ⟨⟨m + 1, .slice (some ⟨g, 0, none⟩) (m + 1) cap, kv', by omega, by simpa using B5.set_ 3 (.slice (some ⟨g, 0, none⟩) (m + 1) cap), ?_, ?_⟩, ?_⟩)
            all_goals first
              | exact ((f3.andThen fa2 (fun _ _ e => e.elim)).grown hgr (fun j hj hlt => absurd (hlv j hj).1 (by omega))).only _
              | (have sI := (st4.item (lo2 := wc.heap.size) (hi := wc.heap.size) (fun y hy => by have := HS.out y hy; omega) hjx hsw3 (by simp) (by simp; omega) (fun y hy => (hlv y hy).2) (fun y hy => (hkv y hy).2) g cap (by rw [hlt']; exact own1) (by rw [hlt']; exact hown) hgr (by simpa using hat)).frX (X := Only (w.heap.size + 2)) ((Fr.refl _ w4).only (b := w.heap.size + 2) (o := 3) (.slice (some ⟨g, 0, none⟩) (m + 1) cap)) (fun y hy => by
                  have e : y = w.heap.size + 2 := hy
                  exact ⟨fun h => by have := HS.out y h; omega, by omega⟩)
                 rw [hlt'] at sI
                 rw [HTV.out, HTK.out]
                 exact sI)
              | (have hL1 : lenAt (w4.setCell ⟨w.heap.size + 2, 3, none⟩ (.slice (some ⟨g, 0, none⟩) (m + 1) cap)) ⟨w.heap.size + 2, 4, none⟩ = m + 1 := by
                  unfold lenAt
                  rw [((B5.set_ 3 (.slice (some ⟨g, 0, none⟩) (m + 1) cap)).cell 4).trans (show _ = some kv' from rfl), hk']
                  simp [hkt]
                 rw [hL1, hL0.out]
                 omega)
    · obtain rfl : m = l.length := by omega
      rw [show (valsO l ks).take l.length = valsO l ks by rw [← valsO_len l ks, List.take_length]] at hst
      rw [show (keysS l ks).take l.length = keysS l ks by rw [← keysS_len l ks, List.take_length]] at hst
      have hone := one_json 6 0 ⟨#[]⟩ al ak l.length cl l.length ck
      have fX : Fr (Only (w.heap.size + 1)) wr (wr.setRow (w.heap.size + 1) #[.int .i64 6, .int .i64 0, .string ⟨#[]⟩, .slice al l.length cl, .slice ak l.length ck]) := Fr.rowO _ _ _
      have fN : Fr NoB w (wr.setRow (w.heap.size + 1) #[.int .i64 6, .int .i64 0, .string ⟨#[]⟩, .slice al l.length cl, .slice ak l.length ck]) := (HFW.out wr hf).setRow (w.heap.size + 1) _ (Or.inl (by omega))
      have stF := hst.frX fX (fun y hy => by
        have e : y = w.heap.size + 1 := hy
        exact ⟨fun h => by have := HS.out y h; omega, by omega⟩)
      obtain ⟨cs', q1, q2, q3⟩ := stF.cells (b := w.heap.size) (by omega)
      have rN := B1.setRow #[.int .i64 6, .int .i64 0, .string ⟨#[]⟩, .slice al l.length cl, .slice ak l.length ck]
      have hKB := HKB.out
      have hKL := HKL.out
      clear HB HL HS HKB HKM HKL hst fX stF st
      go_wp2_with (first | (refine wpList_load_row rfl 25 _ rfl (w.heap.size + 2) rfl 25 _ _ _ B2 Tryz.underlying25 rfl size_json ?_) | (refine wpList_store_row rfl 25 _ _ rfl (w.heap.size + 1) #[.int .i64 6, .int .i64 0, .string ⟨#[]⟩, .slice al l.length cl, .slice ak l.length ck] rfl rfl 25 zj B1 size_json rfl hone ?_))
      refine bodyPost_ret (v := jV 6 0 [] (.slice al l.length cl) (.slice ak l.length ck)) (json_back rfl _ _ (w.heap.size + 1) _ _ _ _ _ rfl rN) rfl ⟨_, rfl, ?_, fN⟩
      simp only [RAt]
      rw [keysS_len] at q3
      rw [valsO_len] at q2
      exact ⟨_, _, rfl, by unfold IntOk; omega, by unfold IntOk; omega, by simp, ⟨by rw [keysS_len]; exact q3, by rw [keysS_len]; unfold big; omega, fun s hs => hKB.2 s ((keysS_perm hKL.1).mem_iff.1 hs)⟩, by rw [valsO_len]; unfold big; omega, cs', q1, by rw [valsO_len]; exact q2⟩
end Go.Proofs.YteeijmfnjcddmaaGreatDoor
