/- JSON, the document's side: Get, Texts, SameTexts. -/
import Derived.Test.YteeijmfnjcddmaaGreatDoorMe
namespace Go.Proofs.YteeijmfnjcddmaaGreatDoor
open Go.RowKit

/-- The first place of a key. -/
def idxP (ks : List Bs) (key : Bs) : Option Nat := ks.findIdx? (fun s => s == key)
/-- A place, or -1. -/
def placeI : Option Nat → Int | some n => n | none => -1
/-- What Get finds. -/
def getP : Jv → Bs → Option Jv
  | .mk k _ _ l ks, key => if k = 6 then (idxP ks key).bind (fun i => l[i]?) else none
/-- What Texts finds. -/
def textsP : Jv → Option (List Bs)
  | .mk k _ _ l _ => if k = 5 ∧ l.all (fun x => x.kind == 4) = true then some (l.map Jv.text) else none
def TxsIs (q : Option (List Bs)) (w : World) (e : Ending) (w' : World) : Prop :=
  ∃ tv, e = .returned (.tuple #[tv, .bool q.isSome]) ∧ w'.ownsRow w.heap.size 9 1 tv (q.getD []).length ((q.getD []).map sV) ∧ Fr NoB w w'

theorem own_empty (W : World) (base N : Nat) (t : TypeId) (size : Nat) (hN : W.heap.size = N) (hb : base ≤ N) : (W.alloc (.cells #[] t)).ownsRow base t size (.slice (some ⟨N, 0, none⟩) 0 0) 0 [] := by
  subst hN
  exact ⟨by simp, Or.inr ⟨_, 0, #[], rfl, hb, heap_alloc_new _ _, Nat.le_refl _, by unfold maxLen; omega, by simp, by simp⟩⟩
theorem own_mono {w : World} {lo hi : Nat} {e : TypeId} {size n : Nat} {v : Value} {xs : List Value} (h : w.ownsRow hi e size v n xs) (hle : lo ≤ hi) : w.ownsRow lo e size v n xs := by
  refine ⟨h.1, ?_⟩
  rcases h.2 with h2 | ⟨g, cap, cur, hv, hg, r⟩
  · exact Or.inl h2
  · exact Or.inr ⟨g, cap, cur, hv, Nat.le_trans hle hg, r⟩
theorem idx_here {ks : List Bs} {key : Bs} {m : Nat} (hm : m < ks.length) (h : ks[m] = key) (hb : ∀ p, idxP ks key = some p → m ≤ p) : idxP ks key = some m := by
  unfold idxP at *
  cases hx : ks.findIdx? (fun s => s == key) with
  | none =>
    rw [List.findIdx?_eq_none_iff] at hx
    have := hx ks[m] (List.getElem_mem hm)
    simp [h] at this
  | some p =>
    have h1 := hb p hx
    rw [List.findIdx?_eq_some_iff_getElem] at hx
    obtain ⟨hp, _, h3⟩ := hx
    rcases Nat.lt_or_ge m p with hlt | hge
    · have := h3 m hlt; simp [h] at this
    · have : p = m := by omega
      rw [this]
theorem idx_next {ks : List Bs} {key : Bs} {m : Nat} (hm : m < ks.length) (h : ks[m] ≠ key) (hb : ∀ p, idxP ks key = some p → m ≤ p) : ∀ p, idxP ks key = some p → m + 1 ≤ p := by
  intro p hp
  have h1 := hb p hp
  unfold idxP at hp
  rw [List.findIdx?_eq_some_iff_getElem] at hp
  obtain ⟨hl, h2, _⟩ := hp
  rcases Nat.lt_or_ge m p with hlt | hge
  · exact hlt
  · have : p = m := by omega
    subst this
    exact absurd (by simpa using h2) h
theorem idx_lt {ks : List Bs} {key : Bs} {p : Nat} (h : idxP ks key = some p) : p < ks.length := by
  unfold idxP at h
  rw [List.findIdx?_eq_some_iff_getElem] at h
  exact h.1

set_option maxRecDepth 100000 in
set_option maxHeartbeats 3200000 in
theorem sameTexts_any (ks : List Bs) (va vb : Value) (w : World) (ha : RStrs (All w) w ks va) (hb : RStrs (All w) w ks vb) : Calls Tryz.prog 24 #[va, vb] w fun e w' => e = .returned (.bool true) ∧ Fr NoB w w' := by
  obtain ⟨ka, c3, rfl⟩ := ha.1.sl
  obtain ⟨kb, c4, rfl⟩ := hb.1.sl
  have hkl := ha.2.1
  unfold big at hkl
  have HA := Lib.hid (And.intro ha.1 hb.1)
  clear ha hb
  go_enter Tryz.func24, Tryz.ntmps24
  go_wp2_with fail
  go_loopw [5] (fun v wr => ∃ m : Nat, m ≤ ks.length ∧ v = .int .i64 m ∧ Fr NoB w wr) (fun v _ => ks.length - (intOf v).toNat)
  case atStart => exact ⟨0, Nat.zero_le _, rfl, Fr.refl _ _⟩
  case round =>
    obtain ⟨m, hm, rfl, hf⟩ := hrel
    by_cases hlt : m < ks.length
    · obtain ⟨ga, oa, rfl, ha⟩ := HA.out.1.at_ hf (by omega)
      obtain ⟨gb, ob, rfl, hb⟩ := HA.out.2.at_ hf (by omega)
      have da := ha m (sV ks[m]) (by simp [hlt])
      have db := hb m (sV ks[m]) (by simp [hlt])
      generalize ks[m] = q at da db
      clear ha hb
      have i1 : (0 : Int) ≤ m := by omega
      have i2 : (m : Int) < ks.length := by omega
      go_wp2_with fail
      go_quiet (fail)
      go_wp2_with fail
      go_roundw
      case rel => exact ⟨m + 1, by omega, by simp, hf.drewN _⟩
      case measure => simp [intOf]; omega
    · obtain rfl : m = ks.length := by omega
      go_wp2_with fail
      go_ret
      exact ⟨rfl, hf⟩

set_option maxRecDepth 100000 in
set_option maxHeartbeats 3200000 in
theorem rget_any (j : Jv) (v : Value) (key : Bs) (w : World) (hat : RAt (All w) w j v) :
    Calls Tryz.prog 21 #[v, .string ⟨key.toArray⟩] w fun e w' => ∃ u, e = .returned (.tuple #[u, .bool (getP j key).isSome]) ∧ RAt (All w) w' ((getP j key).getD Jv.nul) u ∧ Fr NoB w w' := by
  cases j with
  | mk k i t l ks =>
  simp only [RAt] at hat
  obtain ⟨lv, kv, rfl, hk, hi, ht, hks, hl, cs, hcs, hlm⟩ := hat
  obtain ⟨la, lc, rfl⟩ := hlm.sl
  obtain ⟨ka, kc, rfl⟩ := hks.1.sl
  have hkl := hks.2.1
  unfold big at hl hkl
  have hgp : getP (.mk k i t l ks) key = if k = 6 then (idxP ks key).bind (fun i => l[i]?) else none := rfl
  rw [hgp]
  generalize hQ : (if k = 6 then (idxP ks key).bind (fun i => l[i]?) else none) = q
  have HQ := Lib.hid hQ
  clear hQ hgp
  have f : Fr NoB w ((w.alloc (.cells #[.int .i64 k, .int .i64 i, .string ⟨t.toArray⟩, .slice la l.length lc, .slice ka ks.length kc] 25)).alloc (.cells zj 25)) := ((Fr.refl _ _).alloc _).alloc _
  have g0 : Blk ((w.alloc (.cells #[.int .i64 k, .int .i64 i, .string ⟨t.toArray⟩, .slice la l.length lc, .slice ka ks.length kc] 25)).alloc (.cells zj 25)) w.heap.size 25 #[.int .i64 k, .int .i64 i, .string ⟨t.toArray⟩, .slice la l.length lc, .slice ka ks.length kc] := (Blk.new w 25 _).alloc _
  have g1 : Blk ((w.alloc (.cells #[.int .i64 k, .int .i64 i, .string ⟨t.toArray⟩, .slice la l.length lc, .slice ka ks.length kc] 25)).alloc (.cells zj 25)) (w.heap.size + 1) 25 zj := by
    have := Blk.new (w.alloc (.cells #[.int .i64 k, .int .i64 i, .string ⟨t.toArray⟩, .slice la l.length lc, .slice ka ks.length kc] 25)) 25 zj
    simpa using this
  generalize hW : (w.alloc (.cells #[.int .i64 k, .int .i64 i, .string ⟨t.toArray⟩, .slice la l.length lc, .slice ka ks.length kc] 25)).alloc (.cells zj 25) = W at f g0 g1
  have HW := Lib.hid hW
  have c0 : W.cell? ⟨w.heap.size, 0, none⟩ = some (.int .i64 k) := (g0.cell 0).trans rfl
  have c3 : W.cell? ⟨w.heap.size, 3, none⟩ = some (.slice la l.length lc) := (g0.cell 3).trans rfl
  have c4 : W.cell? ⟨w.heap.size, 4, none⟩ = some (.slice ka ks.length kc) := (g0.cell 4).trans rfl
  have hone : (zj.all (·.oneCell')) = true := one_json _ _ _ _ _ _ _ _ _
  clear hW g0
  by_cases h6 : k = 6
  · subst h6
    have HL := Lib.hid (And.intro hcs (And.intro hlm hks.1))
    clear hcs hlm hks
    go_enter Tryz.func21, Tryz.ntmps21
    go_wp2_with (rw [HW.out])
    go_loopw [6] (fun v6 wr => ∃ m : Nat, m ≤ ks.length ∧ v6 = .int .i64 m ∧ wr = W ∧ Hid (∀ p, idxP ks key = some p → m ≤ p)) (fun v6 _ => ks.length - (intOf v6).toNat)
    case atStart => exact ⟨0, Nat.zero_le _, rfl, rfl, Lib.hid (fun _ _ => Nat.zero_le _)⟩
    case round =>
      obtain ⟨m, hm, rfl, rfl, HI⟩ := hrel
      by_cases hlt : m < ks.length
      · have i1 : (0 : Int) ≤ m := by omega
        have i2 : (m : Int) < ks.length := by omega
        by_cases hll : m < l.length
        · have i3 : (m : Int) < l.length := by omega
          obtain ⟨hcs, hlm, hkm⟩ := HL.out
          obtain ⟨gk, ok, rfl, hkc⟩ := hkm.at_ f (by omega)
          obtain ⟨gl, ol, rfl, hlc⟩ := hlm.at_ f (by omega)
          have dk := hkc m (sV ks[m]) (by simp [hlt])
          clear hkc hkm
          by_cases hq : ks[m] = key
          · have hidx := idx_here hlt hq HI.out
            obtain rfl : some l[m] = q := by rw [← HQ.out]; simp [hidx, hll]
            clear HQ hidx HL HI
            rw [hq] at dk
            obtain ⟨v0, v1, v2, v3, v4, a0, a1, a2, a3, a4, hatx⟩ := RCells.get l cs m hll hcs
            have d0 : wr.cell? ⟨gl, ol + m * 5, none⟩ = some v0 := hlc _ _ a0
            have d1 : wr.cell? ⟨gl, ol + m * 5 + 1, none⟩ = some v1 := hlc _ _ a1
            have d2 : wr.cell? ⟨gl, ol + m * 5 + 2, none⟩ = some v2 := hlc _ _ a2
            have d3 : wr.cell? ⟨gl, ol + m * 5 + 3, none⟩ = some v3 := hlc _ _ a3
            have d4 : wr.cell? ⟨gl, ol + m * 5 + 4, none⟩ = some v4 := hlc _ _ a4
            have h1c := all_one hatx.one
            clear hlc a0 a1 a2 a3 a4 hone hq
            go_wp2_with (refine wpList_store_row rfl 25 _ _ rfl (w.heap.size + 1) #[v0, v1, v2, v3, v4] rfl rfl 25 zj g1 size_json rfl h1c ?_)
            have fS := f.setRow (w.heap.size + 1) #[v0, v1, v2, v3, v4] (Or.inl (by omega))
            exact bodyPost_ret (v := .tuple #[.agg #[v0, v1, v2, v3, v4], .bool true]) (get_back rfl _ _ (w.heap.size + 1) _ _ _ _ _ _ rfl rfl (g1.setRow #[v0, v1, v2, v3, v4])) rfl ⟨_, rfl, RAt.fr (fun g hg => fS.block g hg (fun e => e)) _ _ hatx, fS⟩
          · have hq2 : (ks[m] == key) = false := by simpa using hq
            have hq3 : ¬ ((⟨(ks[m]).toArray⟩ : ByteArray) = ⟨key.toArray⟩) := by simpa [ba_inj] using hq
            have HI2 := Lib.hid (idx_next hlt hq HI.out)
            clear hlc hlm hcs HI
            generalize ks[m] = qk at dk hq hq2 hq3
            go_wp2_with fail
            go_roundw
            case rel => exact ⟨m + 1, by omega, by simp, trivial, HI2⟩
            case measure => simp [intOf]; omega
        · have i3 : ¬ (m : Int) < l.length := by omega
          have hb : (idxP ks key).bind (fun i => l[i]?) = none := by
            cases hx : idxP ks key with
            | none => rfl
            | some p => have := HI.out p hx; simp; omega
          obtain rfl : none = q := by rw [← HQ.out]; simp [hb]
          clear hb HQ
          go_wp2_with (refine wpList_store_row rfl 25 _ _ rfl (w.heap.size + 1) zj rfl rfl 25 zj g1 size_json rfl hone ?_)
          exact bodyPost_ret (v := .tuple #[jV 0 0 [] (.slice none 0 0) (.slice none 0 0), .bool false]) (get_back rfl _ _ (w.heap.size + 1) _ _ _ _ _ _ rfl rfl (g1.setRow zj)) rfl ⟨_, rfl, nul_at _ _, f.setRow (w.heap.size + 1) _ (Or.inl (by omega))⟩
      · have i2 : ¬ (m : Int) < ks.length := by omega
        have hb : (idxP ks key).bind (fun i => l[i]?) = none := by
          cases hx : idxP ks key with
          | none => rfl
          | some p => have := HI.out p hx; have := idx_lt hx; omega
        obtain rfl : none = q := by rw [← HQ.out]; simp [hb]
        clear hb HQ
        go_wp2_with (refine wpList_store_row rfl 25 _ _ rfl (w.heap.size + 1) zj rfl rfl 25 zj g1 size_json rfl hone ?_)
        exact bodyPost_ret (v := .tuple #[jV 0 0 [] (.slice none 0 0) (.slice none 0 0), .bool false]) (get_back rfl _ _ (w.heap.size + 1) _ _ _ _ _ _ rfl rfl (g1.setRow zj)) rfl ⟨_, rfl, nul_at _ _, f.setRow (w.heap.size + 1) _ (Or.inl (by omega))⟩
  · obtain rfl : none = q := by rw [← HQ.out, if_neg h6]
    clear HQ
    go_enter Tryz.func21, Tryz.ntmps21
    go_wp2_with (first | (rw [HW.out]; refine wpList_store_row rfl 25 _ _ rfl (w.heap.size + 1) zj rfl rfl 25 zj g1 size_json rfl hone ?_) | (refine wpList_store_row rfl 25 _ _ rfl (w.heap.size + 1) zj rfl rfl 25 zj g1 size_json rfl hone ?_) | (rw [HW.out]))
    exact bodyPost_ret (v := .tuple #[jV 0 0 [] (.slice none 0 0) (.slice none 0 0), .bool false]) (get_back rfl _ _ (w.heap.size + 1) _ _ _ _ _ _ rfl rfl (g1.setRow zj)) rfl ⟨_, rfl, nul_at _ _, f.setRow (w.heap.size + 1) _ (Or.inl (by omega))⟩

set_option maxRecDepth 100000 in
set_option maxHeartbeats 3200000 in
theorem rtexts_any (j : Jv) (v : Value) (w : World) (hat : RAt (All w) w j v) (hln : j.list.length ≤ 4398046511104) :
    Calls Tryz.prog 23 #[v] w (TxsIs (textsP j) w) := by
  obtain ⟨i0, hi0, hz0, hz1, hz2⟩ := info_parts info_str
  cases j with
  | mk k i t l ks =>
  have hl0 : l.length ≤ 4398046511104 := hln
  clear hln
  simp only [RAt] at hat
  obtain ⟨lv, kv, rfl, hk, hi, ht, hks, hl, cs, hcs, hlm⟩ := hat
  obtain ⟨la, lc, rfl⟩ := hlm.sl
  have f0 : Fr NoB w (w.alloc (.cells #[.int .i64 k, .int .i64 i, .string ⟨t.toArray⟩, .slice la l.length lc, kv] 25)) := (Fr.refl _ _).alloc _
  have g0 := Blk.new w 25 #[.int .i64 k, .int .i64 i, .string ⟨t.toArray⟩, .slice la l.length lc, kv]
  have hs : (w.alloc (.cells #[.int .i64 k, .int .i64 i, .string ⟨t.toArray⟩, .slice la l.length lc, kv] 25)).heap.size = w.heap.size + 1 := by simp
  generalize hW : w.alloc (.cells #[.int .i64 k, .int .i64 i, .string ⟨t.toArray⟩, .slice la l.length lc, kv] 25) = W at f0 g0 hs
  have HW := Lib.hid hW
  have c0 : W.cell? ⟨w.heap.size, 0, none⟩ = some (.int .i64 k) := (g0.cell 0).trans rfl
  have HC3 : Hid (∀ u, Fr NoB W u → u.cell? ⟨w.heap.size, 3, none⟩ = some (.slice la l.length lc)) := Lib.hid (fun u f => ((f.blk g0 (fun e => e)).cell 3).trans rfl)
  clear hW
  have hT : textsP (.mk k i t l ks) = if k = 5 ∧ l.all (fun x => x.kind == 4) = true then some (l.map Jv.text) else none := rfl
  rw [hT]
  clear hT
  generalize hQ : (if k = 5 ∧ l.all (fun x => x.kind == 4) = true then some (l.map Jv.text) else none) = q
  have HQ := Lib.hid hQ
  clear hQ
  by_cases h5 : k = 5
  · subst h5
    have HL := Lib.hid (And.intro hcs hlm)
    clear hcs hlm
    have ho0 : (W.alloc (.cells #[] 9)).ownsRow W.heap.size 9 1 (.slice (some ⟨w.heap.size + 1, 0, none⟩) 0 0) 0 [] := own_empty W _ _ _ _ hs (by omega)
    have fE : Fr NoB W (W.alloc (.cells #[] 9)) := (Fr.refl _ _).alloc _
    go_enter Tryz.func23, Tryz.ntmps23
    go_wp2_with (rw [HW.out])
    go_loopw [4, 5] (fun v4 v5 wr => ∃ m : Nat, m ≤ l.length ∧ v5 = .int .i64 m ∧ wr.ownsRow W.heap.size 9 1 v4 m ((l.take m).map (fun x => sV x.text)) ∧ Fr NoB W wr ∧ Hid ((l.take m).all (fun x => x.kind == 4) = true)) (fun _ v5 _ => l.length - (intOf v5).toNat)
    case atStart => exact ⟨0, Nat.zero_le _, rfl, by simpa [hs] using ho0, fE, Lib.hid rfl⟩
    case round =>
      obtain ⟨m, hm, rfl, hown, hf, HA⟩ := hrel
      have c3 := HC3.out _ hf
      by_cases hlt : m < l.length
      · have i1 : (0 : Int) ≤ m := by omega
        have i2 : (m : Int) < l.length := by omega
        obtain ⟨hcs, hlm⟩ := HL.out
        obtain ⟨g, o, rfl, hcell⟩ := hlm.at_ (f0.trans hf) (by omega)
        obtain ⟨v0, v1, v2, v3, v4', a0, a1, a2, a3, a4, hat⟩ := RCells.get l cs m hlt hcs
        have d0 : wr.cell? ⟨g, o + m * 5, none⟩ = some v0 := hcell _ _ a0
        have d2 : wr.cell? ⟨g, o + m * 5 + 2, none⟩ = some v2 := hcell _ _ a2
        have htk : l.take (m + 1) = l.take m ++ [l[m]] := (List.take_append_getElem hlt).symm
        have hmm : l[m] ∈ l := List.getElem_mem hlt
        obtain ⟨rfl, rfl, rfl, htl⟩ := hat.get5
        clear hcell a0 a1 a2 a3 a4 hcs hat hlm
        have HTK := Lib.hid htk
        clear htk
        generalize l[m] = x at *
        by_cases hx4 : x.kind = 4
        · have HK4 := Lib.hid hx4
          rw [hx4] at d0
          clear hx4
          have HO := Lib.hid (((Fr.refl NoB wr).alloc (.cells #[.string ⟨x.text.toArray⟩] 9)).row hown (fun _ _ e => e))
          have hsW : w.heap.size ≤ wr.heap.size := (f0.trans hf).size
          clear hown
          go_wp2_with (at_builtin; go_loud (refine wpList_append_own _ rfl _ _ 23 rfl W.heap.size 9 i0 (.string ⟨#[]⟩) 1 16 Tryz.underlying23 hi0 hz0 hz1 hz2 rfl (by decide) _ _ _ rfl HO.out ⟨wr.heap.size, 0, none⟩ 1 1 [.string ⟨x.text.toArray⟩] rfl rfl (by intro j u hj; match j, hj with | 0, hj => simp at hj; subst hj; simp [Addr.add]) (by intro u hu; rw [List.mem_singleton] at hu; subst hu; rfl) (by unfold maxLen; omega) (by omega) (by simp; omega) ?_; intro v' w5 hown' hgrow hnew))
          have f5 : Fr NoB W w5 := (hf.alloc (.cells #[.string ⟨x.text.toArray⟩] 9)).grown hgrow (fun k hk hlt => absurd (HO.out.lt k hk).1 (by omega))
          go_roundw
          case rel => exact ⟨m + 1, by omega, by simp, by rw [HTK.out, List.map_append]; exact hown', f5, Lib.hid (by rw [HTK.out, List.all_append, HA.out]; simp [HK4.out])⟩
          case measure => simp [intOf]; omega
        · have hxb : (x.kind == 4) = false := by simpa using hx4
          have hall : l.all (fun x => x.kind == 4) = false := by
            cases ha : l.all (fun x => x.kind == 4)
            · rfl
            · have := List.all_eq_true.1 ha x hmm; simp [hxb] at this
          obtain rfl : none = q := by rw [← HQ.out, if_neg (fun h => by rw [hall] at h; cases h.2)]
          clear HQ hall
          go_wp2_with fail
          go_ret2
          exact ⟨_, rfl, World.ownsRow_nil _ _ _ _, f0.trans hf⟩
      · obtain rfl : m = l.length := by omega
        have hA := HA.out
        rw [List.take_length] at hA hown
        obtain rfl : some (l.map Jv.text) = q := by rw [← HQ.out, if_pos ⟨by first | trivial | rfl, hA⟩]
        clear HQ hA
        go_wp2_with fail
        go_ret2
        exact ⟨_, rfl, own_mono (by simpa [Function.comp_def] using hown) f0.size, f0.trans hf⟩
  · obtain rfl : none = q := by rw [← HQ.out, if_neg (fun (h : k = 5 ∧ _) => h5 h.1)]
    clear HQ
    go_enter Tryz.func23, Tryz.ntmps23
    go_wp2_with (rw [HW.out])
    go_ret2
    exact ⟨_, rfl, World.ownsRow_nil _ _ _ _, f0⟩
end Go.Proofs.YteeijmfnjcddmaaGreatDoor
