/- JSON: Texts: those of a list of texts. -/
import Derived.Test.YteeijmfnjcddmaaGreatDoorLg
namespace Go.Proofs.YteeijmfnjcddmaaGreatDoor
open Go.RowKit

/-- What Texts finds. -/
def textsP : Jv → Option (List Bs)
  | .mk k _ _ l _ => if k = 5 ∧ l.all (fun x => x.kind == 4) = true then some (l.map Jv.text) else none
def TxsIs (q : Option (List Bs)) (w : World) (e : Ending) (w' : World) : Prop :=
  ∃ tv, e = .returned (.tuple #[tv, .bool q.isSome]) ∧ w'.ownsRow w.heap.size 9 1 tv (q.getD []).length ((q.getD []).map sV) ∧ Fr NoB w w'
theorem own_old {w : World} {B sz n : Nat} {e : TypeId} {v : Value} {xs : List Value} (h : w.ownsRow B e sz v n xs) {k : Nat} (hk : v.ownBlock = some k) : B ≤ k := by
  rcases h.2 with ⟨rfl, _⟩ | ⟨g, cap, cur, rfl, hg, _⟩
  · cases hk
  · cases hk; exact hg
theorem RAt.get5 {S : Nat → Prop} {w : World} {x : Jv} {v0 v1 v2 v3 v4 : Value} (h : RAt S w x (.agg #[v0, v1, v2, v3, v4])) : v0 = .int .i64 x.kind ∧ v1 = .int .i64 x.int ∧ v2 = .string ⟨x.text.toArray⟩ ∧ x.text.length ≤ big := by
  cases x with
  | mk k i t l ks =>
    simp only [RAt] at h
    obtain ⟨lv, kv, h1, h2, h3, h4, h5, h6, cs, h7, h8⟩ := h
    simp only [jV, Value.agg.injEq, Array.mk.injEq, List.cons.injEq, and_true] at h1
    obtain ⟨rfl, rfl, rfl, rfl, rfl⟩ := h1
    exact ⟨rfl, rfl, rfl, h4⟩

set_option maxRecDepth 100000 in
set_option maxHeartbeats 3200000 in
theorem texts_any (S : Nat → Prop) (j : Jv) (v : Value) (w : World) (hS : ∀ g, S g → g < w.heap.size) (hat : RAt S w j v) (hln : j.list.length ≤ 4398046511104) :
    Calls Tryz.prog 22 #[v] w (TxsIs (textsP j) w) := by
  obtain ⟨i0, hi0, hz0, hz1, hz2⟩ := info_parts info_str
  cases j with
  | mk k i t l ks =>
  have hl0 : l.length ≤ 4398046511104 := hln
  clear hln
  simp only [RAt] at hat
  obtain ⟨lv, kv, rfl, hk, hi, ht, hks, hl, cs, hcs, hlm⟩ := hat
  obtain ⟨la, lc, rfl⟩ : ∃ a c, lv = .slice a l.length c := by
    rcases hlm with ⟨h0, a, c, rfl⟩ | ⟨g, o, c, rfl, hg, hc⟩
    · exact ⟨a, c, by rw [h0]⟩
    · exact ⟨_, c, rfl⟩
  have f0 : Fr NoB w (w.alloc (.cells #[.int .i64 k, .int .i64 i, .string ⟨t.toArray⟩, .slice la l.length lc, kv] 25)) := (Fr.refl _ _).alloc _
  have g0 := Blk.new w 25 #[.int .i64 k, .int .i64 i, .string ⟨t.toArray⟩, .slice la l.length lc, kv]
  generalize hW : w.alloc (.cells #[.int .i64 k, .int .i64 i, .string ⟨t.toArray⟩, .slice la l.length lc, kv] 25) = W at f0 g0
  have HW := Lib.hid hW
  have c0 : W.cell? ⟨w.heap.size, 0, none⟩ = some (.int .i64 k) := (g0.cell 0).trans rfl
  have c3 : W.cell? ⟨w.heap.size, 3, none⟩ = some (.slice la l.length lc) := (g0.cell 3).trans rfl
  clear hW
  have hT : textsP (.mk k i t l ks) = if k = 5 ∧ l.all (fun x => x.kind == 4) = true then some (l.map Jv.text) else none := rfl
  rw [hT]
  clear hT
  generalize hQ : (if k = 5 ∧ l.all (fun x => x.kind == 4) = true then some (l.map Jv.text) else none) = q
  have HQ := Lib.hid hQ
  clear hQ
  by_cases h5 : k = 5
  · subst h5
    have HL := Lib.hid (And.intro hcs hlm)
    clear hcs hlm
    go_enter Tryz.func22, Tryz.ntmps22
    go_wp2_with (rw [HW.out])
    go_loopw [4, 13] (fun v4 v13 wr => ∃ m : Nat, m ≤ l.length ∧ v13 = .int .i64 m ∧ wr.ownsRow w.heap.size 9 1 v4 m ((l.take m).map (fun x => sV x.text)) ∧ Fr NoB w wr ∧ Hid ((l.take m).all (fun x => x.kind == 4) = true)) (fun _ v13 _ => l.length - (intOf v13).toNat)
    case atStart => exact ⟨0, Nat.zero_le _, rfl, World.ownsRow_nil _ _ _ _, f0, Lib.hid rfl⟩
    case round =>
      obtain ⟨m, hm, rfl, hown, hf, HA⟩ := hrel
      by_cases hlt : m < l.length
      · obtain ⟨hcs, hlm⟩ := HL.out
        rcases hlm with ⟨h0, _⟩ | ⟨g, o, c, he, hg, hcell⟩
        · omega
        · simp only [Value.slice.injEq, true_and] at he
          obtain ⟨rfl, rfl⟩ := he
          obtain ⟨v0, v1, v2, v3, v4', a0, a1, a2, a3, a4, hat⟩ := RCells.get l cs m hlt hcs
          have key : ∀ (p : Nat) u, cs[p]? = some u → wr.cell? ⟨g, o + p, none⟩ = some u := fun p u hu => (hf.cell (p := ⟨g, o + p, none⟩) (hS g hg) (fun e => e)).trans (hcell p u hu)
          have d0 : wr.cell? ⟨g, o + m * 5, none⟩ = some v0 := key _ _ a0
          have d1 : wr.cell? ⟨g, o + m * 5 + 1, none⟩ = some v1 := key _ _ a1
          have d2 : wr.cell? ⟨g, o + m * 5 + 2, none⟩ = some v2 := key _ _ a2
          have d3 : wr.cell? ⟨g, o + m * 5 + 3, none⟩ = some v3 := key _ _ a3
          have d4 : wr.cell? ⟨g, o + m * 5 + 4, none⟩ = some v4' := key _ _ a4
          have h1c := all_one hat.one
          have n2 := Blk.new wr 25 zj
          have htk : l.take (m + 1) = l.take m ++ [l[m]] := (List.take_append_getElem hlt).symm
          have hmm : l[m] ∈ l := List.getElem_mem hlt
          obtain ⟨rfl, rfl, rfl, htl⟩ := hat.get5
          clear hcell key a0 a1 a2 a3 a4 hcs hat
          generalize l[m] = x at *
          have f4 : Fr NoB wr ((wr.alloc (.cells zj 25)).setRow wr.heap.size #[.int .i64 x.kind, .int .i64 x.int, .string ⟨x.text.toArray⟩, v3, v4']) := ((Fr.refl NoB wr).alloc _).setRow wr.heap.size _ (Or.inl (Nat.le_refl _))
          have n3 := n2.setRow #[.int .i64 x.kind, .int .i64 x.int, .string ⟨x.text.toArray⟩, v3, v4']
          have HTK := Lib.hid htk
          clear htk
          generalize hW3 : (wr.alloc (.cells zj 25)).setRow wr.heap.size #[.int .i64 x.kind, .int .i64 x.int, .string ⟨x.text.toArray⟩, v3, v4'] = W3 at f4 n3
          have HW3 := Lib.hid hW3
          clear hW3
          have e0 : W3.cell? ⟨wr.heap.size, 0, none⟩ = some (.int .i64 x.kind) := (n3.cell 0).trans rfl
          have e2 : W3.cell? ⟨wr.heap.size, 2, none⟩ = some (.string ⟨x.text.toArray⟩) := (n3.cell 2).trans rfl
          by_cases hx4 : x.kind = 4
          · have hk4 : (x.kind == 4) = true := by rw [hx4]; rfl
            have HK4 := Lib.hid hk4
            clear hk4
            simp only [hx4] at HW3 e0 d0 h1c n3 f4
            clear hx4
            have HO := Lib.hid ((f4.trans ((Fr.refl NoB W3).alloc (.cells #[.string ⟨x.text.toArray⟩] 9))).row hown (fun _ _ e => e))
            have hsW : w.heap.size ≤ W3.heap.size := (hf.trans f4).size
            clear hown n3
            go_wp2_with (first | (refine wpList_store_row rfl 25 _ _ rfl wr.heap.size #[.int .i64 4, .int .i64 x.int, .string ⟨x.text.toArray⟩, v3, v4'] rfl rfl 25 zj n2 size_json rfl h1c ?_; rw [HW3.out]) | (at_builtin; go_loud (refine wpList_append_own _ rfl _ _ 23 rfl w.heap.size 9 i0 (.string ⟨#[]⟩) 1 16 Tryz.underlying23 hi0 hz0 hz1 hz2 rfl (by decide) _ _ _ rfl HO.out ⟨W3.heap.size, 0, none⟩ 1 1 [.string ⟨x.text.toArray⟩] rfl rfl (by intro j u hj; match j, hj with | 0, hj => simp at hj; subst hj; simp [Addr.add]) (by intro u hu; rw [List.mem_singleton] at hu; subst hu; rfl) (by unfold maxLen; omega) (by omega) (by simp; omega) ?_; intro v' w5 hown' hgrow hnew)))
            have f5 : Fr NoB w w5 := ((hf.trans f4).alloc (.cells #[.string ⟨x.text.toArray⟩] 9)).grown hgrow (fun k hk hlt => absurd (own_old HO.out hk) (by omega))
            go_roundw
            case rel => exact ⟨m + 1, by omega, by simp, by rw [HTK.out, List.map_append]; exact hown', f5, Lib.hid (by rw [HTK.out, List.all_append, HA.out]; simp [HK4.out])⟩
            case measure => simp [intOf]; omega
          · have hxb : (x.kind == 4) = false := by simpa using hx4
            have hall : l.all (fun x => x.kind == 4) = false := by
              cases ha : l.all (fun x => x.kind == 4)
              · rfl
              · have := List.all_eq_true.1 ha x hmm; simp [hxb] at this
            obtain rfl : none = q := by rw [← HQ.out, if_neg (fun h => by rw [hall] at h; cases h.2)]
            clear HQ hall
            go_wp2_with (refine wpList_store_row rfl 25 _ _ rfl wr.heap.size #[.int .i64 x.kind, .int .i64 x.int, .string ⟨x.text.toArray⟩, v3, v4'] rfl rfl 25 zj n2 size_json rfl h1c ?_; rw [HW3.out])
            go_ret2
            exact ⟨_, rfl, World.ownsRow_nil _ _ _ _, hf.trans f4⟩
      · obtain rfl : m = l.length := by omega
        have hA := HA.out
        rw [List.take_length] at hA hown
        obtain rfl : some (l.map Jv.text) = q := by rw [← HQ.out, if_pos ⟨by first | trivial | rfl, hA⟩]
        clear HQ hA
        go_wp2_with fail
        go_ret2
        exact ⟨_, rfl, by simpa [Function.comp_def] using hown, hf⟩
  · obtain rfl : none = q := by rw [← HQ.out, if_neg (fun (h : k = 5 ∧ _) => h5 h.1)]
    clear HQ
    go_enter Tryz.func22, Tryz.ntmps22
    go_wp2_with (rw [HW.out])
    go_ret2
    exact ⟨_, rfl, World.ownsRow_nil _ _ _ _, f0⟩
end Go.Proofs.YteeijmfnjcddmaaGreatDoor
