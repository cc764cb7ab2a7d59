/- JSON: Get: the value of a key; Texts. -/
import Derived.Test.YteeijmfnjcddmaaGreatDoorLt
import Derived.Test.YteeijmfnjcddmaaGreatDoorRg
namespace Go.Proofs.YteeijmfnjcddmaaGreatDoor
open Go.RowKit

theorem idxFrom_eq (key : Bs) : ∀ (ks : List Bs) (i : Nat), Lib.idxFromS (ks.map (fun s : Bs => (⟨s.toArray⟩ : ByteArray))) ⟨key.toArray⟩ i = placeI ((idxP ks key).map (· + i))
  | [], i => by simp [Lib.idxFromS, idxP, placeI]
  | s :: r, i => by
    have ih := idxFrom_eq key r (i + 1)
    unfold idxP at ih ⊢
    rw [List.map_cons, Lib.idxFromS, List.findIdx?_cons]
    by_cases h : s = key
    · subst h
      simp [placeI]
    · have h2 : ¬ ((⟨s.toArray⟩ : ByteArray) = ⟨key.toArray⟩) := fun e => h (ba_inj.1 e)
      have h3 : (s == key) = false := by simpa using h
      rw [h3]
      simp only [h2, if_false, ih, Bool.false_eq_true]
      congr 1
      rw [Option.map_map]
      congr 1
      funext x
      simp only [Function.comp_apply]
      omega
theorem idx_eq (key : Bs) (ks : List Bs) : Lib.idxOfS (ks.map (fun s : Bs => (⟨s.toArray⟩ : ByteArray))) ⟨key.toArray⟩ = placeI (idxP ks key) := by
  have := idxFrom_eq key ks 0
  simpa [Lib.idxOfS] using this

theorem index_any (S : Nat → Prop) (ks : List Bs) (kv : Value) (key : Bs) (w : World) (h : InMem S w kv ks.length (ks.map sV)) (hl : ks.length ≤ big) :
    Calls Tryz.prog 43 #[kv, .string ⟨key.toArray⟩] w fun e w' => e = .returned (.int .i64 (placeI (idxP ks key))) ∧ w = w' := by
  rcases h with ⟨h0, a, c, rfl⟩ | ⟨g, o, c, rfl, hg, hc⟩
  · have hks : ks = [] := List.eq_nil_of_length_eq_zero h0
    subst hks
    refine (Tryz.slices_Index_string_empty a c ⟨key.toArray⟩ w).mono ?_
    rintro e w' ⟨rfl, rfl⟩
    exact ⟨rfl, rfl⟩
  · refine (Tryz.slices_Index_string g o ks.length c (ks.map (fun s : Bs => (⟨s.toArray⟩ : ByteArray))) ⟨key.toArray⟩ w (by simp) (by unfold big at hl; omega) ?_).mono ?_
    · intro j hj
      have hj' : j < ks.length := by simpa using hj
      have := hc j (sV ks[j]) (by simp [hj'])
      rw [this]
      simp [List.getD, hj']
    · rintro e w' ⟨rfl, rfl⟩
      refine ⟨?_, rfl⟩
      rw [List.take_of_length_le (by simp), idx_eq]



set_option maxRecDepth 100000 in
set_option maxHeartbeats 3200000 in
theorem get_any (S : Nat → Prop) (j : Jv) (v : Value) (key : Bs) (w : World) (hS : ∀ g, S g → g < w.heap.size) (hat : RAt S w j v) :
    Calls Tryz.prog 20 #[v, .string ⟨key.toArray⟩] w fun e w' => ∃ u, e = .returned (.tuple #[u, .bool (getP j key).isSome]) ∧ RAt S w' ((getP j key).getD Jv.nul) u ∧ Fr NoB w w' := by
  cases j with
  | mk k i t l ks =>
  simp only [RAt] at hat
  obtain ⟨lv, kv, rfl, hk, hi, ht, hks, hl, cs, hcs, hlm⟩ := hat
  obtain ⟨la, lc, rfl⟩ : ∃ a c, lv = .slice a l.length c := by
    rcases hlm with ⟨h0, a, c, rfl⟩ | ⟨g, o, c, rfl, hg, hc⟩
    · exact ⟨a, c, by rw [h0]⟩
    · exact ⟨_, c, rfl⟩
  have hgp : getP (.mk k i t l ks) key = if k = 6 then (idxP ks key).bind (fun i => l[i]?) else none := rfl
  rw [hgp]
  have f0 : Fr NoB w (w.alloc (.cells #[.int .i64 k, .int .i64 i, .string ⟨t.toArray⟩, .slice la l.length lc, kv] 25)) := (Fr.refl _ _).alloc _
  have g0 := Blk.new w 25 #[.int .i64 k, .int .i64 i, .string ⟨t.toArray⟩, .slice la l.length lc, kv]
  generalize hW0 : w.alloc (.cells #[.int .i64 k, .int .i64 i, .string ⟨t.toArray⟩, .slice la l.length lc, kv] 25) = W0 at f0 g0
  have f1 : Fr NoB W0 (W0.alloc (.cells zj 25)) := (Fr.refl _ _).alloc _
  have g1 := Blk.new W0 25 zj
  have g0' := f1.blk g0 (fun e => e)
  have hs0 : W0.heap.size = w.heap.size + 1 := by rw [← hW0]; simp
  rw [hs0] at g1
  generalize hW : W0.alloc (.cells zj 25) = W at f1 g1 g0'
  have f := f0.trans f1
  have HW : Hid ((w.alloc (.cells #[.int .i64 k, .int .i64 i, .string ⟨t.toArray⟩, .slice la l.length lc, kv] 25)).alloc (.cells zj 25) = W) := Lib.hid (by rw [hW0, hW])
  have HI := Lib.hid (index_any S ks kv key W (hks.1.fr (fun g hg => f.block g (hS g hg) (fun e => e))) hks.2.1)
  have c0 : W.cell? ⟨w.heap.size, 0, none⟩ = some (.int .i64 k) := (g0'.cell 0).trans rfl
  have c3 : W.cell? ⟨w.heap.size, 3, none⟩ = some (.slice la l.length lc) := (g0'.cell 3).trans rfl
  have c4 : W.cell? ⟨w.heap.size, 4, none⟩ = some kv := (g0'.cell 4).trans rfl
  clear hW hW0 f0 f1 hs0 g0 g0'
  have hone : (zj.all (·.oneCell')) = true := one_json _ _ _ _ _ _ _ _ _
  by_cases h6 : k = 6
  · subst h6
    rw [if_pos rfl]
    cases hx : idxP ks key with
    | none =>
      rw [hx] at HI
      clear hx
      go_enter Tryz.func20, Tryz.ntmps20
      go_wp2_with (first | (go_at_call 43; (rw [HW.out]; (with_reducible refine HI.out.mono ?_); rintro e w1 ⟨rfl, rfl⟩)) | (refine wpList_store_row rfl 25 _ _ rfl (w.heap.size + 1) zj rfl rfl 25 zj g1 size_json rfl hone ?_))
      exact bodyPost_ret (v := .tuple #[jV 0 0 [] (.slice none 0 0) (.slice none 0 0), .bool false]) (get_back rfl _ _ (w.heap.size + 1) _ _ _ _ _ _ rfl rfl (g1.setRow zj)) rfl ⟨_, rfl, nul_at S _, f.setRow (w.heap.size + 1) _ (Or.inl (by omega))⟩
    | some p =>
      rw [hx] at HI
      clear hx
      have e0 : placeI (some p) = (p : Int) := rfl
      rw [e0] at HI
      have hbnd : (Option.some p).bind (fun i => l[i]?) = l[p]? := rfl
      rw [hbnd]
      by_cases hp : p < l.length
      · rw [List.getElem?_eq_getElem hp]
        rcases hlm with ⟨h0, _⟩ | ⟨gl, ol, cl, he, hgl, hcell⟩
        · omega
        · simp only [Value.slice.injEq, true_and] at he
          obtain ⟨rfl, rfl⟩ := he
          obtain ⟨v0, v1, v2, v3, v4, a0, a1, a2, a3, a4, hatx⟩ := RCells.get l cs p hp hcs
          have cc : ∀ (q : Nat) z, cs[q]? = some z → W.cell? ⟨gl, ol + q, none⟩ = some z := fun q z hz => (f.cell (p := ⟨gl, ol + q, none⟩) (hS gl hgl) (fun e => e)).trans (hcell q z hz)
          have d0 : W.cell? ⟨gl, ol + p * 5, none⟩ = some v0 := cc _ _ a0
          have d1 : W.cell? ⟨gl, ol + p * 5 + 1, none⟩ = some v1 := cc _ _ a1
          have d2 : W.cell? ⟨gl, ol + p * 5 + 2, none⟩ = some v2 := cc _ _ a2
          have d3 : W.cell? ⟨gl, ol + p * 5 + 3, none⟩ = some v3 := cc _ _ a3
          have d4 : W.cell? ⟨gl, ol + p * 5 + 4, none⟩ = some v4 := cc _ _ a4
          have h1c := all_one hatx.one
          clear cc hcell a0 a1 a2 a3 a4 hone
          generalize l[p] = x at *
          go_enter Tryz.func20, Tryz.ntmps20
          go_wp2_with (first | (go_at_call 43; (rw [HW.out]; (with_reducible refine HI.out.mono ?_); rintro e w1 ⟨rfl, rfl⟩)) | (refine wpList_store_row rfl 25 _ _ rfl (w.heap.size + 1) #[v0, v1, v2, v3, v4] rfl rfl 25 zj g1 size_json rfl h1c ?_))
          have fS := f.setRow (w.heap.size + 1) #[v0, v1, v2, v3, v4] (Or.inl (by omega))
          exact bodyPost_ret (v := .tuple #[.agg #[v0, v1, v2, v3, v4], .bool true]) (get_back rfl _ _ (w.heap.size + 1) _ _ _ _ _ _ rfl rfl (g1.setRow #[v0, v1, v2, v3, v4])) rfl ⟨_, rfl, RAt.fr (fun g hg => fS.block g (hS g hg) (fun e => e)) x _ hatx, fS⟩
      · rw [List.getElem?_eq_none (by omega)]
        have hpi : ¬ (p : Int) < (l.length : Int) := by omega
        go_enter Tryz.func20, Tryz.ntmps20
        go_wp2_with (first | (go_at_call 43; (rw [HW.out]; (with_reducible refine HI.out.mono ?_); rintro e w1 ⟨rfl, rfl⟩)) | (refine wpList_store_row rfl 25 _ _ rfl (w.heap.size + 1) zj rfl rfl 25 zj g1 size_json rfl hone ?_))
        exact bodyPost_ret (v := .tuple #[jV 0 0 [] (.slice none 0 0) (.slice none 0 0), .bool false]) (get_back rfl _ _ (w.heap.size + 1) _ _ _ _ _ _ rfl rfl (g1.setRow zj)) rfl ⟨_, rfl, nul_at S _, f.setRow (w.heap.size + 1) _ (Or.inl (by omega))⟩
  · rw [if_neg h6]
    generalize placeI (idxP ks key) = pp at HI
    go_enter Tryz.func20, Tryz.ntmps20
    go_wp2_with (first | (go_at_call 43; (rw [HW.out]; (with_reducible refine HI.out.mono ?_); rintro e w1 ⟨rfl, rfl⟩)) | (refine wpList_store_row rfl 25 _ _ rfl (w.heap.size + 1) zj rfl rfl 25 zj g1 size_json rfl hone ?_))
    exact bodyPost_ret (v := .tuple #[jV 0 0 [] (.slice none 0 0) (.slice none 0 0), .bool false]) (get_back rfl _ _ (w.heap.size + 1) _ _ _ _ _ _ rfl rfl (g1.setRow zj)) rfl ⟨_, rfl, nul_at S _, f.setRow (w.heap.size + 1) _ (Or.inl (by omega))⟩
end Go.Proofs.YteeijmfnjcddmaaGreatDoor
/- JSON: Texts: those of a list of texts. -/
namespace Go.Proofs.YteeijmfnjcddmaaGreatDoor
open Go.RowKit


set_option maxRecDepth 100000 in
set_option maxHeartbeats 3200000 in
theorem texts_any (S : Nat → Prop) (j : Jv) (v : Value) (w : World) (hS : ∀ g, S g → g < w.heap.size) (hat : RAt S w j v) (hln : j.list.length ≤ 4398046511104) :
    Calls Tryz.prog 22 #[v] w (TxsIs (textsP j) w) := by
  obtain ⟨i0, hi0, hz0, hz1, hz2⟩ := info_parts info_str
  cases j with
  | mk k i t l ks =>
  have hl0 : l.length ≤ 4398046511104 := hln
  clear hln
  simp only [RAt] at hat
  obtain ⟨lv, kv, rfl, hk, hi, ht, hks, hl, cs, hcs, hlm⟩ := hat
  obtain ⟨la, lc, rfl⟩ : ∃ a c, lv = .slice a l.length c := by
    rcases hlm with ⟨h0, a, c, rfl⟩ | ⟨g, o, c, rfl, hg, hc⟩
    · exact ⟨a, c, by rw [h0]⟩
    · exact ⟨_, c, rfl⟩
  have f0 : Fr NoB w (w.alloc (.cells #[.int .i64 k, .int .i64 i, .string ⟨t.toArray⟩, .slice la l.length lc, kv] 25)) := (Fr.refl _ _).alloc _
  have g0 := Blk.new w 25 #[.int .i64 k, .int .i64 i, .string ⟨t.toArray⟩, .slice la l.length lc, kv]
  generalize hW : w.alloc (.cells #[.int .i64 k, .int .i64 i, .string ⟨t.toArray⟩, .slice la l.length lc, kv] 25) = W at f0 g0
  have HW := Lib.hid hW
  have c0 : W.cell? ⟨w.heap.size, 0, none⟩ = some (.int .i64 k) := (g0.cell 0).trans rfl
  have c3 : W.cell? ⟨w.heap.size, 3, none⟩ = some (.slice la l.length lc) := (g0.cell 3).trans rfl
  clear hW
  have hT : textsP (.mk k i t l ks) = if k = 5 ∧ l.all (fun x => x.kind == 4) = true then some (l.map Jv.text) else none := rfl
  rw [hT]
  clear hT
  generalize hQ : (if k = 5 ∧ l.all (fun x => x.kind == 4) = true then some (l.map Jv.text) else none) = q
  have HQ := Lib.hid hQ
  clear hQ
  by_cases h5 : k = 5
  · subst h5
    have HL := Lib.hid (And.intro hcs hlm)
    clear hcs hlm
    go_enter Tryz.func22, Tryz.ntmps22
    go_wp2_with (rw [HW.out])
    go_loopw [4, 13] (fun v4 v13 wr => ∃ m : Nat, m ≤ l.length ∧ v13 = .int .i64 m ∧ wr.ownsRow w.heap.size 9 1 v4 m ((l.take m).map (fun x => sV x.text)) ∧ Fr NoB w wr ∧ Hid ((l.take m).all (fun x => x.kind == 4) = true)) (fun _ v13 _ => l.length - (intOf v13).toNat)
    case atStart => exact ⟨0, Nat.zero_le _, rfl, World.ownsRow_nil _ _ _ _, f0, Lib.hid rfl⟩
    case round =>
      obtain ⟨m, hm, rfl, hown, hf, HA⟩ := hrel
      by_cases hlt : m < l.length
      · obtain ⟨hcs, hlm⟩ := HL.out
        rcases hlm with ⟨h0, _⟩ | ⟨g, o, c, he, hg, hcell⟩
        · omega
        · simp only [Value.slice.injEq, true_and] at he
          obtain ⟨rfl, rfl⟩ := he
          obtain ⟨v0, v1, v2, v3, v4', a0, a1, a2, a3, a4, hat⟩ := RCells.get l cs m hlt hcs
          have key : ∀ (p : Nat) u, cs[p]? = some u → wr.cell? ⟨g, o + p, none⟩ = some u := fun p u hu => (hf.cell (p := ⟨g, o + p, none⟩) (hS g hg) (fun e => e)).trans (hcell p u hu)
          have d0 : wr.cell? ⟨g, o + m * 5, none⟩ = some v0 := key _ _ a0
          have d1 : wr.cell? ⟨g, o + m * 5 + 1, none⟩ = some v1 := key _ _ a1
          have d2 : wr.cell? ⟨g, o + m * 5 + 2, none⟩ = some v2 := key _ _ a2
          have d3 : wr.cell? ⟨g, o + m * 5 + 3, none⟩ = some v3 := key _ _ a3
          have d4 : wr.cell? ⟨g, o + m * 5 + 4, none⟩ = some v4' := key _ _ a4
          have h1c := all_one hat.one
          have n2 := Blk.new wr 25 zj
          have htk : l.take (m + 1) = l.take m ++ [l[m]] := (List.take_append_getElem hlt).symm
          have hmm : l[m] ∈ l := List.getElem_mem hlt
          obtain ⟨rfl, rfl, rfl, htl⟩ := hat.get5
          clear hcell key a0 a1 a2 a3 a4 hcs hat
          generalize l[m] = x at *
          have f4 : Fr NoB wr ((wr.alloc (.cells zj 25)).setRow wr.heap.size #[.int .i64 x.kind, .int .i64 x.int, .string ⟨x.text.toArray⟩, v3, v4']) := ((Fr.refl NoB wr).alloc _).setRow wr.heap.size _ (Or.inl (Nat.le_refl _))
          have n3 := n2.setRow #[.int .i64 x.kind, .int .i64 x.int, .string ⟨x.text.toArray⟩, v3, v4']
          have HTK := Lib.hid htk
          clear htk
          generalize hW3 : (wr.alloc (.cells zj 25)).setRow wr.heap.size #[.int .i64 x.kind, .int .i64 x.int, .string ⟨x.text.toArray⟩, v3, v4'] = W3 at f4 n3
          have HW3 := Lib.hid hW3
          clear hW3
          have e0 : W3.cell? ⟨wr.heap.size, 0, none⟩ = some (.int .i64 x.kind) := (n3.cell 0).trans rfl
          have e2 : W3.cell? ⟨wr.heap.size, 2, none⟩ = some (.string ⟨x.text.toArray⟩) := (n3.cell 2).trans rfl
          by_cases hx4 : x.kind = 4
          · have hk4 : (x.kind == 4) = true := by rw [hx4]; rfl
            have HK4 := Lib.hid hk4
            clear hk4
            simp only [hx4] at HW3 e0 d0 h1c n3 f4
            clear hx4
            have HO := Lib.hid ((f4.trans ((Fr.refl NoB W3).alloc (.cells #[.string ⟨x.text.toArray⟩] 9))).row hown (fun _ _ e => e))
            have hsW : w.heap.size ≤ W3.heap.size := (hf.trans f4).size
            clear hown n3
            go_wp2_with (first | (refine wpList_store_row rfl 25 _ _ rfl wr.heap.size #[.int .i64 4, .int .i64 x.int, .string ⟨x.text.toArray⟩, v3, v4'] rfl rfl 25 zj n2 size_json rfl h1c ?_; rw [HW3.out]) | (at_builtin; go_loud (refine wpList_append_own _ rfl _ _ 23 rfl w.heap.size 9 i0 (.string ⟨#[]⟩) 1 16 Tryz.underlying23 hi0 hz0 hz1 hz2 rfl (by decide) _ _ _ rfl HO.out ⟨W3.heap.size, 0, none⟩ 1 1 [.string ⟨x.text.toArray⟩] rfl rfl (by intro j u hj; match j, hj with | 0, hj => simp at hj; subst hj; simp [Addr.add]) (by intro u hu; rw [List.mem_singleton] at hu; subst hu; rfl) (by unfold maxLen; omega) (by omega) (by simp; omega) ?_; intro v' w5 hown' hgrow hnew)))
            have f5 : Fr NoB w w5 := ((hf.trans f4).alloc (.cells #[.string ⟨x.text.toArray⟩] 9)).grown hgrow (fun k hk hlt => absurd (own_old HO.out hk) (by omega))
            go_roundw
            case rel => exact ⟨m + 1, by omega, by simp, by rw [HTK.out, List.map_append]; exact hown', f5, Lib.hid (by rw [HTK.out, List.all_append, HA.out]; simp [HK4.out])⟩
            case measure => simp [intOf]; omega
          · have hxb : (x.kind == 4) = false := by simpa using hx4
            have hall : l.all (fun x => x.kind == 4) = false := by
              cases ha : l.all (fun x => x.kind == 4)
              · rfl
              · have := List.all_eq_true.1 ha x hmm; simp [hxb] at this
            obtain rfl : none = q := by rw [← HQ.out, if_neg (fun h => by rw [hall] at h; cases h.2)]
            clear HQ hall
            go_wp2_with (refine wpList_store_row rfl 25 _ _ rfl wr.heap.size #[.int .i64 x.kind, .int .i64 x.int, .string ⟨x.text.toArray⟩, v3, v4'] rfl rfl 25 zj n2 size_json rfl h1c ?_; rw [HW3.out])
            go_ret2
            exact ⟨_, rfl, World.ownsRow_nil _ _ _ _, hf.trans f4⟩
      · obtain rfl : m = l.length := by omega
        have hA := HA.out
        rw [List.take_length] at hA hown
        obtain rfl : some (l.map Jv.text) = q := by rw [← HQ.out, if_pos ⟨by first | trivial | rfl, hA⟩]
        clear HQ hA
        go_wp2_with fail
        go_ret2
        exact ⟨_, rfl, by simpa [Function.comp_def] using hown, hf⟩
  · obtain rfl : none = q := by rw [← HQ.out, if_neg (fun (h : k = 5 ∧ _) => h5 h.1)]
    clear HQ
    go_enter Tryz.func22, Tryz.ntmps22
    go_wp2_with (rw [HW.out])
    go_ret2
    exact ⟨_, rfl, World.ownsRow_nil _ _ _ _, f0⟩
end Go.Proofs.YteeijmfnjcddmaaGreatDoor
/- JSON: the calls whose answers the document fixes: plainly. -/
namespace Go.Proofs.YteeijmfnjcddmaaGreatDoor
open Go.RowKit

def fxS1 : Bs := [32, 123, 32, 34, 98, 34, 32, 58, 32, 91, 32, 49, 32, 44, 32, 45, 53, 32, 44, 32, 34, 92, 117, 48, 48, 101, 57, 92, 47, 34, 32, 93, 32, 44, 32, 34, 97, 34, 32, 58, 32, 110, 117, 108, 108, 32, 125, 32]
def fxS2 : Bs := [123, 34, 97, 34, 58, 49, 44, 34, 92, 117, 48, 48, 54, 49, 34, 58, 50, 125]
def fxS3 : Bs := [91, 49, 46, 53, 93]
def fxS4 : Bs := List.replicate 33 91 ++ List.replicate 33 93
def fxL : Jv := .mk 5 0 [] [.mk 3 1 [] [] [], .mk 3 (-5) [] [] [], .mk 4 0 [195, 169, 47] [] []] []
def fxJ : Jv := .mk 6 0 [] [fxL, .mk 0 0 [] [] []] [[98], [97]]
def fxT : Bs := [123, 34, 97, 34, 58, 110, 117, 108, 108, 44, 34, 98, 34, 58, 91, 49, 44, 45, 53, 44, 34, 195, 169, 47, 34, 93, 125]
theorem fx1 : parseP fxS1 = .ok fxJ := by kernel_rfl
theorem fx2 : parseP fxS2 = .error 94 := by kernel_rfl
theorem fx3 : parseP fxS3 = .error 95 := by kernel_rfl
theorem fx4 : parseP fxS4 = .error 91 := by kernel_rfl
theorem fx5 : checkP 0 fxJ = 0 := by kernel_rfl
theorem fxo : orderP true [[98], [97]] 2 = [1, 0] := by
  unfold orderP
  rw [if_pos rfl]
  show List.mergeSort [0, 1] _ = [1, 0]
  simp [List.mergeSort, List.MergeSort.Internal.splitInTwo, List.merge, keyAt]
  decide
theorem fx6a : itemsL true [[98], [97]] (laysP [fxL, .mk 0 0 [] [] []]) = (orderP true [[98], [97]] 2).map (memP true [[98], [97]] (laysP [fxL, .mk 0 0 [] [] []])) := by kernel_rfl
theorem fx6b : layP fxJ = 123 :: (joinC (itemsL true [[98], [97]] (laysP [fxL, .mk 0 0 [] [] []])) ++ [125]) := by kernel_rfl
theorem fx6 : layP fxJ = fxT := by
  rw [fx6b, fx6a, fxo]
  kernel_rfl
theorem fx7 : checkP 0 (.mk 7 0 [] [] []) = 93 := by kernel_rfl
theorem fx8 : getP fxJ [98] = some fxL := by kernel_rfl
end Go.Proofs.YteeijmfnjcddmaaGreatDoor
/- JSON: the law's own 'fixed': true. -/
namespace Go.Proofs.YteeijmfnjcddmaaGreatDoor
open Go.RowKit

theorem JTop.opened {lo : Nat} {w : World} {j : Jv} {v : Value} (h : JTop lo w j v) : ∃ v0 v1 v2 v3 v4, v = .agg #[v0, v1, v2, v3, v4] ∧ (#[v0, v1, v2, v3, v4].all (·.oneCell')) = true ∧ RAt (Rng lo w.heap.size) w j (.agg #[v0, v1, v2, v3, v4]) := by
  have h2 := h.at_
  cases j with
  | mk k i t l ks =>
    have h3 := h2
    simp only [RAt] at h2
    obtain ⟨lv, kv, rfl, _⟩ := h2
    exact ⟨_, _, _, _, _, rfl, all_one h3.one, h3⟩
/-- A value that was read. -/
def GotIs (j : Jv) (w : World) (e : Ending) (w' : World) : Prop :=
  ∃ v0 v1 v2 v3 v4, e = .returned (.tuple #[.agg #[v0, v1, v2, v3, v4], .int .i64 0]) ∧ Hid ((#[v0, v1, v2, v3, v4].all (·.oneCell')) = true ∧ RAt (Rng w.heap.size w'.heap.size) w' j (.agg #[v0, v1, v2, v3, v4]) ∧ Fr NoB w w')
theorem parse_got {B : Nat} (s : Bs) (j : Jv) (w : World) (hx : Cx B w) (hl : s.length ≤ 9223372036854775807) (hp : parseP s = .ok j) : Calls Tryz.prog 17 #[.string ⟨s.toArray⟩] w (GotIs j w) := by
  have h := parse_any s w hx hl
  rw [hp] at h
  refine h.mono ?_
  rintro e w' ⟨v, rfl, h1, h2⟩
  obtain ⟨v0, v1, v2, v3, v4, rfl, h3, h4⟩ := h1.opened
  exact ⟨v0, v1, v2, v3, v4, rfl, Lib.hid ⟨h3, h4, h2⟩⟩
theorem parse_bad {B : Nat} (s : Bs) (n : Nat) (w : World) (hx : Cx B w) (hl : s.length ≤ 9223372036854775807) (hp : parseP s = .error n) : Calls Tryz.prog 17 #[.string ⟨s.toArray⟩] w fun e w' => e = .returned (.tuple #[.agg zj, .int .i64 (n : Int)]) ∧ Fr NoB w w' := by
  have h := parse_any s w hx hl
  rw [hp] at h
  exact h

/-- A variable of a JSON value is made and written. -/
theorem var_made (w : World) (v0 v1 v2 v3 v4 : Value) : Fr NoB w ((w.alloc (.cells zj 25)).setRow w.heap.size #[v0, v1, v2, v3, v4]) ∧ Blk ((w.alloc (.cells zj 25)).setRow w.heap.size #[v0, v1, v2, v3, v4]) w.heap.size 25 #[v0, v1, v2, v3, v4] :=
  ⟨((Fr.refl NoB w).alloc _).setRow w.heap.size _ (Or.inl (Nat.le_refl _)), (Blk.new w 25 zj).setRow _⟩

theorem fxt : textT fxJ = (fxT, 0) := by unfold textT; rw [fx5, fx6]; rfl
theorem fxt7 : textT (.mk 7 0 [] [] []) = ([], 93) := by unfold textT; rw [fx7]; rfl
theorem jsm_fx : JSm fxJ := by
  simp [fxJ, fxL, JSm, JSms]

set_option maxRecDepth 100000 in
set_option maxHeartbeats 6400000 in
theorem fixed_any {B : Nat} (w : World) (hx : Cx B w) : Calls Tryz.prog 12 #[] w fun e w' => e = .returned (.bool true) ∧ Fr NoB w w' := by
  have HP1 : Hid (∀ u, Fr NoB w u → Calls Tryz.prog 17 #[.string ⟨#[32, 123, 32, 34, 98, 34, 32, 58, 32, 91, 32, 49, 32, 44, 32, 45, 53, 32, 44, 32, 34, 92, 117, 48, 48, 101, 57, 92, 47, 34, 32, 93, 32, 44, 32, 34, 97, 34, 32, 58, 32, 110, 117, 108, 108, 32, 125, 32]⟩] u (GotIs fxJ u)) := Lib.hid (fun u f => parse_got fxS1 fxJ u (hx.fr0 f) (by decide) fx1)
  have HP2 : Hid (∀ u, Fr NoB w u → Calls Tryz.prog 17 #[.string ⟨#[123, 34, 97, 34, 58, 49, 44, 34, 92, 117, 48, 48, 54, 49, 34, 58, 50, 125]⟩] u fun e w' => e = .returned (.tuple #[.agg zj, .int .i64 94]) ∧ Fr NoB u w') := Lib.hid (fun u f => parse_bad fxS2 94 u (hx.fr0 f) (by decide) fx2)
  have HP3 : Hid (∀ u, Fr NoB w u → Calls Tryz.prog 17 #[.string ⟨#[91, 49, 46, 53, 93]⟩] u fun e w' => e = .returned (.tuple #[.agg zj, .int .i64 95]) ∧ Fr NoB u w') := Lib.hid (fun u f => parse_bad fxS3 95 u (hx.fr0 f) (by decide) fx3)
  have HP4 : Hid (∀ u x, Fr NoB w u → x = ⟨fxS4.toArray⟩ → Calls Tryz.prog 17 #[.string x] u fun e w' => e = .returned (.tuple #[.agg zj, .int .i64 91]) ∧ Fr NoB u w') := Lib.hid (fun u x f hxx => by subst hxx; exact parse_bad fxS4 91 u (hx.fr0 f) (by decide) fx4)
  have hzo : (zj.all (·.oneCell')) = true := one_json _ _ _ _ _ _ _ _ _
  go_enter Tryz.func12, Tryz.ntmps12
  go_upto_region 2 with (first | (go_at_call 17; ((with_reducible refine (HP1.out _ (Fr.refl _ _)).mono ?_); rintro e u1 ⟨v0, v1, v2, v3, v4, rfl, H1⟩)) | (refine wpList_store_row rfl 25 _ _ rfl u1.heap.size #[v0, v1, v2, v3, v4] rfl rfl 25 zj (Blk.new u1 25 zj) size_json rfl H1.out.1 ?_))
  obtain ⟨f2, b2⟩ := var_made u1 v0 v1 v2 v3 v4
  generalize hW2 : (u1.alloc (.cells zj 25)).setRow u1.heap.size #[v0, v1, v2, v3, v4] = W2 at f2 b2 ⊢
  have HV : Hid (∀ u, Fr NoB W2 u → RAt (Rng w.heap.size u1.heap.size) u fxJ (.agg #[v0, v1, v2, v3, v4]) ∧ (∀ g, Rng w.heap.size u1.heap.size g → g < u.heap.size) ∧ Blk u u1.heap.size 25 #[v0, v1, v2, v3, v4] ∧ Cx B u ∧ Fr NoB w u) := Lib.hid (fun u f => by
    have h1 := H1.out
    have hf := f2.trans f
    refine ⟨RAt.fr (fun g hg => hf.block g hg.2 (fun e => e)) _ _ h1.2.1, fun g hg => Nat.lt_of_lt_of_le hg.2 hf.size, f.blk b2 (fun e => e), hx.fr0 (h1.2.2.trans hf), h1.2.2.trans hf⟩)
  clear hW2 H1 b2
  have HT : Hid (∀ u, Fr NoB W2 u → Calls Tryz.prog 15 #[.agg #[v0, v1, v2, v3, v4]] u fun e w' => e = .returned (.tuple #[.string ⟨#[123, 34, 97, 34, 58, 110, 117, 108, 108, 44, 34, 98, 34, 58, 91, 49, 44, 45, 53, 44, 34, 195, 169, 47, 34, 93, 125]⟩, .int .i64 0]) ∧ Fr NoB u w') := Lib.hid (fun u f => by
    obtain ⟨h1, h2, _, h4, _⟩ := HV.out u f
    have h := text_any _ fxJ _ u h4 h2 h1 jsm_fx (fun _ => by rw [fx6]; decide)
    rw [fxt] at h
    exact h)
  have HT7 : Hid (∀ u, Fr NoB w u → Calls Tryz.prog 15 #[.agg #[.int .i64 7, .int .i64 0, .string ⟨#[]⟩, .slice none 0 0, .slice none 0 0]] u fun e w' => e = .returned (.tuple #[.string ⟨#[]⟩, .int .i64 93]) ∧ Fr NoB u w') := Lib.hid (fun u f => by
    have h := text_any NoB (.mk 7 0 [] [] []) (jV 7 0 [] (.slice none 0 0) (.slice none 0 0)) u (hx.fr0 f) (fun _ e => e.elim) (jat_leaf _ _ 7 0 [] (by unfold IntOk; omega) (by unfold IntOk; omega) (by simp) _ _ _ _) (by simp [JSm, JSms]) (fun h => by rw [fx7] at h; omega)
    rw [fxt7] at h
    exact h)
  have HG : Hid (∀ u, Fr NoB W2 u → Calls Tryz.prog 20 #[.agg #[v0, v1, v2, v3, v4], .string ⟨#[98]⟩] u fun e w' => ∃ x0 x1 x2 a c x4, e = .returned (.tuple #[.agg #[x0, x1, x2, .slice a 3 c, x4], .bool true]) ∧ Hid ((#[x0, x1, x2, .slice a 3 c, x4].all (·.oneCell')) = true) ∧ Fr NoB u w') := Lib.hid (fun u f => by
    obtain ⟨h1, h2, _, h4, _⟩ := HV.out u f
    have h := get_any _ fxJ _ [98] u h2 h1
    rw [fx8] at h
    refine h.mono ?_
    rintro e w' ⟨x, rfl, hr, hf⟩
    have hr0 : RAt (Rng w.heap.size u1.heap.size) w' fxL x := hr
    have hr1 := hr0
    simp only [fxL, RAt] at hr0
    obtain ⟨lv, kv, rfl, _, _, _, _, _, cs, _, hl⟩ := hr0
    have hl3 : ∃ a c, lv = .slice a 3 c := by
      rcases hl with ⟨h0, _⟩ | ⟨g, o, c, rfl, _⟩
      · simp at h0
      · exact ⟨_, c, rfl⟩
    obtain ⟨a, c, rfl⟩ := hl3
    exact ⟨_, _, _, a, c, _, rfl, Lib.hid (all_one hr1.one), hf⟩)
  have HX : Hid (∀ u (g : Nat), Fr NoB w u → Blk u g 25 #[.int .i64 4, .int .i64 0, .string ⟨#[120]⟩, .slice none 0 0, .slice none 0 0] → Calls Tryz.prog 22 #[.agg #[.int .i64 5, .int .i64 0, .string ⟨#[]⟩, .slice (some ⟨g, 0, none⟩) 1 1, .slice none 0 0]] u fun e w' => ∃ g c, e = .returned (.tuple #[.slice (some ⟨g, 0, none⟩) 1 c, .bool true]) ∧ w'.cell? ⟨g, 0, none⟩ = some (.string ⟨#[120]⟩) ∧ Fr NoB u w') := Lib.hid (fun u g f hb => by
    have hat : RAt (Only g) u (.mk 5 0 [] [.mk 4 0 [120] [] []] []) (jV 5 0 [] (.slice (some ⟨g, 0, none⟩) 1 1) (.slice none 0 0)) := by
      simp only [RAt]
      refine ⟨_, _, rfl, by unfold IntOk; omega, by unfold IntOk; omega, by simp, ⟨Or.inl ⟨rfl, _, _, rfl⟩, by simp, by simp⟩, by unfold big; simp, [.int .i64 4, .int .i64 0, .string ⟨#[120]⟩, .slice none 0 0, .slice none 0 0], ?_, Or.inr ⟨g, 0, 1, rfl, rfl, ?_⟩⟩
      · simp only [RCells]
        exact ⟨_, _, _, _, _, [], rfl, jat_leaf _ _ 4 0 [120] (by unfold IntOk; omega) (by unfold IntOk; omega) (by unfold big; simp) _ _ _ _, rfl⟩
      · intro i x hxi
        rw [Nat.zero_add, hb.cell]
        simpa using hxi
    refine (texts_any _ _ _ u (fun k e => by have e' : k = g := e; subst e'; exact hb.lt) hat (by simp [Jv.list])).mono ?_
    rintro e w' ⟨tv, rfl, ho, hf⟩
    have hq : textsP (.mk 5 0 [] [.mk 4 0 [120] [] []] []) = some [[120]] := by simp [textsP, Jv.kind, Jv.text]
    rw [hq] at ho ⊢
    have hc := @World.ownsRow.cells _ _ _ _ _ _ _ ho
    rcases ho.2 with ⟨rfl, h0⟩ | ⟨g2, cap, cur, rfl, _⟩
    · simp at h0
    · exact ⟨g2, cap, rfl, by have := hc (g := g2) rfl 0 (sV [120]) rfl; simpa [Addr.add] using this, hf⟩)
  have HK : Hid (∀ u, Fr NoB W2 u → Calls Tryz.prog 13 #[.agg #[v0, v1, v2, v3, v4]] u fun e w' => e = .returned (.int .i64 0) ∧ Fr NoB u w') := Lib.hid (fun u f => by
    obtain ⟨h1, h2, _, h4, _⟩ := HV.out u f
    have h := check_any _ fxJ _ u h4 h2 h1 jsm_fx
    rw [fx5] at h
    exact h)
  have F1 : Fr NoB W2 W2 := Fr.refl _ _
  have B1 := (HV.out _ F1).2.2.1
  go_upto_region 3 with (first | (refine wpList_load_row rfl 25 _ rfl u1.heap.size rfl 25 _ _ _ B1 Tryz.underlying25 rfl size_json ?_) | (go_at_call 15; ((with_reducible refine (HT.out _ F1).mono ?_); rintro e u2 ⟨rfl, F2⟩)))
  go_upto_region 4 with (first | (go_at_call 17; ((refine (HP2.out _ (HV.out _ F2).2.2.2.2).mono ?_); rintro e u3 ⟨rfl, f3⟩)) | (refine wpList_store_row rfl 25 _ _ rfl u3.heap.size zj rfl rfl 25 zj (Blk.new u3 25 zj) size_json rfl hzo ?_))
  have F3 := (F2.trans f3).trans (var_made u3 (.int .i64 0) (.int .i64 0) (.string ⟨#[]⟩) (.slice none 0 0) (.slice none 0 0)).1
  generalize (u3.alloc (.cells zj 25)).setRow u3.heap.size zj = W3 at F3 ⊢
  go_upto_region 5 with (first | (go_at_call 17; ((refine (HP3.out _ (HV.out _ F3).2.2.2.2).mono ?_); rintro e u4 ⟨rfl, f4⟩)) | (refine wpList_store_row rfl 25 _ _ rfl u4.heap.size zj rfl rfl 25 zj (Blk.new u4 25 zj) size_json rfl hzo ?_))
  have F4 := (F3.trans f4).trans (var_made u4 (.int .i64 0) (.int .i64 0) (.string ⟨#[]⟩) (.slice none 0 0) (.slice none 0 0)).1
  generalize (u4.alloc (.cells zj 25)).setRow u4.heap.size zj = W4 at F4 ⊢
  go_upto_region 6 with (first | (go_at_call 17; ((refine (HP4.out _ _ (HV.out _ F4).2.2.2.2 (by first | rfl | decide)).mono ?_); rintro e u5 ⟨rfl, f5⟩)) | (refine wpList_store_row rfl 25 _ _ rfl u5.heap.size zj rfl rfl 25 zj (Blk.new u5 25 zj) size_json rfl hzo ?_))
  have F5 := (F4.trans f5).trans (var_made u5 (.int .i64 0) (.int .i64 0) (.string ⟨#[]⟩) (.slice none 0 0) (.slice none 0 0)).1
  generalize (u5.alloc (.cells zj 25)).setRow u5.heap.size zj = W5 at F5 ⊢
  go_upto_region 7 with (go_at_call 15; ((with_reducible refine (HT7.out _ (HV.out _ F5).2.2.2.2).mono ?_); rintro e u6 ⟨rfl, f6⟩))
  have F6 := F5.trans f6
  have B6 := (HV.out _ F6).2.2.1
  go_upto_region 8 with (first | (refine wpList_load_row rfl 25 _ rfl u1.heap.size rfl 25 _ _ _ B6 Tryz.underlying25 rfl size_json ?_) | (go_at_call 20; ((with_reducible refine (HG.out _ F6).mono ?_); rintro e u7 ⟨x0, x1, x2, a, c, x4, rfl, H7, f7⟩)) | (refine wpList_store_row rfl 25 _ _ rfl u7.heap.size #[x0, x1, x2, .slice a 3 c, x4] rfl rfl 25 zj (Blk.new u7 25 zj) size_json rfl H7.out ?_))
  obtain ⟨fv7, bv7⟩ := var_made u7 x0 x1 x2 (.slice a 3 c) x4
  have F7 := (F6.trans f7).trans fv7
  generalize (u7.alloc (.cells zj 25)).setRow u7.heap.size #[x0, x1, x2, .slice a 3 c, x4] = W7 at F7 bv7 ⊢
  go_upto_region 9 with (go_at_call 22; ((refine (HX.out _ W7.heap.size ((HV.out _ F7).2.2.2.2.alloc _) (Blk.new W7 25 _)).mono ?_); rintro e u8 ⟨tg, tc, rfl, ct, f8⟩))
  have F8 := (F7.alloc (.cells #[.int .i64 4, .int .i64 0, .string ⟨#[120]⟩, .slice none 0 0, .slice none 0 0] 25)).trans f8
  have B8 := (HV.out _ F8).2.2.1
  have e0 : u8.cell? ⟨u1.heap.size, 0, none⟩ = some v0 := (B8.cell 0).trans rfl
  have e1 : u8.cell? ⟨u1.heap.size, 1, none⟩ = some v1 := (B8.cell 1).trans rfl
  have e2 : u8.cell? ⟨u1.heap.size, 2, none⟩ = some v2 := (B8.cell 2).trans rfl
  have e3 : u8.cell? ⟨u1.heap.size, 3, none⟩ = some v3 := (B8.cell 3).trans rfl
  have e4 : u8.cell? ⟨u1.heap.size, 4, none⟩ = some v4 := (B8.cell 4).trans rfl
  have c3 : u8.cell? ⟨u7.heap.size, 3, none⟩ = some (.slice a 3 c) := (((f8.blk (bv7.alloc _) (fun e => e)).cell 3)).trans rfl
  have HK8 := Lib.hid (HK.out _ F8)
  clear B8 bv7
  go_wp2_with (go_at_call 13; ((with_reducible refine HK8.out.mono ?_); rintro e u9 ⟨rfl, f9⟩))
  go_ret
  exact ⟨rfl, (HV.out _ (F8.trans f9)).2.2.2.2⟩
end Go.Proofs.YteeijmfnjcddmaaGreatDoor
