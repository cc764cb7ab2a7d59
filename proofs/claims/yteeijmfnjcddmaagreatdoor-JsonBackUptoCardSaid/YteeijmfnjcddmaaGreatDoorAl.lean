/- JSON, the document's side: Sorted at any value that may be; All. -/
import Derived.Test.YteeijmfnjcddmaaGreatDoorSr
import Derived.Test.YteeijmfnjcddmaaGreatDoorPx
namespace Go.Proofs.YteeijmfnjcddmaaGreatDoor
open Go.RowKit

/-- An object with its members in the order of their keys, its elements as they are. -/
def srtJ : Jv → Jv
  | .mk k i t l ks => if k = 6 then .mk 6 0 [] (valsO l ks) (keysS l ks) else .mk k i t l ks
theorem ok_mk {k i : Int} {t : Bs} {l : List Jv} {ks : List Bs} (h : okJ (.mk k i t l ks) = true) : formP k i t l.length ks = true ∧ ∀ x ∈ l, okJ x = true := by
  rw [okJ, Bool.and_eq_true] at h
  exact ⟨h.1, oksJ_all h.2⟩
theorem ok_obj {i : Int} {t : Bs} {l : List Jv} {ks : List Bs} (h : okJ (.mk 6 i t l ks) = true) : i = 0 ∧ t = [] ∧ ks.length = l.length ∧ ks.Nodup := by
  have h1 := (ok_mk h).1
  have h2 := (form_kind h1).2.2 rfl
  unfold formP at h1
  simp only [Bool.and_eq_true, intIn, textIn, Bool.or_eq_true] at h1
  obtain ⟨⟨_, hi⟩, ht⟩ := h1
  refine ⟨?_, ?_, h2.1, h2.2⟩
  · rcases hi with hi | hi
    · simpa using hi
    · exact absurd hi.1.1 (by decide)
  · rcases ht with ht | ht
    · simpa using ht
    · exact absurd ht.1 (by decide)
theorem sort_srt {k i : Int} {t : Bs} {l : List Jv} {ks : List Bs} (h : okJ (.mk k i t l ks) = true) :
    ∃ i' t' l' ks', srtJ (.mk k i t l ks) = .mk k i' t' l' ks' ∧ sortJ (.mk k i t l ks) = .mk k i' t' (l'.map sortJ) ks' ∧ ∀ x ∈ l', x ∈ l := by
  by_cases h6 : k = 6
  · subst h6
    obtain ⟨rfl, rfl, _, _⟩ := ok_obj h
    refine ⟨0, [], valsO l ks, keysS l ks, by rw [srtJ, if_pos rfl], ?_, fun x hx => valsO_mem hx⟩
    rw [sortJ_obj, valsO_sort]
  · exact ⟨i, t, l, ks, by rw [srtJ, if_neg h6], by rw [sortJ, if_neg h6, sortsJ_eq], fun x hx => hx⟩

set_option maxRecDepth 100000 in
set_option maxHeartbeats 3200000 in
/-- Sorted, at a value that may be. -/
theorem srt_any (j : Jv) (S : Nat → Prop) (v : Value) (w : World) (hS : ∀ g, S g → g < w.heap.size) (hat : RAt S w j v) (hok : okJ j = true) (hsz : szJ j ≤ 8388608) :
    Calls Tryz.prog 44 #[v] w fun e w' => ∃ u, e = .returned u ∧ RAt (Mix S w.heap.size w'.heap.size) w' (srtJ j) u ∧ Fr NoB w w' := by
  cases j with
  | mk k i t l ks =>
    have hat0 := hat
    simp only [RAt] at hat
    obtain ⟨lv, kv, rfl, hk, hi, ht, hks, hl, cs, hcs, hlm⟩ := hat
    obtain ⟨la, lc, rfl⟩ := hlm.sl
    obtain ⟨ka, kc, rfl⟩ := hks.1.sl
    have hll := szL_len l
    simp only [szJ] at hsz
    by_cases h6 : k = 6
    · subst h6
      obtain ⟨rfl, rfl, h1, h2⟩ := ok_obj hok
      rw [srtJ, if_pos rfl]
      exact sorted_obj l ks S 0 [] la ka lc kc w hS hks cs hcs hlm (by omega) h1 h2
    · have h6b : (k != 6) = true := by simpa using h6
      rw [srtJ, if_neg h6]
      have f : Fr NoB w ((w.alloc (.cells #[.int .i64 k, .int .i64 i, .string ⟨t.toArray⟩, .slice la l.length lc, .slice ka ks.length kc] 25)).alloc (.cells zj 25)) := ((Fr.refl _ _).alloc _).alloc _
      have g0 : Blk ((w.alloc (.cells #[.int .i64 k, .int .i64 i, .string ⟨t.toArray⟩, .slice la l.length lc, .slice ka ks.length kc] 25)).alloc (.cells zj 25)) w.heap.size 25 #[.int .i64 k, .int .i64 i, .string ⟨t.toArray⟩, .slice la l.length lc, .slice ka ks.length kc] := (Blk.new w 25 _).alloc _
      have g1 : Blk ((w.alloc (.cells #[.int .i64 k, .int .i64 i, .string ⟨t.toArray⟩, .slice la l.length lc, .slice ka ks.length kc] 25)).alloc (.cells zj 25)) (w.heap.size + 1) 25 zj := by
        have := Blk.new (w.alloc (.cells #[.int .i64 k, .int .i64 i, .string ⟨t.toArray⟩, .slice la l.length lc, .slice ka ks.length kc] 25)) 25 zj
        simpa using this
      generalize hW : (w.alloc (.cells #[.int .i64 k, .int .i64 i, .string ⟨t.toArray⟩, .slice la l.length lc, .slice ka ks.length kc] 25)).alloc (.cells zj 25) = W at f g0 g1
      have HW := Lib.hid hW
      have c0 : W.cell? ⟨w.heap.size, 0, none⟩ = some (.int .i64 k) := (g0.cell 0).trans rfl
      have hone := one_json k i ⟨t.toArray⟩ la ka l.length lc ks.length kc
      have rN := g1.setRow #[.int .i64 k, .int .i64 i, .string ⟨t.toArray⟩, .slice la l.length lc, .slice ka ks.length kc]
      have fN := f.setRow (w.heap.size + 1) #[.int .i64 k, .int .i64 i, .string ⟨t.toArray⟩, .slice la l.length lc, .slice ka ks.length kc] (Or.inl (by omega))
      have HAT := Lib.hid hat0
      have HS := Lib.hid hS
      clear hW hat0 hcs hlm hks hS h6
      go_enter Tryz.func44, Tryz.ntmps44
      go_wp2_with (first | (refine wpList_load_row rfl 25 _ rfl w.heap.size rfl 25 _ _ _ g0 Tryz.underlying25 rfl size_json ?_) | (refine wpList_store_row rfl 25 _ _ rfl (w.heap.size + 1) #[.int .i64 k, .int .i64 i, .string ⟨t.toArray⟩, .slice la l.length lc, .slice ka ks.length kc] rfl rfl 25 zj g1 size_json rfl hone ?_) | (rw [HW.out]))
      refine bodyPost_ret (v := jV k i t (.slice la l.length lc) (.slice ka ks.length kc)) (json_back rfl _ _ (w.heap.size + 1) _ _ _ _ _ rfl rN) rfl ⟨_, rfl, ?_, fN⟩
      exact RAt.mono (fun g hg => Or.inl hg) _ _ (RAt.fr (fun g hg => fN.block g (HS.out g hg) (fun e => e)) _ _ HAT.out)

/-- What All has to do. -/
def AL (j : Jv) : Prop := ∀ (S : Nat → Prop) (v : Value) (w : World), (∀ g, S g → g < w.heap.size) → RAt S w j v → okJ j = true → szJ j ≤ 8388608 → Calls Tryz.prog 25 #[v] w fun e w' => ∃ u, e = .returned u ∧ RAt (Mix S w.heap.size w'.heap.size) w' (sortJ j) u ∧ Fr NoB w w'

set_option maxRecDepth 100000 in
set_option maxHeartbeats 6400000 in
theorem all_mk (k i : Int) (t : Bs) (l : List Jv) (ks : List Bs) (S : Nat → Prop) (a0 a1 a2 a3 a4 : Value) (w : World) (hS : ∀ g, S g → g < w.heap.size) (hll : l.length ≤ 8388608)
    (hSo : ∀ u, Fr NoB w u → Calls Tryz.prog 44 #[.agg #[a0, a1, a2, a3, a4]] u fun e w' => ∃ x, e = .returned x ∧ RAt (Mix S u.heap.size w'.heap.size) w' (.mk k i t l ks) x ∧ Fr NoB u w') (hIH : ∀ x ∈ l, AL x) (hok : ∀ x ∈ l, okJ x = true ∧ szJ x ≤ 8388608) :
    Calls Tryz.prog 25 #[.agg #[a0, a1, a2, a3, a4]] w fun e w' => ∃ u, e = .returned u ∧ RAt (Mix S w.heap.size w'.heap.size) w' (.mk k i t (l.map sortJ) ks) u ∧ Fr NoB w w' := by
  obtain ⟨i1, hj0, hy0, hy1, hy2⟩ := info_parts info_json
  have f : Fr NoB w ((w.alloc (.cells #[a0, a1, a2, a3, a4] 25)).alloc (.cells zj 25)) := ((Fr.refl _ _).alloc _).alloc _
  have g0 : Blk ((w.alloc (.cells #[a0, a1, a2, a3, a4] 25)).alloc (.cells zj 25)) w.heap.size 25 #[a0, a1, a2, a3, a4] := (Blk.new w 25 _).alloc _
  have g1 : Blk ((w.alloc (.cells #[a0, a1, a2, a3, a4] 25)).alloc (.cells zj 25)) (w.heap.size + 1) 25 zj := by
    have := Blk.new (w.alloc (.cells #[a0, a1, a2, a3, a4] 25)) 25 zj
    simpa using this
  have hsW : ((w.alloc (.cells #[a0, a1, a2, a3, a4] 25)).alloc (.cells zj 25)).heap.size = w.heap.size + 2 := by simp
  generalize hW : (w.alloc (.cells #[a0, a1, a2, a3, a4] 25)).alloc (.cells zj 25) = W at f g0 g1 hsW
  have HW := Lib.hid hW
  have HSO := Lib.hid (hSo W f)
  have HIH := Lib.hid hIH
  have HOK := Lib.hid hok
  have HS := Lib.hid hS
  clear hW hIH hS hSo hok
  go_enter Tryz.func25, Tryz.ntmps25
  go_upto_region 2 with (first | (rw [HW.out]; refine wpList_load_row rfl 25 _ rfl w.heap.size rfl 25 _ _ _ g0 Tryz.underlying25 rfl size_json ?_) | (go_at_call 44; ((with_reducible refine HSO.out.mono ?_); rintro e w1 ⟨x, rfl, hx, f1⟩; obtain ⟨x0, x1, x2, x3, x4, rfl, o1⟩ := hx.form; have B0a := f1.blk g0 (fun e => e))) | (refine wpList_store_row rfl 25 _ _ rfl w.heap.size #[x0, x1, x2, x3, x4] rfl rfl 25 #[a0, a1, a2, a3, a4] B0a size_json rfl o1 ?_))
  have hx0 := hx
  simp only [RAt] at hx
  obtain ⟨lv, kv, he, hk, hi, ht, hks, hl, cs, hcs, hlm⟩ := hx
  simp only [jV, Value.agg.injEq, Array.mk.injEq, List.cons.injEq, and_true] at he
  obtain ⟨rfl, rfl, rfl, rfl, rfl⟩ := he
  obtain ⟨la, lc, rfl⟩ := hlm.sl
  obtain ⟨ka, kc, rfl⟩ := hks.1.sl
  have hs1 := f1.size
  have B0b := B0a.setRow #[.int .i64 k, .int .i64 i, .string ⟨t.toArray⟩, .slice la l.length lc, .slice ka ks.length kc]
  have fR : Fr (Only w.heap.size) w1 (w1.setRow w.heap.size #[.int .i64 k, .int .i64 i, .string ⟨t.toArray⟩, .slice la l.length lc, .slice ka ks.length kc]) := Fr.rowO _ _ _
  have B1b := fR.blk (f1.blk g1 (fun e => e)) (fun e => by have e' : w.heap.size + 1 = w.heap.size := e; omega)
  have fV : Fr NoB w (w1.setRow w.heap.size #[.int .i64 k, .int .i64 i, .string ⟨t.toArray⟩, .slice la l.length lc, .slice ka ks.length kc]) := (f.trans f1).setRow w.heap.size _ (Or.inl (Nat.le_refl _))
  have hsV : (w1.setRow w.heap.size #[.int .i64 k, .int .i64 i, .string ⟨t.toArray⟩, .slice la l.length lc, .slice ka ks.length kc]).heap.size = w1.heap.size := by simp [World.setRow]
  have hT : ∀ g, Mix S W.heap.size w1.heap.size g → g < w1.heap.size ∧ ¬ g = w.heap.size ∧ ¬ g = w.heap.size + 1 := fun g hg => by
    rcases hg with hg | hg
    · have := HS.out g hg; omega
    · omega
  have hcs2 := RCells.fr (fun g hg => fR.block g (hT g hg).1 (hT g hg).2.1) _ _ hcs
  have hlm2 := hlm.fr (fun g hg => fR.block g (hT g hg).1 (hT g hg).2.1)
  have hks2 := hks.fr (fun g hg => fR.block g (hT g hg).1 (hT g hg).2.1)
  have hTm : ∀ g, Mix S W.heap.size w1.heap.size g → Mix S w.heap.size w1.heap.size g := fun g hg => hg.imp id (fun h => ⟨by omega, h.2⟩)
  generalize hV : w1.setRow w.heap.size #[.int .i64 k, .int .i64 i, .string ⟨t.toArray⟩, .slice la l.length lc, .slice ka ks.length kc] = V at *
  generalize hM : Mix S W.heap.size w1.heap.size = M at *
  rw [← hsV] at hT hTm
  have HB : Hid (∀ u, Fr NoB V u → Blk u w.heap.size 25 #[.int .i64 k, .int .i64 i, .string ⟨t.toArray⟩, .slice la l.length lc, .slice ka ks.length kc] ∧ Blk u (w.heap.size + 1) 25 zj) := Lib.hid (fun u fu => ⟨fu.blk B0b (fun e => e), fu.blk B1b (fun e => e)⟩)
  have HL := Lib.hid (And.intro hcs2 hlm2)
  have HK := Lib.hid hks2
  have HT := Lib.hid hT
  have HTM := Lib.hid hTm
  have st : TRows M V.heap.size (V.alloc (.cells #[] 25)) [] [] (.slice (some ⟨V.heap.size, 0, none⟩) 0 0) (.slice none 0 0) := TRows.list M V
  have fE : Fr NoB V (V.alloc (.cells #[] 25)) := (Fr.refl _ _).alloc _
  have hwV : w.heap.size + 2 ≤ V.heap.size := by omega
  clear hx0 hcs hlm hks hcs2 hlm2 hks2 hT hTm B0a B0b B1b g0 g1 fR hV hM HSO HW o1 f f1 hs1 hsV hsW
  go_wp2_with fail
  go_loopw [3, 4] (fun v3 v4 wr => ∃ m : Nat, m ≤ l.length ∧ v4 = .int .i64 m ∧ TRows M V.heap.size wr ((l.take m).map sortJ) [] v3 (.slice none 0 0) ∧ Fr NoB V wr) (fun _ v4 _ => l.length - (intOf v4).toNat)
  case atStart => exact ⟨0, Nat.zero_le _, rfl, st, fE⟩
  case round =>
    obtain ⟨m, hm, rfl, hst, hf⟩ := hrel
    obtain ⟨B0, B1⟩ := HB.out _ hf
    have d3 : wr.cell? ⟨w.heap.size, 3, none⟩ = some (.slice la l.length lc) := (B0.cell 3).trans rfl
    by_cases hlt : m < l.length
    · have k1 : (0 : Int) ≤ m := by omega
      have k2 : (m : Int) < l.length := by omega
      obtain ⟨hcs, hlm⟩ := HL.out
      obtain ⟨ga, oa, rfl, hcell⟩ := hlm.atS (fun g hg => (HT.out g hg).1) hf (by omega)
      obtain ⟨v0, v1, v2, v3, v4, p0, p1, p2, p3, p4, hat⟩ := RCells.get l cs m hlt hcs
      have e0 : wr.cell? ⟨ga, oa + m * 5, none⟩ = some v0 := hcell _ _ p0
      have e1 : wr.cell? ⟨ga, oa + m * 5 + 1, none⟩ = some v1 := hcell _ _ p1
      have e2 : wr.cell? ⟨ga, oa + m * 5 + 2, none⟩ = some v2 := hcell _ _ p2
      have e3 : wr.cell? ⟨ga, oa + m * 5 + 3, none⟩ = some v3 := hcell _ _ p3
      have e4 : wr.cell? ⟨ga, oa + m * 5 + 4, none⟩ = some v4 := hcell _ _ p4
      have HC := Lib.hid (HIH.out l[m] (List.getElem_mem hlt) M _ wr (fun g hg => Nat.lt_of_lt_of_le (HT.out g hg).1 hf.size) (RAt.fr (fun g hg => hf.block g (HT.out g hg).1 (fun e => e)) _ _ hat) (HOK.out _ (List.getElem_mem hlt)).1 (HOK.out _ (List.getElem_mem hlt)).2)
      have htk : (l.take (m + 1)).map sortJ = (l.take m).map sortJ ++ [sortJ l[m]] := by rw [(List.take_append_getElem hlt).symm, List.map_append]; rfl
      have HTK := Lib.hid htk
      have hml : ((l.take m).map sortJ).length ≤ l.length := by simp; omega
      clear hcell p0 p1 p2 p3 p4 hat hcs hlm htk B0 B1
      generalize sortJ l[m] = x at *
      generalize (l.take m).map sortJ = N at *
      obtain ⟨cs1, own1⟩ := hst.vals
      have hlv := hst.lts.1
      have hsw2 := hf.size
      go_wp2_with (first | (go_at_call 25; ((with_reducible refine HC.out.mono ?_); rintro e w2 ⟨u1, rfl, hu, f2⟩; obtain ⟨x0, x1, x2, x3, x4, rfl, o1⟩ := hu.form; have hs2 := f2.size; have fa : Fr NoB w2 (w2.alloc (.cells #[x0, x1, x2, x3, x4] 25)) := (Fr.refl NoB w2).alloc _; have s3 := (hst.fr f2).fr fa; have own3 := (f2.trans fa).row own1 (fun _ _ e => e))) | (at_builtin; go_loud (refine wpList_append_lies _ rfl _ _ 22 rfl V.heap.size 25 i1 (jV 0 0 [] (.slice none 0 0) (.slice none 0 0)) 5 80 Tryz.underlying22 hj0 hy0 hy1 hy2 rfl (by decide) u3 _ _ rfl own3 ⟨w2.heap.size, 0, none⟩ 1 1 [x0, x1, x2, x3, x4] rfl rfl (World.news_of_block (cs := #[x0, x1, x2, x3, x4]) (t := 25) (fr := (0, 0)) (heap_alloc_new w2 _)) (all5 o1) (by omega) (by unfold maxLen; omega) (by omega) (by simp; omega) (w2.heap.size + 1) (by simp) ?_; intro g cap w4 hown hgr hat hglt)))
      have st4 := s3.item (lo2 := wr.heap.size) (hi := w2.heap.size) (fun g hg => (HT.out g hg).1) (RAt.fr (fun g hg => fa.block g (by rcases hg with hg | hg; have := (HT.out g hg).1; omega; exact hg.2) (fun e => e)) _ _ hu) hsw2 (by simp) (by simp; omega) (fun g hg => (hlv g hg).2) (fun g hg => by simp [Value.ownBlock] at hg) g cap own3 hown hgr (by simpa using hat)
      have f4 : Fr NoB V w4 := ((hf.trans f2).trans fa).grown hgr (fun j hj hlt => absurd (hlv j hj).1 (by omega))
      go_roundw
      case rel => exact ⟨m + 1, by omega, by simp, by rw [HTK.out]; exact st4, f4⟩
      case measure => simp [intOf]; omega
    · obtain rfl : m = l.length := by omega
      rw [List.take_length] at hst
      obtain ⟨av, cv, hv⟩ := hst.lvs
      rw [List.length_map] at hv
      subst hv
      have z3 := B0.frozen 3
      have gN := B0.set_ 3 (.slice av l.length cv)
      have gM := B1.far (p := ⟨w.heap.size, 3, none⟩) (by simp) (.slice av l.length cv)
      have hone := one_json k i ⟨t.toArray⟩ av ka l.length cv ks.length kc
      have fX : Fr (fun g => g = w.heap.size ∨ g = w.heap.size + 1) wr ((wr.setCell ⟨w.heap.size, 3, none⟩ (.slice av l.length cv)).setRow (w.heap.size + 1) #[.int .i64 k, .int .i64 i, .string ⟨t.toArray⟩, .slice av l.length cv, .slice ka ks.length kc]) := ((Fr.refl _ wr).setCell (p := ⟨w.heap.size, 3, none⟩) (Or.inl rfl) _).setRow (w.heap.size + 1) _ (Or.inr (Or.inr rfl))
      have fN : Fr NoB w ((wr.setCell ⟨w.heap.size, 3, none⟩ (.slice av l.length cv)).setRow (w.heap.size + 1) #[.int .i64 k, .int .i64 i, .string ⟨t.toArray⟩, .slice av l.length cv, .slice ka ks.length kc]) := ((fV.trans hf).setCell_new (p := ⟨w.heap.size, 3, none⟩) (Nat.le_refl _) _).setRow (w.heap.size + 1) _ (Or.inl (by omega))
      have stF := hst.frX fX (fun g hg => ⟨fun e => by have := HT.out g e; omega, by omega⟩)
      obtain ⟨cs', q1, q2, _⟩ := stF.cells (b := V.heap.size) (Nat.le_refl _)
      have hks := HK.out
      have rN := gM.setRow #[.int .i64 k, .int .i64 i, .string ⟨t.toArray⟩, .slice av l.length cv, .slice ka ks.length kc]
      have hT := HT.out
      have hTM := HTM.out
      have hfs := hf.size
      have hfs2 := fX.size
      clear B0 B1 HB HL HIH HS HK hst stF st fE HT HTM
      go_wp2_with (first | (refine wpList_load_row rfl 25 _ rfl w.heap.size rfl 25 _ _ _ gN Tryz.underlying25 rfl size_json ?_) | (refine wpList_store_row rfl 25 _ _ rfl (w.heap.size + 1) #[.int .i64 k, .int .i64 i, .string ⟨t.toArray⟩, .slice av l.length cv, .slice ka ks.length kc] rfl rfl 25 zj gM size_json rfl hone ?_))
      refine bodyPost_ret (v := jV k i t (.slice av l.length cv) (.slice ka ks.length kc)) (json_back rfl _ _ (w.heap.size + 1) _ _ _ _ _ rfl rN) rfl ⟨_, rfl, ?_, fN⟩
      have hMix : ∀ g N, V.heap.size ≤ N → Mix M V.heap.size N g → Mix S w.heap.size N g := fun g N hN hg => by
        rcases hg with hg | hg
        · exact (hTM g hg).imp id (fun h => ⟨h.1, by omega⟩)
        · exact Or.inr ⟨by omega, hg.2⟩
      have hszN := Nat.le_trans hfs hfs2
      simp only [RAt]
      refine ⟨_, _, rfl, hk, hi, ht, RStrs.mono ((hks.fr (fun g hg => hf.block g (hT g hg).1 (fun e => e))).fr (fun g hg => fX.block g (Nat.lt_of_lt_of_le (hT g hg).1 hfs) (fun e => by have := hT g hg; omega))) (fun g hg => hMix g _ hszN (Or.inl hg)), by unfold big; simp; omega, cs', RCells.mono (fun g hg => hMix g _ hszN hg) _ _ q1, InMem.mono q2 (fun g hg => hMix g _ hszN hg)⟩
mutual
theorem AL_all : ∀ j : Jv, AL j
  | .mk k i t l ks => by
    intro S v w hS hat hok hsz
    have ih := ALs_all l
    obtain ⟨i', t', l', ks', e1, e2, e3⟩ := sort_srt hok
    obtain ⟨a0, a1, a2, a3, a4, rfl, _⟩ := hat.form
    have hsl : szL l ≤ 8388608 := by simp only [szJ] at hsz; omega
    rw [e2]
    refine all_mk k i' t' l' ks' S a0 a1 a2 a3 a4 w hS ?_ (fun u fu => ?_) (fun x hx => ih x (e3 x hx)) (fun x hx => ⟨(ok_mk hok).2 x (e3 x hx), by have := szL_mem (e3 x hx); omega⟩)
    · have hl := szL_len l
      by_cases h6 : k = 6
      · subst h6
        rw [srtJ, if_pos rfl] at e1
        cases e1
        rw [valsO_len]; omega
      · rw [srtJ, if_neg h6] at e1
        cases e1
        omega
    · rw [← e1]
      exact srt_any _ S _ u (fun g hg => Nat.lt_of_lt_of_le (hS g hg) fu.size) (RAt.fr (fun g hg => fu.block g (hS g hg) (fun e => e)) _ _ hat) hok hsz
theorem ALs_all : ∀ (l : List Jv), ∀ x ∈ l, AL x
  | [], x, hx => absurd hx (by simp)
  | j :: r, x, hx => by
    cases hx with
    | head => exact AL_all j
    | tail _ h => exact ALs_all r x h
end
/-- All, whole. -/
theorem rAll_any (j : Jv) (v : Value) (w : World) (hat : RAt (All w) w j v) (hok : okJ j = true) (hs : szJ j ≤ 8388608) : Calls Tryz.prog 25 #[v] w fun e w' => ∃ u, e = .returned u ∧ RAt (All w') w' (sortJ j) u ∧ Fr NoB w w' :=
  (AL_all j (All w) v w (fun _ h => h) hat hok hs).mono (fun _ _ ⟨u, h1, h2, h3⟩ => ⟨u, h1, RAt.mono (fun _ hg => hg.elim (fun h => Nat.lt_of_lt_of_le h h3.size) (fun h => h.2)) _ _ h2, h3⟩)
end Go.Proofs.YteeijmfnjcddmaaGreatDoor
