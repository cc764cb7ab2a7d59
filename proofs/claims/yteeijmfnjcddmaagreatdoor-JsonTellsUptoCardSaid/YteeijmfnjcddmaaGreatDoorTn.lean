/- JsonOrder: turned: a value with all members in the other order. -/
import Derived.Test.YteeijmfnjcddmaaGreatDoorTr
import Derived.Test.YteeijmfnjcddmaaGreatDoorRs
import Derived.Test.YteeijmfnjcddmaaGreatDoorPt
namespace Go.Proofs.YteeijmfnjcddmaaGreatDoor
open Go.RowKit

/-- What turned has to do. -/
def TN (j : Jv) : Prop := ∀ (S : Nat → Prop) (v : Value) (w : World), (∀ g, S g → g < w.heap.size) → RAt S w j v → szJ j ≤ 8388608 → Calls Tryz.prog 26 #[v] w fun e w' => ∃ u, e = .returned u ∧ RAt (Mix S w.heap.size w'.heap.size) w' (turnJ j) u ∧ Fr NoB w w'
theorem szL_mem : ∀ {l : List Jv} {x : Jv}, x ∈ l → szJ x ≤ szL l
  | [], x, h => by simp at h
  | j :: r, x, h => by
    rcases List.mem_cons.1 h with rfl | h
    · simp only [szL]; omega
    · have := szL_mem h; simp only [szL]; omega
theorem InMem.atS {S : Nat → Prop} {w u : World} {a : Option Addr} {n c : Nat} {cs : List Value} (h : InMem S w (.slice a n c) n cs) (hS : ∀ g, S g → g < w.heap.size) (f : Fr NoB w u) (hn : 0 < n) : ∃ g o, a = some ⟨g, o, none⟩ ∧ ∀ (i : Nat) x, cs[i]? = some x → u.cell? ⟨g, o + i, none⟩ = some x := by
  rcases h with ⟨h0, _⟩ | ⟨g, o, c', he, hg, hc⟩
  · omega
  · simp only [Value.slice.injEq, true_and] at he
    exact ⟨g, o, he.1, fun i x hx => (f.cell (p := ⟨g, o + i, none⟩) (hS g hg) (fun e => e)).trans (hc i x hx)⟩
theorem all5 {v0 v1 v2 v3 v4 : Value} (h : (#[v0, v1, v2, v3, v4].all (·.oneCell')) = true) : ∀ u ∈ [v0, v1, v2, v3, v4], u.oneCell' = true := by
  intro u hu
  have := Array.all_eq_true_iff_forall_mem.1 h
  exact this u (by simpa using hu)

set_option maxRecDepth 100000 in
set_option maxHeartbeats 6400000 in
theorem turned_list (k i : Int) (t : Bs) (l : List Jv) (ks : List Bs) (S : Nat → Prop) (la ka : Option Addr) (lc kc : Nat) (w : World) (hS : ∀ g, S g → g < w.heap.size) (hk : IntOk k) (hi : IntOk i) (ht : t.length ≤ big) (hks : RStrs S w ks (.slice ka ks.length kc))
    (cs : List Value) (hcs : RCells S w l cs) (hlm : InMem S w (.slice la l.length lc) l.length cs) (hsz : szL l ≤ 8388608) (hIH : ∀ x ∈ l, TN x) (hno : ¬ (k = 6 ∧ ks.length = l.length)) :
    Calls Tryz.prog 26 #[jV k i t (.slice la l.length lc) (.slice ka ks.length kc)] w fun e w' => ∃ u, e = .returned u ∧ RAt (Mix S w.heap.size w'.heap.size) w' (.mk k i t (l.map turnJ) ks) u ∧ Fr NoB w w' := by
  obtain ⟨i1, hj0, hy0, hy1, hy2⟩ := info_parts info_json
  have hll := szL_len l
  have f : Fr NoB w ((w.alloc (.cells #[.int .i64 k, .int .i64 i, .string ⟨t.toArray⟩, .slice la l.length lc, .slice ka ks.length kc] 25)).alloc (.cells zj 25)) := ((Fr.refl _ _).alloc _).alloc _
  have g0 : Blk ((w.alloc (.cells #[.int .i64 k, .int .i64 i, .string ⟨t.toArray⟩, .slice la l.length lc, .slice ka ks.length kc] 25)).alloc (.cells zj 25)) w.heap.size 25 #[.int .i64 k, .int .i64 i, .string ⟨t.toArray⟩, .slice la l.length lc, .slice ka ks.length kc] := (Blk.new w 25 _).alloc _
  have g1 : Blk ((w.alloc (.cells #[.int .i64 k, .int .i64 i, .string ⟨t.toArray⟩, .slice la l.length lc, .slice ka ks.length kc] 25)).alloc (.cells zj 25)) (w.heap.size + 1) 25 zj := by
    have := Blk.new (w.alloc (.cells #[.int .i64 k, .int .i64 i, .string ⟨t.toArray⟩, .slice la l.length lc, .slice ka ks.length kc] 25)) 25 zj
    simpa using this
  have hsW : ((w.alloc (.cells #[.int .i64 k, .int .i64 i, .string ⟨t.toArray⟩, .slice la l.length lc, .slice ka ks.length kc] 25)).alloc (.cells zj 25)).heap.size = w.heap.size + 2 := by simp
  generalize hW : (w.alloc (.cells #[.int .i64 k, .int .i64 i, .string ⟨t.toArray⟩, .slice la l.length lc, .slice ka ks.length kc] 25)).alloc (.cells zj 25) = W at f g0 g1 hsW
  have HW := Lib.hid hW
  have c0 : W.cell? ⟨w.heap.size, 0, none⟩ = some (.int .i64 k) := (g0.cell 0).trans rfl
  have c3 : W.cell? ⟨w.heap.size, 3, none⟩ = some (.slice la l.length lc) := (g0.cell 3).trans rfl
  have c4 : W.cell? ⟨w.heap.size, 4, none⟩ = some (.slice ka ks.length kc) := (g0.cell 4).trans rfl
  have HB : Hid (∀ u, Fr NoB W u → Blk u w.heap.size 25 #[.int .i64 k, .int .i64 i, .string ⟨t.toArray⟩, .slice la l.length lc, .slice ka ks.length kc] ∧ Blk u (w.heap.size + 1) 25 zj) := Lib.hid (fun u fu => ⟨fu.blk g0 (fun e => e), fu.blk g1 (fun e => e)⟩)
  have HL := Lib.hid (And.intro hcs hlm)
  have HIH := Lib.hid hIH
  have HK := Lib.hid hks
  have HS := Lib.hid hS
  clear hW g0 g1 hcs hlm hIH hks hS
  have st : TRows S W.heap.size (W.alloc (.cells #[] 25)) [] [] (.slice (some ⟨W.heap.size, 0, none⟩) 0 0) (.slice none 0 0) := TRows.list S W
  have fE : Fr NoB W (W.alloc (.cells #[] 25)) := (Fr.refl _ _).alloc _
  rw [hsW] at st
  go_enter Tryz.func26, Tryz.ntmps26
  by_cases h6 : k = 6
  · have hne : ¬ (ks.length : Int) = (l.length : Int) := fun e => hno ⟨h6, by omega⟩
    have hnb : ((ks.length : Int) == (l.length : Int)) = false := by simpa using hne
    subst h6
    clear hno
    go_wp2_with (rw [HW.out])
    go_loopw [6, 7] (fun v6 v7 wr => ∃ m : Nat, m ≤ l.length ∧ v7 = .int .i64 m ∧ TRows S (w.heap.size + 2) wr ((l.take m).map turnJ) [] v6 (.slice none 0 0) ∧ Fr NoB W wr) (fun _ v7 _ => l.length - (intOf v7).toNat)
    case atStart => exact ⟨0, Nat.zero_le _, rfl, by simpa [hsW] using st, fE⟩
    case round =>
      obtain ⟨m, hm, rfl, hst, hf⟩ := hrel
      obtain ⟨B0, B1⟩ := HB.out _ hf
      have d3 : wr.cell? ⟨w.heap.size, 3, none⟩ = some (.slice la l.length lc) := (B0.cell 3).trans rfl
      by_cases hlt : m < l.length
      · have k1 : (0 : Int) ≤ m := by omega
        have k2 : (m : Int) < l.length := by omega
        obtain ⟨hcs, hlm⟩ := HL.out
        obtain ⟨ga, oa, rfl, hcell⟩ := hlm.atS HS.out (f.trans hf) (by omega)
        obtain ⟨v0, v1, v2, v3, v4, p0, p1, p2, p3, p4, hat⟩ := RCells.get l cs m hlt hcs
        have e0 : wr.cell? ⟨ga, oa + m * 5, none⟩ = some v0 := hcell _ _ p0
        have e1 : wr.cell? ⟨ga, oa + m * 5 + 1, none⟩ = some v1 := hcell _ _ p1
        have e2 : wr.cell? ⟨ga, oa + m * 5 + 2, none⟩ = some v2 := hcell _ _ p2
        have e3 : wr.cell? ⟨ga, oa + m * 5 + 3, none⟩ = some v3 := hcell _ _ p3
        have e4 : wr.cell? ⟨ga, oa + m * 5 + 4, none⟩ = some v4 := hcell _ _ p4
        have HC := Lib.hid (HIH.out l[m] (List.getElem_mem hlt) S _ wr (fun g hg => Nat.lt_of_lt_of_le (HS.out g hg) (f.trans hf).size) (RAt.fr (fun g hg => (f.trans hf).block g (HS.out g hg) (fun e => e)) _ _ hat) (by have := szL_mem (List.getElem_mem hlt); omega))
        have htk : (l.take (m + 1)).map turnJ = (l.take m).map turnJ ++ [turnJ l[m]] := by rw [(List.take_append_getElem hlt).symm, List.map_append]; rfl
        have HTK := Lib.hid htk
        have hml : ((l.take m).map turnJ).length ≤ l.length := by simp; omega
        clear hcell p0 p1 p2 p3 p4 hat hcs hlm htk B0 B1
        generalize turnJ l[m] = x at *
        generalize (l.take m).map turnJ = M at *
        obtain ⟨cs1, own1⟩ := hst.vals
        have hlv := hst.lts.1
        have hsw2 : w.heap.size + 2 ≤ wr.heap.size := by have := hf.size; omega
        go_wp2_with (first | (go_at_call 26; ((with_reducible refine HC.out.mono ?_); rintro e w2 ⟨u1, rfl, hu, f2⟩; obtain ⟨x0, x1, x2, x3, x4, rfl, o1⟩ := hu.form; have hs2 := f2.size; have fa : Fr NoB w2 (w2.alloc (.cells #[x0, x1, x2, x3, x4] 25)) := (Fr.refl NoB w2).alloc _; have s3 := (hst.fr f2).fr fa; have own3 := (f2.trans fa).row own1 (fun _ _ e => e))) | (at_builtin; go_loud (refine wpList_append_lies _ rfl _ _ 22 rfl (w.heap.size + 2) 25 i1 (jV 0 0 [] (.slice none 0 0) (.slice none 0 0)) 5 80 Tryz.underlying22 hj0 hy0 hy1 hy2 rfl (by decide) u6 _ _ rfl own3 ⟨w2.heap.size, 0, none⟩ 1 1 [x0, x1, x2, x3, x4] rfl rfl (World.news_of_block (cs := #[x0, x1, x2, x3, x4]) (t := 25) (fr := (0, 0)) (heap_alloc_new w2 _)) (all5 o1) (by omega) (by unfold maxLen; omega) (by omega) (by simp; omega) (w2.heap.size + 1) (by simp) ?_; intro g cap w4 hown hgr hat hglt)))
        have st4 := s3.item (lo2 := wr.heap.size) (hi := w2.heap.size) (fun g hg => by have := HS.out g hg; omega) (RAt.fr (fun g hg => fa.block g (by rcases hg with hg | hg; have := HS.out g hg; omega; exact hg.2) (fun e => e)) _ _ hu) hsw2 (by simp) (by simp; omega) (fun g hg => (hlv g hg).2) (fun g hg => by simp [Value.ownBlock] at hg) g cap own3 hown hgr (by simpa using hat)
        have f4 : Fr NoB W w4 := ((hf.trans f2).trans fa).grown hgr (fun j hj hlt => absurd (hlv j hj).1 (by omega))
        go_roundw
        case rel => exact ⟨m + 1, by omega, by simp, by rw [HTK.out]; exact st4, f4⟩
        case measure => simp [intOf]; omega
      · obtain rfl : m = l.length := by omega
        rw [List.take_length] at hst
        obtain ⟨av, cv, hv⟩ := hst.lvs
        rw [List.length_map] at hv
        subst hv
        have z3 := B0.frozen 3
        have gN := B0.set_ 3 (.slice av l.length cv)
        have gM := B1.far (p := ⟨w.heap.size, 3, none⟩) (by simp) (.slice av l.length cv)
        have hone := one_json 6 i ⟨t.toArray⟩ av ka l.length cv ks.length kc
        have fX : Fr (fun g => g = w.heap.size ∨ g = w.heap.size + 1) wr ((wr.setCell ⟨w.heap.size, 3, none⟩ (.slice av l.length cv)).setRow (w.heap.size + 1) #[.int .i64 6, .int .i64 i, .string ⟨t.toArray⟩, .slice av l.length cv, .slice ka ks.length kc]) := ((Fr.refl _ wr).setCell (p := ⟨w.heap.size, 3, none⟩) (Or.inl rfl) _).setRow (w.heap.size + 1) _ (Or.inr (Or.inr rfl))
        have fN : Fr NoB w ((wr.setCell ⟨w.heap.size, 3, none⟩ (.slice av l.length cv)).setRow (w.heap.size + 1) #[.int .i64 6, .int .i64 i, .string ⟨t.toArray⟩, .slice av l.length cv, .slice ka ks.length kc]) := ((f.trans hf).setCell_new (p := ⟨w.heap.size, 3, none⟩) (Nat.le_refl _) _).setRow (w.heap.size + 1) _ (Or.inl (by omega))
        have stF := hst.frX fX (fun g hg => ⟨fun e => by have := HS.out g e; omega, by omega⟩)
        obtain ⟨cs', q1, q2, _⟩ := stF.cells (b := w.heap.size) (by omega)
        have hks := HK.out
        have rN := gM.setRow #[.int .i64 6, .int .i64 i, .string ⟨t.toArray⟩, .slice av l.length cv, .slice ka ks.length kc]
        have hS := HS.out
        clear B0 B1 HB HL HIH HS HK hst fX stF st fE
        go_wp2_with (first | (refine wpList_load_row rfl 25 _ rfl w.heap.size rfl 25 _ _ _ gN Tryz.underlying25 rfl size_json ?_) | (refine wpList_store_row rfl 25 _ _ rfl (w.heap.size + 1) #[.int .i64 6, .int .i64 i, .string ⟨t.toArray⟩, .slice av l.length cv, .slice ka ks.length kc] rfl rfl 25 zj gM size_json rfl hone ?_))
        refine bodyPost_ret (v := jV 6 i t (.slice av l.length cv) (.slice ka ks.length kc)) (json_back rfl _ _ (w.heap.size + 1) _ _ _ _ _ rfl rN) rfl ⟨_, rfl, ?_, fN⟩
        simp only [RAt]
        exact ⟨_, _, rfl, hk, hi, ht, (hks.fr (fun g hg => fN.block g (hS g hg) (fun e => e))).mono (fun g hg => Or.inl hg), by unfold big; simp; omega, cs', q1, q2⟩
  · have hkb : (k == 6) = false := by simpa using h6
    clear hno
    go_wp2_with (rw [HW.out])
    go_loopw [6, 7] (fun v6 v7 wr => ∃ m : Nat, m ≤ l.length ∧ v7 = .int .i64 m ∧ TRows S (w.heap.size + 2) wr ((l.take m).map turnJ) [] v6 (.slice none 0 0) ∧ Fr NoB W wr) (fun _ v7 _ => l.length - (intOf v7).toNat)
    case atStart => exact ⟨0, Nat.zero_le _, rfl, by simpa [hsW] using st, fE⟩
    case round =>
      obtain ⟨m, hm, rfl, hst, hf⟩ := hrel
      obtain ⟨B0, B1⟩ := HB.out _ hf
      have d3 : wr.cell? ⟨w.heap.size, 3, none⟩ = some (.slice la l.length lc) := (B0.cell 3).trans rfl
      by_cases hlt : m < l.length
      · have k1 : (0 : Int) ≤ m := by omega
        have k2 : (m : Int) < l.length := by omega
        obtain ⟨hcs, hlm⟩ := HL.out
        obtain ⟨ga, oa, rfl, hcell⟩ := hlm.atS HS.out (f.trans hf) (by omega)
        obtain ⟨v0, v1, v2, v3, v4, p0, p1, p2, p3, p4, hat⟩ := RCells.get l cs m hlt hcs
        have e0 : wr.cell? ⟨ga, oa + m * 5, none⟩ = some v0 := hcell _ _ p0
        have e1 : wr.cell? ⟨ga, oa + m * 5 + 1, none⟩ = some v1 := hcell _ _ p1
        have e2 : wr.cell? ⟨ga, oa + m * 5 + 2, none⟩ = some v2 := hcell _ _ p2
        have e3 : wr.cell? ⟨ga, oa + m * 5 + 3, none⟩ = some v3 := hcell _ _ p3
        have e4 : wr.cell? ⟨ga, oa + m * 5 + 4, none⟩ = some v4 := hcell _ _ p4
        have HC := Lib.hid (HIH.out l[m] (List.getElem_mem hlt) S _ wr (fun g hg => Nat.lt_of_lt_of_le (HS.out g hg) (f.trans hf).size) (RAt.fr (fun g hg => (f.trans hf).block g (HS.out g hg) (fun e => e)) _ _ hat) (by have := szL_mem (List.getElem_mem hlt); omega))
        have htk : (l.take (m + 1)).map turnJ = (l.take m).map turnJ ++ [turnJ l[m]] := by rw [(List.take_append_getElem hlt).symm, List.map_append]; rfl
        have HTK := Lib.hid htk
        have hml : ((l.take m).map turnJ).length ≤ l.length := by simp; omega
        clear hcell p0 p1 p2 p3 p4 hat hcs hlm htk B0 B1
        generalize turnJ l[m] = x at *
        generalize (l.take m).map turnJ = M at *
        obtain ⟨cs1, own1⟩ := hst.vals
        have hlv := hst.lts.1
        have hsw2 : w.heap.size + 2 ≤ wr.heap.size := by have := hf.size; omega
        go_wp2_with (first | (go_at_call 26; ((with_reducible refine HC.out.mono ?_); rintro e w2 ⟨u1, rfl, hu, f2⟩; obtain ⟨x0, x1, x2, x3, x4, rfl, o1⟩ := hu.form; have hs2 := f2.size; have fa : Fr NoB w2 (w2.alloc (.cells #[x0, x1, x2, x3, x4] 25)) := (Fr.refl NoB w2).alloc _; have s3 := (hst.fr f2).fr fa; have own3 := (f2.trans fa).row own1 (fun _ _ e => e))) | (at_builtin; go_loud (refine wpList_append_lies _ rfl _ _ 22 rfl (w.heap.size + 2) 25 i1 (jV 0 0 [] (.slice none 0 0) (.slice none 0 0)) 5 80 Tryz.underlying22 hj0 hy0 hy1 hy2 rfl (by decide) u6 _ _ rfl own3 ⟨w2.heap.size, 0, none⟩ 1 1 [x0, x1, x2, x3, x4] rfl rfl (World.news_of_block (cs := #[x0, x1, x2, x3, x4]) (t := 25) (fr := (0, 0)) (heap_alloc_new w2 _)) (all5 o1) (by omega) (by unfold maxLen; omega) (by omega) (by simp; omega) (w2.heap.size + 1) (by simp) ?_; intro g cap w4 hown hgr hat hglt)))
        have st4 := s3.item (lo2 := wr.heap.size) (hi := w2.heap.size) (fun g hg => by have := HS.out g hg; omega) (RAt.fr (fun g hg => fa.block g (by rcases hg with hg | hg; have := HS.out g hg; omega; exact hg.2) (fun e => e)) _ _ hu) hsw2 (by simp) (by simp; omega) (fun g hg => (hlv g hg).2) (fun g hg => by simp [Value.ownBlock] at hg) g cap own3 hown hgr (by simpa using hat)
        have f4 : Fr NoB W w4 := ((hf.trans f2).trans fa).grown hgr (fun j hj hlt => absurd (hlv j hj).1 (by omega))
        go_roundw
        case rel => exact ⟨m + 1, by omega, by simp, by rw [HTK.out]; exact st4, f4⟩
        case measure => simp [intOf]; omega
      · obtain rfl : m = l.length := by omega
        rw [List.take_length] at hst
        obtain ⟨av, cv, hv⟩ := hst.lvs
        rw [List.length_map] at hv
        subst hv
        have z3 := B0.frozen 3
        have gN := B0.set_ 3 (.slice av l.length cv)
        have gM := B1.far (p := ⟨w.heap.size, 3, none⟩) (by simp) (.slice av l.length cv)
        have hone := one_json k i ⟨t.toArray⟩ av ka l.length cv ks.length kc
        have fX : Fr (fun g => g = w.heap.size ∨ g = w.heap.size + 1) wr ((wr.setCell ⟨w.heap.size, 3, none⟩ (.slice av l.length cv)).setRow (w.heap.size + 1) #[.int .i64 k, .int .i64 i, .string ⟨t.toArray⟩, .slice av l.length cv, .slice ka ks.length kc]) := ((Fr.refl _ wr).setCell (p := ⟨w.heap.size, 3, none⟩) (Or.inl rfl) _).setRow (w.heap.size + 1) _ (Or.inr (Or.inr rfl))
        have fN : Fr NoB w ((wr.setCell ⟨w.heap.size, 3, none⟩ (.slice av l.length cv)).setRow (w.heap.size + 1) #[.int .i64 k, .int .i64 i, .string ⟨t.toArray⟩, .slice av l.length cv, .slice ka ks.length kc]) := ((f.trans hf).setCell_new (p := ⟨w.heap.size, 3, none⟩) (Nat.le_refl _) _).setRow (w.heap.size + 1) _ (Or.inl (by omega))
        have stF := hst.frX fX (fun g hg => ⟨fun e => by have := HS.out g e; omega, by omega⟩)
        obtain ⟨cs', q1, q2, _⟩ := stF.cells (b := w.heap.size) (by omega)
        have hks := HK.out
        have rN := gM.setRow #[.int .i64 k, .int .i64 i, .string ⟨t.toArray⟩, .slice av l.length cv, .slice ka ks.length kc]
        have hS := HS.out
        clear B0 B1 HB HL HIH HS HK hst fX stF st fE
        go_wp2_with (first | (refine wpList_load_row rfl 25 _ rfl w.heap.size rfl 25 _ _ _ gN Tryz.underlying25 rfl size_json ?_) | (refine wpList_store_row rfl 25 _ _ rfl (w.heap.size + 1) #[.int .i64 k, .int .i64 i, .string ⟨t.toArray⟩, .slice av l.length cv, .slice ka ks.length kc] rfl rfl 25 zj gM size_json rfl hone ?_))
        refine bodyPost_ret (v := jV k i t (.slice av l.length cv) (.slice ka ks.length kc)) (json_back rfl _ _ (w.heap.size + 1) _ _ _ _ _ rfl rN) rfl ⟨_, rfl, ?_, fN⟩
        simp only [RAt]
        exact ⟨_, _, rfl, hk, hi, ht, (hks.fr (fun g hg => fN.block g (hS g hg) (fun e => e))).mono (fun g hg => Or.inl hg), by unfold big; simp; omega, cs', q1, q2⟩

set_option maxRecDepth 100000 in
set_option maxHeartbeats 6400000 in
theorem turned_obj (i : Int) (t : Bs) (l : List Jv) (ks : List Bs) (S : Nat → Prop) (la ka : Option Addr) (lc kc : Nat) (w : World) (hS : ∀ g, S g → g < w.heap.size) (hi : IntOk i) (ht : t.length ≤ big) (hks : RStrs S w ks (.slice ka ks.length kc))
    (cs : List Value) (hcs : RCells S w l cs) (hlm : InMem S w (.slice la l.length lc) l.length cs) (hsz : szL l ≤ 8388608) (hIH : ∀ x ∈ l, TN x) (hkl : ks.length = l.length) :
    Calls Tryz.prog 26 #[jV 6 i t (.slice la l.length lc) (.slice ka ks.length kc)] w fun e w' => ∃ u, e = .returned u ∧ RAt (Mix S w.heap.size w'.heap.size) w' (.mk 6 i t (l.map turnJ).reverse ks.reverse) u ∧ Fr NoB w w' := by
  obtain ⟨i1, hj0, hy0, hy1, hy2⟩ := info_parts info_json
  obtain ⟨i0, hi0, hz0, hz1, hz2⟩ := info_parts info_str
  have hll := szL_len l
  rw [hkl] at hks ⊢
  have f : Fr NoB w ((w.alloc (.cells #[.int .i64 6, .int .i64 i, .string ⟨t.toArray⟩, .slice la l.length lc, .slice ka l.length kc] 25)).alloc (.cells zj 25)) := ((Fr.refl _ _).alloc _).alloc _
  have g0 : Blk ((w.alloc (.cells #[.int .i64 6, .int .i64 i, .string ⟨t.toArray⟩, .slice la l.length lc, .slice ka l.length kc] 25)).alloc (.cells zj 25)) w.heap.size 25 #[.int .i64 6, .int .i64 i, .string ⟨t.toArray⟩, .slice la l.length lc, .slice ka l.length kc] := (Blk.new w 25 _).alloc _
  have g1 : Blk ((w.alloc (.cells #[.int .i64 6, .int .i64 i, .string ⟨t.toArray⟩, .slice la l.length lc, .slice ka l.length kc] 25)).alloc (.cells zj 25)) (w.heap.size + 1) 25 zj := by
    have := Blk.new (w.alloc (.cells #[.int .i64 6, .int .i64 i, .string ⟨t.toArray⟩, .slice la l.length lc, .slice ka l.length kc] 25)) 25 zj
    simpa using this
  have hsW : ((w.alloc (.cells #[.int .i64 6, .int .i64 i, .string ⟨t.toArray⟩, .slice la l.length lc, .slice ka l.length kc] 25)).alloc (.cells zj 25)).heap.size = w.heap.size + 2 := by simp
  generalize hW : (w.alloc (.cells #[.int .i64 6, .int .i64 i, .string ⟨t.toArray⟩, .slice la l.length lc, .slice ka l.length kc] 25)).alloc (.cells zj 25) = W at f g0 g1 hsW
  have HW := Lib.hid hW
  have c0 : W.cell? ⟨w.heap.size, 0, none⟩ = some (.int .i64 6) := (g0.cell 0).trans rfl
  have c3 : W.cell? ⟨w.heap.size, 3, none⟩ = some (.slice la l.length lc) := (g0.cell 3).trans rfl
  have c4 : W.cell? ⟨w.heap.size, 4, none⟩ = some (.slice ka l.length kc) := (g0.cell 4).trans rfl
  have HB : Hid (∀ u, Fr NoB W u → Blk u w.heap.size 25 #[.int .i64 6, .int .i64 i, .string ⟨t.toArray⟩, .slice la l.length lc, .slice ka l.length kc] ∧ Blk u (w.heap.size + 1) 25 zj) := Lib.hid (fun u fu => ⟨fu.blk g0 (fun e => e), fu.blk g1 (fun e => e)⟩)
  have HL := Lib.hid (And.intro hcs hlm)
  have HIH := Lib.hid hIH
  have HKB := Lib.hid hks.2
  have HKM : Hid (InMem S w (.slice ka l.length kc) l.length (ks.map sV)) := Lib.hid (by have := hks.1; rwa [hkl] at this)
  have HS := Lib.hid hS
  have HKL := Lib.hid hkl
  clear hW g0 g1 hcs hlm hIH hks hS hkl
  have st := TRows.start S W
  have fE : Fr NoB W ((W.alloc (.cells #[] 9)).alloc (.cells #[] 25)) := ((Fr.refl _ _).alloc _).alloc _
  rw [hsW] at st
  go_enter Tryz.func26, Tryz.ntmps26
  go_wp2_with (rw [HW.out])
  go_loopw [3, 4, 5] (fun v3 v4 v5 wr => ∃ (p : Nat) (z : Int), p ≤ l.length ∧ z = (p : Int) - 1 ∧ v5 = .int .i64 z ∧ TRows S (w.heap.size + 2) wr ((l.drop p).map turnJ).reverse (ks.drop p).reverse v4 v3 ∧ Fr NoB W wr) (fun _ _ v5 _ => ((intOf v5) + 1).toNat)
  case atStart => exact ⟨l.length, (l.length : Int) - 1, Nat.le_refl _, rfl, rfl, by have hdk : ks.drop l.length = [] := (by rw [← HKL.out]; exact List.drop_length); simpa [hsW, hdk] using st, fE⟩
  case round =>
    obtain ⟨p, z, hp, hz, rfl, hst, hf⟩ := hrel
    obtain ⟨B0, B1⟩ := HB.out _ hf
    have d3 : wr.cell? ⟨w.heap.size, 3, none⟩ = some (.slice la l.length lc) := (B0.cell 3).trans rfl
    have d4 : wr.cell? ⟨w.heap.size, 4, none⟩ = some (.slice ka l.length kc) := (B0.cell 4).trans rfl
    cases p with
    | succ m =>
      obtain rfl : (m : Int) = z := by omega
      clear hz
      have hlt : m < l.length := by omega
      have hlk : m < ks.length := by rw [HKL.out]; omega
      have k1 : (0 : Int) ≤ m := by omega
      have k2 : (m : Int) < l.length := by omega
      obtain ⟨hcs, hlm⟩ := HL.out
      obtain ⟨ga, oa, rfl, hcell⟩ := hlm.atS HS.out (f.trans hf) (by omega)
      obtain ⟨gk, ok, rfl, hkell⟩ := HKM.out.atS HS.out (f.trans hf) (by omega)
      have dk := hkell m (sV ks[m]) (by simp [hlk])
      obtain ⟨v0, v1, v2, v3, v4, p0, p1, p2, p3, p4, hat⟩ := RCells.get l cs m hlt hcs
      have e0 := hcell _ _ p0
      have e1 := hcell _ _ p1
      have e2 := hcell _ _ p2
      have e3 := hcell _ _ p3
      have e4 := hcell _ _ p4
      have HE : Hid (∀ u, Fr NoB w u → u.cell? ⟨ga, oa + m * 5, none⟩ = some v0 ∧ u.cell? ⟨ga, oa + m * 5 + 1, none⟩ = some v1 ∧ u.cell? ⟨ga, oa + m * 5 + 2, none⟩ = some v2 ∧ u.cell? ⟨ga, oa + m * 5 + 3, none⟩ = some v3 ∧ u.cell? ⟨ga, oa + m * 5 + 4, none⟩ = some v4) := Lib.hid (fun u fu => by
        obtain ⟨ga', oa', he, hc'⟩ := hlm.atS HS.out fu (by omega)
        simp only [Option.some.injEq, Addr.mk.injEq, and_true] at he
        obtain ⟨rfl, rfl⟩ := he
        exact ⟨hc' _ _ p0, hc' _ _ p1, hc' _ _ p2, hc' _ _ p3, hc' _ _ p4⟩)
      have HC : Hid (∀ u, Fr NoB w u → Calls Tryz.prog 26 #[.agg #[v0, v1, v2, v3, v4]] u fun e w' => ∃ x, e = .returned x ∧ RAt (Mix S u.heap.size w'.heap.size) w' (turnJ l[m]) x ∧ Fr NoB u w') := Lib.hid (fun u fu => HIH.out l[m] (List.getElem_mem hlt) S _ u (fun g hg => Nat.lt_of_lt_of_le (HS.out g hg) fu.size) (RAt.fr (fun g hg => fu.block g (HS.out g hg) (fun e => e)) _ _ hat) (by have := szL_mem (List.getElem_mem hlt); omega))
      have HTK : Hid (((l.drop m).map turnJ).reverse = ((l.drop (m + 1)).map turnJ).reverse ++ [turnJ l[m]]) := Lib.hid (by rw [List.drop_eq_getElem_cons hlt, List.map_cons, List.reverse_cons])
      have HTS : Hid ((ks.drop m).reverse = (ks.drop (m + 1)).reverse ++ [ks[m]]) := Lib.hid (by rw [List.drop_eq_getElem_cons hlk, List.reverse_cons])
      have hml : (((l.drop (m + 1)).map turnJ).reverse).length ≤ l.length := by simp
      have hmk : ((ks.drop (m + 1)).reverse).length ≤ l.length := by simp [HKL.out]
      clear hcell hkell p0 p1 p2 p3 p4 hat hcs hlm e0 e1 e2 e3 e4
      generalize turnJ l[m] = x at *
      generalize ks[m] = key at *
      generalize ((l.drop (m + 1)).map turnJ).reverse = M at *
      generalize (ks.drop (m + 1)).reverse = Ks at *
      obtain ⟨hlv, hkv⟩ := hst.lts
      have hsw2 : w.heap.size + 2 ≤ wr.heap.size := by have := hf.size; omega
      have fk : Fr NoB wr (wr.alloc (.cells #[.string ⟨key.toArray⟩] 9)) := (Fr.refl NoB wr).alloc _
      have sk := hst.fr fk
      have ownk := sk.keys
      go_upto_region 7 with (at_builtin; go_loud (refine wpList_append_lies _ rfl _ _ 23 rfl (w.heap.size + 2) 9 i0 (.string ⟨#[]⟩) 1 16 Tryz.underlying23 hi0 hz0 hz1 hz2 rfl (by decide) u3 _ _ rfl ownk ⟨wr.heap.size, 0, none⟩ 1 1 [.string ⟨key.toArray⟩] rfl rfl (World.news_of_block (cs := #[.string ⟨key.toArray⟩]) (t := 9) (fr := (0, 0)) (heap_alloc_new wr _)) (by intro u hu; rw [List.mem_singleton] at hu; subst hu; rfl) (by omega) (by unfold maxLen; omega) (by omega) (by simp; omega) (wr.heap.size + 1) (by simp) ?_; intro gk2 capk wk hownk hgrk hatk hgltk))
      have sK := sk.key key gk2 capk hownk hgrk (by simpa using hatk)
      have fK : Fr NoB W wk := (hf.trans fk).grown hgrk (fun j hj hlt => absurd (hkv j hj).1 (by omega))
      have hsz1 : wr.heap.size + 1 ≤ wk.heap.size := by have := hgrk.size; simpa using this
      clear hst sk ownk hownk hgrk hatk dk d3 d4
      obtain ⟨B0, B1⟩ := HB.out _ fK
      have d3 : wk.cell? ⟨w.heap.size, 3, none⟩ = some (.slice (some ⟨ga, oa, none⟩) l.length lc) := (B0.cell 3).trans rfl
      obtain ⟨e0, e1, e2, e3, e4⟩ := HE.out wk (f.trans fK)
      obtain ⟨cs1, own1⟩ := sK.vals
      obtain ⟨hlv1, hkv1⟩ := sK.lts
      have HC2 := Lib.hid (HC.out wk (f.trans fK))
      go_wp2_with (first | (go_at_call 26; ((with_reducible refine HC2.out.mono ?_); rintro e w2 ⟨u1, rfl, hu, f2⟩; obtain ⟨x0, x1, x2, x3, x4, rfl, o1⟩ := hu.form; have hs2 := f2.size; have fa : Fr NoB w2 (w2.alloc (.cells #[x0, x1, x2, x3, x4] 25)) := (Fr.refl NoB w2).alloc _; have s3 := (sK.fr f2).fr fa; have own3 := (f2.trans fa).row own1 (fun _ _ e => e))) | (at_builtin; go_loud (refine wpList_append_lies _ rfl _ _ 22 rfl (w.heap.size + 2) 25 i1 (jV 0 0 [] (.slice none 0 0) (.slice none 0 0)) 5 80 Tryz.underlying22 hj0 hy0 hy1 hy2 rfl (by decide) u4 _ _ rfl own3 ⟨w2.heap.size, 0, none⟩ 1 1 [x0, x1, x2, x3, x4] rfl rfl (World.news_of_block (cs := #[x0, x1, x2, x3, x4]) (t := 25) (fr := (0, 0)) (heap_alloc_new w2 _)) (all5 o1) (by omega) (by unfold maxLen; omega) (by omega) (by simp; omega) (w2.heap.size + 1) (by simp) ?_; intro g cap w4 hown hgr hat hglt)))
      have st4 := s3.item (lo2 := wk.heap.size) (hi := w2.heap.size) (fun g hg => by have := HS.out g hg; omega) (RAt.fr (fun g hg => fa.block g (by rcases hg with hg | hg; have := HS.out g hg; omega; exact hg.2) (fun e => e)) _ _ hu) (by omega) (by simp) (by simp; omega) (fun g hg => (hlv1 g hg).2) (fun g hg => (hkv1 g hg).2) g cap own3 hown hgr (by simpa using hat)
      have f4 : Fr NoB W w4 := ((fK.trans f2).trans fa).grown hgr (fun j hj hlt => absurd (hlv1 j hj).1 (by omega))
      go_roundw
      case rel => exact ⟨m, (m : Int) - 1, by omega, rfl, by simp, by rw [HTK.out, HTS.out]; exact st4, f4⟩
      case measure => simp [intOf] <;> omega
    | zero =>
      have hzl : z < 0 := by omega
      have hzn : ¬ 0 ≤ z := by omega
      clear hz
      rw [List.drop_zero, List.drop_zero] at hst
      obtain ⟨av, cv, hv⟩ := hst.lvs
      obtain ⟨ak, ck, hv2⟩ := hst.kvs
      rw [List.length_reverse, List.length_map] at hv
      rw [List.length_reverse, HKL.out] at hv2
      subst hv hv2
      have z3 := B0.frozen 3
      have z4 := B0.frozen 4
      have gN4 := B0.set_ 4 (.slice ak l.length ck)
      have gM4 := B1.far (p := ⟨w.heap.size, 4, none⟩) (by simp) (.slice ak l.length ck)
      have y3 := gN4.frozen 3
      have y3c : (wr.setCell ⟨w.heap.size, 4, none⟩ (.slice ak l.length ck)).cell? ⟨w.heap.size, 3, none⟩ = some (.slice la l.length lc) := (gN4.cell 3).trans rfl
      have gN := gN4.set_ 3 (.slice av l.length cv)
      have gM := gM4.far (p := ⟨w.heap.size, 3, none⟩) (by simp) (.slice av l.length cv)
      have hone := one_json 6 i ⟨t.toArray⟩ av ak l.length cv l.length ck
      have fX : Fr (fun g => g = w.heap.size ∨ g = w.heap.size + 1) wr (((wr.setCell ⟨w.heap.size, 4, none⟩ (.slice ak l.length ck)).setCell ⟨w.heap.size, 3, none⟩ (.slice av l.length cv)).setRow (w.heap.size + 1) #[.int .i64 6, .int .i64 i, .string ⟨t.toArray⟩, .slice av l.length cv, .slice ak l.length ck]) := (((Fr.refl _ wr).setCell (p := ⟨w.heap.size, 4, none⟩) (Or.inl rfl) _).setCell (p := ⟨w.heap.size, 3, none⟩) (Or.inl rfl) _).setRow (w.heap.size + 1) _ (Or.inr (Or.inr rfl))
      have fN : Fr NoB w (((wr.setCell ⟨w.heap.size, 4, none⟩ (.slice ak l.length ck)).setCell ⟨w.heap.size, 3, none⟩ (.slice av l.length cv)).setRow (w.heap.size + 1) #[.int .i64 6, .int .i64 i, .string ⟨t.toArray⟩, .slice av l.length cv, .slice ak l.length ck]) := (((f.trans hf).setCell_new (p := ⟨w.heap.size, 4, none⟩) (Nat.le_refl _) _).setCell_new (p := ⟨w.heap.size, 3, none⟩) (Nat.le_refl _) _).setRow (w.heap.size + 1) _ (Or.inl (by omega))
      have stF := hst.frX fX (fun g hg => ⟨fun e => by have := HS.out g e; omega, by omega⟩)
      obtain ⟨cs', q1, q2, q3⟩ := stF.cells (b := w.heap.size) (by omega)
      have rN := gM.setRow #[.int .i64 6, .int .i64 i, .string ⟨t.toArray⟩, .slice av l.length cv, .slice ak l.length ck]
      have hKB := HKB.out
      have hKL := HKL.out
      clear B0 B1 HB HL HIH HS HKB HKM HKL hst fX stF st fE
      have gN' : Blk ((wr.setCell ⟨w.heap.size, 4, none⟩ (.slice ak l.length ck)).setCell ⟨w.heap.size, 3, none⟩ (.slice av l.length cv)) w.heap.size 25 #[.int .i64 6, .int .i64 i, .string ⟨t.toArray⟩, .slice av l.length cv, .slice ak l.length ck] := by simpa using gN
      go_wp2_with (first | (refine wpList_load_row rfl 25 _ rfl w.heap.size rfl 25 _ _ _ gN' Tryz.underlying25 rfl size_json ?_) | (refine wpList_store_row rfl 25 _ _ rfl (w.heap.size + 1) #[.int .i64 6, .int .i64 i, .string ⟨t.toArray⟩, .slice av l.length cv, .slice ak l.length ck] rfl rfl 25 zj gM size_json rfl hone ?_))
      refine bodyPost_ret (v := jV 6 i t (.slice av l.length cv) (.slice ak l.length ck)) (json_back rfl _ _ (w.heap.size + 1) _ _ _ _ _ rfl rN) rfl ⟨_, rfl, ?_, fN⟩
      simp only [RAt]
      exact ⟨_, _, rfl, by unfold IntOk; omega, hi, ht, ⟨q3, by simpa using hKB.1, fun s hs => hKB.2 s (List.mem_reverse.1 hs)⟩, by unfold big; simp; omega, cs', q1, q2⟩
mutual
theorem TN_all : ∀ j : Jv, TN j
  | .mk k i t l ks => by
    intro S v w hS hat hsz
    simp only [RAt] at hat
    obtain ⟨lv, kv, rfl, hk, hi, ht, hks, hl, cs, hcs, hlm⟩ := hat
    obtain ⟨la, lc, rfl⟩ := hlm.sl
    obtain ⟨ka, kc, rfl⟩ := hks.1.sl
    have hs : szL l ≤ 8388608 := by simp only [szJ] at hsz; omega
    by_cases h : k = 6 ∧ ks.length = l.length
    · obtain ⟨rfl, h2⟩ := h
      rw [turnJ_obj h2]
      exact turned_obj i t l ks S la ka lc kc w hS hi ht hks cs hcs hlm hs (TNs_all l) h2
    · have e : turnJ (.mk k i t l ks) = .mk k i t (l.map turnJ) ks := by rw [turnJ, if_neg h, turnsJ_eq]
      rw [e]
      exact turned_list k i t l ks S la ka lc kc w hS hk hi ht hks cs hcs hlm hs (TNs_all l) h
theorem TNs_all : ∀ (l : List Jv), ∀ x ∈ l, TN x
  | [], x, hx => absurd hx (by simp)
  | j :: r, x, hx => by
    cases hx with
    | head => exact TN_all j
    | tail _ h => exact TNs_all r x h
end
/-- turned, whole. -/
theorem turned_any (j : Jv) (v : Value) (w : World) (hat : RAt (All w) w j v) (hs : szJ j ≤ 8388608) : Calls Tryz.prog 26 #[v] w fun e w' => ∃ u, e = .returned u ∧ RAt (All w') w' (turnJ j) u ∧ Fr NoB w w' :=
  (TN_all j (All w) v w (fun _ h => h) hat hs).mono (fun _ _ ⟨u, h1, h2, h3⟩ => ⟨u, h1, RAt.mono (fun _ hg => hg.elim (fun h => Nat.lt_of_lt_of_le h h3.size) (fun h => h.2)) _ _ h2, h3⟩)
end Go.Proofs.YteeijmfnjcddmaaGreatDoor
