/- JSON, the document's side: Form. (Printed by gen_fm.py.) -/
import Derived.Test.YteeijmfnjcddmaaGreatDoorSo
import Derived.Test.YteeijmfnjcddmaaGreatDoorQt
import Derived.Test.YteeijmfnjcddmaaGreatDoorSz
import Derived.Test.YteeijmfnjcddmaaGreatDoorDk
namespace Go.Proofs.YteeijmfnjcddmaaGreatDoor
open Go.RowKit

/-- As br_row, with where the new row lies. -/
theorem br_rowL {ops : Array Oper} {rest : List Oper} {o : Oper} {a : Act} {Q : Exit → Act → World → Prop} {w : World} (hgd : o.guard = none) (sl x : Operand)
    (ho : o.op = .call { callee := .builtin .append, args := #[sl, x], argTypes := #[46, 46] }) (lo : Nat) (v : Value) (s : Bs) (hs : a.eval sl = v) (hown : BR lo w v s) (g m c : Nat) (t : Bs) (hx : a.eval x = .slice (some ⟨g, 0, none⟩) m c) (hm : t.length = m) (hm0 : 0 < m)
    (hc : ∀ (i : Nat) u, (bC t)[i]? = some u → w.cell? ⟨g, i, none⟩ = some u)
    (hsz : s.length + t.length ≤ 140737488355328) (hlo : lo ≤ w.heap.size) (h : ∀ v' w', BR lo w' v' (s ++ t) → w.grownBy w' v.ownBlock → (∀ y, v'.ownBlock = some y → v.ownBlock = some y ∨ y = w.heap.size) → wpList Tryz.prog ops Q rest (a.put o.dst v') w') : wpList Tryz.prog ops Q (o :: rest) a w := by
  obtain ⟨i0, hi0, hz0, hz1, hz2⟩ := info_parts info_byteD
  subst hm
  refine wpList_append_lies w hgd sl x 46 ho lo 5 i0 (.int .u8 0) 1 1 Tryz.underlying46 hi0 hz0 hz1 hz2 rfl (by decide) v s.length (bC s) hs hown ⟨g, 0, none⟩ t.length c (bC t) hx (by simp) (fun j u hu => by rw [add_at, Nat.zero_add]; exact hc j u hu) (bC_one t) hm0 (by unfold maxLen; omega) (by omega) hlo w.heap.size rfl (fun g' cap w' h1 h2 h3 _ => h _ w' ?_ h2 (fun y hy => ?_))
  · unfold BR
    simpa using h1
  · have e : g' = y := by simpa [Value.ownBlock] using hy
    subst e
    exact h3

/-- The items between the brackets, in the order in which they stand. -/
def itsF (obj : Bool) (l : List Jv) (ks : List Bs) : List Bs := (List.range l.length).map (fun m => (if obj then quoteP (keyAt ks m) ++ [58] else []) ++ layP (l.getD m Jv.nul))
theorem itsF_len (obj : Bool) (l : List Jv) (ks : List Bs) : (itsF obj l ks).length = l.length := by simp [itsF]
theorem itsF_at {obj : Bool} {l : List Jv} {ks : List Bs} {m : Nat} (h : m < l.length) (hm : m < (itsF obj l ks).length) : (itsF obj l ks)[m] = (if obj then quoteP (keyAt ks m) ++ [58] else []) ++ layP l[m] := by
  simp [itsF, List.getD, h]
theorem items_list (l : List Jv) (ks : List Bs) : itemsL false ks (laysP l) = itsF false l ks := by
  unfold itemsL itsF orderP
  rw [laysP_len]
  apply List.map_congr_left
  intro p hp
  have hp : p < l.length := List.mem_range.1 hp
  unfold memP
  rw [laysP_get l p hp]
  simp [List.getD, hp]
theorem items_obj {l : List Jv} {ks : List Bs} : itemsL true ks (laysP l) = itsF true (valsO l ks) (keysS l ks) := by
  unfold itemsL itsF
  rw [laysP_len, valsO_len]
  have e : orderP true ks l.length = (List.range l.length).map (fun m => plc l ks m) := by
    have := range_get (orderP true ks l.length) 0
    rw [orderP_len] at this
    exact this.symm
  rw [e, List.map_map]
  apply List.map_congr_left
  intro m hm
  have h1 := List.mem_range.1 hm
  have hv : m < (valsO l ks).length := by rw [valsO_len]; exact h1
  show memP true ks (laysP l) (plc l ks m) = _
  unfold memP
  rw [laysP_get l _ (plc_lt h1), keyAt_S h1]
  have : (valsO l ks).getD m Jv.nul = l[plc l ks m]'(plc_lt h1) := by
    rw [← valsO_at h1 hv]
    simp [List.getD, hv]
  rw [this]
theorem lay_nest {k i : Int} {t : Bs} {l : List Jv} {ks : List Bs} (h : 5 ≤ k) : layP (.mk k i t l ks) = (if k == 6 then 123 else 91) :: (joinC (itemsL (k == 6) ks (laysP l)) ++ [if k == 6 then 125 else 93]) := by
  rw [layP, if_neg (by omega), if_neg (by omega), if_neg (by omega), if_neg (by omega), if_neg (by omega)]
theorem layP_ne (j : Jv) (h : okJ j = true) : layP j ≠ [] := by
  obtain ⟨c, u, e, _⟩ := lay_head j h
  rw [e]; simp

/-- What Form has to do. -/
def FM (j : Jv) : Prop := ∀ (n : Nat) (S : Nat → Prop) (v : Value) (w : World), (∀ g, S g → g < w.heap.size) → RAt S w j v → checkP n j = 0 → szJ j ≤ 8388608 → Calls Tryz.prog 37 #[v] w fun e w' => ∃ u, e = .returned u ∧ BR w.heap.size w' u (layP j) ∧ Fr NoB w w'

set_option maxRecDepth 100000 in
set_option maxHeartbeats 3200000 in
theorem rform_leaf (k i : Int) (t : Bs) (lv kv : Value) (w : World) (hk : 0 ≤ k ∧ k < 5) (hi : -4611686018427387904 < i ∧ i < 4611686018427387904) (ht : t.length ≤ 4398046511104) (L : Bs)
    (hL : L = if k = 0 then wNull else if k = 1 then wFalse else if k = 2 then wTrue else if k = 3 then Lib.itoa i else quoteP t) :
    Calls Tryz.prog 37 #[jV k i t lv kv] w fun e w' => ∃ u, e = .returned u ∧ BR w.heap.size w' u L ∧ Fr NoB w w' := by
  have f0 : Fr NoB w ((w.alloc (.cells #[.int .i64 k, .int .i64 i, .string ⟨t.toArray⟩, lv, kv] 25)).alloc (.cells #[] 5)) := ((Fr.refl _ _).alloc _).alloc _
  have g0 : Blk ((w.alloc (.cells #[.int .i64 k, .int .i64 i, .string ⟨t.toArray⟩, lv, kv] 25)).alloc (.cells #[] 5)) w.heap.size 25 #[.int .i64 k, .int .i64 i, .string ⟨t.toArray⟩, lv, kv] := (Blk.new w 25 _).alloc _
  have r0 : BR w.heap.size ((w.alloc (.cells #[.int .i64 k, .int .i64 i, .string ⟨t.toArray⟩, lv, kv] 25)).alloc (.cells #[] 5)) (.slice (some ⟨w.heap.size + 1, 0, none⟩) 0 0) [] := by
    have := own_empty (w.alloc (.cells #[.int .i64 k, .int .i64 i, .string ⟨t.toArray⟩, lv, kv] 25)) w.heap.size (w.heap.size + 1) 5 1 (by simp) (by omega)
    exact this
  have hs : w.heap.size ≤ ((w.alloc (.cells #[.int .i64 k, .int .i64 i, .string ⟨t.toArray⟩, lv, kv] 25)).alloc (.cells #[] 5)).heap.size := f0.size
  generalize hW : (w.alloc (.cells #[.int .i64 k, .int .i64 i, .string ⟨t.toArray⟩, lv, kv] 25)).alloc (.cells #[] 5) = W at *
  have HW := Lib.hid hW
  clear hW
  have c0 : W.cell? ⟨w.heap.size, 0, none⟩ = some (.int .i64 k) := (g0.cell 0).trans rfl
  have c1 : W.cell? ⟨w.heap.size, 1, none⟩ = some (.int .i64 i) := (g0.cell 1).trans rfl
  have c2 : W.cell? ⟨w.heap.size, 2, none⟩ = some (.string ⟨t.toArray⟩) := (g0.cell 2).trans rfl
  go_enter Tryz.func37, Tryz.ntmps37
  by_cases k0 : k = 0
  · subst k0
    obtain rfl : L = wNull := by rw [hL]; rfl
    clear hL
    go_wp2_with (first | (at_builtin; go_loud (refine br_str rfl _ _ rfl w.heap.size _ [] rfl r0 wNull rfl (by simp [wNull]) hs ?_; intro v4 w4 hown4 hgr)) | (rw [HW.out]))
    go_ret
    exact ⟨_, rfl, by simpa using hown4, r0.grown f0 hgr (Nat.le_refl _)⟩
  by_cases k1 : k = 1
  · subst k1
    obtain rfl : L = wFalse := by rw [hL]; rfl
    clear hL
    go_wp2_with (first | (at_builtin; go_loud (refine br_str rfl _ _ rfl w.heap.size _ [] rfl r0 wFalse rfl (by simp [wFalse]) hs ?_; intro v4 w4 hown4 hgr)) | (rw [HW.out]))
    go_ret
    exact ⟨_, rfl, by simpa using hown4, r0.grown f0 hgr (Nat.le_refl _)⟩
  by_cases k2 : k = 2
  · subst k2
    obtain rfl : L = wTrue := by rw [hL]; rfl
    clear hL
    go_wp2_with (first | (at_builtin; go_loud (refine br_str rfl _ _ rfl w.heap.size _ [] rfl r0 wTrue rfl (by simp [wTrue]) hs ?_; intro v4 w4 hown4 hgr)) | (rw [HW.out]))
    go_ret
    exact ⟨_, rfl, by simpa using hown4, r0.grown f0 hgr (Nat.le_refl _)⟩
  by_cases k3 : k = 3
  · subst k3
    obtain rfl : L = Lib.itoa i := by rw [hL]; rfl
    clear hL
    have hil := Lib.itoa_length_le i (by omega) (by omega)
    have HD := Lib.hid (fun u => rDigits_any i u hi.1 hi.2)
    generalize Lib.itoa i = D at *
    go_wp2_with (first | (go_at_call 58; ((with_reducible refine (HD.out _).mono ?_); rintro e w2 ⟨rfl, f2⟩; have r2 := r0.fr f2; have hs2 := f2.size)) | (at_builtin; go_loud (refine br_str rfl _ _ rfl w.heap.size _ [] rfl r2 D rfl (by first | omega | (simp <;> omega)) (by omega) ?_; intro v4 w4 hown4 hgr)) | (rw [HW.out]))
    go_ret
    exact ⟨_, rfl, by simpa using hown4, r2.grown (f0.trans f2) hgr (Nat.le_refl _)⟩
  · obtain rfl : k = 4 := by omega
    obtain rfl : L = quoteP t := by rw [hL]; rfl
    clear hL
    have HQ := Lib.hid (fun u => rQuoted_any t u ht)
    go_wp2_with (first | (go_at_call 59; ((with_reducible refine (HQ.out _).mono ?_); rintro e w2 ⟨q, rfl, hq, f2⟩)) | (rw [HW.out]))
    go_ret
    exact ⟨_, rfl, own_mono hq hs, f0.trans f2⟩

theorem ob_step {V N sz : Nat} {v v' : Value} (h : ∀ y, v.ownBlock = some y → y = N ∨ V ≤ y) (h2 : ∀ y, v'.ownBlock = some y → v.ownBlock = some y ∨ y = sz) (hs : V ≤ sz) : ∀ y, v'.ownBlock = some y → y = N ∨ V ≤ y := fun y hy => by
  rcases h2 y hy with h3 | h3
  · exact h y h3
  · exact Or.inr (by omega)
theorem Fr.ownr {V w w' : World} {N : Nat} {v : Value} (hf : Fr (Only N) V w) (hg : w.grownBy w' v.ownBlock) (h : ∀ y, v.ownBlock = some y → y = N ∨ V.heap.size ≤ y) : Fr (Only N) V w' :=
  hf.grown hg (fun j hj hlt => by rcases h j hj with e | e; exact e; omega)
theorem Fr.plus {V w w' : World} {N : Nat} (hf : Fr (Only N) V w) (f : Fr NoB w w') : Fr (Only N) V w' := hf.andThen f (fun _ _ e => e.elim)
theorem quoteP_ne (s : Bs) : quoteP s ≠ [] := by simp [quoteP]

set_option maxRecDepth 100000 in
set_option maxHeartbeats 6400000 in
theorem rform_obj (i : Int) (t : Bs) (l : List Jv) (ks : List Bs) (S : Nat → Prop) (a1 a2 a3 a4 : Value) (w : World) (hS : ∀ g, S g → g < w.heap.size) (hll : l.length ≤ 8388608) (hkl : ks.length = l.length) (hkb : ∀ s ∈ ks, s.length ≤ 4398046511104)
    (hSo : ∀ u, Fr NoB w u → Calls Tryz.prog 44 #[.agg #[.int .i64 6, a1, a2, a3, a4]] u fun e w' => ∃ x, e = .returned x ∧ RAt (Mix S u.heap.size w'.heap.size) w' (.mk 6 i t l ks) x ∧ Fr NoB u w')
    (hIH : ∀ x ∈ l, ∀ (S : Nat → Prop) (v : Value) (w : World), (∀ g, S g → g < w.heap.size) → RAt S w x v → Calls Tryz.prog 37 #[v] w fun e w' => ∃ u, e = .returned u ∧ BR w.heap.size w' u (layP x) ∧ Fr NoB w w') (hne : ∀ x ∈ l, layP x ≠ [])
    (hlen : (joinC (itsF true l ks)).length ≤ 1000000000) :
    Calls Tryz.prog 37 #[.agg #[.int .i64 6, a1, a2, a3, a4]] w fun e w' => ∃ u, e = .returned u ∧ BR w.heap.size w' u (123 :: (joinC (itsF true l ks) ++ [125])) ∧ Fr NoB w w' := by
  have f0 : Fr NoB w ((w.alloc (.cells #[.int .i64 6, a1, a2, a3, a4] 25)).alloc (.cells #[] 5)) := ((Fr.refl _ _).alloc _).alloc _
  have g0 : Blk ((w.alloc (.cells #[.int .i64 6, a1, a2, a3, a4] 25)).alloc (.cells #[] 5)) w.heap.size 25 #[.int .i64 6, a1, a2, a3, a4] := (Blk.new w 25 _).alloc _
  have r0 : BR w.heap.size ((w.alloc (.cells #[.int .i64 6, a1, a2, a3, a4] 25)).alloc (.cells #[] 5)) (.slice (some ⟨w.heap.size + 1, 0, none⟩) 0 0) [] := by
    have := own_empty (w.alloc (.cells #[.int .i64 6, a1, a2, a3, a4] 25)) w.heap.size (w.heap.size + 1) 5 1 (by simp) (by omega)
    exact this
  have hsW : ((w.alloc (.cells #[.int .i64 6, a1, a2, a3, a4] 25)).alloc (.cells #[] 5)).heap.size = w.heap.size + 2 := by simp
  generalize hW : (w.alloc (.cells #[.int .i64 6, a1, a2, a3, a4] 25)).alloc (.cells #[] 5) = W at *
  have HW := Lib.hid hW
  have c0 : W.cell? ⟨w.heap.size, 0, none⟩ = some (.int .i64 6) := (g0.cell 0).trans rfl
  have HSO := Lib.hid (hSo W f0)
  have HIH := Lib.hid hIH
  have HNE := Lib.hid hne
  have HS := Lib.hid hS
  have HKB := Lib.hid hkb
  clear hW hSo hIH hne hS hkb
  go_enter Tryz.func37, Tryz.ntmps37
  go_upto_region 17 with (first | (rw [HW.out]) | (refine wpList_load_row rfl 25 _ rfl w.heap.size rfl 25 _ _ _ g0 Tryz.underlying25 rfl size_json ?_) | (go_at_call 44; ((with_reducible refine HSO.out.mono ?_); rintro e w1 ⟨x, rfl, hx, f1⟩; obtain ⟨x0, x1, x2, x3, x4, rfl, o1⟩ := hx.form; have B0a := f1.blk g0 (fun e => e))) | (refine wpList_store_row rfl 25 _ _ rfl w.heap.size #[x0, x1, x2, x3, x4] rfl rfl 25 #[.int .i64 6, a1, a2, a3, a4] B0a size_json rfl o1 ?_))
  simp only [RAt] at hx
  obtain ⟨lv, kv, he, hk, hi, ht, hks, hl, cs, hcs, hlm⟩ := hx
  simp only [jV, Value.agg.injEq, Array.mk.injEq, List.cons.injEq, and_true] at he
  obtain ⟨rfl, rfl, rfl, rfl, rfl⟩ := he
  obtain ⟨la, lc, rfl⟩ := hlm.sl
  obtain ⟨ka, kc, rfl⟩ := hks.1.sl
  have hs1 := f1.size
  have B0b := B0a.setRow #[.int .i64 6, .int .i64 i, .string ⟨t.toArray⟩, .slice la l.length lc, .slice ka ks.length kc]
  have fR : Fr (Only w.heap.size) w1 (w1.setRow w.heap.size #[.int .i64 6, .int .i64 i, .string ⟨t.toArray⟩, .slice la l.length lc, .slice ka ks.length kc]) := Fr.rowO _ _ _
  have rV : BR w.heap.size (w1.setRow w.heap.size #[.int .i64 6, .int .i64 i, .string ⟨t.toArray⟩, .slice la l.length lc, .slice ka ks.length kc]) (.slice (some ⟨w.heap.size + 1, 0, none⟩) 0 0) [] := fR.row (r0.fr f1) (fun g hg e => by
    have e1 : w.heap.size + 1 = g := by simpa [Value.ownBlock] using hg
    have e2 : g = w.heap.size := e
    omega)
  have fV : Fr NoB w (w1.setRow w.heap.size #[.int .i64 6, .int .i64 i, .string ⟨t.toArray⟩, .slice la l.length lc, .slice ka ks.length kc]) := (f0.trans f1).setRow w.heap.size _ (Or.inl (Nat.le_refl _))
  have hsV : (w1.setRow w.heap.size #[.int .i64 6, .int .i64 i, .string ⟨t.toArray⟩, .slice la l.length lc, .slice ka ks.length kc]).heap.size = w1.heap.size := by simp [World.setRow]
  have hT : ∀ g, Mix S W.heap.size w1.heap.size g → g < w1.heap.size ∧ ¬ g = w.heap.size ∧ ¬ g = w.heap.size + 1 := fun g hg => by
    rcases hg with hg | hg
    · have := HS.out g hg; omega
    · omega
  have hcs2 := RCells.fr (fun g hg => fR.block g (hT g hg).1 (hT g hg).2.1) _ _ hcs
  have hlm2 := hlm.fr (fun g hg => fR.block g (hT g hg).1 (hT g hg).2.1)
  have hks2 := hks.fr (fun g hg => fR.block g (hT g hg).1 (hT g hg).2.1)
  generalize hV : w1.setRow w.heap.size #[.int .i64 6, .int .i64 i, .string ⟨t.toArray⟩, .slice la l.length lc, .slice ka ks.length kc] = V at *
  generalize Mix S W.heap.size w1.heap.size = M at *
  rw [← hsV] at hT
  have hwV : w.heap.size + 2 ≤ V.heap.size := by omega
  have HB : Hid (∀ u, Fr (Only (w.heap.size + 1)) V u → u.cell? ⟨w.heap.size, 0, none⟩ = some (.int .i64 6) ∧ u.cell? ⟨w.heap.size, 3, none⟩ = some (.slice la l.length lc) ∧ u.cell? ⟨w.heap.size, 4, none⟩ = some (.slice ka ks.length kc)) := Lib.hid (fun u fu => by
    have a := fu.blk B0b (fun e => by have e' : w.heap.size = w.heap.size + 1 := e; omega)
    exact ⟨(a.cell 0).trans rfl, (a.cell 3).trans rfl, (a.cell 4).trans rfl⟩)
  have HMf : Hid (∀ u, Fr (Only (w.heap.size + 1)) V u → ∀ g, M g → u.heap[g]? = V.heap[g]?) := Lib.hid (fun u fu g hg => fu.block g (hT g hg).1 (fun e => (hT g hg).2.2 e))
  have HML : Hid (∀ u, Fr (Only (w.heap.size + 1)) V u → ∀ g, M g → g < u.heap.size) := Lib.hid (fun u fu g hg => Nat.lt_of_lt_of_le (hT g hg).1 fu.size)
  have HL := Lib.hid (And.intro hcs2 hlm2)
  have HK := Lib.hid hks2
  have hfin := fV
  clear hcs hlm hks hcs2 hlm2 hks2 hT B0a B0b g0 fR hV HSO HW o1 f0 f1 hs1 r0 c0 hsW hsV fV HS
  have ob0 : ∀ y, (Value.slice (some ⟨w.heap.size + 1, 0, none⟩) 0 0).ownBlock = some y → y = w.heap.size + 1 ∨ V.heap.size ≤ y := fun y hy => Or.inl (by simpa [Value.ownBlock] using hy.symm)
  have fr0 : Fr (Only (w.heap.size + 1)) V V := Fr.refl _ _
  have fbA : Fr NoB V (V.alloc (.cells #[.int .u8 123] 5)) := (Fr.refl _ _).alloc _
  have rbA := rV.fr fbA
  go_upto_region 18 with (at_builtin; go_loud (refine br_rowL rfl _ _ rfl w.heap.size (.slice (some ⟨w.heap.size + 1, 0, none⟩) 0 0) _ rfl rbA V.heap.size 1 1 [123] rfl rfl (by omega) (new_cells V #[.int .u8 123] [123] rfl) (by first | omega | (simp <;> omega)) (by first | omega | (simp <;> omega)) ?_; intro vA wA ownA hgrA hatA))
  have obA := ob_step ob0 hatA (by first | omega | (simp <;> omega))
  have frA := (fr0.plus fbA).ownr hgrA ob0
  have szA := frA.size
  have HTK : Hid (∀ m, m < l.length → joinC ((itsF true l ks).take (m + 1)) = joinC ((itsF true l ks).take m) ++ ((if 0 < m then [44] else []) ++ (quoteP (keyAt ks m) ++ [58] ++ layP (l.getD m Jv.nul)))) := Lib.hid (fun m hm => by
    have h2 : m < (itsF true l ks).length := by rw [itsF_len]; exact hm
    rw [joinC_take _ m h2, itsF_at hm h2]
    simp [List.getD, hm])
  have HTL : Hid (∀ m, (joinC ((itsF true l ks).take m)).length ≤ 1000000000) := Lib.hid (fun m => Nat.le_trans (joinC_le _ m) hlen)
  have hAll : joinC ((itsF true l ks).take l.length) = joinC (itsF true l ks) := by rw [← itsF_len true l ks, List.take_length]
  have h0 : joinC ((itsF true l ks).take 0) = [] := by simp [joinC]
  generalize hJ : (fun m => joinC ((itsF true l ks).take m)) = J at *
  have eJ : ∀ m, joinC ((itsF true l ks).take m) = J m := fun m => by rw [← hJ]
  simp only [eJ] at HTK HTL hAll h0
  have HAL := Lib.hid hAll
  clear hlen hAll hJ eJ
  go_wp2_with fail
  go_loopw [3, 6] (fun v3 v6 wr => ∃ m : Nat, m ≤ l.length ∧ v6 = .int .i64 m ∧ BR w.heap.size wr v3 (123 :: J m) ∧ Hid (∀ y, v3.ownBlock = some y → y = w.heap.size + 1 ∨ V.heap.size ≤ y) ∧ Fr (Only (w.heap.size + 1)) V wr) (fun _ v6 _ => l.length - (intOf v6).toNat)
  case atStart => exact ⟨0, Nat.zero_le _, rfl, by rw [h0]; exact ownA, Lib.hid obA, frA⟩
  case round =>
    obtain ⟨m, hm, rfl, hown, HOB, hf⟩ := hrel
    have hszr := hf.size
    have HO := HOB.out
    obtain ⟨d0, d3, d4⟩ := HB.out _ hf
    have hTL := HTL.out m
    by_cases hlt : m < l.length
    · have i1 : (0 : Int) ≤ m := by omega
      have i2 : (m : Int) < l.length := by omega
      have hTK := HTK.out m hlt
      have hTL2 := HTL.out (m + 1)
      rw [hTK] at hTL2
      have ex : l.getD m Jv.nul = l[m] := by simp [List.getD, hlt]
      rw [ex] at hTK hTL2
      obtain ⟨hcs, hlm⟩ := HL.out
      obtain ⟨v0, v1, v2, v3, v4, p0, p1, p2, p3, p4, hat⟩ := RCells.get l cs m hlt hcs
      obtain ⟨ga, oa, rfl, hMa, hcell⟩ : ∃ g o, la = some ⟨g, o, none⟩ ∧ M g ∧ ∀ (i : Nat) u, cs[i]? = some u → V.cell? ⟨g, o + i, none⟩ = some u := by
        rcases hlm with ⟨h0, _⟩ | ⟨g, o, c', he, hg, hc⟩
        · omega
        · simp only [Value.slice.injEq, true_and] at he
          exact ⟨g, o, he.1, hg, hc⟩
      have HE : Hid (∀ u, Fr (Only (w.heap.size + 1)) V u → u.cell? ⟨ga, oa + m * 5, none⟩ = some v0 ∧ u.cell? ⟨ga, oa + m * 5 + 1, none⟩ = some v1 ∧ u.cell? ⟨ga, oa + m * 5 + 2, none⟩ = some v2 ∧ u.cell? ⟨ga, oa + m * 5 + 3, none⟩ = some v3 ∧ u.cell? ⟨ga, oa + m * 5 + 4, none⟩ = some v4) := Lib.hid (fun u fu => by
        have k : ∀ (i : Nat) x, cs[i]? = some x → u.cell? ⟨ga, oa + i, none⟩ = some x := fun i x hx => (World.cell?_of_block (w := V) (HMf.out u fu ga hMa)).trans (hcell i x hx)
        exact ⟨k _ _ p0, k _ _ p1, k _ _ p2, k _ _ p3, k _ _ p4⟩)
      have HC : Hid (∀ u, Fr (Only (w.heap.size + 1)) V u → Calls Tryz.prog 37 #[.agg #[v0, v1, v2, v3, v4]] u fun e w' => ∃ x, e = .returned x ∧ BR u.heap.size w' x (layP l[m]) ∧ Fr NoB u w') := Lib.hid (fun u fu => HIH.out l[m] (List.getElem_mem hlt) M _ u (HML.out u fu) (RAt.fr (HMf.out u fu) _ _ hat))
      have hne := HNE.out l[m] (List.getElem_mem hlt)
      generalize layP l[m] = F at *
      have hmk : m < ks.length := by omega
      have HKY : Hid (∀ u, Fr (Only (w.heap.size + 1)) V u → ∃ gk ok, ka = some ⟨gk, ok, none⟩ ∧ u.cell? ⟨gk, ok + m, none⟩ = some (sV (keyAt ks m))) := Lib.hid (fun u fu => by
        rcases HK.out.1 with ⟨h0, _⟩ | ⟨g, o, c', he, hg, hc⟩
        · omega
        · simp only [Value.slice.injEq, true_and] at he
          refine ⟨g, o, he.1, (World.cell?_of_block (w := V) (HMf.out u fu g hg)).trans (hc m _ ?_)⟩
          rw [← keyAt_get hmk]
          simp [hmk])
      have hkm : (keyAt ks m).length ≤ 4398046511104 := by
        have := HKB.out ks[m] (List.getElem_mem hmk)
        rwa [keyAt_get hmk] at this
      have HQ := Lib.hid (fun u => rQuoted_any (keyAt ks m) u hkm)
      have hqn := quoteP_ne (keyAt ks m)
      obtain ⟨gk, ok, rfl, _⟩ := HKY.out _ hf
      have HKZ : Hid (∀ u, Fr (Only (w.heap.size + 1)) V u → u.cell? ⟨gk, ok + m, none⟩ = some (sV (keyAt ks m))) := Lib.hid (fun u fu => by
        obtain ⟨a, b, e, h⟩ := HKY.out u fu
        simp only [Option.some.injEq, Addr.mk.injEq, and_true] at e
        obtain ⟨rfl, rfl⟩ := e
        exact h)
      have i3 : (m : Int) < ks.length := by omega
      generalize quoteP (keyAt ks m) = Q at *
      generalize keyAt ks m = key at *
      clear hcell p0 p1 p2 p3 p4 hat hcs hlm ex
      by_cases hp : 0 < m
      · have hpi : (0 : Int) < m := by omega
        rw [if_pos hp] at hTK hTL2
        simp only [List.length_append, List.length_cons, List.length_nil] at hTL2
        have HTE := Lib.hid hTK
        clear hTK
        have fbB : Fr NoB wr (wr.alloc (.cells #[.int .u8 44] 5)) := (Fr.refl _ _).alloc _
        have rbB := hown.fr fbB
        go_upto_region 23 with (at_builtin; go_loud (refine br_rowL rfl _ _ rfl w.heap.size u3 _ rfl rbB wr.heap.size 1 1 [44] rfl rfl (by omega) (new_cells wr #[.int .u8 44] [44] rfl) (by first | omega | (simp <;> omega)) (by first | omega | (simp <;> omega)) ?_; intro vB wB ownB hgrB hatB))
        have obB := ob_step HO hatB (by first | omega | (simp <;> omega))
        have frB := (hf.plus fbB).ownr hgrB HO
        have szB := frB.size
        clear d0 d3 d4
        obtain ⟨d0, d3, d4⟩ := HB.out _ frB
        have dk := HKZ.out _ frB
        go_upto_region 25 with (first | (go_at_call 59; ((with_reducible refine (HQ.out _).mono ?_); rintro e wq ⟨q, rfl, hq, fq⟩; obtain ⟨gq, cq, rfl, _, _, hcq⟩ := hq.sl hqn; have rq := ownB.fr fq; have szq := fq.size)) | (at_builtin; go_loud (refine br_rowL rfl _ _ rfl w.heap.size vB _ rfl rq gq Q.length cq Q rfl rfl (List.length_pos_iff.2 hqn) hcq (by first | omega | (simp <;> omega)) (by omega) ?_; intro vC wC ownC hgrC hatC)))
        have obC := ob_step obB hatC (by omega)
        have frC := (frB.plus fq).ownr hgrC obB
        have szC := frC.size
        clear hcq hq rq dk d0 d3 d4
        have fbD : Fr NoB wC (wC.alloc (.cells #[.int .u8 58] 5)) := (Fr.refl _ _).alloc _
        have rbD := ownC.fr fbD
        go_upto_region 26 with (at_builtin; go_loud (refine br_rowL rfl _ _ rfl w.heap.size vC _ rfl rbD wC.heap.size 1 1 [58] rfl rfl (by omega) (new_cells wC #[.int .u8 58] [58] rfl) (by first | omega | (simp <;> omega)) (by first | omega | (simp <;> omega)) ?_; intro vD wD ownD hgrD hatD))
        have obD := ob_step obC hatD (by first | omega | (simp <;> omega))
        have frD := (frC.plus fbD).ownr hgrD obC
        have szD := frD.size
        obtain ⟨d0, d3, d4⟩ := HB.out _ frD
        obtain ⟨e0, e1, e2, e3, e4⟩ := HE.out _ frD
        have HCC := Lib.hid (HC.out _ frD)
        go_wp2_with (first | (go_at_call 37; ((with_reducible refine HCC.out.mono ?_); rintro e wf ⟨y, rfl, hy, ff⟩; obtain ⟨gf, cf, rfl, _, _, hcf⟩ := hy.sl hne; have rf := ownD.fr ff; have szf := ff.size)) | (at_builtin; go_loud (refine br_rowL rfl _ _ rfl w.heap.size vD _ rfl rf gf F.length cf F rfl rfl (List.length_pos_iff.2 hne) hcf (by first | omega | (simp <;> omega)) (by omega) ?_; intro vE wE ownE hgrE hatE)))
        have obE := ob_step obD hatE (by omega)
        have frE := (frD.plus ff).ownr hgrE obD
        go_roundw
        case rel => exact ⟨m + 1, by omega, by simp, by rw [HTE.out]; simpa using ownE, Lib.hid obE, frE⟩
        case measure => simp [intOf]; omega
      · have hpi : ¬ (0 : Int) < m := by omega
        rw [if_neg hp] at hTK hTL2
        simp only [List.length_append, List.length_cons, List.length_nil] at hTL2
        have HTE := Lib.hid hTK
        clear hTK
        go_upto_region 23 with fail
        clear d0 d3 d4
        obtain ⟨d0, d3, d4⟩ := HB.out _ hf
        have dk := HKZ.out _ hf
        go_upto_region 25 with (first | (go_at_call 59; ((with_reducible refine (HQ.out _).mono ?_); rintro e wq ⟨q, rfl, hq, fq⟩; obtain ⟨gq, cq, rfl, _, _, hcq⟩ := hq.sl hqn; have rq := hown.fr fq; have szq := fq.size)) | (at_builtin; go_loud (refine br_rowL rfl _ _ rfl w.heap.size u3 _ rfl rq gq Q.length cq Q rfl rfl (List.length_pos_iff.2 hqn) hcq (by first | omega | (simp <;> omega)) (by omega) ?_; intro vC wC ownC hgrC hatC)))
        have obC := ob_step HO hatC (by omega)
        have frC := (hf.plus fq).ownr hgrC HO
        have szC := frC.size
        clear hcq hq rq dk d0 d3 d4
        have fbD : Fr NoB wC (wC.alloc (.cells #[.int .u8 58] 5)) := (Fr.refl _ _).alloc _
        have rbD := ownC.fr fbD
        go_upto_region 26 with (at_builtin; go_loud (refine br_rowL rfl _ _ rfl w.heap.size vC _ rfl rbD wC.heap.size 1 1 [58] rfl rfl (by omega) (new_cells wC #[.int .u8 58] [58] rfl) (by first | omega | (simp <;> omega)) (by first | omega | (simp <;> omega)) ?_; intro vD wD ownD hgrD hatD))
        have obD := ob_step obC hatD (by first | omega | (simp <;> omega))
        have frD := (frC.plus fbD).ownr hgrD obC
        have szD := frD.size
        obtain ⟨d0, d3, d4⟩ := HB.out _ frD
        obtain ⟨e0, e1, e2, e3, e4⟩ := HE.out _ frD
        have HCC := Lib.hid (HC.out _ frD)
        go_wp2_with (first | (go_at_call 37; ((with_reducible refine HCC.out.mono ?_); rintro e wf ⟨y, rfl, hy, ff⟩; obtain ⟨gf, cf, rfl, _, _, hcf⟩ := hy.sl hne; have rf := ownD.fr ff; have szf := ff.size)) | (at_builtin; go_loud (refine br_rowL rfl _ _ rfl w.heap.size vD _ rfl rf gf F.length cf F rfl rfl (List.length_pos_iff.2 hne) hcf (by first | omega | (simp <;> omega)) (by omega) ?_; intro vE wE ownE hgrE hatE)))
        have obE := ob_step obD hatE (by omega)
        have frE := (frD.plus ff).ownr hgrE obD
        go_roundw
        case rel => exact ⟨m + 1, by omega, by simp, by rw [HTE.out]; simpa using ownE, Lib.hid obE, frE⟩
        case measure => simp [intOf]; omega
    · obtain rfl : m = l.length := by omega
      have fbZ : Fr NoB wr (wr.alloc (.cells #[.int .u8 125] 5)) := (Fr.refl _ _).alloc _
      have rbZ := hown.fr fbZ
      go_wp2_with (at_builtin; go_loud (refine br_rowL rfl _ _ rfl w.heap.size u3 _ rfl rbZ wr.heap.size 1 1 [125] rfl rfl (by omega) (new_cells wr #[.int .u8 125] [125] rfl) (by first | omega | (simp <;> omega)) (by first | omega | (simp <;> omega)) ?_; intro vZ wZ ownZ hgrZ hatZ))
      have frZ := (hf.plus fbZ).ownr hgrZ HO
      go_ret
      exact ⟨_, rfl, by rw [← HAL.out]; simpa using ownZ, hfin.andThen frZ (fun j hj e => by have e' : j = w.heap.size + 1 := e; omega)⟩

set_option maxRecDepth 100000 in
set_option maxHeartbeats 6400000 in
theorem rform_list (i : Int) (t : Bs) (l : List Jv) (ks : List Bs) (S : Nat → Prop) (a1 a2 a3 a4 : Value) (w : World) (hS : ∀ g, S g → g < w.heap.size) (hll : l.length ≤ 8388608)
    (hSo : ∀ u, Fr NoB w u → Calls Tryz.prog 44 #[.agg #[.int .i64 5, a1, a2, a3, a4]] u fun e w' => ∃ x, e = .returned x ∧ RAt (Mix S u.heap.size w'.heap.size) w' (.mk 5 i t l ks) x ∧ Fr NoB u w')
    (hIH : ∀ x ∈ l, ∀ (S : Nat → Prop) (v : Value) (w : World), (∀ g, S g → g < w.heap.size) → RAt S w x v → Calls Tryz.prog 37 #[v] w fun e w' => ∃ u, e = .returned u ∧ BR w.heap.size w' u (layP x) ∧ Fr NoB w w') (hne : ∀ x ∈ l, layP x ≠ [])
    (hlen : (joinC (itsF false l ks)).length ≤ 1000000000) :
    Calls Tryz.prog 37 #[.agg #[.int .i64 5, a1, a2, a3, a4]] w fun e w' => ∃ u, e = .returned u ∧ BR w.heap.size w' u (91 :: (joinC (itsF false l ks) ++ [93])) ∧ Fr NoB w w' := by
  have f0 : Fr NoB w ((w.alloc (.cells #[.int .i64 5, a1, a2, a3, a4] 25)).alloc (.cells #[] 5)) := ((Fr.refl _ _).alloc _).alloc _
  have g0 : Blk ((w.alloc (.cells #[.int .i64 5, a1, a2, a3, a4] 25)).alloc (.cells #[] 5)) w.heap.size 25 #[.int .i64 5, a1, a2, a3, a4] := (Blk.new w 25 _).alloc _
  have r0 : BR w.heap.size ((w.alloc (.cells #[.int .i64 5, a1, a2, a3, a4] 25)).alloc (.cells #[] 5)) (.slice (some ⟨w.heap.size + 1, 0, none⟩) 0 0) [] := by
    have := own_empty (w.alloc (.cells #[.int .i64 5, a1, a2, a3, a4] 25)) w.heap.size (w.heap.size + 1) 5 1 (by simp) (by omega)
    exact this
  have hsW : ((w.alloc (.cells #[.int .i64 5, a1, a2, a3, a4] 25)).alloc (.cells #[] 5)).heap.size = w.heap.size + 2 := by simp
  generalize hW : (w.alloc (.cells #[.int .i64 5, a1, a2, a3, a4] 25)).alloc (.cells #[] 5) = W at *
  have HW := Lib.hid hW
  have c0 : W.cell? ⟨w.heap.size, 0, none⟩ = some (.int .i64 5) := (g0.cell 0).trans rfl
  have HSO := Lib.hid (hSo W f0)
  have HIH := Lib.hid hIH
  have HNE := Lib.hid hne
  have HS := Lib.hid hS

  clear hW hSo hIH hne hS
  go_enter Tryz.func37, Tryz.ntmps37
  go_upto_region 17 with (first | (rw [HW.out]) | (refine wpList_load_row rfl 25 _ rfl w.heap.size rfl 25 _ _ _ g0 Tryz.underlying25 rfl size_json ?_) | (go_at_call 44; ((with_reducible refine HSO.out.mono ?_); rintro e w1 ⟨x, rfl, hx, f1⟩; obtain ⟨x0, x1, x2, x3, x4, rfl, o1⟩ := hx.form; have B0a := f1.blk g0 (fun e => e))) | (refine wpList_store_row rfl 25 _ _ rfl w.heap.size #[x0, x1, x2, x3, x4] rfl rfl 25 #[.int .i64 5, a1, a2, a3, a4] B0a size_json rfl o1 ?_))
  simp only [RAt] at hx
  obtain ⟨lv, kv, he, hk, hi, ht, hks, hl, cs, hcs, hlm⟩ := hx
  simp only [jV, Value.agg.injEq, Array.mk.injEq, List.cons.injEq, and_true] at he
  obtain ⟨rfl, rfl, rfl, rfl, rfl⟩ := he
  obtain ⟨la, lc, rfl⟩ := hlm.sl
  obtain ⟨ka, kc, rfl⟩ := hks.1.sl
  have hs1 := f1.size
  have B0b := B0a.setRow #[.int .i64 5, .int .i64 i, .string ⟨t.toArray⟩, .slice la l.length lc, .slice ka ks.length kc]
  have fR : Fr (Only w.heap.size) w1 (w1.setRow w.heap.size #[.int .i64 5, .int .i64 i, .string ⟨t.toArray⟩, .slice la l.length lc, .slice ka ks.length kc]) := Fr.rowO _ _ _
  have rV : BR w.heap.size (w1.setRow w.heap.size #[.int .i64 5, .int .i64 i, .string ⟨t.toArray⟩, .slice la l.length lc, .slice ka ks.length kc]) (.slice (some ⟨w.heap.size + 1, 0, none⟩) 0 0) [] := fR.row (r0.fr f1) (fun g hg e => by
    have e1 : w.heap.size + 1 = g := by simpa [Value.ownBlock] using hg
    have e2 : g = w.heap.size := e
    omega)
  have fV : Fr NoB w (w1.setRow w.heap.size #[.int .i64 5, .int .i64 i, .string ⟨t.toArray⟩, .slice la l.length lc, .slice ka ks.length kc]) := (f0.trans f1).setRow w.heap.size _ (Or.inl (Nat.le_refl _))
  have hsV : (w1.setRow w.heap.size #[.int .i64 5, .int .i64 i, .string ⟨t.toArray⟩, .slice la l.length lc, .slice ka ks.length kc]).heap.size = w1.heap.size := by simp [World.setRow]
  have hT : ∀ g, Mix S W.heap.size w1.heap.size g → g < w1.heap.size ∧ ¬ g = w.heap.size ∧ ¬ g = w.heap.size + 1 := fun g hg => by
    rcases hg with hg | hg
    · have := HS.out g hg; omega
    · omega
  have hcs2 := RCells.fr (fun g hg => fR.block g (hT g hg).1 (hT g hg).2.1) _ _ hcs
  have hlm2 := hlm.fr (fun g hg => fR.block g (hT g hg).1 (hT g hg).2.1)
  have hks2 := hks.fr (fun g hg => fR.block g (hT g hg).1 (hT g hg).2.1)
  generalize hV : w1.setRow w.heap.size #[.int .i64 5, .int .i64 i, .string ⟨t.toArray⟩, .slice la l.length lc, .slice ka ks.length kc] = V at *
  generalize Mix S W.heap.size w1.heap.size = M at *
  rw [← hsV] at hT
  have hwV : w.heap.size + 2 ≤ V.heap.size := by omega
  have HB : Hid (∀ u, Fr (Only (w.heap.size + 1)) V u → u.cell? ⟨w.heap.size, 0, none⟩ = some (.int .i64 5) ∧ u.cell? ⟨w.heap.size, 3, none⟩ = some (.slice la l.length lc) ∧ u.cell? ⟨w.heap.size, 4, none⟩ = some (.slice ka ks.length kc)) := Lib.hid (fun u fu => by
    have a := fu.blk B0b (fun e => by have e' : w.heap.size = w.heap.size + 1 := e; omega)
    exact ⟨(a.cell 0).trans rfl, (a.cell 3).trans rfl, (a.cell 4).trans rfl⟩)
  have HMf : Hid (∀ u, Fr (Only (w.heap.size + 1)) V u → ∀ g, M g → u.heap[g]? = V.heap[g]?) := Lib.hid (fun u fu g hg => fu.block g (hT g hg).1 (fun e => (hT g hg).2.2 e))
  have HML : Hid (∀ u, Fr (Only (w.heap.size + 1)) V u → ∀ g, M g → g < u.heap.size) := Lib.hid (fun u fu g hg => Nat.lt_of_lt_of_le (hT g hg).1 fu.size)
  have HL := Lib.hid (And.intro hcs2 hlm2)
  have HK := Lib.hid hks2
  have hfin := fV
  clear hcs hlm hks hcs2 hlm2 hks2 hT B0a B0b g0 fR hV HSO HW o1 f0 f1 hs1 r0 c0 hsW hsV fV HS
  have ob0 : ∀ y, (Value.slice (some ⟨w.heap.size + 1, 0, none⟩) 0 0).ownBlock = some y → y = w.heap.size + 1 ∨ V.heap.size ≤ y := fun y hy => Or.inl (by simpa [Value.ownBlock] using hy.symm)
  have fr0 : Fr (Only (w.heap.size + 1)) V V := Fr.refl _ _
  have fbA : Fr NoB V (V.alloc (.cells #[.int .u8 91] 5)) := (Fr.refl _ _).alloc _
  have rbA := rV.fr fbA
  go_upto_region 18 with (at_builtin; go_loud (refine br_rowL rfl _ _ rfl w.heap.size (.slice (some ⟨w.heap.size + 1, 0, none⟩) 0 0) _ rfl rbA V.heap.size 1 1 [91] rfl rfl (by omega) (new_cells V #[.int .u8 91] [91] rfl) (by first | omega | (simp <;> omega)) (by first | omega | (simp <;> omega)) ?_; intro vA wA ownA hgrA hatA))
  have obA := ob_step ob0 hatA (by first | omega | (simp <;> omega))
  have frA := (fr0.plus fbA).ownr hgrA ob0
  have szA := frA.size
  have HTK : Hid (∀ m, m < l.length → joinC ((itsF false l ks).take (m + 1)) = joinC ((itsF false l ks).take m) ++ ((if 0 < m then [44] else []) ++ ([] ++ layP (l.getD m Jv.nul)))) := Lib.hid (fun m hm => by
    have h2 : m < (itsF false l ks).length := by rw [itsF_len]; exact hm
    rw [joinC_take _ m h2, itsF_at hm h2]
    simp [List.getD, hm])
  have HTL : Hid (∀ m, (joinC ((itsF false l ks).take m)).length ≤ 1000000000) := Lib.hid (fun m => Nat.le_trans (joinC_le _ m) hlen)
  have hAll : joinC ((itsF false l ks).take l.length) = joinC (itsF false l ks) := by rw [← itsF_len false l ks, List.take_length]
  have h0 : joinC ((itsF false l ks).take 0) = [] := by simp [joinC]
  generalize hJ : (fun m => joinC ((itsF false l ks).take m)) = J at *
  have eJ : ∀ m, joinC ((itsF false l ks).take m) = J m := fun m => by rw [← hJ]
  simp only [eJ] at HTK HTL hAll h0
  have HAL := Lib.hid hAll
  clear hlen hAll hJ eJ
  go_wp2_with fail
  go_loopw [3, 6] (fun v3 v6 wr => ∃ m : Nat, m ≤ l.length ∧ v6 = .int .i64 m ∧ BR w.heap.size wr v3 (91 :: J m) ∧ Hid (∀ y, v3.ownBlock = some y → y = w.heap.size + 1 ∨ V.heap.size ≤ y) ∧ Fr (Only (w.heap.size + 1)) V wr) (fun _ v6 _ => l.length - (intOf v6).toNat)
  case atStart => exact ⟨0, Nat.zero_le _, rfl, by rw [h0]; exact ownA, Lib.hid obA, frA⟩
  case round =>
    obtain ⟨m, hm, rfl, hown, HOB, hf⟩ := hrel
    have hszr := hf.size
    have HO := HOB.out
    obtain ⟨d0, d3, d4⟩ := HB.out _ hf
    have hTL := HTL.out m
    by_cases hlt : m < l.length
    · have i1 : (0 : Int) ≤ m := by omega
      have i2 : (m : Int) < l.length := by omega
      have hTK := HTK.out m hlt
      have hTL2 := HTL.out (m + 1)
      rw [hTK] at hTL2
      have ex : l.getD m Jv.nul = l[m] := by simp [List.getD, hlt]
      rw [ex] at hTK hTL2
      obtain ⟨hcs, hlm⟩ := HL.out
      obtain ⟨v0, v1, v2, v3, v4, p0, p1, p2, p3, p4, hat⟩ := RCells.get l cs m hlt hcs
      obtain ⟨ga, oa, rfl, hMa, hcell⟩ : ∃ g o, la = some ⟨g, o, none⟩ ∧ M g ∧ ∀ (i : Nat) u, cs[i]? = some u → V.cell? ⟨g, o + i, none⟩ = some u := by
        rcases hlm with ⟨h0, _⟩ | ⟨g, o, c', he, hg, hc⟩
        · omega
        · simp only [Value.slice.injEq, true_and] at he
          exact ⟨g, o, he.1, hg, hc⟩
      have HE : Hid (∀ u, Fr (Only (w.heap.size + 1)) V u → u.cell? ⟨ga, oa + m * 5, none⟩ = some v0 ∧ u.cell? ⟨ga, oa + m * 5 + 1, none⟩ = some v1 ∧ u.cell? ⟨ga, oa + m * 5 + 2, none⟩ = some v2 ∧ u.cell? ⟨ga, oa + m * 5 + 3, none⟩ = some v3 ∧ u.cell? ⟨ga, oa + m * 5 + 4, none⟩ = some v4) := Lib.hid (fun u fu => by
        have k : ∀ (i : Nat) x, cs[i]? = some x → u.cell? ⟨ga, oa + i, none⟩ = some x := fun i x hx => (World.cell?_of_block (w := V) (HMf.out u fu ga hMa)).trans (hcell i x hx)
        exact ⟨k _ _ p0, k _ _ p1, k _ _ p2, k _ _ p3, k _ _ p4⟩)
      have HC : Hid (∀ u, Fr (Only (w.heap.size + 1)) V u → Calls Tryz.prog 37 #[.agg #[v0, v1, v2, v3, v4]] u fun e w' => ∃ x, e = .returned x ∧ BR u.heap.size w' x (layP l[m]) ∧ Fr NoB u w') := Lib.hid (fun u fu => HIH.out l[m] (List.getElem_mem hlt) M _ u (HML.out u fu) (RAt.fr (HMf.out u fu) _ _ hat))
      have hne := HNE.out l[m] (List.getElem_mem hlt)
      generalize layP l[m] = F at *
      clear hcell p0 p1 p2 p3 p4 hat hcs hlm ex
      by_cases hp : 0 < m
      · have hpi : (0 : Int) < m := by omega
        rw [if_pos hp] at hTK hTL2
        simp only [List.length_append, List.length_cons, List.length_nil] at hTL2
        have HTE := Lib.hid hTK
        clear hTK
        have fbB : Fr NoB wr (wr.alloc (.cells #[.int .u8 44] 5)) := (Fr.refl _ _).alloc _
        have rbB := hown.fr fbB
        go_upto_region 23 with (at_builtin; go_loud (refine br_rowL rfl _ _ rfl w.heap.size u3 _ rfl rbB wr.heap.size 1 1 [44] rfl rfl (by omega) (new_cells wr #[.int .u8 44] [44] rfl) (by first | omega | (simp <;> omega)) (by first | omega | (simp <;> omega)) ?_; intro vB wB ownB hgrB hatB))
        have obB := ob_step HO hatB (by first | omega | (simp <;> omega))
        have frB := (hf.plus fbB).ownr hgrB HO
        have szB := frB.size
        clear d0 d3 d4
        obtain ⟨d0, d3, d4⟩ := HB.out _ frB
        go_upto_region 26 with fail
        obtain ⟨e0, e1, e2, e3, e4⟩ := HE.out _ frB
        have HCC := Lib.hid (HC.out _ frB)
        go_wp2_with (first | (go_at_call 37; ((with_reducible refine HCC.out.mono ?_); rintro e wf ⟨y, rfl, hy, ff⟩; obtain ⟨gf, cf, rfl, _, _, hcf⟩ := hy.sl hne; have rf := ownB.fr ff; have szf := ff.size)) | (at_builtin; go_loud (refine br_rowL rfl _ _ rfl w.heap.size vB _ rfl rf gf F.length cf F rfl rfl (List.length_pos_iff.2 hne) hcf (by first | omega | (simp <;> omega)) (by omega) ?_; intro vE wE ownE hgrE hatE)))
        have obE := ob_step obB hatE (by omega)
        have frE := (frB.plus ff).ownr hgrE obB
        go_roundw
        case rel => exact ⟨m + 1, by omega, by simp, by rw [HTE.out]; simpa using ownE, Lib.hid obE, frE⟩
        case measure => simp [intOf]; omega
      · have hpi : ¬ (0 : Int) < m := by omega
        rw [if_neg hp] at hTK hTL2
        simp only [List.length_append, List.length_nil] at hTL2
        have HTE := Lib.hid hTK
        clear hTK
        go_upto_region 23 with fail
        clear d0 d3 d4
        obtain ⟨d0, d3, d4⟩ := HB.out _ hf
        go_upto_region 26 with fail
        obtain ⟨e0, e1, e2, e3, e4⟩ := HE.out _ hf
        have HCC := Lib.hid (HC.out _ hf)
        go_wp2_with (first | (go_at_call 37; ((with_reducible refine HCC.out.mono ?_); rintro e wf ⟨y, rfl, hy, ff⟩; obtain ⟨gf, cf, rfl, _, _, hcf⟩ := hy.sl hne; have rf := hown.fr ff; have szf := ff.size)) | (at_builtin; go_loud (refine br_rowL rfl _ _ rfl w.heap.size u3 _ rfl rf gf F.length cf F rfl rfl (List.length_pos_iff.2 hne) hcf (by first | omega | (simp <;> omega)) (by omega) ?_; intro vE wE ownE hgrE hatE)))
        have obE := ob_step HO hatE (by omega)
        have frE := (hf.plus ff).ownr hgrE HO
        go_roundw
        case rel => exact ⟨m + 1, by omega, by simp, by rw [HTE.out]; simpa using ownE, Lib.hid obE, frE⟩
        case measure => simp [intOf]; omega
    · obtain rfl : m = l.length := by omega
      have fbZ : Fr NoB wr (wr.alloc (.cells #[.int .u8 93] 5)) := (Fr.refl _ _).alloc _
      have rbZ := hown.fr fbZ
      go_wp2_with (at_builtin; go_loud (refine br_rowL rfl _ _ rfl w.heap.size u3 _ rfl rbZ wr.heap.size 1 1 [93] rfl rfl (by omega) (new_cells wr #[.int .u8 93] [93] rfl) (by first | omega | (simp <;> omega)) (by first | omega | (simp <;> omega)) ?_; intro vZ wZ ownZ hgrZ hatZ))
      have frZ := (hf.plus fbZ).ownr hgrZ HO
      go_ret
      exact ⟨_, rfl, by rw [← HAL.out]; simpa using ownZ, hfin.andThen frZ (fun j hj e => by have e' : j = w.heap.size + 1 := e; omega)⟩

theorem int_lim {k i : Int} {t : Bs} {n : Nat} {ks : List Bs} (h : formP k i t n ks = true) : -9007199254740991 ≤ i ∧ i ≤ 9007199254740991 := by
  unfold formP at h
  simp only [Bool.and_eq_true] at h
  have h1 := h.1.2
  simp only [intIn, Bool.or_eq_true, Bool.and_eq_true, decide_eq_true_eq, beq_iff_eq] at h1
  omega
mutual
theorem FM_all : ∀ j : Jv, FM j
  | .mk k i t l ks => by
    intro n S v w hS hat hck hsz
    have ih := FMs_all l
    have hok := check_form _ n hck
    have hfo := form_of n k i t l ks hck
    have hki := form_kind hfo.1
    have hlp := layP_len _ n hck
    have hii := int_of_form hfo.1
    have hokm := ok_mk hok
    have hcx := checksP_all (n + 1) l hfo.2
    have hszl : szL l ≤ 8388608 := by simp only [szJ] at hsz; omega
    have hszk : szK ks ≤ 8388608 := by simp only [szJ] at hsz; omega
    have hszt : t.length ≤ 8388608 := by simp only [szJ] at hsz; omega
    have hll := szL_len l
    have hat0 := hat
    simp only [RAt] at hat
    obtain ⟨lv, kv, rfl, _, _, _, _⟩ := hat
    by_cases hk5 : k < 5
    · refine rform_leaf k i t lv kv w ⟨hki.1, hk5⟩ ⟨?_, ?_⟩ (by omega) (layP (.mk k i t l ks)) ?_
      · have := int_lim hfo.1; omega
      · have := int_lim hfo.1; omega
      · rw [layP]
        by_cases e0 : k = 0
        · rw [if_pos e0, if_pos e0]
        by_cases e1 : k = 1
        · rw [if_neg e0, if_pos e1, if_neg e0, if_pos e1]
        by_cases e2 : k = 2
        · rw [if_neg e0, if_neg e1, if_pos e2, if_neg e0, if_neg e1, if_pos e2]
        by_cases e3 : k = 3
        · rw [if_neg e0, if_neg e1, if_neg e2, if_pos e3, if_neg e0, if_neg e1, if_neg e2, if_pos e3]
        · rw [if_neg e0, if_neg e1, if_neg e2, if_neg e3, if_pos (by omega), if_neg e0, if_neg e1, if_neg e2, if_neg e3]
    · have e5 := lay_nest (i := i) (t := t) (l := l) (ks := ks) (show 5 ≤ k by omega)
      have hso := fun u (fu : Fr NoB w u) => srt_any _ S _ u (fun g hg => Nat.lt_of_lt_of_le (hS g hg) fu.size) (RAt.fr (fun g hg => fu.block g (hS g hg) (fun e => e)) _ _ hat0) hok hsz
      by_cases h6 : k = 6
      · subst h6
        obtain ⟨rfl, rfl, h1, h2⟩ := ok_obj hok
        have e6 : layP (.mk 6 0 [] l ks) = 123 :: (joinC (itsF true (valsO l ks) (keysS l ks)) ++ [125]) := by rw [e5, ← items_obj]; rfl
        have hjl : (joinC (itsF true (valsO l ks) (keysS l ks))).length ≤ 1000000000 := by rw [e6] at hlp; simp at hlp; omega
        rw [e6]
        refine rform_obj 0 [] (valsO l ks) (keysS l ks) S _ _ _ _ w hS (by rw [valsO_len]; omega) (by rw [keysS_len, valsO_len]) (fun s hs => ?_) (fun u fu => by have := hso u fu; rwa [srtJ, if_pos rfl] at this) (fun x hx S' v' w' hS' hat' => ?_) (fun x hx => layP_ne x (hokm.2 x (valsO_mem hx))) hjl
        · have := szK_mem ks s ((keysS_perm h1).mem_iff.1 hs); omega
        · have hm := valsO_mem hx
          exact ih x hm (n + 1) S' v' w' hS' hat' (hcx x hm) (by have := szL_mem hm; omega)
      · obtain rfl : k = 5 := by omega
        have e6 : layP (.mk 5 i t l ks) = 91 :: (joinC (itsF false l ks) ++ [93]) := by rw [e5, ← items_list]; rfl
        have hjl : (joinC (itsF false l ks)).length ≤ 1000000000 := by rw [e6] at hlp; simp at hlp; omega
        rw [e6]
        exact rform_list i t l ks S _ _ _ _ w hS (by omega) (fun u fu => by have := hso u fu; rwa [srtJ, if_neg (by omega)] at this) (fun x hx S' v' w' hS' hat' => ih x hx (n + 1) S' v' w' hS' hat' (hcx x hx) (by have := szL_mem hx; omega)) (fun x hx => layP_ne x (hokm.2 x hx)) hjl
theorem FMs_all : ∀ (l : List Jv), ∀ x ∈ l, FM x
  | [], x, hx => absurd hx (by simp)
  | j :: r, x, hx => by
    cases hx with
    | head => exact FM_all j
    | tail _ h => exact FMs_all r x h
end

set_option maxRecDepth 100000 in
set_option maxHeartbeats 3200000 in
/-- The document's Text. -/
theorem rText_any (j : Jv) (a0 a1 a2 a3 a4 : Value) (w : World) (hat : RAt (All w) w j (.agg #[a0, a1, a2, a3, a4])) (hs : szJ j ≤ 8388608) :
    Calls Tryz.prog 16 #[.agg #[a0, a1, a2, a3, a4]] w fun e w' => e = .returned (.tuple #[sV (textT j).1, .int .i64 ((textT j).2 : Int)]) ∧ Fr NoB w w' := by
  have f0 : Fr NoB w (w.alloc (.cells #[a0, a1, a2, a3, a4] 25)) := (Fr.refl _ _).alloc _
  have g0 := Blk.new w 25 #[a0, a1, a2, a3, a4]
  generalize hW : w.alloc (.cells #[a0, a1, a2, a3, a4] 25) = W at f0 g0
  have HW := Lib.hid hW
  have HC := Lib.hid (rCheck_any (All W) j (.agg #[a0, a1, a2, a3, a4]) W (fun _ h => h) (hat.all f0) (JSd_of j hs))
  have HF : Hid (checkP 0 j = 0 → ∀ u, Fr NoB W u → Calls Tryz.prog 37 #[.agg #[a0, a1, a2, a3, a4]] u fun e w' => ∃ x, e = .returned x ∧ BR u.heap.size w' x (layP j) ∧ Fr NoB u w') := Lib.hid (fun hc u f => FM_all j 0 (All u) _ u (fun _ h => h) (hat.all (f0.trans f)) hc hs)
  have hT : textT j = if checkP 0 j = 0 then (if 65536 < (layP j).length then ([], 92) else (layP j, 0)) else ([], checkP 0 j) := rfl
  rw [hT]
  have hll : checkP 0 j = 0 → (layP j).length ≤ 1000000000 := fun hc => by have := layP_len j 0 hc; omega
  clear hW hat hs hT
  generalize layP j = L at *
  generalize checkP 0 j = q at *
  go_enter Tryz.func16, Tryz.ntmps16
  by_cases hq : q = 0
  · subst hq
    have hF := Lib.hid (HF.out rfl)
    have hl := hll rfl
    rw [if_pos rfl]
    clear hll HF
    by_cases h6 : 65536 < L.length
    · rw [if_pos h6]
      have k1 : (65536 : Int) < L.length := by omega
      go_wp2_with (first | (rw [HW.out]; refine wpList_load_row rfl 25 _ rfl w.heap.size rfl 25 _ _ _ g0 Tryz.underlying25 rfl size_json ?_) | (go_at_call 14; ((with_reducible refine HC.out.mono ?_); rintro e w2 ⟨rfl, f2⟩; have g2 := f2.blk g0 (fun e => e))) | (refine wpList_load_row rfl 25 _ rfl w.heap.size rfl 25 _ _ _ g2 Tryz.underlying25 rfl size_json ?_) | (go_at_call 37; ((with_reducible refine (hF.out _ f2).mono ?_); rintro e w3 ⟨x, rfl, hx, f3⟩; have hcv := hx.conv)))
      go_ret2
      exact ⟨rfl, f0.trans (f2.trans f3)⟩
    · rw [if_neg h6]
      have k1 : ¬ (65536 : Int) < L.length := by omega
      go_wp2_with (first | (rw [HW.out]; refine wpList_load_row rfl 25 _ rfl w.heap.size rfl 25 _ _ _ g0 Tryz.underlying25 rfl size_json ?_) | (go_at_call 14; ((with_reducible refine HC.out.mono ?_); rintro e w2 ⟨rfl, f2⟩; have g2 := f2.blk g0 (fun e => e))) | (refine wpList_load_row rfl 25 _ rfl w.heap.size rfl 25 _ _ _ g2 Tryz.underlying25 rfl size_json ?_) | (go_at_call 37; ((with_reducible refine (hF.out _ f2).mono ?_); rintro e w3 ⟨x, rfl, hx, f3⟩; have hcv := hx.conv)))
      go_ret2
      exact ⟨rfl, f0.trans (f2.trans f3)⟩
  · have hqb : ((q : Int) != 0) = true := by simp; omega
    rw [if_neg hq]
    clear hq hll HF
    go_wp2_with (first | (rw [HW.out]; refine wpList_load_row rfl 25 _ rfl w.heap.size rfl 25 _ _ _ g0 Tryz.underlying25 rfl size_json ?_) | (go_at_call 14; ((with_reducible refine HC.out.mono ?_); rintro e w2 ⟨rfl, f2⟩)))
    go_ret2
    exact ⟨rfl, f0.trans f2⟩
end Go.Proofs.YteeijmfnjcddmaaGreatDoor
