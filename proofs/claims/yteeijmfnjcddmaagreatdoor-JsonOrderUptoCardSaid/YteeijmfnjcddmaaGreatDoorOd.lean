/- JsonOrder: the walk. -/
import Derived.Test.YteeijmfnjcddmaaGreatDoorTn
namespace Go.Proofs.YteeijmfnjcddmaaGreatDoor
open Go.RowKit

theorem ba_catd (a b : Bs) : (⟨a.toArray⟩ : ByteArray) ++ ⟨b.toArray⟩ = ⟨(a ++ b).toArray⟩ := by
  apply ByteArray.ext
  simp [ByteArray.data_append]
/-- What the law asks, where there is no form. -/
theorem text_not {j : Jv} (h : (textT j).2 ≠ 0) : (textT j = ([], checkP 0 j) ∧ checkP 0 j ≠ 0) ∨ (textT j = ([], 92) ∧ checkP 0 j = 0) := by
  unfold textT at h ⊢
  by_cases hc : checkP 0 j = 0
  · rw [if_pos hc] at h ⊢
    by_cases hl : 65536 < (layP j).length
    · rw [if_pos hl]; exact Or.inr ⟨rfl, hc⟩
    · rw [if_neg hl] at h; exact absurd rfl h
  · rw [if_neg hc]; exact Or.inl ⟨rfl, hc⟩
theorem text_yes {j : Jv} (h : (textT j).2 = 0) : textT j = (layP j, 0) ∧ checkP 0 j = 0 ∧ (layP j).length ≤ 65536 := by
  unfold textT at h ⊢
  by_cases hc : checkP 0 j = 0
  · rw [if_pos hc] at h ⊢
    by_cases hl : 65536 < (layP j).length
    · rw [if_pos hl] at h; cases h
    · rw [if_neg hl]; exact ⟨rfl, hc, by omega⟩
  · rw [if_neg hc] at h; exact absurd h hc

theorem two_of {w : World} {a b : Jv} {v : Value} (h : RAt (All w) w (.mk 5 0 [] [a, b] []) v) : ∃ (g o c : Nat) (ka : Option Addr) (kc : Nat) (v0 v1 v2 v3 v4 u0 u1 u2 u3 u4 : Value), v = jV 5 0 [] (.slice (some ⟨g, o, none⟩) 2 c) (.slice ka 0 kc) ∧ RAt (All w) w a (.agg #[v0, v1, v2, v3, v4]) ∧ RAt (All w) w b (.agg #[u0, u1, u2, u3, u4]) ∧ g < w.heap.size ∧
    ∀ (i : Nat) x, [v0, v1, v2, v3, v4, u0, u1, u2, u3, u4][i]? = some x → w.cell? ⟨g, o + i, none⟩ = some x := by
  simp only [RAt] at h
  obtain ⟨lv, kv, rfl, _, _, _, hks, _, cs, hcs, hlm⟩ := h
  simp only [RCells] at hcs
  obtain ⟨v0, v1, v2, v3, v4, r, rfl, ha, u0, u1, u2, u3, u4, r2, rfl, hb, rfl⟩ := hcs
  obtain ⟨ka, kc, rfl⟩ := hks.1.sl
  rcases hlm with ⟨h0, _⟩ | ⟨g, o, c, rfl, hg, hc⟩
  · simp at h0
  · exact ⟨g, o, c, ka, kc, v0, v1, v2, v3, v4, u0, u1, u2, u3, u4, rfl, ha, hb, hg, hc⟩

set_option maxRecDepth 100000 in
set_option maxHeartbeats 6400000 in
theorem order_walk (j : Jv) (a0 a1 a2 a3 a4 : Value) (w : World) (hat : RAt (All w) w j (.agg #[a0, a1, a2, a3, a4])) (hs : szJ j ≤ 1048576)
    (hT : ∀ u (j' : Jv) v', Fr NoB w u → RAt (All u) u j' v' → szJ j' ≤ 8388608 → Calls Tryz.prog 15 #[v'] u fun e w' => e = .returned (.tuple #[sV (textT j').1, .int .i64 ((textT j').2 : Int)]) ∧ Fr NoB u w')
    (hC : ∀ u (j' : Jv) v', Fr NoB w u → RAt (All u) u j' v' → szJ j' ≤ 8388608 → Calls Tryz.prog 13 #[v'] u fun e w' => e = .returned (.int .i64 (checkP 0 j' : Int)) ∧ Fr NoB u w')
    (hP : ∀ u (t : Bs), Fr NoB w u → t.length ≤ 1048576 → Calls Tryz.prog 17 #[.string ⟨t.toArray⟩] u (ParO (parseP t) u)) (hFx : ∀ u, Fr NoB w u → Calls Tryz.prog 12 #[] u fun e w' => e = .returned (.bool true) ∧ Fr NoB u w') :
    Calls Tryz.prog 8 #[.agg #[a0, a1, a2, a3, a4]] w fun e w' => e = .returned (.bool true) ∧ Fr NoB w w' := by
  have HTa : Hid (∀ u, Fr NoB w u → Calls Tryz.prog 15 #[.agg #[a0, a1, a2, a3, a4]] u fun e w' => e = .returned (.tuple #[sV (textT j).1, .int .i64 ((textT j).2 : Int)]) ∧ Fr NoB u w') := Lib.hid (fun u f => hT u j _ f (hat.all f) (by omega))
  have HTt : Hid ((textT j).2 = 0 → ∀ u v', Fr NoB w u → RAt (All u) u (turnJ j) v' → Calls Tryz.prog 15 #[v'] u fun e w' => e = .returned (.tuple #[sV (textT j).1, .int .i64 ((textT j).2 : Int)]) ∧ Fr NoB u w') := Lib.hid (fun h u v' f hv => by
    have := hT u (turnJ j) v' f hv (by rw [sz_turn]; omega)
    rwa [text_turn j h] at this)
  have HCa : Hid (∀ u, Fr NoB w u → Calls Tryz.prog 13 #[.agg #[a0, a1, a2, a3, a4]] u fun e w' => e = .returned (.int .i64 (checkP 0 j : Int)) ∧ Fr NoB u w') := Lib.hid (fun u f => hC u j _ f (hat.all f) (by omega))
  have HTu : Hid (∀ u, Fr NoB w u → Calls Tryz.prog 26 #[.agg #[a0, a1, a2, a3, a4]] u fun e w' => ∃ x, e = .returned x ∧ RAt (All w') w' (turnJ j) x ∧ Fr NoB u w') := Lib.hid (fun u f => turned_any j _ u (hat.all f) (by omega))
  have HP := Lib.hid hP
  have HFx : Hid (∀ u, Fr NoB w u → Calls Tryz.prog 12 #[] u fun e w' => e = .returned (.bool true) ∧ Fr NoB u w') := Lib.hid hFx
  clear hT hC hP hFx hat hs
  have f0 : Fr NoB w (w.alloc (.cells #[a0, a1, a2, a3, a4] 25)) := (Fr.refl _ _).alloc _
  have g0 := Blk.new w 25 #[a0, a1, a2, a3, a4]
  generalize hW : w.alloc (.cells #[a0, a1, a2, a3, a4] 25) = W at f0 g0
  have HW := Lib.hid hW
  clear hW
  by_cases hz : (textT j).2 = 0
  · obtain ⟨hty, hck, hlen⟩ := text_yes hz
    have HTt2 := Lib.hid (HTt.out hz)
    have HP2 : Hid (∀ u, Fr NoB w u → Calls Tryz.prog 17 #[.string ⟨(91 :: (layP j ++ 44 :: (layP j ++ [93]))).toArray⟩] u (ParO (if 65536 < 2 * (layP j).length + 3 then .error 92 else if 1 + dep j ≤ 32 then .ok (.mk 5 0 [] [sortJ j, sortJ j] []) else .error 91) u)) := Lib.hid (fun u f => by
      have := HP.out u (91 :: (layP j ++ 44 :: (layP j ++ [93]))) f (by simp; omega)
      rwa [parse_two j hck] at this)
    have HG := Lib.hid (lay_ge j)
    rw [hty] at HTa HTt2
    clear HTt HCa HP hz hty hck
    generalize layP j = s at *
    generalize turnJ j = jt at *
    generalize sortJ j = js at *
    generalize dep j = dj at *
    simp only at HTa HTt2
    have hss : (s == s) = true := by simp
    go_enter Tryz.func8, Tryz.ntmps8
    go_upto_region 7 with (first | (rw [HW.out]; refine wpList_load_row rfl 25 _ rfl w.heap.size rfl 25 _ _ _ g0 Tryz.underlying25 rfl size_json ?_) | (go_at_call 15; ((with_reducible refine (HTa.out _ f0).mono ?_); rintro e u1 ⟨rfl, f1⟩; have F1 := f0.trans f1)) | (go_at_call 12; ((with_reducible refine (HFx.out _ F1).mono ?_); rintro e u2 ⟨rfl, f2⟩; have F2 := F1.trans f2; have g2 := (f1.trans f2).blk g0 (fun e => e))) | (refine wpList_load_row rfl 25 _ rfl w.heap.size rfl 25 _ _ _ g2 Tryz.underlying25 rfl size_json ?_) | (go_at_call 26; ((with_reducible refine (HTu.out _ F2).mono ?_); rintro e u3 ⟨xt, rfl, ht3, f3⟩; have F3 := F2.trans f3)) | (go_at_call 15; ((with_reducible refine (HTt2.out _ _ F3 ht3).mono ?_); rintro e u4 ⟨rfl, f4⟩; have F4 := F3.trans f4)))
    clear HTa HTt2 HTu HFx g0 g2 ht3
    go_wp2_with fail
    go_loopw [7] (fun v wr => ∃ m : Nat, m ≤ s.length ∧ v = .int .i64 m ∧ wr = u4) (fun v _ => s.length - (intOf v).toNat)
    case atStart => exact ⟨0, Nat.zero_le _, rfl, rfl⟩
    case round =>
      obtain ⟨m, hm, rfl, rfl⟩ := hrel
      by_cases hlt : m < s.length
      · have k1 : (0 : Int) ≤ m := by omega
        have k2 : (m : Int) < s.length := by omega
        have hge := HG.out s[m] (List.getElem_mem hlt)
        have hgi : ¬ ((s[m].toNat : Int) < 32) := by
          intro h
          apply hge
          rw [UInt8.lt_iff_toNat_lt]
          have e2 : (32 : UInt8).toNat = 32 := rfl
          omega
        have hgl := get_list s
        go_wp2_with fail
        go_roundw
        case rel => exact ⟨m + 1, by omega, by simp, trivial⟩
        case measure => simp [intOf]; omega
      · obtain rfl : m = s.length := by omega
        have hcat : (({ data := #[91] } : ByteArray) ++ ⟨s.toArray⟩ ++ { data := #[44] } ++ ⟨s.toArray⟩ ++ { data := #[93] }) = ⟨(91 :: (s ++ 44 :: (s ++ [93]))).toArray⟩ := by
          have h1 := ba_catd [91] s
          have h2 := ba_catd ([91] ++ s) [44]
          have h3 := ba_catd ([91] ++ s ++ [44]) s
          have h4 := ba_catd ([91] ++ s ++ [44] ++ s) [93]
          have e : ([91] ++ s ++ [44] ++ s ++ [93] : Bs) = 91 :: (s ++ 44 :: (s ++ [93])) := by simp
          rw [← e, ← h4, ← h3, ← h2, ← h1]
        have Hcat := Lib.hid hcat
        clear hcat
        by_cases hL : 65536 < 2 * s.length + 3
        · have hLi : (65536 : Int) < 2 * (s.length : Int) + 3 := by omega
          have HP3 : Hid (∀ x, x = (⟨(91 :: (s ++ 44 :: (s ++ [93]))).toArray⟩ : ByteArray) → Calls Tryz.prog 17 #[.string x] wr fun e w' => ∃ v, e = .returned (.tuple #[v, .int .i64 92]) ∧ RAt (All w') w' Jv.nul v ∧ Fr NoB wr w') := Lib.hid (fun x hx => by
            subst hx
            have := HP2.out wr F4
            rwa [if_pos hL] at this)
          clear HP2
          go_upto_region 15 with (first | (go_at_call 17; ((with_reducible refine (HP3.out _ Hcat.out).mono ?_); rintro e u5 ⟨x1, rfl, h1, f5⟩; obtain ⟨x10, x11, x12, x13, x14, rfl, o1⟩ := h1.form; have n1 := Blk.new u5 25 zj)) | (refine wpList_store_row rfl 25 _ _ rfl u5.heap.size #[x10, x11, x12, x13, x14] rfl rfl 25 zj n1 size_json rfl o1 ?_))
          obtain ⟨p1, b1⟩ := put_row u5 x10 x11 x12 x13 x14
          generalize hU1 : (u5.alloc (.cells zj 25)).setRow u5.heap.size #[x10, x11, x12, x13, x14] = U1 at *
          clear n1 h1 HP3 hU1
          go_quiet (fail)
          go_wp2_with fail
          go_ret
          exact ⟨rfl, (F4.trans (f5.trans p1)).drewN _⟩
        · by_cases hd : 1 + dj ≤ 32
          · have HP3 : Hid (∀ x, x = (⟨(91 :: (s ++ 44 :: (s ++ [93]))).toArray⟩ : ByteArray) → Calls Tryz.prog 17 #[.string x] wr fun e w' => ∃ v, e = .returned (.tuple #[v, .int .i64 0]) ∧ RAt (All w') w' (.mk 5 0 [] [js, js] []) v ∧ Fr NoB wr w') := Lib.hid (fun x hx => by
              subst hx
              have := HP2.out wr F4
              rwa [if_neg hL, if_pos hd] at this)
            clear HP2
            go_upto_region 15 with (first | (go_at_call 17; ((with_reducible refine (HP3.out _ Hcat.out).mono ?_); rintro e u5 ⟨x1, rfl, h1, f5⟩; obtain ⟨g, o, c, ka, kc, v0, v1, v2, v3, v4, y0, y1, y2, y3, y4, rfl, ra, rb, hg, hc⟩ := two_of h1; have n1 := Blk.new u5 25 zj; have o1 := one_json 5 0 ⟨#[]⟩ (some ⟨g, o, none⟩) ka 2 c 0 kc)) | (refine wpList_store_row rfl 25 _ _ rfl u5.heap.size #[.int .i64 5, .int .i64 0, .string ⟨#[]⟩, .slice (some ⟨g, o, none⟩) 2 c, .slice ka 0 kc] rfl rfl 25 zj n1 size_json rfl o1 ?_))
            obtain ⟨p1, b1⟩ := put_row u5 (.int .i64 5) (.int .i64 0) (.string ⟨#[]⟩) (.slice (some ⟨g, o, none⟩) 2 c) (.slice ka 0 kc)
            generalize hU1 : (u5.alloc (.cells zj 25)).setRow u5.heap.size #[.int .i64 5, .int .i64 0, .string ⟨#[]⟩, .slice (some ⟨g, o, none⟩) 2 c, .slice ka 0 kc] = U1 at *
            have hcU : ∀ (i : Nat) x, [v0, v1, v2, v3, v4, y0, y1, y2, y3, y4][i]? = some x → U1.cell? ⟨g, o + i, none⟩ = some x := fun i x hx => (p1.cell (p := ⟨g, o + i, none⟩) hg (fun e => e)).trans (hc i x hx)
            have b3 := b1.five.2.2.2.1
            have d0 : U1.cell? ⟨g, o, none⟩ = some v0 := hcU 0 _ rfl
            have d1 : U1.cell? ⟨g, o + 1, none⟩ = some v1 := hcU 1 _ rfl
            have d2 : U1.cell? ⟨g, o + 2, none⟩ = some v2 := hcU 2 _ rfl
            have d3 : U1.cell? ⟨g, o + 3, none⟩ = some v3 := hcU 3 _ rfl
            have d4 : U1.cell? ⟨g, o + 4, none⟩ = some v4 := hcU 4 _ rfl
            have d5 : U1.cell? ⟨g, o + 5, none⟩ = some y0 := hcU 5 _ rfl
            have d6 : U1.cell? ⟨g, o + 5 + 1, none⟩ = some y1 := hcU 6 _ rfl
            have d7 : U1.cell? ⟨g, o + 5 + 2, none⟩ = some y2 := hcU 7 _ rfl
            have d8 : U1.cell? ⟨g, o + 5 + 3, none⟩ = some y3 := hcU 8 _ rfl
            have d9 : U1.cell? ⟨g, o + 5 + 4, none⟩ = some y4 := hcU 9 _ rfl
            have F5 := F4.trans (f5.trans p1)
            have fD : Fr NoB U1 U1.drew := (Fr.refl _ _).drew
            have HS := Lib.hid (same_any js _ _ U1.drew (ra.all (p1.trans fD)) (rb.all (p1.trans fD)))
            clear n1 h1 HP3 hU1 hcU hc ra rb b1 o1
            go_still_tail 31, (by kernel_rfl)
            go_wp2_with (go_at_call 19; ((with_reducible refine HS.out.mono ?_); rintro e u6 ⟨rfl, f6⟩))
            go_ret
            exact ⟨rfl, F5.trans (fD.trans f6)⟩
          · have HP3 : Hid (∀ x, x = (⟨(91 :: (s ++ 44 :: (s ++ [93]))).toArray⟩ : ByteArray) → Calls Tryz.prog 17 #[.string x] wr fun e w' => ∃ v, e = .returned (.tuple #[v, .int .i64 91]) ∧ RAt (All w') w' Jv.nul v ∧ Fr NoB wr w') := Lib.hid (fun x hx => by
              subst hx
              have := HP2.out wr F4
              rwa [if_neg hL, if_neg hd] at this)
            clear HP2
            go_upto_region 15 with (first | (go_at_call 17; ((with_reducible refine (HP3.out _ Hcat.out).mono ?_); rintro e u5 ⟨x1, rfl, h1, f5⟩; obtain ⟨x10, x11, x12, x13, x14, rfl, o1⟩ := h1.form; have n1 := Blk.new u5 25 zj)) | (refine wpList_store_row rfl 25 _ _ rfl u5.heap.size #[x10, x11, x12, x13, x14] rfl rfl 25 zj n1 size_json rfl o1 ?_))
            obtain ⟨p1, b1⟩ := put_row u5 x10 x11 x12 x13 x14
            generalize hU1 : (u5.alloc (.cells zj 25)).setRow u5.heap.size #[x10, x11, x12, x13, x14] = U1 at *
            clear n1 h1 HP3 hU1
            go_quiet (fail)
            go_wp2_with fail
            go_ret
            exact ⟨rfl, (F4.trans (f5.trans p1)).drewN _⟩
  · have hnz := text_not hz
    clear HTt HTu HP hz
    rcases hnz with ⟨hty, hck⟩ | ⟨hty, hck⟩
    · rw [hty] at HTa
      simp only at HTa
      generalize checkP 0 j = q at *
      have hqi : ¬ (q : Int) = 0 := by omega
      go_enter Tryz.func8, Tryz.ntmps8
      go_wp2_with (first | (rw [HW.out]; refine wpList_load_row rfl 25 _ rfl w.heap.size rfl 25 _ _ _ g0 Tryz.underlying25 rfl size_json ?_) | (go_at_call 15; ((with_reducible refine (HTa.out _ f0).mono ?_); rintro e u1 ⟨rfl, f1⟩; have F1 := f0.trans f1)) | (go_at_call 12; ((with_reducible refine (HFx.out _ F1).mono ?_); rintro e u2 ⟨rfl, f2⟩; have F2 := F1.trans f2; have g2 := (f1.trans f2).blk g0 (fun e => e); obtain ⟨c20, c21, c22, c23, c24⟩ := g2.five)) | (go_at_call 13; ((with_reducible refine (HCa.out _ F2).mono ?_); rintro e u3 ⟨rfl, f3⟩)))
      go_ret
      exact ⟨rfl, F2.trans f3⟩
    · rw [hty] at HTa
      simp only at HTa
      rw [hck] at HCa
      clear hck hty
      go_enter Tryz.func8, Tryz.ntmps8
      go_wp2_with (first | (rw [HW.out]; refine wpList_load_row rfl 25 _ rfl w.heap.size rfl 25 _ _ _ g0 Tryz.underlying25 rfl size_json ?_) | (go_at_call 15; ((with_reducible refine (HTa.out _ f0).mono ?_); rintro e u1 ⟨rfl, f1⟩; have F1 := f0.trans f1)) | (go_at_call 12; ((with_reducible refine (HFx.out _ F1).mono ?_); rintro e u2 ⟨rfl, f2⟩; have F2 := F1.trans f2; have g2 := (f1.trans f2).blk g0 (fun e => e); obtain ⟨c20, c21, c22, c23, c24⟩ := g2.five; have tok1 : True := trivial)) | (go_at_call 13; (have tok2 := tok1; clear tok1; (with_reducible refine (HCa.out _ F2).mono ?_); rintro e u3 ⟨rfl, f3⟩; have F3 := F2.trans f3; obtain ⟨c30, c31, c32, c33, c34⟩ := (f3.blk g2 (fun e => e)).five)) | (go_at_call 13; ((with_reducible refine (HCa.out _ F3).mono ?_); rintro e u4 ⟨rfl, f4⟩)))
      go_ret
      exact ⟨rfl, F3.trans f4⟩
end Go.Proofs.YteeijmfnjcddmaaGreatDoor
