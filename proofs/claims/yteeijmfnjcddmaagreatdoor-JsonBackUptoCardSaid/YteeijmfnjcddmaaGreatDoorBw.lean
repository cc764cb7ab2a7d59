/- JsonBack: the walk. (Printed by gen_bw.py.) -/
import Derived.Test.YteeijmfnjcddmaaGreatDoorAl
import Derived.Test.YteeijmfnjcddmaaGreatDoorPe
namespace Go.Proofs.YteeijmfnjcddmaaGreatDoor
open Go.RowKit

set_option maxRecDepth 100000 in
set_option maxHeartbeats 6400000 in
theorem back_walk (j : Jv) (s : Bs) (a0 a1 a2 a3 a4 : Value) (w : World) (hat : RAt (All w) w j (.agg #[a0, a1, a2, a3, a4])) (hs : szJ j ≤ 1048576) (hsl : s.length ≤ 1048576)
    (hT : ∀ u (j' : Jv) v', Fr NoB w u → RAt (All u) u j' v' → szJ j' ≤ 8388608 → Calls Tryz.prog 15 #[v'] u fun e w' => e = .returned (.tuple #[sV (textT j').1, .int .i64 ((textT j').2 : Int)]) ∧ Fr NoB u w')
    (hC : ∀ u (j' : Jv) v', Fr NoB w u → RAt (All u) u j' v' → szJ j' ≤ 8388608 → Calls Tryz.prog 13 #[v'] u fun e w' => e = .returned (.int .i64 (checkP 0 j' : Int)) ∧ Fr NoB u w')
    (hP : ∀ u (t : Bs), Fr NoB w u → t.length ≤ 1048576 → Calls Tryz.prog 17 #[.string ⟨t.toArray⟩] u (ParO (parseP t) u)) (hFx : ∀ u, Fr NoB w u → Calls Tryz.prog 12 #[] u fun e w' => e = .returned (.bool true) ∧ Fr NoB u w') :
    Calls Tryz.prog 7 #[.agg #[a0, a1, a2, a3, a4], .string ⟨s.toArray⟩] w fun e w' => e = .returned (.bool true) ∧ Fr NoB w w' := by
  have f0 : Fr NoB w (w.alloc (.cells #[a0, a1, a2, a3, a4] 25)) := (Fr.refl _ _).alloc _
  have g0 := Blk.new w 25 #[a0, a1, a2, a3, a4]
  generalize hW : w.alloc (.cells #[a0, a1, a2, a3, a4] 25) = W at f0 g0
  have HW := Lib.hid hW
  have HTa : Hid (∀ u, Fr NoB w u → Calls Tryz.prog 15 #[.agg #[a0, a1, a2, a3, a4]] u fun e w' => e = .returned (.tuple #[sV (textT j).1, .int .i64 ((textT j).2 : Int)]) ∧ Fr NoB u w') := Lib.hid (fun u f => hT u j _ f (hat.all f) (by omega))
  have HCa : Hid (∀ u, Fr NoB w u → Calls Tryz.prog 13 #[.agg #[a0, a1, a2, a3, a4]] u fun e w' => e = .returned (.int .i64 (checkP 0 j : Int)) ∧ Fr NoB u w') := Lib.hid (fun u f => hC u j _ f (hat.all f) (by omega))
  have HBX : Hid (∀ u, Fr NoB W u → Blk u w.heap.size 25 #[a0, a1, a2, a3, a4]) := Lib.hid (fun u f => f.blk g0 (fun e => e))
  have HPs : Hid (∀ u, Fr NoB w u → Calls Tryz.prog 17 #[.string ⟨s.toArray⟩] u (ParO (parseP s) u)) := Lib.hid (fun u f => hP u s f hsl)
  have HT := Lib.hid hT
  have HC := Lib.hid hC
  have HP := Lib.hid hP
  have HFx := Lib.hid hFx
  have HAT := Lib.hid hat
  have HSZ := Lib.hid (And.intro hs hsl)
  clear hW hT hC hP hFx hat hs hsl
  go_enter Tryz.func7, Tryz.ntmps7
  go_upto_region 2 with (first | (rw [HW.out]; refine wpList_load_row rfl 25 _ rfl w.heap.size rfl 25 _ _ _ g0 Tryz.underlying25 rfl size_json ?_) | (go_at_call 15; ((with_reducible refine (HTa.out _ f0).mono ?_); rintro e u1 ⟨rfl, f1⟩)))
  have F1 := f0.trans f1
  rcases text_three j with h0 | h0 | h0 | h0
  · obtain ⟨ht, hc, hl⟩ := h0
    have hpj : parseP (layP j) = .ok (sortJ j) := by have := (text_parse j (by rw [ht])).1; rwa [ht] at this
    have htj : textT (sortJ j) = (layP j, 0) := by have := (text_parse j (by rw [ht])).2; rwa [ht] at this
    have HPj : Hid (∀ u, Fr NoB w u → Calls Tryz.prog 17 #[.string ⟨(layP j).toArray⟩] u fun e w' => ∃ v, e = .returned (.tuple #[v, .int .i64 0]) ∧ RAt (All w') w' (sortJ j) v ∧ Fr NoB u w') := Lib.hid (fun u f => by have := HP.out u (layP j) f (by omega); rw [hpj] at this; exact this)
    have hszS : szJ (sortJ j) ≤ 8388608 := by have := parse_ok hpj; omega
    have HTj : Hid (∀ u r, Fr NoB w u → RAt (All u) u (sortJ j) r → Calls Tryz.prog 15 #[r] u fun e w' => e = .returned (.tuple #[sV (layP j), .int .i64 0]) ∧ Fr NoB u w') := Lib.hid (fun u r f hr => by
      have := HT.out u (sortJ j) r f hr hszS
      rw [htj] at this
      exact this)
    have hokj := check_form j 0 hc
    have HAj : Hid (∀ u, Fr NoB w u → Calls Tryz.prog 25 #[.agg #[a0, a1, a2, a3, a4]] u fun e w' => ∃ r, e = .returned r ∧ RAt (All w') w' (sortJ j) r ∧ Fr NoB u w') := Lib.hid (fun u f => rAll_any j _ u (HAT.out.all f) hokj (by have := HSZ.out.1; omega))
    rw [ht]
    rw [hc] at HCa
    clear ht hpj htj hokj hc hl hszS
    generalize layP j = t at *
    generalize sortJ j = jx at *
    go_upto_region 4 with (first | (go_at_call 12; ((with_reducible refine (HFx.out _ F1).mono ?_); rintro e u2 ⟨rfl, f2⟩; have F2 := F1.trans f2; obtain ⟨e0, e1, e2, e3, e4⟩ := (HBX.out _ (f1.trans f2)).five)) | (go_at_call 13; ((with_reducible refine (HCa.out _ F2).mono ?_); rintro e u3 ⟨rfl, f3⟩)))
    have F3 := F2.trans f3
    go_upto_region 6 with (first | (go_at_call 17; ((with_reducible refine (HPj.out _ F3).mono ?_); rintro e u4 ⟨x, rfl, hx, f4⟩; obtain ⟨x0, x1, x2, x3, x4, rfl, ox⟩ := hx.form; have n4 := Blk.new u4 25 zj)) | (refine wpList_store_row rfl 25 _ _ rfl u4.heap.size #[x0, x1, x2, x3, x4] rfl rfl 25 zj n4 size_json rfl ox ?_))
    obtain ⟨p4, b4⟩ := put_row u4 x0 x1 x2 x3 x4
    have G4 := f1.trans (f2.trans (f3.trans (f4.trans p4)))
    have F4 := f0.trans G4
    have hb4 := HBX.out _ G4
    generalize hU : (u4.alloc (.cells zj 25)).setRow u4.heap.size #[x0, x1, x2, x3, x4] = U at *
    have HX : Hid (∀ w', Fr NoB U w' → w'.cell? ⟨w.heap.size, 0, none⟩ = some a0 ∧ w'.cell? ⟨w.heap.size, 1, none⟩ = some a1 ∧ w'.cell? ⟨w.heap.size, 2, none⟩ = some a2 ∧ w'.cell? ⟨w.heap.size, 3, none⟩ = some a3 ∧ w'.cell? ⟨w.heap.size, 4, none⟩ = some a4 ∧ w'.cell? ⟨u4.heap.size, 0, none⟩ = some x0 ∧ w'.cell? ⟨u4.heap.size, 1, none⟩ = some x1 ∧ w'.cell? ⟨u4.heap.size, 2, none⟩ = some x2 ∧ w'.cell? ⟨u4.heap.size, 3, none⟩ = some x3 ∧ w'.cell? ⟨u4.heap.size, 4, none⟩ = some x4) := Lib.hid (fun w' f => by
      obtain ⟨q0, q1, q2, q3, q4⟩ := (f.blk hb4 (fun e => e)).five
      obtain ⟨r0, r1, r2, r3, r4⟩ := (f.blk b4 (fun e => e)).five
      exact ⟨q0, q1, q2, q3, q4, r0, r1, r2, r3, r4⟩)
    have HBU : Hid (∀ u, Fr NoB U u → Blk u u4.heap.size 25 #[x0, x1, x2, x3, x4]) := Lib.hid (fun u f => f.blk b4 (fun e => e))
    have HXA : Hid (∀ u, Fr NoB U u → RAt (All u) u jx (.agg #[x0, x1, x2, x3, x4])) := Lib.hid (fun u f => hx.all (p4.trans f))
    have fU := Fr.refl NoB U
    obtain ⟨c0, c1, c2, c3, c4, d0, d1, d2, d3, d4⟩ := HX.out _ fU
    clear hx b4 hb4 n4 hU
    go_region_held3 (fun w' => w'.cell? ⟨w.heap.size, 0, none⟩ = some a0 ∧ w'.cell? ⟨w.heap.size, 1, none⟩ = some a1 ∧ w'.cell? ⟨w.heap.size, 2, none⟩ = some a2 ∧ w'.cell? ⟨w.heap.size, 3, none⟩ = some a3 ∧ w'.cell? ⟨w.heap.size, 4, none⟩ = some a4 ∧ w'.cell? ⟨u4.heap.size, 0, none⟩ = some x0 ∧ w'.cell? ⟨u4.heap.size, 1, none⟩ = some x1 ∧ w'.cell? ⟨u4.heap.size, 2, none⟩ = some x2 ∧ w'.cell? ⟨u4.heap.size, 3, none⟩ = some x3 ∧ w'.cell? ⟨u4.heap.size, 4, none⟩ = some x4) (first | go_keep | (exact HX.out _ fd) | (exact HX.out _ fc)) (first | (go_at_call 25; (with_reducible refine (HAj.out _ (F4.trans fU.drew)).mono ?_); rintro e wa ⟨r, rfl, hr, fc'⟩; have fc := fU.drew.trans fc'; obtain ⟨r0, r1, r2, r3, r4, rfl, _⟩ := hr.form) | (go_at_call 19; (with_reducible refine (same_any jx _ _ _ hr (HXA.out _ fc)).mono ?_); rintro e wb ⟨rfl, fd'⟩; have fd := fc.trans fd'))
    have bd := HBU.out _ fd
    clear c0 c1 c2 c3 c4 d0 d1 d2 d3 d4
    go_upto_region 11 with (first | (refine wpList_load_row rfl 25 _ rfl u4.heap.size rfl 25 _ _ _ bd Tryz.underlying25 rfl size_json ?_) | (go_at_call 15; ((with_reducible refine (HTj.out _ _ (F4.trans fd) (HXA.out _ fd)).mono ?_); rintro e we ⟨rfl, fe⟩)))
    have FF := (F4.trans fd).trans fe
    clear HX HXA HBU HTj HAj HPj bd fe fd fc hr
    cases hq : parseP s with
    | error n =>
      have hn := parse_err hq
      have hnb : ((n : Int) != 0) = true := by simp; omega
      have HPe : Hid (∀ u, Fr NoB w u → Calls Tryz.prog 17 #[.string ⟨s.toArray⟩] u fun e w' => ∃ v, e = .returned (.tuple #[v, .int .i64 (n : Int)]) ∧ RAt (All w') w' Jv.nul v ∧ Fr NoB u w') := Lib.hid (fun u f => by have := HPs.out u f; rw [hq] at this; exact this)
      clear hq hn
      go_upto_region 12 with (first | (go_at_call 17; ((with_reducible refine (HPe.out _ FF).mono ?_); rintro e u5 ⟨y, rfl, hy, f5⟩; obtain ⟨y0, y1, y2, y3, y4, rfl, oy⟩ := hy.form; have n5 := Blk.new u5 25 zj)) | (refine wpList_store_row rfl 25 _ _ rfl u5.heap.size #[y0, y1, y2, y3, y4] rfl rfl 25 zj n5 size_json rfl oy ?_))
      obtain ⟨p5, b5⟩ := put_row u5 y0 y1 y2 y3 y4
      have F5 := FF.trans (f5.trans p5)
      have HS : Hid (∀ u, Fr NoB u5 u → Calls Tryz.prog 19 #[.agg #[y0, y1, y2, y3, y4], jV 0 0 [] (.slice none 0 0) (.slice none 0 0)] u fun e w' => e = .returned (.bool true) ∧ Fr NoB u w') := Lib.hid (fun u f => same_any Jv.nul _ _ u (hy.all f) (nul_at _ _))
      clear hy n5
      go_wp2_with (first | (refine wpList_load_row rfl 25 _ rfl u5.heap.size rfl 25 _ _ _ b5 Tryz.underlying25 rfl size_json ?_) | (go_at_call 19; ((with_reducible refine (HS.out _ p5).mono ?_); rintro e u6 ⟨rfl, f6⟩)))
      go_ret
      exact ⟨rfl, F5.trans f6⟩
    | ok x =>
      obtain ⟨hc, hz⟩ := parse_ok hq
      have HPe : Hid (∀ u, Fr NoB w u → Calls Tryz.prog 17 #[.string ⟨s.toArray⟩] u fun e w' => ∃ v, e = .returned (.tuple #[v, .int .i64 0]) ∧ RAt (All w') w' x v ∧ Fr NoB u w') := Lib.hid (fun u f => by have := HPs.out u f; rw [hq] at this; exact this)
      clear hq
      go_upto_region 14 with (first | (go_at_call 17; ((with_reducible refine (HPe.out _ FF).mono ?_); rintro e u5 ⟨y, rfl, hy, f5⟩; obtain ⟨y0, y1, y2, y3, y4, rfl, oy⟩ := hy.form; have n5 := Blk.new u5 25 zj)) | (refine wpList_store_row rfl 25 _ _ rfl u5.heap.size #[y0, y1, y2, y3, y4] rfl rfl 25 zj n5 size_json rfl oy ?_))
      obtain ⟨p5, b5⟩ := put_row u5 y0 y1 y2 y3 y4
      have F5 := FF.trans (f5.trans p5)
      have FF5 := FF.trans f5
      have HTx : Hid (∀ u, Fr NoB u5 u → Calls Tryz.prog 15 #[.agg #[y0, y1, y2, y3, y4]] u fun e w' => e = .returned (.tuple #[sV (textT x).1, .int .i64 ((textT x).2 : Int)]) ∧ Fr NoB u w') := Lib.hid (fun u f => HT.out u x _ (FF5.trans f) (hy.all f) (by omega))
      have HCx : Hid (∀ u, Fr NoB u5 u → Calls Tryz.prog 13 #[.agg #[y0, y1, y2, y3, y4]] u fun e w' => e = .returned (.int .i64 (checkP 0 x : Int)) ∧ Fr NoB u w') := Lib.hid (fun u f => HC.out u x _ (FF5.trans f) (hy.all f) (by omega))
      have HY := Lib.hid hy
      have HZ := Lib.hid hz
      rcases text_three x with ⟨ht, _, hl⟩ | ⟨ht, _⟩ | ⟨_, h⟩ | ⟨_, h⟩
      · rw [ht] at HTx
        have hpx : parseP (layP x) = .ok (sortJ x) := by have := (text_parse x (by rw [ht])).1; rwa [ht] at this
        have HPx : Hid (∀ u, Fr NoB u5 u → Calls Tryz.prog 17 #[.string ⟨(layP x).toArray⟩] u fun e w' => ∃ v, e = .returned (.tuple #[v, .int .i64 0]) ∧ RAt (All w') w' (sortJ x) v ∧ Fr NoB u w') := Lib.hid (fun u f => by have := HP.out u (layP x) (FF5.trans f) (by omega); rw [hpx] at this; exact this)
        have hokx := check_form x 0 hc
        have HA : Hid (∀ u, Fr NoB u5 u → Calls Tryz.prog 25 #[.agg #[y0, y1, y2, y3, y4]] u fun e w' => ∃ r, e = .returned r ∧ RAt (All w') w' (sortJ x) r ∧ Fr NoB u w') := Lib.hid (fun u f => rAll_any x _ u (hy.all f) hokx (by have := HZ.out; omega))
        clear ht hpx hokx hc hz hl hy n5
        generalize layP x = t at *
        generalize sortJ x = jx at *
        go_upto_region 17 with (first | (refine wpList_load_row rfl 25 _ rfl u5.heap.size rfl 25 _ _ _ b5 Tryz.underlying25 rfl size_json ?_) | (go_at_call 15; ((with_reducible refine (HTx.out _ p5).mono ?_); rintro e u6 ⟨rfl, f6⟩)))
        go_upto_region 18 with (first | (go_at_call 17; ((with_reducible refine (HPx.out _ (p5.trans f6)).mono ?_); rintro e u7 ⟨z, rfl, hzz, f7⟩; obtain ⟨z0, z1, z2, z3, z4, rfl, oz⟩ := hzz.form; have n7 := Blk.new u7 25 zj)) | (refine wpList_store_row rfl 25 _ _ rfl u7.heap.size #[z0, z1, z2, z3, z4] rfl rfl 25 zj n7 size_json rfl oz ?_))
        obtain ⟨p7, b7⟩ := put_row u7 z0 z1 z2 z3 z4
        have b57 := (f6.trans (f7.trans p7)).blk b5 (fun e => e)
        have F7 := F5.trans (f6.trans (f7.trans p7))
        have G7 := p5.trans (f6.trans (f7.trans p7))
        generalize hU : (u7.alloc (.cells zj 25)).setRow u7.heap.size #[z0, z1, z2, z3, z4] = U at *
        have HX : Hid (∀ w', Fr NoB U w' → w'.cell? ⟨u5.heap.size, 0, none⟩ = some y0 ∧ w'.cell? ⟨u5.heap.size, 1, none⟩ = some y1 ∧ w'.cell? ⟨u5.heap.size, 2, none⟩ = some y2 ∧ w'.cell? ⟨u5.heap.size, 3, none⟩ = some y3 ∧ w'.cell? ⟨u5.heap.size, 4, none⟩ = some y4 ∧ w'.cell? ⟨u7.heap.size, 0, none⟩ = some z0 ∧ w'.cell? ⟨u7.heap.size, 1, none⟩ = some z1 ∧ w'.cell? ⟨u7.heap.size, 2, none⟩ = some z2 ∧ w'.cell? ⟨u7.heap.size, 3, none⟩ = some z3 ∧ w'.cell? ⟨u7.heap.size, 4, none⟩ = some z4) := Lib.hid (fun w' f => by
          obtain ⟨q0, q1, q2, q3, q4⟩ := (f.blk b57 (fun e => e)).five
          obtain ⟨r0, r1, r2, r3, r4⟩ := (f.blk b7 (fun e => e)).five
          exact ⟨q0, q1, q2, q3, q4, r0, r1, r2, r3, r4⟩)
        have HSA : Hid (∀ w' r, Fr NoB U w' → RAt (All w') w' jx r → Calls Tryz.prog 19 #[r, .agg #[z0, z1, z2, z3, z4]] w' fun e w'' => e = .returned (.bool true) ∧ Fr NoB w' w'') := Lib.hid (fun w' r f hr => same_any jx _ _ w' hr (hzz.all (p7.trans f)))
        have fU := Fr.refl NoB U
        obtain ⟨c0, c1, c2, c3, c4, d0, d1, d2, d3, d4⟩ := HX.out _ fU
        clear hzz b5 b7 b57 n7 hU
        go_region_held3 (fun w' => w'.cell? ⟨u5.heap.size, 0, none⟩ = some y0 ∧ w'.cell? ⟨u5.heap.size, 1, none⟩ = some y1 ∧ w'.cell? ⟨u5.heap.size, 2, none⟩ = some y2 ∧ w'.cell? ⟨u5.heap.size, 3, none⟩ = some y3 ∧ w'.cell? ⟨u5.heap.size, 4, none⟩ = some y4 ∧ w'.cell? ⟨u7.heap.size, 0, none⟩ = some z0 ∧ w'.cell? ⟨u7.heap.size, 1, none⟩ = some z1 ∧ w'.cell? ⟨u7.heap.size, 2, none⟩ = some z2 ∧ w'.cell? ⟨u7.heap.size, 3, none⟩ = some z3 ∧ w'.cell? ⟨u7.heap.size, 4, none⟩ = some z4) (first | go_keep | (exact HX.out _ f9) | (exact HX.out _ f8)) (first | (go_at_call 25; (with_reducible refine (HA.out _ (G7.trans fU.drew)).mono ?_); rintro e w8 ⟨r, rfl, hr, f8'⟩; have f8 := fU.drew.trans f8'; obtain ⟨r0, r1, r2, r3, r4, rfl, _⟩ := hr.form) | (go_at_call 19; (with_reducible refine (HSA.out _ _ f8 hr).mono ?_); rintro e w9 ⟨rfl, f9'⟩; have f9 := f8.trans f9'))
        go_wp2_with fail
        go_ret
        exact ⟨rfl, F7.trans f9⟩
      · rw [ht] at HTx
        rw [hc] at HCx
        clear ht hc hz hy n5
        go_wp2_with (first | (go_at_call 15; ((with_reducible refine (HTx.out _ p5).mono ?_); rintro e u6 ⟨rfl, f6⟩; have b6 := f6.blk b5 (fun e => e))) | (refine wpList_load_row rfl 25 _ rfl u5.heap.size rfl 25 _ _ _ b6 Tryz.underlying25 rfl size_json ?_) | (refine wpList_load_row rfl 25 _ rfl u5.heap.size rfl 25 _ _ _ b5 Tryz.underlying25 rfl size_json ?_) | (go_at_call 13; ((with_reducible refine (HCx.out _ (p5.trans f6)).mono ?_); rintro e u7 ⟨rfl, f7⟩)))
        go_ret
        exact ⟨rfl, F5.trans (f6.trans f7)⟩
      · omega
      · omega
  · obtain ⟨ht, hc⟩ := h0
    rw [ht]
    rw [hc] at HCa
    clear ht hc
    go_upto_region 4 with (first | (go_at_call 12; ((with_reducible refine (HFx.out _ F1).mono ?_); rintro e u2 ⟨rfl, f2⟩; have F2 := F1.trans f2; obtain ⟨e0, e1, e2, e3, e4⟩ := (HBX.out _ (f1.trans f2)).five)) | (go_at_call 13; ((with_reducible refine (HCa.out _ F2).mono ?_); rintro e u3 ⟨rfl, f3⟩)))
    have FF := F2.trans f3
    clear g0
    go_upto_region 11 with fail
    cases hq : parseP s with
    | error n =>
      have hn := parse_err hq
      have hnb : ((n : Int) != 0) = true := by simp; omega
      have HPe : Hid (∀ u, Fr NoB w u → Calls Tryz.prog 17 #[.string ⟨s.toArray⟩] u fun e w' => ∃ v, e = .returned (.tuple #[v, .int .i64 (n : Int)]) ∧ RAt (All w') w' Jv.nul v ∧ Fr NoB u w') := Lib.hid (fun u f => by have := HPs.out u f; rw [hq] at this; exact this)
      clear hq hn
      go_upto_region 12 with (first | (go_at_call 17; ((with_reducible refine (HPe.out _ FF).mono ?_); rintro e u5 ⟨y, rfl, hy, f5⟩; obtain ⟨y0, y1, y2, y3, y4, rfl, oy⟩ := hy.form; have n5 := Blk.new u5 25 zj)) | (refine wpList_store_row rfl 25 _ _ rfl u5.heap.size #[y0, y1, y2, y3, y4] rfl rfl 25 zj n5 size_json rfl oy ?_))
      obtain ⟨p5, b5⟩ := put_row u5 y0 y1 y2 y3 y4
      have F5 := FF.trans (f5.trans p5)
      have HS : Hid (∀ u, Fr NoB u5 u → Calls Tryz.prog 19 #[.agg #[y0, y1, y2, y3, y4], jV 0 0 [] (.slice none 0 0) (.slice none 0 0)] u fun e w' => e = .returned (.bool true) ∧ Fr NoB u w') := Lib.hid (fun u f => same_any Jv.nul _ _ u (hy.all f) (nul_at _ _))
      clear hy n5
      go_wp2_with (first | (refine wpList_load_row rfl 25 _ rfl u5.heap.size rfl 25 _ _ _ b5 Tryz.underlying25 rfl size_json ?_) | (go_at_call 19; ((with_reducible refine (HS.out _ p5).mono ?_); rintro e u6 ⟨rfl, f6⟩)))
      go_ret
      exact ⟨rfl, F5.trans f6⟩
    | ok x =>
      obtain ⟨hc, hz⟩ := parse_ok hq
      have HPe : Hid (∀ u, Fr NoB w u → Calls Tryz.prog 17 #[.string ⟨s.toArray⟩] u fun e w' => ∃ v, e = .returned (.tuple #[v, .int .i64 0]) ∧ RAt (All w') w' x v ∧ Fr NoB u w') := Lib.hid (fun u f => by have := HPs.out u f; rw [hq] at this; exact this)
      clear hq
      go_upto_region 14 with (first | (go_at_call 17; ((with_reducible refine (HPe.out _ FF).mono ?_); rintro e u5 ⟨y, rfl, hy, f5⟩; obtain ⟨y0, y1, y2, y3, y4, rfl, oy⟩ := hy.form; have n5 := Blk.new u5 25 zj)) | (refine wpList_store_row rfl 25 _ _ rfl u5.heap.size #[y0, y1, y2, y3, y4] rfl rfl 25 zj n5 size_json rfl oy ?_))
      obtain ⟨p5, b5⟩ := put_row u5 y0 y1 y2 y3 y4
      have F5 := FF.trans (f5.trans p5)
      have FF5 := FF.trans f5
      have HTx : Hid (∀ u, Fr NoB u5 u → Calls Tryz.prog 15 #[.agg #[y0, y1, y2, y3, y4]] u fun e w' => e = .returned (.tuple #[sV (textT x).1, .int .i64 ((textT x).2 : Int)]) ∧ Fr NoB u w') := Lib.hid (fun u f => HT.out u x _ (FF5.trans f) (hy.all f) (by omega))
      have HCx : Hid (∀ u, Fr NoB u5 u → Calls Tryz.prog 13 #[.agg #[y0, y1, y2, y3, y4]] u fun e w' => e = .returned (.int .i64 (checkP 0 x : Int)) ∧ Fr NoB u w') := Lib.hid (fun u f => HC.out u x _ (FF5.trans f) (hy.all f) (by omega))
      have HY := Lib.hid hy
      have HZ := Lib.hid hz
      rcases text_three x with ⟨ht, _, hl⟩ | ⟨ht, _⟩ | ⟨_, h⟩ | ⟨_, h⟩
      · rw [ht] at HTx
        have hpx : parseP (layP x) = .ok (sortJ x) := by have := (text_parse x (by rw [ht])).1; rwa [ht] at this
        have HPx : Hid (∀ u, Fr NoB u5 u → Calls Tryz.prog 17 #[.string ⟨(layP x).toArray⟩] u fun e w' => ∃ v, e = .returned (.tuple #[v, .int .i64 0]) ∧ RAt (All w') w' (sortJ x) v ∧ Fr NoB u w') := Lib.hid (fun u f => by have := HP.out u (layP x) (FF5.trans f) (by omega); rw [hpx] at this; exact this)
        have hokx := check_form x 0 hc
        have HA : Hid (∀ u, Fr NoB u5 u → Calls Tryz.prog 25 #[.agg #[y0, y1, y2, y3, y4]] u fun e w' => ∃ r, e = .returned r ∧ RAt (All w') w' (sortJ x) r ∧ Fr NoB u w') := Lib.hid (fun u f => rAll_any x _ u (hy.all f) hokx (by have := HZ.out; omega))
        clear ht hpx hokx hc hz hl hy n5
        generalize layP x = t at *
        generalize sortJ x = jx at *
        go_upto_region 17 with (first | (refine wpList_load_row rfl 25 _ rfl u5.heap.size rfl 25 _ _ _ b5 Tryz.underlying25 rfl size_json ?_) | (go_at_call 15; ((with_reducible refine (HTx.out _ p5).mono ?_); rintro e u6 ⟨rfl, f6⟩)))
        go_upto_region 18 with (first | (go_at_call 17; ((with_reducible refine (HPx.out _ (p5.trans f6)).mono ?_); rintro e u7 ⟨z, rfl, hzz, f7⟩; obtain ⟨z0, z1, z2, z3, z4, rfl, oz⟩ := hzz.form; have n7 := Blk.new u7 25 zj)) | (refine wpList_store_row rfl 25 _ _ rfl u7.heap.size #[z0, z1, z2, z3, z4] rfl rfl 25 zj n7 size_json rfl oz ?_))
        obtain ⟨p7, b7⟩ := put_row u7 z0 z1 z2 z3 z4
        have b57 := (f6.trans (f7.trans p7)).blk b5 (fun e => e)
        have F7 := F5.trans (f6.trans (f7.trans p7))
        have G7 := p5.trans (f6.trans (f7.trans p7))
        generalize hU : (u7.alloc (.cells zj 25)).setRow u7.heap.size #[z0, z1, z2, z3, z4] = U at *
        have HX : Hid (∀ w', Fr NoB U w' → w'.cell? ⟨u5.heap.size, 0, none⟩ = some y0 ∧ w'.cell? ⟨u5.heap.size, 1, none⟩ = some y1 ∧ w'.cell? ⟨u5.heap.size, 2, none⟩ = some y2 ∧ w'.cell? ⟨u5.heap.size, 3, none⟩ = some y3 ∧ w'.cell? ⟨u5.heap.size, 4, none⟩ = some y4 ∧ w'.cell? ⟨u7.heap.size, 0, none⟩ = some z0 ∧ w'.cell? ⟨u7.heap.size, 1, none⟩ = some z1 ∧ w'.cell? ⟨u7.heap.size, 2, none⟩ = some z2 ∧ w'.cell? ⟨u7.heap.size, 3, none⟩ = some z3 ∧ w'.cell? ⟨u7.heap.size, 4, none⟩ = some z4) := Lib.hid (fun w' f => by
          obtain ⟨q0, q1, q2, q3, q4⟩ := (f.blk b57 (fun e => e)).five
          obtain ⟨r0, r1, r2, r3, r4⟩ := (f.blk b7 (fun e => e)).five
          exact ⟨q0, q1, q2, q3, q4, r0, r1, r2, r3, r4⟩)
        have HSA : Hid (∀ w' r, Fr NoB U w' → RAt (All w') w' jx r → Calls Tryz.prog 19 #[r, .agg #[z0, z1, z2, z3, z4]] w' fun e w'' => e = .returned (.bool true) ∧ Fr NoB w' w'') := Lib.hid (fun w' r f hr => same_any jx _ _ w' hr (hzz.all (p7.trans f)))
        have fU := Fr.refl NoB U
        obtain ⟨c0, c1, c2, c3, c4, d0, d1, d2, d3, d4⟩ := HX.out _ fU
        clear hzz b5 b7 b57 n7 hU
        go_region_held3 (fun w' => w'.cell? ⟨u5.heap.size, 0, none⟩ = some y0 ∧ w'.cell? ⟨u5.heap.size, 1, none⟩ = some y1 ∧ w'.cell? ⟨u5.heap.size, 2, none⟩ = some y2 ∧ w'.cell? ⟨u5.heap.size, 3, none⟩ = some y3 ∧ w'.cell? ⟨u5.heap.size, 4, none⟩ = some y4 ∧ w'.cell? ⟨u7.heap.size, 0, none⟩ = some z0 ∧ w'.cell? ⟨u7.heap.size, 1, none⟩ = some z1 ∧ w'.cell? ⟨u7.heap.size, 2, none⟩ = some z2 ∧ w'.cell? ⟨u7.heap.size, 3, none⟩ = some z3 ∧ w'.cell? ⟨u7.heap.size, 4, none⟩ = some z4) (first | go_keep | (exact HX.out _ f9) | (exact HX.out _ f8)) (first | (go_at_call 25; (with_reducible refine (HA.out _ (G7.trans fU.drew)).mono ?_); rintro e w8 ⟨r, rfl, hr, f8'⟩; have f8 := fU.drew.trans f8'; obtain ⟨r0, r1, r2, r3, r4, rfl, _⟩ := hr.form) | (go_at_call 19; (with_reducible refine (HSA.out _ _ f8 hr).mono ?_); rintro e w9 ⟨rfl, f9'⟩; have f9 := f8.trans f9'))
        go_wp2_with fail
        go_ret
        exact ⟨rfl, F7.trans f9⟩
      · rw [ht] at HTx
        rw [hc] at HCx
        clear ht hc hz hy n5
        go_wp2_with (first | (go_at_call 15; ((with_reducible refine (HTx.out _ p5).mono ?_); rintro e u6 ⟨rfl, f6⟩; have b6 := f6.blk b5 (fun e => e))) | (refine wpList_load_row rfl 25 _ rfl u5.heap.size rfl 25 _ _ _ b6 Tryz.underlying25 rfl size_json ?_) | (refine wpList_load_row rfl 25 _ rfl u5.heap.size rfl 25 _ _ _ b5 Tryz.underlying25 rfl size_json ?_) | (go_at_call 13; ((with_reducible refine (HCx.out _ (p5.trans f6)).mono ?_); rintro e u7 ⟨rfl, f7⟩)))
        go_ret
        exact ⟨rfl, F5.trans (f6.trans f7)⟩
      · omega
      · omega
  · obtain ⟨ht, hc⟩ := h0
    rw [ht]
    rw [hc] at HCa
    clear ht hc
    go_upto_region 4 with (first | (go_at_call 12; ((with_reducible refine (HFx.out _ F1).mono ?_); rintro e u2 ⟨rfl, f2⟩; have F2 := F1.trans f2; obtain ⟨e0, e1, e2, e3, e4⟩ := (HBX.out _ (f1.trans f2)).five)) | (go_at_call 13; ((with_reducible refine (HCa.out _ F2).mono ?_); rintro e u3 ⟨rfl, f3⟩)))
    have FF := F2.trans f3
    clear g0
    go_upto_region 11 with fail
    cases hq : parseP s with
    | error n =>
      have hn := parse_err hq
      have hnb : ((n : Int) != 0) = true := by simp; omega
      have HPe : Hid (∀ u, Fr NoB w u → Calls Tryz.prog 17 #[.string ⟨s.toArray⟩] u fun e w' => ∃ v, e = .returned (.tuple #[v, .int .i64 (n : Int)]) ∧ RAt (All w') w' Jv.nul v ∧ Fr NoB u w') := Lib.hid (fun u f => by have := HPs.out u f; rw [hq] at this; exact this)
      clear hq hn
      go_upto_region 12 with (first | (go_at_call 17; ((with_reducible refine (HPe.out _ FF).mono ?_); rintro e u5 ⟨y, rfl, hy, f5⟩; obtain ⟨y0, y1, y2, y3, y4, rfl, oy⟩ := hy.form; have n5 := Blk.new u5 25 zj)) | (refine wpList_store_row rfl 25 _ _ rfl u5.heap.size #[y0, y1, y2, y3, y4] rfl rfl 25 zj n5 size_json rfl oy ?_))
      obtain ⟨p5, b5⟩ := put_row u5 y0 y1 y2 y3 y4
      have F5 := FF.trans (f5.trans p5)
      have HS : Hid (∀ u, Fr NoB u5 u → Calls Tryz.prog 19 #[.agg #[y0, y1, y2, y3, y4], jV 0 0 [] (.slice none 0 0) (.slice none 0 0)] u fun e w' => e = .returned (.bool true) ∧ Fr NoB u w') := Lib.hid (fun u f => same_any Jv.nul _ _ u (hy.all f) (nul_at _ _))
      clear hy n5
      go_wp2_with (first | (refine wpList_load_row rfl 25 _ rfl u5.heap.size rfl 25 _ _ _ b5 Tryz.underlying25 rfl size_json ?_) | (go_at_call 19; ((with_reducible refine (HS.out _ p5).mono ?_); rintro e u6 ⟨rfl, f6⟩)))
      go_ret
      exact ⟨rfl, F5.trans f6⟩
    | ok x =>
      obtain ⟨hc, hz⟩ := parse_ok hq
      have HPe : Hid (∀ u, Fr NoB w u → Calls Tryz.prog 17 #[.string ⟨s.toArray⟩] u fun e w' => ∃ v, e = .returned (.tuple #[v, .int .i64 0]) ∧ RAt (All w') w' x v ∧ Fr NoB u w') := Lib.hid (fun u f => by have := HPs.out u f; rw [hq] at this; exact this)
      clear hq
      go_upto_region 14 with (first | (go_at_call 17; ((with_reducible refine (HPe.out _ FF).mono ?_); rintro e u5 ⟨y, rfl, hy, f5⟩; obtain ⟨y0, y1, y2, y3, y4, rfl, oy⟩ := hy.form; have n5 := Blk.new u5 25 zj)) | (refine wpList_store_row rfl 25 _ _ rfl u5.heap.size #[y0, y1, y2, y3, y4] rfl rfl 25 zj n5 size_json rfl oy ?_))
      obtain ⟨p5, b5⟩ := put_row u5 y0 y1 y2 y3 y4
      have F5 := FF.trans (f5.trans p5)
      have FF5 := FF.trans f5
      have HTx : Hid (∀ u, Fr NoB u5 u → Calls Tryz.prog 15 #[.agg #[y0, y1, y2, y3, y4]] u fun e w' => e = .returned (.tuple #[sV (textT x).1, .int .i64 ((textT x).2 : Int)]) ∧ Fr NoB u w') := Lib.hid (fun u f => HT.out u x _ (FF5.trans f) (hy.all f) (by omega))
      have HCx : Hid (∀ u, Fr NoB u5 u → Calls Tryz.prog 13 #[.agg #[y0, y1, y2, y3, y4]] u fun e w' => e = .returned (.int .i64 (checkP 0 x : Int)) ∧ Fr NoB u w') := Lib.hid (fun u f => HC.out u x _ (FF5.trans f) (hy.all f) (by omega))
      have HY := Lib.hid hy
      have HZ := Lib.hid hz
      rcases text_three x with ⟨ht, _, hl⟩ | ⟨ht, _⟩ | ⟨_, h⟩ | ⟨_, h⟩
      · rw [ht] at HTx
        have hpx : parseP (layP x) = .ok (sortJ x) := by have := (text_parse x (by rw [ht])).1; rwa [ht] at this
        have HPx : Hid (∀ u, Fr NoB u5 u → Calls Tryz.prog 17 #[.string ⟨(layP x).toArray⟩] u fun e w' => ∃ v, e = .returned (.tuple #[v, .int .i64 0]) ∧ RAt (All w') w' (sortJ x) v ∧ Fr NoB u w') := Lib.hid (fun u f => by have := HP.out u (layP x) (FF5.trans f) (by omega); rw [hpx] at this; exact this)
        have hokx := check_form x 0 hc
        have HA : Hid (∀ u, Fr NoB u5 u → Calls Tryz.prog 25 #[.agg #[y0, y1, y2, y3, y4]] u fun e w' => ∃ r, e = .returned r ∧ RAt (All w') w' (sortJ x) r ∧ Fr NoB u w') := Lib.hid (fun u f => rAll_any x _ u (hy.all f) hokx (by have := HZ.out; omega))
        clear ht hpx hokx hc hz hl hy n5
        generalize layP x = t at *
        generalize sortJ x = jx at *
        go_upto_region 17 with (first | (refine wpList_load_row rfl 25 _ rfl u5.heap.size rfl 25 _ _ _ b5 Tryz.underlying25 rfl size_json ?_) | (go_at_call 15; ((with_reducible refine (HTx.out _ p5).mono ?_); rintro e u6 ⟨rfl, f6⟩)))
        go_upto_region 18 with (first | (go_at_call 17; ((with_reducible refine (HPx.out _ (p5.trans f6)).mono ?_); rintro e u7 ⟨z, rfl, hzz, f7⟩; obtain ⟨z0, z1, z2, z3, z4, rfl, oz⟩ := hzz.form; have n7 := Blk.new u7 25 zj)) | (refine wpList_store_row rfl 25 _ _ rfl u7.heap.size #[z0, z1, z2, z3, z4] rfl rfl 25 zj n7 size_json rfl oz ?_))
        obtain ⟨p7, b7⟩ := put_row u7 z0 z1 z2 z3 z4
        have b57 := (f6.trans (f7.trans p7)).blk b5 (fun e => e)
        have F7 := F5.trans (f6.trans (f7.trans p7))
        have G7 := p5.trans (f6.trans (f7.trans p7))
        generalize hU : (u7.alloc (.cells zj 25)).setRow u7.heap.size #[z0, z1, z2, z3, z4] = U at *
        have HX : Hid (∀ w', Fr NoB U w' → w'.cell? ⟨u5.heap.size, 0, none⟩ = some y0 ∧ w'.cell? ⟨u5.heap.size, 1, none⟩ = some y1 ∧ w'.cell? ⟨u5.heap.size, 2, none⟩ = some y2 ∧ w'.cell? ⟨u5.heap.size, 3, none⟩ = some y3 ∧ w'.cell? ⟨u5.heap.size, 4, none⟩ = some y4 ∧ w'.cell? ⟨u7.heap.size, 0, none⟩ = some z0 ∧ w'.cell? ⟨u7.heap.size, 1, none⟩ = some z1 ∧ w'.cell? ⟨u7.heap.size, 2, none⟩ = some z2 ∧ w'.cell? ⟨u7.heap.size, 3, none⟩ = some z3 ∧ w'.cell? ⟨u7.heap.size, 4, none⟩ = some z4) := Lib.hid (fun w' f => by
          obtain ⟨q0, q1, q2, q3, q4⟩ := (f.blk b57 (fun e => e)).five
          obtain ⟨r0, r1, r2, r3, r4⟩ := (f.blk b7 (fun e => e)).five
          exact ⟨q0, q1, q2, q3, q4, r0, r1, r2, r3, r4⟩)
        have HSA : Hid (∀ w' r, Fr NoB U w' → RAt (All w') w' jx r → Calls Tryz.prog 19 #[r, .agg #[z0, z1, z2, z3, z4]] w' fun e w'' => e = .returned (.bool true) ∧ Fr NoB w' w'') := Lib.hid (fun w' r f hr => same_any jx _ _ w' hr (hzz.all (p7.trans f)))
        have fU := Fr.refl NoB U
        obtain ⟨c0, c1, c2, c3, c4, d0, d1, d2, d3, d4⟩ := HX.out _ fU
        clear hzz b5 b7 b57 n7 hU
        go_region_held3 (fun w' => w'.cell? ⟨u5.heap.size, 0, none⟩ = some y0 ∧ w'.cell? ⟨u5.heap.size, 1, none⟩ = some y1 ∧ w'.cell? ⟨u5.heap.size, 2, none⟩ = some y2 ∧ w'.cell? ⟨u5.heap.size, 3, none⟩ = some y3 ∧ w'.cell? ⟨u5.heap.size, 4, none⟩ = some y4 ∧ w'.cell? ⟨u7.heap.size, 0, none⟩ = some z0 ∧ w'.cell? ⟨u7.heap.size, 1, none⟩ = some z1 ∧ w'.cell? ⟨u7.heap.size, 2, none⟩ = some z2 ∧ w'.cell? ⟨u7.heap.size, 3, none⟩ = some z3 ∧ w'.cell? ⟨u7.heap.size, 4, none⟩ = some z4) (first | go_keep | (exact HX.out _ f9) | (exact HX.out _ f8)) (first | (go_at_call 25; (with_reducible refine (HA.out _ (G7.trans fU.drew)).mono ?_); rintro e w8 ⟨r, rfl, hr, f8'⟩; have f8 := fU.drew.trans f8'; obtain ⟨r0, r1, r2, r3, r4, rfl, _⟩ := hr.form) | (go_at_call 19; (with_reducible refine (HSA.out _ _ f8 hr).mono ?_); rintro e w9 ⟨rfl, f9'⟩; have f9 := f8.trans f9'))
        go_wp2_with fail
        go_ret
        exact ⟨rfl, F7.trans f9⟩
      · rw [ht] at HTx
        rw [hc] at HCx
        clear ht hc hz hy n5
        go_wp2_with (first | (go_at_call 15; ((with_reducible refine (HTx.out _ p5).mono ?_); rintro e u6 ⟨rfl, f6⟩; have b6 := f6.blk b5 (fun e => e))) | (refine wpList_load_row rfl 25 _ rfl u5.heap.size rfl 25 _ _ _ b6 Tryz.underlying25 rfl size_json ?_) | (refine wpList_load_row rfl 25 _ rfl u5.heap.size rfl 25 _ _ _ b5 Tryz.underlying25 rfl size_json ?_) | (go_at_call 13; ((with_reducible refine (HCx.out _ (p5.trans f6)).mono ?_); rintro e u7 ⟨rfl, f7⟩)))
        go_ret
        exact ⟨rfl, F5.trans (f6.trans f7)⟩
      · omega
      · omega
  · obtain ⟨ht, hc⟩ := h0
    rw [ht]
    rw [hc] at HCa
    clear ht hc
    go_upto_region 4 with (first | (go_at_call 12; ((with_reducible refine (HFx.out _ F1).mono ?_); rintro e u2 ⟨rfl, f2⟩; have F2 := F1.trans f2; obtain ⟨e0, e1, e2, e3, e4⟩ := (HBX.out _ (f1.trans f2)).five)) | (go_at_call 13; ((with_reducible refine (HCa.out _ F2).mono ?_); rintro e u3 ⟨rfl, f3⟩)))
    have FF := F2.trans f3
    clear g0
    go_upto_region 11 with fail
    cases hq : parseP s with
    | error n =>
      have hn := parse_err hq
      have hnb : ((n : Int) != 0) = true := by simp; omega
      have HPe : Hid (∀ u, Fr NoB w u → Calls Tryz.prog 17 #[.string ⟨s.toArray⟩] u fun e w' => ∃ v, e = .returned (.tuple #[v, .int .i64 (n : Int)]) ∧ RAt (All w') w' Jv.nul v ∧ Fr NoB u w') := Lib.hid (fun u f => by have := HPs.out u f; rw [hq] at this; exact this)
      clear hq hn
      go_upto_region 12 with (first | (go_at_call 17; ((with_reducible refine (HPe.out _ FF).mono ?_); rintro e u5 ⟨y, rfl, hy, f5⟩; obtain ⟨y0, y1, y2, y3, y4, rfl, oy⟩ := hy.form; have n5 := Blk.new u5 25 zj)) | (refine wpList_store_row rfl 25 _ _ rfl u5.heap.size #[y0, y1, y2, y3, y4] rfl rfl 25 zj n5 size_json rfl oy ?_))
      obtain ⟨p5, b5⟩ := put_row u5 y0 y1 y2 y3 y4
      have F5 := FF.trans (f5.trans p5)
      have HS : Hid (∀ u, Fr NoB u5 u → Calls Tryz.prog 19 #[.agg #[y0, y1, y2, y3, y4], jV 0 0 [] (.slice none 0 0) (.slice none 0 0)] u fun e w' => e = .returned (.bool true) ∧ Fr NoB u w') := Lib.hid (fun u f => same_any Jv.nul _ _ u (hy.all f) (nul_at _ _))
      clear hy n5
      go_wp2_with (first | (refine wpList_load_row rfl 25 _ rfl u5.heap.size rfl 25 _ _ _ b5 Tryz.underlying25 rfl size_json ?_) | (go_at_call 19; ((with_reducible refine (HS.out _ p5).mono ?_); rintro e u6 ⟨rfl, f6⟩)))
      go_ret
      exact ⟨rfl, F5.trans f6⟩
    | ok x =>
      obtain ⟨hc, hz⟩ := parse_ok hq
      have HPe : Hid (∀ u, Fr NoB w u → Calls Tryz.prog 17 #[.string ⟨s.toArray⟩] u fun e w' => ∃ v, e = .returned (.tuple #[v, .int .i64 0]) ∧ RAt (All w') w' x v ∧ Fr NoB u w') := Lib.hid (fun u f => by have := HPs.out u f; rw [hq] at this; exact this)
      clear hq
      go_upto_region 14 with (first | (go_at_call 17; ((with_reducible refine (HPe.out _ FF).mono ?_); rintro e u5 ⟨y, rfl, hy, f5⟩; obtain ⟨y0, y1, y2, y3, y4, rfl, oy⟩ := hy.form; have n5 := Blk.new u5 25 zj)) | (refine wpList_store_row rfl 25 _ _ rfl u5.heap.size #[y0, y1, y2, y3, y4] rfl rfl 25 zj n5 size_json rfl oy ?_))
      obtain ⟨p5, b5⟩ := put_row u5 y0 y1 y2 y3 y4
      have F5 := FF.trans (f5.trans p5)
      have FF5 := FF.trans f5
      have HTx : Hid (∀ u, Fr NoB u5 u → Calls Tryz.prog 15 #[.agg #[y0, y1, y2, y3, y4]] u fun e w' => e = .returned (.tuple #[sV (textT x).1, .int .i64 ((textT x).2 : Int)]) ∧ Fr NoB u w') := Lib.hid (fun u f => HT.out u x _ (FF5.trans f) (hy.all f) (by omega))
      have HCx : Hid (∀ u, Fr NoB u5 u → Calls Tryz.prog 13 #[.agg #[y0, y1, y2, y3, y4]] u fun e w' => e = .returned (.int .i64 (checkP 0 x : Int)) ∧ Fr NoB u w') := Lib.hid (fun u f => HC.out u x _ (FF5.trans f) (hy.all f) (by omega))
      have HY := Lib.hid hy
      have HZ := Lib.hid hz
      rcases text_three x with ⟨ht, _, hl⟩ | ⟨ht, _⟩ | ⟨_, h⟩ | ⟨_, h⟩
      · rw [ht] at HTx
        have hpx : parseP (layP x) = .ok (sortJ x) := by have := (text_parse x (by rw [ht])).1; rwa [ht] at this
        have HPx : Hid (∀ u, Fr NoB u5 u → Calls Tryz.prog 17 #[.string ⟨(layP x).toArray⟩] u fun e w' => ∃ v, e = .returned (.tuple #[v, .int .i64 0]) ∧ RAt (All w') w' (sortJ x) v ∧ Fr NoB u w') := Lib.hid (fun u f => by have := HP.out u (layP x) (FF5.trans f) (by omega); rw [hpx] at this; exact this)
        have hokx := check_form x 0 hc
        have HA : Hid (∀ u, Fr NoB u5 u → Calls Tryz.prog 25 #[.agg #[y0, y1, y2, y3, y4]] u fun e w' => ∃ r, e = .returned r ∧ RAt (All w') w' (sortJ x) r ∧ Fr NoB u w') := Lib.hid (fun u f => rAll_any x _ u (hy.all f) hokx (by have := HZ.out; omega))
        clear ht hpx hokx hc hz hl hy n5
        generalize layP x = t at *
        generalize sortJ x = jx at *
        go_upto_region 17 with (first | (refine wpList_load_row rfl 25 _ rfl u5.heap.size rfl 25 _ _ _ b5 Tryz.underlying25 rfl size_json ?_) | (go_at_call 15; ((with_reducible refine (HTx.out _ p5).mono ?_); rintro e u6 ⟨rfl, f6⟩)))
        go_upto_region 18 with (first | (go_at_call 17; ((with_reducible refine (HPx.out _ (p5.trans f6)).mono ?_); rintro e u7 ⟨z, rfl, hzz, f7⟩; obtain ⟨z0, z1, z2, z3, z4, rfl, oz⟩ := hzz.form; have n7 := Blk.new u7 25 zj)) | (refine wpList_store_row rfl 25 _ _ rfl u7.heap.size #[z0, z1, z2, z3, z4] rfl rfl 25 zj n7 size_json rfl oz ?_))
        obtain ⟨p7, b7⟩ := put_row u7 z0 z1 z2 z3 z4
        have b57 := (f6.trans (f7.trans p7)).blk b5 (fun e => e)
        have F7 := F5.trans (f6.trans (f7.trans p7))
        have G7 := p5.trans (f6.trans (f7.trans p7))
        generalize hU : (u7.alloc (.cells zj 25)).setRow u7.heap.size #[z0, z1, z2, z3, z4] = U at *
        have HX : Hid (∀ w', Fr NoB U w' → w'.cell? ⟨u5.heap.size, 0, none⟩ = some y0 ∧ w'.cell? ⟨u5.heap.size, 1, none⟩ = some y1 ∧ w'.cell? ⟨u5.heap.size, 2, none⟩ = some y2 ∧ w'.cell? ⟨u5.heap.size, 3, none⟩ = some y3 ∧ w'.cell? ⟨u5.heap.size, 4, none⟩ = some y4 ∧ w'.cell? ⟨u7.heap.size, 0, none⟩ = some z0 ∧ w'.cell? ⟨u7.heap.size, 1, none⟩ = some z1 ∧ w'.cell? ⟨u7.heap.size, 2, none⟩ = some z2 ∧ w'.cell? ⟨u7.heap.size, 3, none⟩ = some z3 ∧ w'.cell? ⟨u7.heap.size, 4, none⟩ = some z4) := Lib.hid (fun w' f => by
          obtain ⟨q0, q1, q2, q3, q4⟩ := (f.blk b57 (fun e => e)).five
          obtain ⟨r0, r1, r2, r3, r4⟩ := (f.blk b7 (fun e => e)).five
          exact ⟨q0, q1, q2, q3, q4, r0, r1, r2, r3, r4⟩)
        have HSA : Hid (∀ w' r, Fr NoB U w' → RAt (All w') w' jx r → Calls Tryz.prog 19 #[r, .agg #[z0, z1, z2, z3, z4]] w' fun e w'' => e = .returned (.bool true) ∧ Fr NoB w' w'') := Lib.hid (fun w' r f hr => same_any jx _ _ w' hr (hzz.all (p7.trans f)))
        have fU := Fr.refl NoB U
        obtain ⟨c0, c1, c2, c3, c4, d0, d1, d2, d3, d4⟩ := HX.out _ fU
        clear hzz b5 b7 b57 n7 hU
        go_region_held3 (fun w' => w'.cell? ⟨u5.heap.size, 0, none⟩ = some y0 ∧ w'.cell? ⟨u5.heap.size, 1, none⟩ = some y1 ∧ w'.cell? ⟨u5.heap.size, 2, none⟩ = some y2 ∧ w'.cell? ⟨u5.heap.size, 3, none⟩ = some y3 ∧ w'.cell? ⟨u5.heap.size, 4, none⟩ = some y4 ∧ w'.cell? ⟨u7.heap.size, 0, none⟩ = some z0 ∧ w'.cell? ⟨u7.heap.size, 1, none⟩ = some z1 ∧ w'.cell? ⟨u7.heap.size, 2, none⟩ = some z2 ∧ w'.cell? ⟨u7.heap.size, 3, none⟩ = some z3 ∧ w'.cell? ⟨u7.heap.size, 4, none⟩ = some z4) (first | go_keep | (exact HX.out _ f9) | (exact HX.out _ f8)) (first | (go_at_call 25; (with_reducible refine (HA.out _ (G7.trans fU.drew)).mono ?_); rintro e w8 ⟨r, rfl, hr, f8'⟩; have f8 := fU.drew.trans f8'; obtain ⟨r0, r1, r2, r3, r4, rfl, _⟩ := hr.form) | (go_at_call 19; (with_reducible refine (HSA.out _ _ f8 hr).mono ?_); rintro e w9 ⟨rfl, f9'⟩; have f9 := f8.trans f9'))
        go_wp2_with fail
        go_ret
        exact ⟨rfl, F7.trans f9⟩
      · rw [ht] at HTx
        rw [hc] at HCx
        clear ht hc hz hy n5
        go_wp2_with (first | (go_at_call 15; ((with_reducible refine (HTx.out _ p5).mono ?_); rintro e u6 ⟨rfl, f6⟩; have b6 := f6.blk b5 (fun e => e))) | (refine wpList_load_row rfl 25 _ rfl u5.heap.size rfl 25 _ _ _ b6 Tryz.underlying25 rfl size_json ?_) | (refine wpList_load_row rfl 25 _ rfl u5.heap.size rfl 25 _ _ _ b5 Tryz.underlying25 rfl size_json ?_) | (go_at_call 13; ((with_reducible refine (HCx.out _ (p5.trans f6)).mono ?_); rintro e u7 ⟨rfl, f7⟩)))
        go_ret
        exact ⟨rfl, F5.trans (f6.trans f7)⟩
      · omega
      · omega
end Go.Proofs.YteeijmfnjcddmaaGreatDoor
