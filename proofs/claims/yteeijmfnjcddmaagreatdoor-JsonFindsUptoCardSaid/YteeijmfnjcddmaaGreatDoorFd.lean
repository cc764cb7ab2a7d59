/- JsonFinds: the walk. -/
import Derived.Test.YteeijmfnjcddmaaGreatDoorPx
import Derived.Test.YteeijmfnjcddmaaGreatDoorRg
namespace Go.Proofs.YteeijmfnjcddmaaGreatDoor
open Go.RowKit

set_option maxRecDepth 100000 in
set_option maxHeartbeats 6400000 in
theorem finds_walk (j : Jv) (key : Bs) (a0 a1 a2 a3 a4 : Value) (w : World) (hat : RAt (All w) w j (.agg #[a0, a1, a2, a3, a4])) (hln : j.list.length ≤ 4398046511104) (hbig : ∀ q, textsP j = some q → q.length ≤ big ∧ ∀ s ∈ q, s.length ≤ big)
    (hG : ∀ u, Fr NoB w u → Calls Tryz.prog 20 #[.agg #[a0, a1, a2, a3, a4], .string ⟨key.toArray⟩] u fun e w' => ∃ x, e = .returned (.tuple #[x, .bool (getP j key).isSome]) ∧ RAt (All u) w' ((getP j key).getD Jv.nul) x ∧ Fr NoB u w')
    (hT : ∀ u, Fr NoB w u → Calls Tryz.prog 22 #[.agg #[a0, a1, a2, a3, a4]] u (TxsIs (textsP j) u)) (hFx : ∀ u, Fr NoB w u → Calls Tryz.prog 12 #[] u fun e w' => e = .returned (.bool true) ∧ Fr NoB u w') :
    Calls Tryz.prog 6 #[.agg #[a0, a1, a2, a3, a4], .string ⟨key.toArray⟩] w fun e w' => e = .returned (.bool true) ∧ Fr NoB w w' := by
  have HG := Lib.hid hG
  have HT := Lib.hid hT
  have HFx := Lib.hid hFx
  have HR : Hid (∀ u, Fr NoB w u → Calls Tryz.prog 21 #[.agg #[a0, a1, a2, a3, a4], .string ⟨key.toArray⟩] u fun e w' => ∃ x, e = .returned (.tuple #[x, .bool (getP j key).isSome]) ∧ RAt (All u) w' ((getP j key).getD Jv.nul) x ∧ Fr NoB u w') := Lib.hid (fun u f => rget_any j _ key u (hat.all f))
  have HRT : Hid (∀ u, Fr NoB w u → Calls Tryz.prog 23 #[.agg #[a0, a1, a2, a3, a4]] u (TxsIs (textsP j) u)) := Lib.hid (fun u f => rtexts_any j _ u (hat.all f) hln)
  have HB := Lib.hid hbig
  clear hG hT hFx hbig hat hln
  have f0 : Fr NoB w (w.alloc (.cells #[a0, a1, a2, a3, a4] 25)) := (Fr.refl _ _).alloc _
  have g0 := Blk.new w 25 #[a0, a1, a2, a3, a4]
  generalize hW : w.alloc (.cells #[a0, a1, a2, a3, a4] 25) = W at f0 g0
  have HW := Lib.hid hW
  clear hW
  generalize (getP j key).isSome = bb at *
  generalize (getP j key).getD Jv.nul = J at *
  generalize textsP j = q at *
  go_enter Tryz.func6, Tryz.ntmps6
  go_upto_region 2 with (first | (rw [HW.out]; refine wpList_load_row rfl 25 _ rfl w.heap.size rfl 25 _ _ _ g0 Tryz.underlying25 rfl size_json ?_) | (go_at_call 20; ((with_reducible refine (HG.out _ f0).mono ?_); rintro e u1 ⟨x1, rfl, h1, f1⟩; obtain ⟨x10, x11, x12, x13, x14, rfl, o1⟩ := h1.form; have n1 := Blk.new u1 25 zj)) | (refine wpList_store_row rfl 25 _ _ rfl u1.heap.size #[x10, x11, x12, x13, x14] rfl rfl 25 zj n1 size_json rfl o1 ?_))
  obtain ⟨p1, b1⟩ := put_row u1 x10 x11 x12 x13 x14
  have F1 := f0.trans (f1.trans p1)
  have G1 := (f1.trans p1).blk g0 (fun e => e)
  generalize hU1 : (u1.alloc (.cells zj 25)).setRow u1.heap.size #[x10, x11, x12, x13, x14] = U1 at *
  clear n1
  go_upto_region 3 with (first | (refine wpList_load_row rfl 25 _ rfl w.heap.size rfl 25 _ _ _ G1 Tryz.underlying25 rfl size_json ?_) | (go_at_call 21; ((with_reducible refine (HR.out _ F1).mono ?_); rintro e u2 ⟨x2, rfl, h2, f2⟩; obtain ⟨x20, x21, x22, x23, x24, rfl, o2⟩ := h2.form; have n2 := Blk.new u2 25 zj)) | (refine wpList_store_row rfl 25 _ _ rfl u2.heap.size #[x20, x21, x22, x23, x24] rfl rfl 25 zj n2 size_json rfl o2 ?_))
  obtain ⟨p2, b2⟩ := put_row u2 x20 x21 x22 x23 x24
  have F2 := F1.trans (f2.trans p2)
  have G2 := (f2.trans p2).blk G1 (fun e => e)
  have B1 := (f2.trans p2).blk b1 (fun e => e)
  generalize hU2 : (u2.alloc (.cells zj 25)).setRow u2.heap.size #[x20, x21, x22, x23, x24] = U2 at *
  clear n2
  go_upto_region 5 with (first | (refine wpList_load_row rfl 25 _ rfl w.heap.size rfl 25 _ _ _ G2 Tryz.underlying25 rfl size_json ?_) | (go_at_call 22; ((with_reducible refine (HT.out _ F2).mono ?_); rintro e u3 ⟨t1, rfl, r1, f3⟩; have G3 := f3.blk G2 (fun e => e); have F3 := F2.trans f3)) | (refine wpList_load_row rfl 25 _ rfl w.heap.size rfl 25 _ _ _ G3 Tryz.underlying25 rfl size_json ?_) | (go_at_call 23; ((with_reducible refine (HRT.out _ F3).mono ?_); rintro e u4 ⟨t2, rfl, r2, f4⟩)))
  have F4 := F3.trans f4
  have HS : Hid (∀ u, Fr NoB u4 u → Calls Tryz.prog 19 #[.agg #[x10, x11, x12, x13, x14], .agg #[x20, x21, x22, x23, x24]] u fun e w' => e = .returned (.bool true) ∧ Fr NoB u w') := Lib.hid (fun u f => same_any J _ _ u
    ((RAt.mono (fun _ hg => Nat.lt_of_lt_of_le hg f1.size) _ _ h1 : RAt (All u1) u1 J _).all (p1.trans (f2.trans (p2.trans (f3.trans (f4.trans f))))))
    ((RAt.mono (fun _ hg => Nat.lt_of_lt_of_le hg f2.size) _ _ h2 : RAt (All u2) u2 J _).all (p2.trans (f3.trans (f4.trans f)))))
  have hqb : (q.getD []).length ≤ big ∧ ∀ s ∈ q.getD [], s.length ≤ big := by
    cases q with
    | none => exact ⟨by simp [big], by simp⟩
    | some ks => exact HB.out ks rfl
  have HST : Hid (∀ u, Fr NoB u4 u → Calls Tryz.prog 24 #[t1, t2] u fun e w' => e = .returned (.bool true) ∧ Fr NoB u w') := Lib.hid (fun u f => sameTexts_any (q.getD []) t1 t2 u ((own_strs r1 hqb.1 hqb.2).all (f4.trans f)) ((own_strs r2 hqb.1 hqb.2).all f))
  have HB1 : Hid (∀ u, Fr NoB u4 u → Blk u u1.heap.size 25 #[x10, x11, x12, x13, x14] ∧ Blk u u2.heap.size 25 #[x20, x21, x22, x23, x24]) := Lib.hid (fun u f => ⟨(f3.trans (f4.trans f)).blk B1 (fun e => e), (f3.trans (f4.trans f)).blk b2 (fun e => e)⟩)
  clear h1 h2 r1 r2 hqb G1 G2 G3 B1 b2 b1 HG HT HR HRT HB g0 hU1 hU2 o1 o2
  generalize q.isSome = qs at *
  have hbb : (bb == bb) = true := by simp
  have hqs : (qs == qs) = true := by simp
  go_wp2_with (first | (go_at_call 12; ((with_reducible refine (HFx.out _ F4).mono ?_); rintro e u5 ⟨rfl, f5⟩; obtain ⟨C1, C2⟩ := HB1.out _ f5; obtain ⟨c10, c11, c12, c13, c14⟩ := C1.five; obtain ⟨c20, c21, c22, c23, c24⟩ := C2.five; clear C1 C2)) | (go_at_call 19; ((with_reducible refine (HS.out _ f5).mono ?_); rintro e u6 ⟨rfl, f6⟩)) | (go_at_call 24; ((with_reducible refine (HST.out _ (f5.trans f6)).mono ?_); rintro e u7 ⟨rfl, f7⟩)))
  go_ret
  exact ⟨rfl, F4.trans (f5.trans (f6.trans f7))⟩
end Go.Proofs.YteeijmfnjcddmaaGreatDoor
