/- JsonTells: the walk. -/
import Derived.Test.YteeijmfnjcddmaaGreatDoorFm
namespace Go.Proofs.YteeijmfnjcddmaaGreatDoor
open Go.RowKit

set_option maxRecDepth 100000 in
set_option maxHeartbeats 3200000 in
theorem tells_walk (j : Jv) (a0 a1 a2 a3 a4 : Value) (w : World) (hat : RAt (All w) w j (.agg #[a0, a1, a2, a3, a4])) (hs : szJ j ≤ 1048576)
    (hT : ∀ u, Fr NoB w u → Calls Tryz.prog 15 #[.agg #[a0, a1, a2, a3, a4]] u fun e w' => e = .returned (.tuple #[sV (textT j).1, .int .i64 ((textT j).2 : Int)]) ∧ Fr NoB u w') (hFx : ∀ u, Fr NoB w u → Calls Tryz.prog 12 #[] u fun e w' => e = .returned (.bool true) ∧ Fr NoB u w') :
    Calls Tryz.prog 4 #[.agg #[a0, a1, a2, a3, a4]] w fun e w' => e = .returned (.bool true) ∧ Fr NoB w w' := by
  have f0 : Fr NoB w (w.alloc (.cells #[a0, a1, a2, a3, a4] 25)) := (Fr.refl _ _).alloc _
  have g0 := Blk.new w 25 #[a0, a1, a2, a3, a4]
  generalize hW : w.alloc (.cells #[a0, a1, a2, a3, a4] 25) = W at f0 g0
  have HW := Lib.hid hW
  have HT := Lib.hid hT
  have HF := Lib.hid hFx
  have HR : Hid (∀ u, Fr NoB w u → Calls Tryz.prog 16 #[.agg #[a0, a1, a2, a3, a4]] u fun e w' => e = .returned (.tuple #[sV (textT j).1, .int .i64 ((textT j).2 : Int)]) ∧ Fr NoB u w') := Lib.hid (fun u f => rText_any j _ _ _ _ _ u (hat.all f) (by omega))
  clear hW hT hFx hat hs
  generalize (textT j).1 = t at *
  generalize (textT j).2 = q at *
  have hqq : ((q : Int) == q) = true := by simp
  have htt : (t == t) = true := by simp
  go_enter Tryz.func4, Tryz.ntmps4
  go_wp2_with (first | (rw [HW.out]; refine wpList_load_row rfl 25 _ rfl w.heap.size rfl 25 _ _ _ g0 Tryz.underlying25 rfl size_json ?_) | (go_at_call 15; ((with_reducible refine (HT.out _ f0).mono ?_); rintro e w1 ⟨rfl, f1⟩; have g1 := f1.blk g0 (fun e => e))) | (refine wpList_load_row rfl 25 _ rfl w.heap.size rfl 25 _ _ _ g1 Tryz.underlying25 rfl size_json ?_) | (go_at_call 16; ((with_reducible refine (HR.out _ (f0.trans f1)).mono ?_); rintro e w2 ⟨rfl, f2⟩)) | (go_at_call 12; ((with_reducible refine (HF.out _ ((f0.trans f1).trans f2)).mono ?_); rintro e w3 ⟨rfl, f3⟩)))
  go_ret
  exact ⟨rfl, ((f0.trans f1).trans f2).trans f3⟩
end Go.Proofs.YteeijmfnjcddmaaGreatDoor
