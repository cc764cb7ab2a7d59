/- JsonChecks: the walk. -/
import Derived.Test.YteeijmfnjcddmaaGreatDoorPx
import Derived.Test.YteeijmfnjcddmaaGreatDoorDm
namespace Go.Proofs.YteeijmfnjcddmaaGreatDoor
open Go.RowKit

set_option maxRecDepth 100000 in
set_option maxHeartbeats 6400000 in
theorem checks_walk (j : Jv) (a0 a1 a2 a3 a4 : Value) (w : World) (hat : RAt (All w) w j (.agg #[a0, a1, a2, a3, a4])) (hsm : JSd j)
    (hC : ∀ u, Fr NoB w u → Calls Tryz.prog 13 #[.agg #[a0, a1, a2, a3, a4]] u fun e w' => e = .returned (.int .i64 (checkP 0 j : Int)) ∧ Fr NoB u w') (hFx : ∀ u, Fr NoB w u → Calls Tryz.prog 12 #[] u fun e w' => e = .returned (.bool true) ∧ Fr NoB u w') :
    Calls Tryz.prog 3 #[.agg #[a0, a1, a2, a3, a4]] w fun e w' => e = .returned (.bool true) ∧ Fr NoB w w' := by
  have f0 : Fr NoB w (w.alloc (.cells #[a0, a1, a2, a3, a4] 25)) := (Fr.refl _ _).alloc _
  have g0 := Blk.new w 25 #[a0, a1, a2, a3, a4]
  generalize hW : w.alloc (.cells #[a0, a1, a2, a3, a4] 25) = W at f0 g0
  have HW := Lib.hid hW
  have HC := Lib.hid (fun u f => hC u (f0.trans f))
  have HF := Lib.hid (fun u f => hFx u (f0.trans f))
  have HR : Hid (∀ u, Fr NoB W u → Calls Tryz.prog 14 #[.agg #[a0, a1, a2, a3, a4]] u fun e w' => e = .returned (.int .i64 (checkP 0 j : Int)) ∧ Fr NoB u w') := Lib.hid (fun u f => rCheck_any (All u) j _ u (fun _ h => h) (hat.all (f0.trans f)) hsm)
  have HX : Hid (∀ u, Fr NoB W u → u.cell? ⟨w.heap.size, 0, none⟩ = some a0 ∧ u.cell? ⟨w.heap.size, 1, none⟩ = some a1 ∧ u.cell? ⟨w.heap.size, 2, none⟩ = some a2 ∧ u.cell? ⟨w.heap.size, 3, none⟩ = some a3 ∧ u.cell? ⟨w.heap.size, 4, none⟩ = some a4) := Lib.hid (fun u f => (f.blk g0 (fun e => e)).five)
  clear hW hC hFx hat hsm g0
  generalize checkP 0 j = q at *
  have hqq : ((q : Int) == q) = true := by simp
  have fW := Fr.refl NoB W
  obtain ⟨c0, c1, c2, c3, c4⟩ := HX.out _ fW
  go_enter Tryz.func3, Tryz.ntmps3
  go_wp2_with (rw [HW.out])
  go_region_held3 (fun w' => w'.cell? ⟨w.heap.size, 0, none⟩ = some a0 ∧ w'.cell? ⟨w.heap.size, 1, none⟩ = some a1 ∧ w'.cell? ⟨w.heap.size, 2, none⟩ = some a2 ∧ w'.cell? ⟨w.heap.size, 3, none⟩ = some a3 ∧ w'.cell? ⟨w.heap.size, 4, none⟩ = some a4) (first | go_keep | (exact HX.out _ f3) | (exact HX.out _ f2) | (exact HX.out _ f1)) (first | (go_at_call 12; (with_reducible refine (HF.out _ fW.drew).mono ?_); rintro e w1 ⟨rfl, f1⟩; replace f1 := fW.drew.trans f1) | (go_at_call 13; (with_reducible refine (HC.out _ (by first | exact f2 | exact f1)).mono ?_); first | (have _t := f2; rintro e w3 ⟨rfl, f3'⟩; have f3 := f2.trans f3') | (rintro e w2 ⟨rfl, f2'⟩; have f2 := f1.trans f2')) | (go_at_call 14; (with_reducible refine (HR.out _ (by first | exact f2 | exact f1)).mono ?_); first | (have _t := f2; rintro e w3 ⟨rfl, f3'⟩; have f3 := f2.trans f3') | (rintro e w2 ⟨rfl, f2'⟩; have f2 := f1.trans f2')))
  go_wp2_with fail
  go_ret
  exact ⟨rfl, f0.trans f3⟩
end Go.Proofs.YteeijmfnjcddmaaGreatDoor
