/- JSON: the program's reader: exact, unit. -/
import Derived.Test.YteeijmfnjcddmaaGreatDoorJb
import Derived.Lib.AtoiAllCases
namespace Go.Proofs.YteeijmfnjcddmaaGreatDoor
open Go.RowKit

def BadX (w : World) (e : Ending) (w' : World) : Prop := ∃ x : Int, e = .returned (.tuple #[.int .i64 x, .bool false]) ∧ Fr NoB w w'

theorem exact_yes {B : Nat} (s : Bs) (n : Int) (w : World) (hx : Cx B w) (hs : s.length ≤ 281474976710656) (h : exactP s = some n) :
    Calls Tryz.prog 66 #[.string ⟨s.toArray⟩] w fun e w' => e = .returned (.tuple #[.int .i64 n, .bool true]) ∧ Fr NoB w w' := by
  have h3 : Lib.atoiAll s = .ok n ∧ Lib.itoa n = s ∧ n ≤ maxInt ∧ -maxInt ≤ n := by
    unfold exactP at h
    split at h
    · rename_i m hm
      split at h
      · rename_i hc; cases h; exact ⟨hm, hc⟩
      · cases h
    · cases h
  unfold maxInt at h3
  obtain ⟨hq, hi0, hb1, hb2⟩ := h3
  have HQ := Lib.hid hq
  clear hq h
  go_enter Tryz.func66, Tryz.ntmps66
  go_wp2_with (first | (go_at_call 94; ((with_reducible refine (atoi_ok s _ hs n HQ.out).mono ?_); rintro e w1 ⟨rfl, f1⟩)) | (go_at_call 55; ((with_reducible refine (itoa_any n (by omega) (by omega) _ (hx.fr0 f1)).mono ?_); rintro e w2 ⟨rfl, f2⟩)))
  go_ret2
  exact ⟨rfl, f1.trans f2⟩

theorem exact_no {B : Nat} (s : Bs) (w : World) (hx : Cx B w) (hs : s.length ≤ 281474976710656) (h : exactP s = none) :
    Calls Tryz.prog 66 #[.string ⟨s.toArray⟩] w (BadX w) := by
  cases hq : Lib.atoiAll s with
  | ok n =>
    obtain ⟨hb1, hb2⟩ := Lib.atoiAll_bounds hq
    have h3 : ¬ (Lib.itoa n = s ∧ n ≤ maxInt ∧ -maxInt ≤ n) := by
      intro hc
      unfold exactP at h
      rw [hq] at h
      simp [hc] at h
    unfold maxInt at h3
    have HQ := Lib.hid hq
    clear hq h
    go_enter Tryz.func66, Tryz.ntmps66
    go_wp2_with (first | (go_at_call 94; ((with_reducible refine (atoi_ok s _ hs n HQ.out).mono ?_); rintro e w1 ⟨rfl, f1⟩)) | (go_at_call 55; ((with_reducible refine (itoa_any n (by omega) (by omega) _ (hx.fr0 f1)).mono ?_); rintro e w2 ⟨rfl, f2⟩)))
    all_goals go_ret2
    · have e1 : Lib.itoa n = s := by assumption
      have e2 : n ≤ 9007199254740991 := by assumption
      have e3 : ¬ -9007199254740991 ≤ n := fun e => h3 ⟨e1, e2, e⟩
      exact ⟨n, by simp [e3], f1.trans f2⟩
    · exact ⟨n, rfl, f1.trans f2⟩
    · exact ⟨n, rfl, f1.trans f2⟩
  | _ =>
    have Hno : Hid (∀ n, Lib.atoiAll s ≠ .ok n) := Lib.hid (by rw [hq]; intro n h; cases h)
    clear h hq
    go_enter Tryz.func66, Tryz.ntmps66
    go_wp2_with (go_at_call 94; ((with_reducible refine (atoi_no s _ hx hs Hno.out).mono ?_); rintro e w1 ⟨x, T, p, rfl, f1⟩))
    go_ret2
    exact ⟨x, rfl, f1⟩
end Go.Proofs.YteeijmfnjcddmaaGreatDoor
