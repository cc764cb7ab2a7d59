/- JSON: keys that are no UTF-8: slices.ContainsFunc with checked's function. -/
import Derived.Test.YteeijmfnjcddmaaGreatDoorKb
namespace Go.Proofs.YteeijmfnjcddmaaGreatDoor
open Go.RowKit

theorem notUtf_any {B : Nat} (s : Bs) (w : World) (hx : Cx B w) (hs : s.length ≤ 35184372088832) :
    Calls Tryz.prog 50 #[.string ⟨s.toArray⟩] w fun e w' => e = .returned (.bool (!Lib.validD s)) ∧ Fr NoB w w' := by
  cases hv : Lib.validD s
  · go_enter Tryz.func50, Tryz.ntmps50
    go_wp2_with (go_at_call 51; ((with_reducible refine (utf8_no s _ hx hs hv).mono ?_); rintro e w1 ⟨rfl, f1⟩))
    go_ret
    exact ⟨rfl, f1⟩
  · go_enter Tryz.func50, Tryz.ntmps50
    go_wp2_with (go_at_call 51; ((with_reducible refine (utf8_yes s _ hx hs hv).mono ?_); rintro e w1 ⟨rfl, f1⟩))
    go_ret
    exact ⟨rfl, f1⟩

/-- The place of the first that is no UTF-8; -1: there is none. -/
def badAt (ks : List Bs) (r : Int) : Prop := (r = -1 ∧ ks.all Lib.validD = true) ∨ (0 ≤ r ∧ ks.all Lib.validD = false)

set_option maxRecDepth 100000 in
set_option maxHeartbeats 3200000 in
theorem indexFunc_any {B : Nat} (S : Nat → Prop) (ks : List Bs) (kv : Value) (w : World) (hx : Cx B w) (hS : ∀ g, S g → g < w.heap.size) (h : InMem S w kv ks.length (ks.map sV)) (hl : ks.length ≤ big) (hk : ∀ s ∈ ks, s.length ≤ 35184372088832) :
    Calls Tryz.prog 75 #[kv, .func (.func 50) #[] #[]] w fun e w' => ∃ r, e = .returned (.int .i64 r) ∧ badAt ks r ∧ Fr NoB w w' := by
  unfold big at hl
  rcases h with ⟨h0, a, c, rfl⟩ | ⟨g, o, c, rfl, hg, hc⟩
  · have hks : ks = [] := List.eq_nil_of_length_eq_zero h0
    subst hks
    go_enter Tryz.func75, Tryz.ntmps75
    go_wp2
    go_loopw [8] (fun v8 wr => v8 = .int .i64 0 ∧ Fr NoB w wr) (fun _ _ => 0)
    case atStart => exact ⟨rfl, Fr.refl _ _⟩
    case round =>
      obtain ⟨rfl, hf⟩ := hrel
      go_wp2
      go_ret
      exact ⟨-1, rfl, Or.inl ⟨rfl, rfl⟩, hf⟩
  · have HC := Lib.hid hc
    have HK := Lib.hid hk
    clear hc hk
    go_enter Tryz.func75, Tryz.ntmps75
    go_wp2
    go_loopw [8] (fun v8 wr => ∃ k : Nat, k ≤ ks.length ∧ v8 = .int .i64 k ∧ Fr NoB w wr ∧ Hid ((ks.take k).all Lib.validD = true)) (fun v8 _ => ks.length - (intOf v8).toNat)
    case atStart => exact ⟨0, Nat.zero_le _, rfl, Fr.refl _ _, Lib.hid rfl⟩
    case round =>
      obtain ⟨k, hk, rfl, hf, HA⟩ := hrel
      by_cases hlt : k < ks.length
      · have hck : wr.cell? ⟨g, o + k, none⟩ = some (sV ks[k]) := (hf.cell (p := ⟨g, o + k, none⟩) (hS g hg) (fun e => e)).trans (HC.out k _ (by rw [List.getElem?_map, List.getElem?_eq_getElem hlt]; rfl))
        have hkl := HK.out ks[k] (List.getElem_mem hlt)
        have htk : ks.take (k + 1) = ks.take k ++ [ks[k]] := by rw [List.take_add_one, List.getElem?_eq_getElem hlt]; rfl
        have hme : ks[k] ∈ ks := List.getElem_mem hlt
        generalize ks[k] = s at hck hkl htk hme
        have HT := Lib.hid htk
        have HM := Lib.hid hme
        clear htk hme
        cases hv : Lib.validD s
        · have HV := Lib.hid hv
          clear hv
          go_wp2_with (go_at_call 50; ((with_reducible refine (notUtf_any s _ (hx.fr0 hf) hkl).mono ?_); rintro e w1 ⟨rfl, f1⟩; rw [HV.out]))
          go_ret
          refine ⟨k, rfl, Or.inr ⟨by omega, ?_⟩, hf.trans f1⟩
          cases ha : ks.all Lib.validD
          · rfl
          · have := List.all_eq_true.1 ha s HM.out; rw [HV.out] at this; cases this
        · have HV := Lib.hid hv
          clear hv
          go_wp2_with (go_at_call 50; ((with_reducible refine (notUtf_any s _ (hx.fr0 hf) hkl).mono ?_); rintro e w1 ⟨rfl, f1⟩; rw [HV.out]))
          go_roundw
          case rel => exact ⟨k + 1, by omega, by simp, hf.trans f1, Lib.hid (by rw [HT.out, List.all_append, HA.out]; simp [HV.out])⟩
          case measure => simp [intOf]; omega
      · obtain rfl : k = ks.length := by omega
        go_wp2
        go_ret
        exact ⟨-1, rfl, Or.inl ⟨rfl, by have := HA.out; simpa using this⟩, hf⟩

theorem containsFunc_any {B : Nat} (S : Nat → Prop) (ks : List Bs) (kv : Value) (w : World) (hx : Cx B w) (hS : ∀ g, S g → g < w.heap.size) (h : InMem S w kv ks.length (ks.map sV)) (hl : ks.length ≤ big) (hk : ∀ s ∈ ks, s.length ≤ 35184372088832) :
    Calls Tryz.prog 49 #[kv, .func (.func 50) #[] #[]] w fun e w' => e = .returned (.bool (!ks.all Lib.validD)) ∧ Fr NoB w w' := by
  have hI := Lib.hid (indexFunc_any S ks kv w hx hS h hl hk)
  clear h hl hk hS
  go_enter Tryz.func49, Tryz.ntmps49
  go_wp2_with (go_at_call 75; ((with_reducible refine hI.out.mono ?_); rintro e w1 ⟨r, rfl, hr, f1⟩))
  go_ret
  refine ⟨?_, f1⟩
  rcases hr with ⟨rfl, ha⟩ | ⟨h0, ha⟩
  · rw [ha]; rfl
  · rw [ha]; simp [h0]
end Go.Proofs.YteeijmfnjcddmaaGreatDoor
