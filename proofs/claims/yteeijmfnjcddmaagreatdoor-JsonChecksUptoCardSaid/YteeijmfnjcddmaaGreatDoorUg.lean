/- The document's runes (layer 1): Runes; the JSON document's utf. -/
import Derived.Test.YteeijmfnjcddmaaGreatDoorUf
namespace Go.Proofs.YteeijmfnjcddmaaGreatDoor
open Go.RowKit
theorem info_intD : (Tryz.prog.info? 3).map (fun i => (i.zero, i.size, i.bytes)) = some (some (.int .i64 0), 1, 8) := by kernel_rfl

/-- The fuel of the bytes' runes. -/
def validFrom (s : Bs) (m : Nat) : Prop := Lib.validD s = Lib.validD (s.drop m)
set_option maxRecDepth 100000 in
set_option maxHeartbeats 3200000 in
theorem uRunes_any (s : Bs) (w : World) (hl : s.length ≤ 4398046511104) : Calls Tryz.prog 106 #[.string ⟨s.toArray⟩] w fun e w' => ∃ v, e = .returned (.tuple #[v, .bool (Lib.validD s)]) ∧ Fr NoB w w' := by
  obtain ⟨i0, hi0, hz0, hz1, hz2⟩ := info_parts info_intD
  have hle : s.length ≤ big := by unfold big; omega
  have f1 : Fr NoB w (w.alloc (.cells #[] 3)) := (Fr.refl _ _).alloc _
  have own0 : (w.alloc (.cells #[] 3)).ownsRow w.heap.size 3 1 (.slice (some ⟨w.heap.size, 0, none⟩) 0 0) 0 [] := own_empty w _ _ _ _ rfl (Nat.le_refl _)
  go_enter Tryz.func106, Tryz.ntmps106
  go_wp2_with fail
  go_loopw [4, 5] (fun v4 v5 wr => ∃ (m : Nat) (cs : List Value), m ≤ s.length ∧ cs.length ≤ m ∧ v5 = .int .i64 m ∧ wr.ownsRow w.heap.size 3 1 v4 cs.length cs ∧ Fr NoB w wr ∧ Hid (validFrom s m)) (fun _ v5 _ => s.length - (intOf v5).toNat)
  case atStart => exact ⟨0, [], Nat.zero_le _, Nat.le_refl _, rfl, own0, f1, Lib.hid rfl⟩
  case round =>
    obtain ⟨m, cs, hm, hcm, rfl, hown, hf, HV⟩ := hrel
    by_cases hlt : m < s.length
    · have i1 : (0 : Int) ≤ m := by omega
      have i2 : (m : Int) < s.length := by omega
      have i3 : (m : Int) ≤ s.length := by omega
      have hne : s.drop m ≠ [] := by intro e; have := congrArg List.length e; simp at this; omega
      have hxt := ext_drop s m
      have HC : Hid (∀ u, Calls Tryz.prog 126 #[.string ⟨(s.drop m).toArray⟩] u fun e w' => e = .returned (.tuple #[.int .i64 (firstP (s.drop m)).1, .int .i64 (firstP (s.drop m)).2]) ∧ Fr NoB u w') := Lib.hid (fun u => first_any _ u (by rw [List.length_drop]; omega))
      by_cases hb : (Lib.decodeL (s.drop m)).1 = 65533 ∧ (Lib.decodeL (s.drop m)).2 = 1
      · obtain ⟨e1, e2⟩ := first_bad hne hb
        have e3 : Lib.validD s = false := HV.out.trans e2
        rw [e1] at HC
        clear hb e1 e2 hne
        go_wp2_with (go_at_call 126; (with_reducible refine (HC.out _).mono ?_); rintro e w2 ⟨rfl, f2⟩)
        go_ret2
        exact ⟨_, by rw [e3]; rfl, hf.trans f2⟩
      · obtain ⟨e1, e2, e3, e4⟩ := first_good hne hb
        rw [e1] at HC
        have e5 := Lib.decodeL_rune (s.drop m)
        rw [List.length_drop] at e4
        have HV2 : Hid (validFrom s (m + (Lib.decodeL (s.drop m)).2)) := Lib.hid (by unfold validFrom; rw [HV.out, e2, List.drop_drop])
        clear hb e1 e2 hne
        generalize Lib.decodeL (s.drop m) = d at *
        obtain ⟨r, k⟩ := d
        simp only at *
        have k0 : ((k : Int) == 0) = false := by simp; omega
        have hsw := hf.size
        have hlv : ∀ g, u4.ownBlock = some g → w.heap.size ≤ g := fun g hg => (hown.lt g hg).1
        go_wp2_with (first | (go_at_call 126; ((with_reducible refine (HC.out _).mono ?_); rintro e w2 ⟨rfl, f2⟩; have hs2 := f2.size; have fa : Fr NoB w2 (w2.alloc (.cells #[.int .i64 r] 3)) := (Fr.refl NoB w2).alloc _; have own3 := (f2.trans fa).row hown (fun _ _ e => e))) | (at_builtin; go_loud (refine wpList_append_own _ rfl _ _ 45 rfl w.heap.size 3 i0 (.int .i64 0) 1 8 Tryz.underlying45 hi0 hz0 hz1 hz2 rfl (by decide) _ _ _ rfl own3 ⟨w2.heap.size, 0, none⟩ 1 1 [.int .i64 r] rfl rfl (by intro j u hj; match j, hj with | 0, hj => simp at hj; subst hj; simp [Addr.add]) (by intro u hu; rw [List.mem_singleton] at hu; subst hu; rfl) (by unfold maxLen; omega) (by omega) (by simp; omega) ?_; intro v4 w4 hown4 hgr hnil)))
        have f4 : Fr NoB w w4 := ((hf.trans f2).trans fa).grown hgr (fun j hj hlt => absurd (hlv j hj) (by omega))
        go_roundw
        case rel => exact ⟨m + k, cs ++ [.int .i64 r], by omega, by simp; omega, by simp, by simpa using hown4, f4, HV2⟩
        case measure => simp [intOf]; omega
    · obtain rfl : m = s.length := by omega
      have e3 : Lib.validD s = true := by have := HV.out; rw [validFrom, List.drop_length] at this; rw [this]; rfl
      go_wp2_with fail
      go_ret2
      exact ⟨_, by rw [e3]; rfl, hf⟩

theorem utf_any (s : Bs) (w : World) (hl : s.length ≤ 4398046511104) : Calls Tryz.prog 79 #[.string ⟨s.toArray⟩] w fun e w' => e = .returned (.bool (Lib.validD s)) ∧ Fr NoB w w' := by
  go_enter Tryz.func79, Tryz.ntmps79
  go_wp2_with (go_at_call 106; (with_reducible refine (uRunes_any s _ hl).mono ?_); rintro e w2 ⟨v, rfl, f2⟩)
  go_ret
  exact ⟨rfl, f2⟩
end Go.Proofs.YteeijmfnjcddmaaGreatDoor
