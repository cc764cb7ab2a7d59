/- JSON, the document's side: form, check, Check. -/
import Derived.Test.YteeijmfnjcddmaaGreatDoorDk
import Derived.Test.YteeijmfnjcddmaaGreatDoorUg
namespace Go.Proofs.YteeijmfnjcddmaaGreatDoor
open Go.RowKit

theorem intIn_of {k i : Int} (h : ¬ (i ≠ 0 ∧ k ≠ 3)) (h3 : k ≠ 3) : intIn k i = true := by
  have : i = 0 := Classical.byContradiction fun e => h ⟨e, h3⟩
  simp [intIn, this]
theorem textIn_of {k : Int} {t : Bs} (h : ¬ (t ≠ [] ∧ k ≠ 4)) (h4 : k ≠ 4) : textIn k t = true := by
  have : t = [] := Classical.byContradiction fun e => h ⟨e, h4⟩
  simp [textIn, this]
theorem dform_int {k i : Int} {t : Bs} {n : Nat} {ks : List Bs} (h : i ≠ 0 ∧ k ≠ 3) : formP k i t n ks = false := by simp [formP, intIn, h.1, h.2]
theorem dform_text {k i : Int} {t : Bs} {n : Nat} {ks : List Bs} (h : t ≠ [] ∧ k ≠ 4) : formP k i t n ks = false := by simp [formP, textIn, h.1, h.2]
theorem form_utf {k i : Int} {t : Bs} {n : Nat} {ks : List Bs} (h : ks.all Lib.validD = false) : formP k i t n ks = false := by simp [formP, h]
theorem len_nil {ks : List Bs} (h : (ks.length : Int) = 0) : ks = [] := List.eq_nil_of_length_eq_zero (by omega)
section
variable {i : Int} {t : Bs} {n : Nat} {ks : List Bs}
theorem form_word {k : Int} (hk : k = 0 ∨ k = 1 ∨ k = 2) (hv : ks.all Lib.validD = true) (h1 : ¬ (i ≠ 0 ∧ k ≠ 3)) (h2 : ¬ (t ≠ [] ∧ k ≠ 4)) : formP k i t n ks = (((n : Int) == 0) && ((ks.length : Int) == 0)) := by
  have e1 := intIn_of h1 (by omega)
  have e2 := textIn_of h2 (by omega)
  have e6 : (k == 6) = false := by simp; omega
  have e5 : (k == 5) = false := by simp; omega
  have e0 : decide (0 ≤ k) = true := by simp; omega
  have e7 : decide (k < 7) = true := by simp; omega
  unfold formP keysOk nestK
  rw [hv, e1, e2, e0, e7, e6, e5]
  by_cases hk0 : (ks.length : Int) = 0
  · obtain rfl := len_nil hk0
    rw [Bool.eq_iff_iff]
    simp
    intro _
    omega
  · have hne : ks ≠ [] := by rintro rfl; exact hk0 rfl
    have hb : ((ks.length : Int) == 0) = false := beq_eq_false_iff_ne.2 hk0
    rw [hb]
    simp [hne]
theorem form_num (hv : ks.all Lib.validD = true) (h2 : ¬ (t ≠ [] ∧ (3 : Int) ≠ 4)) : formP 3 i t n ks = (decide (i ≤ 9007199254740991) && decide (-9007199254740991 ≤ i) && ((n : Int) == 0) && ((ks.length : Int) == 0)) := by
  have e2 := textIn_of h2 (by omega)
  have e1 : intIn 3 i = (decide (i ≤ 9007199254740991) && decide (-9007199254740991 ≤ i)) := by
    unfold intIn
    by_cases h : i = 0
    · subst h; rfl
    · simp [h]
  unfold formP keysOk nestK
  rw [hv, e1, e2]
  by_cases hk0 : (ks.length : Int) = 0
  · obtain rfl := len_nil hk0
    rw [Bool.eq_iff_iff]
    simp
    constructor
    · rintro ⟨a, b, c⟩; exact ⟨⟨b, c⟩, a⟩
    · rintro ⟨⟨b, c⟩, a⟩; exact ⟨a, b, c⟩
  · have hne : ks ≠ [] := by rintro rfl; exact hk0 rfl
    have hb : ((ks.length : Int) == 0) = false := beq_eq_false_iff_ne.2 hk0
    rw [hb]
    simp [hne]
theorem form_str (hv : ks.all Lib.validD = true) (h1 : ¬ (i ≠ 0 ∧ (4 : Int) ≠ 3)) : formP 4 i t n ks = (Lib.validD t && ((n : Int) == 0) && ((ks.length : Int) == 0)) := by
  have e1 := intIn_of h1 (by omega)
  have e2 : textIn 4 t = Lib.validD t := by
    unfold textIn
    cases t with
    | nil => rfl
    | cons a b => simp
  unfold formP keysOk nestK
  rw [hv, e1, e2]
  by_cases hk0 : (ks.length : Int) = 0
  · obtain rfl := len_nil hk0
    rw [Bool.eq_iff_iff]
    simp
    constructor
    · rintro ⟨a, b⟩; exact ⟨b, a⟩
    · rintro ⟨b, a⟩; exact ⟨a, b⟩
  · have hne : ks ≠ [] := by rintro rfl; exact hk0 rfl
    have hb : ((ks.length : Int) == 0) = false := beq_eq_false_iff_ne.2 hk0
    rw [hb]
    simp [hne]
theorem form_list (hv : ks.all Lib.validD = true) (h1 : ¬ (i ≠ 0 ∧ (5 : Int) ≠ 3)) (h2 : ¬ (t ≠ [] ∧ (5 : Int) ≠ 4)) : formP 5 i t n ks = ((ks.length : Int) == 0) := by
  have e1 := intIn_of h1 (by omega)
  have e2 := textIn_of h2 (by omega)
  unfold formP keysOk nestK
  rw [hv, e1, e2]
  by_cases hk0 : (ks.length : Int) = 0
  · obtain rfl := len_nil hk0
    simp
  · have hne : ks ≠ [] := by rintro rfl; exact hk0 rfl
    have hb : ((ks.length : Int) == 0) = false := beq_eq_false_iff_ne.2 hk0
    rw [hb]
    simp [hne]
theorem form_obj (hv : ks.all Lib.validD = true) (h1 : ¬ (i ≠ 0 ∧ (6 : Int) ≠ 3)) (h2 : ¬ (t ≠ [] ∧ (6 : Int) ≠ 4)) : formP 6 i t n ks = (((ks.length : Int) == (n : Int)) && decide ks.Nodup) := by
  have e1 := intIn_of h1 (by omega)
  have e2 := textIn_of h2 (by omega)
  unfold formP keysOk nestK
  rw [hv, e1, e2]
  rw [Bool.eq_iff_iff]
  simp
theorem form_no {k : Int} (h : ¬ (0 ≤ k ∧ k < 7)) : formP k i t n ks = false := by
  unfold formP
  by_cases h0 : 0 ≤ k
  · simp [show ¬ k < 7 by omega]
  · simp [h0]
end

set_option maxRecDepth 100000 in
set_option maxHeartbeats 6400000 in
theorem rform_any (S : Nat → Prop) (k i : Int) (t : Bs) (n : Nat) (ks : List Bs) (la ka : Option Addr) (lc kc : Nat) (w : World) (hS : ∀ g, S g → g < w.heap.size) (_hn : n ≤ big)
    (hkm : InMem S w (.slice ka ks.length kc) ks.length (ks.map sV)) (hkl : ks.length ≤ big) (hsm : t.length ≤ 4398046511104 ∧ ∀ s ∈ ks, s.length ≤ 4398046511104) :
    Calls Tryz.prog 53 #[jV k i t (.slice la n lc) (.slice ka ks.length kc)] w fun e w' => e = .returned (.bool (formP k i t n ks)) ∧ Fr NoB w w' := by
  have hkb := hkl
  unfold big at _hn hkl
  have f0 : Fr NoB w (w.alloc (.cells #[.int .i64 k, .int .i64 i, .string ⟨t.toArray⟩, .slice la n lc, .slice ka ks.length kc] 25)) := (Fr.refl _ _).alloc _
  have g0 := Blk.new w 25 #[.int .i64 k, .int .i64 i, .string ⟨t.toArray⟩, .slice la n lc, .slice ka ks.length kc]
  generalize hW : w.alloc (.cells #[.int .i64 k, .int .i64 i, .string ⟨t.toArray⟩, .slice la n lc, .slice ka ks.length kc] 25) = W at f0 g0
  have HW := Lib.hid hW
  have HB : Hid (∀ u, Fr NoB W u → u.cell? ⟨w.heap.size, 0, none⟩ = some (.int .i64 k) ∧ u.cell? ⟨w.heap.size, 1, none⟩ = some (.int .i64 i) ∧ u.cell? ⟨w.heap.size, 2, none⟩ = some (.string ⟨t.toArray⟩) ∧ u.cell? ⟨w.heap.size, 3, none⟩ = some (.slice la n lc) ∧ u.cell? ⟨w.heap.size, 4, none⟩ = some (.slice ka ks.length kc)) := Lib.hid (fun u f => by
    have a := f.blk g0 (fun e => e)
    exact ⟨(a.cell 0).trans rfl, (a.cell 1).trans rfl, (a.cell 2).trans rfl, (a.cell 3).trans rfl, (a.cell 4).trans rfl⟩)
  have HK := Lib.hid hkm
  have HS := Lib.hid hS
  have HM := Lib.hid hsm
  generalize hF : formP k i t n ks = F
  have HF := Lib.hid hF
  clear hW hkm hS hsm hF g0
  go_enter Tryz.func53, Tryz.ntmps53
  go_wp2_with (rw [HW.out])
  go_loopw [3] (fun v wr => ∃ m : Nat, m ≤ ks.length ∧ v = .int .i64 m ∧ Fr NoB W wr ∧ Hid ((ks.take m).all Lib.validD = true)) (fun v _ => ks.length - (intOf v).toNat)
  case atStart => exact ⟨0, Nat.zero_le _, rfl, Fr.refl _ _, Lib.hid rfl⟩
  case round =>
    obtain ⟨m, hm, rfl, hf, HV⟩ := hrel
    obtain ⟨c0, c1, c2, c3, c4⟩ := HB.out wr hf
    by_cases hlt : m < ks.length
    · have i1 : (0 : Int) ≤ m := by omega
      have i2 : (m : Int) < ks.length := by omega
      obtain ⟨gk, ok, rfl, hkc⟩ := HK.out.inS HS.out (f0.trans hf) (by omega)
      have em := hkc m (sV ks[m]) (by simp [hlt])
      have hsl := HM.out.2 ks[m] (List.getElem_mem hlt)
      have HTK : Hid (ks.take (m + 1) = ks.take m ++ [ks[m]]) := Lib.hid (List.take_append_getElem hlt).symm
      have HIN : Hid (ks[m] ∈ ks) := Lib.hid (List.getElem_mem hlt)
      clear hkc
      generalize ks[m] = q at *
      have HU := Lib.hid (fun u => utf_any q u hsl)
      cases hv : Lib.validD q with
      | false =>
        rw [hv] at HU
        have hF : F = false := by
          rw [← HF.out]
          apply form_utf
          cases ha : ks.all Lib.validD
          · rfl
          · have := List.all_eq_true.1 ha q HIN.out; rw [hv] at this; cases this
        clear hv
        go_wp2_with (go_at_call 79; ((with_reducible refine (HU.out _).mono ?_); rintro e w2 ⟨rfl, f2⟩))
        go_ret
        exact ⟨by rw [hF]; rfl, (f0.trans hf).trans f2⟩
      | true =>
        rw [hv] at HU
        have HV2 : Hid ((ks.take (m + 1)).all Lib.validD = true) := Lib.hid (by rw [HTK.out, List.all_append, HV.out]; simp [hv])
        clear hv
        go_wp2_with (go_at_call 79; ((with_reducible refine (HU.out _).mono ?_); rintro e w2 ⟨rfl, f2⟩))
        go_roundw
        case rel => exact ⟨m + 1, by omega, by simp, hf.trans f2, HV2⟩
        case measure => simp [intOf]; omega
    · obtain rfl : m = ks.length := by omega
      have HA : Hid (ks.all Lib.validD = true) := Lib.hid (by have := HV.out; rwa [List.take_length] at this)
      clear HV
      go_upto_region 6 with fail
      have HT := Lib.hid HM.out.1
      go_cut [35] (fun v wx => v = .bool (decide (i ≠ 0 ∧ k ≠ 3) || decide (t ≠ [] ∧ k ≠ 4)) ∧ wr = wx)
      case first =>
        by_cases h1 : i = 0
        · have b1 : (i != 0) = false := by simpa using h1
          cases t with
          | nil =>
            go_wp2_with fail
            go_meet
            exact ⟨by simp [h1], rfl⟩
          | cons t0 t1 =>
            have hne : (t0 :: t1 : Bs) ≠ [] := by simp
            by_cases h2 : k = 4
            · have b2 : (k != 4) = false := by simpa using h2
              go_wp2_with fail
              go_meet
              exact ⟨by simp [h1, h2], rfl⟩
            · have b2 : (k != 4) = true := by simpa using h2
              go_wp2_with fail
              go_meet
              exact ⟨by simp [h1, h2], rfl⟩
        · have b1 : (i != 0) = true := by simpa using h1
          by_cases h3 : k = 3
          · have b3 : (k != 3) = false := by simpa using h3
            have h2 : k ≠ 4 := by omega
            have b2 : (k != 4) = true := by simpa using h2
            cases t with
            | nil =>
              go_wp2_with fail
              go_meet
              exact ⟨by simp [h3], rfl⟩
            | cons t0 t1 =>
              go_wp2_with fail
              go_meet
              exact ⟨by simp [h3], rfl⟩
          · have b3 : (k != 3) = true := by simpa using h3
            go_wp2_with fail
            go_meet
            exact ⟨by simp [h1, h3], rfl⟩
      case rest =>
        obtain ⟨rfl, rfl⟩ := hcut
        have ff := f0.trans hf
        by_cases h1 : i ≠ 0 ∧ k ≠ 3
        · have hF : F = false := by rw [← HF.out, dform_int h1]
          have hb : (decide (i ≠ 0 ∧ k ≠ 3) || decide (t ≠ [] ∧ k ≠ 4)) = true := by simp [h1]
          rw [hb]
          clear h1 hb
          go_wp2_with fail
          go_ret
          exact ⟨by rw [hF]; rfl, ff⟩
        · by_cases h2 : t ≠ [] ∧ k ≠ 4
          · have hF : F = false := by rw [← HF.out, dform_text h2]
            have hb : (decide (i ≠ 0 ∧ k ≠ 3) || decide (t ≠ [] ∧ k ≠ 4)) = true := by simp [h2]
            rw [hb]
            clear h1 h2 hb
            go_wp2_with fail
            go_ret
            exact ⟨by rw [hF]; rfl, ff⟩
          · have hb : (decide (i ≠ 0 ∧ k ≠ 3) || decide (t ≠ [] ∧ k ≠ 4)) = false := by rw [decide_eq_false h1, decide_eq_false h2]; rfl
            rw [hb]
            clear hb
            by_cases k0 : k = 0 ∨ k = 1 ∨ k = 2
            · have HFF := Lib.hid (HF.out.symm.trans (form_word (n := n) k0 HA.out h1 h2))
              clear h1 h2 HF HA
              rcases k0 with rfl | rfl | rfl
              · cases b1 : ((n : Int) == 0) with
                | false =>
                  go_wp2_with fail
                  go_ret
                  exact ⟨by rw [HFF.out, b1]; simp, ff⟩
                | true =>
                  cases b2 : ((ks.length : Int) == 0) with
                  | false =>
                    go_wp2_with fail
                    go_ret
                    exact ⟨by rw [HFF.out, b1, b2]; rfl, ff⟩
                  | true =>
                    go_wp2_with fail
                    go_ret
                    exact ⟨by rw [HFF.out, b1, b2]; rfl, ff⟩
              · cases b1 : ((n : Int) == 0) with
                | false =>
                  go_wp2_with fail
                  go_ret
                  exact ⟨by rw [HFF.out, b1]; simp, ff⟩
                | true =>
                  cases b2 : ((ks.length : Int) == 0) with
                  | false =>
                    go_wp2_with fail
                    go_ret
                    exact ⟨by rw [HFF.out, b1, b2]; rfl, ff⟩
                  | true =>
                    go_wp2_with fail
                    go_ret
                    exact ⟨by rw [HFF.out, b1, b2]; rfl, ff⟩
              · cases b1 : ((n : Int) == 0) with
                | false =>
                  go_wp2_with fail
                  go_ret
                  exact ⟨by rw [HFF.out, b1]; simp, ff⟩
                | true =>
                  cases b2 : ((ks.length : Int) == 0) with
                  | false =>
                    go_wp2_with fail
                    go_ret
                    exact ⟨by rw [HFF.out, b1, b2]; rfl, ff⟩
                  | true =>
                    go_wp2_with fail
                    go_ret
                    exact ⟨by rw [HFF.out, b1, b2]; rfl, ff⟩
            · by_cases k3 : k = 3
              · subst k3
                have HFF := Lib.hid (HF.out.symm.trans (form_num (n := n) HA.out h2))
                clear h1 h2 HF HA k0
                by_cases a1 : i ≤ 9007199254740991
                · by_cases a2 : -9007199254740991 ≤ i
                  · cases b1 : ((n : Int) == 0) with
                    | false =>
                      go_wp2_with fail
                      go_ret
                      exact ⟨by rw [HFF.out, decide_eq_true a1, decide_eq_true a2, b1]; simp, ff⟩
                    | true =>
                      cases b2 : ((ks.length : Int) == 0) with
                      | false =>
                        go_wp2_with fail
                        go_ret
                        exact ⟨by rw [HFF.out, decide_eq_true a1, decide_eq_true a2, b1, b2]; rfl, ff⟩
                      | true =>
                        go_wp2_with fail
                        go_ret
                        exact ⟨by rw [HFF.out, decide_eq_true a1, decide_eq_true a2, b1, b2]; rfl, ff⟩
                  · go_wp2_with fail
                    go_ret
                    exact ⟨by rw [HFF.out, decide_eq_true a1, decide_eq_false (show ¬ -9007199254740991 ≤ i by omega)]; rfl, ff⟩
                · go_wp2_with fail
                  go_ret
                  exact ⟨by rw [HFF.out, decide_eq_false (show ¬ i ≤ 9007199254740991 by omega)]; rfl, ff⟩
              · by_cases k4 : k = 4
                · subst k4
                  have HFF := Lib.hid (HF.out.symm.trans (form_str (n := n) HA.out h1))
                  have HU := Lib.hid (fun u => utf_any t u HT.out)
                  clear h1 h2 HF HA k0 k3
                  cases hv : Lib.validD t with
                  | false =>
                    rw [hv] at HU HFF
                    go_wp2_with (go_at_call 79; ((with_reducible refine (HU.out _).mono ?_); rintro e w2 ⟨rfl, f2⟩; obtain ⟨c0, c1, c2, c3, c4⟩ := HB.out w2 (hf.trans f2)))
                    go_ret
                    exact ⟨by rw [HFF.out]; rfl, ff.trans f2⟩
                  | true =>
                    rw [hv] at HU HFF
                    cases b1 : ((n : Int) == 0) with
                    | false =>
                      go_wp2_with (go_at_call 79; ((with_reducible refine (HU.out _).mono ?_); rintro e w2 ⟨rfl, f2⟩; obtain ⟨c0, c1, c2, c3, c4⟩ := HB.out w2 (hf.trans f2)))
                      go_ret
                      exact ⟨by rw [HFF.out, b1]; simp, ff.trans f2⟩
                    | true =>
                      cases b2 : ((ks.length : Int) == 0) with
                      | false =>
                        go_wp2_with (go_at_call 79; ((with_reducible refine (HU.out _).mono ?_); rintro e w2 ⟨rfl, f2⟩; obtain ⟨c0, c1, c2, c3, c4⟩ := HB.out w2 (hf.trans f2)))
                        go_ret
                        exact ⟨by rw [HFF.out, b1, b2]; rfl, ff.trans f2⟩
                      | true =>
                        go_wp2_with (go_at_call 79; ((with_reducible refine (HU.out _).mono ?_); rintro e w2 ⟨rfl, f2⟩; obtain ⟨c0, c1, c2, c3, c4⟩ := HB.out w2 (hf.trans f2)))
                        go_ret
                        exact ⟨by rw [HFF.out, b1, b2]; rfl, ff.trans f2⟩
                · by_cases k5 : k = 5
                  · subst k5
                    have HFF := Lib.hid (HF.out.symm.trans (form_list (n := n) HA.out h1 h2))
                    clear h1 h2 HF HA k0 k3 k4
                    cases b2 : ((ks.length : Int) == 0) with
                    | false =>
                      go_wp2_with fail
                      go_ret
                      exact ⟨by rw [HFF.out, b2]; rfl, ff⟩
                    | true =>
                      go_wp2_with fail
                      go_ret
                      exact ⟨by rw [HFF.out, b2]; rfl, ff⟩
                  · by_cases k6 : k = 6
                    · subst k6
                      have HFF := Lib.hid (HF.out.symm.trans (form_obj (n := n) HA.out h1 h2))
                      have HTW := Lib.hid (rtwice_any S ks _ wr (fun g hg => Nat.lt_of_lt_of_le (HS.out g hg) ff.size) (HK.out.fr (fun g hg => ff.block g (HS.out g hg) (fun e => e))) hkb)
                      clear h1 h2 HF HA k0 k3 k4 k5
                      cases b2 : ((ks.length : Int) == (n : Int)) with
                      | false =>
                        go_wp2_with fail
                        go_ret
                        exact ⟨by rw [HFF.out, b2]; rfl, ff⟩
                      | true =>
                        go_wp2_with (go_at_call 70; ((with_reducible refine HTW.out.mono ?_); rintro e w2 ⟨rfl, f2⟩))
                        go_ret
                        exact ⟨by rw [HFF.out, b2]; simp, ff.trans f2⟩
                    · have HFF := Lib.hid (HF.out.symm.trans (form_no (n := n) (i := i) (t := t) (ks := ks) (k := k) (by omega)))
                      have q0 : (k == 0) = false := by simp; omega
                      have q1 : (k == 1) = false := by simp; omega
                      have q2 : (k == 2) = false := by simp; omega
                      have q3 : (k == 3) = false := by simp; omega
                      have q4 : (k == 4) = false := by simp; omega
                      have q5 : (k == 5) = false := by simp; omega
                      have q6 : (k == 6) = false := by simp; omega
                      clear h1 h2 HF HA k0 k3 k4 k5 k6
                      go_wp2_with fail
                      go_ret
                      exact ⟨by rw [HFF.out]; rfl, ff⟩
end Go.Proofs.YteeijmfnjcddmaaGreatDoor
