/- JSON, the document's reader: escaped. -/
import Derived.Test.YteeijmfnjcddmaaGreatDoorRd
import Derived.Test.YteeijmfnjcddmaaGreatDoorTx
import Derived.Laws.Cover4
import Derived.Test.YteeijmfnjcddmaaGreatDoorQt
namespace Go.Proofs.YteeijmfnjcddmaaGreatDoor
open Go.RowKit

/-- The letters behind a backslash, and what they stand for. -/
def nmL : Bs := [34, 92, 47, 98, 102, 110, 114, 116]
def btL : Bs := [34, 92, 47, 8, 12, 10, 13, 9]
def nm (k : Nat) : UInt8 := nmL.getD k 0
def bt (k : Nat) : UInt8 := btL.getD k 0
theorem nm_get (k : Nat) (h : k < 8) : ((⟨#[34, 92, 47, 98, 102, 110, 114, 116]⟩ : ByteArray)[k]'h) = nm k := by revert k; decide
theorem bt_ext (k : Nat) (h : k < 8) : (⟨#[34, 92, 47, 8, 12, 10, 13, 9]⟩ : ByteArray).extract k (k + 1) = ⟨[bt k].toArray⟩ := by revert k; decide
theorem nm_esc (k : Nat) (h : k < 8) : escV (nm k) = bt k ∧ bt k ≠ 0 := by revert k; decide
theorem nm_none {c : UInt8} (h : ∀ j, j < 8 → nm j ≠ c) : escV c = 0 := by
  have a0 := h 0 (by omega); have a1 := h 1 (by omega); have a2 := h 2 (by omega); have a3 := h 3 (by omega)
  have a4 := h 4 (by omega); have a5 := h 5 (by omega); have a6 := h 6 (by omega); have a7 := h 7 (by omega)
  simp only [nm, nmL, List.getD_cons_zero, List.getD_cons_succ] at a0 a1 a2 a3 a4 a5 a6 a7
  unfold escV
  rw [if_neg (Ne.symm a0), if_neg (Ne.symm a1), if_neg (Ne.symm a2), if_neg (Ne.symm a3), if_neg (Ne.symm a4), if_neg (Ne.symm a5), if_neg (Ne.symm a6), if_neg (Ne.symm a7)]
theorem unit_some {s : Bs} {i n : Nat} {r : Bs} (h : unitP (s.drop i) = some (n, r)) : r = s.drop (i + 6) ∧ n < 65536 ∧ i + 6 ≤ s.length := by
  by_cases h6 : i + 6 ≤ s.length
  · rw [unit_at h6] at h
    split at h
    · rename_i hc
      simp only [Option.some.injEq, Prod.mk.injEq] at h
      obtain ⟨rfl, rfl⟩ := h
      refine ⟨rfl, pN_small _ 4 (by omega) (fun j hj => ?_), h6⟩
      cases hd : decide (hexV (dAt s i j) < 16) with
      | true => exact of_decide_eq_true hd
      | false => have := hexOk_not hj (of_decide_eq_false hd); rw [hc.2.2] at this; cases this
    · cases h
  · rw [unit_far (by omega)] at h; cases h
/-- What escaped has to do. -/
def EscQ (s : Bs) (i b : Nat) (w : World) (en : Ending) (w' : World) : Prop :=
  match escP (s.drop i) with
  | some (t, r) => en = .returned (sV t) ∧ (∃ k, QSt w' b s k 0 ∧ s.drop k = r ∧ i < k ∧ k ≤ s.length) ∧ Fr (Only b) w w'
  | none => en = .returned (sV []) ∧ (∃ k, QSt w' b s k 90 ∧ k ≤ s.length + 12) ∧ Fr (Only b) w w'
/-- .. where no letter stands. -/
def EscU (s : Bs) (i b : Nat) (w : World) (en : Ending) (w' : World) : Prop :=
  match escU (s.drop i) with
  | some (t, r) => en = .returned (sV t) ∧ (∃ k, QSt w' b s k 0 ∧ s.drop k = r ∧ i < k ∧ k ≤ s.length) ∧ Fr (Only b) w w'
  | none => en = .returned (sV []) ∧ (∃ k, QSt w' b s k 90 ∧ k ≤ s.length + 12) ∧ Fr (Only b) w w'
theorem esc_let {s : Bs} {i : Nat} (h : i + 1 < s.length) : escP (s.drop i) = if escV s[i + 1] ≠ 0 then some ([escV s[i + 1]], s.drop (i + 2)) else escU (s.drop i) := by
  rw [List.drop_eq_getElem_cons (show i < s.length by omega), List.drop_eq_getElem_cons h]
  rfl
theorem esc_end {s : Bs} {i : Nat} (h : ¬ i + 1 < s.length) : escP (s.drop i) = none := by
  have hl : (s.drop i).length < 2 := by rw [List.length_drop]; omega
  match s.drop i, hl with
  | [], _ => rfl
  | [_], _ => rfl
theorem escU_end {s : Bs} {i : Nat} (h : s.length < i + 6) : escU (s.drop i) = none := by
  unfold escU
  rw [unit_far h]

theorem conv_rune (u : World) (n : Int) : (convert 21 9 (.int .i32 n)).run Tryz.prog u = .ok (.string ⟨(Lib.encodeRune n).toArray⟩) u := by
  simp [convert, run_underlying Tryz.underlying21, run_underlying Tryz.underlying9, Conv.intToString, enc_eq]
theorem wrong_90 {b i e : Nat} {s : Bs} {w : World} (h : QSt w b s i e) : Calls Tryz.prog 42 #[.pointer (some ⟨b, 0, none⟩), .int .i64 90] w fun en w' => en = .returned (.tuple #[]) ∧ QSt w' b s i (if e = 0 then 90 else e) ∧ Fr (Only b) w w' := wrong_any h 90

set_option maxRecDepth 100000 in
set_option maxHeartbeats 6400000 in
theorem escaped_q {b i : Nat} {s : Bs} {w : World} (h : QSt w b s i 0) (hi : i < s.length) (hl : s.length ≤ 1048576) :
    Calls Tryz.prog 95 #[.pointer (some ⟨b, 0, none⟩)] w (EscQ s i b w) := by
  have HQ := Lib.hid h
  have hlb : s.length ≤ big := by unfold big; omega
  have HF : Hid (∀ u k e, QSt u b s k e → ∀ x, x ≤ s.length → Calls Tryz.prog 119 #[.pointer (some ⟨b, 0, none⟩), .int .i64 (x : Int)] u fun en w' => en = .returned (.int .i64 (fourP (s.drop x))) ∧ Fr NoB u w') := Lib.hid (fun u k e hq x hx => four_any hq x hx hlb)
  obtain ⟨c0, c1, c2, z1, z2⟩ := h.cells
  go_enter Tryz.func95, Tryz.ntmps95
  go_wp2_with fail
  go_quiet (fail)
  go_upto_if 18 with fail
  go_cut [] (fun wx => QSt wx b s i 0 ∧ Fr (Only b) w wx ∧ Hid (escP (s.drop i) = escU (s.drop i)))
  case first =>
    by_cases h1 : i + 1 < s.length
    · have hel := esc_let h1
      have k1 : (i : Int) + 1 < s.length := by omega
      have k0 : (0 : Int) ≤ (i : Int) + 1 := by omega
      have g1 := get_list s (i + 1) h1
      have HEL := Lib.hid hel
      clear hel
      generalize s[i + 1] = c at *
      go_wp2_with fail
      go_loopw [5] (fun v5 wr => ∃ k : Nat, k ≤ 8 ∧ v5 = .int .i64 (k : Int) ∧ Fr NoB w wr ∧ Hid (∀ j, j < k → nm j ≠ c)) (fun v5 _ => 8 - (intOf v5).toNat)
      case atStart => exact ⟨0, by omega, rfl, (Fr.refl _ w).drewN _, Lib.hid (fun j hj => absurd hj (by omega))⟩
      case round =>
        obtain ⟨k, hk, rfl, hf, HH⟩ := hrel
        have hqr := HQ.out.fr hf
        clear c0 c1 c2 z1 z2
        obtain ⟨c0, c1, c2, z1, z2⟩ := hqr.cells
        by_cases hk8 : k < 8
        · have i1 : (0 : Int) ≤ k := by omega
          have i2 : (k : Int) < 8 := by omega
          have i3 : (k : Int) + 1 ≤ 8 := by omega
          have i4 : (0 : Int) ≤ (k : Int) + 1 := by omega
          have i5 : (k : Int) ≤ (k : Int) + 1 := by omega
          have xk := nm_get k hk8
          have xe := bt_ext k hk8
          obtain ⟨hev, hbt⟩ := nm_esc k hk8
          have HK := Lib.hid (And.intro hev hbt)
          clear hev hbt
          by_cases hq : nm k = c
          · subst hq
            have HEE : Hid (escP (s.drop i) = some ([bt k], s.drop (i + 2))) := Lib.hid (by rw [HEL.out, HK.out.1, if_pos HK.out.2])
            clear HEL HH HK
            generalize nm k = c at *
            generalize bt k = d at *
            go_wp2_with fail
            go_quiet (fail)
            go_wp2_with fail
            go_ret
            unfold EscQ
            rw [HEE.out]
            exact ⟨rfl, ⟨i + 2, by simpa using (hqr.fr ((Fr.refl NoB wr).drewN nq)).goto (i + 2), rfl, by omega, by omega⟩, (hf.noB.drewN nq).only _⟩
          · have HH2 : Hid (∀ j, j < k + 1 → nm j ≠ c) := Lib.hid (fun j hj => by
              rcases Nat.lt_or_ge j k with h | h
              · exact HH.out j h
              · have : j = k := by omega
                subst this; exact hq)
            have hb : ((c.toNat : Int) == ((nm k).toNat : Int)) = false := by
              simp only [beq_eq_false_iff_ne, ne_eq]
              intro e
              apply hq
              exact (UInt8.toNat_inj.1 (by omega)).symm
            clear HH HK hq
            generalize nm k = d at *
            go_wp2_with fail
            go_quiet (fail)
            go_wp2_with fail
            go_roundw
            case rel => exact ⟨k + 1, by omega, by simp, hf.drewN _, HH2⟩
            case measure => simp [intOf]; omega
        · obtain rfl : k = 8 := by omega
          have e0 := nm_none HH.out
          go_wp2_with fail
          go_meet
          exact ⟨hqr, hf.noB, Lib.hid (by rw [HEL.out, if_neg (by simp [e0])])⟩
    · have k1 : ¬ (i : Int) + 1 < s.length := by omega
      have e1 := esc_end h1
      have e2 := escU_end (s := s) (i := i) (by omega)
      go_wp2_with fail
      go_meet
      exact ⟨HQ.out.fr ((Fr.refl NoB w).drewN _), (Fr.refl _ w).drewN _, Lib.hid (by rw [e1, e2])⟩
  case rest =>
    obtain ⟨hq0, f0, HE0⟩ := hcut
    clear c0 c1 c2 z1 z2
    obtain ⟨c0, c1, c2, z1, z2⟩ := hq0.cells
    cases hu : unitP (s.drop i) with
    | none =>
      have HEN : Hid (escP (s.drop i) = none) := Lib.hid (by rw [HE0.out]; unfold escU; rw [hu])
      obtain ⟨z, hz, hz0⟩ : ∃ z : Int, fourP (s.drop i) = z ∧ z < 0 := ⟨-1, by unfold fourP; rw [hu], by omega⟩
      have HZ := Lib.hid hz
      clear hu hz
      go_wp2_with (first | (go_at_call 119; ((with_reducible refine (HF.out _ _ _ hq0 i (by omega)).mono ?_); rintro e w1 ⟨rfl, f1⟩; rw [HZ.out]; have hq1 := hq0.fr f1)) | (go_at_call 42; ((with_reducible refine (wrong_90 hq1).mono ?_); rintro e w2 ⟨rfl, hq2, f2⟩)))
      go_ret
      unfold EscQ
      rw [HEN.out]
      exact ⟨rfl, ⟨i, by simpa using hq2, by omega⟩, (f0.trans f1.noB).trans f2⟩
    | some p =>
      obtain ⟨n, r⟩ := p
      obtain ⟨hr, hn, h6⟩ := unit_some hu
      have HZ : Hid (fourP (s.drop i) = n) := Lib.hid (by unfold fourP; rw [hu])
      have hn0 : ¬ (n : Int) < 0 := by omega
      by_cases hdc : 56320 ≤ n ∧ n ≤ 57343
      · have HEN : Hid (escP (s.drop i) = none) := Lib.hid (by rw [HE0.out]; unfold escU; rw [hu]; simp only; rw [if_neg (by omega), if_pos (by omega)])
        have k1 : (56320 : Int) ≤ n := by omega
        have k2 : (n : Int) ≤ 57343 := by omega
        clear hu
        go_wp2_with (first | (go_at_call 119; ((with_reducible refine (HF.out _ _ _ hq0 i (by omega)).mono ?_); rintro e w1 ⟨rfl, f1⟩; rw [HZ.out]; have hq1 := hq0.fr f1)) | (go_at_call 42; ((with_reducible refine (wrong_90 hq1).mono ?_); rintro e w2 ⟨rfl, hq2, f2⟩)))
        go_ret
        unfold EscQ
        rw [HEN.out]
        exact ⟨rfl, ⟨i, by simpa using hq2, by omega⟩, (f0.trans f1.noB).trans f2⟩
      · by_cases hd8 : 55296 ≤ n ∧ n ≤ 56319
        · have hz8 : (55296 : Int) ≤ n := by omega
          have hz9 : (n : Int) ≤ 56319 := by omega
          have HF6 : Hid (∀ u k e, QSt u b s k e → Calls Tryz.prog 119 #[.pointer (some ⟨b, 0, none⟩), .int .i64 ((i : Int) + 6)] u fun en w' => en = .returned (.int .i64 (fourP (s.drop (i + 6)))) ∧ Fr NoB u w') := Lib.hid (fun u k e hq => by
            have := HF.out u k e hq (i + 6) h6
            rwa [show ((i + 6 : Nat) : Int) = (i : Int) + 6 by omega] at this)
          subst hr
          have tok1 : True := trivial
          have he1 : escU (s.drop i) = match unitP (s.drop (i + 6)) with | none => none | some (m, r2) => if 0xdc00 ≤ m ∧ m ≤ 0xdfff then some (Lib.encodeRune ((0x10000 + (n - 0xd800) * 0x400 + (m - 0xdc00) : Nat) : Int), r2) else none := by
            unfold escU; rw [hu]; simp only; rw [if_pos hd8]; rfl
          cases hv : unitP (s.drop (i + 6)) with
          | none =>
            have HEN : Hid (escP (s.drop i) = none) := Lib.hid (by rw [HE0.out, he1, hv])
            obtain ⟨z2, hz2, hz20⟩ : ∃ z : Int, fourP (s.drop (i + 6)) = z ∧ z < 0 := ⟨-1, by unfold fourP; rw [hv], by omega⟩
            have HZ2 := Lib.hid hz2
            clear hu hz2 hv he1 hn0 hdc hd8 hn
            generalize (n : Int) = z at *
            have k1 : ¬ z < 0 := by omega
            have k2 : ¬ (56320 : Int) ≤ z := by omega
            have k3 : ¬ z < 55296 := by omega
            have k4 : ¬ (56319 : Int) < z := by omega
            have k5 : z2 < 56320 := by omega
            go_wp2_with (first | (go_at_call 119; have _t := tok1; ((with_reducible refine (HF.out _ _ _ hq0 i (by omega)).mono ?_); rintro e w1 ⟨rfl, f1⟩; rw [HZ.out]; have hq1 := hq0.fr f1; have hq2 := hq1.goto (i + 6); rw [show ((i + 6 : Nat) : Int) = (i : Int) + 6 by omega] at hq2; obtain ⟨d0, d1, d2, y1, y2⟩ := hq1.cells; clear tok1)) | (go_at_call 119; ((with_reducible refine (HF6.out _ _ _ hq2).mono ?_); rintro e w2 ⟨rfl, f2⟩; rw [HZ2.out]; have hq3 := hq2.fr f2; obtain ⟨a0, a1, a2, t1, t2⟩ := hq3.cells)) | (go_at_call 42; ((with_reducible refine (wrong_90 hq3).mono ?_); rintro e w3 ⟨rfl, hq4, f3⟩)))
            go_ret
            unfold EscQ
            rw [HEN.out]
            exact ⟨rfl, ⟨i + 6, by simpa using hq4, by omega⟩, (((f0.trans f1.noB).only _).trans f2.noB).trans f3⟩
          | some p =>
            obtain ⟨m, r2⟩ := p
            obtain ⟨hr2, hm, h12⟩ := unit_some hv
            have HZ2 : Hid (fourP (s.drop (i + 6)) = m) := Lib.hid (by unfold fourP; rw [hv])
            by_cases hmd : 56320 ≤ m ∧ m ≤ 57343
            · have hm8 : (56320 : Int) ≤ m := by omega
              have hm9 : (m : Int) ≤ 57343 := by omega
              have HEN : Hid (escP (s.drop i) = some (Lib.encodeRune (65536 + 1024 * ((n : Int) - 55296) + (m : Int) - 56320), r2)) := Lib.hid (by
                rw [HE0.out, he1, hv]
                simp only
                rw [if_pos hmd]
                have : ((0x10000 + (n - 0xd800) * 0x400 + (m - 0xdc00) : Nat) : Int) = 65536 + 1024 * ((n : Int) - 55296) + (m : Int) - 56320 := by omega
                rw [this])
              have HCV := Lib.hid (fun u => conv_rune u (65536 + 1024 * ((n : Int) - 55296) + (m : Int) - 56320))
              clear hu hv he1 hn0 hdc hd8 hn hmd hm
              generalize (n : Int) = z at *
              generalize (m : Int) = z2 at *
              generalize Lib.encodeRune (65536 + 1024 * (z - 55296) + z2 - 56320) = E at *
              have k1 : ¬ z < 0 := by omega
              have k2 : ¬ (56320 : Int) ≤ z := by omega
              have k3 : ¬ z < 55296 := by omega
              have k4 : ¬ (56319 : Int) < z := by omega
              have k5 : ¬ z2 < 56320 := by omega
              have k6 : ¬ (57343 : Int) < z2 := by omega
              go_upto_region 21 with (first | (go_at_call 119; have _t := tok1; ((with_reducible refine (HF.out _ _ _ hq0 i (by omega)).mono ?_); rintro e w1 ⟨rfl, f1⟩; rw [HZ.out]; have hq1 := hq0.fr f1; have hq2 := hq1.goto (i + 6); rw [show ((i + 6 : Nat) : Int) = (i : Int) + 6 by omega] at hq2; obtain ⟨d0, d1, d2, y1, y2⟩ := hq1.cells; clear tok1)) | (go_at_call 119; ((with_reducible refine (HF6.out _ _ _ hq2).mono ?_); rintro e w2 ⟨rfl, f2⟩; rw [HZ2.out]; have hq3 := hq2.fr f2; obtain ⟨a0, a1, a2, t1, t2⟩ := hq3.cells)))
              have hcv := HCV.out (w2.setCell ⟨b, 1, none⟩ (.int .i64 ((i : Int) + 6 + 6)))
              have hcv2 := HCV.out (w2.setCell ⟨b, 1, none⟩ (.int .i64 ((i : Int) + 12)))
              go_wp2_with fail
              go_ret
              unfold EscQ
              rw [HEN.out]
              subst hr2
              exact ⟨rfl, ⟨i + 6 + 6, by simpa using hq3.goto (i + 6 + 6), rfl, by omega, by omega⟩, (((f0.trans f1.noB).only _).trans f2.noB).only _⟩
            · have HEN : Hid (escP (s.drop i) = none) := Lib.hid (by rw [HE0.out, he1, hv]; simp only; rw [if_neg hmd])
              have hz20 : (m : Int) < 56320 ∨ (57343 : Int) < m := by omega
              clear hu hv he1 hn0 hdc hd8 hn hmd hm
              generalize (n : Int) = z at *
              generalize (m : Int) = z2 at *
              have k1 : ¬ z < 0 := by omega
              have k2 : ¬ (56320 : Int) ≤ z := by omega
              have k3 : ¬ z < 55296 := by omega
              have k4 : ¬ (56319 : Int) < z := by omega
              rcases hz20 with k5 | k5
              · go_wp2_with (first | (go_at_call 119; have _t := tok1; ((with_reducible refine (HF.out _ _ _ hq0 i (by omega)).mono ?_); rintro e w1 ⟨rfl, f1⟩; rw [HZ.out]; have hq1 := hq0.fr f1; have hq2 := hq1.goto (i + 6); rw [show ((i + 6 : Nat) : Int) = (i : Int) + 6 by omega] at hq2; obtain ⟨d0, d1, d2, y1, y2⟩ := hq1.cells; clear tok1)) | (go_at_call 119; ((with_reducible refine (HF6.out _ _ _ hq2).mono ?_); rintro e w2 ⟨rfl, f2⟩; rw [HZ2.out]; have hq3 := hq2.fr f2; obtain ⟨a0, a1, a2, t1, t2⟩ := hq3.cells)) | (go_at_call 42; ((with_reducible refine (wrong_90 hq3).mono ?_); rintro e w3 ⟨rfl, hq4, f3⟩)))
                go_ret
                unfold EscQ
                rw [HEN.out]
                exact ⟨rfl, ⟨i + 6, by simpa using hq4, by omega⟩, (((f0.trans f1.noB).only _).trans f2.noB).trans f3⟩
              · have k6 : ¬ z2 < 56320 := by omega
                go_wp2_with (first | (go_at_call 119; have _t := tok1; ((with_reducible refine (HF.out _ _ _ hq0 i (by omega)).mono ?_); rintro e w1 ⟨rfl, f1⟩; rw [HZ.out]; have hq1 := hq0.fr f1; have hq2 := hq1.goto (i + 6); rw [show ((i + 6 : Nat) : Int) = (i : Int) + 6 by omega] at hq2; obtain ⟨d0, d1, d2, y1, y2⟩ := hq1.cells; clear tok1)) | (go_at_call 119; ((with_reducible refine (HF6.out _ _ _ hq2).mono ?_); rintro e w2 ⟨rfl, f2⟩; rw [HZ2.out]; have hq3 := hq2.fr f2; obtain ⟨a0, a1, a2, t1, t2⟩ := hq3.cells)) | (go_at_call 42; ((with_reducible refine (wrong_90 hq3).mono ?_); rintro e w3 ⟨rfl, hq4, f3⟩)))
                go_ret
                unfold EscQ
                rw [HEN.out]
                exact ⟨rfl, ⟨i + 6, by simpa using hq4, by omega⟩, (((f0.trans f1.noB).only _).trans f2.noB).trans f3⟩
        · have HEN : Hid (escP (s.drop i) = some (Lib.encodeRune n, r)) := Lib.hid (by rw [HE0.out]; unfold escU; rw [hu]; simp only; rw [if_neg (by omega), if_neg (by omega)])
          clear hu
          subst hr
          have hz0 : (0 : Int) ≤ n := by omega
          have hz1 : (n : Int) < 65536 := by omega
          have hp : (n : Int) < 55296 ∨ (57343 : Int) < n := by omega
          have HCV := Lib.hid (fun u => conv_rune u (n : Int))
          clear hn0 hn hdc hd8
          generalize (n : Int) = z at *
          have hn0 : ¬ z < 0 := by omega
          generalize Lib.encodeRune z = E at *
          rcases hp with hp | hp
          · have k4 : ¬ (56320 : Int) ≤ z := by omega
            go_upto_region 15 with (first | (go_at_call 119; ((with_reducible refine (HF.out _ _ _ hq0 i (by omega)).mono ?_); rintro e w1 ⟨rfl, f1⟩; rw [HZ.out]; have hq1 := hq0.fr f1; obtain ⟨d0, d1, d2, y1, y2⟩ := hq1.cells)))
            have hcv := HCV.out (w1.setCell ⟨b, 1, none⟩ (.int .i64 ((i : Int) + 6)))
            go_wp2_with fail
            go_ret
            unfold EscQ
            rw [HEN.out]
            exact ⟨rfl, ⟨i + 6, by simpa using hq1.goto (i + 6), rfl, by omega, h6⟩, (f0.trans f1.noB).only _⟩
          · have k4 : (56320 : Int) ≤ z := by omega
            have k5 : ¬ z ≤ 57343 := by omega
            have k6 : ¬ z < 55296 := by omega
            have k7 : (56319 : Int) < z := by omega
            go_upto_region 15 with (first | (go_at_call 119; ((with_reducible refine (HF.out _ _ _ hq0 i (by omega)).mono ?_); rintro e w1 ⟨rfl, f1⟩; rw [HZ.out]; have hq1 := hq0.fr f1; obtain ⟨d0, d1, d2, y1, y2⟩ := hq1.cells)))
            have hcv := HCV.out (w1.setCell ⟨b, 1, none⟩ (.int .i64 ((i : Int) + 6)))
            go_wp2_with fail
            go_ret
            unfold EscQ
            rw [HEN.out]
            exact ⟨rfl, ⟨i + 6, by simpa using hq1.goto (i + 6), rfl, by omega, h6⟩, (f0.trans f1.noB).only _⟩
end Go.Proofs.YteeijmfnjcddmaaGreatDoor
/- JSON, the document's reader: text. -/
namespace Go.Proofs.YteeijmfnjcddmaaGreatDoor
open Go.RowKit

/-- What text has to do. -/
def TxtIs (s : Bs) (i b : Nat) (w : World) (en : Ending) (w' : World) : Prop :=
  match textP (s.drop i) with
  | some (t, r) => en = .returned (sV t) ∧ (∃ k, QSt w' b s k 0 ∧ blanks (s.drop k) = r ∧ i < k ∧ k ≤ s.length) ∧ Fr (Only b) w w'
  | none => ∃ t, en = .returned (sV t) ∧ (∃ k, QSt w' b s k 90 ∧ k ≤ s.length + 12) ∧ Fr (Only b) w w'
theorem strP_step (f : Nat) (c : UInt8) (r acc : Bs) : strP (f + 1) (c :: r) acc = if c < 32 then none else if c = 34 then (if Lib.validD acc then some (acc, blanks r) else none) else if c = 92 then (match escP (c :: r) with | none => none | some (b, r') => strP f r' (acc ++ b)) else strP f r (acc ++ [c]) := rfl
theorem drop_one {s : Bs} {k : Nat} (h : k < s.length) : s.drop k = byteAt s k :: s.drop (k + 1) := by
  rw [List.drop_eq_getElem_cons h]
  simp [byteAt, List.getD, h]
theorem BR.only {lo : Nat} {w w' : World} {v : Value} {s : Bs} {b : Nat} (h : BR lo w v s) (f : Fr (Only b) w w') (hb : b < lo) : BR lo w' v s := f.row h (fun g hg e => by
  have := (h.lt hg).1
  have e' : g = b := e
  omega)

set_option maxRecDepth 100000 in
set_option maxHeartbeats 6400000 in
theorem text_q {b i : Nat} {s : Bs} {w : World} (h : QSt w b s i 0) (hb : b < w.heap.size) (hi : i ≤ s.length) (hl : s.length ≤ 1048576) :
    Calls Tryz.prog 69 #[.pointer (some ⟨b, 0, none⟩)] w (TxtIs s i b w) := by
  have f0 : Fr NoB w (w.alloc (.cells #[] 5)) := (Fr.refl _ _).alloc _
  have r0 : BR w.heap.size (w.alloc (.cells #[] 5)) (.slice (some ⟨w.heap.size, 0, none⟩) 0 0) [] := own_empty w w.heap.size w.heap.size 5 1 rfl (Nat.le_refl _)
  have q0 := h.fr f0
  generalize hW : w.alloc (.cells #[] 5) = W at *
  have HW := Lib.hid hW
  clear hW
  obtain ⟨c0, c1, c2, z1, z2⟩ := q0.cells
  go_enter Tryz.func69, Tryz.ntmps69
  by_cases h34 : i < s.length ∧ byteAt s i = 34
  · obtain ⟨hlt, h34⟩ := h34
    have HQ : Hid (textP (s.drop i) = strP (s.drop i).length (s.drop (i + 1)) []) := Lib.hid (by rw [drop_one hlt, h34]; rfl)
    have HA : Hid (Calls Tryz.prog 68 #[.pointer (some ⟨b, 0, none⟩)] W fun en w' => en = .returned (.int .u8 34) ∧ Fr NoB W w') := Lib.hid (by have := at_q q0; rw [h34] at this; exact this)
    have HTQ : Hid (∀ en w', TxtIs s i b w en w' ↔ TxtIs s i b w en w') := Lib.hid (fun _ _ => Iff.rfl)
    clear HTQ
    generalize hQe : textP (s.drop i) = Q at HQ
    have HQe := Lib.hid hQe
    have HQ0 : Hid (∃ f, strP f (s.drop (i + 1)) [] = Q ∧ (s.drop (i + 1)).length < f) := Lib.hid ⟨_, HQ.out.symm, by simp; omega⟩
    clear HQ hQe h34
    go_wp2_with (first | (rw [HW.out]) | (go_at_call 68; ((with_reducible refine HA.out.mono ?_); rintro e w1 ⟨rfl, f1⟩; have q1 := q0.fr f1; have r1 := r0.fr f1; obtain ⟨d0, d1, d2, y1, y2⟩ := q1.cells)))
    have q2 := q1.goto (i + 1)
    rw [show ((i + 1 : Nat) : Int) = (i : Int) + 1 by omega] at q2
    have r2 := r1.only ((Fr.refl _ w1).only (b := b) (o := 1) (.int .i64 ((i : Int) + 1))) hb
    have F2 : Fr (Only b) w (w1.setCell ⟨b, 1, none⟩ (.int .i64 ((i : Int) + 1))) := (f0.noB.trans f1.noB).only _
    clear c0 c1 c2 z1 z2 d0 d1 d2 y1 y2
    go_loopw [3, 4] (fun v3 _ wr => ∃ (k e : Nat) (acc : Bs), k ≤ s.length + 12 ∧ QSt wr b s k e ∧ BR w.heap.size wr v3 acc ∧ Fr (Only b) w wr ∧ Hid ((e = 0 ∧ k ≤ s.length ∧ i < k ∧ acc.length ≤ 4 * k ∧ ∃ f, strP f (s.drop k) acc = Q ∧ (s.drop k).length < f) ∨ (e = 90 ∧ Q = none))) (fun _ _ wr => if intAt wr ⟨b, 2, none⟩ = 0 then s.length - intAt wr ⟨b, 1, none⟩ + 1 else 0)
    case atStart => exact ⟨i + 1, 0, [], by omega, by simpa using q2, r2, F2, Lib.hid (Or.inl ⟨rfl, by omega, by omega, by simp, HQ0.out⟩)⟩
    case round =>
      clear q0 q1 q2 r0 r1 r2 f1 F2 HA
      obtain ⟨k, e, acc, hk12, hq, hr, hf, HI⟩ := hrel
      obtain ⟨c0, c1, c2, z1, z2⟩ := hq.cells
      have hsz := hf.size
      rcases HI.out with ⟨he, hk, hik, hal, hstr⟩ | ⟨he, hQn⟩
      · subst he
        have HS := Lib.hid hstr
        have m1 : intAt wr ⟨b, 2, none⟩ = 0 := by unfold intAt; rw [c2]; rfl
        have m2 : intAt wr ⟨b, 1, none⟩ = k := by unfold intAt; rw [c1]; simp
        have HM := Lib.hid (And.intro m1 m2)
        clear hstr HI m1 m2
        have HAT := Lib.hid (at_q hq)
        by_cases h32 : byteAt s k < 32
        · have hQn : Q = none := by
            obtain ⟨f, h1, h2⟩ := HS.out
            rw [← h1]
            by_cases hkl : k < s.length
            · cases f with
              | zero => omega
              | succ f => rw [drop_one hkl, strP_step, if_pos h32]
            · rw [List.drop_eq_nil_of_le (by omega)]
              cases f with
              | zero => rfl
              | succ f => rfl
          have i1 : ((byteAt s k).toNat : Int) < 32 := by have := UInt8.lt_iff_toNat_lt.1 h32; simp at this; omega
          have i2 : (((byteAt s k).toNat : Int) == 34) = false := by simp; omega
          clear HS h32
          generalize byteAt s k = c at *
          go_wp2_with (first | (go_at_call 68; ((with_reducible refine HAT.out.mono ?_); rintro e w1 ⟨rfl, f1⟩; have q1 := hq.fr f1)) | (go_at_call 42; ((with_reducible refine (wrong_90 q1).mono ?_); rintro e w2 ⟨rfl, q2, f2⟩)))
          have q3 : QSt w2 b s k 90 := by simpa using q2
          go_roundw
          case rel => exact ⟨k, 90, acc, hk12, q3, (hr.fr f1).only f2 hb, (hf.trans f1.noB).trans f2, Lib.hid (Or.inr ⟨rfl, hQn⟩)⟩
          case measure =>
            have m3 : intAt w2 ⟨b, 2, none⟩ = 90 := by unfold intAt; rw [q3.cells.2.2.1]; rfl
            rw [HM.out.1, m3]
            simp
        · have i1 : ¬ ((byteAt s k).toNat : Int) < 32 := by have := mt UInt8.lt_iff_toNat_lt.2 h32; simp at this; omega
          have hkl : k < s.length := Classical.byContradiction fun hn => by
            apply h32
            simp [byteAt, List.getD, hn]
          have hdr := drop_one hkl
          obtain ⟨f, hst, hfl⟩ := HS.out
          rw [hdr] at hst hfl
          simp only [List.length_cons] at hfl
          obtain ⟨f', rfl⟩ : ∃ f', f = f' + 1 := ⟨f - 1, by omega⟩
          rw [strP_step, if_neg h32] at hst
          by_cases h34 : byteAt s k = 34
          · rw [if_pos h34] at hst
            rw [h34] at HAT i1
            have HU := Lib.hid (fun u => utf_any acc u (by omega))
            have HST := Lib.hid hst
            have HAT2 : Hid (Calls Tryz.prog 68 #[.pointer (some ⟨b, 0, none⟩)] wr fun en w' => en = .returned (.int .u8 34) ∧ Fr NoB wr w') := Lib.hid HAT.out
            clear hst hfl hdr HS h32 h34 i1 HAT
            have atarm : True := trivial
            cases hv : Lib.validD acc with
            | true =>
              rw [hv] at HU
              have hQs : Q = some (acc, blanks (s.drop (k + 1))) := by rw [← HST.out, if_pos hv]
              clear hv
              go_upto_region 12 with (go_at_call 68; ((with_reducible refine HAT2.out.mono ?_); rintro e w1 ⟨rfl, f1⟩; have q1 := hq.fr f1; obtain ⟨d0, d1, d2, y1, y2⟩ := q1.cells))
              have q2 := q1.goto (k + 1)
              rw [show ((k + 1 : Nat) : Int) = (k : Int) + 1 by omega] at q2
              have r2 := (hr.fr f1).only ((Fr.refl _ w1).only (b := b) (o := 1) (.int .i64 ((k : Int) + 1))) hb
              have F2 : Fr (Only b) w (w1.setCell ⟨b, 1, none⟩ (.int .i64 ((k : Int) + 1))) := (hf.trans f1.noB).only _
              have hcv := r2.conv
              go_wp2_with (go_at_call 79; ((with_reducible refine (HU.out _).mono ?_); rintro e w2 ⟨rfl, f2⟩; have hcv2 := (r2.fr f2).conv))
              go_ret
              unfold TxtIs
              rw [HQe.out, hQs]
              exact ⟨rfl, ⟨k + 1, by simpa using q2.fr f2, rfl, by omega, by omega⟩, F2.trans f2.noB⟩
            | false =>
              rw [hv] at HU
              have hQs : Q = none := by rw [← HST.out, hv]; rfl
              clear hv
              go_upto_region 12 with (go_at_call 68; ((with_reducible refine HAT2.out.mono ?_); rintro e w1 ⟨rfl, f1⟩; have q1 := hq.fr f1; obtain ⟨d0, d1, d2, y1, y2⟩ := q1.cells))
              have q2 := q1.goto (k + 1)
              rw [show ((k + 1 : Nat) : Int) = (k : Int) + 1 by omega] at q2
              have r2 := (hr.fr f1).only ((Fr.refl _ w1).only (b := b) (o := 1) (.int .i64 ((k : Int) + 1))) hb
              have F2 : Fr (Only b) w (w1.setCell ⟨b, 1, none⟩ (.int .i64 ((k : Int) + 1))) := (hf.trans f1.noB).only _
              have hcv := r2.conv
              go_wp2_with (first | (go_at_call 79; ((with_reducible refine (HU.out _).mono ?_); rintro e w2 ⟨rfl, f2⟩; have q3 := q2.fr f2)) | (go_at_call 42; ((with_reducible refine (wrong_90 q3).mono ?_); rintro e w3 ⟨rfl, q4, f3⟩; have hcv3 := ((r2.fr f2).only f3 hb).conv)))
              go_ret
              unfold TxtIs
              rw [HQe.out, hQs]
              exact ⟨acc, rfl, ⟨k + 1, by simpa using q4, by omega⟩, (F2.trans f2.noB).trans f3⟩
          · rw [if_neg h34] at hst
            have b34 : (((byteAt s k).toNat : Int) == 34) = false := u8_ne 34 (by omega) h34
            by_cases h92 : byteAt s k = 92
            · rw [if_pos h92] at hst
              rw [← hdr] at hst
              rw [h92] at HAT
              have HAT2 : Hid (Calls Tryz.prog 68 #[.pointer (some ⟨b, 0, none⟩)] wr fun en w' => en = .returned (.int .u8 92) ∧ Fr NoB wr w') := Lib.hid HAT.out
              have HES := Lib.hid (fun u (q : QSt u b s k 0) => escaped_q q hkl hl)
              have HST := Lib.hid hst
              clear hst hdr HS h32 h34 i1 b34 HAT h92
              cases hes : escP (s.drop k) with
              | none =>
                have hQn : Q = none := by rw [← HST.out, hes]
                have HES2 : Hid (∀ u, QSt u b s k 0 → Calls Tryz.prog 95 #[.pointer (some ⟨b, 0, none⟩)] u fun en w' => en = .returned (sV []) ∧ (∃ k', QSt w' b s k' 90 ∧ k' ≤ s.length + 12) ∧ Fr (Only b) u w') := Lib.hid (fun u q => by
                  have := HES.out u q
                  unfold EscQ at this
                  rwa [hes] at this)
                clear HES hes HST
                go_wp2_with (first | (go_at_call 68; ((with_reducible refine HAT2.out.mono ?_); rintro e w1 ⟨rfl, f1⟩; have q1 := hq.fr f1; have r1 := hr.fr f1)) | (go_at_call 95; ((with_reducible refine (HES2.out _ q1).mono ?_); rintro e w2 ⟨rfl, ⟨k', q2, hk'⟩, f2⟩; have r2 := r1.only f2 hb; have hs2 := f2.size; have hs1 := f1.size)) | (at_builtin; go_loud (refine br_str rfl _ _ rfl w.heap.size u3 acc rfl r2 [] rfl (by simp; omega) (by omega) ?_; intro v4 w4 r4 hgr)))
                have q4 : QSt w4 b s k' 90 := (hgr.block b (Blk.lt q2) (fun e => by have := (r2.lt e.symm).1; omega)).trans q2
                have f4 : Fr (Only b) w w4 := ((hf.trans f1.noB).trans f2).grown hgr (fun j hj hlt => absurd (r2.lt hj).1 (by omega))
                go_roundw
                case rel => exact ⟨k', 90, acc ++ [], hk', q4, r4, f4, Lib.hid (Or.inr ⟨rfl, hQn⟩)⟩
                case measure =>
                  have m3 : intAt w4 ⟨b, 2, none⟩ = 90 := by unfold intAt; rw [q4.cells.2.2.1]; rfl
                  rw [HM.out.1, m3]
                  simp
              | some p =>
                obtain ⟨t, r'⟩ := p
                obtain ⟨ht4, hr'⟩ := escP_len hes
                have HES2 : Hid (∀ u, QSt u b s k 0 → Calls Tryz.prog 95 #[.pointer (some ⟨b, 0, none⟩)] u fun en w' => en = .returned (sV t) ∧ (∃ k', QSt w' b s k' 0 ∧ s.drop k' = r' ∧ k < k' ∧ k' ≤ s.length) ∧ Fr (Only b) u w') := Lib.hid (fun u q => by
                  have := HES.out u q
                  unfold EscQ at this
                  rwa [hes] at this)
                have hst2 : strP f' r' (acc ++ t) = Q := by rw [← HST.out, hes]
                have HST2 := Lib.hid hst2
                have hr2 : r'.length < f' := by simp at hr'; simp at hfl; omega
                clear HES hes HST hst2 hr'
                go_wp2_with (first | (go_at_call 68; ((with_reducible refine HAT2.out.mono ?_); rintro e w1 ⟨rfl, f1⟩; have q1 := hq.fr f1; have r1 := hr.fr f1)) | (go_at_call 95; ((with_reducible refine (HES2.out _ q1).mono ?_); rintro e w2 ⟨rfl, ⟨k', q2, hdk, hkk, hk'⟩, f2⟩; have r2 := r1.only f2 hb; have hs2 := f2.size; have hs1 := f1.size)) | (at_builtin; go_loud (refine br_str rfl _ _ rfl w.heap.size u3 acc rfl r2 t rfl (by omega) (by omega) ?_; intro v4 w4 r4 hgr)))
                have q4 : QSt w4 b s k' 0 := (hgr.block b (Blk.lt q2) (fun e => by have := (r2.lt e.symm).1; omega)).trans q2
                have f4 : Fr (Only b) w w4 := ((hf.trans f1.noB).trans f2).grown hgr (fun j hj hlt => absurd (r2.lt hj).1 (by omega))
                go_roundw
                case rel => exact ⟨k', 0, acc ++ t, by omega, q4, r4, f4, Lib.hid (Or.inl ⟨rfl, hk', by omega, by simp; omega, f', by rw [hdk]; exact HST2.out, by rw [hdk]; exact hr2⟩)⟩
                case measure =>
                  have m3 : intAt w4 ⟨b, 2, none⟩ = 0 := by unfold intAt; rw [q4.cells.2.2.1]; rfl
                  have m4 : intAt w4 ⟨b, 1, none⟩ = k' := by unfold intAt; rw [q4.cells.2.1]; simp
                  rw [HM.out.1, HM.out.2, m3, m4]
                  simp; omega
            · rw [if_neg h92] at hst
              have b92 : (((byteAt s k).toNat : Int) == 92) = false := u8_ne 92 (by omega) h92
              have HST := Lib.hid hst
              clear hst hdr HS h32 h34 h92
              generalize byteAt s k = c at *
              go_upto_region 9 with (first | (go_at_call 68; ((with_reducible refine HAT.out.mono ?_); rintro e w1 ⟨rfl, f1⟩; have q1 := hq.fr f1; have r1 := (hr.fr f1).fr ((Fr.refl NoB w1).alloc (.cells #[.int .u8 (c.toNat : Int)] 5)); have hs1 := f1.size)) | (at_builtin; go_loud (refine br_row rfl _ _ rfl w.heap.size u3 acc rfl r1 w1.heap.size 1 1 [c] rfl rfl (new_cells w1 #[.int .u8 (c.toNat : Int)] [c] rfl) (by simp; omega) (by simp; omega) ?_; intro v4 w4 r4 hgr)))
              have q2 : QSt w4 b s k 0 := (hgr.block b (Blk.lt (q1.fr ((Fr.refl NoB w1).alloc _))) (fun e => by have := (r1.lt e.symm).1; omega)).trans (q1.fr ((Fr.refl NoB w1).alloc _))
              have f4 : Fr (Only b) w w4 := ((hf.trans f1.noB).alloc _).grown hgr (fun j hj hlt => absurd (r1.lt hj).1 (by omega))
              clear c0 c1 c2 z1 z2
              obtain ⟨c0, c1, c2, z1, z2⟩ := q2.cells
              have q3 := q2.goto (k + 1)
              rw [show ((k + 1 : Nat) : Int) = (k : Int) + 1 by omega] at q3
              go_wp2_with fail
              go_roundw
              case rel => exact ⟨k + 1, 0, acc ++ [c], by omega, by simpa using q3, r4.only ((Fr.refl _ w4).only _) hb, f4.only _, Lib.hid (Or.inl ⟨rfl, by omega, by omega, by simp; omega, f', HST.out, by omega⟩)⟩
              case measure =>
                have m3 : intAt (w4.setCell ⟨b, 1, none⟩ (.int .i64 ((k : Int) + 1))) ⟨b, 2, none⟩ = 0 := by unfold intAt; rw [q3.cells.2.2.1]; rfl
                have m4 : intAt (w4.setCell ⟨b, 1, none⟩ (.int .i64 ((k : Int) + 1))) ⟨b, 1, none⟩ = k + 1 := by unfold intAt; rw [q3.cells.2.1]; simp
                rw [HM.out.1, HM.out.2, m3, m4]
                simp; omega
      · subst he
        have k1 : ((90 : Int) == 0) = false := rfl
        go_wp2_with fail
        go_ret
        unfold TxtIs
        rw [HQe.out, hQn]
        exact ⟨[], rfl, ⟨k, hq, hk12⟩, hf⟩
  · have HQ : Hid (textP (s.drop i) = none) := Lib.hid (by
      by_cases hlt : i < s.length
      · rw [drop_one hlt]
        have : byteAt s i ≠ 34 := fun e => h34 ⟨hlt, e⟩
        simp [textP, this]
      · rw [List.drop_eq_nil_of_le (by omega)]; rfl)
    have hne : byteAt s i ≠ 34 := by
      by_cases hlt : i < s.length
      · exact fun e => h34 ⟨hlt, e⟩
      · simp [byteAt, List.getD, hlt]
    have k1 : (((byteAt s i).toNat : Int) != 34) = true := by
      have := u8_ne 34 (by omega) hne
      simpa using this
    have HA := Lib.hid (at_q q0)
    clear h34 hne
    generalize byteAt s i = c at *
    go_wp2_with (first | (rw [HW.out]) | (go_at_call 68; ((with_reducible refine HA.out.mono ?_); rintro e w1 ⟨rfl, f1⟩; have q1 := q0.fr f1)) | (go_at_call 42; ((with_reducible refine (wrong_90 q1).mono ?_); rintro e w2 ⟨rfl, q2, f2⟩)))
    go_ret
    unfold TxtIs
    rw [HQ.out]
    exact ⟨[], rfl, ⟨i, by simpa using q2, by omega⟩, (f0.noB.trans f1.noB).trans f2⟩
end Go.Proofs.YteeijmfnjcddmaaGreatDoor
