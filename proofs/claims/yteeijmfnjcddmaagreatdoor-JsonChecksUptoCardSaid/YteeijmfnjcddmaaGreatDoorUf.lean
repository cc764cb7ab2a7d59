/- The document's runes (layer 1): Rune, May, first, Runes; the JSON document's utf. -/
import Derived.Test.YteeijmfnjcddmaaGreatDoorRg
import Derived.Test.YteeijmfnjcddmaaGreatDoorUp
import Derived.Laws.IdiomStrings
namespace Go.Proofs.YteeijmfnjcddmaaGreatDoor
open Go.RowKit

/-- Bytes that a call has just laid, as a string. -/
theorem conv_new (w : World) (l : Bs) (C : Array Value) (hC : C = (l.map (fun b => Value.int .u8 (b.toNat : Int))).toArray) :
    (convert 46 9 (.slice (some ⟨w.heap.size, 0, none⟩) l.length l.length)).run Tryz.prog (w.alloc (.cells C 5)) = .ok (.string ⟨l.toArray⟩) (w.alloc (.cells C 5)) := by
  refine run_convert_bytes_back (P := Tryz.prog) _ 46 9 5 ⟨w.heap.size, 0, none⟩ l.length l Tryz.underlying46 Tryz.underlying5 Tryz.underlying9 (fun j hj => ?_)
  rw [add_at, Nat.zero_add, World.cell?_alloc_mark, hC]
  simp [hj]
theorem u8v {n : Nat} (h : n < 256) : ((n.toUInt8.toNat : Nat) : Int) = n := by simp [Nat.toUInt8, UInt8.toNat_ofNat', Nat.mod_eq_of_lt h]

set_option maxRecDepth 100000 in
set_option maxHeartbeats 3200000 in
theorem rune_any (n : Nat) (w : World) (h : n < 2097152) : Calls Tryz.prog 162 #[.int .i64 n] w fun e w' => e = .returned (sV (runeP n)) ∧ Fr NoB w w' := by
  go_enter Tryz.func162, Tryz.ntmps162
  by_cases c1 : n < 128
  · have e : runeP n = [n.toUInt8] := by rw [runeP, if_pos c1]
    have hcv : (convert 46 9 (.slice (some ⟨w.heap.size, 0, none⟩) 1 1)).run Tryz.prog (w.alloc (.cells #[.int .u8 (n : Int)] 5)) = .ok (.string ⟨(runeP n).toArray⟩) (w.alloc (.cells #[.int .u8 (n : Int)] 5)) := by rw [e]; exact conv_new w [n.toUInt8] _ (by simp only [List.map_cons, List.map_nil]; rw [u8v (by omega)])
    clear e
    have k1 : (n : Int) < 128 := by omega
    go_wp2_with fail
    go_ret
    exact ⟨rfl, (Fr.refl NoB w).alloc _⟩
  · by_cases c2 : n < 2048
    · have e : runeP n = [(192 + n / 64).toUInt8, (128 + n % 64).toUInt8] := by rw [runeP, if_neg c1, if_pos c2]
      have hcv : (convert 46 9 (.slice (some ⟨w.heap.size, 0, none⟩) 2 2)).run Tryz.prog (w.alloc (.cells #[.int .u8 (192 + (n : Int) / 64), .int .u8 (128 + (n : Int) % 64)] 5)) = .ok (.string ⟨(runeP n).toArray⟩) (w.alloc (.cells #[.int .u8 (192 + (n : Int) / 64), .int .u8 (128 + (n : Int) % 64)] 5)) := by rw [e]; exact conv_new w [(192 + n / 64).toUInt8, (128 + n % 64).toUInt8] _ (by simp only [List.map_cons, List.map_nil]; rw [u8v (by omega), u8v (by omega)]; rfl)
      clear e
      have k1 : ¬ (n : Int) < 128 := by omega
      have k2 : (n : Int) < 2048 := by omega
      go_wp2_with fail
      go_ret
      exact ⟨rfl, (Fr.refl NoB w).alloc _⟩
    · by_cases c3 : n < 65536
      · have e : runeP n = [(224 + n / 4096).toUInt8, (128 + n / 64 % 64).toUInt8, (128 + n % 64).toUInt8] := by rw [runeP, if_neg c1, if_neg c2, if_pos c3]
        have hcv : (convert 46 9 (.slice (some ⟨w.heap.size, 0, none⟩) 3 3)).run Tryz.prog (w.alloc (.cells #[.int .u8 (224 + (n : Int) / 4096), .int .u8 (128 + (n : Int) / 64 % 64), .int .u8 (128 + (n : Int) % 64)] 5)) = .ok (.string ⟨(runeP n).toArray⟩) (w.alloc (.cells #[.int .u8 (224 + (n : Int) / 4096), .int .u8 (128 + (n : Int) / 64 % 64), .int .u8 (128 + (n : Int) % 64)] 5)) := by rw [e]; exact conv_new w [(224 + n / 4096).toUInt8, (128 + n / 64 % 64).toUInt8, (128 + n % 64).toUInt8] _ (by simp only [List.map_cons, List.map_nil]; rw [u8v (by omega), u8v (by omega), u8v (by omega)]; rfl)
        clear e
        have k1 : ¬ (n : Int) < 128 := by omega
        have k2 : ¬ (n : Int) < 2048 := by omega
        have k3 : (n : Int) < 65536 := by omega
        go_wp2_with fail
        go_ret
        exact ⟨rfl, (Fr.refl NoB w).alloc _⟩
      · have e : runeP n = [(240 + n / 262144).toUInt8, (128 + n / 4096 % 64).toUInt8, (128 + n / 64 % 64).toUInt8, (128 + n % 64).toUInt8] := by rw [runeP, if_neg c1, if_neg c2, if_neg c3]
        have hcv : (convert 46 9 (.slice (some ⟨w.heap.size, 0, none⟩) 4 4)).run Tryz.prog (w.alloc (.cells #[.int .u8 (240 + (n : Int) / 262144), .int .u8 (128 + (n : Int) / 4096 % 64), .int .u8 (128 + (n : Int) / 64 % 64), .int .u8 (128 + (n : Int) % 64)] 5)) = .ok (.string ⟨(runeP n).toArray⟩) (w.alloc (.cells #[.int .u8 (240 + (n : Int) / 262144), .int .u8 (128 + (n : Int) / 4096 % 64), .int .u8 (128 + (n : Int) / 64 % 64), .int .u8 (128 + (n : Int) % 64)] 5)) := by rw [e]; exact conv_new w [(240 + n / 262144).toUInt8, (128 + n / 4096 % 64).toUInt8, (128 + n / 64 % 64).toUInt8, (128 + n % 64).toUInt8] _ (by simp only [List.map_cons, List.map_nil]; rw [u8v (by omega), u8v (by omega), u8v (by omega), u8v (by omega)]; rfl)
        clear e
        have k1 : ¬ (n : Int) < 128 := by omega
        have k2 : ¬ (n : Int) < 2048 := by omega
        have k3 : ¬ (n : Int) < 65536 := by omega
        go_wp2_with fail
        go_ret
        exact ⟨rfl, (Fr.refl NoB w).alloc _⟩

theorem may_any (n : Nat) (w : World) (h : n < 2097152) : Calls Tryz.prog 161 #[.int .i64 n] w fun e w' => e = .returned (.bool (mayP n)) ∧ w' = w := by
  go_enter Tryz.func161, Tryz.ntmps161
  have k0 : (0 : Int) ≤ n := by omega
  by_cases c1 : n ≤ 1114111
  · have k1 : (n : Int) ≤ 1114111 := by omega
    by_cases c2 : n < 55296
    · have k2 : (n : Int) < 55296 := by omega
      go_wp2_with fail
      go_ret
      exact ⟨by simp [mayP, c1, c2], rfl⟩
    · have k2 : ¬ (n : Int) < 55296 := by omega
      by_cases c3 : 57343 < n
      · have k3 : (57343 : Int) < n := by omega
        go_wp2_with fail
        go_ret
        exact ⟨by simp [mayP, c1, c2, c3], rfl⟩
      · have k3 : ¬ (57343 : Int) < n := by omega
        go_wp2_with fail
        go_ret
        exact ⟨by simp [mayP, c1, c2, c3], rfl⟩
  · have k1 : ¬ (n : Int) ≤ 1114111 := by omega
    go_wp2_with fail
    go_ret
    exact ⟨by simp [mayP, c1], rfl⟩

theorem firstGo_step {s : Bs} {k : Nat} (h4 : k ≤ 4) (hl : k ≤ s.length) (hf : fitP s k = false) : firstGo s (5 - k) k = firstGo s (5 - (k + 1)) (k + 1) := by
  have e : 5 - k = (4 - k) + 1 := by omega
  have e2 : 4 - k = 5 - (k + 1) := by omega
  rw [e, firstGo, if_neg (by omega), if_neg (by simp [hf]), e2]
theorem firstGo_hit {s : Bs} {k : Nat} (h4 : k ≤ 4) (hl : k ≤ s.length) (hf : fitP s k = true) : firstGo s (5 - k) k = (candP s k, k) := by
  have e : 5 - k = (4 - k) + 1 := by omega
  rw [e, firstGo, if_neg (by omega), if_pos hf]
theorem firstGo_end {s : Bs} {k : Nat} (h : ¬ (k ≤ 4 ∧ k ≤ s.length)) : firstGo s (5 - k) k = (0, 0) := by
  by_cases h5 : k ≤ 4
  · have e : 5 - k = (4 - k) + 1 := by omega
    rw [e, firstGo, if_pos (by omega)]
  · have e : 5 - k = 0 := by omega
    rw [e, firstGo]
theorem cand_lt (s : Bs) (k : Nat) : candP s k < 2097152 := by
  have h0 : bAt s 0 < 256 := UInt8.toNat_lt _
  unfold candP
  repeat' split
  all_goals omega
theorem get_bAt (s : Bs) (i : Nat) (h : i < s.length) : ((⟨s.toArray⟩ : ByteArray)[i]'h).toNat = bAt s i := by
  rw [get_list]
  simp [bAt, List.getD, h]

set_option maxRecDepth 100000 in
set_option maxHeartbeats 6400000 in
theorem first_any (s : Bs) (w : World) (hl : s.length ≤ big) : Calls Tryz.prog 126 #[.string ⟨s.toArray⟩] w fun e w' => e = .returned (.tuple #[.int .i64 (firstP s).1, .int .i64 (firstP s).2]) ∧ Fr NoB w w' := by
  unfold big at hl
  go_enter Tryz.func126, Tryz.ntmps126
  go_wp2_with fail
  go_loopw [4] (fun v wr => ∃ k : Nat, 1 ≤ k ∧ k ≤ 5 ∧ v = .int .i64 k ∧ Fr NoB w wr ∧ Hid (firstP s = firstGo s (5 - k) k)) (fun v _ => 5 - (intOf v).toNat)
  case atStart => exact ⟨1, Nat.le_refl _, by omega, rfl, Fr.refl _ _, Lib.hid rfl⟩
  case round =>
    obtain ⟨k, hk1, hk5, rfl, hf, HF⟩ := hrel
    by_cases hin : k ≤ 4 ∧ k ≤ s.length
    · obtain ⟨h4, hkl⟩ := hin
      have i1 : (k : Int) ≤ 4 := by omega
      have i2 : (k : Int) ≤ s.length := by omega
      have hs : 0 < s.length := by omega
      have g0 := get_bAt s 0 (by omega)
      have hcand := cand_lt s k
      have HM : Hid (∀ u, Calls Tryz.prog 161 #[.int .i64 (candP s k)] u fun e w' => e = .returned (.bool (mayP (candP s k))) ∧ w' = u) := Lib.hid (fun u => may_any _ u hcand)
      have HR : Hid (∀ u, Calls Tryz.prog 162 #[.int .i64 (candP s k)] u fun e w' => e = .returned (sV (runeP (candP s k))) ∧ Fr NoB u w') := Lib.hid (fun u => rune_any _ u hcand)
      have b0 : bAt s 0 < 256 := UInt8.toNat_lt _
      have b1 : bAt s 1 < 256 := UInt8.toNat_lt _
      have b2 : bAt s 2 < 256 := UInt8.toNat_lt _
      have b3 : bAt s 3 < 256 := UInt8.toNat_lt _
      go_upto_block 2 with fail
      go_cut [5] (fun v5 wx => v5 = .int .i64 (candP s k) ∧ Fr NoB wr wx)
      case first =>
        clear HF HM HR hcand
        rcases (by omega : k = 1 ∨ k = 2 ∨ k = 3 ∨ k = 4) with rfl | rfl | rfl | rfl
        · go_wp2_with fail
          go_meet
          exact ⟨rfl, Fr.refl _ _⟩
        · have g1 := get_bAt s 1 (by omega)
          go_wp2_with fail
          go_quiet (fail)
          go_wp2_with fail
          go_meet
          exact ⟨rfl, (Fr.refl _ _).drewN _⟩
        · have g1 := get_bAt s 1 (by omega)
          have g2 := get_bAt s 2 (by omega)
          go_wp2_with fail
          go_quiet (fail)
          go_wp2_with fail
          go_meet
          exact ⟨rfl, (Fr.refl _ _).drewN _⟩
        · have g1 := get_bAt s 1 (by omega)
          have g2 := get_bAt s 2 (by omega)
          have g3 := get_bAt s 3 (by omega)
          go_wp2_with fail
          go_quiet (fail)
          go_wp2_with fail
          go_meet
          exact ⟨rfl, (Fr.refl _ _).drewN _⟩
      case rest =>
        obtain ⟨rfl, f5⟩ := hcut
        have hfit : fitP s k = (mayP (candP s k) && (runeP (candP s k) == s.take k)) := rfl
        have HS1 := Lib.hid (fun h => firstGo_step (s := s) (k := k) h4 hkl h)
        have HS2 := Lib.hid (fun h => firstGo_hit (s := s) (k := k) h4 hkl h)
        generalize fitP s k = fit at hfit HS1 HS2
        clear g0 b0 b1 b2 b3 hs
        have i3 : (0 : Int) ≤ k := by omega
        have hxt := ext_take s k
        generalize candP s k = n at *
        have tok1 : True := trivial
        cases hm : mayP n with
        | false =>
          rw [hm] at hfit HM
          have HS := Lib.hid (HS1.out hfit)
          clear HS1 HS2 hfit hm HR
          go_wp2_with fail
          go_quiet ((go_at_call 161; exact Calls.quiet_of_same (HM.out _)))
          go_wp2_with fail
          go_roundw
          case rel => exact ⟨k + 1, by omega, by omega, by simp, (hf.trans f5).drewN _, Lib.hid (by rw [HF.out, HS.out])⟩
          case measure => simp [intOf]; omega
        | true =>
          rw [hm] at hfit HM
          generalize hr : runeP n = r at hfit HR
          generalize s.take k = q at hfit hxt
          cases hq : (r == q) with
          | true =>
            rw [hq] at hfit
            have HS := Lib.hid (HS2.out hfit)
            have hq2 : r = q := by simpa using hq
            subst hq2
            clear HS1 HS2 hfit hm
            go_wp2_with fail
            go_region_held3 (fun _ => True) (trivial) (first | (go_at_call 161; (with_reducible refine (HM.out _).mono ?_); rintro e w1 ⟨rfl, rfl⟩) | (go_at_call 162; (with_reducible refine (HR.out _).mono ?_); rintro e w2 ⟨rfl, f2⟩))
            go_wp2_with fail
            go_ret2
            exact ⟨by rw [HF.out, HS.out]; rfl, (hf.trans f5).trans ((Fr.refl NoB wc).drew.trans f2)⟩
          | false =>
            rw [hq] at hfit
            have HS := Lib.hid (HS1.out hfit)
            have hq3 : ¬ ((⟨r.toArray⟩ : ByteArray) = ⟨q.toArray⟩) := by simpa [ba_inj] using hq
            clear HS1 HS2 hfit hm
            go_wp2_with fail
            go_region_held3 (fun _ => True) (trivial) (first | (go_at_call 161; (with_reducible refine (HM.out _).mono ?_); rintro e w1 ⟨rfl, rfl⟩) | (go_at_call 162; (with_reducible refine (HR.out _).mono ?_); rintro e w2 ⟨rfl, f2⟩))
            go_wp2_with fail
            go_roundw
            case rel => exact ⟨k + 1, by omega, by omega, by simp, (hf.trans f5).trans ((Fr.refl NoB wc).drew.trans f2), Lib.hid (by rw [HF.out, HS.out])⟩
            case measure => simp [intOf]; omega
    · have hz := firstGo_end hin
      rw [← HF.out] at hz
      rw [hz]
      by_cases h4 : k ≤ 4
      · have i1 : (k : Int) ≤ 4 := by omega
        have i2 : ¬ (k : Int) ≤ s.length := by omega
        go_wp2_with fail
        go_ret2
        exact ⟨rfl, hf⟩
      · have i1 : ¬ (k : Int) ≤ 4 := by omega
        go_wp2_with fail
        go_ret2
        exact ⟨rfl, hf⟩
end Go.Proofs.YteeijmfnjcddmaaGreatDoor
