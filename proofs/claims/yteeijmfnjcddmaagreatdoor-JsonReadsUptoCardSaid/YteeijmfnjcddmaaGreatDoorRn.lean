/- JSON, the document's reader: number. -/
import Derived.Test.YteeijmfnjcddmaaGreatDoorRd
import Derived.Test.YteeijmfnjcddmaaGreatDoorPr
namespace Go.Proofs.YteeijmfnjcddmaaGreatDoor
open Go.RowKit

theorem digs_end {s : Bs} {n : Nat} (h : ¬ n < s.length) : digs (s.drop n) = 0 := by
  rw [List.drop_eq_nil_of_le (by omega)]; rfl
theorem digs_cons (c : UInt8) (r : Bs) : digs (c :: r) = if isDig c then 1 + digs r else 0 := by
  unfold digs
  rw [List.takeWhile_cons]
  cases isDig c
  · rfl
  · simp; omega
theorem drop_b {s : Bs} {k : Nat} (h : k < s.length) : s.drop k = byteAt s k :: s.drop (k + 1) := by
  rw [List.drop_eq_getElem_cons h]
  simp [byteAt, List.getD, h]
theorem digs_yes {s : Bs} {n : Nat} (h : n < s.length) (hb : isDig (byteAt s n) = true) : digs (s.drop n) = 1 + digs (s.drop (n + 1)) := by
  rw [drop_b h, digs_cons, hb]; rfl
theorem digs_no {s : Bs} {n : Nat} (h : n < s.length) (hb : isDig (byteAt s n) = false) : digs (s.drop n) = 0 := by
  rw [drop_b h, digs_cons, hb]; rfl
theorem get_b {s : Bs} {k : Nat} (h : k < s.length) : (⟨s.toArray⟩ : ByteArray)[k]'h = byteAt s k := by
  rw [get_list s k h]; simp [byteAt, List.getD, h]
theorem whole_head {s : Bs} {f : Nat} : wholeP (s.drop f) = if byteAt s f = 48 ∧ f < s.length then 1 else digs (s.drop f) := by
  unfold wholeP
  by_cases hf : f < s.length
  · rw [drop_b hf]
    simp [hf]
  · rw [List.drop_eq_nil_of_le (by omega)]
    simp [hf]
theorem head_b {s : Bs} {f : Nat} (h : f < s.length) : (s.drop f).head? = some (byteAt s f) := by rw [drop_b h]; rfl
/-- Digits from a place on: how far. -/
theorem digs_le' (s : Bs) (n : Nat) : n + digs (s.drop n) ≤ max n s.length := by
  have := digs_le (s.drop n)
  rw [List.length_drop] at this
  omega

theorem digs_pos {s : Bs} {k : Nat} : 0 < digs (s.drop k) ↔ k < s.length ∧ isDig (byteAt s k) = true := by
  by_cases hk : k < s.length
  · cases hd : isDig (byteAt s k)
    · rw [digs_no hk hd]; simp
    · rw [digs_yes hk hd]; simp [hk]; omega
  · rw [digs_end hk]; simp; omega
theorem frac_at (s : Bs) (j : Nat) : fracP (s.drop j) = if j < s.length ∧ byteAt s j = 46 ∧ 0 < digs (s.drop (j + 1)) then 1 + digs (s.drop (j + 1)) else 0 := by
  by_cases hj : j < s.length
  · rw [drop_b hj]
    simp [fracP, hj]
  · rw [List.drop_eq_nil_of_le (by omega)]
    simp [fracP, hj]
theorem sign_n (s : Bs) (j : Nat) : signP (s.drop j) = if j < s.length ∧ (byteAt s j = 43 ∨ byteAt s j = 45) then 1 else 0 := by
  by_cases hj : j < s.length
  · rw [drop_b hj]
    simp [signP, hj]
  · rw [List.drop_eq_nil_of_le (by omega)]
    simp [signP, hj]
theorem exp_n (s : Bs) (k : Nat) : expP (s.drop k) = if k < s.length ∧ (byteAt s k = 101 ∨ byteAt s k = 69) ∧ 0 < digs (s.drop (k + 1 + signP (s.drop (k + 1)))) then 1 + signP (s.drop (k + 1)) + digs (s.drop (k + 1 + signP (s.drop (k + 1)))) else 0 := by
  by_cases hk : k < s.length
  · rw [drop_b hk]
    simp [expP, hk, List.drop_drop]
  · rw [List.drop_eq_nil_of_le (by omega)]
    simp [expP, hk]

set_option maxRecDepth 100000 in
set_option maxHeartbeats 6400000 in
theorem number_any' (s : Bs) (w : World) (hl : s.length ≤ 1048576) : Calls Tryz.prog 96 #[.string ⟨s.toArray⟩] w fun en w' => en = .returned (.int .i64 (numP s : Int)) ∧ w' = w := by
  have HD := Lib.hid (fun c => digit_any c w)
  have hN : numP s = if wholeP (s.drop (minusP s)) = 0 then 0 else minusP s + wholeP (s.drop (minusP s)) + fracP (s.drop (minusP s + wholeP (s.drop (minusP s)))) + expP (s.drop (minusP s + wholeP (s.drop (minusP s)) + fracP (s.drop (minusP s + wholeP (s.drop (minusP s)))))) := rfl
  generalize numP s = N at *
  have HN := Lib.hid hN
  clear hN
  go_enter Tryz.func96, Tryz.ntmps96
  go_upto_region 2 with fail
  go_cut [15] (fun v wx => v = .bool (decide (minusP s = 1)) ∧ wx = w)
  case first =>
    by_cases h0 : 0 < s.length
    · have k1 : (0 : Int) < s.length := by omega
      have g0 := get_b h0
      have hm : minusP s = if byteAt s 0 = 45 then 1 else 0 := by
        unfold minusP
        have := head_b (s := s) (f := 0) h0
        rw [List.drop_zero] at this
        rw [this]
        simp
      by_cases h45 : byteAt s 0 = 45
      · rw [h45] at g0
        rw [if_pos h45] at hm
        clear h45
        go_wp2_with fail
        go_meet
        exact ⟨by simp [hm], rfl⟩
      · have q := u8_ne 45 (by omega) h45
        have q2 : (((byteAt s 0).toNat : Int) == 45) = false := q
        rw [if_neg h45] at hm
        clear h45 q
        generalize byteAt s 0 = c at *
        go_wp2_with fail
        go_meet
        exact ⟨by simp [hm], rfl⟩
    · have k1 : ¬ (0 : Int) < s.length := by omega
      have hm : minusP s = 0 := by
        unfold minusP
        have : s = [] := List.eq_nil_of_length_eq_zero (by omega)
        subst this; rfl
      go_wp2_with fail
      go_meet
      exact ⟨by simp [hm], rfl⟩
  case rest =>
    obtain ⟨rfl, rfl⟩ := hcut
    have hm1 : minusP s = 0 ∨ (minusP s = 1 ∧ 0 < s.length) := by
      unfold minusP
      split
      · rename_i h
        refine Or.inr ⟨rfl, ?_⟩
        cases s with
        | nil => simp at h
        | cons a b => simp
      · exact Or.inl rfl
    go_upto_if 15 with fail
    go_cut [3] (fun v wx => v = .int .i64 (minusP s : Int) ∧ wx = wc)
    case first =>
      rcases hm1 with h0 | ⟨h1, _⟩
      · have e : decide (minusP s = 1) = false := by simp [h0]
        rw [e]
        go_wp2_with fail
        go_meet
        exact ⟨by rw [h0]; rfl, rfl⟩
      · have e : decide (minusP s = 1) = true := by simp [h1]
        rw [e]
        go_wp2_with fail
        go_meet
        exact ⟨by rw [h1]; rfl, rfl⟩
    case rest =>
      obtain ⟨rfl, rfl⟩ := hcut
      have hfl : minusP s ≤ s.length := by rcases hm1 with h0 | ⟨h1, h2⟩ <;> omega
      clear hm1
      generalize minusP s = f at *
      have hT := whole_head (s := s) (f := f)
      have HT := Lib.hid hT
      have hTl : f + wholeP (s.drop f) ≤ s.length := by
        rw [hT]
        split
        · omega
        · have := digs_le' s f; omega
      clear hT
      generalize wholeP (s.drop f) = W at *
      go_upto_block 0 with fail
      go_cut [3] (fun v wx => v = .int .i64 ((f + W : Nat) : Int) ∧ wx = wc)
      case first =>
        go_wp2_with fail
        go_loopw [3] (fun v wr => ∃ n : Nat, f ≤ n ∧ v = .int .i64 (n : Int) ∧ wr = wc ∧ Hid (n = f ∨ (f < n ∧ byteAt s f ≠ 48 ∧ n + digs (s.drop n) = f + W) ∨ (f < n ∧ byteAt s f = 48 ∧ n = f + W))) (fun v _ => s.length - (intOf v).toNat)
        case atStart => exact ⟨f, Nat.le_refl _, rfl, rfl, Lib.hid (Or.inl rfl)⟩
        case round =>
          obtain ⟨n, hn, rfl, rfl, HI⟩ := hrel
          by_cases hlt : n < s.length
          · have k1 : (n : Int) < s.length := by omega
            have k0 : (0 : Int) ≤ n := by omega
            have f0 : (0 : Int) ≤ f := by omega
            have f1 : (f : Int) < s.length := by omega
            have gn := get_b hlt
            have gf := get_b (s := s) (k := f) (by omega)
            have HDn := HD.out (byteAt s n)
            cases hd : isDig (byteAt s n) with
            | true =>
              rw [hd] at HDn
              have HDN := Lib.hid HDn
              clear HDn
              rcases HI.out with he | ⟨h1, h2, h3⟩ | ⟨h1, h2, h3⟩
              · subst he
                have kf : ((n : Int) == n) = true := by simp
                have HI2 : Hid (n + 1 = n ∨ (n < n + 1 ∧ byteAt s n ≠ 48 ∧ n + 1 + digs (s.drop (n + 1)) = n + W) ∨ (n < n + 1 ∧ byteAt s n = 48 ∧ n + 1 = n + W)) := Lib.hid (by
                  right
                  by_cases h48 : byteAt s n = 48
                  · right
                    refine ⟨by omega, h48, ?_⟩
                    rw [HT.out, if_pos ⟨h48, hlt⟩]
                  · left
                    refine ⟨by omega, h48, ?_⟩
                    rw [HT.out, if_neg (fun e => h48 e.1), digs_yes hlt hd]; omega)
                clear HI hd
                generalize byteAt s n = c at *
                go_wp2_with (go_at_call 120; ((with_reducible refine HDN.out.mono ?_); rintro e w2 ⟨rfl, rfl⟩))
                go_roundw
                case rel => exact ⟨n + 1, by omega, by simp, trivial, HI2⟩
                case measure => simp [intOf]; omega
              · have kf : ((n : Int) == f) = false := by simp; omega
                have q48 : (((byteAt s f).toNat : Int) != 48) = true := by
                  have := u8_ne 48 (by omega) h2
                  simpa using this
                have HI2 : Hid (n + 1 = f ∨ (f < n + 1 ∧ byteAt s f ≠ 48 ∧ n + 1 + digs (s.drop (n + 1)) = f + W) ∨ (f < n + 1 ∧ byteAt s f = 48 ∧ n + 1 = f + W)) := Lib.hid (by
                  rw [digs_yes hlt hd] at h3
                  exact Or.inr (Or.inl ⟨by omega, h2, by omega⟩))
                clear HI hd h2
                generalize byteAt s n = c at *
                generalize byteAt s f = cf at *
                go_wp2_with (go_at_call 120; ((with_reducible refine HDN.out.mono ?_); rintro e w2 ⟨rfl, rfl⟩))
                go_roundw
                case rel => exact ⟨n + 1, by omega, by simp, trivial, HI2⟩
                case measure => simp [intOf]; omega
              · have kf : ((n : Int) == f) = false := by simp; omega
                rw [h2] at gf
                have H3 := Lib.hid h3
                clear HI hd h2 h3
                generalize byteAt s n = c at *
                go_wp2_with (go_at_call 120; ((with_reducible refine HDN.out.mono ?_); rintro e w2 ⟨rfl, rfl⟩))
                go_meet
                exact ⟨by rw [← H3.out], rfl⟩
            | false =>
              rw [hd] at HDn
              have HDN := Lib.hid HDn
              have e1 : n = f + W := by
                rcases HI.out with he | ⟨h1, h2, h3⟩ | ⟨h1, h2, h3⟩
                · subst he
                  have h48 : byteAt s n ≠ 48 := fun e => by rw [e] at hd; exact absurd hd (by decide)
                  rw [HT.out, if_neg (fun e => h48 e.1), digs_no hlt hd]; omega
                · rw [digs_no hlt hd] at h3; omega
                · exact h3
              have E1 := Lib.hid e1
              clear HDn hd HI e1
              generalize byteAt s n = c at *
              go_wp2_with (go_at_call 120; ((with_reducible refine HDN.out.mono ?_); rintro e w2 ⟨rfl, rfl⟩))
              go_meet
              exact ⟨by rw [← E1.out], rfl⟩
          · have k1 : ¬ (n : Int) < s.length := by omega
            have e1 : n = f + W := by
              rcases HI.out with he | ⟨h1, h2, h3⟩ | ⟨h1, h2, h3⟩
              · subst he
                rw [HT.out, if_neg (fun e => hlt e.2), digs_end hlt]; omega
              · rw [digs_end hlt] at h3; omega
              · exact h3
            have E1 := Lib.hid e1
            clear HI e1
            go_wp2_with fail
            go_meet
            exact ⟨by rw [← E1.out], rfl⟩
      case rest =>
        obtain ⟨rfl, rfl⟩ := hcut
        by_cases hW : W = 0
        · subst hW
          have e0 : N = 0 := by rw [HN.out, if_pos rfl]
          have kf : (((f + 0 : Nat) : Int) == (f : Int)) = true := by simp
          go_wp2_with fail
          go_ret
          exact ⟨by first | rfl | (rw [e0]; rfl), rfl⟩
        · have kf : (((f + W : Nat) : Int) == (f : Int)) = false := by simp; omega
          have HN2 : Hid (N = f + W + fracP (s.drop (f + W)) + expP (s.drop (f + W + fracP (s.drop (f + W))))) := Lib.hid (by rw [HN.out, if_neg hW])
          clear HN HT
          generalize hj : f + W = j at *
          go_upto_region 9 with fail
          clear kf
          have hfr := frac_at s j
          have j0 : (0 : Int) ≤ j := by omega
          go_cut [62] (fun v wx => v = .bool (decide (fracP (s.drop j) ≠ 0)) ∧ wx = wc)
          case first =>
            by_cases h1 : j + 1 < s.length
            · have k1 : (j : Int) + 1 < s.length := by omega
              have k2 : (j : Int) < s.length := by omega
              have k3 : (0 : Int) ≤ (j : Int) + 1 := by omega
              have gj := get_b (s := s) (k := j) (by omega)
              have gj1 := get_b h1
              by_cases h46 : byteAt s j = 46
              · rw [h46] at gj
                have HDn := HD.out (byteAt s (j + 1))
                cases hd : isDig (byteAt s (j + 1)) with
                | true =>
                  have e1 : decide (fracP (s.drop j) ≠ 0) = true := by
                    rw [hfr, if_pos ⟨by omega, h46, digs_pos.2 ⟨h1, hd⟩⟩]; simp
                  rw [hd] at HDn
                  have HDN := Lib.hid HDn
                  have HE := Lib.hid e1
                  clear HDn hd e1 hfr h46
                  generalize byteAt s (j + 1) = c at *
                  go_wp2_with (go_at_call 120; ((with_reducible refine HDN.out.mono ?_); rintro e w2 ⟨rfl, rfl⟩))
                  go_meet
                  exact ⟨by rw [HE.out], rfl⟩
                | false =>
                  have e1 : decide (fracP (s.drop j) ≠ 0) = false := by
                    rw [hfr, if_neg (fun e => by have := (digs_pos.1 e.2.2).2; rw [hd] at this; cases this)]; simp
                  rw [hd] at HDn
                  have HDN := Lib.hid HDn
                  have HE := Lib.hid e1
                  clear HDn hd e1 hfr h46
                  generalize byteAt s (j + 1) = c at *
                  go_wp2_with (go_at_call 120; ((with_reducible refine HDN.out.mono ?_); rintro e w2 ⟨rfl, rfl⟩))
                  go_meet
                  exact ⟨by rw [HE.out], rfl⟩
              · have q46 : (((byteAt s j).toNat : Int) == 46) = false := u8_ne 46 (by omega) h46
                have e1 : decide (fracP (s.drop j) ≠ 0) = false := by
                  rw [hfr, if_neg (fun e => h46 e.2.1)]; simp
                have HE := Lib.hid e1
                clear e1 hfr h46
                generalize byteAt s j = c at *
                go_wp2_with fail
                go_meet
                exact ⟨by rw [HE.out], rfl⟩
            · have k1 : ¬ (j : Int) + 1 < s.length := by omega
              have e1 : decide (fracP (s.drop j) ≠ 0) = false := by
                rw [hfr, if_neg (fun e => by rw [digs_end h1] at e; omega)]; simp
              have HE := Lib.hid e1
              clear e1 hfr
              go_wp2_with fail
              go_meet
              exact ⟨by rw [HE.out], rfl⟩
          case rest =>
            obtain ⟨rfl, rfl⟩ := hcut
            go_upto_if 62 with fail
            go_cut [3] (fun v wx => v = .int .i64 ((j + fracP (s.drop j) : Nat) : Int) ∧ wx = wc)
            case first =>
              by_cases hF : fracP (s.drop j) = 0
              · have e1 : decide (fracP (s.drop j) ≠ 0) = false := by simp [hF]
                rw [e1]
                clear hfr
                go_wp2_with fail
                go_meet
                exact ⟨by rw [hF]; simp, rfl⟩
              · have e1 : decide (fracP (s.drop j) ≠ 0) = true := by simp [hF]
                rw [e1]
                have hT : j + 1 + digs (s.drop (j + 1)) = j + fracP (s.drop j) := by
                  rw [hfr] at hF ⊢
                  split at hF
                  · rename_i hc; rw [if_pos hc]; omega
                  · exact absurd rfl hF
                clear hfr hF
                generalize j + fracP (s.drop j) = T at *
                go_wp2_with fail
                go_loopw [3] (fun v wr => ∃ n : Nat, (j + 1) ≤ n ∧ v = .int .i64 (n : Int) ∧ wr = wc ∧ Hid (n + digs (s.drop n) = T)) (fun v _ => s.length - (intOf v).toNat)
                case atStart => exact ⟨(j + 1), Nat.le_refl _, by simp, rfl, Lib.hid (by omega)⟩
                case round =>
                  obtain ⟨n, hn, rfl, rfl, HI⟩ := hrel
                  by_cases hlt : n < s.length
                  · have k1 : (n : Int) < s.length := by omega
                    have k0 : (0 : Int) ≤ n := by omega
                    have gn := get_b hlt
                    have HDn := HD.out (byteAt s n)
                    cases hd : isDig (byteAt s n) with
                    | true =>
                      have HI2 : Hid (n + 1 + digs (s.drop (n + 1)) = T) := Lib.hid (by have := HI.out; rw [digs_yes hlt hd] at this; omega)
                      rw [hd] at HDn
                      have HDN := Lib.hid HDn
                      clear HDn hd
                      generalize byteAt s n = c at *
                      go_wp2_with (go_at_call 120; ((with_reducible refine HDN.out.mono ?_); rintro e w2 ⟨rfl, rfl⟩))
                      go_roundw
                      case rel => exact ⟨n + 1, by omega, by simp, trivial, HI2⟩
                      case measure => simp [intOf]; omega
                    | false =>
                      have e1 := HI.out
                      rw [digs_no hlt hd] at e1
                      rw [hd] at HDn
                      have HDN := Lib.hid HDn
                      clear HDn hd HI
                      generalize byteAt s n = c at *
                      go_wp2_with (go_at_call 120; ((with_reducible refine HDN.out.mono ?_); rintro e w2 ⟨rfl, rfl⟩))
                      go_meet
                      exact ⟨by rw [← e1]; simp, rfl⟩
                  · have k1 : ¬ (n : Int) < s.length := by omega
                    have e1 := HI.out
                    rw [digs_end hlt] at e1
                    clear HI
                    go_wp2_with fail
                    go_meet
                    exact ⟨by rw [← e1]; simp, rfl⟩
            case rest =>
              obtain ⟨rfl, rfl⟩ := hcut
              clear hfr
              generalize hk : j + fracP (s.drop j) = k at *
              have q0 : (0 : Int) ≤ k := by omega
              have hex := exp_n s k
              go_upto_region 13 with fail
              go_cut [92] (fun v wx => v = .bool (decide (k < s.length ∧ (byteAt s k = 101 ∨ byteAt s k = 69))) ∧ wx = wc)
              case first =>
                clear hex
                by_cases hkl : k < s.length
                · have k1 : (k : Int) < s.length := by omega
                  have gk := get_b hkl
                  by_cases h101 : byteAt s k = 101
                  · have HE : Hid (decide (k < s.length ∧ (byteAt s k = 101 ∨ byteAt s k = 69)) = true) := Lib.hid (by simp [hkl, h101])
                    rw [h101] at gk
                    clear h101
                    go_wp2_with fail
                    go_meet
                    exact ⟨by rw [HE.out], rfl⟩
                  · have q101 : (((byteAt s k).toNat : Int) == 101) = false := u8_ne 101 (by omega) h101
                    by_cases h69 : byteAt s k = 69
                    · have HE : Hid (decide (k < s.length ∧ (byteAt s k = 101 ∨ byteAt s k = 69)) = true) := Lib.hid (by simp [hkl, h69])
                      rw [h69] at gk
                      clear h69 h101 q101
                      go_wp2_with fail
                      go_meet
                      exact ⟨by rw [HE.out], rfl⟩
                    · have q69 : (((byteAt s k).toNat : Int) == 69) = false := u8_ne 69 (by omega) h69
                      have HE : Hid (decide (k < s.length ∧ (byteAt s k = 101 ∨ byteAt s k = 69)) = false) := Lib.hid (by simp [h69, h101])
                      clear h69 h101
                      generalize byteAt s k = c at *
                      go_wp2_with fail
                      go_meet
                      exact ⟨by rw [HE.out], rfl⟩
                · have k1 : ¬ (k : Int) < s.length := by omega
                  have HE : Hid (decide (k < s.length ∧ (byteAt s k = 101 ∨ byteAt s k = 69)) = false) := Lib.hid (by simp [hkl])
                  go_wp2_with fail
                  go_meet
                  exact ⟨by rw [HE.out], rfl⟩
              case rest =>
                obtain ⟨rfl, rfl⟩ := hcut
                go_upto_if 92 with fail
                go_cut [3] (fun v wx => v = .int .i64 ((k + expP (s.drop k) : Nat) : Int) ∧ wx = wc)
                case first =>
                  by_cases hE : k < s.length ∧ (byteAt s k = 101 ∨ byteAt s k = 69)
                  · have e1 := decide_eq_true hE
                    rw [e1]
                    have hsg := sign_n s (k + 1)
                    have HX : Hid (k + expP (s.drop k) = if 0 < digs (s.drop (k + 1 + signP (s.drop (k + 1)))) then k + 1 + signP (s.drop (k + 1)) + digs (s.drop (k + 1 + signP (s.drop (k + 1)))) else k) := Lib.hid (by
                      rw [hex]
                      by_cases hd : 0 < digs (s.drop (k + 1 + signP (s.drop (k + 1))))
                      · rw [if_pos ⟨hE.1, hE.2, hd⟩, if_pos hd]; omega
                      · rw [if_neg (fun e => hd e.2.2), if_neg hd]; omega)
                    generalize k + expP (s.drop k) = X at *
                    have hk1 : k < s.length := hE.1
                    clear hex hE e1
                    go_upto_region 15 with fail
                    go_cut [110] (fun v wx => v = .bool (decide (signP (s.drop (k + 1)) = 1)) ∧ wx = wc)
                    case first =>
                      by_cases h1 : k + 1 < s.length
                      · have k1 : (k : Int) + 1 < s.length := by omega
                        have k3 : (0 : Int) ≤ (k : Int) + 1 := by omega
                        have gk := get_b h1
                        by_cases h43 : byteAt s (k + 1) = 43
                        · have HE : Hid (decide (signP (s.drop (k + 1)) = 1) = true) := Lib.hid (by rw [hsg, if_pos ⟨h1, Or.inl h43⟩]; simp)
                          rw [h43] at gk
                          clear h43 hsg
                          go_wp2_with fail
                          go_meet
                          exact ⟨by rw [HE.out], rfl⟩
                        · have q43 : (((byteAt s (k + 1)).toNat : Int) == 43) = false := u8_ne 43 (by omega) h43
                          by_cases h45 : byteAt s (k + 1) = 45
                          · have HE : Hid (decide (signP (s.drop (k + 1)) = 1) = true) := Lib.hid (by rw [hsg, if_pos ⟨h1, Or.inr h45⟩]; simp)
                            rw [h45] at gk
                            clear h45 h43 q43 hsg
                            go_wp2_with fail
                            go_meet
                            exact ⟨by rw [HE.out], rfl⟩
                          · have q45 : (((byteAt s (k + 1)).toNat : Int) == 45) = false := u8_ne 45 (by omega) h45
                            have HE : Hid (decide (signP (s.drop (k + 1)) = 1) = false) := Lib.hid (by rw [hsg, if_neg (fun e => e.2.elim h43 h45)]; simp)
                            clear h45 h43 hsg
                            generalize byteAt s (k + 1) = c at *
                            go_wp2_with fail
                            go_meet
                            exact ⟨by rw [HE.out], rfl⟩
                      · have k1 : ¬ (k : Int) + 1 < s.length := by omega
                        have HE : Hid (decide (signP (s.drop (k + 1)) = 1) = false) := Lib.hid (by rw [hsg, if_neg (fun e => h1 e.1)]; simp)
                        clear hsg
                        go_wp2_with fail
                        go_meet
                        exact ⟨by rw [HE.out], rfl⟩
                    case rest =>
                      obtain ⟨rfl, rfl⟩ := hcut
                      have hs01 : signP (s.drop (k + 1)) = 0 ∨ signP (s.drop (k + 1)) = 1 := by rw [hsg]; split <;> simp
                      clear hsg
                      generalize signP (s.drop (k + 1)) = g at *
                      go_upto_if 110 with fail
                      go_cut [5] (fun v wx => v = .int .i64 ((k + 1 + g : Nat) : Int) ∧ wx = wc)
                      case first =>
                        rcases hs01 with h0 | h0
                        · have e1 : decide (g = 1) = false := by simp [h0]
                          rw [e1]
                          go_wp2_with fail
                          go_meet
                          exact ⟨by rw [h0]; simp, rfl⟩
                        · have e1 : decide (g = 1) = true := by simp [h0]
                          rw [e1]
                          go_wp2_with fail
                          go_meet
                          exact ⟨by rw [h0]; simp, rfl⟩
                      case rest =>
                        obtain ⟨rfl, rfl⟩ := hcut
                        generalize k + 1 + g = a at *
                        go_upto_block 4 with fail
                        generalize hTd : a + digs (s.drop a) = T at *
                        go_cut [5] (fun v wx => v = .int .i64 ((T : Nat) : Int) ∧ wx = wc)
                        case first =>
                          go_wp2_with fail
                          go_loopw [5] (fun v wr => ∃ n : Nat, a ≤ n ∧ v = .int .i64 (n : Int) ∧ wr = wc ∧ Hid (n + digs (s.drop n) = T)) (fun v _ => s.length - (intOf v).toNat)
                          case atStart => exact ⟨a, Nat.le_refl _, by simp, rfl, Lib.hid (by omega)⟩
                          case round =>
                            obtain ⟨n, hn, rfl, rfl, HI⟩ := hrel
                            by_cases hlt : n < s.length
                            · have k1 : (n : Int) < s.length := by omega
                              have k0 : (0 : Int) ≤ n := by omega
                              have gn := get_b hlt
                              have HDn := HD.out (byteAt s n)
                              cases hd : isDig (byteAt s n) with
                              | true =>
                                have HI2 : Hid (n + 1 + digs (s.drop (n + 1)) = T) := Lib.hid (by have := HI.out; rw [digs_yes hlt hd] at this; omega)
                                rw [hd] at HDn
                                have HDN := Lib.hid HDn
                                clear HDn hd
                                generalize byteAt s n = c at *
                                go_wp2_with (go_at_call 120; ((with_reducible refine HDN.out.mono ?_); rintro e w2 ⟨rfl, rfl⟩))
                                go_roundw
                                case rel => exact ⟨n + 1, by omega, by simp, trivial, HI2⟩
                                case measure => simp [intOf]; omega
                              | false =>
                                have e1 := HI.out
                                rw [digs_no hlt hd] at e1
                                rw [hd] at HDn
                                have HDN := Lib.hid HDn
                                clear HDn hd HI
                                generalize byteAt s n = c at *
                                go_wp2_with (go_at_call 120; ((with_reducible refine HDN.out.mono ?_); rintro e w2 ⟨rfl, rfl⟩))
                                go_meet
                                exact ⟨by rw [← e1]; simp, rfl⟩
                            · have k1 : ¬ (n : Int) < s.length := by omega
                              have e1 := HI.out
                              rw [digs_end hlt] at e1
                              clear HI
                              go_wp2_with fail
                              go_meet
                              exact ⟨by rw [← e1]; simp, rfl⟩
                        case rest =>
                          obtain ⟨rfl, rfl⟩ := hcut
                          have hX : X = if 0 < digs (s.drop a) then T else k := HX.out
                          by_cases hd : 0 < digs (s.drop a)
                          · rw [if_pos hd] at hX
                            have kk : (a : Int) < T := by omega
                            clear HX
                            go_wp2_with fail
                            go_meet
                            exact ⟨by rw [hX], rfl⟩
                          · rw [if_neg hd] at hX
                            have kk : ¬ (a : Int) < T := by omega
                            clear HX
                            go_wp2_with fail
                            go_meet
                            exact ⟨by rw [hX], rfl⟩
                  · have e1 := decide_eq_false hE
                    rw [e1]
                    have e2 : expP (s.drop k) = 0 := by rw [hex, if_neg (fun e => hE ⟨e.1, e.2.1⟩)]
                    clear hex
                    go_wp2_with fail
                    go_meet
                    exact ⟨by rw [e2]; simp, rfl⟩
                case rest =>
                  obtain ⟨rfl, rfl⟩ := hcut
                  clear hex
                  have hNk : N = k + expP (s.drop k) := by have := HN2.out; omega
                  go_wp2_with fail
                  go_ret
                  exact ⟨by rw [hNk]; rfl, rfl⟩
end Go.Proofs.YteeijmfnjcddmaaGreatDoor
/- JSON, the document's reader: exact. -/
namespace Go.Proofs.YteeijmfnjcddmaaGreatDoor
open Go.RowKit

def dV (c : UInt8) : Nat := c.toNat - 48
def numV (t : Bs) : Nat := t.foldl (fun a c => 10 * a + dV c) 0
theorem val_snoc (t : Bs) (c : UInt8) : numV (t ++ [c]) = 10 * numV t + dV c := by unfold numV; rw [List.foldl_append]; rfl
theorem dig_bounds {c : UInt8} (h : isDig c = true) : 48 ≤ c.toNat ∧ c.toNat ≤ 57 := by
  unfold isDig at h
  simp only [Bool.and_eq_true, decide_eq_true_eq] at h
  exact ⟨UInt8.le_iff_toNat_le.1 h.1, UInt8.le_iff_toNat_le.1 h.2⟩
theorem dig_back {c : UInt8} (h : isDig c = true) : UInt8.ofNat (48 + dV c) = c := by
  have := dig_bounds h
  unfold dV
  rw [show 48 + (c.toNat - 48) = c.toNat by omega]
  simp
theorem dV_lt {c : UInt8} (h : isDig c = true) : dV c < 10 := by have := dig_bounds h; unfold dV; omega
theorem dec_val (u : Nat) : numV (Lib.decDigits u) = u := by
  rw [Lib.decDigits]
  split
  · rename_i h
    have := (dig_of h).2
    show 10 * 0 + dV _ = u
    unfold dV
    omega
  · rename_i h
    have h10 : u % 10 < 10 := Nat.mod_lt _ (by omega)
    have := (dig_of h10).2
    rw [val_snoc, dec_val (u / 10)]
    unfold dV
    omega
termination_by u
theorem dec_lens (u k : Nat) (h : u < 10 ^ (k + 1)) : (Lib.decDigits u).length ≤ k + 1 := by
  induction k generalizing u with
  | zero => rw [Lib.decDigits, dif_pos (by simpa using h)]; simp
  | succ k ih =>
    rw [Lib.decDigits]
    split
    · simp
    · have := ih (u / 10) (by rw [Nat.pow_succ] at h; omega)
      simp; omega
theorem val_lt : ∀ (n : Nat) (t : Bs), t.length = n → (∀ c ∈ t, isDig c = true) → numV t < 10 ^ n
  | 0, t, hl, _ => by
    have : t = [] := List.eq_nil_of_length_eq_zero hl
    subst this; decide
  | n + 1, t, hl, hd => by
    have hne : t ≠ [] := by intro e; subst e; simp at hl
    have e := (List.dropLast_concat_getLast hne)
    have h1 := val_lt n t.dropLast (by simp; omega) (fun c hc => hd c (List.dropLast_subset _ hc))
    have h2 := dV_lt (hd _ (List.getLast_mem hne))
    rw [← e, val_snoc, Nat.pow_succ]
    omega
theorem val_dec : ∀ (n : Nat) (t : Bs), t.length = n → t ≠ [] → (∀ c ∈ t, isDig c = true) → (t.head? = some 48 → t.length = 1) → Lib.decDigits (numV t) = t
  | 0, t, hl, hne, _, _ => absurd (List.eq_nil_of_length_eq_zero hl) hne
  | n + 1, t, hl, hne, hd, hz => by
    have e := (List.dropLast_concat_getLast hne)
    have hc := hd _ (List.getLast_mem hne)
    have h2 := dV_lt hc
    have hb := dig_back hc
    have hll : t.dropLast.length = n := by simp; omega
    have hd' : ∀ c ∈ t.dropLast, isDig c = true := fun c hc => hd c (List.dropLast_subset _ hc)
    generalize t.getLast hne = c at *
    generalize hp : t.dropLast = p at *
    subst e
    by_cases hpn : p = []
    · subst hpn
      show Lib.decDigits (10 * 0 + dV c) = _
      rw [Lib.decDigits, dif_pos (by omega), show 10 * 0 + dV c = dV c by omega, hb]
      rfl
    · have hp48 : p.head? ≠ some 48 := by
        intro e
        have : (p ++ [c]).head? = some 48 := by
          cases p with
          | nil => exact absurd rfl hpn
          | cons a b => simpa using e
        have := hz this
        have hpl : 0 < p.length := List.length_pos_iff.2 hpn
        rw [List.length_append, List.length_singleton] at this
        omega
      have ih := val_dec n p hll hpn hd' (fun e => absurd e hp48)
      have hv : numV p ≠ 0 := by
        intro e
        rw [e] at ih
        rw [← ih] at hp48
        exact hp48 (by rw [Lib.decDigits_one (by omega)]; rfl)
      rw [val_snoc, Lib.decDigits, dif_neg (by omega)]
      rw [show (10 * numV p + dV c) / 10 = numV p by omega, show (10 * numV p + dV c) % 10 = dV c by omega, ih, hb]

theorem itoa_nn (u : Nat) : Lib.itoa (u : Int) = Lib.decDigits u := by unfold Lib.itoa; rw [if_neg (by omega)]; simp
theorem itoa_ng (u : Nat) (h : 1 ≤ u) : Lib.itoa (-(u : Int)) = 45 :: Lib.decDigits u := by unfold Lib.itoa; rw [if_pos (by omega)]; simp
def tailP (s : Bs) : Bs := if byteAt s 0 = 45 then s.drop 1 else s
/-- What the document's exact answers. -/
def docX (s : Bs) : Option Int :=
  if (∀ c ∈ tailP s, isDig c = true) ∧ (tailP s).length ≤ 16 ∧ numV (tailP s) ≤ 9007199254740991 ∧ ¬ (numV (tailP s) = 0 ∧ (tailP s).length < s.length) then some (if (tailP s).length < s.length then -(numV (tailP s) : Int) else (numV (tailP s) : Int)) else none
theorem exactP_some {s : Bs} {n : Int} (h : exactP s = some n) : s = Lib.itoa n ∧ n ≤ 9007199254740991 ∧ -9007199254740991 ≤ n := by
  unfold exactP at h
  split at h
  · split at h
    · rename_i hc; cases h; exact ⟨hc.1.symm, hc.2⟩
    · cases h
  · cases h
theorem docX_itoa (n : Int) (h1 : n ≤ 9007199254740991) (h0 : -9007199254740991 ≤ n) : docX (Lib.itoa n) = some n := by
  by_cases hn : n < 0
  · have e : Lib.itoa n = 45 :: Lib.decDigits n.natAbs := by unfold Lib.itoa; rw [if_pos hn]
    have ht : tailP (Lib.itoa n) = Lib.decDigits n.natAbs := by rw [e]; rfl
    have hl := dec_lens n.natAbs 15 (by omega)
    unfold docX
    rw [ht, dec_val, if_pos ⟨dec_dig _, hl, by omega, by omega⟩, if_pos (by rw [e]; simp)]
    congr 1; omega
  · have e : Lib.itoa n = Lib.decDigits n.toNat := by unfold Lib.itoa; rw [if_neg hn]
    have hd := dec_dig n.toNat
    have hne := dec_ne n.toNat
    have ht : tailP (Lib.itoa n) = Lib.decDigits n.toNat := by
      rw [e]
      revert hd hne
      cases Lib.decDigits n.toNat with
      | nil => intro _ h; exact absurd rfl h
      | cons c r =>
        intro hd _
        have hc := dig_bounds (hd c (by simp))
        unfold tailP
        rw [if_neg]
        intro e
        have e2 : c = 45 := e
        rw [e2] at hc
        revert hc
        decide
    have hl := dec_lens n.toNat 15 (by omega)
    unfold docX
    rw [ht, dec_val, if_pos ⟨dec_dig _, hl, by omega, by rw [e]; omega⟩, if_neg (by rw [e]; omega)]
    congr 1; omega
/-- A number's text, as number cuts it: exact answers as the plain reading. -/
theorem docX_eq {s : Bs} (hz : (∀ c ∈ tailP s, isDig c = true) → tailP s ≠ [] ∧ ((tailP s).head? = some 48 → (tailP s).length = 1)) : docX s = exactP s := by
  cases he : exactP s with
  | some n =>
    obtain ⟨e, h1, h0⟩ := exactP_some he
    rw [e]; exact docX_itoa n h1 h0
  | none =>
    unfold docX
    split
    · rename_i hc
      obtain ⟨hd, hl, hv, hm⟩ := hc
      obtain ⟨hne, h48⟩ := hz hd
      have hdec := val_dec _ _ rfl hne hd h48
      exfalso
      by_cases h45 : byteAt s 0 = 45
      · have hs : s ≠ [] := by intro e; subst e; simp [byteAt] at h45
        have ht : tailP s = s.drop 1 := by unfold tailP; rw [if_pos h45]
        have hlt : (tailP s).length < s.length := by
          have := List.length_pos_iff.2 hs
          rw [ht, List.length_drop]; omega
        have hpos : 1 ≤ numV (tailP s) := by
          rcases Nat.eq_zero_or_pos (numV (tailP s)) with h | h
          · exact absurd ⟨h, hlt⟩ hm
          · exact h
        have e : s = Lib.itoa (-(numV (tailP s) : Int)) := by
          rw [itoa_ng _ hpos, hdec, ht]
          have := drop_b (s := s) (k := 0) (List.length_pos_iff.2 hs)
          rw [List.drop_zero, h45] at this
          exact this
        have := exact_itoa (-(numV (tailP s) : Int)) (by unfold maxInt; omega) (by unfold maxInt; omega)
        rw [← e, he] at this
        cases this
      · have ht : tailP s = s := by unfold tailP; rw [if_neg h45]
        rw [ht] at hdec hv
        have e : s = Lib.itoa (numV s : Int) := by rw [itoa_nn, hdec]
        have := exact_itoa (numV s : Int) (by unfold maxInt; omega) (by unfold maxInt; omega)
        rw [← e, he] at this
        cases this
    · rfl

def ExIs (X : Option Int) (en : Ending) : Prop := match X with | some n => en = .returned (.tuple #[.int .i64 n, .bool true]) | none => en = .returned (.tuple #[.int .i64 0, .bool false])
set_option maxRecDepth 100000 in
set_option maxHeartbeats 6400000 in
theorem exact_any' (s : Bs) (w : World) (hl : s.length ≤ 1048576) (h0 : 0 < s.length) : Calls Tryz.prog 97 #[.string ⟨s.toArray⟩] w fun en w' => ExIs (docX s) en ∧ w' = w := by
  have HD := Lib.hid (fun c => digit_any c w)
  have HX : Hid (docX s = if (∀ c ∈ tailP s, isDig c = true) ∧ (tailP s).length ≤ 16 ∧ numV (tailP s) ≤ 9007199254740991 ∧ ¬ (numV (tailP s) = 0 ∧ (tailP s).length < s.length) then some (if (tailP s).length < s.length then -(numV (tailP s) : Int) else (numV (tailP s) : Int)) else none) := Lib.hid rfl
  generalize docX s = X at *
  have k1 : (0 : Int) < s.length := by omega
  have g0 := get_b h0
  go_enter Tryz.func97, Tryz.ntmps97
  go_upto_region 2 with fail
  go_cut [10] (fun v wx => v = .bool (decide (byteAt s 0 = 45)) ∧ wx = w)
  case first =>
    by_cases h45 : byteAt s 0 = 45
    · rw [h45] at g0
      have HE : Hid (decide (byteAt s 0 = 45) = true) := Lib.hid (by simp [h45])
      clear h45
      go_wp2_with fail
      go_meet
      exact ⟨by rw [HE.out], rfl⟩
    · have q2 : (((byteAt s 0).toNat : Int) == 45) = false := u8_ne 45 (by omega) h45
      have HE : Hid (decide (byteAt s 0 = 45) = false) := Lib.hid (by simp [h45])
      clear h45
      generalize byteAt s 0 = c at *
      go_wp2_with fail
      go_meet
      exact ⟨by rw [HE.out], rfl⟩
  case rest =>
    obtain ⟨rfl, rfl⟩ := hcut
    go_upto_if 10 with fail
    go_cut [4] (fun v wx => v = .string ⟨(tailP s).toArray⟩ ∧ wx = wc)
    case first =>
      by_cases h45 : byteAt s 0 = 45
      · have e1 : decide (byteAt s 0 = 45) = true := by simp [h45]
        have ht : tailP s = s.drop 1 := by unfold tailP; rw [if_pos h45]
        have HT := Lib.hid ht
        rw [e1]
        clear h45 ht HX
        have k2 : (1 : Int) ≤ s.length := by omega
        go_wp2_with fail
        go_meet
        exact ⟨by rw [HT.out, ← ext_drop], rfl⟩
      · have e1 : decide (byteAt s 0 = 45) = false := by simp [h45]
        have ht : tailP s = s := by unfold tailP; rw [if_neg h45]
        have HT := Lib.hid ht
        rw [e1]
        clear h45 ht HX
        go_wp2_with fail
        go_meet
        exact ⟨by rw [HT.out], rfl⟩
    case rest =>
      obtain ⟨rfl, rfl⟩ := hcut
      have htl : (tailP s).length ≤ s.length := by unfold tailP; split <;> simp
      generalize tailP s = t at *
      go_wp2_with fail
      go_loopw [5, 6] (fun v v2 wr => ∃ n : Nat, n ≤ 16 ∧ n ≤ t.length ∧ v = .int .i64 (numV (t.take n) : Int) ∧ v2 = .int .i64 (n : Int) ∧ wr = wc ∧ Hid (∀ c ∈ t.take n, isDig c = true)) (fun _ v _ => t.length - (intOf v).toNat)
      case atStart => exact ⟨0, by omega, by omega, by simp [numV], rfl, rfl, Lib.hid (by simp)⟩
      case round =>
        obtain ⟨n, hn16, hnl, rfl, rfl, rfl, HI⟩ := hrel
        have hvl := val_lt n (t.take n) (by simp; omega) HI.out
        by_cases hlt : n < t.length
        · have k2 : (n : Int) < t.length := by omega
          have k0 : (0 : Int) ≤ n := by omega
          have gn := get_b hlt
          have HDn := HD.out (byteAt t n)
          have hta : t.take (n + 1) = t.take n ++ [byteAt t n] := by
            rw [List.take_succ_eq_append_getElem hlt]
            simp [byteAt, List.getD, hlt]
          have hmem : byteAt t n ∈ t := by
            simp [byteAt, List.getD, hlt]
          have hval := val_snoc (t.take n) (byteAt t n)
          rw [← hta] at hval
          cases hd : isDig (byteAt t n) with
          | true =>
            have hb := dig_bounds hd
            have hI2 : ∀ c ∈ t.take (n + 1), isDig c = true := by
              rw [hta]; intro c hc
              rcases List.mem_append.1 hc with h | h
              · exact HI.out c h
              · rw [List.mem_singleton.1 h]; exact hd
            have HI2 := Lib.hid hI2
            have HV := Lib.hid hval
            rw [hd] at HDn
            have HDN := Lib.hid HDn
            clear HDn hd hta hI2 hmem
            by_cases h15 : n ≤ 15
            · have hp : 10 ^ n ≤ 10 ^ 15 := Nat.pow_le_pow_right (by omega) h15
              have hv15 : numV (t.take n) < 1000000000000000 := by omega
              have k15 : ¬ (n : Int) > 15 := by omega
              unfold dV at hval HV
              clear hval hvl hp
              generalize numV (t.take n) = z at *
              generalize byteAt t n = c at *
              have b1 : (48 : Int) ≤ c.toNat := by omega
              have b2 : (c.toNat : Int) ≤ 57 := by omega
              go_wp2_with (go_at_call 120; ((with_reducible refine HDN.out.mono ?_); rintro e w2 ⟨rfl, rfl⟩))
              go_roundw
              case rel => exact ⟨n + 1, by omega, by omega, by rw [HV.out]; congr 1; omega, by simp, trivial, HI2⟩
              case measure => simp [intOf]; omega
            · have k15 : (n : Int) > 15 := by omega
              have HN : Hid (X = none) := Lib.hid (by rw [HX.out, if_neg (fun e => by have := e.2.1; omega)])
              clear hval hvl HV
              generalize numV (t.take n) = z at *
              generalize byteAt t n = c at *
              go_wp2_with (go_at_call 120; ((with_reducible refine HDN.out.mono ?_); rintro e w2 ⟨rfl, rfl⟩))
              go_ret2
              rw [HN.out]
              exact ⟨rfl, rfl⟩
          | false =>
            have HN : Hid (X = none) := Lib.hid (by rw [HX.out, if_neg (fun e => by have := e.1 _ hmem; rw [hd] at this; cases this)])
            rw [hd] at HDn
            have HDN := Lib.hid HDn
            clear HDn hd hta hmem hval hvl
            generalize numV (t.take n) = z at *
            generalize byteAt t n = c at *
            go_wp2_with (go_at_call 120; ((with_reducible refine HDN.out.mono ?_); rintro e w2 ⟨rfl, rfl⟩))
            go_ret2
            rw [HN.out]
            exact ⟨rfl, rfl⟩
        · have k2 : ¬ (n : Int) < t.length := by omega
          have hte : t.take n = t := List.take_of_length_le (by omega)
          have hdd := HI.out
          rw [hte] at hdd hvl ⊢
          have h16 : t.length ≤ 16 := by omega
          have HX2 : Hid (X = if numV t ≤ 9007199254740991 ∧ ¬ (numV t = 0 ∧ t.length < s.length) then some (if t.length < s.length then -(numV t : Int) else (numV t : Int)) else none) := Lib.hid (by
            rw [HX.out]
            by_cases hc : numV t ≤ 9007199254740991 ∧ ¬ (numV t = 0 ∧ t.length < s.length)
            · rw [if_pos ⟨hdd, h16, hc⟩, if_pos hc]
            · rw [if_neg (fun e => hc e.2.2), if_neg hc])
          clear HX hdd hte hvl HI
          generalize numV t = z at *
          by_cases c1 : z ≤ 9007199254740991
          · have k3 : ¬ (z : Int) > 9007199254740991 := by omega
            by_cases c2 : t.length < s.length
            · have k4 : (t.length : Int) < s.length := by omega
              by_cases c3 : z = 0
              · have HE : Hid (X = none) := Lib.hid (by rw [HX2.out, if_neg (fun e => e.2 ⟨c3, c2⟩)])
                clear HX2
                subst c3
                go_wp2_with fail
                go_ret2
                rw [HE.out]; exact ⟨rfl, rfl⟩
              · have HE : Hid (X = some (-(z : Int))) := Lib.hid (by rw [HX2.out, if_pos ⟨c1, fun e => c3 e.1⟩, if_pos c2])
                have k5 : ((z : Int) == 0) = false := by simp; omega
                clear HX2
                go_wp2_with fail
                go_ret2
                rw [HE.out]; exact ⟨rfl, rfl⟩
            · have k4 : ¬ (t.length : Int) < s.length := by omega
              have HE : Hid (X = some (z : Int)) := Lib.hid (by rw [HX2.out, if_pos ⟨c1, fun e => c2 e.2⟩, if_neg c2])
              clear HX2
              by_cases c3 : z = 0
              · subst c3
                go_wp2_with fail
                go_ret2
                rw [HE.out]; exact ⟨rfl, rfl⟩
              · have k5 : ((z : Int) == 0) = false := by simp; omega
                go_wp2_with fail
                go_ret2
                rw [HE.out]; exact ⟨rfl, rfl⟩
          · have k3 : (z : Int) > 9007199254740991 := by omega
            have HE : Hid (X = none) := Lib.hid (by rw [HX2.out, if_neg (fun e => c1 e.1)])
            clear HX2
            go_wp2_with fail
            go_ret2
            rw [HE.out]; exact ⟨rfl, rfl⟩

/-- The texts that number cuts: no zero ahead of other digits. -/
theorem cut_head {x : Bs} (hn : numP x ≠ 0) : (∀ c ∈ tailP (x.take (numP x)), isDig c = true) → tailP (x.take (numP x)) ≠ [] ∧ ((tailP (x.take (numP x))).head? = some 48 → (tailP (x.take (numP x))).length = 1) := by
  have hN : numP x = if wholeP (x.drop (minusP x)) = 0 then 0 else minusP x + wholeP (x.drop (minusP x)) + fracP (x.drop (minusP x + wholeP (x.drop (minusP x)))) + expP (x.drop (minusP x + wholeP (x.drop (minusP x)) + fracP (x.drop (minusP x + wholeP (x.drop (minusP x)))))) := rfl
  have hw0 : wholeP (x.drop (minusP x)) ≠ 0 := by
    intro e; rw [if_pos e] at hN; exact hn hN
  rw [if_neg hw0] at hN
  have hm : minusP x = if byteAt x 0 = 45 then 1 else 0 := by
    unfold minusP byteAt
    cases x with
    | nil => rfl
    | cons a b => simp [List.getD]
  have ht : tailP (x.take (numP x)) = (x.drop (minusP x)).take (numP x - minusP x) := by
    have hb : byteAt (x.take (numP x)) 0 = byteAt x 0 := by
      unfold byteAt List.getD
      rw [List.getElem?_take_of_lt (by omega)]
    unfold tailP
    rw [hb, hm]
    split
    · rw [List.drop_take]
    · simp
  rw [ht]
  generalize minusP x = m at *
  have hW := whole_head (s := x) (f := m)
  generalize wholeP (x.drop m) = W at *
  have hfr := frac_at x (m + W)
  have hex := exp_n x (m + W + fracP (x.drop (m + W)))
  generalize fracP (x.drop (m + W)) = F at *
  generalize expP (x.drop (m + W + F)) = E at *
  intro hd
  have hmx : m < x.length := by
    rcases Nat.lt_or_ge m x.length with h | h
    · exact h
    · exfalso
      rw [digs_end (by omega)] at hW
      split at hW
      · rename_i hc; omega
      · exact hw0 hW
  have hcons := drop_b hmx
  refine ⟨?_, fun h48 => ?_⟩
  · rw [hcons, show numP x - m = (numP x - m - 1) + 1 by omega]
    simp
  · have h48' : byteAt x m = 48 := by
      rw [hcons, show numP x - m = (numP x - m - 1) + 1 by omega] at h48
      simpa using h48
    rw [if_pos ⟨h48', hmx⟩] at hW
    subst hW
    have hmem : ∀ k, k < numP x - m → m + k < x.length → isDig (byteAt x (m + k)) = true := fun k hk hkx => hd _ (by
      have hk2 : k < ((x.drop m).take (numP x - m)).length := by simp; omega
      have := List.getElem_mem hk2
      simp only [List.getElem_take, List.getElem_drop] at this
      simpa [byteAt, List.getD, hkx] using this)
    have hF : F = 0 := by
      split at hfr
      · rename_i hc
        have := hmem 1 (by omega) hc.1
        rw [hc.2.1] at this
        exact absurd this (by decide)
      · exact hfr
    subst hF
    have hE : E = 0 := by
      split at hex
      · rename_i hc
        have := hmem 1 (by omega) (by have := hc.1; omega)
        rw [Nat.add_zero] at hc
        rcases hc.2.1 with h | h <;> · rw [h] at this; exact absurd this (by decide)
      · exact hex
    rw [List.length_take, List.length_drop]
    omega
theorem docX_num {x : Bs} (hn : numP x ≠ 0) : docX (x.take (numP x)) = exactP (x.take (numP x)) := docX_eq (cut_head hn)
end Go.Proofs.YteeijmfnjcddmaaGreatDoor
