/- JSON: the program's reader: blanks, take, digits, number, exact. -/
import Derived.Test.YteeijmfnjcddmaaGreatDoorLib
import Derived.Test.YteeijmfnjcddmaaGreatDoorJq
import Derived.StillTailTactics
import Derived.Deep.DeepCutAuto
namespace Go.Proofs.YteeijmfnjcddmaaGreatDoor
open Go.RowKit

/-- The reader at block b, what is left. -/
def Rd (w : World) (b : Nat) (s : Bs) : Prop := Blk w b 67 #[.string ⟨s.toArray⟩]
theorem Rd.fr {S : Nat → Prop} {w w' : World} {b : Nat} {s : Bs} (h : Rd w b s) (f : Fr S w w') (hs : ¬ S b) : Rd w' b s := f.blk h hs
theorem Rd.set {w : World} {b : Nat} {s : Bs} (h : Rd w b s) (t : Bs) : Rd (w.setCell ⟨b, 0, none⟩ (.string ⟨t.toArray⟩)) b t := by
  have := Blk.set_ h 0 (.string ⟨t.toArray⟩)
  unfold Rd; simpa using this
section
variable {w : World} {b : Nat} {s : Bs}
theorem Rd.cell (h : Rd w b s) : w.cell? ⟨b, 0, none⟩ = some (.string ⟨s.toArray⟩) := (Blk.cell h 0).trans rfl
theorem Rd.frozen (h : Rd w b s) : w.frozen? ⟨b, 0, none⟩ = false := Blk.frozen h 0
theorem Rd.lt (h : Rd w b s) : b < w.heap.size := Blk.lt h
end
/-- Only the reader has turned, and it holds t now. -/
def Goes (w : World) (b : Nat) (t : Bs) (w' : World) : Prop := Fr (Only b) w w' ∧ Rd w' b t

theorem blanks_any (b : Nat) (s : Bs) (w : World) (h : Rd w b s) :
    Calls Tryz.prog 38 #[.pointer (some ⟨b, 0, none⟩)] w fun e w' => e = .returned (.tuple #[]) ∧ Goes w b (blanks s) w' := by
  have hc := h.cell
  go_enter Tryz.func38, Tryz.ntmps38
  go_wp2_with (go_at_call 60; refine (trimLeft_any s [32, 9, 10, 13] _ (by decide) (by decide)).mono ?_; rintro e w1 ⟨rfl, f1⟩; have r1 := h.fr f1 (fun e => e); have c1 := r1.cell; have z1 := r1.frozen)
  go_end0
  exact ⟨rfl, (f1.noB).only _, r1.set _⟩

theorem take_yes (b : Nat) (s p : Bs) (w : World) (h : Rd w b s) (hp : Lib.hasPrefix s p = true) :
    Calls Tryz.prog 63 #[.pointer (some ⟨b, 0, none⟩), .string ⟨p.toArray⟩] w fun e w' => e = .returned (.bool true) ∧ Goes w b (blanks (s.drop p.length)) w' := by
  have hc := h.cell
  have hz := h.frozen
  have h2 := h.set (s.drop p.length)
  go_enter Tryz.func63, Tryz.ntmps63
  go_wp2_with (first | (go_at_call 90; refine (cutPrefix_yes s p _ hp).mono ?_; rintro e w1 ⟨rfl, rfl⟩) | (go_at_call 38; refine (blanks_any b _ _ h2).mono ?_; rintro e w1 ⟨rfl, f1, r1⟩))
  go_ret
  exact ⟨rfl, ((Fr.refl _ w).only _).trans f1, r1⟩
theorem take_no (b : Nat) (s p : Bs) (w : World) (h : Rd w b s) (hp : Lib.hasPrefix s p = false) :
    Calls Tryz.prog 63 #[.pointer (some ⟨b, 0, none⟩), .string ⟨p.toArray⟩] w fun e w' => e = .returned (.bool false) ∧ w = w' := by
  have hc := h.cell
  go_enter Tryz.func63, Tryz.ntmps63
  go_wp2_with (go_at_call 90; refine (cutPrefix_no s p _ hp).mono ?_; rintro e w1 ⟨rfl, rfl⟩)
  go_ret
  exact ⟨rfl, rfl⟩


theorem digs_trim (s : Bs) : (s.length : Int) - (Lib.trimLeftS s [48, 49, 50, 51, 52, 53, 54, 55, 56, 57]).length = digs s := by
  have e : ∀ c : UInt8, [48, 49, 50, 51, 52, 53, 54, 55, 56, 57].contains c = isDig c := fun c => by simpa using forall_u8 (p := fun c => [48, 49, 50, 51, 52, 53, 54, 55, 56, 57].contains c == isDig c) (by decide +kernel) c
  unfold digs Lib.trimLeftS
  rw [show (fun c : UInt8 => [48, 49, 50, 51, 52, 53, 54, 55, 56, 57].contains c) = isDig from funext e]
  have := List.takeWhile_append_dropWhile (p := isDig) (l := s)
  have h2 := congrArg List.length this
  simp only [List.length_append] at h2
  omega
theorem digits_any (s : Bs) (w : World) (hs : s.length ≤ 281474976710656) :
    Calls Tryz.prog 93 #[.string ⟨s.toArray⟩] w fun e w' => e = .returned (.int .i64 (digs s)) ∧ Fr NoB w w' := by
  have H := Lib.hid (digs_trim s)
  go_enter Tryz.func93, Tryz.ntmps93
  go_wp2_with (go_at_call 60; refine (trimLeft_any s [48, 49, 50, 51, 52, 53, 54, 55, 56, 57] _ (by decide) (by decide)).mono ?_; rintro e w1 ⟨rfl, f1⟩)
  go_ret
  have hd : digs s ≤ s.length := by unfold digs; exact (List.takeWhile_sublist _).length_le
  exact ⟨ret_int (by rw [H.out]; exact IntWalk.wrap64_in _ ⟨by omega, by omega⟩), f1⟩


theorem minusP_no {s : Bs} (h : Lib.hasPrefix s [45] = false) : minusP s = 0 := by
  unfold minusP Lib.hasPrefix at *
  cases s with
  | nil => rfl
  | cons c r => simp [List.isPrefixOf] at h ⊢; exact fun e => h e.symm
theorem minusP_yes {s : Bs} (h : Lib.hasPrefix s [45] = true) : minusP s = 1 ∧ 1 ≤ s.length := by
  unfold minusP Lib.hasPrefix at *
  cases s with
  | nil => simp at h
  | cons c r => simp at h ⊢; exact h.symm
theorem wholeP_zero {s : Bs} : wholeP s = 0 ↔ digs s = 0 := by
  unfold wholeP
  split
  · rename_i h
    cases s with
    | nil => simp at h
    | cons c r => simp at h; subst h; simp [digs, isDig]
  · rfl
theorem numP_none {s : Bs} {i : Nat} (hi : minusP s = i) (hn : digs (s.drop i) = 0) : numP s = 0 := by
  unfold numP
  rw [hi]
  simp [wholeP_zero.2 hn]

theorem drop_at {s : Bs} {i : Nat} (h : i < s.length) : s.drop i = s[i] :: s.drop (i + 1) := List.drop_eq_getElem_cons h
theorem whole_at {s : Bs} {i n : Nat} (h : i < s.length) (hn : digs (s.drop i) = n) : wholeP (s.drop i) = if s[i] = 48 then 1 else n := by
  rw [wholeP, drop_at h]
  simp only [List.head?_cons, Option.some.injEq]
  rw [← drop_at h, hn]
theorem frac_no {s : Bs} (h : Lib.hasPrefix s [46] = false) : fracP s = 0 := by
  unfold Lib.hasPrefix at h
  cases s with
  | nil => rfl
  | cons c r => simp [List.isPrefixOf] at h; simp [fracP]; intro e; exact absurd e.symm h
theorem frac_yes {s : Bs} (h : Lib.hasPrefix s [46] = true) : 1 ≤ s.length ∧ fracP s = if 0 < digs (s.drop 1) then 1 + digs (s.drop 1) else 0 := by
  unfold Lib.hasPrefix at h
  cases s with
  | nil => simp at h
  | cons c r => simp [List.isPrefixOf] at h; subst h; simp [fracP]
theorem exp_end {s : Bs} {k : Nat} (h : ¬ k < s.length) : expP (s.drop k) = 0 := by
  rw [List.drop_eq_nil_of_le (by omega)]; rfl
theorem exp_no {s : Bs} {k : Nat} (h : k < s.length) (h1 : s[k] ≠ 101) (h2 : s[k] ≠ 69) : expP (s.drop k) = 0 := by
  rw [drop_at h]; simp [expP, h1, h2]
theorem exp_at {s : Bs} {k : Nat} (h : k < s.length) (h1 : s[k] = 101 ∨ s[k] = 69) :
    expP (s.drop k) = if 0 < digs (s.drop (k + 1 + signP (s.drop (k + 1)))) then 1 + signP (s.drop (k + 1)) + digs (s.drop (k + 1 + signP (s.drop (k + 1)))) else 0 := by
  rw [drop_at h]
  simp only [expP, h1, true_and, List.drop_drop]
theorem sign_end {s : Bs} {k : Nat} (h : ¬ k < s.length) : signP (s.drop k) = 0 := by
  rw [List.drop_eq_nil_of_le (by omega)]; rfl
theorem sign_at {s : Bs} {k : Nat} (h : k < s.length) : signP (s.drop k) = if s[k] = 43 ∨ s[k] = 45 then 1 else 0 := by
  rw [drop_at h]; rfl
theorem numP_some {s : Bs} {i m k : Nat} (hi : minusP s = i) (hm : wholeP (s.drop i) = m) (h0 : 0 < m) (hk : i + m + fracP (s.drop (i + m)) = k) : numP s = k + expP (s.drop k) := by
  unfold numP
  rw [hi]
  simp only [hm, hk]
  rw [if_neg (by omega)]

set_option maxRecDepth 100000 in
set_option maxHeartbeats 3200000 in
theorem number_any (s : Bs) (w : World) (hs : s.length ≤ 281474976710656) :
    Calls Tryz.prog 65 #[.string ⟨s.toArray⟩] w fun e w' => e = .returned (.int .i64 (numP s)) ∧ Fr NoB w w' := by
  have hx := ext_drop s
  have hg := get_list s
  go_enter Tryz.func65, Tryz.ntmps65
  go_upto_if 9 with (go_at_call 61; refine (hasPrefix_any s [45] _).mono ?_; rintro e w' ⟨rfl, rfl⟩)
  go_cut [3] (fun v3 wx => (∃ i : Nat, i ≤ s.length ∧ Hid (minusP s = i) ∧ v3 = .int .i64 i) ∧ w = wx)
  case first =>
    clear hx hg
    cases hm : Lib.hasPrefix s [45]
    · have h0 : minusP s = 0 := minusP_no hm
      go_wp2_with fail
      go_meet
      exact ⟨⟨0, Nat.zero_le _, Lib.hid h0, rfl⟩, rfl⟩
    · obtain ⟨h0, h1⟩ := minusP_yes hm
      go_wp2_with fail
      go_meet
      exact ⟨⟨1, h1, Lib.hid h0, rfl⟩, rfl⟩
  case rest =>
    obtain ⟨⟨i, hi, Hi, rfl⟩, rfl⟩ := hcut
    go_upto_if 15 with (go_at_call 93; with_reducible refine (digits_any (s.drop i) _ (by simp; omega)).mono ?_; rintro e w1 ⟨rfl, f1⟩)
    generalize hn : digs (s.drop i) = n
    have Hn := Lib.hid hn
    have hnl : i + n ≤ s.length := by have := digs_le (s.drop i); simp at this; omega
    clear hn
    by_cases hn0 : n = 0
    · subst hn0
      have hf : numP s = 0 := numP_none Hi.out Hn.out
      have Hf := Lib.hid hf
      clear hf
      go_wp2_with fail
      go_ret
      exact ⟨ret_int (by rw [Hf.out]; rfl), f1⟩
    · have hb0 : ((n : Int) == 0) = false := beq_eq_false_iff_ne.2 (by omega)
      have hil : i < s.length := by omega
      go_upto_if 19 with fail
      go_cut [4] (fun v4 wx => (∃ m : Nat, 0 < m ∧ i + m ≤ s.length ∧ Hid (wholeP (s.drop i) = m) ∧ v4 = .int .i64 m) ∧ w1 = wx)
      case first =>
        have hwh := Lib.hid (whole_at hil Hn.out)
        by_cases hz : s[i] = 48
        · have hzb : ((s[i].toNat : Int) == 48) = true := by rw [hz]; rfl
          go_wp2_with fail
          go_meet
          exact ⟨⟨1, by omega, by omega, Lib.hid (by rw [hwh.out, if_pos hz]), rfl⟩, rfl⟩
        · have hzb : ((s[i].toNat : Int) == 48) = false := u8_ne 48 (by omega) hz
          go_wp2_with fail
          go_meet
          exact ⟨⟨n, by omega, by omega, Lib.hid (by rw [hwh.out, if_neg hz]), rfl⟩, rfl⟩
      case rest =>
        obtain ⟨⟨m, hm0, hml, Hm, rfl⟩, rfl⟩ := hcut
        clear hn0 hb0 hnl Hn
        go_upto_if 26 with (go_at_call 61; with_reducible refine (hasPrefix_any (s.drop (i + m)) [46] _).mono ?_; rintro e w2 ⟨rfl, rfl⟩)
        go_cut [3] (fun v3 wx => (∃ k : Nat, k ≤ s.length ∧ Hid (i + m + fracP (s.drop (i + m)) = k) ∧ v3 = .int .i64 k) ∧ Fr NoB w wx)
        case first =>
          cases hp : Lib.hasPrefix (s.drop (i + m)) [46]
          · have hfr := frac_no hp
            go_wp2_with fail
            go_meet
            exact ⟨⟨i + m, hml, Lib.hid (by rw [hfr]; rfl), by go_num⟩, f1⟩
          · obtain ⟨hfl, hfr0⟩ := frac_yes hp
            simp only [List.length_drop] at hfl
            rw [List.drop_drop] at hfr0
            have hdl := digs_le (s.drop (i + m + 1))
            simp only [List.length_drop] at hdl
            have hfr := Lib.hid hfr0
            clear hfr0
            go_wp2_with (go_at_call 93; with_reducible refine (digits_any (s.drop (i + m + 1)) _ (by simp; omega)).mono ?_; rintro e w3 ⟨rfl, f3⟩)
            · have hpos : 0 < digs (s.drop (i + m + 1)) := by assumption
              go_meet
              exact ⟨⟨i + m + (1 + digs (s.drop (i + m + 1))), by omega, Lib.hid (by rw [hfr.out, if_pos hpos]), by go_num⟩, f1.trans f3⟩
            · have hpos : ¬ 0 < digs (s.drop (i + m + 1)) := by assumption
              go_meet
              exact ⟨⟨i + m, by omega, Lib.hid (by rw [hfr.out, if_neg hpos]; rfl), by go_num⟩, f1.trans f3⟩
        case rest =>
          obtain ⟨⟨k, hkl, Hk, rfl⟩, f2⟩ := hcut
          have Hf := Lib.hid (numP_some Hi.out Hm.out hm0 Hk.out)
          clear Hi Hm Hk hm0 hml hi hil f1
          by_cases hk : k < s.length
          · by_cases hE : s[k] = 101 ∨ s[k] = 69
            · have hex := exp_at hk hE
              have hdl := digs_le (s.drop (k + 1 + signP (s.drop (k + 1))))
              simp only [List.length_drop] at hdl
              generalize hsg : signP (s.drop (k + 1)) = sg at hex hdl
              have Hsg := Lib.hid hsg
              generalize hdg : digs (s.drop (k + 1 + sg)) = dg at hex hdl
              have Hdg := Lib.hid hdg
              have Hex := Lib.hid hex
              clear hex hsg hdg
              have hsl : k + 1 + sg ≤ s.length := by
                rw [← Hsg.out]
                by_cases h1 : k + 1 < s.length
                · rw [sign_at h1]; split <;> omega
                · rw [sign_end h1]; omega
              have hE1 : (((s[k].toNat : Int) == 101) = true) ∨ (((s[k].toNat : Int) == 101) = false ∧ ((s[k].toNat : Int) == 69) = true) := by
                rcases hE with h | h
                · exact Or.inl (by rw [h]; rfl)
                · exact Or.inr ⟨by rw [h]; rfl, by rw [h]; rfl⟩
              clear hE
              rcases hE1 with hE1 | ⟨hE1, hE2⟩
              all_goals
                go_upto_region 16 with fail
                go_cut [71] (fun v wx => v = .bool (decide (sg = 1)) ∧ Fr NoB w wx)
                case first =>
                  clear Hex Hdg hdl hE1
                  by_cases h1 : k + 1 < s.length
                  · have hsg := sign_at h1
                    rw [Hsg.out] at hsg
                    by_cases h43 : s[k + 1] = 43
                    · have hb : ((s[k + 1].toNat : Int) == 43) = true := by rw [h43]; rfl
                      obtain rfl : sg = 1 := by rw [hsg, if_pos (Or.inl h43)]
                      clear hsg
                      go_wp2_with fail
                      go_meet
                      exact ⟨rfl, f2⟩
                    · by_cases h45 : s[k + 1] = 45
                      · have hb : ((s[k + 1].toNat : Int) == 43) = false := by rw [h45]; rfl
                        have hb2 : ((s[k + 1].toNat : Int) == 45) = true := by rw [h45]; rfl
                        obtain rfl : sg = 1 := by rw [hsg, if_pos (Or.inr h45)]
                        clear hsg
                        go_wp2_with fail
                        go_meet
                        exact ⟨rfl, f2⟩
                      · have hb : ((s[k + 1].toNat : Int) == 43) = false := u8_ne 43 (by omega) h43
                        have hb2 : ((s[k + 1].toNat : Int) == 45) = false := u8_ne 45 (by omega) h45
                        obtain rfl : sg = 0 := by rw [hsg, if_neg (by rintro (h | h); exact h43 h; exact h45 h)]
                        clear hsg
                        go_wp2_with fail
                        go_meet
                        exact ⟨rfl, f2⟩
                  · have hsg := sign_end h1
                    rw [Hsg.out] at hsg
                    subst hsg
                    go_wp2_with fail
                    go_meet
                    exact ⟨rfl, f2⟩
                case rest =>
                  obtain ⟨rfl, f3⟩ := hcut
                  clear hE1 f2
                  have hsg1 : sg = 0 ∨ sg = 1 := by
                    rw [← Hsg.out]
                    by_cases h1 : k + 1 < s.length
                    · rw [sign_at h1]; split <;> omega
                    · rw [sign_end h1]; omega
                  clear Hsg
                  rcases hsg1 with rfl | rfl
                  · simp only [show decide (0 = 1) = false from rfl]
                    have Hd : Hid (digs (s.drop (k + 1)) = dg) := Lib.hid Hdg.out
                    clear Hdg
                    by_cases hd0 : 0 < dg
                    · go_wp2_with (go_at_call 93; ((with_reducible refine (digits_any (s.drop (k + 1)) _ (by simp; omega)).mono ?_); rintro e w3 ⟨rfl, f4⟩; rw [Hd.out]))
                      go_ret
                      exact ⟨ret_int (by rw [Hf.out, Hex.out, if_pos hd0]; omega), f3.trans f4⟩
                    · go_wp2_with (go_at_call 93; ((with_reducible refine (digits_any (s.drop (k + 1)) _ (by simp; omega)).mono ?_); rintro e w3 ⟨rfl, f4⟩; rw [Hd.out]))
                      go_ret
                      exact ⟨ret_int (by rw [Hf.out, Hex.out, if_neg hd0]; rfl), f3.trans f4⟩
                  · simp only [decide_true]
                    have Hd := Hdg
                    clear Hdg
                    by_cases hd0 : 0 < dg
                    · go_wp2_with (go_at_call 93; ((with_reducible refine (digits_any (s.drop (k + 1 + 1)) _ (by simp; omega)).mono ?_); rintro e w3 ⟨rfl, f4⟩; rw [Hd.out]))
                      go_ret
                      exact ⟨ret_int (by rw [Hf.out, Hex.out, if_pos hd0]; omega), f3.trans f4⟩
                    · go_wp2_with (go_at_call 93; ((with_reducible refine (digits_any (s.drop (k + 1 + 1)) _ (by simp; omega)).mono ?_); rintro e w3 ⟨rfl, f4⟩; rw [Hd.out]))
                      go_ret
                      exact ⟨ret_int (by rw [Hf.out, Hex.out, if_neg hd0]; rfl), f3.trans f4⟩
            · have hE1 : ((s[k].toNat : Int) == 101) = false := u8_ne 101 (by omega) (fun h => hE (Or.inl h))
              have hE2 : ((s[k].toNat : Int) == 69) = false := u8_ne 69 (by omega) (fun h => hE (Or.inr h))
              have hex := Lib.hid (exp_no hk (fun h => hE (Or.inl h)) (fun h => hE (Or.inr h)))
              clear hE
              go_wp2_with fail
              go_ret
              exact ⟨ret_int (by rw [Hf.out, hex.out]; rfl), f2⟩
          · have hex := Lib.hid (exp_end hk)
            go_wp2_with fail
            go_ret
            exact ⟨ret_int (by rw [Hf.out, hex.out]; rfl), f2⟩
end Go.Proofs.YteeijmfnjcddmaaGreatDoor
