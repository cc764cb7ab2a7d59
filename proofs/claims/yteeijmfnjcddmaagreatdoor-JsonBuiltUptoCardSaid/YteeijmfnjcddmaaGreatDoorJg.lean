/- JSON: the program's reader: escaped, two units; the whole of it. -/
import Derived.Test.YteeijmfnjcddmaaGreatDoorJf
namespace Go.Proofs.YteeijmfnjcddmaaGreatDoor
open Go.RowKit

set_option maxRecDepth 100000 in
set_option maxHeartbeats 1600000 in
theorem esc_half {B : Nat} (b : Nat) (s r : Bs) (n : Nat) (w : World) (hx : Cx B w) (hB : B ≤ b) (h : Rd w b s) (hl : s.length ≤ 65536) (hs2 : 1 < s.length) (he : escV s[1] = 0) (hu : unitP s = some (n, r)) (hn : 55296 ≤ n ∧ n ≤ 56319) (hu2 : unitP r = none) :
    Calls Tryz.prog 91 #[.pointer (some ⟨b, 0, none⟩)] w fun e w' => e = Wr 90 ∧ Fr (Only b) w w' := by
  have ht := esc_tab s[1]
  rw [if_neg (by simpa using he)] at ht
  have hc := h.cell
  have hg := get_list s
  have Hi := Lib.hid ht
  have HU := Lib.hid hu
  have hl2 := unitP_len hu
  have hr6 : r.length ≤ 65536 := by omega
  obtain ⟨i0, hi0, hz0, hz1, hz2⟩ := info_parts info_int
  have tok1 : True := trivial
  have tok2 : True := trivial
  have HU2 := Lib.hid hu2
  clear ht hu he hu2
  obtain ⟨hn1, hn2⟩ := hn
  go_enter Tryz.func91, Tryz.ntmps91
  go_wp2_with (first | (go_at_call 40; ((with_reducible refine (must_ok _ _ _ (by first | rfl | (simp; omega))).mono ?_); rintro e w2 ⟨rfl, rfl⟩)) | (go_at_call 81; ((with_reducible refine (indexByte_any [34, 92, 47, 98, 102, 110, 114, 116] _ _).mono ?_); rintro e w2 ⟨rfl, rfl⟩; simp only [Int.toNat_natCast, Nat.toUInt8_eq, UInt8.ofNat_toNat]; rw [Hi.out])) | (go_at_call 116; have _t := tok1; ((with_reducible refine (unit_yes b s r n _ h hl HU.out).mono ?_); rintro e w1 ⟨rfl, f1, r1⟩; have r1a := r1.fr ((Fr.refl NoB w1).alloc (.cells #[.int .i64 (n : Int)] 3)) (fun e => e); have hx1 := (hx.fr f1 (fun k e => by rw [show k = b from e]; exact hB)); clear tok1)) | (go_at_call 116; have _t := tok2; ((with_reducible refine (unit_no b r _ r1a hr6 HU2.out).mono ?_); rintro e w2 ⟨rfl, f2⟩; clear tok2)))
  exact ⟨rfl, rfl, (f1.alloc _).trans f2.noB⟩

theorem slice_two {w : World} {base : Nat} {v : Value} {xs : List Value} {T : TypeId} (h : w.ownsRow base T 1 v (1 + 1) xs) : ∃ g cap, v = .slice (some ⟨g, 0, none⟩) 2 cap ∧ base ≤ g := by
  rcases h.2 with ⟨_, h0⟩ | ⟨g, cap, cur, hv, hg, _⟩
  · omega
  · exact ⟨g, cap, hv, hg⟩

set_option maxRecDepth 100000 in
set_option maxHeartbeats 1600000 in
theorem esc_pair {B : Nat} (b : Nat) (s r : Bs) (n : Nat) (w : World) (hx : Cx B w) (hB : B ≤ b) (h : Rd w b s) (hl : s.length ≤ 65536) (hs2 : 1 < s.length) (he : escV s[1] = 0) (hu : unitP s = some (n, r)) (hn : 55296 ≤ n ∧ n ≤ 56319) (r2 : Bs) (m : Nat) (hu2 : unitP r = some (m, r2)) (hm : 56320 ≤ m ∧ m ≤ 57343) :
    Calls Tryz.prog 91 #[.pointer (some ⟨b, 0, none⟩)] w fun e w' => e = .returned (.string ⟨(Lib.encodeRune (65536 + ((n : Int) - 55296) * 1024 + m - 56320)).toArray⟩) ∧ Goes w b r2 w' := by
  have ht := esc_tab s[1]
  rw [if_neg (by simpa using he)] at ht
  have hc := h.cell
  have hg := get_list s
  have Hi := Lib.hid ht
  have HU := Lib.hid hu
  have hl2 := unitP_len hu
  have hr6 : r.length ≤ 65536 := by omega
  obtain ⟨i0, hi0, hz0, hz1, hz2⟩ := info_parts info_int
  have tok1 : True := trivial
  have tok2 : True := trivial
  have HU2 := Lib.hid hu2
  have hj : joinP [(n : Int), (m : Int)] = .ok [65536 + ((n : Int) - 55296) * 1024 + m - 56320] := by rw [join_pair (by omega) (by omega)]; rfl
  have HJ := Lib.hid hj
  have henc : encsP [65536 + ((n : Int) - 55296) * 1024 + m - 56320] = Lib.encodeRune (65536 + ((n : Int) - 55296) * 1024 + m - 56320) := by simp [encsP]
  have HE := Lib.hid henc
  clear ht hu he hu2 hj henc
  obtain ⟨hn1, hn2⟩ := hn
  go_enter Tryz.func91, Tryz.ntmps91
  go_wp2_with (first | (go_at_call 40; ((with_reducible refine (must_ok _ _ _ (by first | rfl | (simp; omega))).mono ?_); rintro e w2 ⟨rfl, rfl⟩)) | (go_at_call 81; ((with_reducible refine (indexByte_any [34, 92, 47, 98, 102, 110, 114, 116] _ _).mono ?_); rintro e w2 ⟨rfl, rfl⟩; simp only [Int.toNat_natCast, Nat.toUInt8_eq, UInt8.ofNat_toNat]; rw [Hi.out])) | (go_at_call 116; have _t := tok1; ((with_reducible refine (unit_yes b s r n _ h hl HU.out).mono ?_); rintro e w1 ⟨rfl, f1, r1⟩; have r1a := r1.fr ((Fr.refl NoB w1).alloc (.cells #[.int .i64 (n : Int)] 3)) (fun e => e); have hx1 := (hx.fr f1 (fun k e => by rw [show k = b from e]; exact hB)); clear tok1)) | (go_at_call 116; have _t := tok2; ((with_reducible refine (unit_yes b r r2 m _ r1a hr6 HU2.out).mono ?_); rintro e w2 ⟨rfl, f2, r2a⟩; have bn := f2.blk (Blk.new w1 3 #[.int .i64 (n : Int)]) (fun e => by have := r1.lt; have e' : w1.heap.size = b := e; omega); have hx2 := (hx1.fr0 ((Fr.refl NoB w1).alloc (.cells #[.int .i64 (n : Int)] 3))).fr f2 (fun k e => by rw [show k = b from e]; exact hB); have Hbn := Lib.hid bn; clear bn tok2)) | (at_builtin; refine wpList_append_own _ rfl _ _ 45 rfl w1.heap.size 3 i0 (.int .i64 0) 1 8 Tryz.underlying45 hi0 hz0 hz1 hz2 rfl (by decide) (.slice (some ⟨w1.heap.size, 0, none⟩) 1 1) 1 [.int .i64 (n : Int)] rfl (own_noB (own_new Hbn.out (Nat.le_refl _)) ((Fr.refl _ _).alloc _)) ⟨w2.heap.size, 0, none⟩ 1 1 [.int .i64 (m : Int)] rfl rfl (cell_one_new _ _ _) (by intro u hu; rw [List.mem_singleton] at hu; subst hu; rfl) (by unfold maxLen; omega) (by omega) (by have := f2.size; simp at this; simp; omega) ?_; intro v3 w3 hown3 hgrow3 hnil3; clear hnil3))
  obtain ⟨g3, c3, hv3, hg3⟩ := slice_two hown3
  subst hv3
  have F3 := Fr.grown (S := Only w1.heap.size) (Fr.refl _ _) hgrow3 (fun j hj _ => by
    have e : some w1.heap.size = some j := hj
    injection e with e
    exact e.symm)
  have FW := Fr.grown (((f1.alloc _).trans f2).alloc _) hgrow3 (fun j hj hlt => by
    have e : some w1.heap.size = some j := hj
    injection e with e
    have := f1.size
    exact absurd hlt (by omega))
  have r3 := (r2a.fr ((Fr.refl NoB w2).alloc (.cells #[.int .i64 (m : Int)] 3)) (fun e => e)).fr F3 (fun e => by
    have := r1.lt
    have e' : b = w1.heap.size := e
    omega)
  have hx3 := (hx2.fr0 ((Fr.refl NoB w2).alloc (.cells #[.int .i64 (m : Int)] 3))).fr F3 (fun k e => by
    rw [show k = w1.heap.size from e]
    exact hx1.le)
  have hown4 : w3.ownsRow w1.heap.size 3 1 (.slice (some ⟨g3, 0, none⟩) 2 c3) 2 [.int .i64 (n : Int), .int .i64 (m : Int)] := hown3
  have HO := Lib.hid hown4
  clear hgrow3 F3 hown3 hown4
  go_wp2_with (first | (go_at_call 40; ((with_reducible refine (must_ok _ _ _ (by first | rfl | (simp; omega))).mono ?_); rintro e w2 ⟨rfl, rfl⟩)) | (go_at_call 30; ((with_reducible refine (from_two w1.heap.size g3 c3 (n : Int) (m : Int) _ hx3 HO.out _ HJ.out).mono ?_); rintro e w4 ⟨rfl, f4⟩; rw [HE.out])))
  go_ret
  exact ⟨rfl, FW.trans f4.noB, r3.fr f4 (fun e => e)⟩

set_option maxRecDepth 100000 in
set_option maxHeartbeats 1600000 in
theorem esc_odd {B : Nat} (b : Nat) (s r : Bs) (n : Nat) (w : World) (hx : Cx B w) (hB : B ≤ b) (h : Rd w b s) (hl : s.length ≤ 65536) (hs2 : 1 < s.length) (he : escV s[1] = 0) (hu : unitP s = some (n, r)) (hn : 55296 ≤ n ∧ n ≤ 56319) (r2 : Bs) (m : Nat) (hu2 : unitP r = some (m, r2)) (hm : m < 56320 ∨ 57343 < m) :
    Calls Tryz.prog 91 #[.pointer (some ⟨b, 0, none⟩)] w fun e w' => e = Wr 90 ∧ Fr (Only b) w w' := by
  have ht := esc_tab s[1]
  rw [if_neg (by simpa using he)] at ht
  have hc := h.cell
  have hg := get_list s
  have Hi := Lib.hid ht
  have HU := Lib.hid hu
  have hl2 := unitP_len hu
  have hr6 : r.length ≤ 65536 := by omega
  obtain ⟨i0, hi0, hz0, hz1, hz2⟩ := info_parts info_int
  have tok1 : True := trivial
  have tok2 : True := trivial
  have HU2 := Lib.hid hu2
  have hj : joinP [(n : Int), (m : Int)] = .error 14 := join_half (by omega) (by omega)
  have HJ := Lib.hid hj
  clear ht hu he hu2 hj
  obtain ⟨hn1, hn2⟩ := hn
  go_enter Tryz.func91, Tryz.ntmps91
  go_wp2_with (first | (go_at_call 40; first | ((with_reducible refine (must_ok (decide _) _ _ (by first | rfl | (simp; omega))).mono ?_); rintro e w2 ⟨rfl, rfl⟩) | ((with_reducible refine (must_no _ _).mono ?_); rintro e w2 ⟨rfl, rfl⟩)) | (go_at_call 81; ((with_reducible refine (indexByte_any [34, 92, 47, 98, 102, 110, 114, 116] _ _).mono ?_); rintro e w2 ⟨rfl, rfl⟩; simp only [Int.toNat_natCast, Nat.toUInt8_eq, UInt8.ofNat_toNat]; rw [Hi.out])) | (go_at_call 116; have _t := tok1; ((with_reducible refine (unit_yes b s r n _ h hl HU.out).mono ?_); rintro e w1 ⟨rfl, f1, r1⟩; have r1a := r1.fr ((Fr.refl NoB w1).alloc (.cells #[.int .i64 (n : Int)] 3)) (fun e => e); have hx1 := (hx.fr f1 (fun k e => by rw [show k = b from e]; exact hB)); clear tok1)) | (go_at_call 116; have _t := tok2; ((with_reducible refine (unit_yes b r r2 m _ r1a hr6 HU2.out).mono ?_); rintro e w2 ⟨rfl, f2, r2a⟩; have bn := f2.blk (Blk.new w1 3 #[.int .i64 (n : Int)]) (fun e => by have := r1.lt; have e' : w1.heap.size = b := e; omega); have hx2 := (hx1.fr0 ((Fr.refl NoB w1).alloc (.cells #[.int .i64 (n : Int)] 3))).fr f2 (fun k e => by rw [show k = b from e]; exact hB); have Hbn := Lib.hid bn; clear bn tok2)) | (at_builtin; refine wpList_append_own _ rfl _ _ 45 rfl w1.heap.size 3 i0 (.int .i64 0) 1 8 Tryz.underlying45 hi0 hz0 hz1 hz2 rfl (by decide) (.slice (some ⟨w1.heap.size, 0, none⟩) 1 1) 1 [.int .i64 (n : Int)] rfl (own_noB (own_new Hbn.out (Nat.le_refl _)) ((Fr.refl _ _).alloc _)) ⟨w2.heap.size, 0, none⟩ 1 1 [.int .i64 (m : Int)] rfl rfl (cell_one_new _ _ _) (by intro u hu; rw [List.mem_singleton] at hu; subst hu; rfl) (by unfold maxLen; omega) (by omega) (by have := f2.size; simp at this; simp; omega) ?_; intro v3 w3 hown3 hgrow3 hnil3; clear hnil3))
  obtain ⟨g3, c3, hv3, hg3⟩ := slice_two hown3
  subst hv3
  have F3 := Fr.grown (S := Only w1.heap.size) (Fr.refl _ _) hgrow3 (fun j hj _ => by
    have e : some w1.heap.size = some j := hj
    injection e with e
    exact e.symm)
  have FW := Fr.grown (((f1.alloc _).trans f2).alloc _) hgrow3 (fun j hj hlt => by
    have e : some w1.heap.size = some j := hj
    injection e with e
    have := f1.size
    exact absurd hlt (by omega))
  have r3 := (r2a.fr ((Fr.refl NoB w2).alloc (.cells #[.int .i64 (m : Int)] 3)) (fun e => e)).fr F3 (fun e => by
    have := r1.lt
    have e' : b = w1.heap.size := e
    omega)
  have hx3 := (hx2.fr0 ((Fr.refl NoB w2).alloc (.cells #[.int .i64 (m : Int)] 3))).fr F3 (fun k e => by
    rw [show k = w1.heap.size from e]
    exact hx1.le)
  have hown4 : w3.ownsRow w1.heap.size 3 1 (.slice (some ⟨g3, 0, none⟩) 2 c3) 2 [.int .i64 (n : Int), .int .i64 (m : Int)] := hown3
  have HO := Lib.hid hown4
  clear hgrow3 F3 hown3 hown4
  go_wp2_with (first | (go_at_call 40; ((with_reducible refine (must_no _ _).mono ?_); rintro e w2 ⟨rfl, rfl⟩)) | (go_at_call 30; ((with_reducible refine (from_two_no w1.heap.size g3 c3 (n : Int) (m : Int) 14 _ hx3 HO.out HJ.out).mono ?_); rintro e w4 ⟨rfl, f4⟩)))
  exact ⟨rfl, rfl, FW.trans f4.noB⟩


/-- escaped, as the document has it. -/
def EscIs (q : Option (Bs × Bs)) (b : Nat) (w : World) (e : Ending) (w' : World) : Prop :=
  match q with
  | some (t, r) => e = .returned (.string ⟨t.toArray⟩) ∧ Goes w b r w'
  | none => e = Wr 90 ∧ Fr (Only b) w w'
theorem escaped_any {B : Nat} (b : Nat) (s : Bs) (w : World) (hx : Cx B w) (hB : B ≤ b) (h : Rd w b s) (hl : s.length ≤ 65536) :
    Calls Tryz.prog 91 #[.pointer (some ⟨b, 0, none⟩)] w (EscIs (escP s) b w) := by
  by_cases hs2 : 1 < s.length
  · obtain ⟨x, c, r, rfl⟩ : ∃ x c r, s = x :: c :: r := by
      match s, hs2 with
      | [], h => simp at h
      | [_], h => simp at h
      | x :: c :: r, _ => exact ⟨x, c, r, rfl⟩
    by_cases he : escV c ≠ 0
    · have e : escP (x :: c :: r) = some ([escV c], r) := by simp [escP, he]
      rw [e]
      exact esc_letter b (x :: c :: r) w h hl hs2 he
    · have he' : escV c = 0 := by simpa using he
      have e : escP (x :: c :: r) = escU (x :: c :: r) := by simp [escP, he']
      rw [e]
      unfold escU
      cases hu : unitP (x :: c :: r) with
      | none => exact esc_none b _ w hx h hl hs2 he' hu
      | some p =>
        obtain ⟨n, r1⟩ := p
        simp only
        by_cases hn : 0xd800 ≤ n ∧ n ≤ 0xdbff
        · rw [if_pos hn]
          cases hu2 : unitP r1 with
          | none => exact esc_half b _ r1 n w hx hB h hl hs2 he' hu hn hu2
          | some p =>
            obtain ⟨m, r2⟩ := p
            simp only
            by_cases hm : 0xdc00 ≤ m ∧ m ≤ 0xdfff
            · rw [if_pos hm]
              refine (esc_pair b _ r1 n w hx hB h hl hs2 he' hu hn r2 m hu2 hm).mono fun e w' hq => ?_
              have ee : ((65536 + (n - 55296) * 1024 + (m - 56320) : Nat) : Int) = 65536 + ((n : Int) - 55296) * 1024 + m - 56320 := by omega
              simp only [EscIs, ee]
              exact hq
            · rw [if_neg hm]
              exact esc_odd b _ r1 n w hx hB h hl hs2 he' hu hn r2 m hu2 (by omega)
        · rw [if_neg hn]
          by_cases hlo : 0xdc00 ≤ n ∧ n ≤ 0xdfff
          · rw [if_pos hlo]
            exact esc_low b _ r1 n w hx hB h hl hs2 he' hu hlo
          · rw [if_neg hlo]
            exact esc_one b _ r1 n w hx hB h hl hs2 he' hu (by omega)
  · have e : escP s = none := by
      match s, hs2 with
      | [], _ => rfl
      | [_], _ => rfl
      | x :: c :: r, h => simp at h
    rw [e]
    exact esc_short b s w h hs2
end Go.Proofs.YteeijmfnjcddmaaGreatDoor
