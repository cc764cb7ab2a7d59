/- JSON: the program's reader: escaped. -/
import Derived.Test.YteeijmfnjcddmaaGreatDoorJd
import Derived.Test.YteeijmfnjcddmaaGreatDoorTx
namespace Go.Proofs.YteeijmfnjcddmaaGreatDoor
open Go.RowKit

theorem own_new {w : World} {g base : Nat} {T : TypeId} {x : Value} (h : Blk w g T #[x]) (hb : base ≤ g) : w.ownsRow base T 1 (.slice (some ⟨g, 0, none⟩) 1 1) 1 [x] := by
  refine ⟨rfl, Or.inr ⟨g, 1, #[x], rfl, hb, h, Nat.le_refl _, by unfold maxLen; omega, rfl, rfl⟩⟩
theorem info_int : (Tryz.prog.info? 3).map (fun i => (i.zero, i.size, i.bytes)) = some (some (.int .i64 0), 1, 8) := by kernel_rfl

theorem esc_tab (c : UInt8) : if escV c ≠ 0 then ∃ k : Nat, k < 8 ∧ Lib.indexByte [34, 92, 47, 98, 102, 110, 114, 116] c = (k : Int) ∧ (([34, 92, 47, 8, 12, 10, 13, 9] : Bs).drop k).take 1 = [escV c] else Lib.indexByte [34, 92, 47, 98, 102, 110, 114, 116] c = -1 := by
  have := forall_u8 (p := fun c => if escV c ≠ 0 then decide (0 ≤ Lib.indexByte [34, 92, 47, 98, 102, 110, 114, 116] c) && decide ((Lib.indexByte [34, 92, 47, 98, 102, 110, 114, 116] c).toNat < 8) && ((([34, 92, 47, 8, 12, 10, 13, 9] : Bs).drop (Lib.indexByte [34, 92, 47, 98, 102, 110, 114, 116] c).toNat).take 1 == [escV c]) else Lib.indexByte [34, 92, 47, 98, 102, 110, 114, 116] c == -1) (by decide +kernel) c
  by_cases h : escV c ≠ 0
  · simp only [h, ne_eq, not_false_eq_true, if_true, Bool.and_eq_true, decide_eq_true_eq, beq_iff_eq] at this ⊢
    exact ⟨(Lib.indexByte [34, 92, 47, 98, 102, 110, 114, 116] c).toNat, this.1.2, by omega, this.2⟩
  · simp only [h, if_false, beq_iff_eq] at this ⊢
    exact this
theorem ext_mid (s : Bs) (i j : Nat) : ((⟨s.toArray⟩ : ByteArray).extract i j) = ⟨((s.drop i).take (j - i)).toArray⟩ := by
  apply ByteArray.ext
  rw [ByteArray.data_extract]
  simp

theorem esc_letter (b : Nat) (s : Bs) (w : World) (h : Rd w b s) (hl : s.length ≤ 65536) (hs2 : 1 < s.length) (he : escV s[1] ≠ 0) :
    Calls Tryz.prog 91 #[.pointer (some ⟨b, 0, none⟩)] w fun e w' => e = .returned (.string ⟨#[escV s[1]]⟩) ∧ Goes w b (s.drop 2) w' := by
  have ht := esc_tab s[1]
  rw [if_pos he] at ht
  obtain ⟨k, hk, hi, hv⟩ := ht
  have hc := h.cell
  have hz := h.frozen
  have hex : ((⟨#[34, 92, 47, 8, 12, 10, 13, 9]⟩ : ByteArray).extract k (k + 1)) = ⟨#[escV s[1]]⟩ := by
    have := ext_mid [34, 92, 47, 8, 12, 10, 13, 9] k (k + 1)
    rw [show k + 1 - k = 1 by omega, hv] at this
    exact this
  have hg := get_list s
  have hx := ext_drop s
  have Hi := Lib.hid hi
  clear hi hv
  go_enter Tryz.func91, Tryz.ntmps91
  go_wp2_with (first | (go_at_call 40; ((with_reducible refine (must_ok _ _ _ (by first | rfl | (simp; omega))).mono ?_); rintro e w2 ⟨rfl, rfl⟩)) | (go_at_call 81; ((with_reducible refine (indexByte_any [34, 92, 47, 98, 102, 110, 114, 116] _ _).mono ?_); rintro e w2 ⟨rfl, rfl⟩; simp only [Int.toNat_natCast, Nat.toUInt8_eq, UInt8.ofNat_toNat]; rw [Hi.out])))
  go_ret
  exact ⟨rfl, (Fr.refl _ w).only _, h.set _⟩

theorem esc_short (b : Nat) (s : Bs) (w : World) (h : Rd w b s) (hs2 : ¬ 1 < s.length) :
    Calls Tryz.prog 91 #[.pointer (some ⟨b, 0, none⟩)] w fun e w' => e = Wr 90 ∧ Fr (Only b) w w' := by
  have hc := h.cell
  go_enter Tryz.func91, Tryz.ntmps91
  go_wp2_with (go_at_call 40; ((with_reducible refine (must_bad _ _ _ (by simp; omega)).mono ?_); rintro e w2 ⟨rfl, rfl⟩))
  exact ⟨rfl, rfl, Fr.refl _ _⟩

theorem from_one {B : Nat} (g : Nat) (n : Int) (w : World) (hx : Cx B w) (hb : Blk w g 3 #[.int .i64 n]) (rs : List Int) (hj : joinP [n] = .ok rs) :
    Calls Tryz.prog 30 #[.slice (some ⟨g, 0, none⟩) 1 1] w fun e w' => e = .returned (.tuple #[.string ⟨(encsP rs).toArray⟩, .int .i64 0]) ∧ Fr NoB w w' :=
  fromUnits_ok g 0 1 [n] rs w hx (by simp) hb.lt (fun j h => by
    obtain rfl : j = 0 := by simp at h; exact h
    exact hb.cell 0) hj
theorem from_one_no {B : Nat} (g : Nat) (n k : Int) (w : World) (hx : Cx B w) (hb : Blk w g 3 #[.int .i64 n]) (hj : joinP [n] = .error k) :
    Calls Tryz.prog 30 #[.slice (some ⟨g, 0, none⟩) 1 1] w fun e w' => e = .returned (.tuple #[.string ⟨#[]⟩, .int .i64 k]) ∧ Fr NoB w w' :=
  fromUnits_no g 0 1 [n] k w hx (by simp) hb.lt (fun j h => by
    obtain rfl : j = 0 := by simp at h; exact h
    exact hb.cell 0) hj
theorem two_cells {w : World} {base g cap : Nat} {n m : Int} (ho : w.ownsRow base 3 1 (.slice (some ⟨g, 0, none⟩) 2 cap) 2 [.int .i64 n, .int .i64 m]) :
    g < w.heap.size ∧ ∀ (j : Nat) (h : j < [n, m].length), w.cell? ⟨g, 0 + j, none⟩ = some (.int .i64 [n, m][j]) := by
  refine ⟨(ho.lt g rfl).2, fun j h => ?_⟩
  have hc := @World.ownsRow.cells _ _ _ _ _ _ _ ho g rfl
  have : j = 0 ∨ j = 1 := by simp at h; omega
  rcases this with rfl | rfl
  · exact hc 0 _ rfl
  · exact hc 1 _ rfl
theorem from_two {B : Nat} (base g cap : Nat) (n m : Int) (w : World) (hx : Cx B w) (ho : w.ownsRow base 3 1 (.slice (some ⟨g, 0, none⟩) 2 cap) 2 [.int .i64 n, .int .i64 m]) (rs : List Int) (hj : joinP [n, m] = .ok rs) :
    Calls Tryz.prog 30 #[.slice (some ⟨g, 0, none⟩) 2 cap] w fun e w' => e = .returned (.tuple #[.string ⟨(encsP rs).toArray⟩, .int .i64 0]) ∧ Fr NoB w w' :=
  fromUnits_ok g 0 cap [n, m] rs w hx (by simp) (two_cells ho).1 (two_cells ho).2 hj
theorem from_two_no {B : Nat} (base g cap : Nat) (n m k : Int) (w : World) (hx : Cx B w) (ho : w.ownsRow base 3 1 (.slice (some ⟨g, 0, none⟩) 2 cap) 2 [.int .i64 n, .int .i64 m]) (hj : joinP [n, m] = .error k) :
    Calls Tryz.prog 30 #[.slice (some ⟨g, 0, none⟩) 2 cap] w fun e w' => e = .returned (.tuple #[.string ⟨#[]⟩, .int .i64 k]) ∧ Fr NoB w w' :=
  fromUnits_no g 0 cap [n, m] k w hx (by simp) (two_cells ho).1 (two_cells ho).2 hj
theorem unitP_lt {s t : Bs} {n : Nat} (h : unitP s = some (n, t)) : n < 65536 := by
  rw [unitP_eq] at h
  split at h
  · rename_i hc
    cases h
    have := hexN_take ((s.drop 2).take 4) 4 (by have := hc.2.1; simp at this ⊢; omega) (by omega) hc.2.2
    rwa [List.take_take] at this
  · cases h
set_option maxRecDepth 100000 in
set_option maxHeartbeats 1600000 in
theorem esc_one {B : Nat} (b : Nat) (s r : Bs) (n : Nat) (w : World) (hx : Cx B w) (hB : B ≤ b) (h : Rd w b s) (hl : s.length ≤ 65536) (hs2 : 1 < s.length) (he : escV s[1] = 0) (hu : unitP s = some (n, r)) (hn : n < 55296 ∨ 57343 < n) :
    Calls Tryz.prog 91 #[.pointer (some ⟨b, 0, none⟩)] w fun e w' => e = .returned (.string ⟨(Lib.encodeRune (n : Int)).toArray⟩) ∧ Goes w b r w' := by
  have ht := esc_tab s[1]
  rw [if_neg (by simpa using he)] at ht
  have hc := h.cell
  have hg := get_list s
  have Hi := Lib.hid ht
  have hn6 := unitP_lt hu
  have hj : joinP [(n : Int)] = .ok [(n : Int)] := by rw [join_plain (by omega) (by omega)]; rfl
  have HJ := Lib.hid hj
  have HU := Lib.hid hu
  clear ht hu he hj
  have henc : encsP [(n : Int)] = Lib.encodeRune (n : Int) := by simp [encsP]
  have HE := Lib.hid henc
  clear henc
  rcases hn with hn | hn
  all_goals
    go_enter Tryz.func91, Tryz.ntmps91
    go_wp2_with (first | (go_at_call 40; ((with_reducible refine (must_ok _ _ _ (by first | rfl | (simp; omega))).mono ?_); rintro e w2 ⟨rfl, rfl⟩)) | (go_at_call 81; ((with_reducible refine (indexByte_any [34, 92, 47, 98, 102, 110, 114, 116] _ _).mono ?_); rintro e w2 ⟨rfl, rfl⟩; simp only [Int.toNat_natCast, Nat.toUInt8_eq, UInt8.ofNat_toNat]; rw [Hi.out])) | (go_at_call 116; ((with_reducible refine (unit_yes b s r n _ h hl HU.out).mono ?_); rintro e w1 ⟨rfl, f1, r1⟩; have HX1 := Lib.hid ((hx.fr f1 (fun k e => by rw [show k = b from e]; exact hB)).fr0 ((Fr.refl NoB w1).alloc (.cells #[.int .i64 (n : Int)] 3))); have HB1 := Lib.hid (Blk.new w1 3 #[.int .i64 (n : Int)]))) | (go_at_call 30; ((with_reducible refine (from_one w1.heap.size (n : Int) _ HX1.out HB1.out _ HJ.out).mono ?_); rintro e w3 ⟨rfl, f3⟩; rw [HE.out])))
    go_ret
    exact ⟨rfl, (f1.alloc _).trans f3.noB, (r1.fr ((Fr.refl NoB w1).alloc _) (fun e => e)).fr f3 (fun e => e)⟩
set_option maxRecDepth 100000 in
set_option maxHeartbeats 1600000 in
theorem esc_low {B : Nat} (b : Nat) (s r : Bs) (n : Nat) (w : World) (hx : Cx B w) (hB : B ≤ b) (h : Rd w b s) (hl : s.length ≤ 65536) (hs2 : 1 < s.length) (he : escV s[1] = 0) (hu : unitP s = some (n, r)) (hn : 56320 ≤ n ∧ n ≤ 57343) :
    Calls Tryz.prog 91 #[.pointer (some ⟨b, 0, none⟩)] w fun e w' => e = Wr 90 ∧ Fr (Only b) w w' := by
  have ht := esc_tab s[1]
  rw [if_neg (by simpa using he)] at ht
  have hc := h.cell
  have hg := get_list s
  have Hi := Lib.hid ht
  have hj : joinP [(n : Int)] = .error 14 := join_low (by omega)
  have HJ := Lib.hid hj
  have HU := Lib.hid hu
  clear ht hu he hj
  obtain ⟨hn1, hn2⟩ := hn
  go_enter Tryz.func91, Tryz.ntmps91
  go_wp2_with (first | (go_at_call 40; first | ((with_reducible refine (must_ok (decide _) _ _ (by first | rfl | (simp; omega))).mono ?_); rintro e w2 ⟨rfl, rfl⟩) | ((with_reducible refine (must_no _ _).mono ?_); rintro e w2 ⟨rfl, rfl⟩)) | (go_at_call 81; ((with_reducible refine (indexByte_any [34, 92, 47, 98, 102, 110, 114, 116] _ _).mono ?_); rintro e w2 ⟨rfl, rfl⟩; simp only [Int.toNat_natCast, Nat.toUInt8_eq, UInt8.ofNat_toNat]; rw [Hi.out])) | (go_at_call 116; ((with_reducible refine (unit_yes b s r n _ h hl HU.out).mono ?_); rintro e w1 ⟨rfl, f1, r1⟩; have HX1 := Lib.hid ((hx.fr f1 (fun k e => by rw [show k = b from e]; exact hB)).fr0 ((Fr.refl NoB w1).alloc (.cells #[.int .i64 (n : Int)] 3))); have HB1 := Lib.hid (Blk.new w1 3 #[.int .i64 (n : Int)]))) | (go_at_call 30; ((with_reducible refine (from_one_no w1.heap.size (n : Int) 14 _ HX1.out HB1.out HJ.out).mono ?_); rintro e w3 ⟨rfl, f3⟩)))
  exact ⟨rfl, rfl, (f1.alloc _).trans f3.noB⟩
set_option maxRecDepth 100000 in
set_option maxHeartbeats 1600000 in
theorem esc_none {B : Nat} (b : Nat) (s : Bs) (w : World) (_hx : Cx B w) (h : Rd w b s) (hl : s.length ≤ 65536) (hs2 : 1 < s.length) (he : escV s[1] = 0) (hu : unitP s = none) :
    Calls Tryz.prog 91 #[.pointer (some ⟨b, 0, none⟩)] w fun e w' => e = Wr 90 ∧ Fr (Only b) w w' := by
  have ht := esc_tab s[1]
  rw [if_neg (by simpa using he)] at ht
  have hc := h.cell
  have hg := get_list s
  have Hi := Lib.hid ht
  have HU := Lib.hid hu
  clear ht hu he
  go_enter Tryz.func91, Tryz.ntmps91
  go_wp2_with (first | (go_at_call 40; ((with_reducible refine (must_ok _ _ _ (by first | rfl | (simp; omega))).mono ?_); rintro e w2 ⟨rfl, rfl⟩)) | (go_at_call 81; ((with_reducible refine (indexByte_any [34, 92, 47, 98, 102, 110, 114, 116] _ _).mono ?_); rintro e w2 ⟨rfl, rfl⟩; simp only [Int.toNat_natCast, Nat.toUInt8_eq, UInt8.ofNat_toNat]; rw [Hi.out])) | (go_at_call 116; ((with_reducible refine (unit_no b s _ h hl HU.out).mono ?_); rintro e w1 ⟨rfl, f1⟩)))
  exact ⟨rfl, rfl, f1.noB⟩
end Go.Proofs.YteeijmfnjcddmaaGreatDoor
/- JSON: the program's reader: escaped, two units; the whole of it. -/
namespace Go.Proofs.YteeijmfnjcddmaaGreatDoor
open Go.RowKit

set_option maxRecDepth 100000 in
set_option maxHeartbeats 1600000 in
theorem esc_half {B : Nat} (b : Nat) (s r : Bs) (n : Nat) (w : World) (hx : Cx B w) (hB : B ≤ b) (h : Rd w b s) (hl : s.length ≤ 65536) (hs2 : 1 < s.length) (he : escV s[1] = 0) (hu : unitP s = some (n, r)) (hn : 55296 ≤ n ∧ n ≤ 56319) (hu2 : unitP r = none) :
    Calls Tryz.prog 91 #[.pointer (some ⟨b, 0, none⟩)] w fun e w' => e = Wr 90 ∧ Fr (Only b) w w' := by
  have ht := esc_tab s[1]
  rw [if_neg (by simpa using he)] at ht
  have hc := h.cell
  have hg := get_list s
  have Hi := Lib.hid ht
  have HU := Lib.hid hu
  have hl2 := unitP_len hu
  have hr6 : r.length ≤ 65536 := by omega
  obtain ⟨i0, hi0, hz0, hz1, hz2⟩ := info_parts info_int
  have tok1 : True := trivial
  have tok2 : True := trivial
  have HU2 := Lib.hid hu2
  clear ht hu he hu2
  obtain ⟨hn1, hn2⟩ := hn
  go_enter Tryz.func91, Tryz.ntmps91
  go_wp2_with (first | (go_at_call 40; ((with_reducible refine (must_ok _ _ _ (by first | rfl | (simp; omega))).mono ?_); rintro e w2 ⟨rfl, rfl⟩)) | (go_at_call 81; ((with_reducible refine (indexByte_any [34, 92, 47, 98, 102, 110, 114, 116] _ _).mono ?_); rintro e w2 ⟨rfl, rfl⟩; simp only [Int.toNat_natCast, Nat.toUInt8_eq, UInt8.ofNat_toNat]; rw [Hi.out])) | (go_at_call 116; have _t := tok1; ((with_reducible refine (unit_yes b s r n _ h hl HU.out).mono ?_); rintro e w1 ⟨rfl, f1, r1⟩; have r1a := r1.fr ((Fr.refl NoB w1).alloc (.cells #[.int .i64 (n : Int)] 3)) (fun e => e); have hx1 := (hx.fr f1 (fun k e => by rw [show k = b from e]; exact hB)); clear tok1)) | (go_at_call 116; have _t := tok2; ((with_reducible refine (unit_no b r _ r1a hr6 HU2.out).mono ?_); rintro e w2 ⟨rfl, f2⟩; clear tok2)))
  exact ⟨rfl, rfl, (f1.alloc _).trans f2.noB⟩

theorem slice_two {w : World} {base : Nat} {v : Value} {xs : List Value} {T : TypeId} (h : w.ownsRow base T 1 v (1 + 1) xs) : ∃ g cap, v = .slice (some ⟨g, 0, none⟩) 2 cap ∧ base ≤ g := by
  rcases h.2 with ⟨_, h0⟩ | ⟨g, cap, cur, hv, hg, _⟩
  · omega
  · exact ⟨g, cap, hv, hg⟩

set_option maxRecDepth 100000 in
set_option maxHeartbeats 1600000 in
theorem esc_pair {B : Nat} (b : Nat) (s r : Bs) (n : Nat) (w : World) (hx : Cx B w) (hB : B ≤ b) (h : Rd w b s) (hl : s.length ≤ 65536) (hs2 : 1 < s.length) (he : escV s[1] = 0) (hu : unitP s = some (n, r)) (hn : 55296 ≤ n ∧ n ≤ 56319) (r2 : Bs) (m : Nat) (hu2 : unitP r = some (m, r2)) (hm : 56320 ≤ m ∧ m ≤ 57343) :
    Calls Tryz.prog 91 #[.pointer (some ⟨b, 0, none⟩)] w fun e w' => e = .returned (.string ⟨(Lib.encodeRune (65536 + ((n : Int) - 55296) * 1024 + m - 56320)).toArray⟩) ∧ Goes w b r2 w' := by
  have ht := esc_tab s[1]
  rw [if_neg (by simpa using he)] at ht
  have hc := h.cell
  have hg := get_list s
  have Hi := Lib.hid ht
  have HU := Lib.hid hu
  have hl2 := unitP_len hu
  have hr6 : r.length ≤ 65536 := by omega
  obtain ⟨i0, hi0, hz0, hz1, hz2⟩ := info_parts info_int
  have tok1 : True := trivial
  have tok2 : True := trivial
  have HU2 := Lib.hid hu2
  have hj : joinP [(n : Int), (m : Int)] = .ok [65536 + ((n : Int) - 55296) * 1024 + m - 56320] := by rw [join_pair (by omega) (by omega)]; rfl
  have HJ := Lib.hid hj
  have henc : encsP [65536 + ((n : Int) - 55296) * 1024 + m - 56320] = Lib.encodeRune (65536 + ((n : Int) - 55296) * 1024 + m - 56320) := by simp [encsP]
  have HE := Lib.hid henc
  clear ht hu he hu2 hj henc
  obtain ⟨hn1, hn2⟩ := hn
  go_enter Tryz.func91, Tryz.ntmps91
  go_wp2_with (first | (go_at_call 40; ((with_reducible refine (must_ok _ _ _ (by first | rfl | (simp; omega))).mono ?_); rintro e w2 ⟨rfl, rfl⟩)) | (go_at_call 81; ((with_reducible refine (indexByte_any [34, 92, 47, 98, 102, 110, 114, 116] _ _).mono ?_); rintro e w2 ⟨rfl, rfl⟩; simp only [Int.toNat_natCast, Nat.toUInt8_eq, UInt8.ofNat_toNat]; rw [Hi.out])) | (go_at_call 116; have _t := tok1; ((with_reducible refine (unit_yes b s r n _ h hl HU.out).mono ?_); rintro e w1 ⟨rfl, f1, r1⟩; have r1a := r1.fr ((Fr.refl NoB w1).alloc (.cells #[.int .i64 (n : Int)] 3)) (fun e => e); have hx1 := (hx.fr f1 (fun k e => by rw [show k = b from e]; exact hB)); clear tok1)) | (go_at_call 116; have _t := tok2; ((with_reducible refine (unit_yes b r r2 m _ r1a hr6 HU2.out).mono ?_); rintro e w2 ⟨rfl, f2, r2a⟩; have bn := f2.blk (Blk.new w1 3 #[.int .i64 (n : Int)]) (fun e => by have := r1.lt; have e' : w1.heap.size = b := e; omega); have hx2 := (hx1.fr0 ((Fr.refl NoB w1).alloc (.cells #[.int .i64 (n : Int)] 3))).fr f2 (fun k e => by rw [show k = b from e]; exact hB); have Hbn := Lib.hid bn; clear bn tok2)) | (at_builtin; refine wpList_append_own _ rfl _ _ 45 rfl w1.heap.size 3 i0 (.int .i64 0) 1 8 Tryz.underlying45 hi0 hz0 hz1 hz2 rfl (by decide) (.slice (some ⟨w1.heap.size, 0, none⟩) 1 1) 1 [.int .i64 (n : Int)] rfl (own_noB (own_new Hbn.out (Nat.le_refl _)) ((Fr.refl _ _).alloc _)) ⟨w2.heap.size, 0, none⟩ 1 1 [.int .i64 (m : Int)] rfl rfl (cell_one_new _ _ _) (by intro u hu; rw [List.mem_singleton] at hu; subst hu; rfl) (by unfold maxLen; omega) (by omega) (by have := f2.size; simp at this; simp; omega) ?_; intro v3 w3 hown3 hgrow3 hnil3; clear hnil3))
  obtain ⟨g3, c3, hv3, hg3⟩ := slice_two hown3
  subst hv3
  have F3 := Fr.grown (S := Only w1.heap.size) (Fr.refl _ _) hgrow3 (fun j hj _ => by
    have e : some w1.heap.size = some j := hj
    injection e with e
    exact e.symm)
  have FW := Fr.grown (((f1.alloc _).trans f2).alloc _) hgrow3 (fun j hj hlt => by
    have e : some w1.heap.size = some j := hj
    injection e with e
    have := f1.size
    exact absurd hlt (by omega))
  have r3 := (r2a.fr ((Fr.refl NoB w2).alloc (.cells #[.int .i64 (m : Int)] 3)) (fun e => e)).fr F3 (fun e => by
    have := r1.lt
    have e' : b = w1.heap.size := e
    omega)
  have hx3 := (hx2.fr0 ((Fr.refl NoB w2).alloc (.cells #[.int .i64 (m : Int)] 3))).fr F3 (fun k e => by
    rw [show k = w1.heap.size from e]
    exact hx1.le)
  have hown4 : w3.ownsRow w1.heap.size 3 1 (.slice (some ⟨g3, 0, none⟩) 2 c3) 2 [.int .i64 (n : Int), .int .i64 (m : Int)] := hown3
  have HO := Lib.hid hown4
  clear hgrow3 F3 hown3 hown4
  go_wp2_with (first | (go_at_call 40; ((with_reducible refine (must_ok _ _ _ (by first | rfl | (simp; omega))).mono ?_); rintro e w2 ⟨rfl, rfl⟩)) | (go_at_call 30; ((with_reducible refine (from_two w1.heap.size g3 c3 (n : Int) (m : Int) _ hx3 HO.out _ HJ.out).mono ?_); rintro e w4 ⟨rfl, f4⟩; rw [HE.out])))
  go_ret
  exact ⟨rfl, FW.trans f4.noB, r3.fr f4 (fun e => e)⟩

set_option maxRecDepth 100000 in
set_option maxHeartbeats 1600000 in
theorem esc_odd {B : Nat} (b : Nat) (s r : Bs) (n : Nat) (w : World) (hx : Cx B w) (hB : B ≤ b) (h : Rd w b s) (hl : s.length ≤ 65536) (hs2 : 1 < s.length) (he : escV s[1] = 0) (hu : unitP s = some (n, r)) (hn : 55296 ≤ n ∧ n ≤ 56319) (r2 : Bs) (m : Nat) (hu2 : unitP r = some (m, r2)) (hm : m < 56320 ∨ 57343 < m) :
    Calls Tryz.prog 91 #[.pointer (some ⟨b, 0, none⟩)] w fun e w' => e = Wr 90 ∧ Fr (Only b) w w' := by
  have ht := esc_tab s[1]
  rw [if_neg (by simpa using he)] at ht
  have hc := h.cell
  have hg := get_list s
  have Hi := Lib.hid ht
  have HU := Lib.hid hu
  have hl2 := unitP_len hu
  have hr6 : r.length ≤ 65536 := by omega
  obtain ⟨i0, hi0, hz0, hz1, hz2⟩ := info_parts info_int
  have tok1 : True := trivial
  have tok2 : True := trivial
  have HU2 := Lib.hid hu2
  have hj : joinP [(n : Int), (m : Int)] = .error 14 := join_half (by omega) (by omega)
  have HJ := Lib.hid hj
  clear ht hu he hu2 hj
  obtain ⟨hn1, hn2⟩ := hn
  go_enter Tryz.func91, Tryz.ntmps91
  go_wp2_with (first | (go_at_call 40; first | ((with_reducible refine (must_ok (decide _) _ _ (by first | rfl | (simp; omega))).mono ?_); rintro e w2 ⟨rfl, rfl⟩) | ((with_reducible refine (must_no _ _).mono ?_); rintro e w2 ⟨rfl, rfl⟩)) | (go_at_call 81; ((with_reducible refine (indexByte_any [34, 92, 47, 98, 102, 110, 114, 116] _ _).mono ?_); rintro e w2 ⟨rfl, rfl⟩; simp only [Int.toNat_natCast, Nat.toUInt8_eq, UInt8.ofNat_toNat]; rw [Hi.out])) | (go_at_call 116; have _t := tok1; ((with_reducible refine (unit_yes b s r n _ h hl HU.out).mono ?_); rintro e w1 ⟨rfl, f1, r1⟩; have r1a := r1.fr ((Fr.refl NoB w1).alloc (.cells #[.int .i64 (n : Int)] 3)) (fun e => e); have hx1 := (hx.fr f1 (fun k e => by rw [show k = b from e]; exact hB)); clear tok1)) | (go_at_call 116; have _t := tok2; ((with_reducible refine (unit_yes b r r2 m _ r1a hr6 HU2.out).mono ?_); rintro e w2 ⟨rfl, f2, r2a⟩; have bn := f2.blk (Blk.new w1 3 #[.int .i64 (n : Int)]) (fun e => by have := r1.lt; have e' : w1.heap.size = b := e; omega); have hx2 := (hx1.fr0 ((Fr.refl NoB w1).alloc (.cells #[.int .i64 (n : Int)] 3))).fr f2 (fun k e => by rw [show k = b from e]; exact hB); have Hbn := Lib.hid bn; clear bn tok2)) | (at_builtin; refine wpList_append_own _ rfl _ _ 45 rfl w1.heap.size 3 i0 (.int .i64 0) 1 8 Tryz.underlying45 hi0 hz0 hz1 hz2 rfl (by decide) (.slice (some ⟨w1.heap.size, 0, none⟩) 1 1) 1 [.int .i64 (n : Int)] rfl (own_noB (own_new Hbn.out (Nat.le_refl _)) ((Fr.refl _ _).alloc _)) ⟨w2.heap.size, 0, none⟩ 1 1 [.int .i64 (m : Int)] rfl rfl (cell_one_new _ _ _) (by intro u hu; rw [List.mem_singleton] at hu; subst hu; rfl) (by unfold maxLen; omega) (by omega) (by have := f2.size; simp at this; simp; omega) ?_; intro v3 w3 hown3 hgrow3 hnil3; clear hnil3))
  obtain ⟨g3, c3, hv3, hg3⟩ := slice_two hown3
  subst hv3
  have F3 := Fr.grown (S := Only w1.heap.size) (Fr.refl _ _) hgrow3 (fun j hj _ => by
    have e : some w1.heap.size = some j := hj
    injection e with e
    exact e.symm)
  have FW := Fr.grown (((f1.alloc _).trans f2).alloc _) hgrow3 (fun j hj hlt => by
    have e : some w1.heap.size = some j := hj
    injection e with e
    have := f1.size
    exact absurd hlt (by omega))
  have r3 := (r2a.fr ((Fr.refl NoB w2).alloc (.cells #[.int .i64 (m : Int)] 3)) (fun e => e)).fr F3 (fun e => by
    have := r1.lt
    have e' : b = w1.heap.size := e
    omega)
  have hx3 := (hx2.fr0 ((Fr.refl NoB w2).alloc (.cells #[.int .i64 (m : Int)] 3))).fr F3 (fun k e => by
    rw [show k = w1.heap.size from e]
    exact hx1.le)
  have hown4 : w3.ownsRow w1.heap.size 3 1 (.slice (some ⟨g3, 0, none⟩) 2 c3) 2 [.int .i64 (n : Int), .int .i64 (m : Int)] := hown3
  have HO := Lib.hid hown4
  clear hgrow3 F3 hown3 hown4
  go_wp2_with (first | (go_at_call 40; ((with_reducible refine (must_no _ _).mono ?_); rintro e w2 ⟨rfl, rfl⟩)) | (go_at_call 30; ((with_reducible refine (from_two_no w1.heap.size g3 c3 (n : Int) (m : Int) 14 _ hx3 HO.out HJ.out).mono ?_); rintro e w4 ⟨rfl, f4⟩)))
  exact ⟨rfl, rfl, FW.trans f4.noB⟩


/-- escaped, as the document has it. -/
def EscIs (q : Option (Bs × Bs)) (b : Nat) (w : World) (e : Ending) (w' : World) : Prop :=
  match q with
  | some (t, r) => e = .returned (.string ⟨t.toArray⟩) ∧ Goes w b r w'
  | none => e = Wr 90 ∧ Fr (Only b) w w'
theorem escaped_any {B : Nat} (b : Nat) (s : Bs) (w : World) (hx : Cx B w) (hB : B ≤ b) (h : Rd w b s) (hl : s.length ≤ 65536) :
    Calls Tryz.prog 91 #[.pointer (some ⟨b, 0, none⟩)] w (EscIs (escP s) b w) := by
  by_cases hs2 : 1 < s.length
  · obtain ⟨x, c, r, rfl⟩ : ∃ x c r, s = x :: c :: r := by
      match s, hs2 with
      | [], h => simp at h
      | [_], h => simp at h
      | x :: c :: r, _ => exact ⟨x, c, r, rfl⟩
    by_cases he : escV c ≠ 0
    · have e : escP (x :: c :: r) = some ([escV c], r) := by simp [escP, he]
      rw [e]
      exact esc_letter b (x :: c :: r) w h hl hs2 he
    · have he' : escV c = 0 := by simpa using he
      have e : escP (x :: c :: r) = escU (x :: c :: r) := by simp [escP, he']
      rw [e]
      unfold escU
      cases hu : unitP (x :: c :: r) with
      | none => exact esc_none b _ w hx h hl hs2 he' hu
      | some p =>
        obtain ⟨n, r1⟩ := p
        simp only
        by_cases hn : 0xd800 ≤ n ∧ n ≤ 0xdbff
        · rw [if_pos hn]
          cases hu2 : unitP r1 with
          | none => exact esc_half b _ r1 n w hx hB h hl hs2 he' hu hn hu2
          | some p =>
            obtain ⟨m, r2⟩ := p
            simp only
            by_cases hm : 0xdc00 ≤ m ∧ m ≤ 0xdfff
            · rw [if_pos hm]
              refine (esc_pair b _ r1 n w hx hB h hl hs2 he' hu hn r2 m hu2 hm).mono fun e w' hq => ?_
              have ee : ((65536 + (n - 55296) * 1024 + (m - 56320) : Nat) : Int) = 65536 + ((n : Int) - 55296) * 1024 + m - 56320 := by omega
              simp only [EscIs, ee]
              exact hq
            · rw [if_neg hm]
              exact esc_odd b _ r1 n w hx hB h hl hs2 he' hu hn r2 m hu2 (by omega)
        · rw [if_neg hn]
          by_cases hlo : 0xdc00 ≤ n ∧ n ≤ 0xdfff
          · rw [if_pos hlo]
            exact esc_low b _ r1 n w hx hB h hl hs2 he' hu hlo
          · rw [if_neg hlo]
            exact esc_one b _ r1 n w hx hB h hl hs2 he' hu (by omega)
  · have e : escP s = none := by
      match s, hs2 with
      | [], _ => rfl
      | [_], _ => rfl
      | x :: c :: r, h => simp at h
    rw [e]
    exact esc_short b s w h hs2
end Go.Proofs.YteeijmfnjcddmaaGreatDoor
