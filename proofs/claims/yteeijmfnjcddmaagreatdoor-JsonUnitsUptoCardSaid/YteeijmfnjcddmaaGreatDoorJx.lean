/- JSON: the program's reader: value, words and numbers. -/
import Derived.Test.YteeijmfnjcddmaaGreatDoorJw
import Derived.Test.YteeijmfnjcddmaaGreatDoorJc
namespace Go.Proofs.YteeijmfnjcddmaaGreatDoor
open Go.RowKit

theorem takeP_yes {p s : Bs} (h : Lib.hasPrefix s p = true) : takeP p s = some (blanks (s.drop p.length)) := by
  unfold takeP; rw [if_pos (List.isPrefixOf_iff_prefix.1 h)]
theorem takeP_no {p s : Bs} (h : Lib.hasPrefix s p = false) : takeP p s = none := by
  unfold takeP; rw [if_neg (fun e => by have := List.isPrefixOf_iff_prefix.2 e; unfold Lib.hasPrefix at h; rw [this] at h; cases h)]

/-- The three words, in their block. -/
abbrev wds : Array Value := #[sV wNull, sV wFalse, sV wTrue]

theorem exactP_ok {s : Bs} {x : Int} (h : exactP s = some x) : -9007199254740991 ≤ x ∧ x ≤ 9007199254740991 := by
  unfold exactP at h
  split at h
  · split at h
    · rename_i hc; cases h; have := hc.2; unfold maxInt at this; omega
    · cases h
  · cases h

set_option maxRecDepth 100000 in
set_option maxHeartbeats 3200000 in
theorem value_null {B : Nat} (d : Nat) (b : Nat) (s : Bs) (n : Int) (w : World) (_hx : Cx B w) (_hB : B ≤ b) (h : Rd w b s) (_hl : s.length ≤ 65536) (h1 : s.head? ≠ some 34) (h2 : s.head? ≠ some 91) (h3 : s.head? ≠ some 123) (hP : Lib.hasPrefix s [110, 117, 108, 108] = true) :
    Calls Tryz.prog 39 #[.pointer (some ⟨b, 0, none⟩), .int .i64 n] w (ValIs (valueP d s) b w) := by
  have hq : valueP d s = wordP s := by
    unfold valueP
    split
    · rename_i e; exact absurd e h1
    · rename_i e; exact absurd e h2
    · rename_i e; exact absurd e h3
    · rfl
  rw [hq]
  have f0 : Fr NoB w (w.alloc (.cells zj 25)) := (Fr.refl _ _).alloc _
  have r0 := h.fr f0 (fun e => e)
  have f0' : Fr NoB w ((w.alloc (.cells zj 25)).alloc (.cells #[.string ⟨#[110, 117, 108, 108]⟩, .string ⟨#[102, 97, 108, 115, 101]⟩, .string ⟨#[116, 114, 117, 101]⟩] 9)) := f0.alloc _
  have r0' := h.fr f0' (fun e => e)
  have hc := r0.cell
  have hc' := r0'.cell
  have pn : ∀ c : UInt8, s.head? ≠ some c → Lib.hasPrefix s [c] = false := fun c hn => by
    cases hp : Lib.hasPrefix s [c]
    · rfl
    · exact absurd (pre_head.1 hp) hn
  have P1 := Lib.hid (pn 34 h1)
  have P2 := Lib.hid (pn 91 h2)
  have P3 := Lib.hid (pn 123 h3)
  clear pn h1 h2 h3 hq
  have hw : wordP s = .ok (.mk 0 0 [] [] [], blanks (s.drop 4)) := by
    unfold wordP
    rw [show wNull = [110, 117, 108, 108] from rfl, takeP_yes hP]
    rfl
  rw [hw]
  clear hw
  go_enter Tryz.func39, Tryz.ntmps39
  go_wp2_with (first | (go_at_call 61; ((with_reducible refine (hasPrefix_any s [34] _).mono ?_); rintro e w1 ⟨rfl, rfl⟩; rw [P1.out])) | (go_at_call 63; ((with_reducible refine (take_no b s [91] _ r0 P2.out).mono ?_); rintro e w1 ⟨rfl, rfl⟩)) | (go_at_call 63; ((with_reducible refine (take_no b s [123] _ r0 P3.out).mono ?_); rintro e w1 ⟨rfl, rfl⟩)))
  refine wp_loop_rounds 1 ?_
  rw [rounds_succ]
  go_wp2_with (first | (go_at_call 63; ((with_reducible refine (take_yes b s [110, 117, 108, 108] _ r0' hP).mono ?_); rintro e w1 ⟨rfl, f1, r1⟩; have g1 := f1.blk ((Blk.new w 25 zj).alloc _) (fun e => by have e' : w.heap.size = b := e; have := h.lt; omega))) | (refine wpList_store_row rfl 25 _ _ rfl w.heap.size #[.int .i64 0, .int .i64 0, .string ⟨#[]⟩, .slice none 0 0, .slice none 0 0] rfl rfl 25 zj g1 size_json rfl (one_json _ _ _ _ _ _ _ _ _) ?_))
  have gB := g1.setRow #[.int .i64 0, .int .i64 0, .string ⟨#[]⟩, .slice none 0 0, .slice none 0 0]
  have fB := (f0'.noB.trans f1).setRow w.heap.size #[.int .i64 0, .int .i64 0, .string ⟨#[]⟩, .slice none 0 0, .slice none 0 0] (Or.inl (Nat.le_refl _))
  have rB := r1.fr (Fr.rowO w1 w.heap.size #[.int .i64 0, .int .i64 0, .string ⟨#[]⟩, .slice none 0 0, .slice none 0 0]) (fun e => by have e' : b = w.heap.size := e; have := h.lt; omega)
  exact bodyPost_ret (v := jV 0 0 [] (.slice none 0 0) (.slice none 0 0)) (json_back rfl _ _ w.heap.size _ _ _ _ _ rfl gB) rfl ⟨_, rfl, jtop_leaf 0 0 [] (by unfold IntOk; omega) (by unfold IntOk; omega) (by simp), fB, rB⟩

set_option maxRecDepth 100000 in
set_option maxHeartbeats 3200000 in
theorem value_false {B : Nat} (d : Nat) (b : Nat) (s : Bs) (n : Int) (w : World) (_hx : Cx B w) (_hB : B ≤ b) (h : Rd w b s) (_hl : s.length ≤ 65536) (h1 : s.head? ≠ some 34) (h2 : s.head? ≠ some 91) (h3 : s.head? ≠ some 123) (q1 : Lib.hasPrefix s [110, 117, 108, 108] = false) (hP : Lib.hasPrefix s [102, 97, 108, 115, 101] = true) :
    Calls Tryz.prog 39 #[.pointer (some ⟨b, 0, none⟩), .int .i64 n] w (ValIs (valueP d s) b w) := by
  have hq : valueP d s = wordP s := by
    unfold valueP
    split
    · rename_i e; exact absurd e h1
    · rename_i e; exact absurd e h2
    · rename_i e; exact absurd e h3
    · rfl
  rw [hq]
  have f0 : Fr NoB w (w.alloc (.cells zj 25)) := (Fr.refl _ _).alloc _
  have r0 := h.fr f0 (fun e => e)
  have f0' : Fr NoB w ((w.alloc (.cells zj 25)).alloc (.cells #[.string ⟨#[110, 117, 108, 108]⟩, .string ⟨#[102, 97, 108, 115, 101]⟩, .string ⟨#[116, 114, 117, 101]⟩] 9)) := f0.alloc _
  have r0' := h.fr f0' (fun e => e)
  have hc := r0.cell
  have hc' := r0'.cell
  have pn : ∀ c : UInt8, s.head? ≠ some c → Lib.hasPrefix s [c] = false := fun c hn => by
    cases hp : Lib.hasPrefix s [c]
    · rfl
    · exact absurd (pre_head.1 hp) hn
  have P1 := Lib.hid (pn 34 h1)
  have P2 := Lib.hid (pn 91 h2)
  have P3 := Lib.hid (pn 123 h3)
  clear pn h1 h2 h3 hq
  have hw : wordP s = .ok (.mk 1 0 [] [] [], blanks (s.drop 5)) := by
    unfold wordP
    rw [show wNull = [110, 117, 108, 108] from rfl, takeP_no q1, show wFalse = [102, 97, 108, 115, 101] from rfl, takeP_yes hP]
    rfl
  rw [hw]
  clear hw
  have Q1 := Lib.hid q1
  clear q1
  go_enter Tryz.func39, Tryz.ntmps39
  go_wp2_with (first | (go_at_call 61; ((with_reducible refine (hasPrefix_any s [34] _).mono ?_); rintro e w1 ⟨rfl, rfl⟩; rw [P1.out])) | (go_at_call 63; ((with_reducible refine (take_no b s [91] _ r0 P2.out).mono ?_); rintro e w1 ⟨rfl, rfl⟩)) | (go_at_call 63; ((with_reducible refine (take_no b s [123] _ r0 P3.out).mono ?_); rintro e w1 ⟨rfl, rfl⟩)))
  refine wp_loop_rounds 2 ?_
  rw [rounds_succ]
  go_wp2_with (go_at_call 63; ((with_reducible refine (take_no b s [110, 117, 108, 108] _ r0' Q1.out).mono ?_); rintro e w1 ⟨rfl, rfl⟩))
  rw [rounds_succ]
  go_wp2_with (first | (go_at_call 63; ((with_reducible refine (take_yes b s [102, 97, 108, 115, 101] _ r0' hP).mono ?_); rintro e w1 ⟨rfl, f1, r1⟩; have g1 := f1.blk ((Blk.new w 25 zj).alloc _) (fun e => by have e' : w.heap.size = b := e; have := h.lt; omega))) | (refine wpList_store_row rfl 25 _ _ rfl w.heap.size #[.int .i64 1, .int .i64 0, .string ⟨#[]⟩, .slice none 0 0, .slice none 0 0] rfl rfl 25 zj g1 size_json rfl (one_json _ _ _ _ _ _ _ _ _) ?_))
  have gB := g1.setRow #[.int .i64 1, .int .i64 0, .string ⟨#[]⟩, .slice none 0 0, .slice none 0 0]
  have fB := (f0'.noB.trans f1).setRow w.heap.size #[.int .i64 1, .int .i64 0, .string ⟨#[]⟩, .slice none 0 0, .slice none 0 0] (Or.inl (Nat.le_refl _))
  have rB := r1.fr (Fr.rowO w1 w.heap.size #[.int .i64 1, .int .i64 0, .string ⟨#[]⟩, .slice none 0 0, .slice none 0 0]) (fun e => by have e' : b = w.heap.size := e; have := h.lt; omega)
  exact bodyPost_ret (v := jV 1 0 [] (.slice none 0 0) (.slice none 0 0)) (json_back rfl _ _ w.heap.size _ _ _ _ _ rfl gB) rfl ⟨_, rfl, jtop_leaf 1 0 [] (by unfold IntOk; omega) (by unfold IntOk; omega) (by simp), fB, rB⟩

set_option maxRecDepth 100000 in
set_option maxHeartbeats 3200000 in
theorem value_true {B : Nat} (d : Nat) (b : Nat) (s : Bs) (n : Int) (w : World) (_hx : Cx B w) (_hB : B ≤ b) (h : Rd w b s) (_hl : s.length ≤ 65536) (h1 : s.head? ≠ some 34) (h2 : s.head? ≠ some 91) (h3 : s.head? ≠ some 123) (q1 : Lib.hasPrefix s [110, 117, 108, 108] = false) (q2 : Lib.hasPrefix s [102, 97, 108, 115, 101] = false) (hP : Lib.hasPrefix s [116, 114, 117, 101] = true) :
    Calls Tryz.prog 39 #[.pointer (some ⟨b, 0, none⟩), .int .i64 n] w (ValIs (valueP d s) b w) := by
  have hq : valueP d s = wordP s := by
    unfold valueP
    split
    · rename_i e; exact absurd e h1
    · rename_i e; exact absurd e h2
    · rename_i e; exact absurd e h3
    · rfl
  rw [hq]
  have f0 : Fr NoB w (w.alloc (.cells zj 25)) := (Fr.refl _ _).alloc _
  have r0 := h.fr f0 (fun e => e)
  have f0' : Fr NoB w ((w.alloc (.cells zj 25)).alloc (.cells #[.string ⟨#[110, 117, 108, 108]⟩, .string ⟨#[102, 97, 108, 115, 101]⟩, .string ⟨#[116, 114, 117, 101]⟩] 9)) := f0.alloc _
  have r0' := h.fr f0' (fun e => e)
  have hc := r0.cell
  have hc' := r0'.cell
  have pn : ∀ c : UInt8, s.head? ≠ some c → Lib.hasPrefix s [c] = false := fun c hn => by
    cases hp : Lib.hasPrefix s [c]
    · rfl
    · exact absurd (pre_head.1 hp) hn
  have P1 := Lib.hid (pn 34 h1)
  have P2 := Lib.hid (pn 91 h2)
  have P3 := Lib.hid (pn 123 h3)
  clear pn h1 h2 h3 hq
  have hw : wordP s = .ok (.mk 2 0 [] [] [], blanks (s.drop 4)) := by
    unfold wordP
    rw [show wNull = [110, 117, 108, 108] from rfl, takeP_no q1, show wFalse = [102, 97, 108, 115, 101] from rfl, takeP_no q2, show wTrue = [116, 114, 117, 101] from rfl, takeP_yes hP]
    rfl
  rw [hw]
  clear hw
  have Q1 := Lib.hid q1
  have Q2 := Lib.hid q2
  clear q1 q2
  go_enter Tryz.func39, Tryz.ntmps39
  go_wp2_with (first | (go_at_call 61; ((with_reducible refine (hasPrefix_any s [34] _).mono ?_); rintro e w1 ⟨rfl, rfl⟩; rw [P1.out])) | (go_at_call 63; ((with_reducible refine (take_no b s [91] _ r0 P2.out).mono ?_); rintro e w1 ⟨rfl, rfl⟩)) | (go_at_call 63; ((with_reducible refine (take_no b s [123] _ r0 P3.out).mono ?_); rintro e w1 ⟨rfl, rfl⟩)))
  refine wp_loop_rounds 3 ?_
  rw [rounds_succ]
  go_wp2_with (go_at_call 63; ((with_reducible refine (take_no b s [110, 117, 108, 108] _ r0' Q1.out).mono ?_); rintro e w1 ⟨rfl, rfl⟩))
  rw [rounds_succ]
  go_wp2_with (go_at_call 63; ((with_reducible refine (take_no b s [102, 97, 108, 115, 101] _ r0' Q2.out).mono ?_); rintro e w1 ⟨rfl, rfl⟩))
  rw [rounds_succ]
  go_wp2_with (first | (go_at_call 63; ((with_reducible refine (take_yes b s [116, 114, 117, 101] _ r0' hP).mono ?_); rintro e w1 ⟨rfl, f1, r1⟩; have g1 := f1.blk ((Blk.new w 25 zj).alloc _) (fun e => by have e' : w.heap.size = b := e; have := h.lt; omega))) | (refine wpList_store_row rfl 25 _ _ rfl w.heap.size #[.int .i64 2, .int .i64 0, .string ⟨#[]⟩, .slice none 0 0, .slice none 0 0] rfl rfl 25 zj g1 size_json rfl (one_json _ _ _ _ _ _ _ _ _) ?_))
  have gB := g1.setRow #[.int .i64 2, .int .i64 0, .string ⟨#[]⟩, .slice none 0 0, .slice none 0 0]
  have fB := (f0'.noB.trans f1).setRow w.heap.size #[.int .i64 2, .int .i64 0, .string ⟨#[]⟩, .slice none 0 0, .slice none 0 0] (Or.inl (Nat.le_refl _))
  have rB := r1.fr (Fr.rowO w1 w.heap.size #[.int .i64 2, .int .i64 0, .string ⟨#[]⟩, .slice none 0 0, .slice none 0 0]) (fun e => by have e' : b = w.heap.size := e; have := h.lt; omega)
  exact bodyPost_ret (v := jV 2 0 [] (.slice none 0 0) (.slice none 0 0)) (json_back rfl _ _ w.heap.size _ _ _ _ _ rfl gB) rfl ⟨_, rfl, jtop_leaf 2 0 [] (by unfold IntOk; omega) (by unfold IntOk; omega) (by simp), fB, rB⟩

set_option maxRecDepth 100000 in
set_option maxHeartbeats 3200000 in
theorem value_none {B : Nat} (d : Nat) (b : Nat) (s : Bs) (n : Int) (w : World) (hx : Cx B w) (_hB : B ≤ b) (h : Rd w b s) (hl : s.length ≤ 65536) (h1 : s.head? ≠ some 34) (h2 : s.head? ≠ some 91) (h3 : s.head? ≠ some 123) (q1 : Lib.hasPrefix s [110, 117, 108, 108] = false) (q2 : Lib.hasPrefix s [102, 97, 108, 115, 101] = false) (q3 : Lib.hasPrefix s [116, 114, 117, 101] = false) (hn : numP s = 0) :
    Calls Tryz.prog 39 #[.pointer (some ⟨b, 0, none⟩), .int .i64 n] w (ValIs (valueP d s) b w) := by
  have hq : valueP d s = wordP s := by
    unfold valueP
    split
    · rename_i e; exact absurd e h1
    · rename_i e; exact absurd e h2
    · rename_i e; exact absurd e h3
    · rfl
  rw [hq]
  have f0 : Fr NoB w (w.alloc (.cells zj 25)) := (Fr.refl _ _).alloc _
  have r0 := h.fr f0 (fun e => e)
  have f0' : Fr NoB w ((w.alloc (.cells zj 25)).alloc (.cells #[.string ⟨#[110, 117, 108, 108]⟩, .string ⟨#[102, 97, 108, 115, 101]⟩, .string ⟨#[116, 114, 117, 101]⟩] 9)) := f0.alloc _
  have r0' := h.fr f0' (fun e => e)
  have hc := r0.cell
  have hc' := r0'.cell
  have pn : ∀ c : UInt8, s.head? ≠ some c → Lib.hasPrefix s [c] = false := fun c hn => by
    cases hp : Lib.hasPrefix s [c]
    · rfl
    · exact absurd (pre_head.1 hp) hn
  have P1 := Lib.hid (pn 34 h1)
  have P2 := Lib.hid (pn 91 h2)
  have P3 := Lib.hid (pn 123 h3)
  clear pn h1 h2 h3 hq
  have hw : wordP s = .error 90 := by
    unfold wordP
    rw [show wNull = [110, 117, 108, 108] from rfl, takeP_no q1, show wFalse = [102, 97, 108, 115, 101] from rfl, takeP_no q2, show wTrue = [116, 114, 117, 101] from rfl, takeP_no q3]
    simp only [hn, if_true]
  rw [hw]
  clear hw
  have Q1 := Lib.hid q1
  have Q2 := Lib.hid q2
  have Q3 := Lib.hid q3
  clear q1 q2 q3
  have X0 := hx.fr0 f0'
  have hle := numP_le s
  have Hn := Lib.hid hn
  clear hn hle
  go_enter Tryz.func39, Tryz.ntmps39
  go_wp2_with (first | (go_at_call 61; ((with_reducible refine (hasPrefix_any s [34] _).mono ?_); rintro e w1 ⟨rfl, rfl⟩; rw [P1.out])) | (go_at_call 63; ((with_reducible refine (take_no b s [91] _ r0 P2.out).mono ?_); rintro e w1 ⟨rfl, rfl⟩)) | (go_at_call 63; ((with_reducible refine (take_no b s [123] _ r0 P3.out).mono ?_); rintro e w1 ⟨rfl, rfl⟩)))
  refine wp_loop_rounds 4 ?_
  rw [rounds_succ]
  go_wp2_with (go_at_call 63; ((with_reducible refine (take_no b s [110, 117, 108, 108] _ r0' Q1.out).mono ?_); rintro e w1 ⟨rfl, rfl⟩))
  rw [rounds_succ]
  go_wp2_with (go_at_call 63; ((with_reducible refine (take_no b s [102, 97, 108, 115, 101] _ r0' Q2.out).mono ?_); rintro e w1 ⟨rfl, rfl⟩))
  rw [rounds_succ]
  go_wp2_with (go_at_call 63; ((with_reducible refine (take_no b s [116, 114, 117, 101] _ r0' Q3.out).mono ?_); rintro e w1 ⟨rfl, rfl⟩))
  rw [rounds_succ]
  go_wp2_with (first | (go_at_call 65; ((with_reducible refine (number_any s _ (by omega)).mono ?_); rintro e w2 ⟨rfl, f2⟩; rw [Hn.out])) | (go_at_call 40; ((with_reducible refine (must_bad _ _ _ (by rfl)).mono ?_); rintro e w3 ⟨rfl, rfl⟩)))
  exact ⟨rfl, rfl, (f0'.trans f2).noB⟩

set_option maxRecDepth 100000 in
set_option maxHeartbeats 3200000 in
theorem value_odd {B : Nat} (d : Nat) (b : Nat) (s : Bs) (n : Int) (w : World) (hx : Cx B w) (_hB : B ≤ b) (h : Rd w b s) (hl : s.length ≤ 65536) (h1 : s.head? ≠ some 34) (h2 : s.head? ≠ some 91) (h3 : s.head? ≠ some 123) (q1 : Lib.hasPrefix s [110, 117, 108, 108] = false) (q2 : Lib.hasPrefix s [102, 97, 108, 115, 101] = false) (q3 : Lib.hasPrefix s [116, 114, 117, 101] = false) (hn : numP s ≠ 0) (he : exactP (s.take (numP s)) = none) :
    Calls Tryz.prog 39 #[.pointer (some ⟨b, 0, none⟩), .int .i64 n] w (ValIs (valueP d s) b w) := by
  have hq : valueP d s = wordP s := by
    unfold valueP
    split
    · rename_i e; exact absurd e h1
    · rename_i e; exact absurd e h2
    · rename_i e; exact absurd e h3
    · rfl
  rw [hq]
  have f0 : Fr NoB w (w.alloc (.cells zj 25)) := (Fr.refl _ _).alloc _
  have r0 := h.fr f0 (fun e => e)
  have f0' : Fr NoB w ((w.alloc (.cells zj 25)).alloc (.cells #[.string ⟨#[110, 117, 108, 108]⟩, .string ⟨#[102, 97, 108, 115, 101]⟩, .string ⟨#[116, 114, 117, 101]⟩] 9)) := f0.alloc _
  have r0' := h.fr f0' (fun e => e)
  have hc := r0.cell
  have hc' := r0'.cell
  have pn : ∀ c : UInt8, s.head? ≠ some c → Lib.hasPrefix s [c] = false := fun c hn => by
    cases hp : Lib.hasPrefix s [c]
    · rfl
    · exact absurd (pre_head.1 hp) hn
  have P1 := Lib.hid (pn 34 h1)
  have P2 := Lib.hid (pn 91 h2)
  have P3 := Lib.hid (pn 123 h3)
  clear pn h1 h2 h3 hq
  have hw : wordP s = .error 95 := by
    unfold wordP
    rw [show wNull = [110, 117, 108, 108] from rfl, takeP_no q1, show wFalse = [102, 97, 108, 115, 101] from rfl, takeP_no q2, show wTrue = [116, 114, 117, 101] from rfl, takeP_no q3]
    simp only [hn, if_false, he]
  rw [hw]
  clear hw
  have Q1 := Lib.hid q1
  have Q2 := Lib.hid q2
  have Q3 := Lib.hid q3
  clear q1 q2 q3
  have X0 := hx.fr0 f0'
  have hle := numP_le s
  have Hn := Lib.hid hn
  have HE := Lib.hid he
  clear hn he
  generalize hm : numP s = m at hle Hn HE
  have Hm := Lib.hid hm
  clear hm
  have hm0 : 0 < m := Nat.pos_of_ne_zero Hn.out
  have hxt := ext_take s
  go_enter Tryz.func39, Tryz.ntmps39
  go_wp2_with (first | (go_at_call 61; ((with_reducible refine (hasPrefix_any s [34] _).mono ?_); rintro e w1 ⟨rfl, rfl⟩; rw [P1.out])) | (go_at_call 63; ((with_reducible refine (take_no b s [91] _ r0 P2.out).mono ?_); rintro e w1 ⟨rfl, rfl⟩)) | (go_at_call 63; ((with_reducible refine (take_no b s [123] _ r0 P3.out).mono ?_); rintro e w1 ⟨rfl, rfl⟩)))
  refine wp_loop_rounds 4 ?_
  rw [rounds_succ]
  go_wp2_with (go_at_call 63; ((with_reducible refine (take_no b s [110, 117, 108, 108] _ r0' Q1.out).mono ?_); rintro e w1 ⟨rfl, rfl⟩))
  rw [rounds_succ]
  go_wp2_with (go_at_call 63; ((with_reducible refine (take_no b s [102, 97, 108, 115, 101] _ r0' Q2.out).mono ?_); rintro e w1 ⟨rfl, rfl⟩))
  rw [rounds_succ]
  go_wp2_with (go_at_call 63; ((with_reducible refine (take_no b s [116, 114, 117, 101] _ r0' Q3.out).mono ?_); rintro e w1 ⟨rfl, rfl⟩))
  rw [rounds_succ]
  go_wp2_with (first | (go_at_call 65; ((with_reducible refine (number_any s _ (by omega)).mono ?_); rintro e w2 ⟨rfl, f2⟩; rw [Hm.out]; have R2 := r0'.fr f2 (fun e => e); have c2 := R2.cell; have X2 := X0.fr0 f2)) | (go_at_call 40; first | ((with_reducible refine (must_ok _ _ _ (by first | rfl | (simp; done) | (simp; omega))).mono ?_); rintro e w3 ⟨rfl, rfl⟩) | ((with_reducible refine (must_no _ _).mono ?_); rintro e w3 ⟨rfl, rfl⟩)) | (go_at_call 66; ((with_reducible refine (exact_no (s.take m) _ X2 (by simp; omega) HE.out).mono ?_); rintro e w3 ⟨xx, rfl, f3⟩)))
  exact ⟨rfl, rfl, ((f0'.trans f2).trans f3).noB⟩

set_option maxRecDepth 100000 in
set_option maxHeartbeats 3200000 in
theorem value_num {B : Nat} (d : Nat) (b : Nat) (s : Bs) (n : Int) (w : World) (hx : Cx B w) (_hB : B ≤ b) (h : Rd w b s) (hl : s.length ≤ 65536) (h1 : s.head? ≠ some 34) (h2 : s.head? ≠ some 91) (h3 : s.head? ≠ some 123) (x : Int) (q1 : Lib.hasPrefix s [110, 117, 108, 108] = false) (q2 : Lib.hasPrefix s [102, 97, 108, 115, 101] = false) (q3 : Lib.hasPrefix s [116, 114, 117, 101] = false) (hn : numP s ≠ 0) (he : exactP (s.take (numP s)) = some x) :
    Calls Tryz.prog 39 #[.pointer (some ⟨b, 0, none⟩), .int .i64 n] w (ValIs (valueP d s) b w) := by
  have hq : valueP d s = wordP s := by
    unfold valueP
    split
    · rename_i e; exact absurd e h1
    · rename_i e; exact absurd e h2
    · rename_i e; exact absurd e h3
    · rfl
  rw [hq]
  have f0 : Fr NoB w (w.alloc (.cells zj 25)) := (Fr.refl _ _).alloc _
  have r0 := h.fr f0 (fun e => e)
  have f0' : Fr NoB w ((w.alloc (.cells zj 25)).alloc (.cells #[.string ⟨#[110, 117, 108, 108]⟩, .string ⟨#[102, 97, 108, 115, 101]⟩, .string ⟨#[116, 114, 117, 101]⟩] 9)) := f0.alloc _
  have r0' := h.fr f0' (fun e => e)
  have hc := r0.cell
  have hc' := r0'.cell
  have pn : ∀ c : UInt8, s.head? ≠ some c → Lib.hasPrefix s [c] = false := fun c hn => by
    cases hp : Lib.hasPrefix s [c]
    · rfl
    · exact absurd (pre_head.1 hp) hn
  have P1 := Lib.hid (pn 34 h1)
  have P2 := Lib.hid (pn 91 h2)
  have P3 := Lib.hid (pn 123 h3)
  clear pn h1 h2 h3 hq
  have hw : wordP s = .ok (.mk 3 x [] [] [], blanks (s.drop (numP s))) := by
    unfold wordP
    rw [show wNull = [110, 117, 108, 108] from rfl, takeP_no q1, show wFalse = [102, 97, 108, 115, 101] from rfl, takeP_no q2, show wTrue = [116, 114, 117, 101] from rfl, takeP_no q3]
    simp only [hn, if_false, he]
  rw [hw]
  clear hw
  have hxo := exactP_ok he
  have Q1 := Lib.hid q1
  have Q2 := Lib.hid q2
  have Q3 := Lib.hid q3
  clear q1 q2 q3
  have X0 := hx.fr0 f0'
  have hle := numP_le s
  have Hn := Lib.hid hn
  have HE := Lib.hid he
  clear hn he
  generalize hm : numP s = m at hle Hn HE
  have Hm := Lib.hid hm
  clear hm
  have hm0 : 0 < m := Nat.pos_of_ne_zero Hn.out
  have hxt := ext_take s
  have hpre : Lib.hasPrefix s (s.take m) = true := List.isPrefixOf_iff_prefix.2 (List.take_prefix _ _)
  have hlen : (s.take m).length = m := by simp; omega
  have Hpre := Lib.hid hpre
  have Hlen := Lib.hid hlen
  clear hpre hlen
  go_enter Tryz.func39, Tryz.ntmps39
  go_wp2_with (first | (go_at_call 61; ((with_reducible refine (hasPrefix_any s [34] _).mono ?_); rintro e w1 ⟨rfl, rfl⟩; rw [P1.out])) | (go_at_call 63; ((with_reducible refine (take_no b s [91] _ r0 P2.out).mono ?_); rintro e w1 ⟨rfl, rfl⟩)) | (go_at_call 63; ((with_reducible refine (take_no b s [123] _ r0 P3.out).mono ?_); rintro e w1 ⟨rfl, rfl⟩)))
  refine wp_loop_rounds 4 ?_
  rw [rounds_succ]
  go_wp2_with (go_at_call 63; ((with_reducible refine (take_no b s [110, 117, 108, 108] _ r0' Q1.out).mono ?_); rintro e w1 ⟨rfl, rfl⟩))
  rw [rounds_succ]
  go_wp2_with (go_at_call 63; ((with_reducible refine (take_no b s [102, 97, 108, 115, 101] _ r0' Q2.out).mono ?_); rintro e w1 ⟨rfl, rfl⟩))
  rw [rounds_succ]
  go_wp2_with (go_at_call 63; ((with_reducible refine (take_no b s [116, 114, 117, 101] _ r0' Q3.out).mono ?_); rintro e w1 ⟨rfl, rfl⟩))
  rw [rounds_succ]
  go_wp2_with (first | (go_at_call 65; ((with_reducible refine (number_any s _ (by omega)).mono ?_); rintro e w2 ⟨rfl, f2⟩; rw [Hm.out]; have R2 := r0'.fr f2 (fun e => e); have c2 := R2.cell; have X2 := X0.fr0 f2)) | (go_at_call 40; ((with_reducible refine (must_ok _ _ _ (by first | rfl | (simp; done) | (simp; omega))).mono ?_); rintro e w3 ⟨rfl, rfl⟩)) | (go_at_call 66; ((with_reducible refine (exact_yes (s.take m) x _ X2 (by simp; omega) HE.out).mono ?_); rintro e w3 ⟨rfl, f3⟩; have R3 := R2.fr f3 (fun e => e); have c3 := R3.cell)) | (go_at_call 63; ((with_reducible refine (take_yes b s (s.take m) _ R3 Hpre.out).mono ?_); rintro e w4 ⟨rfl, f4, r4⟩; have g1 := f4.blk ((((Fr.refl NoB _).trans f2).trans f3).blk ((Blk.new w 25 zj).alloc _) (fun e => e)) (fun e => by have e' : w.heap.size = b := e; have := h.lt; omega))) | (refine wpList_store_row rfl 25 _ _ rfl w.heap.size #[.int .i64 3, .int .i64 x, .string ⟨#[]⟩, .slice none 0 0, .slice none 0 0] rfl rfl 25 zj g1 size_json rfl (one_json _ _ _ _ _ _ _ _ _) ?_))
  have gB := g1.setRow #[.int .i64 3, .int .i64 x, .string ⟨#[]⟩, .slice none 0 0, .slice none 0 0]
  have fB := (((f0'.trans f2).trans f3).noB.trans f4).setRow w.heap.size #[.int .i64 3, .int .i64 x, .string ⟨#[]⟩, .slice none 0 0, .slice none 0 0] (Or.inl (Nat.le_refl _))
  rw [Hlen.out] at r4
  have rB := r4.fr (Fr.rowO w4 w.heap.size #[.int .i64 3, .int .i64 x, .string ⟨#[]⟩, .slice none 0 0, .slice none 0 0]) (fun e => by have e' : b = w.heap.size := e; have := h.lt; omega)
  exact bodyPost_ret (v := jV 3 x [] (.slice none 0 0) (.slice none 0 0)) (json_back rfl _ _ w.heap.size _ _ _ _ _ rfl gB) rfl ⟨_, rfl, jtop_leaf 3 x [] (by unfold IntOk; omega) (by unfold IntOk; omega) (by simp), fB, rB⟩

theorem value_word {B : Nat} (d : Nat) (b : Nat) (s : Bs) (n : Int) (w : World) (hx : Cx B w) (hB : B ≤ b) (h : Rd w b s) (hl : s.length ≤ 65536) (h1 : s.head? ≠ some 34) (h2 : s.head? ≠ some 91) (h3 : s.head? ≠ some 123) :
    Calls Tryz.prog 39 #[.pointer (some ⟨b, 0, none⟩), .int .i64 n] w (ValIs (valueP d s) b w) := by
  cases q1 : Lib.hasPrefix s [110, 117, 108, 108] with
  | true => exact value_null d b s n w hx hB h hl h1 h2 h3 q1
  | false =>
    cases q2 : Lib.hasPrefix s [102, 97, 108, 115, 101] with
    | true => exact value_false d b s n w hx hB h hl h1 h2 h3 q1 q2
    | false =>
      cases q3 : Lib.hasPrefix s [116, 114, 117, 101] with
      | true => exact value_true d b s n w hx hB h hl h1 h2 h3 q1 q2 q3
      | false =>
        by_cases hn : numP s = 0
        · exact value_none d b s n w hx hB h hl h1 h2 h3 q1 q2 q3 hn
        · cases he : exactP (s.take (numP s)) with
          | none => exact value_odd d b s n w hx hB h hl h1 h2 h3 q1 q2 q3 hn he
          | some x => exact value_num d b s n w hx hB h hl h1 h2 h3 x q1 q2 q3 hn he
end Go.Proofs.YteeijmfnjcddmaaGreatDoor
