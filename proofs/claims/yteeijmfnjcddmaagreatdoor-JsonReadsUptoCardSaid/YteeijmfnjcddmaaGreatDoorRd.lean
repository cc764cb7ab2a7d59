/- JSON, the document's reader: its state; wrong, blanks, at. -/
import Derived.Test.YteeijmfnjcddmaaGreatDoorDk
namespace Go.Proofs.YteeijmfnjcddmaaGreatDoor
open Go.RowKit

/-- The document's reader: its text, its place, its error. -/
def QSt (w : World) (b : Nat) (s : Bs) (i e : Nat) : Prop := Blk w b 72 #[.string ⟨s.toArray⟩, .int .i64 (i : Int), .int .i64 (e : Int)]
def isBl (c : UInt8) : Bool := (c == 32) || (c == 9) || (c == 10) || (c == 13)
/-- How many blanks a text begins with. -/
def skipB (s : Bs) : Nat := (s.takeWhile isBl).length
/-- The byte at a place; 0: the end. -/
def byteAt (s : Bs) (i : Nat) : UInt8 := s.getD i 0
def intAt (w : World) (a : Addr) : Nat := match w.cell? a with | some (.int _ n) => n.toNat | _ => 0
theorem QSt.cells {w : World} {b i e : Nat} {s : Bs} (h : QSt w b s i e) : w.cell? ⟨b, 0, none⟩ = some (.string ⟨s.toArray⟩) ∧ w.cell? ⟨b, 1, none⟩ = some (.int .i64 (i : Int)) ∧ w.cell? ⟨b, 2, none⟩ = some (.int .i64 (e : Int)) ∧ w.frozen? ⟨b, 1, none⟩ = false ∧ w.frozen? ⟨b, 2, none⟩ = false :=
  ⟨(Blk.cell h 0).trans rfl, (Blk.cell h 1).trans rfl, (Blk.cell h 2).trans rfl, Blk.frozen h 1, Blk.frozen h 2⟩
theorem QSt.fr {w w' : World} {b i e : Nat} {s : Bs} (h : QSt w b s i e) (f : Fr NoB w w') : QSt w' b s i e := f.blk h (fun x => x)
theorem QSt.goto {w : World} {b i e : Nat} {s : Bs} (h : QSt w b s i e) (k : Nat) : QSt (w.setCell ⟨b, 1, none⟩ (.int .i64 (k : Int))) b s k e := by
  have := Blk.set_ h 1 (.int .i64 (k : Int))
  simpa [QSt] using this
theorem QSt.err {w : World} {b i e : Nat} {s : Bs} (h : QSt w b s i e) (k : Nat) : QSt (w.setCell ⟨b, 2, none⟩ (.int .i64 (k : Int))) b s i k := by
  have := Blk.set_ h 2 (.int .i64 (k : Int))
  simpa [QSt] using this
theorem skip_end {s : Bs} {n : Nat} (h : ¬ n < s.length) : skipB (s.drop n) = 0 := by
  rw [List.drop_eq_nil_of_le (by omega)]; rfl
theorem skip_cons (c : UInt8) (r : Bs) : skipB (c :: r) = if isBl c then 1 + skipB r else 0 := by
  unfold skipB
  rw [List.takeWhile_cons]
  cases isBl c
  · rfl
  · simp; omega
theorem skip_no {s : Bs} {n : Nat} (h : n < s.length) (hb : isBl s[n] = false) : skipB (s.drop n) = 0 := by
  rw [List.drop_eq_getElem_cons h, skip_cons, hb]; rfl
theorem skip_yes {s : Bs} {n : Nat} (h : n < s.length) (hb : isBl s[n] = true) : skipB (s.drop n) = 1 + skipB (s.drop (n + 1)) := by
  rw [List.drop_eq_getElem_cons h, skip_cons, hb]; rfl

set_option maxRecDepth 100000 in
set_option maxHeartbeats 3200000 in
theorem wrong_any {b i e : Nat} {s : Bs} {w : World} (h : QSt w b s i e) (n : Nat) : Calls Tryz.prog 42 #[.pointer (some ⟨b, 0, none⟩), .int .i64 (n : Int)] w fun en w' => en = .returned (.tuple #[]) ∧ QSt w' b s i (if e = 0 then n else e) ∧ Fr (Only b) w w' := by
  obtain ⟨c0, c1, c2, z1, z2⟩ := h.cells
  have hq0 := h
  go_enter Tryz.func42, Tryz.ntmps42
  by_cases he : e = 0
  · subst he
    go_wp2_with fail
    go_end0
    exact ⟨rfl, by simpa using h.err n, (Fr.refl _ w).only _⟩
  · have k1 : ((e : Int) == 0) = false := by simp; omega
    go_wp2_with fail
    go_end0
    exact ⟨rfl, by first | exact hq0 | (rw [if_neg he]; exact hq0), Fr.refl _ _⟩

set_option maxRecDepth 100000 in
set_option maxHeartbeats 3200000 in
theorem at_q {b i e : Nat} {s : Bs} {w : World} (h : QSt w b s i e) : Calls Tryz.prog 68 #[.pointer (some ⟨b, 0, none⟩)] w fun en w' => en = .returned (.int .u8 ((byteAt s i).toNat : Int)) ∧ Fr NoB w w' := by
  obtain ⟨c0, c1, c2, z1, z2⟩ := h.cells
  go_enter Tryz.func68, Tryz.ntmps68
  by_cases hi : i < s.length
  · have k1 : (i : Int) < s.length := by omega
    have k0 : (0 : Int) ≤ i := by omega
    have hg := get_list s i hi
    have hb : byteAt s i = s[i] := by simp [byteAt, List.getD, hi]
    rw [hb]
    generalize s[i] = c at *
    go_wp2_with fail
    go_quiet (fail)
    go_wp2_with fail
    go_quiet (fail)
    go_wp2_with fail
    go_ret
    exact ⟨rfl, ((Fr.refl NoB w).drewN _).drewN _⟩
  · have k1 : ¬ (i : Int) < s.length := by omega
    have hb : byteAt s i = 0 := by simp [byteAt, List.getD, hi]
    rw [hb]
    go_wp2_with fail
    go_quiet (fail)
    go_wp2_with fail
    go_ret
    exact ⟨rfl, (Fr.refl NoB w).drewN _⟩

set_option maxRecDepth 100000 in
set_option maxHeartbeats 6400000 in
theorem blanks_q {b i e : Nat} {s : Bs} {w : World} (h : QSt w b s i e) (hl : s.length ≤ big) (hi : i ≤ big) : Calls Tryz.prog 67 #[.pointer (some ⟨b, 0, none⟩)] w fun en w' => en = .returned (.tuple #[]) ∧ QSt w' b s (i + skipB (s.drop i)) e ∧ Fr (Only b) w w' := by
  unfold big at hl hi
  go_enter Tryz.func67, Tryz.ntmps67
  go_wp2_with fail
  go_loopw [] (fun wr => ∃ n : Nat, n ≤ 140737488355328 ∧ QSt wr b s n e ∧ Fr (Only b) w wr ∧ Hid (n + skipB (s.drop n) = i + skipB (s.drop i))) (fun wr => s.length - intAt wr ⟨b, 1, none⟩)
  case atStart => exact ⟨i, hi, h, Fr.refl _ _, Lib.hid rfl⟩
  case round =>
    obtain ⟨n, hn, hq, hf, HN⟩ := hrel
    obtain ⟨c0, c1, c2, z1, z2⟩ := hq.cells
    by_cases hlt : n < s.length
    · have k1 : (n : Int) < s.length := by omega
      have k0 : (0 : Int) ≤ n := by omega
      have hg := get_list s n hlt
      have hy := fun hb => skip_yes (s := s) (n := n) hlt hb
      have hno := fun hb => skip_no (s := s) (n := n) hlt hb
      have HY := Lib.hid hy
      have HNO := Lib.hid hno
      clear hy hno
      generalize s[n] = c at *
      by_cases q32 : c = 32
      · subst q32
        have e1 := HY.out rfl
        have e2 := HN.out
        rw [e1] at e2
        have HE := Lib.hid e2
        clear e1 e2 HY HNO HN
        go_wp2_with fail
        go_quiet (fail)
        go_wp2_with fail
        go_roundw
        case rel => exact ⟨n + 1, by omega, by simpa using (hq.fr ((Fr.refl NoB wr).drewN nq)).goto (n + 1), (hf.drewN nq).only _, Lib.hid (by have := HE.out; omega)⟩
        case measure =>
          have m1 : intAt wr ⟨b, 1, none⟩ = n := by unfold intAt; rw [c1]; simp
          have m2 : intAt ((wr.drewN nq).setCell ⟨b, 1, none⟩ (.int .i64 ((n : Int) + 1))) ⟨b, 1, none⟩ = n + 1 := by
            have hh := ((hq.fr ((Fr.refl NoB wr).drewN nq)).goto (n + 1)).cells.2.1
            unfold intAt
            rw [show ((n : Int) + 1) = ((n + 1 : Nat) : Int) by omega, hh]
            simp
          rw [m1, m2]; omega
      by_cases q9 : c = 9
      · subst q9
        have e1 := HY.out rfl
        have e2 := HN.out
        rw [e1] at e2
        have HE := Lib.hid e2
        clear e1 e2 HY HNO HN
        go_wp2_with fail
        go_quiet (fail)
        go_wp2_with fail
        go_roundw
        case rel => exact ⟨n + 1, by omega, by simpa using (hq.fr ((Fr.refl NoB wr).drewN nq)).goto (n + 1), (hf.drewN nq).only _, Lib.hid (by have := HE.out; omega)⟩
        case measure =>
          have m1 : intAt wr ⟨b, 1, none⟩ = n := by unfold intAt; rw [c1]; simp
          have m2 : intAt ((wr.drewN nq).setCell ⟨b, 1, none⟩ (.int .i64 ((n : Int) + 1))) ⟨b, 1, none⟩ = n + 1 := by
            have hh := ((hq.fr ((Fr.refl NoB wr).drewN nq)).goto (n + 1)).cells.2.1
            unfold intAt
            rw [show ((n : Int) + 1) = ((n + 1 : Nat) : Int) by omega, hh]
            simp
          rw [m1, m2]; omega
      by_cases q10 : c = 10
      · subst q10
        have e1 := HY.out rfl
        have e2 := HN.out
        rw [e1] at e2
        have HE := Lib.hid e2
        clear e1 e2 HY HNO HN
        go_wp2_with fail
        go_quiet (fail)
        go_wp2_with fail
        go_roundw
        case rel => exact ⟨n + 1, by omega, by simpa using (hq.fr ((Fr.refl NoB wr).drewN nq)).goto (n + 1), (hf.drewN nq).only _, Lib.hid (by have := HE.out; omega)⟩
        case measure =>
          have m1 : intAt wr ⟨b, 1, none⟩ = n := by unfold intAt; rw [c1]; simp
          have m2 : intAt ((wr.drewN nq).setCell ⟨b, 1, none⟩ (.int .i64 ((n : Int) + 1))) ⟨b, 1, none⟩ = n + 1 := by
            have hh := ((hq.fr ((Fr.refl NoB wr).drewN nq)).goto (n + 1)).cells.2.1
            unfold intAt
            rw [show ((n : Int) + 1) = ((n + 1 : Nat) : Int) by omega, hh]
            simp
          rw [m1, m2]; omega
      by_cases q13 : c = 13
      · subst q13
        have e1 := HY.out rfl
        have e2 := HN.out
        rw [e1] at e2
        have HE := Lib.hid e2
        clear e1 e2 HY HNO HN
        go_wp2_with fail
        go_quiet (fail)
        go_wp2_with fail
        go_roundw
        case rel => exact ⟨n + 1, by omega, by simpa using (hq.fr ((Fr.refl NoB wr).drewN nq)).goto (n + 1), (hf.drewN nq).only _, Lib.hid (by have := HE.out; omega)⟩
        case measure =>
          have m1 : intAt wr ⟨b, 1, none⟩ = n := by unfold intAt; rw [c1]; simp
          have m2 : intAt ((wr.drewN nq).setCell ⟨b, 1, none⟩ (.int .i64 ((n : Int) + 1))) ⟨b, 1, none⟩ = n + 1 := by
            have hh := ((hq.fr ((Fr.refl NoB wr).drewN nq)).goto (n + 1)).cells.2.1
            unfold intAt
            rw [show ((n : Int) + 1) = ((n + 1 : Nat) : Int) by omega, hh]
            simp
          rw [m1, m2]; omega
      have b32 : ((c.toNat : Int) == 32) = false := u8_ne 32 (by omega) q32
      have b9 : ((c.toNat : Int) == 9) = false := u8_ne 9 (by omega) q9
      have b10 : ((c.toNat : Int) == 10) = false := u8_ne 10 (by omega) q10
      have b13 : ((c.toNat : Int) == 13) = false := u8_ne 13 (by omega) q13
      have e1 := HNO.out (by simp [isBl, q32, q9, q10, q13])
      have e2 := HN.out
      rw [e1] at e2
      clear HY HNO HN q32 q9 q10 q13 e1
      go_wp2_with fail
      go_quiet (fail)
      go_wp2_with fail
      go_end0
      exact ⟨rfl, by rw [← e2]; exact hq.fr ((Fr.refl NoB wr).drewN _), hf.drewN _⟩
    · have k1 : ¬ (n : Int) < s.length := by omega
      have e1 := skip_end hlt
      have e2 := HN.out
      rw [e1] at e2
      go_wp2_with fail
      go_quiet (fail)
      go_wp2_with fail
      go_end0
      exact ⟨rfl, by rw [← e2]; exact hq.fr ((Fr.refl NoB wr).drewN _), hf.drewN _⟩
end Go.Proofs.YteeijmfnjcddmaaGreatDoor
/- JSON, the document's reader: digit, four, escaped. -/
namespace Go.Proofs.YteeijmfnjcddmaaGreatDoor
open Go.RowKit

set_option maxRecDepth 100000 in
theorem digit_any (c : UInt8) (w : World) : Calls Tryz.prog 120 #[.int .u8 (c.toNat : Int)] w fun e w' => e = .returned (.bool (isDig c)) ∧ w' = w := by
  have hc := c.toNat_lt
  go_enter Tryz.func120, Tryz.ntmps120
  have e : isDig c = (decide (48 ≤ c.toNat) && decide (c.toNat ≤ 57)) := by
    unfold isDig
    simp [UInt8.le_iff_toNat_le]
  rw [e]
  by_cases h1 : 48 ≤ c.toNat
  · have k1 : (48 : Int) ≤ c.toNat := by omega
    by_cases h2 : c.toNat ≤ 57
    · have k2 : (c.toNat : Int) ≤ 57 := by omega
      go_wp2_with fail
      go_ret
      exact ⟨by first | rfl | (rw [decide_eq_true h1, decide_eq_true h2]; rfl), rfl⟩
    · have k2 : ¬ (c.toNat : Int) ≤ 57 := by omega
      go_wp2_with fail
      go_ret
      exact ⟨by first | rfl | (rw [decide_eq_true h1, decide_eq_false h2]; rfl), rfl⟩
  · have k1 : ¬ (48 : Int) ≤ c.toNat := by omega
    go_wp2_with fail
    go_ret
    exact ⟨by first | rfl | (rw [decide_eq_false h1]; rfl), rfl⟩

/-- The number that the first digits of base sixteen say. -/
def pN (d : Nat → UInt8) : Nat → Nat | 0 => 0 | m + 1 => 16 * pN d m + hexV (d m)
theorem pN_lt (d : Nat → UInt8) : ∀ m, (∀ j, j < m → hexV (d j) < 16) → pN d m < 16 ^ m
  | 0, _ => by simp [pN]
  | m + 1, h => by
    have h1 := pN_lt d m (fun j hj => h j (by omega))
    have h2 := h m (by omega)
    rw [pN, Nat.pow_succ]
    omega
theorem pN_small (d : Nat → UInt8) (m : Nat) (hm : m ≤ 4) (h : ∀ j, j < m → hexV (d j) < 16) : pN d m < 65536 := by
  have := pN_lt d m h
  have : 16 ^ m ≤ 16 ^ 4 := Nat.pow_le_pow_right (by omega) hm
  omega
/-- The bytes of a unit's digits. -/
def dAt (s : Bs) (i : Nat) : Nat → UInt8 := fun j => byteAt s (i + 2 + j)
theorem byteAt_drop (s : Bs) (i k : Nat) : byteAt s (i + k) = (s.drop i).getD k 0 := by simp [byteAt, List.getD, List.getElem?_drop]
theorem unit_far {s : Bs} {i : Nat} (h : s.length < i + 6) : unitP (s.drop i) = none := by
  have hl : (s.drop i).length < 6 := by rw [List.length_drop]; omega
  match s.drop i, hl with
  | [], _ => rfl
  | [_], _ => rfl
  | [_, _], _ => rfl
  | [_, _, _], _ => rfl
  | [_, _, _, _], _ => rfl
  | [_, _, _, _, _], _ => rfl
/-- Four digits of base sixteen. -/
def hexOk (d : Nat → UInt8) : Bool := decide (hexV (d 0) < 16) && (decide (hexV (d 1) < 16) && (decide (hexV (d 2) < 16) && decide (hexV (d 3) < 16)))
theorem hexOk_of {d : Nat → UInt8} (h : ∀ j, j < 4 → hexV (d j) < 16) : hexOk d = true := by
  unfold hexOk
  rw [decide_eq_true (h 0 (by omega)), decide_eq_true (h 1 (by omega)), decide_eq_true (h 2 (by omega)), decide_eq_true (h 3 (by omega))]; rfl
theorem hexOk_not {d : Nat → UInt8} {j : Nat} (hj : j < 4) (h : ¬ hexV (d j) < 16) : hexOk d = false := by
  cases hx : hexOk d
  · rfl
  · unfold hexOk at hx
    simp only [Bool.and_eq_true, decide_eq_true_eq] at hx
    exfalso
    match j, hj with
    | 0, _ => exact h hx.1
    | 1, _ => exact h hx.2.1
    | 2, _ => exact h hx.2.2.1
    | 3, _ => exact h hx.2.2.2
theorem unit_at {s : Bs} {i : Nat} (h : i + 6 ≤ s.length) : unitP (s.drop i) = if byteAt s i = 92 ∧ byteAt s (i + 1) = 117 ∧ hexOk (dAt s i) = true then some (pN (dAt s i) 4, s.drop (i + 6)) else none := by
  have hl : 6 ≤ (s.drop i).length := by rw [List.length_drop]; omega
  have e0 := byteAt_drop s i 0
  have e1 := byteAt_drop s i 1
  have e2 := byteAt_drop s i 2
  have e3 := byteAt_drop s i 3
  have e4 := byteAt_drop s i 4
  have e5 := byteAt_drop s i 5
  have e6 : s.drop (i + 6) = (s.drop i).drop 6 := by rw [List.drop_drop]
  have d0 : dAt s i 0 = byteAt s (i + 2) := rfl
  have d1 : dAt s i 1 = byteAt s (i + 3) := rfl
  have d2 : dAt s i 2 = byteAt s (i + 4) := rfl
  have d3 : dAt s i 3 = byteAt s (i + 5) := rfl
  rw [e6]
  rw [e2] at d0; rw [e3] at d1; rw [e4] at d2; rw [e5] at d3
  rw [Nat.add_zero] at e0
  rw [e0, e1]
  have hn : pN (dAt s i) 4 = 4096 * hexV (dAt s i 0) + 256 * hexV (dAt s i 1) + 16 * hexV (dAt s i 2) + hexV (dAt s i 3) := by
    simp only [pN]; omega
  unfold hexOk
  rw [hn, d0, d1, d2, d3]
  clear e0 e1 e2 e3 e4 e5 e6 d0 d1 d2 d3 hn
  match s.drop i, hl with
  | a :: b :: c :: d :: e :: f :: r, _ => simp [unitP]
/-- four's answer. -/
def fourP (s : Bs) : Int := match unitP s with | some (n, _) => n | none => -1

set_option maxRecDepth 100000 in
set_option maxHeartbeats 6400000 in
theorem four_any {b i0 e : Nat} {s : Bs} {w : World} (h : QSt w b s i0 e) (i : Nat) (hi : i ≤ s.length) (hl : s.length ≤ big) :
    Calls Tryz.prog 119 #[.pointer (some ⟨b, 0, none⟩), .int .i64 (i : Int)] w fun en w' => en = .returned (.int .i64 (fourP (s.drop i))) ∧ Fr NoB w w' := by
  obtain ⟨c0, c1, c2, z1, z2⟩ := h.cells
  unfold big at hl
  have HQ := Lib.hid h
  clear h
  go_enter Tryz.func119, Tryz.ntmps119
  by_cases h6 : i + 6 ≤ s.length
  · have hu := unit_at h6
    have k1 : ¬ (s.length : Int) < (i : Int) + 6 := by omega
    have k2 : (i : Int) < s.length := by omega
    have k3 : (0 : Int) ≤ i := by omega
    have k4 : (i : Int) + 1 < s.length := by omega
    have g0 := get_list s i (by omega)
    have g1 := get_list s (i + 1) (by omega)
    have b0 : byteAt s i = s[i] := by simp [byteAt, List.getD, show i < s.length by omega]
    have b1 : byteAt s (i + 1) = s[i + 1] := by simp [byteAt, List.getD, show i + 1 < s.length by omega]
    rw [← b0] at g0
    rw [← b1] at g1
    by_cases h92 : byteAt s i = 92
    · by_cases h117 : byteAt s (i + 1) = 117
      · rw [h92] at g0
        rw [h117] at g1
        have HU : Hid (unitP (s.drop i) = if hexOk (dAt s i) = true then some (pN (dAt s i) 4, s.drop (i + 6)) else none) := Lib.hid (by rw [hu]; simp [h92, h117])
        clear hu h92 h117 b0 b1
        go_wp2_with fail
        clear c1 c2 z1 z2 g0 g1 k1 k2 k4
        go_loopw [5, 6, 7] (fun v5 v6 _ wr => ∃ m : Nat, m ≤ 4 ∧ v5 = .int .i64 (pN (dAt s i) m : Int) ∧ v6 = .int .i64 ((i : Int) + 2 + m) ∧ wr = w ∧ Hid (∀ j, j < m → hexV (dAt s i j) < 16)) (fun _ v6 _ _ => i + 6 - (intOf v6).toNat)
        case atStart => exact ⟨0, by omega, rfl, by simp, rfl, Lib.hid (fun j hj => absurd hj (by omega))⟩
        case round =>
          obtain ⟨m, hm, rfl, rfl, rfl, HH⟩ := hrel
          have hpl := pN_small (dAt s i) m hm HH.out
          by_cases hm4 : m < 4
          · have k5 : (i : Int) + 2 + m < (i : Int) + 6 := by omega
            have k6 : (0 : Int) ≤ (i : Int) + 2 + m := by omega
            have k7 : (i : Int) + 2 + m < s.length := by omega
            have gm := get_list s (i + 2 + m) (by omega)
            have bm : dAt s i m = s[i + 2 + m] := by simp [dAt, byteAt, List.getD, show i + 2 + m < s.length by omega]
            rw [← bm] at gm
            have hpm : pN (dAt s i) (m + 1) = 16 * pN (dAt s i) m + hexV (dAt s i m) := rfl
            have HP := Lib.hid hpm
            have HN := Lib.hid (fun h => hexOk_not (d := dAt s i) hm4 h)
            have HD := Lib.hid (digit_any (dAt s i m))
            clear bm hpm
            have hc := (dAt s i m).toNat_lt
            have hisd : isDig (dAt s i m) = (decide (48 ≤ (dAt s i m).toNat) && decide ((dAt s i m).toNat ≤ 57)) := by
              unfold isDig
              simp [UInt8.le_iff_toNat_le]
            generalize hcd : dAt s i m = c at *
            by_cases hA : 48 ≤ c.toNat ∧ c.toNat ≤ 57
            · have hv : hexV c = c.toNat - 48 := by unfold hexV; rw [if_pos hA]
              have HDg : Hid (isDig c = true) := Lib.hid (by rw [hisd]; rw [decide_eq_true hA.1, decide_eq_true hA.2]; rfl)
              have HH2 : Hid (∀ j, j < m + 1 → hexV (dAt s i j) < 16) := Lib.hid (fun j hj => by
                rcases Nat.lt_or_ge j m with h | h
                · exact HH.out j h
                · have : j = m := by omega
                  subst this; rw [hcd, hv]; omega)
              have l1 : (48 : Int) ≤ c.toNat := by omega
              have l2 : (c.toNat : Int) ≤ 57 := by omega
              go_wp2_with (go_at_call 120; ((with_reducible refine (HD.out _).mono ?_); rintro e w2 ⟨rfl, rfl⟩; rw [HDg.out]))
              go_roundw
              case rel => exact ⟨m + 1, by omega, by rw [HP.out, hv]; simp; omega, by simp; omega, trivial, HH2⟩
              case measure => simp [intOf]; omega
            by_cases hB : 97 ≤ c.toNat ∧ c.toNat ≤ 102
            · have hv : hexV c = c.toNat - 87 := by unfold hexV; rw [if_neg (by omega), if_pos hB]
              have HDg : Hid (isDig c = false) := Lib.hid (by rw [hisd]; simp; omega)
              have HH2 : Hid (∀ j, j < m + 1 → hexV (dAt s i j) < 16) := Lib.hid (fun j hj => by
                rcases Nat.lt_or_ge j m with h | h
                · exact HH.out j h
                · have : j = m := by omega
                  subst this; rw [hcd, hv]; omega)
              have l1 : (97 : Int) ≤ c.toNat := by omega
              have l2 : (c.toNat : Int) ≤ 102 := by omega
              have l3 : ¬ (c.toNat : Int) ≤ 57 := by omega
              go_wp2_with (go_at_call 120; ((with_reducible refine (HD.out _).mono ?_); rintro e w2 ⟨rfl, rfl⟩; rw [HDg.out]))
              go_roundw
              case rel => exact ⟨m + 1, by omega, by rw [HP.out, hv]; simp; omega, by simp; omega, trivial, HH2⟩
              case measure => simp [intOf]; omega
            by_cases hC : 65 ≤ c.toNat ∧ c.toNat ≤ 70
            · have hv : hexV c = c.toNat - 55 := by unfold hexV; rw [if_neg (by omega), if_neg (by omega), if_pos hC]
              have HDg : Hid (isDig c = false) := Lib.hid (by rw [hisd]; simp; omega)
              have HH2 : Hid (∀ j, j < m + 1 → hexV (dAt s i j) < 16) := Lib.hid (fun j hj => by
                rcases Nat.lt_or_ge j m with h | h
                · exact HH.out j h
                · have : j = m := by omega
                  subst this; rw [hcd, hv]; omega)
              have l1 : (65 : Int) ≤ c.toNat := by omega
              have l2 : (c.toNat : Int) ≤ 70 := by omega
              have l3 : ¬ (97 : Int) ≤ c.toNat := by omega
              go_wp2_with (go_at_call 120; ((with_reducible refine (HD.out _).mono ?_); rintro e w2 ⟨rfl, rfl⟩; rw [HDg.out]))
              go_roundw
              case rel => exact ⟨m + 1, by omega, by rw [HP.out, hv]; simp; omega, by simp; omega, trivial, HH2⟩
              case measure => simp [intOf]; omega
            have hv : hexV c = 16 := by unfold hexV; rw [if_neg hA, if_neg hB, if_neg hC]
            have HDg : Hid (isDig c = false) := Lib.hid (by
              rw [hisd]
              simp only [Bool.and_eq_false_imp, decide_eq_true_eq, decide_eq_false_iff_not]
              omega)
            have e : fourP (s.drop i) = -1 := by unfold fourP; rw [HU.out, if_neg (by rw [HN.out (by rw [hv]; omega)]; simp)]
            have HE := Lib.hid e
            clear e hv
            by_cases l1 : (97 : Int) ≤ c.toNat
            · have l2 : ¬ (c.toNat : Int) ≤ 102 := by omega
              by_cases l5 : (65 : Int) ≤ c.toNat
              · have l6 : ¬ (c.toNat : Int) ≤ 70 := by omega
                clear hA hB hC
                go_wp2_with (go_at_call 120; ((with_reducible refine (HD.out _).mono ?_); rintro e w2 ⟨rfl, rfl⟩; rw [HDg.out]))
                go_ret
                exact ⟨by rw [HE.out]; rfl, Fr.refl _ _⟩
              · omega
            · by_cases l5 : (65 : Int) ≤ c.toNat
              · have l6 : ¬ (c.toNat : Int) ≤ 70 := by omega
                clear hA hB hC
                go_wp2_with (go_at_call 120; ((with_reducible refine (HD.out _).mono ?_); rintro e w2 ⟨rfl, rfl⟩; rw [HDg.out]))
                go_ret
                exact ⟨by rw [HE.out]; rfl, Fr.refl _ _⟩
              · clear hA hB hC
                go_wp2_with (go_at_call 120; ((with_reducible refine (HD.out _).mono ?_); rintro e w2 ⟨rfl, rfl⟩; rw [HDg.out]))
                go_ret
                exact ⟨by rw [HE.out]; rfl, Fr.refl _ _⟩
          · obtain rfl : m = 4 := by omega
            have e : fourP (s.drop i) = (pN (dAt s i) 4 : Int) := by unfold fourP; rw [HU.out, if_pos (hexOk_of HH.out)]
            have HE := Lib.hid e
            clear e
            go_wp2_with fail
            go_ret
            exact ⟨by rw [HE.out]; rfl, Fr.refl _ _⟩
      · have q117 : ((byteAt s (i + 1)).toNat : Int) ≠ 117 := by
          have := u8_ne 117 (by omega) h117
          simpa using this
        have q117b : (((byteAt s (i + 1)).toNat : Int) != 117) = true := by simpa using q117
        have e : fourP (s.drop i) = -1 := by unfold fourP; rw [hu, if_neg (fun x => h117 x.2.1)]
        rw [e]
        rw [h92] at g0
        clear hu h92 h117 b0 b1 e
        generalize byteAt s (i + 1) = c1 at *
        go_wp2_with fail
        go_ret
        exact ⟨rfl, Fr.refl _ _⟩
    · have q92 : ((byteAt s i).toNat : Int) ≠ 92 := by
        have := u8_ne 92 (by omega) h92
        simpa using this
      have q92b : (((byteAt s i).toNat : Int) != 92) = true := by simpa using q92
      have e : fourP (s.drop i) = -1 := by unfold fourP; rw [hu, if_neg (fun x => h92 x.1)]
      rw [e]
      clear hu h92 b0 b1 e g1
      generalize byteAt s i = c0 at *
      go_wp2_with fail
      go_ret
      exact ⟨rfl, Fr.refl _ _⟩
  · have hu := unit_far (s := s) (i := i) (by omega)
    have k1 : (s.length : Int) < (i : Int) + 6 := by omega
    have e : fourP (s.drop i) = -1 := by unfold fourP; rw [hu]
    rw [e]
    go_wp2_with fail
    go_ret
    exact ⟨rfl, Fr.refl _ _⟩
end Go.Proofs.YteeijmfnjcddmaaGreatDoor
