/- The replay cache: Add. -/
import Derived.Test.YtkhaeoggchnheaaCacheD
namespace Go.Proofs.Ytkhaeoggchnheaa
open Go.RowKit Go.Maps Go.WideMaps

def putE (es : List (Lit × DataW Unit)) (s : List UInt8) (til : Int) : List (Lit × DataW Unit) := DataW.insert (.string s, .lit (.int .i64 til)) (es.filter fun p => !p.1.sameKey (.string s))

/-- What Add answers. -/
def addE (room clock : Int) (es : List (Lit × DataW Unit)) (s : List UInt8) (til now : Int) : Int :=
  if ref0 s til now ≠ 0 then ref0 s til now else ref2 room (max clock now) (sweep es (max clock now)) s til
/-- The clock behind it. -/
def addC (clock : Int) (s : List UInt8) (til now : Int) : Int := if ref0 s til now ≠ 0 then clock else max clock now
/-- The entries behind it. -/
def addL (room clock : Int) (es : List (Lit × DataW Unit)) (s : List UInt8) (til now : Int) : List (Lit × DataW Unit) :=
  if ref0 s til now ≠ 0 then es else if ref2 room (max clock now) (sweep es (max clock now)) s til ≠ 0 then sweep es (max clock now) else putE (sweep es (max clock now)) s til

theorem tight {w : World} {P : Program} {k : TypeId} {R : Value → Option (DataW Unit × List MemPlace)} {b n : Nat} {es : List (Lit × DataW Unit)} (h : w.ownsMap P k R b n (.map es)) : w.ownsMap P k R b es.length (.map es) := by
  obtain ⟨es', clock, hb, F, hs, hD⟩ := h
  refine ⟨es', clock, hb, F, ?_, hD⟩
  injection hD with hD
  rw [hD, length_sorted]
  simp

theorem IsC.tight {w : World} {b mb : Nat} {room clock : Int} {n : Nat} {es : List (Lit × DataW Unit)} (h : IsC w b mb room clock n (.map es)) : IsC w b mb room clock es.length (.map es) := ⟨h.blk, Go.Proofs.Ytkhaeoggchnheaa.tight h.own, h.ne⟩

/-- The two blocks of a cache. -/
def Two (b mb : Nat) : Nat → Prop := fun k => k = b ∨ k = mb

theorem add_no {w : World} {b : Nat} (s : ByteArray) (til now : Int) (h0 : ref0 s.data.toList til now ≠ 0) :
    Calls Try.prog 11 #[.pointer (some ⟨b, 0, none⟩), .string s, .int .i64 til, .int .i64 now] w fun e w' => e = .returned (.int .i64 (ref0 s.data.toList til now)) ∧ w = w' := by
  obtain ⟨r, hr⟩ : ∃ r, r = ref0 s.data.toList til now := ⟨_, rfl⟩
  have hc := ref0_any (.pointer (some ⟨b, 0, none⟩)) s til now w
  rw [← hr] at h0 hc ⊢
  have HC := Lib.hid hc
  have hb : (r != 0) = true := by simpa using h0
  clear hr h0 hc
  go_enter Try.func11, Try.ntmps11
  go_wp2_with (go_at_call 20; refine HC.out.mono ?_; rintro e w' ⟨rfl, rfl⟩)
  go_ret
  exact ⟨rfl, rfl⟩

set_option maxHeartbeats 1600000 in
theorem add_yes {w : World} {b mb : Nat} {room clock : Int} {n : Nat} {es : List (Lit × DataW Unit)} (h : IsC w b mb room clock n (.map es)) (hn : n < maxLen) (s : ByteArray) (hs : s.size ≤ maxLen) (til now c' : Int) (h0 : ref0 s.data.toList til now = 0) (hw : (Lit.int .i64 til).wf = true)
    (hc' : (clock < now ∧ c' = now) ∨ (¬ clock < now ∧ c' = clock)) :
    Calls Try.prog 11 #[.pointer (some ⟨b, 0, none⟩), .string s, .int .i64 til, .int .i64 now] w fun e w' => e = .returned (.int .i64 (ref2 room c' (sweep es c') s.data.toList til)) ∧
      (∃ n', IsC w' b mb room c' n' (.map (if ref2 room c' (sweep es c') s.data.toList til ≠ 0 then sweep es c' else putE (sweep es c') s.data.toList til))) ∧ Fr (Two b mb) w w' := by
  have hc0 := ref0_any (.pointer (some ⟨b, 0, none⟩)) s til now w
  rw [h0] at hc0
  have HC := Lib.hid hc0
  clear h0 hc0
  have hkey := keyOf_string_mk Try.underlying9 hs
  have h1 : IsC (w.setCell ⟨b, 1, none⟩ (.int .i64 c')) b mb room c' n (.map es) := ⟨by simpa using h.blk.set_ 1 (.int .i64 c'), h.own.setCell (fun e => h.ne e.symm) _, h.ne⟩
  obtain ⟨c0, c1, c2, f1⟩ := h.cells
  have hlb := h.blk.lt
  have ht := h.tid
  have hne := h.ne
  obtain ⟨r, hr⟩ : ∃ r, r = ref2 room c' (sweep es c') s.data.toList til := ⟨_, rfl⟩
  rw [← hr]
  obtain ⟨L, hL⟩ : ∃ L, L = if r ≠ 0 then sweep es c' else putE (sweep es c') s.data.toList til := ⟨_, rfl⟩
  rw [← hL]
  have HL := Lib.hid hL
  clear hL
  rcases hc' with ⟨hlt, hcc⟩ | ⟨hlt, hcc⟩
  all_goals
    subst hcc
    clear h
    go_enter Try.func11, Try.ntmps11
    go_wp2_with (first | (go_at_call 20; refine HC.out.mono ?_; rintro e w' ⟨rfl, rfl⟩) | (at_range; refine wpList_range_own _ rfl _ 28 rfl 9 3 lawS Try.underlying28 _ mb n _ rfl h1.own ?_; intro w0 hrg0 hg0 hs0))
    go_frame
    have hz : (w.setCell ⟨b, 1, none⟩ (.int .i64 c')).heap.size = w.heap.size := by simp [World.setCell]
    rw [hz] at hrg0 hs0 ⊢
    go_loopw [11] (fun _ wr => ∃ (left : Lit → Bool) (cnt : Nat), wr.ranges Try.prog 9 (plainElem Try.prog 3) mb w.heap.size n (sweepL es left c') left cnt ∧ Fr (Two b mb) w wr ∧ Blk wr b 48 #[.int .i64 room, .int .i64 c', .map (some mb)])
      (fun _ wr => wr.rangeLeft mb w.heap.size)
    case atStart => exact ⟨_, _, by rw [sweepL_start ht]; exact hrg0, (((Fr.refl _ _).setCell (Or.inl rfl) _).grown hg0 (by simp)), (hg0.block b (by omega) (by simp)).trans h1.blk⟩
    case round =>
      obtain ⟨left, cnt, hrg, hfr, hbl⟩ := hrel
      clear hrg0 hg0 hs0 h1 c0 c1 c2 f1 HC hlt
      have HM := Lib.hid (hrg.left_eq)
      go_wp2_with (at_next; refine next_si _ rfl _ rfl 9 3 .i64 lawS Try.underlying9 Try.underlying3 mb w.heap.size n _ _ _ rfl hrg ?_ ?_)
      · intro _ hl0
        have hx : IsC wr b mb room c' n (.map (sweep es c')) := ⟨hbl, by rw [← sweepL_end hl0]; exact hrg.owns, hne⟩
        have hcall := fun nw => ref2_any hx s hs til nw
        rw [← hr] at hcall
        have HCL := Lib.hid hcall
        have HR := Lib.hid hr
        clear hcall hr
        by_cases hr0 : r = 0
        · have hb : (r != 0) = false := by simpa using hr0
          have HR0 := Lib.hid hr0
          clear hr0
          go_wp2_with fail
          refine (HCL.out _).mono ?_
          rintro e w' ⟨rfl, hf2, _⟩
          have hx2 := hx.fr hf2 (by simp [NoB]) (by simp [NoB])
          have g2 := hx2.cells.2.2.1
          go_wp2_with (at_mapUpdate; refine wpList_mapUpdate_in _ rfl _ _ _ 28 rfl 9 3 lawS Try.underlying28 _ mb n _ rfl hx2.own hn _ _ _ rfl rfl hkey _ [] (plainElem_int Try.underlying3 hw) ?_; intro w3 hown3 hturn3)
          go_ret
          exact ⟨by rw [HR0.out]; rfl, ⟨n + 1, ⟨(hturn3.grown.block b hx2.blk.lt (by simpa using hne)).trans hx2.blk, by rw [HL.out, if_neg (by rw [HR0.out]; simp)]; exact hown3, hne⟩⟩, (hfr.andThen hf2 (by simp [NoB])).grown hturn3.grown (fun j hj _ => by cases hj; exact Or.inr rfl)⟩
        · have hb : (r != 0) = true := by simpa using hr0
          have HR0 := Lib.hid hr0
          clear hr0
          go_wp2_with fail
          refine (HCL.out _).mono ?_
          rintro e w' ⟨rfl, hf2, _⟩
          go_wp2_with fail
          go_ret
          exact ⟨rfl, ⟨n, by rw [HL.out, if_pos HR0.out]; exact hx.fr hf2 (by simp [NoB]) (by simp [NoB])⟩, hfr.andThen hf2 (by simp [NoB])⟩
      · intro x c w1 cnt1 hwx hwc hlx hat hrg1 hlt hg1 hs1 hen
        have hne1 : some b ≠ some w.heap.size := fun e => by injection e with e; omega
        have hfr1 : Fr (Two b mb) w w1 := hfr.grown hg1 (fun j hj hlt => by cases hj; omega)
        have hbl1 : Blk w1 b 48 #[.int .i64 room, .int .i64 c', .map (some mb)] := (hg1.block b hbl.lt hne1).trans hbl
        have d1 : w1.cell? ⟨b, 1, none⟩ = some (.int .i64 c') := hbl1.cell 1
        have d2 : w1.cell? ⟨b, 2, none⟩ = some (.map (some mb)) := hbl1.cell 2
        have hkx := keyOf_string_mk Try.underlying9 hwx
        by_cases hgt : c ≤ c'
        · have hst := Lib.hid (sweepL_struck ht (kl := .string x.data.toList) trivial hlx (by simp only [num]; omega) hat)
          clear hat
          go_wp2_with (at_delete; refine wpList_delete_ranges _ rfl _ _ 28 9 rfl 3 lawS Try.underlying28 _ mb w.heap.size n _ _ _ rfl hrg1 _ _ rfl hkx ?_; intro w2 cnt2 hrg2 hle2 hturn; go_frame)
          rw [strike_twice] at hrg2
          go_roundw
          case rel => exact ⟨_, cnt2, by rw [← hst.out]; exact hrg2, hfr1.grown hturn.grown (fun j hj _ => by cases hj; exact Or.inr rfl), (hturn.grown.block b hbl1.lt (by simpa using hne)).trans hbl1⟩
          case measure => rw [HM.out, hrg2.left_eq]; omega
        · have hst := Lib.hid (sweepL_stays ht (kl := .string x.data.toList) trivial hlx (by simp only [num]; omega) hat)
          clear hat
          go_wp2
          go_roundw
          case rel => exact ⟨_, cnt1, by rw [← hst.out]; exact hrg1, hfr1, hbl1⟩
          case measure => rw [HM.out, hrg1.left_eq]; exact hlt

end Go.Proofs.Ytkhaeoggchnheaa
