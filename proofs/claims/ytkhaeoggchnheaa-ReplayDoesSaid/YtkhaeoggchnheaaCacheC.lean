/- The replay cache: Len, refused. -/
import Derived.Test.YtkhaeoggchnheaaCacheB
namespace Go.Proofs.Ytkhaeoggchnheaa
open Go.RowKit Go.Maps Go.WideMaps

/-- Len's answer. -/
def lenN (clock : Int) (es : List (Lit × DataW Unit)) (now : Int) : Int := if tickB now = true then (live es (max now clock) : Int) else 0

theorem IsC.tid {w : World} {b mb : Nat} {room clock : Int} {n : Nat} {es : List (Lit × DataW Unit)} (h : IsC w b mb room clock n (.map es)) : Tid es := by
  obtain ⟨es', e, h1, h2⟩ := h.own.entries lawS
  injection e with e
  subst e
  exact ⟨h1, h2⟩
theorem IsC.size_le {w : World} {b mb : Nat} {room clock : Int} {n : Nat} {es : List (Lit × DataW Unit)} (h : IsC w b mb room clock n (.map es)) : es.length ≤ n := h.own.size_le
theorem IsC.cells {w : World} {b mb : Nat} {room clock : Int} {n : Nat} {D : DataW Unit} (h : IsC w b mb room clock n D) :
    w.cell? ⟨b, 0, none⟩ = some (.int .i64 room) ∧ w.cell? ⟨b, 1, none⟩ = some (.int .i64 clock) ∧ w.cell? ⟨b, 2, none⟩ = some (.map (some mb)) ∧ w.frozen? ⟨b, 1, none⟩ = false :=
  ⟨h.blk.cell 0, h.blk.cell 1, h.blk.cell 2, h.blk.frozen 1⟩

theorem live_le (es : List (Lit × DataW Unit)) (t : Int) : live es t ≤ es.length := List.length_filter_le _ _
theorem cntOut_le (es : List (Lit × DataW Unit)) (left : Lit → Bool) (t : Int) : cntOut es left t ≤ es.length := List.length_filter_le _ _

set_option maxHeartbeats 400000 in
theorem len_yes {w : World} {b mb : Nat} {room clock : Int} {n : Nat} {es : List (Lit × DataW Unit)} (h : IsC w b mb room clock n (.map es)) (hn : n < maxLen) (now : Int) (h0 : 0 ≤ now) (h1 : now ≤ 1099511627776) :
    Calls Try.prog 10 #[.pointer (some ⟨b, 0, none⟩), .int .i64 now] w fun e w' => e = .returned (.int .i64 (live es (max now clock))) ∧ Fr NoB w w' := by
  obtain ⟨c0, c1, c2, _⟩ := h.cells
  have ht := h.tid
  have hle := h.size_le
  unfold maxLen at hn
  go_enter Try.func10, Try.ntmps10
  go_wp2_with (at_range; refine wpList_range_own _ rfl _ 28 rfl 9 3 lawS Try.underlying28 _ mb n _ rfl h.own ?_; intro w0 hrg0 hg0 hs0)
  go_frame
  go_loopw [5] (fun v wr => ∃ (left : Lit → Bool) (cnt : Nat), wr.ranges Try.prog 9 (plainElem Try.prog 3) mb w.heap.size n (.map es) left cnt ∧ Fr NoB w wr ∧ v = .int .i64 (cntOut es left (max now clock)))
    (fun _ wr => wr.rangeLeft mb w.heap.size)
  case atStart => exact ⟨_, _, hrg0, (Fr.refl _ _).grown hg0 (by simp), by rw [cntOut_start ht]; rfl⟩
  case round =>
    obtain ⟨left, cnt, hrg, hfr, rfl⟩ := hrel
    clear hrg0 hg0 hs0
    go_wp2_with (at_next; refine next_si _ rfl _ rfl 9 3 .i64 lawS Try.underlying9 Try.underlying3 mb w.heap.size n _ _ _ rfl hrg ?_ ?_)
    · intro _ hl0
      have hfin := Lib.hid (cntOut_end (es := es) (t := max now clock) hl0)
      go_wp2
      go_ret
      exact ⟨by rw [hfin.out]; rfl, hfr⟩
    · intro x c w1 cnt1 hwx hwc hlx hat hrg1 hlt hg1 hs1 hen
      have hfr1 : Fr NoB w w1 := hfr.grown hg1 (fun j hj hlt => by cases hj; omega)
      have hc := (h.fr hfr1 (by simp [NoB]) (by simp [NoB])).cells.2.1
      have hst := Lib.hid (cntOut_one (t := max now clock) ht (mem_of_at hat) hlx)
      have hcl := cntOut_le es left (max now clock)
      have hms : wr.rangeLeft mb w.heap.size = cnt := hrg.left_eq
      have HM := Lib.hid hms
      clear hms hat
      by_cases hgt : max now clock < c
      · have q1 : now < c := by omega
        have q2 : clock < c := by omega
        go_wp2_with (go_at_call 19; refine (tick_yes _ _ h0 h1).mono ?_; rintro e w' ⟨rfl, rfl⟩)
        all_goals
          go_roundw
          case rel => exact ⟨_, cnt1, hrg1, hfr1, by rw [hst.out, if_pos (by simpa [num] using hgt)]; go_num⟩
          case measure => rw [HM.out, hrg1.left_eq]; exact hlt
      · go_wp2_with (go_at_call 19; refine (tick_yes _ _ h0 h1).mono ?_; rintro e w' ⟨rfl, rfl⟩)
        all_goals
          go_roundw
          case rel => exact ⟨_, cnt1, hrg1, hfr1, by rw [hst.out, if_neg (by simpa [num] using hgt)]; rfl⟩
          case measure => rw [HM.out, hrg1.left_eq]; exact hlt

set_option maxHeartbeats 400000 in
theorem len_no {w : World} {b mb : Nat} {room clock : Int} {n : Nat} {es : List (Lit × DataW Unit)} (h : IsC w b mb room clock n (.map es)) (now : Int) (hno : ¬ (0 ≤ now ∧ now ≤ 1099511627776)) :
    Calls Try.prog 10 #[.pointer (some ⟨b, 0, none⟩), .int .i64 now] w fun e w' => e = .returned (.int .i64 0) ∧ Fr NoB w w' := by
  obtain ⟨c0, c1, c2, _⟩ := h.cells
  have HNO := Lib.hid hno
  clear hno
  go_enter Try.func10, Try.ntmps10
  go_wp2_with (at_range; refine wpList_range_own _ rfl _ 28 rfl 9 3 lawS Try.underlying28 _ mb n _ rfl h.own ?_; intro w0 hrg0 hg0 hs0)
  go_frame
  go_loopw [5] (fun v wr => ∃ (left : Lit → Bool) (cnt : Nat), wr.ranges Try.prog 9 (plainElem Try.prog 3) mb w.heap.size n (.map es) left cnt ∧ Fr NoB w wr ∧ v = .int .i64 0)
    (fun _ wr => wr.rangeLeft mb w.heap.size)
  case atStart => exact ⟨_, _, hrg0, (Fr.refl _ _).grown hg0 (by simp), rfl⟩
  case round =>
    obtain ⟨left, cnt, hrg, hfr, rfl⟩ := hrel
    clear hrg0 hg0 hs0
    go_wp2_with (at_next; refine next_si _ rfl _ rfl 9 3 .i64 lawS Try.underlying9 Try.underlying3 mb w.heap.size n _ _ _ rfl hrg ?_ ?_)
    · intro _ hl0
      go_wp2
      go_ret
      exact ⟨rfl, hfr⟩
    · intro x c w1 cnt1 hwx hwc hlx hat hrg1 hlt hg1 hs1 hen
      have hfr1 : Fr NoB w w1 := hfr.grown hg1 (fun j hj hlt => by cases hj; omega)
      have hc := (h.fr hfr1 (by simp [NoB]) (by simp [NoB])).cells.2.1
      have hms : wr.rangeLeft mb w.heap.size = cnt := hrg.left_eq
      have HM := Lib.hid hms
      clear hms hat
      go_wp2_with (go_at_call 19; refine (tick_no _ _ HNO.out).mono ?_; rintro e w' ⟨rfl, rfl⟩)
      go_roundw
      case rel => exact ⟨_, cnt1, hrg1, hfr1, rfl⟩
      case measure => rw [HM.out, hrg1.left_eq]; exact hlt

theorem len_any {w : World} {b mb : Nat} {room clock : Int} {n : Nat} {es : List (Lit × DataW Unit)} (h : IsC w b mb room clock n (.map es)) (hn : n < maxLen) (now : Int) :
    Calls Try.prog 10 #[.pointer (some ⟨b, 0, none⟩), .int .i64 now] w fun e w' => e = .returned (.int .i64 (lenN clock es now)) ∧ Fr NoB w w' := by
  by_cases ht : 0 ≤ now ∧ now ≤ 1099511627776
  · exact (len_yes h hn now ht.1 ht.2).mono fun _ _ ⟨he, hf⟩ => ⟨by rw [he, lenN, if_pos (tickB_yes ht.1 ht.2)], hf⟩
  · exact (len_no h now ht).mono fun _ _ ⟨he, hf⟩ => ⟨by rw [he, lenN, if_neg (by rw [tickB_no ht]; simp)], hf⟩

end Go.Proofs.Ytkhaeoggchnheaa
