/- The replay cache: Has. -/
import Derived.Test.YtkhaeoggchnheaaCacheA
namespace Go.Proofs.Ytkhaeoggchnheaa
open Go.RowKit Go.Maps Go.WideMaps

/-- A cache lies at block b, its map at block mb. -/
structure IsC (w : World) (b mb : Nat) (room clock : Int) (n : Nat) (D : DataW Unit) : Prop where
  blk : Blk w b 48 #[.int .i64 room, .int .i64 clock, .map (some mb)]
  own : w.ownsMap Try.prog 9 (plainElem Try.prog 3) mb n D
  ne : b ≠ mb

theorem IsC.drewN {w : World} {b mb : Nat} {room clock : Int} {n : Nat} {D : DataW Unit} (h : IsC w b mb room clock n D) (k : Nat) : IsC (w.drewN k) b mb room clock n D := ⟨h.blk.drewN k, h.own, h.ne⟩
theorem IsC.fr {w w' : World} {S : Nat → Prop} {b mb : Nat} {room clock : Int} {n : Nat} {D : DataW Unit} (h : IsC w b mb room clock n D) (f : Fr S w w') (hb : ¬ S b) (hm : ¬ S mb) : IsC w' b mb room clock n D := ⟨f.blk h.blk hb, f.map h.own hm, h.ne⟩

/-- Has's answer. -/
def hasB (clock : Int) (D : DataW Unit) (s : List UInt8) (now : Int) : Bool := tickB now && decide (max now clock < valAt D s)

theorem has_look {w : World} {b mb : Nat} {room clock : Int} {n : Nat} {D : DataW Unit} (h : IsC w b mb room clock n D) (s : ByteArray) (hs : s.size ≤ maxLen) :
    ∃ c : Int, (∀ nq, (Instr.lookup 28 (.map (some mb)) (.string s) false).run Try.prog (w.drewN nq) = .ok (.int .i64 c) (w.drewN nq)) ∧ valAt D s.data.toList = c ∧ (Lit.int .i64 c).wf = true := by
  obtain ⟨c, _, hat, hw⟩ := h.own.lookup_int lawS Try.underlying28 Try.underlying3 (zeroI _) (keyOf_string_mk Try.underlying9 hs)
  refine ⟨c, fun nq => ?_, ?_, hw⟩
  · obtain ⟨c', hr', hat', _⟩ := (h.drewN nq).own.lookup_int lawS Try.underlying28 Try.underlying3 (zeroI _) (keyOf_string_mk Try.underlying9 hs)
    rw [hat] at hat'
    injection hat' with e1
    injection e1 with e2 e3
    subst e3
    exact hr'
  · simp only [valAt, hat, num]

set_option maxHeartbeats 400000 in
theorem has_any {w : World} {b mb : Nat} {room clock : Int} {n : Nat} {D : DataW Unit} (h : IsC w b mb room clock n D) (s : ByteArray) (hs : s.size ≤ maxLen) (now : Int) :
    Calls Try.prog 9 #[.pointer (some ⟨b, 0, none⟩), .string s, .int .i64 now] w fun e w' => e = .returned (.bool (hasB clock D s.data.toList now)) ∧ ∃ k, w' = w.drewN k := by
  obtain ⟨c, hl, hv, hw⟩ := has_look h s hs
  have c1 := h.blk.cell 1
  have c2 := h.blk.cell 2
  simp at c1 c2
  have HV := Lib.hid hv
  clear hv hw h
  by_cases ht : 0 ≤ now ∧ now ≤ 1099511627776
  · obtain ⟨h0, h1⟩ := ht
    have tb := Lib.hid (tickB_yes h0 h1)
    go_enter Try.func9, Try.ntmps9
    go_wp2_with fail
    go_quiet ((go_at_call 19; exact quiet_id (tick_yes _ _ h0 h1)))
    go_wp2_with fail
    all_goals
      go_ret
      refine ⟨?_, _, rfl⟩
      rw [hasB, tb.out, HV.out]
      first | (rw [Int.max_eq_right (by omega)]; rfl) | (rw [Int.max_eq_left (by omega)]; rfl)
  · have tb := Lib.hid (tickB_no ht)
    have HT := Lib.hid ht
    clear ht
    go_enter Try.func9, Try.ntmps9
    go_wp2_with fail
    go_quiet ((go_at_call 19; exact quiet_id (tick_no _ _ HT.out)))
    go_wp2_with fail
    go_ret
    refine ⟨?_, _, rfl⟩
    rw [hasB, tb.out]
    rfl

end Go.Proofs.Ytkhaeoggchnheaa
