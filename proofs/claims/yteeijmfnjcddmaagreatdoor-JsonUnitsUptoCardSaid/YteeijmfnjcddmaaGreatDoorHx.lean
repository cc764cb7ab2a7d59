/- text.Hex. -/
import Derived.Test.YteeijmfnjcddmaaGreatDoorBd
import Derived.Test.YteeijmfnjcddmaaGreatDoorUn
namespace Go.Proofs.YteeijmfnjcddmaaGreatDoor
open Go.RowKit

/-- A byte, in base sixteen. -/
def hexC (c : UInt8) : Bs := [hexU (c.toNat / 16), hexU (c.toNat % 16)]
theorem hexU_get (i : Nat) (h : i < 16) : ((⟨#[48, 49, 50, 51, 52, 53, 54, 55, 56, 57, 97, 98, 99, 100, 101, 102]⟩ : ByteArray)[i]'h) = hexU i := by
  have : ∀ i : Fin 16, ((⟨#[48, 49, 50, 51, 52, 53, 54, 55, 56, 57, 97, 98, 99, 100, 101, 102]⟩ : ByteArray)[i.val]'i.isLt) = hexU i.val := by decide
  exact this ⟨i, h⟩
theorem hex_take (s : Bs) (m : Nat) (h : m < s.length) : (s.take (m + 1)).flatMap hexC = (s.take m).flatMap hexC ++ hexC s[m] := by
  rw [List.take_succ_eq_append_getElem h, List.flatMap_append]; simp
theorem hex_len (s : Bs) : (s.flatMap hexC).length = 2 * s.length := by
  induction s with
  | nil => rfl
  | cons c r ih => rw [List.flatMap_cons, List.length_append, ih, List.length_cons]; simp [hexC]; omega

set_option maxRecDepth 100000 in
set_option maxHeartbeats 3200000 in
theorem hex_any (s : Bs) (w : World) (hl : s.length ≤ 4398046511104) : Calls Tryz.prog 28 #[.string ⟨s.toArray⟩] w fun e w' => e = .returned (.string ⟨(s.flatMap hexC).toArray⟩) ∧ Fr NoB w w' := by
  have hb0 := Bd.new w
  have f0 : Fr (From w.heap.size) w (w.alloc (.cells #[.pointer none, .slice none 0 0] 60)) := (Fr.refl _ _).alloc _
  generalize hW : w.alloc (.cells #[.pointer none, .slice none 0 0] 60) = W at *
  have HW := Lib.hid hW
  clear hW
  have hWs : w.heap.size ≤ W.heap.size := f0.size
  go_enter Tryz.func28, Tryz.ntmps28
  go_wp2_with (rw [HW.out])
  go_loopw [4] (fun v wr => ∃ m : Nat, m ≤ s.length ∧ v = .int .i64 m ∧ Bd wr w.heap.size w.heap.size ((s.take m).flatMap hexC) ∧ Fr (From w.heap.size) w wr) (fun v _ => s.length - (intOf v).toNat)
  case atStart => exact ⟨0, Nat.zero_le _, rfl, by simpa using hb0, f0⟩
  case round =>
    obtain ⟨m, hm, rfl, hbd, hf⟩ := hrel
    have hsz : (⟨s.toArray⟩ : ByteArray).size = s.length := rfl
    by_cases hlt : m < s.length
    · have k1 : (0 : Int) ≤ m := by omega
      have k2 : (m : Int) < s.length := by omega
      have hg := get_list s m hlt
      have hws := hf.size
      have htk := hex_take s m hlt
      generalize s[m] = c at *
      have hc := c.toNat_lt
      obtain ⟨hi, hhi⟩ : ∃ x, x = c.toNat / 16 := ⟨_, rfl⟩
      obtain ⟨lo, hlo⟩ : ∃ x, x = c.toNat % 16 := ⟨_, rfl⟩
      have i1 : hi < 16 := by omega
      have i2 : lo < 16 := by omega
      have e1 : (c.toNat : Int) / 16 = (hi : Int) := by omega
      have e2 : (c.toNat : Int) % 16 = (lo : Int) := by omega
      have i3 : (hi : Int) < 16 := by omega
      have i4 : (lo : Int) < 16 := by omega
      have i5 : (0 : Int) ≤ hi := by omega
      have i6 : (0 : Int) ≤ lo := by omega
      have x1 := hexU_get hi i1
      have x2 := hexU_get lo i2
      have hlen := hex_len (s.take m)
      rw [List.length_take, Nat.min_eq_left (by omega)] at hlen
      have HT : Hid ((s.take (m + 1)).flatMap hexC = (s.take m).flatMap hexC ++ [hexU hi] ++ [hexU lo]) := Lib.hid (by rw [htk, hexC, ← hhi, ← hlo]; simp)
      have HHI := Lib.hid hhi
      have HLO := Lib.hid hlo
      clear hhi hlo htk hc
      generalize hexU hi = d1 at *
      generalize hexU lo = d2 at *
      generalize (s.take m).flatMap hexC = L at *
      go_wp2_with (first | (go_at_call 45; first | ((with_reducible refine (writeByte_any w.heap.size w.heap.size L d1 _ hbd (by omega) (by omega)).mono ?_); rintro e w1 ⟨rfl, b1, f1, _⟩; have hs1 := f1.size) | ((with_reducible refine (writeByte_any w.heap.size w.heap.size (L ++ [d1]) d2 _ b1 (by rw [List.length_append]; simp; omega) (by omega)).mono ?_); rintro e w2 ⟨rfl, b2, f2, _⟩)))
      go_roundw
      case rel => exact ⟨m + 1, by omega, by simp, by rw [HT.out]; exact b2, (hf.trans f1).trans f2⟩
      case measure => simp [intOf]; omega
    · obtain rfl : m = s.length := by omega
      rw [List.take_length] at hbd
      go_wp2_with (go_at_call 36; ((with_reducible refine (bstring_any w.heap.size w.heap.size _ _ hbd hf.size).mono ?_); rintro e w1 ⟨rfl, b1, f1, _⟩))
      go_ret
      exact ⟨rfl, (hf.trans f1).mono (fun k hk e => absurd (show w.heap.size ≤ k from e) (by omega))⟩
end Go.Proofs.YteeijmfnjcddmaaGreatDoor
