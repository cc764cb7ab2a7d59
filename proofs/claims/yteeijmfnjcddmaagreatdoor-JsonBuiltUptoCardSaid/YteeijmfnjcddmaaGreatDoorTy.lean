/- Package text: joined, FromUnits. -/
import Derived.Test.YteeijmfnjcddmaaGreatDoorTx
import Derived.Laws.Cover4
namespace Go.Proofs.YteeijmfnjcddmaaGreatDoor
open Go.RowKit

/-- The runes of units of sixteen bits, or what is wrong. -/
def joinP : List Int → Except Int (List Int)
  | [] => .ok []
  | n :: r =>
    if n < 0 ∨ 65535 < n then .error 13
    else if 56320 ≤ n ∧ n ≤ 57343 then .error 14
    else if 55296 ≤ n ∧ n ≤ 56319 then
      match r with
      | [] => .error 14
      | m :: r' => if m < 56320 ∨ 57343 < m then .error 14 else
        match joinP r' with
        | .error e => .error e
        | .ok l => .ok ((65536 + (n - 55296) * 1024 + m - 56320) :: l)
    else
      match joinP r with
      | .error e => .error e
      | .ok l => .ok (n :: l)

/-- .. with what is read already. -/
def joinTo (acc : List Int) (r : Except Int (List Int)) : Except Int (List Int) :=
  match r with
  | .error e => .error e
  | .ok l => .ok (acc ++ l)
theorem joinTo_snoc (acc : List Int) (x : Int) (r : Except Int (List Int)) : joinTo acc (joinTo [x] r) = joinTo (acc ++ [x]) r := by
  cases r <;> simp [joinTo]

theorem join_big {n : Int} {r : List Int} (h : n < 0 ∨ 65535 < n) : joinP (n :: r) = .error 13 := by cases r <;> simp [joinP, h]
theorem join_low {n : Int} {r : List Int} (h : 56320 ≤ n ∧ n ≤ 57343) : joinP (n :: r) = .error 14 := by
  have h1 : ¬ (n < 0 ∨ 65535 < n) := by omega
  cases r <;> simp [joinP, h, h1]
theorem join_end {n : Int} (h : 55296 ≤ n ∧ n ≤ 56319) : joinP [n] = .error 14 := by
  have h1 : ¬ (n < 0 ∨ 65535 < n) := by omega
  have h2 : ¬ (56320 ≤ n ∧ n ≤ 57343) := by omega
  simp [joinP, h, h1, h2]
theorem join_half {n m : Int} {r : List Int} (h : 55296 ≤ n ∧ n ≤ 56319) (hm : m < 56320 ∨ 57343 < m) : joinP (n :: m :: r) = .error 14 := by
  have h1 : ¬ (n < 0 ∨ 65535 < n) := by omega
  have h2 : ¬ (56320 ≤ n ∧ n ≤ 57343) := by omega
  simp [joinP, h, h1, h2, hm]
theorem join_pair {n m : Int} {r : List Int} (h : 55296 ≤ n ∧ n ≤ 56319) (hm : 56320 ≤ m ∧ m ≤ 57343) : joinP (n :: m :: r) = joinTo [65536 + (n - 55296) * 1024 + m - 56320] (joinP r) := by
  have h1 : ¬ (n < 0 ∨ 65535 < n) := by omega
  have h2 : ¬ (56320 ≤ n ∧ n ≤ 57343) := by omega
  have h3 : ¬ (m < 56320 ∨ 57343 < m) := by omega
  simp only [joinP, h1, h2, h3, if_false, and_self, h, if_true]
  cases joinP r <;> rfl
theorem join_plain {n : Int} {r : List Int} (h1 : 0 ≤ n) (h2 : n < 55296 ∨ (57343 < n ∧ n ≤ 65535)) : joinP (n :: r) = joinTo [n] (joinP r) := by
  have k1 : ¬ (n < 0 ∨ 65535 < n) := by omega
  have k2 : ¬ (56320 ≤ n ∧ n ≤ 57343) := by omega
  have k3 : ¬ (55296 ≤ n ∧ n ≤ 56319) := by omega
  cases r with
  | nil => simp only [joinP, k1, k2, k3, if_false]; rfl
  | cons m r => simp only [joinP, k1, k2, k3, if_false]; cases joinP (m :: r) <;> rfl

/-- What joined hands back. -/
def JoinedIs (q : Except Int (List Int)) (w : World) (e : Ending) (w' : World) : Prop :=
  match q with
  | .ok l => ∃ v, e = .returned (.tuple #[v, .nilIface]) ∧ w'.ownsRow w.heap.size 21 1 v l.length (l.map (Value.int .i32)) ∧ Fr NoB w w'
  | .error k => ∃ p : Bs, e = .returned (.tuple #[.slice none 0 0, thereV p k]) ∧ Fr NoB w w'

theorem JoinedIs_ok {q : Except Int (List Int)} {l : List Int} {w : World} {e : Ending} {w' : World} (h : q = .ok l) : JoinedIs q w e w' = ∃ v, e = .returned (.tuple #[v, .nilIface]) ∧ w'.ownsRow w.heap.size 21 1 v l.length (l.map (Value.int .i32)) ∧ Fr NoB w w' := by rw [h]; rfl
theorem JoinedIs_error {q : Except Int (List Int)} {k : Int} {w : World} {e : Ending} {w' : World} (h : q = .error k) : JoinedIs q w e w' = ∃ p : Bs, e = .returned (.tuple #[.slice none 0 0, thereV p k]) ∧ Fr NoB w w' := by rw [h]; rfl

set_option maxRecDepth 100000 in
set_option maxHeartbeats 3200000 in
theorem joined_any {B : Nat} (b off cap : Nat) (l : List Int) (w : World) (hx : Cx B w) (hl : l.length ≤ 281474976710) (hb : b < w.heap.size)
    (hc : ∀ (j : Nat) (h : j < l.length), w.cell? ⟨b, off + j, none⟩ = some (.int .i64 l[j])) :
    Calls Tryz.prog 48 #[.slice (some ⟨b, off, none⟩) l.length cap] w fun e w' => JoinedIs (joinP l) w e w' := by
  obtain ⟨i0, hi, hz0, hz1, hz2⟩ := info_parts info_rune
  have HC := Lib.hid hc
  clear hc
  go_enter Tryz.func48, Tryz.ntmps48
  go_wp2
  go_loopw [4, 5] (fun v4 v5 wr => ∃ (k : Nat) (acc : List Int), k ≤ l.length ∧ v5 = .int .i64 k ∧ wr.ownsRow w.heap.size 21 1 v4 acc.length (acc.map (Value.int .i32)) ∧ Fr NoB w wr ∧ Hid (joinTo acc (joinP (l.drop k)) = joinP l) ∧ acc.length ≤ k) (fun _ v5 _ => l.length - (intOf v5).toNat)
  case atStart => exact ⟨0, [], Nat.zero_le _, rfl, World.ownsRow_nil _ _ _ _, Fr.refl _ _, Lib.hid (by simp only [List.drop_zero]; cases joinP l <;> rfl), Nat.le_refl _⟩
  case round =>
    obtain ⟨k, acc, hk, rfl, hown, hfr, HJ, hal⟩ := hrel
    by_cases hlt : k < l.length
    · have hck : wr.cell? ⟨b, off + k, none⟩ = some (.int .i64 l[k]) := (hfr.cell (p := ⟨b, off + k, none⟩) hb (fun e => e)).trans (HC.out k hlt)
      have hdr : l.drop k = l[k] :: l.drop (k + 1) := List.drop_eq_getElem_cons hlt
      rw [hdr] at HJ
      generalize l[k] = n at hck HJ
      clear hdr
      by_cases h1 : n < 0
      · have hf : joinP l = .error 13 := by rw [← HJ.out, join_big (Or.inl h1)]; rfl
        have Hf := Lib.hid hf
        clear hf HJ
        go_wp2_with (go_at_call 73; ((with_reducible refine (at_any (B := B) k 13 _ (hx.fr0 hfr) (by omega) (by omega)).mono ?_); rintro e w2 ⟨rfl, f2⟩))
        go_ret2
        rw [JoinedIs_error Hf.out]
        exact ⟨_, rfl, hfr.trans f2⟩
      by_cases h2 : 65535 < n
      · have hf : joinP l = .error 13 := by rw [← HJ.out, join_big (Or.inr h2)]; rfl
        have Hf := Lib.hid hf
        clear hf HJ
        go_wp2_with (go_at_call 73; ((with_reducible refine (at_any (B := B) k 13 _ (hx.fr0 hfr) (by omega) (by omega)).mono ?_); rintro e w2 ⟨rfl, f2⟩))
        go_ret2
        rw [JoinedIs_error Hf.out]
        exact ⟨_, rfl, hfr.trans f2⟩
      by_cases h3 : 56320 ≤ n ∧ n ≤ 57343
      · have hf : joinP l = .error 14 := by rw [← HJ.out, join_low h3]; rfl
        have hb1 : (n / 1024 == 55) = true := beq_iff_eq.2 (by omega)
        clear h3
        have Hf := Lib.hid hf
        clear hf HJ
        go_wp2_with (go_at_call 73; ((with_reducible refine (at_any (B := B) k 14 _ (hx.fr0 hfr) (by omega) (by omega)).mono ?_); rintro e w2 ⟨rfl, f2⟩))
        go_ret2
        rw [JoinedIs_error Hf.out]
        exact ⟨_, rfl, hfr.trans f2⟩
      have hb1 : (n / 1024 == 55) = false := beq_eq_false_iff_ne.2 (by omega)
      by_cases h4 : 55296 ≤ n ∧ n ≤ 56319
      · have hb2 : (n / 1024 == 54) = true := beq_iff_eq.2 (by omega)
        by_cases h5 : k + 1 < l.length
        · have hb3 : ((k : Int) + 1 == (l.length : Int)) = false := beq_eq_false_iff_ne.2 (by omega)
          have hcm : wr.cell? ⟨b, off + (k + 1), none⟩ = some (.int .i64 l[k + 1]) := (hfr.cell (p := ⟨b, off + (k + 1), none⟩) hb (fun e => e)).trans (HC.out (k + 1) h5)
          have hdr : l.drop (k + 1) = l[k + 1] :: l.drop (k + 1 + 1) := List.drop_eq_getElem_cons h5
          rw [hdr] at HJ
          generalize l[k + 1] = m at hcm HJ
          clear hdr
          by_cases h6 : m < 56320
          · have hf : joinP l = .error 14 := by rw [← HJ.out, join_half h4 (Or.inl h6)]; rfl
            clear h3 h4
            have Hf := Lib.hid hf
            clear hf HJ
            go_wp2_with (go_at_call 73; ((with_reducible refine (at_any (B := B) k 14 _ (hx.fr0 hfr) (by omega) (by omega)).mono ?_); rintro e w2 ⟨rfl, f2⟩))
            go_ret2
            rw [JoinedIs_error Hf.out]
            exact ⟨_, rfl, hfr.trans f2⟩
          by_cases h7 : 57343 < m
          · have hf : joinP l = .error 14 := by rw [← HJ.out, join_half h4 (Or.inr h7)]; rfl
            clear h3 h4
            have Hf := Lib.hid hf
            clear hf HJ
            go_wp2_with (go_at_call 73; ((with_reducible refine (at_any (B := B) k 14 _ (hx.fr0 hfr) (by omega) (by omega)).mono ?_); rintro e w2 ⟨rfl, f2⟩))
            go_ret2
            rw [JoinedIs_error Hf.out]
            exact ⟨_, rfl, hfr.trans f2⟩
          have HJ2 : Hid (joinTo (acc ++ [65536 + (n - 55296) * 1024 + m - 56320]) (joinP (l.drop (k + 2))) = joinP l) := Lib.hid (by rw [← HJ.out, join_pair h4 ⟨by omega, by omega⟩, joinTo_snoc])
          obtain ⟨h41, h42⟩ := h4
          clear HJ h3
          go_wp2_with (at_builtin; refine wpList_append_own _ rfl _ _ 78 rfl w.heap.size 21 i0 (.int .i32 0) 1 4 Tryz.underlying78 hi hz0 hz1 hz2 rfl (by decide) _ _ _ rfl (own_noB hown ((Fr.refl _ _).alloc _)) ⟨wr.heap.size, 0, none⟩ 1 1 [.int .i32 (65536 + (n - 55296) * 1024 + m - 56320)] rfl rfl (cell_one_new _ _ _) (by intro u hu; rw [List.mem_singleton] at hu; subst hu; rfl) (by unfold maxLen; omega) (by omega) (by have := hfr.size; simp; omega) ?_; intro v3 w3 hown3 hgrow3 hnil3)
          go_roundw
          case rel =>
            exact ⟨k + 2, acc ++ [65536 + (n - 55296) * 1024 + m - 56320], by omega, by go_num, by simpa using hown3, Fr.grown (hfr.alloc _) hgrow3 (fun j hj hlt => by have := (hown.lt j hj).1; omega), HJ2, by simp; omega⟩
          case measure => simp [intOf]; omega
        · have hf : joinP l = .error 14 := by
            rw [← HJ.out, List.drop_eq_nil_of_le (by omega), join_end h4]; rfl
          have hb3 : ((k : Int) + 1 == (l.length : Int)) = true := beq_iff_eq.2 (by omega)
          clear h3 h4
          have Hf := Lib.hid hf
          clear hf HJ
          go_wp2_with (go_at_call 73; ((with_reducible refine (at_any (B := B) k 14 _ (hx.fr0 hfr) (by omega) (by omega)).mono ?_); rintro e w2 ⟨rfl, f2⟩))
          go_ret2
          rw [JoinedIs_error Hf.out]
          exact ⟨_, rfl, hfr.trans f2⟩
      have hb2 : (n / 1024 == 54) = false := beq_eq_false_iff_ne.2 (by omega)
      have HJ2 : Hid (joinTo (acc ++ [n]) (joinP (l.drop (k + 1))) = joinP l) := Lib.hid (by rw [← HJ.out, join_plain (by omega) (by omega), joinTo_snoc])
      clear HJ h3 h4
      go_wp2_with (at_builtin; refine wpList_append_own _ rfl _ _ 78 rfl w.heap.size 21 i0 (.int .i32 0) 1 4 Tryz.underlying78 hi hz0 hz1 hz2 rfl (by decide) _ _ _ rfl (own_noB hown ((Fr.refl _ _).alloc _)) ⟨wr.heap.size, 0, none⟩ 1 1 [.int .i32 (n)] rfl rfl (cell_one_new _ _ _) (by intro u hu; rw [List.mem_singleton] at hu; subst hu; rfl) (by unfold maxLen; omega) (by omega) (by have := hfr.size; simp; omega) ?_; intro v3 w3 hown3 hgrow3 hnil3)
      go_roundw
      case rel =>
        exact ⟨k + 1, acc ++ [n], by omega, by go_num, by simpa using hown3, Fr.grown (hfr.alloc _) hgrow3 (fun j hj hlt => by have := (hown.lt j hj).1; omega), HJ2, by simp; omega⟩
      case measure => simp [intOf]; omega
    · obtain rfl : k = l.length := by omega
      have hf : joinP l = .ok acc := by rw [← HJ.out, List.drop_length]; simp [joinP, joinTo]
      have Hf := Lib.hid hf
      clear hf HJ
      go_wp2_with fail
      go_ret2
      rw [JoinedIs_ok Hf.out]
      exact ⟨_, rfl, hown, hfr⟩
end Go.Proofs.YteeijmfnjcddmaaGreatDoor
