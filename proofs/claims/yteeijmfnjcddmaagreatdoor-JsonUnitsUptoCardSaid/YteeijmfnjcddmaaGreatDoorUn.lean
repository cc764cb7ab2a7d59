/- Units of sixteen bits: a text that is written by its units alone. Plain, no program's walk. -/
import Derived.Test.YteeijmfnjcddmaaGreatDoorTx
import Derived.Lib.MapLaws
import Derived.Lib.QuoteLoop
namespace Go.Proofs.YteeijmfnjcddmaaGreatDoor
open Go.RowKit

/-- May a number be a rune? -/
def RuneOk (n : Int) : Prop := (0 ≤ n ∧ n < 55296) ∨ (57343 < n ∧ n ≤ 1114111)

theorem u8n {m : Nat} (h : m < 256) : m.toUInt8.toNat = m := by simp [Nat.toUInt8, UInt8.toNat_ofNat', Nat.mod_eq_of_lt h]
theorem dec_enc {n : Int} (h : RuneOk n) (x : Bs) : Lib.decodeL (Lib.encodeRune n ++ x) = (n.toNat, (Lib.encodeRune n).length) := by
  unfold RuneOk at h
  obtain ⟨m, rfl⟩ : ∃ m : Nat, n = m := ⟨n.toNat, by omega⟩
  rw [Lib.decodeL_N]
  by_cases h1 : (m : Int) ≤ 127
  · have e : Lib.encodeRune (m : Int) = [m.toUInt8] := by unfold Lib.encodeRune; rw [Lib.encodeRuneZ_one (by omega) h1]; rfl
    rw [e]
    simp only [List.cons_append, List.nil_append, List.getD_cons_zero, List.length_cons, List.length_nil]
    rw [u8n (by omega)]
    unfold Lib.decodeN
    rw [if_pos (by omega)]
    simp
  · by_cases h2 : (m : Int) ≤ 2047
    · have e : Lib.encodeRune (m : Int) = [(192 + m / 64).toUInt8, (128 + m % 64).toUInt8] := by
        unfold Lib.encodeRune; rw [Lib.encodeRuneZ_two (by omega) h2]
        simp only [List.map_cons, List.map_nil]
        rw [show ((192 : Int) + m / 64).toNat = 192 + m / 64 by omega, show ((128 : Int) + m % 64).toNat = 128 + m % 64 by omega]
      rw [e]
      simp only [List.cons_append, List.nil_append, List.getD_cons_zero, List.getD_cons_succ, List.length_cons, List.length_nil]
      rw [u8n (by omega), u8n (by omega)]
      unfold Lib.decodeN
      rw [if_neg (by omega), if_pos (by omega), if_pos (by omega)]
      simp; omega
    · by_cases h3 : (m : Int) ≤ 65535
      · have e : Lib.encodeRune (m : Int) = [(224 + m / 4096).toUInt8, (128 + m / 64 % 64).toUInt8, (128 + m % 64).toUInt8] := by
          unfold Lib.encodeRune; rw [Lib.encodeRuneZ_three (by omega)]
          simp only [List.map_cons, List.map_nil]
          rw [show ((224 : Int) + m / 4096).toNat = 224 + m / 4096 by omega, show ((128 : Int) + m / 64 % 64).toNat = 128 + m / 64 % 64 by omega, show ((128 : Int) + m % 64).toNat = 128 + m % 64 by omega]
        rw [e]
        simp only [List.cons_append, List.nil_append, List.getD_cons_zero, List.getD_cons_succ, List.length_cons, List.length_nil]
        rw [u8n (by omega), u8n (by omega), u8n (by omega)]
        unfold Lib.decodeN
        rw [if_neg (by omega), if_neg (by omega), if_pos (by omega), if_pos (by omega)]
        simp; omega
      · have e : Lib.encodeRune (m : Int) = [(240 + m / 262144).toUInt8, (128 + m / 4096 % 64).toUInt8, (128 + m / 64 % 64).toUInt8, (128 + m % 64).toUInt8] := by
          unfold Lib.encodeRune; rw [Lib.encodeRuneZ_four (by omega) (by omega)]
          simp only [List.map_cons, List.map_nil]
          rw [show ((240 : Int) + m / 262144).toNat = 240 + m / 262144 by omega, show ((128 : Int) + m / 4096 % 64).toNat = 128 + m / 4096 % 64 by omega, show ((128 : Int) + m / 64 % 64).toNat = 128 + m / 64 % 64 by omega, show ((128 : Int) + m % 64).toNat = 128 + m % 64 by omega]
        rw [e]
        simp only [List.cons_append, List.nil_append, List.getD_cons_zero, List.getD_cons_succ, List.length_cons, List.length_nil]
        rw [u8n (by omega), u8n (by omega), u8n (by omega), u8n (by omega)]
        unfold Lib.decodeN
        rw [if_neg (by omega), if_neg (by omega), if_neg (by omega), if_pos (by omega), if_pos (by omega)]
        simp; omega
theorem enc_ne (n : Int) : Lib.encodeRune n ≠ [] := fun h => by
  have := Lib.encodeRuneZ_length n
  have h2 := congrArg List.length h
  unfold Lib.encodeRune at h2
  rw [List.length_map] at h2
  simp at h2
  rw [h2] at this
  simp at this
theorem enc_len (n : Int) : 1 ≤ (Lib.encodeRune n).length ∧ (Lib.encodeRune n).length ≤ 4 := by
  have := Lib.encodeRuneZ_length n
  unfold Lib.encodeRune
  rwa [List.length_map]
theorem enc_three {n : Int} (h : n = 65533) : (Lib.encodeRune n).length = 3 := by subst h; rfl
theorem valid_enc {n : Int} (h : RuneOk n) (x : Bs) : Lib.validD (Lib.encodeRune n ++ x) = Lib.validD x := by
  have hd := dec_enc h x
  rw [Lib.validD_step _ (by simp [enc_ne]), hd]
  rw [if_neg, List.drop_left]
  rintro ⟨h1, h2⟩
  unfold RuneOk at h
  have := enc_three (n := n) (by simp at h1; omega)
  simp at h2
  omega
theorem valid_encs : ∀ l : List Int, (∀ n ∈ l, RuneOk n) → Lib.validD (encsP l) = true
  | [], _ => rfl
  | n :: r, h => by
    have ih := valid_encs r (fun m hm => h m (List.mem_cons_of_mem _ hm))
    rw [show encsP (n :: r) = Lib.encodeRune n ++ encsP r from rfl, valid_enc (h n (List.mem_cons_self ..)), ih]
/-- What is joined are runes. -/
theorem join_ok : ∀ (k : Nat) (l : List Int) (rs : List Int), l.length ≤ k → joinP l = .ok rs → ∀ n ∈ rs, RuneOk n
  | _, [], rs, _, h => by
    simp only [joinP, Except.ok.injEq] at h
    subst h; simp
  | 0, _ :: _, _, hk, _ => by simp at hk
  | k + 1, n :: r, rs, hk, h => by
    simp only [List.length_cons] at hk
    by_cases h1 : n < 0 ∨ 65535 < n
    · rw [join_big h1] at h; cases h
    · by_cases h2 : 56320 ≤ n ∧ n ≤ 57343
      · rw [join_low h2] at h; cases h
      · by_cases h3 : 55296 ≤ n ∧ n ≤ 56319
        · cases r with
          | nil => rw [join_end h3] at h; cases h
          | cons m r' =>
            simp only [List.length_cons] at hk
            by_cases h4 : m < 56320 ∨ 57343 < m
            · rw [join_half h3 h4] at h; cases h
            · rw [join_pair h3 (by omega)] at h
              cases hj : joinP r' with
              | error e => rw [hj] at h; simp [joinTo] at h
              | ok l =>
                rw [hj] at h
                simp only [joinTo, Except.ok.injEq, List.cons_append, List.nil_append] at h
                subst h
                have ih := join_ok k r' l (by omega) hj
                intro x hx
                rcases List.mem_cons.1 hx with rfl | hx
                · unfold RuneOk; omega
                · exact ih x hx
        · rw [join_plain (by omega) (by omega)] at h
          cases hj : joinP r with
          | error e => rw [hj] at h; simp [joinTo] at h
          | ok l =>
            rw [hj] at h
            simp only [joinTo, Except.ok.injEq, List.cons_append, List.nil_append] at h
            subst h
            have ih := join_ok k r l (by omega) hj
            intro x hx
            rcases List.mem_cons.1 hx with rfl | hx
            · unfold RuneOk; omega
            · exact ih x hx

/-- The units of a rune. -/
def unitsR (n : Nat) : List Int := if 65536 ≤ n then [55296 + ((n : Int) - 65536) / 1024, 56320 + ((n : Int) - 65536) % 1024] else [(n : Int)]
/-- Those of a text's runes. -/
def unitsP (s : Bs) : List Int := (runesP s).flatMap unitsR
theorem unitsR_join {n : Nat} (h : n < 55296 ∨ (57343 < n ∧ n ≤ 1114111)) (r : List Int) : joinP (unitsR n ++ r) = joinTo [(n : Int)] (joinP r) := by
  unfold unitsR
  split
  · rw [List.cons_append, List.cons_append, List.nil_append, join_pair (by omega) (by omega)]
    congr 2
    omega
  · rw [List.cons_append, List.nil_append, join_plain (by omega) (by omega)]
theorem units_join : ∀ l : List Nat, (∀ n ∈ l, n < 55296 ∨ (57343 < n ∧ n ≤ 1114111)) → joinP (l.flatMap unitsR) = .ok (l.map fun (n : Nat) => (n : Int))
  | [], _ => rfl
  | n :: r, h => by
    have ih := units_join r (fun m hm => h m (List.mem_cons_of_mem _ hm))
    rw [List.flatMap_cons, unitsR_join (h n (List.mem_cons_self ..)), ih]
    rfl
theorem runes_ok : ∀ (k : Nat) (s : Bs), s.length ≤ k → ∀ n ∈ runesP s, n < 55296 ∨ (57343 < n ∧ n ≤ 1114111)
  | k, s, hk, n, hn => by
    by_cases hs : s = []
    · subst hs; simp [runesP, runesGo] at hn
    · rw [runesP_step hs] at hn
      have hw := Lib.decodeL_width s
      have hl : 0 < s.length := List.length_pos_iff.2 hs
      rcases List.mem_cons.1 hn with rfl | hn
      · rw [Lib.decodeL_N]
        exact Lib.decodeN_valid _ _ _ _ _ (UInt8.toNat_lt _)
      · match k, hk with
        | 0, hk => omega
        | k + 1, hk => exact runes_ok k (s.drop (Lib.decodeL s).2) (by rw [List.length_drop]; omega) n hn
/-- A text's runes, encoded, are the text. -/
theorem encs_runes : ∀ (k : Nat) (s : Bs), s.length ≤ k → Lib.validD s = true → encsP ((runesP s).map fun (n : Nat) => (n : Int)) = s
  | k, s, hk, hv => by
    by_cases hs : s = []
    · subst hs; rfl
    · have hw := Lib.decodeL_width s
      have hl : 0 < s.length := List.length_pos_iff.2 hs
      have hb : ¬ ((Lib.decodeL s).1 = 65533 ∧ (Lib.decodeL s).2 = 1) := fun h => by
        rw [Lib.validD_step s hs, if_pos h] at hv; cases hv
      match k, hk with
      | 0, hk => omega
      | k + 1, hk =>
        have ih := encs_runes k (s.drop (Lib.decodeL s).2) (by rw [List.length_drop]; omega) (by rw [← valid_drop hs hb]; exact hv)
        rw [runesP_step hs, List.map_cons]
        rw [show ∀ (a : Int) (l : List Int), encsP (a :: l) = Lib.encodeRune a ++ encsP l from fun _ _ => rfl, ih, Lib.encode_decode s hs hb, List.take_append_drop]
/-- The units of a text that is UTF-8 are joined to it. -/
theorem units_back {s : Bs} (hv : Lib.validD s = true) : ∃ rs, joinP (unitsP s) = .ok rs ∧ encsP rs = s :=
  ⟨_, units_join _ (runes_ok _ s (Nat.le_refl _)), encs_runes _ s (Nat.le_refl _) hv⟩
/-- The digit of base sixteen. -/
def hexU (n : Nat) : UInt8 := ([48, 49, 50, 51, 52, 53, 54, 55, 56, 57, 97, 98, 99, 100, 101, 102] : Bs).getD n 0
theorem hexV_hexD : ∀ n : Fin 16, hexV (hexU n.val) = n.val := by decide
/-- A unit, written by its digits. -/
def unitH (n : Int) : Bs := [92, 117, hexU (n.toNat / 4096 % 16), hexU (n.toNat / 256 % 16), hexU (n.toNat / 16 % 16), hexU (n.toNat % 16)]
/-- A text, written by its units alone. -/
def quoteU (l : List Int) : Bs := 34 :: (l.flatMap unitH ++ [34])
theorem hexV_at (m : Nat) : hexV (hexU (m % 16)) = m % 16 := hexV_hexD ⟨m % 16, Nat.mod_lt _ (by omega)⟩
theorem unitP_unitH {n : Int} (h0 : 0 ≤ n) (h1 : n ≤ 65535) (r : Bs) : unitP (unitH n ++ r) = some (n.toNat, r) := by
  unfold unitH unitP
  simp only [List.cons_append, List.nil_append, hexV_at]
  rw [if_pos ⟨trivial, trivial, by omega, by omega, by omega, by omega⟩]
  congr 2
  omega
theorem escP_unitH (n : Int) (r : Bs) : escP (unitH n ++ r) = escU (unitH n ++ r) := by
  unfold unitH
  simp only [List.cons_append, List.nil_append, escP]
  rw [if_neg (by decide)]
theorem strP_unit {f : Nat} {n : Int} {r acc : Bs} : strP (f + 1) (unitH n ++ r) acc = (match escU (unitH n ++ r) with | none => none | some (b, r') => strP f r' (acc ++ b)) := by
  rw [← escP_unitH]
  conv => lhs; unfold unitH
  simp only [List.cons_append, List.nil_append]
  rw [strP]
  rw [if_neg (by decide), if_neg (by decide), if_pos rfl]
  rfl
theorem unitP_end : unitP [34] = none := rfl
theorem strP_units : ∀ (k : Nat) (l : List Int) (f : Nat) (acc : Bs), l.length ≤ k → (∀ n ∈ l, 0 ≤ n ∧ n ≤ 65535) → l.length < f →
    strP f (l.flatMap unitH ++ [34]) acc = (match joinP l with | .ok rs => if Lib.validD (acc ++ encsP rs) then some (acc ++ encsP rs, []) else none | .error _ => none)
  | k, [], f, acc, _, _, hf => by
    obtain ⟨f', rfl⟩ : ∃ f', f = f' + 1 := ⟨f - 1, by simp at hf; omega⟩
    simp only [List.flatMap_nil, List.nil_append, joinP]
    rw [strP, if_neg (by decide), if_pos rfl]
    simp [encsP, blanks, Lib.trimLeftS]
  | 0, _ :: _, _, _, hk, _, _ => by simp at hk
  | k + 1, n :: r, f, acc, hk, hl, hf => by
    simp only [List.length_cons] at hk hf
    obtain ⟨f', rfl⟩ : ∃ f', f = f' + 1 := ⟨f - 1, by omega⟩
    obtain ⟨hn0, hn1⟩ := hl n (List.mem_cons_self ..)
    have hr : ∀ m ∈ r, 0 ≤ m ∧ m ≤ 65535 := fun m hm => hl m (List.mem_cons_of_mem _ hm)
    rw [List.flatMap_cons, List.append_assoc, strP_unit]
    unfold escU
    rw [unitP_unitH hn0 hn1]
    simp only
    by_cases h2 : 56320 ≤ n ∧ n ≤ 57343
    · rw [if_neg (by omega), if_pos (by omega), join_low h2]
    · by_cases h3 : 55296 ≤ n ∧ n ≤ 56319
      · rw [if_pos (by omega)]
        cases r with
        | nil => rw [join_end h3]; rfl
        | cons m r' =>
          simp only [List.length_cons] at hk hf
          obtain ⟨hm0, hm1⟩ := hr m (List.mem_cons_self ..)
          rw [List.flatMap_cons, List.append_assoc, unitP_unitH hm0 hm1]
          simp only
          by_cases h4 : m < 56320 ∨ 57343 < m
          · rw [if_neg (by omega), join_half h3 h4]
          · rw [if_pos (by omega), join_pair h3 (by omega)]
            simp only
            rw [strP_units k r' f' _ (by omega) (fun x hx => hr x (List.mem_cons_of_mem _ hx)) (by omega)]
            have e : (((65536 + (n.toNat - 55296) * 1024 + (m.toNat - 56320) : Nat) : Int)) = 65536 + (n - 55296) * 1024 + m - 56320 := by omega
            rw [e]
            cases hj : joinP r' with
            | error x => rfl
            | ok rs =>
              simp only [joinTo, List.cons_append, List.nil_append]
              rw [show ∀ (a : Int) (l : List Int), encsP (a :: l) = Lib.encodeRune a ++ encsP l from fun _ _ => rfl, List.append_assoc]
      · rw [if_neg (by omega), if_neg (by omega), join_plain (by omega) (by omega)]
        simp only
        rw [strP_units k r f' _ (by omega) hr (by omega)]
        have e : ((n.toNat : Nat) : Int) = n := by omega
        rw [e]
        cases hj : joinP r with
        | error x => rfl
        | ok rs =>
          simp only [joinTo, List.cons_append, List.nil_append]
          rw [show ∀ (a : Int) (l : List Int), encsP (a :: l) = Lib.encodeRune a ++ encsP l from fun _ _ => rfl, List.append_assoc]
theorem unitH_len (l : List Int) : (l.flatMap unitH).length = 6 * l.length := by
  induction l with
  | nil => rfl
  | cons n r ih => rw [List.flatMap_cons, List.length_append, ih, List.length_cons]; simp [unitH]; omega
theorem parse_units {l : List Int} (hl : ∀ n ∈ l, 0 ≤ n ∧ n ≤ 65535) (hk : l.length ≤ 10000) :
    parseP (quoteU l) = (match joinP l with | .ok rs => .ok (.mk 4 0 (encsP rs) [] []) | .error _ => .error 90) := by
  have hlen : (quoteU l).length = 6 * l.length + 2 := by
    unfold quoteU
    rw [List.length_cons, List.length_append, unitH_len]
    rfl
  unfold parseP
  rw [if_neg (by omega)]
  have hb : blanks (quoteU l) = quoteU l := by
    unfold quoteU blanks Lib.trimLeftS
    rw [List.dropWhile_cons_of_neg (by decide)]
  have hv : valueP 32 (quoteU l) = (match textP (quoteU l) with | none => .error 90 | some (t, r) => .ok (.mk 4 0 t [] [], r)) := rfl
  have ht : textP (quoteU l) = strP (quoteU l).length (l.flatMap unitH ++ [34]) [] := by
    conv => lhs; unfold quoteU textP
    simp only
    rw [if_pos trivial]
    rfl
  rw [hb, hv, ht, strP_units l.length l _ [] (Nat.le_refl _) hl (by omega)]
  cases hj : joinP l with
  | error x => rfl
  | ok rs =>
    simp only [List.nil_append]
    rw [if_pos (valid_encs rs (join_ok _ l rs (Nat.le_refl _) hj))]
    rfl
end Go.Proofs.YteeijmfnjcddmaaGreatDoor
