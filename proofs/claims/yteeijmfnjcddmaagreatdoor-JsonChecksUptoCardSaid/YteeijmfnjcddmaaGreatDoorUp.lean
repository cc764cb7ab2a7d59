/- The document's runes (layer 1), plain: the rune that bytes begin with is the decoder's. No program. -/
import Derived.Test.YteeijmfnjcddmaaGreatDoorJl
import Derived.Lib.TrimUEq
import Derived.Lib.MapLaws
namespace Go.Proofs.YteeijmfnjcddmaaGreatDoor

/-- A number's bytes as a rune. -/
def runeP (n : Nat) : Bs :=
  if n < 128 then [n.toUInt8] else if n < 2048 then [(192 + n / 64).toUInt8, (128 + n % 64).toUInt8]
  else if n < 65536 then [(224 + n / 4096).toUInt8, (128 + n / 64 % 64).toUInt8, (128 + n % 64).toUInt8]
  else [(240 + n / 262144).toUInt8, (128 + n / 4096 % 64).toUInt8, (128 + n / 64 % 64).toUInt8, (128 + n % 64).toUInt8]
def mayP (n : Nat) : Bool := decide (n ≤ 1114111) && (decide (n < 55296) || decide (57343 < n))
def bAt (s : Bs) (i : Nat) : Nat := (s.getD i 0).toNat
/-- The number that so many bytes would say. -/
def candP (s : Bs) (k : Nat) : Nat :=
  if k = 1 then bAt s 0 else if k = 2 then bAt s 0 % 32 * 64 + bAt s 1 % 64 else if k = 3 then bAt s 0 % 16 * 4096 + bAt s 1 % 64 * 64 + bAt s 2 % 64
  else bAt s 0 % 8 * 262144 + bAt s 1 % 64 * 4096 + bAt s 2 % 64 * 64 + bAt s 3 % 64
def fitP (s : Bs) (k : Nat) : Bool := mayP (candP s k) && (runeP (candP s k) == s.take k)
/-- From k bytes on. -/
def firstGo (s : Bs) : Nat → Nat → Nat × Nat
  | 0, _ => (0, 0)
  | f + 1, k => if 4 < k ∨ s.length < k then (0, 0) else if fitP s k then (candP s k, k) else firstGo s f (k + 1)
def firstP (s : Bs) : Nat × Nat := firstGo s 4 1

theorem toU8_iff {m : Nat} {x : UInt8} (h : m < 256) : m.toUInt8 = x ↔ m = x.toNat := by
  rw [← UInt8.toNat_inj]
  simp [Nat.toUInt8, UInt8.toNat_ofNat', Nat.mod_eq_of_lt h]
theorem fit1 {s : Bs} (h : 1 ≤ s.length) : fitP s 1 = decide (bAt s 0 < 128) := by
  match s, h with
  | x :: r, _ =>
    have hx := x.toNat_lt
    simp only [fitP, candP, bAt, if_true, List.getD_cons_zero, List.take_succ_cons, List.take_zero]
    by_cases c : x.toNat < 128
    · simp [runeP, mayP, c, show x.toNat ≤ 1114111 by omega, show x.toNat < 55296 by omega]
    · simp [runeP, c, show x.toNat < 2048 by omega]
theorem fit2 {s : Bs} (h : 2 ≤ s.length) : fitP s 2 = true ↔ bAt s 0 / 32 = 6 ∧ bAt s 1 / 64 = 2 ∧ 128 ≤ bAt s 0 % 32 * 64 + bAt s 1 % 64 := by
  match s, h with
  | x :: y :: r, _ =>
    have hx := x.toNat_lt
    have hy := y.toNat_lt
    simp only [fitP, candP, bAt, List.getD_cons_zero, List.getD_cons_succ, List.take_succ_cons, List.take_zero, if_neg (show ¬ (2 : Nat) = 1 by omega), if_true]
    generalize hn : x.toNat % 32 * 64 + y.toNat % 64 = n
    have h1 : n < 2048 := by omega
    simp only [mayP, runeP, Bool.and_eq_true, Bool.or_eq_true, decide_eq_true_eq, beq_iff_eq]
    by_cases c : n < 128
    · rw [if_pos c]
      simp
      omega
    · rw [if_neg c, if_pos h1]
      simp only [List.cons.injEq, and_true]
      rw [toU8_iff (by omega), toU8_iff (by omega)]
      omega
theorem fit3 {s : Bs} (h : 3 ≤ s.length) : fitP s 3 = true ↔ bAt s 0 / 16 = 14 ∧ bAt s 1 / 64 = 2 ∧ bAt s 2 / 64 = 2 ∧ 2048 ≤ bAt s 0 % 16 * 4096 + bAt s 1 % 64 * 64 + bAt s 2 % 64 ∧ (bAt s 0 % 16 * 4096 + bAt s 1 % 64 * 64 + bAt s 2 % 64 < 55296 ∨ 57343 < bAt s 0 % 16 * 4096 + bAt s 1 % 64 * 64 + bAt s 2 % 64) := by
  match s, h with
  | x :: y :: z :: r, _ =>
    have hx := x.toNat_lt
    have hy := y.toNat_lt
    have hz := z.toNat_lt
    simp only [fitP, candP, bAt, List.getD_cons_zero, List.getD_cons_succ, List.take_succ_cons, List.take_zero, if_neg (show ¬ (3 : Nat) = 1 by omega), if_neg (show ¬ (3 : Nat) = 2 by omega), if_true]
    generalize hn : x.toNat % 16 * 4096 + y.toNat % 64 * 64 + z.toNat % 64 = n
    have h1 : n < 65536 := by omega
    simp only [mayP, runeP, Bool.and_eq_true, Bool.or_eq_true, decide_eq_true_eq, beq_iff_eq]
    by_cases c : n < 128
    · rw [if_pos c]
      simp
      omega
    · by_cases c2 : n < 2048
      · rw [if_neg c, if_pos c2]
        simp
        omega
      · rw [if_neg c, if_neg c2, if_pos h1]
        simp only [List.cons.injEq, and_true]
        rw [toU8_iff (by omega), toU8_iff (by omega), toU8_iff (by omega)]
        have e1 : n / 4096 = x.toNat % 16 := by omega
        have e2 : n / 64 % 64 = y.toNat % 64 := by omega
        have e3 : n % 64 = z.toNat % 64 := by omega
        rw [e1, e2, e3]
        omega
theorem fit4 {s : Bs} (h : 4 ≤ s.length) : fitP s 4 = true ↔ bAt s 0 / 8 = 30 ∧ bAt s 1 / 64 = 2 ∧ bAt s 2 / 64 = 2 ∧ bAt s 3 / 64 = 2 ∧ 65536 ≤ bAt s 0 % 8 * 262144 + bAt s 1 % 64 * 4096 + bAt s 2 % 64 * 64 + bAt s 3 % 64 ∧ bAt s 0 % 8 * 262144 + bAt s 1 % 64 * 4096 + bAt s 2 % 64 * 64 + bAt s 3 % 64 ≤ 1114111 := by
  match s, h with
  | x :: y :: z :: u :: r, _ =>
    have hx := x.toNat_lt
    have hy := y.toNat_lt
    have hz := z.toNat_lt
    have hu := u.toNat_lt
    simp only [fitP, candP, bAt, List.getD_cons_zero, List.getD_cons_succ, List.take_succ_cons, List.take_zero, if_neg (show ¬ (4 : Nat) = 1 by omega), if_neg (show ¬ (4 : Nat) = 2 by omega), if_neg (show ¬ (4 : Nat) = 3 by omega)]
    generalize hn : x.toNat % 8 * 262144 + y.toNat % 64 * 4096 + z.toNat % 64 * 64 + u.toNat % 64 = n
    have h1 : n < 2097152 := by omega
    simp only [mayP, runeP, Bool.and_eq_true, Bool.or_eq_true, decide_eq_true_eq, beq_iff_eq]
    by_cases c : n < 128
    · rw [if_pos c]
      simp
      omega
    · by_cases c2 : n < 2048
      · rw [if_neg c, if_pos c2]
        simp
        omega
      · by_cases c3 : n < 65536
        · rw [if_neg c, if_neg c2, if_pos c3]
          simp
          omega
        · rw [if_neg c, if_neg c2, if_neg c3]
          simp only [List.cons.injEq, and_true]
          rw [toU8_iff (by omega), toU8_iff (by omega), toU8_iff (by omega), toU8_iff (by omega)]
          have e1 : n / 262144 = x.toNat % 8 := by omega
          have e4 : n / 4096 % 64 = y.toNat % 64 := by omega
          have e2 : n / 64 % 64 = z.toNat % 64 := by omega
          have e3 : n % 64 = u.toNat % 64 := by omega
          rw [e1, e2, e3, e4]
          omega
/-- The rune that bytes begin with: the decoder's, but for its replacement of a byte that is none. -/
theorem first_dec {s : Bs} (h : s ≠ []) : firstP s = if (Lib.decodeL s).1 = 65533 ∧ (Lib.decodeL s).2 = 1 then (0, 0) else Lib.decodeL s := by
  have hl : 0 < s.length := List.length_pos_iff.2 h
  have h0 : bAt s 0 < 256 := UInt8.toNat_lt _
  have h1 : bAt s 1 < 256 := UInt8.toNat_lt _
  have h2 : bAt s 2 < 256 := UInt8.toNat_lt _
  have h3 : bAt s 3 < 256 := UInt8.toNat_lt _
  have e1 := fit1 (s := s) (by omega)
  have e2 := fun h => fit2 (s := s) h
  have e3 := fun h => fit3 (s := s) h
  have e4 := fun h => fit4 (s := s) h
  rw [Lib.decodeL_N]
  show _ = if (Lib.decodeN s.length (bAt s 0) (bAt s 1) (bAt s 2) (bAt s 3)).1 = 65533 ∧ _ then _ else _
  change _ = if (Lib.decodeN s.length (bAt s 0) (bAt s 1) (bAt s 2) (bAt s 3)).1 = 65533 ∧ (Lib.decodeN s.length (bAt s 0) (bAt s 1) (bAt s 2) (bAt s 3)).2 = 1 then (0, 0) else Lib.decodeN s.length (bAt s 0) (bAt s 1) (bAt s 2) (bAt s 3)
  have c1 : candP s 1 = bAt s 0 := rfl
  have c2 : candP s 2 = bAt s 0 % 32 * 64 + bAt s 1 % 64 := rfl
  have c3 : candP s 3 = bAt s 0 % 16 * 4096 + bAt s 1 % 64 * 64 + bAt s 2 % 64 := rfl
  have c4 : candP s 4 = bAt s 0 % 8 * 262144 + bAt s 1 % 64 * 4096 + bAt s 2 % 64 * 64 + bAt s 3 % 64 := rfl
  unfold firstP
  simp only [firstGo, Nat.reduceAdd]
  generalize fitP s 1 = f1 at *
  generalize fitP s 2 = f2 at *
  generalize fitP s 3 = f3 at *
  generalize fitP s 4 = f4 at *
  generalize bAt s 0 = a at *
  generalize bAt s 1 = b at *
  generalize bAt s 2 = c at *
  generalize bAt s 3 = d at *
  generalize s.length = n at *
  rw [c1, c2, c3, c4]
  clear c1 c2 c3 c4
  subst e1
  unfold Lib.decodeN
  by_cases k1 : a < 128
  · simp [k1, show ¬ n < 1 by omega]
    omega
  rw [if_neg (show ¬ (4 < 1 ∨ n < 1) by omega)]
  simp only [k1, decide_false, Bool.false_eq_true, if_false]
  by_cases n2 : n < 2
  · rw [if_pos (show 4 < 2 ∨ n < 2 by omega), if_neg (show ¬ (a / 32 = 6 ∧ 1 < n ∧ b / 64 = 2) by omega), if_neg (show ¬ (a / 16 = 14 ∧ (1 < n ∧ b / 64 = 2) ∧ (2 < n ∧ c / 64 = 2)) by omega), if_neg (show ¬ (a / 8 = 30 ∧ (1 < n ∧ b / 64 = 2) ∧ (2 < n ∧ c / 64 = 2) ∧ (3 < n ∧ d / 64 = 2)) by omega)]
    simp
  rw [if_neg (show ¬ (4 < 2 ∨ n < 2) by omega)]
  have e2 := e2 (by omega)
  by_cases k2 : a / 32 = 6 ∧ 1 < n ∧ b / 64 = 2
  · rw [if_pos k2]
    by_cases g : a % 32 * 64 + b % 64 ≥ 128
    · have := e2.2 (by omega)
      rw [if_pos this, if_pos g, if_neg (by simp)]
    · have f2n : ¬ f2 = true := fun e => by have := e2.1 e; omega
      rw [if_neg f2n, if_neg g]
      simp only [and_self, if_true]
      by_cases n3 : n < 3
      · rw [if_pos (by omega)]
      rw [if_neg (by omega)]
      have f3n : ¬ f3 = true := fun e => by have := (e3 (by omega)).1 e; omega
      rw [if_neg f3n]
      by_cases n4 : n < 4
      · rw [if_pos (by omega)]
      rw [if_neg (by omega)]
      have f4n : ¬ f4 = true := fun e => by have := (e4 (by omega)).1 e; omega
      rw [if_neg f4n]
  have f2n : ¬ f2 = true := fun e => by have := e2.1 e; omega
  rw [if_neg f2n, if_neg k2]
  by_cases n3 : n < 3
  · rw [if_pos (show 4 < 3 ∨ n < 3 by omega), if_neg (show ¬ (a / 16 = 14 ∧ (1 < n ∧ b / 64 = 2) ∧ (2 < n ∧ c / 64 = 2)) by omega), if_neg (show ¬ (a / 8 = 30 ∧ (1 < n ∧ b / 64 = 2) ∧ (2 < n ∧ c / 64 = 2) ∧ (3 < n ∧ d / 64 = 2)) by omega)]
    simp
  rw [if_neg (show ¬ (4 < 3 ∨ n < 3) by omega)]
  have e3 := e3 (by omega)
  by_cases k3 : a / 16 = 14 ∧ (1 < n ∧ b / 64 = 2) ∧ (2 < n ∧ c / 64 = 2)
  · rw [if_pos k3]
    by_cases g : a % 16 * 4096 + b % 64 * 64 + c % 64 ≥ 2048 ∧ (a % 16 * 4096 + b % 64 * 64 + c % 64 < 55296 ∨ (57344 ≤ a % 16 * 4096 + b % 64 * 64 + c % 64 ∧ a % 16 * 4096 + b % 64 * 64 + c % 64 ≤ 1114111))
    · have := e3.2 (by omega)
      rw [if_pos this, if_pos g, if_neg (by simp)]
    · have f3n : ¬ f3 = true := fun e => by have := e3.1 e; omega
      rw [if_neg f3n, if_neg g]
      simp only [and_self, if_true]
      by_cases n4 : n < 4
      · rw [if_pos (by omega)]
      rw [if_neg (by omega)]
      have f4n : ¬ f4 = true := fun e => by have := (e4 (by omega)).1 e; omega
      rw [if_neg f4n]
  have f3n : ¬ f3 = true := fun e => by have := e3.1 e; omega
  rw [if_neg f3n, if_neg k3]
  by_cases n4 : n < 4
  · rw [if_pos (show 4 < 4 ∨ n < 4 by omega), if_neg (show ¬ (a / 8 = 30 ∧ (1 < n ∧ b / 64 = 2) ∧ (2 < n ∧ c / 64 = 2) ∧ (3 < n ∧ d / 64 = 2)) by omega)]
    simp
  rw [if_neg (show ¬ (4 < 4 ∨ n < 4) by omega)]
  have e4 := e4 (by omega)
  by_cases k4 : a / 8 = 30 ∧ (1 < n ∧ b / 64 = 2) ∧ (2 < n ∧ c / 64 = 2) ∧ (3 < n ∧ d / 64 = 2)
  · rw [if_pos k4]
    by_cases g : a % 8 * 262144 + b % 64 * 4096 + c % 64 * 64 + d % 64 ≥ 65536 ∧ (a % 8 * 262144 + b % 64 * 4096 + c % 64 * 64 + d % 64 < 55296 ∨ (57344 ≤ a % 8 * 262144 + b % 64 * 4096 + c % 64 * 64 + d % 64 ∧ a % 8 * 262144 + b % 64 * 4096 + c % 64 * 64 + d % 64 ≤ 1114111))
    · have := e4.2 (by omega)
      rw [if_pos this, if_pos g, if_neg (by simp)]
    · have f4n : ¬ f4 = true := fun e => by have := e4.1 e; omega
      rw [if_neg f4n, if_neg g]
      simp
  have f4n : ¬ f4 = true := fun e => by have := e4.1 e; omega
  rw [if_neg f4n, if_neg k4]
  simp
theorem first_bad {s : Bs} (h : s ≠ []) (hb : (Lib.decodeL s).1 = 65533 ∧ (Lib.decodeL s).2 = 1) : firstP s = (0, 0) ∧ Lib.validD s = false := by
  rw [first_dec h, if_pos hb, Lib.validD_step s h, if_pos hb]
  exact ⟨rfl, rfl⟩
theorem first_good {s : Bs} (h : s ≠ []) (hb : ¬ ((Lib.decodeL s).1 = 65533 ∧ (Lib.decodeL s).2 = 1)) : firstP s = Lib.decodeL s ∧ Lib.validD s = Lib.validD (s.drop (Lib.decodeL s).2) ∧ 1 ≤ (Lib.decodeL s).2 ∧ (Lib.decodeL s).2 ≤ s.length := by
  rw [first_dec h, if_neg hb, Lib.validD_step s h, if_neg hb]
  exact ⟨rfl, rfl, Lib.decodeL_width s, Lib.decodeL_le s h⟩
end Go.Proofs.YteeijmfnjcddmaaGreatDoor
