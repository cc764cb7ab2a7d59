/- JSON, plain: what reading uses up. -/
import Derived.Test.YteeijmfnjcddmaaGreatDoorJl
namespace Go.Proofs.YteeijmfnjcddmaaGreatDoor

theorem unitP_len {s t : Bs} {n : Nat} (h : unitP s = some (n, t)) : t.length + 6 = s.length := by
  unfold unitP at h
  split at h
  · split at h
    · cases h; simp
    · cases h
  · cases h
theorem escU_len {s t r : Bs} (h : escU s = some (t, r)) : t.length ≤ 4 ∧ r.length + 2 ≤ s.length := by
  have he : ∀ n : Int, (Lib.encodeRune n).length ≤ 4 := fun n => by
    have := (Lib.encodeRuneZ_length n).2
    simpa [Lib.encodeRune] using this
  unfold escU at h
  cases hu : unitP s with
  | none => rw [hu] at h; cases h
  | some p =>
    obtain ⟨n, r1⟩ := p
    have h1 := unitP_len hu
    rw [hu] at h
    simp only at h
    split at h
    · cases hu2 : unitP r1 with
      | none => rw [hu2] at h; cases h
      | some p =>
        obtain ⟨m, r2⟩ := p
        have h2 := unitP_len hu2
        rw [hu2] at h
        simp only at h
        split at h
        · simp only [Option.some.injEq, Prod.mk.injEq] at h; obtain ⟨rfl, rfl⟩ := h; exact ⟨he _, by omega⟩
        · cases h
    · split at h
      · cases h
      · simp only [Option.some.injEq, Prod.mk.injEq] at h; obtain ⟨rfl, rfl⟩ := h; exact ⟨he _, by omega⟩
theorem escP_len {s t r : Bs} (h : escP s = some (t, r)) : t.length ≤ 4 ∧ r.length + 2 ≤ s.length := by
  unfold escP at h
  split at h
  · split at h
    · cases h; simp
    · exact escU_len h
  · cases h


theorem blanks_len (s : Bs) : (blanks s).length ≤ s.length := by
  unfold blanks Lib.trimLeftS
  exact (List.dropWhile_sublist _).length_le
theorem takeP_len {part s r : Bs} (h : takeP part s = some r) : r.length + part.length ≤ s.length := by
  unfold takeP at h
  split at h
  · rename_i hp
    cases h
    have h1 := blanks_len (s.drop part.length)
    have h2 := hp.length_le
    simp at h1
    omega
  · cases h
theorem strP_len : ∀ (f : Nat) (s acc t r : Bs), strP f s acc = some (t, r) → r.length + 1 ≤ s.length
  | 0, s, acc, t, r, h => by cases h
  | f + 1, [], acc, t, r, h => by cases h
  | f + 1, c :: u, acc, t, r, h => by
    have hs : strP (f + 1) (c :: u) acc = if c < 32 then none else if c = 34 then (if Lib.validD acc then some (acc, blanks u) else none) else if c = 92 then (match escP (c :: u) with | none => none | some (b, r') => strP f r' (acc ++ b)) else strP f u (acc ++ [c]) := rfl
    rw [hs] at h
    split at h
    · cases h
    · split at h
      · split at h
        · cases h
          have := blanks_len u
          simp; omega
        · cases h
      · split at h
        · cases he : escP (c :: u) with
          | none => rw [he] at h; cases h
          | some p =>
            obtain ⟨b, r'⟩ := p
            rw [he] at h
            have ih := strP_len f _ _ _ _ h
            have hr := (escP_len he).2
            simp at hr
            simp; omega
        · have ih := strP_len f _ _ _ _ h
          simp; omega
theorem textP_len {s t r : Bs} (h : textP s = some (t, r)) : r.length + 2 ≤ s.length := by
  unfold textP at h
  split at h
  · cases h
  · rename_i c u
    split at h
    · have := strP_len _ _ _ _ _ h
      simp; omega
    · cases h
theorem numP_le (s : Bs) : numP s ≤ s.length := by
  have hd : ∀ t : Bs, digs t ≤ t.length := digs_le
  have hm : minusP s ≤ s.length := by unfold minusP; cases s with | nil => simp | cons c r => split <;> simp
  have hw : ∀ t : Bs, wholeP t ≤ t.length := fun t => by
    unfold wholeP
    split
    · rename_i h; cases t with | nil => simp at h | cons c r => simp
    · exact hd t
  have hfr : ∀ t : Bs, fracP t ≤ t.length := fun t => by
    unfold fracP
    cases t with
    | nil => simp
    | cons c r => simp only; split <;> simp; have := hd r; omega
  have hex : ∀ t : Bs, expP t ≤ t.length := fun t => by
    unfold expP
    cases t with
    | nil => simp
    | cons c r =>
      simp only
      split
      · have h1 := hd (r.drop (signP r))
        have h2 : signP r ≤ r.length := by unfold signP; cases r with | nil => simp | cons d q => simp only; split <;> simp
        simp at h1 ⊢; omega
      · simp
  unfold numP
  simp only
  split
  · exact Nat.zero_le _
  · have h1 := hw (s.drop (minusP s))
    have h2 := hfr (s.drop (minusP s + wholeP (s.drop (minusP s))))
    have h3 := hex (s.drop (minusP s + wholeP (s.drop (minusP s)) + fracP (s.drop (minusP s + wholeP (s.drop (minusP s))))))
    simp at h1 h2 h3
    omega
theorem wordP_len {s r : Bs} {j : Jv} (h : wordP s = .ok (j, r)) : r.length < s.length := by
  unfold wordP at h
  cases h1 : takeP wNull s with
  | some r1 => rw [h1] at h; cases h; have := takeP_len h1; simp [wNull] at this; omega
  | none =>
    rw [h1] at h
    simp only at h
    cases h2 : takeP wFalse s with
    | some r1 => rw [h2] at h; cases h; have := takeP_len h2; simp [wFalse] at this; omega
    | none =>
      rw [h2] at h
      simp only at h
      cases h3 : takeP wTrue s with
      | some r1 => rw [h3] at h; cases h; have := takeP_len h3; simp [wTrue] at this; omega
      | none =>
        rw [h3] at h
        simp only at h
        split at h
        · cases h
        · rename_i hn
          cases he : exactP (s.take (numP s)) with
          | none => rw [he] at h; cases h
          | some n =>
            rw [he] at h
            cases h
            have := blanks_len (s.drop (numP s))
            have hl := numP_le s
            simp at this
            omega
theorem keyP_len {obj : Bool} {s s2 : Bs} {ks ks' : List Bs} (h : keyP obj s ks = .ok (ks', s2)) : s2.length ≤ s.length := by
  unfold keyP at h
  cases obj with
  | false => simp at h; obtain ⟨_, rfl⟩ := h; exact Nat.le_refl _
  | true =>
    simp only [if_true] at h
    cases ht : textP s with
    | none => rw [ht] at h; cases h
    | some p =>
      obtain ⟨key, s1⟩ := p
      rw [ht] at h
      simp only at h
      split at h
      · cases h
      · cases hc : takeP [58] s1 with
        | none => rw [hc] at h; cases h
        | some s3 =>
          rw [hc] at h
          cases h
          have := textP_len ht
          have := takeP_len hc
          omega
theorem itemsP_len (val : Bs → Pr) (hv : ∀ s j r, val s = .ok (j, r) → r.length < s.length) (obj : Bool) (close : UInt8) :
    ∀ (f : Nat) (s : Bs) (l : List Jv) (ks : List Bs) (j : Jv) (r : Bs), itemsP val obj close f s l ks = .ok (j, r) → r.length < s.length
  | 0, s, l, ks, j, r, h => by cases h
  | f + 1, s, l, ks, j, r, h => by
    unfold itemsP at h
    cases hk : keyP obj s ks with
    | error e => rw [hk] at h; cases h
    | ok p =>
      obtain ⟨ks', s2⟩ := p
      have h1 := keyP_len hk
      rw [hk] at h
      simp only at h
      cases hval : val s2 with
      | error e => rw [hval] at h; cases h
      | ok p =>
        obtain ⟨v, s3⟩ := p
        have h2 := hv _ _ _ hval
        rw [hval] at h
        simp only at h
        cases hc : takeP [close] s3 with
        | some s4 =>
          rw [hc] at h
          cases h
          have := takeP_len hc
          omega
        | none =>
          rw [hc] at h
          simp only at h
          cases hm : takeP [44] s3 with
          | none => rw [hm] at h; cases h
          | some s4 =>
            rw [hm] at h
            have ih := itemsP_len val hv obj close f _ _ _ _ _ h
            have := takeP_len hm
            omega
theorem nestP_len (val : Bs → Pr) (hv : ∀ s j r, val s = .ok (j, r) → r.length < s.length) (obj : Bool) (close : UInt8) (s : Bs) (j : Jv) (r : Bs) (h : nestP val obj close s = .ok (j, r)) : r.length < s.length := by
  unfold nestP at h
  cases hc : takeP [close] s with
  | some s1 => rw [hc] at h; cases h; have := takeP_len hc; simp at this; omega
  | none => rw [hc] at h; exact itemsP_len val hv obj close _ _ _ _ _ _ h
theorem valueP_len : ∀ (d : Nat) (s : Bs) (j : Jv) (r : Bs), valueP d s = .ok (j, r) → r.length < s.length := by
  intro d
  induction d with
  | zero =>
    intro s j r h
    unfold valueP at h
    split at h
    · cases ht : textP s with
      | none => rw [ht] at h; cases h
      | some p => obtain ⟨t, r1⟩ := p; rw [ht] at h; cases h; have := textP_len ht; omega
    · cases h
    · cases h
    · exact wordP_len h
  | succ d ih =>
    intro s j r h
    unfold valueP at h
    split at h
    · cases ht : textP s with
      | none => rw [ht] at h; cases h
      | some p => obtain ⟨t, r1⟩ := p; rw [ht] at h; cases h; have := textP_len ht; omega
    · have h1 := nestP_len _ ih _ _ _ _ _ h
      have := blanks_len (s.drop 1)
      simp only [List.length_drop] at this; omega
    · have h1 := nestP_len _ ih _ _ _ _ _ h
      have := blanks_len (s.drop 1)
      simp only [List.length_drop] at this; omega
    · exact wordP_len h
end Go.Proofs.YteeijmfnjcddmaaGreatDoor
