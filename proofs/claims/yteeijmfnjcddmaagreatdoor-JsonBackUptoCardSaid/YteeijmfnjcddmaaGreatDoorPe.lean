/- JSON, plain: what numbers errors have. -/
import Derived.Test.YteeijmfnjcddmaaGreatDoorPs
namespace Go.Proofs.YteeijmfnjcddmaaGreatDoor

mutual
theorem check_three : ∀ (j : Jv) (n : Nat), checkP n j = 0 ∨ checkP n j = 91 ∨ checkP n j = 93
  | .mk k i t l ks, n => by
    rw [checkP]
    split
    · exact Or.inr (Or.inl rfl)
    · split
      · exact checks_three l (n + 1)
      · exact Or.inr (Or.inr rfl)
theorem checks_three : ∀ (l : List Jv) (n : Nat), checksP n l = 0 ∨ checksP n l = 91 ∨ checksP n l = 93
  | [], n => Or.inl (by rw [checksP])
  | j :: r, n => by
    rw [checksP]
    split
    · exact checks_three r n
    · exact check_three j n
end
theorem text_three (j : Jv) : (textT j = (layP j, 0) ∧ checkP 0 j = 0 ∧ (layP j).length ≤ 65536) ∨ (textT j = ([], 92) ∧ checkP 0 j = 0) ∨ (textT j = ([], 91) ∧ checkP 0 j = 91) ∨ (textT j = ([], 93) ∧ checkP 0 j = 93) := by
  unfold textT
  rcases check_three j 0 with h | h | h
  · rw [if_pos h]
    by_cases hl : 65536 < (layP j).length
    · rw [if_pos hl]; exact Or.inr (Or.inl ⟨rfl, h⟩)
    · rw [if_neg hl]; exact Or.inl ⟨rfl, h, by omega⟩
  · rw [if_neg (by omega), h]; exact Or.inr (Or.inr (Or.inl ⟨rfl, rfl⟩))
  · rw [if_neg (by omega), h]; exact Or.inr (Or.inr (Or.inr ⟨rfl, rfl⟩))

theorem keyP_err {obj : Bool} {s : Bs} {ks : List Bs} {n : Nat} (h : keyP obj s ks = .error n) : n ≠ 0 := by
  unfold keyP at h
  split at h
  · split at h
    · cases h; omega
    · split at h
      · cases h; omega
      · split at h
        · cases h; omega
        · cases h
  · cases h
theorem itemsP_err (val : Bs → Pr) (hv : ∀ s n, val s = .error n → n ≠ 0) (obj : Bool) (close : UInt8) : ∀ (f : Nat) (s : Bs) (l : List Jv) (ks : List Bs) (n : Nat), itemsP val obj close f s l ks = .error n → n ≠ 0
  | 0, s, l, ks, n, h => by unfold itemsP at h; cases h; omega
  | f + 1, s, l, ks, n, h => by
    unfold itemsP at h
    split at h
    · rename_i e he
      cases h
      exact keyP_err he
    · split at h
      · rename_i e he
        cases h
        exact hv _ _ he
      · split at h
        · cases h
        · split at h
          · cases h; omega
          · exact itemsP_err val hv obj close f _ _ _ n h
theorem nestP_err (val : Bs → Pr) (hv : ∀ s n, val s = .error n → n ≠ 0) (obj : Bool) (close : UInt8) (s : Bs) (n : Nat) (h : nestP val obj close s = .error n) : n ≠ 0 := by
  unfold nestP at h
  split at h
  · cases h
  · exact itemsP_err val hv obj close _ _ _ _ n h
theorem wordP_err {s : Bs} {n : Nat} (h : wordP s = .error n) : n ≠ 0 := by
  unfold wordP at h
  repeat' split at h
  all_goals first | (cases h; done) | (cases h; omega)
theorem valueP_err : ∀ (d : Nat) (s : Bs) (n : Nat), valueP d s = .error n → n ≠ 0
  | 0, s, n, h => by
    unfold valueP at h
    split at h
    · split at h
      · cases h; omega
      · cases h
    · cases h; omega
    · cases h; omega
    · exact wordP_err h
  | d + 1, s, n, h => by
    unfold valueP at h
    split at h
    · split at h
      · cases h; omega
      · cases h
    · exact nestP_err _ (valueP_err d) _ _ _ n h
    · exact nestP_err _ (valueP_err d) _ _ _ n h
    · exact wordP_err h
theorem parse_err {s : Bs} {n : Nat} (h : parseP s = .error n) : n ≠ 0 := by
  unfold parseP at h
  split at h
  · cases h; omega
  · split at h
    · rename_i e he
      cases h
      exact valueP_err _ _ _ he
    · split at h
      · cases h
      · cases h; omega
end Go.Proofs.YteeijmfnjcddmaaGreatDoor
