/- JSON: what is built of values has a form built of theirs: plainly. -/
import Derived.Test.YteeijmfnjcddmaaGreatDoorSz
namespace Go.Proofs.YteeijmfnjcddmaaGreatDoor
open Go.RowKit

mutual
theorem deeper : ∀ (j : Jv) (n : Nat), checkP n j = 0 → checkP (n + 1) j = 0 ∨ checkP (n + 1) j = 91
  | .mk k i t l ks, n, h => by
    obtain ⟨hf, hc⟩ := form_of n k i t l ks h
    rw [checkP]
    split
    · exact Or.inr rfl
    · exact deepers l (n + 1) hc
theorem deepers : ∀ (l : List Jv) (n : Nat), checksP n l = 0 → checksP (n + 1) l = 0 ∨ checksP (n + 1) l = 91
  | [], n, _ => by simp [checksP]
  | j :: r, n, h => by
    have ha := checksP_all n (j :: r) h
    have hr : checksP n r = 0 := by
      rw [checksP, if_pos (ha j (by simp))] at h
      exact h
    rw [checksP]
    rcases deeper j n (ha j (by simp)) with h1 | h1
    · rw [if_pos h1]; exact deepers r n hr
    · rw [if_neg (by omega)]; exact Or.inr h1
end
theorem text_zero {j : Jv} (h : (textT j).2 = 0) : checkP 0 j = 0 ∧ (layP j).length ≤ 65536 ∧ textT j = (layP j, 0) := by
  unfold textT at h ⊢
  split at h
  · rename_i hc
    rw [if_pos hc]
    split at h
    · cases h
    · rename_i hl; rw [if_neg hl]; exact ⟨hc, by omega, rfl⟩
  · rename_i hc; exact absurd h hc
theorem text_91 {j : Jv} (h : checkP 0 j = 91) : textT j = ([], 91) := by unfold textT; rw [if_neg (by omega), h]
theorem text_of {j : Jv} (h : checkP 0 j = 0) (hl : (layP j).length ≤ 65536) : textT j = (layP j, 0) := by unfold textT; rw [if_pos h, if_neg (by omega)]
theorem list_check (l : List Jv) : checkP 0 (.mk 5 0 [] l []) = checksP 1 l := by
  rw [checkP, if_neg (by decide), if_pos]
  simp [formP, nestK, keysOk, intIn, textIn]
theorem one_check (a : Jv) (key : Bs) (hk : Lib.validD key = true) : checkP 0 (.mk 6 0 [] [a] [key]) = checksP 1 [a] := by
  rw [checkP, if_neg (by decide), if_pos]
  simp [formP, nestK, keysOk, intIn, textIn, hk]
theorem text_valid {key : Bs} (h : checkP 0 (.mk 4 0 key [] []) = 0) : Lib.validD key = true := by
  obtain ⟨hf, _⟩ := form_of _ _ _ _ _ _ h
  unfold formP at hf
  simp only [Bool.and_eq_true] at hf
  have h1 := hf.2
  simp only [textIn, Bool.or_eq_true, beq_iff_eq, Bool.and_eq_true] at h1
  rcases h1 with rfl | ⟨_, h1⟩
  · rfl
  · exact h1
theorem lay_two (a b : Jv) : layP (.mk 5 0 [] [a, b] []) = 91 :: (layP a ++ 44 :: (layP b ++ [93])) := by
  have e : layP (.mk 5 0 [] [a, b] []) = 91 :: (joinC (itemsL false [] (laysP [a, b])) ++ [93]) := by rw [layP]; rfl
  rw [e]
  simp [laysP, itemsL, orderP, memP, joinC, List.range, List.range.loop]
theorem lay_one (a : Jv) (key : Bs) : layP (.mk 6 0 [] [a] [key]) = 123 :: (quoteP key ++ 58 :: (layP a ++ [125])) := by
  have e : layP (.mk 6 0 [] [a] [key]) = 123 :: (joinC (itemsL true [key] (laysP [a])) ++ [125]) := by rw [layP]; rfl
  rw [e]
  have ho : orderP true [key] 1 = [0] := by simp [orderP, List.range, List.range.loop]
  have hi : itemsL true [key] (laysP [a]) = [memP true [key] (laysP [a]) 0] := by unfold itemsL; simp only [laysP, List.length_cons, List.length_nil]; rw [ho]; rfl
  rw [hi]
  simp [laysP, memP, joinC, keyAt]

/-- What the law asks of the two forms. -/
theorem built_plain (a b : Jv) (key : Bs) (ha : (textT a).2 = 0) (hb : (textT b).2 = 0) (hk : (textT (.mk 4 0 key [] [])).2 = 0) (hs : (textT a).1.length + (textT b).1.length + (textT (.mk 4 0 key [] [])).1.length ≤ 60000) :
    (textT (.mk 5 0 [] [a, b] []) = ([], 91) ∨ textT (.mk 5 0 [] [a, b] []) = (91 :: ((textT a).1 ++ 44 :: ((textT b).1 ++ [93])), 0)) ∧
    (textT (.mk 6 0 [] [a] [key]) = ([], 91) ∨ textT (.mk 6 0 [] [a] [key]) = (123 :: ((textT (.mk 4 0 key [] [])).1 ++ 58 :: ((textT a).1 ++ [125])), 0)) := by
  obtain ⟨ca, la, ea⟩ := text_zero ha
  obtain ⟨cb, lb, eb⟩ := text_zero hb
  obtain ⟨ck, lk, ek⟩ := text_zero hk
  have hq : layP (.mk 4 0 key [] []) = quoteP key := by rw [layP]; rfl
  rw [ea, eb, ek, hq] at hs ⊢
  simp only at hs
  have hv := text_valid ck
  constructor
  · have hc := list_check [a, b]
    have h2 : checksP 1 [a, b] = 0 ∨ checksP 1 [a, b] = 91 := by
      apply deepers
      simp [checksP, ca, cb]
    rcases h2 with h2 | h2
    · right
      rw [text_of (hc.trans h2) (by rw [lay_two]; simp; omega), lay_two]
    · left; exact text_91 (hc.trans h2)
  · have hc := one_check a key hv
    have h2 : checksP 1 [a] = 0 ∨ checksP 1 [a] = 91 := by
      apply deepers
      simp [checksP, ca]
    rcases h2 with h2 | h2
    · right
      rw [text_of (hc.trans h2) (by rw [lay_one]; simp; omega), lay_one]
    · left; exact text_91 (hc.trans h2)
end Go.Proofs.YteeijmfnjcddmaaGreatDoor
