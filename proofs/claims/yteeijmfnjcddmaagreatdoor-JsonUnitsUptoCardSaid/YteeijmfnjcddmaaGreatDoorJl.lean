/- JSON, plain: which values may be, a value's form, how much it holds. No program. -/
import Derived.Test.YteeijmfnjcddmaaGreatDoorW
import Derived.Test.YteeijmfnjcddmaaGreatDoorJp
namespace Go.Proofs.YteeijmfnjcddmaaGreatDoor

theorem digs_le (s : Bs) : digs s ≤ s.length := by unfold digs; exact (List.takeWhile_sublist _).length_le


/-- A list or an object. -/
def nestK (k : Int) : Bool := (k == 5) || (k == 6)
def keysOk (k : Int) (n : Nat) (ks : List Bs) : Bool := (k == 6 && decide ((ks.length : Int) = (n : Int))) || (decide ((ks.length : Int) = 0) && k != 6)
def intIn (k i : Int) : Bool := (i == 0) || (k == 3 && decide (i ≤ 9007199254740991) && decide (-9007199254740991 ≤ i))
def textIn (k : Int) (t : Bs) : Bool := (t == []) || (k == 4 && Lib.validD t)
/-- A value's kind and fields, its elements left aside. -/
def formP (k i : Int) (t : Bs) (n : Nat) (ks : List Bs) : Bool :=
  (decide (0 ≤ k) && decide (k < 7)) && (nestK k || decide ((n : Int) = 0)) && keysOk k n ks && (ks.all Lib.validD && decide ks.Nodup) && intIn k i && textIn k t
mutual
def checkP : Nat → Jv → Nat
  | n, .mk k i t l ks => if nestK k && !(decide ((n : Int) < 32)) then 91 else if formP k i t l.length ks then checksP (n + 1) l else 93
def checksP : Nat → List Jv → Nat
  | _, [] => 0
  | n, j :: r => if checkP n j = 0 then checksP n r else checkP n j
end

/-- The key of a place. -/
def keyAt (ks : List Bs) (i : Nat) : Bs := ks.getD i []
/-- The places, as they are told. -/
def orderP (obj : Bool) (ks : List Bs) (n : Nat) : List Nat := if obj then (List.range n).mergeSort (fun a b => decide (keyAt ks a ≤ keyAt ks b)) else List.range n
theorem orderP_perm (obj : Bool) (ks : List Bs) (n : Nat) : (orderP obj ks n).Perm (List.range n) := by
  unfold orderP; split
  · exact List.mergeSort_perm _ _
  · exact List.Perm.refl _
theorem orderP_len (obj : Bool) (ks : List Bs) (n : Nat) : (orderP obj ks n).length = n := by rw [(orderP_perm obj ks n).length_eq, List.length_range]
theorem orderP_lt {obj : Bool} {ks : List Bs} {n m : Nat} (h : m ∈ orderP obj ks n) : m < n := List.mem_range.1 ((orderP_perm obj ks n).mem_iff.1 h)


/-- A digit of base sixteen. -/
def hexD (n : UInt8) : UInt8 := if n < 10 then 48 + n else 87 + n
/-- A byte of a text, in its form. -/
def quoteC (c : UInt8) : Bs :=
  if c = 34 then [92, 34] else if c = 92 then [92, 92] else if c = 8 then [92, 98] else if c = 9 then [92, 116] else if c = 10 then [92, 110] else if c = 12 then [92, 102] else if c = 13 then [92, 114]
  else if c < 32 then [92, 117, 48, 48, hexD (c / 16), hexD (c % 16)] else [c]
def quoteP (s : Bs) : Bs := 34 :: s.flatMap quoteC ++ [34]
theorem quoteC_len (c : UInt8) : (quoteC c).length ≤ 6 := by
  unfold quoteC; repeat' split
  all_goals simp
theorem flat_len (s : Bs) : (s.flatMap quoteC).length ≤ 6 * s.length := by
  induction s with
  | nil => simp
  | cons c r ih => have := quoteC_len c; simp only [List.flatMap_cons, List.length_append, List.length_cons]; omega

/-- Parts, with commas between them. -/
def joinC : List Bs → Bs
  | [] => []
  | x :: r => x ++ r.flatMap (fun y => 44 :: y)
theorem joinC_snoc (a : List Bs) (x : Bs) : joinC (a ++ [x]) = joinC a ++ ((if 0 < a.length then [44] else []) ++ x) := by
  cases a with
  | nil => simp [joinC]
  | cons y r => simp [joinC]
theorem joinC_take (its : List Bs) (m : Nat) (h : m < its.length) : joinC (its.take (m + 1)) = joinC (its.take m) ++ ((if 0 < m then [44] else []) ++ its[m]) := by
  rw [(List.take_append_getElem h).symm, joinC_snoc, List.length_take, Nat.min_eq_left (by omega)]
theorem joinC_le (its : List Bs) : ∀ m, (joinC (its.take m)).length ≤ (joinC its).length := by
  intro m
  cases its with
  | nil => simp [joinC]
  | cons y r =>
    cases m with
    | zero => simp [joinC]
    | succ m =>
      simp only [List.take_succ_cons, joinC, List.length_append]
      have e : (r.flatMap (fun y => 44 :: y)) = ((r.take m).flatMap (fun y => 44 :: y)) ++ ((r.drop m).flatMap (fun y => 44 :: y)) := by rw [← List.flatMap_append, List.take_append_drop]
      rw [e]
      simp
theorem joinC_len (its : List Bs) : its.length ≤ (joinC its).length + 1 := by
  cases its with
  | nil => simp
  | cons y r =>
    have : ∀ r : List Bs, r.length ≤ (r.flatMap (fun y => 44 :: y)).length := by
      intro r
      induction r with
      | nil => simp
      | cons z q ih => simp only [List.flatMap_cons, List.length_append, List.length_cons]; omega
    have := this r
    simp only [joinC, List.length_append, List.length_cons]; omega

/-- A member, or an element. -/
def memP (obj : Bool) (ks fs : List Bs) (p : Nat) : Bs := (if obj then quoteP (keyAt ks p) ++ [58] else []) ++ fs.getD p []
/-- What stands between the brackets. -/
def itemsL (obj : Bool) (ks fs : List Bs) : List Bs := (orderP obj ks fs.length).map (memP obj ks fs)
theorem itemsL_len (obj : Bool) (ks fs : List Bs) : (itemsL obj ks fs).length = fs.length := by simp [itemsL, orderP_len]

mutual
/-- A value's form. -/
def layP : Jv → Bs
  | .mk k i t l ks => if k = 0 then wNull else if k = 1 then wFalse else if k = 2 then wTrue else if k = 3 then Lib.itoa i else if k = 4 then quoteP t
      else (if k == 6 then 123 else 91) :: (joinC (itemsL (k == 6) ks (laysP l)) ++ [if k == 6 then 125 else 93])
def laysP : List Jv → List Bs
  | [] => []
  | j :: r => layP j :: laysP r
end
theorem laysP_eq : ∀ l : List Jv, laysP l = l.map layP
  | [] => by simp [laysP]
  | j :: r => by rw [laysP, laysP_eq r]; rfl
theorem laysP_len (l : List Jv) : (laysP l).length = l.length := by rw [laysP_eq, List.length_map]
theorem laysP_get (l : List Jv) (p : Nat) (h : p < l.length) : (laysP l).getD p [] = layP l[p] := by rw [laysP_eq]; simp [List.getD, h]
theorem checksP_all : ∀ (n : Nat) (l : List Jv), checksP n l = 0 → ∀ x ∈ l, checkP n x = 0
  | n, [], _, x, hx => by simp at hx
  | n, j :: r, h, x, hx => by
    rw [checksP] at h
    split at h
    · rename_i hz
      rcases List.mem_cons.1 hx with rfl | hx
      · exact hz
      · exact checksP_all n r h x hx
    · rename_i hz; exact absurd h hz

theorem form_of (n : Nat) (k i : Int) (t : Bs) (l : List Jv) (ks : List Bs) (h : checkP n (.mk k i t l ks) = 0) : formP k i t l.length ks = true ∧ checksP (n + 1) l = 0 := by
  rw [checkP] at h
  split at h
  · omega
  · split at h
    · rename_i h1 h2; exact ⟨h2, h⟩
    · omega
theorem form_kind {k i : Int} {t : Bs} {n : Nat} {ks : List Bs} (h : formP k i t n ks = true) : 0 ≤ k ∧ k < 7 ∧ (k = 6 → ks.length = n ∧ ks.Nodup) := by
  unfold formP at h
  simp only [Bool.and_eq_true, decide_eq_true_eq, keysOk, Bool.or_eq_true] at h
  obtain ⟨⟨⟨⟨⟨⟨h0, h1⟩, _⟩, h3⟩, _, h5⟩, _⟩, _⟩ := h
  refine ⟨h0, h1, fun e => ⟨?_, h5⟩⟩
  rcases h3 with ⟨_, h3⟩ | ⟨_, h3⟩
  · omega
  · subst e; simp at h3


/-- What Text answers. -/
def textT (j : Jv) : Bs × Nat := if checkP 0 j = 0 then (if 65536 < (layP j).length then ([], 92) else (layP j, 0)) else ([], checkP 0 j)


/-- How much keys hold. -/
def szK : List Bs → Nat
  | [] => 0
  | s :: r => s.length + 1 + szK r
mutual
/-- How much a value holds. -/
def szJ : Jv → Nat
  | .mk _ _ t l ks => 5 + t.length + szL l + szK ks
def szL : List Jv → Nat
  | [] => 0
  | j :: r => szJ j + szL r
end
theorem szL_snoc (l : List Jv) (j : Jv) : szL (l ++ [j]) = szL l + szJ j := by
  induction l with
  | nil => simp [szL]
  | cons a r ih => simp only [List.cons_append, szL, ih]; omega
theorem szL_len : ∀ l : List Jv, l.length ≤ szL l
  | [] => by simp [szL]
  | j :: r => by have := szL_len r; cases j; simp only [szL, szJ, List.length_cons]; omega
theorem szK_len : ∀ ks : List Bs, ks.length ≤ szK ks
  | [] => by simp [szK]
  | s :: r => by have := szK_len r; simp only [szK, List.length_cons]; omega
theorem szK_mem : ∀ (ks : List Bs) (s : Bs), s ∈ ks → s.length ≤ szK ks
  | [], s, h => by simp at h
  | t :: r, s, h => by
    rcases List.mem_cons.1 h with rfl | h
    · simp only [szK]; omega
    · have := szK_mem r s h; simp only [szK]; omega
end Go.Proofs.YteeijmfnjcddmaaGreatDoor
