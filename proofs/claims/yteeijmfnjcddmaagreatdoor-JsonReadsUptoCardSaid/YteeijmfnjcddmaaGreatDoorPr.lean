/- JSON, plain: a value is read from its form as what it was, but for the order of members. -/
import Derived.Test.YteeijmfnjcddmaaGreatDoorPb
import Derived.Lib.AtoiAllCases
namespace Go.Proofs.YteeijmfnjcddmaaGreatDoor

/-- What may stand behind a value: its end, a comma, a bracket. -/
def Fol (r : Bs) : Prop := r = [] ∨ ∃ c u, r = c :: u ∧ (c = 44 ∨ c = 93 ∨ c = 125)
theorem Fol.nb {r : Bs} (h : Fol r) : blanks r = r := by
  rcases h with rfl | ⟨c, u, rfl, h⟩
  · rfl
  · rcases h with rfl | rfl | rfl <;> rfl

/- Numbers. -/
theorem dig_ten : ∀ k : Fin 10, isDig (UInt8.ofNat (48 + k.val)) = true ∧ (UInt8.ofNat (48 + k.val)).toNat = 48 + k.val := by decide
theorem dig_of {k : Nat} (h : k < 10) : isDig (UInt8.ofNat (48 + k)) = true ∧ (UInt8.ofNat (48 + k)).toNat = 48 + k := dig_ten ⟨k, h⟩
theorem dec_dig (u : Nat) : ∀ c ∈ Lib.decDigits u, isDig c = true := by
  intro c hc
  rw [Lib.decDigits] at hc
  split at hc
  · rename_i h
    rw [List.mem_singleton] at hc
    subst hc
    exact (dig_of h).1
  · rename_i h
    rcases List.mem_append.1 hc with hc | hc
    · exact dec_dig (u / 10) c hc
    · rw [List.mem_singleton] at hc
      subst hc
      exact (dig_of (by omega)).1
termination_by u
theorem dec_ne (u : Nat) : Lib.decDigits u ≠ [] := by
  intro h
  have h1 := Lib.decDigits_length u
  have h2 := Lib.nDigits_pos u
  rw [h] at h1
  simp only [List.length_nil] at h1
  omega
theorem dec_head (u : Nat) (h0 : u ≠ 0) : (Lib.decDigits u).head? ≠ some 48 := by
  rw [Lib.decDigits]
  split
  · rename_i h
    simp only [List.head?_cons, ne_eq, Option.some.injEq]
    intro e
    have := (dig_of h).2
    rw [e] at this
    have e2 : (48 : UInt8).toNat = 48 := rfl
    omega
  · rename_i h
    have ih := dec_head (u / 10) (by omega)
    have hn := dec_ne (u / 10)
    revert ih hn
    cases Lib.decDigits (u / 10) with
    | nil => intro _ hn; exact absurd rfl hn
    | cons c r => intro ih _; simpa using ih
termination_by u
theorem pu_snoc (k : Nat) (hk : k < 10) : ∀ (l : Bs) (acc v : Nat), Lib.parseUint10 acc l = .ok v → v < 1844674407370955161 → Lib.parseUint10 acc (l ++ [UInt8.ofNat (48 + k)]) = .ok (v * 10 + k)
  | [], acc, v, h, hv => by
    simp only [Lib.parseUint10] at h
    injection h with h
    subst h
    have hd := (dig_of hk).2
    simp only [List.nil_append, Lib.parseUint10, hd]
    rw [if_pos (by omega), if_neg (by omega), if_neg (by omega)]
    congr 1
    omega
  | c :: r, acc, v, h, hv => by
    simp only [List.cons_append, Lib.parseUint10] at h ⊢
    split at h
    · rename_i h1
      rw [if_pos h1]
      split at h
      · cases h
      · rename_i h2
        rw [if_neg h2]
        split at h
        · cases h
        · rename_i h3
          rw [if_neg h3]
          exact pu_snoc k hk r _ v h hv
    · cases h
theorem pu_dec (u : Nat) (h : u < 1844674407370955161) : Lib.parseUint10 0 (Lib.decDigits u) = .ok u := by
  rw [Lib.decDigits]
  split
  · rename_i h1
    have := pu_snoc u h1 [] 0 0 rfl (by omega)
    simpa using this
  · rename_i h1
    have ih := pu_dec (u / 10) (by omega)
    have := pu_snoc (u % 10) (by omega) _ 0 (u / 10) ih (by omega)
    rw [this]
    congr 1
    omega
termination_by u
theorem mag_dec (u : Nat) (h : u < 1844674407370955161) : Lib.parseMag (Lib.decDigits u) = .ok u := by
  unfold Lib.parseMag
  rw [if_neg (dec_ne u), pu_dec u h]
theorem atoi_itoa (n : Int) (h0 : -maxInt ≤ n) (h1 : n ≤ maxInt) : Lib.atoiAll (Lib.itoa n) = .ok n := by
  unfold maxInt at h0 h1
  unfold Lib.itoa
  split
  · rename_i hn
    rw [Lib.atoiAll_minus, mag_dec _ (by omega)]
    unfold Lib.signed
    simp only
    split
    · omega
    · congr 1; omega
  · rename_i hn
    have hm := mag_dec n.toNat (by omega)
    have hd := dec_dig n.toNat
    have hne := dec_ne n.toNat
    revert hm hd hne
    cases Lib.decDigits n.toNat with
    | nil => intro _ _ h; exact absurd rfl h
    | cons c r =>
      intro hm hd _
      have hc := hd c (by simp)
      have hc2 : 48 ≤ c.toNat := by
        unfold isDig at hc
        simp only [Bool.and_eq_true, decide_eq_true_eq] at hc
        exact UInt8.le_iff_toNat_le.1 hc.1
      rw [Lib.atoiAll_plain c r (by omega) (by omega), hm]
      unfold Lib.signless
      simp only
      split
      · omega
      · congr 1; omega
theorem exact_itoa (n : Int) (h0 : -maxInt ≤ n) (h1 : n ≤ maxInt) : exactP (Lib.itoa n) = some n := by
  unfold exactP
  rw [atoi_itoa n h0 h1]
  simp only
  rw [if_pos ⟨trivial, h1, h0⟩]
theorem digs_all (a r : Bs) (ha : ∀ c ∈ a, isDig c = true) (hr : digs r = 0) : digs (a ++ r) = a.length := by
  induction a with
  | nil => exact hr
  | cons c t ih =>
    unfold digs at ih ⊢
    rw [List.cons_append, List.takeWhile_cons, ha c (by simp)]
    simp only [if_true, List.length_cons]
    rw [ih (fun x hx => ha x (by simp [hx]))]
theorem Fol.digs {r : Bs} (h : Fol r) : digs r = 0 ∧ fracP r = 0 ∧ expP r = 0 := by
  rcases h with rfl | ⟨c, u, rfl, h⟩
  · exact ⟨rfl, rfl, rfl⟩
  · rcases h with rfl | rfl | rfl <;> exact ⟨rfl, by simp [fracP], by simp [expP]⟩
theorem whole_dec (u : Nat) (r : Bs) (h : Fol r) : wholeP (Lib.decDigits u ++ r) = (Lib.decDigits u).length := by
  unfold wholeP
  by_cases hu : u = 0
  · subst hu
    have e : Lib.decDigits 0 = [48] := by rw [Lib.decDigits_one (by omega)]; rfl
    rw [e, List.singleton_append, List.head?_cons, if_pos rfl]; rfl
  · rw [if_neg, digs_all _ _ (dec_dig u) h.digs.1]
    have h1 := dec_head u hu
    have h2 := dec_ne u
    revert h1 h2
    cases Lib.decDigits u with
    | nil => intro _ h; exact absurd rfl h
    | cons c t => intro h _; simpa using h
theorem num_itoa (n : Int) (r : Bs) (h : Fol r) : numP (Lib.itoa n ++ r) = (Lib.itoa n).length := by
  obtain ⟨_, hf, he⟩ := h.digs
  have key : ∀ (u i : Nat) (s : Bs), minusP s = i → s.drop i = Lib.decDigits u ++ r → numP s = i + (Lib.decDigits u).length := by
    intro u i s hi hs
    have hl : 0 < (Lib.decDigits u).length := by
      have := dec_ne u
      revert this
      cases Lib.decDigits u with
      | nil => intro h; exact absurd rfl h
      | cons c t => intro _; simp
    unfold numP
    simp only [hi, hs, whole_dec u r h]
    rw [if_neg (by omega)]
    have e : s.drop (i + (Lib.decDigits u).length) = r := by rw [← List.drop_drop, hs, List.drop_left]
    rw [e, hf, Nat.add_zero, e, he, Nat.add_zero]
  unfold Lib.itoa
  split
  · rw [key n.natAbs 1 _ rfl rfl]; simp only [List.length_cons]; omega
  · rw [key n.toNat 0 _ _ (by rw [List.drop_zero])]
    · omega
    · have hd := dec_dig n.toNat
      have h2 := dec_ne n.toNat
      revert hd h2
      cases Lib.decDigits n.toNat with
      | nil => intro _ h; exact absurd rfl h
      | cons c t =>
        intro hd _
        have hc := hd c (by simp)
        unfold minusP
        rw [if_neg]
        intro e
        simp only [List.cons_append, List.head?_cons, Option.some.injEq] at e
        subst e
        revert hc; decide
/-- The head of a number. -/
theorem itoa_head (n : Int) : ∃ c t, Lib.itoa n = c :: t ∧ (isDig c = true ∨ c = 45) := by
  unfold Lib.itoa
  split
  · exact ⟨_, _, rfl, Or.inr rfl⟩
  · have hd := dec_dig n.toNat
    have h2 := dec_ne n.toNat
    revert hd h2
    cases Lib.decDigits n.toNat with
    | nil => intro _ h; exact absurd rfl h
    | cons c t => intro hd _; exact ⟨c, t, rfl, Or.inl (hd c (by simp))⟩
theorem word_none {w s : Bs} {c d : UInt8} {t u : Bs} (hw : w = c :: t) (hs : s = d :: u) (h : c ≠ d) : takeP w s = none := by
  subst hw hs
  unfold takeP
  rw [if_neg]
  intro hp
  have := (List.cons_prefix_cons.1 hp).1
  exact h this
theorem num_read (n : Int) (h0 : -maxInt ≤ n) (h1 : n ≤ maxInt) (d : Nat) (r : Bs) (hr : Fol r) : valueP d (Lib.itoa n ++ r) = .ok (.mk 3 n [] [] [], blanks r) := by
  have hN := num_itoa n r hr
  have hX := exact_itoa n h0 h1
  obtain ⟨c, t, hc, hh⟩ := itoa_head n
  have hne : ∀ x : UInt8, isDig x = false → x ≠ 45 → c ≠ x := fun x hx h45 e => by
    subst e
    rcases hh with hh | hh
    · rw [hx] at hh; cases hh
    · exact h45 hh
  have e : Lib.itoa n ++ r = c :: (t ++ r) := by rw [hc]; rfl
  rw [valueP_head d _ (by rw [e]; simpa using hne 34 (by decide) (by decide)) (by rw [e]; simpa using hne 91 (by decide) (by decide)) (by rw [e]; simpa using hne 123 (by decide) (by decide))]
  unfold wordP
  rw [word_none (w := wNull) (t := wNull.tail) rfl e (hne _ (by decide) (by decide)).symm, word_none (w := wFalse) (t := wFalse.tail) rfl e (hne _ (by decide) (by decide)).symm, word_none (w := wTrue) (t := wTrue.tail) rfl e (hne _ (by decide) (by decide)).symm]
  simp only
  rw [hN, List.take_left, List.drop_left, hX, if_neg]
  rw [hc]; simp

/- Texts. -/
theorem q_two (c : UInt8) : ([34, 92, 0, 1, 2, 3, 4, 5, 6, 7, 8, 9, 10, 11, 12, 13, 14, 15, 16, 17, 18, 19, 20, 21, 22, 23, 24, 25, 26, 27, 28, 29, 30, 31].contains c = true) ∨ (quoteC c = [c] ∧ ¬ c < 32 ∧ c ≠ 34 ∧ c ≠ 92) := by
  have h := forall_u8 (p := fun c => [34, 92, 0, 1, 2, 3, 4, 5, 6, 7, 8, 9, 10, 11, 12, 13, 14, 15, 16, 17, 18, 19, 20, 21, 22, 23, 24, 25, 26, 27, 28, 29, 30, 31].contains c || (decide (quoteC c = [c]) && decide (¬ c < 32) && decide (c ≠ 34) && decide (c ≠ 92))) (by decide +kernel) c
  simp only [Bool.or_eq_true, Bool.and_eq_true, decide_eq_true_eq] at h
  rcases h with h | h
  · exact Or.inl h
  · exact Or.inr ⟨h.1.1.1, h.1.1.2, h.1.2, h.2⟩
theorem q_esc {c : UInt8} (h : [34, 92, 0, 1, 2, 3, 4, 5, 6, 7, 8, 9, 10, 11, 12, 13, 14, 15, 16, 17, 18, 19, 20, 21, 22, 23, 24, 25, 26, 27, 28, 29, 30, 31].contains c = true) : ∃ u, quoteC c = 92 :: u ∧ ∀ t, escP (92 :: (u ++ t)) = some ([c], t) := by
  simp only [List.contains_eq_mem, List.mem_cons, List.mem_nil_iff, or_false, decide_eq_true_eq] at h
  rcases h with rfl | rfl | rfl | rfl | rfl | rfl | rfl | rfl | rfl | rfl | rfl | rfl | rfl | rfl | rfl | rfl | rfl | rfl | rfl | rfl | rfl | rfl | rfl | rfl | rfl | rfl | rfl | rfl | rfl | rfl | rfl | rfl | rfl | rfl <;> exact ⟨_, rfl, fun t => rfl⟩
theorem flat_ge (s : Bs) : s.length ≤ (s.flatMap quoteC).length := by
  induction s with
  | nil => simp
  | cons c r ih =>
    have h1 : 1 ≤ (quoteC c).length := by
      unfold quoteC; repeat' split
      all_goals simp
    simp only [List.flatMap_cons, List.length_append, List.length_cons]; omega
theorem quote_read (rest : Bs) : ∀ (s acc : Bs) (f : Nat), s.length < f → strP f (s.flatMap quoteC ++ 34 :: rest) acc = if Lib.validD (acc ++ s) then some (acc ++ s, blanks rest) else none
  | [], acc, 0, h => by simp at h
  | [], acc, f + 1, _ => by
    rw [List.flatMap_nil, List.nil_append, strP_cons, if_neg (by decide), if_pos rfl, List.append_nil]
  | c :: s, acc, 0, h => by simp at h
  | c :: s, acc, f + 1, h => by
    have ih := quote_read rest s (acc ++ [c]) f (by simpa using h)
    have e2 : acc ++ [c] ++ s = acc ++ c :: s := by simp
    rw [e2] at ih
    rw [List.flatMap_cons, List.append_assoc]
    rcases q_two c with hc | ⟨hc, h1, h2, h3⟩
    · obtain ⟨u, hu, he⟩ := q_esc hc
      rw [hu, List.cons_append, strP_cons, if_neg (by decide), if_neg (by decide), if_pos rfl, he]
      exact ih
    · rw [hc, List.singleton_append, strP_cons, if_neg h1, if_neg h2, if_neg h3]
      exact ih
theorem quoteP_app (t r : Bs) : quoteP t ++ r = 34 :: (t.flatMap quoteC ++ 34 :: r) := by
  unfold quoteP; simp
theorem text_read (t rest : Bs) (h : Lib.validD t = true) : textP (quoteP t ++ rest) = some (t, blanks rest) := by
  rw [quoteP_app]
  have e : ∀ u : Bs, textP (34 :: u) = strP ((34 :: u).length) u [] := fun u => rfl
  have hl := flat_ge t
  rw [e, quote_read rest t [] _ (by simp only [List.length_cons, List.length_append]; omega), List.nil_append, if_pos h]

/- Values. -/
mutual
/-- All forms are as they must be. -/
def okJ : Jv → Bool
  | .mk k i t l ks => formP k i t l.length ks && oksJ l
def oksJ : List Jv → Bool
  | [] => true
  | j :: r => okJ j && oksJ r
end
mutual
/-- How deep a value is. -/
def dep : Jv → Nat
  | .mk k _ _ l _ => if nestK k then 1 + deps l else 0
def deps : List Jv → Nat
  | [] => 0
  | j :: r => max (dep j) (deps r)
end
mutual
/-- A value with all members in the order of their keys, however deep. -/
def sortJ : Jv → Jv
  | .mk k i t l ks => if k = 6 then .mk k i t ((orderP true ks l.length).map (fun p => (sortsJ l).getD p Jv.nul)) ((orderP true ks l.length).map (keyAt ks)) else .mk k i t (sortsJ l) ks
def sortsJ : List Jv → List Jv
  | [] => []
  | j :: r => sortJ j :: sortsJ r
end
theorem oksJ_all : ∀ {l : List Jv}, oksJ l = true → ∀ x ∈ l, okJ x = true
  | [], _, x, hx => by simp at hx
  | j :: r, h, x, hx => by
    rw [oksJ, Bool.and_eq_true] at h
    rcases List.mem_cons.1 hx with rfl | hx
    · exact h.1
    · exact oksJ_all h.2 x hx
theorem oksJ_of : ∀ {l : List Jv}, (∀ x ∈ l, okJ x = true) → oksJ l = true
  | [], _ => rfl
  | j :: r, h => by rw [oksJ, h j (by simp), oksJ_of (fun x hx => h x (by simp [hx]))]; rfl
theorem deps_le {d : Nat} : ∀ {l : List Jv}, deps l ≤ d ↔ ∀ x ∈ l, dep x ≤ d
  | [] => by simp [deps]
  | j :: r => by
    rw [deps, Nat.max_le, deps_le (l := r)]
    simp
theorem sortsJ_eq : ∀ l : List Jv, sortsJ l = l.map sortJ
  | [] => by rw [sortsJ]; rfl
  | j :: r => by rw [sortsJ, sortsJ_eq r]; rfl

/-- What a form says. -/
theorem form_all {k i : Int} {t : Bs} {n : Nat} {ks : List Bs} (h : formP k i t n ks = true) : (0 ≤ k ∧ k < 7) ∧ (nestK k = false → n = 0) ∧ (k = 6 → ks.length = n) ∧ (k ≠ 6 → ks = []) ∧ (∀ s ∈ ks, Lib.validD s = true) ∧ ks.Nodup ∧
    (k = 3 → -maxInt ≤ i ∧ i ≤ maxInt) ∧ (k ≠ 3 → i = 0) ∧ (k ≠ 4 → t = []) ∧ Lib.validD t = true := by
  unfold formP at h
  simp only [Bool.and_eq_true, decide_eq_true_eq, keysOk, Bool.or_eq_true, intIn, textIn, beq_iff_eq, bne_iff_ne, List.all_eq_true] at h
  obtain ⟨⟨⟨⟨⟨⟨h0, h1⟩, h2⟩, h3⟩, h4, h5⟩, h6⟩, h7⟩ := h
  unfold maxInt
  refine ⟨⟨h0, h1⟩, fun hk => ?_, fun hk => ?_, fun hk => ?_, h4, h5, fun hk => ?_, fun hk => ?_, fun hk => ?_, ?_⟩
  · rcases h2 with h2 | h2
    · rw [hk] at h2; cases h2
    · omega
  · rcases h3 with ⟨_, h3⟩ | ⟨_, h3⟩
    · omega
    · exact absurd hk h3
  · rcases h3 with ⟨h3, _⟩ | ⟨h3, _⟩
    · exact absurd h3 hk
    · exact List.eq_nil_of_length_eq_zero (by omega)
  · rcases h6 with h6 | h6
    · omega
    · omega
  · rcases h6 with h6 | h6
    · exact h6
    · exact absurd h6.1.1 hk
  · rcases h7 with h7 | h7
    · exact h7
    · exact absurd h7.1 hk
  · rcases h7 with h7 | h7
    · rw [h7]; rfl
    · exact h7.2
theorem dep_nest {k i : Int} {t : Bs} {l : List Jv} {ks : List Bs} (h : nestK k = true) : dep (.mk k i t l ks) = 1 + deps l := by rw [dep, if_pos h]
theorem dep_leaf {k i : Int} {t : Bs} {l : List Jv} {ks : List Bs} (h : nestK k = false) : dep (.mk k i t l ks) = 0 := by rw [dep, if_neg (by simp [h])]
theorem nest_no {k : Int} : nestK k = false ↔ k ≠ 5 ∧ k ≠ 6 := by unfold nestK; simp
/-- Check, by form and depth. -/
theorem check_dep : ∀ (j : Jv) (n : Nat), n ≤ 32 → okJ j = true → checkP n j = if n + dep j ≤ 32 then 0 else 91
  | .mk k i t l ks, n, hn, h => by
    rw [okJ, Bool.and_eq_true] at h
    obtain ⟨hf, hl⟩ := h
    have hnl := (form_all hf).2.1
    rw [checkP, dep]
    cases hk : nestK k with
    | false =>
      have : l = [] := List.eq_nil_of_length_eq_zero (hnl hk)
      subst this
      simp only [Bool.false_and, Bool.false_eq_true, if_false]
      rw [if_pos hf, if_pos (by omega)]
      rfl
    | true =>
      simp only [Bool.true_and, if_true]
      by_cases h32 : (n : Int) < 32
      · rw [if_neg (by simpa using h32), if_pos hf]
        have ih : ∀ x ∈ l, checkP (n + 1) x = if n + 1 + dep x ≤ 32 then 0 else 91 := fun x hx => check_dep x (n + 1) (by omega) (oksJ_all hl x hx)
        clear hnl hf hl hk
        induction l with
        | nil => rw [checksP, deps, if_pos (by omega)]
        | cons x r ihr =>
          rw [checksP, ih x (by simp)]
          have i2 := ihr (fun y hy => ih y (by simp [hy]))
          by_cases hx : n + 1 + dep x ≤ 32
          · rw [if_pos hx, if_pos rfl, i2, deps]
            by_cases h2 : n + (1 + deps r) ≤ 32
            · rw [if_pos h2, if_pos (by omega)]
            · rw [if_neg h2, if_neg (by omega)]
          · rw [if_neg hx, if_neg (by decide), deps, if_neg (by omega)]
      · rw [if_pos (by simpa using h32), if_neg (by omega)]
termination_by j => SizeOf.sizeOf j
decreasing_by
  have := List.sizeOf_lt_of_mem hx
  simp_wf
  omega
theorem check_form : ∀ (j : Jv) (n : Nat), checkP n j = 0 → okJ j = true
  | .mk k i t l ks, n, h => by
    obtain ⟨hf, hc⟩ := form_of n k i t l ks h
    rw [okJ, hf, Bool.true_and]
    refine oksJ_of fun x hx => check_form x (n + 1) (checksP_all _ _ hc x hx)
termination_by j => SizeOf.sizeOf j
decreasing_by
  have := List.sizeOf_lt_of_mem hx
  simp_wf
  omega

/-- The head of a form. -/
theorem lay_head (j : Jv) (h : okJ j = true) : ∃ c u, layP j = c :: u ∧ c ∉ blankCs ∧ c ≠ 93 ∧ c ≠ 125 ∧ c ≠ 44 := by
  cases j with
  | mk k i t l ks =>
    rw [layP]
    split
    · exact ⟨_, _, rfl, by decide, by decide, by decide, by decide⟩
    · split
      · exact ⟨_, _, rfl, by decide, by decide, by decide, by decide⟩
      · split
        · exact ⟨_, _, rfl, by decide, by decide, by decide, by decide⟩
        · split
          · obtain ⟨c, u, hc, hh⟩ := itoa_head i
            refine ⟨c, u, hc, ?_⟩
            have hne : ∀ x : UInt8, isDig x = false → x ≠ 45 → c ≠ x := fun x hx h45 e => by
              subst e
              rcases hh with hh | hh
              · rw [hx] at hh; cases hh
              · exact h45 hh
            refine ⟨fun hb => ?_, hne _ (by decide) (by decide), hne _ (by decide) (by decide), hne _ (by decide) (by decide)⟩
            rcases bl_cases hb with e | e | e | e
            · exact hne 32 (by decide) (by decide) e
            · exact hne 9 (by decide) (by decide) e
            · exact hne 10 (by decide) (by decide) e
            · exact hne 13 (by decide) (by decide) e
          · split
            · exact ⟨34, _, rfl, by decide, by decide, by decide, by decide⟩
            · split
              · exact ⟨123, _, rfl, by decide, by decide, by decide, by decide⟩
              · exact ⟨91, _, rfl, by decide, by decide, by decide, by decide⟩
theorem blanks_head {c : UInt8} {s : Bs} (h : c ∉ blankCs) : blanks (c :: s) = c :: s := by
  unfold blanks Lib.trimLeftS
  rw [List.dropWhile_cons]
  have : blankCs.contains c = false := by simpa using h
  simp only [this, Bool.false_eq_true, if_false]
theorem take_head (c : UInt8) (s : Bs) : takeP [c] (c :: s) = some (blanks s) := by
  unfold takeP
  rw [if_pos (by simp)]
  rfl
theorem take_other {c d : UInt8} (h : c ≠ d) (s : Bs) : takeP [c] (d :: s) = none := word_none rfl rfl h

/-- A member, or an element, by itself. -/
def memQ (obj : Bool) (p : Bs × Jv) : Bs := (if obj then quoteP p.1 ++ [58] else []) ++ layP p.2
/-- What reading has to give at a value. -/
def RTa (d : Nat) (j : Jv) : Prop := ∀ rest, Fol rest → valueP d (layP j ++ rest) = if dep j ≤ d then .ok (sortJ j, blanks rest) else .error 91
theorem key_read (obj : Bool) (key : Bs) (j : Jv) (rest : Bs) (ks : List Bs) (hj : okJ j = true) (hv : obj = true → Lib.validD key = true ∧ key ∉ ks) :
    keyP obj (memQ obj (key, j) ++ rest) ks = .ok (if obj then ks ++ [key] else ks, layP j ++ rest) := by
  unfold keyP memQ
  cases obj with
  | false => rfl
  | true =>
    obtain ⟨h1, h2⟩ := hv rfl
    obtain ⟨c, u, hc, hb, _⟩ := lay_head j hj
    simp only [if_true]
    rw [List.append_assoc, List.append_assoc, text_read key _ h1]
    simp only
    rw [if_neg (by simpa using h2)]
    have e : blanks ([58] ++ (layP j ++ rest)) = 58 :: (layP j ++ rest) := blanks_head (by decide)
    rw [e, take_head, hc, List.cons_append, blanks_head hb]
theorem items_read (d : Nat) (obj : Bool) (close : UInt8) (hcl : close = 93 ∨ close = 125) (rest : Bs) : ∀ (its : List (Bs × Jv)) (f : Nat) (l : List Jv) (ks : List Bs), its ≠ [] → its.length ≤ f →
    (∀ p ∈ its, RTa d p.2 ∧ okJ p.2 = true ∧ (obj = true → Lib.validD p.1 = true)) → (obj = true → (ks ++ its.map Prod.fst).Nodup) →
    itemsP (valueP d) obj close f (joinC (its.map (memQ obj)) ++ close :: rest) l ks = if its.all (fun p => decide (dep p.2 ≤ d)) then .ok (.mk (if obj then 6 else 5) 0 [] (l ++ its.map (fun p => sortJ p.2)) (if obj then ks ++ its.map Prod.fst else ks), blanks rest) else .error 91
  | [], _, _, _, h, _, _, _ => absurd rfl h
  | p :: r, 0, _, _, _, h, _, _ => by simp at h
  | (key, j) :: r, f + 1, l, ks, _, hf, hall, hnd => by
    obtain ⟨hrt, hok, hval⟩ := hall (key, j) (by simp)
    have hkey : obj = true → Lib.validD key = true ∧ key ∉ ks := fun ho => by
      refine ⟨hval ho, fun hm => ?_⟩
      have := hnd ho
      rw [List.map_cons, List.nodup_append] at this
      exact this.2.2 key hm key (by simp) rfl
    have hclb : close ∉ blankCs := by rcases hcl with rfl | rfl <;> decide
    have hc44 : close ≠ 44 := by rcases hcl with rfl | rfl <;> decide
    cases r with
    | nil =>
      have e : joinC ([(key, j)].map (memQ obj)) ++ close :: rest = memQ obj (key, j) ++ (close :: rest) := by simp [joinC]
      rw [e]
      unfold itemsP
      rw [key_read obj key j _ ks hok hkey]
      simp only
      rw [hrt _ (Or.inr ⟨close, rest, rfl, Or.inr hcl⟩)]
      by_cases hd : dep j ≤ d
      · rw [if_pos hd]
        simp only
        rw [blanks_head hclb, take_head]
        simp [hd]
      · rw [if_neg hd]
        simp [hd]
    | cons q r' =>
      have e : joinC (((key, j) :: q :: r').map (memQ obj)) ++ close :: rest = memQ obj (key, j) ++ (44 :: (joinC ((q :: r').map (memQ obj)) ++ close :: rest)) := by simp [joinC]
      rw [e]
      unfold itemsP
      rw [key_read obj key j _ ks hok hkey]
      simp only
      rw [hrt _ (Or.inr ⟨44, _, rfl, Or.inl rfl⟩)]
      by_cases hd : dep j ≤ d
      · rw [if_pos hd]
        simp only
        rw [blanks_head (by decide), take_other hc44, take_head]
        simp only
        have hb : blanks (joinC ((q :: r').map (memQ obj)) ++ close :: rest) = joinC ((q :: r').map (memQ obj)) ++ close :: rest := by
          obtain ⟨c, u, hc, hcb, _⟩ := lay_head q.2 (hall q (by simp)).2.1
          have : ∃ c' u', joinC ((q :: r').map (memQ obj)) = c' :: u' ∧ c' ∉ blankCs := by
            cases obj with
            | false => exact ⟨c, _, by simp only [List.map_cons, joinC, memQ, Bool.false_eq_true, if_false, List.nil_append, hc, List.cons_append]; rfl, hcb⟩
            | true => exact ⟨34, _, by simp only [List.map_cons, joinC, memQ, if_true, quoteP, List.cons_append]; rfl, by decide⟩
          obtain ⟨c', u', hc', hb'⟩ := this
          rw [hc', List.cons_append, blanks_head hb']
        rw [hb, items_read d obj close hcl rest (q :: r') f (l ++ [sortJ j]) (if obj then ks ++ [key] else ks) (by simp) (by simpa using hf) (fun p hp => hall p (by simp [hp])) (fun ho => by
          have := hnd ho
          rw [ho, if_pos rfl]
          simpa using this)]
        rw [List.all_cons (a := (key, j))]
        simp only [hd, decide_true, Bool.true_and]
        congr 1
        cases obj with
        | false => simp
        | true => simp
      · rw [if_neg hd]
        simp only [List.all_cons, hd, decide_false, Bool.false_and, Bool.false_eq_true, if_false]
/-- The members in their order. -/
def membs (obj : Bool) (l : List Jv) (ks : List Bs) : List (Bs × Jv) := (orderP obj ks l.length).map (fun p => (keyAt ks p, l.getD p Jv.nul))
theorem membs_lay (obj : Bool) (l : List Jv) (ks : List Bs) : itemsL obj ks (laysP l) = (membs obj l ks).map (memQ obj) := by
  unfold itemsL membs
  rw [List.map_map, laysP_len]
  apply List.map_congr_left
  intro p hp
  have hlt := orderP_lt hp
  simp only [Function.comp, memP, memQ]
  rw [laysP_get l p hlt]
  simp [List.getD, hlt]
theorem membs_len (obj : Bool) (l : List Jv) (ks : List Bs) : (membs obj l ks).length = l.length := by simp [membs, orderP_len]
theorem membs_mem {obj : Bool} {l : List Jv} {ks : List Bs} {p : Bs × Jv} (h : p ∈ membs obj l ks) : p.2 ∈ l ∧ (ks.length = l.length → p.1 ∈ ks) := by
  unfold membs at h
  obtain ⟨q, hq, rfl⟩ := List.mem_map.1 h
  have hlt := orderP_lt hq
  refine ⟨by simp [List.getD, hlt], fun hl => ?_⟩
  have : q < ks.length := by omega
  simp [keyAt, List.getD, this]
theorem range_get {α : Type} (l : List α) (a : α) : (List.range l.length).map (fun p => l.getD p a) = l := by
  apply List.ext_getElem
  · simp
  · intro i h1 h2
    simp at h1
    simp [List.getD, h1]
theorem membs_keys {l : List Jv} {ks : List Bs} (hl : ks.length = l.length) : ((membs true l ks).map Prod.fst).Perm ks := by
  have e : (membs true l ks).map Prod.fst = (orderP true ks l.length).map (keyAt ks) := by unfold membs; rw [List.map_map]; rfl
  rw [e]
  have := (orderP_perm true ks l.length).map (keyAt ks)
  rw [← hl] at this ⊢
  have e2 : (List.range ks.length).map (keyAt ks) = ks := range_get ks []
  rwa [e2] at this
theorem membs_vals (obj : Bool) (l : List Jv) (ks : List Bs) : ((membs obj l ks).map Prod.snd).Perm l := by
  have e : (membs obj l ks).map Prod.snd = (orderP obj ks l.length).map (fun p => l.getD p Jv.nul) := by unfold membs; rw [List.map_map]; rfl
  rw [e]
  have := (orderP_perm obj ks l.length).map (fun p => l.getD p Jv.nul)
  rwa [range_get] at this
theorem membs_sort (obj : Bool) (l : List Jv) (ks : List Bs) : (membs obj l ks).map (fun p => sortJ p.2) = (orderP obj ks l.length).map (fun p => (sortsJ l).getD p Jv.nul) := by
  unfold membs
  rw [List.map_map]
  apply List.map_congr_left
  intro p hp
  have hlt := orderP_lt hp
  simp [sortsJ_eq, List.getD, hlt]
theorem nest_read (d : Nat) (obj : Bool) (close : UInt8) (hcl : close = 93 ∨ close = 125) (rest : Bs) (l : List Jv) (ks : List Bs) (hrt : ∀ x ∈ l, RTa d x) (hok : ∀ x ∈ l, okJ x = true) (hk : obj = true → ks.length = l.length ∧ ks.Nodup ∧ ∀ s ∈ ks, Lib.validD s = true) :
    nestP (valueP d) obj close (blanks (joinC (itemsL obj ks (laysP l)) ++ close :: rest)) = if deps l ≤ d then .ok (.mk (if obj then 6 else 5) 0 [] ((orderP obj ks l.length).map (fun p => (sortsJ l).getD p Jv.nul)) (if obj then (orderP true ks l.length).map (keyAt ks) else []), blanks rest) else .error 91 := by
  have hclb : close ∉ blankCs := by rcases hcl with rfl | rfl <;> decide
  rw [membs_lay]
  have hlen := membs_len obj l ks
  have hmem : ∀ p ∈ membs obj l ks, RTa d p.2 ∧ okJ p.2 = true ∧ (obj = true → Lib.validD p.1 = true) := fun p hp => by
    obtain ⟨h1, h2⟩ := membs_mem hp
    exact ⟨hrt _ h1, hok _ h1, fun ho => (hk ho).2.2 _ (h2 (hk ho).1)⟩
  have hnd : obj = true → ((membs obj l ks).map Prod.fst).Nodup := fun ho => by
    subst ho
    exact (membs_keys (hk rfl).1).nodup_iff.2 (hk rfl).2.1
  have hkeys : obj = true → (membs obj l ks).map Prod.fst = (orderP true ks l.length).map (keyAt ks) := fun ho => by subst ho; unfold membs; rw [List.map_map]; rfl
  have hall : (membs obj l ks).all (fun p => decide (dep p.2 ≤ d)) = decide (deps l ≤ d) := by
    rw [Bool.eq_iff_iff, List.all_eq_true, decide_eq_true_eq, deps_le]
    have hp := (membs_vals obj l ks)
    constructor
    · intro h x hx
      obtain ⟨p, hp1, hp2⟩ := List.mem_map.1 (hp.mem_iff.2 hx)
      have := h p hp1
      subst hp2
      simpa using this
    · intro h p hp1
      simpa using h p.2 (hp.mem_iff.1 (List.mem_map.2 ⟨p, hp1, rfl⟩))
  rw [← membs_sort]
  generalize hM : membs obj l ks = M at *
  cases M with
  | nil =>
    have hl0 : l = [] := List.eq_nil_of_length_eq_zero (by simpa using hlen.symm)
    subst hl0
    have e : joinC (([] : List (Bs × Jv)).map (memQ obj)) ++ close :: rest = close :: rest := rfl
    rw [e, blanks_head hclb]
    unfold nestP
    rw [take_head]
    simp only [deps, Nat.zero_le, if_true]
    cases obj with
    | false => rfl
    | true => rw [if_pos rfl, if_pos rfl, ← hkeys rfl]; rfl
  | cons q r' =>
    obtain ⟨c, u, hc, hcb, hc93, hc125, _⟩ := lay_head q.2 (hmem q (by simp)).2.1
    have hh : ∃ c' u', joinC ((q :: r').map (memQ obj)) = c' :: u' ∧ c' ∉ blankCs ∧ c' ≠ 93 ∧ c' ≠ 125 := by
      cases obj with
      | false => exact ⟨c, _, by simp only [List.map_cons, joinC, memQ, Bool.false_eq_true, if_false, List.nil_append, hc, List.cons_append]; rfl, hcb, hc93, hc125⟩
      | true => exact ⟨34, _, by simp only [List.map_cons, joinC, memQ, if_true, quoteP, List.cons_append]; rfl, by decide, by decide, by decide⟩
    obtain ⟨c', u', hc', hb', h93, h125⟩ := hh
    have hne : close ≠ c' := by rcases hcl with rfl | rfl; exact h93.symm; exact h125.symm
    have hb : blanks (joinC ((q :: r').map (memQ obj)) ++ close :: rest) = joinC ((q :: r').map (memQ obj)) ++ close :: rest := by rw [hc', List.cons_append, blanks_head hb']
    have ht : takeP [close] (joinC ((q :: r').map (memQ obj)) ++ close :: rest) = none := by rw [hc', List.cons_append, take_other hne]
    rw [hb]
    unfold nestP
    rw [ht]
    simp only
    have hle : (q :: r').length ≤ (joinC ((q :: r').map (memQ obj)) ++ close :: rest).length + 1 := by
      have := joinC_len ((q :: r').map (memQ obj))
      simp only [List.length_map] at this
      simp only [List.length_append, List.length_cons] at this ⊢
      omega
    rw [items_read d obj close hcl rest (q :: r') _ [] [] (by simp) hle hmem (fun ho => by simpa using hnd ho), hall]
    simp only [decide_eq_true_eq, List.nil_append]
    cases obj with
    | false => rfl
    | true => rw [if_pos rfl, if_pos rfl, ← hkeys rfl, if_pos rfl]
theorem rest_app (a : Bs) (o c : UInt8) (rest : Bs) : (o :: (a ++ [c])) ++ rest = o :: (a ++ c :: rest) := by simp
/-- A value is read from its form. -/
theorem RT : ∀ (j : Jv) (d : Nat), okJ j = true → RTa d j
  | .mk k i t l ks, d, h => by
    intro rest hr
    rw [okJ, Bool.and_eq_true] at h
    obtain ⟨hf, hl⟩ := h
    obtain ⟨⟨hk0, hk7⟩, hnl, hk6, hkn, hkv, hknd, hi3, hi0, ht4, htv⟩ := form_all hf
    have hkc : k = 0 ∨ k = 1 ∨ k = 2 ∨ k = 3 ∨ k = 4 ∨ k = 5 ∨ k = 6 := by omega
    by_cases hnest : nestK k = false
    · have hl0 : l = [] := List.eq_nil_of_length_eq_zero (hnl hnest)
      subst hl0
      have hks := hkn (nest_no.1 hnest).2
      subst hks
      rw [dep_leaf hnest, if_pos (Nat.zero_le _), sortJ, if_neg (nest_no.1 hnest).2, sortsJ]
      rcases hkc with rfl | rfl | rfl | rfl | rfl | rfl | rfl
      · rw [hi0 (by decide), ht4 (by decide), layP, if_pos rfl, valueP_head d _ (by simp [wNull]) (by simp [wNull]) (by simp [wNull])]
        unfold wordP
        rw [show takeP wNull (wNull ++ rest) = some (blanks rest) by unfold takeP; rw [if_pos (List.prefix_append _ _), List.drop_left]]
      · rw [hi0 (by decide), ht4 (by decide), layP, if_neg (by decide), if_pos rfl, valueP_head d _ (by simp [wFalse]) (by simp [wFalse]) (by simp [wFalse])]
        unfold wordP
        rw [word_none (w := wNull) (s := wFalse ++ rest) rfl rfl (by decide), show takeP wFalse (wFalse ++ rest) = some (blanks rest) by unfold takeP; rw [if_pos (List.prefix_append _ _), List.drop_left]]
      · rw [hi0 (by decide), ht4 (by decide), layP, if_neg (by decide), if_neg (by decide), if_pos rfl, valueP_head d _ (by simp [wTrue]) (by simp [wTrue]) (by simp [wTrue])]
        unfold wordP
        rw [word_none (w := wNull) (s := wTrue ++ rest) rfl rfl (by decide), word_none (w := wFalse) (s := wTrue ++ rest) rfl rfl (by decide), show takeP wTrue (wTrue ++ rest) = some (blanks rest) by unfold takeP; rw [if_pos (List.prefix_append _ _), List.drop_left]]
      · rw [ht4 (by decide), layP, if_neg (by decide), if_neg (by decide), if_neg (by decide), if_pos rfl]
        exact num_read i (hi3 rfl).1 (hi3 rfl).2 d rest hr
      · rw [hi0 (by decide), layP, if_neg (by decide), if_neg (by decide), if_neg (by decide), if_neg (by decide), if_pos rfl]
        have ht := text_read t rest htv
        rw [quoteP_app] at ht ⊢
        rw [valueP_text, ht]
      · exact absurd hnest (by decide)
      · exact absurd hnest (by decide)
    · have hk56 : k = 5 ∨ k = 6 := by
        rcases hkc with rfl | rfl | rfl | rfl | rfl | rfl | rfl
        all_goals first
          | exact absurd (by decide) hnest
          | exact Or.inl rfl
          | exact Or.inr rfl
      have hrt : ∀ d, ∀ x ∈ l, RTa d x := fun d x hx => RT x d (oksJ_all hl x hx)
      rcases hk56 with rfl | rfl
      · have hks := hkn (by decide)
        subst hks
        rw [hi0 (by decide), ht4 (by decide)]
        have e : layP (.mk 5 0 [] l []) = 91 :: (joinC (itemsL false [] (laysP l)) ++ [93]) := by rw [layP]; rfl
        rw [e, rest_app, dep_nest (by decide)]
        cases d with
        | zero => rw [valueP_deep 91 (Or.inl rfl), if_neg (by omega)]
        | succ d =>
          rw [valueP_list, nest_read d false 93 (Or.inl rfl) rest l [] (hrt d) (oksJ_all hl) (fun h => by cases h)]
          have es : (orderP false [] l.length).map (fun p => (sortsJ l).getD p Jv.nul) = sortsJ l := by
            have hl2 : l.length = (sortsJ l).length := by rw [sortsJ_eq, List.length_map]
            unfold orderP
            rw [if_neg (by decide), hl2]
            exact range_get _ _
          have e6 : sortJ (.mk 5 0 [] l []) = .mk 5 0 [] (sortsJ l) [] := by rw [sortJ, if_neg (by decide)]
          rw [es, e6]
          by_cases hd : deps l ≤ d
          · rw [if_pos hd, if_pos (show 1 + deps l ≤ d + 1 by omega)]; rfl
          · rw [if_neg hd, if_neg (show ¬ 1 + deps l ≤ d + 1 by omega)]
      · rw [hi0 (by decide), ht4 (by decide)]
        have e : layP (.mk 6 0 [] l ks) = 123 :: (joinC (itemsL true ks (laysP l)) ++ [125]) := by rw [layP]; rfl
        rw [e, rest_app, dep_nest (by decide)]
        cases d with
        | zero => rw [valueP_deep 123 (Or.inr rfl), if_neg (by omega)]
        | succ d =>
          rw [valueP_obj, nest_read d true 125 (Or.inr rfl) rest l ks (hrt d) (oksJ_all hl) (fun _ => ⟨hk6 rfl, hknd, hkv⟩)]
          have e6 : sortJ (.mk 6 0 [] l ks) = .mk 6 0 [] ((orderP true ks l.length).map (fun p => (sortsJ l).getD p Jv.nul)) ((orderP true ks l.length).map (keyAt ks)) := by rw [sortJ, if_pos rfl]
          rw [e6]
          by_cases hd : deps l ≤ d
          · rw [if_pos hd, if_pos (show 1 + deps l ≤ d + 1 by omega)]; rfl
          · rw [if_neg hd, if_neg (show ¬ 1 + deps l ≤ d + 1 by omega)]
termination_by j => SizeOf.sizeOf j
decreasing_by
  have := List.sizeOf_lt_of_mem hx
  simp_wf
  omega
end Go.Proofs.YteeijmfnjcddmaaGreatDoor
