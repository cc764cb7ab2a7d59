/- JSON, plain: the order of members makes no difference to a form; whatever is read may be, and is not great. -/
import Derived.Test.YteeijmfnjcddmaaGreatDoorPr
namespace Go.Proofs.YteeijmfnjcddmaaGreatDoor

theorem bs_trans {a b c : Bs} (h1 : a ≤ b) (h2 : b ≤ c) : a ≤ c := List.le_trans h1 h2
theorem bs_total (a b : Bs) : a ≤ b ∨ b ≤ a := List.le_total a b
theorem order_sorted (ks : List Bs) (n : Nat) : (orderP true ks n).Pairwise (fun a b => keyAt ks a ≤ keyAt ks b) := by
  unfold orderP
  rw [if_pos rfl]
  have := List.pairwise_mergeSort (le := fun a b => decide (keyAt ks a ≤ keyAt ks b)) (fun a b c h1 h2 => by simp only [decide_eq_true_eq] at *; exact bs_trans h1 h2) (fun a b => by simpa using bs_total (keyAt ks a) (keyAt ks b)) (List.range n)
  exact this.imp (fun h => by simpa using h)
/-- Keys that stand in their order stay so. -/
theorem order_of_sorted (K : List Bs) (h : K.Pairwise (· ≤ ·)) : orderP true K K.length = List.range K.length := by
  unfold orderP
  rw [if_pos rfl]
  apply List.mergeSort_of_pairwise
  rw [List.pairwise_iff_getElem]
  intro i j hi hj hij
  simp only [List.length_range] at hi hj
  have := List.pairwise_iff_getElem.1 h i j hi hj hij
  simpa [keyAt, List.getD, hi, hj] using this
/-- The keys in their order. -/
def keysS (l : List Jv) (ks : List Bs) : List Bs := (orderP true ks l.length).map (keyAt ks)
theorem keysS_len (l : List Jv) (ks : List Bs) : (keysS l ks).length = l.length := by simp [keysS, orderP_len]
theorem keysS_sorted (l : List Jv) (ks : List Bs) : (keysS l ks).Pairwise (· ≤ ·) := by
  unfold keysS
  rw [List.pairwise_map]
  exact order_sorted ks l.length
theorem keysS_perm {l : List Jv} {ks : List Bs} (hl : ks.length = l.length) : (keysS l ks).Perm ks := by
  have e : keysS l ks = (membs true l ks).map Prod.fst := by unfold membs keysS; rw [List.map_map]; rfl
  rw [e]
  exact membs_keys hl
def valsS (l : List Jv) (ks : List Bs) : List Jv := (orderP true ks l.length).map (fun p => (sortsJ l).getD p Jv.nul)
theorem valsS_len (l : List Jv) (ks : List Bs) : (valsS l ks).length = l.length := by simp [valsS, orderP_len]
theorem valsS_perm (l : List Jv) (ks : List Bs) : (valsS l ks).Perm (l.map sortJ) := by
  have h := (orderP_perm true ks l.length).map (fun p => (sortsJ l).getD p Jv.nul)
  have hl2 : l.length = (sortsJ l).length := by rw [sortsJ_eq, List.length_map]
  have e : (List.range l.length).map (fun p => (sortsJ l).getD p Jv.nul) = sortsJ l := by rw [hl2]; exact range_get _ _
  rw [e, sortsJ_eq] at h
  unfold valsS
  rwa [sortsJ_eq]
theorem sortJ_obj (i : Int) (t : Bs) (l : List Jv) (ks : List Bs) : sortJ (.mk 6 i t l ks) = .mk 6 i t (valsS l ks) (keysS l ks) := by rw [sortJ, if_pos rfl]; rfl
theorem sortJ_other {k : Int} (h : k ≠ 6) (i : Int) (t : Bs) (l : List Jv) (ks : List Bs) : sortJ (.mk k i t l ks) = .mk k i t (l.map sortJ) ks := by rw [sortJ, if_neg h, sortsJ_eq]
theorem items_sorted {l : List Jv} {ks : List Bs} (ih : ∀ x ∈ l, layP (sortJ x) = layP x) : itemsL true (keysS l ks) (laysP (valsS l ks)) = itemsL true ks (laysP l) := by
  have hn : (laysP (valsS l ks)).length = (keysS l ks).length := by rw [laysP_len, valsS_len, keysS_len]
  unfold itemsL
  rw [hn, order_of_sorted _ (keysS_sorted l ks), laysP_len]
  apply List.ext_getElem
  · simp [keysS_len, orderP_len]
  · intro i h1 h2
    simp only [List.length_map, List.length_range, keysS_len] at h1
    have ho : i < (orderP true ks l.length).length := by rw [orderP_len]; exact h1
    have hq : (orderP true ks l.length)[i] < l.length := orderP_lt (List.getElem_mem ho)
    simp only [List.getElem_map, List.getElem_range, memP, if_true]
    congr 1
    · congr 2
      have hk : i < (keysS l ks).length := by rw [keysS_len]; exact h1
      unfold keyAt
      rw [List.getD_eq_getElem?_getD, List.getElem?_eq_getElem hk]
      simp [keysS, keyAt]
    · have hv : i < (valsS l ks).length := by rw [valsS_len]; exact h1
      rw [laysP_get _ i hv, laysP_get _ _ hq]
      have e : (valsS l ks)[i] = sortJ l[(orderP true ks l.length)[i]] := by
        simp [valsS, sortsJ_eq, List.getD, hq]
      rw [e, ih _ (List.getElem_mem hq)]
/-- A value in its order has the same form. -/
theorem lay_sort : ∀ j : Jv, layP (sortJ j) = layP j
  | .mk k i t l ks => by
    have ih : ∀ x ∈ l, layP (sortJ x) = layP x := fun x hx => lay_sort x
    by_cases h6 : k = 6
    · subst h6
      have e : ∀ (i : Int) (t : Bs) (l : List Jv) (ks : List Bs), layP (.mk 6 i t l ks) = 123 :: (joinC (itemsL true ks (laysP l)) ++ [125]) := fun i t l ks => by rw [layP]; rfl
      rw [sortJ_obj, e, e, items_sorted ih]
    · rw [sortJ_other h6]
      have e : laysP (l.map sortJ) = laysP l := by
        rw [laysP_eq, laysP_eq, List.map_map]
        exact List.map_congr_left (fun x hx => ih x hx)
      rw [layP, layP, e]
termination_by j => SizeOf.sizeOf j
decreasing_by
  have := List.sizeOf_lt_of_mem hx
  simp_wf
  omega
theorem form_perm {k i : Int} {t : Bs} {n : Nat} {K ks : List Bs} (h : K.Perm ks) : formP k i t n K = formP k i t n ks := by
  unfold formP keysOk
  have h1 : decide K.Nodup = decide ks.Nodup := by rw [Bool.eq_iff_iff]; simp [h.nodup_iff]
  have h2 : K.all Lib.validD = ks.all Lib.validD := by
    rw [Bool.eq_iff_iff, List.all_eq_true, List.all_eq_true]
    exact ⟨fun a x hx => a x (h.mem_iff.2 hx), fun a x hx => a x (h.mem_iff.1 hx)⟩
  rw [h.length_eq, h1, h2]
theorem ok_sort : ∀ j : Jv, okJ j = true → okJ (sortJ j) = true
  | .mk k i t l ks, h => by
    rw [okJ, Bool.and_eq_true] at h
    obtain ⟨hf, hl⟩ := h
    have ih : ∀ x ∈ l, okJ (sortJ x) = true := fun x hx => ok_sort x (oksJ_all hl x hx)
    by_cases h6 : k = 6
    · subst h6
      have hkl := (form_all hf).2.2.1 rfl
      rw [sortJ_obj, okJ, valsS_len, form_perm (keysS_perm hkl), hf, Bool.true_and]
      refine oksJ_of fun x hx => ?_
      obtain ⟨y, hy, rfl⟩ := List.mem_map.1 ((valsS_perm l ks).mem_iff.1 hx)
      exact ih y hy
    · rw [sortJ_other h6, okJ, List.length_map, hf, Bool.true_and]
      refine oksJ_of fun x hx => ?_
      obtain ⟨y, hy, rfl⟩ := List.mem_map.1 hx
      exact ih y hy
termination_by j => SizeOf.sizeOf j
decreasing_by
  have := List.sizeOf_lt_of_mem hx
  simp_wf
  omega
theorem deps_eq {a b : List Jv} (h : ∀ d, (∀ x ∈ a, dep x ≤ d) ↔ (∀ x ∈ b, dep x ≤ d)) : deps a = deps b :=
  Nat.le_antisymm (deps_le.2 ((h _).2 (deps_le.1 (Nat.le_refl _)))) (deps_le.2 ((h _).1 (deps_le.1 (Nat.le_refl _))))
theorem dep_sort : ∀ j : Jv, dep (sortJ j) = dep j
  | .mk k i t l ks => by
    have ih : ∀ x ∈ l, dep (sortJ x) = dep x := fun x hx => dep_sort x
    have hm : ∀ d, (∀ x ∈ l.map sortJ, dep x ≤ d) ↔ (∀ x ∈ l, dep x ≤ d) := fun d => by
      constructor
      · intro h x hx
        rw [← ih x hx]
        exact h _ (List.mem_map.2 ⟨x, hx, rfl⟩)
      · intro h x hx
        obtain ⟨y, hy, rfl⟩ := List.mem_map.1 hx
        rw [ih y hy]
        exact h y hy
    by_cases h6 : k = 6
    · subst h6
      rw [sortJ_obj, dep_nest (by decide), dep_nest (by decide)]
      congr 1
      refine deps_eq fun d => ?_
      rw [← hm d]
      exact ⟨fun a x hx => a x ((valsS_perm l ks).mem_iff.2 hx), fun a x hx => a x ((valsS_perm l ks).mem_iff.1 hx)⟩
    · rw [sortJ_other h6]
      cases hn : nestK k with
      | true => rw [dep_nest hn, dep_nest hn, deps_eq hm]
      | false => rw [dep_leaf hn, dep_leaf hn]
termination_by j => SizeOf.sizeOf j
decreasing_by
  have := List.sizeOf_lt_of_mem hx
  simp_wf
  omega
theorem check_sort (j : Jv) (h : checkP 0 j = 0) : checkP 0 (sortJ j) = 0 := by
  have ho := check_form j 0 h
  have h1 := check_dep j 0 (by omega) ho
  rw [check_dep _ 0 (by omega) (ok_sort j ho), dep_sort, ← h1, h]
/-- A form is read as the value in its order. -/
theorem parse_lay (j : Jv) (h : checkP 0 j = 0) (hl : (layP j).length ≤ 65536) : parseP (layP j) = .ok (sortJ j) := by
  have ho := check_form j 0 h
  have h1 := check_dep j 0 (by omega) ho
  obtain ⟨c, u, hc, hb, _⟩ := lay_head j ho
  have hd : dep j ≤ 32 := by
    by_cases hx : 0 + dep j ≤ 32
    · omega
    · rw [if_neg hx, h] at h1; cases h1
  have hr := RT j 32 ho [] (Or.inl rfl)
  rw [List.append_nil, if_pos hd] at hr
  unfold parseP
  rw [if_neg (by omega)]
  have e : blanks (layP j) = layP j := by rw [hc, blanks_head hb]
  rw [e, hr]
  rfl
/-- What Text tells is read as the value, and told the same again. -/
theorem text_parse (j : Jv) (h : (textT j).2 = 0) : parseP (textT j).1 = .ok (sortJ j) ∧ textT (sortJ j) = textT j := by
  unfold textT at h ⊢
  by_cases hc : checkP 0 j = 0
  · rw [if_pos hc] at h
    by_cases hl : 65536 < (layP j).length
    · rw [if_pos hl] at h; cases h
    · rw [if_pos hc, if_neg hl, if_pos (check_sort j hc), lay_sort, if_neg hl]
      exact ⟨parse_lay j hc (by omega), rfl⟩
  · rw [if_neg hc] at h; exact absurd h hc

/- What is read may be. -/
theorem escU_six {s t r : Bs} (h : escU s = some (t, r)) : r.length + 6 ≤ s.length := by
  unfold escU at h
  cases hu : unitP s with
  | none => rw [hu] at h; cases h
  | some p =>
    obtain ⟨n, r1⟩ := p
    have h1 := unitP_len hu
    rw [hu] at h
    simp only at h
    split at h
    · cases hu2 : unitP r1 with
      | none => rw [hu2] at h; cases h
      | some p =>
        obtain ⟨m, r2⟩ := p
        have h2 := unitP_len hu2
        rw [hu2] at h
        simp only at h
        split at h
        · simp only [Option.some.injEq, Prod.mk.injEq] at h; obtain ⟨_, rfl⟩ := h; omega
        · cases h
    · split at h
      · cases h
      · simp only [Option.some.injEq, Prod.mk.injEq] at h; obtain ⟨_, rfl⟩ := h; omega
theorem escP_sz {s t r : Bs} (h : escP s = some (t, r)) : t.length + r.length ≤ s.length := by
  have h4 := escP_len h
  match s, h with
  | [], h => cases h
  | [_], h => cases h
  | x :: c :: u, h =>
    rw [escP_two] at h
    split at h
    · cases h; simp; omega
    · have := escU_six h; omega
theorem strP_ok : ∀ (f : Nat) (s acc t r : Bs), strP f s acc = some (t, r) → Lib.validD t = true ∧ t.length + r.length + 1 ≤ acc.length + s.length
  | 0, s, acc, t, r, h => by cases h
  | f + 1, [], acc, t, r, h => by cases h
  | f + 1, c :: u, acc, t, r, h => by
    rw [strP_cons] at h
    split at h
    · cases h
    · split at h
      · split at h
        · rename_i hv
          cases h
          have := blanks_len u
          exact ⟨hv, by simp; omega⟩
        · cases h
      · split at h
        · cases he : escP (c :: u) with
          | none => rw [he] at h; cases h
          | some p =>
            obtain ⟨b, r'⟩ := p
            rw [he] at h
            have ih := strP_ok f _ _ _ _ h
            have hr := escP_sz he
            simp only [List.length_append] at ih
            exact ⟨ih.1, by omega⟩
        · have ih := strP_ok f _ _ _ _ h
          simp only [List.length_append, List.length_cons, List.length_nil] at ih ⊢
          exact ⟨ih.1, by omega⟩
theorem textP_ok {s t r : Bs} (h : textP s = some (t, r)) : Lib.validD t = true ∧ t.length + r.length + 2 ≤ s.length := by
  cases s with
  | nil => cases h
  | cons c u =>
    have e : textP (c :: u) = if c = 34 then strP ((c :: u).length) u [] else none := rfl
    rw [e] at h
    split at h
    · have := strP_ok _ _ _ _ _ h
      simp only [List.length_nil, List.length_cons] at this ⊢
      exact ⟨this.1, by omega⟩
    · cases h
/-- What reading has to give. -/
def RdOk (d : Nat) (s : Bs) (j : Jv) (r : Bs) : Prop := okJ j = true ∧ dep j ≤ d ∧ szJ j + 6 * r.length ≤ 6 * s.length
theorem form_leaf (k : Int) (h0 : 0 ≤ k) (h2 : k ≤ 2) : okJ (.mk k 0 [] [] []) = true := by
  have : k = 0 ∨ k = 1 ∨ k = 2 := by omega
  rcases this with rfl | rfl | rfl <;> rfl
theorem form_int (n : Int) (h0 : -maxInt ≤ n) (h1 : n ≤ maxInt) : okJ (.mk 3 n [] [] []) = true := by
  unfold maxInt at h0 h1
  simp [okJ, oksJ, formP, nestK, keysOk, intIn, textIn]
  omega
theorem form_text (t : Bs) (h : Lib.validD t = true) : okJ (.mk 4 0 t [] []) = true := by
  simp [okJ, oksJ, formP, nestK, keysOk, intIn, textIn, h]
theorem exactP_in {s : Bs} {n : Int} (h : exactP s = some n) : -maxInt ≤ n ∧ n ≤ maxInt := by
  unfold exactP at h
  split at h
  · split at h
    · rename_i h1; cases h; exact ⟨h1.2.2, h1.2.1⟩
    · cases h
  · cases h
theorem wordP_ok {d : Nat} {s r : Bs} {j : Jv} (h : wordP s = .ok (j, r)) : RdOk d s j r := by
  have hl := wordP_len h
  unfold wordP at h
  cases h1 : takeP wNull s with
  | some r1 => rw [h1] at h; cases h; exact ⟨form_leaf 0 (by omega) (by omega), Nat.zero_le _, by simp only [szJ, szL, szK, List.length_nil]; omega⟩
  | none =>
    rw [h1] at h
    simp only at h
    cases h2 : takeP wFalse s with
    | some r1 => rw [h2] at h; cases h; exact ⟨form_leaf 1 (by omega) (by omega), Nat.zero_le _, by simp only [szJ, szL, szK, List.length_nil]; omega⟩
    | none =>
      rw [h2] at h
      simp only at h
      cases h3 : takeP wTrue s with
      | some r1 => rw [h3] at h; cases h; exact ⟨form_leaf 2 (by omega) (by omega), Nat.zero_le _, by simp only [szJ, szL, szK, List.length_nil]; omega⟩
      | none =>
        rw [h3] at h
        simp only at h
        split at h
        · cases h
        · cases he : exactP (s.take (numP s)) with
          | none => rw [he] at h; cases h
          | some n =>
            rw [he] at h
            cases h
            obtain ⟨a, b⟩ := exactP_in he
            exact ⟨form_int n a b, Nat.zero_le _, by simp only [szJ, szL, szK, List.length_nil]; omega⟩
theorem szK_snoc (ks : List Bs) (s : Bs) : szK (ks ++ [s]) = szK ks + (s.length + 1) := by
  induction ks with
  | nil => simp [szK]
  | cons a r ih => simp only [List.cons_append, szK, ih]; omega
/-- The keys that were read. -/
def KeysIn (obj : Bool) (n : Nat) (ks : List Bs) : Prop := ks.length = (if obj then n else 0) ∧ ks.Nodup ∧ ∀ s ∈ ks, Lib.validD s = true
theorem keyP_ok {obj : Bool} {s s2 : Bs} {ks ks' : List Bs} {n : Nat} (h : keyP obj s ks = .ok (ks', s2)) (hk : KeysIn obj n ks) : KeysIn obj (n + 1) ks' ∧ szK ks' + 6 * s2.length ≤ szK ks + 6 * s.length := by
  unfold keyP at h
  cases obj with
  | false =>
    simp only [Bool.false_eq_true, if_false, Except.ok.injEq, Prod.mk.injEq] at h
    obtain ⟨rfl, rfl⟩ := h
    exact ⟨⟨by simpa [KeysIn] using hk.1, hk.2⟩, Nat.le_refl _⟩
  | true =>
    simp only [if_true] at h
    cases ht : textP s with
    | none => rw [ht] at h; cases h
    | some p =>
      obtain ⟨key, s1⟩ := p
      rw [ht] at h
      simp only at h
      split at h
      · cases h
      · rename_i hc
        cases hc2 : takeP [58] s1 with
        | none => rw [hc2] at h; cases h
        | some s3 =>
          rw [hc2] at h
          cases h
          obtain ⟨hv, hsz⟩ := textP_ok ht
          have hl := takeP_len hc2
          obtain ⟨k1, k2, k3⟩ := hk
          simp only [if_true] at k1
          refine ⟨⟨by simp [k1], ?_, ?_⟩, ?_⟩
          · rw [List.nodup_append]
            refine ⟨k2, by simp, fun a ha b hb => ?_⟩
            rw [List.mem_singleton] at hb
            subst hb
            intro e
            subst e
            exact hc (by simpa using ha)
          · intro x hx
            rcases List.mem_append.1 hx with hx | hx
            · exact k3 x hx
            · rw [List.mem_singleton] at hx; subst hx; exact hv
          · rw [szK_snoc]
            simp only [List.length_cons, List.length_nil] at hl
            omega
theorem itemsP_ok {d : Nat} (val : Bs → Pr) (hv : ∀ s j r, val s = .ok (j, r) → RdOk d s j r) (obj : Bool) (close : UInt8) :
    ∀ (f : Nat) (s : Bs) (l : List Jv) (ks : List Bs) (j : Jv) (r : Bs), (∀ x ∈ l, okJ x = true ∧ dep x ≤ d) → KeysIn obj l.length ks → itemsP val obj close f s l ks = .ok (j, r) →
      ∃ l' ks', j = .mk (if obj then 6 else 5) 0 [] l' ks' ∧ (∀ x ∈ l', okJ x = true ∧ dep x ≤ d) ∧ KeysIn obj l'.length ks' ∧ szL l' + szK ks' + 6 * r.length + 6 ≤ szL l + szK ks + 6 * s.length
  | 0, s, l, ks, j, r, _, _, h => by cases h
  | f + 1, s, l, ks, j, r, hl, hk, h => by
    unfold itemsP at h
    cases hke : keyP obj s ks with
    | error e => rw [hke] at h; cases h
    | ok p =>
      obtain ⟨ks', s2⟩ := p
      obtain ⟨hk', hs2⟩ := keyP_ok hke hk
      rw [hke] at h
      simp only at h
      cases hval : val s2 with
      | error e => rw [hval] at h; cases h
      | ok p =>
        obtain ⟨v, s3⟩ := p
        obtain ⟨v1, v2, v3⟩ := hv _ _ _ hval
        rw [hval] at h
        simp only at h
        have hl2 : ∀ x ∈ l ++ [v], okJ x = true ∧ dep x ≤ d := fun x hx => by
          rcases List.mem_append.1 hx with hx | hx
          · exact hl x hx
          · rw [List.mem_singleton] at hx; subst hx; exact ⟨v1, v2⟩
        have hk2 : KeysIn obj (l ++ [v]).length ks' := by simpa using hk'
        cases hc : takeP [close] s3 with
        | some s4 =>
          rw [hc] at h
          cases h
          have h4 := takeP_len hc
          simp only [List.length_cons, List.length_nil] at h4
          exact ⟨_, _, rfl, hl2, hk2, by rw [szL_snoc]; omega⟩
        | none =>
          rw [hc] at h
          simp only at h
          cases hm : takeP [44] s3 with
          | none => rw [hm] at h; cases h
          | some s4 =>
            rw [hm] at h
            obtain ⟨l', ks'', e, a, b, c⟩ := itemsP_ok val hv obj close f _ _ _ _ _ hl2 hk2 h
            have h4 := takeP_len hm
            rw [szL_snoc] at c
            exact ⟨l', ks'', e, a, b, by omega⟩
theorem form_nest (obj : Bool) (l : List Jv) (ks : List Bs) (hl : ∀ x ∈ l, okJ x = true) (hk : KeysIn obj l.length ks) : okJ (.mk (if obj then 6 else 5) 0 [] l ks) = true := by
  rw [okJ, oksJ_of hl, Bool.and_true]
  obtain ⟨k1, k2, k3⟩ := hk
  have k4 : ks.all Lib.validD = true := List.all_eq_true.2 k3
  cases obj with
  | false =>
    have : ks = [] := List.eq_nil_of_length_eq_zero (by simpa using k1)
    subst this
    rfl
  | true =>
    simp only [if_true] at k1
    simp only [formP, nestK, keysOk, intIn, textIn, k4, k2, k1]
    simp
theorem nestP_ok {d : Nat} (val : Bs → Pr) (hv : ∀ s j r, val s = .ok (j, r) → RdOk d s j r) (obj : Bool) (close : UInt8) (s : Bs) (j : Jv) (r : Bs) (h : nestP val obj close s = .ok (j, r)) : okJ j = true ∧ dep j ≤ d + 1 ∧ szJ j + 6 * r.length ≤ 6 * s.length + 5 := by
  unfold nestP at h
  have hn : nestK (if obj then 6 else 5) = true := by cases obj <;> rfl
  have hK : KeysIn obj 0 [] := ⟨by cases obj <;> rfl, List.nodup_nil, by simp⟩
  cases hc : takeP [close] s with
  | some s1 =>
    rw [hc] at h
    cases h
    have := takeP_len hc
    simp only [List.length_cons, List.length_nil] at this
    refine ⟨form_nest obj [] [] (by simp) hK, ?_, ?_⟩
    · rw [dep_nest hn, deps]; omega
    · simp only [szJ, szL, szK, List.length_nil]; omega
  | none =>
    rw [hc] at h
    obtain ⟨l', ks', rfl, a, b, c⟩ := itemsP_ok val hv obj close _ _ [] [] _ _ (by simp) hK h
    refine ⟨form_nest obj l' ks' (fun x hx => (a x hx).1) b, ?_, ?_⟩
    · rw [dep_nest hn]
      have := deps_le.2 (fun x hx => (a x hx).2)
      omega
    · simp only [szJ, szL, szK, List.length_nil] at c ⊢; omega
theorem valueP_ok : ∀ (d : Nat) (s : Bs) (j : Jv) (r : Bs), valueP d s = .ok (j, r) → RdOk d s j r := by
  intro d
  induction d with
  | zero =>
    intro s j r h
    cases s with
    | nil => rw [valueP_head 0 [] (by simp) (by simp) (by simp)] at h; exact wordP_ok h
    | cons c u =>
      by_cases h34 : c = 34
      · subst h34
        rw [valueP_text] at h
        cases ht : textP (34 :: u) with
        | none => rw [ht] at h; cases h
        | some p =>
          obtain ⟨t, r1⟩ := p
          rw [ht] at h
          cases h
          obtain ⟨a, b⟩ := textP_ok ht
          exact ⟨form_text t a, Nat.zero_le _, by simp only [szJ, szL, szK]; omega⟩
      · by_cases h9 : c = 91 ∨ c = 123
        · rw [valueP_deep c h9] at h; cases h
        · rw [valueP_head 0 _ (by simpa using h34) (by simpa using fun e => h9 (Or.inl e)) (by simpa using fun e => h9 (Or.inr e))] at h
          exact wordP_ok h
  | succ d ih =>
    intro s j r h
    cases s with
    | nil => rw [valueP_head _ [] (by simp) (by simp) (by simp)] at h; exact wordP_ok h
    | cons c u =>
      by_cases h34 : c = 34
      · subst h34
        rw [valueP_text] at h
        cases ht : textP (34 :: u) with
        | none => rw [ht] at h; cases h
        | some p =>
          obtain ⟨t, r1⟩ := p
          rw [ht] at h
          cases h
          obtain ⟨a, b⟩ := textP_ok ht
          exact ⟨form_text t a, Nat.zero_le _, by simp only [szJ, szL, szK]; omega⟩
      · have hb := blanks_len u
        by_cases h91 : c = 91
        · subst h91
          rw [valueP_list] at h
          obtain ⟨a, b, e⟩ := nestP_ok _ ih _ _ _ _ _ h
          exact ⟨a, b, by simp only [List.length_cons]; omega⟩
        · by_cases h123 : c = 123
          · subst h123
            rw [valueP_obj] at h
            obtain ⟨a, b, e⟩ := nestP_ok _ ih _ _ _ _ _ h
            exact ⟨a, b, by simp only [List.length_cons]; omega⟩
          · rw [valueP_head _ _ (by simpa using h34) (by simpa using h91) (by simpa using h123)] at h
            exact wordP_ok h
/-- What is read may be, and is not great. -/
theorem parse_ok {s : Bs} {j : Jv} (h : parseP s = .ok j) : checkP 0 j = 0 ∧ szJ j ≤ 393216 := by
  unfold parseP at h
  split at h
  · cases h
  · rename_i hl
    cases hv : valueP 32 (blanks s) with
    | error e => rw [hv] at h; cases h
    | ok p =>
      obtain ⟨v, r⟩ := p
      rw [hv] at h
      simp only at h
      split at h
      · cases h
        obtain ⟨a, b, c⟩ := valueP_ok _ _ _ _ hv
        have hb := blanks_len s
        refine ⟨?_, by omega⟩
        rw [check_dep j 0 (by omega) a, if_pos (by omega)]
      · cases h
end Go.Proofs.YteeijmfnjcddmaaGreatDoor
