/- JSON, plain: the order in which members stand makes no difference to a form; what bytes a form has; two forms in a list. -/
import Derived.Test.YteeijmfnjcddmaaGreatDoorPs
namespace Go.Proofs.YteeijmfnjcddmaaGreatDoor

theorem lay_two (a b : Jv) : layP (.mk 5 0 [] [a, b] []) = 91 :: (layP a ++ 44 :: (layP b ++ [93])) := by
  have e : layP (.mk 5 0 [] [a, b] []) = 91 :: (joinC (itemsL false [] (laysP [a, b])) ++ [93]) := by rw [layP]; rfl
  rw [e]
  simp [laysP, itemsL, orderP, memP, joinC, List.range, List.range.loop]

/-- The members, with their forms, in their order. -/
def prs (ks fs : List Bs) : List (Bs × Bs) := (orderP true ks fs.length).map (fun p => (keyAt ks p, fs.getD p []))
theorem items_prs (ks fs : List Bs) : itemsL true ks fs = (prs ks fs).map (fun p => quoteP p.1 ++ [58] ++ p.2) := by
  unfold itemsL prs
  rw [List.map_map]
  rfl
theorem prs_perm {ks fs : List Bs} (h : ks.length = fs.length) : (prs ks fs).Perm (ks.zip fs) := by
  have h1 := (orderP_perm true ks fs.length).map (fun p => (keyAt ks p, fs.getD p []))
  have e : (List.range fs.length).map (fun p => (keyAt ks p, fs.getD p [])) = ks.zip fs := by
    apply List.ext_getElem
    · simp [h]
    · intro i a b
      simp only [List.length_map, List.length_range] at a
      have hk : i < ks.length := by omega
      simp [keyAt, List.getD, a, hk]
  rwa [e] at h1
theorem prs_sorted (ks fs : List Bs) : (prs ks fs).Pairwise (fun a b => a.1 ≤ b.1) := by
  unfold prs
  rw [List.pairwise_map]
  exact order_sorted ks fs.length
theorem zip_key {ks fs : List Bs} (hn : ks.Nodup) {a b : Bs × Bs} (ha : a ∈ ks.zip fs) (hb : b ∈ ks.zip fs) (h : a.1 = b.1) : a = b := by
  obtain ⟨i, hi, rfl⟩ := List.getElem_of_mem ha
  obtain ⟨j, hj, rfl⟩ := List.getElem_of_mem hb
  simp only [List.getElem_zip] at h ⊢
  simp only [List.length_zip] at hi hj
  have hw := List.pairwise_iff_getElem.1 hn
  have : i = j := by
    rcases Nat.lt_trichotomy i j with hl | hl | hl
    · exact absurd h (hw i j (by omega) (by omega) hl)
    · exact hl
    · exact absurd h.symm (hw j i (by omega) (by omega) hl)
  subst this
  rfl
theorem prs_eq {ks fs ks' fs' : List Bs} (h : ks.length = fs.length) (h' : ks'.length = fs'.length) (hn : ks.Nodup) (hp : (ks.zip fs).Perm (ks'.zip fs')) : prs ks fs = prs ks' fs' := by
  have p : (prs ks fs).Perm (prs ks' fs') := (prs_perm h).trans (hp.trans (prs_perm h').symm)
  refine List.Perm.eq_of_pairwise (fun a b ha hb h1 h2 => ?_) (prs_sorted ks fs) (prs_sorted ks' fs') p
  have ha' := (prs_perm h).mem_iff.1 ha
  have hb' := (prs_perm h).mem_iff.1 (p.mem_iff.2 hb)
  exact zip_key hn ha' hb' (List.le_antisymm h1 h2)
mutual
/-- A value with all members, however deep, in the other order. -/
def turnJ : Jv → Jv
  | .mk k i t l ks => if k = 6 ∧ ks.length = l.length then .mk k i t (turnsJ l).reverse ks.reverse else .mk k i t (turnsJ l) ks
def turnsJ : List Jv → List Jv
  | [] => []
  | j :: r => turnJ j :: turnsJ r
end
theorem turnsJ_eq : ∀ l : List Jv, turnsJ l = l.map turnJ
  | [] => by rw [turnsJ]; rfl
  | j :: r => by rw [turnsJ, turnsJ_eq r]; rfl
theorem turnJ_obj {i : Int} {t : Bs} {l : List Jv} {ks : List Bs} (h : ks.length = l.length) : turnJ (.mk 6 i t l ks) = .mk 6 i t (l.map turnJ).reverse ks.reverse := by rw [turnJ, if_pos ⟨rfl, h⟩, turnsJ_eq]
theorem turnJ_other {k : Int} (h : k ≠ 6) (i : Int) (t : Bs) (l : List Jv) (ks : List Bs) : turnJ (.mk k i t l ks) = .mk k i t (l.map turnJ) ks := by rw [turnJ, if_neg (fun e => h e.1), turnsJ_eq]
theorem lay_turn : ∀ j : Jv, okJ j = true → layP (turnJ j) = layP j
  | .mk k i t l ks, h => by
    rw [okJ, Bool.and_eq_true] at h
    obtain ⟨hf, hl⟩ := h
    have ih : ∀ x ∈ l, layP (turnJ x) = layP x := fun x hx => lay_turn x (oksJ_all hl x hx)
    have e : laysP (l.map turnJ) = laysP l := by
      rw [laysP_eq, laysP_eq, List.map_map]
      exact List.map_congr_left (fun x hx => ih x hx)
    by_cases h6 : k = 6
    · subst h6
      obtain ⟨_, _, hkl, _, _, hnd, _⟩ := form_all hf
      have hkl := hkl rfl
      have el : ∀ (i : Int) (t : Bs) (l : List Jv) (ks : List Bs), layP (.mk 6 i t l ks) = 123 :: (joinC (itemsL true ks (laysP l)) ++ [125]) := fun i t l ks => by rw [layP]; rfl
      have er : laysP (l.map turnJ).reverse = (laysP l).reverse := by rw [← e, laysP_eq, laysP_eq, List.map_reverse]
      rw [turnJ_obj hkl, el, el, items_prs, items_prs, er]
      have hll : ks.length = (laysP l).length := by rw [laysP_len, hkl]
      have hz : (ks.reverse.zip (laysP l).reverse).Perm (ks.zip (laysP l)) := by
        have : ks.reverse.zip (laysP l).reverse = (ks.zip (laysP l)).reverse := by
          apply List.ext_getElem
          · simp
          · intro i a b
            simp only [List.length_zip, List.length_reverse, hll, Nat.min_self] at a
            simp [hll]
        rw [this]
        exact List.reverse_perm _
      rw [prs_eq hll (by simpa using hll) hnd hz.symm]
    · rw [turnJ_other h6, layP, layP, e]
termination_by j => SizeOf.sizeOf j
decreasing_by
  have := List.sizeOf_lt_of_mem hx
  simp_wf
  omega
theorem ok_turn : ∀ j : Jv, okJ j = true → okJ (turnJ j) = true
  | .mk k i t l ks, h => by
    rw [okJ, Bool.and_eq_true] at h
    obtain ⟨hf, hl⟩ := h
    have ih : ∀ x ∈ l, okJ (turnJ x) = true := fun x hx => ok_turn x (oksJ_all hl x hx)
    have hm : ∀ x ∈ l.map turnJ, okJ x = true := fun x hx => by
      obtain ⟨y, hy, rfl⟩ := List.mem_map.1 hx
      exact ih y hy
    by_cases h6 : k = 6
    · subst h6
      rw [turnJ_obj ((form_all hf).2.2.1 rfl), okJ, List.length_reverse, List.length_map, form_perm (List.reverse_perm ks), hf, Bool.true_and]
      exact oksJ_of fun x hx => hm x (List.mem_reverse.1 hx)
    · rw [turnJ_other h6, okJ, List.length_map, hf, Bool.true_and]
      exact oksJ_of hm
termination_by j => SizeOf.sizeOf j
decreasing_by
  have := List.sizeOf_lt_of_mem hx
  simp_wf
  omega
theorem dep_turn : ∀ j : Jv, dep (turnJ j) = dep j
  | .mk k i t l ks => by
    have ih : ∀ x ∈ l, dep (turnJ x) = dep x := fun x hx => dep_turn x
    have hm : ∀ d, (∀ x ∈ l.map turnJ, dep x ≤ d) ↔ (∀ x ∈ l, dep x ≤ d) := fun d => by
      constructor
      · intro h x hx
        rw [← ih x hx]
        exact h _ (List.mem_map.2 ⟨x, hx, rfl⟩)
      · intro h x hx
        obtain ⟨y, hy, rfl⟩ := List.mem_map.1 hx
        rw [ih y hy]
        exact h y hy
    rw [turnJ]
    split
    · rename_i h
      obtain ⟨h6, _⟩ := h
      subst h6
      rw [dep_nest (by decide), dep_nest (by decide), turnsJ_eq]
      congr 1
      refine deps_eq fun d => ?_
      rw [← hm d]
      exact ⟨fun a x hx => a x (List.mem_reverse.2 hx), fun a x hx => a x (List.mem_reverse.1 hx)⟩
    · rw [turnsJ_eq]
      cases hn : nestK k with
      | true => rw [dep_nest hn, dep_nest hn, deps_eq hm]
      | false => rw [dep_leaf hn, dep_leaf hn]
termination_by j => SizeOf.sizeOf j
decreasing_by
  have := List.sizeOf_lt_of_mem hx
  simp_wf
  omega
theorem sz_turn : ∀ j : Jv, szJ (turnJ j) = szJ j
  | .mk k i t l ks => by
    have ih : ∀ x ∈ l, szJ (turnJ x) = szJ x := fun x hx => sz_turn x
    have h1 : ∀ a : List Jv, szL a = (a.map szJ).sum := fun a => by
      induction a with
      | nil => simp [szL]
      | cons x r ihr => simp [szL, ihr]
    have h2 : ∀ a : List Bs, szK a = (a.map (fun s => s.length + 1)).sum := fun a => by
      induction a with
      | nil => simp [szK]
      | cons x r ihr => simp [szK, ihr]
    have e : szL (l.map turnJ) = szL l := by
      rw [h1, h1, List.map_map]
      congr 1
      exact List.map_congr_left (fun x hx => ih x hx)
    have er : ∀ a : List Jv, szL a.reverse = szL a := fun a => by
      rw [h1, h1]
      exact ((List.reverse_perm a).map szJ).sum_nat
    have ek : szK ks.reverse = szK ks := by
      rw [h2, h2]
      exact ((List.reverse_perm ks).map _).sum_nat
    rw [turnJ]
    split
    · rw [szJ, szJ, turnsJ_eq, er, e, ek]
    · rw [szJ, szJ, turnsJ_eq, e]
termination_by j => SizeOf.sizeOf j
decreasing_by
  have := List.sizeOf_lt_of_mem hx
  simp_wf
  omega
/-- In the other order it is told the same. -/
theorem text_turn (j : Jv) (h : (textT j).2 = 0) : textT (turnJ j) = textT j := by
  unfold textT at h ⊢
  by_cases hc : checkP 0 j = 0
  · have ho := check_form j 0 hc
    have h1 := check_dep j 0 (by omega) ho
    have h2 := check_dep _ 0 (by omega) (ok_turn j ho)
    rw [dep_turn, ← h1, hc] at h2
    rw [if_pos hc, if_pos h2, lay_turn j ho]
  · rw [if_neg hc] at h; exact absurd h hc

/- Which bytes a form has. -/
theorem mem_joinC {c : UInt8} : ∀ (its : List Bs), c ∈ joinC its → c = 44 ∨ ∃ x ∈ its, c ∈ x
  | [], h => by simp [joinC] at h
  | x :: r, h => by
    simp only [joinC, List.mem_append, List.mem_flatMap, List.mem_cons] at h
    rcases h with h | ⟨y, hy, h | h⟩
    · exact Or.inr ⟨x, by simp, h⟩
    · exact Or.inl h
    · exact Or.inr ⟨y, by simp [hy], h⟩
theorem quoteC_ge (c : UInt8) : ∀ x ∈ quoteC c, ¬ x < 32 := by
  have h := forall_u8 (p := fun c => (quoteC c).all (fun x => decide (¬ x < 32))) (by decide +kernel) c
  intro x hx
  simpa using List.all_eq_true.1 h x hx
theorem quoteP_ge (s : Bs) : ∀ x ∈ quoteP s, ¬ x < 32 := by
  intro x hx
  unfold quoteP at hx
  simp only [List.cons_append, List.mem_cons, List.mem_append, List.mem_flatMap, List.mem_nil_iff, or_false] at hx
  rcases hx with rfl | ⟨c, _, hx⟩ | rfl
  · decide
  · exact quoteC_ge c x hx
  · decide
theorem dig_ge {c : UInt8} (h : isDig c = true) : ¬ c < 32 := by
  unfold isDig at h
  simp only [Bool.and_eq_true, decide_eq_true_eq] at h
  have := UInt8.le_iff_toNat_le.1 h.1
  intro hl
  have := UInt8.lt_iff_toNat_lt.1 hl
  have e1 : (48 : UInt8).toNat = 48 := rfl
  have e2 : (32 : UInt8).toNat = 32 := rfl
  omega
theorem lay_ge : ∀ j : Jv, ∀ c ∈ layP j, ¬ c < 32
  | .mk k i t l ks => by
    have ih : ∀ x ∈ l, ∀ c ∈ layP x, ¬ c < 32 := fun x hx => lay_ge x
    intro c hc
    rw [layP] at hc
    split at hc
    · have : ∀ c ∈ wNull, ¬ c < 32 := by decide
      exact this c hc
    · split at hc
      · have : ∀ c ∈ wFalse, ¬ c < 32 := by decide
        exact this c hc
      · split at hc
        · have : ∀ c ∈ wTrue, ¬ c < 32 := by decide
          exact this c hc
        · split at hc
          · unfold Lib.itoa at hc
            split at hc
            · rcases List.mem_cons.1 hc with rfl | hc
              · decide
              · exact dig_ge (dec_dig _ c hc)
            · exact dig_ge (dec_dig _ c hc)
          · split at hc
            · exact quoteP_ge t c hc
            · simp only [List.mem_cons, List.mem_append, List.mem_nil_iff, or_false] at hc
              rcases hc with hc | hc | hc
              · subst hc; split <;> decide
              · rcases mem_joinC _ hc with rfl | ⟨x, hx, hc⟩
                · decide
                · unfold itemsL at hx
                  obtain ⟨p, hp, rfl⟩ := List.mem_map.1 hx
                  have hlt := orderP_lt hp
                  rw [laysP_len] at hlt
                  unfold memP at hc
                  rw [laysP_get l p hlt] at hc
                  rcases List.mem_append.1 hc with hc | hc
                  · split at hc
                    · rcases List.mem_append.1 hc with hc | hc
                      · exact quoteP_ge _ c hc
                      · rw [List.mem_singleton] at hc; subst hc; decide
                    · simp at hc
                  · exact ih _ (List.getElem_mem hlt) c hc
              · subst hc; split <;> decide
termination_by j => SizeOf.sizeOf j
decreasing_by
  have := List.sizeOf_lt_of_mem hx
  simp_wf
  omega
/-- Two forms in a list. -/
theorem parse_two (j : Jv) (h : checkP 0 j = 0) : parseP (91 :: (layP j ++ 44 :: (layP j ++ [93]))) = if 65536 < 2 * (layP j).length + 3 then .error 92 else if 1 + dep j ≤ 32 then .ok (.mk 5 0 [] [sortJ j, sortJ j] []) else .error 91 := by
  have ho := check_form j 0 h
  have ho2 : okJ (.mk 5 0 [] [j, j] []) = true := by
    rw [okJ, oksJ, oksJ, oksJ, ho]; rfl
  have hr := RT (.mk 5 0 [] [j, j] []) 32 ho2 [] (Or.inl rfl)
  rw [List.append_nil, dep_nest (by decide), deps, deps, deps, lay_two, sortJ_other (by decide)] at hr
  have hd : max (dep j) (max (dep j) 0) = dep j := by omega
  rw [hd] at hr
  unfold parseP
  have hlen : (91 :: (layP j ++ 44 :: (layP j ++ [93]))).length = 2 * (layP j).length + 3 := by simp; omega
  rw [hlen]
  split
  · rfl
  · rw [blanks_head (by decide), hr]
    by_cases hx : 1 + dep j ≤ 32
    · rw [if_pos hx, if_pos hx]; rfl
    · rw [if_neg hx, if_neg hx]
end Go.Proofs.YteeijmfnjcddmaaGreatDoor
