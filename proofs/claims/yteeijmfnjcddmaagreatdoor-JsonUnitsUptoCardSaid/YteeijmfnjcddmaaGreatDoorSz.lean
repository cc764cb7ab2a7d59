/- JSON: how long a value's form is. -/
import Derived.Test.YteeijmfnjcddmaaGreatDoorOj
import Derived.Lib.ItoaLen
namespace Go.Proofs.YteeijmfnjcddmaaGreatDoor
open Go.RowKit

theorem sum_perm {l l' : List Nat} (f : Nat → Nat) (h : l.Perm l') : (l.map f).sum = (l'.map f).sum := by
  induction h with
  | nil => rfl
  | cons x _ ih => simp only [List.map_cons, List.sum_cons, ih]
  | swap x y l => simp only [List.map_cons, List.sum_cons]; omega
  | trans _ _ ih1 ih2 => rw [ih1, ih2]
theorem joinC_sum (its : List Bs) : (joinC its).length ≤ (its.map (fun x => x.length + 1)).sum := by
  cases its with
  | nil => simp [joinC]
  | cons y r =>
    have : ∀ r : List Bs, (r.flatMap (fun y => 44 :: y)).length ≤ (r.map (fun x => x.length + 1)).sum := by
      intro r
      induction r with
      | nil => simp
      | cons z q ih => simp only [List.flatMap_cons, List.length_append, List.length_cons, List.map_cons, List.sum_cons]; omega
    have := this r
    simp only [joinC, List.length_append, List.map_cons, List.sum_cons]; omega
theorem sum_keys : ∀ (ks : List Bs) (n : Nat), ((List.range n).map (fun p => (keyAt ks p).length)).sum ≤ szK ks
  | [], n => by
    have : ∀ n, ((List.range n).map (fun p => (keyAt [] p).length)).sum = 0 := by
      intro n
      induction n with
      | zero => rfl
      | succ n ih => rw [List.range_succ, List.map_append, List.sum_append, ih]; simp [keyAt]
    rw [this]; omega
  | s :: r, 0 => by simp
  | s :: r, n + 1 => by
    have ih := sum_keys r n
    rw [List.range_succ_eq_map, List.map_cons, List.sum_cons, List.map_map]
    have e : ((fun p => (keyAt (s :: r) p).length) ∘ Nat.succ) = fun p => (keyAt r p).length := by funext p; simp [keyAt]
    rw [e]
    simp only [keyAt, List.getD_cons_zero, szK] at ih ⊢
    omega
theorem sum_forms : ∀ (fs : List Bs), ((List.range fs.length).map (fun p => (fs.getD p []).length)).sum = (fs.map List.length).sum
  | [] => by simp
  | s :: r => by
    have ih := sum_forms r
    rw [List.length_cons, List.range_succ_eq_map, List.map_cons, List.sum_cons, List.map_map]
    have e : ((fun p => ((s :: r).getD p []).length) ∘ Nat.succ) = fun p => (r.getD p []).length := by funext p; simp
    rw [e, ih]
    simp
theorem sum_add (f g : Nat → Nat) (l : List Nat) : (l.map (fun p => f p + g p)).sum = (l.map f).sum + (l.map g).sum := by
  induction l with
  | nil => simp
  | cons a r ih => simp only [List.map_cons, List.sum_cons, ih]; omega
theorem sum_mul (c : Nat) (f : Nat → Nat) (l : List Nat) : (l.map (fun p => c * f p)).sum = c * (l.map f).sum := by
  induction l with
  | nil => simp
  | cons a r ih => simp only [List.map_cons, List.sum_cons, ih, Nat.mul_add]
theorem sum_const (c : Nat) (l : List Nat) : (l.map (fun _ => c)).sum = c * l.length := by
  induction l with
  | nil => simp
  | cons a r ih => simp only [List.map_cons, List.sum_cons, ih, List.length_cons, Nat.mul_add]; omega
theorem sum_le (f g : Nat → Nat) (h : ∀ p, f p ≤ g p) (l : List Nat) : (l.map f).sum ≤ (l.map g).sum := by
  induction l with
  | nil => simp
  | cons a r ih => have := h a; simp only [List.map_cons, List.sum_cons]; omega
theorem quoteP_le (s : Bs) : (quoteP s).length ≤ 6 * s.length + 2 := by
  have := flat_len s
  simp only [quoteP, List.length_cons, List.length_append, List.length_nil]; omega
theorem items_len (obj : Bool) (ks fs : List Bs) : (joinC (itemsL obj ks fs)).length ≤ 6 * szK ks + 4 * fs.length + (fs.map List.length).sum := by
  refine Nat.le_trans (joinC_sum _) ?_
  unfold itemsL
  rw [List.map_map]
  have h1 := sum_perm (fun p => (memP obj ks fs p).length + 1) (orderP_perm obj ks fs.length)
  have e : ((fun x : Bs => x.length + 1) ∘ memP obj ks fs) = fun p => (memP obj ks fs p).length + 1 := rfl
  rw [e, h1]
  refine Nat.le_trans (sum_le _ (fun p => (6 * (keyAt ks p).length + 4) + (fs.getD p []).length) (fun p => ?_) _) ?_
  · have := quoteP_le (keyAt ks p)
    unfold memP
    cases obj
    · simp; omega
    · simp only [if_true, List.length_append, List.length_cons, List.length_nil]; omega
  · rw [sum_add, sum_forms, sum_add (fun p => 6 * (keyAt ks p).length) (fun _ => 4), sum_mul, sum_const, List.length_range]
    have := sum_keys ks fs.length
    omega
theorem int_of_form {k i : Int} {t : Bs} {n : Nat} {ks : List Bs} (h : formP k i t n ks = true) : -9223372036854775808 ≤ i ∧ i ≤ 9223372036854775807 := by
  unfold formP at h
  simp only [Bool.and_eq_true] at h
  have h1 := h.1.2
  simp only [intIn, Bool.or_eq_true, Bool.and_eq_true, decide_eq_true_eq, beq_iff_eq] at h1
  omega
mutual
theorem layP_len : ∀ (j : Jv) (n : Nat), checkP n j = 0 → (layP j).length + 4 ≤ 30 * szJ j
  | .mk k i t l ks, n, h => by
    obtain ⟨hf, hc⟩ := form_of n k i t l ks h
    have hi := int_of_form hf
    have h1 := Lib.itoa_length_le i hi.1 hi.2
    have h2 := quoteP_le t
    have h3 := laysP_sum l (n + 1) hc
    rw [layP]
    simp only [szJ]
    split
    · simp [wNull]; omega
    · split
      · simp [wFalse]; omega
      · split
        · simp [wTrue]; omega
        · split
          · omega
          · split
            · omega
            · have h4 := items_len (k == 6) ks (laysP l)
              rw [laysP_len] at h4
              simp only [List.length_cons, List.length_append, List.length_nil]
              omega
theorem laysP_sum : ∀ (l : List Jv) (n : Nat), checksP n l = 0 → 4 * l.length + ((laysP l).map List.length).sum ≤ 30 * szL l
  | [], n, _ => by simp [laysP, szL]
  | j :: r, n, h => by
    have ha := checksP_all n (j :: r) h
    have hr : checksP n r = 0 := by
      rw [checksP, if_pos (ha j (by simp))] at h
      exact h
    have h1 := layP_len j n (ha j (by simp))
    have h2 := laysP_sum r n hr
    simp only [laysP, szL, List.map_cons, List.sum_cons, List.length_cons]
    omega
end
theorem layP_lim (j : Jv) (h : szJ j ≤ 8388608) : checkP 0 j = 0 → (layP j).length ≤ lim := fun hc => by
  have := layP_len j 0 hc
  unfold lim; omega
theorem text_len (j : Jv) : (textT j).1.length ≤ 65536 := by
  unfold textT
  split
  · split
    · simp
    · simp only; omega
  · simp
/-- Text, at a value of a size. -/
theorem text_at {B : Nat} (j : Jv) (v : Value) (w : World) (hx : Cx B w) (hat : RAt (All w) w j v) (hs : szJ j ≤ 8388608) :
    Calls Tryz.prog 15 #[v] w fun e w' => e = .returned (.tuple #[sV (textT j).1, .int .i64 ((textT j).2 : Int)]) ∧ Fr NoB w w' :=
  text_any (All w) j v w hx (fun _ h => h) hat (JSm_of j hs) (layP_lim j hs)
end Go.Proofs.YteeijmfnjcddmaaGreatDoor
