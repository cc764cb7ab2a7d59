/- JSON, plain: what the document's Sorted chooses: the least key behind the last one. -/
import Derived.Test.YteeijmfnjcddmaaGreatDoorPs
namespace Go.Proofs.YteeijmfnjcddmaaGreatDoor

theorem bs_lt_of {a b : Bs} (h : a ≤ b) (hn : a ≠ b) : a < b := by
  rcases Classical.em (a < b) with h1 | h1
  · exact h1
  · exact absurd (List.le_antisymm h (List.not_lt.1 h1)) hn
theorem keys_strict {l : List Jv} {ks : List Bs} (hl : ks.length = l.length) (hn : ks.Nodup) : (keysS l ks).Pairwise (· < ·) := by
  have h1 := keysS_sorted l ks
  have h2 : (keysS l ks).Pairwise (· ≠ ·) := (keysS_perm hl).nodup_iff.2 hn
  exact (h1.and h2).imp (fun h => bs_lt_of h.1 h.2)
/-- The values in the order of their keys, themselves as they are. -/
def valsO (l : List Jv) (ks : List Bs) : List Jv := (orderP true ks l.length).map (fun p => l.getD p Jv.nul)
theorem valsO_len (l : List Jv) (ks : List Bs) : (valsO l ks).length = l.length := by simp [valsO, orderP_len]
theorem valsO_mem {l : List Jv} {ks : List Bs} {x : Jv} (h : x ∈ valsO l ks) : x ∈ l := by
  obtain ⟨p, hp, rfl⟩ := List.mem_map.1 h
  have := orderP_lt hp
  simp [List.getD, this]
theorem valsO_sort (l : List Jv) (ks : List Bs) : (valsO l ks).map sortJ = valsS l ks := by
  unfold valsO valsS
  rw [List.map_map]
  apply List.map_congr_left
  intro p hp
  have := orderP_lt hp
  simp [sortsJ_eq, List.getD, this]
/-- The place of the m-th member. -/
def plc (l : List Jv) (ks : List Bs) (m : Nat) : Nat := (orderP true ks l.length).getD m 0
theorem plc_lt {l : List Jv} {ks : List Bs} {m : Nat} (h : m < l.length) : plc l ks m < l.length := by
  have ho : m < (orderP true ks l.length).length := by rw [orderP_len]; exact h
  unfold plc
  rw [List.getD_eq_getElem?_getD, List.getElem?_eq_getElem ho]
  exact orderP_lt (List.getElem_mem ho)
theorem keysS_at {l : List Jv} {ks : List Bs} {m : Nat} (h : m < l.length) (hm : m < (keysS l ks).length) : (keysS l ks)[m] = keyAt ks (plc l ks m) := by
  have ho : m < (orderP true ks l.length).length := by rw [orderP_len]; exact h
  unfold keysS plc
  rw [List.getD_eq_getElem?_getD, List.getElem?_eq_getElem ho]
  exact List.getElem_map ..
theorem valsO_at {l : List Jv} {ks : List Bs} {m : Nat} (h : m < l.length) (hm : m < (valsO l ks).length) : (valsO l ks)[m] = l[plc l ks m]'(plc_lt h) := by
  have ho : m < (orderP true ks l.length).length := by rw [orderP_len]; exact h
  have hp := plc_lt (ks := ks) h
  unfold plc at hp
  unfold valsO plc
  simp only [List.getD_eq_getElem?_getD, List.getElem?_eq_getElem ho, Option.getD_some] at hp ⊢
  simp [hp]
/-- A key behind those that were told. -/
def beh (l : List Jv) (ks : List Bs) (m p : Nat) : Prop := m = 0 ∨ keyAt (keysS l ks) (m - 1) < keyAt ks p
theorem keyAt_S {l : List Jv} {ks : List Bs} {m : Nat} (h : m < l.length) : keyAt (keysS l ks) m = keyAt ks (plc l ks m) := by
  have hm : m < (keysS l ks).length := by rw [keysS_len]; exact h
  rw [← keysS_at h hm]
  simp [keyAt, List.getD, hm]
theorem keyAt_mono {l : List Jv} {ks : List Bs} (hl : ks.length = l.length) (hn : ks.Nodup) {a b : Nat} (h : a < b) (hb : b < l.length) : keyAt (keysS l ks) a < keyAt (keysS l ks) b := by
  have h1 := List.pairwise_iff_getElem.1 (keys_strict hl hn) a b (by rw [keysS_len]; omega) (by rw [keysS_len]; omega) h
  simpa [keyAt, List.getD, keysS_len, show a < l.length by omega, hb] using h1
theorem beh_here {l : List Jv} {ks : List Bs} (hl : ks.length = l.length) (hn : ks.Nodup) {m : Nat} (h : m < l.length) : beh l ks m (plc l ks m) := by
  by_cases h0 : m = 0
  · exact Or.inl h0
  · right
    rw [← keyAt_S h]
    exact keyAt_mono hl hn (by omega) h
theorem bs_lt_trans {a b c : Bs} (h1 : a < b) (h2 : b < c) : a < c := List.lt_trans h1 h2
/-- What is chosen. -/
theorem sel {l : List Jv} {ks : List Bs} (hl : ks.length = l.length) (hn : ks.Nodup) {m q : Nat} (hm : m < l.length) (hq : q < l.length) (hb : beh l ks m q) (hmin : ∀ p, p < l.length → beh l ks m p → ¬ keyAt ks p < keyAt ks q) : plc l ks m = q := by
  have h1 := hmin _ (plc_lt hm) (beh_here hl hn hm)
  have hmem : q ∈ orderP true ks l.length := (orderP_perm true ks l.length).mem_iff.2 (List.mem_range.2 hq)
  obtain ⟨i, hi, hiq⟩ := List.getElem_of_mem hmem
  rw [orderP_len] at hi
  have hpi : plc l ks i = q := by
    have ho : i < (orderP true ks l.length).length := by rw [orderP_len]; exact hi
    unfold plc
    rw [List.getD_eq_getElem?_getD, List.getElem?_eq_getElem ho]
    exact hiq
  have him : m ≤ i := by
    rcases hb with h0 | hb
    · omega
    · rcases Nat.lt_or_ge i m with hlt | hge
      · exfalso
        rw [← hpi, ← keyAt_S hi] at hb
        rcases Nat.lt_or_ge i (m - 1) with h2 | h2
        · exact List.lt_irrefl _ (bs_lt_trans hb (keyAt_mono hl hn h2 (by omega)))
        · have : i = m - 1 := by omega
          rw [this] at hb
          exact List.lt_irrefl _ hb
      · exact hge
  rcases Nat.lt_or_ge m i with hlt | hge
  · exfalso
    apply h1
    rw [← hpi, ← keyAt_S hi, ← keyAt_S hm]
    exact keyAt_mono hl hn hlt hi
  · have : m = i := by omega
    rw [this]; exact hpi
end Go.Proofs.YteeijmfnjcddmaaGreatDoor
