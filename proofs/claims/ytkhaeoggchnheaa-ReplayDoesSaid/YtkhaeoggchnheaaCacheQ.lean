/- The replay cache as a datum: what Add keeps. Plain lemmas, no program. -/
import Derived.Test.YtkhaeoggchnheaaCacheF
namespace Go.Proofs.Ytkhaeoggchnheaa
open Go.RowKit Go.Maps Go.WideShapes

section
variable {es : List (Lit × DataW Unit)} {t : Int} {s s2 : List UInt8} {d : DataW Unit}

theorem valAt_of_mem (h : Tid es) (hm : (.string s, d) ∈ es) : valAt (.map es) s = num d := by
  unfold valAt
  rw [WideAt.atKey_mem _ (h.keys _ hm) h.apart hm]
theorem mem_of_has (h : Maps.has (.map es) (.string s) = true) : ∃ d, (.string s, d) ∈ es := by
  obtain ⟨p, hp, hk⟩ := List.any_eq_true.1 h
  have := WideAt.sameKey_eq hk
  exact ⟨p.2, by rw [← this]; exact hp⟩
theorem has_of_mem (hm : (.string s, d) ∈ es) : Maps.has (.map es) (.string s) = true := List.any_eq_true.2 ⟨_, hm, by simp [Lit.sameKey]⟩
theorem valAt_none (h : Maps.has (.map es) (.string s) = false) : valAt (.map es) s = 0 := by
  unfold valAt
  rw [Maps.atKey_of_not_has h]
  rfl
theorem mem_of_val (h : Tid es) (hp : 0 < valAt (.map es) s) : ∃ d, (.string s, d) ∈ es ∧ num d = valAt (.map es) s := by
  cases hh : Maps.has (.map es) (.string s)
  · rw [valAt_none hh] at hp; omega
  · obtain ⟨d, hd⟩ := mem_of_has hh
    exact ⟨d, hd, (valAt_of_mem h hd).symm⟩
theorem mem_sweep {p : Lit × DataW Unit} : p ∈ sweep es t ↔ p ∈ es ∧ t < num p.2 := by simp [sweep]
theorem mem_putE {p : Lit × DataW Unit} {til : Int} : p ∈ putE es s til ↔ p = (.string s, .lit (.int .i64 til)) ∨ (p ∈ es ∧ p.1.sameKey (.string s) = false) := by
  unfold putE
  rw [(insert_perm _ _).mem_iff]
  simp
theorem len_putE {til : Int} : (putE es s til).length ≤ es.length + 1 := by
  unfold putE
  rw [length_insert]
  have := List.length_filter_le (fun p : Lit × DataW Unit => !p.1.sameKey (.string s)) es
  omega
theorem len_sweep : (sweep es t).length ≤ es.length := List.length_filter_le _ _
theorem len_putE_new {til : Int} (h : Maps.has (.map es) (.string s) = false) : (putE es s til).length = es.length + 1 := by
  unfold putE
  rw [length_insert, List.filter_eq_self.2]
  intro p hp
  have : ¬ p.1.sameKey (.string s) = true := fun e => by
    have := List.any_eq_false.1 h p hp
    exact this e
  simpa using this

theorem same_false {a b : List UInt8} (h : a ≠ b) : (Lit.string a).sameKey (.string b) = false := by rw [sameKey_str]; simpa using h
end

theorem ref2_zero {room clock : Int} {es : List (Lit × DataW Unit)} {s : List UInt8} {til : Int} (h : ref2 room clock es s til = 0) : clock < til ∧ Maps.has (.map es) (.string s) = false ∧ (es.length : Int) < room := by
  unfold ref2 at h
  by_cases h1 : til ≤ clock
  · rw [if_pos h1] at h; omega
  · rw [if_neg h1] at h
    by_cases h2 : Maps.has (.map es) (.string s) = true
    · rw [if_pos h2] at h; omega
    · rw [if_neg h2] at h
      by_cases h3 : room ≤ es.length
      · rw [if_pos h3] at h; omega
      · exact ⟨by omega, by simpa using h2, by omega⟩

/-- What a cache that was made and added to is: the clock a tick, all entries above it, no more than there is room for. -/
structure CInv (room clock : Int) (es : List (Lit × DataW Unit)) : Prop where
  c0 : 0 ≤ clock
  up : ∀ p ∈ es, clock < num p.2
  len : (es.length : Int) ≤ room

theorem CInv.start {room : Int} (h : 1 ≤ room) : CInv room 0 [] := ⟨by omega, by simp, by simp; omega⟩
theorem CInv.add {room clock : Int} {es : List (Lit × DataW Unit)} (h : CInv room clock es) (s : List UInt8) (til now : Int) : CInv room (addC clock s til now) (addL room clock es s til now) := by
  unfold addC addL
  by_cases h0 : ref0 s til now = 0
  · rw [if_neg (by simpa using h0), if_neg (by simpa using h0)]
    have hc := h.c0
    have l1 := len_sweep (es := es) (t := max clock now)
    have := h.len
    by_cases h2 : ref2 room (max clock now) (sweep es (max clock now)) s til = 0
    · rw [if_neg (by simpa using h2)]
      obtain ⟨z1, z2, z3⟩ := ref2_zero h2
      refine ⟨by omega, fun p hp => ?_, ?_⟩
      · rcases mem_putE.1 hp with rfl | ⟨hp, _⟩
        · exact z1
        · exact (mem_sweep.1 hp).2
      · have := len_putE (es := sweep es (max clock now)) (s := s) (til := til)
        omega
    · rw [if_pos h2]
      exact ⟨by omega, fun p hp => (mem_sweep.1 hp).2, by omega⟩
  · rw [if_pos h0, if_pos h0]
    exact h
theorem addE_zero {room clock : Int} {es : List (Lit × DataW Unit)} {s : List UInt8} {til now : Int} (h : addE room clock es s til now = 0) :
    ref0 s til now = 0 ∧ ref2 room (max clock now) (sweep es (max clock now)) s til = 0 := by
  unfold addE at h
  by_cases h0 : ref0 s til now = 0
  · rw [if_neg (by simpa using h0)] at h
    exact ⟨h0, h⟩
  · rw [if_pos h0] at h
    exact absurd h h0
theorem addL_zero {room clock : Int} {es : List (Lit × DataW Unit)} {s : List UInt8} {til now : Int} (h : addE room clock es s til now = 0) :
    addL room clock es s til now = putE (sweep es (max clock now)) s til ∧ addC clock s til now = max clock now := by
  obtain ⟨h0, h2⟩ := addE_zero h
  unfold addL addC
  simp [h0, h2]
/-- An entry above the new clock is still there behind Add. -/
theorem add_keeps {room clock : Int} {es : List (Lit × DataW Unit)} (ht : Tid es) {s s2 : List UInt8} {til now : Int} (ht' : Tid (addL room clock es s til now)) (h0 : 0 ≤ clock) (hv : addC clock s til now < valAt (.map es) s2)
    (hne : addE room clock es s til now = 0 → s2 ≠ s) : valAt (.map (addL room clock es s til now)) s2 = valAt (.map es) s2 := by
  have hc : 0 ≤ addC clock s til now := by unfold addC; split <;> omega
  obtain ⟨d, hd, hn⟩ := mem_of_val (s := s2) ht (by omega)
  rw [← hn]
  refine valAt_of_mem ht' ?_
  by_cases hz : addE room clock es s til now = 0
  · obtain ⟨e1, e2⟩ := addL_zero hz
    rw [e1, mem_putE]
    rw [e2] at hv
    exact Or.inr ⟨mem_sweep.2 ⟨hd, by simp only; omega⟩, same_false (hne hz)⟩
  · unfold addL
    unfold addC at hv
    by_cases h1 : ref0 s til now = 0
    · rw [if_neg (by simpa using h1)] at hv ⊢
      have h2 : ref2 room (max clock now) (sweep es (max clock now)) s til ≠ 0 := by
        unfold addE at hz
        rwa [if_neg (by simpa using h1)] at hz
      rw [if_pos h2]
      exact mem_sweep.2 ⟨hd, by simp only; omega⟩
    · rw [if_pos h1]
      exact hd
/-- What lies above the new clock is not taken again. -/
theorem add_once {room clock : Int} {es : List (Lit × DataW Unit)} (ht : Tid es) {s : List UInt8} {til now : Int} (h0 : 0 ≤ clock) (hv : addC clock s til now < valAt (.map es) s) : addE room clock es s til now ≠ 0 := by
  intro hz
  obtain ⟨e1, e2⟩ := addL_zero hz
  obtain ⟨z0, z2⟩ := addE_zero hz
  obtain ⟨_, hh, _⟩ := ref2_zero z2
  rw [e2] at hv
  obtain ⟨d, hd, hn⟩ := mem_of_val (s := s) ht (by omega)
  rw [has_of_mem (mem_sweep.2 ⟨hd, by simp only; omega⟩)] at hh
  cases hh
theorem add_there {room clock : Int} {es : List (Lit × DataW Unit)} {s : List UInt8} {til now : Int} (ht' : Tid (addL room clock es s til now)) (hz : addE room clock es s til now = 0) : valAt (.map (addL room clock es s til now)) s = til ∧ addC clock s til now < til := by
  obtain ⟨e1, e2⟩ := addL_zero hz
  obtain ⟨z0, z2⟩ := addE_zero hz
  obtain ⟨zz, _⟩ := ref2_zero z2
  refine ⟨?_, by rw [e2]; exact zz⟩
  rw [e1] at ht' ⊢
  exact valAt_of_mem ht' (d := .lit (.int .i64 til)) (mem_putE.2 (Or.inl rfl))

/-- ReplayOnce: what was taken is there, or over. -/
def OInv (clock : Int) (es ts : List (Lit × DataW Unit)) : Prop := ∀ s, clock < valAt (.map ts) s → valAt (.map es) s = valAt (.map ts) s

theorem OInv.start : OInv 0 [] [] := fun _ _ => rfl
theorem OInv.no {room clock : Int} {es ts : List (Lit × DataW Unit)} (h : OInv clock es ts) (h0 : 0 ≤ clock) (ht : Tid es) {s : List UInt8} {til now : Int} (ht' : Tid (addL room clock es s til now)) (hz : addE room clock es s til now ≠ 0) :
    OInv (addC clock s til now) (addL room clock es s til now) ts := by
  intro s2 hs2
  have hc : clock ≤ addC clock s til now := by unfold addC; split <;> omega
  have e := h s2 (by omega)
  rw [← e]
  exact add_keeps ht ht' h0 (by omega) (fun e => absurd e hz)
theorem OInv.yes {room clock : Int} {es ts : List (Lit × DataW Unit)} (h : OInv clock es ts) (h0 : 0 ≤ clock) (ht : Tid es) {s : List UInt8} {til now : Int} (ht' : Tid (addL room clock es s til now)) (hz : addE room clock es s til now = 0) :
    OInv (addC clock s til now) (addL room clock es s til now) (putE ts s til) := by
  intro s2 hs2
  by_cases hs : s2 = s
  · subst hs
    rw [(add_there ht' hz).1]
    have := Maps.atKey_put_same (H := Unit) (D := .map ts) (k := .string s2) ⟨ts, rfl⟩ trivial (.lit (.int .i64 til)) (.lit (.int .i64 0))
    show til = num ((DataW.put (.map ts) (.string s2) (.lit (.int .i64 til))).atKey (.string s2) (.lit (.int .i64 0)))
    rw [this]
    rfl
  · have e1 : valAt (.map (putE ts s til)) s2 = valAt (.map ts) s2 := by
      have := Maps.atKey_put_other (H := Unit) (D := .map ts) (k := .string s) (k' := .string s2) (fun e => hs (by injection e)) (.lit (.int .i64 til)) (.lit (.int .i64 0))
      show num ((DataW.put (.map ts) (.string s) (.lit (.int .i64 til))).atKey (.string s2) (.lit (.int .i64 0))) = _
      rw [this]
      rfl
    rw [e1] at hs2 ⊢
    have hc : clock ≤ addC clock s til now := by unfold addC; split <;> omega
    have e := h s2 (by omega)
    rw [← e]
    exact add_keeps ht ht' h0 (by omega) (fun _ => hs)

end Go.Proofs.Ytkhaeoggchnheaa
