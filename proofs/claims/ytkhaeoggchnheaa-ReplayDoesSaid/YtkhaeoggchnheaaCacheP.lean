/- The replay cache as a datum: plain lemmas, no program. -/
import Derived.Test.YtkhaeoggchnheaaPlain
namespace Go.Proofs.Ytkhaeoggchnheaa
open Go.RowKit Go.Maps

/-- The number in a datum. -/
def num : DataW Unit → Int
  | .lit (.int _ n) => n
  | _ => 0
/-- What the map holds at a key, 0 where there is nothing. -/
def valAt (D : DataW Unit) (s : List UInt8) : Int := num (D.atKey (.string s) (.lit (.int .i64 0)))
def tickB (n : Int) : Bool := decide (0 ≤ n ∧ n ≤ 1099511627776)
theorem tickB_yes {n : Int} (h0 : 0 ≤ n) (h1 : n ≤ 1099511627776) : tickB n = true := by simp [tickB, h0, h1]
theorem tickB_no {n : Int} (h : ¬ (0 ≤ n ∧ n ≤ 1099511627776)) : tickB n = false := by simp only [tickB, decide_eq_false_iff_not]; exact h

/-- How many entries lie above a tick. -/
def live (es : List (Lit × DataW Unit)) (t : Int) : Nat := (es.filter fun p => decide (t < num p.2)).length
/-- .. of those that have come. -/
def cntOut (es : List (Lit × DataW Unit)) (left : Lit → Bool) (t : Int) : Nat := (es.filter fun p => !left p.1 && decide (t < num p.2)).length
/-- Those that are above a tick, or still to come. -/
def sweepL (es : List (Lit × DataW Unit)) (left : Lit → Bool) (t : Int) : DataW Unit := .map (es.filter fun p => decide (t < num p.2) || left p.1)
def sweep (es : List (Lit × DataW Unit)) (t : Int) : List (Lit × DataW Unit) := es.filter fun p => decide (t < num p.2)

/-- The entries of a map: keys all different, each a key. -/
structure Tid (es : List (Lit × DataW Unit)) : Prop where
  apart : es.Pairwise (fun p q => p.1 ≠ q.1)
  keys : ∀ p ∈ es, WideAt.IsKeyLit p.1

section
variable {es : List (Lit × DataW Unit)} {left : Lit → Bool} {t : Int} {kl : Lit} {d : DataW Unit}

theorem has_mem (h : Tid es) {p : Lit × DataW Unit} (hp : p ∈ es) : Maps.has (DataW.map es) p.1 = true := List.any_eq_true.2 ⟨p, hp, WideAt.sameKey_self (h.keys p hp)⟩
theorem cntOut_start (h : Tid es) : cntOut es (Maps.has (.map es)) t = 0 := by
  unfold cntOut
  rw [List.length_eq_zero_iff, List.filter_eq_nil_iff]
  intro p hp
  simp [has_mem h hp]
theorem cntOut_end (hl : ∀ kl, left kl = false) : cntOut es left t = live es t := by
  unfold cntOut live
  congr 1
  exact List.filter_congr (fun p _ => by simp [hl])
theorem mem_of_at (hat : ∀ zd, (DataW.map es).atKey kl zd = d) : (kl, d) ∈ es := by
  have h0 := hat .nil
  have h1 := hat (.lit (.bool true))
  simp only [DataW.atKey] at h0 h1
  cases hf : es.find? (fun p => p.1.sameKey kl) with
  | none => rw [hf] at h0 h1; rw [← h0] at h1; cases h1
  | some p =>
    rw [hf] at h0
    have := List.mem_of_find?_eq_some hf
    have hk := List.find?_some hf
    have e := WideAt.sameKey_eq hk
    rw [← e, ← h0]
    exact this
theorem sameKey_str (a b : List UInt8) : (Lit.string a).sameKey (.string b) = decide (a = b) := by rw [Bool.eq_iff_iff]; simp [Lit.sameKey]
theorem not_same {a b : Lit} (h : a ≠ b) : a.sameKey b = false := Maps.sameKey_ne h

theorem cnt_perm {l l' : List (Lit × DataW Unit)} (hp : l.Perm l') (f : Lit × DataW Unit → Bool) : (l.filter f).length = (l'.filter f).length := (hp.filter f).length_eq

theorem cntOut_one (h : Tid es) (hm : (kl, d) ∈ es) (hl : left kl = true) : cntOut es (fun z => left z && !z.sameKey kl) t = cntOut es left t + (if t < num d then 1 else 0) := by
  obtain ⟨l1, l2, rfl⟩ := List.append_of_mem hm
  have hk := h.keys (kl, d) hm
  have hs : kl.sameKey kl = true := WideAt.sameKey_self hk
  have ha := h.apart
  rw [List.pairwise_append] at ha
  obtain ⟨_, a2, a3⟩ := ha
  have e1 : ∀ p ∈ l1, p.1.sameKey kl = false := fun p hp => not_same (a3 p hp (kl, d) (by simp))
  have e2 : ∀ p ∈ l2, p.1.sameKey kl = false := fun p hp => not_same (fun e => (List.pairwise_cons.1 a2).1 p hp e.symm)
  have f1 : l1.filter (fun p => !(left p.1 && !p.1.sameKey kl) && decide (t < num p.2)) = l1.filter (fun p => !left p.1 && decide (t < num p.2)) := List.filter_congr fun p hp => by simp [e1 p hp]
  have f2 : l2.filter (fun p => !(left p.1 && !p.1.sameKey kl) && decide (t < num p.2)) = l2.filter (fun p => !left p.1 && decide (t < num p.2)) := List.filter_congr fun p hp => by simp [e2 p hp]
  unfold cntOut
  simp only [List.filter_append, List.filter_cons, List.length_append, f1, f2, hl, hs]
  by_cases ht : t < num d <;> simp [ht] <;> omega

theorem sweepL_start (h : Tid es) : sweepL es (Maps.has (.map es)) t = .map es := by
  unfold sweepL
  rw [List.filter_eq_self.2 (fun p hp => by simp [has_mem h hp])]
theorem sweepL_end (hl : ∀ kl, left kl = false) : sweepL es left t = .map (sweep es t) := by
  unfold sweepL sweep
  congr 1
  exact List.filter_congr (fun p _ => by simp [hl])
theorem sweepL_came (h : Tid es) (hk : WideAt.IsKeyLit kl) (hlk : left kl = true) (hat : ∀ zd, (sweepL es left t).atKey kl zd = d) : ∀ p ∈ es, p.1 = kl → p.2 = d := by
  intro p hp hpk
  have hm : (kl, p.2) ∈ es.filter fun p => decide (t < num p.2) || left p.1 := List.mem_filter.2 ⟨by rw [← hpk]; exact hp, by simp [hlk]⟩
  exact (WideAt.atKey_mem .nil hk (h.apart.filter _) hm).symm.trans (hat .nil)
theorem sweepL_struck (h : Tid es) (hk : WideAt.IsKeyLit kl) (hlk : left kl = true) (hd : ¬ t < num d) (hat : ∀ zd, (sweepL es left t).atKey kl zd = d) : (sweepL es left t).del kl = sweepL es (fun z => left z && !z.sameKey kl) t := by
  have hc := sweepL_came h hk hlk hat
  show DataW.map ((es.filter fun p => decide (t < num p.2) || left p.1).filter fun p => !p.1.sameKey kl) = _
  unfold sweepL
  rw [List.filter_filter]
  congr 1
  refine List.filter_congr (fun p hp => ?_)
  cases hs : p.1.sameKey kl
  · simp [hs]
  · have := hc p hp (WideAt.sameKey_eq hs)
    simp [this, hd, hs]
theorem sweepL_stays (h : Tid es) (hk : WideAt.IsKeyLit kl) (hlk : left kl = true) (hd : t < num d) (hat : ∀ zd, (sweepL es left t).atKey kl zd = d) : sweepL es left t = sweepL es (fun z => left z && !z.sameKey kl) t := by
  have hc := sweepL_came h hk hlk hat
  unfold sweepL
  congr 1
  refine List.filter_congr (fun p hp => ?_)
  cases hs : p.1.sameKey kl
  · simp [hs]
  · have := hc p hp (WideAt.sameKey_eq hs)
    simp [this, hd]
theorem sweep_tid (h : Tid es) : Tid (sweep es t) := ⟨h.apart.filter _, fun p hp => h.keys p (List.mem_filter.1 hp).1⟩
end

/-- The map is a key's and an int's: the range's step. -/
theorem next_si {P : Program} (w : World) {ops : Array Oper} {rest : List Oper} {o : Oper} {a : Act} {Q : Exit → Act → World → Prop} (hg : o.guard = none) (it : Operand) (hop : o.op = Op.next it false) (k e : TypeId) (qe : IntKind) (K : Keyed P k) (hk : P.underlying k = some .string) (he : P.underlying e = some (.int qe))
    (b r n : Nat) (D : DataW Unit) (left : Lit → Bool) (cnt : Nat) (hit : a.eval it = .pointer (some ⟨r, 0, none⟩)) (h : w.ranges P k (plainElem P e) b r n D left cnt)
    (hDone : cnt = 0 → (∀ kl, left kl = false) → wpList P ops Q rest (a.put o.dst (.tuple #[.bool false])) w)
    (hMore : ∀ (x : ByteArray) (c : Int) (w' : World) (cnt' : Nat), x.size ≤ maxLen → (Lit.int qe c).wf = true → left (.string x.data.toList) = true → (∀ zd, D.atKey (.string x.data.toList) zd = .lit (.int qe c)) → w'.ranges P k (plainElem P e) b r n D (fun z => left z && !z.sameKey (.string x.data.toList)) cnt' → cnt' < cnt →
      w.grownBy w' (some r) → w'.heap.size = w.heap.size → (Instr.entry (.pointer (some ⟨r, 0, none⟩))).run P w' = .ok (.tuple #[.string x, .int qe c]) w' → wpList P ops Q rest (a.put o.dst (.tuple #[.bool true, .string x, .int qe c])) w') :
    wpList P ops Q (o :: rest) a w := by
  have inv : ∀ key kl, keyOf P k key = some kl → ∃ x : ByteArray, key = .string x ∧ kl = .string x.data.toList ∧ x.size ≤ maxLen := by
    intro key kl h
    cases key <;> simp [keyOf, hk, mapKey] at h
    rename_i s
    exact ⟨s, rfl, by first | exact h.2.symm | exact h.symm, by first | exact h.1 | omega⟩
  exact wpList_next_ranges w hg it hop k K (plainElem P e) Value.string (Value.int qe) (fun key kl hkey => by obtain ⟨x, rfl, _⟩ := inv key kl hkey; exact ⟨x, rfl⟩) (fun v y hv => by obtain ⟨c, rfl, _⟩ := plainElem_int_inv he hv; exact ⟨c, rfl⟩)
    b r n D left cnt hit h hDone (fun x c kl y w' cnt' hkey hlk hv hat hrg hlt hgr hsz hen => by
      obtain ⟨x', ex, rfl, hwx⟩ := inv _ _ hkey
      cases ex
      obtain ⟨c', ec, rfl, hwc⟩ := plainElem_int_inv he hv
      cases ec
      exact hMore x c w' cnt' hwx hwc hlk hat hrg hlt hgr hsz hen)

end Go.Proofs.Ytkhaeoggchnheaa
