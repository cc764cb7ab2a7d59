/- JSON, plain: blanks ahead of and behind a text make no difference to what is read. -/
import Derived.Test.YteeijmfnjcddmaaGreatDoorJq
namespace Go.Proofs.YteeijmfnjcddmaaGreatDoor

/-- All are blanks. -/
def AllBl (b : Bs) : Prop := ∀ c ∈ b, c ∈ blankCs
theorem bl_cases {c : UInt8} (h : c ∈ blankCs) : c = 32 ∨ c = 9 ∨ c = 10 ∨ c = 13 := by simpa [blankCs] using h
theorem blanks_all {b : Bs} (h : AllBl b) : blanks b = [] := by
  unfold blanks Lib.trimLeftS
  induction b with
  | nil => rfl
  | cons c r ih =>
    have hc : blankCs.contains c = true := by simpa using h c (by simp)
    rw [List.dropWhile_cons]
    simp only [hc, if_true]
    exact ih (fun x hx => h x (by simp [hx]))
theorem blanks_ahead {a : Bs} (h : AllBl a) (s : Bs) : blanks (a ++ s) = blanks s := by
  unfold blanks Lib.trimLeftS
  induction a with
  | nil => rfl
  | cons c r ih =>
    have hc : blankCs.contains c = true := by simpa using h c (by simp)
    rw [List.cons_append, List.dropWhile_cons]
    simp only [hc, if_true]
    exact ih (fun x hx => h x (by simp [hx]))
/-- With b behind it, where it is not empty. -/
def ext (b s : Bs) : Bs := if s = [] then [] else s ++ b
theorem ext_nil (b : Bs) : ext b [] = [] := rfl
theorem ext_cons (b : Bs) (c : UInt8) (s : Bs) : ext b (c :: s) = c :: s ++ b := rfl
theorem ext_eq_nil {b s : Bs} : ext b s = [] ↔ s = [] := by cases s <;> simp [ext]
theorem blanks_app {b : Bs} (hb : AllBl b) (s : Bs) : blanks (s ++ b) = ext b (blanks s) := by
  induction s with
  | nil => rw [List.nil_append, blanks_all hb]; rfl
  | cons c r ih =>
    unfold blanks Lib.trimLeftS at ih ⊢
    rw [List.cons_append, List.dropWhile_cons, List.dropWhile_cons]
    by_cases hc : blankCs.contains c = true
    · simp only [hc, if_true]; exact ih
    · simp only [hc, if_false, Bool.false_eq_true]; rfl
theorem pre_app {b p s : Bs} (hb : AllBl b) (hp : ∀ c ∈ p, c ∉ blankCs) : p <+: s ++ b ↔ p <+: s := by
  constructor
  · intro h
    by_cases hl : p.length ≤ s.length
    · exact List.prefix_of_prefix_length_le h (List.prefix_append s b) hl
    · exfalso
      obtain ⟨t, ht⟩ := h
      have e : (p ++ t)[s.length]? = (s ++ b)[s.length]? := by rw [ht]
      rw [List.getElem?_append_left (by omega), List.getElem?_append_right (Nat.le_refl _), Nat.sub_self] at e
      cases b with
      | nil => rw [List.getElem?_nil, List.getElem?_eq_none_iff] at e; omega
      | cons c r =>
        rw [List.getElem?_cons_zero] at e
        exact hp c (List.mem_of_getElem? e) (hb c (by simp))
  · exact fun h => h.trans (List.prefix_append s b)
theorem takeP_ext {b p : Bs} (hb : AllBl b) (hp : ∀ c ∈ p, c ∉ blankCs) (h0 : p ≠ []) (s : Bs) : takeP p (ext b s) = (takeP p s).map (ext b) := by
  cases s with
  | nil =>
    rw [ext_nil]; unfold takeP; rw [if_neg (by simpa using h0)]; rfl
  | cons c r =>
    rw [ext_cons]
    unfold takeP
    by_cases h : p <+: (c :: r)
    · rw [if_pos ((pre_app hb hp).2 h), if_pos h, List.drop_append_of_le_length h.length_le, blanks_app hb]; rfl
    · rw [if_neg (fun e => h ((pre_app hb hp).1 e)), if_neg h]; rfl
theorem hex_bl {c : UInt8} (h : hexV c < 16) : c ∉ blankCs := by
  intro hm
  rcases bl_cases hm with rfl | rfl | rfl | rfl <;> revert h <;> decide
theorem unitP_six {t : Bs} {p : Nat × Bs} (h : unitP t = some p) (i : Nat) (hi : i < 6) (c : UInt8) (hc : t[i]? = some c) : c ∉ blankCs := by
  unfold unitP at h
  split at h
  · rename_i x y a b' c' d r
    split at h
    · rename_i hh
      obtain ⟨h1, h2, h3, h4, h5, h6⟩ := hh
      match i, hi, hc with
      | 0, _, hc => simp at hc; subst hc; subst h1; decide
      | 1, _, hc => simp at hc; subst hc; subst h2; decide
      | 2, _, hc => simp at hc; subst hc; exact hex_bl h3
      | 3, _, hc => simp at hc; subst hc; exact hex_bl h4
      | 4, _, hc => simp at hc; subst hc; exact hex_bl h5
      | 5, _, hc => simp at hc; subst hc; exact hex_bl h6
    · cases h
  · cases h
theorem unitP_app {b : Bs} (hb : AllBl b) (s : Bs) : unitP (s ++ b) = (unitP s).map (fun p => (p.1, p.2 ++ b)) := by
  by_cases hl : 6 ≤ s.length
  · match s, hl with
    | x :: y :: a :: b' :: c :: d :: r, _ =>
      simp only [List.cons_append, unitP]
      split <;> rfl
  · have h1 : unitP s = none := by
      cases h : unitP s with
      | none => rfl
      | some p => obtain ⟨n, t⟩ := p; have := unitP_len h; omega
    rw [h1]
    cases h : unitP (s ++ b) with
    | none => rfl
    | some p =>
      exfalso
      obtain ⟨n, t⟩ := p
      have h2 := unitP_len h
      cases b with
      | nil => simp at h2; omega
      | cons c r => exact unitP_six h s.length (by omega) c (by simp) (hb c (by simp))
theorem escU_app {b : Bs} (hb : AllBl b) (s : Bs) : escU (s ++ b) = (escU s).map (fun p => (p.1, p.2 ++ b)) := by
  unfold escU
  rw [unitP_app hb]
  cases h : unitP s with
  | none => rfl
  | some p =>
    obtain ⟨n, r⟩ := p
    simp only [Option.map_some]
    split
    · rw [unitP_app hb]
      cases h2 : unitP r with
      | none => rfl
      | some q =>
        obtain ⟨m, r2⟩ := q
        simp only [Option.map_some]
        split
        · simp only [Option.map_some]
        · simp only [Option.map_none]
    · split
      · simp only [Option.map_none]
      · simp only [Option.map_some]
theorem escP_two (x c : UInt8) (r : Bs) : escP (x :: c :: r) = if escV c ≠ 0 then some ([escV c], r) else escU (x :: c :: r) := rfl
theorem escV_bl {c : UInt8} (h : c ∈ blankCs) : escV c = 0 := by rcases bl_cases h with rfl | rfl | rfl | rfl <;> decide
theorem escU_short {s : Bs} (h : s.length < 2) : escU s = none := by
  unfold escU
  cases hu : unitP s with
  | none => rfl
  | some p => obtain ⟨n, r⟩ := p; have := unitP_len hu; omega
theorem escP_app {b : Bs} (hb : AllBl b) (s : Bs) : escP (s ++ b) = (escP s).map (fun p => (p.1, p.2 ++ b)) := by
  match s with
  | [] =>
    rw [List.nil_append]
    show escP b = none
    match b, hb with
    | [], _ => rfl
    | [_], _ => rfl
    | x :: c :: r, hb =>
      rw [escP_two, if_neg (by simp [escV_bl (hb c (by simp))])]
      have := escU_app hb []
      rw [List.nil_append] at this
      rw [this, escU_short (by simp)]; rfl
  | [x] =>
    show escP (x :: b) = none
    match b, hb with
    | [], _ => rfl
    | c :: r, hb =>
      rw [escP_two, if_neg (by simp [escV_bl (hb c (by simp))])]
      have := escU_app hb [x]
      rw [show x :: c :: r = [x] ++ (c :: r) from rfl, this, escU_short (by simp)]; rfl
  | x :: c :: r =>
    have e1 : escP (x :: c :: r ++ b) = if escV c ≠ 0 then some ([escV c], r ++ b) else escU (x :: c :: r ++ b) := rfl
    have e2 : escP (x :: c :: r) = if escV c ≠ 0 then some ([escV c], r) else escU (x :: c :: r) := rfl
    rw [e1, e2]
    split
    · rfl
    · exact escU_app hb _
theorem strP_cons (f : Nat) (c : UInt8) (u acc : Bs) : strP (f + 1) (c :: u) acc = if c < 32 then none else if c = 34 then (if Lib.validD acc then some (acc, blanks u) else none) else if c = 92 then (match escP (c :: u) with | none => none | some (b, r') => strP f r' (acc ++ b)) else strP f u (acc ++ [c]) := rfl
theorem strP_bl : ∀ (b : Bs) (f : Nat) (acc : Bs), AllBl b → strP f b acc = none
  | _, 0, _, _ => rfl
  | [], f + 1, _, _ => rfl
  | c :: r, f + 1, acc, h => by
    rw [strP_cons]
    have ih := strP_bl r f (acc ++ [c]) (fun x hx => h x (by simp [hx]))
    rcases bl_cases (h c (by simp)) with rfl | rfl | rfl | rfl
    · rw [if_neg (by decide), if_neg (by decide), if_neg (by decide)]; exact ih
    · rw [if_pos (by decide)]
    · rw [if_pos (by decide)]
    · rw [if_pos (by decide)]
theorem strP_app {b : Bs} (hb : AllBl b) : ∀ (f : Nat) (s acc : Bs), strP f (s ++ b) acc = (strP f s acc).map (fun p => (p.1, ext b p.2))
  | 0, _, _ => rfl
  | f + 1, [], acc => by rw [List.nil_append, strP_bl b _ acc hb]; rfl
  | f + 1, c :: u, acc => by
    rw [List.cons_append, strP_cons, strP_cons]
    split
    · rfl
    · split
      · split
        · rw [blanks_app hb]; rfl
        · rfl
      · split
        · have := escP_app hb (c :: u)
          rw [List.cons_append] at this
          rw [this]
          cases escP (c :: u) with
          | none => rfl
          | some p => exact strP_app hb f _ _
        · exact strP_app hb f _ _
theorem strP_fuel : ∀ (f g : Nat) (s acc : Bs), s.length < f → s.length < g → strP f s acc = strP g s acc
  | 0, _, s, _, h, _ => by omega
  | _ + 1, 0, s, _, _, h => by omega
  | f + 1, g + 1, [], acc, _, _ => rfl
  | f + 1, g + 1, c :: u, acc, h1, h2 => by
    simp only [List.length_cons] at h1 h2
    rw [strP_cons, strP_cons]
    split
    · rfl
    · split
      · rfl
      · split
        · cases he : escP (c :: u) with
          | none => rfl
          | some p =>
            obtain ⟨x, r⟩ := p
            have hr := (escP_len he).2
            simp only [List.length_cons] at hr
            exact strP_fuel f g r _ (by omega) (by omega)
        · exact strP_fuel f g u _ (by omega) (by omega)
theorem textP_ext {b : Bs} (hb : AllBl b) (s : Bs) : textP (ext b s) = (textP s).map (fun p => (p.1, ext b p.2)) := by
  cases s with
  | nil => rfl
  | cons c r =>
    rw [ext_cons]
    have e1 : textP (c :: r ++ b) = if c = 34 then strP ((c :: r ++ b).length) (r ++ b) [] else none := rfl
    have e2 : textP (c :: r) = if c = 34 then strP ((c :: r).length) r [] else none := rfl
    rw [e1, e2]
    split
    · rw [strP_app hb, strP_fuel ((c :: r ++ b).length) ((c :: r).length) r [] (by simp; omega) (by simp)]
    · rfl
theorem dig_bl {c : UInt8} (h : c ∈ blankCs) : isDig c = false := by rcases bl_cases h with rfl | rfl | rfl | rfl <;> decide
theorem digs_bl {b : Bs} (hb : AllBl b) : digs b = 0 := by
  cases b with
  | nil => rfl
  | cons c r => unfold digs; rw [List.takeWhile_cons, dig_bl (hb c (by simp))]; rfl
theorem digs_app {b : Bs} (hb : AllBl b) (s : Bs) : digs (s ++ b) = digs s := by
  induction s with
  | nil => rw [List.nil_append, digs_bl hb]; rfl
  | cons c r ih =>
    unfold digs at ih ⊢
    rw [List.cons_append, List.takeWhile_cons, List.takeWhile_cons]
    split
    · simp only [List.length_cons]; rw [ih]
    · rfl
theorem minusP_app {b : Bs} (hb : AllBl b) (s : Bs) : minusP (s ++ b) = minusP s := by
  cases s with
  | nil =>
    cases b with
    | nil => rfl
    | cons c r => rcases bl_cases (hb c (by simp)) with rfl | rfl | rfl | rfl <;> rfl
  | cons c r => rfl
theorem wholeP_app {b : Bs} (hb : AllBl b) (s : Bs) : wholeP (s ++ b) = wholeP s := by
  unfold wholeP
  rw [digs_app hb]
  cases s with
  | nil =>
    cases b with
    | nil => rfl
    | cons c r => rcases bl_cases (hb c (by simp)) with rfl | rfl | rfl | rfl <;> rfl
  | cons c r => rfl
theorem fracP_app {b : Bs} (hb : AllBl b) (s : Bs) : fracP (s ++ b) = fracP s := by
  cases s with
  | nil =>
    cases b with
    | nil => rfl
    | cons c r => rcases bl_cases (hb c (by simp)) with rfl | rfl | rfl | rfl <;> (unfold fracP; simp)
  | cons c r =>
    rw [List.cons_append]
    simp only [fracP, digs_app hb]
theorem signP_app {b : Bs} (hb : AllBl b) (s : Bs) : signP (s ++ b) = signP s := by
  cases s with
  | nil =>
    cases b with
    | nil => rfl
    | cons c r => rcases bl_cases (hb c (by simp)) with rfl | rfl | rfl | rfl <;> (unfold signP; simp)
  | cons c r => rfl
theorem signP_le (s : Bs) : signP s ≤ s.length := by unfold signP; cases s with | nil => simp | cons d q => simp only; split <;> simp
theorem expP_app {b : Bs} (hb : AllBl b) (s : Bs) : expP (s ++ b) = expP s := by
  cases s with
  | nil =>
    cases b with
    | nil => rfl
    | cons c r => rcases bl_cases (hb c (by simp)) with rfl | rfl | rfl | rfl <;> (unfold expP; simp)
  | cons c r =>
    rw [List.cons_append]
    simp only [expP, signP_app hb, List.drop_append_of_le_length (signP_le r), digs_app hb]
theorem minusP_le (s : Bs) : minusP s ≤ s.length := by unfold minusP; cases s with | nil => simp | cons c r => split <;> simp
theorem wholeP_le (s : Bs) : wholeP s ≤ s.length := by
  unfold wholeP
  split
  · rename_i h; cases s with | nil => simp at h | cons c r => simp
  · exact digs_le s
theorem fracP_le (s : Bs) : fracP s ≤ s.length := by
  unfold fracP
  cases s with
  | nil => simp
  | cons c r => simp only; split <;> simp; have := digs_le r; omega
theorem numP_app {b : Bs} (hb : AllBl b) (s : Bs) : numP (s ++ b) = numP s := by
  have h1 := minusP_le s
  have h2 := wholeP_le (s.drop (minusP s))
  have h3 := fracP_le (s.drop (minusP s + wholeP (s.drop (minusP s))))
  simp only [List.length_drop] at h2 h3
  unfold numP
  simp only [minusP_app hb]
  rw [List.drop_append_of_le_length h1, wholeP_app hb, List.drop_append_of_le_length (by omega), fracP_app hb, List.drop_append_of_le_length (by omega), expP_app hb]
theorem wNull_nb : ∀ c ∈ wNull, c ∉ blankCs := by decide
theorem wFalse_nb : ∀ c ∈ wFalse, c ∉ blankCs := by decide
theorem wTrue_nb : ∀ c ∈ wTrue, c ∉ blankCs := by decide
/-- With b behind what is left. -/
def mapX (b : Bs) : Pr → Pr
  | .ok (v, r) => .ok (v, ext b r)
  | .error e => .error e
theorem wordP_nil : wordP [] = .error 90 := by rfl
theorem wordP_ext {b : Bs} (hb : AllBl b) (s : Bs) : wordP (ext b s) = mapX b (wordP s) := by
  by_cases h0 : s = []
  · subst h0; rw [ext_nil, wordP_nil]; rfl
  unfold wordP
  rw [takeP_ext hb wNull_nb (by decide), takeP_ext hb wFalse_nb (by decide), takeP_ext hb wTrue_nb (by decide)]
  cases takeP wNull s with
  | some r => rfl
  | none =>
  cases takeP wFalse s with
  | some r => rfl
  | none =>
  cases takeP wTrue s with
  | some r => rfl
  | none =>
    simp only [Option.map_none]
    have e : ext b s = s ++ b := by unfold ext; rw [if_neg h0]
    rw [e, numP_app hb, List.take_append_of_le_length (numP_le s), List.drop_append_of_le_length (numP_le s), blanks_app hb]
    split
    · rfl
    · cases exactP (s.take (numP s)) with
      | none => rfl
      | some n => rfl
theorem keyP_ext {b : Bs} (hb : AllBl b) (obj : Bool) (s : Bs) (ks : List Bs) : keyP obj (ext b s) ks = (keyP obj s ks).map (fun p => (p.1, ext b p.2)) := by
  unfold keyP
  cases obj with
  | false => rfl
  | true =>
    simp only [if_true]
    rw [textP_ext hb]
    cases textP s with
    | none => rfl
    | some p =>
      obtain ⟨key, s1⟩ := p
      simp only [Option.map_some]
      split
      · rfl
      · rw [takeP_ext hb (by decide) (by decide)]
        cases takeP [58] s1 with
        | none => rfl
        | some s2 => rfl
theorem itemsP_ext {b : Bs} (hb : AllBl b) (val : Bs → Pr) (hv : ∀ s, val (ext b s) = mapX b (val s)) (obj : Bool) (close : UInt8) (hc : close ∉ blankCs) :
    ∀ (f : Nat) (s : Bs) (l : List Jv) (ks : List Bs), itemsP val obj close f (ext b s) l ks = mapX b (itemsP val obj close f s l ks)
  | 0, s, l, ks => rfl
  | f + 1, s, l, ks => by
    unfold itemsP
    rw [keyP_ext hb]
    cases keyP obj s ks with
    | error e => rfl
    | ok p =>
      obtain ⟨ks', s2⟩ := p
      simp only [Except.map]
      rw [hv]
      cases val s2 with
      | error e => rfl
      | ok p =>
        obtain ⟨v, s3⟩ := p
        simp only [mapX]
        rw [takeP_ext hb (by simpa using hc) (by simp)]
        cases takeP [close] s3 with
        | some s4 => rfl
        | none =>
          simp only [Option.map_none]
          rw [takeP_ext hb (by decide) (by decide)]
          cases takeP [44] s3 with
          | none => rfl
          | some s4 =>
            simp only [Option.map_some]
            exact itemsP_ext hb val hv obj close hc f s4 _ _
theorem itemsP_fuel (val : Bs → Pr) (hv : ∀ s j r, val s = .ok (j, r) → r.length < s.length) (obj : Bool) (close : UInt8) :
    ∀ (f g : Nat) (s : Bs) (l : List Jv) (ks : List Bs), s.length < f → s.length < g → itemsP val obj close f s l ks = itemsP val obj close g s l ks
  | 0, _, s, _, _, h, _ => by omega
  | _ + 1, 0, s, _, _, _, h => by omega
  | f + 1, g + 1, s, l, ks, h1, h2 => by
    unfold itemsP
    cases hk : keyP obj s ks with
    | error e => rfl
    | ok p =>
      obtain ⟨ks', s2⟩ := p
      simp only
      have k1 := keyP_len hk
      cases hval : val s2 with
      | error e => rfl
      | ok p =>
        obtain ⟨v, s3⟩ := p
        have k2 := hv _ _ _ hval
        simp only
        cases takeP [close] s3 with
        | some s4 => rfl
        | none =>
          simp only
          cases hm : takeP [44] s3 with
          | none => rfl
          | some s4 =>
            have k3 := takeP_len hm
            exact itemsP_fuel val hv obj close f g s4 _ _ (by omega) (by omega)
theorem nestP_ext {b : Bs} (hb : AllBl b) (val : Bs → Pr) (hl : ∀ s j r, val s = .ok (j, r) → r.length < s.length) (hv : ∀ s, val (ext b s) = mapX b (val s)) (obj : Bool) (close : UInt8) (hc : close ∉ blankCs) (s : Bs) :
    nestP val obj close (ext b s) = mapX b (nestP val obj close s) := by
  unfold nestP
  rw [takeP_ext hb (by simpa using hc) (by simp)]
  cases takeP [close] s with
  | some s1 => rfl
  | none =>
    simp only [Option.map_none]
    rw [itemsP_ext hb val hv obj close hc, itemsP_fuel val hl obj close ((ext b s).length + 1) (s.length + 1) s [] [] (by unfold ext; split <;> simp_all; omega) (by omega)]
theorem valueP_head (d : Nat) (s : Bs) (h : s.head? ≠ some 34) (h1 : s.head? ≠ some 91) (h2 : s.head? ≠ some 123) : valueP d s = wordP s := by
  unfold valueP
  split
  · exact absurd ‹_› h
  · exact absurd ‹_› h1
  · exact absurd ‹_› h2
  · rfl
theorem valueP_text (d : Nat) (r : Bs) : valueP d (34 :: r) = (match textP (34 :: r) with | none => .error 90 | some (t, r) => .ok (.mk 4 0 t [] [], r)) := by
  unfold valueP; rfl
theorem valueP_deep (c : UInt8) (hc : c = 91 ∨ c = 123) (r : Bs) : valueP 0 (c :: r) = .error 91 := by
  rcases hc with rfl | rfl <;> (unfold valueP; rfl)
theorem valueP_list (d : Nat) (r : Bs) : valueP (d + 1) (91 :: r) = nestP (valueP d) false 93 (blanks r) := by
  conv => lhs; unfold valueP
  rfl
theorem valueP_obj (d : Nat) (r : Bs) : valueP (d + 1) (123 :: r) = nestP (valueP d) true 125 (blanks r) := by
  conv => lhs; unfold valueP
  rfl
theorem valueP_ext {b : Bs} (hb : AllBl b) : ∀ (d : Nat) (s : Bs), valueP d (ext b s) = mapX b (valueP d s) := by
  intro d
  induction d with
  | zero =>
    intro s
    cases s with
    | nil => rw [ext_nil, valueP_head 0 [] (by simp) (by simp) (by simp), wordP_nil]; rfl
    | cons c r =>
      by_cases h34 : c = 34
      · subst h34
        have e : ext b (34 :: r) = 34 :: (r ++ b) := rfl
        rw [e, valueP_text, valueP_text, ← e, textP_ext hb]
        cases textP (34 :: r) with
        | none => rfl
        | some p => rfl
      · by_cases h9 : c = 91 ∨ c = 123
        · have e : ext b (c :: r) = c :: (r ++ b) := rfl
          rw [e, valueP_deep c h9, valueP_deep c h9]; rfl
        · have hh : ∀ t : Bs, valueP 0 (c :: t) = wordP (c :: t) := fun t => valueP_head 0 _ (by simpa using h34) (by simpa using fun e => h9 (Or.inl e)) (by simpa using fun e => h9 (Or.inr e))
          have e : ext b (c :: r) = c :: (r ++ b) := rfl
          rw [e, hh, hh, ← e, wordP_ext hb]
  | succ d ih =>
    intro s
    cases s with
    | nil => rw [ext_nil, valueP_head (d + 1) [] (by simp) (by simp) (by simp), wordP_nil]; rfl
    | cons c r =>
      have e : ext b (c :: r) = c :: (r ++ b) := rfl
      by_cases h34 : c = 34
      · subst h34
        rw [e, valueP_text, valueP_text, ← e, textP_ext hb]
        cases textP (34 :: r) with
        | none => rfl
        | some p => rfl
      · by_cases h91 : c = 91
        · subst h91
          rw [e, valueP_list, valueP_list, blanks_app hb, nestP_ext hb _ (valueP_len d) ih _ _ (by decide)]
        · by_cases h123 : c = 123
          · subst h123
            rw [e, valueP_obj, valueP_obj, blanks_app hb, nestP_ext hb _ (valueP_len d) ih _ _ (by decide)]
          · have hh : ∀ t : Bs, valueP (d + 1) (c :: t) = wordP (c :: t) := fun t => valueP_head _ _ (by simpa using h34) (by simpa using h91) (by simpa using h123)
            rw [e, hh, hh, ← e, wordP_ext hb]
/-- Blanks ahead and behind make no difference. -/
theorem parse_blanks {a b : Bs} (ha : AllBl a) (hb : AllBl b) (s : Bs) (hl : a.length + s.length + b.length ≤ 65536) : parseP (a ++ s ++ b) = parseP s := by
  unfold parseP
  rw [if_neg (by simp; omega), if_neg (by omega), List.append_assoc, blanks_ahead ha, blanks_app hb, valueP_ext hb]
  cases valueP 32 (blanks s) with
  | error e => rfl
  | ok p =>
    obtain ⟨v, r⟩ := p
    simp only [mapX, ext_eq_nil]
end Go.Proofs.YteeijmfnjcddmaaGreatDoor
