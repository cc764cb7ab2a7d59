/- JSON: a number of base sixteen out of four digits: strconv.ParseUint at base 16 and 16 bits. -/
import Derived.Test.YteeijmfnjcddmaaGreatDoorJc
import Derived.Lib.ConvBytes
namespace Go.Proofs.YteeijmfnjcddmaaGreatDoor
open Go.RowKit

def hexN (l : Bs) : Nat := l.foldl (fun a c => 16 * a + hexV c) 0
theorem hexN_snoc (l : Bs) (c : UInt8) : hexN (l ++ [c]) = 16 * hexN l + hexV c := by simp [hexN]
theorem hexN_lt : ∀ (l : Bs) (a : Nat), (∀ c ∈ l, hexV c < 16) → l.foldl (fun a c => 16 * a + hexV c) a < 16 ^ l.length * (a + 1)
  | [], a, _ => by simp
  | c :: r, a, h => by
    have ih := hexN_lt r (16 * a + hexV c) (fun x hx => h x (List.mem_cons_of_mem _ hx))
    have hc := h c List.mem_cons_self
    simp only [List.foldl_cons, List.length_cons, Nat.pow_succ]
    refine Nat.lt_of_lt_of_le ih ?_
    rw [Nat.mul_assoc]
    exact Nat.mul_le_mul_left _ (by omega)
theorem hexN_take (s : Bs) (k : Nat) (h4 : s.length = 4) (hk : k ≤ 4) (h : ∀ c ∈ s, hexV c < 16) : hexN (s.take k) < 65536 := by
  have := hexN_lt (s.take k) 0 (fun c hc => h c (List.mem_of_mem_take hc))
  have e : (s.take k).length = k := by simp; omega
  rw [e] at this
  refine Nat.lt_of_lt_of_le this ?_
  have : (16 : Nat) ^ k ≤ 16 ^ 4 := Nat.pow_le_pow_right (by omega) hk
  omega
theorem lower_any (c : Int) (w : World) : Calls Tryz.prog 189 #[.int .u8 c] w fun e w' => e = .returned (.int .u8 (bits .or .u8 c 32)) ∧ w = w' := by
  go_enter Tryz.func189, Tryz.ntmps189
  go_wp2
  go_ret
  exact ⟨rfl, rfl⟩
/-- What a letter among the digits gives. -/
theorem lower_hex (c : UInt8) (h : hexV c < 16) (hn : ¬ (48 ≤ c.toNat ∧ c.toNat ≤ 57)) : bits .or .u8 (c.toNat : Int) 32 = (hexV c : Int) + 87 ∧ 10 ≤ hexV c := by
  have := forall_u8 (p := fun c => !(decide (hexV c < 16) && !(decide (48 ≤ c.toNat) && decide (c.toNat ≤ 57))) || (bits .or .u8 (c.toNat : Int) 32 == (hexV c : Int) + 87 && decide (10 ≤ hexV c))) (by decide +kernel) c
  simp only [Bool.or_eq_true, Bool.not_eq_true', Bool.and_eq_true, Bool.and_eq_false_iff, decide_eq_true_eq, decide_eq_false_iff_not, beq_iff_eq, Bool.not_eq_false'] at this
  rcases this with (h' | h') | h'
  · exact absurd h h'
  · exact absurd h' hn
  · exact h'
theorem hex_digit (c : UInt8) (h : 48 ≤ c.toNat ∧ c.toNat ≤ 57) : (hexV c : Int) = (c.toNat : Int) - 48 := by
  unfold hexV; rw [if_pos h]; omega
set_option maxRecDepth 100000 in
set_option maxHeartbeats 1600000 in
theorem iparse16 (s : Bs) (w : World) (h4 : s.length = 4) (hh : ∀ c ∈ s, hexV c < 16) :
    Calls Tryz.prog 178 #[.string ⟨s.toArray⟩, .int .i64 16, .int .i64 16] w fun e w' => e = .returned (.tuple #[.int .u64 (hexN s), .nilIface]) ∧ Fr NoB w w' := by
  have hne : (s == []) = false := by cases s with | nil => simp at h4 | cons c r => rfl
  have hne2 : s.isEmpty = false := by cases s with | nil => simp at h4 | cons c r => rfl
  have hcv := Lib.run_convert_string_bytes (P := Tryz.prog) w 9 46 5 ⟨s.toArray⟩ (u := .string) Tryz.underlying9 Tryz.underlying46 Tryz.underlying5
  have hB : ∀ j, j < 4 → (Lib.bytesWorld w 5 ⟨s.toArray⟩).cell? ⟨w.heap.size, j, none⟩ = some (.int .u8 (s.getD j 0).toNat) := fun j hj => Lib.bytesWorld_cell w 5 ⟨s.toArray⟩ j (by show j < s.toArray.size; simp; omega)
  have hfr : Fr NoB w (Lib.bytesWorld w 5 ⟨s.toArray⟩) := Fr.of_below (Lib.below_freeze (((Below.refl _ w).drew).alloc (Nat.le_refl _) _) (Nat.le_refl _) _)
  obtain ⟨W1, hW1⟩ : ∃ W1, W1 = Lib.bytesWorld w 5 ⟨s.toArray⟩ := ⟨_, rfl⟩
  rw [← hW1] at hcv hB hfr
  clear hW1
  have hmv : IntKind.u64.wrap (IntKind.u64.wrap 65536 - 1) = 65535 := by
    rw [IntKind.wrap_u64, IntKind.wrap_u64]
    decide
  have H4 := Lib.hid h4
  have hs4 : s.length ≤ 4 := by omega
  clear h4
  go_enter Tryz.func178, Tryz.ntmps178
  go_wp2
  go_loop [12, 13, 101] (fun vu vn vi => ∃ (k : Nat) (a : Int), vu = .bool false ∧ vn = .int .u64 a ∧ vi = .int .i64 k ∧ k ≤ s.length ∧ 0 ≤ a ∧ Hid (a = (hexN (s.take k) : Int))) (fun _ _ vi => s.length - (intOf vi).toNat)
  case atStart => exact ⟨0, 0, rfl, rfl, rfl, by omega, by omega, rfl⟩
  case round =>
    obtain ⟨k, a, rfl, rfl, rfl, hk, ha, Ha⟩ := hrel
    by_cases hlt : k < s.length
    · have hc := hB k (by rw [H4.out] at hlt; exact hlt)
      have hget : s.getD k 0 = s[k] := by simp [List.getD, List.getElem?_eq_getElem hlt]
      rw [hget] at hc
      have hx16 := hh s[k] (List.getElem_mem hlt)
      have hsn : s.take (k + 1) = s.take k ++ [s[k]] := List.take_succ_eq_append_getElem hlt
      have hN := hexN_take s (k + 1) H4.out (by have := H4.out; omega) hh
      rw [hsn, hexN_snoc] at hN
      have HN : Hid (a * 16 + (hexV s[k] : Int) = (hexN (s.take (k + 1)) : Int)) := Lib.hid (by rw [hsn, hexN_snoc, Ha.out]; omega)
      have hb : a * 16 + (hexV s[k] : Int) < 65536 := by rw [Ha.out]; omega
      clear hget hsn hN hB
      generalize s[k] = c at hc hx16 HN hb
      have hc256 : c.toNat < 256 := c.toNat_lt
      by_cases hd : 48 ≤ c.toNat ∧ c.toNat ≤ 57
      · have e := hex_digit c hd
        rw [e] at HN hb
        obtain ⟨hd0, hd1⟩ := hd
        clear e hx16
        go_wp2
        exact ⟨⟨k + 1, _, rfl, rfl, by go_num, by omega, by omega, HN⟩, by simp [intOf]; omega⟩
      · obtain ⟨hl, h10⟩ := lower_hex c hx16 hd
        have hv : (hexV c : Int) < 16 := by omega
        have hv1 : 10 ≤ (hexV c : Int) := by omega
        have hnot : ¬ (c.toNat : Int) = 95 := by
          intro e
          have : c = 95 := by apply UInt8.toNat_inj.1; show c.toNat = 95; omega
          subst this; revert hx16; decide
        have hub : ((c.toNat : Int) == 95) = false := beq_eq_false_iff_ne.2 hnot
        generalize hexV c = v at hl hv hv1 HN hb hx16 h10
        clear hx16 h10
        by_cases hd2 : 48 ≤ c.toNat
        · have hd3 : ¬ c.toNat ≤ 57 := fun e => hd ⟨hd2, e⟩
          clear hd
          go_wp2_with (go_at_call 189; ((with_reducible refine (lower_any _ _).mono ?_); rintro e w' ⟨rfl, rfl⟩))
          exact ⟨⟨k + 1, _, rfl, rfl, by go_num, by omega, by omega, Lib.hid (by rw [← HN.out]; omega)⟩, by simp [intOf]; omega⟩
        · clear hd
          go_wp2_with (go_at_call 189; ((with_reducible refine (lower_any _ _).mono ?_); rintro e w' ⟨rfl, rfl⟩))
          exact ⟨⟨k + 1, _, rfl, rfl, by go_num, by omega, by omega, Lib.hid (by rw [← HN.out]; omega)⟩, by simp [intOf]; omega⟩
    · obtain rfl : k = s.length := by omega
      have hend : a = (hexN s : Int) := by have := Ha.out; rwa [List.take_length] at this
      have Hend := Lib.hid hend
      clear hend hB
      go_wp2
      go_ret2
      exact ⟨by rw [Hend.out]; rfl, hfr⟩

theorem parse16 (s : Bs) (w : World) (h4 : s.length = 4) (hh : ∀ c ∈ s, hexV c < 16) :
    Calls Tryz.prog 146 #[.string ⟨s.toArray⟩, .int .i64 16, .int .i64 16] w fun e w' => e = .returned (.tuple #[.int .u64 (hexN s), .nilIface]) ∧ Fr NoB w w' := by
  have H4 := Lib.hid h4
  clear h4
  go_enter Tryz.func146, Tryz.ntmps146
  go_wp2_with (go_at_call 178; ((with_reducible refine (iparse16 s _ H4.out hh).mono ?_); rintro e w1 ⟨rfl, f1⟩))
  go_ret2
  exact ⟨rfl, f1⟩

end Go.Proofs.YteeijmfnjcddmaaGreatDoor
/- JSON: the program's reader: unit. -/
namespace Go.Proofs.YteeijmfnjcddmaaGreatDoor
open Go.RowKit

theorem unitP_eq (s : Bs) : unitP s = if Lib.hasPrefix s [92, 117] = true ∧ 4 ≤ (s.drop 2).length ∧ (∀ c ∈ (s.drop 2).take 4, hexV c < 16) then some (hexN ((s.drop 2).take 4), (s.drop 2).drop 4) else none := by
  unfold unitP
  split
  · rename_i x y a b c d r
    by_cases h : x = 92 ∧ y = 117 ∧ hexV a < 16 ∧ hexV b < 16 ∧ hexV c < 16 ∧ hexV d < 16
    · rw [if_pos h, if_pos ⟨by obtain ⟨rfl, rfl, _⟩ := h; rfl, by simp, by simpa using h.2.2⟩]
      simp only [List.drop_succ_cons, List.drop_zero, List.take_succ_cons, List.take_zero, hexN, List.foldl_cons, List.foldl_nil]
      congr 2; omega
    · rw [if_neg h, if_neg]
      rintro ⟨h1, -, h3⟩
      apply h
      simp [Lib.hasPrefix, List.isPrefixOf] at h1 h3
      exact ⟨h1.1.symm, h1.2.symm, h3⟩
  · rename_i hno
    rw [if_neg]
    rintro ⟨-, h2, -⟩
    match s, hno, h2 with
    | [], _, h2 => simp at h2
    | [_], _, h2 => simp at h2
    | [_, _], _, h2 => simp at h2
    | [_, _, _], _, h2 => simp at h2
    | [_, _, _, _], _, h2 => simp at h2
    | [_, _, _, _, _], _, h2 => simp at h2
    | x :: y :: a :: b :: c :: d :: r, hno, _ => exact hno x y a b c d r rfl
theorem hex_mem (c : UInt8) : [48, 49, 50, 51, 52, 53, 54, 55, 56, 57, 97, 98, 99, 100, 101, 102, 65, 66, 67, 68, 69, 70].contains c = decide (hexV c < 16) := by
  simpa using forall_u8 (p := fun c => [48, 49, 50, 51, 52, 53, 54, 55, 56, 57, 97, 98, 99, 100, 101, 102, 65, 66, 67, 68, 69, 70].contains c == decide (hexV c < 16)) (by decide +kernel) c
theorem dropW_nil {p : UInt8 → Bool} {l : Bs} : l.dropWhile p = [] ↔ ∀ c ∈ l, p c = true := by
  induction l with
  | nil => simp
  | cons c r ih =>
    rw [List.dropWhile_cons]
    split
    · rename_i h; rw [ih]; simp [h]
    · rename_i h; simp [h]
theorem trim_hex (l : Bs) : (Lib.trimS l [48, 49, 50, 51, 52, 53, 54, 55, 56, 57, 97, 98, 99, 100, 101, 102, 65, 66, 67, 68, 69, 70] = []) ↔ ∀ c ∈ l, hexV c < 16 := by
  unfold Lib.trimS Lib.trimLeftS Lib.trimRightS
  rw [show (fun c : UInt8 => [48, 49, 50, 51, 52, 53, 54, 55, 56, 57, 97, 98, 99, 100, 101, 102, 65, 66, 67, 68, 69, 70].contains c) = (fun c => decide (hexV c < 16)) from funext hex_mem]
  rw [dropW_nil]
  constructor
  · intro h c hc
    by_cases hn : ∀ c ∈ l, hexV c < 16
    · exact hn c hc
    · exfalso
      have h2 : l.reverse.dropWhile (fun c => decide (hexV c < 16)) ≠ [] := by
        intro e
        rw [dropW_nil] at e
        exact hn fun c hc => by simpa using e c (by simpa using hc)
      obtain ⟨x, r, hx⟩ := List.exists_cons_of_ne_nil h2
      have h3 : decide (hexV x < 16) = false := by
        have := List.head?_dropWhile_not (fun c : UInt8 => decide (hexV c < 16)) l.reverse
        rw [hx] at this
        simpa using this
      have := h x (by rw [hx]; simp)
      rw [h3] at this; cases this
  · intro h c hc
    simp only [List.mem_reverse] at hc
    have := (List.dropWhile_sublist _).subset hc
    simpa using h c (by simpa using this)

theorem unit_yes (b : Nat) (s t : Bs) (n : Nat) (w : World) (h : Rd w b s) (_hs : s.length ≤ 65536) (hu : unitP s = some (n, t)) :
    Calls Tryz.prog 116 #[.pointer (some ⟨b, 0, none⟩)] w fun e w' => e = .returned (.int .i64 n) ∧ Goes w b t w' := by
  rw [unitP_eq] at hu
  split at hu
  · rename_i hc
    obtain ⟨hp, hl, hx⟩ := hc
    cases hu
    have htr := Lib.hid ((trim_hex _).2 hx)
    have hc := h.cell
    have hN : hexN ((s.drop 2).take 4) < 65536 := by
      have := hexN_take ((s.drop 2).take 4) 4 (by simp at hl ⊢; omega) (by omega) hx
      rwa [List.take_take] at this
    simp only [List.length_drop] at hl
    have hl2 : ((s.drop 2).take 4).length = 4 := by simp; omega
    have HX := Lib.hid hx
    have Hl2 := Lib.hid hl2
    clear hx hl2
    have hxt := ext_take (s.drop 2) 4
    have hxd : ((⟨(s.drop 2).toArray⟩ : ByteArray).extract 4 (s.length - 2)) = ⟨((s.drop 2).drop 4).toArray⟩ := by have := ext_drop (s.drop 2) 4; simpa using this
    go_enter Tryz.func116, Tryz.ntmps116
    go_wp2_with (first | (go_at_call 90; ((with_reducible refine (cutPrefix_yes s [92, 117] _ hp).mono ?_); rintro e w1 ⟨rfl, rfl⟩)) | (go_at_call 145; ((with_reducible refine (trim_any _ [48, 49, 50, 51, 52, 53, 54, 55, 56, 57, 97, 98, 99, 100, 101, 102, 65, 66, 67, 68, 69, 70] _ (by simp; omega) (by decide) (by decide)).mono ?_); rintro e w1 ⟨rfl, f1⟩; rw [htr.out])) | (go_at_call 40; ((with_reducible refine (must_yes _ _).mono ?_); rintro e w2 ⟨rfl, rfl⟩)) | (go_at_call 146; ((with_reducible refine (parse16 _ _ Hl2.out HX.out).mono ?_); rintro e w2 ⟨rfl, f2⟩; have r2 := (h.fr f1 (fun e => e)).fr f2 (fun e => e); have c2 := r2.cell; have z2 := r2.frozen)))
    go_ret
    exact ⟨rfl, ((f1.trans f2).noB).only _, by have := r2.set ((s.drop 2).drop 4); simpa using this⟩
  · cases hu

theorem unit_no (b : Nat) (s : Bs) (w : World) (h : Rd w b s) (_hs : s.length ≤ 65536) (hu : unitP s = none) :
    Calls Tryz.prog 116 #[.pointer (some ⟨b, 0, none⟩)] w fun e w' => e = Wr 90 ∧ Fr NoB w w' := by
  rw [unitP_eq] at hu
  have hc := h.cell
  by_cases hp : Lib.hasPrefix s [92, 117] = true
  · by_cases hl : 4 ≤ (s.drop 2).length
    · have hx : ¬ ∀ c ∈ (s.drop 2).take 4, hexV c < 16 := fun hx => by rw [if_pos ⟨hp, hl, hx⟩] at hu; cases hu
      have htr : Lib.trimS ((s.drop 2).take 4) [48, 49, 50, 51, 52, 53, 54, 55, 56, 57, 97, 98, 99, 100, 101, 102, 65, 66, 67, 68, 69, 70] ≠ [] := fun e => hx ((trim_hex _).1 e)
      clear hu hx
      simp only [List.length_drop] at hl
      have hxt := ext_take (s.drop 2) 4
      generalize hT : Lib.trimS ((s.drop 2).take 4) [48, 49, 50, 51, 52, 53, 54, 55, 56, 57, 97, 98, 99, 100, 101, 102, 65, 66, 67, 68, 69, 70] = T at htr
      have HT := Lib.hid hT
      clear hT
      have hT2 : T.isEmpty = false := by cases T with | nil => exact absurd rfl htr | cons c r => rfl
      have hT3 : (T == []) = false := by cases T with | nil => exact absurd rfl htr | cons c r => rfl
      clear htr
      go_enter Tryz.func116, Tryz.ntmps116
      go_wp2_with (first | (go_at_call 90; ((with_reducible refine (cutPrefix_yes s [92, 117] _ hp).mono ?_); rintro e w1 ⟨rfl, rfl⟩)) | (go_at_call 145; ((with_reducible refine (trim_any _ [48, 49, 50, 51, 52, 53, 54, 55, 56, 57, 97, 98, 99, 100, 101, 102, 65, 66, 67, 68, 69, 70] _ (by simp; omega) (by decide) (by decide)).mono ?_); rintro e w1 ⟨rfl, f1⟩; rw [HT.out])) | (go_at_call 40; ((with_reducible refine (must_no _ _).mono ?_); rintro e w2 ⟨rfl, rfl⟩)))
      exact ⟨rfl, rfl, f1⟩
    · clear hu
      simp only [List.length_drop] at hl
      go_enter Tryz.func116, Tryz.ntmps116
      go_wp2_with (first | (go_at_call 90; ((with_reducible refine (cutPrefix_yes s [92, 117] _ hp).mono ?_); rintro e w1 ⟨rfl, rfl⟩)) | (go_at_call 40; ((with_reducible refine (must_no _ _).mono ?_); rintro e w2 ⟨rfl, rfl⟩)))
      exact ⟨rfl, rfl, Fr.refl _ _⟩
  · have hp' : Lib.hasPrefix s [92, 117] = false := by simpa using hp
    clear hu hp
    go_enter Tryz.func116, Tryz.ntmps116
    go_wp2_with (first | (go_at_call 90; ((with_reducible refine (cutPrefix_no s [92, 117] _ hp').mono ?_); rintro e w1 ⟨rfl, rfl⟩)) | (go_at_call 40; ((with_reducible refine (must_no _ _).mono ?_); rintro e w2 ⟨rfl, rfl⟩)))
    exact ⟨rfl, rfl, Fr.refl _ _⟩
end Go.Proofs.YteeijmfnjcddmaaGreatDoor
