/- JSON: the program's reader: unit. -/
import Derived.Test.YteeijmfnjcddmaaGreatDoorJd
namespace Go.Proofs.YteeijmfnjcddmaaGreatDoor
open Go.RowKit

theorem unitP_eq (s : Bs) : unitP s = if Lib.hasPrefix s [92, 117] = true ∧ 4 ≤ (s.drop 2).length ∧ (∀ c ∈ (s.drop 2).take 4, hexV c < 16) then some (hexN ((s.drop 2).take 4), (s.drop 2).drop 4) else none := by
  unfold unitP
  split
  · rename_i x y a b c d r
    by_cases h : x = 92 ∧ y = 117 ∧ hexV a < 16 ∧ hexV b < 16 ∧ hexV c < 16 ∧ hexV d < 16
    · rw [if_pos h, if_pos ⟨by obtain ⟨rfl, rfl, _⟩ := h; rfl, by simp, by simpa using h.2.2⟩]
      simp only [List.drop_succ_cons, List.drop_zero, List.take_succ_cons, List.take_zero, hexN, List.foldl_cons, List.foldl_nil]
      congr 2; omega
    · rw [if_neg h, if_neg]
      rintro ⟨h1, -, h3⟩
      apply h
      simp [Lib.hasPrefix, List.isPrefixOf] at h1 h3
      exact ⟨h1.1.symm, h1.2.symm, h3⟩
  · rename_i hno
    rw [if_neg]
    rintro ⟨-, h2, -⟩
    match s, hno, h2 with
    | [], _, h2 => simp at h2
    | [_], _, h2 => simp at h2
    | [_, _], _, h2 => simp at h2
    | [_, _, _], _, h2 => simp at h2
    | [_, _, _, _], _, h2 => simp at h2
    | [_, _, _, _, _], _, h2 => simp at h2
    | x :: y :: a :: b :: c :: d :: r, hno, _ => exact hno x y a b c d r rfl
theorem hex_mem (c : UInt8) : [48, 49, 50, 51, 52, 53, 54, 55, 56, 57, 97, 98, 99, 100, 101, 102, 65, 66, 67, 68, 69, 70].contains c = decide (hexV c < 16) := by
  simpa using forall_u8 (p := fun c => [48, 49, 50, 51, 52, 53, 54, 55, 56, 57, 97, 98, 99, 100, 101, 102, 65, 66, 67, 68, 69, 70].contains c == decide (hexV c < 16)) (by decide +kernel) c
theorem dropW_nil {p : UInt8 → Bool} {l : Bs} : l.dropWhile p = [] ↔ ∀ c ∈ l, p c = true := by
  induction l with
  | nil => simp
  | cons c r ih =>
    rw [List.dropWhile_cons]
    split
    · rename_i h; rw [ih]; simp [h]
    · rename_i h; simp [h]
theorem trim_hex (l : Bs) : (Lib.trimS l [48, 49, 50, 51, 52, 53, 54, 55, 56, 57, 97, 98, 99, 100, 101, 102, 65, 66, 67, 68, 69, 70] = []) ↔ ∀ c ∈ l, hexV c < 16 := by
  unfold Lib.trimS Lib.trimLeftS Lib.trimRightS
  rw [show (fun c : UInt8 => [48, 49, 50, 51, 52, 53, 54, 55, 56, 57, 97, 98, 99, 100, 101, 102, 65, 66, 67, 68, 69, 70].contains c) = (fun c => decide (hexV c < 16)) from funext hex_mem]
  rw [dropW_nil]
  constructor
  · intro h c hc
    by_cases hn : ∀ c ∈ l, hexV c < 16
    · exact hn c hc
    · exfalso
      have h2 : l.reverse.dropWhile (fun c => decide (hexV c < 16)) ≠ [] := by
        intro e
        rw [dropW_nil] at e
        exact hn fun c hc => by simpa using e c (by simpa using hc)
      obtain ⟨x, r, hx⟩ := List.exists_cons_of_ne_nil h2
      have h3 : decide (hexV x < 16) = false := by
        have := List.head?_dropWhile_not (fun c : UInt8 => decide (hexV c < 16)) l.reverse
        rw [hx] at this
        simpa using this
      have := h x (by rw [hx]; simp)
      rw [h3] at this; cases this
  · intro h c hc
    simp only [List.mem_reverse] at hc
    have := (List.dropWhile_sublist _).subset hc
    simpa using h c (by simpa using this)

theorem unit_yes (b : Nat) (s t : Bs) (n : Nat) (w : World) (h : Rd w b s) (_hs : s.length ≤ 65536) (hu : unitP s = some (n, t)) :
    Calls Tryz.prog 116 #[.pointer (some ⟨b, 0, none⟩)] w fun e w' => e = .returned (.int .i64 n) ∧ Goes w b t w' := by
  rw [unitP_eq] at hu
  split at hu
  · rename_i hc
    obtain ⟨hp, hl, hx⟩ := hc
    cases hu
    have htr := Lib.hid ((trim_hex _).2 hx)
    have hc := h.cell
    have hN : hexN ((s.drop 2).take 4) < 65536 := by
      have := hexN_take ((s.drop 2).take 4) 4 (by simp at hl ⊢; omega) (by omega) hx
      rwa [List.take_take] at this
    simp only [List.length_drop] at hl
    have hl2 : ((s.drop 2).take 4).length = 4 := by simp; omega
    have HX := Lib.hid hx
    have Hl2 := Lib.hid hl2
    clear hx hl2
    have hxt := ext_take (s.drop 2) 4
    have hxd : ((⟨(s.drop 2).toArray⟩ : ByteArray).extract 4 (s.length - 2)) = ⟨((s.drop 2).drop 4).toArray⟩ := by have := ext_drop (s.drop 2) 4; simpa using this
    go_enter Tryz.func116, Tryz.ntmps116
    go_wp2_with (first | (go_at_call 90; ((with_reducible refine (cutPrefix_yes s [92, 117] _ hp).mono ?_); rintro e w1 ⟨rfl, rfl⟩)) | (go_at_call 145; ((with_reducible refine (trim_any _ [48, 49, 50, 51, 52, 53, 54, 55, 56, 57, 97, 98, 99, 100, 101, 102, 65, 66, 67, 68, 69, 70] _ (by simp; omega) (by decide) (by decide)).mono ?_); rintro e w1 ⟨rfl, f1⟩; rw [htr.out])) | (go_at_call 40; ((with_reducible refine (must_yes _ _).mono ?_); rintro e w2 ⟨rfl, rfl⟩)) | (go_at_call 146; ((with_reducible refine (parse16 _ _ Hl2.out HX.out).mono ?_); rintro e w2 ⟨rfl, f2⟩; have r2 := (h.fr f1 (fun e => e)).fr f2 (fun e => e); have c2 := r2.cell; have z2 := r2.frozen)))
    go_ret
    exact ⟨rfl, ((f1.trans f2).noB).only _, by have := r2.set ((s.drop 2).drop 4); simpa using this⟩
  · cases hu

theorem unit_no (b : Nat) (s : Bs) (w : World) (h : Rd w b s) (_hs : s.length ≤ 65536) (hu : unitP s = none) :
    Calls Tryz.prog 116 #[.pointer (some ⟨b, 0, none⟩)] w fun e w' => e = Wr 90 ∧ Fr NoB w w' := by
  rw [unitP_eq] at hu
  have hc := h.cell
  by_cases hp : Lib.hasPrefix s [92, 117] = true
  · by_cases hl : 4 ≤ (s.drop 2).length
    · have hx : ¬ ∀ c ∈ (s.drop 2).take 4, hexV c < 16 := fun hx => by rw [if_pos ⟨hp, hl, hx⟩] at hu; cases hu
      have htr : Lib.trimS ((s.drop 2).take 4) [48, 49, 50, 51, 52, 53, 54, 55, 56, 57, 97, 98, 99, 100, 101, 102, 65, 66, 67, 68, 69, 70] ≠ [] := fun e => hx ((trim_hex _).1 e)
      clear hu hx
      simp only [List.length_drop] at hl
      have hxt := ext_take (s.drop 2) 4
      generalize hT : Lib.trimS ((s.drop 2).take 4) [48, 49, 50, 51, 52, 53, 54, 55, 56, 57, 97, 98, 99, 100, 101, 102, 65, 66, 67, 68, 69, 70] = T at htr
      have HT := Lib.hid hT
      clear hT
      have hT2 : T.isEmpty = false := by cases T with | nil => exact absurd rfl htr | cons c r => rfl
      have hT3 : (T == []) = false := by cases T with | nil => exact absurd rfl htr | cons c r => rfl
      clear htr
      go_enter Tryz.func116, Tryz.ntmps116
      go_wp2_with (first | (go_at_call 90; ((with_reducible refine (cutPrefix_yes s [92, 117] _ hp).mono ?_); rintro e w1 ⟨rfl, rfl⟩)) | (go_at_call 145; ((with_reducible refine (trim_any _ [48, 49, 50, 51, 52, 53, 54, 55, 56, 57, 97, 98, 99, 100, 101, 102, 65, 66, 67, 68, 69, 70] _ (by simp; omega) (by decide) (by decide)).mono ?_); rintro e w1 ⟨rfl, f1⟩; rw [HT.out])) | (go_at_call 40; ((with_reducible refine (must_no _ _).mono ?_); rintro e w2 ⟨rfl, rfl⟩)))
      exact ⟨rfl, rfl, f1⟩
    · clear hu
      simp only [List.length_drop] at hl
      go_enter Tryz.func116, Tryz.ntmps116
      go_wp2_with (first | (go_at_call 90; ((with_reducible refine (cutPrefix_yes s [92, 117] _ hp).mono ?_); rintro e w1 ⟨rfl, rfl⟩)) | (go_at_call 40; ((with_reducible refine (must_no _ _).mono ?_); rintro e w2 ⟨rfl, rfl⟩)))
      exact ⟨rfl, rfl, Fr.refl _ _⟩
  · have hp' : Lib.hasPrefix s [92, 117] = false := by simpa using hp
    clear hu hp
    go_enter Tryz.func116, Tryz.ntmps116
    go_wp2_with (first | (go_at_call 90; ((with_reducible refine (cutPrefix_no s [92, 117] _ hp').mono ?_); rintro e w1 ⟨rfl, rfl⟩)) | (go_at_call 40; ((with_reducible refine (must_no _ _).mono ?_); rintro e w2 ⟨rfl, rfl⟩)))
    exact ⟨rfl, rfl, Fr.refl _ _⟩
end Go.Proofs.YteeijmfnjcddmaaGreatDoor
