/- JSON: the program's reader: string. -/
import Derived.Test.YteeijmfnjcddmaaGreatDoorJf
import Derived.Test.YteeijmfnjcddmaaGreatDoorBd
namespace Go.Proofs.YteeijmfnjcddmaaGreatDoor
open Go.RowKit

theorem head_at {s : Bs} (h : 0 < s.length) : s = s[0] :: s.drop 1 := by cases s with | nil => simp at h | cons c r => rfl

theorem strP_at {f : Nat} {t acc : Bs} (h : 0 < t.length) : strP (f + 1) t acc = if t[0] < 32 then none else if t[0] = 34 then (if Lib.validD acc then some (acc, blanks (t.drop 1)) else none) else if t[0] = 92 then (match escP t with | none => none | some (b, r') => strP f r' (acc ++ b)) else strP f (t.drop 1) (acc ++ [t[0]]) := by
  cases t with
  | nil => simp at h
  | cons c r => rfl
theorem pre_at {t : Bs} {c : UInt8} (h : 0 < t.length) (hc : t[0] = c) : Lib.hasPrefix t [c] = true := by
  cases t with
  | nil => simp at h
  | cons d r => simp at hc; subst hc; simp [Lib.hasPrefix, List.isPrefixOf]
theorem u8_lt {a b : UInt8} : a < b ↔ a.toNat < b.toNat := UInt8.lt_iff_toNat_lt

/-- string's loop. -/
def StrInv (w : World) (b : Nat) (q : Option (Bs × Bs)) (gk : Nat) (wr : World) : Prop :=
  ∃ t acc : Bs, Rd wr b t ∧ Bd wr w.heap.size w.heap.size acc ∧ Fr (Only b) w wr ∧ strP gk t acc = q ∧ t.length < gk ∧ acc.length + 4 * t.length ≤ 262144

set_option maxRecDepth 100000 in
set_option maxHeartbeats 3200000 in
theorem string_any {B : Nat} (b : Nat) (s : Bs) (w : World) (hx : Cx B w) (hB : B ≤ b) (h : Rd w b s) (hl : s.length ≤ 65536) :
    Calls Tryz.prog 62 #[.pointer (some ⟨b, 0, none⟩)] w (EscIs (textP s) b w) := by
  have hblt := h.lt
  have f0 : Fr NoB w (w.alloc (.cells #[.pointer none, .slice none 0 0] 60)) := (Fr.refl _ _).alloc _
  have h0 := h.fr f0 (fun e => e)
  have hc := h0.cell
  have hz := h0.frozen
  have bd0 := Bd.new w
  by_cases hp : Lib.hasPrefix s [34] = true
  · obtain ⟨r, rfl⟩ : ∃ r, s = 34 :: r := by
      unfold Lib.hasPrefix at hp
      cases s with
      | nil => simp at hp
      | cons c r => simp [List.isPrefixOf] at hp; exact ⟨r, by rw [hp]⟩
    have hq : textP (34 :: r) = strP ((34 :: r : Bs).length) r [] := by simp [textP]
    rw [hq]
    have hsz : (w.setCell ⟨b, 0, none⟩ (.string ⟨r.toArray⟩)).heap.size = w.heap.size := by simp [World.setCell]
    have fs : Fr (Only b) w (w.setCell ⟨b, 0, none⟩ (.string ⟨r.toArray⟩)) := (Fr.refl _ w).only _
    have r1 := (h.set r).fr ((Fr.refl NoB _).alloc (.cells #[.pointer none, .slice none 0 0] 60)) (fun e => e)
    have bd1 := Bd.new (w.setCell ⟨b, 0, none⟩ (.string ⟨r.toArray⟩))
    rw [hsz] at bd1
    have Hst := Lib.hid (show StrInv w b (strP ((34 :: r : Bs).length) r []) ((34 :: r : Bs).length) ((w.setCell ⟨b, 0, none⟩ (.string ⟨r.toArray⟩)).alloc (.cells #[.pointer none, .slice none 0 0] 60)) from ⟨r, [], r1, bd1, fs.alloc _, rfl, by simp, by simp at hl ⊢; omega⟩)
    generalize strP ((34 :: r : Bs).length) r [] = q at Hst
    clear hq r1 bd1 fs bd0 h hsz
    go_enter Tryz.func62, Tryz.ntmps62
    go_wp2_with (first | (go_at_call 90; ((with_reducible refine (cutPrefix_yes (34 :: r) [34] _ rfl).mono ?_); rintro e w1 ⟨rfl, rfl⟩)) | (go_at_call 40; ((with_reducible refine (must_yes _ _).mono ?_); rintro e w2 ⟨rfl, rfl⟩)))
    go_loopg [] ((34 :: r : Bs).length) (fun gk wr => StrInv w b q gk wr)
    case atStart => exact Hst.out
    case round =>
      clear Hst
      obtain ⟨t, acc, hr, hb, hf, hq, htl, hal⟩ := hrel
      obtain ⟨f, rfl⟩ : ∃ f, gk = f + 1 := ⟨gk - 1, by omega⟩
      have hxr := hx.fr hf (fun k e => by rw [show k = b from e]; exact hB)
      have hbl := hf.size
      have hc := hr.cell
      have hz := hr.frozen
      have Hq := Lib.hid hq
      clear hq
      by_cases ht : 0 < t.length
      · have hg := get_list t
        have hxd := ext_drop t
        have hne : t.isEmpty = false := by cases t with | nil => simp at ht | cons c r => rfl
        have hne2 : (t == []) = false := by cases t with | nil => simp at ht | cons c r => rfl
        have hq' := Hq.out
        rw [strP_at ht] at hq'
        clear Hq
        by_cases c1 : t[0] < 32
        · rw [if_pos c1] at hq'
          subst hq'
          have c1' : t[0].toNat < 32 := u8_lt.1 c1
          clear c1
          go_wp2_with (go_at_call 40; ((with_reducible refine (must_bad _ _ _ (by first | rfl | (simp; omega))).mono ?_); rintro e w2 ⟨rfl, rfl⟩))
          exact ⟨rfl, rfl, hf⟩
        rw [if_neg c1] at hq'
        have c1' : 32 ≤ t[0].toNat := by have := mt u8_lt.2 c1; have e : (32 : UInt8).toNat = 32 := rfl; omega
        by_cases c2 : t[0] = 34
        · rw [if_pos c2] at hq'
          have hb34 : ((t[0].toNat : Int) == 34) = true := by rw [c2]; rfl
          have Hpre := Lib.hid (pre_at ht c2)
          have tokA : True := trivial
          clear c1 c2
          have HQ := Lib.hid hq'
          clear hq'
          cases hv : Lib.validD acc
          · have e : q = none := by rw [← HQ.out, hv]; rfl
            subst e
            have HV := Lib.hid hv
            clear hv HQ
            go_wp2_with (first | (go_at_call 40; ((with_reducible refine (must_ok (decide _) _ _ (by first | rfl | (simp; omega))).mono ?_); rintro e w9 ⟨rfl, rfl⟩)) | (go_at_call 40; ((with_reducible refine (must_no _ _).mono ?_); rintro e w9 ⟨rfl, rfl⟩)) | (go_at_call 36; ((with_reducible refine (bstring_any _ _ acc _ hb hbl).mono ?_); rintro e w1 ⟨rfl, b1, o1⟩; have F1 := hf.behind o1.1 (Nat.le_refl _); have X1 := hxr.fr o1.1 (fun k e => by have e' : w.heap.size ≤ k := e; have := hx.le; omega))) | (go_at_call 51; ((with_reducible refine (utf8_no acc _ X1 (by omega) HV.out).mono ?_); rintro e w2 ⟨rfl, f2⟩)))
            exact ⟨rfl, rfl, F1.trans f2.noB⟩
          · have e : q = some (acc, blanks (t.drop 1)) := by rw [← HQ.out, hv]; rfl
            subst e
            have HV := Lib.hid hv
            clear hv HQ
            go_wp2_with (first | (go_at_call 40; ((with_reducible refine (must_ok (decide _) _ _ (by first | rfl | (simp; omega))).mono ?_); rintro e w9 ⟨rfl, rfl⟩)) | (go_at_call 40; ((with_reducible refine (must_yes _ _).mono ?_); rintro e w9 ⟨rfl, rfl⟩)) | (go_at_call 36; have _t := tokA; ((with_reducible refine (bstring_any _ _ acc _ hb hbl).mono ?_); rintro e w1 ⟨rfl, b1, o1⟩; have F1 := hf.behind o1.1 (Nat.le_refl _); have X1 := hxr.fr o1.1 (fun k e => by have e' : w.heap.size ≤ k := e; have := hx.le; omega); have R1 := hr.fr o1.1 (fun e => by have e' : w.heap.size ≤ b := e; omega); clear tokA)) | (go_at_call 51; ((with_reducible refine (utf8_yes acc _ X1 (by omega) HV.out).mono ?_); rintro e w2 ⟨rfl, f2⟩; have R2 := R1.fr f2 (fun e => e); have B2 := b1.fr f2 (fun k hk e => e))) | (go_at_call 63; ((with_reducible refine (take_yes b t [34] _ R2 Hpre.out).mono ?_); rintro e w3 ⟨rfl, f3, r3⟩; have B3 := B2.fr f3 (fun k hk e => by have e' : k = b := e; omega); have S3 : w.heap.size ≤ w3.heap.size := Nat.le_trans hbl (Nat.le_trans o1.1.size (Nat.le_trans f2.size f3.size)))) | (go_at_call 36; ((with_reducible refine (bstring_any _ _ acc _ B3 S3).mono ?_); rintro e w4 ⟨rfl, b4, o4⟩)))
            go_ret
            exact ⟨rfl, ((F1.trans f2.noB).trans f3).behind o4.1 (Nat.le_refl _), r3.fr o4.1 (fun e => by have e' : w.heap.size ≤ b := e; omega)⟩
        rw [if_neg c2] at hq'
        have hb34 : ((t[0].toNat : Int) == 34) = false := u8_ne 34 (by omega) c2
        by_cases c3 : t[0] = 92
        · rw [if_pos c3] at hq'
          have hb92 : ((t[0].toNat : Int) == 92) = true := by rw [c3]; rfl
          have HQ := Lib.hid hq'
          clear c1 c2 c3 hq'
          have hes := escaped_any b t wr hxr hB hr (by omega)
          cases he : escP t with
          | none =>
            rw [he] at hes
            have e : q = none := by rw [← HQ.out, he]
            subst e
            have HES := Lib.hid hes
            clear hes HQ he
            go_wp2_with (first | (go_at_call 40; ((with_reducible refine (must_ok (decide _) _ _ (by first | rfl | (simp; omega))).mono ?_); rintro e w9 ⟨rfl, rfl⟩)) | (go_at_call 91; ((with_reducible refine HES.out.mono ?_); rintro e w1 ⟨rfl, f1⟩)))
            exact ⟨rfl, rfl, hf.trans f1⟩
          | some p =>
            obtain ⟨e1, r1⟩ := p
            rw [he] at hes
            have hle := escP_len he
            have hq2 : strP f r1 (acc ++ e1) = q := by rw [← HQ.out, he]
            have HES := Lib.hid hes
            have HQ2 := Lib.hid hq2
            clear hes HQ he hq2
            go_wp2_with (first | (go_at_call 40; ((with_reducible refine (must_ok (decide _) _ _ (by first | rfl | (simp; omega))).mono ?_); rintro e w9 ⟨rfl, rfl⟩)) | (go_at_call 91; ((with_reducible refine HES.out.mono ?_); rintro e w1 ⟨rfl, f1, rd1⟩; have B1 := hb.fr f1 (fun k hk e => by have e' : k = b := e; omega); have S1 : w.heap.size ≤ w1.heap.size := Nat.le_trans hbl f1.size)) | (go_at_call 54; ((with_reducible refine (writeString_any _ _ acc e1 _ B1 (by omega) S1).mono ?_); rintro e w2 ⟨rfl, b2, o2⟩)))
            go_roundg f
            case measure => omega
            case rel => exact ⟨r1, acc ++ e1, rd1.fr o2.1 (fun e => by have e' : w.heap.size ≤ b := e; omega), b2, (hf.trans f1).behind o2.1 (Nat.le_refl _), HQ2.out, by omega, by simp; omega⟩
        rw [if_neg c3] at hq'
        have hb92 : ((t[0].toNat : Int) == 92) = false := u8_ne 92 (by omega) c3
        have HQ := Lib.hid hq'
        clear c1 c2 c3 hq'
        go_wp2_with (first | (go_at_call 40; ((with_reducible refine (must_ok (decide _) _ _ (by first | rfl | (simp; omega))).mono ?_); rintro e w9 ⟨rfl, rfl⟩)) | (go_at_call 45; ((with_reducible refine (writeByte_any _ _ acc t[0] _ hb (by omega) hbl).mono ?_); rintro e w2 ⟨rfl, b2, o2⟩; have R2 := hr.fr o2.1 (fun e => by have e' : w.heap.size ≤ b := e; omega); have c2 := R2.cell; have z2 := R2.frozen)))
        go_roundg f
        case measure => omega
        case rel => exact ⟨t.drop 1, acc ++ [t[0]], by have := R2.set (t.drop 1); simpa using this, b2.fr ((Fr.refl (Only b) _).only _) (fun k hk e => by have e' : k = b := e; omega), (hf.behind o2.1 (Nat.le_refl _)).only _, HQ.out, by simp; omega, by simp; omega⟩
      · obtain rfl : t = [] := List.eq_nil_of_length_eq_zero (by omega)
        have e : q = none := by rw [← Hq.out]; rfl
        subst e
        go_wp2_with (go_at_call 40; ((with_reducible refine (must_no _ _).mono ?_); rintro e w2 ⟨rfl, rfl⟩))
        exact ⟨rfl, rfl, hf⟩
  · have hp' : Lib.hasPrefix s [34] = false := by simpa using hp
    have e : textP s = none := by
      unfold Lib.hasPrefix at hp'
      cases s with
      | nil => rfl
      | cons c r => simp [List.isPrefixOf] at hp'; simp [textP]; intro e; exact absurd e.symm hp'
    rw [e]
    clear e hp bd0
    go_enter Tryz.func62, Tryz.ntmps62
    go_wp2_with (first | (go_at_call 90; ((with_reducible refine (cutPrefix_no s [34] _ hp').mono ?_); rintro e w1 ⟨rfl, rfl⟩)) | (go_at_call 40; ((with_reducible refine (must_no _ _).mono ?_); rintro e w2 ⟨rfl, rfl⟩)))
    exact ⟨rfl, rfl, f0.noB⟩
end Go.Proofs.YteeijmfnjcddmaaGreatDoor
