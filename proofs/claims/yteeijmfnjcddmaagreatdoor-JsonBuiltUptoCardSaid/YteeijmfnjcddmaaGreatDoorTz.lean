/- Package text: FromUnits. -/
import Derived.Test.YteeijmfnjcddmaaGreatDoorTy
namespace Go.Proofs.YteeijmfnjcddmaaGreatDoor
open Go.RowKit

def encsP (l : List Int) : Bs := l.flatMap Lib.encodeRune
theorem enc_eq (n : Int) : Utf8.encode n = ⟨(Lib.encodeRune n).toArray⟩ := by
  apply ByteArray.ext
  by_cases hn : 0 ≤ n
  · obtain ⟨r, rfl⟩ := Int.eq_ofNat_of_zero_le hn
    by_cases hb : (55296 ≤ r ∧ r ≤ 57343) ∨ 1114111 < r
    · have v : Utf8.valid (r : Int) = false := by simp [Utf8.valid]; omega
      rw [Lib.encodeRune, Lib.encodeRuneZ_bad (by omega)]
      simp [Utf8.encode, v, Utf8.runeError]
    · have v : Utf8.valid (r : Int) = true := by simp [Utf8.valid]; omega
      by_cases c1 : r < 128
      · rw [Lib.encodeRune, Lib.encodeRuneZ_one (by omega) (by omega)]
        simp [Utf8.encode, v, c1]
      by_cases c2 : r < 2048
      · rw [Lib.encodeRune, Lib.encodeRuneZ_two (by omega) (by omega)]
        have e0 : (192 + (r : Int) / 64 : Int).toNat = 192 + r / 64 := by omega
        have e1 : (128 + (r : Int) % 64 : Int).toNat = 128 + r % 64 := by omega
        simp only [List.map_cons, List.map_nil, e0, e1]
        simp [Utf8.encode, v, c1, c2]
        try exact ⟨rfl, rfl⟩
      by_cases c3 : r < 65536
      · rw [Lib.encodeRune, Lib.encodeRuneZ_three (by omega)]
        have e0 : (224 + (r : Int) / 4096 : Int).toNat = 224 + r / 4096 := by omega
        have e1 : (128 + (r : Int) / 64 % 64 : Int).toNat = 128 + r / 64 % 64 := by omega
        have e2 : (128 + (r : Int) % 64 : Int).toNat = 128 + r % 64 := by omega
        simp only [List.map_cons, List.map_nil, e0, e1, e2]
        simp [Utf8.encode, v, c1, c2, c3]
        try exact ⟨rfl, rfl⟩
      · rw [Lib.encodeRune, Lib.encodeRuneZ_four (by omega) (by omega)]
        have e0 : (240 + (r : Int) / 262144 : Int).toNat = 240 + r / 262144 := by omega
        have e1 : (128 + (r : Int) / 4096 % 64 : Int).toNat = 128 + r / 4096 % 64 := by omega
        have e2 : (128 + (r : Int) / 64 % 64 : Int).toNat = 128 + r / 64 % 64 := by omega
        have e3 : (128 + (r : Int) % 64 : Int).toNat = 128 + r % 64 := by omega
        simp only [List.map_cons, List.map_nil, e0, e1, e2, e3]
        simp [Utf8.encode, v, c1, c2, c3]
  · have v : Utf8.valid n = false := by simp [Utf8.valid]; omega
    rw [Lib.encodeRune, Lib.encodeRuneZ_bad (by omega)]
    simp [Utf8.encode, v, Utf8.runeError]
theorem rb_eq (l : List Int) : runesBytes l = ⟨(encsP l).toArray⟩ := by
  have : ∀ (l : List Int) (acc : Bs), l.foldl (fun r n => r ++ Utf8.encode n) (⟨acc.toArray⟩ : ByteArray) = ⟨(acc ++ encsP l).toArray⟩ := by
    intro l
    induction l with
    | nil => intro acc; simp [encsP]
    | cons n r ih =>
      intro acc
      rw [List.foldl_cons, enc_eq]
      have : (⟨acc.toArray⟩ : ByteArray) ++ ⟨(Lib.encodeRune n).toArray⟩ = ⟨(acc ++ Lib.encodeRune n).toArray⟩ := by
        apply ByteArray.ext
        rw [ByteArray.data_append]
        simp
      rw [this, ih]
      simp [encsP]
  have h := this l []
  rw [List.nil_append] at h
  exact h

/-- A row of runes as a text. -/
theorem conv_row {w : World} {base : Nat} {v : Value} {rs : List Int} (ho : w.ownsRow base 21 1 v rs.length (rs.map (Value.int .i32))) :
    (convert 78 9 v).run Tryz.prog w = .ok (.string ⟨(encsP rs).toArray⟩) w := by
  have hcell := @World.ownsRow.cells _ _ _ _ _ _ _ ho
  rcases ho.2 with ⟨rfl, h0⟩ | ⟨g, cap, cur, rfl, hg, hh, h1⟩
  · obtain rfl : rs = [] := List.eq_nil_of_length_eq_zero h0
    exact run_convert_runes_nil w 78 9 21 0 0 Tryz.underlying78 Tryz.underlying21 Tryz.underlying9
  · have hc := hcell (g := g) rfl
    rw [run_convert_runes w 78 9 21 ⟨g, 0, none⟩ rs.length cap rs (Nat.le_refl _) Tryz.underlying78 Tryz.underlying21 Tryz.underlying9 (fun j hj => hc j _ (by simp [List.getD, hj])), List.take_length, rb_eq]

theorem fromUnits_ok {B : Nat} (b off cap : Nat) (l rs : List Int) (w : World) (hx : Cx B w) (hl : l.length ≤ 281474976710) (hb : b < w.heap.size)
    (hc : ∀ (j : Nat) (h : j < l.length), w.cell? ⟨b, off + j, none⟩ = some (.int .i64 l[j])) (hj : joinP l = .ok rs) :
    Calls Tryz.prog 30 #[.slice (some ⟨b, off, none⟩) l.length cap] w fun e w' => e = .returned (.tuple #[.string ⟨(encsP rs).toArray⟩, .int .i64 0]) ∧ Fr NoB w w' := by
  have HC := Lib.hid hc
  have HJ := Lib.hid hj
  clear hc hj
  set_option maxRecDepth 100000 in
  go_enter Tryz.func30, Tryz.ntmps30
  go_wp2_with (go_at_call 48; ((with_reducible refine (joined_any b off cap l _ hx hl hb HC.out).mono ?_); rintro e w1 h1; rw [JoinedIs_ok HJ.out] at h1; obtain ⟨v, rfl, ho, f1⟩ := h1; have hcv := conv_row ho; clear ho))
  go_ret2
  exact ⟨rfl, f1⟩
theorem fromUnits_no {B : Nat} (b off cap : Nat) (l : List Int) (k : Int) (w : World) (hx : Cx B w) (hl : l.length ≤ 281474976710) (hb : b < w.heap.size)
    (hc : ∀ (j : Nat) (h : j < l.length), w.cell? ⟨b, off + j, none⟩ = some (.int .i64 l[j])) (hj : joinP l = .error k) :
    Calls Tryz.prog 30 #[.slice (some ⟨b, off, none⟩) l.length cap] w fun e w' => e = .returned (.tuple #[.string ⟨#[]⟩, .int .i64 k]) ∧ Fr NoB w w' := by
  have HC := Lib.hid hc
  have HJ := Lib.hid hj
  clear hc hj
  go_enter Tryz.func30, Tryz.ntmps30
  go_wp2_with (first | (go_at_call 48; ((with_reducible refine (joined_any b off cap l _ hx hl hb HC.out).mono ?_); rintro e w1 h1; rw [JoinedIs_error HJ.out] at h1; obtain ⟨p, rfl, f1⟩ := h1; unfold thereV)) | (go_at_call 47; ((with_reducible refine (told_any _ k _ (hx.fr0 f1)).mono ?_); rintro e w2 ⟨rfl, f2⟩)))
  go_ret2
  exact ⟨rfl, f1.trans f2⟩
end Go.Proofs.YteeijmfnjcddmaaGreatDoor
