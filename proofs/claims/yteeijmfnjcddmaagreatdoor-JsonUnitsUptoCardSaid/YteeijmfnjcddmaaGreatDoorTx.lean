/- Package text: runes, Utf8. -/
import Derived.Test.YteeijmfnjcddmaaGreatDoorAs
import Derived.Test.YteeijmfnjcddmaaGreatDoorJb
import Derived.Lib.OthersKept
import Derived.Lib.TrimU
import Derived.Lib.MapLaws
import Derived.Laws.Cover4
namespace Go.Proofs.YteeijmfnjcddmaaGreatDoor
open Go.RowKit

/-- An error of package text. -/
def thereV (p : Bs) (n : Int) : Value := .iface 131 (.agg #[.string ⟨p.toArray⟩, .iface 105 (.agg #[.int .i64 n])])

theorem at_any {B : Nat} (k n : Int) (w : World) (hx : Cx B w) (h0 : 0 ≤ k) (h1 : k ≤ 281474976710656) :
    Calls Tryz.prog 73 #[.int .i64 k, .int .i64 n] w fun e w' => e = .returned (thereV (Lib.itoa k) n) ∧ Fr NoB w w' := by
  go_enter Tryz.func73, Tryz.ntmps73
  go_wp2_with (go_at_call 55; ((with_reducible refine (itoa_any k (by omega) (by omega) _ hx).mono ?_); rintro e w1 ⟨rfl, f1⟩))
  go_ret
  exact ⟨rfl, f1⟩

theorem dec_drop (l : Bs) (pos : Nat) : Utf8.decode ⟨l.toArray⟩ pos = Lib.decodeL (l.drop pos) := by
  unfold Lib.decodeL
  rw [Lib.decode_at, Lib.decode_at]
  have hg : ∀ j, (⟨l.toArray⟩ : ByteArray).get! (pos + j) = (⟨(l.drop pos).toArray⟩ : ByteArray).get! j := fun j => by
    simp [ByteArray.get!]
  have hs : (⟨l.toArray⟩ : ByteArray).size - pos = (⟨(l.drop pos).toArray⟩ : ByteArray).size - 0 := by
    show l.toArray.size - pos = (l.drop pos).toArray.size - 0
    simp
  have h0 := hg 0
  rw [Nat.add_zero] at h0
  rw [hs, h0, hg 1, hg 2, hg 3]

/-- The runes of a text. -/
def runesGo : Nat → Bs → List Nat
  | 0, _ => []
  | f + 1, l => if l = [] then [] else (Lib.decodeL l).1 :: runesGo f (l.drop (Lib.decodeL l).2)
def runesP (l : Bs) : List Nat := runesGo l.length l
theorem runesGo_fuel : ∀ (n m : Nat) (l : Bs), l.length ≤ n → l.length ≤ m → runesGo n l = runesGo m l
  | 0, m, l, hn, _ => by
    obtain rfl : l = [] := List.eq_nil_of_length_eq_zero (by omega)
    cases m <;> simp [runesGo]
  | n + 1, 0, l, _, hm => by
    obtain rfl : l = [] := List.eq_nil_of_length_eq_zero (by omega)
    simp [runesGo]
  | n + 1, m + 1, l, hn, hm => by
    have hw := Lib.decodeL_width l
    unfold runesGo
    by_cases h : l = []
    · simp [h]
    · have hl : 0 < l.length := List.length_pos_iff.2 h
      rw [if_neg h, if_neg h, runesGo_fuel n m _ (by simp; omega) (by simp; omega)]
theorem runesP_step {l : Bs} (h : l ≠ []) : runesP l = (Lib.decodeL l).1 :: runesP (l.drop (Lib.decodeL l).2) := by
  have hw := Lib.decodeL_width l
  have hl : 0 < l.length := List.length_pos_iff.2 h
  obtain ⟨n, hn⟩ : ∃ n, l.length = n + 1 := ⟨l.length - 1, by omega⟩
  unfold runesP
  rw [hn, runesGo, if_neg h, runesGo_fuel n _ _ (by simp; omega) (Nat.le_refl _)]
theorem valid_drop {l : Bs} (h : l ≠ []) (hv : ¬ ((Lib.decodeL l).1 = 65533 ∧ (Lib.decodeL l).2 = 1)) : Lib.validD l = Lib.validD (l.drop (Lib.decodeL l).2) := by
  rw [Lib.validD_step l h, if_neg hv]
theorem decN_repl (n b0 b1 b2 b3 : Nat) (_h0 : b0 < 256) (_h1 : b1 < 256) (_h2 : b2 < 256) (_h3 : b3 < 256) (hd : (Lib.decodeN n b0 b1 b2 b3).1 = 65533) :
    (Lib.decodeN n b0 b1 b2 b3).2 = 1 ↔ ¬ (2 < n ∧ b0 = 239 ∧ b1 = 191 ∧ b2 = 189) := by
  unfold Lib.decodeN at hd ⊢
  by_cases c1 : b0 < 128
  · rw [if_pos c1] at hd; simp only at hd; omega
  rw [if_neg c1] at hd ⊢
  by_cases c2 : b0 / 32 = 6 ∧ (1 < n ∧ b1 / 64 = 2)
  · rw [if_pos c2] at hd ⊢
    by_cases d : b0 % 32 * 64 + b1 % 64 ≥ 128
    · rw [if_pos d] at hd; simp only at hd; omega
    · rw [if_neg d]; simp only [true_iff]; omega
  rw [if_neg c2] at hd ⊢
  by_cases c3 : b0 / 16 = 14 ∧ (1 < n ∧ b1 / 64 = 2) ∧ (2 < n ∧ b2 / 64 = 2)
  · rw [if_pos c3] at hd ⊢
    by_cases d : b0 % 16 * 4096 + b1 % 64 * 64 + b2 % 64 ≥ 2048 ∧ (b0 % 16 * 4096 + b1 % 64 * 64 + b2 % 64 < 55296 ∨ (57344 ≤ b0 % 16 * 4096 + b1 % 64 * 64 + b2 % 64 ∧ b0 % 16 * 4096 + b1 % 64 * 64 + b2 % 64 ≤ 1114111))
    · rw [if_pos d] at hd ⊢; simp only at hd ⊢; constructor
      · intro h; omega
      · intro h; exfalso; apply h; omega
    · rw [if_neg d]; simp only [true_iff]; omega
  rw [if_neg c3] at hd ⊢
  by_cases c4 : b0 / 8 = 30 ∧ (1 < n ∧ b1 / 64 = 2) ∧ (2 < n ∧ b2 / 64 = 2) ∧ (3 < n ∧ b3 / 64 = 2)
  · rw [if_pos c4] at hd ⊢
    by_cases d : b0 % 8 * 262144 + b1 % 64 * 4096 + b2 % 64 * 64 + b3 % 64 ≥ 65536 ∧ (b0 % 8 * 262144 + b1 % 64 * 4096 + b2 % 64 * 64 + b3 % 64 < 55296 ∨ (57344 ≤ b0 % 8 * 262144 + b1 % 64 * 4096 + b2 % 64 * 64 + b3 % 64 ∧ b0 % 8 * 262144 + b1 % 64 * 4096 + b2 % 64 * 64 + b3 % 64 ≤ 1114111))
    · rw [if_pos d] at hd; simp only at hd; omega
    · rw [if_neg d]; simp only [true_iff]; omega
  rw [if_neg c4]; simp only [true_iff]; omega
theorem pre_iff (l : Bs) : Lib.hasPrefix l [239, 191, 189] = true ↔ (2 < (⟨l.toArray⟩ : ByteArray).size - 0 ∧ ((⟨l.toArray⟩ : ByteArray).get! 0).toNat = 239 ∧ ((⟨l.toArray⟩ : ByteArray).get! (0 + 1)).toNat = 191 ∧ ((⟨l.toArray⟩ : ByteArray).get! (0 + 2)).toNat = 189) := by
  have e : ∀ (c : UInt8) (n : Nat) (hn : n < 256), c.toNat = n ↔ c = n.toUInt8 := fun c n hn => by
    constructor
    · intro h; rw [← h]; simp
    · intro h; subst h; simp; omega
  have hz : (⟨l.toArray⟩ : ByteArray).size = l.length := by show l.toArray.size = _; simp
  rw [hz]
  match l with
  | [] => simp [Lib.hasPrefix]
  | [a] => simp [Lib.hasPrefix, List.isPrefixOf]
  | [a, b] => simp [Lib.hasPrefix, List.isPrefixOf]
  | a :: b :: c :: r =>
    simp only [ByteArray.get!, Lib.hasPrefix, List.isPrefixOf]
    rw [e _ 239 (by omega), e _ 191 (by omega), e _ 189 (by omega)]
    simp
    constructor
    · rintro ⟨rfl, rfl, rfl⟩; simp
    · rintro ⟨h1, h2, h3⟩; exact ⟨h1.symm, h2.symm, h3.symm⟩
/-- The replacement rune: as it is, or for a byte that is none. -/
theorem repl_iff {l : Bs} (hd : (Lib.decodeL l).1 = 65533) : (Lib.decodeL l).2 = 1 ↔ Lib.hasPrefix l [239, 191, 189] = false := by
  unfold Lib.decodeL at hd ⊢
  rw [Lib.decode_at] at hd ⊢
  rw [decN_repl _ _ _ _ _ (UInt8.toNat_lt _) (UInt8.toNat_lt _) (UInt8.toNat_lt _) (UInt8.toNat_lt _) hd, ← pre_iff]
  simp

theorem Fr.iterAt {S : Nat → Prop} {a w : World} (h : Fr S a w) {k : Nat} (hk : a.heap.size ≤ k) (s : ByteArray) (pos : Nat) : Fr S a (w.iterAt k s pos) :=
  ⟨h.os, h.tape, h.output, by rw [Lib.iterAt_size]; exact h.size, fun i hi hn => (Lib.iterAt_other w k i s pos (by omega)).trans (h.block i hi hn)⟩

theorem Fr.iterO (w : World) (k : Nat) (s : ByteArray) (pos : Nat) : Fr (Only k) w (w.iterAt k s pos) :=
  ⟨rfl, rfl, rfl, by rw [Lib.iterAt_size]; exact Nat.le_refl _, fun i _ hn => Lib.iterAt_other w k i s pos hn⟩
/-- A row of the call's own stands where only an older block turns. -/
theorem own_only {w w' : World} {base k : Nat} {e : TypeId} {size : Nat} {v : Value} {n : Nat} {xs : List Value} (ho : w.ownsRow base e size v n xs) (f : Fr (Only k) w w') (hk : k < base) : w'.ownsRow base e size v n xs :=
  f.row ho (fun g hg e => by have h1 : g = k := e; have := (ho.lt g hg).1; omega)
theorem own_noB {w w' : World} {base : Nat} {e : TypeId} {size : Nat} {v : Value} {n : Nat} {xs : List Value} (ho : w.ownsRow base e size v n xs) (f : Fr NoB w w') : w'.ownsRow base e size v n xs :=
  f.row ho (fun _ _ e => e)

theorem own_base {w : World} {base base' : Nat} {e : TypeId} {size : Nat} {v : Value} {n : Nat} {xs : List Value} (ho : w.ownsRow base e size v n xs) (hb : base' ≤ base) : w.ownsRow base' e size v n xs := by
  obtain ⟨h1, h2⟩ := ho
  refine ⟨h1, ?_⟩
  rcases h2 with h2 | ⟨g, cap, cur, hv, hg, r⟩
  · exact Or.inl h2
  · exact Or.inr ⟨g, cap, cur, hv, by omega, r⟩

theorem info_rune : (Tryz.prog.info? 21).map (fun i => (i.zero, i.size, i.bytes)) = some (some (.int .i32 0), 1, 4) := by kernel_rfl

/-- What runes hands back of a text that is UTF-8. -/
def RunesOk (s : Bs) (w : World) (e : Ending) (w' : World) : Prop :=
  ∃ v, e = .returned (.tuple #[v, .nilIface]) ∧ w'.ownsRow w.heap.size 21 1 v (runesP s).length ((runesP s).map fun n => Value.int .i32 (n : Nat)) ∧ Fr NoB w w'
/-- .. and of another. -/
def RunesNo (w : World) (e : Ending) (w' : World) : Prop :=
  ∃ p : Bs, e = .returned (.tuple #[.slice none 0 0, thereV p 12]) ∧ Fr NoB w w'

set_option maxRecDepth 100000 in
set_option maxHeartbeats 1600000 in
theorem runes_any {B : Nat} (s : Bs) (w : World) (hx : Cx B w) (hs : s.length ≤ 35184372088832) :
    Calls Tryz.prog 46 #[.string ⟨s.toArray⟩] w fun e w' => (Lib.validD s = true → RunesOk s w e w') ∧ (Lib.validD s = false → RunesNo w e w') := by
  obtain ⟨i0, hi, hz0, hz1, hz2⟩ := info_parts info_rune
  have hsz : (⟨s.toArray⟩ : ByteArray).size = s.length := by show s.toArray.size = _; simp
  have Hsz := Lib.hid hsz
  clear hsz
  have hxd := ext_drop s
  go_enter Tryz.func46, Tryz.ntmps46
  go_wp2
  go_loopw [4] (fun v wr => ∃ (pos : Nat) (acc : List Nat), pos ≤ s.length ∧ wr.heap[w.heap.size]? = some (.stringIter ⟨s.toArray⟩ pos) ∧ wr.ownsRow (w.heap.size + 1) 21 1 v acc.length (acc.map fun n => Value.int .i32 (n : Nat)) ∧ Fr NoB w wr ∧ Hid (Lib.validD s = Lib.validD (s.drop pos)) ∧ Hid (acc ++ runesP (s.drop pos) = runesP s) ∧ acc.length ≤ pos) (fun _ wr => s.length - wr.iterPos w.heap.size)
  case atStart =>
    refine ⟨0, [], Nat.zero_le _, World.iter_heap w _ 0, World.ownsRow_nil _ _ _ _, ?_, Lib.hid rfl, Lib.hid rfl, Nat.zero_le _⟩
    exact (Fr.refl _ _).alloc _
  case round =>
    obtain ⟨pos, acc, hpos, hit, hown, hfr, HV, HR, hal⟩ := hrel
    by_cases hp : pos < s.length
    · have hp' : pos < (⟨s.toArray⟩ : ByteArray).size := by rw [Hsz.out]; exact hp
      have hnx : ∀ ty, (Instr.next (.pointer (some ⟨w.heap.size, 0, none⟩)) true ty).run Tryz.prog wr = _ := fun ty => Lib.run_next_any_at wr w.heap.size ⟨s.toArray⟩ pos ty hit hp'
      have hne : s.drop pos ≠ [] := fun e => by have := congrArg List.length e; simp at this; omega
      have hst := runesP_step hne
      have hwd := Lib.decodeL_width (s.drop pos)
      have hrl := Lib.decodeL_rune (s.drop pos)
      have hwl := Lib.decodeL_le (s.drop pos) hne
      simp only [List.length_drop] at hwl
      rw [dec_drop] at hnx
      have hvs := Lib.validD_step (s.drop pos) hne
      have hrp := @repl_iff (s.drop pos)
      generalize hd : Lib.decodeL (s.drop pos) = d at hnx hst hwd hrl hwl hvs hrp
      obtain ⟨r, n⟩ := d
      simp only [List.drop_drop] at hnx hst hwd hrl hwl hvs hrp
      obtain ⟨W1, hW1⟩ : ∃ W1, W1 = wr.iterAt w.heap.size ⟨s.toArray⟩ (pos + n) := ⟨_, rfl⟩
      have hit2 : W1.heap[w.heap.size]? = some (.stringIter ⟨s.toArray⟩ (pos + n)) := by rw [hW1]; exact Lib.iterAt_heap wr w.heap.size _ pos _ hit
      have hown2 := own_only hown (Fr.iterO wr w.heap.size ⟨s.toArray⟩ (pos + n)) (by omega)
      rw [← hW1] at hown2
      have hfr2 : Fr NoB w W1 := by rw [hW1]; exact hfr.iterAt (Nat.le_refl _) _ _
      rw [← hW1] at hnx
      have hsz1 : w.heap.size < W1.heap.size := (Array.getElem?_eq_some_iff.1 hit2).1
      have HH : Hid (pos < s.length → wr.iterPos w.heap.size = pos) := Lib.hid (fun _ => by simp [World.iterPos, hit])
      clear hW1 hown hfr hit hd hne hp'
      have hbad : r = 65533 → (n = 1 ↔ Lib.hasPrefix (s.drop pos) [239, 191, 189] = false) := hrp
      clear hrp
      by_cases h1 : r = 65533 ∧ n = 1
      · have hpre : Lib.hasPrefix (s.drop pos) [239, 191, 189] = false := (hbad h1.1).1 h1.2
        have hinv : Lib.validD s = false := by rw [HV.out, hvs, if_pos h1]
        obtain ⟨rfl, rfl⟩ := h1
        have Hinv := Lib.hid hinv
        clear hbad hvs hinv hst HR HV
        go_wp2_with (first | (go_at_call 61; ((with_reducible refine (hasPrefix_any (s.drop pos) [239, 191, 189] _).mono ?_); rintro e w2 ⟨rfl, rfl⟩)) | (go_at_call 73; ((with_reducible refine (at_any (B := B) pos 12 _ (hx.fr0 hfr2) (by omega) (by omega)).mono ?_); rintro e w2 ⟨rfl, f2⟩)))
        go_ret2
        refine ⟨fun e => ?_, fun _ => ⟨_, rfl, hfr2.trans f2⟩⟩
        rw [Hinv.out] at e; cases e
      · have hV2 : Hid (Lib.validD s = Lib.validD (s.drop (pos + n))) := Lib.hid (by rw [HV.out, hvs, if_neg h1])
        have hR2 : Hid ((acc ++ [r]) ++ runesP (s.drop (pos + n)) = runesP s) := Lib.hid (by rw [← HR.out, hst]; simp)
        have hgo : ((r : Int) == 65533) = false ∨ (r = 65533 ∧ Lib.hasPrefix (s.drop pos) [239, 191, 189] = true) := by
          by_cases hr : r = 65533
          · right
            refine ⟨hr, ?_⟩
            cases hq : Lib.hasPrefix (s.drop pos) [239, 191, 189]
            · exact absurd ⟨hr, (hbad hr).2 hq⟩ h1
            · rfl
          · left; exact beq_eq_false_iff_ne.2 (by omega)
        clear hbad hvs hst HR HV h1
        rcases hgo with hgo | ⟨hr, hgo⟩
        · go_wp2_with (at_builtin; refine wpList_append_own _ rfl _ _ 78 rfl (w.heap.size + 1) 21 i0 (.int .i32 0) 1 4 Tryz.underlying78 hi hz0 hz1 hz2 rfl (by decide) _ _ _ rfl (own_noB hown2 ((Fr.refl _ _).alloc _)) ⟨W1.heap.size, 0, none⟩ 1 1 [.int .i32 r] rfl rfl (cell_one_new _ _ _) (by intro u hu; rw [List.mem_singleton] at hu; subst hu; rfl) (by unfold maxLen; omega) (by omega) (by simp; omega) ?_; intro v3 w3 hown3 hgrow3 hnil3)
          have hit3 : w3.heap[w.heap.size]? = some (.stringIter ⟨s.toArray⟩ (pos + n)) := by
            rw [hgrow3.block w.heap.size (by simp; omega) (fun e => by have := (hown2.lt _ e.symm).1; omega), Lib.alloc_old _ _ _ hsz1]
            exact hit2
          go_roundw
          case rel =>
            exact ⟨pos + n, acc ++ [r], by omega, hit3, by simpa using hown3, Fr.grown (hfr2.alloc _) hgrow3 (fun j hj hlt => by have := (hown2.lt j hj).1; omega), hV2, hR2, by simp; omega⟩
          case measure =>
            have e1 := HH.out hp
            have e2 : w3.iterPos w.heap.size = pos + n := by simp [World.iterPos, hit3]
            simp only [e1, e2]
            omega
        · subst hr
          go_wp2_with (first | (go_at_call 61; ((with_reducible refine (hasPrefix_any (s.drop pos) [239, 191, 189] _).mono ?_); rintro e w2 ⟨rfl, rfl⟩)) | (at_builtin; refine wpList_append_own _ rfl _ _ 78 rfl (w.heap.size + 1) 21 i0 (.int .i32 0) 1 4 Tryz.underlying78 hi hz0 hz1 hz2 rfl (by decide) _ _ _ rfl (own_noB hown2 ((Fr.refl _ _).alloc _)) ⟨W1.heap.size, 0, none⟩ 1 1 [.int .i32 65533] rfl rfl (cell_one_new _ _ _) (by intro u hu; rw [List.mem_singleton] at hu; subst hu; rfl) (by unfold maxLen; omega) (by omega) (by simp; omega) ?_; intro v3 w3 hown3 hgrow3 hnil3))
          have hit3 : w3.heap[w.heap.size]? = some (.stringIter ⟨s.toArray⟩ (pos + n)) := by
            rw [hgrow3.block w.heap.size (by simp; omega) (fun e => by have := (hown2.lt _ e.symm).1; omega), Lib.alloc_old _ _ _ hsz1]
            exact hit2
          go_roundw
          case rel =>
            exact ⟨pos + n, acc ++ [65533], by omega, hit3, by simpa using hown3, Fr.grown (hfr2.alloc _) hgrow3 (fun j hj hlt => by have := (hown2.lt j hj).1; omega), hV2, hR2, by simp; omega⟩
          case measure =>
            have e1 := HH.out hp
            have e2 : w3.iterPos w.heap.size = pos + n := by simp [World.iterPos, hit3]
            simp only [e1, e2]
            omega
    · obtain rfl : pos = s.length := by omega
      have hp' : ¬ s.length < (⟨s.toArray⟩ : ByteArray).size := by rw [Hsz.out]; omega
      have hnx : ∀ ty, (Instr.next (.pointer (some ⟨w.heap.size, 0, none⟩)) true ty).run Tryz.prog wr = _ := fun ty => Lib.run_next_end_at wr w.heap.size ⟨s.toArray⟩ s.length ty hit hp'
      have hv : Lib.validD s = true := by rw [HV.out, List.drop_length]; rfl
      have hr : acc = runesP s := by have := HR.out; rw [List.drop_length] at this; simpa [runesP, runesGo] using this
      have Hv := Lib.hid hv
      have Hr := Lib.hid hr
      clear hv hr HV HR
      go_wp2_with fail
      go_ret2
      refine ⟨fun _ => ⟨_, rfl, ?_, hfr⟩, fun e => ?_⟩
      · rw [← Hr.out]; exact own_base hown (by omega)
      · rw [Hv.out] at e; cases e

theorem utf8_yes {B : Nat} (s : Bs) (w : World) (hx : Cx B w) (hs : s.length ≤ 35184372088832) (h : Lib.validD s = true) :
    Calls Tryz.prog 51 #[.string ⟨s.toArray⟩] w fun e w' => e = .returned (.bool true) ∧ Fr NoB w w' := by
  have Hv := Lib.hid h
  clear h
  go_enter Tryz.func51, Tryz.ntmps51
  go_wp2_with (go_at_call 46; ((with_reducible refine (runes_any s _ hx hs).mono ?_); rintro e w1 ⟨h1, -⟩; obtain ⟨v, rfl, -, f1⟩ := h1 Hv.out))
  go_ret
  exact ⟨rfl, f1⟩
theorem utf8_no {B : Nat} (s : Bs) (w : World) (hx : Cx B w) (hs : s.length ≤ 35184372088832) (h : Lib.validD s = false) :
    Calls Tryz.prog 51 #[.string ⟨s.toArray⟩] w fun e w' => e = .returned (.bool false) ∧ Fr NoB w w' := by
  have Hv := Lib.hid h
  clear h
  go_enter Tryz.func51, Tryz.ntmps51
  go_wp2_with (go_at_call 46; ((with_reducible refine (runes_any s _ hx hs).mono ?_); rintro e w1 ⟨-, h1⟩; obtain ⟨p, rfl, f1⟩ := h1 Hv.out; unfold thereV))
  go_ret
  exact ⟨rfl, f1⟩
end Go.Proofs.YteeijmfnjcddmaaGreatDoor
/- Package text: joined, FromUnits. -/
namespace Go.Proofs.YteeijmfnjcddmaaGreatDoor
open Go.RowKit

/-- The runes of units of sixteen bits, or what is wrong. -/
def joinP : List Int → Except Int (List Int)
  | [] => .ok []
  | n :: r =>
    if n < 0 ∨ 65535 < n then .error 13
    else if 56320 ≤ n ∧ n ≤ 57343 then .error 14
    else if 55296 ≤ n ∧ n ≤ 56319 then
      match r with
      | [] => .error 14
      | m :: r' => if m < 56320 ∨ 57343 < m then .error 14 else
        match joinP r' with
        | .error e => .error e
        | .ok l => .ok ((65536 + (n - 55296) * 1024 + m - 56320) :: l)
    else
      match joinP r with
      | .error e => .error e
      | .ok l => .ok (n :: l)

/-- .. with what is read already. -/
def joinTo (acc : List Int) (r : Except Int (List Int)) : Except Int (List Int) :=
  match r with
  | .error e => .error e
  | .ok l => .ok (acc ++ l)
theorem joinTo_snoc (acc : List Int) (x : Int) (r : Except Int (List Int)) : joinTo acc (joinTo [x] r) = joinTo (acc ++ [x]) r := by
  cases r <;> simp [joinTo]

theorem join_big {n : Int} {r : List Int} (h : n < 0 ∨ 65535 < n) : joinP (n :: r) = .error 13 := by cases r <;> simp [joinP, h]
theorem join_low {n : Int} {r : List Int} (h : 56320 ≤ n ∧ n ≤ 57343) : joinP (n :: r) = .error 14 := by
  have h1 : ¬ (n < 0 ∨ 65535 < n) := by omega
  cases r <;> simp [joinP, h, h1]
theorem join_end {n : Int} (h : 55296 ≤ n ∧ n ≤ 56319) : joinP [n] = .error 14 := by
  have h1 : ¬ (n < 0 ∨ 65535 < n) := by omega
  have h2 : ¬ (56320 ≤ n ∧ n ≤ 57343) := by omega
  simp [joinP, h, h1, h2]
theorem join_half {n m : Int} {r : List Int} (h : 55296 ≤ n ∧ n ≤ 56319) (hm : m < 56320 ∨ 57343 < m) : joinP (n :: m :: r) = .error 14 := by
  have h1 : ¬ (n < 0 ∨ 65535 < n) := by omega
  have h2 : ¬ (56320 ≤ n ∧ n ≤ 57343) := by omega
  simp [joinP, h, h1, h2, hm]
theorem join_pair {n m : Int} {r : List Int} (h : 55296 ≤ n ∧ n ≤ 56319) (hm : 56320 ≤ m ∧ m ≤ 57343) : joinP (n :: m :: r) = joinTo [65536 + (n - 55296) * 1024 + m - 56320] (joinP r) := by
  have h1 : ¬ (n < 0 ∨ 65535 < n) := by omega
  have h2 : ¬ (56320 ≤ n ∧ n ≤ 57343) := by omega
  have h3 : ¬ (m < 56320 ∨ 57343 < m) := by omega
  simp only [joinP, h1, h2, h3, if_false, and_self, h, if_true]
  cases joinP r <;> rfl
theorem join_plain {n : Int} {r : List Int} (h1 : 0 ≤ n) (h2 : n < 55296 ∨ (57343 < n ∧ n ≤ 65535)) : joinP (n :: r) = joinTo [n] (joinP r) := by
  have k1 : ¬ (n < 0 ∨ 65535 < n) := by omega
  have k2 : ¬ (56320 ≤ n ∧ n ≤ 57343) := by omega
  have k3 : ¬ (55296 ≤ n ∧ n ≤ 56319) := by omega
  cases r with
  | nil => simp only [joinP, k1, k2, k3, if_false]; rfl
  | cons m r => simp only [joinP, k1, k2, k3, if_false]; cases joinP (m :: r) <;> rfl

/-- What joined hands back. -/
def JoinedIs (q : Except Int (List Int)) (w : World) (e : Ending) (w' : World) : Prop :=
  match q with
  | .ok l => ∃ v, e = .returned (.tuple #[v, .nilIface]) ∧ w'.ownsRow w.heap.size 21 1 v l.length (l.map (Value.int .i32)) ∧ Fr NoB w w'
  | .error k => ∃ p : Bs, e = .returned (.tuple #[.slice none 0 0, thereV p k]) ∧ Fr NoB w w'

theorem JoinedIs_ok {q : Except Int (List Int)} {l : List Int} {w : World} {e : Ending} {w' : World} (h : q = .ok l) : JoinedIs q w e w' = ∃ v, e = .returned (.tuple #[v, .nilIface]) ∧ w'.ownsRow w.heap.size 21 1 v l.length (l.map (Value.int .i32)) ∧ Fr NoB w w' := by rw [h]; rfl
theorem JoinedIs_error {q : Except Int (List Int)} {k : Int} {w : World} {e : Ending} {w' : World} (h : q = .error k) : JoinedIs q w e w' = ∃ p : Bs, e = .returned (.tuple #[.slice none 0 0, thereV p k]) ∧ Fr NoB w w' := by rw [h]; rfl

set_option maxRecDepth 100000 in
set_option maxHeartbeats 3200000 in
theorem joined_any {B : Nat} (b off cap : Nat) (l : List Int) (w : World) (hx : Cx B w) (hl : l.length ≤ 281474976710) (hb : b < w.heap.size)
    (hc : ∀ (j : Nat) (h : j < l.length), w.cell? ⟨b, off + j, none⟩ = some (.int .i64 l[j])) :
    Calls Tryz.prog 48 #[.slice (some ⟨b, off, none⟩) l.length cap] w fun e w' => JoinedIs (joinP l) w e w' := by
  obtain ⟨i0, hi, hz0, hz1, hz2⟩ := info_parts info_rune
  have HC := Lib.hid hc
  clear hc
  go_enter Tryz.func48, Tryz.ntmps48
  go_wp2
  go_loopw [4, 5] (fun v4 v5 wr => ∃ (k : Nat) (acc : List Int), k ≤ l.length ∧ v5 = .int .i64 k ∧ wr.ownsRow w.heap.size 21 1 v4 acc.length (acc.map (Value.int .i32)) ∧ Fr NoB w wr ∧ Hid (joinTo acc (joinP (l.drop k)) = joinP l) ∧ acc.length ≤ k) (fun _ v5 _ => l.length - (intOf v5).toNat)
  case atStart => exact ⟨0, [], Nat.zero_le _, rfl, World.ownsRow_nil _ _ _ _, Fr.refl _ _, Lib.hid (by simp only [List.drop_zero]; cases joinP l <;> rfl), Nat.le_refl _⟩
  case round =>
    obtain ⟨k, acc, hk, rfl, hown, hfr, HJ, hal⟩ := hrel
    by_cases hlt : k < l.length
    · have hck : wr.cell? ⟨b, off + k, none⟩ = some (.int .i64 l[k]) := (hfr.cell (p := ⟨b, off + k, none⟩) hb (fun e => e)).trans (HC.out k hlt)
      have hdr : l.drop k = l[k] :: l.drop (k + 1) := List.drop_eq_getElem_cons hlt
      rw [hdr] at HJ
      generalize l[k] = n at hck HJ
      clear hdr
      by_cases h1 : n < 0
      · have hf : joinP l = .error 13 := by rw [← HJ.out, join_big (Or.inl h1)]; rfl
        have Hf := Lib.hid hf
        clear hf HJ
        go_wp2_with (go_at_call 73; ((with_reducible refine (at_any (B := B) k 13 _ (hx.fr0 hfr) (by omega) (by omega)).mono ?_); rintro e w2 ⟨rfl, f2⟩))
        go_ret2
        rw [JoinedIs_error Hf.out]
        exact ⟨_, rfl, hfr.trans f2⟩
      by_cases h2 : 65535 < n
      · have hf : joinP l = .error 13 := by rw [← HJ.out, join_big (Or.inr h2)]; rfl
        have Hf := Lib.hid hf
        clear hf HJ
        go_wp2_with (go_at_call 73; ((with_reducible refine (at_any (B := B) k 13 _ (hx.fr0 hfr) (by omega) (by omega)).mono ?_); rintro e w2 ⟨rfl, f2⟩))
        go_ret2
        rw [JoinedIs_error Hf.out]
        exact ⟨_, rfl, hfr.trans f2⟩
      by_cases h3 : 56320 ≤ n ∧ n ≤ 57343
      · have hf : joinP l = .error 14 := by rw [← HJ.out, join_low h3]; rfl
        have hb1 : (n / 1024 == 55) = true := beq_iff_eq.2 (by omega)
        clear h3
        have Hf := Lib.hid hf
        clear hf HJ
        go_wp2_with (go_at_call 73; ((with_reducible refine (at_any (B := B) k 14 _ (hx.fr0 hfr) (by omega) (by omega)).mono ?_); rintro e w2 ⟨rfl, f2⟩))
        go_ret2
        rw [JoinedIs_error Hf.out]
        exact ⟨_, rfl, hfr.trans f2⟩
      have hb1 : (n / 1024 == 55) = false := beq_eq_false_iff_ne.2 (by omega)
      by_cases h4 : 55296 ≤ n ∧ n ≤ 56319
      · have hb2 : (n / 1024 == 54) = true := beq_iff_eq.2 (by omega)
        by_cases h5 : k + 1 < l.length
        · have hb3 : ((k : Int) + 1 == (l.length : Int)) = false := beq_eq_false_iff_ne.2 (by omega)
          have hcm : wr.cell? ⟨b, off + (k + 1), none⟩ = some (.int .i64 l[k + 1]) := (hfr.cell (p := ⟨b, off + (k + 1), none⟩) hb (fun e => e)).trans (HC.out (k + 1) h5)
          have hdr : l.drop (k + 1) = l[k + 1] :: l.drop (k + 1 + 1) := List.drop_eq_getElem_cons h5
          rw [hdr] at HJ
          generalize l[k + 1] = m at hcm HJ
          clear hdr
          by_cases h6 : m < 56320
          · have hf : joinP l = .error 14 := by rw [← HJ.out, join_half h4 (Or.inl h6)]; rfl
            clear h3 h4
            have Hf := Lib.hid hf
            clear hf HJ
            go_wp2_with (go_at_call 73; ((with_reducible refine (at_any (B := B) k 14 _ (hx.fr0 hfr) (by omega) (by omega)).mono ?_); rintro e w2 ⟨rfl, f2⟩))
            go_ret2
            rw [JoinedIs_error Hf.out]
            exact ⟨_, rfl, hfr.trans f2⟩
          by_cases h7 : 57343 < m
          · have hf : joinP l = .error 14 := by rw [← HJ.out, join_half h4 (Or.inr h7)]; rfl
            clear h3 h4
            have Hf := Lib.hid hf
            clear hf HJ
            go_wp2_with (go_at_call 73; ((with_reducible refine (at_any (B := B) k 14 _ (hx.fr0 hfr) (by omega) (by omega)).mono ?_); rintro e w2 ⟨rfl, f2⟩))
            go_ret2
            rw [JoinedIs_error Hf.out]
            exact ⟨_, rfl, hfr.trans f2⟩
          have HJ2 : Hid (joinTo (acc ++ [65536 + (n - 55296) * 1024 + m - 56320]) (joinP (l.drop (k + 2))) = joinP l) := Lib.hid (by rw [← HJ.out, join_pair h4 ⟨by omega, by omega⟩, joinTo_snoc])
          obtain ⟨h41, h42⟩ := h4
          clear HJ h3
          go_wp2_with (at_builtin; refine wpList_append_own _ rfl _ _ 78 rfl w.heap.size 21 i0 (.int .i32 0) 1 4 Tryz.underlying78 hi hz0 hz1 hz2 rfl (by decide) _ _ _ rfl (own_noB hown ((Fr.refl _ _).alloc _)) ⟨wr.heap.size, 0, none⟩ 1 1 [.int .i32 (65536 + (n - 55296) * 1024 + m - 56320)] rfl rfl (cell_one_new _ _ _) (by intro u hu; rw [List.mem_singleton] at hu; subst hu; rfl) (by unfold maxLen; omega) (by omega) (by have := hfr.size; simp; omega) ?_; intro v3 w3 hown3 hgrow3 hnil3)
          go_roundw
          case rel =>
            exact ⟨k + 2, acc ++ [65536 + (n - 55296) * 1024 + m - 56320], by omega, by go_num, by simpa using hown3, Fr.grown (hfr.alloc _) hgrow3 (fun j hj hlt => by have := (hown.lt j hj).1; omega), HJ2, by simp; omega⟩
          case measure => simp [intOf]; omega
        · have hf : joinP l = .error 14 := by
            rw [← HJ.out, List.drop_eq_nil_of_le (by omega), join_end h4]; rfl
          have hb3 : ((k : Int) + 1 == (l.length : Int)) = true := beq_iff_eq.2 (by omega)
          clear h3 h4
          have Hf := Lib.hid hf
          clear hf HJ
          go_wp2_with (go_at_call 73; ((with_reducible refine (at_any (B := B) k 14 _ (hx.fr0 hfr) (by omega) (by omega)).mono ?_); rintro e w2 ⟨rfl, f2⟩))
          go_ret2
          rw [JoinedIs_error Hf.out]
          exact ⟨_, rfl, hfr.trans f2⟩
      have hb2 : (n / 1024 == 54) = false := beq_eq_false_iff_ne.2 (by omega)
      have HJ2 : Hid (joinTo (acc ++ [n]) (joinP (l.drop (k + 1))) = joinP l) := Lib.hid (by rw [← HJ.out, join_plain (by omega) (by omega), joinTo_snoc])
      clear HJ h3 h4
      go_wp2_with (at_builtin; refine wpList_append_own _ rfl _ _ 78 rfl w.heap.size 21 i0 (.int .i32 0) 1 4 Tryz.underlying78 hi hz0 hz1 hz2 rfl (by decide) _ _ _ rfl (own_noB hown ((Fr.refl _ _).alloc _)) ⟨wr.heap.size, 0, none⟩ 1 1 [.int .i32 (n)] rfl rfl (cell_one_new _ _ _) (by intro u hu; rw [List.mem_singleton] at hu; subst hu; rfl) (by unfold maxLen; omega) (by omega) (by have := hfr.size; simp; omega) ?_; intro v3 w3 hown3 hgrow3 hnil3)
      go_roundw
      case rel =>
        exact ⟨k + 1, acc ++ [n], by omega, by go_num, by simpa using hown3, Fr.grown (hfr.alloc _) hgrow3 (fun j hj hlt => by have := (hown.lt j hj).1; omega), HJ2, by simp; omega⟩
      case measure => simp [intOf]; omega
    · obtain rfl : k = l.length := by omega
      have hf : joinP l = .ok acc := by rw [← HJ.out, List.drop_length]; simp [joinP, joinTo]
      have Hf := Lib.hid hf
      clear hf HJ
      go_wp2_with fail
      go_ret2
      rw [JoinedIs_ok Hf.out]
      exact ⟨_, rfl, hown, hfr⟩
end Go.Proofs.YteeijmfnjcddmaaGreatDoor
/- Package text: FromUnits. -/
namespace Go.Proofs.YteeijmfnjcddmaaGreatDoor
open Go.RowKit

def encsP (l : List Int) : Bs := l.flatMap Lib.encodeRune
theorem enc_eq (n : Int) : Utf8.encode n = ⟨(Lib.encodeRune n).toArray⟩ := by
  apply ByteArray.ext
  by_cases hn : 0 ≤ n
  · obtain ⟨r, rfl⟩ := Int.eq_ofNat_of_zero_le hn
    by_cases hb : (55296 ≤ r ∧ r ≤ 57343) ∨ 1114111 < r
    · have v : Utf8.valid (r : Int) = false := by simp [Utf8.valid]; omega
      rw [Lib.encodeRune, Lib.encodeRuneZ_bad (by omega)]
      simp [Utf8.encode, v, Utf8.runeError]
    · have v : Utf8.valid (r : Int) = true := by simp [Utf8.valid]; omega
      by_cases c1 : r < 128
      · rw [Lib.encodeRune, Lib.encodeRuneZ_one (by omega) (by omega)]
        simp [Utf8.encode, v, c1]
      by_cases c2 : r < 2048
      · rw [Lib.encodeRune, Lib.encodeRuneZ_two (by omega) (by omega)]
        have e0 : (192 + (r : Int) / 64 : Int).toNat = 192 + r / 64 := by omega
        have e1 : (128 + (r : Int) % 64 : Int).toNat = 128 + r % 64 := by omega
        simp only [List.map_cons, List.map_nil, e0, e1]
        simp [Utf8.encode, v, c1, c2]
        try exact ⟨rfl, rfl⟩
      by_cases c3 : r < 65536
      · rw [Lib.encodeRune, Lib.encodeRuneZ_three (by omega)]
        have e0 : (224 + (r : Int) / 4096 : Int).toNat = 224 + r / 4096 := by omega
        have e1 : (128 + (r : Int) / 64 % 64 : Int).toNat = 128 + r / 64 % 64 := by omega
        have e2 : (128 + (r : Int) % 64 : Int).toNat = 128 + r % 64 := by omega
        simp only [List.map_cons, List.map_nil, e0, e1, e2]
        simp [Utf8.encode, v, c1, c2, c3]
        try exact ⟨rfl, rfl⟩
      · rw [Lib.encodeRune, Lib.encodeRuneZ_four (by omega) (by omega)]
        have e0 : (240 + (r : Int) / 262144 : Int).toNat = 240 + r / 262144 := by omega
        have e1 : (128 + (r : Int) / 4096 % 64 : Int).toNat = 128 + r / 4096 % 64 := by omega
        have e2 : (128 + (r : Int) / 64 % 64 : Int).toNat = 128 + r / 64 % 64 := by omega
        have e3 : (128 + (r : Int) % 64 : Int).toNat = 128 + r % 64 := by omega
        simp only [List.map_cons, List.map_nil, e0, e1, e2, e3]
        simp [Utf8.encode, v, c1, c2, c3]
  · have v : Utf8.valid n = false := by simp [Utf8.valid]; omega
    rw [Lib.encodeRune, Lib.encodeRuneZ_bad (by omega)]
    simp [Utf8.encode, v, Utf8.runeError]
theorem rb_eq (l : List Int) : runesBytes l = ⟨(encsP l).toArray⟩ := by
  have : ∀ (l : List Int) (acc : Bs), l.foldl (fun r n => r ++ Utf8.encode n) (⟨acc.toArray⟩ : ByteArray) = ⟨(acc ++ encsP l).toArray⟩ := by
    intro l
    induction l with
    | nil => intro acc; simp [encsP]
    | cons n r ih =>
      intro acc
      rw [List.foldl_cons, enc_eq]
      have : (⟨acc.toArray⟩ : ByteArray) ++ ⟨(Lib.encodeRune n).toArray⟩ = ⟨(acc ++ Lib.encodeRune n).toArray⟩ := by
        apply ByteArray.ext
        rw [ByteArray.data_append]
        simp
      rw [this, ih]
      simp [encsP]
  have h := this l []
  rw [List.nil_append] at h
  exact h

/-- A row of runes as a text. -/
theorem conv_row {w : World} {base : Nat} {v : Value} {rs : List Int} (ho : w.ownsRow base 21 1 v rs.length (rs.map (Value.int .i32))) :
    (convert 78 9 v).run Tryz.prog w = .ok (.string ⟨(encsP rs).toArray⟩) w := by
  have hcell := @World.ownsRow.cells _ _ _ _ _ _ _ ho
  rcases ho.2 with ⟨rfl, h0⟩ | ⟨g, cap, cur, rfl, hg, hh, h1⟩
  · obtain rfl : rs = [] := List.eq_nil_of_length_eq_zero h0
    exact run_convert_runes_nil w 78 9 21 0 0 Tryz.underlying78 Tryz.underlying21 Tryz.underlying9
  · have hc := hcell (g := g) rfl
    rw [run_convert_runes w 78 9 21 ⟨g, 0, none⟩ rs.length cap rs (Nat.le_refl _) Tryz.underlying78 Tryz.underlying21 Tryz.underlying9 (fun j hj => hc j _ (by simp [List.getD, hj])), List.take_length, rb_eq]

theorem fromUnits_ok {B : Nat} (b off cap : Nat) (l rs : List Int) (w : World) (hx : Cx B w) (hl : l.length ≤ 281474976710) (hb : b < w.heap.size)
    (hc : ∀ (j : Nat) (h : j < l.length), w.cell? ⟨b, off + j, none⟩ = some (.int .i64 l[j])) (hj : joinP l = .ok rs) :
    Calls Tryz.prog 30 #[.slice (some ⟨b, off, none⟩) l.length cap] w fun e w' => e = .returned (.tuple #[.string ⟨(encsP rs).toArray⟩, .int .i64 0]) ∧ Fr NoB w w' := by
  have HC := Lib.hid hc
  have HJ := Lib.hid hj
  clear hc hj
  set_option maxRecDepth 100000 in
  go_enter Tryz.func30, Tryz.ntmps30
  go_wp2_with (go_at_call 48; ((with_reducible refine (joined_any b off cap l _ hx hl hb HC.out).mono ?_); rintro e w1 h1; rw [JoinedIs_ok HJ.out] at h1; obtain ⟨v, rfl, ho, f1⟩ := h1; have hcv := conv_row ho; clear ho))
  go_ret2
  exact ⟨rfl, f1⟩
theorem fromUnits_no {B : Nat} (b off cap : Nat) (l : List Int) (k : Int) (w : World) (hx : Cx B w) (hl : l.length ≤ 281474976710) (hb : b < w.heap.size)
    (hc : ∀ (j : Nat) (h : j < l.length), w.cell? ⟨b, off + j, none⟩ = some (.int .i64 l[j])) (hj : joinP l = .error k) :
    Calls Tryz.prog 30 #[.slice (some ⟨b, off, none⟩) l.length cap] w fun e w' => e = .returned (.tuple #[.string ⟨#[]⟩, .int .i64 k]) ∧ Fr NoB w w' := by
  have HC := Lib.hid hc
  have HJ := Lib.hid hj
  clear hc hj
  go_enter Tryz.func30, Tryz.ntmps30
  go_wp2_with (first | (go_at_call 48; ((with_reducible refine (joined_any b off cap l _ hx hl hb HC.out).mono ?_); rintro e w1 h1; rw [JoinedIs_error HJ.out] at h1; obtain ⟨p, rfl, f1⟩ := h1; unfold thereV)) | (go_at_call 47; ((with_reducible refine (told_any _ k _ (hx.fr0 f1)).mono ?_); rintro e w2 ⟨rfl, f2⟩)))
  go_ret2
  exact ⟨rfl, f1.trans f2⟩
end Go.Proofs.YteeijmfnjcddmaaGreatDoor
