/- Package text: runes, Utf8. -/
import Derived.Test.YteeijmfnjcddmaaGreatDoorAsB
import Derived.Test.YteeijmfnjcddmaaGreatDoorJb
import Derived.Lib.OthersKept
import Derived.Lib.TrimU
import Derived.Lib.MapLaws
namespace Go.Proofs.YteeijmfnjcddmaaGreatDoor
open Go.RowKit

/-- An error of package text. -/
def thereV (p : Bs) (n : Int) : Value := .iface 131 (.agg #[.string ⟨p.toArray⟩, .iface 105 (.agg #[.int .i64 n])])

theorem at_any {B : Nat} (k n : Int) (w : World) (hx : Cx B w) (h0 : 0 ≤ k) (h1 : k ≤ 281474976710656) :
    Calls Tryz.prog 73 #[.int .i64 k, .int .i64 n] w fun e w' => e = .returned (thereV (Lib.itoa k) n) ∧ Fr NoB w w' := by
  go_enter Tryz.func73, Tryz.ntmps73
  go_wp2_with (go_at_call 55; ((with_reducible refine (itoa_any k (by omega) (by omega) _ hx).mono ?_); rintro e w1 ⟨rfl, f1⟩))
  go_ret
  exact ⟨rfl, f1⟩

theorem dec_drop (l : Bs) (pos : Nat) : Utf8.decode ⟨l.toArray⟩ pos = Lib.decodeL (l.drop pos) := by
  unfold Lib.decodeL
  rw [Lib.decode_at, Lib.decode_at]
  have hg : ∀ j, (⟨l.toArray⟩ : ByteArray).get! (pos + j) = (⟨(l.drop pos).toArray⟩ : ByteArray).get! j := fun j => by
    simp [ByteArray.get!]
  have hs : (⟨l.toArray⟩ : ByteArray).size - pos = (⟨(l.drop pos).toArray⟩ : ByteArray).size - 0 := by
    show l.toArray.size - pos = (l.drop pos).toArray.size - 0
    simp
  have h0 := hg 0
  rw [Nat.add_zero] at h0
  rw [hs, h0, hg 1, hg 2, hg 3]

/-- The runes of a text. -/
def runesGo : Nat → Bs → List Nat
  | 0, _ => []
  | f + 1, l => if l = [] then [] else (Lib.decodeL l).1 :: runesGo f (l.drop (Lib.decodeL l).2)
def runesP (l : Bs) : List Nat := runesGo l.length l
theorem runesGo_fuel : ∀ (n m : Nat) (l : Bs), l.length ≤ n → l.length ≤ m → runesGo n l = runesGo m l
  | 0, m, l, hn, _ => by
    obtain rfl : l = [] := List.eq_nil_of_length_eq_zero (by omega)
    cases m <;> simp [runesGo]
  | n + 1, 0, l, _, hm => by
    obtain rfl : l = [] := List.eq_nil_of_length_eq_zero (by omega)
    simp [runesGo]
  | n + 1, m + 1, l, hn, hm => by
    have hw := Lib.decodeL_width l
    unfold runesGo
    by_cases h : l = []
    · simp [h]
    · have hl : 0 < l.length := List.length_pos_iff.2 h
      rw [if_neg h, if_neg h, runesGo_fuel n m _ (by simp; omega) (by simp; omega)]
theorem runesP_step {l : Bs} (h : l ≠ []) : runesP l = (Lib.decodeL l).1 :: runesP (l.drop (Lib.decodeL l).2) := by
  have hw := Lib.decodeL_width l
  have hl : 0 < l.length := List.length_pos_iff.2 h
  obtain ⟨n, hn⟩ : ∃ n, l.length = n + 1 := ⟨l.length - 1, by omega⟩
  unfold runesP
  rw [hn, runesGo, if_neg h, runesGo_fuel n _ _ (by simp; omega) (Nat.le_refl _)]
theorem valid_drop {l : Bs} (h : l ≠ []) (hv : ¬ ((Lib.decodeL l).1 = 65533 ∧ (Lib.decodeL l).2 = 1)) : Lib.validD l = Lib.validD (l.drop (Lib.decodeL l).2) := by
  rw [Lib.validD_step l h, if_neg hv]
theorem decN_repl (n b0 b1 b2 b3 : Nat) (_h0 : b0 < 256) (_h1 : b1 < 256) (_h2 : b2 < 256) (_h3 : b3 < 256) (hd : (Lib.decodeN n b0 b1 b2 b3).1 = 65533) :
    (Lib.decodeN n b0 b1 b2 b3).2 = 1 ↔ ¬ (2 < n ∧ b0 = 239 ∧ b1 = 191 ∧ b2 = 189) := by
  unfold Lib.decodeN at hd ⊢
  by_cases c1 : b0 < 128
  · rw [if_pos c1] at hd; simp only at hd; omega
  rw [if_neg c1] at hd ⊢
  by_cases c2 : b0 / 32 = 6 ∧ (1 < n ∧ b1 / 64 = 2)
  · rw [if_pos c2] at hd ⊢
    by_cases d : b0 % 32 * 64 + b1 % 64 ≥ 128
    · rw [if_pos d] at hd; simp only at hd; omega
    · rw [if_neg d]; simp only [true_iff]; omega
  rw [if_neg c2] at hd ⊢
  by_cases c3 : b0 / 16 = 14 ∧ (1 < n ∧ b1 / 64 = 2) ∧ (2 < n ∧ b2 / 64 = 2)
  · rw [if_pos c3] at hd ⊢
    by_cases d : b0 % 16 * 4096 + b1 % 64 * 64 + b2 % 64 ≥ 2048 ∧ (b0 % 16 * 4096 + b1 % 64 * 64 + b2 % 64 < 55296 ∨ (57344 ≤ b0 % 16 * 4096 + b1 % 64 * 64 + b2 % 64 ∧ b0 % 16 * 4096 + b1 % 64 * 64 + b2 % 64 ≤ 1114111))
    · rw [if_pos d] at hd ⊢; simp only at hd ⊢; constructor
      · intro h; omega
      · intro h; exfalso; apply h; omega
    · rw [if_neg d]; simp only [true_iff]; omega
  rw [if_neg c3] at hd ⊢
  by_cases c4 : b0 / 8 = 30 ∧ (1 < n ∧ b1 / 64 = 2) ∧ (2 < n ∧ b2 / 64 = 2) ∧ (3 < n ∧ b3 / 64 = 2)
  · rw [if_pos c4] at hd ⊢
    by_cases d : b0 % 8 * 262144 + b1 % 64 * 4096 + b2 % 64 * 64 + b3 % 64 ≥ 65536 ∧ (b0 % 8 * 262144 + b1 % 64 * 4096 + b2 % 64 * 64 + b3 % 64 < 55296 ∨ (57344 ≤ b0 % 8 * 262144 + b1 % 64 * 4096 + b2 % 64 * 64 + b3 % 64 ∧ b0 % 8 * 262144 + b1 % 64 * 4096 + b2 % 64 * 64 + b3 % 64 ≤ 1114111))
    · rw [if_pos d] at hd; simp only at hd; omega
    · rw [if_neg d]; simp only [true_iff]; omega
  rw [if_neg c4]; simp only [true_iff]; omega
theorem pre_iff (l : Bs) : Lib.hasPrefix l [239, 191, 189] = true ↔ (2 < (⟨l.toArray⟩ : ByteArray).size - 0 ∧ ((⟨l.toArray⟩ : ByteArray).get! 0).toNat = 239 ∧ ((⟨l.toArray⟩ : ByteArray).get! (0 + 1)).toNat = 191 ∧ ((⟨l.toArray⟩ : ByteArray).get! (0 + 2)).toNat = 189) := by
  have e : ∀ (c : UInt8) (n : Nat) (hn : n < 256), c.toNat = n ↔ c = n.toUInt8 := fun c n hn => by
    constructor
    · intro h; rw [← h]; simp
    · intro h; subst h; simp; omega
  have hz : (⟨l.toArray⟩ : ByteArray).size = l.length := by show l.toArray.size = _; simp
  rw [hz]
  match l with
  | [] => simp [Lib.hasPrefix]
  | [a] => simp [Lib.hasPrefix, List.isPrefixOf]
  | [a, b] => simp [Lib.hasPrefix, List.isPrefixOf]
  | a :: b :: c :: r =>
    simp only [ByteArray.get!, Lib.hasPrefix, List.isPrefixOf]
    rw [e _ 239 (by omega), e _ 191 (by omega), e _ 189 (by omega)]
    simp
    constructor
    · rintro ⟨rfl, rfl, rfl⟩; simp
    · rintro ⟨h1, h2, h3⟩; exact ⟨h1.symm, h2.symm, h3.symm⟩
/-- The replacement rune: as it is, or for a byte that is none. -/
theorem repl_iff {l : Bs} (hd : (Lib.decodeL l).1 = 65533) : (Lib.decodeL l).2 = 1 ↔ Lib.hasPrefix l [239, 191, 189] = false := by
  unfold Lib.decodeL at hd ⊢
  rw [Lib.decode_at] at hd ⊢
  rw [decN_repl _ _ _ _ _ (UInt8.toNat_lt _) (UInt8.toNat_lt _) (UInt8.toNat_lt _) (UInt8.toNat_lt _) hd, ← pre_iff]
  simp

theorem Fr.iterAt {S : Nat → Prop} {a w : World} (h : Fr S a w) {k : Nat} (hk : a.heap.size ≤ k) (s : ByteArray) (pos : Nat) : Fr S a (w.iterAt k s pos) :=
  ⟨h.os, h.tape, h.output, by rw [Lib.iterAt_size]; exact h.size, fun i hi hn => (Lib.iterAt_other w k i s pos (by omega)).trans (h.block i hi hn)⟩

theorem Fr.iterO (w : World) (k : Nat) (s : ByteArray) (pos : Nat) : Fr (Only k) w (w.iterAt k s pos) :=
  ⟨rfl, rfl, rfl, by rw [Lib.iterAt_size]; exact Nat.le_refl _, fun i _ hn => Lib.iterAt_other w k i s pos hn⟩
/-- A row of the call's own stands where only an older block turns. -/
theorem own_only {w w' : World} {base k : Nat} {e : TypeId} {size : Nat} {v : Value} {n : Nat} {xs : List Value} (ho : w.ownsRow base e size v n xs) (f : Fr (Only k) w w') (hk : k < base) : w'.ownsRow base e size v n xs :=
  f.row ho (fun g hg e => by have h1 : g = k := e; have := (ho.lt g hg).1; omega)
theorem own_noB {w w' : World} {base : Nat} {e : TypeId} {size : Nat} {v : Value} {n : Nat} {xs : List Value} (ho : w.ownsRow base e size v n xs) (f : Fr NoB w w') : w'.ownsRow base e size v n xs :=
  f.row ho (fun _ _ e => e)

theorem own_base {w : World} {base base' : Nat} {e : TypeId} {size : Nat} {v : Value} {n : Nat} {xs : List Value} (ho : w.ownsRow base e size v n xs) (hb : base' ≤ base) : w.ownsRow base' e size v n xs := by
  obtain ⟨h1, h2⟩ := ho
  refine ⟨h1, ?_⟩
  rcases h2 with h2 | ⟨g, cap, cur, hv, hg, r⟩
  · exact Or.inl h2
  · exact Or.inr ⟨g, cap, cur, hv, by omega, r⟩

theorem info_rune : (Tryz.prog.info? 21).map (fun i => (i.zero, i.size, i.bytes)) = some (some (.int .i32 0), 1, 4) := by kernel_rfl

/-- What runes hands back of a text that is UTF-8. -/
def RunesOk (s : Bs) (w : World) (e : Ending) (w' : World) : Prop :=
  ∃ v, e = .returned (.tuple #[v, .nilIface]) ∧ w'.ownsRow w.heap.size 21 1 v (runesP s).length ((runesP s).map fun n => Value.int .i32 (n : Nat)) ∧ Fr NoB w w'
/-- .. and of another. -/
def RunesNo (w : World) (e : Ending) (w' : World) : Prop :=
  ∃ p : Bs, e = .returned (.tuple #[.slice none 0 0, thereV p 12]) ∧ Fr NoB w w'

set_option maxRecDepth 100000 in
set_option maxHeartbeats 1600000 in
theorem runes_any {B : Nat} (s : Bs) (w : World) (hx : Cx B w) (hs : s.length ≤ 35184372088832) :
    Calls Tryz.prog 46 #[.string ⟨s.toArray⟩] w fun e w' => (Lib.validD s = true → RunesOk s w e w') ∧ (Lib.validD s = false → RunesNo w e w') := by
  obtain ⟨i0, hi, hz0, hz1, hz2⟩ := info_parts info_rune
  have hsz : (⟨s.toArray⟩ : ByteArray).size = s.length := by show s.toArray.size = _; simp
  have Hsz := Lib.hid hsz
  clear hsz
  have hxd := ext_drop s
  go_enter Tryz.func46, Tryz.ntmps46
  go_wp2
  go_loopw [4] (fun v wr => ∃ (pos : Nat) (acc : List Nat), pos ≤ s.length ∧ wr.heap[w.heap.size]? = some (.stringIter ⟨s.toArray⟩ pos) ∧ wr.ownsRow (w.heap.size + 1) 21 1 v acc.length (acc.map fun n => Value.int .i32 (n : Nat)) ∧ Fr NoB w wr ∧ Hid (Lib.validD s = Lib.validD (s.drop pos)) ∧ Hid (acc ++ runesP (s.drop pos) = runesP s) ∧ acc.length ≤ pos) (fun _ wr => s.length - wr.iterPos w.heap.size)
  case atStart =>
    refine ⟨0, [], Nat.zero_le _, World.iter_heap w _ 0, World.ownsRow_nil _ _ _ _, ?_, Lib.hid rfl, Lib.hid rfl, Nat.zero_le _⟩
    exact (Fr.refl _ _).alloc _
  case round =>
    obtain ⟨pos, acc, hpos, hit, hown, hfr, HV, HR, hal⟩ := hrel
    by_cases hp : pos < s.length
    · have hp' : pos < (⟨s.toArray⟩ : ByteArray).size := by rw [Hsz.out]; exact hp
      have hnx : ∀ ty, (Instr.next (.pointer (some ⟨w.heap.size, 0, none⟩)) true ty).run Tryz.prog wr = _ := fun ty => Lib.run_next_any_at wr w.heap.size ⟨s.toArray⟩ pos ty hit hp'
      have hne : s.drop pos ≠ [] := fun e => by have := congrArg List.length e; simp at this; omega
      have hst := runesP_step hne
      have hwd := Lib.decodeL_width (s.drop pos)
      have hrl := Lib.decodeL_rune (s.drop pos)
      have hwl := Lib.decodeL_le (s.drop pos) hne
      simp only [List.length_drop] at hwl
      rw [dec_drop] at hnx
      have hvs := Lib.validD_step (s.drop pos) hne
      have hrp := @repl_iff (s.drop pos)
      generalize hd : Lib.decodeL (s.drop pos) = d at hnx hst hwd hrl hwl hvs hrp
      obtain ⟨r, n⟩ := d
      simp only [List.drop_drop] at hnx hst hwd hrl hwl hvs hrp
      obtain ⟨W1, hW1⟩ : ∃ W1, W1 = wr.iterAt w.heap.size ⟨s.toArray⟩ (pos + n) := ⟨_, rfl⟩
      have hit2 : W1.heap[w.heap.size]? = some (.stringIter ⟨s.toArray⟩ (pos + n)) := by rw [hW1]; exact Lib.iterAt_heap wr w.heap.size _ pos _ hit
      have hown2 := own_only hown (Fr.iterO wr w.heap.size ⟨s.toArray⟩ (pos + n)) (by omega)
      rw [← hW1] at hown2
      have hfr2 : Fr NoB w W1 := by rw [hW1]; exact hfr.iterAt (Nat.le_refl _) _ _
      rw [← hW1] at hnx
      have hsz1 : w.heap.size < W1.heap.size := (Array.getElem?_eq_some_iff.1 hit2).1
      have HH : Hid (pos < s.length → wr.iterPos w.heap.size = pos) := Lib.hid (fun _ => by simp [World.iterPos, hit])
      clear hW1 hown hfr hit hd hne hp'
      have hbad : r = 65533 → (n = 1 ↔ Lib.hasPrefix (s.drop pos) [239, 191, 189] = false) := hrp
      clear hrp
      by_cases h1 : r = 65533 ∧ n = 1
      · have hpre : Lib.hasPrefix (s.drop pos) [239, 191, 189] = false := (hbad h1.1).1 h1.2
        have hinv : Lib.validD s = false := by rw [HV.out, hvs, if_pos h1]
        obtain ⟨rfl, rfl⟩ := h1
        have Hinv := Lib.hid hinv
        clear hbad hvs hinv hst HR HV
        go_wp2_with (first | (go_at_call 61; ((with_reducible refine (hasPrefix_any (s.drop pos) [239, 191, 189] _).mono ?_); rintro e w2 ⟨rfl, rfl⟩)) | (go_at_call 73; ((with_reducible refine (at_any (B := B) pos 12 _ (hx.fr0 hfr2) (by omega) (by omega)).mono ?_); rintro e w2 ⟨rfl, f2⟩)))
        go_ret2
        refine ⟨fun e => ?_, fun _ => ⟨_, rfl, hfr2.trans f2⟩⟩
        rw [Hinv.out] at e; cases e
      · have hV2 : Hid (Lib.validD s = Lib.validD (s.drop (pos + n))) := Lib.hid (by rw [HV.out, hvs, if_neg h1])
        have hR2 : Hid ((acc ++ [r]) ++ runesP (s.drop (pos + n)) = runesP s) := Lib.hid (by rw [← HR.out, hst]; simp)
        have hgo : ((r : Int) == 65533) = false ∨ (r = 65533 ∧ Lib.hasPrefix (s.drop pos) [239, 191, 189] = true) := by
          by_cases hr : r = 65533
          · right
            refine ⟨hr, ?_⟩
            cases hq : Lib.hasPrefix (s.drop pos) [239, 191, 189]
            · exact absurd ⟨hr, (hbad hr).2 hq⟩ h1
            · rfl
          · left; exact beq_eq_false_iff_ne.2 (by omega)
        clear hbad hvs hst HR HV h1
        rcases hgo with hgo | ⟨hr, hgo⟩
        · go_wp2_with (at_builtin; refine wpList_append_own _ rfl _ _ 78 rfl (w.heap.size + 1) 21 i0 (.int .i32 0) 1 4 Tryz.underlying78 hi hz0 hz1 hz2 rfl (by decide) _ _ _ rfl (own_noB hown2 ((Fr.refl _ _).alloc _)) ⟨W1.heap.size, 0, none⟩ 1 1 [.int .i32 r] rfl rfl (cell_one_new _ _ _) (by intro u hu; rw [List.mem_singleton] at hu; subst hu; rfl) (by unfold maxLen; omega) (by omega) (by simp; omega) ?_; intro v3 w3 hown3 hgrow3 hnil3)
          have hit3 : w3.heap[w.heap.size]? = some (.stringIter ⟨s.toArray⟩ (pos + n)) := by
            rw [hgrow3.block w.heap.size (by simp; omega) (fun e => by have := (hown2.lt _ e.symm).1; omega), Lib.alloc_old _ _ _ hsz1]
            exact hit2
          go_roundw
          case rel =>
            exact ⟨pos + n, acc ++ [r], by omega, hit3, by simpa using hown3, Fr.grown (hfr2.alloc _) hgrow3 (fun j hj hlt => by have := (hown2.lt j hj).1; omega), hV2, hR2, by simp; omega⟩
          case measure =>
            have e1 := HH.out hp
            have e2 : w3.iterPos w.heap.size = pos + n := by simp [World.iterPos, hit3]
            simp only [e1, e2]
            omega
        · subst hr
          go_wp2_with (first | (go_at_call 61; ((with_reducible refine (hasPrefix_any (s.drop pos) [239, 191, 189] _).mono ?_); rintro e w2 ⟨rfl, rfl⟩)) | (at_builtin; refine wpList_append_own _ rfl _ _ 78 rfl (w.heap.size + 1) 21 i0 (.int .i32 0) 1 4 Tryz.underlying78 hi hz0 hz1 hz2 rfl (by decide) _ _ _ rfl (own_noB hown2 ((Fr.refl _ _).alloc _)) ⟨W1.heap.size, 0, none⟩ 1 1 [.int .i32 65533] rfl rfl (cell_one_new _ _ _) (by intro u hu; rw [List.mem_singleton] at hu; subst hu; rfl) (by unfold maxLen; omega) (by omega) (by simp; omega) ?_; intro v3 w3 hown3 hgrow3 hnil3))
          have hit3 : w3.heap[w.heap.size]? = some (.stringIter ⟨s.toArray⟩ (pos + n)) := by
            rw [hgrow3.block w.heap.size (by simp; omega) (fun e => by have := (hown2.lt _ e.symm).1; omega), Lib.alloc_old _ _ _ hsz1]
            exact hit2
          go_roundw
          case rel =>
            exact ⟨pos + n, acc ++ [65533], by omega, hit3, by simpa using hown3, Fr.grown (hfr2.alloc _) hgrow3 (fun j hj hlt => by have := (hown2.lt j hj).1; omega), hV2, hR2, by simp; omega⟩
          case measure =>
            have e1 := HH.out hp
            have e2 : w3.iterPos w.heap.size = pos + n := by simp [World.iterPos, hit3]
            simp only [e1, e2]
            omega
    · obtain rfl : pos = s.length := by omega
      have hp' : ¬ s.length < (⟨s.toArray⟩ : ByteArray).size := by rw [Hsz.out]; omega
      have hnx : ∀ ty, (Instr.next (.pointer (some ⟨w.heap.size, 0, none⟩)) true ty).run Tryz.prog wr = _ := fun ty => Lib.run_next_end_at wr w.heap.size ⟨s.toArray⟩ s.length ty hit hp'
      have hv : Lib.validD s = true := by rw [HV.out, List.drop_length]; rfl
      have hr : acc = runesP s := by have := HR.out; rw [List.drop_length] at this; simpa [runesP, runesGo] using this
      have Hv := Lib.hid hv
      have Hr := Lib.hid hr
      clear hv hr HV HR
      go_wp2_with fail
      go_ret2
      refine ⟨fun _ => ⟨_, rfl, ?_, hfr⟩, fun e => ?_⟩
      · rw [← Hr.out]; exact own_base hown (by omega)
      · rw [Hv.out] at e; cases e

theorem utf8_yes {B : Nat} (s : Bs) (w : World) (hx : Cx B w) (hs : s.length ≤ 35184372088832) (h : Lib.validD s = true) :
    Calls Tryz.prog 51 #[.string ⟨s.toArray⟩] w fun e w' => e = .returned (.bool true) ∧ Fr NoB w w' := by
  have Hv := Lib.hid h
  clear h
  go_enter Tryz.func51, Tryz.ntmps51
  go_wp2_with (go_at_call 46; ((with_reducible refine (runes_any s _ hx hs).mono ?_); rintro e w1 ⟨h1, -⟩; obtain ⟨v, rfl, -, f1⟩ := h1 Hv.out))
  go_ret
  exact ⟨rfl, f1⟩
theorem utf8_no {B : Nat} (s : Bs) (w : World) (hx : Cx B w) (hs : s.length ≤ 35184372088832) (h : Lib.validD s = false) :
    Calls Tryz.prog 51 #[.string ⟨s.toArray⟩] w fun e w' => e = .returned (.bool false) ∧ Fr NoB w w' := by
  have Hv := Lib.hid h
  clear h
  go_enter Tryz.func51, Tryz.ntmps51
  go_wp2_with (go_at_call 46; ((with_reducible refine (runes_any s _ hx hs).mono ?_); rintro e w1 ⟨-, h1⟩; obtain ⟨p, rfl, f1⟩ := h1 Hv.out; unfold thereV))
  go_ret
  exact ⟨rfl, f1⟩
end Go.Proofs.YteeijmfnjcddmaaGreatDoor
