/- JSON: laid: a value's form, written. -/
import Derived.Test.YteeijmfnjcddmaaGreatDoorLr
namespace Go.Proofs.YteeijmfnjcddmaaGreatDoor
open Go.RowKit

theorem quoteP_len (s : Bs) : s.length + 2 ≤ (quoteP s).length := by
  have : ∀ s : Bs, s.length ≤ (s.flatMap quoteC).length := by
    intro s
    induction s with
    | nil => simp
    | cons c r ih =>
      have h1 : 1 ≤ (quoteC c).length := by
        unfold quoteC; repeat' split
        all_goals simp
      simp only [List.flatMap_cons, List.length_append, List.length_cons]; omega
  have := this s
  simp only [quoteP, List.length_cons, List.length_append, List.length_nil]; omega

set_option maxRecDepth 100000 in
set_option maxHeartbeats 6400000 in
theorem laid_nest {B : Nat} (obj : Bool) (k : Int) (hk : k = if obj then 6 else 5) (S : Nat → Prop) (i : Int) (t : Bs) (l : List Jv) (ks : List Bs) (la : Option Addr) (lc : Nat) (ka : Option Addr) (kc : Nat) (w : World) (Bb b : Nat) (acc : Bs) (hx : Cx B w) (hBb : B ≤ Bb) (hBw : Bb ≤ w.heap.size) (hS : ∀ g, S g → g < Bb)
    (hkv : InMem S w (.slice ka ks.length kc) ks.length (ks.map sV)) (cs : List Value) (hcs : RCells S w l cs) (hlm : InMem S w (.slice la l.length lc) l.length cs) (hkk : obj = true → ks.length = l.length ∧ ks.Nodup) (hbd : Bd w Bb b acc)
    (its : List Bs) (hits : its = itemsL obj ks (laysP l)) (hlen : acc.length + (joinC its).length + 2 ≤ lim) (hIH : ∀ x ∈ l, LD x) (hfit : ∀ x ∈ l, ∃ n, checkP n x = 0) :
    Calls Tryz.prog 34 #[.pointer (some ⟨b, 0, none⟩), jV k i t (.slice la l.length lc) (.slice ka ks.length kc)] w fun e w' => e = .returned (.tuple #[]) ∧ Bd w' Bb b (acc ++ ((if obj then 123 else 91) :: (joinC its ++ [if obj then 125 else 93]))) ∧ Wts b w w' := by
  have hil : its.length = l.length := by rw [hits, itemsL_len, laysP_len]
  have hnl := joinC_len its
  unfold lim at hlen
  have f0 : Fr NoB w (w.alloc (.cells #[.int .i64 k, .int .i64 i, .string ⟨t.toArray⟩, .slice la l.length lc, .slice ka ks.length kc] 25)) := (Fr.refl _ _).alloc _
  have g0 := Blk.new w 25 #[.int .i64 k, .int .i64 i, .string ⟨t.toArray⟩, .slice la l.length lc, .slice ka ks.length kc]
  have t0 : Wts b w _ := (Wts.refl b w).noB f0 hbd.lt
  have bd0 := hbd.keep f0 (fun _ _ e => e)
  have far0 := hbd.far f0 (Nat.le_refl _)
  have hB0 : Bb ≤ (w.alloc (.cells #[.int .i64 k, .int .i64 i, .string ⟨t.toArray⟩, .slice la l.length lc, .slice ka ks.length kc] 25)).heap.size := Nat.le_trans hBw f0.size
  generalize hW : w.alloc (.cells #[.int .i64 k, .int .i64 i, .string ⟨t.toArray⟩, .slice la l.length lc, .slice ka ks.length kc] 25) = W at *
  have HW := Lib.hid hW
  have c0 : W.cell? ⟨w.heap.size, 0, none⟩ = some (.int .i64 k) := (g0.cell 0).trans rfl
  clear hW
  -- the opening bracket
  have HB : Hid (∀ x : Int, x = (if obj then 123 else 91) → Calls Tryz.prog 45 #[.pointer (some ⟨b, 0, none⟩), .int .u8 x] W fun e w1 => e = .returned .nilIface ∧ Hid (Bd w1 Bb b (acc ++ [if obj then 123 else 91]) ∧ Wts b W w1) ∧ Blk w1 w.heap.size 25 #[.int .i64 k, .int .i64 i, .string ⟨t.toArray⟩, .slice la l.length lc, .slice ka ks.length kc]) := Lib.hid (fun x hxx => by
    subst hxx
    have h := writeByte_x Bb b acc (if obj then 123 else 91) W bd0 (by omega) hB0
    have e1 : ((if obj then (123 : UInt8) else 91).toNat : Int) = if obj then 123 else 91 := by cases obj <;> rfl
    rw [e1] at h
    exact h.mono (fun e w1 ⟨h1, h2, h3⟩ => ⟨h1, Lib.hid ⟨h2, h3⟩, h3.fr.blk g0 far0⟩))
  have HO : Hid (∀ w1, Bd w1 Bb b (acc ++ [if obj then 123 else 91]) ∧ Wts b W w1 → Calls Tryz.prog 57 #[jV k i t (.slice la l.length lc) (.slice ka ks.length kc)] w1 fun e w' => ∃ g, e = .returned (.slice (some ⟨g, 0, none⟩) l.length l.length) ∧ Hid (w1.heap.size ≤ g ∧ Blk w' g 3 ((orderP (k == 6) ks l.length).map iV).toArray ∧ Fr NoB w1 w')) := Lib.hid (fun w1 ⟨h1, h2⟩ => by
    refine (order_any S k i t l.length ks la lc _ w1 (fun g hg => ?_) (hkv.fr (fun g hg => ?_)) (by unfold big; omega) (fun e => hkk (by cases obj <;> simp_all))).mono (fun e w' ⟨g, h3, h4, h5, h6⟩ => ⟨g, h3, Lib.hid ⟨h4, h5, h6⟩⟩)
    · have := hS g hg; have := h2.fr.size; omega
    · rw [bd0.low h2 hB0 (hS g hg)]
      exact f0.block g (by have := hS g hg; omega) (fun e => e))
  have key : Hid (∀ w1 g w2, Bd w1 Bb b (acc ++ [if obj then 123 else 91]) ∧ Wts b W w1 → w1.heap.size ≤ g ∧ Blk w2 g 3 ((orderP (k == 6) ks l.length).map iV).toArray ∧ Fr NoB w1 w2 →
      Bd w2 Bb b (acc ++ [if obj then 123 else 91]) ∧ Wts b w w2 ∧ ∀ u, Wts b w2 u → u.cell? ⟨w.heap.size, 0, none⟩ = some (.int .i64 k) ∧ u.cell? ⟨w.heap.size, 3, none⟩ = some (.slice la l.length lc) ∧ u.cell? ⟨w.heap.size, 4, none⟩ = some (.slice ka ks.length kc) ∧
        Blk u g 3 ((orderP obj ks l.length).map iV).toArray ∧ (∀ x, x < Bb → u.heap[x]? = w.heap[x]?) ∧ Cx B u ∧ Bb ≤ u.heap.size) := Lib.hid (fun w1 g w2 ⟨h1, h2⟩ ⟨h3, h4, h5⟩ => by
    have ek : (k == 6) = obj := by cases obj <;> simp [hk]
    rw [ek] at h4
    have nvb : ¬ BdS b w1 w.heap.size := h2.not g0.lt far0
    have nvb2 : ¬ BdS b w2 w.heap.size := fun e => nvb (e.same (h5.block b h1.lt (fun e => e)))
    have ng := h1.far h5 h3
    have b2 := h1.keep h5 (fun _ _ e => e)
    have t2 : Wts b w w2 := (t0.trans h2).noB h5 h1.lt
    refine ⟨b2, t2, fun u hu => ?_⟩
    have gu := hu.fr.blk (h5.blk (h2.fr.blk g0 far0) (fun e => e)) nvb2
    have hB2 : Bb ≤ w2.heap.size := Nat.le_trans hBw t2.fr.size
    refine ⟨(gu.cell 0).trans rfl, (gu.cell 3).trans rfl, (gu.cell 4).trans rfl, hu.fr.blk h4 ng, fun x hx => ?_, b2.cx (hbd.cx hx t2 hBb) hu hBb, Nat.le_trans hB2 hu.fr.size⟩
    rw [b2.low hu hB2 hx, hbd.low t2 hBw hx])
  have HBD0 := Lib.hid hbd
  clear hbd bd0 far0 f0 t0
  cases obj with
  | false =>
    simp only [Bool.false_eq_true, if_false] at *
    subst hk
    have HIT : Hid (∀ m (h : m < its.length), ∃ p, p < l.length ∧ (orderP false ks l.length)[m]? = some p ∧ its[m] = memP false ks (laysP l) p) := Lib.hid (fun m h => by
      have h2 : m < (orderP false ks l.length).length := by rw [orderP_len]; omega
      refine ⟨(orderP false ks l.length)[m], orderP_lt (List.getElem_mem h2), List.getElem?_eq_getElem h2, ?_⟩
      subst hits
      simp only [itemsL, List.getElem_map, laysP_len])
    have HKK := Lib.hid hkk
    have HKV := Lib.hid hkv
    have HLV := Lib.hid (And.intro hcs hlm)
    have HIH := Lib.hid hIH
    have HFIT := Lib.hid hfit
    clear hits hkk hkv hcs hlm hIH hfit
    go_enter Tryz.func34, Tryz.ntmps34
    go_wp2_with (first | (go_at_call 45; (rw [HW.out]; (refine (HB.out _ (by first | rfl | decide)).mono ?_); rintro e w1 ⟨rfl, H1, G1⟩)) | (refine wpList_load_row rfl 25 _ rfl w.heap.size rfl 25 _ _ _ G1 Tryz.underlying25 rfl size_json ?_) | (go_at_call 57; ((with_reducible refine (HO.out _ H1.out).mono ?_); rintro e w2 ⟨g, rfl, H2⟩)))
    have HKY := Lib.hid (key.out w1 g w2 H1.out H2.out)
    clear key HO HB H1 H2 G1 g0 c0 HW
    go_loopw [19] (fun v wr => ∃ m : Nat, m ≤ l.length ∧ v = .int .i64 m ∧ Hid (Bd wr Bb b ((acc ++ [91]) ++ joinC (its.take m))) ∧ Wts b w2 wr) (fun v _ => l.length - (intOf v).toNat)
    case atStart => exact ⟨0, Nat.zero_le _, rfl, Lib.hid (by simpa [joinC] using HKY.out.1), Wts.refl _ _⟩
    case round =>
      obtain ⟨m, hm, rfl, HBd, ht⟩ := hrel
      by_cases hlt : m < l.length
      · obtain ⟨p, hp, ho, hit⟩ := HIT.out m (by omega)
        obtain ⟨_, _, _, hrow, _, _, hBu⟩ := HKY.out.2.2 wr ht
        have hr : wr.cell? ⟨g, m, none⟩ = some (.int .i64 p) := by rw [hrow.cell]; simp [ho]
        have hjn := joinC_take its m (by omega)
        have hle := joinC_le its (m + 1)
        rw [hjn, hit] at hle
        rw [hit] at hjn
        clear hrow ho hit
        simp only [List.length_append] at hle
        have HN : Hid (∀ q, q = (acc ++ [91]) ++ joinC (its.take m) ++ ((if 0 < m then [44] else []) ++ memP false ks (laysP l) p) → q = (acc ++ [91]) ++ joinC (its.take (m + 1))) := Lib.hid (fun q hq => by rw [hjn, hq, List.append_assoc (acc ++ [91])])
        have hA : ((acc ++ [91]) ++ joinC (its.take m)).length = acc.length + 1 + (joinC (its.take m)).length := by simp only [List.length_append, List.length_cons, List.length_nil]
        generalize (acc ++ [91]) ++ joinC (its.take m) = A at HBd HN hA
        clear hjn
        go_upto_if 25 with fail
        go_cut [] (fun wx => Hid (Bd wx Bb b (A ++ (if 0 < m then [44] else []))) ∧ Wts b wr wx)
        case first =>
          by_cases hm0 : m = 0
          · subst hm0
            go_wp2_with fail
            go_meet
            exact ⟨Lib.hid (by simpa using HBd.out), Wts.refl _ _⟩
          · have hm1 : 0 < m := by omega
            have hmi : (0 : Int) < (m : Int) := by omega
            rw [if_pos hm1] at hle
            simp only [List.length_cons, List.length_nil] at hle
            have HC : Hid (Calls Tryz.prog 45 #[.pointer (some ⟨b, 0, none⟩), .int .u8 44] wr fun e w' => e = .returned .nilIface ∧ Bd w' Bb b (A ++ [44]) ∧ Wts b wr w') := Lib.hid (writeByte_x Bb b A 44 wr HBd.out (by omega) hBu)
            clear hle
            go_wp2_with (go_at_call 45; ((with_reducible refine HC.out.mono ?_); rintro e w3 ⟨rfl, h3, t3⟩))
            go_meet
            exact ⟨Lib.hid (by rw [if_pos hm1]; exact h3), t3⟩
        case rest =>
          obtain ⟨HB1, t1⟩ := hcut
          have ht1 := ht.trans t1
          have HN2 : Hid (∀ q, q = A ++ (if 0 < m then [44] else []) ++ memP false ks (laysP l) p → q = (acc ++ [91]) ++ joinC (its.take (m + 1))) := Lib.hid (fun q hq => HN.out q (by rw [hq, List.append_assoc]))
          have hA1 : (A ++ (if 0 < m then [44] else [])).length = acc.length + 1 + (joinC (its.take m)).length + (if 0 < m then [44] else [] : Bs).length := by simp only [List.length_append]; omega
          generalize A ++ (if 0 < m then [44] else []) = A1 at HB1 HN2 hA1
          clear HBd HN hA hr
          have hmem : memP false ks (laysP l) p = layP l[p] := by rw [memP, laysP_get l p hp]; rfl
          rw [hmem] at hle HN2
          have hx1 : l[p] ∈ l := List.getElem_mem hp
          obtain ⟨hcs, hlm⟩ := HLV.out
          rcases hlm with ⟨h0, _⟩ | ⟨gl, ol, cl, he, hgl, hcell⟩
          · omega
          · simp only [Value.slice.injEq, true_and] at he
            obtain ⟨rfl, rfl⟩ := he
            obtain ⟨v0, v1, v2, v3, v4, a0, a1, a2, a3, a4, hat⟩ := RCells.get l cs p hp hcs
            obtain ⟨nn, hnn⟩ := HFIT.out _ hx1
            have hLD : LD l[p] := HIH.out _ hx1
            generalize l[p] = x at *
            have HKN : Hid (∀ u, Wts b w2 u → u.cell? ⟨w.heap.size, 0, none⟩ = some (.int .i64 5) ∧ u.cell? ⟨w.heap.size, 3, none⟩ = some (.slice (some ⟨gl, ol, none⟩) l.length lc) ∧ u.cell? ⟨w.heap.size, 4, none⟩ = some (.slice ka ks.length kc) ∧
                u.cell? ⟨gl, ol + p * 5, none⟩ = some v0 ∧ u.cell? ⟨gl, ol + p * 5 + 1, none⟩ = some v1 ∧ u.cell? ⟨gl, ol + p * 5 + 2, none⟩ = some v2 ∧ u.cell? ⟨gl, ol + p * 5 + 3, none⟩ = some v3 ∧ u.cell? ⟨gl, ol + p * 5 + 4, none⟩ = some v4 ∧ Bb ≤ u.heap.size) := Lib.hid (fun u hu => by
              obtain ⟨k0, k3, k4, _, klow, _, kB⟩ := HKY.out.2.2 u hu
              have cc : ∀ (q : Nat) z, cs[q]? = some z → u.cell? ⟨gl, ol + q, none⟩ = some z := fun q z hz => (World.cell?_of_block (w := w) (a := ⟨gl, ol + q, none⟩) (klow gl (hS gl hgl))).trans (hcell q z hz)
              exact ⟨k0, k3, k4, cc _ _ a0, cc _ _ a1, cc _ _ a2, cc _ _ a3, cc _ _ a4, kB⟩)
            have HLD : Hid (∀ u A2, Wts b w2 u → Bd u Bb b A2 → A2.length + (layP x).length ≤ lim → Calls Tryz.prog 34 #[.pointer (some ⟨b, 0, none⟩), .agg #[v0, v1, v2, v3, v4]] u fun e w' => e = .returned (.tuple #[]) ∧ Bd w' Bb b (A2 ++ layP x) ∧ Wts b u w') := Lib.hid (fun u A2 hu hb hl2 => by
              obtain ⟨_, _, _, _, klow, kx, kB⟩ := HKY.out.2.2 u hu
              exact hLD S _ u Bb b A2 nn kx hBb kB hS (RAt.fr (fun g hg => klow g (hS g hg)) x _ hat) hnn hb hl2)
            clear hLD hat hnn hcell a0 a1 a2 a3 a4 hcs
            obtain ⟨k0, k3, k4, d0, d1, d2, d3, d4, kB⟩ := HKN.out _ ht1
            have HC := Lib.hid (HLD.out _ _ ht1 HB1.out (by unfold lim; omega))
            have HR := Lib.hid (HN2.out _ rfl)
            clear hle hA1 HKN HLD HB1 HN2 hmem
            generalize layP x = X at *
            go_wp2_with (go_at_call 34; ((with_reducible refine HC.out.mono ?_); rintro e w3 ⟨rfl, h3, t3⟩))
            go_roundw
            case rel => exact ⟨m + 1, by omega, by simp, Lib.hid (by rw [← HR.out]; exact h3), ht1.trans t3⟩
            case measure => simp [intOf]; omega
      · obtain rfl : m = l.length := by omega
        have hBu := (HKY.out.2.2 wr ht).2.2.2.2.2.2
        have etk : its.take l.length = its := List.take_of_length_le (by omega)
        rw [etk] at HBd
        have HE : Hid (∀ x : Int, x = 93 → Calls Tryz.prog 45 #[.pointer (some ⟨b, 0, none⟩), .int .u8 x] wr fun e w' => e = .returned .nilIface ∧ Bd w' Bb b ((acc ++ [91]) ++ joinC its ++ [93]) ∧ Wts b wr w') := Lib.hid (fun x hx => by subst hx; exact writeByte_x Bb b _ 93 wr HBd.out (by simp only [List.length_append, List.length_cons, List.length_nil]; omega) hBu)
        clear HBd
        go_wp2_with (go_at_call 45; ((refine (HE.out _ (by first | rfl | decide)).mono ?_); rintro e w3 ⟨rfl, h3, t3⟩))
        go_end0
        exact ⟨rfl, by simpa using h3, (HKY.out.2.1.trans ht).trans t3⟩
  | true =>
    simp only [if_true] at *
    subst hk
    have HIT : Hid (∀ m (h : m < its.length), ∃ p, p < l.length ∧ (orderP true ks l.length)[m]? = some p ∧ its[m] = memP true ks (laysP l) p) := Lib.hid (fun m h => by
      have h2 : m < (orderP true ks l.length).length := by rw [orderP_len]; omega
      refine ⟨(orderP true ks l.length)[m], orderP_lt (List.getElem_mem h2), List.getElem?_eq_getElem h2, ?_⟩
      subst hits
      simp only [itemsL, List.getElem_map, laysP_len])
    have HKK := Lib.hid hkk
    have HKV := Lib.hid hkv
    have HLV := Lib.hid (And.intro hcs hlm)
    have HIH := Lib.hid hIH
    have HFIT := Lib.hid hfit
    clear hits hkk hkv hcs hlm hIH hfit
    go_enter Tryz.func34, Tryz.ntmps34
    go_wp2_with (first | (go_at_call 45; (rw [HW.out]; (refine (HB.out _ (by first | rfl | decide)).mono ?_); rintro e w1 ⟨rfl, H1, G1⟩)) | (refine wpList_load_row rfl 25 _ rfl w.heap.size rfl 25 _ _ _ G1 Tryz.underlying25 rfl size_json ?_) | (go_at_call 57; ((with_reducible refine (HO.out _ H1.out).mono ?_); rintro e w2 ⟨g, rfl, H2⟩)))
    have HKY := Lib.hid (key.out w1 g w2 H1.out H2.out)
    clear key HO HB H1 H2 G1 g0 c0 HW
    go_loopw [19] (fun v wr => ∃ m : Nat, m ≤ l.length ∧ v = .int .i64 m ∧ Hid (Bd wr Bb b ((acc ++ [123]) ++ joinC (its.take m))) ∧ Wts b w2 wr) (fun v _ => l.length - (intOf v).toNat)
    case atStart => exact ⟨0, Nat.zero_le _, rfl, Lib.hid (by simpa [joinC] using HKY.out.1), Wts.refl _ _⟩
    case round =>
      obtain ⟨m, hm, rfl, HBd, ht⟩ := hrel
      by_cases hlt : m < l.length
      · obtain ⟨p, hp, ho, hit⟩ := HIT.out m (by omega)
        obtain ⟨_, _, _, hrow, _, _, hBu⟩ := HKY.out.2.2 wr ht
        have hr : wr.cell? ⟨g, m, none⟩ = some (.int .i64 p) := by rw [hrow.cell]; simp [ho]
        have hjn := joinC_take its m (by omega)
        have hle := joinC_le its (m + 1)
        rw [hjn, hit] at hle
        rw [hit] at hjn
        clear hrow ho hit
        simp only [List.length_append] at hle
        have HN : Hid (∀ q, q = (acc ++ [123]) ++ joinC (its.take m) ++ ((if 0 < m then [44] else []) ++ memP true ks (laysP l) p) → q = (acc ++ [123]) ++ joinC (its.take (m + 1))) := Lib.hid (fun q hq => by rw [hjn, hq, List.append_assoc (acc ++ [123])])
        have hA : ((acc ++ [123]) ++ joinC (its.take m)).length = acc.length + 1 + (joinC (its.take m)).length := by simp only [List.length_append, List.length_cons, List.length_nil]
        generalize (acc ++ [123]) ++ joinC (its.take m) = A at HBd HN hA
        clear hjn
        go_upto_if 25 with fail
        go_cut [] (fun wx => Hid (Bd wx Bb b (A ++ (if 0 < m then [44] else []))) ∧ Wts b wr wx)
        case first =>
          by_cases hm0 : m = 0
          · subst hm0
            go_wp2_with fail
            go_meet
            exact ⟨Lib.hid (by simpa using HBd.out), Wts.refl _ _⟩
          · have hm1 : 0 < m := by omega
            have hmi : (0 : Int) < (m : Int) := by omega
            rw [if_pos hm1] at hle
            simp only [List.length_cons, List.length_nil] at hle
            have HC : Hid (Calls Tryz.prog 45 #[.pointer (some ⟨b, 0, none⟩), .int .u8 44] wr fun e w' => e = .returned .nilIface ∧ Bd w' Bb b (A ++ [44]) ∧ Wts b wr w') := Lib.hid (writeByte_x Bb b A 44 wr HBd.out (by omega) hBu)
            clear hle
            go_wp2_with (go_at_call 45; ((with_reducible refine HC.out.mono ?_); rintro e w3 ⟨rfl, h3, t3⟩))
            go_meet
            exact ⟨Lib.hid (by rw [if_pos hm1]; exact h3), t3⟩
        case rest =>
          obtain ⟨HB1, t1⟩ := hcut
          have ht1 := ht.trans t1
          have HN2 : Hid (∀ q, q = A ++ (if 0 < m then [44] else []) ++ memP true ks (laysP l) p → q = (acc ++ [123]) ++ joinC (its.take (m + 1))) := Lib.hid (fun q hq => HN.out q (by rw [hq, List.append_assoc]))
          have hA1 : (A ++ (if 0 < m then [44] else [])).length = acc.length + 1 + (joinC (its.take m)).length + (if 0 < m then [44] else [] : Bs).length := by simp only [List.length_append]; omega
          generalize A ++ (if 0 < m then [44] else []) = A1 at HB1 HN2 hA1
          clear HBd HN hA hr
          have hmem : memP true ks (laysP l) p = (quoteP (keyAt ks p) ++ [58]) ++ layP l[p] := by rw [memP, laysP_get l p hp]; rfl
          rw [hmem] at hle HN2
          have hx1 : l[p] ∈ l := List.getElem_mem hp
          obtain ⟨hcs, hlm⟩ := HLV.out
          rcases hlm with ⟨h0, _⟩ | ⟨gl, ol, cl, he, hgl, hcell⟩
          · omega
          · simp only [Value.slice.injEq, true_and] at he
            obtain ⟨rfl, rfl⟩ := he
            obtain ⟨v0, v1, v2, v3, v4, a0, a1, a2, a3, a4, hat⟩ := RCells.get l cs p hp hcs
            obtain ⟨nn, hnn⟩ := HFIT.out _ hx1
            have hLD : LD l[p] := HIH.out _ hx1
            generalize l[p] = x at *
            have HKN : Hid (∀ u, Wts b w2 u → u.cell? ⟨w.heap.size, 0, none⟩ = some (.int .i64 6) ∧ u.cell? ⟨w.heap.size, 3, none⟩ = some (.slice (some ⟨gl, ol, none⟩) l.length lc) ∧ u.cell? ⟨w.heap.size, 4, none⟩ = some (.slice ka ks.length kc) ∧
                u.cell? ⟨gl, ol + p * 5, none⟩ = some v0 ∧ u.cell? ⟨gl, ol + p * 5 + 1, none⟩ = some v1 ∧ u.cell? ⟨gl, ol + p * 5 + 2, none⟩ = some v2 ∧ u.cell? ⟨gl, ol + p * 5 + 3, none⟩ = some v3 ∧ u.cell? ⟨gl, ol + p * 5 + 4, none⟩ = some v4 ∧ Bb ≤ u.heap.size) := Lib.hid (fun u hu => by
              obtain ⟨k0, k3, k4, _, klow, _, kB⟩ := HKY.out.2.2 u hu
              have cc : ∀ (q : Nat) z, cs[q]? = some z → u.cell? ⟨gl, ol + q, none⟩ = some z := fun q z hz => (World.cell?_of_block (w := w) (a := ⟨gl, ol + q, none⟩) (klow gl (hS gl hgl))).trans (hcell q z hz)
              exact ⟨k0, k3, k4, cc _ _ a0, cc _ _ a1, cc _ _ a2, cc _ _ a3, cc _ _ a4, kB⟩)
            have HLD : Hid (∀ u A2, Wts b w2 u → Bd u Bb b A2 → A2.length + (layP x).length ≤ lim → Calls Tryz.prog 34 #[.pointer (some ⟨b, 0, none⟩), .agg #[v0, v1, v2, v3, v4]] u fun e w' => e = .returned (.tuple #[]) ∧ Bd w' Bb b (A2 ++ layP x) ∧ Wts b u w') := Lib.hid (fun u A2 hu hb hl2 => by
              obtain ⟨_, _, _, _, klow, kx, kB⟩ := HKY.out.2.2 u hu
              exact hLD S _ u Bb b A2 nn kx hBb kB hS (RAt.fr (fun g hg => klow g (hS g hg)) x _ hat) hnn hb hl2)
            clear hLD hat hnn hcell a0 a1 a2 a3 a4 hcs
            obtain ⟨k0, k3, k4, d0, d1, d2, d3, d4, kB⟩ := HKN.out _ ht1
            obtain ⟨hkl, _⟩ := HKK.out trivial
            rcases HKV.out with ⟨h0, _⟩ | ⟨gk, ok, ck, he, hgk, hck⟩
            · omega
            · simp only [Value.slice.injEq, true_and] at he
              obtain ⟨rfl, rfl⟩ := he
              have hkp : p < ks.length := by omega
              clear hkl
              have eky : keyAt ks p = ks[p] := by simp [keyAt, List.getD, hkp]
              have HKC : Hid (∀ u, Wts b w2 u → u.cell? ⟨gk, ok + p, none⟩ = some (sV (keyAt ks p))) := Lib.hid (fun u hu => by
                obtain ⟨_, _, _, _, klow, _, _⟩ := HKY.out.2.2 u hu
                exact (World.cell?_of_block (w := w) (a := ⟨gk, ok + p, none⟩) (klow gk (hS gk hgk))).trans (hck p _ (by rw [eky, List.getElem?_map, List.getElem?_eq_getElem hkp]; rfl)))
              have dk := HKC.out _ ht1
              have hql := quoteP_len (keyAt ks p)
              simp only [List.length_append, List.length_cons, List.length_nil] at hle
              have HQ := Lib.hid (quoted_any Bb b A1 (keyAt ks p) _ HB1.out (by omega) kB)
              have HC58 : Hid (∀ u, Bd u Bb b (A1 ++ quoteP (keyAt ks p)) → Bb ≤ u.heap.size → Calls Tryz.prog 45 #[.pointer (some ⟨b, 0, none⟩), .int .u8 58] u fun e w' => e = .returned .nilIface ∧ Bd w' Bb b (A1 ++ quoteP (keyAt ks p) ++ [58]) ∧ Wts b u w') := Lib.hid (fun u hb hB => writeByte_x Bb b _ 58 u hb (by simp only [List.length_append]; omega) hB)
              have HLD2 : Hid (∀ u, Wts b w2 u → Bd u Bb b (A1 ++ quoteP (keyAt ks p) ++ [58]) → Calls Tryz.prog 34 #[.pointer (some ⟨b, 0, none⟩), .agg #[v0, v1, v2, v3, v4]] u fun e w' => e = .returned (.tuple #[]) ∧ Bd w' Bb b (A1 ++ quoteP (keyAt ks p) ++ [58] ++ layP x) ∧ Wts b u w') := Lib.hid (fun u hu hb => HLD.out u _ hu hb (by unfold lim; simp only [List.length_append, List.length_cons, List.length_nil]; omega))
              have HR : Hid (A1 ++ quoteP (keyAt ks p) ++ [58] ++ layP x = (acc ++ [123]) ++ joinC (its.take (m + 1))) := Lib.hid (HN2.out _ (by simp only [List.append_assoc]))
              clear hle hA1 HLD HB1 HN2 hmem hql hck eky HKC
              generalize layP x = X at *
              generalize keyAt ks p = key1 at *
              go_wp2_with (first | (go_at_call 56; ((with_reducible refine HQ.out.mono ?_); rintro e w3 ⟨rfl, h3, t3⟩; obtain ⟨k0, k3, k4, d0, d1, d2, d3, d4, kB⟩ := HKN.out _ (ht1.trans t3); have H3 := Lib.hid h3; clear h3)) | (go_at_call 45; ((with_reducible refine (HC58.out _ H3.out kB).mono ?_); rintro e w4 ⟨rfl, h4, t4⟩; obtain ⟨k0, k3, k4, d0, d1, d2, d3, d4, kB⟩ := HKN.out _ ((ht1.trans t3).trans t4); have H4 := Lib.hid h4; clear h4)) | (go_at_call 34; ((with_reducible refine (HLD2.out _ ((ht1.trans t3).trans t4) H4.out).mono ?_); rintro e w5 ⟨rfl, h5, t5⟩)))
              go_roundw
              case rel => exact ⟨m + 1, by omega, by simp, Lib.hid (by rw [← HR.out]; exact h5), ((ht1.trans t3).trans t4).trans t5⟩
              case measure => simp [intOf]; omega
      · obtain rfl : m = l.length := by omega
        have hBu := (HKY.out.2.2 wr ht).2.2.2.2.2.2
        have etk : its.take l.length = its := List.take_of_length_le (by omega)
        rw [etk] at HBd
        have HE : Hid (∀ x : Int, x = 125 → Calls Tryz.prog 45 #[.pointer (some ⟨b, 0, none⟩), .int .u8 x] wr fun e w' => e = .returned .nilIface ∧ Bd w' Bb b ((acc ++ [123]) ++ joinC its ++ [125]) ∧ Wts b wr w') := Lib.hid (fun x hx => by subst hx; exact writeByte_x Bb b _ 125 wr HBd.out (by simp only [List.length_append, List.length_cons, List.length_nil]; omega) hBu)
        clear HBd
        go_wp2_with (go_at_call 45; ((refine (HE.out _ (by first | rfl | decide)).mono ?_); rintro e w3 ⟨rfl, h3, t3⟩))
        go_end0
        exact ⟨rfl, by simpa using h3, (HKY.out.2.1.trans ht).trans t3⟩
end Go.Proofs.YteeijmfnjcddmaaGreatDoor
