/- JSON, the document's side: check, Check. -/
import Derived.Test.YteeijmfnjcddmaaGreatDoorDl
namespace Go.Proofs.YteeijmfnjcddmaaGreatDoor
open Go.RowKit

mutual
/-- Small enough for the document's rows. -/
def JSd : Jv → Prop
  | .mk _ _ t l ks => t.length ≤ 4398046511104 ∧ l.length ≤ big ∧ ks.length ≤ big ∧ (∀ s ∈ ks, s.length ≤ 4398046511104) ∧ JSds l
def JSds : List Jv → Prop
  | [] => True
  | j :: r => JSd j ∧ JSds r
end
theorem JSds.get : ∀ (l : List Jv), JSds l → ∀ x ∈ l, JSd x
  | [], _, x, hx => by simp at hx
  | j :: r, h, x, hx => by
    simp only [JSds] at h
    rcases List.mem_cons.1 hx with rfl | hx
    · exact h.1
    · exact JSds.get r h.2 x hx
theorem checksD_drop (n : Nat) (l : List Jv) (m : Nat) (h : m < l.length) : checksP n (l.drop m) = if checkP n l[m] = 0 then checksP n (l.drop (m + 1)) else checkP n l[m] := by
  rw [List.drop_eq_getElem_cons h, checksP]
mutual
theorem JSd_of : ∀ j : Jv, szJ j ≤ 8388608 → JSd j
  | .mk k i t l ks, h => by
    have h1 := szL_len l
    have h2 := szK_len ks
    simp only [szJ] at h
    simp only [JSd]
    exact ⟨by omega, by unfold big; omega, by unfold big; omega, fun s hs => by have := szK_mem ks s hs; omega, JSds_of l (by omega)⟩
theorem JSds_of : ∀ l : List Jv, szL l ≤ 8388608 → JSds l
  | [], _ => trivial
  | j :: r, h => by
    simp only [szL] at h
    exact ⟨JSd_of j (by omega), JSds_of r (by omega)⟩
end
/-- What check has to do. -/
def DK (n : Nat) (j : Jv) : Prop := ∀ (S : Nat → Prop) (v : Value) (w : World), (∀ g, S g → g < w.heap.size) → RAt S w j v → JSd j → Calls Tryz.prog 33 #[v, .int .i64 n] w fun e w' => e = .returned (.int .i64 (checkP n j : Int)) ∧ Fr NoB w w'

set_option maxRecDepth 100000 in
set_option maxHeartbeats 6400000 in
theorem rcheck_mk (S : Nat → Prop) (n : Nat) (hn : n ≤ 32) (k i : Int) (t : Bs) (l : List Jv) (ks : List Bs) (la ka : Option Addr) (lc kc : Nat) (w : World) (hS : ∀ g, S g → g < w.heap.size)
    (hkm : InMem S w (.slice ka ks.length kc) ks.length (ks.map sV)) (cs : List Value) (hcs : RCells S w l cs) (hlm : InMem S w (.slice la l.length lc) l.length cs)
    (hsm : t.length ≤ 4398046511104 ∧ l.length ≤ big ∧ ks.length ≤ big ∧ (∀ s ∈ ks, s.length ≤ 4398046511104)) (hsms : JSds l) (hIH : n + 1 ≤ 32 → ∀ x ∈ l, DK (n + 1) x) :
    Calls Tryz.prog 33 #[jV k i t (.slice la l.length lc) (.slice ka ks.length kc), .int .i64 n] w fun e w' => e = .returned (.int .i64 (checkP n (.mk k i t l ks) : Int)) ∧ Fr NoB w w' := by
  have hlb := hsm.2.1
  have hl := hsm.2.1
  unfold big at hl
  have f0 : Fr NoB w (w.alloc (.cells #[.int .i64 k, .int .i64 i, .string ⟨t.toArray⟩, .slice la l.length lc, .slice ka ks.length kc] 25)) := (Fr.refl _ _).alloc _
  have g0 := Blk.new w 25 #[.int .i64 k, .int .i64 i, .string ⟨t.toArray⟩, .slice la l.length lc, .slice ka ks.length kc]
  generalize hW : w.alloc (.cells #[.int .i64 k, .int .i64 i, .string ⟨t.toArray⟩, .slice la l.length lc, .slice ka ks.length kc] 25) = W at f0 g0
  have HW := Lib.hid hW
  have HB : Hid (∀ u, Fr NoB W u → u.cell? ⟨w.heap.size, 3, none⟩ = some (.slice la l.length lc)) := Lib.hid (fun u f => ((f.blk g0 (fun e => e)).cell 3).trans rfl)
  have c0 : W.cell? ⟨w.heap.size, 0, none⟩ = some (.int .i64 k) := (g0.cell 0).trans rfl
  have HQ : Hid (checkP n (.mk k i t l ks) = if nestK k && !(decide ((n : Int) < 32)) then 91 else if formP k i t l.length ks then checksP (n + 1) l else 93) := Lib.hid (by rw [checkP])
  generalize checkP n (.mk k i t l ks) = q at HQ ⊢
  have HIH := Lib.hid hIH
  have Hlv := Lib.hid (And.intro hcs hlm)
  have HS := Lib.hid hS
  have HSS : Hid (∀ x ∈ l, JSd x) := Lib.hid (JSds.get l hsms)
  have HF : Hid (∀ u, Fr NoB w u → Calls Tryz.prog 53 #[jV k i t (.slice la l.length lc) (.slice ka ks.length kc)] u fun e w' => e = .returned (.bool (formP k i t l.length ks)) ∧ Fr NoB u w') := Lib.hid (fun u f => rform_any S k i t l.length ks la ka lc kc u (fun g hg => Nat.lt_of_lt_of_le (hS g hg) f.size) hlb (hkm.fr (fun g hg => f.block g (hS g hg) (fun e => e))) hsm.2.2.1 ⟨hsm.1, hsm.2.2.2⟩)
  clear hW hIH hcs hlm hS hsms hkm hsm
  go_enter Tryz.func33, Tryz.ntmps33
  go_upto_region 1 with (rw [HW.out])
  go_cut [18] (fun v wx => v = .bool (nestK k && !(decide ((n : Int) < 32))) ∧ W = wx)
  case first =>
    by_cases hn2 : (n : Int) < 32
    · have hn3 : ¬ (32 : Int) ≤ n := by omega
      cases h5 : (k == 5)
      · cases h6 : (k == 6)
        · go_wp2_with fail
          go_meet
          exact ⟨by simp [nestK, h5, h6], rfl⟩
        · go_wp2_with fail
          go_meet
          exact ⟨by simp [nestK, h5, h6, hn2], rfl⟩
      · go_wp2_with fail
        go_meet
        exact ⟨by simp [nestK, h5, hn2], rfl⟩
    · have hn3 : (32 : Int) ≤ n := by omega
      cases h5 : (k == 5)
      · cases h6 : (k == 6)
        · go_wp2_with fail
          go_meet
          exact ⟨by simp [nestK, h5, h6], rfl⟩
        · go_wp2_with fail
          go_meet
          exact ⟨by simp [nestK, h5, h6]; omega, rfl⟩
      · go_wp2_with fail
        go_meet
        exact ⟨by simp [nestK, h5]; omega, rfl⟩
  case rest =>
    obtain ⟨rfl, rfl⟩ := hcut
    cases hA : (nestK k && !(decide ((n : Int) < 32))) with
    | true =>
      have e : q = 91 := by rw [HQ.out, hA]; rfl
      clear hA
      go_wp2_with fail
      go_ret
      exact ⟨by rw [e]; rfl, f0⟩
    | false =>
      have HA := Lib.hid hA
      clear hA
      cases hfm : formP k i t l.length ks with
      | false =>
        have e : q = 93 := by rw [HQ.out, HA.out, hfm]; rfl
        rw [hfm] at HF
        clear hfm
        go_wp2_with (first | (refine wpList_load_row rfl 25 _ rfl w.heap.size rfl 25 _ _ _ g0 Tryz.underlying25 rfl size_json ?_) | (go_at_call 53; ((with_reducible refine (HF.out _ f0).mono ?_); rintro e w2 ⟨rfl, f2⟩)))
        go_ret
        exact ⟨by rw [e]; rfl, f0.trans f2⟩
      | true =>
        have HQL : Hid (q = checksP (n + 1) l) := Lib.hid (by rw [HQ.out, HA.out, hfm]; rfl)
        have HCK : Hid (∀ x ∈ l, DK (n + 1) x) := Lib.hid (fun x hxm => by
          refine HIH.out ?_ x hxm
          have e0 := HA.out
          have hne : ¬ (l.length : Int) = 0 := by intro h0; have : l = [] := List.eq_nil_of_length_eq_zero (by omega); subst this; simp at hxm
          have hns : nestK k = true := by
            have := hfm
            unfold formP at this
            simp only [Bool.and_eq_true] at this
            have := this.1.1.1.1.2
            rw [decide_eq_false hne, Bool.or_false] at this
            exact this
          rw [hns] at e0
          have : (n : Int) < 32 := by simpa using e0
          omega)
        rw [hfm] at HF
        clear hfm HQ HIH
        go_wp2_with (first | (refine wpList_load_row rfl 25 _ rfl w.heap.size rfl 25 _ _ _ g0 Tryz.underlying25 rfl size_json ?_) | (go_at_call 53; ((with_reducible refine (HF.out _ f0).mono ?_); rintro e w2 ⟨rfl, f2⟩)))
        go_loopw [5] (fun v wr => ∃ m : Nat, m ≤ l.length ∧ v = .int .i64 m ∧ Fr NoB W wr ∧ Hid (q = checksP (n + 1) (l.drop m))) (fun v _ => l.length - (intOf v).toNat)
        case atStart => exact ⟨0, Nat.zero_le _, rfl, f2, HQL⟩
        case round =>
          obtain ⟨m, hm, rfl, hf, HD⟩ := hrel
          have d3 := HB.out _ hf
          by_cases hlt : m < l.length
          · have k1 : (0 : Int) ≤ m := by omega
            have k2 : (m : Int) < l.length := by omega
            obtain ⟨hcs, hlm⟩ := Hlv.out
            obtain ⟨ga, oa, rfl, hcell⟩ := hlm.inS HS.out (f0.trans hf) (by omega)
            obtain ⟨v0, v1, v2, v3, v4, p0, p1, p2, p3, p4, hat⟩ := RCells.get l cs m hlt hcs
            have e0 : wr.cell? ⟨ga, oa + m * 5, none⟩ = some v0 := hcell _ _ p0
            have e1 : wr.cell? ⟨ga, oa + m * 5 + 1, none⟩ = some v1 := hcell _ _ p1
            have e2 : wr.cell? ⟨ga, oa + m * 5 + 2, none⟩ = some v2 := hcell _ _ p2
            have e3 : wr.cell? ⟨ga, oa + m * 5 + 3, none⟩ = some v3 := hcell _ _ p3
            have e4 : wr.cell? ⟨ga, oa + m * 5 + 4, none⟩ = some v4 := hcell _ _ p4
            have HC : Hid (Calls Tryz.prog 33 #[.agg #[v0, v1, v2, v3, v4], .int .i64 ((n : Int) + 1)] wr fun e w' => e = .returned (.int .i64 (checkP (n + 1) l[m] : Int)) ∧ Fr NoB wr w') := Lib.hid (by
              have := HCK.out l[m] (List.getElem_mem hlt) S _ wr (fun g hg => Nat.lt_of_lt_of_le (HS.out g hg) (f0.trans hf).size) (RAt.fr (fun g hg => (f0.trans hf).block g (HS.out g hg) (fun e => e)) _ _ hat) (HSS.out _ (List.getElem_mem hlt))
              simpa using this)
            have hdr := checksD_drop (n + 1) l m hlt
            rw [← HD.out] at hdr
            clear hcell p0 p1 p2 p3 p4 hat hcs hlm HD HQL
            generalize checkP (n + 1) l[m] = z at hdr HC
            by_cases hz : z = 0
            · subst hz
              rw [if_pos rfl] at hdr
              have HDR := Lib.hid hdr
              clear hdr
              go_wp2_with (go_at_call 33; ((with_reducible refine HC.out.mono ?_); rintro e w2 ⟨rfl, f3⟩))
              go_roundw
              case rel => exact ⟨m + 1, by omega, by simp, hf.trans f3, HDR⟩
              case measure => simp [intOf]; omega
            · rw [if_neg hz] at hdr
              have HDR := Lib.hid hdr
              have hzb : ((z : Int) != 0) = true := by simp; omega
              clear hdr hz
              go_wp2_with (go_at_call 33; ((with_reducible refine HC.out.mono ?_); rintro e w2 ⟨rfl, f3⟩))
              go_ret
              exact ⟨by rw [HDR.out]; rfl, (f0.trans hf).trans f3⟩
          · obtain rfl : m = l.length := by omega
            have e : q = 0 := by rw [HD.out, List.drop_length]; simp [checksP]
            go_wp2_with fail
            go_ret
            exact ⟨by rw [e]; rfl, f0.trans hf⟩
mutual
theorem DK_all : ∀ (j : Jv) (n : Nat), n ≤ 32 → DK n j
  | .mk k i t l ks, n, hn => by
    intro S v w hS hat hsm
    simp only [RAt] at hat
    obtain ⟨lv, kv, rfl, h2, h3, h4, h5, h6, cs, h7, h8⟩ := hat
    obtain ⟨la, lc, rfl⟩ := h8.sl
    obtain ⟨ka, kc, rfl⟩ := h5.1.sl
    simp only [JSd] at hsm
    exact rcheck_mk S n hn k i t l ks la ka lc kc w hS h5.1 cs h7 h8 ⟨hsm.1, hsm.2.1, hsm.2.2.1, hsm.2.2.2.1⟩ hsm.2.2.2.2 (fun hn' => DKs_all l (n + 1) hn')
theorem DKs_all : ∀ (l : List Jv) (n : Nat), n ≤ 32 → ∀ x ∈ l, DK n x
  | [], _, _, x, hx => absurd hx (by simp)
  | j :: r, n, hn, x, hx => by
    cases hx with
    | head => exact DK_all j n hn
    | tail _ h => exact DKs_all r n hn x h
end
set_option maxRecDepth 100000 in
/-- The document's Check. -/
theorem rCheck_any (S : Nat → Prop) (j : Jv) (v : Value) (w : World) (hS : ∀ g, S g → g < w.heap.size) (hat : RAt S w j v) (hsm : JSd j) :
    Calls Tryz.prog 14 #[v] w fun e w' => e = .returned (.int .i64 (checkP 0 j : Int)) ∧ Fr NoB w w' := by
  obtain ⟨v0, v1, v2, v3, v4, rfl, h1c⟩ : ∃ v0 v1 v2 v3 v4, v = .agg #[v0, v1, v2, v3, v4] ∧ ∀ u ∈ [v0, v1, v2, v3, v4], u.oneCell' = true := by
    cases j with
    | mk k i t l ks =>
      have h0 := hat
      simp only [RAt] at hat
      obtain ⟨lv, kv, rfl, _⟩ := hat
      exact ⟨_, _, _, _, _, rfl, h0.one⟩
  have f0 : Fr NoB w (w.alloc (.cells #[v0, v1, v2, v3, v4] 25)) := (Fr.refl _ _).alloc _
  have g0 := Blk.new w 25 #[v0, v1, v2, v3, v4]
  have HC : Hid (Calls Tryz.prog 33 #[.agg #[v0, v1, v2, v3, v4], .int .i64 0] (w.alloc (.cells #[v0, v1, v2, v3, v4] 25)) fun e w' => e = .returned (.int .i64 (checkP 0 j : Int)) ∧ Fr NoB (w.alloc (.cells #[v0, v1, v2, v3, v4] 25)) w') := Lib.hid (DK_all j 0 (by omega) S (.agg #[v0, v1, v2, v3, v4]) (w.alloc (.cells #[v0, v1, v2, v3, v4] 25)) (fun g hg => Nat.lt_of_lt_of_le (hS g hg) f0.size) (RAt.fr (fun g hg => f0.block g (hS g hg) (fun e => e)) j _ hat) hsm)
  clear hS hat hsm h1c
  go_enter Tryz.func14, Tryz.ntmps14
  go_wp2_with (first | (refine wpList_load_row rfl 25 _ rfl w.heap.size rfl 25 _ _ _ g0 Tryz.underlying25 rfl size_json ?_) | (go_at_call 33; ((with_reducible refine HC.out.mono ?_); rintro e w2 ⟨rfl, f3⟩)))
  go_ret
  exact ⟨rfl, f0.trans f3⟩
end Go.Proofs.YteeijmfnjcddmaaGreatDoor
