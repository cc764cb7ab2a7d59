/- JSON: laid and Text, whole. -/
import Derived.Test.YteeijmfnjcddmaaGreatDoorLs
namespace Go.Proofs.YteeijmfnjcddmaaGreatDoor
open Go.RowKit

mutual
theorem LD_all : ∀ j : Jv, LD j
  | .mk k i t l ks => by
    intro S v w Bb b acc n hx hBb hBw hS hat hck hbd hlen
    simp only [RAt] at hat
    obtain ⟨lv, kv, rfl, hk, hi, ht, hks, hl, cs, hcs, hlm⟩ := hat
    obtain ⟨hform, hchk⟩ := form_of n k i t l ks hck
    obtain ⟨h0, h7, h6⟩ := form_kind hform
    have hIH := LDs_all l
    have hfit : ∀ x ∈ l, ∃ n, checkP n x = 0 := fun x hx => ⟨n + 1, checksP_all _ _ hchk x hx⟩
    obtain ⟨la, lc, rfl⟩ : ∃ a c, lv = .slice a l.length c := by
      rcases hlm with ⟨h0, a, c, rfl⟩ | ⟨g, o, c, rfl, hg, hc⟩
      · exact ⟨a, c, by rw [h0]⟩
      · exact ⟨_, c, rfl⟩
    obtain ⟨ka, kc, rfl⟩ : ∃ a c, kv = .slice a ks.length c := by
      rcases hks.1 with ⟨h0, a, c, rfl⟩ | ⟨g, o, c, rfl, hg, hc⟩
      · exact ⟨a, c, by rw [h0]⟩
      · exact ⟨_, c, rfl⟩
    have hkc : k = 0 ∨ k = 1 ∨ k = 2 ∨ k = 3 ∨ k = 4 ∨ k = 5 ∨ k = 6 := by omega
    rcases hkc with rfl | rfl | rfl | rfl | rfl | rfl | rfl
    · exact laid_leaf 0 i t _ _ w Bb b acc _ hx hBw hi hbd (Or.inl ⟨rfl, by rw [layP]; rfl⟩) hlen
    · exact laid_leaf 1 i t _ _ w Bb b acc _ hx hBw hi hbd (Or.inr (Or.inl ⟨rfl, by rw [layP]; rfl⟩)) hlen
    · exact laid_leaf 2 i t _ _ w Bb b acc _ hx hBw hi hbd (Or.inr (Or.inr (Or.inl ⟨rfl, by rw [layP]; rfl⟩))) hlen
    · exact laid_leaf 3 i t _ _ w Bb b acc _ hx hBw hi hbd (Or.inr (Or.inr (Or.inr (Or.inl ⟨rfl, by rw [layP]; rfl⟩)))) hlen
    · exact laid_leaf 4 i t _ _ w Bb b acc _ hx hBw hi hbd (Or.inr (Or.inr (Or.inr (Or.inr ⟨rfl, by rw [layP]; rfl⟩)))) hlen
    · have e : layP (.mk 5 i t l ks) = 91 :: (joinC (itemsL false ks (laysP l)) ++ [93]) := by rw [layP]; rfl
      rw [e] at hlen ⊢
      exact laid_nest false 5 rfl S i t l ks la lc ka kc w Bb b acc hx hBb hBw hS hks.1 cs hcs hlm (fun h => by cases h) hbd _ rfl (by simp only [List.length_cons, List.length_append, List.length_nil] at hlen; omega) hIH hfit
    · have e : layP (.mk 6 i t l ks) = 123 :: (joinC (itemsL true ks (laysP l)) ++ [125]) := by rw [layP]; rfl
      rw [e] at hlen ⊢
      exact laid_nest true 6 rfl S i t l ks la lc ka kc w Bb b acc hx hBb hBw hS hks.1 cs hcs hlm (fun _ => h6 rfl) hbd _ rfl (by simp only [List.length_cons, List.length_append, List.length_nil] at hlen; omega) hIH hfit
theorem LDs_all : ∀ (l : List Jv), ∀ x ∈ l, LD x
  | [], x, hx => absurd hx (by simp)
  | j :: r, x, hx => by
    cases hx with
    | head => exact LD_all j
    | tail _ h => exact LDs_all r x h
end

set_option maxRecDepth 100000 in
set_option maxHeartbeats 3200000 in
theorem text_any {B : Nat} (S : Nat → Prop) (j : Jv) (v : Value) (w : World) (hx : Cx B w) (hS : ∀ g, S g → g < w.heap.size) (hat : RAt S w j v) (hsm : JSm j) (hl : checkP 0 j = 0 → (layP j).length ≤ lim) :
    Calls Tryz.prog 15 #[v] w fun e w' => e = .returned (.tuple #[sV (textT j).1, .int .i64 ((textT j).2 : Int)]) ∧ Fr NoB w w' := by
  obtain ⟨v0, v1, v2, v3, v4, rfl, h1c⟩ : ∃ v0 v1 v2 v3 v4, v = .agg #[v0, v1, v2, v3, v4] ∧ ∀ u ∈ [v0, v1, v2, v3, v4], u.oneCell' = true := by
    cases j with
    | mk k i t l ks =>
      have h0 := hat
      simp only [RAt] at hat
      obtain ⟨lv, kv, rfl, _⟩ := hat
      exact ⟨_, _, _, _, _, rfl, h0.one⟩
  have hone := all_one h1c
  have f0 : Fr NoB w (w.alloc (.cells #[v0, v1, v2, v3, v4] 25)) := (Fr.refl _ _).alloc _
  have g0 := Blk.new w 25 #[v0, v1, v2, v3, v4]
  generalize hW : w.alloc (.cells #[v0, v1, v2, v3, v4] 25) = W at f0 g0
  have HW := Lib.hid hW
  clear hW
  have HC := Lib.hid (check_any S j _ W (hx.fr0 f0) (fun g hg => Nat.lt_of_lt_of_le (hS g hg) f0.size) (RAt.fr (fun g hg => f0.block g (hS g hg) (fun e => e)) j _ hat) hsm)
  by_cases hz : checkP 0 j = 0
  · have hlm := hl hz
    rw [hz] at HC
    have et : textT j = if 65536 < (layP j).length then ([], 92) else (layP j, 0) := by unfold textT; rw [if_pos hz]
    rw [et]
    -- the builder's world
    have HL : Hid (∀ w2, Fr NoB W w2 → Calls Tryz.prog 34 #[.pointer (some ⟨w2.heap.size, 0, none⟩), .agg #[v0, v1, v2, v3, v4]] (w2.alloc (.cells #[.pointer none, .slice none 0 0] 60)) fun e w' => e = .returned (.tuple #[]) ∧ Hid (Bd w' w2.heap.size w2.heap.size (layP j)) ∧ Fr NoB w2 w') := Lib.hid (fun w2 f2 => by
      have fa : Fr NoB w2 (w2.alloc (.cells #[.pointer none, .slice none 0 0] 60)) := (Fr.refl _ _).alloc _
      have f3 := (f0.trans f2).trans fa
      have hsz : w.heap.size ≤ w2.heap.size := (f0.trans f2).size
      refine (LD_all j S _ _ w2.heap.size w2.heap.size [] 0 (hx.fr0 f3) (Nat.le_trans hx.le hsz) fa.size (fun g hg => Nat.lt_of_lt_of_le (hS g hg) hsz) (RAt.fr (fun g hg => f3.block g (hS g hg) (fun e => e)) j _ hat) hz (Bd.new w2) (by simpa using hlm)).mono ?_
      rintro e w' ⟨rfl, hb, ht⟩
      exact ⟨rfl, Lib.hid (by simpa using hb), fa.andThen ht.fr (fun k hk e => by have := ((Bd.new w2).bdS e).2; omega)⟩)
    generalize layP j = T at *
    clear hat hsm hl hz et
    by_cases hb : 65536 < T.length
    · have hbi : (65536 : Int) < (T.length : Int) := by omega
      rw [if_pos hb]
      go_enter Tryz.func15, Tryz.ntmps15
      go_wp2_with (first | (rw [HW.out]; refine wpList_load_row rfl 25 _ rfl w.heap.size rfl 25 _ _ _ g0 Tryz.underlying25 rfl size_json ?_) | (go_at_call 13; ((with_reducible refine HC.out.mono ?_); rintro e w2 ⟨rfl, f2⟩; have g2 := (f2.blk g0 (fun e => e)).alloc (.cells #[.pointer none, .slice none 0 0] 60))) | (refine wpList_load_row rfl 25 _ rfl w.heap.size rfl 25 _ _ _ g2 Tryz.underlying25 rfl size_json ?_) | (go_at_call 34; ((with_reducible refine (HL.out _ f2).mono ?_); rintro e w3 ⟨rfl, H3, f3⟩)) | (go_at_call 35; ((with_reducible refine (blen_any _ _ T _ H3.out).mono ?_); rintro e w4 ⟨rfl, rfl⟩)))
      go_ret2
      exact ⟨rfl, (f0.trans f2).trans f3⟩
    · have hbi : ¬ (65536 : Int) < (T.length : Int) := by omega
      rw [if_neg hb]
      go_enter Tryz.func15, Tryz.ntmps15
      go_wp2_with (first | (rw [HW.out]; refine wpList_load_row rfl 25 _ rfl w.heap.size rfl 25 _ _ _ g0 Tryz.underlying25 rfl size_json ?_) | (go_at_call 13; ((with_reducible refine HC.out.mono ?_); rintro e w2 ⟨rfl, f2⟩; have g2 := (f2.blk g0 (fun e => e)).alloc (.cells #[.pointer none, .slice none 0 0] 60))) | (refine wpList_load_row rfl 25 _ rfl w.heap.size rfl 25 _ _ _ g2 Tryz.underlying25 rfl size_json ?_) | (go_at_call 34; ((with_reducible refine (HL.out _ f2).mono ?_); rintro e w3 ⟨rfl, H3, f3⟩)) | (go_at_call 35; ((with_reducible refine (blen_any _ _ T _ H3.out).mono ?_); rintro e w4 ⟨rfl, rfl⟩)) | (go_at_call 36; ((with_reducible refine (bstring_any _ _ T _ H3.out f3.size).mono ?_); rintro e w5 ⟨rfl, _, h5⟩)))
      go_ret2
      exact ⟨rfl, ((f0.trans f2).trans f3).behind h5.1 (f0.trans f2).size⟩
  · have et : textT j = ([], checkP 0 j) := by unfold textT; rw [if_neg hz]
    rw [et]
    generalize checkP 0 j = q at *
    have hzi : ¬ (q : Int) = 0 := by omega
    go_enter Tryz.func15, Tryz.ntmps15
    go_wp2_with (first | (rw [HW.out]; refine wpList_load_row rfl 25 _ rfl w.heap.size rfl 25 _ _ _ g0 Tryz.underlying25 rfl size_json ?_) | (go_at_call 13; ((with_reducible refine HC.out.mono ?_); rintro e w2 ⟨rfl, f2⟩)))
    go_ret2
    exact ⟨rfl, f0.trans f2⟩
end Go.Proofs.YteeijmfnjcddmaaGreatDoor
