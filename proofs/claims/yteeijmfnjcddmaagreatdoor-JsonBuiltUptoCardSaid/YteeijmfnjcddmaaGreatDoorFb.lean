/- JSON: the law's own 'fixed': true. -/
import Derived.Test.YteeijmfnjcddmaaGreatDoorFa
namespace Go.Proofs.YteeijmfnjcddmaaGreatDoor
open Go.RowKit

theorem JTop.opened {lo : Nat} {w : World} {j : Jv} {v : Value} (h : JTop lo w j v) : ∃ v0 v1 v2 v3 v4, v = .agg #[v0, v1, v2, v3, v4] ∧ (#[v0, v1, v2, v3, v4].all (·.oneCell')) = true ∧ RAt (Rng lo w.heap.size) w j (.agg #[v0, v1, v2, v3, v4]) := by
  have h2 := h.at_
  cases j with
  | mk k i t l ks =>
    have h3 := h2
    simp only [RAt] at h2
    obtain ⟨lv, kv, rfl, _⟩ := h2
    exact ⟨_, _, _, _, _, rfl, all_one h3.one, h3⟩
/-- A value that was read. -/
def GotIs (j : Jv) (w : World) (e : Ending) (w' : World) : Prop :=
  ∃ v0 v1 v2 v3 v4, e = .returned (.tuple #[.agg #[v0, v1, v2, v3, v4], .int .i64 0]) ∧ Hid ((#[v0, v1, v2, v3, v4].all (·.oneCell')) = true ∧ RAt (Rng w.heap.size w'.heap.size) w' j (.agg #[v0, v1, v2, v3, v4]) ∧ Fr NoB w w')
theorem parse_got {B : Nat} (s : Bs) (j : Jv) (w : World) (hx : Cx B w) (hl : s.length ≤ 9223372036854775807) (hp : parseP s = .ok j) : Calls Tryz.prog 17 #[.string ⟨s.toArray⟩] w (GotIs j w) := by
  have h := parse_any s w hx hl
  rw [hp] at h
  refine h.mono ?_
  rintro e w' ⟨v, rfl, h1, h2⟩
  obtain ⟨v0, v1, v2, v3, v4, rfl, h3, h4⟩ := h1.opened
  exact ⟨v0, v1, v2, v3, v4, rfl, Lib.hid ⟨h3, h4, h2⟩⟩
theorem parse_bad {B : Nat} (s : Bs) (n : Nat) (w : World) (hx : Cx B w) (hl : s.length ≤ 9223372036854775807) (hp : parseP s = .error n) : Calls Tryz.prog 17 #[.string ⟨s.toArray⟩] w fun e w' => e = .returned (.tuple #[.agg zj, .int .i64 (n : Int)]) ∧ Fr NoB w w' := by
  have h := parse_any s w hx hl
  rw [hp] at h
  exact h

/-- A variable of a JSON value is made and written. -/
theorem var_made (w : World) (v0 v1 v2 v3 v4 : Value) : Fr NoB w ((w.alloc (.cells zj 25)).setRow w.heap.size #[v0, v1, v2, v3, v4]) ∧ Blk ((w.alloc (.cells zj 25)).setRow w.heap.size #[v0, v1, v2, v3, v4]) w.heap.size 25 #[v0, v1, v2, v3, v4] :=
  ⟨((Fr.refl NoB w).alloc _).setRow w.heap.size _ (Or.inl (Nat.le_refl _)), (Blk.new w 25 zj).setRow _⟩

theorem jat_leaf (S : Nat → Prop) (w : World) (k i : Int) (t : Bs) (hk : IntOk k) (hi : IntOk i) (ht : t.length ≤ big) (la ka : Option Addr) (lc kc : Nat) : RAt S w (.mk k i t [] []) (jV k i t (.slice la 0 lc) (.slice ka 0 kc)) := by
  simp only [RAt]
  exact ⟨_, _, rfl, hk, hi, ht, ⟨Or.inl ⟨rfl, _, _, rfl⟩, by unfold big; simp, by simp⟩, by unfold big; simp, [], by simp [RCells], Or.inl ⟨rfl, _, _, rfl⟩⟩
theorem fxt : textT fxJ = (fxT, 0) := by unfold textT; rw [fx5, fx6]; rfl
theorem fxt7 : textT (.mk 7 0 [] [] []) = ([], 93) := by unfold textT; rw [fx7]; rfl
theorem jsm_fx : JSm fxJ := by
  simp [fxJ, fxL, JSm, JSms]

set_option maxRecDepth 100000 in
set_option maxHeartbeats 6400000 in
theorem fixed_any {B : Nat} (w : World) (hx : Cx B w) : Calls Tryz.prog 12 #[] w fun e w' => e = .returned (.bool true) ∧ Fr NoB w w' := by
  have HP1 : Hid (∀ u, Fr NoB w u → Calls Tryz.prog 17 #[.string ⟨#[32, 123, 32, 34, 98, 34, 32, 58, 32, 91, 32, 49, 32, 44, 32, 45, 53, 32, 44, 32, 34, 92, 117, 48, 48, 101, 57, 92, 47, 34, 32, 93, 32, 44, 32, 34, 97, 34, 32, 58, 32, 110, 117, 108, 108, 32, 125, 32]⟩] u (GotIs fxJ u)) := Lib.hid (fun u f => parse_got fxS1 fxJ u (hx.fr0 f) (by decide) fx1)
  have HP2 : Hid (∀ u, Fr NoB w u → Calls Tryz.prog 17 #[.string ⟨#[123, 34, 97, 34, 58, 49, 44, 34, 92, 117, 48, 48, 54, 49, 34, 58, 50, 125]⟩] u fun e w' => e = .returned (.tuple #[.agg zj, .int .i64 94]) ∧ Fr NoB u w') := Lib.hid (fun u f => parse_bad fxS2 94 u (hx.fr0 f) (by decide) fx2)
  have HP3 : Hid (∀ u, Fr NoB w u → Calls Tryz.prog 17 #[.string ⟨#[91, 49, 46, 53, 93]⟩] u fun e w' => e = .returned (.tuple #[.agg zj, .int .i64 95]) ∧ Fr NoB u w') := Lib.hid (fun u f => parse_bad fxS3 95 u (hx.fr0 f) (by decide) fx3)
  have HP4 : Hid (∀ u x, Fr NoB w u → x = ⟨fxS4.toArray⟩ → Calls Tryz.prog 17 #[.string x] u fun e w' => e = .returned (.tuple #[.agg zj, .int .i64 91]) ∧ Fr NoB u w') := Lib.hid (fun u x f hxx => by subst hxx; exact parse_bad fxS4 91 u (hx.fr0 f) (by decide) fx4)
  have hzo : (zj.all (·.oneCell')) = true := one_json _ _ _ _ _ _ _ _ _
  go_enter Tryz.func12, Tryz.ntmps12
  go_upto_region 2 with (first | (go_at_call 17; ((with_reducible refine (HP1.out _ (Fr.refl _ _)).mono ?_); rintro e u1 ⟨v0, v1, v2, v3, v4, rfl, H1⟩)) | (refine wpList_store_row rfl 25 _ _ rfl u1.heap.size #[v0, v1, v2, v3, v4] rfl rfl 25 zj (Blk.new u1 25 zj) size_json rfl H1.out.1 ?_))
  obtain ⟨f2, b2⟩ := var_made u1 v0 v1 v2 v3 v4
  generalize hW2 : (u1.alloc (.cells zj 25)).setRow u1.heap.size #[v0, v1, v2, v3, v4] = W2 at f2 b2 ⊢
  have HV : Hid (∀ u, Fr NoB W2 u → RAt (Rng w.heap.size u1.heap.size) u fxJ (.agg #[v0, v1, v2, v3, v4]) ∧ (∀ g, Rng w.heap.size u1.heap.size g → g < u.heap.size) ∧ Blk u u1.heap.size 25 #[v0, v1, v2, v3, v4] ∧ Cx B u ∧ Fr NoB w u) := Lib.hid (fun u f => by
    have h1 := H1.out
    have hf := f2.trans f
    refine ⟨RAt.fr (fun g hg => hf.block g hg.2 (fun e => e)) _ _ h1.2.1, fun g hg => Nat.lt_of_lt_of_le hg.2 hf.size, f.blk b2 (fun e => e), hx.fr0 (h1.2.2.trans hf), h1.2.2.trans hf⟩)
  clear hW2 H1 b2
  have HT : Hid (∀ u, Fr NoB W2 u → Calls Tryz.prog 15 #[.agg #[v0, v1, v2, v3, v4]] u fun e w' => e = .returned (.tuple #[.string ⟨#[123, 34, 97, 34, 58, 110, 117, 108, 108, 44, 34, 98, 34, 58, 91, 49, 44, 45, 53, 44, 34, 195, 169, 47, 34, 93, 125]⟩, .int .i64 0]) ∧ Fr NoB u w') := Lib.hid (fun u f => by
    obtain ⟨h1, h2, _, h4, _⟩ := HV.out u f
    have h := text_any _ fxJ _ u h4 h2 h1 jsm_fx (fun _ => by rw [fx6]; decide)
    rw [fxt] at h
    exact h)
  have HT7 : Hid (∀ u, Fr NoB w u → Calls Tryz.prog 15 #[.agg #[.int .i64 7, .int .i64 0, .string ⟨#[]⟩, .slice none 0 0, .slice none 0 0]] u fun e w' => e = .returned (.tuple #[.string ⟨#[]⟩, .int .i64 93]) ∧ Fr NoB u w') := Lib.hid (fun u f => by
    have h := text_any NoB (.mk 7 0 [] [] []) (jV 7 0 [] (.slice none 0 0) (.slice none 0 0)) u (hx.fr0 f) (fun _ e => e.elim) (jat_leaf _ _ 7 0 [] (by unfold IntOk; omega) (by unfold IntOk; omega) (by simp) _ _ _ _) (by simp [JSm, JSms]) (fun h => by rw [fx7] at h; omega)
    rw [fxt7] at h
    exact h)
  have HG : Hid (∀ u, Fr NoB W2 u → Calls Tryz.prog 20 #[.agg #[v0, v1, v2, v3, v4], .string ⟨#[98]⟩] u fun e w' => ∃ x0 x1 x2 a c x4, e = .returned (.tuple #[.agg #[x0, x1, x2, .slice a 3 c, x4], .bool true]) ∧ Hid ((#[x0, x1, x2, .slice a 3 c, x4].all (·.oneCell')) = true) ∧ Fr NoB u w') := Lib.hid (fun u f => by
    obtain ⟨h1, h2, _, h4, _⟩ := HV.out u f
    have h := get_any _ fxJ _ [98] u h2 h1
    rw [fx8] at h
    refine h.mono ?_
    rintro e w' ⟨x, rfl, hr, hf⟩
    have hr0 : RAt (Rng w.heap.size u1.heap.size) w' fxL x := hr
    have hr1 := hr0
    simp only [fxL, RAt] at hr0
    obtain ⟨lv, kv, rfl, _, _, _, _, _, cs, _, hl⟩ := hr0
    have hl3 : ∃ a c, lv = .slice a 3 c := by
      rcases hl with ⟨h0, _⟩ | ⟨g, o, c, rfl, _⟩
      · simp at h0
      · exact ⟨_, c, rfl⟩
    obtain ⟨a, c, rfl⟩ := hl3
    exact ⟨_, _, _, a, c, _, rfl, Lib.hid (all_one hr1.one), hf⟩)
  have HX : Hid (∀ u (g : Nat), Fr NoB w u → Blk u g 25 #[.int .i64 4, .int .i64 0, .string ⟨#[120]⟩, .slice none 0 0, .slice none 0 0] → Calls Tryz.prog 22 #[.agg #[.int .i64 5, .int .i64 0, .string ⟨#[]⟩, .slice (some ⟨g, 0, none⟩) 1 1, .slice none 0 0]] u fun e w' => ∃ g c, e = .returned (.tuple #[.slice (some ⟨g, 0, none⟩) 1 c, .bool true]) ∧ w'.cell? ⟨g, 0, none⟩ = some (.string ⟨#[120]⟩) ∧ Fr NoB u w') := Lib.hid (fun u g f hb => by
    have hat : RAt (Only g) u (.mk 5 0 [] [.mk 4 0 [120] [] []] []) (jV 5 0 [] (.slice (some ⟨g, 0, none⟩) 1 1) (.slice none 0 0)) := by
      simp only [RAt]
      refine ⟨_, _, rfl, by unfold IntOk; omega, by unfold IntOk; omega, by simp, ⟨Or.inl ⟨rfl, _, _, rfl⟩, by simp, by simp⟩, by unfold big; simp, [.int .i64 4, .int .i64 0, .string ⟨#[120]⟩, .slice none 0 0, .slice none 0 0], ?_, Or.inr ⟨g, 0, 1, rfl, rfl, ?_⟩⟩
      · simp only [RCells]
        exact ⟨_, _, _, _, _, [], rfl, jat_leaf _ _ 4 0 [120] (by unfold IntOk; omega) (by unfold IntOk; omega) (by unfold big; simp) _ _ _ _, rfl⟩
      · intro i x hxi
        rw [Nat.zero_add, hb.cell]
        simpa using hxi
    refine (texts_any _ _ _ u (fun k e => by have e' : k = g := e; subst e'; exact hb.lt) hat (by simp [Jv.list])).mono ?_
    rintro e w' ⟨tv, rfl, ho, hf⟩
    have hq : textsP (.mk 5 0 [] [.mk 4 0 [120] [] []] []) = some [[120]] := by simp [textsP, Jv.kind, Jv.text]
    rw [hq] at ho ⊢
    have hc := @World.ownsRow.cells _ _ _ _ _ _ _ ho
    rcases ho.2 with ⟨rfl, h0⟩ | ⟨g2, cap, cur, rfl, _⟩
    · simp at h0
    · exact ⟨g2, cap, rfl, by have := hc (g := g2) rfl 0 (sV [120]) rfl; simpa [Addr.add] using this, hf⟩)
  have HK : Hid (∀ u, Fr NoB W2 u → Calls Tryz.prog 13 #[.agg #[v0, v1, v2, v3, v4]] u fun e w' => e = .returned (.int .i64 0) ∧ Fr NoB u w') := Lib.hid (fun u f => by
    obtain ⟨h1, h2, _, h4, _⟩ := HV.out u f
    have h := check_any _ fxJ _ u h4 h2 h1 jsm_fx
    rw [fx5] at h
    exact h)
  have F1 : Fr NoB W2 W2 := Fr.refl _ _
  have B1 := (HV.out _ F1).2.2.1
  go_upto_region 3 with (first | (refine wpList_load_row rfl 25 _ rfl u1.heap.size rfl 25 _ _ _ B1 Tryz.underlying25 rfl size_json ?_) | (go_at_call 15; ((with_reducible refine (HT.out _ F1).mono ?_); rintro e u2 ⟨rfl, F2⟩)))
  go_upto_region 4 with (first | (go_at_call 17; ((refine (HP2.out _ (HV.out _ F2).2.2.2.2).mono ?_); rintro e u3 ⟨rfl, f3⟩)) | (refine wpList_store_row rfl 25 _ _ rfl u3.heap.size zj rfl rfl 25 zj (Blk.new u3 25 zj) size_json rfl hzo ?_))
  have F3 := (F2.trans f3).trans (var_made u3 (.int .i64 0) (.int .i64 0) (.string ⟨#[]⟩) (.slice none 0 0) (.slice none 0 0)).1
  generalize (u3.alloc (.cells zj 25)).setRow u3.heap.size zj = W3 at F3 ⊢
  go_upto_region 5 with (first | (go_at_call 17; ((refine (HP3.out _ (HV.out _ F3).2.2.2.2).mono ?_); rintro e u4 ⟨rfl, f4⟩)) | (refine wpList_store_row rfl 25 _ _ rfl u4.heap.size zj rfl rfl 25 zj (Blk.new u4 25 zj) size_json rfl hzo ?_))
  have F4 := (F3.trans f4).trans (var_made u4 (.int .i64 0) (.int .i64 0) (.string ⟨#[]⟩) (.slice none 0 0) (.slice none 0 0)).1
  generalize (u4.alloc (.cells zj 25)).setRow u4.heap.size zj = W4 at F4 ⊢
  go_upto_region 6 with (first | (go_at_call 17; ((refine (HP4.out _ _ (HV.out _ F4).2.2.2.2 (by first | rfl | decide)).mono ?_); rintro e u5 ⟨rfl, f5⟩)) | (refine wpList_store_row rfl 25 _ _ rfl u5.heap.size zj rfl rfl 25 zj (Blk.new u5 25 zj) size_json rfl hzo ?_))
  have F5 := (F4.trans f5).trans (var_made u5 (.int .i64 0) (.int .i64 0) (.string ⟨#[]⟩) (.slice none 0 0) (.slice none 0 0)).1
  generalize (u5.alloc (.cells zj 25)).setRow u5.heap.size zj = W5 at F5 ⊢
  go_upto_region 7 with (go_at_call 15; ((with_reducible refine (HT7.out _ (HV.out _ F5).2.2.2.2).mono ?_); rintro e u6 ⟨rfl, f6⟩))
  have F6 := F5.trans f6
  have B6 := (HV.out _ F6).2.2.1
  go_upto_region 8 with (first | (refine wpList_load_row rfl 25 _ rfl u1.heap.size rfl 25 _ _ _ B6 Tryz.underlying25 rfl size_json ?_) | (go_at_call 20; ((with_reducible refine (HG.out _ F6).mono ?_); rintro e u7 ⟨x0, x1, x2, a, c, x4, rfl, H7, f7⟩)) | (refine wpList_store_row rfl 25 _ _ rfl u7.heap.size #[x0, x1, x2, .slice a 3 c, x4] rfl rfl 25 zj (Blk.new u7 25 zj) size_json rfl H7.out ?_))
  obtain ⟨fv7, bv7⟩ := var_made u7 x0 x1 x2 (.slice a 3 c) x4
  have F7 := (F6.trans f7).trans fv7
  generalize (u7.alloc (.cells zj 25)).setRow u7.heap.size #[x0, x1, x2, .slice a 3 c, x4] = W7 at F7 bv7 ⊢
  go_upto_region 9 with (go_at_call 22; ((refine (HX.out _ W7.heap.size ((HV.out _ F7).2.2.2.2.alloc _) (Blk.new W7 25 _)).mono ?_); rintro e u8 ⟨tg, tc, rfl, ct, f8⟩))
  have F8 := (F7.alloc (.cells #[.int .i64 4, .int .i64 0, .string ⟨#[120]⟩, .slice none 0 0, .slice none 0 0] 25)).trans f8
  have B8 := (HV.out _ F8).2.2.1
  have e0 : u8.cell? ⟨u1.heap.size, 0, none⟩ = some v0 := (B8.cell 0).trans rfl
  have e1 : u8.cell? ⟨u1.heap.size, 1, none⟩ = some v1 := (B8.cell 1).trans rfl
  have e2 : u8.cell? ⟨u1.heap.size, 2, none⟩ = some v2 := (B8.cell 2).trans rfl
  have e3 : u8.cell? ⟨u1.heap.size, 3, none⟩ = some v3 := (B8.cell 3).trans rfl
  have e4 : u8.cell? ⟨u1.heap.size, 4, none⟩ = some v4 := (B8.cell 4).trans rfl
  have c3 : u8.cell? ⟨u7.heap.size, 3, none⟩ = some (.slice a 3 c) := (((f8.blk (bv7.alloc _) (fun e => e)).cell 3)).trans rfl
  have HK8 := Lib.hid (HK.out _ F8)
  clear B8 bv7
  go_wp2_with (go_at_call 13; ((with_reducible refine HK8.out.mono ?_); rintro e u9 ⟨rfl, f9⟩))
  go_ret
  exact ⟨rfl, (HV.out _ (F8.trans f9)).2.2.2.2⟩
end Go.Proofs.YteeijmfnjcddmaaGreatDoor
