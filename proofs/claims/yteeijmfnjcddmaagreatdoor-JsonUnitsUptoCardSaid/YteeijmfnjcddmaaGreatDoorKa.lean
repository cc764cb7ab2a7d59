/- JSON: the program's reader: value, whole. -/
import Derived.Test.YteeijmfnjcddmaaGreatDoorJz
namespace Go.Proofs.YteeijmfnjcddmaaGreatDoor
open Go.RowKit

theorem JTop.fr {T : Nat → Prop} {lo lo' : Nat} {w w' : World} {j : Jv} {v : Value} (h : JTop lo w j v) (f : Fr T w w') (hT : ∀ g, lo ≤ g → ¬ T g) (hlo : lo' ≤ lo) : JTop lo' w' j v := by
  cases j with
  | mk k i t l ks =>
    obtain ⟨lv, kv, cs, S, h1, h2, h3, h4, h5, h6, h7, h8, h9, h10⟩ := h
    exact ⟨lv, kv, cs, S, h1, h2, h3, h4, h5, h6, (f.row h7 (fun g hg => hT g (h7.lt g hg).1)).mono hlo, (f.row h8 (fun g hg => hT g (h8.lt g hg).1)).mono hlo, RCells.fr (fun g hg => f.block g (h10 g hg).2.1 (hT g (h10 g hg).1)) l cs h9,
      fun g hg => by obtain ⟨a, b, c, d⟩ := h10 g hg; exact ⟨by omega, Nat.lt_of_lt_of_le b f.size, c, d⟩⟩


set_option maxRecDepth 100000 in
set_option maxHeartbeats 1600000 in
theorem value_list {B : Nat} (b : Nat) (s : Bs) (n : Int) (w : World) (q : Pr) (hx : Cx B w) (hB : B ≤ b) (h : Rd w b s) (hh : s.head? = some 91)
    (hN : ∀ w', Cx B w' → Rd w' b (blanks (s.drop 1)) → Calls Tryz.prog 64 #[.pointer (some ⟨b, 0, none⟩), .int .i64 5, .int .i64 n, .string ⟨#[93]⟩] w' (ValIs q b w')) :
    Calls Tryz.prog 39 #[.pointer (some ⟨b, 0, none⟩), .int .i64 n] w (ValIs q b w) := by
  have f0 : Fr NoB w (w.alloc (.cells zj 25)) := (Fr.refl _ _).alloc _
  have r0 := h.fr f0 (fun e => e)
  have hc := r0.cell
  have hblt := h.lt
  have pn : ∀ c : UInt8, s.head? ≠ some c → Lib.hasPrefix s [c] = false := fun c hn => by
    cases hp : Lib.hasPrefix s [c]
    · rfl
    · exact absurd (pre_head.1 hp) hn
  have P1 := Lib.hid (pn 34 (by rw [hh]; simp))
  have PO := Lib.hid (pre_head.2 hh)
  clear pn hh
  have HN := Lib.hid hN
  clear hN
  cases q with
  | error e =>
    go_enter Tryz.func39, Tryz.ntmps39
    go_wp2_with (first | (go_at_call 61; ((with_reducible refine (hasPrefix_any s [34] _).mono ?_); rintro e w1 ⟨rfl, rfl⟩; rw [P1.out])) | (go_at_call 63; ((with_reducible refine (take_yes b s [91] _ r0 PO.out).mono ?_); rintro e w1 ⟨rfl, f1, r1⟩; have R1 : Rd w1 b (blanks (s.drop 1)) := r1; have X1 := (hx.fr0 f0).fr f1 (fun k e => by rw [show k = b from e]; exact hB))) | (go_at_call 64; ((with_reducible refine (HN.out _ X1 R1).mono ?_); rintro e w2 ⟨rfl, f2⟩)))
    exact ⟨rfl, rfl, (f0.noB.trans f1).trans f2⟩
  | ok p =>
    obtain ⟨j, r⟩ := p
    go_enter Tryz.func39, Tryz.ntmps39
    go_wp2_with (first | (go_at_call 61; ((with_reducible refine (hasPrefix_any s [34] _).mono ?_); rintro e w1 ⟨rfl, rfl⟩; rw [P1.out])) | (go_at_call 63; ((with_reducible refine (take_yes b s [91] _ r0 PO.out).mono ?_); rintro e w1 ⟨rfl, f1, r1⟩; have R1 : Rd w1 b (blanks (s.drop 1)) := r1; have X1 := (hx.fr0 f0).fr f1 (fun k e => by rw [show k = b from e]; exact hB))) | (go_at_call 64; ((with_reducible refine (HN.out _ X1 R1).mono ?_); rintro e w2 ⟨v, rfl, hj, f2, r2⟩; obtain ⟨v0, v1, v2, v3, v4, rfl, h1c⟩ := hj.form; have g1 := f2.blk (f1.blk (Blk.new w 25 zj) (fun e => by have e' : w.heap.size = b := e; omega)) (fun e => by have e' : w.heap.size = b := e; omega))) | (refine wpList_store_row rfl 25 _ _ rfl w.heap.size #[v0, v1, v2, v3, v4] rfl rfl 25 zj g1 size_json rfl (all_one h1c) ?_))
    have gB := g1.setRow #[v0, v1, v2, v3, v4]
    have hs1 := f1.size
    simp only [World.size_alloc] at hs1
    have fO := Fr.rowO w2 w.heap.size #[v0, v1, v2, v3, v4]
    exact bodyPost_ret (v := .agg #[v0, v1, v2, v3, v4]) (json_back rfl _ _ w.heap.size _ _ _ _ _ rfl gB) rfl ⟨_, rfl, hj.fr fO (fun g hg e => by have e' : g = w.heap.size := e; omega) (by omega), ((f0.noB.trans f1).trans f2).setRow w.heap.size _ (Or.inl (Nat.le_refl _)), r2.fr fO (fun e => by have e' : b = w.heap.size := e; omega)⟩

set_option maxRecDepth 100000 in
set_option maxHeartbeats 1600000 in
theorem value_obj {B : Nat} (b : Nat) (s : Bs) (n : Int) (w : World) (q : Pr) (hx : Cx B w) (hB : B ≤ b) (h : Rd w b s) (hh : s.head? = some 123)
    (hN : ∀ w', Cx B w' → Rd w' b (blanks (s.drop 1)) → Calls Tryz.prog 64 #[.pointer (some ⟨b, 0, none⟩), .int .i64 6, .int .i64 n, .string ⟨#[125]⟩] w' (ValIs q b w')) :
    Calls Tryz.prog 39 #[.pointer (some ⟨b, 0, none⟩), .int .i64 n] w (ValIs q b w) := by
  have f0 : Fr NoB w (w.alloc (.cells zj 25)) := (Fr.refl _ _).alloc _
  have r0 := h.fr f0 (fun e => e)
  have hc := r0.cell
  have hblt := h.lt
  have pn : ∀ c : UInt8, s.head? ≠ some c → Lib.hasPrefix s [c] = false := fun c hn => by
    cases hp : Lib.hasPrefix s [c]
    · rfl
    · exact absurd (pre_head.1 hp) hn
  have P1 := Lib.hid (pn 34 (by rw [hh]; simp))
  have P2 := Lib.hid (pn 91 (by rw [hh]; simp))
  have PO := Lib.hid (pre_head.2 hh)
  clear pn hh
  have HN := Lib.hid hN
  clear hN
  cases q with
  | error e =>
    go_enter Tryz.func39, Tryz.ntmps39
    go_wp2_with (first | (go_at_call 61; ((with_reducible refine (hasPrefix_any s [34] _).mono ?_); rintro e w1 ⟨rfl, rfl⟩; rw [P1.out])) | (go_at_call 63; ((with_reducible refine (take_no b s [91] _ r0 P2.out).mono ?_); rintro e w1 ⟨rfl, rfl⟩)) | (go_at_call 63; ((with_reducible refine (take_yes b s [123] _ r0 PO.out).mono ?_); rintro e w1 ⟨rfl, f1, r1⟩; have R1 : Rd w1 b (blanks (s.drop 1)) := r1; have X1 := (hx.fr0 f0).fr f1 (fun k e => by rw [show k = b from e]; exact hB))) | (go_at_call 64; ((with_reducible refine (HN.out _ X1 R1).mono ?_); rintro e w2 ⟨rfl, f2⟩)))
    exact ⟨rfl, rfl, (f0.noB.trans f1).trans f2⟩
  | ok p =>
    obtain ⟨j, r⟩ := p
    go_enter Tryz.func39, Tryz.ntmps39
    go_wp2_with (first | (go_at_call 61; ((with_reducible refine (hasPrefix_any s [34] _).mono ?_); rintro e w1 ⟨rfl, rfl⟩; rw [P1.out])) | (go_at_call 63; ((with_reducible refine (take_no b s [91] _ r0 P2.out).mono ?_); rintro e w1 ⟨rfl, rfl⟩)) | (go_at_call 63; ((with_reducible refine (take_yes b s [123] _ r0 PO.out).mono ?_); rintro e w1 ⟨rfl, f1, r1⟩; have R1 : Rd w1 b (blanks (s.drop 1)) := r1; have X1 := (hx.fr0 f0).fr f1 (fun k e => by rw [show k = b from e]; exact hB))) | (go_at_call 64; ((with_reducible refine (HN.out _ X1 R1).mono ?_); rintro e w2 ⟨v, rfl, hj, f2, r2⟩; obtain ⟨v0, v1, v2, v3, v4, rfl, h1c⟩ := hj.form; have g1 := f2.blk (f1.blk (Blk.new w 25 zj) (fun e => by have e' : w.heap.size = b := e; omega)) (fun e => by have e' : w.heap.size = b := e; omega))) | (refine wpList_store_row rfl 25 _ _ rfl w.heap.size #[v0, v1, v2, v3, v4] rfl rfl 25 zj g1 size_json rfl (all_one h1c) ?_))
    have gB := g1.setRow #[v0, v1, v2, v3, v4]
    have hs1 := f1.size
    simp only [World.size_alloc] at hs1
    have fO := Fr.rowO w2 w.heap.size #[v0, v1, v2, v3, v4]
    exact bodyPost_ret (v := .agg #[v0, v1, v2, v3, v4]) (json_back rfl _ _ w.heap.size _ _ _ _ _ rfl gB) rfl ⟨_, rfl, hj.fr fO (fun g hg e => by have e' : g = w.heap.size := e; omega) (by omega), ((f0.noB.trans f1).trans f2).setRow w.heap.size _ (Or.inl (Nat.le_refl _)), r2.fr fO (fun e => by have e' : b = w.heap.size := e; omega)⟩


theorem VC_all : ∀ d, d ≤ 32 → VC d := by
  intro d
  induction d with
  | zero =>
    intro _ B b s n w hx hB h hl hn
    by_cases h1 : s.head? = some 34
    · exact value_text 0 b s n w hx hB h hl h1
    by_cases h2 : s.head? = some 91
    · have hq : valueP 0 s = .error 91 := by unfold valueP; rw [h2]; rfl
      rw [hq]
      exact value_list b s n w _ hx hB h h2 (fun w' _ hr => (nested_deep b 5 n _ w' (by omega) (by omega)).mono fun e w'' he => he)
    by_cases h3 : s.head? = some 123
    · have hq : valueP 0 s = .error 91 := by unfold valueP; rw [h3]; rfl
      rw [hq]
      exact value_obj b s n w _ hx hB h h3 (fun w' _ hr => (nested_deep b 6 n _ w' (by omega) (by omega)).mono fun e w'' he => he)
    exact value_word 0 b s n w hx hB h hl h1 h2 h3
  | succ d ih =>
    intro hd B b s n w hx hB h hl hn
    have hbl : (blanks (s.drop 1)).length ≤ 65536 := by have := blanks_len (s.drop 1); simp only [List.length_drop] at this; omega
    by_cases h1 : s.head? = some 34
    · exact value_text (d + 1) b s n w hx hB h hl h1
    by_cases h2 : s.head? = some 91
    · have hq : valueP (d + 1) s = nestP (valueP d) false 93 (blanks (s.drop 1)) := by rw [valueP, h2]; rfl
      rw [hq]
      exact value_list b s n w _ hx hB h h2 (fun w' hx' hr => nested_any (ih (by omega)) false 93 b _ n w' hx' hB hr hbl (by omega) (by omega))
    by_cases h3 : s.head? = some 123
    · have hq : valueP (d + 1) s = nestP (valueP d) true 125 (blanks (s.drop 1)) := by rw [valueP, h3]; rfl
      rw [hq]
      exact value_obj b s n w _ hx hB h h3 (fun w' hx' hr => nested_any (ih (by omega)) true 125 b _ n w' hx' hB hr hbl (by omega) (by omega))
    exact value_word (d + 1) b s n w hx hB h hl h1 h2 h3
end Go.Proofs.YteeijmfnjcddmaaGreatDoor
