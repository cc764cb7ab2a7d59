/- JsonReads: the walk. -/
import Derived.Test.YteeijmfnjcddmaaGreatDoorRq
import Derived.Deep.MidRow
import Derived.Test.YteeijmfnjcddmaaGreatDoorJo
namespace Go.Proofs.YteeijmfnjcddmaaGreatDoor
open Go.RowKit

/-- A row of its own, from its block's head on. -/
def RowT (lo hi : Nat) (w : World) (a : Option Addr) (k : Nat) : Prop := k = 0 ∨ ∃ g, a = some ⟨g, 0, none⟩ ∧ lo ≤ g ∧ g < hi ∧ hi ≤ w.heap.size ∧ w.there g 0 k
theorem Fr.setCells {S : Nat → Prop} {a : World} (b : Nat) (hb : a.heap.size ≤ b ∨ S b) : ∀ (vs : List Value) (o : Nat) {w : World}, Fr S a w → Fr S a (w.setCells b o vs)
  | [], _, _, h => h
  | v :: r, o, w, h => by
    rw [World.setCells]
    refine Fr.setCells b hb r (o + 1) ?_
    rcases hb with hb | hb
    · exact h.setCell_new (p := ⟨b, o, none⟩) hb v
    · exact h.setCell (p := ⟨b, o, none⟩) hb v
theorem there_fr {S : Nat → Prop} {w u : World} {g o k : Nat} (h : w.there g o k) (f : Fr S w u) (hg : g < w.heap.size) (hs : ¬ S g) : u.there g o k := fun j hj => by
  rw [f.cell (p := ⟨g, o + j, none⟩) hg hs, f.frozen (p := ⟨g, o + j, none⟩) hg hs]
  exact h j hj
theorem RowT.fr {lo hi : Nat} {w u : World} {a : Option Addr} {k : Nat} (h : RowT lo hi w a k) (f : Fr NoB w u) : RowT lo hi u a k := by
  rcases h with h | ⟨g, ha, h1, h2, h3, h4⟩
  · exact Or.inl h
  · exact Or.inr ⟨g, ha, h1, h2, Nat.le_trans h3 f.size, there_fr h4 f (by omega) (fun x => x)⟩
theorem RowT.set {lo hi : Nat} {w : World} {a : Option Addr} {k : Nat} (h : RowT lo hi w a k) (b o : Nat) (vs : List Value) : RowT lo hi (w.setCells b o vs) a k := by
  rcases h with h | ⟨g, ha, h1, h2, h3, h4⟩
  · exact Or.inl h
  · exact Or.inr ⟨g, ha, h1, h2, Nat.le_trans h3 (Fr.setCells (S := Only b) b (Or.inr rfl) vs o (Fr.refl _ w)).size, World.there_setCells h4 b o vs⟩
/-- What Parse hands back, its rows its own. -/
def ParOwn (q : Except Nat Jv) (w : World) (e : Ending) (w' : World) : Prop :=
  ∃ (k i : Int) (t : Bs) (la ka : Option Addr) (n m lc kc : Nat), e = .returned (.tuple #[.agg #[.int .i64 k, .int .i64 i, .string ⟨t.toArray⟩, .slice la n lc, .slice ka m kc], .int .i64 (errP q : Int)]) ∧
    RAt (All w') w' (valP q) (.agg #[.int .i64 k, .int .i64 i, .string ⟨t.toArray⟩, .slice la n lc, .slice ka m kc]) ∧ Fr NoB w w' ∧ RowT w.heap.size w'.heap.size w' la (n * 5) ∧ RowT w.heap.size w'.heap.size w' ka m ∧ n ≤ big ∧ m ≤ big

set_option maxRecDepth 100000 in
set_option maxHeartbeats 6400000 in
theorem reads_walk (s : Bs) (w : World)
    (hP : ∀ u, Fr NoB w u → Calls Tryz.prog 17 #[.string ⟨s.toArray⟩] u (ParOwn (parseP s) u)) (hFx : ∀ u, Fr NoB w u → Calls Tryz.prog 12 #[] u fun e w' => e = .returned (.bool true) ∧ Fr NoB u w') :
    Calls Tryz.prog 5 #[.string ⟨s.toArray⟩] w fun e w' => e = .returned (.bool true) ∧ Fr NoB w w' := by
  have HP := Lib.hid hP
  have HFx := Lib.hid hFx
  have HR := Lib.hid (fun u => rParse_any s u)
  clear hP hFx
  generalize parseP s = q at *
  go_enter Tryz.func5, Tryz.ntmps5
  go_wp2_with fail
  go_loopw [3] (fun v3 wr => ∃ T : Nat, T ≤ 2 ∧ v3 = .int .i64 T ∧ Fr NoB w wr) (fun v3 _ => 2 - (intOf v3).toNat)
  case atStart => exact ⟨0, by omega, rfl, Fr.refl _ _⟩
  case round =>
    obtain ⟨T, hT, rfl, f0⟩ := hrel
    by_cases hlt : T < 2
    · have j1 : (T : Int) < 2 := by omega
      have HP1 := Lib.hid (HP.out wr f0)
      go_upto_region 5 with (first | (go_at_call 17; ((with_reducible refine HP1.out.mono ?_); rintro e u2 ⟨k, i, t, la, ka, n, m, lc, kc, rfl, h1, f1, rl, rk, hn, hm⟩; have n1 := Blk.new u2 25 zj)) | (refine wpList_store_row rfl 25 _ _ rfl u2.heap.size #[.int .i64 k, .int .i64 i, .string ⟨t.toArray⟩, .slice la n lc, .slice ka m kc] rfl rfl 25 zj n1 size_json rfl (one_json _ _ _ _ _ _ _ _ _) ?_))
      obtain ⟨p1, b1⟩ := put_row u2 (.int .i64 k) (.int .i64 i) (.string ⟨t.toArray⟩) (.slice la n lc) (.slice ka m kc)
      have F1 := f1.trans p1
      have R1 := h1.all p1
      have rl1 := rl.fr p1
      have rk1 := rk.fr p1
      have hlo := Nat.le_trans f0.size f1.size
      have hwr := f0.size
      generalize hU1 : (u2.alloc (.cells zj 25)).setRow u2.heap.size #[.int .i64 k, .int .i64 i, .string ⟨t.toArray⟩, .slice la n lc, .slice ka m kc] = U1 at *
      generalize hA : u2.heap.size = A at *
      clear n1 h1 HP1 hU1 p1 rl rk
      go_upto_region 6 with (first | (go_at_call 18; ((with_reducible refine (HR.out U1).mono ?_); rintro e u3 ⟨x2, rfl, h2, f3⟩; obtain ⟨x20, x21, x22, x23, x24, rfl, o2⟩ := h2.form; have n2 := Blk.new u3 25 zj)) | (refine wpList_store_row rfl 25 _ _ rfl u3.heap.size #[x20, x21, x22, x23, x24] rfl rfl 25 zj n2 size_json rfl o2 ?_))
      obtain ⟨p2, b2⟩ := put_row u3 x20 x21 x22 x23 x24
      have F2 := f3.trans p2
      have R2 := h2.all p2
      have B1 := F2.blk b1 (fun e => e)
      have R1' := R1.all F2
      generalize hU2 : (u3.alloc (.cells zj 25)).setRow u3.heap.size #[x20, x21, x22, x23, x24] = U2 at *
      have HS := Lib.hid (same_any (valP q) _ _ U2 R1' R2)
      clear n2 h2 hU2 R1 R1' R2 p2
      obtain ⟨c10, c11, c12, c13, c14⟩ := B1.five
      obtain ⟨c20, c21, c22, c23, c24⟩ := b2.five
      generalize errP q = eq at *
      go_wp2_with (go_at_call 19; ((with_reducible refine HS.out.mono ?_); rintro e u4 ⟨rfl, f4⟩))
      have F4 := f0.trans (F1.trans (F2.trans f4))
      have B4 := f4.blk B1 (fun e => e)
      have rl4 := (rl1.fr F2).fr f4
      have rk4 := (rk1.fr F2).fr f4
      clear rl1 rk1 c10 c11 c12 c13 c14 c20 c21 c22 c23 c24 B1 b2 b1 HS
      unfold big at hn hm
      generalize wr.heap.size = N0 at *
      go_loopw [8] (fun v8 wx => ∃ p : Nat, p ≤ n ∧ v8 = .int .i64 p ∧ Fr NoB w wx ∧ Blk wx A 25 #[.int .i64 k, .int .i64 i, .string ⟨t.toArray⟩, .slice la n lc, .slice ka m kc] ∧ RowT N0 A wx la (n * 5) ∧ RowT N0 A wx ka m) (fun v8 _ => n - (intOf v8).toNat)
      case atStart => exact ⟨0, Nat.zero_le _, rfl, F4, B4, rl4, rk4⟩
      case round =>
        obtain ⟨p, hp, rfl, Fx, Bx, rlx, rkx⟩ := hrel
        obtain ⟨c10, c11, c12, c13, c14⟩ := Bx.five
        by_cases hpn : p < n
        · have j2 : (p : Int) < n := by omega
          have j3 : (0 : Int) ≤ p := by omega
          obtain ⟨g, rfl, hg0, hgA, hgs, hth⟩ : ∃ g, la = some ⟨g, 0, none⟩ ∧ N0 ≤ g ∧ g < A ∧ A ≤ wr.heap.size ∧ wr.there g 0 (n * 5) := by
            rcases rlx with h | h
            · exact absurd h (by omega)
            · exact h
          have h0 := hth (p * 5) (by omega)
          have h1 := hth (p * 5 + 1) (by omega)
          have h2 := hth (p * 5 + 2) (by omega)
          have h3 := hth (p * 5 + 3) (by omega)
          have h4 := hth (p * 5 + 4) (by omega)
          simp only [Nat.zero_add] at h0 h1 h2 h3 h4
          obtain ⟨⟨x0, d0⟩, t0⟩ := (show (∃ x, wr.cell? ⟨g, p * 5, none⟩ = some x) ∧ _ from ⟨Option.isSome_iff_exists.1 h0.1, h0.2⟩)
          obtain ⟨⟨x1, d1⟩, t1⟩ := (show (∃ x, wr.cell? ⟨g, p * 5 + 1, none⟩ = some x) ∧ _ from ⟨Option.isSome_iff_exists.1 h1.1, h1.2⟩)
          obtain ⟨⟨x2, d2⟩, t2⟩ := (show (∃ x, wr.cell? ⟨g, p * 5 + 2, none⟩ = some x) ∧ _ from ⟨Option.isSome_iff_exists.1 h2.1, h2.2⟩)
          obtain ⟨⟨x3, d3⟩, t3⟩ := (show (∃ x, wr.cell? ⟨g, p * 5 + 3, none⟩ = some x) ∧ _ from ⟨Option.isSome_iff_exists.1 h3.1, h3.2⟩)
          obtain ⟨⟨x4, d4⟩, t4⟩ := (show (∃ x, wr.cell? ⟨g, p * 5 + 4, none⟩ = some x) ∧ _ from ⟨Option.isSome_iff_exists.1 h4.1, h4.2⟩)
          clear h0 h1 h2 h3 h4 hth
          go_wp2_with fail
          have hSet : ((((wr.setCell ⟨g, p * 5, none⟩ (.int .i64 2)).setCell ⟨g, p * 5 + 1, none⟩ (.int .i64 0)).setCell ⟨g, p * 5 + 2, none⟩ (.string ⟨#[]⟩)).setCell ⟨g, p * 5 + 3, none⟩ (.slice none 0 0)).setCell ⟨g, p * 5 + 4, none⟩ (.slice none 0 0) = wr.setCells g (p * 5) [.int .i64 2, .int .i64 0, .string ⟨#[]⟩, .slice none 0 0, .slice none 0 0] := rfl
          rw [hSet]
          go_roundw
          case rel => exact ⟨p + 1, by omega, by simp, Fr.setCells g (Or.inl (by omega)) _ _ Fx, (Fr.setCells (S := Only g) g (Or.inr rfl) _ _ (Fr.refl _ wr)).blk Bx (fun (e : A = g) => by omega), rlx.set _ _ _, rkx.set _ _ _⟩
          case measure => simp [intOf]; omega
        · obtain rfl : n = p := by omega
          go_wp2_with fail
          go_loopw [9] (fun v9 wx => ∃ p : Nat, p ≤ m ∧ v9 = .int .i64 p ∧ Fr NoB w wx ∧ Blk wx A 25 #[.int .i64 k, .int .i64 i, .string ⟨t.toArray⟩, .slice la n lc, .slice ka m kc] ∧ RowT N0 A wx ka m) (fun v9 _ => m - (intOf v9).toNat)
          case atStart => exact ⟨0, Nat.zero_le _, rfl, Fx, Bx, rkx⟩
          case round =>
            clear c10 c11 c12 c13 c14 Fx Bx rlx rkx
            obtain ⟨p, hp, rfl, Fx, Bx, rkx⟩ := hrel
            obtain ⟨c10, c11, c12, c13, c14⟩ := Bx.five
            by_cases hpm : p < m
            · have j2 : (p : Int) < m := by omega
              have j3 : (0 : Int) ≤ p := by omega
              obtain ⟨g, rfl, hg0, hgA, hgs, hth⟩ : ∃ g, ka = some ⟨g, 0, none⟩ ∧ N0 ≤ g ∧ g < A ∧ A ≤ wr.heap.size ∧ wr.there g 0 m := by
                rcases rkx with h | h
                · exact absurd h (by omega)
                · exact h
              obtain ⟨ht1, ht2⟩ := hth p hpm
              rw [Nat.zero_add] at ht1 ht2
              obtain ⟨x0, hx0⟩ := Option.isSome_iff_exists.1 ht1
              go_wp2_with fail
              have hSet : wr.setCell ⟨g, p, none⟩ (.string ⟨#[115, 112, 111, 105, 108, 116]⟩) = wr.setCells g p [.string ⟨#[115, 112, 111, 105, 108, 116]⟩] := rfl
              rw [hSet]
              go_roundw
              case rel => exact ⟨p + 1, by omega, by simp, Fr.setCells g (Or.inl (by omega)) _ _ Fx, (Fr.setCells (S := Only g) g (Or.inr rfl) _ _ (Fr.refl _ wr)).blk Bx (fun (e : A = g) => by omega), rkx.set _ _ _⟩
              case measure => simp [intOf]; omega
            · obtain rfl : m = p := by omega
              go_wp2_with fail
              go_roundw
              case rel => exact ⟨T + 1, by omega, by simp, Fx⟩
              case measure => simp [intOf]; omega
    · obtain rfl : T = 2 := by omega
      go_wp2_with (go_at_call 12; ((with_reducible refine (HFx.out _ f0).mono ?_); rintro e u1 ⟨rfl, f1⟩))
      go_ret
      exact ⟨rfl, f0.trans f1⟩
end Go.Proofs.YteeijmfnjcddmaaGreatDoor
/- What Parse hands back, its rows its own: Parse's contract as JsonReads' walk asks it. -/
namespace Go.Proofs.YteeijmfnjcddmaaGreatDoor
open Go.RowKit

theorem own_rowT {w : World} {lo n sz : Nat} {t : TypeId} {v : Value} {xs : List Value} (h : w.ownsRow lo t sz v n xs) : ∃ a c, v = .slice a n c ∧ RowT lo w.heap.size w a (n * sz) := by
  rcases h.2 with ⟨rfl, rfl⟩ | ⟨g, cap, cur, rfl, hg, hb, hn, hc, hs, _⟩
  · exact ⟨none, 0, rfl, Or.inl (by simp)⟩
  · have hB : Blk w g t cur := hb
    refine ⟨_, _, rfl, Or.inr ⟨g, rfl, hg, hB.lt, Nat.le_refl _, fun j hj => ⟨?_, hB.frozen _⟩⟩⟩
    have hj2 : 0 + j < cur.size := by
      rw [hs, Nat.zero_add]
      exact Nat.lt_of_lt_of_le hj (Nat.mul_le_mul_right sz hn)
    rw [hB.cell, Array.getElem?_eq_getElem hj2]
    rfl
theorem parse_own {B : Nat} (s : Bs) (w : World) (hx : Cx B w) (hl : s.length ≤ 1048576) : Calls Tryz.prog 17 #[.string ⟨s.toArray⟩] w (ParOwn (parseP s) w) := by
  refine (parse_any s w hx (by omega)).mono fun e w' h => ?_
  cases hq : parseP s with
  | ok j =>
    rw [hq] at h
    obtain ⟨v, rfl, hj, f⟩ := h
    have hat := RAt.mono (T := All w') (fun g hg => hg.2) _ _ hj.at_
    cases j with
    | mk k i t l ks =>
      obtain ⟨lv, kv, cs, S, rfl, h2, h3, h4, h5, h6, h7, h8, h9, h10⟩ := hj
      obtain ⟨la, lc, rfl, rl⟩ := own_rowT h7
      obtain ⟨ka, kc, rfl, rk⟩ := own_rowT h8
      exact ⟨k, i, t, la, ka, l.length, ks.length, lc, kc, rfl, hat, f, rl, by simpa using rk, h5, h6.1⟩
  | error n =>
    rw [hq] at h
    obtain ⟨rfl, f⟩ := h
    exact ⟨0, 0, [], none, none, 0, 0, 0, 0, rfl, nul_at _ _, f, Or.inl rfl, Or.inl rfl, Nat.zero_le _, Nat.zero_le _⟩
end Go.Proofs.YteeijmfnjcddmaaGreatDoor
