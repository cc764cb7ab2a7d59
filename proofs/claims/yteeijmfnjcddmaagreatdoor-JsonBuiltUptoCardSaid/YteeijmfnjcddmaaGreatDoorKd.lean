/- JSON: the program's Check, whole. -/
import Derived.Test.YteeijmfnjcddmaaGreatDoorKc
namespace Go.Proofs.YteeijmfnjcddmaaGreatDoor
open Go.RowKit

mutual
theorem CK_all : ∀ (j : Jv) (n : Nat), n ≤ 32 → CK n j
  | .mk k i t l ks, n, hn => by
    intro S v w hx hS hat hsm
    simp only [RAt] at hat
    obtain ⟨lv, kv, rfl, h2, h3, h4, h5, h6, cs, h7, h8⟩ := hat
    simp only [JSm] at hsm
    exact checked_mk S n hn k i t l ks lv kv w hx hS h2 h3 h5.1 ⟨cs, h7, h8⟩ h6 ⟨hsm.1, hsm.2.1, hsm.2.2.1⟩ hsm.2.2.2 (fun hn' => CKs_all l (n + 1) hn')
theorem CKs_all : ∀ (l : List Jv) (n : Nat), n ≤ 32 → ∀ x ∈ l, CK n x
  | [], _, _, x, hx => absurd hx (by simp)
  | j :: r, n, hn, x, hx => by
    cases hx with
    | head => exact CK_all j n hn
    | tail _ h => exact CKs_all r n hn x h
end

theorem check_back {fn : Func} (h : fn.results = #[.cell 2 27]) (tmps : Array Value) (w : World) (e : Nat) (n : Int)
    (hq : tmps.getD 2 undef = .pointer (some ⟨e, 0, none⟩)) (he : Blk w e 27 #[.int .i64 n]) :
    (results fn tmps).run Tryz.prog w = .ok (.int .i64 n) w := by
  have hq' : tmps[2]?.getD undef = .pointer (some ⟨e, 0, none⟩) := by simpa using hq
  simp [results, h, hq', asAddr, load_errno w e n he]

set_option maxRecDepth 100000 in
set_option maxHeartbeats 3200000 in
theorem check_any {B : Nat} (S : Nat → Prop) (j : Jv) (v : Value) (w : World) (hx : Cx B w) (hS : ∀ g, S g → g < w.heap.size) (hat : RAt S w j v) (hsm : JSm j) :
    Calls Tryz.prog 13 #[v] w fun e w' => e = .returned (.int .i64 (checkP 0 j : Int)) ∧ Fr NoB w w' := by
  obtain ⟨v0, v1, v2, v3, v4, rfl, h1c⟩ : ∃ v0 v1 v2 v3 v4, v = .agg #[v0, v1, v2, v3, v4] ∧ ∀ u ∈ [v0, v1, v2, v3, v4], u.oneCell' = true := by
    cases j with
    | mk k i t l ks =>
      have h0 := hat
      simp only [RAt] at hat
      obtain ⟨lv, kv, rfl, _⟩ := hat
      exact ⟨_, _, _, _, _, rfl, h0.one⟩
  have f0 : Fr NoB w ((w.alloc (.cells #[v0, v1, v2, v3, v4] 25)).alloc (.cells #[.int .i64 0] 27)) := ((Fr.refl _ _).alloc _).alloc _
  have g0 : Blk ((w.alloc (.cells #[v0, v1, v2, v3, v4] 25)).alloc (.cells #[.int .i64 0] 27)) w.heap.size 25 #[v0, v1, v2, v3, v4] := (Blk.new w 25 _).alloc _
  have g1 : Blk ((w.alloc (.cells #[v0, v1, v2, v3, v4] 25)).alloc (.cells #[.int .i64 0] 27)) (w.heap.size + 1) 27 #[.int .i64 0] := by
    have := Blk.new (w.alloc (.cells #[v0, v1, v2, v3, v4] 25)) 27 #[.int .i64 0]
    simpa using this
  generalize hW : ((w.alloc (.cells #[v0, v1, v2, v3, v4] 25)).alloc (.cells #[.int .i64 0] 27)) = W at f0 g0 g1
  have HC : Hid (Calls Tryz.prog 32 #[.agg #[v0, v1, v2, v3, v4], .int .i64 0] W (ChkIs (checkP 0 j) W)) := Lib.hid (by
    have := CK_all j 0 (by omega) S (.agg #[v0, v1, v2, v3, v4]) W (hx.fr0 f0) (fun g hg => Nat.lt_of_lt_of_le (hS g hg) f0.size) (RAt.fr (fun g hg => f0.block g (hS g hg) (fun e => e)) j _ hat) hsm
    simpa using this)
  have HW := Lib.hid hW
  have hone := all_one h1c
  clear hW hat hsm hS
  generalize checkP 0 j = q at HC ⊢
  by_cases hz : q = 0
  · subst hz
    have HC2 : Hid (Calls Tryz.prog 32 #[.agg #[v0, v1, v2, v3, v4], .int .i64 0] W fun e w' => e = .returned (.tuple #[]) ∧ Fr NoB W w') := Lib.hid (HC.out.mono (fun e w' h => by rcases h with ⟨_, h1, h2⟩ | ⟨h0, _⟩; exact ⟨h1, h2⟩; exact absurd rfl h0))
    clear HC
    go_enter_defers Tryz.func13, Tryz.ntmps13
    go_wp2_with (first | (rw [HW.out]; refine wpList_load_row rfl 25 _ rfl w.heap.size rfl 25 _ _ _ g0 Tryz.underlying25 rfl size_json ?_) | (go_at_call 32; ((with_reducible refine HC2.out.mono ?_); rintro e w2 ⟨rfl, f3⟩; have G1 := f3.blk g1 (fun e => e); have c1 : w2.cell? ⟨w.heap.size + 1, 0, none⟩ = some (.int .i64 0) := (G1.cell 0).trans rfl; have z1 := G1.frozen 0)))
    refine leaves_cons (f := 31) (args := #[.pointer (some ⟨w.heap.size + 1, 0, none⟩)]) (by simp) (by simp [go_sem]) ?_
    refine (caught_idle ⟨w.heap.size + 1, 0, none⟩ _).mono ?_
    rintro e' u' w5 ⟨rfl, rfl, rfl⟩
    exact ⟨_, check_back rfl _ _ (w.heap.size + 1) _ rfl ((G1.set_ 0 _).alloc _), rfl, ((f0.trans f3).setCell_new (p := ⟨w.heap.size + 1, 0, none⟩) (by simp) _).alloc _⟩
  · have HC2 : Hid (Calls Tryz.prog 32 #[.agg #[v0, v1, v2, v3, v4], .int .i64 0] W fun e w' => e = Wr q ∧ Fr NoB W w') := Lib.hid (HC.out.mono (fun e w' h => by rcases h with ⟨h0, _⟩ | ⟨_, h1, h2⟩; exact absurd h0 hz; exact ⟨h1, h2⟩))
    clear HC
    go_enter_defers Tryz.func13, Tryz.ntmps13
    go_wp2_with (first | (rw [HW.out]; refine wpList_load_row rfl 25 _ rfl w.heap.size rfl 25 _ _ _ g0 Tryz.underlying25 rfl size_json ?_) | (go_at_call 32; ((with_reducible refine HC2.out.mono ?_); rintro e w2 ⟨rfl, f3⟩)))
    have G1 := f3.blk g1 (fun e => e)
    refine leaves_cons (f := 31) (args := #[.pointer (some ⟨w.heap.size + 1, 0, none⟩)]) (by simp) (by simp [go_sem]) ?_
    refine (caught_panicking ⟨w.heap.size + 1, 0, none⟩ 0 q [] w2 ((G1.cell 0).trans rfl) (G1.frozen 0) G1.lt).mono ?_
    rintro e' u' w3 ⟨rfl, rfl, rfl⟩
    exact ⟨_, check_back rfl _ _ (w.heap.size + 1) _ rfl ((G1.alloc _).set_ 0 _), rfl, ((f0.trans f3).alloc _).setCell_new (p := ⟨w.heap.size + 1, 0, none⟩) (by simp) _⟩
end Go.Proofs.YteeijmfnjcddmaaGreatDoor
