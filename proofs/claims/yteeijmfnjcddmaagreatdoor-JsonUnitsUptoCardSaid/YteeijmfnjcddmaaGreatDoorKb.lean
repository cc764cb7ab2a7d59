/- JSON: the program's Parse. -/
import Derived.Test.YteeijmfnjcddmaaGreatDoorKa
import Derived.Recover
namespace Go.Proofs.YteeijmfnjcddmaaGreatDoor
open Go.RowKit

theorem load_errno (w : World) (g : Nat) (n : Int) (hb : Blk w g 27 #[.int .i64 n]) : (loadVar 27 ⟨g, 0, none⟩).run Tryz.prog w = .ok (.int .i64 n) w := by
  have hc : w.cell? ⟨g, 0, none⟩ = some (.int .i64 n) := (hb.cell 0).trans rfl
  simp [loadVar, isAgg, run_underlying Tryz.underlying27, hc, go_sem]
theorem parse_back {fn : Func} (h : fn.results = #[.cell 2 25, .cell 3 27]) (tmps : Array Value) (w : World) (g e : Nat) (v0 v1 v2 v3 v4 : Value) (n : Int)
    (hp : tmps.getD 2 undef = .pointer (some ⟨g, 0, none⟩)) (hq : tmps.getD 3 undef = .pointer (some ⟨e, 0, none⟩)) (hb : Blk w g 25 #[v0, v1, v2, v3, v4]) (he : Blk w e 27 #[.int .i64 n]) :
    (results fn tmps).run Tryz.prog w = .ok (.tuple #[.agg #[v0, v1, v2, v3, v4], .int .i64 n]) w := by
  have hp' : tmps[2]?.getD undef = .pointer (some ⟨g, 0, none⟩) := by simpa using hp
  have hq' : tmps[3]?.getD undef = .pointer (some ⟨e, 0, none⟩) := by simpa using hq
  simp [results, h, hp', hq', asAddr, run_loadVar_row w g 25 25 _ (0, 0) _ hb Tryz.underlying25 rfl size_json, load_errno w e n he]

/-- What Parse hands back. -/
def ParIs (q : Except Nat Jv) (w : World) (e : Ending) (w' : World) : Prop :=
  match q with
  | .ok j => ∃ v, e = .returned (.tuple #[v, .int .i64 0]) ∧ JTop w.heap.size w' j v ∧ Fr NoB w w'
  | .error n => e = .returned (.tuple #[jV 0 0 [] (.slice none 0 0) (.slice none 0 0), .int .i64 (n : Int)]) ∧ Fr NoB w w'

set_option maxRecDepth 100000 in
set_option maxHeartbeats 3200000 in
theorem parse_any {B : Nat} (s : Bs) (w : World) (hx : Cx B w) (hl : s.length ≤ 9223372036854775807) : Calls Tryz.prog 17 #[.string ⟨s.toArray⟩] w (ParIs (parseP s) w) := by
  have hBw := hx.le
  have f0 : Fr NoB w ((w.alloc (.cells zj 25)).alloc (.cells #[.int .i64 0] 27)) := ((Fr.refl _ _).alloc _).alloc _
  have g0 : Blk ((w.alloc (.cells zj 25)).alloc (.cells #[.int .i64 0] 27)) w.heap.size 25 zj := (Blk.new w 25 zj).alloc _
  have g1 : Blk ((w.alloc (.cells zj 25)).alloc (.cells #[.int .i64 0] 27)) (w.heap.size + 1) 27 #[.int .i64 0] := by
    have := Blk.new (w.alloc (.cells zj 25)) 27 #[.int .i64 0]
    simpa using this
  by_cases hlong : 65536 < s.length
  · have hq : parseP s = .error 92 := by unfold parseP; rw [if_pos hlong]
    rw [hq]
    clear hq
    have fO := Fr.rowO ((w.alloc (.cells zj 25)).alloc (.cells #[.int .i64 0] 27)) w.heap.size zj
    have gA := g0.setRow zj
    have gB := fO.blk g1 (fun e => by have e' : w.heap.size + 1 = w.heap.size := e; omega)
    have hc1 : (((w.alloc (.cells zj 25)).alloc (.cells #[.int .i64 0] 27)).setRow w.heap.size zj).cell? ⟨w.heap.size + 1, 0, none⟩ = some (.int .i64 0) := (gB.cell 0).trans rfl
    have hz1 := gB.frozen 0
    go_enter_defers Tryz.func17, Tryz.ntmps17
    go_wp2_with (first | (refine wpList_load_row rfl 25 _ rfl w.heap.size rfl 25 _ _ _ g0 Tryz.underlying25 rfl size_json ?_) | (refine wpList_store_row rfl 25 _ _ rfl w.heap.size zj rfl rfl 25 zj g0 size_json rfl (one_json _ _ _ _ _ _ _ _ _) ?_))
    have gC := gB.set_ 0 (.int .i64 92)
    have gD := gA.far (p := ⟨w.heap.size + 1, 0, none⟩) (by simp) (.int .i64 92)
    exact ⟨_, parse_back rfl _ _ w.heap.size (w.heap.size + 1) _ _ _ _ _ _ rfl rfl gD gC, rfl, (f0.setRow w.heap.size zj (Or.inl (Nat.le_refl _))).setCell_new (p := ⟨w.heap.size + 1, 0, none⟩) (by simp) _⟩
  · have f1 : Fr NoB w (((w.alloc (.cells zj 25)).alloc (.cells #[.int .i64 0] 27)).alloc (.cells #[.string ⟨s.toArray⟩] 67)) := f0.alloc _
    have r1 : Rd (((w.alloc (.cells zj 25)).alloc (.cells #[.int .i64 0] 27)).alloc (.cells #[.string ⟨s.toArray⟩] 67)) (w.heap.size + 2) s := by
      have := Blk.new ((w.alloc (.cells zj 25)).alloc (.cells #[.int .i64 0] 27)) 67 #[.string ⟨s.toArray⟩]
      unfold Rd; simpa using this
    have g0' := g0.alloc (.cells #[.string ⟨s.toArray⟩] 67)
    have g1' := g1.alloc (.cells #[.string ⟨s.toArray⟩] 67)
    have X1 := hx.fr0 f1
    have hbl := blanks_len s
    generalize hW : (((w.alloc (.cells zj 25)).alloc (.cells #[.int .i64 0] 27)).alloc (.cells #[.string ⟨s.toArray⟩] 67)) = W at f1 r1 g0' g1' X1
    have HW := Lib.hid hW
    clear hW
    have hq : parseP s = (match valueP 32 (blanks s) with | .error e => .error e | .ok (v, r) => if r = [] then .ok v else .error 90) := by
      unfold parseP; rw [if_neg hlong]; rfl
    cases hv : valueP 32 (blanks s) with
    | error e =>
      have hq2 : parseP s = .error e := by rw [hq, hv]
      rw [hq2]
      have HV : Hid (∀ w' : World, Cx B w' → Rd w' (w.heap.size + 2) (blanks s) → Calls Tryz.prog 39 #[.pointer (some ⟨w.heap.size + 2, 0, none⟩), .int .i64 0] w' (ValIs (.error e) (w.heap.size + 2) w')) := Lib.hid (fun w' hx' hr' => by have := VC_all 32 (Nat.le_refl _) (w.heap.size + 2) (blanks s) 0 w' hx' (by omega) hr' (by omega) (by simp); rwa [hv] at this)
      clear hq hv hq2
      go_enter_defers Tryz.func17, Tryz.ntmps17
      go_wp2_with (first | (rw [HW.out]; go_at_call 38; ((with_reducible refine (blanks_any _ s _ r1).mono ?_); rintro e w1 ⟨rfl, f2, r2⟩; have X2 := X1.fr f2 (fun k e => by rw [show k = w.heap.size + 2 from e]; omega))) | (go_at_call 39; ((with_reducible refine (HV.out _ X2 r2).mono ?_); rintro e w2 ⟨rfl, f3⟩)))
      have g0a := f3.blk (f2.blk g0' (fun e => by have e' : w.heap.size = w.heap.size + 2 := e; omega)) (fun e => by have e' : w.heap.size = w.heap.size + 2 := e; omega)
      have g1a := f3.blk (f2.blk g1' (fun e => by have e' : w.heap.size + 1 = w.heap.size + 2 := e; omega)) (fun e => by have e' : w.heap.size + 1 = w.heap.size + 2 := e; omega)
      have fin := f1.andThen (f2.trans f3) (fun j hj e => by have e' : j = w.heap.size + 2 := e; omega)
      refine leaves_cons (f := 31) (args := #[.pointer (some ⟨w.heap.size + 1, 0, none⟩)]) (by simp) (by simp [go_sem]) ?_
      refine (caught_panicking ⟨w.heap.size + 1, 0, none⟩ 0 e [] w2 ((g1a.cell 0).trans rfl) (g1a.frozen 0) g1a.lt).mono ?_
      rintro e' u' w3 ⟨rfl, rfl, rfl⟩
      exact ⟨_, parse_back rfl _ _ w.heap.size (w.heap.size + 1) _ _ _ _ _ _ rfl rfl ((g0a.alloc _).far (p := ⟨w.heap.size + 1, 0, none⟩) (by simp) _) ((g1a.alloc _).set_ 0 _), rfl, (fin.alloc _).setCell_new (p := ⟨w.heap.size + 1, 0, none⟩) (by simp) _⟩
    | ok p =>
      obtain ⟨j, r⟩ := p
      have HV : Hid (∀ w' : World, Cx B w' → Rd w' (w.heap.size + 2) (blanks s) → Calls Tryz.prog 39 #[.pointer (some ⟨w.heap.size + 2, 0, none⟩), .int .i64 0] w' (ValIs (.ok (j, r)) (w.heap.size + 2) w')) := Lib.hid (fun w' hx' hr' => by have := VC_all 32 (Nat.le_refl _) (w.heap.size + 2) (blanks s) 0 w' hx' (by omega) hr' (by omega) (by simp); rwa [hv] at this)
      have hq2 : parseP s = if r = [] then .ok j else .error 90 := by rw [hq, hv]
      by_cases hr : r = []
      · have hq3 : parseP s = .ok j := by rw [hq2, if_pos hr]
        rw [hq3]
        subst hr
        clear hq hv hq2 hq3
        go_enter_defers Tryz.func17, Tryz.ntmps17
        go_wp2_with (first | (rw [HW.out]; go_at_call 38; ((with_reducible refine (blanks_any _ s _ r1).mono ?_); rintro e w1 ⟨rfl, f2, r2⟩; have X2 := X1.fr f2 (fun k e => by rw [show k = w.heap.size + 2 from e]; omega))) | (go_at_call 39; ((with_reducible refine (HV.out _ X2 r2).mono ?_); rintro e w2 ⟨v, rfl, hj, f3, r3⟩; obtain ⟨v0, v1, v2, v3, v4, rfl, h1c⟩ := hj.form; have n2 := Blk.new w2 25 zj)) | (refine wpList_store_row rfl 25 _ _ rfl w2.heap.size #[v0, v1, v2, v3, v4] rfl rfl 25 zj n2 size_json rfl (all_one h1c) ?_; have n3 := n2.setRow #[v0, v1, v2, v3, v4]; have f4 : Fr NoB w2 ((w2.alloc (.cells zj 25)).setRow w2.heap.size #[v0, v1, v2, v3, v4]) := ((Fr.refl NoB w2).alloc _).setRow w2.heap.size _ (Or.inl (Nat.le_refl _)); clear n2; generalize (w2.alloc (.cells zj 25)).setRow w2.heap.size #[v0, v1, v2, v3, v4] = W3 at n3 f4 ⊢; have R3 := r3.fr f4 (fun e => e); have c3 := R3.cell; have G0 := f4.blk (f3.blk (f2.blk g0' (fun e => by have e' : w.heap.size = w.heap.size + 2 := e; omega)) (fun e => by have e' : w.heap.size = w.heap.size + 2 := e; omega)) (fun e => e); have G1 := f4.blk (f3.blk (f2.blk g1' (fun e => by have e' : w.heap.size + 1 = w.heap.size + 2 := e; omega)) (fun e => by have e' : w.heap.size + 1 = w.heap.size + 2 := e; omega)) (fun e => e)) | (go_at_call 40; ((with_reducible refine (must_ok _ _ _ (by rfl)).mono ?_); rintro e w4 ⟨rfl, rfl⟩)) | (refine wpList_load_row rfl 25 _ rfl w2.heap.size rfl 25 _ _ _ n3 Tryz.underlying25 rfl size_json ?_) | (refine wpList_store_row rfl 25 _ _ rfl w.heap.size #[v0, v1, v2, v3, v4] rfl rfl 25 zj G0 size_json rfl (all_one h1c) ?_; have f5 := Fr.rowO W3 w.heap.size #[v0, v1, v2, v3, v4]; have G2 := f5.blk G1 (fun e => by have e' : w.heap.size + 1 = w.heap.size := e; omega); have G3 := G0.setRow #[v0, v1, v2, v3, v4]; generalize W3.setRow w.heap.size #[v0, v1, v2, v3, v4] = W4 at f5 G2 G3 ⊢; have c5 : W4.cell? ⟨w.heap.size + 1, 0, none⟩ = some (.int .i64 0) := (G2.cell 0).trans rfl; have z5 := G2.frozen 0))
        have hs1 : w.heap.size + 3 ≤ w1.heap.size := by have a := r1.lt; have b := f2.size; omega
        have fin := ((f1.andThen (f2.trans f3) (fun j hj e => by have e' : j = w.heap.size + 2 := e; omega)).trans f4).andThen f5 (fun j hj e => by have e' : j = w.heap.size := e; omega)
        have fS := (Fr.refl (Only (w.heap.size + 1)) W4).only (o := 0) (.int .i64 0)
        refine leaves_cons (f := 31) (args := #[.pointer (some ⟨w.heap.size + 1, 0, none⟩)]) (by simp) (by simp [go_sem]) ?_
        refine (caught_idle ⟨w.heap.size + 1, 0, none⟩ _).mono ?_
        rintro e' u' w5 ⟨rfl, rfl, rfl⟩
        refine ⟨_, parse_back rfl _ _ w.heap.size (w.heap.size + 1) _ _ _ _ _ _ rfl rfl ((G3.far (p := ⟨w.heap.size + 1, 0, none⟩) (by simp) _).alloc _) ((G2.set_ 0 _).alloc _), _, rfl, ?_, ?_⟩
        · have j4 := hj.fr f4 (fun _ _ e => e) (Nat.le_refl _)
          have j5 := j4.fr f5 (fun g hg e => by have e' : g = w.heap.size := e; omega) (Nat.le_refl _)
          have j6 := j5.fr fS (fun g hg e => by have e' : g = w.heap.size + 1 := e; omega) (Nat.le_refl _)
          exact j6.fr ((Fr.refl NoB _).alloc _) (fun _ _ e => e) (by omega)
        · exact (fin.setCell_new (p := ⟨w.heap.size + 1, 0, none⟩) (by simp) _).alloc _
      · have hq3 : parseP s = .error 90 := by rw [hq2, if_neg hr]
        rw [hq3]
        have hne : (r == []) = false := by simpa using hr
        clear hq hv hq2 hq3
        go_enter_defers Tryz.func17, Tryz.ntmps17
        go_wp2_with (first | (rw [HW.out]; go_at_call 38; ((with_reducible refine (blanks_any _ s _ r1).mono ?_); rintro e w1 ⟨rfl, f2, r2⟩; have X2 := X1.fr f2 (fun k e => by rw [show k = w.heap.size + 2 from e]; omega))) | (go_at_call 39; ((with_reducible refine (HV.out _ X2 r2).mono ?_); rintro e w2 ⟨v, rfl, hj, f3, r3⟩; obtain ⟨v0, v1, v2, v3, v4, rfl, h1c⟩ := hj.form; have n2 := Blk.new w2 25 zj)) | (refine wpList_store_row rfl 25 _ _ rfl w2.heap.size #[v0, v1, v2, v3, v4] rfl rfl 25 zj n2 size_json rfl (all_one h1c) ?_; have n3 := n2.setRow #[v0, v1, v2, v3, v4]; have f4 : Fr NoB w2 ((w2.alloc (.cells zj 25)).setRow w2.heap.size #[v0, v1, v2, v3, v4]) := ((Fr.refl NoB w2).alloc _).setRow w2.heap.size _ (Or.inl (Nat.le_refl _)); clear n2; generalize (w2.alloc (.cells zj 25)).setRow w2.heap.size #[v0, v1, v2, v3, v4] = W3 at n3 f4 ⊢; have R3 := r3.fr f4 (fun e => e); have c3 := R3.cell; have G0 := f4.blk (f3.blk (f2.blk g0' (fun e => by have e' : w.heap.size = w.heap.size + 2 := e; omega)) (fun e => by have e' : w.heap.size = w.heap.size + 2 := e; omega)) (fun e => e); have G1 := f4.blk (f3.blk (f2.blk g1' (fun e => by have e' : w.heap.size + 1 = w.heap.size + 2 := e; omega)) (fun e => by have e' : w.heap.size + 1 = w.heap.size + 2 := e; omega)) (fun e => e)) | (go_at_call 40; ((with_reducible refine (must_bad _ _ _ (by first | rfl | (simp; done) | simpa using hr)).mono ?_); rintro e w4 ⟨rfl, rfl⟩)))
        have fin := (f1.andThen (f2.trans f3) (fun j hj e => by have e' : j = w.heap.size + 2 := e; omega)).trans f4
        refine leaves_cons (f := 31) (args := #[.pointer (some ⟨w.heap.size + 1, 0, none⟩)]) (by simp) (by simp [go_sem]) ?_
        refine (caught_panicking ⟨w.heap.size + 1, 0, none⟩ 0 90 [] W3 ((G1.cell 0).trans rfl) (G1.frozen 0) G1.lt).mono ?_
        rintro e' u' w5 ⟨rfl, rfl, rfl⟩
        exact ⟨_, parse_back rfl _ _ w.heap.size (w.heap.size + 1) _ _ _ _ _ _ rfl rfl ((G0.alloc _).far (p := ⟨w.heap.size + 1, 0, none⟩) (by simp) _) ((G1.alloc _).set_ 0 _), rfl, (fin.alloc _).setCell_new (p := ⟨w.heap.size + 1, 0, none⟩) (by simp) _⟩
end Go.Proofs.YteeijmfnjcddmaaGreatDoor
