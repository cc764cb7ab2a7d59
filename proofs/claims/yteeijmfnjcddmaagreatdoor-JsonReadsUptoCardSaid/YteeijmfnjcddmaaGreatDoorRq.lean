/- JSON, the document's reader: Parse. -/
import Derived.Test.YteeijmfnjcddmaaGreatDoorRz
import Derived.Test.YteeijmfnjcddmaaGreatDoorRs
namespace Go.Proofs.YteeijmfnjcddmaaGreatDoor
open Go.RowKit

theorem VQ_all : ∀ d : Nat, d ≤ 32 → VQ d
  | 0, _ => by
    intro b i s w n h hb hi hl hn
    by_cases h34 : byteAt s (i + skipB (s.drop i)) = 34
    · exact qv_text n h hb hi hl h34
    · by_cases h91 : byteAt s (i + skipB (s.drop i)) = 91
      · exact qv_deep h hb hi hl _ h91 (Or.inl rfl) (by omega)
      · by_cases h123 : byteAt s (i + skipB (s.drop i)) = 123
        · exact qv_deep h hb hi hl _ h123 (Or.inr rfl) (by omega)
        · exact qv_word n h hb hi hl h34 h91 h123
  | d + 1, hd => by
    have hV := VQ_all d (by omega)
    intro b i s w n h hb hi hl hn
    by_cases h34 : byteAt s (i + skipB (s.drop i)) = 34
    · exact qv_text n h hb hi hl h34
    · by_cases h91 : byteAt s (i + skipB (s.drop i)) = 91
      · exact qv_list hV (by omega) (by omega) h hb hi hl h91
      · by_cases h123 : byteAt s (i + skipB (s.drop i)) = 123
        · exact qv_obj hV (by omega) (by omega) h hb hi hl h123
        · exact qv_word n h hb hi hl h34 h91 h123

theorem qp_back {fn : Func} (h : fn.results = #[.cell 2 25, .tmp 3]) (tmps : Array Value) (w : World) (g : Nat) (v0 v1 v2 v3 v4 : Value) (n : Int)
    (hp : tmps.getD 2 undef = .pointer (some ⟨g, 0, none⟩)) (hq : tmps.getD 3 undef = .int .i64 n) (hb : Blk w g 25 #[v0, v1, v2, v3, v4]) :
    (results fn tmps).run Tryz.prog w = .ok (.tuple #[.agg #[v0, v1, v2, v3, v4], .int .i64 n]) w := by
  have hp' : tmps[2]?.getD undef = .pointer (some ⟨g, 0, none⟩) := by simpa using hp
  have hq' : tmps[3]?.getD undef = .int .i64 n := by simpa using hq
  simp [results, h, hp', hq', asAddr, run_loadVar_row w g 25 25 _ (0, 0) _ hb Tryz.underlying25 rfl size_json]

theorem nul_set {u : World} {g : Nat} (h : Blk u g 25 zj) : Blk (((((u.setCell ⟨g, 0, none⟩ (.int .i64 0)).setCell ⟨g, 1, none⟩ (.int .i64 0)).setCell ⟨g, 2, none⟩ (.string ⟨#[]⟩)).setCell ⟨g, 3, none⟩ (.slice none 0 0)).setCell ⟨g, 4, none⟩ (.slice none 0 0)) g 25 zj := by
  have := ((((h.set_ 0 (.int .i64 0)).set_ 1 (.int .i64 0)).set_ 2 (.string ⟨#[]⟩)).set_ 3 (.slice none 0 0)).set_ 4 (.slice none 0 0)
  simpa using this
theorem Fr.nul_set {a u : World} {g : Nat} (h : Fr NoB a u) (hg : a.heap.size ≤ g) : Fr NoB a (((((u.setCell ⟨g, 0, none⟩ (.int .i64 0)).setCell ⟨g, 1, none⟩ (.int .i64 0)).setCell ⟨g, 2, none⟩ (.string ⟨#[]⟩)).setCell ⟨g, 3, none⟩ (.slice none 0 0)).setCell ⟨g, 4, none⟩ (.slice none 0 0)) :=
  ((((h.setCell_new (p := ⟨g, 0, none⟩) hg _).setCell_new (p := ⟨g, 1, none⟩) hg _).setCell_new (p := ⟨g, 2, none⟩) hg _).setCell_new (p := ⟨g, 3, none⟩) hg _).setCell_new (p := ⟨g, 4, none⟩) hg _

set_option maxRecDepth 100000 in
set_option maxHeartbeats 6400000 in
theorem rParse_any (s : Bs) (w : World) : Calls Tryz.prog 18 #[.string ⟨s.toArray⟩] w (ParO (parseP s) w) := by
  have f0 : Fr NoB w (w.alloc (.cells zj 25)) := (Fr.refl _ _).alloc _
  have g0 : Blk (w.alloc (.cells zj 25)) w.heap.size 25 zj := Blk.new w 25 zj
  have hsz : (⟨s.toArray⟩ : ByteArray).size = s.length := rfl
  by_cases hlong : 65536 < s.length
  · have hq : parseP s = .error 92 := by unfold parseP; rw [if_pos hlong]
    rw [hq]
    clear hq
    have k1 : (65536 : Int) < (s.length : Int) := by omega
    have gA := g0.setRow zj
    go_enter Tryz.func18, Tryz.ntmps18
    go_wp2_with (refine wpList_store_row rfl 25 _ _ rfl w.heap.size zj rfl rfl 25 zj g0 size_json rfl (one_json _ _ _ _ _ _ _ _ _) ?_)
    exact bodyPost_ret (v := .tuple #[jV 0 0 [] (.slice none 0 0) (.slice none 0 0), .int .i64 92]) (qp_back rfl _ _ w.heap.size _ _ _ _ _ _ rfl rfl gA) rfl ⟨_, rfl, nul_at _ _, f0.setRow w.heap.size _ (Or.inl (Nat.le_refl _))⟩
  · have k1 : ¬ (65536 : Int) < (s.length : Int) := by omega
    have hq : parseP s = (match valueP 32 (blanks s) with | .error e => .error e | .ok (v, r) => if r = [] then .ok v else .error 90) := by
      unfold parseP; rw [if_neg hlong]; rfl
    have f1 : Fr NoB w ((w.alloc (.cells zj 25)).alloc (.cells #[.string ⟨s.toArray⟩, .int .i64 0, .int .i64 0] 72)) := f0.alloc _
    have g1 := g0.alloc (.cells #[.string ⟨s.toArray⟩, .int .i64 0, .int .i64 0] 72)
    have q1 : QSt ((w.alloc (.cells zj 25)).alloc (.cells #[.string ⟨s.toArray⟩, .int .i64 0, .int .i64 0] 72)) (w.heap.size + 1) s 0 0 := by
      have := Blk.new (w.alloc (.cells zj 25)) 72 #[.string ⟨s.toArray⟩, .int .i64 0, .int .i64 0]
      unfold QSt; simpa using this
    generalize hW : ((w.alloc (.cells zj 25)).alloc (.cells #[.string ⟨s.toArray⟩, .int .i64 0, .int .i64 0] 72)) = W at *
    have HW := Lib.hid hW
    clear hW
    have HV := Lib.hid (VQ_all 32 (Nat.le_refl _) (w.heap.size + 1) 0 s W 0 q1 q1.lt (Nat.zero_le _) (by omega) (by omega))
    have hbs : blanks (s.drop 0) = blanks s := rfl
    rw [hbs] at HV
    clear hbs
    generalize valueP 32 (blanks s) = Q at *
    have HPQ := Lib.hid hq
    clear hq
    generalize parseP s = q at *
    go_enter Tryz.func18, Tryz.ntmps18
    go_upto_region 5 with (first | (rw [HW.out]) | (go_at_call 41; ((with_reducible refine HV.out.mono ?_); rintro en w2 hqv; obtain ⟨v0, v1, v2, v3, v4, rfl, hone, f2, hqo⟩ := hqv.form; have n2 := Blk.new w2 25 zj)) | (refine wpList_store_row rfl 25 _ _ rfl w2.heap.size #[v0, v1, v2, v3, v4] rfl rfl 25 zj n2 size_json rfl (all_one hone) ?_))
    obtain ⟨k, e, q2, hd⟩ : ∃ k e, QSt w2 (w.heap.size + 1) s k e ∧ ((e ≠ 0 ∧ Hid (q = .error e)) ∨ (e = 0 ∧ ∃ j, Hid (q = if s.drop k = [] then .ok j else .error 90) ∧ JTop W.heap.size w2 j (.agg #[v0, v1, v2, v3, v4]))) := by
      rcases hqo with ⟨j, r, k, hQ, hj, q2, hdk, _, _⟩ | ⟨e, k, hQ, he, q2, _⟩
      · exact ⟨k, 0, q2, Or.inr ⟨rfl, j, Lib.hid (by rw [HPQ.out, hQ, hdk]), hj⟩⟩
      · exact ⟨k, e, q2, Or.inl ⟨he, Lib.hid (by rw [HPQ.out, hQ])⟩⟩
    obtain ⟨p1, b1⟩ := put_row w2 v0 v1 v2 v3 v4
    have q3 := q2.fr p1
    have g3 := p1.blk (f2.blk g1 (fun (x : w.heap.size = w.heap.size + 1) => by omega)) (fun x => x)
    have f3 := f1.andThen (f2.trans p1.noB) (fun j hj x => by have x' : j = w.heap.size + 1 := x; omega)
    have hWw : w.heap.size + 1 < W.heap.size := q1.lt
    have hw2 : W.heap.size ≤ w2.heap.size := f2.size
    have hUs : w2.heap.size < ((w2.alloc (.cells zj 25)).setRow w2.heap.size #[v0, v1, v2, v3, v4]).heap.size := b1.lt
    generalize (w2.alloc (.cells zj 25)).setRow w2.heap.size #[v0, v1, v2, v3, v4] = U at *
    have hat : ∀ j, JTop W.heap.size w2 j (.agg #[v0, v1, v2, v3, v4]) → RAt (Rng W.heap.size w2.heap.size) U j (.agg #[v0, v1, v2, v3, v4]) := fun j hj => RAt.fr (fun g hg => p1.block g hg.2 (fun x => x)) _ _ hj.at_
    clear n2 hqo p1 q2 HPQ HV
    obtain ⟨c0, c1, c2, z1, z2⟩ := q3.cells
    go_upto_if 21 with fail
    go_cut [] (fun wx => ∃ k e : Nat, QSt wx (w.heap.size + 1) s k e ∧ Blk wx w.heap.size 25 zj ∧ Blk wx w2.heap.size 25 #[v0, v1, v2, v3, v4] ∧ Fr NoB w wx ∧ w2.heap.size < wx.heap.size ∧ ((e ≠ 0 ∧ Hid (q = .error e)) ∨ (e = 0 ∧ ∃ j, Hid (q = .ok j) ∧ RAt (Rng W.heap.size w2.heap.size) wx j (.agg #[v0, v1, v2, v3, v4]))))
    case first =>
      by_cases hkl : k < s.length
      · have k2 : (k : Int) < s.length := by omega
        go_wp2_with (go_at_call 42; ((with_reducible refine (wrong_90w q3).mono ?_); rintro en w4 ⟨rfl, q4, f4⟩))
        go_meet
        refine ⟨k, _, q4, f4.blk g3 (fun (x : w.heap.size = w.heap.size + 1) => by omega), f4.blk b1 (fun (x : w2.heap.size = w.heap.size + 1) => by omega), f3.andThen f4 (fun j hj x => by have x' : j = w.heap.size + 1 := x; omega), Nat.lt_of_lt_of_le hUs f4.size, Or.inl ⟨by split <;> omega, ?_⟩⟩
        rcases hd with ⟨he, h⟩ | ⟨he, j, h, _⟩
        · rw [if_neg he]; exact h
        · rw [if_pos he]
          exact Lib.hid (by rw [h.out, if_neg (by rw [drop_b hkl]; simp)])
      · have k2 : ¬ (k : Int) < s.length := by omega
        go_wp2_with fail
        go_meet
        refine ⟨k, e, q3, g3, b1, f3, hUs, ?_⟩
        rcases hd with h | ⟨he, j, h, hj⟩
        · exact Or.inl h
        · exact Or.inr ⟨he, j, Lib.hid (by rw [h.out, if_pos (List.drop_eq_nil_of_le (by omega))]), hat j hj⟩
    case rest =>
      clear c0 c1 c2 z1 z2 q3 g3 f3 b1 hd hat hUs
      obtain ⟨k', e', q3, g3, b1, f3, hUs, hd⟩ := hcut
      obtain ⟨c0, c1, c2, z1, z2⟩ := q3.cells
      rcases hd with ⟨he, HE⟩ | ⟨rfl, j, HE, hat⟩
      · have ke : ((e' : Int) != 0) = true := by simp; omega
        obtain ⟨a0, a1, a2, a3, a4⟩ := g3.five
        have t0 := g3.frozen 0
        have t1 := g3.frozen 1
        have t2 := g3.frozen 2
        have t3 := g3.frozen 3
        have t4 := g3.frozen 4
        go_upto_region 8 with fail
        go_region
        go_wp2_with fail
        exact bodyPost_ret (v := .tuple #[jV 0 0 [] (.slice none 0 0) (.slice none 0 0), .int .i64 (e' : Int)]) (qp_back rfl _ _ w.heap.size _ _ _ _ _ _ rfl rfl (nul_set g3.drew)) rfl (by rw [HE.out]; exact ⟨_, rfl, nul_at _ _, f3.drew.nul_set (Nat.le_refl _)⟩)
      · go_wp2_with (first | (refine wpList_load_row rfl 25 _ rfl w2.heap.size rfl 25 _ _ _ b1 Tryz.underlying25 rfl size_json ?_) | (refine wpList_store_row rfl 25 _ _ rfl w.heap.size #[v0, v1, v2, v3, v4] rfl rfl 25 zj g3 size_json rfl (all_one hone) ?_))
        have gB := g3.setRow #[v0, v1, v2, v3, v4]
        have fO := Fr.rowO wc w.heap.size #[v0, v1, v2, v3, v4]
        exact bodyPost_ret (v := .tuple #[.agg #[v0, v1, v2, v3, v4], .int .i64 0]) (qp_back rfl _ _ w.heap.size _ _ _ _ _ _ rfl rfl gB) rfl (by rw [HE.out]; exact ⟨_, rfl, RAt.mono (fun g hg => Nat.lt_of_lt_of_le (Nat.lt_trans hg.2 hUs) fO.size) _ _ (RAt.fr (fun g hg => fO.block g (Nat.lt_trans hg.2 hUs) (fun (x : g = w.heap.size) => by have := hg.1; omega)) _ _ hat), f3.andThen fO (fun i hi x => by have x' : i = w.heap.size := x; omega)⟩)
end Go.Proofs.YteeijmfnjcddmaaGreatDoor
