/- JSON: Get: the value of a key; Texts. -/
import Derived.Test.YteeijmfnjcddmaaGreatDoorLt
namespace Go.Proofs.YteeijmfnjcddmaaGreatDoor
open Go.RowKit

/-- The first place of a key. -/
def idxP (ks : List Bs) (key : Bs) : Option Nat := ks.findIdx? (fun s => s == key)
/-- A place, or -1. -/
def placeI : Option Nat → Int | some n => n | none => -1
theorem ba_inj {a b : Bs} : ((⟨a.toArray⟩ : ByteArray) = ⟨b.toArray⟩) ↔ a = b := by
  constructor
  · intro h; injection h with h; simpa using congrArg Array.toList h
  · rintro rfl; rfl
theorem idxFrom_eq (key : Bs) : ∀ (ks : List Bs) (i : Nat), Lib.idxFromS (ks.map (fun s : Bs => (⟨s.toArray⟩ : ByteArray))) ⟨key.toArray⟩ i = placeI ((idxP ks key).map (· + i))
  | [], i => by simp [Lib.idxFromS, idxP, placeI]
  | s :: r, i => by
    have ih := idxFrom_eq key r (i + 1)
    unfold idxP at ih ⊢
    rw [List.map_cons, Lib.idxFromS, List.findIdx?_cons]
    by_cases h : s = key
    · subst h
      simp [placeI]
    · have h2 : ¬ ((⟨s.toArray⟩ : ByteArray) = ⟨key.toArray⟩) := fun e => h (ba_inj.1 e)
      have h3 : (s == key) = false := by simpa using h
      rw [h3]
      simp only [h2, if_false, ih, Bool.false_eq_true]
      congr 1
      rw [Option.map_map]
      congr 1
      funext x
      simp only [Function.comp_apply]
      omega
theorem idx_eq (key : Bs) (ks : List Bs) : Lib.idxOfS (ks.map (fun s : Bs => (⟨s.toArray⟩ : ByteArray))) ⟨key.toArray⟩ = placeI (idxP ks key) := by
  have := idxFrom_eq key ks 0
  simpa [Lib.idxOfS] using this

theorem index_any (S : Nat → Prop) (ks : List Bs) (kv : Value) (key : Bs) (w : World) (h : InMem S w kv ks.length (ks.map sV)) (hl : ks.length ≤ big) :
    Calls Tryz.prog 43 #[kv, .string ⟨key.toArray⟩] w fun e w' => e = .returned (.int .i64 (placeI (idxP ks key))) ∧ w = w' := by
  rcases h with ⟨h0, a, c, rfl⟩ | ⟨g, o, c, rfl, hg, hc⟩
  · have hks : ks = [] := List.eq_nil_of_length_eq_zero h0
    subst hks
    refine (Tryz.slices_Index_string_empty a c ⟨key.toArray⟩ w).mono ?_
    rintro e w' ⟨rfl, rfl⟩
    exact ⟨rfl, rfl⟩
  · refine (Tryz.slices_Index_string g o ks.length c (ks.map (fun s : Bs => (⟨s.toArray⟩ : ByteArray))) ⟨key.toArray⟩ w (by simp) (by unfold big at hl; omega) ?_).mono ?_
    · intro j hj
      have hj' : j < ks.length := by simpa using hj
      have := hc j (sV ks[j]) (by simp [hj'])
      rw [this]
      simp [List.getD, hj']
    · rintro e w' ⟨rfl, rfl⟩
      refine ⟨?_, rfl⟩
      rw [List.take_of_length_le (by simp), idx_eq]

/-- What Get finds. -/
def getP : Jv → Bs → Option Jv
  | .mk k _ _ l ks, key => if k = 6 then (idxP ks key).bind (fun i => l[i]?) else none

theorem get_back {fn : Func} (h : fn.results = #[.cell 4 25, .tmp 5]) (tmps : Array Value) (w : World) (g : Nat) (v0 v1 v2 v3 v4 : Value) (n : Value)
    (hp : tmps.getD 4 undef = .pointer (some ⟨g, 0, none⟩)) (hq : tmps.getD 5 undef = n) (hb : Blk w g 25 #[v0, v1, v2, v3, v4]) :
    (results fn tmps).run Tryz.prog w = .ok (.tuple #[.agg #[v0, v1, v2, v3, v4], n]) w := by
  have hp' : tmps[4]?.getD undef = .pointer (some ⟨g, 0, none⟩) := by simpa using hp
  have hq' : tmps[5]?.getD undef = n := by simpa using hq
  simp [results, h, hp', hq', asAddr, run_loadVar_row w g 25 25 _ (0, 0) _ hb Tryz.underlying25 rfl size_json]
theorem nul_at (S : Nat → Prop) (w : World) : RAt S w Jv.nul (jV 0 0 [] (.slice none 0 0) (.slice none 0 0)) := by
  simp only [Jv.nul, RAt]
  exact ⟨_, _, rfl, by unfold IntOk; omega, by unfold IntOk; omega, by unfold big; simp, ⟨Or.inl ⟨rfl, _, _, rfl⟩, by unfold big; simp, by simp⟩, by unfold big; simp, [], by simp [RCells], Or.inl ⟨rfl, _, _, rfl⟩⟩

set_option maxRecDepth 100000 in
set_option maxHeartbeats 3200000 in
theorem get_any (S : Nat → Prop) (j : Jv) (v : Value) (key : Bs) (w : World) (hS : ∀ g, S g → g < w.heap.size) (hat : RAt S w j v) :
    Calls Tryz.prog 20 #[v, .string ⟨key.toArray⟩] w fun e w' => ∃ u, e = .returned (.tuple #[u, .bool (getP j key).isSome]) ∧ RAt S w' ((getP j key).getD Jv.nul) u ∧ Fr NoB w w' := by
  cases j with
  | mk k i t l ks =>
  simp only [RAt] at hat
  obtain ⟨lv, kv, rfl, hk, hi, ht, hks, hl, cs, hcs, hlm⟩ := hat
  obtain ⟨la, lc, rfl⟩ : ∃ a c, lv = .slice a l.length c := by
    rcases hlm with ⟨h0, a, c, rfl⟩ | ⟨g, o, c, rfl, hg, hc⟩
    · exact ⟨a, c, by rw [h0]⟩
    · exact ⟨_, c, rfl⟩
  have hgp : getP (.mk k i t l ks) key = if k = 6 then (idxP ks key).bind (fun i => l[i]?) else none := rfl
  rw [hgp]
  have f0 : Fr NoB w (w.alloc (.cells #[.int .i64 k, .int .i64 i, .string ⟨t.toArray⟩, .slice la l.length lc, kv] 25)) := (Fr.refl _ _).alloc _
  have g0 := Blk.new w 25 #[.int .i64 k, .int .i64 i, .string ⟨t.toArray⟩, .slice la l.length lc, kv]
  generalize hW0 : w.alloc (.cells #[.int .i64 k, .int .i64 i, .string ⟨t.toArray⟩, .slice la l.length lc, kv] 25) = W0 at f0 g0
  have f1 : Fr NoB W0 (W0.alloc (.cells zj 25)) := (Fr.refl _ _).alloc _
  have g1 := Blk.new W0 25 zj
  have g0' := f1.blk g0 (fun e => e)
  have hs0 : W0.heap.size = w.heap.size + 1 := by rw [← hW0]; simp
  rw [hs0] at g1
  generalize hW : W0.alloc (.cells zj 25) = W at f1 g1 g0'
  have f := f0.trans f1
  have HW : Hid ((w.alloc (.cells #[.int .i64 k, .int .i64 i, .string ⟨t.toArray⟩, .slice la l.length lc, kv] 25)).alloc (.cells zj 25) = W) := Lib.hid (by rw [hW0, hW])
  have HI := Lib.hid (index_any S ks kv key W (hks.1.fr (fun g hg => f.block g (hS g hg) (fun e => e))) hks.2.1)
  have c0 : W.cell? ⟨w.heap.size, 0, none⟩ = some (.int .i64 k) := (g0'.cell 0).trans rfl
  have c3 : W.cell? ⟨w.heap.size, 3, none⟩ = some (.slice la l.length lc) := (g0'.cell 3).trans rfl
  have c4 : W.cell? ⟨w.heap.size, 4, none⟩ = some kv := (g0'.cell 4).trans rfl
  clear hW hW0 f0 f1 hs0 g0 g0'
  have hone : (zj.all (·.oneCell')) = true := one_json _ _ _ _ _ _ _ _ _
  by_cases h6 : k = 6
  · subst h6
    rw [if_pos rfl]
    cases hx : idxP ks key with
    | none =>
      rw [hx] at HI
      clear hx
      go_enter Tryz.func20, Tryz.ntmps20
      go_wp2_with (first | (go_at_call 43; (rw [HW.out]; (with_reducible refine HI.out.mono ?_); rintro e w1 ⟨rfl, rfl⟩)) | (refine wpList_store_row rfl 25 _ _ rfl (w.heap.size + 1) zj rfl rfl 25 zj g1 size_json rfl hone ?_))
      exact bodyPost_ret (v := .tuple #[jV 0 0 [] (.slice none 0 0) (.slice none 0 0), .bool false]) (get_back rfl _ _ (w.heap.size + 1) _ _ _ _ _ _ rfl rfl (g1.setRow zj)) rfl ⟨_, rfl, nul_at S _, f.setRow (w.heap.size + 1) _ (Or.inl (by omega))⟩
    | some p =>
      rw [hx] at HI
      clear hx
      have e0 : placeI (some p) = (p : Int) := rfl
      rw [e0] at HI
      have hbnd : (Option.some p).bind (fun i => l[i]?) = l[p]? := rfl
      rw [hbnd]
      by_cases hp : p < l.length
      · rw [List.getElem?_eq_getElem hp]
        rcases hlm with ⟨h0, _⟩ | ⟨gl, ol, cl, he, hgl, hcell⟩
        · omega
        · simp only [Value.slice.injEq, true_and] at he
          obtain ⟨rfl, rfl⟩ := he
          obtain ⟨v0, v1, v2, v3, v4, a0, a1, a2, a3, a4, hatx⟩ := RCells.get l cs p hp hcs
          have cc : ∀ (q : Nat) z, cs[q]? = some z → W.cell? ⟨gl, ol + q, none⟩ = some z := fun q z hz => (f.cell (p := ⟨gl, ol + q, none⟩) (hS gl hgl) (fun e => e)).trans (hcell q z hz)
          have d0 : W.cell? ⟨gl, ol + p * 5, none⟩ = some v0 := cc _ _ a0
          have d1 : W.cell? ⟨gl, ol + p * 5 + 1, none⟩ = some v1 := cc _ _ a1
          have d2 : W.cell? ⟨gl, ol + p * 5 + 2, none⟩ = some v2 := cc _ _ a2
          have d3 : W.cell? ⟨gl, ol + p * 5 + 3, none⟩ = some v3 := cc _ _ a3
          have d4 : W.cell? ⟨gl, ol + p * 5 + 4, none⟩ = some v4 := cc _ _ a4
          have h1c := all_one hatx.one
          clear cc hcell a0 a1 a2 a3 a4 hone
          generalize l[p] = x at *
          go_enter Tryz.func20, Tryz.ntmps20
          go_wp2_with (first | (go_at_call 43; (rw [HW.out]; (with_reducible refine HI.out.mono ?_); rintro e w1 ⟨rfl, rfl⟩)) | (refine wpList_store_row rfl 25 _ _ rfl (w.heap.size + 1) #[v0, v1, v2, v3, v4] rfl rfl 25 zj g1 size_json rfl h1c ?_))
          have fS := f.setRow (w.heap.size + 1) #[v0, v1, v2, v3, v4] (Or.inl (by omega))
          exact bodyPost_ret (v := .tuple #[.agg #[v0, v1, v2, v3, v4], .bool true]) (get_back rfl _ _ (w.heap.size + 1) _ _ _ _ _ _ rfl rfl (g1.setRow #[v0, v1, v2, v3, v4])) rfl ⟨_, rfl, RAt.fr (fun g hg => fS.block g (hS g hg) (fun e => e)) x _ hatx, fS⟩
      · rw [List.getElem?_eq_none (by omega)]
        have hpi : ¬ (p : Int) < (l.length : Int) := by omega
        go_enter Tryz.func20, Tryz.ntmps20
        go_wp2_with (first | (go_at_call 43; (rw [HW.out]; (with_reducible refine HI.out.mono ?_); rintro e w1 ⟨rfl, rfl⟩)) | (refine wpList_store_row rfl 25 _ _ rfl (w.heap.size + 1) zj rfl rfl 25 zj g1 size_json rfl hone ?_))
        exact bodyPost_ret (v := .tuple #[jV 0 0 [] (.slice none 0 0) (.slice none 0 0), .bool false]) (get_back rfl _ _ (w.heap.size + 1) _ _ _ _ _ _ rfl rfl (g1.setRow zj)) rfl ⟨_, rfl, nul_at S _, f.setRow (w.heap.size + 1) _ (Or.inl (by omega))⟩
  · rw [if_neg h6]
    generalize placeI (idxP ks key) = pp at HI
    go_enter Tryz.func20, Tryz.ntmps20
    go_wp2_with (first | (go_at_call 43; (rw [HW.out]; (with_reducible refine HI.out.mono ?_); rintro e w1 ⟨rfl, rfl⟩)) | (refine wpList_store_row rfl 25 _ _ rfl (w.heap.size + 1) zj rfl rfl 25 zj g1 size_json rfl hone ?_))
    exact bodyPost_ret (v := .tuple #[jV 0 0 [] (.slice none 0 0) (.slice none 0 0), .bool false]) (get_back rfl _ _ (w.heap.size + 1) _ _ _ _ _ _ rfl rfl (g1.setRow zj)) rfl ⟨_, rfl, nul_at S _, f.setRow (w.heap.size + 1) _ (Or.inl (by omega))⟩
end Go.Proofs.YteeijmfnjcddmaaGreatDoor
