/- JSON: the program's reader: nested. -/
import Derived.Test.YteeijmfnjcddmaaGreatDoorJy
import Derived.Deep.CutBlock
import Derived.Deep.RegionHeld3
import Derived.Deep.DrawnRows
import Derived.IntWalk
namespace Go.Proofs.YteeijmfnjcddmaaGreatDoor
open Go.RowKit
attribute [local go_sem ↓] Go.wp_at_zero Go.wp_at_succ

/-- What value has to do, so many levels from the end. -/
def VC (d : Nat) : Prop := ∀ {B : Nat} (b : Nat) (s : Bs) (n : Int) (w : World), Cx B w → B ≤ b → Rd w b s → s.length ≤ 65536 → n = 32 - (d : Int) →
  Calls Tryz.prog 39 #[.pointer (some ⟨b, 0, none⟩), .int .i64 n] w (ValIs (valueP d s) b w)
/-- The kind of what is nested. -/
def nkP (obj : Bool) : Int := if obj then 6 else 5
theorem nk_ok (obj : Bool) : IntOk (nkP obj) := by unfold IntOk nkP; cases obj <;> simp
/-- itemsP behind the key. -/
def itemP (val : Bs → Pr) (obj : Bool) (close : UInt8) (f : Nat) (s2 : Bs) (l : List Jv) (ks' : List Bs) : Pr :=
  match val s2 with
  | .error e => .error e
  | .ok (v, s3) =>
    match takeP [close] s3 with
    | some s4 => .ok (.mk (if obj then 6 else 5) 0 [] (l ++ [v]) ks', s4)
    | none =>
      match takeP [44] s3 with
      | none => .error 90
      | some s4 => itemsP val obj close f s4 (l ++ [v]) ks'
theorem items_succ (val : Bs → Pr) (obj : Bool) (close : UInt8) (f : Nat) (s : Bs) (l : List Jv) (ks : List Bs) :
    itemsP val obj close (f + 1) s l ks = match keyP obj s ks with | .error e => .error e | .ok (ks', s2) => itemP val obj close f s2 l ks' := by
  rw [itemsP]; cases keyP obj s ks with
  | error e => rfl
  | ok p => rfl

/-- nested's state: the result's block H, the variable's H + 1, the rows behind them. -/
structure NSt (w0 : World) (b : Nat) (k : Int) (s : Bs) (l : List Jv) (ks : List Bs) (w : World) (lv kv : Value) : Prop where
  rd : Rd w b s
  res : Blk w w0.heap.size 25 zj
  var : Blk w (w0.heap.size + 1) 25 #[.int .i64 k, .int .i64 0, .string ⟨#[]⟩, lv, kv]
  rows : JRows (w0.heap.size + 2) w l ks lv kv
  fr : Fr (Only b) w0 w
  sz : w0.heap.size + 2 ≤ w.heap.size
  len : s.length + l.length ≤ 65536
  keys : ks.length ≤ l.length + 1 ∧ ∀ s ∈ ks, s.length ≤ big

/-- nested's loop. -/
def NInv (w0 : World) (b : Nat) (obj : Bool) (q : Pr) (val : Bs → Pr) (close : UInt8) (gk : Nat) (wr : World) : Prop :=
  ∃ (s : Bs) (l : List Jv) (ks : List Bs) (lv kv : Value), NSt w0 b (nkP obj) s l ks wr lv kv ∧ ks.length ≤ l.length ∧ itemsP val obj close gk s l ks = q ∧ s.length < gk
/-- .. behind the key. -/
def NMid (w0 : World) (b : Nat) (obj : Bool) (q : Pr) (val : Bs → Pr) (close : UInt8) (f m : Nat) (wr : World) : Prop :=
  ∃ (s : Bs) (l : List Jv) (ks : List Bs) (lv kv : Value), NSt w0 b (nkP obj) s l ks wr lv kv ∧ itemP val obj close f s l ks = q ∧ s.length ≤ m

theorem take_some {s p r : Bs} (h : takeP p s = some r) : Lib.hasPrefix s p = true ∧ r = blanks (s.drop p.length) := by
  unfold takeP at h
  split at h
  · rename_i hp
    cases h
    exact ⟨List.isPrefixOf_iff_prefix.2 hp, rfl⟩
  · cases h
theorem take_none {s p : Bs} (h : takeP p s = none) : Lib.hasPrefix s p = false := by
  unfold takeP at h
  split at h
  · cases h
  · rename_i hp
    cases hq : Lib.hasPrefix s p
    · rfl
    · exact absurd (List.isPrefixOf_iff_prefix.1 hq) hp
/-- take, at what is read plainly. -/
theorem take_is {b : Nat} {s p r : Bs} {w : World} (h : Rd w b s) (hp : takeP p s = some r) :
    Calls Tryz.prog 63 #[.pointer (some ⟨b, 0, none⟩), .string ⟨p.toArray⟩] w fun e w' => e = .returned (.bool true) ∧ Goes w b r w' := by
  obtain ⟨h1, rfl⟩ := take_some hp
  exact take_yes b s p w h h1
theorem take_not {b : Nat} {s p : Bs} {w : World} (h : Rd w b s) (hp : takeP p s = none) :
    Calls Tryz.prog 63 #[.pointer (some ⟨b, 0, none⟩), .string ⟨p.toArray⟩] w fun e w' => e = .returned (.bool false) ∧ w = w' := take_no b s p w h (take_none hp)

theorem JRows.one {lo : Nat} {w : World} {l : List Jv} {ks : List Bs} {lv kv : Value} (h : JRows lo w l ks lv kv) (k i : Int) (t : ByteArray) : (#[Value.int .i64 k, .int .i64 i, .string t, lv, kv].all (·.oneCell')) = true := by
  obtain ⟨cs, S, h1, h2, _⟩ := h
  rcases h1.2 with ⟨rfl, _⟩ | ⟨g1, c1, u1, rfl, _⟩ <;> rcases h2.2 with ⟨rfl, _⟩ | ⟨g2, c2, u2, rfl, _⟩ <;> simp [Value.oneCell']
/-- The last step: the variable is copied into the result. -/
theorem NSt.done {w0 w : World} {b : Nat} {k : Int} {s : Bs} {l : List Jv} {ks : List Bs} {lv kv : Value} (h : NSt w0 b k s l ks w lv kv) (hb : b < w0.heap.size) (hk : IntOk k) :
    ValIs (.ok (.mk k 0 [] l ks, s)) b w0 (.returned (jV k 0 [] lv kv)) (w.setRow w0.heap.size #[.int .i64 k, .int .i64 0, .string ⟨#[]⟩, lv, kv]) := by
  have fO := Fr.rowO w w0.heap.size #[.int .i64 k, .int .i64 0, .string ⟨#[]⟩, lv, kv]
  refine ⟨_, rfl, ?_, ?_, ?_⟩
  · have hr := h.rows.fr fO (fun g hg e => by have e' : g = w0.heap.size := e; omega)
    have hl := h.len
    exact hr.top k (by omega) hk (by unfold big; omega) ⟨by have := h.keys.1; unfold big; omega, h.keys.2⟩
  · exact h.fr.setRow w0.heap.size _ (Or.inl (Nat.le_refl _))
  · exact h.rd.fr fO (fun e => by have e' : b = w0.heap.size := e; omega)

/-- The reader goes on. -/
theorem NSt.goes {w0 w w' : World} {b : Nat} {k : Int} {s s' : Bs} {l : List Jv} {ks : List Bs} {lv kv : Value} (h : NSt w0 b k s l ks w lv kv) (hb : b < w0.heap.size) (g : Goes w b s' w') (hs : s'.length ≤ s.length) : NSt w0 b k s' l ks w' lv kv :=
  ⟨g.2, g.1.blk h.res (fun e => by have e' : w0.heap.size = b := e; omega), g.1.blk h.var (fun e => by have e' : w0.heap.size + 1 = b := e; omega), h.rows.fr g.1 (fun x hx e => by have e' : x = b := e; omega), h.fr.trans g.1, Nat.le_trans h.sz g.1.size, by have := h.len; omega, h.keys⟩
/-- A key is put behind the others. -/
theorem NSt.key {w0 w w1 : World} {b : Nat} {k : Int} {s : Bs} {l : List Jv} {ks : List Bs} {lv kv : Value} (h : NSt w0 b k s l ks w lv kv) (hb : b < w0.heap.size) (hkl : ks.length ≤ l.length) (key : Bs) (hkey : key.length ≤ big) (g cap : Nat) (o : Obj)
    (hown : w1.ownsRow (w0.heap.size + 2) 9 1 (.slice (some ⟨g, 0, none⟩) (ks.length + 1) cap) (ks.length + 1) (ks.map sV ++ [sV key])) (hgr : (w.alloc o).grownBy w1 kv.ownBlock) (hat : kv.ownBlock = some g ∨ g = w.heap.size + 1) :
    NSt w0 b k s l (ks ++ [key]) (w1.setCell ⟨w0.heap.size + 1, 4, none⟩ (.slice (some ⟨g, 0, none⟩) (ks.length + 1) cap)) lv (.slice (some ⟨g, 0, none⟩) (ks.length + 1) cap) := by
  have hsz := h.sz
  have ha : Fr NoB w (w.alloc o) := (Fr.refl _ _).alloc _
  have hka := (h.rows.fr ha (fun _ _ e => e))
  have hko : ∀ x, kv.ownBlock = some x → w0.heap.size + 2 ≤ x := fun x hx => (hka.keys.lt x hx).1
  have hgn : w0.heap.size + 2 ≤ g := by rcases hat with hat | hat; exact hko g hat; omega
  have hrow := hka.key key g cap hown hgr (by simpa using hat)
  have hF : Fr (fun x => kv.ownBlock = some x) w w1 := (Fr.refl _ w |>.alloc o).grown hgr (fun j hj _ => hj)
  have hn : ∀ x, x < w0.heap.size + 2 → ¬ (kv.ownBlock = some x) := fun x hx e => by have := hko x e; omega
  have hS : Fr (Only (w0.heap.size + 1)) w1 (w1.setCell ⟨w0.heap.size + 1, 4, none⟩ (.slice (some ⟨g, 0, none⟩) (ks.length + 1) cap)) := (Fr.refl _ w1).only _
  have hbsz := h.rd.lt
  refine ⟨(h.rd.fr hF (hn b (by omega))).fr hS (fun e => by have e' : b = w0.heap.size + 1 := e; omega), hS.blk (hF.blk h.res (hn _ (by omega))) (fun e => by have e' : w0.heap.size = w0.heap.size + 1 := e; omega), ?_, hrow.fr hS (fun x hx e => by have e' : x = w0.heap.size + 1 := e; omega), ?_, by have := hF.size; simp [World.setCell]; omega, h.len, by simp; omega, ?_⟩
  · have := (hF.blk h.var (hn _ (by omega))).set_ 4 (.slice (some ⟨g, 0, none⟩) (ks.length + 1) cap)
    simpa using this
  · exact ((h.fr.alloc o).grown hgr (fun j hj hlt => absurd hlt (by have := hko j hj; omega))).setCell_new (p := ⟨w0.heap.size + 1, 4, none⟩) (by simp) _
  · intro x hx
    rcases List.mem_append.1 hx with hx | hx
    · exact h.keys.2 x hx
    · rw [List.mem_singleton.1 hx]; exact hkey
theorem NSt.cells {w0 w : World} {b : Nat} {k : Int} {s : Bs} {l : List Jv} {ks : List Bs} {lv kv : Value} (h : NSt w0 b k s l ks w lv kv) : w.cell? ⟨w0.heap.size + 1, 3, none⟩ = some lv ∧ w.cell? ⟨w0.heap.size + 1, 4, none⟩ = some kv ∧ w.frozen? ⟨w0.heap.size + 1, 3, none⟩ = false ∧ w.frozen? ⟨w0.heap.size + 1, 4, none⟩ = false :=
  ⟨(h.var.cell 3).trans rfl, (h.var.cell 4).trans rfl, h.var.frozen 3, h.var.frozen 4⟩
theorem NSt.grown {w0 w w1 : World} {b : Nat} {k : Int} {s : Bs} {l : List Jv} {ks : List Bs} {lv kv : Value} (h : NSt w0 b k s l ks w lv kv) {o : Obj} {row : Option Nat} (hrow : ∀ x, row = some x → w0.heap.size + 2 ≤ x) (hgr : (w.alloc o).grownBy w1 row) :
    Blk w1 (w0.heap.size + 1) 25 #[.int .i64 k, .int .i64 0, .string ⟨#[]⟩, lv, kv] := by
  have hF : Fr (fun x => row = some x) w w1 := (Fr.refl _ w |>.alloc o).grown hgr (fun j hj _ => hj)
  exact hF.blk h.var (fun e => by have := hrow _ e; omega)
theorem NSt.drew {w0 w : World} {b : Nat} {k : Int} {s : Bs} {l : List Jv} {ks : List Bs} {lv kv : Value} (h : NSt w0 b k s l ks w lv kv) : NSt w0 b k s l ks w.drew lv kv :=
  ⟨h.rd, h.res, h.var, h.rows.fr (Fr.refl NoB w).drew (fun _ _ e => e), h.fr.drew, h.sz, h.len, h.keys⟩
theorem JTop.form {lo : Nat} {w : World} {j : Jv} {v : Value} (h : JTop lo w j v) : ∃ v0 v1 v2 v3 v4, v = .agg #[v0, v1, v2, v3, v4] ∧ ∀ u ∈ [v0, v1, v2, v3, v4], u.oneCell' = true := by
  cases j with
  | mk k i t l ks =>
    obtain ⟨lv, kv, cs, S, h1, h2, h3, h4, h5, h6, h7, h8, h9, h10⟩ := h
    refine ⟨_, _, _, _, _, h1, ?_⟩
    rcases h7.2 with ⟨rfl, _⟩ | ⟨g1, c1, u1, rfl, _⟩ <;> rcases h8.2 with ⟨rfl, _⟩ | ⟨g2, c2, u2, rfl, _⟩ <;> simp [Value.oneCell']
theorem JRows.elems {lo : Nat} {w : World} {l : List Jv} {ks : List Bs} {lv kv : Value} (h : JRows lo w l ks lv kv) : ∃ cs, w.ownsRow lo 25 5 lv l.length cs := by
  obtain ⟨cs, S, h1, _⟩ := h; exact ⟨cs, h1⟩
/-- An element is put behind the others. -/
theorem NSt.item {w0 w w1 w2 : World} {b : Nat} {k : Int} {s s' : Bs} {l : List Jv} {ks : List Bs} {lv kv : Value} (h : NSt w0 b k s l ks w lv kv) (hb : b < w0.heap.size) (gs : Goes w b s' w1) (hs : s'.length < s.length)
    {j : Jv} {v0 v1 v2 v3 v4 : Value} (hj : JTop w.heap.size w1 j (.agg #[v0, v1, v2, v3, v4])) (g cap : Nat) {cs : List Value} (o : Obj) (hcs : (w1.alloc o).ownsRow (w0.heap.size + 2) 25 5 lv l.length cs)
    (hown : w2.ownsRow (w0.heap.size + 2) 25 5 (.slice (some ⟨g, 0, none⟩) (l.length + 1) cap) (l.length + 1) (cs ++ [v0, v1, v2, v3, v4])) (hgr : (w1.alloc o).grownBy w2 lv.ownBlock) (hat : lv.ownBlock = some g ∨ g = w1.heap.size + 1) :
    NSt w0 b k s' (l ++ [j]) ks (w2.setCell ⟨w0.heap.size + 1, 3, none⟩ (.slice (some ⟨g, 0, none⟩) (l.length + 1) cap)) (.slice (some ⟨g, 0, none⟩) (l.length + 1) cap) kv := by
  have st1 := h.goes hb gs (Nat.le_of_lt hs)
  have hsz := h.sz
  have hsz1 := st1.sz
  have hg1 := gs.1.size
  obtain ⟨cs0, hcs0⟩ := h.rows.elems
  have hl0 : ∀ x, lv.ownBlock = some x → w0.heap.size + 2 ≤ x ∧ x < w.heap.size := fun x hx => hcs0.lt x hx
  have hk0 : ∀ x, kv.ownBlock = some x → x < w.heap.size := fun x hx => (h.rows.keys.lt x hx).2
  have ha : Fr NoB w1 (w1.alloc o) := (Fr.refl _ _).alloc _
  have hra := st1.rows.fr ha (fun _ _ e => e)
  have hja : RAt (Rng w.heap.size w1.heap.size) (w1.alloc o) j (.agg #[v0, v1, v2, v3, v4]) := RAt.fr (fun x hx => ha.block x hx.2 (fun e => e)) j _ hj.at_
  have hrow := hra.item hja (by omega) (by simp) (fun x hx => (hl0 x hx).2) hk0 g cap hcs hown hgr (by simpa using hat)
  have hF : Fr (fun x => lv.ownBlock = some x) w1 w2 := (Fr.refl _ w1 |>.alloc o).grown hgr (fun j hj _ => hj)
  have hn : ∀ x, x < w0.heap.size + 2 → ¬ (lv.ownBlock = some x) := fun x hx e => by have := (hl0 x e).1; omega
  have hS : Fr (Only (w0.heap.size + 1)) w2 (w2.setCell ⟨w0.heap.size + 1, 3, none⟩ (.slice (some ⟨g, 0, none⟩) (l.length + 1) cap)) := (Fr.refl _ w2).only _
  refine ⟨(st1.rd.fr hF (hn b (by omega))).fr hS (fun e => by have e' : b = w0.heap.size + 1 := e; omega), hS.blk (hF.blk st1.res (hn _ (by omega))) (fun e => by have e' : w0.heap.size = w0.heap.size + 1 := e; omega), ?_, hrow.fr hS (fun x hx e => by have e' : x = w0.heap.size + 1 := e; omega), ?_, by have := hF.size; simp [World.setCell]; omega, by have := h.len; simp; omega, by have := h.keys.1; simp; omega, h.keys.2⟩
  · have := (hF.blk st1.var (hn _ (by omega))).set_ 3 (.slice (some ⟨g, 0, none⟩) (l.length + 1) cap)
    simpa using this
  · exact ((st1.fr.alloc o).grown hgr (fun j hj hlt => absurd hlt (by have := (hl0 j hj).1; omega))).setCell_new (p := ⟨w0.heap.size + 1, 3, none⟩) (by simp) _
/-- A way of a drawn region that ends in a panic: the region's tactic asks for one goal to go on with. -/
theorem dead_end {G : Prop} (w : World) (h : G) (_ : wpAny Tryz.prog .any #[] (fun _ _ _ => True) 0 #[] ⟨#[], []⟩ w) : G := h

set_option maxRecDepth 100000 in
set_option maxHeartbeats 3200000 in
theorem nested_deep (b : Nat) (k n : Int) (v : Value) (w : World) (hn : 32 ≤ n) (_hn2 : n ≤ 64) :
    Calls Tryz.prog 64 #[.pointer (some ⟨b, 0, none⟩), .int .i64 k, .int .i64 n, v] w fun e w' => e = Wr 91 ∧ Fr (Only b) w w' := by
  go_enter Tryz.func64, Tryz.ntmps64
  go_wp2_with (go_at_call 40; ((with_reducible refine (must_bad _ _ _ (by first | rfl | (simp; omega))).mono ?_); rintro e w2 ⟨rfl, rfl⟩))
  exact ⟨rfl, rfl, (Fr.refl _ _).alloc _⟩

set_option maxRecDepth 100000 in
set_option maxHeartbeats 3200000 in
theorem nested_any {B d : Nat} (hV : VC d) (obj : Bool) (close : UInt8) (b : Nat) (s : Bs) (n : Int) (w : World) (hx : Cx B w) (hB : B ≤ b) (h : Rd w b s) (hl : s.length ≤ 65536) (hn : n = 31 - (d : Int)) (hd : d ≤ 31) :
    Calls Tryz.prog 64 #[.pointer (some ⟨b, 0, none⟩), .int .i64 (nkP obj), .int .i64 n, .string ⟨#[close]⟩] w (ValIs (nestP (valueP d) obj close s) b w) := by
  have hblt := h.lt
  have HN := Lib.hid hn
  have hn0 : 0 ≤ n := by omega
  have hn1 : n ≤ 31 := by omega
  have hwr : IntKind.i64.wrap (n + 1) = n + 1 := IntWalk.i64_in _ (by omega)
  clear hn
  have f0 : Fr NoB w (w.alloc (.cells zj 25)) := (Fr.refl _ _).alloc _
  have f1 : Fr NoB w ((w.alloc (.cells zj 25)).alloc (.cells #[.int .i64 (nkP obj), .int .i64 0, .string ⟨#[]⟩, .slice none 0 0, .slice none 0 0] 25)) := f0.alloc _
  have r1 := h.fr f1 (fun e => e)
  have g0 : Blk ((w.alloc (.cells zj 25)).alloc (.cells #[.int .i64 (nkP obj), .int .i64 0, .string ⟨#[]⟩, .slice none 0 0, .slice none 0 0] 25)) w.heap.size 25 zj := (Blk.new w 25 zj).alloc _
  have g1 : Blk ((w.alloc (.cells zj 25)).alloc (.cells #[.int .i64 (nkP obj), .int .i64 0, .string ⟨#[]⟩, .slice none 0 0, .slice none 0 0] 25)) (w.heap.size + 1) 25 #[.int .i64 (nkP obj), .int .i64 0, .string ⟨#[]⟩, .slice none 0 0, .slice none 0 0] := by
    have := Blk.new (w.alloc (.cells zj 25)) 25 #[.int .i64 (nkP obj), .int .i64 0, .string ⟨#[]⟩, .slice none 0 0, .slice none 0 0]
    simpa using this
  unfold nestP
  cases ht : takeP [close] s with
  | some s1 =>
    have HT := Lib.hid ht
    clear ht
    change Calls _ _ _ _ (ValIs (.ok (.mk (nkP obj) 0 [] [] [], s1)) b w)
    go_enter Tryz.func64, Tryz.ntmps64
    go_wp2_with (first | (go_at_call 40; ((with_reducible refine (must_ok _ _ _ (by first | rfl | (simp; done) | (simp; omega))).mono ?_); rintro e w2 ⟨rfl, rfl⟩)) | (go_at_call 63; ((with_reducible refine (take_is r1 HT.out).mono ?_); rintro e w2 ⟨rfl, f2, r2⟩; have G0 := f2.blk g0 (fun e => by have e' : w.heap.size = b := e; omega); have G1 := f2.blk g1 (fun e => by have e' : w.heap.size + 1 = b := e; omega))) | (refine wpList_load_row rfl 25 _ rfl (w.heap.size + 1) rfl 25 _ _ _ G1 Tryz.underlying25 rfl size_json ?_) | (refine wpList_store_row rfl 25 _ _ rfl w.heap.size #[.int .i64 (nkP obj), .int .i64 0, .string ⟨#[]⟩, .slice none 0 0, .slice none 0 0] rfl rfl 25 zj G0 size_json rfl (one_json _ _ _ _ _ _ _ _ _) ?_))
    have st : NSt w b (nkP obj) s1 [] [] w2 (.slice none 0 0) (.slice none 0 0) := ⟨r2, G0, G1, JRows.nil _ _, f1.noB.trans f2, by have := f2.size; simp at this; omega, by have := takeP_len HT.out; simp; omega, by simp⟩
    have gB := G0.setRow #[.int .i64 (nkP obj), .int .i64 0, .string ⟨#[]⟩, .slice none 0 0, .slice none 0 0]
    have dn := st.done hblt (nk_ok obj)
    exact bodyPost_ret (v := jV (nkP obj) 0 [] (.slice none 0 0) (.slice none 0 0)) (json_back rfl _ _ w.heap.size _ _ _ _ _ rfl gB) rfl dn
  | none =>
    have HT := Lib.hid ht
    clear ht
    obtain ⟨i0, hi0, hz0, hz1, hz2⟩ := info_parts info_str
    have HI : Hid (NInv w b obj (itemsP (valueP d) obj close (s.length + 1) s [] []) (valueP d) close (s.length + 1) ((w.alloc (.cells zj 25)).alloc (.cells #[.int .i64 (nkP obj), .int .i64 0, .string ⟨#[]⟩, .slice none 0 0, .slice none 0 0] 25))) :=
      Lib.hid ⟨s, [], [], _, _, ⟨r1, g0, g1, JRows.nil _ _, f1.noB, by simp, by simp; omega, by simp⟩, by simp, rfl, by omega⟩
    change Calls _ _ _ _ (ValIs (itemsP (valueP d) obj close (s.length + 1) s [] []) b w)
    generalize itemsP (valueP d) obj close (s.length + 1) s [] [] = q at HI
    go_enter Tryz.func64, Tryz.ntmps64
    go_wp2_with (first | (go_at_call 40; ((with_reducible refine (must_ok _ _ _ (by first | rfl | (simp; done) | (simp; omega))).mono ?_); rintro e w2 ⟨rfl, rfl⟩)) | (go_at_call 63; ((with_reducible refine (take_not r1 HT.out).mono ?_); rintro e w2 ⟨rfl, rfl⟩)))
    go_loopg [] (s.length + 1) (fun gk wr => NInv w b obj q (valueP d) close gk wr)
    case atStart => exact HI.out
    case round =>
      clear HI HT g0 g1 r1 f1 f0
      obtain ⟨t, l, ks, lv, kv, st, hkl, hq, hlt⟩ := hrel
      obtain ⟨f, rfl⟩ : ∃ f, gk = f + 1 := ⟨gk - 1, by omega⟩
      rw [items_succ] at hq
      have HQ := Lib.hid hq
      clear hq
      have hxr := hx.fr st.fr (fun k e => by rw [show k = b from e]; exact hB)
      have hlen := st.len
      go_upto_if 21 with fail
      go_cut [] (fun wx => NMid w b obj q (valueP d) close f t.length wx)
      case first =>
        cases obj with
        | false =>
          have hq : itemP (valueP d) false close f t l ks = q := HQ.out
          have HQ2 := Lib.hid hq
          clear hq HQ
          have hk : nkP false = 5 := rfl
          go_wp2_with fail
          go_meet
          exact ⟨t, l, ks, lv, kv, st, HQ2.out, Nat.le_refl _⟩
        | true =>
          have hk : nkP true = 6 := rfl
          have hst := string_any b t wr hxr hB st.rd (by omega)
          have hkp : keyP true t ks = (match textP t with | none => .error 90 | some (key, s1) => if ks.contains key then .error 94 else match takeP [58] s1 with | none => .error 90 | some s2 => .ok (ks ++ [key], s2)) := rfl
          cases htx : textP t with
          | none =>
            have e : q = .error 90 := by rw [← HQ.out, hkp, htx]
            subst e
            rw [htx] at hst
            have HS := Lib.hid hst
            clear hst hkp HQ htx
            go_wp2_with (go_at_call 62; ((with_reducible refine HS.out.mono ?_); rintro e w1 ⟨rfl, f1⟩))
            exact ⟨rfl, rfl, st.fr.trans f1⟩
          | some p =>
            obtain ⟨key, s1⟩ := p
            have hs1 := textP_len htx
            have hkey := textP_tlen (by omega) htx
            rw [htx] at hst hkp
            simp only at hkp
            have HS := Lib.hid hst
            have hks : ks.length ≤ big := by unfold big; omega
            clear hst htx
            cases hct : ks.contains key with
            | true =>
              have e : q = .error 94 := by rw [← HQ.out, hkp, hct]; rfl
              subst e
              have HC := Lib.hid hct
              clear hkp HQ hct
              go_wp2_with (first | (go_at_call 62; ((with_reducible refine HS.out.mono ?_); rintro e w1 ⟨rfl, f1⟩; have st1 := st.goes hblt f1 (by omega); obtain ⟨c3, c4, z3, z4⟩ := st1.cells)) | (go_at_call 92; ((with_reducible refine (contains_any ks kv key _ st1.rows.keys hks).mono ?_); rintro e w2 ⟨rfl, rfl⟩; rw [HC.out])) | (go_at_call 40; ((with_reducible refine (must_bad _ _ _ (by rfl)).mono ?_); rintro e w3 ⟨rfl, rfl⟩)))
              exact ⟨rfl, rfl, st1.fr⟩
            | false =>
              have HC := Lib.hid hct
              cases htk : takeP [58] s1 with
              | none =>
                have e : q = .error 90 := by rw [← HQ.out, hkp, hct, htk]; rfl
                subst e
                have HT := Lib.hid htk
                clear hkp HQ hct htk
                go_wp2_with (first | (go_at_call 62; ((with_reducible refine HS.out.mono ?_); rintro e w1 ⟨rfl, f1⟩; have st1 := st.goes hblt f1 (by omega); obtain ⟨c3, c4, z3, z4⟩ := st1.cells)) | (go_at_call 92; ((with_reducible refine (contains_any ks kv key _ st1.rows.keys hks).mono ?_); rintro e w2 ⟨rfl, rfl⟩; rw [HC.out])) | (go_at_call 40; first | ((with_reducible refine (must_ok _ _ _ (by rfl)).mono ?_); rintro e w3 ⟨rfl, rfl⟩) | ((with_reducible refine (must_bad _ _ _ (by rfl)).mono ?_); rintro e w3 ⟨rfl, rfl⟩)) | (go_at_call 63; ((with_reducible refine (take_not st1.rd HT.out).mono ?_); rintro e w4 ⟨rfl, rfl⟩)))
                exact ⟨rfl, rfl, st1.fr⟩
              | some s2 =>
                have e : itemP (valueP d) true close f s2 l (ks ++ [key]) = q := by rw [← HQ.out, hkp, hct, htk]; rfl
                have HE := Lib.hid e
                have HT := Lib.hid htk
                have hs2 := takeP_len htk
                clear hkp HQ hct htk e
                go_wp2_with (first | (go_at_call 62; ((with_reducible refine HS.out.mono ?_); rintro e w1 ⟨rfl, f1⟩; have st1 := st.goes hblt f1 (by omega); obtain ⟨c3, c4, z3, z4⟩ := st1.cells)) | (go_at_call 92; ((with_reducible refine (contains_any ks kv key _ st1.rows.keys hks).mono ?_); rintro e w2 ⟨rfl, rfl⟩; rw [HC.out])) | (go_at_call 40; ((with_reducible refine (must_ok _ _ _ (by rfl)).mono ?_); rintro e w3 ⟨rfl, rfl⟩)) | (go_at_call 63; ((with_reducible refine (take_is st1.rd HT.out).mono ?_); rintro e w4 ⟨rfl, f4⟩; have st4 := st1.goes hblt f4 (by omega); clear c3 c4 z3 z4; obtain ⟨c3, c4, z3, z4⟩ := st4.cells; have hz4 := st4.sz)) | (at_builtin; refine wpList_append_lies _ rfl _ _ 23 rfl (w.heap.size + 2) 9 i0 (.string ⟨#[]⟩) 1 16 Tryz.underlying23 hi0 hz0 hz1 hz2 rfl (by decide) kv ks.length (ks.map sV) rfl (st4.rows.keys.alloc _) ⟨w4.heap.size, 0, none⟩ 1 1 [sV key] rfl rfl (cell_one_new _ _ _) (by intro u hu; rw [List.mem_singleton] at hu; subst hu; rfl) (by omega) (by unfold maxLen; omega) (by omega) (by simp; omega) (w4.heap.size + 1) (by simp) ?_; intro g cap w5 hown hgr hat hglt; have st5 := st4.key hblt hkl key (by unfold big; omega) g cap _ hown hgr hat; have B5 := st4.grown (fun x hx => (st4.rows.keys.lt x hx).1) hgr; have c5 : w5.cell? ⟨w.heap.size + 1, 4, none⟩ = some kv := (B5.cell 4).trans rfl; have z5 := B5.frozen 4))
                go_meet
                exact ⟨s2, l, ks ++ [key], lv, _, st5, HE.out, by omega⟩
      case rest =>
        clear st HQ hxr hlen hkl
        obtain ⟨s2, m, ns, lx, kx, sx, hq, hle⟩ := hcut
        have hxr := hx.fr sx.fr (fun k e => by rw [show k = b from e]; exact hB)
        have hlen := sx.len
        obtain ⟨c3, c4, z3, z4⟩ := sx.cells
        have HQ := Lib.hid hq
        clear hq
        cases hv : valueP d s2 with
        | error e =>
          have eq : q = .error e := by rw [← HQ.out]; unfold itemP; rw [hv]
          subst eq
          have HV : Hid (∀ w' : World, Cx B w' → Rd w' b s2 → Calls Tryz.prog 39 #[.pointer (some ⟨b, 0, none⟩), .int .i64 (n + 1)] w' (ValIs (.error e) b w')) := Lib.hid (fun w' hx' hr' => by have := hV b s2 (n + 1) w' hx' hB hr' (by omega) (by have := HN.out; omega); rwa [hv] at this)
          clear hv HQ
          go_wp2_with fail
          go_region_with (first | (go_at_call 39; ((with_reducible refine (HV.out _ (hxr.fr0 (Fr.refl NoB _).drew) sx.drew.rd).mono ?_); rintro e w1 ⟨rfl, f1⟩; refine dead_end w1 ?_ ?_; (first | exact ⟨rfl, rfl, sx.fr.drew.trans f1⟩ | (go_simp; exact ⟨rfl, rfl, sx.fr.drew.trans f1⟩)))))
          all_goals trivial
        | ok p =>
          obtain ⟨j, s3⟩ := p
          have hs3 := valueP_len d s2 j s3 hv
          have hq2 : (match takeP [close] s3 with | some s4 => .ok (.mk (nkP obj) 0 [] (m ++ [j]) ns, s4) | none => match takeP [44] s3 with | none => .error 90 | some s4 => itemsP (valueP d) obj close f s4 (m ++ [j]) ns) = q := by rw [← HQ.out]; unfold itemP; rw [hv]; rfl
          have HQ2 := Lib.hid hq2
          have HV : Hid (∀ w' : World, Cx B w' → Rd w' b s2 → Calls Tryz.prog 39 #[.pointer (some ⟨b, 0, none⟩), .int .i64 (n + 1)] w' (ValIs (.ok (j, s3)) b w')) := Lib.hid (fun w' hx' hr' => by have := hV b s2 (n + 1) w' hx' hB hr' (by omega) (by have := HN.out; omega); rwa [hv] at this)
          clear hv HQ hq2
          obtain ⟨i1, hj0, hy0, hy1, hy2⟩ := info_parts info_json
          obtain ⟨cs, hcs⟩ := sx.rows.elems
          go_upto_region 10 with fail
          go_cut [] (fun wy => ∃ lv', NSt w b (nkP obj) s3 (m ++ [j]) ns wy lv' kx)
          case first =>
            go_region_law (first | (refine step_append_lies _ (by rfl) _ _ _ (by rfl) (w.heap.size + 2) 25 i1 (jV 0 0 [] (.slice none 0 0) (.slice none 0 0)) 5 80 Tryz.underlying22 hj0 hy0 hy1 hy2 (by rfl) (by decide) lx m.length cs (by rfl) (hcs1.alloc _) ⟨w1.heap.size, 0, none⟩ 1 1 [v0, v1, v2, v3, v4] (by rfl) (by rfl) (World.news_of_block (cs := #[v0, v1, v2, v3, v4]) (t := 25) (fr := (0, 0)) (heap_alloc_new w1 _)) h1c (by omega) (by unfold maxLen; omega) (by omega) (by simp; omega) (w1.heap.size + 1) (by simp) ?_; intro g cap w2 hown hgr hat hglt; have st2 := sx.drew.item hblt g1 hs3 hj1 g cap _ (hcs1.alloc _) hown hgr hat; have B5 := st1.grown (fun x hx => (hcs1.lt x hx).1) hgr; have c5 : w2.cell? ⟨w.heap.size + 1, 3, none⟩ = some lx := (B5.cell 3).trans rfl; have z5 := B5.frozen 3) | (go_simp; go_at_call 39; ((with_reducible refine (HV.out _ (hxr.fr0 (Fr.refl NoB _).drew) sx.drew.rd).mono ?_); rintro e w1 ⟨v, rfl, hj1, g1⟩; obtain ⟨v0, v1, v2, v3, v4, rfl, h1c⟩ := hj1.form; have st1 := sx.drew.goes hblt g1 (by omega); obtain ⟨d3, d4, y3, y4⟩ := st1.cells; have hz1 := st1.sz; have dA : (w1.alloc (.cells #[v0, v1, v2, v3, v4] 25)).cell? ⟨w.heap.size + 1, 3, none⟩ = some lx := ((st1.var.alloc _).cell 3).trans rfl; have hcs1 := g1.1.row (hcs.drew) (fun x hx e => by have e' : x = b := e; have := (hcs.lt x hx).1; omega))))
            all_goals (go_wp2_with fail; go_meet; exact ⟨_, st2⟩)
          case rest =>
            have hks := sx.keys.1
            clear c3 c4 z3 z4 hcs hxr HV
            obtain ⟨ly, sy⟩ := hcut
            cases htk : takeP [close] s3 with
            | some s4 =>
              have e : q = .ok (.mk (nkP obj) 0 [] (m ++ [j]) ns, s4) := by rw [← HQ2.out, htk]
              subst e
              have HT := Lib.hid htk
              have hs4 := takeP_len htk
              clear htk HQ2
              go_wp2_with (first | (go_at_call 63; ((with_reducible refine (take_is sy.rd HT.out).mono ?_); rintro e w2 ⟨rfl, f2⟩; have st := sy.goes hblt f2 (by simp at hs4; omega); have G0 := st.res; have G1 := st.var)) | (refine wpList_load_row rfl 25 _ rfl (w.heap.size + 1) rfl 25 _ _ _ G1 Tryz.underlying25 rfl size_json ?_) | (refine wpList_store_row rfl 25 _ _ rfl w.heap.size #[.int .i64 (nkP obj), .int .i64 0, .string ⟨#[]⟩, ly, kx] rfl rfl 25 zj G0 size_json rfl (st.rows.one _ _ _) ?_))
              have gB := G0.setRow #[.int .i64 (nkP obj), .int .i64 0, .string ⟨#[]⟩, ly, kx]
              have dn := st.done hblt (nk_ok obj)
              exact bodyPost_ret (v := jV (nkP obj) 0 [] ly kx) (json_back rfl _ _ w.heap.size _ _ _ _ _ rfl gB) rfl dn
            | none =>
              have HT := Lib.hid htk
              have hq3 : (match takeP [44] s3 with | none => .error 90 | some s4 => itemsP (valueP d) obj close f s4 (m ++ [j]) ns) = q := by rw [← HQ2.out, htk]
              clear htk HQ2
              cases htm : takeP [44] s3 with
              | none =>
                have HM := Lib.hid htm
                rw [htm] at hq3
                subst hq3
                clear htm
                have tokA : True := trivial
                go_wp2_with (first | (go_at_call 63; have _t := tokA; ((with_reducible refine (take_not sy.rd HT.out).mono ?_); rintro e w2 ⟨rfl, rfl⟩; clear tokA)) | (go_at_call 63; ((with_reducible refine (take_not sy.rd HM.out).mono ?_); rintro e w2 ⟨rfl, rfl⟩)) | (go_at_call 40; ((with_reducible refine (must_bad _ _ _ (by rfl)).mono ?_); rintro e w3 ⟨rfl, rfl⟩)))
                exact ⟨rfl, rfl, sy.fr⟩
              | some s4 =>
                have HM := Lib.hid htm
                have hs4 := takeP_len htm
                rw [htm] at hq3
                have HQ3 := Lib.hid hq3
                clear htm hq3
                have tokA : True := trivial
                go_wp2_with (first | (go_at_call 63; have _t := tokA; ((with_reducible refine (take_not sy.rd HT.out).mono ?_); rintro e w2 ⟨rfl, rfl⟩; clear tokA)) | (go_at_call 63; ((with_reducible refine (take_is sy.rd HM.out).mono ?_); rintro e w2 ⟨rfl, f2⟩; have st := sy.goes hblt f2 (by simp at hs4; omega))) | (go_at_call 40; ((with_reducible refine (must_ok _ _ _ (by rfl)).mono ?_); rintro e w3 ⟨rfl, rfl⟩)))
                go_roundg f
                case measure => omega
                case rel => exact ⟨s4, m ++ [j], ns, ly, kx, st, by simp; omega, HQ3.out, by simp at hs4; omega⟩
end Go.Proofs.YteeijmfnjcddmaaGreatDoor
