/- JSON: a value's form (plain). -/
import Derived.Test.YteeijmfnjcddmaaGreatDoorLo
import Derived.Test.YteeijmfnjcddmaaGreatDoorLq
namespace Go.Proofs.YteeijmfnjcddmaaGreatDoor
open Go.RowKit

def lim : Nat := 8796093022208
/-- What laid has to do. -/
def LD (j : Jv) : Prop := ∀ {B : Nat} (S : Nat → Prop) (v : Value) (w : World) (Bb b : Nat) (acc : Bs) (n : Nat), Cx B w → B ≤ Bb → Bb ≤ w.heap.size → (∀ g, S g → g < Bb) → RAt S w j v → checkP n j = 0 → Bd w Bb b acc → acc.length + (layP j).length ≤ lim →
  Calls Tryz.prog 34 #[.pointer (some ⟨b, 0, none⟩), v] w fun e w' => e = .returned (.tuple #[]) ∧ Bd w' Bb b (acc ++ layP j) ∧ Wts b w w'
theorem Bd.cx {B : Nat} {w w' : World} {Bb b : Nat} {l : Bs} (h : Bd w Bb b l) (hx : Cx B w) (t : Wts b w w') (hB : B ≤ Bb) : Cx B w' := hx.fr t.fr (fun _ hk => Nat.le_trans hB (h.bdS hk).2)
theorem Bd.low {w w' : World} {Bb b k : Nat} {l : Bs} (h : Bd w Bb b l) (t : Wts b w w') (hB : Bb ≤ w.heap.size) (hk : k < Bb) : w'.heap[k]? = w.heap[k]? := t.fr.block k (by omega) (fun e => by have := (h.bdS e).2; omega)
theorem jv_one (k i : Int) (t : Bs) (la : Option Addr) (n lc : Nat) (ka : Option Addr) (m kc : Nat) : (#[Value.int .i64 k, .int .i64 i, .string ⟨t.toArray⟩, .slice la n lc, .slice ka m kc].all (·.oneCell')) = true := by simp [Value.oneCell']

set_option maxRecDepth 100000 in
set_option maxHeartbeats 3200000 in
theorem laid_leaf {B : Nat} (k i : Int) (t : Bs) (lv kv : Value) (w : World) (Bb b : Nat) (acc q : Bs) (hx : Cx B w) (hBw : Bb ≤ w.heap.size) (hi : IntOk i) (hbd : Bd w Bb b acc)
    (hq : (k = 0 ∧ q = wNull) ∨ (k = 1 ∧ q = wFalse) ∨ (k = 2 ∧ q = wTrue) ∨ (k = 3 ∧ q = Lib.itoa i) ∨ (k = 4 ∧ q = quoteP t)) (hl : acc.length + q.length ≤ lim) :
    Calls Tryz.prog 34 #[.pointer (some ⟨b, 0, none⟩), jV k i t lv kv] w fun e w' => e = .returned (.tuple #[]) ∧ Bd w' Bb b (acc ++ q) ∧ Wts b w w' := by
  unfold lim at hl
  have f0 : Fr NoB w (w.alloc (.cells #[.int .i64 k, .int .i64 i, .string ⟨t.toArray⟩, lv, kv] 25)) := (Fr.refl _ _).alloc _
  have g0 := Blk.new w 25 #[.int .i64 k, .int .i64 i, .string ⟨t.toArray⟩, lv, kv]
  have t0 : Wts b w _ := (Wts.refl b w).noB f0 hbd.lt
  have bd0 := hbd.keep f0 (fun _ _ e => e)
  have x0 := hx.fr0 f0
  have hB0 : Bb ≤ (w.alloc (.cells #[.int .i64 k, .int .i64 i, .string ⟨t.toArray⟩, lv, kv] 25)).heap.size := Nat.le_trans hBw f0.size
  have HQ2 : Hid (∀ s : Bs, q = quoteP s → s.length + 2 ≤ q.length) := Lib.hid (fun s hs => by
    rw [hs]
    have : ∀ s : Bs, s.length ≤ (s.flatMap quoteC).length := by
      intro s
      induction s with
      | nil => simp
      | cons c r ih =>
        have h1 : 1 ≤ (quoteC c).length := by unfold quoteC; repeat' split
                                              all_goals simp
        simp only [List.flatMap_cons, List.length_append, List.length_cons]; omega
    have := this s
    simp only [quoteP, List.length_cons, List.length_append, List.length_nil]; omega)
  clear hbd
  generalize hW : w.alloc (.cells #[.int .i64 k, .int .i64 i, .string ⟨t.toArray⟩, lv, kv] 25) = W at *
  have HW := Lib.hid hW
  have c0 : W.cell? ⟨w.heap.size, 0, none⟩ = some (.int .i64 k) := (g0.cell 0).trans rfl
  have c1 : W.cell? ⟨w.heap.size, 1, none⟩ = some (.int .i64 i) := (g0.cell 1).trans rfl
  have c2 : W.cell? ⟨w.heap.size, 2, none⟩ = some (.string ⟨t.toArray⟩) := (g0.cell 2).trans rfl
  clear hW
  have hws : Hid (∀ u : World, Fr NoB W u → Calls Tryz.prog 54 #[.pointer (some ⟨b, 0, none⟩), .string ⟨q.toArray⟩] u fun e w' => e = .returned (.tuple #[.int .i64 q.length, .nilIface]) ∧ Bd w' Bb b (acc ++ q) ∧ Wts b u w') := Lib.hid (fun u f => writeString_x Bb b acc q u (bd0.keep f (fun _ _ e => e)) (by omega) (Nat.le_trans hB0 f.size))
  rcases hq with ⟨rfl, rfl⟩ | ⟨rfl, rfl⟩ | ⟨rfl, rfl⟩ | ⟨rfl, rfl⟩ | ⟨rfl, rfl⟩
  · have HC : Hid (Calls Tryz.prog 54 #[.pointer (some ⟨b, 0, none⟩), .string ⟨#[110, 117, 108, 108]⟩] W fun e w' => e = .returned (.tuple #[.int .i64 4, .nilIface]) ∧ Bd w' Bb b (acc ++ wNull) ∧ Wts b W w') := Lib.hid (hws.out W (Fr.refl _ _))
    go_enter Tryz.func34, Tryz.ntmps34
    go_wp2_with (go_at_call 54; (rw [HW.out]; (with_reducible refine HC.out.mono ?_); rintro e w3 ⟨rfl, h3, t3⟩))
    go_end0
    exact ⟨rfl, h3, t0.trans t3⟩
  · have HC : Hid (Calls Tryz.prog 54 #[.pointer (some ⟨b, 0, none⟩), .string ⟨#[102, 97, 108, 115, 101]⟩] W fun e w' => e = .returned (.tuple #[.int .i64 5, .nilIface]) ∧ Bd w' Bb b (acc ++ wFalse) ∧ Wts b W w') := Lib.hid (hws.out W (Fr.refl _ _))
    go_enter Tryz.func34, Tryz.ntmps34
    go_wp2_with (go_at_call 54; (rw [HW.out]; (with_reducible refine HC.out.mono ?_); rintro e w3 ⟨rfl, h3, t3⟩))
    go_end0
    exact ⟨rfl, h3, t0.trans t3⟩
  · have HC : Hid (Calls Tryz.prog 54 #[.pointer (some ⟨b, 0, none⟩), .string ⟨#[116, 114, 117, 101]⟩] W fun e w' => e = .returned (.tuple #[.int .i64 4, .nilIface]) ∧ Bd w' Bb b (acc ++ wTrue) ∧ Wts b W w') := Lib.hid (hws.out W (Fr.refl _ _))
    go_enter Tryz.func34, Tryz.ntmps34
    go_wp2_with (go_at_call 54; (rw [HW.out]; (with_reducible refine HC.out.mono ?_); rintro e w3 ⟨rfl, h3, t3⟩))
    go_end0
    exact ⟨rfl, h3, t0.trans t3⟩
  · have HI := Lib.hid (itoa_any i hi.1 hi.2 W x0)
    go_enter Tryz.func34, Tryz.ntmps34
    go_wp2_with (first | (go_at_call 55; (rw [HW.out]; (with_reducible refine HI.out.mono ?_); rintro e w2 ⟨rfl, f2⟩)) | (go_at_call 54; ((with_reducible refine (hws.out _ f2).mono ?_); rintro e w3 ⟨rfl, h3, t3⟩)))
    go_end0
    exact ⟨rfl, h3, (t0.noB f2 bd0.lt).trans t3⟩
  · have HC := Lib.hid (quoted_any Bb b acc t W bd0 (by have := HQ2.out t rfl; omega) hB0)
    go_enter Tryz.func34, Tryz.ntmps34
    go_wp2_with (go_at_call 56; (rw [HW.out]; (with_reducible refine HC.out.mono ?_); rintro e w3 ⟨rfl, h3, t3⟩))
    go_end0
    exact ⟨rfl, h3, t0.trans t3⟩
end Go.Proofs.YteeijmfnjcddmaaGreatDoor
