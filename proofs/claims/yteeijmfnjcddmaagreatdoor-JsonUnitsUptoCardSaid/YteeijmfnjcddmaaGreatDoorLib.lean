/- The library's functions at this dump, in the words of my frames; the variables that they read. -/
import Derived.Test.YteeijmfnjcddmaaGreatDoorJa
import Derived.Test.YteeijmfnjcddmaaGreatDoorShelfA
namespace Go.Proofs.YteeijmfnjcddmaaGreatDoor
open Go.RowKit

theorem Fr.of_below {w w' : World} (h : Below w.heap.size w w') : Fr NoB w w' :=
  ⟨h.os, h.tape, h.output, h.size, fun k hk _ => h.block k hk⟩
theorem Fr.toBelow {w w' : World} (h : Fr NoB w w') : Below w.heap.size w w' := h.below (Nat.le_refl _) (fun _ hj => hj.elim)
theorem Fr.grow (w : World) (n : Nat) (os : Array Obj) : Fr NoB w (Sort.grow (w.drewN n) os) :=
  ⟨rfl, rfl, rfl, by simp [Sort.grow, World.drewN], fun k hk _ => by
    show (w.heap ++ os)[k]? = w.heap[k]?
    rw [Array.getElem?_append_left hk]⟩

/-- The library's variables, in blocks below B, as the program's text lays them. -/
structure Cx (B : Nat) (w : World) : Prop where
  nine : 9 ≤ B
  le : B ≤ w.heap.size
  pow : Lib.TabIs Tryz.prog w "internal/strconv.uint64pow10" .u64 Lib.pow10Tab
  syn : ∃ te pe, w.cell? ⟨5, 0, none⟩ = some (.iface te pe)
  rng : ∃ te pe, w.cell? ⟨6, 0, none⟩ = some (.iface te pe)
  ety : w.cell? ⟨0, 0, none⟩ = some (.iface 156 (.agg #[.pointer (some ⟨9, 76, none⟩)]))

theorem gpow : Tryz.prog.globalNamed "internal/strconv.uint64pow10" = some 2 := by kernel_rfl

theorem Cx.fr {B : Nat} {S : Nat → Prop} {w w' : World} (h : Cx B w) (f : Fr S w w') (hs : ∀ k, S k → B ≤ k) : Cx B w' := by
  obtain ⟨h9, hle, hp, ⟨t1, p1, h1⟩, ⟨t2, p2, h2⟩, h3⟩ := h
  have hn : ∀ k, k < B → ¬ S k := fun k hk e => by have := hs k e; omega
  refine ⟨h9, Nat.le_trans hle f.size, ?_, ⟨t1, p1, ?_⟩, ⟨t2, p2, ?_⟩, ?_⟩
  · unfold Lib.TabIs at hp ⊢
    rw [← hp]
    unfold World.var?
    rw [gpow]
    have hb := f.block 2 (by omega) (hn _ (by omega))
    simp only [Option.bind_some, hb]
  · rw [f.cell (p := ⟨5, 0, none⟩) (show 5 < _ by omega) (hn 5 (by omega))]; exact h1
  · rw [f.cell (p := ⟨6, 0, none⟩) (show 6 < _ by omega) (hn 6 (by omega))]; exact h2
  · rw [f.cell (p := ⟨0, 0, none⟩) (show 0 < _ by omega) (hn 0 (by omega))]; exact h3
theorem Cx.fr0 {B : Nat} {w w' : World} (h : Cx B w) (f : Fr NoB w w') : Cx B w' := h.fr f (fun _ e => e.elim)

theorem trimLeft_any (s cs : Bs) (w : World) (hcs : cs.length < 4294967281) (ha : cs.all (fun b => decide (b.toNat < 128)) = true) :
    Calls Tryz.prog 60 #[.string ⟨s.toArray⟩, .string ⟨cs.toArray⟩] w fun e w' => e = .returned (.string ⟨(Lib.trimLeftS s cs).toArray⟩) ∧ Fr NoB w w' := by
  refine (Any.strings_TrimLeft_laid Tryz.lays161 (by kernel_rfl) ⟨s.toArray⟩ ⟨cs.toArray⟩ w (by show cs.toArray.size < _; simpa using hcs) (ascii_of_all ha)).mono ?_
  rintro e w' ⟨rfl, hb⟩
  exact ⟨by simp, Fr.of_below hb⟩
theorem trim_any (s cs : Bs) (w : World) (hs : s.length ≤ 9223372036854775807) (hcs : cs.length < 4294967281) (ha : cs.all (fun b => decide (b.toNat < 128)) = true) :
    Calls Tryz.prog 145 #[.string ⟨s.toArray⟩, .string ⟨cs.toArray⟩] w fun e w' => e = .returned (.string ⟨(Lib.trimS s cs).toArray⟩) ∧ Fr NoB w w' := by
  refine (Any.strings_Trim_laid Tryz.lays160 (by kernel_rfl) ⟨s.toArray⟩ ⟨cs.toArray⟩ w (by show s.toArray.size ≤ _; simpa using hs) (by show cs.toArray.size < _; simpa using hcs) (ascii_of_all ha)).mono ?_
  rintro e w' ⟨rfl, hb⟩
  exact ⟨by simp, Fr.of_below hb⟩
theorem hasPrefix_any (s p : Bs) (w : World) :
    Calls Tryz.prog 61 #[.string ⟨s.toArray⟩, .string ⟨p.toArray⟩] w fun e w' => e = .returned (.bool (Lib.hasPrefix s p)) ∧ w = w' :=
  (Tryz.strings_HasPrefix ⟨s.toArray⟩ ⟨p.toArray⟩ w).mono fun _ _ ⟨he, hw⟩ => ⟨he, hw.symm⟩
theorem cutPrefix_yes (s p : Bs) (w : World) (h : Lib.hasPrefix s p = true) :
    Calls Tryz.prog 90 #[.string ⟨s.toArray⟩, .string ⟨p.toArray⟩] w fun e w' => e = .returned (.tuple #[.string ⟨(s.drop p.length).toArray⟩, .bool true]) ∧ w = w' :=
  (Tryz.strings_CutPrefix ⟨s.toArray⟩ ⟨p.toArray⟩ w).mono fun _ _ ⟨he, hw⟩ => ⟨by rw [he]; simp [Lib.trimPrefix, h], hw.symm⟩
theorem cutPrefix_no (s p : Bs) (w : World) (h : Lib.hasPrefix s p = false) :
    Calls Tryz.prog 90 #[.string ⟨s.toArray⟩, .string ⟨p.toArray⟩] w fun e w' => e = .returned (.tuple #[.string ⟨s.toArray⟩, .bool false]) ∧ w = w' :=
  (Tryz.strings_CutPrefix ⟨s.toArray⟩ ⟨p.toArray⟩ w).mono fun _ _ ⟨he, hw⟩ => ⟨by rw [he]; simp [Lib.trimPrefix, h], hw.symm⟩
theorem indexByte_any (s : Bs) (c : Int) (w : World) :
    Calls Tryz.prog 81 #[.string ⟨s.toArray⟩, .int .u8 c] w fun e w' => e = .returned (.int .i64 (Lib.indexByte s c.toNat.toUInt8)) ∧ w = w' :=
  (Tryz.strings_IndexByte ⟨s.toArray⟩ c w).mono fun _ _ ⟨he, hw⟩ => ⟨he, hw.symm⟩
theorem compare_any (a b : Bs) (w : World) :
    Calls Tryz.prog 84 #[.string ⟨a.toArray⟩, .string ⟨b.toArray⟩] w fun e w' => e = .returned (.int .i64 (Lib.compareBytes a b)) ∧ w = w' :=
  (Tryz.strings_Compare ⟨a.toArray⟩ ⟨b.toArray⟩ w).mono fun _ _ ⟨he, hw⟩ => ⟨he, hw.symm⟩
theorem itoa_any {B : Nat} (n : Int) (h0 : -9223372036854775808 ≤ n) (h1 : n ≤ 9223372036854775807) (w : World) (hx : Cx B w) :
    Calls Tryz.prog 55 #[.int .i64 n] w fun e w' => e = .returned (.string ⟨(Lib.itoa n).toArray⟩) ∧ Fr NoB w w' := by
  refine (Tryz.strconv_Itoa n h0 h1 w hx.pow).mono ?_
  rintro e w' ⟨rfl, k, os, rfl⟩
  exact ⟨rfl, Fr.grow w k os⟩
theorem atoi_ok (s : Bs) (w : World) (hs : s.length ≤ 281474976710656) (n : Int) (h : Lib.atoiAll s = .ok n) :
    Calls Tryz.prog 94 #[.string ⟨s.toArray⟩] w fun e w' => e = .returned (.tuple #[.int .i64 n, .nilIface]) ∧ Fr NoB w w' := by
  refine (Tryz.strconv_Atoi_ok ⟨s.toArray⟩ (by show s.toArray.size ≤ _; simp; omega) n h w).mono ?_
  rintro e w' ⟨rfl, rfl | ⟨t, rfl⟩⟩
  · exact ⟨rfl, Fr.refl _ _⟩
  · exact ⟨rfl, Fr.of_below (Lib.below_freeze (((Below.refl _ w).drew).alloc (Nat.le_refl _) _) (Nat.le_refl _) _)⟩
def BadNum (w : World) (e : Ending) (w' : World) : Prop := ∃ x T p, e = .returned (.tuple #[.int .i64 x, .iface T p]) ∧ Fr NoB w w'
theorem atoi_no {B : Nat} (s : Bs) (w : World) (hx : Cx B w) (hs : s.length ≤ 281474976710656) (h : ∀ n, Lib.atoiAll s ≠ .ok n) :
    Calls Tryz.prog 94 #[.string ⟨s.toArray⟩] w (BadNum w) := by
  cases hq : Lib.atoiAll s with
  | ok n => exact (h n hq).elim
  | range =>
    obtain ⟨te, pe, hc⟩ := hx.rng
    refine (Tryz.strconv_Atoi_range ⟨s.toArray⟩ (by show s.toArray.size ≤ _; simpa using hs) hq _ w hc (Or.inr ⟨_, _, rfl⟩)).mono ?_
    rintro e w' ⟨N, rfl, _, _, hb⟩
    exact ⟨_, _, _, rfl, Fr.of_below hb⟩
  | _ =>
    obtain ⟨te, pe, hc⟩ := hx.syn
    refine (Tryz.strconv_Atoi_syntax ⟨s.toArray⟩ (by show s.toArray.size ≤ _; simpa using hs) (hq.trans rfl) _ w hc (Or.inr ⟨_, _, rfl⟩)).mono ?_
    rintro e w' ⟨N, rfl, _, _, hb⟩
    exact ⟨_, _, _, rfl, Fr.of_below hb⟩
end Go.Proofs.YteeijmfnjcddmaaGreatDoor
