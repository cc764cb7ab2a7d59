/- A strings.Builder of the call's own, in the words of my frames. -/
import Derived.Test.YteeijmfnjcddmaaGreatDoorLib
import Derived.Lib.OthersKept
namespace Go.Proofs.YteeijmfnjcddmaaGreatDoor
open Go.RowKit

/-- A builder at block b, all that it has from block B on, holding the bytes l. -/
def Bd (w : World) (B b : Nat) (l : Bs) : Prop := Lib.IsBuilderF 60 5 B b (Lib.byteCells l) w
/-- Blocks from B on may turn. -/
def From (B : Nat) : Nat → Prop := fun k => B ≤ k

theorem Fr.of_from {B : Nat} {w w' : World} (h : Below B w w') : Fr (From B) w w' :=
  ⟨h.os, h.tape, h.output, h.size, fun k _ hn => h.block k (Nat.lt_of_not_le hn)⟩
theorem Fr.behind {S : Nat → Prop} {B : Nat} {a w w' : World} (h : Fr S a w) (k : Fr (From B) w w') (hB : a.heap.size ≤ B) : Fr S a w' :=
  h.andThen k (fun j hj e => by have : B ≤ j := e; omega)
theorem Bd.new (w : World) : Bd (w.alloc (.cells #[.pointer none, .slice none 0 0] 60)) w.heap.size w.heap.size [] :=
  Lib.IsBuilderF.of (Lib.fresh_isBuilder _ _ w)
theorem rowF_fr {S : Nat → Prop} {w w' : World} {base : Nat} {e : TypeId} {size : Nat} {v : Value} {n : Nat} {xs : List Value} (f : Fr S w w') (ho : w.ownsRowF base e size v n xs) (hs : ∀ k, base ≤ k → ¬ S k) : w'.ownsRowF base e size v n xs := by
  obtain ⟨h1, h2⟩ := ho
  refine ⟨h1, ?_⟩
  rcases h2 with h2 | ⟨g, cap, cur, fz, hv, hg, hh, r⟩
  · exact Or.inl h2
  · exact Or.inr ⟨g, cap, cur, fz, hv, hg, (f.block g (lt_of_block hh) (hs g hg)).trans hh, r⟩
theorem bdAt_fr {S : Nat → Prop} {w w' : World} {T e : TypeId} {B b : Nat} {p : Value} {bs : List Value} (f : Fr S w w') (h : Lib.BuilderAtF T e B b p bs w) (hs : ∀ k, B ≤ k → ¬ S k) : Lib.BuilderAtF T e B b p bs w' := by
  have hlt := h.lt
  obtain ⟨hB, v, hb, hown, hne⟩ := h
  exact ⟨hB, v, (f.block b hlt (hs b hB)).trans hb, rowF_fr f hown hs, hne⟩
theorem Bd.fr {S : Nat → Prop} {w w' : World} {B b : Nat} {l : Bs} (h : Bd w B b l) (f : Fr S w w') (hs : ∀ k, B ≤ k → ¬ S k) : Bd w' B b l :=
  h.elim (fun x => Or.inl (bdAt_fr f x hs)) (fun x => Or.inr (bdAt_fr f x hs))
theorem Bd.lt {w : World} {B b : Nat} {l : Bs} (h : Bd w B b l) : b < w.heap.size := h.elim (fun x => x.lt) (fun x => x.lt)
theorem Bd.le {w : World} {B b : Nat} {l : Bs} (h : Bd w B b l) : B ≤ b := h.elim (fun x => x.1) (fun x => x.1)

/-- What a write leaves: below B nothing has turned; from B on only b and rows of bytes. -/
def Wrote (B b : Nat) (w w' : World) : Prop := Fr (From B) w w' ∧ Lib.OthersKept 5 (some b) w w'

theorem writeByte_any (B b : Nat) (l : Bs) (c : UInt8) (w : World) (h : Bd w B b l) (hl : l.length + 1 ≤ 140737488355328) (hB : B ≤ w.heap.size) :
    Calls Tryz.prog 45 #[.pointer (some ⟨b, 0, none⟩), .int .u8 (c.toNat : Int)] w fun e w' => e = .returned .nilIface ∧ Bd w' B b (l ++ [c]) ∧ Wrote B b w w' := by
  refine (Tryz.Builder_WriteByte_k B b _ (c.toNat : Int) w h (by rw [Lib.byteCells_length]; exact hl) hB).mono ?_
  rintro e w' ⟨rfl, h1, h2, h3⟩
  exact ⟨rfl, by unfold Bd; rw [Lib.byteCells_append]; exact Or.inr h1, Fr.of_from h2, h3⟩
theorem writeString_any (B b : Nat) (l t : Bs) (w : World) (h : Bd w B b l) (hl : l.length + t.length ≤ 140737488355328) (hB : B ≤ w.heap.size) :
    Calls Tryz.prog 54 #[.pointer (some ⟨b, 0, none⟩), .string ⟨t.toArray⟩] w fun e w' => e = .returned (.tuple #[.int .i64 t.length, .nilIface]) ∧ Bd w' B b (l ++ t) ∧ Wrote B b w w' := by
  refine (Tryz.Builder_WriteString_k B b _ ⟨t.toArray⟩ w h (by rw [Lib.byteCells_length]; exact hl) hB).mono ?_
  rintro e w' ⟨rfl, h1, h2, h3⟩
  exact ⟨rfl, by unfold Bd; rw [Lib.byteCells_append]; exact Or.inr h1, Fr.of_from h2, h3⟩
theorem bstring_any (B b : Nat) (l : Bs) (w : World) (h : Bd w B b l) (hB : B ≤ w.heap.size) :
    Calls Tryz.prog 36 #[.pointer (some ⟨b, 0, none⟩)] w fun e w' => e = .returned (.string ⟨l.toArray⟩) ∧ Bd w' B b l ∧ Wrote B b w w' := by
  refine (Tryz.Builder_String_any_k B b l w h hB).mono ?_
  rintro e w' ⟨rfl, h1, h2, h3⟩
  exact ⟨rfl, h1, Fr.of_from h2, h3⟩
theorem blen_any (B b : Nat) (l : Bs) (w : World) (h : Bd w B b l) :
    Calls Tryz.prog 35 #[.pointer (some ⟨b, 0, none⟩)] w fun e w' => e = .returned (.int .i64 l.length) ∧ w = w' := by
  refine (Tryz.Builder_Len_f B b _ w h).mono ?_
  rintro e w' ⟨rfl, rfl⟩
  exact ⟨by rw [Lib.byteCells_length], rfl⟩
end Go.Proofs.YteeijmfnjcddmaaGreatDoor
