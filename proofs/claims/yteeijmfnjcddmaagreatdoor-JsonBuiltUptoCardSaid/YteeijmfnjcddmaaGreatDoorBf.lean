/- strings.Builder's WriteByte and WriteString, with the blocks that they turn. -/
import Derived.Test.YteeijmfnjcddmaaGreatDoorBe
namespace Go.Proofs.YteeijmfnjcddmaaGreatDoor
open Go.RowKit

theorem Bv.wts {B b : Nat} {v v' : Value} {l l' : Bs} {w w1 w2 : World} (f1 : Fr (Only b) w w1) {p : Value} (hp : w.heap[b]? = some (.cells #[p, v] 60 (0, 0))) (h1 : Bv w1 B b v l) {w3 : World} (f3 : Fr NoB w1 w3)
    (hg : w3.grownBy w2 v.ownBlock) (hn : Newer w3 v v') (hown : w2.ownsRowF B 5 1 v' (Lib.byteCells l').length (Lib.byteCells l')) (hne5 : ∀ cs, Blk w2 b 60 cs → v'.ownBlock ≠ some b) :
    Bd (w2.setCell ⟨b, 1, none⟩ v') B b l' ∧ Wts b w (w2.setCell ⟨b, 1, none⟩ v') := by
  obtain ⟨hB, hb, ho, hne⟩ := h1
  have hb3 := f3.blk hb (fun e => e)
  have hb2 : Blk w2 b 60 #[.pointer (some ⟨b, 0, none⟩), v] := (hg.block b hb3.lt (fun e => hne e.symm)).trans hb3
  have hne' := hne5 _ hb2
  have hbS := hb2.set_ 1 v'
  have fS : Fr (Only b) w2 (w2.setCell ⟨b, 1, none⟩ v') := (Fr.refl (Only b) w2).only (o := 1) v'
  have f12 : Fr (BdS b w) w w2 := ((f1.mono (fun k _ e => Or.inl e)).andThen f3 (fun _ _ e => e.elim)).grown hg (fun j hj hlt => Or.inr ⟨p, v, hp, hj⟩)
  refine ⟨Or.inr ⟨hB, v', hbS, ⟨hown.1, ?_⟩, hne'⟩, f12.andThen fS (fun k _ e => Or.inl e), ?_⟩
  · rcases hown.2 with h2 | ⟨g, cap, cur, fz, hv, hg, hh, r⟩
    · exact Or.inl h2
    · exact Or.inr ⟨g, cap, cur, fz, hv, hg, (fS.block g (lt_of_block hh) (fun e => hne' (by rw [hv, show g = b from e]; rfl))).trans hh, r⟩
  · intro k hk e
    rcases e with e | ⟨p2, v2, e1, e2⟩
    · exact Or.inl e
    · have e3 : (w2.setCell ⟨b, 1, none⟩ v').heap[b]? = some (.cells #[.pointer (some ⟨b, 0, none⟩), v'] 60 (0, 0)) := hbS
      rw [e3] at e1
      simp at e1
      obtain ⟨rfl, rfl⟩ := e1
      rcases hn with hn | hn
      · exact Or.inr ⟨p, v, hp, by rw [← hn]; exact e2⟩
      · have h4 := hn k e2
        have h5 := f1.size
        have h6 := f3.size
        omega

theorem row_not {w : World} {B b n : Nat} {v : Value} {xs : List Value} (hown : w.ownsRowF B 5 1 v n xs) : ∀ cs, Blk w b 60 cs → v.ownBlock ≠ some b := by
  intro cs hb e
  rcases hown.2 with ⟨rfl, _⟩ | ⟨g, cap, cur, fz, rfl, hg, hh, _⟩
  · simp [Value.ownBlock] at e
  · simp [Value.ownBlock] at e
    subst e
    unfold Blk at hb
    rw [hh] at hb
    simp at hb

theorem own_slice {w : World} {B n : Nat} {v : Value} {xs : List Value} (h : w.ownsRowF B 5 1 v n xs) : ∃ ao n' cap, v = .slice ao n' cap := by
  rcases h.2 with ⟨hv, _⟩ | ⟨g, cap, cur, fz, hv, _⟩
  · exact ⟨_, _, _, hv⟩
  · exact ⟨_, _, _, hv⟩
theorem own_some {w : World} {B n : Nat} {v : Value} {xs : List Value} (h : w.ownsRowF B 5 1 v (n + 1) xs) : ∃ g cap, v = .slice (some ⟨g, 0, none⟩) (n + 1) cap := by
  rcases h.2 with ⟨_, h0⟩ | ⟨g, cap, cur, fz, hv, _⟩
  · omega
  · exact ⟨g, cap, hv⟩

set_option maxRecDepth 100000 in
set_option maxHeartbeats 1600000 in
theorem writeByte_x (B b : Nat) (l : Bs) (c : UInt8) (w : World) (h : Bd w B b l) (hl : l.length + 1 ≤ 140737488355328) (hB : B ≤ w.heap.size) :
    Calls Tryz.prog 45 #[.pointer (some ⟨b, 0, none⟩), .int .u8 (c.toNat : Int)] w fun e w' => e = .returned .nilIface ∧ Bd w' B b (l ++ [c]) ∧ Wts b w w' := by
  obtain ⟨i0, hi, hz0, hz1, hz2⟩ := info_parts (P := Tryz.prog) (e := 5) (Tryz.Builder_Extra_167.infoByte)
  have HC := Lib.hid (copyCheck_x B b l w h)
  clear h
  go_enter Tryz.func45, Tryz.ntmps45
  go_wp2_with (first | (go_at_call 72; ((with_reducible refine HC.out.mono ?_); rintro e w1 ⟨rfl, v, h1, f1, p, hp⟩; have H1 := Lib.hid h1; have c0 : w1.cell? ⟨b, 0, none⟩ = some (.pointer (some ⟨b, 0, none⟩)) := (h1.2.1.cell 0).trans rfl; have c1 : w1.cell? ⟨b, 1, none⟩ = some v := (h1.2.1.cell 1).trans rfl; clear h1)) | (at_builtin; go_loud (refine wpList_append_ownX rfl _ _ 46 rfl B 5 i0 (.int .u8 0) 1 1 Tryz.underlying46 hi hz0 hz1 hz2 rfl (by decide) _ _ _ rfl (H1.out.2.2.1.alloc _) ⟨w1.heap.size, 0, none⟩ 1 1 [.int .u8 (c.toNat : Int)] rfl rfl (by intro j u hj; match j, hj with | 0, hj => simp at hj; subst hj; simp [Addr.add]) (by intro u hu; rw [List.mem_singleton] at hu; subst hu; rfl) (by rw [Lib.byteCells_length]; unfold maxLen; omega) (by rw [Lib.byteCells_length]; omega) (by have := f1.size; simp; omega) ?_; intro v' w2 hown' hgrow hnew; have hown2 : w2.ownsRowF B 5 1 v' (Lib.byteCells (l ++ [c])).length (Lib.byteCells (l ++ [c])) := (by have h9 := hown'; rw [Lib.byteCells_append, List.length_append]; exact h9); obtain ⟨g, cap, rfl⟩ : ∃ g cap, v' = .slice (some ⟨g, 0, none⟩) ((Lib.byteCells l).length + 1) cap := own_some hown'; have hb2 : Blk w2 b 60 #[.pointer (some ⟨b, 0, none⟩), v] := (hgrow.block b (Nat.lt_of_lt_of_le H1.out.2.1.lt ((Fr.refl NoB w1).alloc _).size) (fun e => H1.out.2.2.2 e.symm)).trans (H1.out.2.1.alloc _); have d0 : w2.cell? ⟨b, 0, none⟩ = some (.pointer (some ⟨b, 0, none⟩)) := (hb2.cell 0).trans rfl; have d1 : w2.cell? ⟨b, 1, none⟩ = some v := (hb2.cell 1).trans rfl; have z1 : w2.frozen? ⟨b, 1, none⟩ = false := hb2.frozen 1)))
  have hfin := Bv.wts f1 hp H1.out ((Fr.refl NoB w1).alloc (.cells #[.int .u8 (c.toNat : Int)] 5)) hgrow hnew hown2 (row_not hown2)
  go_ret
  exact ⟨rfl, hfin⟩

set_option maxRecDepth 100000 in
set_option maxHeartbeats 1600000 in
theorem writeString_x (B b : Nat) (l t : Bs) (w : World) (h : Bd w B b l) (hl : l.length + t.length ≤ 140737488355328) (hB : B ≤ w.heap.size) :
    Calls Tryz.prog 54 #[.pointer (some ⟨b, 0, none⟩), .string ⟨t.toArray⟩] w fun e w' => e = .returned (.tuple #[.int .i64 t.length, .nilIface]) ∧ Bd w' B b (l ++ t) ∧ Wts b w w' := by
  obtain ⟨i0, hi, hz0, hz1, hz2⟩ := info_parts (P := Tryz.prog) (e := 5) (Tryz.Builder_Extra_167.infoByte)
  have HC := Lib.hid (copyCheck_x B b l w h)
  have hsz : (⟨t.toArray⟩ : ByteArray).size = t.length := by show t.toArray.size = _; simp
  clear h
  go_enter Tryz.func54, Tryz.ntmps54
  go_wp2_with (first | (go_at_call 72; ((with_reducible refine HC.out.mono ?_); rintro e w1 ⟨rfl, v, h1, f1, p, hp⟩; have H1 := Lib.hid h1; have c0 : w1.cell? ⟨b, 0, none⟩ = some (.pointer (some ⟨b, 0, none⟩)) := (h1.2.1.cell 0).trans rfl; have c1 : w1.cell? ⟨b, 1, none⟩ = some v := (h1.2.1.cell 1).trans rfl; clear h1)) | (at_builtin; go_loud (refine wpList_append_own_stringX rfl _ _ 46 9 rfl B 5 i0 Tryz.underlying46 Tryz.underlying9 hi hz0 hz1 hz2 _ _ _ rfl H1.out.2.2.1 ⟨t.toArray⟩ rfl (by simp only [hsz, Lib.byteCells_length, maxLen]; omega) (by simp only [hsz, Lib.byteCells_length]; omega) (by have := f1.size; omega) ?_; intro v' w2 hown' hgrow hnew; have hown2 : w2.ownsRowF B 5 1 v' (Lib.byteCells (l ++ t)).length (Lib.byteCells (l ++ t)) := (by have h9 := hown'; rw [hsz] at h9; rw [Lib.byteCells_append, List.length_append, Lib.byteCells_length t]; exact h9); obtain ⟨ao, n', cap, rfl⟩ : ∃ ao n' cap, v' = .slice ao n' cap := own_slice hown'; have hb2 : Blk w2 b 60 #[.pointer (some ⟨b, 0, none⟩), v] := (hgrow.block b H1.out.2.1.lt (fun e => H1.out.2.2.2 e.symm)).trans H1.out.2.1; have d0 : w2.cell? ⟨b, 0, none⟩ = some (.pointer (some ⟨b, 0, none⟩)) := (hb2.cell 0).trans rfl; have d1 : w2.cell? ⟨b, 1, none⟩ = some v := (hb2.cell 1).trans rfl; have z1 : w2.frozen? ⟨b, 1, none⟩ = false := hb2.frozen 1)))
  have hfin := Bv.wts f1 hp H1.out (Fr.refl NoB w1) hgrow hnew hown2 (row_not hown2)
  go_ret2
  exact ⟨by first | rfl | rw [hsz], hfin⟩
end Go.Proofs.YteeijmfnjcddmaaGreatDoor
