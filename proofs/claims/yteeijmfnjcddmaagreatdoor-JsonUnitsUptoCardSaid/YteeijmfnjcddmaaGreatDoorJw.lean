/- JSON: the program's reader: value, but for what is nested. -/
import Derived.Test.YteeijmfnjcddmaaGreatDoorMe
import Derived.Test.YteeijmfnjcddmaaGreatDoorJh
import Derived.Laws.Tables
import Derived.Laws.Rows
namespace Go.Proofs.YteeijmfnjcddmaaGreatDoor
open Go.RowKit


/-- What reading a value comes to. -/
def ValIs (q : Pr) (b : Nat) (w : World) (e : Ending) (w' : World) : Prop :=
  match q with
  | .ok (j, r) => ∃ v, e = .returned v ∧ JTop w.heap.size w' j v ∧ Goes w b r w'
  | .error n => e = Wr n ∧ Fr (Only b) w w'
theorem jtop_leaf {lo : Nat} {w : World} (k i : Int) (t : Bs) (hk : IntOk k) (hi : IntOk i) (ht : t.length ≤ big) : JTop lo w (.mk k i t [] []) (jV k i t (.slice none 0 0) (.slice none 0 0)) :=
  ⟨.slice none 0 0, .slice none 0 0, [], fun _ => False, rfl, hk, hi, ht, by simp, ⟨by simp, by simp⟩, World.ownsRow_nil _ _ _ _, World.ownsRow_nil _ _ _ _, by simp [RCells], fun _ h => h.elim⟩

theorem strP_tlen : ∀ (f : Nat) (s acc t r : Bs), strP f s acc = some (t, r) → t.length ≤ acc.length + 4 * s.length
  | 0, s, acc, t, r, h => by cases h
  | f + 1, [], acc, t, r, h => by cases h
  | f + 1, c :: u, acc, t, r, h => by
    have hs : strP (f + 1) (c :: u) acc = if c < 32 then none else if c = 34 then (if Lib.validD acc then some (acc, blanks u) else none) else if c = 92 then (match escP (c :: u) with | none => none | some (b, r') => strP f r' (acc ++ b)) else strP f u (acc ++ [c]) := rfl
    rw [hs] at h
    split at h
    · cases h
    · split at h
      · split at h
        · cases h; omega
        · cases h
      · split at h
        · cases he : escP (c :: u) with
          | none => rw [he] at h; cases h
          | some p =>
            obtain ⟨b, r'⟩ := p
            rw [he] at h
            have ih := strP_tlen f _ _ _ _ h
            have hr := escP_len he
            simp at hr ih ⊢; omega
        · have ih := strP_tlen f _ _ _ _ h
          simp at ih ⊢; omega
theorem textP_tlen {s t r : Bs} (hl : s.length ≤ 65536) (h : textP s = some (t, r)) : t.length ≤ 262144 := by
  unfold textP at h
  split at h
  · cases h
  · rename_i c u
    split at h
    · have := strP_tlen _ _ _ _ _ h
      simp at this hl; omega
    · cases h
theorem pre_head {s : Bs} {c : UInt8} : Lib.hasPrefix s [c] = true ↔ s.head? = some c := by
  unfold Lib.hasPrefix
  cases s with
  | nil => simp
  | cons d r => simp [List.isPrefixOf]; exact eq_comm

set_option maxRecDepth 100000 in
set_option maxHeartbeats 1600000 in
theorem value_text {B : Nat} (d : Nat) (b : Nat) (s : Bs) (n : Int) (w : World) (hx : Cx B w) (hB : B ≤ b) (h : Rd w b s) (hl : s.length ≤ 65536) (hh : s.head? = some 34) :
    Calls Tryz.prog 39 #[.pointer (some ⟨b, 0, none⟩), .int .i64 n] w (ValIs (valueP d s) b w) := by
  have hq : valueP d s = (match textP s with | none => .error 90 | some (t, r) => .ok (.mk 4 0 t [] [], r)) := by
    unfold valueP; rw [hh]; rfl
  rw [hq]
  have f0 : Fr NoB w (w.alloc (.cells #[.int .i64 0, .int .i64 0, .string ⟨#[]⟩, .slice none 0 0, .slice none 0 0] 25)) := (Fr.refl _ _).alloc _
  have r0 := h.fr f0 (fun e => e)
  have hc := r0.cell
  have Hp := Lib.hid (pre_head.2 hh)
  have hst := string_any b s _ (hx.fr0 f0) hB r0 hl
  cases ht : textP s with
  | none =>
    rw [ht] at hst
    have HS := Lib.hid hst
    clear hst hq ht
    go_enter Tryz.func39, Tryz.ntmps39
    go_wp2_with (first | (go_at_call 61; ((with_reducible refine (hasPrefix_any s [34] _).mono ?_); rintro e w1 ⟨rfl, rfl⟩; rw [Hp.out])) | (go_at_call 62; ((with_reducible refine HS.out.mono ?_); rintro e w1 ⟨rfl, f1⟩)))
    exact ⟨rfl, rfl, f0.noB.trans f1⟩
  | some p =>
    obtain ⟨t, r⟩ := p
    rw [ht] at hst
    have HS := Lib.hid hst
    have HT : Hid (t.length ≤ 262144) := Lib.hid (textP_tlen hl ht)
    clear hst hq ht
    go_enter Tryz.func39, Tryz.ntmps39
    go_wp2_with (first | (go_at_call 61; ((with_reducible refine (hasPrefix_any s [34] _).mono ?_); rintro e w1 ⟨rfl, rfl⟩; rw [Hp.out])) | (go_at_call 62; ((with_reducible refine HS.out.mono ?_); rintro e w1 ⟨rfl, f1, r1⟩; have g1 := f1.blk (Blk.new w 25 zj) (fun e => by have e' : w.heap.size = b := e; have := h.lt; omega))) | (refine wpList_store_row rfl 25 _ _ rfl w.heap.size #[.int .i64 4, .int .i64 0, .string ⟨t.toArray⟩, .slice none 0 0, .slice none 0 0] rfl rfl 25 zj g1 size_json rfl (one_json _ _ _ _ _ _ _ _ _) ?_))
    have gB := g1.setRow #[.int .i64 4, .int .i64 0, .string ⟨t.toArray⟩, .slice none 0 0, .slice none 0 0]
    have fB := (f0.noB.trans f1).setRow w.heap.size #[.int .i64 4, .int .i64 0, .string ⟨t.toArray⟩, .slice none 0 0, .slice none 0 0] (Or.inl (Nat.le_refl _))
    have rB := r1.fr (Fr.rowO w1 w.heap.size #[.int .i64 4, .int .i64 0, .string ⟨t.toArray⟩, .slice none 0 0, .slice none 0 0]) (fun e => by have e' : b = w.heap.size := e; have := h.lt; omega)
    exact bodyPost_ret (v := jV 4 0 t (.slice none 0 0) (.slice none 0 0)) (json_back rfl _ _ w.heap.size _ _ _ _ _ rfl gB) rfl ⟨_, rfl, jtop_leaf 4 0 t (by unfold IntOk; omega) (by unfold IntOk; omega) (by have := HT.out; unfold big; omega), fB, rB⟩
end Go.Proofs.YteeijmfnjcddmaaGreatDoor
