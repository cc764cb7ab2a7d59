/- JSON, the document's side: rows of bytes; Quoted, Digits. -/
import Derived.Test.YteeijmfnjcddmaaGreatDoorUp
import Derived.Test.YteeijmfnjcddmaaGreatDoorJl
import Derived.Lib.AppendStr
import Derived.Deep.RegionLaw
import Derived.Lib.ItoaLen
namespace Go.Proofs.YteeijmfnjcddmaaGreatDoor
open Go.RowKit

abbrev bC (l : Bs) : List Value := l.map (fun b => Value.int .u8 (b.toNat : Int))
/-- A row of bytes that is the call's own. -/
def BR (lo : Nat) (w : World) (v : Value) (s : Bs) : Prop := w.ownsRow lo 5 1 v s.length (bC s)
theorem info_byteD : (Tryz.prog.info? 5).map (fun i => (i.zero, i.size, i.bytes)) = some (some (.int .u8 0), 1, 1) := by kernel_rfl
theorem bC_one (l : Bs) : ∀ u ∈ bC l, u.oneCell' = true := by
  intro u hu
  obtain ⟨b, _, rfl⟩ := List.mem_map.1 hu
  rfl
theorem BR.fr {lo : Nat} {w w' : World} {v : Value} {s : Bs} (h : BR lo w v s) (f : Fr NoB w w') : BR lo w' v s := f.row h (fun _ _ e => e)
theorem BR.lt {lo : Nat} {w : World} {v : Value} {s : Bs} (h : BR lo w v s) {g : Nat} (hg : v.ownBlock = some g) : lo ≤ g ∧ g < w.heap.size := World.ownsRow.lt h g hg
theorem BR.grown {lo : Nat} {w0 w w' : World} {v : Value} {s : Bs} (h : BR lo w v s) (f : Fr NoB w0 w) (hg : w.grownBy w' v.ownBlock) (hlo : w0.heap.size ≤ lo) : Fr NoB w0 w' :=
  f.grown hg (fun j hj hlt => absurd (h.lt hj).1 (by omega))
theorem BR.sl {lo : Nat} {w : World} {v : Value} {s : Bs} (h : BR lo w v s) (hs : s ≠ []) : ∃ g c, v = .slice (some ⟨g, 0, none⟩) s.length c ∧ lo ≤ g ∧ g < w.heap.size ∧ ∀ (i : Nat) u, (bC s)[i]? = some u → w.cell? ⟨g, i, none⟩ = some u := by
  have hc := @World.ownsRow.cells _ _ _ _ _ _ _ h
  have hlt := fun g hg => h.lt (g := g) hg
  rcases h.2 with ⟨rfl, h0⟩ | ⟨g, cap, cur, rfl, hg, hh, _⟩
  · exact absurd (List.eq_nil_of_length_eq_zero h0) hs
  · refine ⟨g, cap, rfl, hg, lt_of_block hh, fun i u hu => ?_⟩
    have := hc (g := g) rfl i u hu
    rwa [add_at, Nat.zero_add] at this
/-- string(b), of a row of bytes. -/
theorem BR.conv {lo : Nat} {w : World} {v : Value} {s : Bs} (h : BR lo w v s) : (convert 46 9 v).run Tryz.prog w = .ok (.string ⟨s.toArray⟩) w := by
  by_cases hs : s = []
  · subst hs
    rcases h.2 with ⟨rfl, _⟩ | ⟨g, cap, cur, rfl, _⟩
    · exact run_convert_bytes_nil w 46 5 Tryz.underlying46 Tryz.underlying5 0 0 9 Tryz.underlying9
    · exact run_convert_bytes_back (P := Tryz.prog) w 46 9 5 ⟨g, 0, none⟩ cap [] Tryz.underlying46 Tryz.underlying5 Tryz.underlying9 (fun j hj => by simp at hj)
  · obtain ⟨g, c, rfl, _, _, hc⟩ := h.sl hs
    refine run_convert_bytes_back (P := Tryz.prog) w 46 9 5 ⟨g, 0, none⟩ c s Tryz.underlying46 Tryz.underlying5 Tryz.underlying9 (fun j hj => ?_)
    rw [add_at, Nat.zero_add]
    exact hc j _ (by simp [hj])
theorem br_str {ops : Array Oper} {rest : List Oper} {o : Oper} {a : Act} {Q : Exit → Act → World → Prop} {w : World} (hgd : o.guard = none) (sl x : Operand)
    (ho : o.op = .call { callee := .builtin .append, args := #[sl, x], argTypes := #[46, 9] }) (lo : Nat) (v : Value) (s : Bs) (hs : a.eval sl = v) (hown : BR lo w v s) (t : Bs) (hx : a.eval x = .string ⟨t.toArray⟩)
    (hsz : s.length + t.length ≤ 140737488355328) (hlo : lo ≤ w.heap.size) (h : ∀ v' w', BR lo w' v' (s ++ t) → w.grownBy w' v.ownBlock → wpList Tryz.prog ops Q rest (a.put o.dst v') w') : wpList Tryz.prog ops Q (o :: rest) a w := by
  obtain ⟨i0, hi0, hz0, hz1, hz2⟩ := info_parts info_byteD
  have hts : (⟨t.toArray⟩ : ByteArray).size = t.length := by show t.toArray.size = _; simp
  have hsc : Lib.strCells ⟨t.toArray⟩ = bC t := rfl
  refine Lib.wpList_append_own_string w hgd sl x 46 9 ho lo 5 i0 Tryz.underlying46 Tryz.underlying9 hi0 hz0 hz1 hz2 v s.length (bC s) hs hown ⟨t.toArray⟩ hx (by rw [hts]; unfold maxLen; omega) (by rw [hts]; exact hsz) hlo (fun v' w' h1 h2 _ => h v' w' ?_ h2)
  unfold BR
  rw [hts, hsc] at h1
  simpa using h1
theorem br_row {ops : Array Oper} {rest : List Oper} {o : Oper} {a : Act} {Q : Exit → Act → World → Prop} {w : World} (hgd : o.guard = none) (sl x : Operand)
    (ho : o.op = .call { callee := .builtin .append, args := #[sl, x], argTypes := #[46, 46] }) (lo : Nat) (v : Value) (s : Bs) (hs : a.eval sl = v) (hown : BR lo w v s) (g m c : Nat) (t : Bs) (hx : a.eval x = .slice (some ⟨g, 0, none⟩) m c) (hm : t.length = m)
    (hc : ∀ (i : Nat) u, (bC t)[i]? = some u → w.cell? ⟨g, i, none⟩ = some u)
    (hsz : s.length + t.length ≤ 140737488355328) (hlo : lo ≤ w.heap.size) (h : ∀ v' w', BR lo w' v' (s ++ t) → w.grownBy w' v.ownBlock → wpList Tryz.prog ops Q rest (a.put o.dst v') w') : wpList Tryz.prog ops Q (o :: rest) a w := by
  obtain ⟨i0, hi0, hz0, hz1, hz2⟩ := info_parts info_byteD
  subst hm
  refine wpList_append_own w hgd sl x 46 ho lo 5 i0 (.int .u8 0) 1 1 Tryz.underlying46 hi0 hz0 hz1 hz2 rfl (by decide) v s.length (bC s) hs hown ⟨g, 0, none⟩ t.length c (bC t) hx (by simp) (fun j u hu => by rw [add_at, Nat.zero_add]; exact hc j u hu) (bC_one t) (by unfold maxLen; omega) (by omega) hlo (fun v' w' h1 h2 _ => h v' w' ?_ h2)
  unfold BR
  simpa using h1
/-- The cells of bytes that have just been laid. -/
theorem new_cells (w : World) (C : Array Value) (t : Bs) (h : C.toList = bC t) : ∀ (i : Nat) u, (bC t)[i]? = some u → (w.alloc (.cells C 5)).cell? ⟨w.heap.size, i, none⟩ = some u := by
  intro i u hu
  rw [World.cell?_alloc_mark, ← Array.getElem?_toList, h]
  exact hu
theorem BR.first (w : World) (C : Array Value) (t : Bs) (h : C.toList = bC t) (hl : t.length ≤ maxLen) : BR w.heap.size (w.alloc (.cells C 5)) (.slice (some ⟨w.heap.size, 0, none⟩) t.length t.length) t := by
  have hs : C.size = t.length := by rw [← Array.length_toList, h]; simp
  exact ⟨by simp, Or.inr ⟨_, _, C, rfl, Nat.le_refl _, heap_alloc_new w _, Nat.le_refl _, hl, by rw [hs]; omega, by rw [h, Nat.mul_one]; exact List.take_of_length_le (by simp)⟩⟩

theorem hex_get (i : Nat) (h : i < 16) : ((⟨#[48, 49, 50, 51, 52, 53, 54, 55, 56, 57, 97, 98, 99, 100, 101, 102]⟩ : ByteArray)[i]'h) = hexD i.toUInt8 := by
  revert i
  decide
theorem flat_take (s : Bs) (m : Nat) (h : m < s.length) : (s.take (m + 1)).flatMap quoteC = (s.take m).flatMap quoteC ++ quoteC s[m] := by
  rw [(List.take_append_getElem h).symm, List.flatMap_append]
  simp
theorem flat_take_len (s : Bs) (m : Nat) : ((s.take m).flatMap quoteC).length ≤ 6 * s.length := by
  have h1 := flat_len (s.take m)
  have h2 : (s.take m).length ≤ s.length := by rw [List.length_take]; omega
  omega

set_option maxRecDepth 100000 in
set_option maxHeartbeats 6400000 in
theorem rQuoted_any (s : Bs) (w : World) (hl : s.length ≤ 4398046511104) : Calls Tryz.prog 59 #[.string ⟨s.toArray⟩] w fun e w' => ∃ v, e = .returned v ∧ BR w.heap.size w' v (quoteP s) ∧ Fr NoB w w' := by
  have f1 : Fr NoB w (w.alloc (.cells #[.int .u8 34] 5)) := (Fr.refl _ _).alloc _
  have own0 : BR w.heap.size (w.alloc (.cells #[.int .u8 34] 5)) (.slice (some ⟨w.heap.size, 0, none⟩) 1 1) [34] := BR.first w #[.int .u8 34] [34] rfl (by unfold maxLen; simp)
  go_enter Tryz.func59, Tryz.ntmps59
  go_wp2_with fail
  go_loopw [3, 4] (fun v3 v4 wr => ∃ m : Nat, m ≤ s.length ∧ v4 = .int .i64 m ∧ BR w.heap.size wr v3 (34 :: (s.take m).flatMap quoteC) ∧ Fr NoB w wr) (fun _ v4 _ => s.length - (intOf v4).toNat)
  case atStart => exact ⟨0, Nat.zero_le _, rfl, own0, f1⟩
  case round =>
    obtain ⟨m, hm, rfl, hown, hf⟩ := hrel
    have hle := flat_take_len s m
    have hsz := hf.size
    by_cases hlt : m < s.length
    · have i1 : (0 : Int) ≤ m := by omega
      have i2 : (m : Int) < s.length := by omega
      have HT := Lib.hid (flat_take s m hlt)
      have hgc := get_list s m hlt
      generalize s[m] = c at *
      generalize (s.take m).flatMap quoteC = A at *
      have hc256 := c.toNat_lt
      by_cases h34 : c = 34
      · subst h34
        have fa : Fr NoB wr (wr.alloc (.cells #[.int .u8 92, .int .u8 34] 5)) := (Fr.refl _ _).alloc _
        have ownA := hown.fr fa
        go_wp2_with (at_builtin; go_loud (refine br_row rfl _ _ rfl w.heap.size u3 _ rfl ownA wr.heap.size 2 2 [92, 34] rfl rfl (new_cells wr #[.int .u8 92, .int .u8 34] [92, 34] rfl) (by simp; omega) (by simp; omega) ?_; intro v4 w4 hown4 hgr))
        go_roundw
        case rel => exact ⟨m + 1, by omega, by simp, by rw [HT.out]; simpa [quoteC] using hown4, ownA.grown (hf.trans fa) hgr (Nat.le_refl _)⟩
        case measure => simp [intOf]; omega
      by_cases h92 : c = 92
      · subst h92
        have fa : Fr NoB wr (wr.alloc (.cells #[.int .u8 92, .int .u8 92] 5)) := (Fr.refl _ _).alloc _
        have ownA := hown.fr fa
        go_wp2_with (at_builtin; go_loud (refine br_row rfl _ _ rfl w.heap.size u3 _ rfl ownA wr.heap.size 2 2 [92, 92] rfl rfl (new_cells wr #[.int .u8 92, .int .u8 92] [92, 92] rfl) (by simp; omega) (by simp; omega) ?_; intro v4 w4 hown4 hgr))
        go_roundw
        case rel => exact ⟨m + 1, by omega, by simp, by rw [HT.out]; simpa [quoteC] using hown4, ownA.grown (hf.trans fa) hgr (Nat.le_refl _)⟩
        case measure => simp [intOf]; omega
      by_cases h8 : c = 8
      · subst h8
        go_wp2_with (at_builtin; go_loud (refine br_str rfl _ _ rfl w.heap.size u3 _ rfl hown [92, 98] rfl (by simp; omega) (by omega) ?_; intro v4 w4 hown4 hgr))
        go_roundw
        case rel => exact ⟨m + 1, by omega, by simp, by rw [HT.out]; simpa [quoteC] using hown4, hown.grown (hf) hgr (Nat.le_refl _)⟩
        case measure => simp [intOf]; omega
      by_cases h9 : c = 9
      · subst h9
        go_wp2_with (at_builtin; go_loud (refine br_str rfl _ _ rfl w.heap.size u3 _ rfl hown [92, 116] rfl (by simp; omega) (by omega) ?_; intro v4 w4 hown4 hgr))
        go_roundw
        case rel => exact ⟨m + 1, by omega, by simp, by rw [HT.out]; simpa [quoteC] using hown4, hown.grown (hf) hgr (Nat.le_refl _)⟩
        case measure => simp [intOf]; omega
      by_cases h10 : c = 10
      · subst h10
        go_wp2_with (at_builtin; go_loud (refine br_str rfl _ _ rfl w.heap.size u3 _ rfl hown [92, 110] rfl (by simp; omega) (by omega) ?_; intro v4 w4 hown4 hgr))
        go_roundw
        case rel => exact ⟨m + 1, by omega, by simp, by rw [HT.out]; simpa [quoteC] using hown4, hown.grown (hf) hgr (Nat.le_refl _)⟩
        case measure => simp [intOf]; omega
      by_cases h12 : c = 12
      · subst h12
        go_wp2_with (at_builtin; go_loud (refine br_str rfl _ _ rfl w.heap.size u3 _ rfl hown [92, 102] rfl (by simp; omega) (by omega) ?_; intro v4 w4 hown4 hgr))
        go_roundw
        case rel => exact ⟨m + 1, by omega, by simp, by rw [HT.out]; simpa [quoteC] using hown4, hown.grown (hf) hgr (Nat.le_refl _)⟩
        case measure => simp [intOf]; omega
      by_cases h13 : c = 13
      · subst h13
        go_wp2_with (at_builtin; go_loud (refine br_str rfl _ _ rfl w.heap.size u3 _ rfl hown [92, 114] rfl (by simp; omega) (by omega) ?_; intro v4 w4 hown4 hgr))
        go_roundw
        case rel => exact ⟨m + 1, by omega, by simp, by rw [HT.out]; simpa [quoteC] using hown4, hown.grown (hf) hgr (Nat.le_refl _)⟩
        case measure => simp [intOf]; omega
      have b34 : ((c.toNat : Int) == 34) = false := u8_ne 34 (by omega) h34
      have b92 : ((c.toNat : Int) == 92) = false := u8_ne 92 (by omega) h92
      have b8 : ((c.toNat : Int) == 8) = false := u8_ne 8 (by omega) h8
      have b9 : ((c.toNat : Int) == 9) = false := u8_ne 9 (by omega) h9
      have b10 : ((c.toNat : Int) == 10) = false := u8_ne 10 (by omega) h10
      have b12 : ((c.toNat : Int) == 12) = false := u8_ne 12 (by omega) h12
      have b13 : ((c.toNat : Int) == 13) = false := u8_ne 13 (by omega) h13
      have HQ : Hid (quoteC c = if c < 32 then [92, 117, 48, 48, hexD (c / 16), hexD (c % 16)] else [c]) := Lib.hid (by simp [quoteC, h34, h92, h8, h9, h10, h12, h13])
      clear h34 h92 h8 h9 h10 h12 h13
      by_cases h32 : c < 32
      · have i3 : (c.toNat : Int) < 32 := by have := UInt8.lt_iff_toNat_lt.1 h32; simp at this; omega
        have j1 : c.toNat < 32 := by omega
        obtain ⟨hi, hhi⟩ : ∃ x, x = c.toNat / 16 := ⟨_, rfl⟩
        obtain ⟨lo, hlo⟩ : ∃ x, x = c.toNat % 16 := ⟨_, rfl⟩
        have k1 : hi < 16 := by omega
        have k2 : lo < 16 := by omega
        have j2 : IntKind.u8.wrap ((c.toNat : Int) / 16) = hi := by rw [IntWalk.u8_in _ (by omega)]; omega
        have j3 : IntKind.u8.wrap ((c.toNat : Int) % 16) = lo := by rw [IntWalk.u8_in _ (by omega)]; omega
        have j4 : (c.toNat : Int).tmod 16 = lo := by rw [IntWalk.rem_in _ _ (by omega)]; omega
        have j8 : (0 : Int) ≤ lo := by omega
        have j9 : (0 : Int) ≤ hi := by omega
        obtain ⟨i0, hi0, hz0, hz1, hz2⟩ := info_parts info_byteD
        have fa : Fr NoB wr (wr.drew.alloc (.cells #[.int .u8 92, .int .u8 117, .int .u8 48, .int .u8 48, .int .u8 (hexD (c / 16)).toNat, .int .u8 (hexD (c % 16)).toNat] 5)) := (Fr.refl NoB wr).drew.alloc _
        have ownA := hown.fr fa
        have ownA' : (wr.drew.alloc (.cells #[.int .u8 92, .int .u8 117, .int .u8 48, .int .u8 48, .int .u8 (hexD (c / 16)).toNat, .int .u8 (hexD (c % 16)).toNat] 5)).ownsRow w.heap.size 5 1 u3 (A.length + 1) (bC (34 :: A)) := ownA
        have j5 : (hi : Int) < 16 := by omega
        have j6 : (lo : Int) < 16 := by omega
        have x1 := hex_get hi k1
        have x2 := hex_get lo k2
        have e1 : hi.toUInt8 = c / 16 := by
          rw [toU8_iff (by omega), hhi]; simp
        have e2 : lo.toUInt8 = c % 16 := by
          rw [toU8_iff (by omega), hlo]; simp
        rw [e1] at x1
        rw [e2] at x2
        have HQ2 : Hid (quoteC c = [92, 117, 48, 48, hexD (c / 16), hexD (c % 16)]) := Lib.hid (by rw [HQ.out, if_pos h32])
        clear HQ h32 e1 e2 hhi hlo
        generalize hexD (c / 16) = d1 at *
        generalize hexD (c % 16) = d2 at *
        go_wp2_with fail
        go_region_law (first | (refine step_append_lies _ (by rfl) _ _ _ (by rfl) w.heap.size 5 i0 (.int .u8 0) 1 1 Tryz.underlying46 hi0 hz0 hz1 hz2 (by rfl) (by decide) u3 (A.length + 1) (bC (34 :: A)) (by rfl) ownA' ⟨wr.heap.size, 0, none⟩ 6 6 (bC [92, 117, 48, 48, d1, d2]) (by rfl) (by rfl) (fun j u hu => by rw [add_at, Nat.zero_add]; exact new_cells wr.drew _ [92, 117, 48, 48, d1, d2] rfl j u hu) (bC_one _) (by omega) (by unfold maxLen; omega) (by omega) (by simp; omega) (wr.heap.size + 1) (by simp) ?_; intro g cap w4 hown4 hgr hat hglt))
        all_goals (go_wp2_with fail)
        all_goals (refine ⟨⟨m + 1, by omega, by simp, ?_, ownA.grown (hf.trans fa) hgr (Nat.le_refl _)⟩, by simp [intOf]; omega⟩)
        all_goals (rw [HT.out, HQ2.out]; unfold BR; rw [show (34 :: (A ++ [92, 117, 48, 48, d1, d2])).length = A.length + 1 + 6 by simp]; simpa using hown4)
      · have i3 : ¬ (c.toNat : Int) < 32 := by have := mt UInt8.lt_iff_toNat_lt.2 h32; simp at this; omega
        have HQ2 : Hid (quoteC c = [c]) := Lib.hid (by rw [HQ.out, if_neg h32])
        clear h32 HQ
        have fa : Fr NoB wr (wr.alloc (.cells #[.int .u8 (c.toNat : Int)] 5)) := (Fr.refl _ _).alloc _
        have ownA := hown.fr fa
        go_wp2_with (at_builtin; go_loud (refine br_row rfl _ _ rfl w.heap.size u3 _ rfl ownA wr.heap.size 1 1 [c] rfl rfl (new_cells wr #[.int .u8 (c.toNat : Int)] [c] rfl) (by simp; omega) (by simp; omega) ?_; intro v4 w4 hown4 hgr))
        go_roundw
        case rel => exact ⟨m + 1, by omega, by simp, by rw [HT.out, HQ2.out]; simpa using hown4, ownA.grown (hf.trans fa) hgr (Nat.le_refl _)⟩
        case measure => simp [intOf]; omega
    · obtain rfl : m = s.length := by omega
      rw [List.take_length] at hown hle
      have HQ : Hid (quoteP s = 34 :: s.flatMap quoteC ++ [34]) := Lib.hid rfl
      generalize s.flatMap quoteC = A at *
      have fa : Fr NoB wr (wr.alloc (.cells #[.int .u8 34] 5)) := (Fr.refl _ _).alloc _
      have ownA := hown.fr fa
      go_wp2_with (at_builtin; go_loud (refine br_row rfl _ _ rfl w.heap.size u3 _ rfl ownA wr.heap.size 1 1 [34] rfl rfl (new_cells wr #[.int .u8 34] [34] rfl) (by simp; omega) (by simp; omega) ?_; intro v4 w4 hown4 hgr))
      go_ret
      exact ⟨_, rfl, by rw [HQ.out]; simpa using hown4, ownA.grown (hf.trans fa) hgr (Nat.le_refl _)⟩
end Go.Proofs.YteeijmfnjcddmaaGreatDoor
/- JSON, the document's side: Digits. -/
namespace Go.Proofs.YteeijmfnjcddmaaGreatDoor
open Go.RowKit

theorem ba_catE (a b : Bs) : (⟨a.toArray⟩ : ByteArray) ++ ⟨b.toArray⟩ = ⟨(a ++ b).toArray⟩ := by
  apply ByteArray.ext
  simp [ByteArray.data_append]
theorem dec_len (u : Nat) (h : u < 4611686018427387904) : (Lib.decDigits u).length ≤ 21 := by
  have := Lib.itoa_length_le (u : Int) (by omega) (by omega)
  unfold Lib.itoa at this
  rw [if_neg (by omega)] at this
  simpa using this
theorem dec_step {u : Nat} (h : ¬ u < 10) : Lib.decDigits u = Lib.decDigits (u / 10) ++ [UInt8.ofNat (48 + u % 10)] := by
  rw [Lib.decDigits, dif_neg h]
theorem conv_at (u : World) (N : Nat) (b : UInt8) (h : u.cell? ⟨N, 0, none⟩ = some (.int .u8 (b.toNat : Int))) : (convert 46 9 (.slice (some ⟨N, 0, none⟩) 1 1)).run Tryz.prog u = .ok (.string ⟨[b].toArray⟩) u :=
  run_convert_bytes_back (P := Tryz.prog) u 46 9 5 ⟨N, 0, none⟩ 1 [b] Tryz.underlying46 Tryz.underlying5 Tryz.underlying9 (fun j hj => by
    have : j = 0 := by simpa using hj
    subst this
    rw [add_at]
    exact h)

set_option maxRecDepth 100000 in
set_option maxHeartbeats 3200000 in
theorem digits_nat (u : Nat) : u < 4611686018427387904 → ∀ w : World, Calls Tryz.prog 58 #[.int .i64 u] w fun e w' => e = .returned (sV (Lib.decDigits u)) ∧ Fr NoB w w' := by
  induction u using Nat.strongRecOn with
  | _ u ih =>
    intro hu w
    have k0 : ¬ (u : Int) < 0 := by omega
    by_cases h : u < 10
    · have e : Lib.decDigits u = [UInt8.ofNat (48 + u)] := by rw [Lib.decDigits, dif_pos h]
      have k1 : (u : Int) < 10 := by omega
      have hcv := conv_at (w.alloc (.cells #[.int .u8 (48 + (u : Int))] 5)) w.heap.size (UInt8.ofNat (48 + u)) (by
        rw [World.cell?_alloc_mark]
        have : ((UInt8.ofNat (48 + u)).toNat : Int) = 48 + u := by simp [UInt8.toNat_ofNat']; omega
        rw [this]; rfl)
      rw [← e] at hcv
      clear e
      go_enter Tryz.func58, Tryz.ntmps58
      go_wp2_with fail
      go_ret
      exact ⟨rfl, (Fr.refl NoB w).alloc _⟩
    · have k1 : ¬ (u : Int) < 10 := by omega
      have HC : Hid (∀ w, Calls Tryz.prog 58 #[.int .i64 ((u / 10 : Nat) : Int)] w fun e w' => e = .returned (sV (Lib.decDigits (u / 10))) ∧ Fr NoB w w') := Lib.hid (ih (u / 10) (by omega) (by omega))
      have HE : Hid (Lib.decDigits u = Lib.decDigits (u / 10) ++ [UInt8.ofNat (48 + u % 10)]) := Lib.hid (dec_step h)
      have hdl := dec_len (u / 10) (by omega)
      have hb : ((UInt8.ofNat (48 + u % 10)).toNat : Int) = 48 + ((u % 10 : Nat) : Int) := by simp [UInt8.toNat_ofNat']; omega
      have j1 : IntKind.i64.wrap ((u : Int) / 10) = ((u / 10 : Nat) : Int) := by rw [IntWalk.i64_in _ (by omega)]; omega
      have j2 : (u : Int).tmod 10 = ((u % 10 : Nat) : Int) := by rw [IntWalk.rem_in _ _ (by omega)]; omega
      have j3 : IntKind.i64.wrap (48 + ((u % 10 : Nat) : Int)) = 48 + ((u % 10 : Nat) : Int) := by rw [IntWalk.i64_in _ (by omega)]
      have j4 : IntKind.u8.wrap (48 + ((u % 10 : Nat) : Int)) = 48 + ((u % 10 : Nat) : Int) := by rw [IntWalk.u8_in _ (by omega)]
      clear ih
      generalize u % 10 = r at *
      generalize u / 10 = q at *
      generalize Lib.decDigits q = D at *
      generalize UInt8.ofNat (48 + r) = b at *
      have HV : Hid (∀ (b : UInt8) (D : Bs), Lib.decDigits u = D ++ [b] → sV (Lib.decDigits u) = .string ((⟨D.toArray⟩ : ByteArray) ++ ⟨[b].toArray⟩)) := Lib.hid (fun b D h => by rw [h, ba_catE])
      go_enter Tryz.func58, Tryz.ntmps58
      have HCV : Hid (∀ x : World, (x.alloc (.cells #[.int .u8 (48 + (r : Int))] 5)).cell? ⟨x.heap.size, 0, none⟩ = some (.int .u8 (b.toNat : Int))) := Lib.hid (fun x => by rw [World.cell?_alloc_mark, hb]; rfl)
      have hcv1 : (convert 46 9 (.slice (some ⟨w.heap.size, 0, none⟩) 1 1)).run Tryz.prog (w.drew.alloc (.cells #[.int .u8 (48 + (r : Int))] 5)) = .ok (.string ⟨[b].toArray⟩) (w.drew.alloc (.cells #[.int .u8 (48 + (r : Int))] 5)) := conv_at _ _ b (HCV.out w.drew)
      have hcv0 : (convert 46 9 (.slice (some ⟨w.heap.size, 0, none⟩) 1 1)).run Tryz.prog (w.alloc (.cells #[.int .u8 (48 + (r : Int))] 5)).drew = .ok (.string ⟨[b].toArray⟩) (w.alloc (.cells #[.int .u8 (48 + (r : Int))] 5)).drew := conv_at _ _ b (HCV.out w)
      have hov : ¬ ((9223372036854775807 : Int) < (D.length : Int) + 1) := by omega
      have hov2 : ¬ (9223372036854775807 < D.length + 1) := by omega
      clear hb
      go_wp2_with fail
      go_region_held (fun _ => True) (trivial) (first | (go_at_call 58; (with_reducible refine (HC.out _).mono ?_); rintro e w2 ⟨rfl, f2⟩; have hcv2 := conv_at (w2.alloc (.cells #[.int .u8 (48 + (r : Int))] 5)) w2.heap.size b (HCV.out w2); first | (have hcv3 := conv_at w2 w.heap.size b ((f2.cell (p := ⟨w.heap.size, 0, none⟩) (by simp) (fun e => e)).trans (HCV.out w))) | skip))
      all_goals (go_wp2_with fail)
      all_goals go_ret
      all_goals first
        | exact ⟨congrArg Ending.returned (HV.out b D HE.out).symm, ((Fr.refl NoB w).drew.trans f2).alloc _⟩
        | exact ⟨congrArg Ending.returned (HV.out b D HE.out).symm, ((Fr.refl NoB w).alloc _).drew.trans f2⟩
        | exact ⟨congrArg Ending.returned (HV.out b D HE.out).symm, ((Fr.refl NoB w).drew.alloc _).trans f2⟩
set_option maxRecDepth 100000 in
theorem rDigits_any (n : Int) (w : World) (h0 : -4611686018427387904 < n) (h1 : n < 4611686018427387904) : Calls Tryz.prog 58 #[.int .i64 n] w fun e w' => e = .returned (sV (Lib.itoa n)) ∧ Fr NoB w w' := by
  by_cases h : n < 0
  · obtain ⟨u, hu⟩ : ∃ u : Nat, n = -(u : Int) := ⟨n.natAbs, by omega⟩
    subst hu
    have hlt : u < 4611686018427387904 := by omega
    have HE : Hid (Lib.itoa (-(u : Int)) = [45] ++ Lib.decDigits u) := Lib.hid (by
      unfold Lib.itoa
      rw [if_pos h]
      simp)
    have hdl := dec_len u hlt
    have HC := Lib.hid (digits_nat u hlt)
    have k1 : (-(u : Int)) < 0 := h
    have k2 : IntKind.i64.wrap (u : Int) = u := IntWalk.i64_in _ (by omega)
    have hov : ¬ ((9223372036854775807 : Int) < 1 + ((Lib.decDigits u).length : Int)) := by omega
    generalize Lib.decDigits u = D at *
    have hov2 : ¬ (9223372036854775807 < 1 + D.length) := by omega
    clear h h0 h1
    go_enter Tryz.func58, Tryz.ntmps58
    go_wp2_with (go_at_call 58; (with_reducible refine (HC.out _).mono ?_); rintro e w2 ⟨rfl, f2⟩)
    go_ret
    exact ⟨congrArg Ending.returned (show Value.string ((⟨[45].toArray⟩ : ByteArray) ++ ⟨D.toArray⟩) = sV (Lib.itoa (-(u : Int))) by rw [HE.out, ba_catE]), f2⟩
  · obtain ⟨u, hu⟩ : ∃ u : Nat, n = (u : Int) := ⟨n.toNat, by omega⟩
    subst hu
    have e : Lib.itoa (u : Int) = Lib.decDigits u := by
      unfold Lib.itoa
      rw [if_neg h]
      simp
    rw [e]
    exact digits_nat u (by omega) w
end Go.Proofs.YteeijmfnjcddmaaGreatDoor
