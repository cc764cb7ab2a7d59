/- text.Units. -/
import Derived.Test.YteeijmfnjcddmaaGreatDoorUn
import Derived.Test.YteeijmfnjcddmaaGreatDoorDk
namespace Go.Proofs.YteeijmfnjcddmaaGreatDoor
open Go.RowKit

/-- A row of numbers of its own. -/
def IR (lo : Nat) (w : World) (v : Value) (l : List Int) : Prop := w.ownsRow lo 3 1 v l.length (l.map (Value.int .i64))
theorem IR.nil (lo : Nat) (w : World) : IR lo w (.slice none 0 0) [] := ⟨by simp, Or.inl ⟨rfl, rfl⟩⟩
theorem IR.fr {lo : Nat} {w w' : World} {v : Value} {l : List Int} (h : IR lo w v l) (f : Fr NoB w w') : IR lo w' v l := Fr.row f h (fun _ _ e => e)
theorem IR.grown {lo : Nat} {w0 w w' : World} {v : Value} {l : List Int} (h : IR lo w v l) (f : Fr NoB w0 w) (hg : w.grownBy w' v.ownBlock) (hlo : w0.heap.size ≤ lo) : Fr NoB w0 w' :=
  f.grown hg (fun j hj hlt => absurd (World.ownsRow.lt h j hj).1 (by omega))
theorem info_intU : (Tryz.prog.info? 3).map (fun i => (i.zero, i.size, i.bytes)) = some (some (.int .i64 0), 1, 8) := by kernel_rfl
/-- One number more. -/
theorem ir_one {ops : Array Oper} {rest : List Oper} {o : Oper} {a : Act} {Q : Exit → Act → World → Prop} {w : World} (hgd : o.guard = none) (sl x : Operand)
    (ho : o.op = .call { callee := .builtin .append, args := #[sl, x], argTypes := #[45, 45] }) (lo : Nat) (v : Value) (l : List Int) (hs : a.eval sl = v) (hown : IR lo w v l) (g : Nat) (n : Int) (hx : a.eval x = .slice (some ⟨g, 0, none⟩) 1 1)
    (hc : w.cell? ⟨g, 0, none⟩ = some (.int .i64 n)) (hsz : l.length ≤ 4398046511104) (hlo : lo ≤ w.heap.size)
    (h : ∀ v' w', IR lo w' v' (l ++ [n]) → w.grownBy w' v.ownBlock → wpList Tryz.prog ops Q rest (a.put o.dst v') w') : wpList Tryz.prog ops Q (o :: rest) a w := by
  obtain ⟨i0, hi0, hz0, hz1, hz2⟩ := info_parts info_intU
  refine wpList_append_own w hgd sl x 45 ho lo 3 i0 (.int .i64 0) 1 8 Tryz.underlying45 hi0 hz0 hz1 hz2 rfl (by decide) v l.length (l.map (Value.int .i64)) hs hown ⟨g, 0, none⟩ 1 1 [.int .i64 n] hx (by simp) (fun j u hu => ?_) (fun u hu => ?_) (by unfold maxLen; omega) (by omega) hlo (fun v' w' h1 h2 _ => h v' w' ?_ h2)
  · obtain ⟨hj, rfl⟩ : j = 0 ∧ u = .int .i64 n := by
      cases j with
      | zero => simp at hu; exact ⟨rfl, hu.symm⟩
      | succ j => simp at hu
    rw [add_at, hj]; exact hc
  · rw [List.mem_singleton] at hu; subst hu; rfl
  · unfold IR
    simpa using h1
theorem one_cell (w : World) (n : Int) : (w.alloc (.cells #[.int .i64 n] 3)).cell? ⟨w.heap.size, 0, none⟩ = some (.int .i64 n) := by
  rw [World.cell?_alloc_mark]; rfl
theorem units_take (l : List Nat) (m : Nat) (h : m < l.length) : (l.take (m + 1)).flatMap unitsR = (l.take m).flatMap unitsR ++ unitsR l[m] := by
  rw [List.take_succ_eq_append_getElem h, List.flatMap_append]; simp
theorem units_take_len (l : List Nat) : (l.flatMap unitsR).length ≤ 2 * l.length := by
  induction l with
  | nil => simp
  | cons n r ih =>
    rw [List.flatMap_cons, List.length_append, List.length_cons]
    have : (unitsR n).length ≤ 2 := by unfold unitsR; split <;> simp
    omega
theorem runes_len : ∀ (k : Nat) (s : Bs), s.length ≤ k → (runesP s).length ≤ s.length
  | k, s, hk => by
    by_cases hs : s = []
    · subst hs; simp [runesP, runesGo]
    · have hw := Lib.decodeL_width s
      have hl : 0 < s.length := List.length_pos_iff.2 hs
      rw [runesP_step hs, List.length_cons]
      match k, hk with
      | 0, hk => omega
      | k + 1, hk =>
        have := runes_len k (s.drop (Lib.decodeL s).2) (by rw [List.length_drop]; omega)
        rw [List.length_drop] at this
        omega

set_option maxRecDepth 100000 in
set_option maxHeartbeats 3200000 in
theorem units_yes {B : Nat} (s : Bs) (w : World) (hx : Cx B w) (hl : s.length ≤ 1048576) (hv : Lib.validD s = true) :
    Calls Tryz.prog 29 #[.string ⟨s.toArray⟩] w fun e w' => ∃ v, e = .returned (.tuple #[v, .int .i64 0]) ∧ IR w.heap.size w' v (unitsP s) ∧ Fr NoB w w' := by
  have hrl := runes_len _ s (Nat.le_refl _)
  have hrk := runes_ok _ s (Nat.le_refl _)
  have HU : Hid (unitsP s = (runesP s).flatMap unitsR) := Lib.hid rfl
  have HR := Lib.hid (fun u (hu : Cx B u) => runes_any s u hu (by omega))
  generalize unitsP s = U at *
  go_enter Tryz.func29, Tryz.ntmps29
  go_upto_block 0 with (go_at_call 46; ((with_reducible refine (HR.out _ hx).mono ?_); rintro e w1 ⟨hy, _⟩; obtain ⟨v, rfl, ho, f1⟩ := hy hv; obtain ⟨va, vc, rfl⟩ := (InMem.own ho).sl))
  have hin : InMem (All w1) w1 (.slice va (runesP s).length vc) (runesP s).length ((runesP s).map fun n => Value.int .i32 (n : Nat)) := (InMem.own ho).mono (fun _ hg => hg.2)
  have HIn := Lib.hid hin
  clear hin ho HR
  generalize runesP s = R at *
  have hws := f1.size
  go_wp2_with fail
  go_loopw [6, 21] (fun v6 v21 wr => ∃ m : Nat, m ≤ R.length ∧ v21 = .int .i64 m ∧ IR w1.heap.size wr v6 ((R.take m).flatMap unitsR) ∧ Fr NoB w1 wr) (fun _ v21 _ => R.length - (intOf v21).toNat)
  case atStart => exact ⟨0, Nat.zero_le _, rfl, IR.nil _ _, Fr.refl _ _⟩
  case round =>
    obtain ⟨m, hm, rfl, hown, hf⟩ := hrel
    have hle := units_take_len (R.take m)
    rw [List.length_take, Nat.min_eq_left hm] at hle
    have hsz := hf.size
    by_cases hlt : m < R.length
    · have k1 : (0 : Int) ≤ m := by omega
      have k2 : (m : Int) < R.length := by omega
      have HT := Lib.hid (units_take R m hlt)
      obtain ⟨g, o, rfl, hcell⟩ := HIn.out.at_ hf (by omega)
      have d0 : wr.cell? ⟨g, o + m, none⟩ = some (.int .i32 (R[m] : Nat)) := hcell m _ (by simp [hlt])
      have hrm := hrk R[m] (List.getElem_mem hlt)
      clear hcell
      generalize R[m] = n at *
      generalize (R.take m).flatMap unitsR = A at *
      have hn : n < 1114112 := by omega
      have hw0 : IntKind.i64.wrap (n : Int) = (n : Int) := IntWalk.i64_in _ (by omega)
      by_cases h16 : 65536 ≤ n
      · have k3 : (65536 : Int) ≤ n := by omega
        obtain ⟨q, hq⟩ : ∃ q : Nat, q = (n - 65536) / 1024 := ⟨_, rfl⟩
        obtain ⟨r, hr⟩ : ∃ r : Nat, r = (n - 65536) % 1024 := ⟨_, rfl⟩
        have e1 : ((n : Int) - 65536).tdiv 1024 = (q : Int) := by rw [Int.tdiv_eq_ediv_of_nonneg (by omega)]; omega
        have e2 : ((n : Int) - 65536).tmod 1024 = (r : Int) := by rw [Int.tmod_eq_emod_of_nonneg (by omega)]; omega
        have e3 : ((n : Int) - 65536) / 1024 = (q : Int) := by omega
        have e4 : ((n : Int) - 65536) % 1024 = (r : Int) := by omega
        have hq2 : q < 1025 := by omega
        have hr2 : r < 1024 := by omega
        have HN : Hid (unitsR n = [55296 + (q : Int), 56320 + (r : Int)]) := Lib.hid (by unfold unitsR; rw [if_pos h16, e3, e4])
        clear hq hr
        have fa : Fr NoB wr (wr.alloc (.cells #[.int .i64 (55296 + (q : Int))] 3)) := (Fr.refl _ _).alloc _
        have ownA := hown.fr fa
        go_upto_region 12 with (at_builtin; go_loud (refine ir_one rfl _ _ rfl w1.heap.size u6 A rfl ownA wr.heap.size (55296 + (q : Int)) rfl (one_cell wr _) (by omega) (by simp; omega) ?_; intro v4 w4 hown4 hgr))
        have hf4 : Fr NoB w1 w4 := ownA.grown (hf.trans fa) hgr (Nat.le_refl _)
        have hs4 := hf4.size
        have fb : Fr NoB w4 (w4.alloc (.cells #[.int .i64 (56320 + (r : Int))] 3)) := (Fr.refl _ _).alloc _
        have ownB := hown4.fr fb
        go_wp2_with (at_builtin; go_loud (refine ir_one rfl _ _ rfl w1.heap.size v4 (A ++ [55296 + (q : Int)]) rfl ownB w4.heap.size (56320 + (r : Int)) rfl (one_cell w4 _) (by rw [List.length_append]; simp; omega) (by simp; omega) ?_; intro v5 w5 hown5 hgr5))
        go_roundw
        case rel => exact ⟨m + 1, by omega, by simp, by rw [HT.out, HN.out]; simpa using hown5, ownB.grown (hf4.trans fb) hgr5 (Nat.le_refl _)⟩
        case measure => simp [intOf]; omega
      · have k3 : ¬ (65536 : Int) ≤ n := by omega
        have HN : Hid (unitsR n = [(n : Int)]) := Lib.hid (by unfold unitsR; rw [if_neg h16])
        have fa : Fr NoB wr (wr.alloc (.cells #[.int .i64 (n : Int)] 3)) := (Fr.refl _ _).alloc _
        have ownA := hown.fr fa
        go_wp2_with (at_builtin; go_loud (refine ir_one rfl _ _ rfl w1.heap.size u6 A rfl ownA wr.heap.size (n : Int) rfl (one_cell wr _) (by omega) (by simp; omega) ?_; intro v4 w4 hown4 hgr))
        go_roundw
        case rel => exact ⟨m + 1, by omega, by simp, by rw [HT.out, HN.out]; exact hown4, ownA.grown (hf.trans fa) hgr (Nat.le_refl _)⟩
        case measure => simp [intOf]; omega
    · obtain rfl : m = R.length := by omega
      rw [List.take_length] at hown
      go_wp2_with fail
      go_ret2
      exact ⟨_, rfl, by rw [HU.out]; exact own_base hown hws, f1.trans hf⟩
theorem units_no {B : Nat} (s : Bs) (w : World) (hx : Cx B w) (hl : s.length ≤ 1048576) (hv : Lib.validD s = false) :
    Calls Tryz.prog 29 #[.string ⟨s.toArray⟩] w fun e w' => e = .returned (.tuple #[.slice none 0 0, .int .i64 12]) ∧ Fr NoB w w' := by
  have HR := Lib.hid (runes_any s w hx (by omega))
  have HV := Lib.hid hv
  clear hv
  go_enter Tryz.func29, Tryz.ntmps29
  go_wp2_with (first | (go_at_call 46; ((with_reducible refine HR.out.mono ?_); rintro e w1 ⟨_, hn⟩; obtain ⟨p, rfl, f1⟩ := hn HV.out; unfold thereV)) | (go_at_call 47; ((with_reducible refine (told_any _ 12 _ (hx.fr0 f1)).mono ?_); rintro e w2 ⟨rfl, f2⟩)))
  go_ret2
  exact ⟨rfl, f1.trans f2⟩
end Go.Proofs.YteeijmfnjcddmaaGreatDoor
