/- ReplayDoes: for every room and every script the law returns true, and its arguments read as before. No condition. -/
import Derived.Test.YtkhaeoggchnheaaOpsLen
import Derived.Test.YtkhaeoggchnheaaDoesW
import Derived.SizedLaws
namespace Go.Proofs.Ytkhaeoggchnheaa.replayDoes
open Go.ChangeShapes Go.WideShapes Go.ChangeAt Go.RowKit

set_option maxRecDepth 100000 in
theorem lifted (os : Os) (started : os.Started) (H : Type) (enc : TypeId × Value → H) :
    ReturnsInHanded {} Try.checked os 6 .any (Rows.replayDoesSpec.pre6 enc Try.prog Try.f6 Rows.replayDoesRow.domain false) (Rows.replayDoesSpec.post enc Try.prog Try.f6 false true false false) := by
  refine returnsInHanded_of_change_sized (C := Try.checked) own started (by kernel_rfl) Try.func6
    (ChangeSpec.witness6 (enc := enc) (C := Try.checked) false ⟨#[], #[.int .i64 0, .slice none 0 0], []⟩ 8 (by kernel_rfl) (by kernel_rfl) (by kernel_rfl) (by kernel_rfl)) ?_
  intro W base args ds gs before hval0 hW hcnd hsz _
  have hval : ∀ (j : Nat) t v, Try.f6.params[j]? = some t → args[j]? = some v → Value.okWide Try.prog W .any base t v := hval0
  have hW' := hW
  obtain ⟨p, q, hA0, hV, rfl, hfz, hnd⟩ := hW
  have hA : DataW.TrodAll enc Try.prog W 0 (fun _ => true) true Try.f6.params.toList args.toList ds p := hA0
  rw [Try.params6] at hA hval
  obtain ⟨v0, vs0, d0, ds0, p0, q0, hargs, rfl, rfl, h0, r0⟩ := trodAll_cons hA
  obtain ⟨v1, vs1, d1, ds1, p1, q1, rfl, rfl, rfl, h1, r1⟩ := trodAll_cons r0
  obtain ⟨rfl, rfl, rfl⟩ := trodAll_nil r1
  obtain rfl : args = #[v0, v1] := by cases args; simp_all
  obtain ⟨rfl, rfl⟩ := trodVars_none hV
  have k0 := h0
  have lt0 : ∀ x ∈ p0, x.block < W.heap.size := by obtain ⟨m, hm⟩ := k0; exact DataW.trod_lt m _ _ _ hm
  have k1 := h1
  have lt1 : ∀ x ∈ p1, x.block < W.heap.size := by obtain ⟨m, hm⟩ := k1; exact DataW.trod_lt m _ _ _ hm
  obtain ⟨a1, len1, cap1, rfl⟩ := okWide_slice Try.underlying22 (hval 1 22 v1 rfl rfl)
  obtain ⟨hn1, hO1⟩ := open_ops h1
  obtain ⟨room, rfl, rfl, rfl, w0⟩ := open_int Try.underlying3 (hval 0 3 v0 rfl rfl) h0
  have hsize : len1 * 48 ≤ 140737488351232 := by
    rcases ops_len k1 with h0 | ⟨elems, spare, hd, hl⟩
    · rw [h0]; omega
    · subst hd
      have := sized_slice hsz (j := 1) (t := 22) (e := 30) rfl rfl Try.underlying22
      have this : (elems.length + spare.length) * Try.prog.bytesOf 30 ≤ reachBytes := this
      rw [bytesOp, hl] at this
      unfold reachBytes at this
      have : len1 * 48 ≤ (len1 + spare.length) * 48 := Nat.mul_le_mul_right _ (by omega)
      omega
  clear hA0 hval0
  have walk : Calls Try.prog 6 #[.int .i64 room, .slice a1 len1 cap1] W fun e w' => e = .returned (.bool true) ∧ Fr NoB W w' := by
    by_cases hr : 1 ≤ room ∧ room ≤ 64
    · exact does_yes room a1 len1 cap1 W hr.1 hr.2 hsize hO1
    · exact does_no room _ W (by omega)
  refine walk.mono fun e W' ⟨he, fr⟩ => ?_
  have bel : Below W.heap.size W W' := fr.below (Nat.le_refl _) (fun _ hj => hj.elim)
  subst he
  exact ⟨_, rfl, _, _, _, [], _, [], hW', trodAll_mk1 (shut_bool Try.underlying4 _), (trodAll_cons_mk (Below.trod laidOut (by kernel_rfl) (of_decide_eq_true (by kernel_rfl)) k0 bel lt0) (trodAll_cons_mk (Below.trod laidOut (by kernel_rfl) (of_decide_eq_true (by kernel_rfl)) k1 bel lt1) trodAll_mk0)), rfl, bel.frame _, fun h => by cases h⟩

theorem over : Rows.replayDoesRow.holds Try.pinned (OpenSpec.ofChange Rows.replayDoesSpec) :=
  OpenClaim.holds_of_wide 6 Try.f6 rfl rfl rfl rfl rfl rfl rfl ⟨rfl, rfl, rfl, rfl, rfl⟩ rfl rfl rfl rfl rfl (by kernel_rfl) Try.func6 (by kernel_rfl)
    (of_decide_eq_true (by kernel_rfl)) (by unfold Func.isWrapper; first | (rw [if_pos (by decide +kernel)]; kernel_rfl) | (rw [if_neg (by decide +kernel)]; exact ⟨rfl, rfl⟩))
    (fun os started H enc _ => lifted os started H enc)

theorem proved : Rows.ReplayDoesSaid := over
#print axioms proved
end Go.Proofs.Ytkhaeoggchnheaa.replayDoes
