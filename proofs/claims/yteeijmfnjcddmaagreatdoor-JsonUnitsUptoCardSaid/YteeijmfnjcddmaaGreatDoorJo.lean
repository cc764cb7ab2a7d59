/- The contracts of Parse, Check, Get and Texts in the words of the laws' walks. -/
import Derived.Test.YteeijmfnjcddmaaGreatDoorSz
import Derived.Test.YteeijmfnjcddmaaGreatDoorRs
namespace Go.Proofs.YteeijmfnjcddmaaGreatDoor
open Go.RowKit

theorem parse_o {B : Nat} (s : Bs) (w : World) (hx : Cx B w) (hl : s.length ≤ 1048576) : Calls Tryz.prog 17 #[.string ⟨s.toArray⟩] w (ParO (parseP s) w) := by
  refine (parse_any s w hx (by omega)).mono fun e w' h => ?_
  cases hq : parseP s with
  | ok j =>
    rw [hq] at h
    obtain ⟨v, rfl, hj, f⟩ := h
    exact ⟨v, rfl, RAt.mono (fun g hg => hg.2) _ _ hj.at_, f⟩
  | error n =>
    rw [hq] at h
    obtain ⟨rfl, f⟩ := h
    exact ⟨_, rfl, nul_at _ _, f⟩
theorem check_at {B : Nat} (j : Jv) (v : Value) (w : World) (hx : Cx B w) (hat : RAt (All w) w j v) (hs : szJ j ≤ 8388608) : Calls Tryz.prog 13 #[v] w fun e w' => e = .returned (.int .i64 (checkP 0 j : Int)) ∧ Fr NoB w w' :=
  check_any (All w) j v w hx (fun _ h => h) hat (JSm_of j hs)
theorem list_le (j : Jv) : j.list.length ≤ szJ j := by
  cases j with
  | mk k i t l ks => have := szL_len l; simp only [Jv.list, szJ]; omega
theorem text_le (j : Jv) : j.text.length ≤ szJ j := by
  cases j with
  | mk k i t l ks => simp only [Jv.text, szJ]; omega
theorem szL_in : ∀ {l : List Jv} {x : Jv}, x ∈ l → szJ x ≤ szL l
  | [], x, h => by simp at h
  | j :: r, x, h => by
    rcases List.mem_cons.1 h with rfl | h
    · simp only [szL]; omega
    · have := szL_in h; simp only [szL]; omega
theorem texts_big (j : Jv) (hs : szJ j ≤ 1048576) (q : List Bs) (h : textsP j = some q) : q.length ≤ big ∧ ∀ s ∈ q, s.length ≤ big := by
  cases j with
  | mk k i t l ks =>
    have hT : textsP (.mk k i t l ks) = if k = 5 ∧ l.all (fun x => x.kind == 4) = true then some (l.map Jv.text) else none := rfl
    rw [hT] at h
    split at h
    · simp only [Option.some.injEq] at h
      subst h
      have h1 := szL_len l
      simp only [szJ] at hs
      refine ⟨by simp [big]; omega, fun s hm => ?_⟩
      obtain ⟨x, hx, rfl⟩ := List.mem_map.1 hm
      have h2 := text_le x
      have h3 := szL_in hx
      unfold big; omega
    · cases h
end Go.Proofs.YteeijmfnjcddmaaGreatDoor
