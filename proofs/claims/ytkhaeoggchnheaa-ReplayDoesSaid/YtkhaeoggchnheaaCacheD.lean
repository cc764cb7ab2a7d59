/- The replay cache: refused, Add. -/
import Derived.Test.YtkhaeoggchnheaaCacheC
namespace Go.Proofs.Ytkhaeoggchnheaa
open Go.RowKit Go.Maps Go.WideMaps

/-- refused, from the ticks on: the first two questions. -/
def ref0 (s : List UInt8) (til now : Int) : Int := if tickB til = false ∨ tickB now = false then 1 else if s = [] ∨ 64 < s.length then 142 else 0
/-- refused, from the time on. -/
def ref2 (room clock : Int) (es : List (Lit × DataW Unit)) (s : List UInt8) (til : Int) : Int :=
  if til ≤ clock then 1 else if Maps.has (.map es) (.string s) = true then 140 else if room ≤ es.length then 141 else 0

set_option maxHeartbeats 800000 in
theorem ref0_any (a : Value) (s : ByteArray) (til now : Int) (w : World) :
    Calls Try.prog 20 #[a, .int .i64 0, .string s, .int .i64 til, .int .i64 now] w fun e w' => e = .returned (.int .i64 (ref0 s.data.toList til now)) ∧ w = w' := by
  have hl : s.data.toList.length = s.size := by simp
  obtain ⟨r, hr⟩ : ∃ r, r = ref0 s.data.toList til now := ⟨_, rfl⟩
  rw [← hr]
  unfold ref0 at hr
  rw [hl] at hr
  have te := ByteArray.toList_eq s
  cases h1 : tickB til
  · have HR : Hid (r = 1) := by rw [hr, h1]; simp [Hid]
    clear hr hl te
    go_enter Try.func20, Try.ntmps20
    go_wp2_with (go_at_call 19; refine (tick_any _ _).mono ?_; rintro e w' ⟨rfl, rfl⟩)
    go_ret
    exact ⟨by rw [HR.out]; rfl, rfl⟩
  · cases h2 : tickB now
    · have HR : Hid (r = 1) := by rw [hr, h1, h2]; simp [Hid]
      clear hr hl te
      go_enter Try.func20, Try.ntmps20
      go_wp2_with (go_at_call 19; refine (tick_any _ _).mono ?_; rintro e w' ⟨rfl, rfl⟩)
      go_ret
      exact ⟨by rw [HR.out]; rfl, rfl⟩
    · by_cases h3 : s.data.toList = []
      · have HR : Hid (r = 142) := by rw [hr, h1, h2, h3]; simp [Hid]
        have h3b : s.toList.isEmpty = true := by rw [te, h3]; rfl
        clear hr hl te h3
        go_enter Try.func20, Try.ntmps20
        go_wp2_with (go_at_call 19; refine (tick_any _ _).mono ?_; rintro e w' ⟨rfl, rfl⟩)
        go_ret
        exact ⟨by rw [HR.out]; rfl, rfl⟩
      · have h3b : s.toList.isEmpty = false := by rw [te]; simpa using h3
        by_cases h4 : 64 < s.size
        · have HR : Hid (r = 142) := by rw [hr, h1, h2]; simp [Hid, h4]
          clear hr hl te h3
          go_enter Try.func20, Try.ntmps20
          go_wp2_with (go_at_call 19; refine (tick_any _ _).mono ?_; rintro e w' ⟨rfl, rfl⟩)
          go_ret
          exact ⟨by rw [HR.out]; rfl, rfl⟩
        · have HR : Hid (r = 0) := by rw [hr, h1, h2, if_neg (by simp), if_neg (by simp only [not_or]; exact ⟨h3, h4⟩)]; rfl
          clear hr hl te h3
          go_enter Try.func20, Try.ntmps20
          go_wp2_with (go_at_call 19; refine (tick_any _ _).mono ?_; rintro e w' ⟨rfl, rfl⟩)
          go_ret
          exact ⟨by rw [HR.out]; rfl, rfl⟩

set_option maxHeartbeats 800000 in
theorem ref2_any {w : World} {b mb : Nat} {room clock : Int} {n : Nat} {es : List (Lit × DataW Unit)} (h : IsC w b mb room clock n (.map es)) (s : ByteArray) (hs : s.size ≤ maxLen) (til now : Int) :
    Calls Try.prog 20 #[.pointer (some ⟨b, 0, none⟩), .int .i64 2, .string s, .int .i64 til, .int .i64 now] w fun e w' => e = .returned (.int .i64 (ref2 room clock es s.data.toList til)) ∧ Fr NoB w w' ∧ w'.heap = w.heap := by
  obtain ⟨c0, c1, c2, _⟩ := h.cells
  have hkey := keyOf_string_mk Try.underlying9 hs
  have hown := h.own
  obtain ⟨r, hr⟩ : ∃ r, r = ref2 room clock es s.data.toList til := ⟨_, rfl⟩
  rw [← hr]
  unfold ref2 at hr
  by_cases h1 : til ≤ clock
  · have HR : Hid (r = 1) := by rw [hr, if_pos h1]; rfl
    clear hr h hown hkey
    go_enter Try.func20, Try.ntmps20
    go_wp2
    go_ret
    exact ⟨by rw [HR.out]; rfl, Fr.refl _ _, rfl⟩
  · rw [if_neg h1] at hr
    cases h2 : Maps.has (.map es) (.string s.data.toList)
    · rw [h2, if_neg (by simp)] at hr
      have hlen : ∀ nq, (Builtin.len_ #[28] 3 #[.map (some mb)]).run Try.prog (w.drewN nq) = .ok (.int .i64 es.length) (w.drewN nq) := fun nq => (h.drewN nq).own.len Try.underlying28 3
      clear h
      by_cases h3 : room ≤ es.length
      · have HR : Hid (r = 141) := by rw [hr, if_pos h3]; rfl
        clear hr
        go_enter Try.func20, Try.ntmps20
        go_wp2_with (at_lookup; refine wpList_lookup_own_ok_int _ rfl _ _ 28 rfl 9 3 .i64 lawS Try.underlying28 Try.underlying3 (zeroI _) mb n _ rfl hown _ _ rfl hkey ?_; intro c hat hwc; rw [h2]; clear hat)
        go_quiet (fail)
        go_wp2
        go_ret
        exact ⟨by rw [HR.out]; rfl, (Fr.refl _ _).drewN _, rfl⟩
      · have HR : Hid (r = 0) := by rw [hr, if_neg h3]; rfl
        clear hr
        go_enter Try.func20, Try.ntmps20
        go_wp2_with (at_lookup; refine wpList_lookup_own_ok_int _ rfl _ _ 28 rfl 9 3 .i64 lawS Try.underlying28 Try.underlying3 (zeroI _) mb n _ rfl hown _ _ rfl hkey ?_; intro c hat hwc; rw [h2]; clear hat)
        go_quiet (fail)
        go_wp2
        go_ret
        exact ⟨by rw [HR.out]; rfl, (Fr.refl _ _).drewN _, rfl⟩
    · rw [h2, if_pos rfl] at hr
      have HR : Hid (r = 140) := hr
      clear hr h
      go_enter Try.func20, Try.ntmps20
      go_wp2_with (at_lookup; refine wpList_lookup_own_ok_int _ rfl _ _ 28 rfl 9 3 .i64 lawS Try.underlying28 Try.underlying3 (zeroI _) mb n _ rfl hown _ _ rfl hkey ?_; intro c hat hwc; rw [h2]; clear hat)
      go_ret
      exact ⟨by rw [HR.out]; rfl, Fr.refl _ _, rfl⟩

end Go.Proofs.Ytkhaeoggchnheaa
