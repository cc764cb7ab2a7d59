/- The replay cache: Add in one word; the law package's fixed. -/
import Derived.Test.YtkhaeoggchnheaaCacheE
namespace Go.Proofs.Ytkhaeoggchnheaa
open Go.RowKit Go.Maps Go.WideMaps

theorem ref0_zero {s : List UInt8} {til now : Int} (h : ref0 s til now = 0) : tickB til = true ∧ tickB now = true ∧ s ≠ [] ∧ s.length ≤ 64 := by
  unfold ref0 at h
  by_cases h1 : tickB til = false ∨ tickB now = false
  · rw [if_pos h1] at h; omega
  · rw [if_neg h1] at h
    by_cases h2 : s = [] ∨ 64 < s.length
    · rw [if_pos h2] at h; omega
    · simp only [not_or, Bool.not_eq_false] at h1
      simp only [not_or] at h2
      exact ⟨h1.1, h1.2, h2.1, by omega⟩
theorem tickB_bd {n : Int} (h : tickB n = true) : 0 ≤ n ∧ n ≤ 1099511627776 := by simpa [tickB] using h

theorem add_any {w : World} {b mb : Nat} {room clock : Int} {n : Nat} {es : List (Lit × DataW Unit)} (h : IsC w b mb room clock n (.map es)) (hn : es.length < maxLen) (s : ByteArray) (hs : s.size ≤ maxLen) (til now : Int) :
    Calls Try.prog 11 #[.pointer (some ⟨b, 0, none⟩), .string s, .int .i64 til, .int .i64 now] w fun e w' => e = .returned (.int .i64 (addE room clock es s.data.toList til now)) ∧
      IsC w' b mb room (addC clock s.data.toList til now) (addL room clock es s.data.toList til now).length (.map (addL room clock es s.data.toList til now)) ∧ Fr (Two b mb) w w' := by
  unfold addE addC addL
  by_cases h0 : ref0 s.data.toList til now = 0
  · obtain ⟨t1, _⟩ := ref0_zero h0
    have t2 := tickB_bd t1
    simp only [h0, ne_eq, not_true_eq_false, if_false]
    refine (add_yes h.tight hn s hs til now (max clock now) h0 (WalkArith.wf_i64 (by omega)) (by omega)).mono ?_
    rintro e w' ⟨rfl, ⟨n', hC⟩, hF⟩
    exact ⟨rfl, hC.tight, hF⟩
  · simp only [if_pos h0]
    refine (add_no s til now h0).mono ?_
    rintro e w' ⟨rfl, rfl⟩
    exact ⟨rfl, h.tight, Fr.refl _ _⟩

theorem add_at {w : World} {b mb : Nat} {room clock : Int} {n : Nat} {es : List (Lit × DataW Unit)} (h : IsC w b mb room clock n (.map es)) (hn : es.length < maxLen) (s : ByteArray) (hs : s.size ≤ maxLen) (til now : Int) (r c' : Int) (es' : List (Lit × DataW Unit))
    (hr : addE room clock es s.data.toList til now = r) (hc : addC clock s.data.toList til now = c') (hl : addL room clock es s.data.toList til now = es') :
    Calls Try.prog 11 #[.pointer (some ⟨b, 0, none⟩), .string s, .int .i64 til, .int .i64 now] w fun e w' => e = .returned (.int .i64 r) ∧ IsC w' b mb room c' es'.length (.map es') ∧ Fr (Two b mb) w w' := by
  subst hr hc hl
  exact add_any h hn s hs til now
theorem len_at {w : World} {b mb : Nat} {room clock : Int} {n : Nat} {es : List (Lit × DataW Unit)} (h : IsC w b mb room clock n (.map es)) (hn : es.length < maxLen) (now r : Int) (hr : lenN clock es now = r) :
    Calls Try.prog 10 #[.pointer (some ⟨b, 0, none⟩), .int .i64 now] w fun e w' => e = .returned (.int .i64 r) ∧ IsC w' b mb room clock es.length (.map es) ∧ Fr NoB w w' := by
  subst hr
  exact (len_any h.tight hn now).mono fun _ _ ⟨he, hf⟩ => ⟨he, h.tight.fr hf (by simp [NoB]) (by simp [NoB]), hf⟩
theorem has_at {w : World} {b mb : Nat} {room clock : Int} {n : Nat} {es : List (Lit × DataW Unit)} (h : IsC w b mb room clock n (.map es)) (s : ByteArray) (hs : s.size ≤ maxLen) (now : Int) (r : Bool) (hr : hasB clock (.map es) s.data.toList now = r) :
    Calls Try.prog 9 #[.pointer (some ⟨b, 0, none⟩), .string s, .int .i64 now] w fun e w' => e = .returned (.bool r) ∧ IsC w' b mb room clock es.length (.map es) ∧ Fr NoB w w' := by
  subst hr
  exact (has_any h s hs now).mono fun _ _ ⟨he, k, hk⟩ => by subst hk; exact ⟨he, h.tight.drewN k, (Fr.refl _ _).drewN k⟩

theorem new_C (room : Int) (w : World) : IsC ((w.alloc (.map #[] 0)).alloc (.cells #[.int .i64 room, .int .i64 0, .map (some w.heap.size)] 48)) (w.heap.size + 1) w.heap.size room 0 0 (.map []) := by
  refine ⟨?_, (World.ownsMap_made w _ _ _).alloc _, by omega⟩
  have := Blk.new (w.alloc (.map #[] 0)) 48 #[.int .i64 room, .int .i64 0, .map (some w.heap.size)]
  simpa using this
theorem Fr.two {S : Nat → Prop} {a w w' : World} {b mb : Nat} (h : Fr S a w) (k : Fr (Two b mb) w w') (hb : a.heap.size ≤ b) (hm : a.heap.size ≤ mb) : Fr S a w' :=
  h.andThen k (fun j hj ht => by rcases ht with rfl | rfl <;> omega)
theorem Fr.no {S : Nat → Prop} {a w w' : World} (h : Fr S a w) (k : Fr NoB w w') : Fr S a w' := h.andThen k (fun _ _ ht => ht.elim)

set_option maxHeartbeats 1600000 in
theorem fixed_any (w : World) : Calls Try.prog 8 #[] w fun e w' => e = .returned (.bool true) ∧ Fr NoB w w' := by
  go_enter Try.func8, Try.ntmps8
  go_wp2_with fail
  refine (new_yes 1 w (by decide) (by decide)).mono ?_
  rintro e w1 ⟨rfl, hw1⟩
  have hC : IsC w1 (w.heap.size + 1) w.heap.size 1 0 0 (.map []) := by subst hw1; exact new_C 1 w
  have hF : Fr NoB w w1 := by subst hw1; exact ((Fr.refl _ _).alloc _).alloc _
  clear hw1
  go_wp2_with fail
  refine (new_no 65 w1 (by decide)).mono ?_
  rintro e w2 ⟨rfl, rfl⟩
  go_wp2_with fail
  refine (add_at hC (by decide) ⟨#[97]⟩ (by decide) 5 0 0 0 [(.string [97], .lit (.int .i64 5))] (by decide +kernel) (by decide +kernel) (by kernel_rfl)).mono ?_
  rintro e w3 ⟨rfl, hC3, hF3⟩
  replace hF := hF.two hF3 (by omega) (by omega)
  go_wp2_with fail
  refine (add_at hC3 (by decide) ⟨#[97]⟩ (by decide) 9 4 140 4 [(.string [97], .lit (.int .i64 5))] (by decide +kernel) (by decide +kernel) (by kernel_rfl)).mono ?_
  rintro e w4 ⟨rfl, hC4, hF4⟩
  replace hF := hF.two hF4 (by omega) (by omega)
  go_wp2_with fail
  refine (add_at hC4 (by decide) ⟨#[98]⟩ (by decide) 9 4 141 4 [(.string [97], .lit (.int .i64 5))] (by decide +kernel) (by decide +kernel) (by kernel_rfl)).mono ?_
  rintro e w5 ⟨rfl, hC5, hF5⟩
  replace hF := hF.two hF5 (by omega) (by omega)
  go_wp2_with fail
  refine (add_at hC5 (by decide) ⟨#[97]⟩ (by decide) 9 5 0 5 [(.string [97], .lit (.int .i64 9))] (by decide +kernel) (by decide +kernel) (by kernel_rfl)).mono ?_
  rintro e w6 ⟨rfl, hC6, hF6⟩
  replace hF := hF.two hF6 (by omega) (by omega)
  go_wp2_with fail
  refine (len_at hC6 (by decide) 5 1 (by decide +kernel)).mono ?_
  rintro e w7 ⟨rfl, hC7, hF7⟩
  replace hF := hF.no hF7
  go_wp2_with fail
  refine (add_at hC7 (by decide) ⟨#[98]⟩ (by decide) 7 0 141 5 [(.string [97], .lit (.int .i64 9))] (by decide +kernel) (by decide +kernel) (by kernel_rfl)).mono ?_
  rintro e w8 ⟨rfl, hC8, hF8⟩
  replace hF := hF.two hF8 (by omega) (by omega)
  go_wp2_with fail
  refine (has_at hC8 ⟨#[97]⟩ (by decide) 0 true (by decide +kernel)).mono ?_
  rintro e w9 ⟨rfl, hC9, hF9⟩
  replace hF := hF.no hF9
  go_wp2_with fail
  refine (has_at hC9 ⟨#[97]⟩ (by decide) 9 false (by decide +kernel)).mono ?_
  rintro e w10 ⟨rfl, hC10, hF10⟩
  replace hF := hF.no hF10
  go_wp2_with fail
  refine (add_at hC10 (by decide) ⟨#[]⟩ (by decide) 9 0 142 5 [(.string [97], .lit (.int .i64 9))] (by decide +kernel) (by decide +kernel) (by kernel_rfl)).mono ?_
  rintro e w11 ⟨rfl, hC11, hF11⟩
  replace hF := hF.two hF11 (by omega) (by omega)
  go_wp2_with fail
  refine (add_at hC11 (by decide) ⟨#[98]⟩ (by decide) 5 5 1 5 [(.string [97], .lit (.int .i64 9))] (by decide +kernel) (by decide +kernel) (by kernel_rfl)).mono ?_
  rintro e w12 ⟨rfl, hC12, hF12⟩
  replace hF := hF.two hF12 (by omega) (by omega)
  go_wp2_with fail
  refine (len_at hC12 (by decide) 9 0 (by decide +kernel)).mono ?_
  rintro e w13 ⟨rfl, hC13, hF13⟩
  replace hF := hF.no hF13
  go_wp2_with fail
  go_ret
  exact ⟨rfl, hF⟩

end Go.Proofs.Ytkhaeoggchnheaa
