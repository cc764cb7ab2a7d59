/- ReplayKeeps: the walk. -/
import Derived.Test.YtkhaeoggchnheaaOnce
import Derived.Deep.RegionHeld3
import Derived.Deep.AppendLies
import Derived.Deep.CutBlock
namespace Go.Proofs.Ytkhaeoggchnheaa
open Go.RowKit Go.Maps Go.WideMaps

/-- A slice of strings that came in. -/
def Strs (w : World) (A : Option Addr) (n B : Nat) : Prop := ∀ i, i < n → ∃ (b off : Nat) (s : ByteArray), A = some ⟨b, off, none⟩ ∧ b < B ∧ s.size ≤ maxLen ∧ w.cell? ⟨b, off + i, none⟩ = some (.string s)

theorem Try.infoS : (Try.prog.info? 9).map (fun i => (i.zero, i.size, i.bytes)) = some (some (.string ⟨#[]⟩), 1, 16) := by kernel_rfl

set_option maxRecDepth 100000 in
theorem keeps_no (room til : Int) (v : Value) (w : World) (h : room < 1 ∨ 64 < room) :
    Calls Try.prog 4 #[.int .i64 room, v, .int .i64 til] w fun e w' => e = .returned (.bool true) ∧ Fr NoB w w' := by
  rcases h with h | h
  all_goals
    go_enter Try.func4, Try.ntmps4
    go_wp2_with (first | (go_at_call 7; refine (new_no _ _ (by omega)).mono ?_; rintro e w' ⟨rfl, rfl⟩) | (go_at_call 8; refine (fixed_any _).mono ?_; rintro e w' ⟨rfl, hF⟩))
    go_ret
    exact ⟨rfl, hF⟩

set_option maxRecDepth 100000 in
theorem keeps_til (room til : Int) (v : Value) (w : World) (h1 : 1 ≤ room) (h2 : room ≤ 64) (h : til < 1 ∨ 1099511627776 ≤ til) :
    Calls Try.prog 4 #[.int .i64 room, v, .int .i64 til] w fun e w' => e = .returned (.bool true) ∧ Fr NoB w w' := by
  rcases h with h | h
  all_goals
    go_enter Try.func4, Try.ntmps4
    go_wp2_with fail
    refine (new_yes room w h1 h2).mono ?_
    rintro e w1 ⟨rfl, hw1⟩
    have hF : Fr NoB w w1 := by subst hw1; exact ((Fr.refl _ _).alloc _).alloc _
    clear hw1
    go_wp2_with fail
    refine (fixed_any _).mono ?_
    rintro e w' ⟨rfl, hF2⟩
    go_wp2_with fail
    go_ret
    exact ⟨rfl, hF.no hF2⟩

theorem add0 (g j : Nat) : (⟨g, 0, none⟩ : Addr).add j = ⟨g, j, none⟩ := by
  unfold Addr.add
  split
  · rename_i h; subst h; rfl
  · simp
/-- Is a text among those? -/
def memB (l : List ByteArray) (s : ByteArray) : Bool := l.any fun t => t.data.toList == s.data.toList
/-- What the cache holds beside the law's own list. -/
structure KInv (room til : Int) (es : List (Lit × DataW Unit)) (ins : List ByteArray) : Prop where
  til : ∀ p ∈ es, num p.2 = til
  len : es.length = ins.length
  mem : ∀ s : ByteArray, Maps.has (.map es) (.string s.data.toList) = memB ins s
  fit : ∀ s ∈ ins, s.size ≤ maxLen
  room : (ins.length : Int) ≤ room

theorem KInv.start {room til : Int} (h : 1 ≤ room) : KInv room til [] [] := ⟨by simp, rfl, fun _ => rfl, by simp, by simp; omega⟩
theorem KInv.sweep {room til : Int} {es : List (Lit × DataW Unit)} {ins : List ByteArray} (h : KInv room til es ins) {t : Int} (ht : t < til) : sweep es t = es := by
  unfold Go.Proofs.Ytkhaeoggchnheaa.sweep
  rw [List.filter_eq_self]
  intro p hp
  simp [h.til p hp, ht]
theorem KInv.live_all {room til : Int} {es : List (Lit × DataW Unit)} {ins : List ByteArray} (h : KInv room til es ins) {t : Int} (ht : t < til) : live es t = ins.length := by
  have := h.sweep ht
  unfold Go.Proofs.Ytkhaeoggchnheaa.sweep at this
  unfold live
  rw [this, h.len]
theorem KInv.live_none {room til : Int} {es : List (Lit × DataW Unit)} {ins : List ByteArray} (h : KInv room til es ins) {t : Int} (ht : til ≤ t) : live es t = 0 := by
  unfold live
  rw [List.length_eq_zero_iff, List.filter_eq_nil_iff]
  intro p hp
  simp [h.til p hp]; omega
theorem KInv.sweep_none {room til : Int} {es : List (Lit × DataW Unit)} {ins : List ByteArray} (h : KInv room til es ins) {t : Int} (ht : til ≤ t) : Go.Proofs.Ytkhaeoggchnheaa.sweep es t = [] := by
  unfold Go.Proofs.Ytkhaeoggchnheaa.sweep
  rw [List.filter_eq_nil_iff]
  intro p hp
  simp [h.til p hp]; omega
theorem KInv.val {room til : Int} {es : List (Lit × DataW Unit)} {ins : List ByteArray} (h : KInv room til es ins) (ht : Tid es) {s : ByteArray} (hs : memB ins s = true) : valAt (.map es) s.data.toList = til := by
  rw [← h.mem s] at hs
  obtain ⟨d, hd⟩ := mem_of_has hs
  rw [valAt_of_mem ht hd]
  exact h.til _ hd
theorem memB_mem {ins : List ByteArray} {s : ByteArray} (h : s ∈ ins) : memB ins s = true := List.any_eq_true.2 ⟨s, h, by simp⟩
theorem memB_snoc (l : List ByteArray) (s t : ByteArray) : memB (l ++ [t]) s = (memB l s || (t.data.toList == s.data.toList)) := by simp [memB]
theorem memB_take {l : List ByteArray} {s : ByteArray} {j : Nat} (h : j < l.length) : memB (l.take (j + 1)) s = (memB (l.take j) s || (l[j].data.toList == s.data.toList)) := by
  rw [List.take_succ_eq_append_getElem h, memB_snoc]

/-- What Add says in the law's own words. -/
theorem KInv.add {room til : Int} {es : List (Lit × DataW Unit)} {ins : List ByteArray} (h : KInv room til es ins) (h1 : 1 ≤ til) (h2 : til < 1099511627776) (s : ByteArray) (hs : s.size ≤ maxLen) :
    ((s.size < 1 ∨ 64 < s.size) → addE room 0 es s.data.toList til 0 = 142 ∧ addL room 0 es s.data.toList til 0 = es) ∧
    (¬ (s.size < 1 ∨ 64 < s.size) → memB ins s = true → addE room 0 es s.data.toList til 0 = 140 ∧ addL room 0 es s.data.toList til 0 = es) ∧
    (¬ (s.size < 1 ∨ 64 < s.size) → memB ins s = false → (ins.length : Int) = room → addE room 0 es s.data.toList til 0 = 141 ∧ addL room 0 es s.data.toList til 0 = es) ∧
    (¬ (s.size < 1 ∨ 64 < s.size) → memB ins s = false → (ins.length : Int) ≠ room → addE room 0 es s.data.toList til 0 = 0 ∧ KInv room til (addL room 0 es s.data.toList til 0) (ins ++ [s])) := by
  have hl : s.data.toList.length = s.size := by simp
  have t1 : tickB til = true := tickB_yes (by omega) (by omega)
  have t0 : tickB 0 = true := tickB_yes (by omega) (by omega)
  have hsw := h.sweep (t := 0) (by omega)
  have hm : max (0 : Int) 0 = 0 := rfl
  have hmem := h.mem s
  refine ⟨fun hb => ?_, fun hb hi => ?_, fun hb hi hr => ?_, fun hb hi hr => ?_⟩
  · have hr0 : ref0 s.data.toList til 0 = 142 := by
      unfold ref0
      rw [t1, t0, if_neg (by simp), if_pos]
      rw [hl]
      rcases hb with hb | hb
      · exact Or.inl (List.length_eq_zero_iff.1 (by omega))
      · exact Or.inr hb
    unfold addE addL
    simp [hr0]
  all_goals
    have hr0 : ref0 s.data.toList til 0 = 0 := by
      unfold ref0
      rw [t1, t0, if_neg (by simp), if_neg]
      rw [hl]
      intro e
      rcases e with e | e
      · have h0 : s.data.toList.length = 0 := by rw [e]; rfl
        omega
      · omega
    unfold addE addL
    simp only [hr0, ne_eq, not_true_eq_false, if_false, hm, hsw]
    unfold ref2
    rw [if_neg (by omega), hmem, hi, h.len]
  · simp
  · rw [if_neg (by simp), if_pos (by omega)]
    simp
  · have := h.room
    rw [if_neg (by simp), if_neg (by omega)]
    refine ⟨rfl, ?_⟩
    simp only [not_true_eq_false, if_false]
    have hno : Maps.has (.map es) (.string s.data.toList) = false := hmem.trans hi
    refine ⟨fun p hp => ?_, by rw [len_putE_new hno, h.len]; simp, fun t => ?_, fun t ht => ?_, by simp; omega⟩
    · rcases mem_putE.1 hp with rfl | ⟨hp, _⟩
      · rfl
      · exact h.til p hp
    · rw [memB_snoc, ← h.mem t]
      by_cases e : s.data.toList = t.data.toList
      · rw [← e]
        have := Maps.has_put_same (H := Unit) (D := .map es) (k := .string s.data.toList) ⟨es, rfl⟩ trivial (.lit (.int .i64 til))
        show Maps.has (DataW.put (.map es) (.string s.data.toList) (.lit (.int .i64 til))) _ = _
        rw [this]
        simp
      · have := Maps.has_put_other (H := Unit) (D := .map es) (k := .string s.data.toList) (k' := .string t.data.toList) (fun x => e (by injection x with x; exact x.symm)) (.lit (.int .i64 til))
        show Maps.has (DataW.put (.map es) (.string s.data.toList) (.lit (.int .i64 til))) _ = _
        rw [this]
        have eb : (s.data.toList == t.data.toList) = false := by simpa using e
        rw [eb]
        simp
    · rcases List.mem_append.1 ht with ht | ht
      · exact h.fit t ht
      · simp at ht; subst ht; exact hs

set_option maxRecDepth 100000 in
set_option maxHeartbeats 3200000 in
theorem keeps_yes (room til : Int) (A : Option Addr) (n c : Nat) (w : World) (h1 : 1 ≤ room) (h2 : room ≤ 64) (h3 : 1 ≤ til) (h4 : til < 1099511627776) (hn : n ≤ maxLen) (hO : Strs w A n w.heap.size) :
    Calls Try.prog 4 #[.int .i64 room, .slice A n c, .int .i64 til] w fun e w' => e = .returned (.bool true) ∧ Fr NoB w w' := by
  unfold maxLen at hn
  obtain ⟨i0, hi, hz0, hz1, hz2⟩ := info_parts Try.infoS
  have d1 : decide (til < 1) = false := by simp; omega
  have d2 : decide (1099511627776 ≤ til) = false := by simp; omega
  go_enter Try.func4, Try.ntmps4
  go_wp2_with fail
  refine (new_yes room w h1 h2).mono ?_
  rintro e w1 ⟨rfl, hw1⟩
  have hC : IsC w1 (w.heap.size + 1) w.heap.size room 0 0 (.map []) := by subst hw1; exact new_C room w
  have hF : Fr NoB w w1 := by subst hw1; exact ((Fr.refl _ _).alloc _).alloc _
  have hz : w1.heap.size = w.heap.size + 2 := by subst hw1; simp
  have hz5 : w.heap.size + 2 ≤ w1.heap.size := by omega
  have HZ := Lib.hid hz
  clear hw1 hz
  go_wp2_with fail
  go_loopg [9, 10] n (fun gk v9 v10 wr => ∃ (k g cap : Nat) (es : List (Lit × DataW Unit)) (ins : List ByteArray), k + gk = n ∧ v10 = .int .i64 k ∧ v9 = .slice (some ⟨g, 0, none⟩) ins.length cap ∧
    IsC wr (w.heap.size + 1) w.heap.size room 0 es.length (.map es) ∧ wr.ownsRow w1.heap.size 9 1 (.slice (some ⟨g, 0, none⟩) ins.length cap) ins.length (ins.map Value.string) ∧ Fr NoB w wr ∧ KInv room til es ins)
  case atStart => exact ⟨0, w1.heap.size, 0, [], [], by omega, rfl, rfl, hC.al _, ⟨rfl, Or.inr ⟨_, 0, #[], rfl, Nat.le_refl _, heap_alloc_new _ _, Nat.le_refl _, by unfold maxLen; omega, rfl, rfl⟩⟩, hF.alloc _, KInv.start h1⟩
  case round =>
    obtain ⟨k, g, cap, es, ins, hk, rfl, rfl, hCr, hR, hFr, hI⟩ := hrel
    have HK := Lib.hid hk
    clear hk hC hF
    have hw3 : w.heap.size + 1 < wr.heap.size := hCr.blk.lt
    by_cases hlt : k < n
    · obtain ⟨b, off, s, rfl, hb, hs, a0⟩ := hO k hlt
      clear hO
      have nb : ¬ NoB b := by simp [NoB]
      rw [← hFr.cell hb nb] at a0
      go_wp2_with fail
      obtain ⟨r, hr⟩ : ∃ r, addE room 0 es s.data.toList til 0 = r := ⟨_, rfl⟩
      obtain ⟨es', hes'⟩ : ∃ es', addL room 0 es s.data.toList til 0 = es' := ⟨_, rfl⟩
      have hlen : es.length < maxLen := by unfold maxLen; have := hI.len; have := hI.room; omega
      have hc0 : addC 0 s.data.toList til 0 = 0 := by unfold addC; split <;> rfl
      refine (add_at hCr hlen s hs til 0 r 0 es' hr hc0 hes').mono ?_
      rintro e w2 ⟨rfl, hC2, hF2⟩
      have hgb : w1.heap.size ≤ g := by
        rcases hR.2 with ⟨e, _⟩ | ⟨g', _, _, e, hg', _⟩
        · cases e
        · injection e with e; injection e with e; injection e with e; omega
      have hR2 := hF2.row hR (fun g' hg' => by simp [Value.ownBlock] at hg'; subst hg'; simp only [Two]; omega)
      have hcells := hR2.cells (g := g) rfl
      have hFr2 : Fr NoB w w2 := hFr.two hF2 (by omega) (by omega)
      have hil : ins.length ≤ 64 := by have := hI.room; omega
      clear hF2
      go_wp2_with fail
      go_loop [13, 14] (fun v13 v14 => ∃ j : Nat, j ≤ ins.length ∧ v14 = .int .i64 j ∧ v13 = .bool (memB (ins.take j) s)) (fun _ v14 => ins.length - (intOf v14).toNat)
      case atStart => exact ⟨0, Nat.zero_le _, rfl, rfl⟩
      case round =>
        obtain ⟨j, hj, rfl, rfl⟩ := hrel
        by_cases hjl : j < ins.length
        · have hcj : w2.cell? ⟨g, j, none⟩ = some (.string ins[j]) := by rw [← add0]; exact hcells j (.string ins[j]) (by simp [hjl])
          have hmt := Lib.hid (memB_take (s := s) hjl)
          clear hcells
          cases hmb : memB (ins.take j) s
          · go_wp2_with fail
            exact ⟨⟨j + 1, by omega, by go_num, by rw [hmt.out, hmb, ByteArray.toList_eq, ByteArray.toList_eq]; rfl⟩, by simp [intOf]; omega⟩
          · go_wp2_with fail
            exact ⟨⟨j + 1, by omega, by go_num, by rw [hmt.out, hmb]; rfl⟩, by simp [intOf]; omega⟩
        · have hje : j = ins.length := by omega
          subst hje
          rw [List.take_length]
          clear hcells
          have hadd := hI.add h3 h4 s hs
          rw [hr, hes'] at hadd
          have HA := Lib.hid hadd
          clear hadd hr hes'
          obtain ⟨B, hB⟩ : ∃ B, memB ins s = B := ⟨_, rfl⟩
          rw [hB]
          have HB := Lib.hid hB
          clear hB
          have hgl : g < w2.heap.size := by
            rcases hR2.2 with ⟨e, _⟩ | ⟨g', _, _, e, _, hh, _⟩
            · cases e
            · injection e with e; injection e with e; injection e with e; subst e; exact lt_of_block hh
          go_upto_block 4 with fail
          go_cut [9, 15] (fun v9 v15 wx => ∃ (g' cap' : Nat) (ins' : List ByteArray), v9 = .slice (some ⟨g', 0, none⟩) ins'.length cap' ∧ v15 = .int .i64 r ∧ IsC wx (w.heap.size + 1) w.heap.size room 0 es'.length (.map es') ∧
            wx.ownsRow w1.heap.size 9 1 (.slice (some ⟨g', 0, none⟩) ins'.length cap') ins'.length (ins'.map Value.string) ∧ Fr NoB w wx ∧ KInv room til es' ins')
          case first =>
            by_cases q1 : s.size < 1 ∨ 64 < s.size
            · obtain ⟨p1, p2⟩ := HA.out.1 q1
              subst p1 p2
              rcases q1 with q1 | q1
              all_goals
                go_wp2_with fail
                go_meet
                exact ⟨g, cap, ins, rfl, rfl, hC2, hR2, hFr2, hI⟩
            · have q2 : 1 ≤ s.size := by omega
              have q3 : s.size ≤ 64 := by omega
              cases B
              · by_cases hrm : (ins.length : Int) = room
                · obtain ⟨p1, p2⟩ := HA.out.2.2.1 q1 HB.out hrm
                  subst p1 p2
                  have hrb : ((ins.length : Int) == room) = true := by simpa using hrm
                  clear hrm
                  go_wp2_with fail
                  go_meet
                  exact ⟨g, cap, ins, rfl, rfl, hC2, hR2, hFr2, hI⟩
                · obtain ⟨p1, p2⟩ := HA.out.2.2.2 q1 HB.out hrm
                  subst p1
                  have hrb : ((ins.length : Int) == room) = false := by simpa using hrm
                  have HP := Lib.hid p2
                  clear hrm p2
                  go_wp2_with (at_builtin; refine wpList_append_lies _ rfl _ _ _ rfl w1.heap.size 9 i0 (.string ⟨#[]⟩) 1 16 Try.underlying36 hi hz0 hz1 hz2 rfl (by omega) _ ins.length (ins.map Value.string) rfl (hR2.alloc _) ⟨w2.heap.size, 0, none⟩ 1 1 [.string s] rfl rfl (cell_one_new _ _ _) (by simp [Value.oneCell']) (by omega) (by unfold maxLen; omega) (by omega) (by simp; omega) (w2.heap.size + 1) (by simp) ?_; intro g3 cap3 w3 hR3 hgrow _ _)
                  go_meet
                  have hgrow' : (w2.alloc (.cells #[.string s] 9)).grownBy w3 (some g) := hgrow
                  exact ⟨g3, cap3, ins ++ [s], by simp, rfl, (hC2.al _).grown hgrow' (by omega) (by omega), by simpa using hR3, (hFr2.alloc _).grown hgrow' (fun j hj hlt => by cases hj; omega), HP.out⟩
              · obtain ⟨p1, p2⟩ := HA.out.2.1 q1 HB.out
                subst p1 p2
                go_wp2_with fail
                go_meet
                exact ⟨g, cap, ins, rfl, rfl, hC2, hR2, hFr2, hI⟩
          case rest =>
            obtain ⟨g', cap', ins', rfl, rfl, hC4, hR4, hFr4, hI4⟩ := hcut
            clear HA hC2 hR2 hFr2 hI hR hCr HB hlen hc0 a0 hil hgl hgb
            have hln : es'.length < maxLen := by unfold maxLen; have := hI4.len; have := hI4.room; omega
            have hil : ins'.length ≤ 64 := by have := hI4.room; omega
            have l1 : lenN 0 es' (til - 1) = ins'.length := by
              unfold lenN
              rw [tickB_yes (by omega) (by omega), if_pos rfl, hI4.live_all (by omega)]
            have l2 : lenN 0 es' til = 0 := by
              unfold lenN
              rw [tickB_yes (by omega) (by omega), if_pos rfl, hI4.live_none (by omega)]
              rfl
            have L1 := Lib.hid l1
            have L2 := Lib.hid l2
            clear l1 l2
            have rr : (r != r) = false := by simp
            go_wp2_with fail
            refine (len_at hC4 hln (til - 1) _ L1.out).mono ?_
            rintro e w5 ⟨rfl, hC5, hF5⟩
            have nn : ((ins'.length : Int) != (ins'.length : Int)) = false := by simp
            go_wp2_with fail
            refine (len_at hC5 hln til _ L2.out).mono ?_
            rintro e w6 ⟨rfl, hC6, hF6⟩
            have hR6 := hF6.row (hF5.row hR4 (fun _ _ x => x)) (fun _ _ x => x)
            have hFr6 := (hFr4.no hF5).no hF6
            clear hR4 hF5 hF6 hC4 hC5 hFr4
            go_wp2_with fail
            obtain ⟨wo, rfl⟩ : ∃ wo : World, wo = wr := ⟨_, rfl⟩
            obtain ⟨go, rfl⟩ : ∃ go : Nat, go = gk := ⟨_, rfl⟩
            go_loopg [16] ins'.length (fun gk v16 wz => ∃ j : Nat, j + gk = ins'.length ∧ v16 = .int .i64 j ∧ IsC wz (w.heap.size + 1) w.heap.size room 0 es'.length (.map es') ∧
              wz.ownsRow w1.heap.size 9 1 (.slice (some ⟨g', 0, none⟩) ins'.length cap') ins'.length (ins'.map Value.string) ∧ Fr NoB w wz)
            case atStart => exact ⟨0, by omega, rfl, hC6, hR6, hFr6⟩
            case round =>
              obtain ⟨j, hj, rfl, hCz, hRz, hFz⟩ := hrel
              have HJ := Lib.hid hj
              clear hj hC6 hR6 hFr6
              by_cases hjl : j < ins'.length
              · have hcj : wr.cell? ⟨g', j, none⟩ = some (.string ins'[j]) := by rw [← add0]; exact hRz.cells (g := g') rfl j (.string ins'[j]) (by simp [hjl])
                have hmj : ins'[j] ∈ ins' := List.getElem_mem hjl
                have hfj := hI4.fit _ hmj
                have hvj := hI4.val hCz.tid (memB_mem hmj)
                have x1 : hasB 0 (.map es') ins'[j].data.toList (til - 1) = true := by
                  unfold hasB
                  rw [hvj, tickB_yes (by omega) (by omega)]
                  simp; omega
                have x2 : hasB 0 (.map es') ins'[j].data.toList til = false := by
                  unfold hasB
                  rw [hvj, tickB_yes (by omega) (by omega)]
                  simp; omega
                have X1 := Lib.hid x1
                have X2 := Lib.hid x2
                obtain ⟨t, ht⟩ : ∃ t, ins'[j] = t := ⟨_, rfl⟩
                rw [ht] at hcj hfj X1 X2
                clear x1 x2 hvj hmj ht
                go_wp2_with fail
                refine (has_at hCz t hfj (til - 1) _ X1.out).mono ?_
                rintro e wu ⟨rfl, hCu, hFu⟩
                have hRu := hFu.row hRz (fun _ _ x => x)
                have hcu : wu.cell? ⟨g', j, none⟩ = some (.string t) := (hFu.cell (World.block_lt_of_cell? _ _ hcj) (fun x => x)).trans hcj
                go_wp2_with fail
                refine (has_at hCu t hfj til _ X2.out).mono ?_
                rintro e wv ⟨rfl, hCv, hFv⟩
                have hRv := hFv.row hRu (fun _ _ x => x)
                go_wp2_with fail
                go_roundg (gk - 1)
                case measure => have := HJ.out; omega
                case rel => exact ⟨j + 1, by have := HJ.out; omega, by go_num, hCv, hRv, (hFz.no hFu).no hFv⟩
              · go_wp2_with fail
                go_roundg (go - 1)
                case measure => have := HK.out; omega
                case rel => exact ⟨k + 1, g', cap', es', ins', by have := HK.out; omega, by go_num, rfl, hCz, hRz, hFz, hI4⟩
    · have hil : ins.length ≤ 64 := by have := hI.room; omega
      by_cases hi0 : ins.length = 0
      · have hib : ((ins.length : Int) == 0) = true := by simp [hi0]
        have HI0 := Lib.hid hi0
        clear hi0
        go_wp2_with fail
        refine (fixed_any _).mono ?_
        rintro e w' ⟨rfl, hF2⟩
        go_wp2_with fail
        go_ret
        exact ⟨rfl, hFr.no hF2⟩
      · have hib : ((ins.length : Int) == 0) = false := by simp; intro e; simp [e] at hi0
        have hlen : es.length < maxLen := by unfold maxLen; have := hI.len; have := hI.room; omega
        have z0 : ref0 [110, 101, 120, 116] (til + 1) til = 0 := by
          unfold ref0
          rw [tickB_yes (by omega) (by omega), tickB_yes (by omega) (by omega)]
          simp
        have hmx : max 0 til = til := by omega
        have z2 : ref2 room til [] [110, 101, 120, 116] (til + 1) = 0 := by
          unfold ref2
          rw [if_neg (by omega), if_neg (by simp [Maps.has]), if_neg (by simp; omega)]
        have y1 : addE room 0 es [110, 101, 120, 116] (til + 1) til = 0 := by
          unfold addE
          rw [z0, hmx, hI.sweep_none (Int.le_refl _), z2]
          simp
        have y2 : addC 0 [110, 101, 120, 116] (til + 1) til = til := by
          unfold addC
          rw [z0, hmx]
          simp
        have y3 : addL room 0 es [110, 101, 120, 116] (til + 1) til = putE [] [110, 101, 120, 116] (til + 1) := by
          unfold addL
          rw [z0, hmx, hI.sweep_none (Int.le_refl _), z2]
          simp
        have y4 : lenN til (putE [] [110, 101, 120, 116] (til + 1)) til = 1 := by
          unfold lenN
          rw [tickB_yes (by omega) (by omega), if_pos rfl]
          have : live (putE [] [110, 101, 120, 116] (til + 1)) (max til til) = 1 := by
            have : max til til = til := by rw [Int.max_def]; simp
            rw [this]
            have h5 : til < til + 1 := by omega
            simp [live, putE, DataW.insert, num, h5]
          rw [this]
          rfl
        have Y1 := Lib.hid y1
        have Y2 := Lib.hid y2
        have Y3 := Lib.hid y3
        have Y4 := Lib.hid y4
        clear y1 y2 y3 y4 z0 z2 hmx hi0
        go_wp2_with fail
        refine (add_at hCr hlen ⟨#[110, 101, 120, 116]⟩ (by decide) (til + 1) til _ _ _ Y1.out Y2.out Y3.out).mono ?_
        rintro e w2 ⟨rfl, hC2, hF2⟩
        go_wp2_with fail
        refine (len_at hC2 (by have := len_putE (es := []) (s := [110, 101, 120, 116]) (til := til + 1); unfold maxLen; simp at this; omega) til _ Y4.out).mono ?_
        rintro e w3 ⟨rfl, hC3, hF3⟩
        go_wp2_with fail
        refine (fixed_any _).mono ?_
        rintro e w' ⟨rfl, hF4⟩
        go_wp2_with fail
        go_ret
        exact ⟨rfl, ((hFr.two hF2 (by omega) (by omega)).no hF3).no hF4⟩

end Go.Proofs.Ytkhaeoggchnheaa
