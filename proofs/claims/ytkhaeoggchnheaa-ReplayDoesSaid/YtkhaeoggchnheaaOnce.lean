/- ReplayOnce: the walk. -/
import Derived.Test.YtkhaeoggchnheaaCacheQ
import Derived.Deep.DeepCutAuto
import Derived.Deep.LoopGhost
namespace Go.Proofs.Ytkhaeoggchnheaa
open Go.RowKit Go.Maps Go.WideMaps

/-- The script's operations, read from its slice. -/
def Ops (w : World) (A : Option Addr) (n B : Nat) : Prop := ∀ i, i < n → ∃ (b off : Nat) (on kind til now : Int) (s : ByteArray), A = some ⟨b, off, none⟩ ∧ b < B ∧ s.size ≤ maxLen ∧
  w.cell? ⟨b, off + i * 5, none⟩ = some (.int .i64 on) ∧ w.cell? ⟨b, off + i * 5 + 1, none⟩ = some (.int .i64 kind) ∧ w.cell? ⟨b, off + i * 5 + 2, none⟩ = some (.string s) ∧
  w.cell? ⟨b, off + i * 5 + 3, none⟩ = some (.int .i64 til) ∧ w.cell? ⟨b, off + i * 5 + 4, none⟩ = some (.int .i64 now)

theorem once_no (room : Int) (v : Value) (w : World) (h : room < 1 ∨ 64 < room) :
    Calls Try.prog 3 #[.int .i64 room, v] w fun e w' => e = .returned (.bool true) ∧ Fr NoB w w' := by
  rcases h with h | h
  all_goals
    go_enter Try.func3, Try.ntmps3
    go_wp2_with (first | (go_at_call 7; refine (new_no _ _ (by omega)).mono ?_; rintro e w' ⟨rfl, rfl⟩) | (go_at_call 8; refine (fixed_any _).mono ?_; rintro e w' ⟨rfl, hF⟩))
    go_ret
    exact ⟨rfl, hF⟩

theorem IsC.al {w : World} {b mb : Nat} {room clock : Int} {n : Nat} {D : DataW Unit} (h : IsC w b mb room clock n D) (o : Obj) : IsC (w.alloc o) b mb room clock n D := h.fr ((Fr.refl NoB w).alloc o) (fun x => x) (fun x => x)

theorem IsC.grown {w w' : World} {b mb : Nat} {room clock : Int} {n : Nat} {D : DataW Unit} {g : Nat} (h : IsC w b mb room clock n D) (hg : w.grownBy w' (some g)) (hb : b ≠ g) (hm : mb ≠ g) : IsC w' b mb room clock n D :=
  ⟨(hg.block b h.blk.lt (by simpa using hb)).trans h.blk, h.own.kept hg (by simpa using hm), h.ne⟩
theorem val_of {ts : List (Lit × DataW Unit)} {s : List UInt8} {u cc : Int} (hu : valAt (.map ts) s = u) (hat : (DataW.map ts).atKey (.string s) (.lit (.int .i64 0)) = .lit (.int .i64 cc)) : cc = u := by
  rw [← hu, valAt, hat]
  rfl
theorem len_room {room clock : Int} {es : List (Lit × DataW Unit)} (h : CInv room clock es) (now : Int) (h1 : 1 ≤ room) : 0 ≤ lenN clock es now ∧ lenN clock es now ≤ room := by
  unfold lenN
  have := h.len
  have := live_le es (max now clock)
  split <;> omega

/-- The law's own test whether its clock goes on. -/
def clkB (clock : Int) (s : List UInt8) (til now : Int) : Bool := decide (clock < now) && decide (ref0 s til now = 0)
theorem clk_false {clock : Int} {s : List UInt8} {til now : Int} (h : ¬ (clock < now ∧ now ≤ 1099511627776 ∧ 0 ≤ til ∧ til ≤ 1099511627776 ∧ 1 ≤ s.length ∧ s.length ≤ 64)) : clkB clock s til now = false := by
  cases hc : clkB clock s til now
  · rfl
  · exfalso
    simp only [clkB, Bool.and_eq_true, decide_eq_true_eq] at hc
    obtain ⟨z1, z2, z3, z4⟩ := ref0_zero hc.2
    have := tickB_bd z1
    have := tickB_bd z2
    have : 1 ≤ s.length := by cases s <;> simp_all
    omega
theorem clk_true {clock : Int} {s : List UInt8} {til now : Int} (h0 : 0 ≤ clock) (h : clock < now ∧ now ≤ 1099511627776 ∧ 0 ≤ til ∧ til ≤ 1099511627776 ∧ 1 ≤ s.length ∧ s.length ≤ 64) : clkB clock s til now = true := by
  have hr : ref0 s til now = 0 := by
    unfold ref0
    rw [tickB_yes (by omega) (by omega), tickB_yes (by omega) (by omega), if_neg (by simp), if_neg]
    simp only [not_or]
    exact ⟨by intro e; rw [e] at h; simp at h, by omega⟩
  simp [clkB, hr, h.1]
theorem clk_leaf {clock : Int} {s : List UInt8} {til now : Int} {n : Nat} (h0 : 0 ≤ clock) (hn : s.length = n) (h : clock < now ∧ now ≤ 1099511627776 ∧ 0 ≤ til ∧ til ≤ 1099511627776 ∧ 1 ≤ n) : Value.bool (decide ((n : Int) ≤ 64)) = Value.bool (clkB clock s til now) := by
  subst hn
  by_cases h64 : s.length ≤ 64
  · rw [clk_true h0 (by omega)]
    simp; omega
  · rw [clk_false (by omega)]
    simp; omega
theorem addC_yes {clock : Int} {s : List UInt8} {til now : Int} (h : clkB clock s til now = true) : addC clock s til now = now ∧ clock < now := by
  simp only [clkB, Bool.and_eq_true, decide_eq_true_eq] at h
  unfold addC
  rw [if_neg (by simpa using h.2)]
  omega
theorem addC_no {clock : Int} {s : List UInt8} {til now : Int} (h : clkB clock s til now = false) : addC clock s til now = clock := by
  unfold addC
  by_cases h0 : ref0 s til now = 0
  · rw [if_neg (by simpa using h0)]
    simp [clkB, h0] at h
    omega
  · rw [if_pos h0]

set_option maxRecDepth 100000 in
set_option maxHeartbeats 3200000 in
theorem once_yes (room : Int) (A : Option Addr) (n c : Nat) (w : World) (h1 : 1 ≤ room) (h2 : room ≤ 64) (hn : n ≤ maxLen) (hO : Ops w A n w.heap.size) :
    Calls Try.prog 3 #[.int .i64 room, .slice A n c] w fun e w' => e = .returned (.bool true) ∧ Fr NoB w w' := by
  unfold maxLen at hn
  have hmm := @run_makeMap Try.prog
  go_enter Try.func3, Try.ntmps3
  go_wp2_with fail
  refine (new_yes room w h1 h2).mono ?_
  rintro e w1 ⟨rfl, hw1⟩
  have hC : IsC w1 (w.heap.size + 1) w.heap.size room 0 0 (.map []) := by subst hw1; exact new_C room w
  have hF : Fr NoB w w1 := by subst hw1; exact ((Fr.refl _ _).alloc _).alloc _
  have hz : w1.heap.size = w.heap.size + 2 := by subst hw1; simp
  have HZ := Lib.hid hz
  clear hw1 hz
  go_wp2_with fail
  go_loopg [7, 9] n (fun gk v7 v9 wr => ∃ (k : Nat) (clock : Int) (es ts : List (Lit × DataW Unit)), k + gk = n ∧ v9 = .int .i64 k ∧ v7 = .int .i64 clock ∧
    IsC wr (w.heap.size + 1) w.heap.size room clock es.length (.map es) ∧ wr.ownsMap Try.prog 9 (plainElem Try.prog 3) w1.heap.size k (.map ts) ∧ Fr NoB w wr ∧ CInv room clock es ∧ OInv clock es ts)
  case atStart => exact ⟨0, 0, [], [], by omega, rfl, rfl, hC.al _, World.ownsMap_made _ _ _ _, hF.alloc _, CInv.start h1, OInv.start⟩
  case round =>
    obtain ⟨k, clock, es, ts, hk, rfl, rfl, hCr, hT, hFr, hI, hO'⟩ := hrel
    have HK := Lib.hid hk
    clear hk hC hF
    have hw3 : w.heap.size + 2 < wr.heap.size := by have := hT.lt; have := HZ.out; omega
    by_cases hlt : k < n
    · obtain ⟨b, off, on, kind, til, now, s, rfl, hb, hs, a0, a1, a2, a3, a4⟩ := hO k hlt
      clear hO
      have nb : ¬ NoB b := by simp [NoB]
      rw [← hFr.cell hb nb] at a0 a1 a2 a3 a4
      by_cases hkd : kind = 0
      · subst hkd
        have hc0 := hI.c0
        have hl0 : s.data.toList.length = s.size := by simp
        have HL0 := Lib.hid hl0
        clear hl0
        obtain ⟨r, hr⟩ : ∃ r, addE room clock es s.data.toList til now = r := ⟨_, rfl⟩
        obtain ⟨c', hc'⟩ : ∃ c', addC clock s.data.toList til now = c' := ⟨_, rfl⟩
        obtain ⟨es', hes'⟩ : ∃ es', addL room clock es s.data.toList til now = es' := ⟨_, rfl⟩
        have hlen : es.length < maxLen := by unfold maxLen; have := hI.len; omega
        have hcall := fun W (h : IsC W (w.heap.size + 1) w.heap.size room clock es.length (.map es)) => add_at h hlen s hs til now r c' es' hr hc' hes'
        have HCALL := Lib.hid hcall
        have HR := Lib.hid hr
        have HC' := Lib.hid hc'
        have HES := Lib.hid hes'
        clear hcall hr hc' hes'
        go_wp2_with fail
        refine (HCALL.out _ (hCr.al _)).mono ?_
        rintro e w2 ⟨rfl, hC2, hF2⟩
        have hBl : Blk w2 wr.heap.size 30 #[.int .i64 on, .int .i64 0, .string s, .int .i64 til, .int .i64 now] := hF2.blk (Blk.new wr _ _) (by simp only [Two]; omega)
        have g2 := hBl.cell 2
        have g3 := hBl.cell 3
        have g4 := hBl.cell 4
        simp at g2 g3 g4
        have hT2 := hF2.map (hT.alloc _) (by have := HZ.out; simp only [Two]; omega)
        have hF2' : Fr NoB w w2 := (hFr.alloc _).two hF2 (by omega) (by omega)
        clear a0 a1 a2 a3 a4
        go_upto_region 14 with fail
        go_cut [96] (fun v wx => v = .bool (clkB clock s.data.toList til now) ∧ w2 = wx)
        case first =>
          go_wp2_with fail
          all_goals
            go_meet
            refine ⟨?_, rfl⟩
            first | (rw [clk_false (by rw [HL0.out]; omega)]) | exact clk_leaf hc0 HL0.out (by omega)
        case rest =>
          obtain ⟨rfl, rfl⟩ := hcut
          have htr := hCr.tid
          have htr' := hC2.tid
          have hI' := Lib.hid (hI.add s.data.toList til now)
          have hkey := keyOf_string_mk Try.underlying9 hs
          obtain ⟨u, hu⟩ : ∃ u, valAt (.map ts) s.data.toList = u := ⟨_, rfl⟩
          have HU := Lib.hid hu
          have HO := Lib.hid hO'
          clear hu hO'
          have hle : clock ≤ c' := by rw [← HC'.out]; unfold addC; split <;> omega
          have hc0' : 0 ≤ c' := by omega
          have hCI : CInv room c' es' := by have := hI'.out; rwa [HC'.out, HES.out] at this
          by_cases hr0 : r = 0
          · have hz0 := HR.out.trans hr0
            obtain ⟨y1, y2⟩ := add_there (by rw [HES.out]; exact htr') hz0
            rw [HC'.out] at y2
            rw [HES.out] at y1
            have hO2 := HO.out.yes hc0 htr (by rw [HES.out]; exact htr') hz0
            rw [HC'.out, HES.out] at hO2
            have HO2 := Lib.hid hO2
            have hnu : u ≤ c' := by
              rcases Int.lt_or_le c' u with hlt2 | hge
              · exfalso
                have e := HO.out s.data.toList (by rw [HU.out]; omega)
                exact add_once htr hc0 (by rw [e, HU.out, HC'.out]; exact hlt2) hz0
              · exact hge
            have hwt : (Lit.int .i64 til).wf = true := by
              have := tickB_bd (ref0_zero (addE_zero hz0).1).1
              exact WalkArith.wf_i64 (by omega)
            have hhas : hasB c' (.map es') s.data.toList 0 = true := by
              unfold hasB
              rw [y1, tickB_yes (by omega) (by omega)]
              simp; omega
            have HHAS := Lib.hid hhas
            have HR0 := Lib.hid hr0
            have hrb : (r == 0) = true := by simpa using hr0
            clear hr0 hz0 y1 hO2 hhas
            cases hB : clkB clock s.data.toList til now
            · have HN := Lib.hid (HC'.out.symm.trans (addC_no hB))
              have b1 : c' ≤ clock := by rw [HN.out]; omega
              have b2 : clock ≤ c' := by rw [HN.out]; omega
              cases hwas : Maps.has (.map ts) (.string s.data.toList)
              all_goals
                go_wp2_with (first | (at_lookup; refine wpList_lookup_own_ok_int _ rfl _ _ 28 rfl 9 3 .i64 lawS Try.underlying28 Try.underlying3 (zeroI _) w1.heap.size k _ rfl hT2 _ _ rfl hkey ?_; intro cc hat hwc; have hcc : cc ≤ c' := (by rw [val_of HU.out hat]; exact hnu); clear hat; rw [hwas]) | (at_mapUpdate; refine wpList_mapUpdate_in _ rfl _ _ _ 28 rfl 9 3 lawS Try.underlying28 _ w1.heap.size k _ rfl hT2 (by unfold maxLen; omega) _ _ _ rfl rfl hkey _ [] (plainElem_int Try.underlying3 hwt) ?_; intro w3 hown3 hturn3; have hBl3 : Blk w3 wr.heap.size 30 #[.int .i64 on, .int .i64 0, .string s, .int .i64 til, .int .i64 now] := (hturn3.grown.block _ hBl.lt (by have := hT.lt; simp only [ne_eq, Option.some.injEq]; omega)).trans hBl; have k2 := hBl3.cell 2; have k3 := hBl3.cell 3; simp at k2 k3))
                have hC3 : IsC w3 (w.heap.size + 1) w.heap.size room c' es'.length (.map es') := hC2.grown hturn3.grown (by have := HZ.out; omega) (by have := HZ.out; omega)
                refine (has_at hC3 s hs 0 _ HHAS.out).mono ?_
                rintro e w4 ⟨rfl, hC4, hF4⟩
                have hBl4 := hF4.blk hBl3 (fun x => x)
                have k4 := hBl4.cell 3
                simp at k4
                go_wp2_with fail
                refine (len_at hC4 (by unfold maxLen; have := hCI.len; omega) 0 _ rfl).mono ?_
                rintro e w5 ⟨rfl, hC5, hF5⟩
                have hlr := len_room hCI 0 h1
                have hT5 := hF5.map (hF4.map hown3 (fun x => x)) (fun x => x)
                have hF' : Fr NoB w w5 := ((hF2'.grown hturn3.grown (fun j hj hlt => by cases hj; have := HZ.out; omega)).no hF4).no hF5
                go_wp2_with fail
                go_roundg (gk - 1)
                case measure => have := HK.out; omega
                case rel => exact ⟨k + 1, c', es', putE ts s.data.toList til, by have := HK.out; omega, by go_num, by rw [HN.out], hC5, hT5, hF', hCI, HO2.out⟩
            · have HN := Lib.hid (HC'.out.symm.trans (addC_yes hB).1)
              have b1 : c' ≤ now := by rw [HN.out]; omega
              have b2 : now ≤ c' := by rw [HN.out]; omega
              cases hwas : Maps.has (.map ts) (.string s.data.toList)
              all_goals
                go_wp2_with (first | (at_lookup; refine wpList_lookup_own_ok_int _ rfl _ _ 28 rfl 9 3 .i64 lawS Try.underlying28 Try.underlying3 (zeroI _) w1.heap.size k _ rfl hT2 _ _ rfl hkey ?_; intro cc hat hwc; have hcc : cc ≤ c' := (by rw [val_of HU.out hat]; exact hnu); clear hat; rw [hwas]) | (at_mapUpdate; refine wpList_mapUpdate_in _ rfl _ _ _ 28 rfl 9 3 lawS Try.underlying28 _ w1.heap.size k _ rfl hT2 (by unfold maxLen; omega) _ _ _ rfl rfl hkey _ [] (plainElem_int Try.underlying3 hwt) ?_; intro w3 hown3 hturn3; have hBl3 : Blk w3 wr.heap.size 30 #[.int .i64 on, .int .i64 0, .string s, .int .i64 til, .int .i64 now] := (hturn3.grown.block _ hBl.lt (by have := hT.lt; simp only [ne_eq, Option.some.injEq]; omega)).trans hBl; have k2 := hBl3.cell 2; have k3 := hBl3.cell 3; simp at k2 k3))
                have hC3 : IsC w3 (w.heap.size + 1) w.heap.size room c' es'.length (.map es') := hC2.grown hturn3.grown (by have := HZ.out; omega) (by have := HZ.out; omega)
                refine (has_at hC3 s hs 0 _ HHAS.out).mono ?_
                rintro e w4 ⟨rfl, hC4, hF4⟩
                have hBl4 := hF4.blk hBl3 (fun x => x)
                have k4 := hBl4.cell 3
                simp at k4
                go_wp2_with fail
                refine (len_at hC4 (by unfold maxLen; have := hCI.len; omega) 0 _ rfl).mono ?_
                rintro e w5 ⟨rfl, hC5, hF5⟩
                have hlr := len_room hCI 0 h1
                have hT5 := hF5.map (hF4.map hown3 (fun x => x)) (fun x => x)
                have hF' : Fr NoB w w5 := ((hF2'.grown hturn3.grown (fun j hj hlt => by cases hj; have := HZ.out; omega)).no hF4).no hF5
                go_wp2_with fail
                go_roundg (gk - 1)
                case measure => have := HK.out; omega
                case rel => exact ⟨k + 1, c', es', putE ts s.data.toList til, by have := HK.out; omega, by go_num, by rw [HN.out], hC5, hT5, hF', hCI, HO2.out⟩
          · have hO2 := HO.out.no hc0 htr (by rw [HES.out]; exact htr') (fun e => hr0 (HR.out.symm.trans e))
            rw [HC'.out, HES.out] at hO2
            have HO2 := Lib.hid hO2
            have hrb : (r == 0) = false := by simpa using hr0
            clear hr0 hO2
            cases hB : clkB clock s.data.toList til now
            · have HN := Lib.hid (HC'.out.symm.trans (addC_no hB))
              have b1 : c' ≤ clock := by rw [HN.out]; omega
              have b2 : clock ≤ c' := by rw [HN.out]; omega
              cases hwas : Maps.has (.map ts) (.string s.data.toList)
              all_goals
                by_cases hcu : c' < u
                all_goals
                  have hcu2 := Lib.hid hcu
                  go_wp2_with (at_lookup; refine wpList_lookup_own_ok_int _ rfl _ _ 28 rfl 9 3 .i64 lawS Try.underlying28 Try.underlying3 (zeroI _) w1.heap.size k _ rfl hT2 _ _ rfl hkey ?_; intro cc hat hwc; have hce := val_of HU.out hat; first | (have hcc : c' < cc := (by rw [hce]; exact hcu2.out)) | (have hcc : cc ≤ c' := (by rw [hce]; have := hcu2.out; omega)); clear hat hce; rw [hwas])
                  go_roundg (gk - 1)
                  case measure => have := HK.out; omega
                  case rel => exact ⟨k + 1, c', es', ts, by have := HK.out; omega, by go_num, by rw [HN.out], hC2, hT2.mono (by omega), hF2', hCI, HO2.out⟩
            · have HN := Lib.hid (HC'.out.symm.trans (addC_yes hB).1)
              have b1 : c' ≤ now := by rw [HN.out]; omega
              have b2 : now ≤ c' := by rw [HN.out]; omega
              cases hwas : Maps.has (.map ts) (.string s.data.toList)
              all_goals
                by_cases hcu : c' < u
                all_goals
                  have hcu2 := Lib.hid hcu
                  go_wp2_with (at_lookup; refine wpList_lookup_own_ok_int _ rfl _ _ 28 rfl 9 3 .i64 lawS Try.underlying28 Try.underlying3 (zeroI _) w1.heap.size k _ rfl hT2 _ _ rfl hkey ?_; intro cc hat hwc; have hce := val_of HU.out hat; first | (have hcc : c' < cc := (by rw [hce]; exact hcu2.out)) | (have hcc : cc ≤ c' := (by rw [hce]; have := hcu2.out; omega)); clear hat hce; rw [hwas])
                  go_roundg (gk - 1)
                  case measure => have := HK.out; omega
                  case rel => exact ⟨k + 1, c', es', ts, by have := HK.out; omega, by go_num, by rw [HN.out], hC2, hT2.mono (by omega), hF2', hCI, HO2.out⟩
      · have hkb : (kind != 0) = true := by simpa using hkd
        clear hkd
        go_wp2_with fail
        refine (has_at (hCr.al _) s hs now _ rfl).mono ?_
        rintro e w2 ⟨rfl, hC2, hF2⟩
        have hBl : Blk w2 wr.heap.size 30 #[.int .i64 on, .int .i64 kind, .string s, .int .i64 til, .int .i64 now] := hF2.blk (Blk.new wr _ _) (fun x => x)
        have g4 := hBl.cell 4
        simp at g4
        go_wp2_with fail
        refine (len_at hC2 (by unfold maxLen; have := hI.len; omega) now _ rfl).mono ?_
        rintro e w3 ⟨rfl, hC3, hF3⟩
        have hfa : Fr NoB wr w3 := (((Fr.refl _ _).alloc _).no hF2).no hF3
        go_wp2_with fail
        go_roundg (gk - 1)
        case measure => have := HK.out; omega
        case rel => exact ⟨k + 1, clock, es, ts, by have := HK.out; omega, by go_num, rfl, hC3, (hfa.map hT (fun x => x)).mono (by omega), hFr.no hfa, hI, hO'⟩
    · have hkn : k = n := by have := HK.out; omega
      go_wp2_with (go_at_call 8; refine (fixed_any _).mono ?_; rintro e w' ⟨rfl, hF⟩)
      go_ret
      exact ⟨rfl, hFr.no hF⟩

end Go.Proofs.Ytkhaeoggchnheaa
