/- ReplayRooms: the walk. -/
import Derived.Test.YtkhaeoggchnheaaOnce
import Derived.Deep.RegionHeld3
namespace Go.Proofs.Ytkhaeoggchnheaa
open Go.RowKit Go.Maps Go.WideMaps

theorem IsC.drew {w : World} {b mb : Nat} {room clock : Int} {n : Nat} {D : DataW Unit} (h : IsC w b mb room clock n D) : IsC w.drew b mb room clock n D := ⟨h.blk, h.own, h.ne⟩

theorem ref2_cases (room clock : Int) (es : List (Lit × DataW Unit)) (s : List UInt8) (til : Int) (more : Int) (h1 : ref2 room clock es s til ≠ 141) (h2 : ref2 more clock es s til ≠ 141) : ref2 room clock es s til = ref2 more clock es s til := by
  unfold ref2 at *
  split
  · rfl
  · rename_i h; rw [if_neg h] at h1 h2
    split
    · rfl
    · rename_i h'; rw [if_neg h'] at h1 h2
      split
      · rename_i h3; rw [if_pos h3] at h1; omega
      · rename_i h3
        split
        · rename_i h4; rw [if_pos h4] at h2; omega
        · rfl
/-- Without a full cache the room makes no difference. -/
theorem add_rooms {room more clock : Int} {es : List (Lit × DataW Unit)} {s : List UInt8} {til now : Int} (h1 : addE room clock es s til now ≠ 141) (h2 : addE more clock es s til now ≠ 141) :
    addE room clock es s til now = addE more clock es s til now ∧ addL room clock es s til now = addL more clock es s til now := by
  unfold addE addL at *
  by_cases h0 : ref0 s til now = 0
  · simp only [h0, ne_eq, not_true_eq_false, if_false] at h1 h2 ⊢
    have := ref2_cases room (max clock now) (sweep es (max clock now)) s til more h1 h2
    rw [this]
    exact ⟨rfl, rfl⟩
  · simp only [if_pos h0]
    exact ⟨trivial, trivial⟩

theorem rooms_no (room more : Int) (v : Value) (w : World) (h : ¬ (1 ≤ room ∧ room ≤ 64) ∨ ¬ (1 ≤ more ∧ more ≤ 64)) :
    Calls Try.prog 5 #[.int .i64 room, .int .i64 more, v] w fun e w' => e = .returned (.bool true) ∧ Fr NoB w w' := by
  by_cases h1 : 1 ≤ room ∧ room ≤ 64
  · obtain ⟨h2, h3⟩ := h1
    have h4 := h.resolve_left (fun e => e ⟨h2, h3⟩)
    clear h
    go_enter Try.func5, Try.ntmps5
    go_wp2_with fail
    refine (new_yes room w h2 h3).mono ?_
    rintro e w1 ⟨rfl, hw1⟩
    have hF : Fr NoB w w1 := by subst hw1; exact ((Fr.refl _ _).alloc _).alloc _
    clear hw1
    go_wp2_with fail
    refine (new_no more w1 (by omega)).mono ?_
    rintro e w2 ⟨rfl, rfl⟩
    go_wp2_with fail
    refine (fixed_any _).mono ?_
    rintro e w' ⟨rfl, hF2⟩
    go_wp2_with fail
    go_ret
    exact ⟨rfl, hF.no hF2⟩
  · clear h
    go_enter Try.func5, Try.ntmps5
    go_wp2_with fail
    refine (new_no room w (by omega)).mono ?_
    rintro e w1 ⟨rfl, rfl⟩
    by_cases h2 : 1 ≤ more ∧ more ≤ 64
    · go_wp2_with fail
      refine (new_yes more w h2.1 h2.2).mono ?_
      rintro e w1 ⟨rfl, hw1⟩
      have hF : Fr NoB w w1 := by subst hw1; exact ((Fr.refl _ _).alloc _).alloc _
      clear hw1
      go_wp2_with fail
      refine (fixed_any _).mono ?_
      rintro e w' ⟨rfl, hF2⟩
      go_wp2_with fail
      go_ret
      exact ⟨rfl, hF.no hF2⟩
    · go_wp2_with fail
      refine (new_no more w (by omega)).mono ?_
      rintro e w1 ⟨rfl, rfl⟩
      go_wp2_with fail
      refine (fixed_any _).mono ?_
      rintro e w' ⟨rfl, hF2⟩
      go_wp2_with fail
      go_ret
      exact ⟨rfl, hF2⟩

set_option maxRecDepth 100000 in
set_option maxHeartbeats 3200000 in
theorem rooms_yes (room more : Int) (A : Option Addr) (n c : Nat) (w : World) (h1 : 1 ≤ room) (h2 : room ≤ 64) (h3 : 1 ≤ more) (h4 : more ≤ 64) (hn : n ≤ maxLen) (hO : Ops w A n w.heap.size) :
    Calls Try.prog 5 #[.int .i64 room, .int .i64 more, .slice A n c] w fun e w' => e = .returned (.bool true) ∧ Fr NoB w w' := by
  unfold maxLen at hn
  go_enter Try.func5, Try.ntmps5
  go_wp2_with fail
  refine (new_yes room w h1 h2).mono ?_
  rintro e w1 ⟨rfl, hw1⟩
  have hC : IsC w1 (w.heap.size + 1) w.heap.size room 0 0 (.map []) := by subst hw1; exact new_C room w
  have hF : Fr NoB w w1 := by subst hw1; exact ((Fr.refl _ _).alloc _).alloc _
  have hz : w1.heap.size = w.heap.size + 2 := by subst hw1; simp
  clear hw1
  have HZ := Lib.hid hz
  clear hz
  go_wp2_with fail
  refine (new_yes more w1 h3 h4).mono ?_
  rintro e w2 ⟨rfl, hw2⟩
  have hD : IsC w2 (w1.heap.size + 1) w1.heap.size more 0 0 (.map []) := by subst hw2; exact new_C more w1
  have hC2 : IsC w2 (w.heap.size + 1) w.heap.size room 0 0 (.map []) := by subst hw2; exact (hC.al _).al _
  have hF2 : Fr NoB w w2 := by subst hw2; exact (hF.alloc _).alloc _
  clear hw2 hC hF
  go_wp2_with fail
  go_loopg [11, 12] n (fun gk v11 v12 wr => ∃ (k : Nat) (cl1 cl2 : Int) (es1 es2 : List (Lit × DataW Unit)) (same : Bool), k + gk = n ∧ v12 = .int .i64 k ∧ v11 = .bool same ∧
    IsC wr (w.heap.size + 1) w.heap.size room cl1 es1.length (.map es1) ∧ IsC wr (w1.heap.size + 1) w1.heap.size more cl2 es2.length (.map es2) ∧ Fr NoB w wr ∧ CInv room cl1 es1 ∧ CInv more cl2 es2 ∧ (same = true → cl1 = cl2 ∧ es1 = es2))
  case atStart => exact ⟨0, 0, 0, [], [], true, by omega, rfl, rfl, hC2, hD, hF2, CInv.start h1, CInv.start h3, fun _ => ⟨rfl, rfl⟩⟩
  case round =>
    obtain ⟨k, cl1, cl2, es1, es2, same, hk, rfl, rfl, hC, hD, hFr, hI1, hI2, hS⟩ := hrel
    have HK := Lib.hid hk
    have HS := Lib.hid hS
    clear hk hS hC2 hF2
    have hw3 : w.heap.size + 3 < wr.heap.size := by have := hD.blk.lt; have := HZ.out; omega
    have hw4 : w1.heap.size + 1 < wr.heap.size := hD.blk.lt
    have hw5 : w.heap.size + 2 ≤ w1.heap.size := by have := HZ.out; omega
    by_cases hlt : k < n
    · obtain ⟨b, off, on, kind, til, now, s, rfl, hb, hs, a0, a1, a2, a3, a4⟩ := hO k hlt
      clear hO
      have nb : ¬ NoB b := by simp [NoB]
      rw [← hFr.cell hb nb] at a0 a1 a2 a3 a4
      by_cases hkd : kind = 0
      · subst hkd
        obtain ⟨r1, hr1⟩ : ∃ r, addE room cl1 es1 s.data.toList til now = r := ⟨_, rfl⟩
        obtain ⟨c1, hc1⟩ : ∃ c', addC cl1 s.data.toList til now = c' := ⟨_, rfl⟩
        obtain ⟨l1, hl1⟩ : ∃ es', addL room cl1 es1 s.data.toList til now = es' := ⟨_, rfl⟩
        obtain ⟨r2, hr2⟩ : ∃ r, addE more cl2 es2 s.data.toList til now = r := ⟨_, rfl⟩
        obtain ⟨c2, hc2⟩ : ∃ c', addC cl2 s.data.toList til now = c' := ⟨_, rfl⟩
        obtain ⟨l2, hl2⟩ : ∃ es', addL more cl2 es2 s.data.toList til now = es' := ⟨_, rfl⟩
        have hlen1 : es1.length < maxLen := by unfold maxLen; have := hI1.len; omega
        have hlen2 : es2.length < maxLen := by unfold maxLen; have := hI2.len; omega
        have CA := Lib.hid (fun W (h : IsC W (w.heap.size + 1) w.heap.size room cl1 es1.length (.map es1)) => add_at h hlen1 s hs til now r1 c1 l1 hr1 hc1 hl1)
        have CB := Lib.hid (fun W (h : IsC W (w1.heap.size + 1) w1.heap.size more cl2 es2.length (.map es2)) => add_at h hlen2 s hs til now r2 c2 l2 hr2 hc2 hl2)
        have J1 := hI1.add s.data.toList til now
        have J2 := hI2.add s.data.toList til now
        rw [hc1, hl1] at J1
        rw [hc2, hl2] at J2
        have HS2 : Hid (same = true → r1 ≠ 141 → r2 ≠ 141 → r1 = r2 ∧ c1 = c2 ∧ l1 = l2) := by
          intro e q1 q2
          obtain ⟨rfl, rfl⟩ := HS.out e
          have := add_rooms (by rw [hr1]; exact q1) (by rw [hr2]; exact q2)
          exact ⟨by rw [← hr1, ← hr2]; exact this.1, by rw [← hc1, ← hc2], by rw [← hl1, ← hl2]; exact this.2⟩
        clear hr1 hc1 hl1 hr2 hc2 hl2
        go_wp2_with fail
        have hC' := hC.al (.cells #[.int .i64 on, .int .i64 0, .string s, .int .i64 til, .int .i64 now] 30)
        have hD' := hD.al (.cells #[.int .i64 on, .int .i64 0, .string s, .int .i64 til, .int .i64 now] 30)
        have hF' := hFr.alloc (.cells #[.int .i64 on, .int .i64 0, .string s, .int .i64 til, .int .i64 now] 30)
        have hB' := Blk.new wr 30 #[.int .i64 on, .int .i64 0, .string s, .int .i64 til, .int .i64 now]
        obtain ⟨wb, hwb⟩ : ∃ wb, wb = wr.alloc (.cells #[.int .i64 on, .int .i64 0, .string s, .int .i64 til, .int .i64 now] 30) := ⟨_, rfl⟩
        rw [← hwb] at hC' hD' hF' hB' ⊢
        clear hwb a0 a1 a2 a3 a4
        have g2 := hB'.cell 2
        have g3 := hB'.cell 3
        have g4 := hB'.cell 4
        simp at g2 g3 g4
        have tok1 : True := trivial
        go_region_held3 (fun w' => w'.cell? ⟨wr.heap.size, 2, none⟩ = some (.string s) ∧ w'.cell? ⟨wr.heap.size, 3, none⟩ = some (.int .i64 til) ∧ w'.cell? ⟨wr.heap.size, 4, none⟩ = some (.int .i64 now)) (first | go_keep | (exact ⟨(hBx.cell 2), (hBx.cell 3), (hBx.cell 4)⟩) | (exact ⟨(hBy.cell 2), (hBy.cell 3), (hBy.cell 4)⟩))
          (first
            | (go_at_call 11; have _t := tok1; refine (CA.out _ (by exact hC'.drew)).mono ?_; clear tok1; rintro e wx ⟨rfl, hCx, hFx⟩; have hBx := hFx.blk hB' (by simp only [Two]; omega))
            | (go_at_call 11; refine (CB.out _ (hD'.drew.fr hFx (by have := HZ.out; simp only [Two]; omega) (by have := HZ.out; simp only [Two]; omega))).mono ?_; rintro e wy ⟨rfl, hDy, hFy⟩; have hBy := hFy.blk hBx (by simp only [Two]; omega)))
        have hCy := hCx.fr hFy (by simp only [Two]; omega) (by simp only [Two]; omega)
        have hFry : Fr NoB w wy := ((hF'.drew).two hFx (by omega) (by omega)).two hFy (by omega) (by omega)
        have m2 := hBy.cell 2
        have m4 := hBy.cell 4
        simp at m2 m4
        have hln1 : l1.length < maxLen := by unfold maxLen; have := J1.len; omega
        have hln2 : l2.length < maxLen := by unfold maxLen; have := J2.len; omega
        have e1 := len_room J1 0 h1
        have e2 := len_room J2 0 h3
        clear g2 g3 g4 hB' hBx hC' hD' hF' CA CB hCx hFx hFy hC hD
        by_cases hall : same = true ∧ r1 ≠ 141 ∧ r2 ≠ 141
        · obtain ⟨rfl, q1, q2⟩ := hall
          obtain ⟨rfl, rfl, rfl⟩ := HS2.out rfl q1 q2
          have b1 : (r1 != 141) = true := by simpa using q1
          have b2 : (r1 != r1) = false := by simp
          clear q1 q2 HS2 HS
          go_wp2_with fail
          refine (len_at hCy hln1 0 _ rfl).mono ?_
          rintro e wp ⟨rfl, hCp, hFp⟩
          have hDp := hDy.fr hFp (fun x => x) (fun x => x)
          have hBp := hFp.blk hBy (fun x => x)
          go_wp2_with fail
          refine (len_at hDp hln1 0 _ rfl).mono ?_
          rintro e wq ⟨rfl, hDq, hFq⟩
          have hCq := hCp.fr hFq (fun x => x) (fun x => x)
          have hBq := hFq.blk hBp (fun x => x)
          have hFrq := (hFry.no hFp).no hFq
          have n2 := hBq.cell 2
          have n4 := hBq.cell 4
          simp at n2 n4
          clear m2 m4 hBy hBp hCp hDp hCy hDy hFp hFq
          go_wp2_with fail
          have tk1 : True := trivial
          have tk2 : True := trivial
          have tk3 : True := trivial
          go_region_held3 (fun w' => w'.cell? ⟨wr.heap.size, 2, none⟩ = some (.string s) ∧ w'.cell? ⟨wr.heap.size, 4, none⟩ = some (.int .i64 now)) (first | go_keep | (exact ⟨hB4.cell 2, hB4.cell 4⟩) | (exact ⟨hB3.cell 2, hB3.cell 4⟩) | (exact ⟨hB2.cell 2, hB2.cell 4⟩) | (exact ⟨hB1.cell 2, hB1.cell 4⟩))
            (first
              | (go_at_call 10; have _t := tk1; refine (len_at (hCq.drew) hln1 now _ rfl).mono ?_; clear tk1; rintro e wa ⟨rfl, hCa, hFa⟩; have hDa := hDq.drew.fr hFa (fun x => x) (fun x => x); have hB1 := hFa.blk hBq.drew (fun x => x))
              | (go_at_call 10; have _t := tk2; refine (len_at hDa hln1 now _ rfl).mono ?_; clear tk2; rintro e wb2 ⟨rfl, hDb, hFb⟩; have hCb := hCa.fr hFb (fun x => x) (fun x => x); have hB2 := hFb.blk hB1 (fun x => x))
              | (go_at_call 9; have _t := tk3; refine (has_at hCb s hs now _ rfl).mono ?_; clear tk3; rintro e wc2 ⟨rfl, hCc, hFc⟩; have hDc := hDb.fr hFc (fun x => x) (fun x => x); have hB3 := hFc.blk hB2 (fun x => x))
              | (go_at_call 9; refine (has_at hDc s hs now _ rfl).mono ?_; rintro e wd2 ⟨rfl, hDd, hFd⟩; have hCd := hCc.fr hFd (fun x => x) (fun x => x); have hB4 := hFd.blk hB3 (fun x => x)))
          go_wp2_with fail
          go_roundg (gk - 1)
          case measure => have := HK.out; omega
          case rel => exact ⟨k + 1, c1, c1, l1, l1, true, by have := HK.out; omega, by go_num, rfl, hCd, hDd, (((hFrq.drew.no hFa).no hFb).no hFc).no hFd, J1, J2, fun _ => ⟨rfl, rfl⟩⟩
        · cases hsm : same
          · subst hsm
            clear HS2 HS hall
            go_wp2_with fail
            refine (len_at hCy hln1 0 _ rfl).mono ?_
            rintro e wp ⟨rfl, hCp, hFp⟩
            have hDp := hDy.fr hFp (fun x => x) (fun x => x)
            go_wp2_with fail
            refine (len_at hDp hln2 0 _ rfl).mono ?_
            rintro e wq ⟨rfl, hDq, hFq⟩
            have hCq := hCp.fr hFq (fun x => x) (fun x => x)
            have hFrq := (hFry.no hFp).no hFq
            clear hBy hCp hDp hCy hDy hFp hFq
            go_wp2_with fail
            go_quiet (fail)
            go_wp2_with fail
            go_roundg (gk - 1)
            case measure => have := HK.out; omega
            case rel => exact ⟨k + 1, c1, c2, l1, l2, false, by have := HK.out; omega, by go_num, rfl, hCq.drewN _, hDq.drewN _, hFrq.drewN _, J1, J2, fun e => by cases e⟩
          · subst hsm
            have hall2 : r1 = 141 ∨ r2 = 141 := by
              rcases Classical.em (r1 = 141) with h | h
              · exact Or.inl h
              · exact Or.inr (Classical.byContradiction fun h' => hall ⟨rfl, h, h'⟩)
            clear HS2 HS hall
            by_cases q1 : r1 = 141
            · have b1 : (r1 != 141) = false := by simpa using q1
              clear q1 hall2
              go_wp2_with fail
              refine (len_at hCy hln1 0 _ rfl).mono ?_
              rintro e wp ⟨rfl, hCp, hFp⟩
              have hDp := hDy.fr hFp (fun x => x) (fun x => x)
              go_wp2_with fail
              refine (len_at hDp hln2 0 _ rfl).mono ?_
              rintro e wq ⟨rfl, hDq, hFq⟩
              have hCq := hCp.fr hFq (fun x => x) (fun x => x)
              have hFrq := (hFry.no hFp).no hFq
              clear hBy hCp hDp hCy hDy hFp hFq
              go_wp2_with fail
              go_quiet (fail)
              go_wp2_with fail
              go_roundg (gk - 1)
              case measure => have := HK.out; omega
              case rel => exact ⟨k + 1, c1, c2, l1, l2, false, by have := HK.out; omega, by go_num, rfl, hCq.drewN _, hDq.drewN _, hFrq.drewN _, J1, J2, fun e => by cases e⟩
            · have q2 := hall2.resolve_left q1
              have b1 : (r1 != 141) = true := by simpa using q1
              have b2 : (r2 != 141) = false := by simpa using q2
              clear q1 hall2 q2
              go_wp2_with fail
              refine (len_at hCy hln1 0 _ rfl).mono ?_
              rintro e wp ⟨rfl, hCp, hFp⟩
              have hDp := hDy.fr hFp (fun x => x) (fun x => x)
              go_wp2_with fail
              refine (len_at hDp hln2 0 _ rfl).mono ?_
              rintro e wq ⟨rfl, hDq, hFq⟩
              have hCq := hCp.fr hFq (fun x => x) (fun x => x)
              have hFrq := (hFry.no hFp).no hFq
              clear hBy hCp hDp hCy hDy hFp hFq
              go_wp2_with fail
              go_quiet (fail)
              go_wp2_with fail
              go_roundg (gk - 1)
              case measure => have := HK.out; omega
              case rel => exact ⟨k + 1, c1, c2, l1, l2, false, by have := HK.out; omega, by go_num, rfl, hCq.drewN _, hDq.drewN _, hFrq.drewN _, J1, J2, fun e => by cases e⟩
      · have hkb : (kind != 0) = true := by simpa using hkd
        clear hkd
        go_wp2_with fail
        go_roundg (gk - 1)
        case measure => have := HK.out; omega
        case rel => exact ⟨k + 1, cl1, cl2, es1, es2, same, by have := HK.out; omega, by go_num, rfl, hC.al _, hD.al _, hFr.alloc _, hI1, hI2, HS.out⟩
    · have hkn : k = n := by have := HK.out; omega
      go_wp2_with (go_at_call 8; refine (fixed_any _).mono ?_; rintro e w' ⟨rfl, hF⟩)
      go_ret
      exact ⟨rfl, hFr.no hF⟩

end Go.Proofs.Ytkhaeoggchnheaa
