/- JSON: the program's Check: what may be (plain), and checked's own tests. -/
import Derived.Test.YteeijmfnjcddmaaGreatDoorVd
namespace Go.Proofs.YteeijmfnjcddmaaGreatDoor
open Go.RowKit

mutual
/-- Small enough for the text package. -/
def JSm : Jv → Prop
  | .mk _ _ t l ks => t.length ≤ 35184372088832 ∧ ks.length ≤ 8796093021952 ∧ (∀ s ∈ ks, s.length ≤ 35184372088832) ∧ JSms l
def JSms : List Jv → Prop
  | [] => True
  | j :: r => JSm j ∧ JSms r
end
def ChkIs (q : Nat) (w : World) (e : Ending) (w' : World) : Prop := (q = 0 ∧ e = .returned (.tuple #[]) ∧ Fr NoB w w') ∨ (q ≠ 0 ∧ e = Wr q ∧ Fr NoB w w')
/-- What checked has to do. -/
def CK (n : Nat) (j : Jv) : Prop := ∀ {B : Nat} (S : Nat → Prop) (v : Value) (w : World), Cx B w → (∀ g, S g → g < w.heap.size) → RAt S w j v → JSm j → Calls Tryz.prog 32 #[v, .int .i64 n] w (ChkIs (checkP n j) w)

theorem JSms.get : ∀ (l : List Jv), JSms l → ∀ x ∈ l, JSm x
  | [], _, x, hx => by simp at hx
  | j :: r, h, x, hx => by
    simp only [JSms] at h
    rcases List.mem_cons.1 hx with rfl | hx
    · exact h.1
    · exact JSms.get r h.2 x hx
theorem checksP_drop (n : Nat) (l : List Jv) (m : Nat) (h : m < l.length) : checksP n (l.drop m) = if checkP n l[m] = 0 then checksP n (l.drop (m + 1)) else checkP n l[m] := by
  rw [List.drop_eq_getElem_cons h, checksP]

set_option maxRecDepth 100000 in
set_option maxHeartbeats 6400000 in
theorem checked_mk {B : Nat} (S : Nat → Prop) (n : Nat) (hn : n ≤ 32) (k i : Int) (t : Bs) (l : List Jv) (ks : List Bs) (lv kv : Value) (w : World) (hx : Cx B w) (hS : ∀ g, S g → g < w.heap.size)
    (_hk : IntOk k) (_hi : IntOk i) (hkv : InMem S w kv ks.length (ks.map sV)) (hlv : ∃ cs, RCells S w l cs ∧ InMem S w lv l.length cs) (hl : l.length ≤ big)
    (hsm : t.length ≤ 35184372088832 ∧ ks.length ≤ 8796093021952 ∧ (∀ s ∈ ks, s.length ≤ 35184372088832)) (hsms : JSms l) (hIH : n + 1 ≤ 32 → ∀ x ∈ l, CK (n + 1) x) :
    Calls Tryz.prog 32 #[jV k i t lv kv, .int .i64 n] w (ChkIs (checkP n (.mk k i t l ks)) w) := by
  have f0 : Fr NoB w (w.alloc (.cells #[.int .i64 k, .int .i64 i, .string ⟨t.toArray⟩, lv, kv] 25)) := (Fr.refl _ _).alloc _
  have g0 := Blk.new w 25 #[.int .i64 k, .int .i64 i, .string ⟨t.toArray⟩, lv, kv]
  obtain ⟨ka, kc, rfl⟩ : ∃ a c, kv = .slice a ks.length c := by
    rcases hkv with ⟨h0, a, c, rfl⟩ | ⟨g, o, c, rfl, hg, hc⟩
    · exact ⟨a, c, by rw [h0]⟩
    · exact ⟨_, c, rfl⟩
  obtain ⟨cs, hcs, hlm⟩ := hlv
  obtain ⟨la, lc, rfl⟩ : ∃ a c, lv = .slice a l.length c := by
    rcases hlm with ⟨h0, a, c, rfl⟩ | ⟨g, o, c, rfl, hg, hc⟩
    · exact ⟨a, c, by rw [h0]⟩
    · exact ⟨_, c, rfl⟩
  have hkl := hsm.2.1
  have HIH := Lib.hid hIH
  have Hkv := Lib.hid hkv
  have Hlv := Lib.hid (And.intro hcs hlm)
  have HSM := Lib.hid hsm
  clear hIH hkv hcs hlm hsm
  unfold IntOk at _hk _hi
  unfold big at hl
  have hq : checkP n (.mk k i t l ks) = if nestK k && !(decide ((n : Int) < 32)) then 91 else if formP k i t l.length ks then checksP (n + 1) l else 93 := by rw [checkP]
  generalize checkP n (.mk k i t l ks) = q at hq
  have HQ := Lib.hid hq
  clear hq
  generalize hW : w.alloc (.cells #[.int .i64 k, .int .i64 i, .string ⟨t.toArray⟩, .slice la l.length lc, .slice ka ks.length kc] 25) = W at f0 g0
  have c0 : W.cell? ⟨w.heap.size, 0, none⟩ = some (.int .i64 k) := (g0.cell 0).trans rfl
  have c1 : W.cell? ⟨w.heap.size, 1, none⟩ = some (.int .i64 i) := (g0.cell 1).trans rfl
  have c2 : W.cell? ⟨w.heap.size, 2, none⟩ = some (.string ⟨t.toArray⟩) := (g0.cell 2).trans rfl
  have c3 : W.cell? ⟨w.heap.size, 3, none⟩ = some (.slice la l.length lc) := (g0.cell 3).trans rfl
  have c4 : W.cell? ⟨w.heap.size, 4, none⟩ = some (.slice ka ks.length kc) := (g0.cell 4).trans rfl
  go_enter Tryz.func32, Tryz.ntmps32
  go_upto_region 1 with fail
  clear hW
  go_cut [4] (fun v4 wx => v4 = .bool (nestK k) ∧ W = wx)
  case first =>
    cases h5 : (k == 5)
    · cases h6 : (k == 6)
      · go_wp2_with fail
        go_meet
        exact ⟨by simp [nestK, h5, h6], rfl⟩
      · go_wp2_with fail
        go_meet
        exact ⟨by simp [nestK, h5, h6], rfl⟩
    · go_wp2_with fail
      go_meet
      exact ⟨by simp [nestK, h5], rfl⟩
  case rest =>
    obtain ⟨rfl, rfl⟩ := hcut
    cases hA : (nestK k && !(decide ((n : Int) < 32))) with
    | true =>
      have e : q = 91 := by rw [HQ.out, hA]; rfl
      obtain ⟨a1, a2⟩ : nestK k = true ∧ ¬ ((n : Int) < 32) := by simpa using hA
      clear hA
      go_wp2_with (go_at_call 40; first | ((with_reducible refine (must_ok _ _ _ (by first | rfl | (simp; done) | (simp; omega))).mono ?_); rintro e w9 ⟨rfl, rfl⟩) | ((with_reducible refine (must_bad _ _ _ (by first | rfl | (simp; done) | (simp; omega))).mono ?_); rintro e w9 ⟨rfl, rfl⟩))
      exact ⟨rfl, Or.inr ⟨by omega, rfl, f0⟩⟩
    | false =>
      have h93 : formP k i t l.length ks = false → q = 93 := fun hf => by rw [HQ.out, hA, hf]; rfl
      have H93 := Lib.hid h93
      have HA := Lib.hid hA
      clear h93 hA
      go_upto_region 2 with fail
      go_cut [4] (fun v4 wx => v4 = .bool (nestK k) ∧ W = wx)
      case first =>
        have hA := HA.out
        cases hN : nestK k with
        | false =>
          clear hA
          go_wp2_with (go_at_call 40; first | ((with_reducible refine (must_ok _ _ _ (by first | rfl | (simp; done) | (simp; omega))).mono ?_); rintro e w9 ⟨rfl, rfl⟩) | ((with_reducible refine (must_bad _ _ _ (by first | rfl | (simp; done) | (simp; omega))).mono ?_); rintro e w9 ⟨rfl, rfl⟩))
          go_meet
          exact ⟨by first | rfl | rw [hN], rfl⟩
        | true =>
          have hlt : (n : Int) < 32 := by rw [hN] at hA; simpa using hA
          clear hA
          go_wp2_with (go_at_call 40; first | ((with_reducible refine (must_ok _ _ _ (by first | rfl | (simp; done) | (simp; omega))).mono ?_); rintro e w9 ⟨rfl, rfl⟩) | ((with_reducible refine (must_bad _ _ _ (by first | rfl | (simp; done) | (simp; omega))).mono ?_); rintro e w9 ⟨rfl, rfl⟩))
          go_meet
          exact ⟨by first | rfl | rw [hN], rfl⟩
      case rest =>
        obtain ⟨rfl, rfl⟩ := hcut
        go_upto_region 3 with fail
        go_cut [4] (fun v4 wx => v4 = .bool (nestK k) ∧ (0 ≤ k ∧ k < 7) ∧ W = wx)
        case first =>
          by_cases a1 : 0 ≤ k
          · by_cases a2 : k < 7
            · go_wp2_with (go_at_call 40; first | ((with_reducible refine (must_ok _ _ _ (by first | rfl | (simp; done) | (simp; omega))).mono ?_); rintro e w9 ⟨rfl, rfl⟩) | ((with_reducible refine (must_bad _ _ _ (by first | rfl | (simp; done) | (simp; omega))).mono ?_); rintro e w9 ⟨rfl, rfl⟩))
              go_meet
              exact ⟨rfl, ⟨a1, a2⟩, rfl⟩
            · have e : q = 93 := H93.out (by simp [formP, a2])
              go_wp2_with (go_at_call 40; first | ((with_reducible refine (must_ok _ _ _ (by first | rfl | (simp; done) | (simp; omega))).mono ?_); rintro e w9 ⟨rfl, rfl⟩) | ((with_reducible refine (must_bad _ _ _ (by first | rfl | (simp; done) | (simp; omega))).mono ?_); rintro e w9 ⟨rfl, rfl⟩))
              exact ⟨rfl, Or.inr ⟨by omega, rfl, f0⟩⟩
          · have e : q = 93 := H93.out (by simp [formP, a1])
            go_wp2_with (go_at_call 40; first | ((with_reducible refine (must_ok _ _ _ (by first | rfl | (simp; done) | (simp; omega))).mono ?_); rintro e w9 ⟨rfl, rfl⟩) | ((with_reducible refine (must_bad _ _ _ (by first | rfl | (simp; done) | (simp; omega))).mono ?_); rintro e w9 ⟨rfl, rfl⟩))
            exact ⟨rfl, Or.inr ⟨by omega, rfl, f0⟩⟩
        case rest =>
          obtain ⟨rfl, ⟨hk0, hk7⟩, rfl⟩ := hcut
          go_upto_region 4 with fail
          go_cut [4] (fun _ wx => Hid ((nestK k || decide ((l.length : Int) = 0)) = true) ∧ W = wx)
          case first =>
            cases hN : nestK k with
            | true =>
              go_wp2_with (go_at_call 40; first | ((with_reducible refine (must_ok _ _ _ (by first | rfl | (simp; done) | (simp; omega))).mono ?_); rintro e w9 ⟨rfl, rfl⟩) | ((with_reducible refine (must_bad _ _ _ (by first | rfl | (simp; done) | (simp; omega))).mono ?_); rintro e w9 ⟨rfl, rfl⟩))
              go_meet
              exact ⟨Lib.hid (by rw [hN]; rfl), rfl⟩
            | false =>
              by_cases a1 : (l.length : Int) = 0
              · have b1 : ((l.length : Int) == 0) = true := by simpa using a1
                clear a1
                go_wp2_with (go_at_call 40; first | ((with_reducible refine (must_ok _ _ _ (by first | rfl | (simp; done) | (simp; omega))).mono ?_); rintro e w9 ⟨rfl, rfl⟩) | ((with_reducible refine (must_bad _ _ _ (by first | rfl | (simp; done) | (simp; omega))).mono ?_); rintro e w9 ⟨rfl, rfl⟩))
                go_meet
                exact ⟨Lib.hid (by rw [decide_eq_true (beq_iff_eq.1 b1), Bool.or_true]), rfl⟩
              · have e : q = 93 := H93.out (by simp [formP, hN]; intro _ _ h0; exact absurd (by simpa using h0) a1)
                have b1 : ((l.length : Int) == 0) = false := by simpa using a1
                clear a1
                go_wp2_with (go_at_call 40; first | ((with_reducible refine (must_ok _ _ _ (by first | rfl | (simp; done) | (simp; omega))).mono ?_); rintro e w9 ⟨rfl, rfl⟩) | ((with_reducible refine (must_bad _ _ _ (by first | rfl | (simp; done) | (simp; omega))).mono ?_); rintro e w9 ⟨rfl, rfl⟩))
                exact ⟨rfl, Or.inr ⟨by omega, rfl, f0⟩⟩
          case rest =>
            obtain ⟨HB, rfl⟩ := hcut
            go_upto_region 5 with fail
            go_cut [] (fun wx => Hid (keysOk k l.length ks = true) ∧ W = wx)
            case first =>
              have e93 : keysOk k l.length ks = false → q = 93 := fun h => H93.out (by simp [formP, h])
              have E93 := Lib.hid e93
              clear e93
              cases h6 : (k == 6) with
              | true =>
                cases b1 : ((ks.length : Int) == (l.length : Int)) with
                | true =>
                  have a1 : (ks.length : Int) = (l.length : Int) := by simpa using b1
                  have HO := Lib.hid (show keysOk k l.length ks = true by simp [keysOk, h6, a1])
                  clear a1
                  go_wp2_with (go_at_call 40; first | ((with_reducible refine (must_ok _ _ _ (by first | rfl | (simp; done) | (simp; omega))).mono ?_); rintro e w9 ⟨rfl, rfl⟩) | ((with_reducible refine (must_bad _ _ _ (by first | rfl | (simp; done) | (simp; omega))).mono ?_); rintro e w9 ⟨rfl, rfl⟩))
                  go_meet
                  exact ⟨HO, rfl⟩
                | false =>
                  have a1 : ¬ (ks.length : Int) = (l.length : Int) := by simpa using b1
                  have h6' : (k != 6) = false := by simpa using h6
                  have e : q = 93 := E93.out (by simp [keysOk, h6, h6', a1])
                  clear a1
                  cases b2 : ((ks.length : Int) == 0) with
                  | true =>
                    go_wp2_with (go_at_call 40; first | ((with_reducible refine (must_ok _ _ _ (by first | rfl | (simp; done) | (simp; omega))).mono ?_); rintro e w9 ⟨rfl, rfl⟩) | ((with_reducible refine (must_bad _ _ _ (by first | rfl | (simp; done) | (simp; omega))).mono ?_); rintro e w9 ⟨rfl, rfl⟩))
                    exact ⟨rfl, Or.inr ⟨by omega, rfl, f0⟩⟩
                  | false =>
                    go_wp2_with (go_at_call 40; first | ((with_reducible refine (must_ok _ _ _ (by first | rfl | (simp; done) | (simp; omega))).mono ?_); rintro e w9 ⟨rfl, rfl⟩) | ((with_reducible refine (must_bad _ _ _ (by first | rfl | (simp; done) | (simp; omega))).mono ?_); rintro e w9 ⟨rfl, rfl⟩))
                    exact ⟨rfl, Or.inr ⟨by omega, rfl, f0⟩⟩
              | false =>
                have h6' : (k != 6) = true := by simpa using h6
                cases b2 : ((ks.length : Int) == 0) with
                | true =>
                  have a2 : (ks.length : Int) = 0 := by simpa using b2
                  have HO := Lib.hid (show keysOk k l.length ks = true by simp [keysOk, h6', a2])
                  clear a2
                  go_wp2_with (go_at_call 40; first | ((with_reducible refine (must_ok _ _ _ (by first | rfl | (simp; done) | (simp; omega))).mono ?_); rintro e w9 ⟨rfl, rfl⟩) | ((with_reducible refine (must_bad _ _ _ (by first | rfl | (simp; done) | (simp; omega))).mono ?_); rintro e w9 ⟨rfl, rfl⟩))
                  go_meet
                  exact ⟨HO, rfl⟩
                | false =>
                  have a2 : ¬ (ks.length : Int) = 0 := by simpa using b2
                  have e : q = 93 := E93.out (by unfold keysOk; rw [h6, decide_eq_false a2]; rfl)
                  clear a2
                  go_wp2_with (go_at_call 40; first | ((with_reducible refine (must_ok _ _ _ (by first | rfl | (simp; done) | (simp; omega))).mono ?_); rintro e w9 ⟨rfl, rfl⟩) | ((with_reducible refine (must_bad _ _ _ (by first | rfl | (simp; done) | (simp; omega))).mono ?_); rintro e w9 ⟨rfl, rfl⟩))
                  exact ⟨rfl, Or.inr ⟨by omega, rfl, f0⟩⟩
            case rest =>
              obtain ⟨HK, rfl⟩ := hcut
              have X0 := hx.fr0 f0
              have Hka : Hid (InMem S W (.slice ka ks.length kc) ks.length (ks.map sV)) := Lib.hid (Hkv.out.fr (fun g hg => f0.block g (hS g hg) (fun e => e)))
              have hSW : ∀ g, S g → g < W.heap.size := fun g hg => Nat.lt_of_lt_of_le (hS g hg) f0.size
              have hbl : ks.length ≤ big := by unfold big; omega
              go_upto_region 6 with fail
              go_cut [] (fun wx => Hid ((ks.all Lib.validD && decide ks.Nodup) = true) ∧ Fr NoB W wx)
              case first =>
                have hcf := containsFunc_any S ks _ W X0 hSW Hka.out hbl HSM.out.2.2
                cases hv : ks.all Lib.validD with
                | false =>
                  have e : q = 93 := H93.out (by simp [formP, hv])
                  rw [hv] at hcf
                  have HCF := Lib.hid hcf
                  clear hcf hv hSW
                  go_wp2_with (first | (go_at_call 49; ((with_reducible refine HCF.out.mono ?_); rintro e w1 ⟨rfl, f1⟩)) | (go_at_call 40; first | ((with_reducible refine (must_ok _ _ _ (by first | rfl | (simp; done) | (simp; omega))).mono ?_); rintro e w9 ⟨rfl, rfl⟩) | ((with_reducible refine (must_bad _ _ _ (by first | rfl | (simp; done) | (simp; omega))).mono ?_); rintro e w9 ⟨rfl, rfl⟩)))
                  exact ⟨rfl, Or.inr ⟨by omega, rfl, f0.trans f1⟩⟩
                | true =>
                  rw [hv] at hcf
                  have HCF := Lib.hid hcf
                  have HSI : Hid (∀ w', Fr NoB W w' → Calls Tryz.prog 52 #[.slice ka ks.length kc] w' fun e w'' => e = .returned (.bool (decide ks.Nodup)) ∧ Fr NoB w' w'') := Lib.hid (fun w' f => single_any S ks _ w' (fun g hg => Nat.lt_of_lt_of_le (hSW g hg) f.size) (Hka.out.fr (fun g hg => f.block g (hSW g hg) (fun e => e))) (by omega))
                  clear hcf hSW
                  cases hd : decide ks.Nodup with
                  | false =>
                    have e : q = 93 := H93.out (by rw [decide_eq_false_iff_not] at hd; simp [formP, hd])
                    have HD := Lib.hid hd
                    clear hd hv
                    go_wp2_with (first | (go_at_call 49; ((with_reducible refine HCF.out.mono ?_); rintro e w1 ⟨rfl, f1⟩; have d4 := ((f1.blk g0 (fun e => e)).cell 4).trans (show _ = some (Value.slice ka ks.length kc) from rfl))) | (go_at_call 52; ((with_reducible refine (HSI.out _ f1).mono ?_); rintro e w2 ⟨rfl, f2⟩; rw [HD.out])) | (go_at_call 40; first | ((with_reducible refine (must_ok _ _ _ (by first | rfl | (simp; done) | (simp; omega))).mono ?_); rintro e w9 ⟨rfl, rfl⟩) | ((with_reducible refine (must_bad _ _ _ (by first | rfl | (simp; done) | (simp; omega))).mono ?_); rintro e w9 ⟨rfl, rfl⟩)))
                    exact ⟨rfl, Or.inr ⟨by omega, rfl, (f0.trans f1).trans f2⟩⟩
                  | true =>
                    have HO := Lib.hid (show (ks.all Lib.validD && decide ks.Nodup) = true by rw [hv, hd]; rfl)
                    have HD := Lib.hid hd
                    clear hd hv
                    go_wp2_with (first | (go_at_call 49; ((with_reducible refine HCF.out.mono ?_); rintro e w1 ⟨rfl, f1⟩; have d4 := ((f1.blk g0 (fun e => e)).cell 4).trans (show _ = some (Value.slice ka ks.length kc) from rfl))) | (go_at_call 52; ((with_reducible refine (HSI.out _ f1).mono ?_); rintro e w2 ⟨rfl, f2⟩; rw [HD.out])) | (go_at_call 40; first | ((with_reducible refine (must_ok _ _ _ (by first | rfl | (simp; done) | (simp; omega))).mono ?_); rintro e w9 ⟨rfl, rfl⟩) | ((with_reducible refine (must_bad _ _ _ (by first | rfl | (simp; done) | (simp; omega))).mono ?_); rintro e w9 ⟨rfl, rfl⟩)))
                    go_meet
                    exact ⟨HO, f1.trans f2⟩
              case rest =>
                obtain ⟨HV, f6⟩ := hcut
                have gc := f6.blk g0 (fun e => e)
                have fc := f0.trans f6
                clear c0 c1 c2 c3 c4 Hka hSW X0 f6
                have c0 : wc.cell? ⟨w.heap.size, 0, none⟩ = some (.int .i64 k) := (gc.cell 0).trans rfl
                have c1 : wc.cell? ⟨w.heap.size, 1, none⟩ = some (.int .i64 i) := (gc.cell 1).trans rfl
                have c2 : wc.cell? ⟨w.heap.size, 2, none⟩ = some (.string ⟨t.toArray⟩) := (gc.cell 2).trans rfl
                have c3 : wc.cell? ⟨w.heap.size, 3, none⟩ = some (.slice la l.length lc) := (gc.cell 3).trans rfl
                have c4 : wc.cell? ⟨w.heap.size, 4, none⟩ = some (.slice ka ks.length kc) := (gc.cell 4).trans rfl
                go_upto_region 7 with fail
                go_cut [] (fun wx => Hid (intIn k i = true) ∧ wc = wx)
                case first =>
                  have e93 : intIn k i = false → q = 93 := fun h => H93.out (by simp [formP, h])
                  have E93 := Lib.hid e93
                  clear e93
                  cases b1 : (i == 0) with
                  | true =>
                    have HO := Lib.hid (show intIn k i = true by simp [intIn, b1])
                    go_wp2_with (go_at_call 40; first | ((with_reducible refine (must_ok _ _ _ (by first | rfl | (simp; done) | (simp; omega))).mono ?_); rintro e w9 ⟨rfl, rfl⟩) | ((with_reducible refine (must_bad _ _ _ (by first | rfl | (simp; done) | (simp; omega))).mono ?_); rintro e w9 ⟨rfl, rfl⟩))
                    go_meet
                    exact ⟨HO, rfl⟩
                  | false =>
                    cases b2 : (k == 3) with
                    | false =>
                      have e : q = 93 := E93.out (by simp [intIn, b1, b2])
                      go_wp2_with (go_at_call 40; first | ((with_reducible refine (must_ok _ _ _ (by first | rfl | (simp; done) | (simp; omega))).mono ?_); rintro e w9 ⟨rfl, rfl⟩) | ((with_reducible refine (must_bad _ _ _ (by first | rfl | (simp; done) | (simp; omega))).mono ?_); rintro e w9 ⟨rfl, rfl⟩))
                      exact ⟨rfl, Or.inr ⟨by omega, rfl, fc⟩⟩
                    | true =>
                      by_cases b3 : i ≤ 9007199254740991
                      · by_cases b4 : -9007199254740991 ≤ i
                        · have HO := Lib.hid (show intIn k i = true by unfold intIn; rw [b2, decide_eq_true b3, decide_eq_true b4, b1]; rfl)
                          go_wp2_with (go_at_call 40; first | ((with_reducible refine (must_ok _ _ _ (by first | rfl | (simp; done) | (simp; omega))).mono ?_); rintro e w9 ⟨rfl, rfl⟩) | ((with_reducible refine (must_bad _ _ _ (by first | rfl | (simp; done) | (simp; omega))).mono ?_); rintro e w9 ⟨rfl, rfl⟩))
                          go_meet
                          exact ⟨HO, rfl⟩
                        · have e : q = 93 := E93.out (by unfold intIn; rw [b2, decide_eq_true b3, decide_eq_false b4, b1]; rfl)
                          go_wp2_with (go_at_call 40; first | ((with_reducible refine (must_ok _ _ _ (by first | rfl | (simp; done) | (simp; omega))).mono ?_); rintro e w9 ⟨rfl, rfl⟩) | ((with_reducible refine (must_bad _ _ _ (by first | rfl | (simp; done) | (simp; omega))).mono ?_); rintro e w9 ⟨rfl, rfl⟩))
                          exact ⟨rfl, Or.inr ⟨by omega, rfl, fc⟩⟩
                      · have e : q = 93 := E93.out (by unfold intIn; rw [b2, decide_eq_false b3, b1]; rfl)
                        go_wp2_with (go_at_call 40; first | ((with_reducible refine (must_ok _ _ _ (by first | rfl | (simp; done) | (simp; omega))).mono ?_); rintro e w9 ⟨rfl, rfl⟩) | ((with_reducible refine (must_bad _ _ _ (by first | rfl | (simp; done) | (simp; omega))).mono ?_); rintro e w9 ⟨rfl, rfl⟩))
                        exact ⟨rfl, Or.inr ⟨by omega, rfl, fc⟩⟩
                case rest =>
                  obtain ⟨HI, rfl⟩ := hcut
                  have htl := HSM.out.1
                  have XY := hx.fr0 fc
                  go_upto_region 8 with fail
                  go_cut [] (fun wx => Hid (textIn k t = true) ∧ Fr NoB wc wx)
                  case first =>
                    have e93 : textIn k t = false → q = 93 := fun h => H93.out (by simp [formP, h])
                    have E93 := Lib.hid e93
                    clear e93
                    cases t with
                    | nil =>
                      have HO := Lib.hid (show textIn k [] = true from rfl)
                      go_wp2_with (go_at_call 40; first | ((with_reducible refine (must_ok _ _ _ (by first | rfl | (simp; done) | (simp; omega))).mono ?_); rintro e w9 ⟨rfl, rfl⟩) | ((with_reducible refine (must_bad _ _ _ (by first | rfl | (simp; done) | (simp; omega))).mono ?_); rintro e w9 ⟨rfl, rfl⟩))
                      go_meet
                      exact ⟨HO, Fr.refl _ _⟩
                    | cons c0 t0 =>
                      have hne : ((c0 :: t0 : Bs) == []) = false := rfl
                      generalize (c0 :: t0 : Bs) = u at *
                      cases b2 : (k == 4) with
                      | false =>
                        have e : q = 93 := E93.out (by simp [textIn, hne, b2])
                        go_wp2_with (go_at_call 40; first | ((with_reducible refine (must_ok _ _ _ (by first | rfl | (simp; done) | (simp; omega))).mono ?_); rintro e w9 ⟨rfl, rfl⟩) | ((with_reducible refine (must_bad _ _ _ (by first | rfl | (simp; done) | (simp; omega))).mono ?_); rintro e w9 ⟨rfl, rfl⟩))
                        exact ⟨rfl, Or.inr ⟨by omega, rfl, fc⟩⟩
                      | true =>
                        cases hv : Lib.validD u with
                        | false =>
                          have e : q = 93 := E93.out (by simp [textIn, hne, hv])
                          have HU := Lib.hid (utf8_no u wc XY htl hv)
                          clear hv
                          go_wp2_with (first | (go_at_call 51; ((with_reducible refine HU.out.mono ?_); rintro e w1 ⟨rfl, f1⟩)) | (go_at_call 40; first | ((with_reducible refine (must_ok _ _ _ (by first | rfl | (simp; done) | (simp; omega))).mono ?_); rintro e w9 ⟨rfl, rfl⟩) | ((with_reducible refine (must_bad _ _ _ (by first | rfl | (simp; done) | (simp; omega))).mono ?_); rintro e w9 ⟨rfl, rfl⟩)))
                          exact ⟨rfl, Or.inr ⟨by omega, rfl, fc.trans f1⟩⟩
                        | true =>
                          have HO := Lib.hid (show textIn k u = true by unfold textIn; rw [hv, b2]; simp)
                          have HU := Lib.hid (utf8_yes u wc XY htl hv)
                          clear hv
                          go_wp2_with (first | (go_at_call 51; ((with_reducible refine HU.out.mono ?_); rintro e w1 ⟨rfl, f1⟩)) | (go_at_call 40; first | ((with_reducible refine (must_ok _ _ _ (by first | rfl | (simp; done) | (simp; omega))).mono ?_); rintro e w9 ⟨rfl, rfl⟩) | ((with_reducible refine (must_bad _ _ _ (by first | rfl | (simp; done) | (simp; omega))).mono ?_); rintro e w9 ⟨rfl, rfl⟩)))
                          go_meet
                          exact ⟨HO, f1⟩
                  case rest =>
                    obtain ⟨HX, f8⟩ := hcut
                    have gd := f8.blk gc (fun e => e)
                    have fd := fc.trans f8
                    clear c0 c1 c2 c3 c4 f8 gc XY htl
                    have hform : formP k i t l.length ks = true := by
                      have e1 := HB.out; have e2 := HK.out; have e3 := HV.out; have e4 := HI.out; have e5 := HX.out
                      unfold formP; rw [decide_eq_true hk0, decide_eq_true hk7, e1, e2, e3, e4, e5]; rfl
                    have HQL : Hid (q = checksP (n + 1) l) := Lib.hid (by rw [HQ.out, HA.out, hform]; rfl)
                    have HCK : Hid (∀ x ∈ l, CK (n + 1) x) := Lib.hid (fun x hxm => by
                      refine HIH.out ?_ x hxm
                      have e1 := HB.out; have e0 := HA.out
                      have hne : ¬ (l.length : Int) = 0 := by intro h0; have : l = [] := List.eq_nil_of_length_eq_zero (by omega); subst this; simp at hxm
                      rw [decide_eq_false hne, Bool.or_false] at e1
                      rw [e1] at e0
                      have : (n : Int) < 32 := by simpa using e0
                      omega)
                    have HSS : Hid (∀ x ∈ l, JSm x) := Lib.hid (JSms.get l hsms)
                    clear hform HB HK HV HI HX HQ HA HIH H93 hsms Hkv HSM
                    have c3 : wc.cell? ⟨w.heap.size, 3, none⟩ = some (.slice la l.length lc) := (gd.cell 3).trans rfl
                    go_wp2_with fail
                    go_loopw [109] (fun v wr => ∃ m : Nat, m ≤ l.length ∧ v = .int .i64 m ∧ Fr NoB w wr ∧ Hid (q = checksP (n + 1) (l.drop m))) (fun v _ => l.length - (intOf v).toNat)
                    case atStart => exact ⟨0, Nat.zero_le _, rfl, fd, HQL⟩
                    case round =>
                      obtain ⟨m, hm, rfl, hf, HD⟩ := hrel
                      clear c3 gd fd
                      by_cases hlt : m < l.length
                      · obtain ⟨hcs, hlm⟩ := Hlv.out
                        rcases hlm with ⟨h0, _⟩ | ⟨g, o, c, he, hg, hcell⟩
                        · omega
                        · simp only [Value.slice.injEq, true_and] at he
                          obtain ⟨rfl, rfl⟩ := he
                          obtain ⟨v0, v1, v2, v3, v4, a0, a1, a2, a3, a4, hat⟩ := RCells.get l cs m hlt hcs
                          have key : ∀ (p : Nat) u, cs[p]? = some u → wr.cell? ⟨g, o + p, none⟩ = some u := fun p u hu => (hf.cell (p := ⟨g, o + p, none⟩) (hS g hg) (fun e => e)).trans (hcell p u hu)
                          have d0 : wr.cell? ⟨g, o + m * 5, none⟩ = some v0 := key _ _ a0
                          have d1 : wr.cell? ⟨g, o + m * 5 + 1, none⟩ = some v1 := key _ _ a1
                          have d2 : wr.cell? ⟨g, o + m * 5 + 2, none⟩ = some v2 := key _ _ a2
                          have d3 : wr.cell? ⟨g, o + m * 5 + 3, none⟩ = some v3 := key _ _ a3
                          have d4 : wr.cell? ⟨g, o + m * 5 + 4, none⟩ = some v4 := key _ _ a4
                          have h1c := hat.one
                          have hck : CK (n + 1) l[m] := HCK.out l[m] (List.getElem_mem hlt)
                          have hsx := HSS.out l[m] (List.getElem_mem hlt)
                          have hdr := checksP_drop (n + 1) l m hlt
                          rw [← HD.out] at hdr
                          generalize l[m] = x at hat hck hsx hdr
                          have HR : Hid (∀ W3, Fr NoB wr W3 → Calls Tryz.prog 32 #[.agg #[v0, v1, v2, v3, v4], .int .i64 ((n : Int) + 1)] W3 (ChkIs (checkP (n + 1) x) W3)) := Lib.hid (fun W3 f => by
                            have := hck S (.agg #[v0, v1, v2, v3, v4]) W3 (hx.fr0 (hf.trans f)) (fun g hg => Nat.lt_of_lt_of_le (hS g hg) (hf.trans f).size) (RAt.fr (fun g hg => (hf.trans f).block g (hS g hg) (fun e => e)) x _ hat) hsx
                            simpa using this)
                          clear hck hsx hat key hcell a0 a1 a2 a3 a4 hcs HCK HSS Hlv HD
                          have n2 := Blk.new wr 25 zj
                          by_cases hz : checkP (n + 1) x = 0
                          · rw [if_pos hz] at hdr
                            have HDR := Lib.hid hdr
                            have HR2 : Hid (∀ W3, Fr NoB wr W3 → Calls Tryz.prog 32 #[.agg #[v0, v1, v2, v3, v4], .int .i64 ((n : Int) + 1)] W3 fun e w' => e = .returned (.tuple #[]) ∧ Fr NoB W3 w') := Lib.hid (fun W3 f => (HR.out W3 f).mono (fun e w' h => by rcases h with ⟨_, h1, h2⟩ | ⟨h0, _⟩; exact ⟨h1, h2⟩; exact absurd hz h0))
                            clear hz hdr HR HQL
                            go_wp2_with (first | (refine wpList_store_row rfl 25 _ _ rfl wr.heap.size #[v0, v1, v2, v3, v4] rfl rfl 25 zj n2 size_json rfl (all_one h1c) ?_; have n3 := n2.setRow #[v0, v1, v2, v3, v4]; have f4 : Fr NoB wr ((wr.alloc (.cells zj 25)).setRow wr.heap.size #[v0, v1, v2, v3, v4]) := ((Fr.refl NoB wr).alloc _).setRow wr.heap.size _ (Or.inl (Nat.le_refl _)); generalize (wr.alloc (.cells zj 25)).setRow wr.heap.size #[v0, v1, v2, v3, v4] = W3 at n3 f4 ⊢) | (refine wpList_load_row rfl 25 _ rfl wr.heap.size rfl 25 _ _ _ n3 Tryz.underlying25 rfl size_json ?_) | (go_at_call 32; ((with_reducible refine (HR2.out _ f4).mono ?_); rintro e w5 ⟨rfl, f5⟩)))
                            go_roundw
                            case rel => exact ⟨m + 1, by omega, by simp, (hf.trans f4).trans f5, HDR⟩
                            case measure => simp [intOf]; omega
                          · rw [if_neg hz] at hdr
                            have HDR := Lib.hid hdr
                            have HR2 : Hid (∀ W3, Fr NoB wr W3 → Calls Tryz.prog 32 #[.agg #[v0, v1, v2, v3, v4], .int .i64 ((n : Int) + 1)] W3 fun e w' => e = Wr (checkP (n + 1) x) ∧ Fr NoB W3 w') := Lib.hid (fun W3 f => (HR.out W3 f).mono (fun e w' h => by rcases h with ⟨h0, _⟩ | ⟨_, h1, h2⟩; exact absurd h0 hz; exact ⟨h1, h2⟩))
                            have HZ := Lib.hid hz
                            generalize checkP (n + 1) x = z at HDR HR2 HZ
                            clear hz hdr HR HQL
                            go_wp2_with (first | (refine wpList_store_row rfl 25 _ _ rfl wr.heap.size #[v0, v1, v2, v3, v4] rfl rfl 25 zj n2 size_json rfl (all_one h1c) ?_; have n3 := n2.setRow #[v0, v1, v2, v3, v4]; have f4 : Fr NoB wr ((wr.alloc (.cells zj 25)).setRow wr.heap.size #[v0, v1, v2, v3, v4]) := ((Fr.refl NoB wr).alloc _).setRow wr.heap.size _ (Or.inl (Nat.le_refl _)); generalize (wr.alloc (.cells zj 25)).setRow wr.heap.size #[v0, v1, v2, v3, v4] = W3 at n3 f4 ⊢) | (refine wpList_load_row rfl 25 _ rfl wr.heap.size rfl 25 _ _ _ n3 Tryz.underlying25 rfl size_json ?_) | (go_at_call 32; ((with_reducible refine (HR2.out _ f4).mono ?_); rintro e w5 ⟨rfl, f5⟩)))
                            exact ⟨rfl, Or.inr ⟨by rw [HDR.out]; exact HZ.out, by rw [HDR.out], (hf.trans f4).trans f5⟩⟩
                      · obtain rfl : m = l.length := by omega
                        have e : q = 0 := by rw [HD.out, List.drop_length]; simp [checksP]
                        go_wp2_with fail
                        go_end0
                        exact Or.inl ⟨e, rfl, hf⟩
end Go.Proofs.YteeijmfnjcddmaaGreatDoor
/- JSON: the program's Check, whole. -/
namespace Go.Proofs.YteeijmfnjcddmaaGreatDoor
open Go.RowKit

mutual
theorem CK_all : ∀ (j : Jv) (n : Nat), n ≤ 32 → CK n j
  | .mk k i t l ks, n, hn => by
    intro S v w hx hS hat hsm
    simp only [RAt] at hat
    obtain ⟨lv, kv, rfl, h2, h3, h4, h5, h6, cs, h7, h8⟩ := hat
    simp only [JSm] at hsm
    exact checked_mk S n hn k i t l ks lv kv w hx hS h2 h3 h5.1 ⟨cs, h7, h8⟩ h6 ⟨hsm.1, hsm.2.1, hsm.2.2.1⟩ hsm.2.2.2 (fun hn' => CKs_all l (n + 1) hn')
theorem CKs_all : ∀ (l : List Jv) (n : Nat), n ≤ 32 → ∀ x ∈ l, CK n x
  | [], _, _, x, hx => absurd hx (by simp)
  | j :: r, n, hn, x, hx => by
    cases hx with
    | head => exact CK_all j n hn
    | tail _ h => exact CKs_all r n hn x h
end

theorem check_back {fn : Func} (h : fn.results = #[.cell 2 27]) (tmps : Array Value) (w : World) (e : Nat) (n : Int)
    (hq : tmps.getD 2 undef = .pointer (some ⟨e, 0, none⟩)) (he : Blk w e 27 #[.int .i64 n]) :
    (results fn tmps).run Tryz.prog w = .ok (.int .i64 n) w := by
  have hq' : tmps[2]?.getD undef = .pointer (some ⟨e, 0, none⟩) := by simpa using hq
  simp [results, h, hq', asAddr, load_errno w e n he]

set_option maxRecDepth 100000 in
set_option maxHeartbeats 3200000 in
theorem check_any {B : Nat} (S : Nat → Prop) (j : Jv) (v : Value) (w : World) (hx : Cx B w) (hS : ∀ g, S g → g < w.heap.size) (hat : RAt S w j v) (hsm : JSm j) :
    Calls Tryz.prog 13 #[v] w fun e w' => e = .returned (.int .i64 (checkP 0 j : Int)) ∧ Fr NoB w w' := by
  obtain ⟨v0, v1, v2, v3, v4, rfl, h1c⟩ : ∃ v0 v1 v2 v3 v4, v = .agg #[v0, v1, v2, v3, v4] ∧ ∀ u ∈ [v0, v1, v2, v3, v4], u.oneCell' = true := by
    cases j with
    | mk k i t l ks =>
      have h0 := hat
      simp only [RAt] at hat
      obtain ⟨lv, kv, rfl, _⟩ := hat
      exact ⟨_, _, _, _, _, rfl, h0.one⟩
  have f0 : Fr NoB w ((w.alloc (.cells #[v0, v1, v2, v3, v4] 25)).alloc (.cells #[.int .i64 0] 27)) := ((Fr.refl _ _).alloc _).alloc _
  have g0 : Blk ((w.alloc (.cells #[v0, v1, v2, v3, v4] 25)).alloc (.cells #[.int .i64 0] 27)) w.heap.size 25 #[v0, v1, v2, v3, v4] := (Blk.new w 25 _).alloc _
  have g1 : Blk ((w.alloc (.cells #[v0, v1, v2, v3, v4] 25)).alloc (.cells #[.int .i64 0] 27)) (w.heap.size + 1) 27 #[.int .i64 0] := by
    have := Blk.new (w.alloc (.cells #[v0, v1, v2, v3, v4] 25)) 27 #[.int .i64 0]
    simpa using this
  generalize hW : ((w.alloc (.cells #[v0, v1, v2, v3, v4] 25)).alloc (.cells #[.int .i64 0] 27)) = W at f0 g0 g1
  have HC : Hid (Calls Tryz.prog 32 #[.agg #[v0, v1, v2, v3, v4], .int .i64 0] W (ChkIs (checkP 0 j) W)) := Lib.hid (by
    have := CK_all j 0 (by omega) S (.agg #[v0, v1, v2, v3, v4]) W (hx.fr0 f0) (fun g hg => Nat.lt_of_lt_of_le (hS g hg) f0.size) (RAt.fr (fun g hg => f0.block g (hS g hg) (fun e => e)) j _ hat) hsm
    simpa using this)
  have HW := Lib.hid hW
  have hone := all_one h1c
  clear hW hat hsm hS
  generalize checkP 0 j = q at HC ⊢
  by_cases hz : q = 0
  · subst hz
    have HC2 : Hid (Calls Tryz.prog 32 #[.agg #[v0, v1, v2, v3, v4], .int .i64 0] W fun e w' => e = .returned (.tuple #[]) ∧ Fr NoB W w') := Lib.hid (HC.out.mono (fun e w' h => by rcases h with ⟨_, h1, h2⟩ | ⟨h0, _⟩; exact ⟨h1, h2⟩; exact absurd rfl h0))
    clear HC
    go_enter_defers Tryz.func13, Tryz.ntmps13
    go_wp2_with (first | (rw [HW.out]; refine wpList_load_row rfl 25 _ rfl w.heap.size rfl 25 _ _ _ g0 Tryz.underlying25 rfl size_json ?_) | (go_at_call 32; ((with_reducible refine HC2.out.mono ?_); rintro e w2 ⟨rfl, f3⟩; have G1 := f3.blk g1 (fun e => e); have c1 : w2.cell? ⟨w.heap.size + 1, 0, none⟩ = some (.int .i64 0) := (G1.cell 0).trans rfl; have z1 := G1.frozen 0)))
    refine leaves_cons (f := 31) (args := #[.pointer (some ⟨w.heap.size + 1, 0, none⟩)]) (by simp) (by simp [go_sem]) ?_
    refine (caught_idle ⟨w.heap.size + 1, 0, none⟩ _).mono ?_
    rintro e' u' w5 ⟨rfl, rfl, rfl⟩
    exact ⟨_, check_back rfl _ _ (w.heap.size + 1) _ rfl ((G1.set_ 0 _).alloc _), rfl, ((f0.trans f3).setCell_new (p := ⟨w.heap.size + 1, 0, none⟩) (by simp) _).alloc _⟩
  · have HC2 : Hid (Calls Tryz.prog 32 #[.agg #[v0, v1, v2, v3, v4], .int .i64 0] W fun e w' => e = Wr q ∧ Fr NoB W w') := Lib.hid (HC.out.mono (fun e w' h => by rcases h with ⟨h0, _⟩ | ⟨_, h1, h2⟩; exact absurd h0 hz; exact ⟨h1, h2⟩))
    clear HC
    go_enter_defers Tryz.func13, Tryz.ntmps13
    go_wp2_with (first | (rw [HW.out]; refine wpList_load_row rfl 25 _ rfl w.heap.size rfl 25 _ _ _ g0 Tryz.underlying25 rfl size_json ?_) | (go_at_call 32; ((with_reducible refine HC2.out.mono ?_); rintro e w2 ⟨rfl, f3⟩)))
    have G1 := f3.blk g1 (fun e => e)
    refine leaves_cons (f := 31) (args := #[.pointer (some ⟨w.heap.size + 1, 0, none⟩)]) (by simp) (by simp [go_sem]) ?_
    refine (caught_panicking ⟨w.heap.size + 1, 0, none⟩ 0 q [] w2 ((G1.cell 0).trans rfl) (G1.frozen 0) G1.lt).mono ?_
    rintro e' u' w3 ⟨rfl, rfl, rfl⟩
    exact ⟨_, check_back rfl _ _ (w.heap.size + 1) _ rfl ((G1.alloc _).set_ 0 _), rfl, ((f0.trans f3).alloc _).setCell_new (p := ⟨w.heap.size + 1, 0, none⟩) (by simp) _⟩
end Go.Proofs.YteeijmfnjcddmaaGreatDoor
