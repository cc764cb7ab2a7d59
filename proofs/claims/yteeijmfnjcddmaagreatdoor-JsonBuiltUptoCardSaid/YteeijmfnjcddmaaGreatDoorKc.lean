/- JSON: the program's Check: what may be (plain), and checked's own tests. -/
import Derived.Test.YteeijmfnjcddmaaGreatDoorVd
namespace Go.Proofs.YteeijmfnjcddmaaGreatDoor
open Go.RowKit

/-- A list or an object. -/
def nestK (k : Int) : Bool := (k == 5) || (k == 6)
def keysOk (k : Int) (n : Nat) (ks : List Bs) : Bool := (k == 6 && decide ((ks.length : Int) = (n : Int))) || (decide ((ks.length : Int) = 0) && k != 6)
def intIn (k i : Int) : Bool := (i == 0) || (k == 3 && decide (i ≤ 9007199254740991) && decide (-9007199254740991 ≤ i))
def textIn (k : Int) (t : Bs) : Bool := (t == []) || (k == 4 && Lib.validD t)
/-- A value's kind and fields, its elements left aside. -/
def formP (k i : Int) (t : Bs) (n : Nat) (ks : List Bs) : Bool :=
  (decide (0 ≤ k) && decide (k < 7)) && (nestK k || decide ((n : Int) = 0)) && keysOk k n ks && (ks.all Lib.validD && decide ks.Nodup) && intIn k i && textIn k t
mutual
def checkP : Nat → Jv → Nat
  | n, .mk k i t l ks => if nestK k && !(decide ((n : Int) < 32)) then 91 else if formP k i t l.length ks then checksP (n + 1) l else 93
def checksP : Nat → List Jv → Nat
  | _, [] => 0
  | n, j :: r => if checkP n j = 0 then checksP n r else checkP n j
end
mutual
/-- Small enough for the text package. -/
def JSm : Jv → Prop
  | .mk _ _ t l ks => t.length ≤ 35184372088832 ∧ ks.length ≤ 8796093021952 ∧ (∀ s ∈ ks, s.length ≤ 35184372088832) ∧ JSms l
def JSms : List Jv → Prop
  | [] => True
  | j :: r => JSm j ∧ JSms r
end
def ChkIs (q : Nat) (w : World) (e : Ending) (w' : World) : Prop := (q = 0 ∧ e = .returned (.tuple #[]) ∧ Fr NoB w w') ∨ (q ≠ 0 ∧ e = Wr q ∧ Fr NoB w w')
/-- What checked has to do. -/
def CK (n : Nat) (j : Jv) : Prop := ∀ {B : Nat} (S : Nat → Prop) (v : Value) (w : World), Cx B w → (∀ g, S g → g < w.heap.size) → RAt S w j v → JSm j → Calls Tryz.prog 32 #[v, .int .i64 n] w (ChkIs (checkP n j) w)

theorem RAt.one {S : Nat → Prop} {w : World} {j : Jv} {v0 v1 v2 v3 v4 : Value} (h : RAt S w j (.agg #[v0, v1, v2, v3, v4])) : ∀ u ∈ [v0, v1, v2, v3, v4], u.oneCell' = true := by
  cases j with
  | mk k i t l ks =>
    simp only [RAt] at h
    obtain ⟨lv, kv, h1, h2, h3, h4, h5, h6, cs, h7, h8⟩ := h
    simp only [jV, Value.agg.injEq, Array.mk.injEq, List.cons.injEq, and_true] at h1
    obtain ⟨rfl, rfl, rfl, rfl, rfl⟩ := h1
    rcases h8 with ⟨_, a, c, rfl⟩ | ⟨g, o, c, rfl, _⟩ <;> rcases h5.1 with ⟨_, a, c, rfl⟩ | ⟨g, o, c, rfl, _⟩ <;> simp [Value.oneCell']
theorem RCells.get {S : Nat → Prop} {w : World} : ∀ (l : List Jv) (cs : List Value) (m : Nat) (hm : m < l.length), RCells S w l cs →
    ∃ v0 v1 v2 v3 v4, cs[m * 5]? = some v0 ∧ cs[m * 5 + 1]? = some v1 ∧ cs[m * 5 + 2]? = some v2 ∧ cs[m * 5 + 3]? = some v3 ∧ cs[m * 5 + 4]? = some v4 ∧ RAt S w l[m] (.agg #[v0, v1, v2, v3, v4])
  | [], cs, m, hm, h => by simp at hm
  | j :: r, cs, 0, hm, h => by
    simp only [RCells] at h
    obtain ⟨v0, v1, v2, v3, v4, rest, rfl, h2, h3⟩ := h
    exact ⟨v0, v1, v2, v3, v4, rfl, rfl, rfl, rfl, rfl, h2⟩
  | j :: r, cs, m + 1, hm, h => by
    simp only [RCells] at h
    obtain ⟨v0, v1, v2, v3, v4, rest, rfl, h2, h3⟩ := h
    obtain ⟨u0, u1, u2, u3, u4, a0, a1, a2, a3, a4, ha⟩ := RCells.get r rest m (by simpa using hm) h3
    have e : ∀ i, (m + 1) * 5 + i = (m * 5 + i) + 5 := fun i => by omega
    refine ⟨u0, u1, u2, u3, u4, ?_, ?_, ?_, ?_, ?_, ha⟩
    · have := e 0; simp only [Nat.add_zero] at this; rw [this]; simpa using a0
    · rw [e 1]; simpa using a1
    · rw [e 2]; simpa using a2
    · rw [e 3]; simpa using a3
    · rw [e 4]; simpa using a4
theorem JSms.get : ∀ (l : List Jv), JSms l → ∀ x ∈ l, JSm x
  | [], _, x, hx => by simp at hx
  | j :: r, h, x, hx => by
    simp only [JSms] at h
    rcases List.mem_cons.1 hx with rfl | hx
    · exact h.1
    · exact JSms.get r h.2 x hx
theorem checksP_drop (n : Nat) (l : List Jv) (m : Nat) (h : m < l.length) : checksP n (l.drop m) = if checkP n l[m] = 0 then checksP n (l.drop (m + 1)) else checkP n l[m] := by
  rw [List.drop_eq_getElem_cons h, checksP]

set_option maxRecDepth 100000 in
set_option maxHeartbeats 6400000 in
theorem checked_mk {B : Nat} (S : Nat → Prop) (n : Nat) (hn : n ≤ 32) (k i : Int) (t : Bs) (l : List Jv) (ks : List Bs) (lv kv : Value) (w : World) (hx : Cx B w) (hS : ∀ g, S g → g < w.heap.size)
    (_hk : IntOk k) (_hi : IntOk i) (hkv : InMem S w kv ks.length (ks.map sV)) (hlv : ∃ cs, RCells S w l cs ∧ InMem S w lv l.length cs) (hl : l.length ≤ big)
    (hsm : t.length ≤ 35184372088832 ∧ ks.length ≤ 8796093021952 ∧ (∀ s ∈ ks, s.length ≤ 35184372088832)) (hsms : JSms l) (hIH : n + 1 ≤ 32 → ∀ x ∈ l, CK (n + 1) x) :
    Calls Tryz.prog 32 #[jV k i t lv kv, .int .i64 n] w (ChkIs (checkP n (.mk k i t l ks)) w) := by
  have f0 : Fr NoB w (w.alloc (.cells #[.int .i64 k, .int .i64 i, .string ⟨t.toArray⟩, lv, kv] 25)) := (Fr.refl _ _).alloc _
  have g0 := Blk.new w 25 #[.int .i64 k, .int .i64 i, .string ⟨t.toArray⟩, lv, kv]
  obtain ⟨ka, kc, rfl⟩ : ∃ a c, kv = .slice a ks.length c := by
    rcases hkv with ⟨h0, a, c, rfl⟩ | ⟨g, o, c, rfl, hg, hc⟩
    · exact ⟨a, c, by rw [h0]⟩
    · exact ⟨_, c, rfl⟩
  obtain ⟨cs, hcs, hlm⟩ := hlv
  obtain ⟨la, lc, rfl⟩ : ∃ a c, lv = .slice a l.length c := by
    rcases hlm with ⟨h0, a, c, rfl⟩ | ⟨g, o, c, rfl, hg, hc⟩
    · exact ⟨a, c, by rw [h0]⟩
    · exact ⟨_, c, rfl⟩
  have hkl := hsm.2.1
  have HIH := Lib.hid hIH
  have Hkv := Lib.hid hkv
  have Hlv := Lib.hid (And.intro hcs hlm)
  have HSM := Lib.hid hsm
  clear hIH hkv hcs hlm hsm
  unfold IntOk at _hk _hi
  unfold big at hl
  have hq : checkP n (.mk k i t l ks) = if nestK k && !(decide ((n : Int) < 32)) then 91 else if formP k i t l.length ks then checksP (n + 1) l else 93 := by rw [checkP]
  generalize checkP n (.mk k i t l ks) = q at hq
  have HQ := Lib.hid hq
  clear hq
  generalize hW : w.alloc (.cells #[.int .i64 k, .int .i64 i, .string ⟨t.toArray⟩, .slice la l.length lc, .slice ka ks.length kc] 25) = W at f0 g0
  have c0 : W.cell? ⟨w.heap.size, 0, none⟩ = some (.int .i64 k) := (g0.cell 0).trans rfl
  have c1 : W.cell? ⟨w.heap.size, 1, none⟩ = some (.int .i64 i) := (g0.cell 1).trans rfl
  have c2 : W.cell? ⟨w.heap.size, 2, none⟩ = some (.string ⟨t.toArray⟩) := (g0.cell 2).trans rfl
  have c3 : W.cell? ⟨w.heap.size, 3, none⟩ = some (.slice la l.length lc) := (g0.cell 3).trans rfl
  have c4 : W.cell? ⟨w.heap.size, 4, none⟩ = some (.slice ka ks.length kc) := (g0.cell 4).trans rfl
  go_enter Tryz.func32, Tryz.ntmps32
  go_upto_region 1 with fail
  clear hW
  go_cut [4] (fun v4 wx => v4 = .bool (nestK k) ∧ W = wx)
  case first =>
    cases h5 : (k == 5)
    · cases h6 : (k == 6)
      · go_wp2_with fail
        go_meet
        exact ⟨by simp [nestK, h5, h6], rfl⟩
      · go_wp2_with fail
        go_meet
        exact ⟨by simp [nestK, h5, h6], rfl⟩
    · go_wp2_with fail
      go_meet
      exact ⟨by simp [nestK, h5], rfl⟩
  case rest =>
    obtain ⟨rfl, rfl⟩ := hcut
    cases hA : (nestK k && !(decide ((n : Int) < 32))) with
    | true =>
      have e : q = 91 := by rw [HQ.out, hA]; rfl
      obtain ⟨a1, a2⟩ : nestK k = true ∧ ¬ ((n : Int) < 32) := by simpa using hA
      clear hA
      go_wp2_with (go_at_call 40; first | ((with_reducible refine (must_ok _ _ _ (by first | rfl | (simp; done) | (simp; omega))).mono ?_); rintro e w9 ⟨rfl, rfl⟩) | ((with_reducible refine (must_bad _ _ _ (by first | rfl | (simp; done) | (simp; omega))).mono ?_); rintro e w9 ⟨rfl, rfl⟩))
      exact ⟨rfl, Or.inr ⟨by omega, rfl, f0⟩⟩
    | false =>
      have h93 : formP k i t l.length ks = false → q = 93 := fun hf => by rw [HQ.out, hA, hf]; rfl
      have H93 := Lib.hid h93
      have HA := Lib.hid hA
      clear h93 hA
      go_upto_region 2 with fail
      go_cut [4] (fun v4 wx => v4 = .bool (nestK k) ∧ W = wx)
      case first =>
        have hA := HA.out
        cases hN : nestK k with
        | false =>
          clear hA
          go_wp2_with (go_at_call 40; first | ((with_reducible refine (must_ok _ _ _ (by first | rfl | (simp; done) | (simp; omega))).mono ?_); rintro e w9 ⟨rfl, rfl⟩) | ((with_reducible refine (must_bad _ _ _ (by first | rfl | (simp; done) | (simp; omega))).mono ?_); rintro e w9 ⟨rfl, rfl⟩))
          go_meet
          exact ⟨by first | rfl | rw [hN], rfl⟩
        | true =>
          have hlt : (n : Int) < 32 := by rw [hN] at hA; simpa using hA
          clear hA
          go_wp2_with (go_at_call 40; first | ((with_reducible refine (must_ok _ _ _ (by first | rfl | (simp; done) | (simp; omega))).mono ?_); rintro e w9 ⟨rfl, rfl⟩) | ((with_reducible refine (must_bad _ _ _ (by first | rfl | (simp; done) | (simp; omega))).mono ?_); rintro e w9 ⟨rfl, rfl⟩))
          go_meet
          exact ⟨by first | rfl | rw [hN], rfl⟩
      case rest =>
        obtain ⟨rfl, rfl⟩ := hcut
        go_upto_region 3 with fail
        go_cut [4] (fun v4 wx => v4 = .bool (nestK k) ∧ (0 ≤ k ∧ k < 7) ∧ W = wx)
        case first =>
          by_cases a1 : 0 ≤ k
          · by_cases a2 : k < 7
            · go_wp2_with (go_at_call 40; first | ((with_reducible refine (must_ok _ _ _ (by first | rfl | (simp; done) | (simp; omega))).mono ?_); rintro e w9 ⟨rfl, rfl⟩) | ((with_reducible refine (must_bad _ _ _ (by first | rfl | (simp; done) | (simp; omega))).mono ?_); rintro e w9 ⟨rfl, rfl⟩))
              go_meet
              exact ⟨rfl, ⟨a1, a2⟩, rfl⟩
            · have e : q = 93 := H93.out (by simp [formP, a2])
              go_wp2_with (go_at_call 40; first | ((with_reducible refine (must_ok _ _ _ (by first | rfl | (simp; done) | (simp; omega))).mono ?_); rintro e w9 ⟨rfl, rfl⟩) | ((with_reducible refine (must_bad _ _ _ (by first | rfl | (simp; done) | (simp; omega))).mono ?_); rintro e w9 ⟨rfl, rfl⟩))
              exact ⟨rfl, Or.inr ⟨by omega, rfl, f0⟩⟩
          · have e : q = 93 := H93.out (by simp [formP, a1])
            go_wp2_with (go_at_call 40; first | ((with_reducible refine (must_ok _ _ _ (by first | rfl | (simp; done) | (simp; omega))).mono ?_); rintro e w9 ⟨rfl, rfl⟩) | ((with_reducible refine (must_bad _ _ _ (by first | rfl | (simp; done) | (simp; omega))).mono ?_); rintro e w9 ⟨rfl, rfl⟩))
            exact ⟨rfl, Or.inr ⟨by omega, rfl, f0⟩⟩
        case rest =>
          obtain ⟨rfl, ⟨hk0, hk7⟩, rfl⟩ := hcut
          go_upto_region 4 with fail
          go_cut [4] (fun _ wx => Hid ((nestK k || decide ((l.length : Int) = 0)) = true) ∧ W = wx)
          case first =>
            cases hN : nestK k with
            | true =>
              go_wp2_with (go_at_call 40; first | ((with_reducible refine (must_ok _ _ _ (by first | rfl | (simp; done) | (simp; omega))).mono ?_); rintro e w9 ⟨rfl, rfl⟩) | ((with_reducible refine (must_bad _ _ _ (by first | rfl | (simp; done) | (simp; omega))).mono ?_); rintro e w9 ⟨rfl, rfl⟩))
              go_meet
              exact ⟨Lib.hid (by rw [hN]; rfl), rfl⟩
            | false =>
              by_cases a1 : (l.length : Int) = 0
              · have b1 : ((l.length : Int) == 0) = true := by simpa using a1
                clear a1
                go_wp2_with (go_at_call 40; first | ((with_reducible refine (must_ok _ _ _ (by first | rfl | (simp; done) | (simp; omega))).mono ?_); rintro e w9 ⟨rfl, rfl⟩) | ((with_reducible refine (must_bad _ _ _ (by first | rfl | (simp; done) | (simp; omega))).mono ?_); rintro e w9 ⟨rfl, rfl⟩))
                go_meet
                exact ⟨Lib.hid (by rw [decide_eq_true (beq_iff_eq.1 b1), Bool.or_true]), rfl⟩
              · have e : q = 93 := H93.out (by simp [formP, hN]; intro _ _ h0; exact absurd (by simpa using h0) a1)
                have b1 : ((l.length : Int) == 0) = false := by simpa using a1
                clear a1
                go_wp2_with (go_at_call 40; first | ((with_reducible refine (must_ok _ _ _ (by first | rfl | (simp; done) | (simp; omega))).mono ?_); rintro e w9 ⟨rfl, rfl⟩) | ((with_reducible refine (must_bad _ _ _ (by first | rfl | (simp; done) | (simp; omega))).mono ?_); rintro e w9 ⟨rfl, rfl⟩))
                exact ⟨rfl, Or.inr ⟨by omega, rfl, f0⟩⟩
          case rest =>
            obtain ⟨HB, rfl⟩ := hcut
            go_upto_region 5 with fail
            go_cut [] (fun wx => Hid (keysOk k l.length ks = true) ∧ W = wx)
            case first =>
              have e93 : keysOk k l.length ks = false → q = 93 := fun h => H93.out (by simp [formP, h])
              have E93 := Lib.hid e93
              clear e93
              cases h6 : (k == 6) with
              | true =>
                cases b1 : ((ks.length : Int) == (l.length : Int)) with
                | true =>
                  have a1 : (ks.length : Int) = (l.length : Int) := by simpa using b1
                  have HO := Lib.hid (show keysOk k l.length ks = true by simp [keysOk, h6, a1])
                  clear a1
                  go_wp2_with (go_at_call 40; first | ((with_reducible refine (must_ok _ _ _ (by first | rfl | (simp; done) | (simp; omega))).mono ?_); rintro e w9 ⟨rfl, rfl⟩) | ((with_reducible refine (must_bad _ _ _ (by first | rfl | (simp; done) | (simp; omega))).mono ?_); rintro e w9 ⟨rfl, rfl⟩))
                  go_meet
                  exact ⟨HO, rfl⟩
                | false =>
                  have a1 : ¬ (ks.length : Int) = (l.length : Int) := by simpa using b1
                  have h6' : (k != 6) = false := by simpa using h6
                  have e : q = 93 := E93.out (by simp [keysOk, h6, h6', a1])
                  clear a1
                  cases b2 : ((ks.length : Int) == 0) with
                  | true =>
                    go_wp2_with (go_at_call 40; first | ((with_reducible refine (must_ok _ _ _ (by first | rfl | (simp; done) | (simp; omega))).mono ?_); rintro e w9 ⟨rfl, rfl⟩) | ((with_reducible refine (must_bad _ _ _ (by first | rfl | (simp; done) | (simp; omega))).mono ?_); rintro e w9 ⟨rfl, rfl⟩))
                    exact ⟨rfl, Or.inr ⟨by omega, rfl, f0⟩⟩
                  | false =>
                    go_wp2_with (go_at_call 40; first | ((with_reducible refine (must_ok _ _ _ (by first | rfl | (simp; done) | (simp; omega))).mono ?_); rintro e w9 ⟨rfl, rfl⟩) | ((with_reducible refine (must_bad _ _ _ (by first | rfl | (simp; done) | (simp; omega))).mono ?_); rintro e w9 ⟨rfl, rfl⟩))
                    exact ⟨rfl, Or.inr ⟨by omega, rfl, f0⟩⟩
              | false =>
                have h6' : (k != 6) = true := by simpa using h6
                cases b2 : ((ks.length : Int) == 0) with
                | true =>
                  have a2 : (ks.length : Int) = 0 := by simpa using b2
                  have HO := Lib.hid (show keysOk k l.length ks = true by simp [keysOk, h6', a2])
                  clear a2
                  go_wp2_with (go_at_call 40; first | ((with_reducible refine (must_ok _ _ _ (by first | rfl | (simp; done) | (simp; omega))).mono ?_); rintro e w9 ⟨rfl, rfl⟩) | ((with_reducible refine (must_bad _ _ _ (by first | rfl | (simp; done) | (simp; omega))).mono ?_); rintro e w9 ⟨rfl, rfl⟩))
                  go_meet
                  exact ⟨HO, rfl⟩
                | false =>
                  have a2 : ¬ (ks.length : Int) = 0 := by simpa using b2
                  have e : q = 93 := E93.out (by unfold keysOk; rw [h6, decide_eq_false a2]; rfl)
                  clear a2
                  go_wp2_with (go_at_call 40; first | ((with_reducible refine (must_ok _ _ _ (by first | rfl | (simp; done) | (simp; omega))).mono ?_); rintro e w9 ⟨rfl, rfl⟩) | ((with_reducible refine (must_bad _ _ _ (by first | rfl | (simp; done) | (simp; omega))).mono ?_); rintro e w9 ⟨rfl, rfl⟩))
                  exact ⟨rfl, Or.inr ⟨by omega, rfl, f0⟩⟩
            case rest =>
              obtain ⟨HK, rfl⟩ := hcut
              have X0 := hx.fr0 f0
              have Hka : Hid (InMem S W (.slice ka ks.length kc) ks.length (ks.map sV)) := Lib.hid (Hkv.out.fr (fun g hg => f0.block g (hS g hg) (fun e => e)))
              have hSW : ∀ g, S g → g < W.heap.size := fun g hg => Nat.lt_of_lt_of_le (hS g hg) f0.size
              have hbl : ks.length ≤ big := by unfold big; omega
              go_upto_region 6 with fail
              go_cut [] (fun wx => Hid ((ks.all Lib.validD && decide ks.Nodup) = true) ∧ Fr NoB W wx)
              case first =>
                have hcf := containsFunc_any S ks _ W X0 hSW Hka.out hbl HSM.out.2.2
                cases hv : ks.all Lib.validD with
                | false =>
                  have e : q = 93 := H93.out (by simp [formP, hv])
                  rw [hv] at hcf
                  have HCF := Lib.hid hcf
                  clear hcf hv hSW
                  go_wp2_with (first | (go_at_call 49; ((with_reducible refine HCF.out.mono ?_); rintro e w1 ⟨rfl, f1⟩)) | (go_at_call 40; first | ((with_reducible refine (must_ok _ _ _ (by first | rfl | (simp; done) | (simp; omega))).mono ?_); rintro e w9 ⟨rfl, rfl⟩) | ((with_reducible refine (must_bad _ _ _ (by first | rfl | (simp; done) | (simp; omega))).mono ?_); rintro e w9 ⟨rfl, rfl⟩)))
                  exact ⟨rfl, Or.inr ⟨by omega, rfl, f0.trans f1⟩⟩
                | true =>
                  rw [hv] at hcf
                  have HCF := Lib.hid hcf
                  have HSI : Hid (∀ w', Fr NoB W w' → Calls Tryz.prog 52 #[.slice ka ks.length kc] w' fun e w'' => e = .returned (.bool (decide ks.Nodup)) ∧ Fr NoB w' w'') := Lib.hid (fun w' f => single_any S ks _ w' (fun g hg => Nat.lt_of_lt_of_le (hSW g hg) f.size) (Hka.out.fr (fun g hg => f.block g (hSW g hg) (fun e => e))) (by omega))
                  clear hcf hSW
                  cases hd : decide ks.Nodup with
                  | false =>
                    have e : q = 93 := H93.out (by rw [decide_eq_false_iff_not] at hd; simp [formP, hd])
                    have HD := Lib.hid hd
                    clear hd hv
                    go_wp2_with (first | (go_at_call 49; ((with_reducible refine HCF.out.mono ?_); rintro e w1 ⟨rfl, f1⟩; have d4 := ((f1.blk g0 (fun e => e)).cell 4).trans (show _ = some (Value.slice ka ks.length kc) from rfl))) | (go_at_call 52; ((with_reducible refine (HSI.out _ f1).mono ?_); rintro e w2 ⟨rfl, f2⟩; rw [HD.out])) | (go_at_call 40; first | ((with_reducible refine (must_ok _ _ _ (by first | rfl | (simp; done) | (simp; omega))).mono ?_); rintro e w9 ⟨rfl, rfl⟩) | ((with_reducible refine (must_bad _ _ _ (by first | rfl | (simp; done) | (simp; omega))).mono ?_); rintro e w9 ⟨rfl, rfl⟩)))
                    exact ⟨rfl, Or.inr ⟨by omega, rfl, (f0.trans f1).trans f2⟩⟩
                  | true =>
                    have HO := Lib.hid (show (ks.all Lib.validD && decide ks.Nodup) = true by rw [hv, hd]; rfl)
                    have HD := Lib.hid hd
                    clear hd hv
                    go_wp2_with (first | (go_at_call 49; ((with_reducible refine HCF.out.mono ?_); rintro e w1 ⟨rfl, f1⟩; have d4 := ((f1.blk g0 (fun e => e)).cell 4).trans (show _ = some (Value.slice ka ks.length kc) from rfl))) | (go_at_call 52; ((with_reducible refine (HSI.out _ f1).mono ?_); rintro e w2 ⟨rfl, f2⟩; rw [HD.out])) | (go_at_call 40; first | ((with_reducible refine (must_ok _ _ _ (by first | rfl | (simp; done) | (simp; omega))).mono ?_); rintro e w9 ⟨rfl, rfl⟩) | ((with_reducible refine (must_bad _ _ _ (by first | rfl | (simp; done) | (simp; omega))).mono ?_); rintro e w9 ⟨rfl, rfl⟩)))
                    go_meet
                    exact ⟨HO, f1.trans f2⟩
              case rest =>
                obtain ⟨HV, f6⟩ := hcut
                have gc := f6.blk g0 (fun e => e)
                have fc := f0.trans f6
                clear c0 c1 c2 c3 c4 Hka hSW X0 f6
                have c0 : wc.cell? ⟨w.heap.size, 0, none⟩ = some (.int .i64 k) := (gc.cell 0).trans rfl
                have c1 : wc.cell? ⟨w.heap.size, 1, none⟩ = some (.int .i64 i) := (gc.cell 1).trans rfl
                have c2 : wc.cell? ⟨w.heap.size, 2, none⟩ = some (.string ⟨t.toArray⟩) := (gc.cell 2).trans rfl
                have c3 : wc.cell? ⟨w.heap.size, 3, none⟩ = some (.slice la l.length lc) := (gc.cell 3).trans rfl
                have c4 : wc.cell? ⟨w.heap.size, 4, none⟩ = some (.slice ka ks.length kc) := (gc.cell 4).trans rfl
                go_upto_region 7 with fail
                go_cut [] (fun wx => Hid (intIn k i = true) ∧ wc = wx)
                case first =>
                  have e93 : intIn k i = false → q = 93 := fun h => H93.out (by simp [formP, h])
                  have E93 := Lib.hid e93
                  clear e93
                  cases b1 : (i == 0) with
                  | true =>
                    have HO := Lib.hid (show intIn k i = true by simp [intIn, b1])
                    go_wp2_with (go_at_call 40; first | ((with_reducible refine (must_ok _ _ _ (by first | rfl | (simp; done) | (simp; omega))).mono ?_); rintro e w9 ⟨rfl, rfl⟩) | ((with_reducible refine (must_bad _ _ _ (by first | rfl | (simp; done) | (simp; omega))).mono ?_); rintro e w9 ⟨rfl, rfl⟩))
                    go_meet
                    exact ⟨HO, rfl⟩
                  | false =>
                    cases b2 : (k == 3) with
                    | false =>
                      have e : q = 93 := E93.out (by simp [intIn, b1, b2])
                      go_wp2_with (go_at_call 40; first | ((with_reducible refine (must_ok _ _ _ (by first | rfl | (simp; done) | (simp; omega))).mono ?_); rintro e w9 ⟨rfl, rfl⟩) | ((with_reducible refine (must_bad _ _ _ (by first | rfl | (simp; done) | (simp; omega))).mono ?_); rintro e w9 ⟨rfl, rfl⟩))
                      exact ⟨rfl, Or.inr ⟨by omega, rfl, fc⟩⟩
                    | true =>
                      by_cases b3 : i ≤ 9007199254740991
                      · by_cases b4 : -9007199254740991 ≤ i
                        · have HO := Lib.hid (show intIn k i = true by unfold intIn; rw [b2, decide_eq_true b3, decide_eq_true b4, b1]; rfl)
                          go_wp2_with (go_at_call 40; first | ((with_reducible refine (must_ok _ _ _ (by first | rfl | (simp; done) | (simp; omega))).mono ?_); rintro e w9 ⟨rfl, rfl⟩) | ((with_reducible refine (must_bad _ _ _ (by first | rfl | (simp; done) | (simp; omega))).mono ?_); rintro e w9 ⟨rfl, rfl⟩))
                          go_meet
                          exact ⟨HO, rfl⟩
                        · have e : q = 93 := E93.out (by unfold intIn; rw [b2, decide_eq_true b3, decide_eq_false b4, b1]; rfl)
                          go_wp2_with (go_at_call 40; first | ((with_reducible refine (must_ok _ _ _ (by first | rfl | (simp; done) | (simp; omega))).mono ?_); rintro e w9 ⟨rfl, rfl⟩) | ((with_reducible refine (must_bad _ _ _ (by first | rfl | (simp; done) | (simp; omega))).mono ?_); rintro e w9 ⟨rfl, rfl⟩))
                          exact ⟨rfl, Or.inr ⟨by omega, rfl, fc⟩⟩
                      · have e : q = 93 := E93.out (by unfold intIn; rw [b2, decide_eq_false b3, b1]; rfl)
                        go_wp2_with (go_at_call 40; first | ((with_reducible refine (must_ok _ _ _ (by first | rfl | (simp; done) | (simp; omega))).mono ?_); rintro e w9 ⟨rfl, rfl⟩) | ((with_reducible refine (must_bad _ _ _ (by first | rfl | (simp; done) | (simp; omega))).mono ?_); rintro e w9 ⟨rfl, rfl⟩))
                        exact ⟨rfl, Or.inr ⟨by omega, rfl, fc⟩⟩
                case rest =>
                  obtain ⟨HI, rfl⟩ := hcut
                  have htl := HSM.out.1
                  have XY := hx.fr0 fc
                  go_upto_region 8 with fail
                  go_cut [] (fun wx => Hid (textIn k t = true) ∧ Fr NoB wc wx)
                  case first =>
                    have e93 : textIn k t = false → q = 93 := fun h => H93.out (by simp [formP, h])
                    have E93 := Lib.hid e93
                    clear e93
                    cases t with
                    | nil =>
                      have HO := Lib.hid (show textIn k [] = true from rfl)
                      go_wp2_with (go_at_call 40; first | ((with_reducible refine (must_ok _ _ _ (by first | rfl | (simp; done) | (simp; omega))).mono ?_); rintro e w9 ⟨rfl, rfl⟩) | ((with_reducible refine (must_bad _ _ _ (by first | rfl | (simp; done) | (simp; omega))).mono ?_); rintro e w9 ⟨rfl, rfl⟩))
                      go_meet
                      exact ⟨HO, Fr.refl _ _⟩
                    | cons c0 t0 =>
                      have hne : ((c0 :: t0 : Bs) == []) = false := rfl
                      generalize (c0 :: t0 : Bs) = u at *
                      cases b2 : (k == 4) with
                      | false =>
                        have e : q = 93 := E93.out (by simp [textIn, hne, b2])
                        go_wp2_with (go_at_call 40; first | ((with_reducible refine (must_ok _ _ _ (by first | rfl | (simp; done) | (simp; omega))).mono ?_); rintro e w9 ⟨rfl, rfl⟩) | ((with_reducible refine (must_bad _ _ _ (by first | rfl | (simp; done) | (simp; omega))).mono ?_); rintro e w9 ⟨rfl, rfl⟩))
                        exact ⟨rfl, Or.inr ⟨by omega, rfl, fc⟩⟩
                      | true =>
                        cases hv : Lib.validD u with
                        | false =>
                          have e : q = 93 := E93.out (by simp [textIn, hne, hv])
                          have HU := Lib.hid (utf8_no u wc XY htl hv)
                          clear hv
                          go_wp2_with (first | (go_at_call 51; ((with_reducible refine HU.out.mono ?_); rintro e w1 ⟨rfl, f1⟩)) | (go_at_call 40; first | ((with_reducible refine (must_ok _ _ _ (by first | rfl | (simp; done) | (simp; omega))).mono ?_); rintro e w9 ⟨rfl, rfl⟩) | ((with_reducible refine (must_bad _ _ _ (by first | rfl | (simp; done) | (simp; omega))).mono ?_); rintro e w9 ⟨rfl, rfl⟩)))
                          exact ⟨rfl, Or.inr ⟨by omega, rfl, fc.trans f1⟩⟩
                        | true =>
                          have HO := Lib.hid (show textIn k u = true by unfold textIn; rw [hv, b2]; simp)
                          have HU := Lib.hid (utf8_yes u wc XY htl hv)
                          clear hv
                          go_wp2_with (first | (go_at_call 51; ((with_reducible refine HU.out.mono ?_); rintro e w1 ⟨rfl, f1⟩)) | (go_at_call 40; first | ((with_reducible refine (must_ok _ _ _ (by first | rfl | (simp; done) | (simp; omega))).mono ?_); rintro e w9 ⟨rfl, rfl⟩) | ((with_reducible refine (must_bad _ _ _ (by first | rfl | (simp; done) | (simp; omega))).mono ?_); rintro e w9 ⟨rfl, rfl⟩)))
                          go_meet
                          exact ⟨HO, f1⟩
                  case rest =>
                    obtain ⟨HX, f8⟩ := hcut
                    have gd := f8.blk gc (fun e => e)
                    have fd := fc.trans f8
                    clear c0 c1 c2 c3 c4 f8 gc XY htl
                    have hform : formP k i t l.length ks = true := by
                      have e1 := HB.out; have e2 := HK.out; have e3 := HV.out; have e4 := HI.out; have e5 := HX.out
                      unfold formP; rw [decide_eq_true hk0, decide_eq_true hk7, e1, e2, e3, e4, e5]; rfl
                    have HQL : Hid (q = checksP (n + 1) l) := Lib.hid (by rw [HQ.out, HA.out, hform]; rfl)
                    have HCK : Hid (∀ x ∈ l, CK (n + 1) x) := Lib.hid (fun x hxm => by
                      refine HIH.out ?_ x hxm
                      have e1 := HB.out; have e0 := HA.out
                      have hne : ¬ (l.length : Int) = 0 := by intro h0; have : l = [] := List.eq_nil_of_length_eq_zero (by omega); subst this; simp at hxm
                      rw [decide_eq_false hne, Bool.or_false] at e1
                      rw [e1] at e0
                      have : (n : Int) < 32 := by simpa using e0
                      omega)
                    have HSS : Hid (∀ x ∈ l, JSm x) := Lib.hid (JSms.get l hsms)
                    clear hform HB HK HV HI HX HQ HA HIH H93 hsms Hkv HSM
                    have c3 : wc.cell? ⟨w.heap.size, 3, none⟩ = some (.slice la l.length lc) := (gd.cell 3).trans rfl
                    go_wp2_with fail
                    go_loopw [109] (fun v wr => ∃ m : Nat, m ≤ l.length ∧ v = .int .i64 m ∧ Fr NoB w wr ∧ Hid (q = checksP (n + 1) (l.drop m))) (fun v _ => l.length - (intOf v).toNat)
                    case atStart => exact ⟨0, Nat.zero_le _, rfl, fd, HQL⟩
                    case round =>
                      obtain ⟨m, hm, rfl, hf, HD⟩ := hrel
                      clear c3 gd fd
                      by_cases hlt : m < l.length
                      · obtain ⟨hcs, hlm⟩ := Hlv.out
                        rcases hlm with ⟨h0, _⟩ | ⟨g, o, c, he, hg, hcell⟩
                        · omega
                        · simp only [Value.slice.injEq, true_and] at he
                          obtain ⟨rfl, rfl⟩ := he
                          obtain ⟨v0, v1, v2, v3, v4, a0, a1, a2, a3, a4, hat⟩ := RCells.get l cs m hlt hcs
                          have key : ∀ (p : Nat) u, cs[p]? = some u → wr.cell? ⟨g, o + p, none⟩ = some u := fun p u hu => (hf.cell (p := ⟨g, o + p, none⟩) (hS g hg) (fun e => e)).trans (hcell p u hu)
                          have d0 : wr.cell? ⟨g, o + m * 5, none⟩ = some v0 := key _ _ a0
                          have d1 : wr.cell? ⟨g, o + m * 5 + 1, none⟩ = some v1 := key _ _ a1
                          have d2 : wr.cell? ⟨g, o + m * 5 + 2, none⟩ = some v2 := key _ _ a2
                          have d3 : wr.cell? ⟨g, o + m * 5 + 3, none⟩ = some v3 := key _ _ a3
                          have d4 : wr.cell? ⟨g, o + m * 5 + 4, none⟩ = some v4 := key _ _ a4
                          have h1c := hat.one
                          have hck : CK (n + 1) l[m] := HCK.out l[m] (List.getElem_mem hlt)
                          have hsx := HSS.out l[m] (List.getElem_mem hlt)
                          have hdr := checksP_drop (n + 1) l m hlt
                          rw [← HD.out] at hdr
                          generalize l[m] = x at hat hck hsx hdr
                          have HR : Hid (∀ W3, Fr NoB wr W3 → Calls Tryz.prog 32 #[.agg #[v0, v1, v2, v3, v4], .int .i64 ((n : Int) + 1)] W3 (ChkIs (checkP (n + 1) x) W3)) := Lib.hid (fun W3 f => by
                            have := hck S (.agg #[v0, v1, v2, v3, v4]) W3 (hx.fr0 (hf.trans f)) (fun g hg => Nat.lt_of_lt_of_le (hS g hg) (hf.trans f).size) (RAt.fr (fun g hg => (hf.trans f).block g (hS g hg) (fun e => e)) x _ hat) hsx
                            simpa using this)
                          clear hck hsx hat key hcell a0 a1 a2 a3 a4 hcs HCK HSS Hlv HD
                          have n2 := Blk.new wr 25 zj
                          by_cases hz : checkP (n + 1) x = 0
                          · rw [if_pos hz] at hdr
                            have HDR := Lib.hid hdr
                            have HR2 : Hid (∀ W3, Fr NoB wr W3 → Calls Tryz.prog 32 #[.agg #[v0, v1, v2, v3, v4], .int .i64 ((n : Int) + 1)] W3 fun e w' => e = .returned (.tuple #[]) ∧ Fr NoB W3 w') := Lib.hid (fun W3 f => (HR.out W3 f).mono (fun e w' h => by rcases h with ⟨_, h1, h2⟩ | ⟨h0, _⟩; exact ⟨h1, h2⟩; exact absurd hz h0))
                            clear hz hdr HR HQL
                            go_wp2_with (first | (refine wpList_store_row rfl 25 _ _ rfl wr.heap.size #[v0, v1, v2, v3, v4] rfl rfl 25 zj n2 size_json rfl (all_one h1c) ?_; have n3 := n2.setRow #[v0, v1, v2, v3, v4]; have f4 : Fr NoB wr ((wr.alloc (.cells zj 25)).setRow wr.heap.size #[v0, v1, v2, v3, v4]) := ((Fr.refl NoB wr).alloc _).setRow wr.heap.size _ (Or.inl (Nat.le_refl _)); generalize (wr.alloc (.cells zj 25)).setRow wr.heap.size #[v0, v1, v2, v3, v4] = W3 at n3 f4 ⊢) | (refine wpList_load_row rfl 25 _ rfl wr.heap.size rfl 25 _ _ _ n3 Tryz.underlying25 rfl size_json ?_) | (go_at_call 32; ((with_reducible refine (HR2.out _ f4).mono ?_); rintro e w5 ⟨rfl, f5⟩)))
                            go_roundw
                            case rel => exact ⟨m + 1, by omega, by simp, (hf.trans f4).trans f5, HDR⟩
                            case measure => simp [intOf]; omega
                          · rw [if_neg hz] at hdr
                            have HDR := Lib.hid hdr
                            have HR2 : Hid (∀ W3, Fr NoB wr W3 → Calls Tryz.prog 32 #[.agg #[v0, v1, v2, v3, v4], .int .i64 ((n : Int) + 1)] W3 fun e w' => e = Wr (checkP (n + 1) x) ∧ Fr NoB W3 w') := Lib.hid (fun W3 f => (HR.out W3 f).mono (fun e w' h => by rcases h with ⟨h0, _⟩ | ⟨_, h1, h2⟩; exact absurd h0 hz; exact ⟨h1, h2⟩))
                            have HZ := Lib.hid hz
                            generalize checkP (n + 1) x = z at HDR HR2 HZ
                            clear hz hdr HR HQL
                            go_wp2_with (first | (refine wpList_store_row rfl 25 _ _ rfl wr.heap.size #[v0, v1, v2, v3, v4] rfl rfl 25 zj n2 size_json rfl (all_one h1c) ?_; have n3 := n2.setRow #[v0, v1, v2, v3, v4]; have f4 : Fr NoB wr ((wr.alloc (.cells zj 25)).setRow wr.heap.size #[v0, v1, v2, v3, v4]) := ((Fr.refl NoB wr).alloc _).setRow wr.heap.size _ (Or.inl (Nat.le_refl _)); generalize (wr.alloc (.cells zj 25)).setRow wr.heap.size #[v0, v1, v2, v3, v4] = W3 at n3 f4 ⊢) | (refine wpList_load_row rfl 25 _ rfl wr.heap.size rfl 25 _ _ _ n3 Tryz.underlying25 rfl size_json ?_) | (go_at_call 32; ((with_reducible refine (HR2.out _ f4).mono ?_); rintro e w5 ⟨rfl, f5⟩)))
                            exact ⟨rfl, Or.inr ⟨by rw [HDR.out]; exact HZ.out, by rw [HDR.out], (hf.trans f4).trans f5⟩⟩
                      · obtain rfl : m = l.length := by omega
                        have e : q = 0 := by rw [HD.out, List.drop_length]; simp [checksP]
                        go_wp2_with fail
                        go_end0
                        exact Or.inl ⟨e, rfl, hf⟩
end Go.Proofs.YteeijmfnjcddmaaGreatDoor
