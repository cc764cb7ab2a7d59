/- The document's replay cache: Len, Add, Copy. -/
import Derived.Test.YtkhaeoggchnheaaRefA
namespace Go.Proofs.Ytkhaeoggchnheaa
open Go.RowKit Go.Maps Go.WideMaps

def cntR (t : Int) (L : List (ByteArray × Int)) : Nat := (L.filter fun p => decide (t < p.2)).length
theorem cntR_take {t : Int} {L : List (ByteArray × Int)} {k : Nat} (h : k < L.length) : cntR t (L.take (k + 1)) = cntR t (L.take k) + if t < L[k].2 then 1 else 0 := by
  unfold cntR
  rw [List.take_succ_eq_append_getElem h, List.filter_append, List.length_append]
  by_cases hh : t < L[k].2 <;> simp only [List.filter_cons, List.filter_nil, hh, decide_true, decide_false, if_true, if_false] <;> rfl
theorem cntR_le (t : Int) (L : List (ByteArray × Int)) : cntR t L ≤ L.length := List.length_filter_le _ _

set_option maxRecDepth 100000 in
set_option maxHeartbeats 1600000 in
theorem rlen_any {w : World} {base b cap : Nat} {A : Option Addr} {room clock : Int} {L : List (ByteArray × Int)} (h : IsR w base b A cap room clock L) (now : Int) :
    Calls Try.prog 16 #[.pointer (some ⟨b, 0, none⟩), .int .i64 now] w fun e w' => e = .returned (.int .i64 (lenR clock L now)) ∧ Fr NoB w w' := by
  have hll := h.len_le
  unfold maxLen at hll
  obtain ⟨r, hr⟩ : ∃ r, lenR clock L now = r := ⟨_, rfl⟩
  rw [hr]
  unfold lenR at hr
  cases ht : tickB now
  · rw [ht, if_neg (by simp)] at hr
    have HR := Lib.hid hr
    clear hr
    go_enter Try.func16, Try.ntmps16
    go_wp2_with fail
    go_loopg [5, 6] L.length (fun gk v5 v wr => ∃ k : Nat, k + gk = L.length ∧ v = .int .i64 k ∧ v5 = .int .i64 0 ∧ Fr NoB w wr)
    case atStart => exact ⟨0, by omega, rfl, rfl, Fr.refl _ _⟩
    case round =>
      obtain ⟨k, hk, rfl, rfl, hF⟩ := hrel
      have hr := h.fr hF (fun x => x) (fun _ _ x => x)
      obtain ⟨c0, c1, c2, _⟩ := hr.cells
      have HK := Lib.hid hk
      clear hk
      by_cases hlt : k < L.length
      · obtain ⟨g, rfl, d0, d1⟩ := hr.at_ hlt
        go_wp2_with fail
        go_quiet ((go_at_call 21; exact quiet_id (rtick_no _ _ ht)))
        go_wp2_with fail
        go_roundg (gk - 1)
        case measure => have := HK.out; omega
        case rel => exact ⟨k + 1, by have := HK.out; omega, by go_num, rfl, hF.drewN _⟩
      · go_wp2_with fail
        go_ret
        exact ⟨by rw [← HR.out]; rfl, hF⟩
  · rw [ht, if_pos rfl] at hr
    have HR : Hid ((cntR (max now clock) L : Int) = r) := hr
    clear hr
    go_enter Try.func16, Try.ntmps16
    go_wp2_with fail
    go_loopg [5, 6] L.length (fun gk v5 v wr => ∃ k : Nat, k + gk = L.length ∧ v = .int .i64 k ∧ v5 = .int .i64 (cntR (max now clock) (L.take k)) ∧ Fr NoB w wr)
    case atStart => exact ⟨0, by omega, rfl, rfl, Fr.refl _ _⟩
    case round =>
      obtain ⟨k, hk, rfl, rfl, hF⟩ := hrel
      have hr := h.fr hF (fun x => x) (fun _ _ x => x)
      obtain ⟨c0, c1, c2, _⟩ := hr.cells
      have HK := Lib.hid hk
      clear hk
      by_cases hlt : k < L.length
      · obtain ⟨g, rfl, d0, d1⟩ := hr.at_ hlt
        have HT := Lib.hid (cntR_take (t := max now clock) hlt)
        have hcl : cntR (max now clock) (L.take k) ≤ k := by have := cntR_le (max now clock) (L.take k); have := List.length_take_le k L; omega
        obtain ⟨p, hp⟩ : ∃ p, L[k] = p := ⟨_, rfl⟩
        rw [hp] at d0 d1 HT
        clear hp
        obtain ⟨t, u⟩ := p
        simp only at d0 d1 HT
        have i0 : (0 : Int) ≤ (k : Int) := by omega
        have i1 : (k : Int) < (L.length : Int) := by omega
        by_cases hu : max now clock < u
        · have q1 : now < u := by omega
          have q2 : clock < u := by omega
          have HU := Lib.hid hu
          go_wp2_with fail
          go_quiet ((go_at_call 21; exact quiet_id (rtick_yes _ _ ht)))
          go_wp2_with fail
          all_goals
            go_roundg (gk - 1)
            case measure => have := HK.out; omega
            case rel => exact ⟨k + 1, by have := HK.out; omega, by go_num, by rw [HT.out, if_pos HU.out]; go_num, hF.drewN _⟩
        · have HU := Lib.hid hu
          go_wp2_with fail
          go_quiet ((go_at_call 21; exact quiet_id (rtick_yes _ _ ht)))
          go_wp2_with fail
          all_goals
            go_roundg (gk - 1)
            case measure => have := HK.out; omega
            case rel => exact ⟨k + 1, by have := HK.out; omega, by go_num, by rw [HT.out, if_neg (by have := HU.out; omega)]; rfl, hF.drewN _⟩
      · have hkl : L.take k = L := List.take_of_length_le (by omega)
        rw [hkl]
        clear hkl
        go_wp2_with fail
        go_ret
        exact ⟨by rw [← HR.out]; rfl, hF⟩

/-- The document's Add. -/
def addRE (room clock : Int) (L : List (ByteArray × Int)) (s : ByteArray) (til now : Int) : Int :=
  if ref0 s.data.toList til now ≠ 0 then ref0 s.data.toList til now else if til ≤ max clock now then 1 else if hasR (max clock now) L s now = true then 140 else if room ≤ lenR (max clock now) L now then 141 else 0
def addRL (room clock : Int) (L : List (ByteArray × Int)) (s : ByteArray) (til now : Int) : List (ByteArray × Int) := if addRE room clock L s til now = 0 then L ++ [(s, til)] else L

theorem Try.infoE : (Try.prog.info? 55).map (fun i => (i.zero, i.size, i.bytes)) = some (some (.agg #[.string ⟨#[]⟩, .int .i64 0]), 2, 24) := by kernel_rfl

/-- The blocks that the document's Add may turn. -/
def SR (b : Nat) (A : Option Addr) : Nat → Prop := fun k => k = b ∨ rowB A = some k

set_option maxRecDepth 100000 in
set_option maxHeartbeats 800000 in
theorem radd_no {w : World} {b : Nat} (s : ByteArray) (til now : Int) (h0 : ref0 s.data.toList til now ≠ 0) :
    Calls Try.prog 14 #[.pointer (some ⟨b, 0, none⟩), .string s, .int .i64 til, .int .i64 now] w fun e w' => e = .returned (.int .i64 (ref0 s.data.toList til now)) ∧ w = w' := by
  have hl : s.data.toList.length = s.size := by simp
  obtain ⟨r, hr⟩ : ∃ r, ref0 s.data.toList til now = r := ⟨_, rfl⟩
  rw [hr] at h0 ⊢
  unfold ref0 at hr
  cases h1 : tickB til
  · rw [if_pos (Or.inl h1)] at hr
    have HR := Lib.hid hr
    clear hr h0 hl
    go_enter Try.func14, Try.ntmps14
    go_wp2_with (go_at_call 21; refine (rtick_any _ _).mono ?_; rintro e w' ⟨rfl, rfl⟩)
    go_ret
    exact ⟨by rw [← HR.out]; rfl, rfl⟩
  · cases h2 : tickB now
    · rw [if_pos (Or.inr h2)] at hr
      have HR := Lib.hid hr
      clear hr h0 hl
      go_enter Try.func14, Try.ntmps14
      go_wp2_with (go_at_call 21; refine (rtick_any _ _).mono ?_; rintro e w' ⟨rfl, rfl⟩)
      go_ret
      exact ⟨by rw [← HR.out]; rfl, rfl⟩
    · rw [if_neg (by simp [h1, h2])] at hr
      by_cases h3 : s.data.toList = [] ∨ 64 < s.data.toList.length
      · rw [if_pos h3] at hr
        have HR := Lib.hid hr
        have h3' : s.size < 1 ∨ 64 < s.size := by
          rcases h3 with h3 | h3
          · rw [h3] at hl; simp at hl; omega
          · omega
        clear hr h0 hl h3
        rcases h3' with h4 | h4
        · go_enter Try.func14, Try.ntmps14
          go_wp2_with (go_at_call 21; refine (rtick_any _ _).mono ?_; rintro e w' ⟨rfl, rfl⟩)
          go_ret
          exact ⟨by rw [← HR.out]; rfl, rfl⟩
        · go_enter Try.func14, Try.ntmps14
          go_wp2_with (go_at_call 21; refine (rtick_any _ _).mono ?_; rintro e w' ⟨rfl, rfl⟩)
          go_ret
          exact ⟨by rw [← HR.out]; rfl, rfl⟩
      · rw [if_neg h3] at hr
        exact absurd hr.symm h0

theorem own_ne {w : World} {base g : Nat} {e t : TypeId} {size n : Nat} {v : Value} {xs : List Value} {cs : Array Value} (h : w.ownsRow base e size v n xs) (hg : Blk w g t cs) (hne : e ≠ t) : v.ownBlock ≠ some g := by
  rcases h.2 with ⟨rfl, _⟩ | ⟨g', cap, cur, rfl, _, hh, _⟩
  · simp [Value.ownBlock]
  · intro he
    have : g' = g := by simpa [Value.ownBlock] using he
    subst this
    unfold Blk at hg
    rw [hh] at hg
    injection hg with hg
    injection hg with _ ht
    exact hne ht

theorem two_new (w : World) (t : TypeId) (a b : Value) : ∀ (j : Nat) (u : Value), [a, b][j]? = some u → (w.alloc (.cells #[a, b] t)).cell? ((⟨w.heap.size, 0, none⟩ : Addr).add j) = some u := by
  intro j u hj
  rw [radd0, (Blk.new w t #[a, b]).cell j]
  simpa using hj

/-- What the document's Add leaves. -/
structure RPost (w w' : World) (base b : Nat) (A : Option Addr) (room c' : Int) (L' : List (ByteArray × Int)) : Prop where
  ex : ∃ A' cap', IsR w' base b A' cap' room c' L' ∧ (∀ g, rowB A' = some g → rowB A = some g ∨ w.heap.size ≤ g)
  fr : Fr (SR b A) w w'

set_option maxRecDepth 100000 in
set_option maxHeartbeats 3200000 in
theorem radd_yes {w : World} {base b cap : Nat} {A : Option Addr} {room clock : Int} {L : List (ByteArray × Int)} (h : IsR w base b A cap room clock L) (hbase : base ≤ w.heap.size) (hL : (L.length + 1) * 24 ≤ 140737488355328) (s : ByteArray) (til now c' : Int) (h0 : ref0 s.data.toList til now = 0)
    (hc' : (clock < now ∧ c' = now) ∨ (¬ clock < now ∧ c' = clock)) (r : Int) (hr : (if til ≤ c' then 1 else if hasR c' L s now = true then 140 else if room ≤ lenR c' L now then 141 else 0) = r) :
    Calls Try.prog 14 #[.pointer (some ⟨b, 0, none⟩), .string s, .int .i64 til, .int .i64 now] w fun e w' => e = .returned (.int .i64 r) ∧ RPost w w' base b A room c' (if r = 0 then L ++ [(s, til)] else L) := by
  obtain ⟨t1, t2, t3, t4⟩ := ref0_zero h0
  have hl : s.data.toList.length = s.size := by simp
  have s1 : 1 ≤ s.size := by
    rcases Nat.lt_or_ge s.size 1 with hh | hh
    · exact absurd (List.length_eq_zero_iff.1 (by omega)) t3
    · exact hh
  have s2 : s.size ≤ 64 := by omega
  have h1 : IsR (w.setCell ⟨b, 1, none⟩ (.int .i64 c')) base b A cap room c' L := ⟨by simpa using h.blk.set_ 1 (.int .i64 c'), ownsRow_setCell_other h.row (by rw [ownB_slice]; exact h.ne) _⟩
  have hfr1 : Fr (SR b A) w (w.setCell ⟨b, 1, none⟩ (.int .i64 c')) := (Fr.refl _ _).setCell (Or.inl rfl) _
  have hz1 : (w.setCell ⟨b, 1, none⟩ (.int .i64 c')).heap.size = w.heap.size := by simp [World.setCell]
  obtain ⟨c0, c1, c2, f1, f2⟩ := h.cells
  obtain ⟨k0, k1, k2, _⟩ := h1.cells
  obtain ⟨L', hL'⟩ : ∃ L', L' = if r = 0 then L ++ [(s, til)] else L := ⟨_, rfl⟩
  rw [← hL']
  have HL := Lib.hid hL'
  have HZ1 := Lib.hid hz1
  obtain ⟨i0, hi, hz0, hz2, hz3⟩ := info_parts Try.infoE
  have hne0 := h.ne
  have hself : ∀ g, rowB A = some g → rowB A = some g ∨ w.heap.size ≤ g := fun _ e => Or.inl e
  have HSELF := Lib.hid hself
  clear hL' hl t3 t4 h0 hz1 hself
  have hif : (if clock < now then now else clock) = c' := by
    rcases hc' with ⟨hlt, hcc⟩ | ⟨hlt, hcc⟩
    · rw [if_pos hlt, hcc]
    · rw [if_neg hlt, hcc]
  clear hc' h
  by_cases g1 : til ≤ c'
  · rw [if_pos g1] at hr
    have HR := Lib.hid hr
    clear hr
    go_enter Try.func14, Try.ntmps14
    go_wp2_with (go_at_call 21; refine (rtick_any _ _).mono ?_; rintro e w' ⟨rfl, rfl⟩)
    go_ret
    exact ⟨by rw [← HR.out]; rfl, ⟨A, cap, by rw [HL.out, if_neg (by rw [← HR.out]; omega)]; exact h1, HSELF.out⟩, hfr1⟩
  · rw [if_neg g1] at hr
    cases g2 : hasR c' L s now
    · rw [g2, if_neg (by simp)] at hr
      have G2 := Lib.hid g2
      clear g2
      have ht : Calls Try.prog 15 #[.pointer (some ⟨b, 0, none⟩), .string s, .int .i64 now] (w.setCell ⟨b, 1, none⟩ (.int .i64 c')) fun e w' => e = .returned (.bool false) ∧ Fr NoB (w.setCell ⟨b, 1, none⟩ (.int .i64 c')) w' := by
        have := rhas_any h1 s now
        rw [G2.out] at this
        exact this
      have HT := Lib.hid ht
      obtain ⟨ln, hln⟩ : ∃ ln, lenR c' L now = ln := ⟨_, rfl⟩
      rw [hln] at hr
      have HLN := Lib.hid hln
      clear ht hln
      by_cases g3 : room ≤ ln
      · rw [if_pos g3] at hr
        have HR := Lib.hid hr
        clear hr
        go_enter Try.func14, Try.ntmps14
        go_wp2_with (first | (go_at_call 21; refine (rtick_any _ _).mono ?_; rintro e w' ⟨rfl, rfl⟩) | (go_at_call 15; refine HT.out.mono ?_; rintro e wx ⟨rfl, hFx⟩))
        have hx := h1.fr hFx (fun x => x) (fun _ _ x => x)
        have x0 := hx.cells.1
        go_region_held3 (fun w' => w'.cell? ⟨b, 0, none⟩ = some (.int .i64 room)) (first | go_keep | exact hy.cells.1) (first | (go_at_call 16; refine (rlen_any hx.drew now).mono ?_; rintro e wy ⟨rfl, hFy⟩; rw [HLN.out]; have hy := hx.drew.fr hFy (fun x => x) (fun _ _ x => x)))
        go_wp2_with fail
        go_ret
        exact ⟨by rw [← HR.out]; rfl, ⟨A, cap, by rw [HL.out, if_neg (by rw [← HR.out]; omega)]; exact hy, HSELF.out⟩, (hfr1.no hFx).drew.no hFy⟩
      · rw [if_neg g3] at hr
        have HR := Lib.hid hr
        clear hr
        go_enter Try.func14, Try.ntmps14
        go_wp2_with (first | (go_at_call 21; refine (rtick_any _ _).mono ?_; rintro e w' ⟨rfl, rfl⟩) | (go_at_call 15; refine HT.out.mono ?_; rintro e wx ⟨rfl, hFx⟩))
        have hx := h1.fr hFx (fun x => x) (fun _ _ x => x)
        have x0 := hx.cells.1
        go_region_held3 (fun w' => w'.cell? ⟨b, 0, none⟩ = some (.int .i64 room)) (first | go_keep | exact hy.cells.1) (first | (go_at_call 16; refine (rlen_any hx.drew now).mono ?_; rintro e wy ⟨rfl, hFy⟩; rw [HLN.out]; have hy := hx.drew.fr hFy (fun x => x) (fun _ _ x => x)))
        have hfry := (hfr1.no hFx).drew.no hFy
        have hsz : w.heap.size ≤ wy.heap.size := hfry.size
        obtain ⟨y0, y1, y2, y3, y4⟩ := hy.cells
        go_wp2_with (at_builtin; refine wpList_append_lies _ rfl _ _ _ rfl base 55 i0 (.agg #[.string ⟨#[]⟩, .int .i64 0]) 2 24 Try.underlying51 hi hz0 hz2 hz3 rfl (by omega) _ L.length (flat L) rfl (hy.row.alloc _) ⟨wy.heap.size, 0, none⟩ 1 1 [.string s, .int .i64 til] rfl rfl (two_new _ _ _ _) (by simp [Value.oneCell']) (by omega) (by unfold maxLen; omega) (by omega) (by simp; omega) (wy.heap.size + 1) (by simp) ?_; intro g3 cap3 w3 hown3 hgrow3 hat3 hlt3; have hb3 : Blk w3 b 53 #[.int .i64 room, .int .i64 c', .slice A L.length cap] := (hgrow3.block b (by have := hy.blk.lt; simp; omega) (fun e => own_ne hy.row hy.blk (by decide) e.symm)).trans (hy.al _).blk; have z2 := hb3.cell 2; have z3 := hb3.frozen 2; simp at z2)
        go_ret
        have hgb : g3 ≠ b := by
          intro e
          subst e
          exact own_ne hown3 hb3 (by decide) rfl
        have hsA : ∀ j, (Value.slice A L.length cap).ownBlock = some j → SR b A j := fun j e => Or.inr (by rw [← ownB_slice A L.length cap]; exact e)
        refine ⟨by rw [← HR.out]; rfl, ⟨⟨some ⟨g3, 0, none⟩, cap3, ⟨?_, ?_⟩, ?_⟩, ?_⟩⟩
        · rw [HL.out, if_pos HR.out.symm]
          have := hb3.set_ 2 (.slice (some ⟨g3, 0, none⟩) (L.length + 1) cap3)
          simpa using this
        · rw [HL.out, if_pos HR.out.symm, flat_snoc]
          have := ownsRow_setCell_other hown3 (a := ⟨b, 2, none⟩) (by simpa [Value.ownBlock] using hgb) (.slice (some ⟨g3, 0, none⟩) (L.length + 1) cap3)
          simpa using this
        · intro g hg
          simp [rowB] at hg
          subst hg
          rcases hat3 with e | e
          · exact Or.inl (by rw [← ownB_slice A L.length cap]; exact e)
          · exact Or.inr (by omega)
        · exact ((hfry.alloc _).grown hgrow3 (fun j hj _ => hsA j hj)).setCell (Or.inl rfl) _
    · rw [g2, if_pos rfl] at hr
      have HR := Lib.hid hr
      have G2 := Lib.hid g2
      clear hr g2
      have ht : Calls Try.prog 15 #[.pointer (some ⟨b, 0, none⟩), .string s, .int .i64 now] (w.setCell ⟨b, 1, none⟩ (.int .i64 c')) fun e w' => e = .returned (.bool true) ∧ Fr NoB (w.setCell ⟨b, 1, none⟩ (.int .i64 c')) w' := by
        have := rhas_any h1 s now
        rw [G2.out] at this
        exact this
      have HT := Lib.hid ht
      clear ht
      go_enter Try.func14, Try.ntmps14
      go_wp2_with (first | (go_at_call 21; refine (rtick_any _ _).mono ?_; rintro e w' ⟨rfl, rfl⟩) | (go_at_call 15; refine HT.out.mono ?_; rintro e wx ⟨rfl, hFx⟩))
      go_ret
      exact ⟨by rw [← HR.out]; rfl, ⟨A, cap, by rw [HL.out, if_neg (by rw [← HR.out]; omega)]; exact h1.fr hFx (fun x => x) (fun _ _ x => x), HSELF.out⟩, hfr1.no hFx⟩

end Go.Proofs.Ytkhaeoggchnheaa
