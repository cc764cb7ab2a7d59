/- JsonUnits: the walk. -/
import Derived.Test.YteeijmfnjcddmaaGreatDoorHy
import Derived.Test.YteeijmfnjcddmaaGreatDoorHz
import Derived.Test.YteeijmfnjcddmaaGreatDoorRs
namespace Go.Proofs.YteeijmfnjcddmaaGreatDoor
open Go.RowKit

theorem join_err : ∀ (k : Nat) (l : List Int) (e : Int), l.length ≤ k → joinP l = .error e → e = 13 ∨ e = 14
  | _, [], e, _, h => by simp [joinP] at h
  | 0, _ :: _, _, hk, _ => by simp at hk
  | k + 1, n :: r, e, hk, h => by
    simp only [List.length_cons] at hk
    by_cases h1 : n < 0 ∨ 65535 < n
    · rw [join_big h1] at h; cases h; exact Or.inl rfl
    · by_cases h2 : 56320 ≤ n ∧ n ≤ 57343
      · rw [join_low h2] at h; cases h; exact Or.inr rfl
      · by_cases h3 : 55296 ≤ n ∧ n ≤ 56319
        · cases r with
          | nil => rw [join_end h3] at h; cases h; exact Or.inr rfl
          | cons m r' =>
            simp only [List.length_cons] at hk
            by_cases h4 : m < 56320 ∨ 57343 < m
            · rw [join_half h3 h4] at h; cases h; exact Or.inr rfl
            · rw [join_pair h3 (by omega)] at h
              cases hj : joinP r' with
              | error x => rw [hj] at h; simp only [joinTo, Except.error.injEq] at h; subst h; exact join_err k r' _ (by omega) hj
              | ok l => rw [hj] at h; simp [joinTo] at h
        · rw [join_plain (by omega) (by omega)] at h
          cases hj : joinP r with
          | error x => rw [hj] at h; simp only [joinTo, Except.error.injEq] at h; subst h; exact join_err k r _ (by omega) hj
          | ok l => rw [hj] at h; simp [joinTo] at h
/-- Units, in one shape. -/
theorem units_all {B : Nat} (s : Bs) (w : World) (hx : Cx B w) (hl : s.length ≤ 1048576) :
    Calls Tryz.prog 29 #[.string ⟨s.toArray⟩] w fun e w' => ∃ (U : List Int) (a : Option Addr) (c : Nat) (k : Int), e = .returned (.tuple #[.slice a U.length c, .int .i64 k]) ∧ InMem (All w') w' (.slice a U.length c) U.length (U.map (Value.int .i64)) ∧ Fr NoB w w' ∧ ((k = 0 ∧ Hid (Lib.validD s = true ∧ U = unitsP s)) ∨ k = 12) := by
  cases hv : Lib.validD s with
  | true =>
    refine (units_yes s w hx hl hv).mono ?_
    rintro e w' ⟨v, rfl, ho, f⟩
    have hi := InMem.own ho
    obtain ⟨a, c, rfl⟩ := hi.sl
    exact ⟨unitsP s, a, c, 0, rfl, hi.mono (fun _ hg => hg.2), f, Or.inl ⟨rfl, Lib.hid ⟨rfl, rfl⟩⟩⟩
  | false =>
    refine (units_no s w hx hl hv).mono ?_
    rintro e w' ⟨rfl, f⟩
    exact ⟨[], none, 0, 12, rfl, Or.inl ⟨rfl, _, _, rfl⟩, f, Or.inr rfl⟩
set_option maxRecDepth 100000 in
theorem fromUnits_nil (a : Option Addr) (c : Nat) (w : World) : Calls Tryz.prog 30 #[.slice a 0 c] w fun e w' => e = .returned (.tuple #[.string ⟨#[]⟩, .int .i64 0]) ∧ Fr NoB w w' := by
  have HJ : Hid (∀ u, Calls Tryz.prog 48 #[.slice a 0 c] u fun e w' => e = .returned (.tuple #[.slice none 0 0, .nilIface]) ∧ w' = u) := Lib.hid (fun u => by
    go_enter Tryz.func48, Tryz.ntmps48
    go_wp2_with fail
    go_loopw [4, 5] (fun v4 v5 wr => v4 = .slice none 0 0 ∧ v5 = .int .i64 0 ∧ wr = u) (fun _ _ _ => 0)
    case atStart => exact ⟨rfl, rfl, rfl⟩
    case round =>
      obtain ⟨rfl, rfl, rfl⟩ := hrel
      go_wp2_with fail
      go_ret2
      exact ⟨rfl, rfl⟩)
  have hcv : (convert 78 9 (.slice none 0 0)).run Tryz.prog w = .ok (.string ⟨#[]⟩) w := conv_row (rs := []) (World.ownsRow_nil w 0 _ _)
  go_enter Tryz.func30, Tryz.ntmps30
  go_wp2_with (go_at_call 48; ((with_reducible refine (HJ.out _).mono ?_); rintro e w1 ⟨rfl, rfl⟩))
  go_ret2
  exact ⟨rfl, Fr.refl _ _⟩
/-- FromUnits, at any row. -/
theorem fromU_any {B : Nat} (l : List Int) (v : Value) (w : World) (hx : Cx B w) (hl : l.length ≤ 1048576) (hin : InMem (All w) w v l.length (l.map (Value.int .i64))) :
    Calls Tryz.prog 30 #[v] w fun e w' => ∃ (t : Bs) (k : Int), e = .returned (.tuple #[.string ⟨t.toArray⟩, .int .i64 k]) ∧ Fr NoB w w' ∧ ((k = 0 ∧ Hid (∃ rs, joinP l = .ok rs ∧ t = encsP rs)) ∨ ((k = 13 ∨ k = 14) ∧ Hid (joinP l = .error k))) := by
  by_cases hn : l = []
  · subst hn
    obtain ⟨a, c, rfl⟩ := hin.sl
    refine (fromUnits_nil a c w).mono ?_
    rintro e w' ⟨rfl, f⟩
    exact ⟨[], 0, rfl, f, Or.inl ⟨rfl, Lib.hid ⟨[], rfl, rfl⟩⟩⟩
  · have h0 : 0 < l.length := List.length_pos_iff.2 hn
    obtain ⟨a, c, rfl⟩ := hin.sl
    rcases hin with ⟨h, _⟩ | ⟨g, o, c', hv, hg, hcell⟩
    · omega
    · obtain ⟨rfl, rfl⟩ : a = some ⟨g, o, none⟩ ∧ c = c' := by simpa using hv
      have hc : ∀ (j : Nat) (h : j < l.length), w.cell? ⟨g, o + j, none⟩ = some (.int .i64 l[j]) := fun j h => hcell j _ (by simp [h])
      cases hj : joinP l with
      | ok rs =>
        refine (fromUnits_ok g o c l rs w hx (by omega) hg hc hj).mono ?_
        rintro e w' ⟨rfl, f⟩
        exact ⟨_, 0, rfl, f, Or.inl ⟨rfl, Lib.hid ⟨rs, rfl, rfl⟩⟩⟩
      | error k =>
        refine (fromUnits_no g o c l k w hx (by omega) hg hc hj).mono ?_
        rintro e w' ⟨rfl, f⟩
        exact ⟨[], k, rfl, f, Or.inr ⟨join_err _ l k (Nat.le_refl _) hj, Lib.hid rfl⟩⟩
/-- A text's value, as it lies in a variable. -/
theorem text_at_v {S : Nat → Prop} {w : World} {t : Bs} {v : Value} (h : RAt S w (.mk 4 0 t [] []) v) : ∃ lv kv, v = .agg #[.int .i64 4, .int .i64 0, .string ⟨t.toArray⟩, lv, kv] ∧ (#[.int .i64 4, .int .i64 0, .string ⟨t.toArray⟩, lv, kv].all (·.oneCell')) = true := by
  have h0 := h
  simp only [RAt] at h
  obtain ⟨lv, kv, rfl, _⟩ := h
  exact ⟨lv, kv, rfl, all_one h0.one⟩
theorem units_parse {s : Bs} (hv : Lib.validD s = true) (hk : (unitsP s).length < 10000) (hr : ∀ n ∈ unitsP s, 0 ≤ n ∧ n ≤ 65535) : parseP (quoteU (unitsP s)) = .ok (.mk 4 0 s [] []) := by
  rw [parse_units hr (by omega)]
  obtain ⟨rs, h1, h2⟩ := units_back hv
  rw [h1]
  show Except.ok (Jv.mk 4 0 (encsP rs) [] []) = _
  rw [h2]
theorem units_range (s : Bs) : ∀ n ∈ unitsP s, 0 ≤ n ∧ n ≤ 65535 := by
  intro n hn
  unfold unitsP at hn
  rw [List.mem_flatMap] at hn
  obtain ⟨r, hr, hn⟩ := hn
  have := runes_ok _ s (Nat.le_refl _) r hr
  unfold unitsR at hn
  split at hn
  · simp only [List.mem_cons, List.not_mem_nil, or_false] at hn
    rcases hn with rfl | rfl <;> omega
  · simp only [List.mem_singleton] at hn
    subst hn; omega
theorem quoteU_len (l : List Int) : (quoteU l).length = 6 * l.length + 2 := by
  unfold quoteU
  rw [List.length_cons, List.length_append, unitH_len]
  rfl

set_option maxRecDepth 100000 in
set_option maxHeartbeats 6400000 in
theorem units_walk {B : Nat} (s : Bs) (l : List Int) (va : Option Addr) (vc : Nat) (w : World) (hx : Cx B w) (hsl : s.length ≤ 1048576) (hll : l.length ≤ 1048576) (hin : InMem (All w) w (.slice va l.length vc) l.length (l.map (Value.int .i64)))
    (hP : ∀ u (t : Bs), Fr NoB w u → t.length ≤ 1048576 → Calls Tryz.prog 17 #[.string ⟨t.toArray⟩] u (ParO (parseP t) u)) (hFx : ∀ u, Fr NoB w u → Calls Tryz.prog 12 #[] u fun e w' => e = .returned (.bool true) ∧ Fr NoB u w') :
    Calls Tryz.prog 11 #[.string ⟨s.toArray⟩, .slice va l.length vc] w fun e w' => e = .returned (.bool true) ∧ Fr NoB w w' := by
  have HP := Lib.hid hP
  have HFx := Lib.hid hFx
  have HIn := Lib.hid hin
  have HL : Hid (∀ u, Fr NoB w u → InMem (All u) u (.slice va l.length vc) l.length (l.map (Value.int .i64))) := Lib.hid (fun u f => (hin.fr (fun g hg => f.block g hg (fun e => e))).mono (fun g hg => Nat.lt_of_lt_of_le hg f.size))
  clear hP hFx hin
  go_enter Tryz.func11, Tryz.ntmps11
  go_upto_region 5 with (first | (go_at_call 12; ((with_reducible refine (HFx.out _ (Fr.refl _ _)).mono ?_); rintro e u1 ⟨rfl, f1⟩)) | (go_at_call 29; ((with_reducible refine (units_all s _ (hx.fr0 f1) hsl).mono ?_); rintro e u2 ⟨U, ua, uc, k, rfl, hU, f2, hk⟩)))
  have F2 := f1.trans f2
  obtain ⟨y, hy⟩ : ∃ y, y = (decide (k = 0) && decide (U.length < 10000)) := ⟨_, rfl⟩
  have HY := Lib.hid hy
  clear hy
  go_cut [28] (fun v wx => v = .bool y ∧ u2 = wx)
  case first =>
    rcases hk with ⟨rfl, HK⟩ | rfl
    · by_cases hlt : U.length < 10000
      · have k1 : (U.length : Int) < 10000 := by omega
        go_wp2_with fail
        go_meet
        exact ⟨by rw [HY.out]; simp [hlt], rfl⟩
      · have k1 : ¬ (U.length : Int) < 10000 := by omega
        go_wp2_with fail
        go_meet
        exact ⟨by rw [HY.out]; simp [hlt], rfl⟩
    · go_wp2_with fail
      go_meet
      exact ⟨by rw [HY.out]; simp, rfl⟩
  case rest =>
    obtain ⟨rfl, rfl⟩ := hcut
    go_upto_if 28 with fail
    go_cut [] (fun wx => Fr NoB w wx)
    case first =>
      cases y with
      | false =>
        go_wp2_with fail
        go_meet
        exact F2
      | true =>
        have hyt := HY.out.symm
        simp only [Bool.and_eq_true, decide_eq_true_eq] at hyt
        obtain ⟨hk0, hlt⟩ := hyt
        rcases hk with ⟨hz, HK⟩ | h12
        · clear hz hk0
          obtain ⟨hv, rfl⟩ := HK.out
          have hrg := units_range s
          have HQ := Lib.hid (quotes_any (All u2) (unitsP s) _ u2 (fun _ h => h) hU hrg (by omega))
          have HPa := Lib.hid (units_parse hv hlt hrg)
          have hql := quoteU_len (unitsP s)
          generalize quoteU (unitsP s) = q at *
          generalize unitsP s = U at *
          clear HK hU hrg
          have hE : errP (parseP q) = 0 := by rw [HPa.out]; rfl
          go_upto_region 7 with (first | (go_at_call 27; ((with_reducible refine HQ.out.mono ?_); rintro e u3 ⟨rfl, f3⟩)) | (go_at_call 17; ((with_reducible refine (HP.out _ q (F2.trans f3) (by omega)).mono ?_); rintro e u4 ⟨x1, rfl, h1, f4⟩; rw [HPa.out] at h1; obtain ⟨lv, kv, rfl, o1⟩ := text_at_v h1; have n1 := Blk.new u4 25 zj)) | (refine wpList_store_row rfl 25 _ _ rfl u4.heap.size #[.int .i64 4, .int .i64 0, .string ⟨s.toArray⟩, lv, kv] rfl rfl 25 zj n1 size_json rfl o1 ?_))
          obtain ⟨p1, b1⟩ := put_row u4 (.int .i64 4) (.int .i64 0) (.string ⟨s.toArray⟩) lv kv
          have F5 := ((F2.trans f3).trans f4).trans p1
          generalize (u4.alloc (.cells zj 25)).setRow u4.heap.size #[.int .i64 4, .int .i64 0, .string ⟨s.toArray⟩, lv, kv] = U1 at *
          obtain ⟨c10, c11, c12, c13, c14⟩ := b1.five
          clear n1 h1
          go_wp2_with fail
          go_meet
          exact F5
        · omega
    case rest =>
      have Fc : Fr NoB w wc := hcut
      go_wp2_with fail
      go_loopw [10] (fun v wr => ∃ m : Nat, m ≤ l.length ∧ v = .int .i64 m ∧ Fr NoB w wr ∧ Hid (∀ n ∈ l.take m, 0 ≤ n ∧ n ≤ 65535)) (fun v _ => l.length - (intOf v).toNat)
      case atStart => exact ⟨0, Nat.zero_le _, rfl, Fc, Lib.hid (by simp)⟩
      case round =>
        obtain ⟨m, hm, rfl, hf, HR⟩ := hrel
        by_cases hlt : m < l.length
        · have k1 : (0 : Int) ≤ m := by omega
          have k2 : (m : Int) < l.length := by omega
          obtain ⟨g, o, rfl, hcell⟩ := HIn.out.at_ hf (by omega)
          have d0 : wr.cell? ⟨g, o + m, none⟩ = some (.int .i64 l[m]) := hcell m _ (by simp [hlt])
          have HT : Hid (l.take (m + 1) = l.take m ++ [l[m]]) := Lib.hid (List.take_succ_eq_append_getElem hlt)
          clear hcell
          generalize l[m] = n at *
          by_cases h0 : n < 0
          · go_wp2_with fail
            go_ret
            exact ⟨rfl, hf⟩
          · by_cases h1 : 65535 < n
            · go_wp2_with fail
              go_ret
              exact ⟨rfl, hf⟩
            · go_wp2_with fail
              go_roundw
              case rel => exact ⟨m + 1, by omega, by simp, hf, Lib.hid (fun x hx => by
                rw [HT.out, List.mem_append] at hx
                rcases hx with hx | hx
                · exact HR.out x hx
                · rw [List.mem_singleton] at hx; subst hx; omega)⟩
              case measure => simp [intOf]; omega
        · obtain rfl : m = l.length := by omega
          rw [List.take_length] at HR
          by_cases hbig : 10000 < l.length
          · have k1 : (10000 : Int) < l.length := by omega
            go_wp2_with fail
            go_ret
            exact ⟨rfl, hf⟩
          · have k1 : ¬ (10000 : Int) < l.length := by omega
            have HFU := Lib.hid (fromU_any l _ wr (hx.fr0 hf) hll (HL.out _ hf))
            have HQ := Lib.hid (fun u (f : Fr NoB w u) => quotes_any (All u) l _ u (fun _ h => h) (HL.out u f) HR.out (by omega))
            have HPu := Lib.hid (parse_units HR.out (by omega))
            have hql := quoteU_len l
            generalize quoteU l = q at *
            go_upto_region 17 with (go_at_call 30; ((with_reducible refine HFU.out.mono ?_); rintro e u2 ⟨t, k, rfl, f2, hk⟩))
            rcases hk with ⟨rfl, HJ⟩ | ⟨hk, HJ⟩
            · have HPa : Hid (parseP q = .ok (.mk 4 0 t [] [])) := Lib.hid (by
                obtain ⟨rs, h1, h2⟩ := HJ.out
                rw [HPu.out, h1, h2])
              have hE : errP (parseP q) = 0 := by rw [HPa.out]; rfl
              go_upto_region 18 with (first | (go_at_call 27; ((with_reducible refine (HQ.out _ (hf.trans f2)).mono ?_); rintro e u3 ⟨rfl, f3⟩)) | (go_at_call 17; ((with_reducible refine (HP.out _ q ((hf.trans f2).trans f3) (by omega)).mono ?_); rintro e u4 ⟨x1, rfl, h1, f4⟩; rw [HPa.out] at h1; obtain ⟨lv, kv, rfl, o1⟩ := text_at_v h1; have n1 := Blk.new u4 25 zj)) | (refine wpList_store_row rfl 25 _ _ rfl u4.heap.size #[.int .i64 4, .int .i64 0, .string ⟨t.toArray⟩, lv, kv] rfl rfl 25 zj n1 size_json rfl o1 ?_))
              obtain ⟨p1, b1⟩ := put_row u4 (.int .i64 4) (.int .i64 0) (.string ⟨t.toArray⟩) lv kv
              have F5 := (((hf.trans f2).trans f3).trans f4).trans p1
              generalize (u4.alloc (.cells zj 25)).setRow u4.heap.size #[.int .i64 4, .int .i64 0, .string ⟨t.toArray⟩, lv, kv] = U1 at *
              obtain ⟨c10, c11, c12, c13, c14⟩ := b1.five
              clear n1 h1
              go_wp2_with fail
              go_ret
              exact ⟨rfl, F5⟩
            · have HPa : Hid (parseP q = .error 90) := Lib.hid (by rw [HPu.out, HJ.out])
              have hE : errP (parseP q) = 90 := by rw [HPa.out]; rfl
              have hk0 : (k != 0) = true := by rcases hk with rfl | rfl <;> rfl
              go_upto_region 18 with (first | (go_at_call 27; ((with_reducible refine (HQ.out _ (hf.trans f2)).mono ?_); rintro e u3 ⟨rfl, f3⟩)) | (go_at_call 17; ((with_reducible refine (HP.out _ q ((hf.trans f2).trans f3) (by omega)).mono ?_); rintro e u4 ⟨x1, rfl, h1, f4⟩; rw [HPa.out] at h1; obtain ⟨x10, x11, x12, x13, x14, rfl, o1⟩ := h1.form; have n1 := Blk.new u4 25 zj)) | (refine wpList_store_row rfl 25 _ _ rfl u4.heap.size #[x10, x11, x12, x13, x14] rfl rfl 25 zj n1 size_json rfl o1 ?_))
              obtain ⟨p1, b1⟩ := put_row u4 x10 x11 x12 x13 x14
              have F5 := (((hf.trans f2).trans f3).trans f4).trans p1
              generalize (u4.alloc (.cells zj 25)).setRow u4.heap.size #[x10, x11, x12, x13, x14] = U1 at *
              go_wp2_with fail
              go_ret
              exact ⟨rfl, F5⟩
end Go.Proofs.YteeijmfnjcddmaaGreatDoor
