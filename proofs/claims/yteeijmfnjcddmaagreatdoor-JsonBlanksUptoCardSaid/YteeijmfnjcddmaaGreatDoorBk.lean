/- JsonBlanks: the walk. -/
import Derived.Test.YteeijmfnjcddmaaGreatDoorPx
import Derived.Test.YteeijmfnjcddmaaGreatDoorPb
namespace Go.Proofs.YteeijmfnjcddmaaGreatDoor
open Go.RowKit

theorem ba_cat (a b : Bs) : (⟨a.toArray⟩ : ByteArray) ++ ⟨b.toArray⟩ = ⟨(a ++ b).toArray⟩ := by
  apply ByteArray.ext
  simp [ByteArray.data_append]

theorem bl_at (m : Nat) : ∃ c, c ∈ blankCs ∧ ({ data := #[32, 9, 10, 13] } : ByteArray).extract (m % 4) (m % 4 + 1) = ⟨[c].toArray⟩ := by
  have h : m % 4 = 0 ∨ m % 4 = 1 ∨ m % 4 = 2 ∨ m % 4 = 3 := by omega
  rcases h with h | h | h | h <;> rw [h]
  · exact ⟨32, by decide, rfl⟩
  · exact ⟨9, by decide, rfl⟩
  · exact ⟨10, by decide, rfl⟩
  · exact ⟨13, by decide, rfl⟩
theorem bl_cons {c : UInt8} {a : Bs} (hc : c ∈ blankCs) (h : AllBl a) : AllBl (c :: a) := fun x hx => by
  rcases List.mem_cons.1 hx with rfl | hx
  · exact hc
  · exact h x hx
theorem bl_snoc {c : UInt8} {a : Bs} (hc : c ∈ blankCs) (h : AllBl a) : AllBl (a ++ [c]) := fun x hx => by
  rcases List.mem_append.1 hx with hx | hx
  · exact h x hx
  · rw [List.mem_singleton] at hx; subst hx; exact hc

set_option maxRecDepth 100000 in
set_option maxHeartbeats 6400000 in
theorem blanks_walk (s : Bs) (n1 n2 : Int) (w : World) (hs : s.length ≤ 1048576)
    (hP : ∀ u (t : Bs), Fr NoB w u → t.length ≤ 1048576 → Calls Tryz.prog 17 #[.string ⟨t.toArray⟩] u (ParO (parseP t) u)) (hFx : ∀ u, Fr NoB w u → Calls Tryz.prog 12 #[] u fun e w' => e = .returned (.bool true) ∧ Fr NoB u w') :
    Calls Tryz.prog 9 #[.string ⟨s.toArray⟩, .int .i64 n1, .int .i64 n2] w fun e w' => e = .returned (.bool true) ∧ Fr NoB w w' := by
  have HP := Lib.hid hP
  have HFx := Lib.hid hFx
  clear hP hFx
  have hsz : (⟨s.toArray⟩ : ByteArray).size = s.length := rfl
  by_cases hok : 0 ≤ n1 ∧ 0 ≤ n2 ∧ n1 ≤ 100 ∧ n2 ≤ 100 ∧ s.length ≤ 65000
  · obtain ⟨o1, o2, o3, o4, o5⟩ := hok
    have i1 : ¬ n1 < 0 := by omega
    have i2 : ¬ n2 < 0 := by omega
    have i3 : ¬ 100 < n1 := by omega
    have i4 : ¬ 100 < n2 := by omega
    have i5 : ¬ (65000 : Int) < (s.length : Int) := by omega
    obtain ⟨a1, rfl⟩ : ∃ a : Nat, n1 = a := ⟨n1.toNat, by omega⟩
    obtain ⟨a2, rfl⟩ : ∃ a : Nat, n2 = a := ⟨n2.toNat, by omega⟩
    go_enter Tryz.func9, Tryz.ntmps9
    go_wp2_with (go_at_call 12; ((with_reducible refine (HFx.out _ (Fr.refl _ _)).mono ?_); rintro e u1 ⟨rfl, f1⟩))
    go_loopw [7, 8] (fun v7 v8 wr => ∃ (m : Nat) (a : Bs), m ≤ a1 ∧ v8 = .int .i64 m ∧ v7 = .string ⟨(a ++ s).toArray⟩ ∧ wr = u1 ∧ AllBl a ∧ a.length = m) (fun _ v8 _ => a1 - (intOf v8).toNat)
    case atStart => exact ⟨0, [], Nat.zero_le _, rfl, rfl, rfl, by intro c hc; simp at hc, rfl⟩
    case round =>
      obtain ⟨m, a, hm, rfl, rfl, rfl, hab, hal⟩ := hrel
      by_cases hlt : m < a1
      · have j1 : (m : Int) < a1 := by omega
        obtain ⟨c, hc, hce⟩ := bl_at m
        go_wp2_with fail
        go_roundw
        case rel => exact ⟨m + 1, c :: a, by omega, by simp, congrArg Value.string (ba_cat [c] (a ++ s)), trivial, bl_cons hc hab, by simp [hal]⟩
        case measure => simp [intOf]; omega
      · obtain rfl : m = a1 := by omega
        go_wp2_with fail
        go_loopw [7, 9] (fun v7 v9 wr2 => ∃ (m2 : Nat) (b : Bs), m2 ≤ a2 ∧ v9 = .int .i64 m2 ∧ v7 = .string ⟨(a ++ s ++ b).toArray⟩ ∧ wr2 = wr ∧ AllBl b ∧ b.length = m2) (fun _ v9 _ => a2 - (intOf v9).toNat)
        case atStart => exact ⟨0, [], Nat.zero_le _, rfl, by rw [List.append_nil], rfl, by intro c hc; simp at hc, rfl⟩
        case round =>
          obtain ⟨m2, b, hm2, rfl, rfl, rfl, hbb, hbl⟩ := hrel
          by_cases hlt2 : m2 < a2
          · have j1 : (m2 : Int) < a2 := by omega
            obtain ⟨c, hc, hce⟩ := bl_at m2
            go_wp2_with fail
            go_roundw
            case rel => exact ⟨m2 + 1, b ++ [c], by omega, by simp, congrArg Value.string ((ba_cat (a ++ (s ++ b)) [c]).trans (by simp)), trivial, bl_snoc hc hbb, by simp [hbl]⟩
            case measure => simp [intOf]; omega
          · obtain rfl : m2 = a2 := by omega
            have hpp := parse_blanks hab hbb s (by omega)
            rw [List.append_assoc] at hpp
            have HP1 := Lib.hid (HP.out wr s f1 hs)
            have HP2 : Hid (∀ u, Fr NoB wr u → Calls Tryz.prog 17 #[.string ⟨(a ++ (s ++ b)).toArray⟩] u (ParO (parseP s) u)) := Lib.hid (fun u f => by
              have := HP.out u (a ++ (s ++ b)) (f1.trans f) (by simp only [List.length_append]; omega)
              rwa [hpp] at this)
            clear hpp hab hbb
            generalize parseP s = q at *
            go_upto_region 15 with (first | (go_at_call 17; ((with_reducible refine HP1.out.mono ?_); rintro e u2 ⟨x1, rfl, h1, f2⟩; obtain ⟨x10, x11, x12, x13, x14, rfl, o1⟩ := h1.form; have n1 := Blk.new u2 25 zj)) | (refine wpList_store_row rfl 25 _ _ rfl u2.heap.size #[x10, x11, x12, x13, x14] rfl rfl 25 zj n1 size_json rfl o1 ?_))
            obtain ⟨p1, b1⟩ := put_row u2 x10 x11 x12 x13 x14
            have F1 := f2.trans p1
            have R1 := h1.all p1
            generalize hU1 : (u2.alloc (.cells zj 25)).setRow u2.heap.size #[x10, x11, x12, x13, x14] = U1 at *
            clear n1 h1 HP1
            go_upto_region 16 with (first | (go_at_call 17; ((with_reducible refine (HP2.out _ F1).mono ?_); rintro e u3 ⟨x2, rfl, h2, f3⟩; obtain ⟨x20, x21, x22, x23, x24, rfl, o2⟩ := h2.form; have n2 := Blk.new u3 25 zj)) | (refine wpList_store_row rfl 25 _ _ rfl u3.heap.size #[x20, x21, x22, x23, x24] rfl rfl 25 zj n2 size_json rfl o2 ?_))
            obtain ⟨p2, b2⟩ := put_row u3 x20 x21 x22 x23 x24
            have F2 := f3.trans p2
            have R2 := h2.all p2
            have B1 := F2.blk b1 (fun e => e)
            have R1' := R1.all F2
            generalize hU2 : (u3.alloc (.cells zj 25)).setRow u3.heap.size #[x20, x21, x22, x23, x24] = U2 at *
            have HS := Lib.hid (same_any (valP q) _ _ U2 R1' R2)
            clear n2 h2 HP2 hU1 hU2 R1 R1' R2
            obtain ⟨c10, c11, c12, c13, c14⟩ := B1.five
            obtain ⟨c20, c21, c22, c23, c24⟩ := b2.five
            generalize errP q = eq at *
            go_wp2_with (go_at_call 19; ((with_reducible refine HS.out.mono ?_); rintro e u4 ⟨rfl, f4⟩))
            go_ret
            exact ⟨rfl, f1.trans (F1.trans (F2.trans f4))⟩
  · go_enter Tryz.func9, Tryz.ntmps9
    by_cases o1 : n1 < 0
    · go_wp2_with (go_at_call 12; ((with_reducible refine (HFx.out _ (Fr.refl _ _)).mono ?_); rintro e u1 ⟨rfl, f1⟩))
      go_ret
      exact ⟨rfl, f1⟩
    · by_cases o2 : n2 < 0
      · go_wp2_with (go_at_call 12; ((with_reducible refine (HFx.out _ (Fr.refl _ _)).mono ?_); rintro e u1 ⟨rfl, f1⟩))
        go_ret
        exact ⟨rfl, f1⟩
      · by_cases o3 : 100 < n1
        · go_wp2_with (go_at_call 12; ((with_reducible refine (HFx.out _ (Fr.refl _ _)).mono ?_); rintro e u1 ⟨rfl, f1⟩))
          go_ret
          exact ⟨rfl, f1⟩
        · by_cases o4 : 100 < n2
          · go_wp2_with (go_at_call 12; ((with_reducible refine (HFx.out _ (Fr.refl _ _)).mono ?_); rintro e u1 ⟨rfl, f1⟩))
            go_ret
            exact ⟨rfl, f1⟩
          · have o5 : (65000 : Int) < (s.length : Int) := by
              rcases Nat.lt_or_ge 65000 s.length with h | h
              · omega
              · exact absurd ⟨by omega, by omega, by omega, by omega, h⟩ hok
            go_wp2_with (go_at_call 12; ((with_reducible refine (HFx.out _ (Fr.refl _ _)).mono ?_); rintro e u1 ⟨rfl, f1⟩))
            go_ret
            exact ⟨rfl, f1⟩
end Go.Proofs.YteeijmfnjcddmaaGreatDoor
