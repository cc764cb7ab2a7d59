/- JsonBuilt: the walk. -/
import Derived.Test.YteeijmfnjcddmaaGreatDoorBa
namespace Go.Proofs.YteeijmfnjcddmaaGreatDoor
open Go.RowKit

/-- Every block that is there. -/
abbrev All (w : World) : Nat → Prop := fun g => g < w.heap.size
theorem RAt.all {w u : World} {j : Jv} {v : Value} (h : RAt (All w) w j v) (f : Fr NoB w u) : RAt (All u) u j v :=
  RAt.mono (fun _ hg => Nat.lt_of_lt_of_le hg f.size) j v (RAt.fr (fun g hg => f.block g hg (fun e => e)) j v h)
theorem text_len (j : Jv) : (textT j).1.length ≤ 65536 := by
  unfold textT
  split
  · split
    · simp
    · simp only; omega
  · simp
/-- Text, at a value of a size. -/
theorem text_at {B : Nat} (j : Jv) (v : Value) (w : World) (hx : Cx B w) (hat : RAt (All w) w j v) (hs : szJ j ≤ 8388608) :
    Calls Tryz.prog 15 #[v] w fun e w' => e = .returned (.tuple #[sV (textT j).1, .int .i64 ((textT j).2 : Int)]) ∧ Fr NoB w w' :=
  text_any (All w) j v w hx (fun _ h => h) hat (JSm_of j hs) (layP_lim j hs)
theorem two_at {w : World} {a b : Jv} {a0 a1 a2 a3 a4 b0 b1 b2 b3 b4 : Value} (g : Nat) (ha : RAt (All w) w a (.agg #[a0, a1, a2, a3, a4])) (hb : RAt (All w) w b (.agg #[b0, b1, b2, b3, b4])) (hg : Blk w g 25 #[a0, a1, a2, a3, a4, b0, b1, b2, b3, b4]) :
    RAt (All w) w (.mk 5 0 [] [a, b] []) (jV 5 0 [] (.slice (some ⟨g, 0, none⟩) 2 2) (.slice none 0 0)) := by
  simp only [RAt]
  refine ⟨_, _, rfl, by unfold IntOk; omega, by unfold IntOk; omega, by simp, ⟨Or.inl ⟨rfl, _, _, rfl⟩, by simp, by simp⟩, by unfold big; simp, [a0, a1, a2, a3, a4, b0, b1, b2, b3, b4], ?_, Or.inr ⟨g, 0, 2, rfl, hg.lt, ?_⟩⟩
  · simp only [RCells]
    exact ⟨_, _, _, _, _, _, rfl, ha, _, _, _, _, _, [], rfl, hb, rfl⟩
  · intro i x hxi
    rw [Nat.zero_add, hg.cell]
    simpa using hxi
theorem one_at {w : World} {a : Jv} {key : Bs} {a0 a1 a2 a3 a4 : Value} (g gk : Nat) (ha : RAt (All w) w a (.agg #[a0, a1, a2, a3, a4])) (hg : Blk w g 25 #[a0, a1, a2, a3, a4]) (hk : Blk w gk 9 #[.string ⟨key.toArray⟩]) (hl : key.length ≤ big) :
    RAt (All w) w (.mk 6 0 [] [a] [key]) (jV 6 0 [] (.slice (some ⟨g, 0, none⟩) 1 1) (.slice (some ⟨gk, 0, none⟩) 1 1)) := by
  simp only [RAt]
  refine ⟨_, _, rfl, by unfold IntOk; omega, by unfold IntOk; omega, by simp, ⟨Or.inr ⟨gk, 0, 1, rfl, hk.lt, ?_⟩, by unfold big; simp, by simpa using hl⟩, by unfold big; simp, [a0, a1, a2, a3, a4], ?_, Or.inr ⟨g, 0, 1, rfl, hg.lt, ?_⟩⟩
  · intro i x hxi
    rw [Nat.zero_add, hk.cell]
    simpa using hxi
  · simp only [RCells]
    exact ⟨_, _, _, _, _, [], rfl, ha, rfl⟩
  · intro i x hxi
    rw [Nat.zero_add, hg.cell]
    simpa using hxi

theorem ba_list (l : Bs) : (⟨l.toArray⟩ : ByteArray).toList = l := by rw [ByteArray.toList_eq]
theorem ba_app (a b : ByteArray) : (a ++ b).toList = a.toList ++ b.toList := by rw [ByteArray.toList_eq, ByteArray.toList_eq, ByteArray.toList_eq]; simp [ByteArray.data_append]
set_option maxRecDepth 100000 in
set_option maxHeartbeats 6400000 in
theorem built_walk {B : Nat} (a b : Jv) (key : Bs) (a0 a1 a2 a3 a4 b0 b1 b2 b3 b4 : Value) (w : World) (hx : Cx B w) (ha : RAt (All w) w a (.agg #[a0, a1, a2, a3, a4])) (hb : RAt (All w) w b (.agg #[b0, b1, b2, b3, b4])) (hs : szJ a + szJ b + key.length ≤ 1048576) :
    Calls Tryz.prog 10 #[.agg #[a0, a1, a2, a3, a4], .agg #[b0, b1, b2, b3, b4], .string ⟨key.toArray⟩] w fun e w' => e = .returned (.bool true) ∧ Fr NoB w w' := by
  have hkb : key.length ≤ big := by unfold big; omega
  have HTa : Hid (∀ u, Fr NoB w u → Calls Tryz.prog 15 #[.agg #[a0, a1, a2, a3, a4]] u fun e w' => e = .returned (.tuple #[sV (textT a).1, .int .i64 ((textT a).2 : Int)]) ∧ Fr NoB u w') := Lib.hid (fun u f => text_at a _ u (hx.fr0 f) (ha.all f) (by omega))
  have HTb : Hid (∀ u, Fr NoB w u → Calls Tryz.prog 15 #[.agg #[b0, b1, b2, b3, b4]] u fun e w' => e = .returned (.tuple #[sV (textT b).1, .int .i64 ((textT b).2 : Int)]) ∧ Fr NoB u w') := Lib.hid (fun u f => text_at b _ u (hx.fr0 f) (hb.all f) (by omega))
  have HTk : Hid (∀ u, Fr NoB w u → Calls Tryz.prog 15 #[.agg #[.int .i64 4, .int .i64 0, .string ⟨key.toArray⟩, .slice none 0 0, .slice none 0 0]] u fun e w' => e = .returned (.tuple #[sV (textT (.mk 4 0 key [] [])).1, .int .i64 ((textT (.mk 4 0 key [] [])).2 : Int)]) ∧ Fr NoB u w') := Lib.hid (fun u f => text_at (.mk 4 0 key [] []) _ u (hx.fr0 f) (jat_leaf _ _ 4 0 key (by unfold IntOk; omega) (by unfold IntOk; omega) hkb _ _ _ _) (by simp only [szJ, szL, szK]; omega))
  have HTl : Hid (∀ u g, Fr NoB w u → Blk u g 25 #[a0, a1, a2, a3, a4, b0, b1, b2, b3, b4] → Calls Tryz.prog 15 #[.agg #[.int .i64 5, .int .i64 0, .string ⟨#[]⟩, .slice (some ⟨g, 0, none⟩) 2 2, .slice none 0 0]] u fun e w' => e = .returned (.tuple #[sV (textT (.mk 5 0 [] [a, b] [])).1, .int .i64 ((textT (.mk 5 0 [] [a, b] [])).2 : Int)]) ∧ Fr NoB u w') := Lib.hid (fun u g f hg => text_at (.mk 5 0 [] [a, b] []) _ u (hx.fr0 f) (two_at g (ha.all f) (hb.all f) hg) (by simp only [szJ, szL, szK, List.length_nil]; omega))
  have HTo : Hid (∀ u g gk, Fr NoB w u → Blk u g 25 #[a0, a1, a2, a3, a4] → Blk u gk 9 #[.string ⟨key.toArray⟩] → Calls Tryz.prog 15 #[.agg #[.int .i64 6, .int .i64 0, .string ⟨#[]⟩, .slice (some ⟨g, 0, none⟩) 1 1, .slice (some ⟨gk, 0, none⟩) 1 1]] u fun e w' => e = .returned (.tuple #[sV (textT (.mk 6 0 [] [a] [key])).1, .int .i64 ((textT (.mk 6 0 [] [a] [key])).2 : Int)]) ∧ Fr NoB u w') := Lib.hid (fun u g gk f hg hgk => text_at (.mk 6 0 [] [a] [key]) _ u (hx.fr0 f) (one_at g gk (ha.all f) hg hgk hkb) (by simp only [szJ, szL, szK, List.length_nil]; omega))
  have HFx : Hid (∀ u, Fr NoB w u → Calls Tryz.prog 12 #[] u fun e w' => e = .returned (.bool true) ∧ Fr NoB u w') := Lib.hid (fun u f => fixed_any u (hx.fr0 f))
  have HP := Lib.hid (built_plain a b key)
  clear ha hb hs hkb
  have la := text_len a
  have lb := text_len b
  have lk := text_len (.mk 4 0 key [] [])
  have f0 : Fr NoB w ((w.alloc (.cells #[a0, a1, a2, a3, a4] 25)).alloc (.cells #[b0, b1, b2, b3, b4] 25)) := ((Fr.refl _ _).alloc _).alloc _
  have gA : Blk ((w.alloc (.cells #[a0, a1, a2, a3, a4] 25)).alloc (.cells #[b0, b1, b2, b3, b4] 25)) w.heap.size 25 #[a0, a1, a2, a3, a4] := (Blk.new w 25 _).alloc _
  have gB : Blk ((w.alloc (.cells #[a0, a1, a2, a3, a4] 25)).alloc (.cells #[b0, b1, b2, b3, b4] 25)) (w.heap.size + 1) 25 #[b0, b1, b2, b3, b4] := by
    have := Blk.new (w.alloc (.cells #[a0, a1, a2, a3, a4] 25)) 25 #[b0, b1, b2, b3, b4]
    simpa using this
  generalize hW : (w.alloc (.cells #[a0, a1, a2, a3, a4] 25)).alloc (.cells #[b0, b1, b2, b3, b4] 25) = W at f0 gA gB
  have HW := Lib.hid hW
  clear hW
  generalize textT a = TA at *
  generalize textT b = TB at *
  generalize textT (.mk 4 0 key [] []) = TK at *
  generalize textT (.mk 5 0 [] [a, b] []) = TL at *
  generalize textT (.mk 6 0 [] [a] [key]) = TO at *
  obtain ⟨sa, ea⟩ := TA
  obtain ⟨sb, eb⟩ := TB
  obtain ⟨sk, ek⟩ := TK
  obtain ⟨sl, el⟩ := TL
  obtain ⟨so, eo⟩ := TO
  simp only at HTa HTb HTk HTl HTo HP la lb lk
  go_enter Tryz.func10, Tryz.ntmps10
  go_upto_region 6 with (first | (rw [HW.out]; refine wpList_load_row rfl 25 _ rfl w.heap.size rfl 25 _ _ _ gA Tryz.underlying25 rfl size_json ?_) | (go_at_call 15; (first | ((with_reducible refine (HTa.out _ f0).mono ?_); rintro e u1 ⟨rfl, f1⟩; have F1 := f0.trans f1; have gB1 := f1.blk gB (fun e => e)) | ((with_reducible refine (HTb.out _ F1).mono ?_); rintro e u2 ⟨rfl, f2⟩; have F2 := F1.trans f2) | ((with_reducible refine (HTk.out _ F2).mono ?_); rintro e u3 ⟨rfl, f3⟩; have F3 := F2.trans f3))) | (refine wpList_load_row rfl 25 _ rfl (w.heap.size + 1) rfl 25 _ _ _ gB1 Tryz.underlying25 rfl size_json ?_) | (go_at_call 12; ((with_reducible refine (HFx.out _ F3).mono ?_); rintro e u4 ⟨rfl, f4⟩; have F4 := F3.trans f4)))
  have gA4 := (((f1.trans f2).trans f3).trans f4).blk gA (fun e => e)
  have gB4 := (((f1.trans f2).trans f3).trans f4).blk gB (fun e => e)
  by_cases hA : ea = 0
  · subst hA
    by_cases hB : eb = 0
    · subst hB
      by_cases hK : ek = 0
      · subst hK
        by_cases hS : sa.length + sb.length + sk.length ≤ 60000
        · have hSi : ¬ (60000 : Int) < (sa.length : Int) + sb.length + sk.length := by omega
          have hpl := HP.out rfl rfl rfl hS
          go_upto_region 9 with (first | (rw [HW.out]; refine wpList_load_row rfl 25 _ rfl w.heap.size rfl 25 _ _ _ gA4 Tryz.underlying25 rfl size_json ?_) | (refine wpList_load_row rfl 25 _ rfl w.heap.size rfl 25 _ _ _ gA4 Tryz.underlying25 rfl size_json ?_) | (refine wpList_load_row rfl 25 _ rfl (w.heap.size + 1) rfl 25 _ _ _ gB4 Tryz.underlying25 rfl size_json ?_) | (go_at_call 15; ((refine (HTl.out _ u4.heap.size (F4.alloc _) (Blk.new u4 25 _)).mono ?_); rintro e u5 ⟨rfl, f5⟩)))
          have F5 := (F4.alloc (.cells #[a0, a1, a2, a3, a4, b0, b1, b2, b3, b4] 25)).trans f5
          have gA5 := f5.blk (gA4.alloc (.cells #[a0, a1, a2, a3, a4, b0, b1, b2, b3, b4] 25)) (fun e => e)
          have g6 : Blk (u5.alloc (.cells #[.string ⟨key.toArray⟩] 9)) u5.heap.size 9 #[.string ⟨key.toArray⟩] := Blk.new _ _ _
          have gA6 := gA5.alloc (.cells #[.string ⟨key.toArray⟩] 9)
          go_upto_region 10 with (first | (refine wpList_load_row rfl 25 _ rfl w.heap.size rfl 25 _ _ _ gA6 Tryz.underlying25 rfl size_json ?_) | (go_at_call 15; ((refine (HTo.out _ (u5.heap.size + 1) u5.heap.size ((F5.alloc _).alloc _) (by have := Blk.new (u5.alloc (.cells #[.string ⟨key.toArray⟩] 9)) 25 #[a0, a1, a2, a3, a4]; simpa using this) (g6.alloc _)).mono ?_); rintro e u6 ⟨rfl, f6⟩)))
          have F6 := ((F5.alloc (.cells #[.string ⟨key.toArray⟩] 9)).alloc (.cells #[a0, a1, a2, a3, a4] 25)).trans f6
          clear gA5 gA6 g6
          obtain ⟨hl, ho⟩ := hpl
          rcases hl with hl | hl
          · injection hl with h1 h2
            subst h1 h2
            go_wp2_with fail
            go_ret
            exact ⟨rfl, F6⟩
          · rcases ho with ho | ho
            · injection hl with h1 h2
              injection ho with h3 h4
              subst h2 h3 h4
              clear h1
              cases sl with
              | nil =>
                go_wp2_with fail
                go_ret
                exact ⟨rfl, F6⟩
              | cons c r =>
                go_wp2_with fail
                go_ret
                exact ⟨rfl, F6⟩
            · injection hl with h1 h2
              injection ho with h3 h4
              subst h2 h4
              have q1 : (({ data := #[91] } : ByteArray) ++ { data := List.toArray sa } ++ { data := #[44] } ++ { data := List.toArray sb } ++ { data := #[93] }).toList = sl := by
                rw [h1, ba_app, ba_app, ba_app, ba_app, ba_list sa, ba_list sb, ba_list [91], ba_list [44], ba_list [93]]; simp
              have q3 : (({ data := #[123] } : ByteArray) ++ { data := List.toArray sk } ++ { data := #[58] } ++ { data := List.toArray sa } ++ { data := #[125] }).toList = so := by
                rw [h3, ba_app, ba_app, ba_app, ba_app, ba_list sk, ba_list sa, ba_list [123], ba_list [58], ba_list [125]]; simp
              clear h1 h3
              go_wp2_with fail
              go_ret
              exact ⟨rfl, F6⟩
        · have hSi : (60000 : Int) < (sa.length : Int) + sb.length + sk.length := by omega
          go_wp2_with fail
          go_ret
          exact ⟨rfl, F4⟩
      · have hi : ¬ (ek : Int) = 0 := by omega
        go_wp2_with fail
        go_ret
        exact ⟨rfl, F4⟩
    · have hi : ¬ (eb : Int) = 0 := by omega
      go_wp2_with fail
      go_ret
      exact ⟨rfl, F4⟩
  · have hi : ¬ (ea : Int) = 0 := by omega
    go_wp2_with fail
    go_ret
    exact ⟨rfl, F4⟩
end Go.Proofs.YteeijmfnjcddmaaGreatDoor
