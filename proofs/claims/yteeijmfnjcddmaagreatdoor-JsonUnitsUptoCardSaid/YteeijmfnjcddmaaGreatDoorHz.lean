/- JsonUnits' own function: a text, written by its units alone. -/
import Derived.Test.YteeijmfnjcddmaaGreatDoorHx
import Derived.Test.YteeijmfnjcddmaaGreatDoorQt
import Derived.Test.YteeijmfnjcddmaaGreatDoorDk
import Derived.Deep.RegionLaw
import Derived.Laws.Bits128
namespace Go.Proofs.YteeijmfnjcddmaaGreatDoor
open Go.RowKit

/-- append(b, s...) of a text, in a region that draws its order. -/
theorem step_br_str {ops : Array Oper} {o : Oper} {a : Act} {K : Act → World → Prop} {Q : Exit → Act → World → Prop} {E : Prop} {w : World} (hgd : o.guard = none) (sl x : Operand)
    (ho : o.op = .call { callee := .builtin .append, args := #[sl, x], argTypes := #[46, 9] }) (lo : Nat) (v : Value) (s : Bs) (hs : a.eval sl = v) (hown : BR lo w v s) (t : Bs) (hx : a.eval x = .string ⟨t.toArray⟩)
    (hsz : s.length + t.length ≤ 140737488355328) (hlo : lo ≤ w.heap.size) (h : ∀ v' w', BR lo w' v' (s ++ t) → w.grownBy w' v.ownBlock → K (a.put o.dst v') w') :
    if Region.wanted o (yielded ops a.tmps) = true then Oper.wp Tryz.prog o a w K Q else E := by
  have hw : Region.wanted o (yielded ops a.tmps) = true := by simp [Region.wanted, hgd]
  rw [if_pos hw]
  obtain ⟨i0, hi0, hz0, hz1, hz2⟩ := info_parts info_byteD
  have hts : (⟨t.toArray⟩ : ByteArray).size = t.length := by show t.toArray.size = _; simp
  have hsc : Lib.strCells ⟨t.toArray⟩ = bC t := rfl
  obtain ⟨v', w', hr, h2, h3, _⟩ := Lib.run_append_own_string (P := Tryz.prog) w lo 46 9 o.type 5 i0 Tryz.underlying46 Tryz.underlying9 hi0 hz0 hz1 hz2 v s.length (bC s) hown ⟨t.toArray⟩ (by rw [hts]; unfold maxLen; omega) (by rw [hts]; exact hsz) hlo
  unfold Oper.wp execOp
  simp only [ho, resolve, invoke, builtin, Sem.run_bind, Sem.run_pure, Result.andThen_ok, List.map_toArray, List.map_cons, List.map_nil, hs, hx, hr]
  refine h _ _ ?_ h3
  unfold BR
  rw [hts, hsc] at h2
  simpa using h2
theorem i64_and255 (n : Int) : bits .and .i64 n 255 = n % 256 := by
  have h255 : (BitVec.ofInt 64 255).toNat = 2 ^ 8 - 1 := by decide
  have key : (BitVec.ofInt 64 n &&& BitVec.ofInt 64 255).toNat = (n % ((2 ^ 64 : Nat) : Int)).toNat % 2 ^ 8 := by
    rw [BitVec.toNat_and, BitVec.toNat_ofInt, h255, Nat.and_two_pow_sub_one_eq_mod]
  show IntKind.i64.wrap ((BitVec.ofInt 64 n &&& BitVec.ofInt 64 255).toNat : Nat) = n % 256
  rw [key, IntKind.wrap_i64]
  omega
theorem hex_unit {n : Int} {b1 b2 : UInt8} (h1 : (b1.toNat : Int) = n / 256) (h2 : (b2.toNat : Int) = n % 256) (h0 : 0 ≤ n) : [92, 117] ++ (hexC b1 ++ hexC b2) = unitH n := by
  have e1 : b1.toNat / 16 = n.toNat / 4096 % 16 := by have := b1.toNat_lt; omega
  have e2 : b1.toNat % 16 = n.toNat / 256 % 16 := by omega
  have e3 : b2.toNat / 16 = n.toNat / 16 % 16 := by omega
  have e4 : b2.toNat % 16 = n.toNat % 16 := by omega
  simp [hexC, unitH, e1, e2, e3, e4]
theorem unitH_take (l : List Int) (m : Nat) (h : m < l.length) : (l.take (m + 1)).flatMap unitH = (l.take m).flatMap unitH ++ unitH l[m] := by
  rw [List.take_succ_eq_append_getElem h, List.flatMap_append]; simp
theorem conv_two (u : World) (N : Nat) (b c : UInt8) (h0 : u.cell? ⟨N, 0, none⟩ = some (.int .u8 (b.toNat : Int))) (h1 : u.cell? ⟨N, 1, none⟩ = some (.int .u8 (c.toNat : Int))) : (convert 46 9 (.slice (some ⟨N, 0, none⟩) 2 2)).run Tryz.prog u = .ok (.string ⟨[b, c].toArray⟩) u :=
  run_convert_bytes_back (P := Tryz.prog) u 46 9 5 ⟨N, 0, none⟩ 2 [b, c] Tryz.underlying46 Tryz.underlying5 Tryz.underlying9 (fun j hj => by
    have : j = 0 ∨ j = 1 := by simp at hj; omega
    rw [add_at, Nat.zero_add]
    rcases this with rfl | rfl
    · exact h0
    · exact h1)
set_option maxRecDepth 100000 in
set_option maxHeartbeats 3200000 in
theorem quotes_any (S : Nat → Prop) (l : List Int) (v : Value) (w : World) (hS : ∀ g, S g → g < w.heap.size) (hin : InMem S w v l.length (l.map (Value.int .i64))) (hl : ∀ n ∈ l, 0 ≤ n ∧ n ≤ 65535) (hk : l.length ≤ 10000) :
    Calls Tryz.prog 27 #[v] w fun e w' => e = .returned (.string ⟨(quoteU l).toArray⟩) ∧ Fr NoB w w' := by
  obtain ⟨va, vc, rfl⟩ := hin.sl
  have HIn := Lib.hid hin
  clear hin
  have f1 : Fr NoB w (w.alloc (.cells #[.int .u8 34] 5)) := (Fr.refl _ _).alloc _
  have own0 : BR w.heap.size (w.alloc (.cells #[.int .u8 34] 5)) (.slice (some ⟨w.heap.size, 0, none⟩) 1 1) [34] := BR.first w #[.int .u8 34] [34] rfl (by unfold maxLen; simp)
  go_enter Tryz.func27, Tryz.ntmps27
  go_wp2_with fail
  go_loopw [3, 4] (fun v3 v4 wr => ∃ m : Nat, m ≤ l.length ∧ v4 = .int .i64 m ∧ BR w.heap.size wr v3 (34 :: (l.take m).flatMap unitH) ∧ Fr NoB w wr) (fun _ v4 _ => l.length - (intOf v4).toNat)
  case atStart => exact ⟨0, Nat.zero_le _, rfl, own0, f1⟩
  case round =>
    obtain ⟨m, hm, rfl, hown, hf⟩ := hrel
    have hsz := hf.size
    have hle := unitH_len (l.take m)
    rw [List.length_take, Nat.min_eq_left hm] at hle
    by_cases hlt : m < l.length
    · have k1 : (0 : Int) ≤ m := by omega
      have k2 : (m : Int) < l.length := by omega
      have HT := Lib.hid (unitH_take l m hlt)
      have hln := hl l[m] (List.getElem_mem hlt)
      generalize hn : l[m] = n at *
      generalize (l.take m).flatMap unitH = A at *
      have fa : Fr NoB wr (wr.alloc (.cells #[.int .u8 92, .int .u8 117] 5)) := (Fr.refl _ _).alloc _
      have ownA := hown.fr fa
      go_upto_region 6 with (at_builtin; go_loud (refine br_row rfl _ _ rfl w.heap.size u3 _ rfl ownA wr.heap.size 2 2 [92, 117] rfl rfl (new_cells wr #[.int .u8 92, .int .u8 117] [92, 117] rfl) (by simp; omega) (by simp; omega) ?_; intro v4 w4 hown4 hgr))
      have hf4 : Fr NoB w w4 := ownA.grown (hf.trans fa) hgr (Nat.le_refl _)
      obtain ⟨g, o, rfl, hcell⟩ := HIn.out.inS hS hf4 (by omega)
      have d0 : w4.cell? ⟨g, o + m, none⟩ = some (.int .i64 n) := hcell m _ (by simp [hlt, hn])
      clear hcell
      obtain ⟨b1, hb1⟩ : ∃ b : UInt8, (b.toNat : Int) = n / 256 := ⟨(n.toNat / 256).toUInt8, by rw [u8n (by omega)]; omega⟩
      obtain ⟨b2, hb2⟩ : ∃ b : UInt8, (b.toNat : Int) = n % 256 := ⟨(n.toNat % 256).toUInt8, by rw [u8n (by omega)]; omega⟩
      have hb1l := b1.toNat_lt
      have hb2l := b2.toNat_lt
      have e1 : bits .and .i64 (n / 256) 255 = (b1.toNat : Int) := by rw [i64_and255]; omega
      have e2 : bits .and .i64 n 255 = (b2.toNat : Int) := by rw [i64_and255]; omega
      have e3 : IntKind.u8.wrap (b1.toNat : Int) = (b1.toNat : Int) := IntWalk.u8_in _ (by omega)
      have e4 : IntKind.u8.wrap (b2.toNat : Int) = (b2.toNat : Int) := IntWalk.u8_in _ (by omega)
      have HX := Lib.hid (hex_unit hb1 hb2 hln.1)
      have hcv1 : (convert 46 9 (.slice (some ⟨w4.heap.size, 0, none⟩) 2 2)).run Tryz.prog (w4.alloc (.cells #[.int .u8 (b1.toNat : Int), .int .u8 (b2.toNat : Int)] 5)).drew = .ok (.string ⟨[b1, b2].toArray⟩) (w4.alloc (.cells #[.int .u8 (b1.toNat : Int), .int .u8 (b2.toNat : Int)] 5)).drew := conv_two _ _ b1 b2 (by show (w4.alloc _).cell? _ = _; rw [World.cell?_alloc_mark]; rfl) (by show (w4.alloc _).cell? _ = _; rw [World.cell?_alloc_mark]; rfl)
      have fC : Fr NoB w4 (w4.alloc (.cells #[.int .u8 (b1.toNat : Int), .int .u8 (b2.toNat : Int)] 5)).drew := ((Fr.refl NoB w4).alloc _).drew
      have ownC := hown4.fr fC
      clear hb1 hb2 hb1l hb2l
      go_region_law (first | (refine step_br_str (by rfl) _ _ (by rfl) w.heap.size v4 _ (by rfl) (ownC.fr f5) (hexC b1 ++ hexC b2) (by rfl) (by simp [hexC]; omega) (by omega) ?_; intro v6 w6 hown6 hgr6) | (go_simp; go_at_call 28; ((with_reducible refine (hex_any [b1, b2] _ (by simp)).mono ?_); rintro e w5 ⟨rfl, f5⟩; have hs5 := f5.size; have hsC := fC.size; have hs4 := hf4.size)))
      all_goals
        go_wp2_with fail
        go_roundw
        case rel => exact ⟨m + 1, by omega, by simp, by rw [HT.out, ← HX.out]; simpa using hown6, (ownC.fr f5).grown ((hf4.trans fC).trans f5) hgr6 (Nat.le_refl _)⟩
        case measure => simp [intOf]; omega
    · obtain rfl : m = l.length := by omega
      rw [List.take_length] at hown
      have HQ : Hid (quoteU l = 34 :: l.flatMap unitH ++ [34]) := Lib.hid rfl
      have fa : Fr NoB wr (wr.alloc (.cells #[.int .u8 34] 5)) := (Fr.refl _ _).alloc _
      have ownA := hown.fr fa
      go_wp2_with (at_builtin; go_loud (refine br_row rfl _ _ rfl w.heap.size u3 _ rfl ownA wr.heap.size 1 1 [34] rfl rfl (new_cells wr #[.int .u8 34] [34] rfl) (by have := unitH_len l; simp only [List.length_cons, List.length_nil, this]; omega) (by simp; omega) ?_; intro v4 w4 hown4 hgr; rw [← HQ.out] at hown4; have hcv := hown4.conv))
      go_ret
      exact ⟨rfl, ownA.grown (hf.trans fa) hgr (Nat.le_refl _)⟩
end Go.Proofs.YteeijmfnjcddmaaGreatDoor
