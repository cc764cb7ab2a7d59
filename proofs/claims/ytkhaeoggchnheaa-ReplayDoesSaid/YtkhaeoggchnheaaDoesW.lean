/- ReplayDoes: the walk, the round. -/
import Derived.Test.YtkhaeoggchnheaaDoes
namespace Go.Proofs.Ytkhaeoggchnheaa
open Go.RowKit Go.Maps Go.WideMaps

theorem Try.infoX : (Try.prog.info? 23).map (fun i => (i.zero, i.size, i.bytes)) = some (some (.pointer none), 1, 8) := by kernel_rfl
theorem Try.infoY : (Try.prog.info? 39).map (fun i => (i.zero, i.size, i.bytes)) = some (some (.pointer none), 1, 8) := by kernel_rfl

section
variable {w0 w : World} {room : Int} {ps : List Pr} {gx cx gy cy k : Nat}
theorem DInv.atx (h : DInv w0 w room ps gx cx gy cy k) {n : Nat} {p : Pr} (hn : ps[n]? = some p) : w.cell? ⟨gx, n, none⟩ = some (.pointer (some ⟨p.b, 0, none⟩)) := by
  rw [← radd0]
  exact h.xs.cells (g := gx) rfl n _ (by simp [hn])
theorem DInv.aty (h : DInv w0 w room ps gx cx gy cy k) {n : Nat} {p : Pr} (hn : ps[n]? = some p) : w.cell? ⟨gy, n, none⟩ = some (.pointer (some ⟨p.rb, 0, none⟩)) := by
  rw [← radd0]
  exact h.ys.cells (g := gy) rfl n _ (by simp [hn])
theorem DInv.ltx (h : DInv w0 w room ps gx cx gy cy k) : gx < w.heap.size ∧ gy < w.heap.size ∧ cx ≤ maxLen ∧ cy ≤ maxLen ∧ ps.length ≤ cx ∧ ps.length ≤ cy := by
  rcases h.xs.2 with ⟨e, _⟩ | ⟨g', c', _, e, _, hh, a1, a2, _⟩
  · cases e
  · rcases h.ys.2 with ⟨e', _⟩ | ⟨g'', c'', _, e', _, hh', b1, b2, _⟩
    · cases e'
    · injection e with e1 e2 e3
      injection e1 with e1
      injection e1 with e1
      injection e' with f1 f2 f3
      injection f1 with f1
      injection f1 with f1
      subst e1 f1 e3 f3
      exact ⟨lt_of_block hh, lt_of_block hh', a2, b2, a1, b1⟩
end

theorem DInv.start {w w1 w2 : World} {room : Int} (h1 : 1 ≤ room) (hC : IsC w1 (w.heap.size + 1) w.heap.size room 0 0 (.map [])) (hF : Fr NoB w w1) (hw2 : w1.alloc (.cells #[.int .i64 room, .int .i64 0, .slice none 0 0] 53) = w2) (hz : w.heap.size + 2 ≤ w1.heap.size) :
    DInv w ((w2.alloc (.cells #[.pointer (some ⟨w.heap.size + 1, 0, none⟩)] 23)).alloc (.cells #[.pointer (some ⟨w1.heap.size, 0, none⟩)] 39)) room [⟨w.heap.size + 1, w.heap.size, w1.heap.size, none, 0, 0, [], []⟩] w2.heap.size 1 (w2.heap.size + 1) 1 0 := by
  have z2 : w2.heap.size = w1.heap.size + 1 := by rw [← hw2]; simp
  have hR : IsR w2 w.heap.size w1.heap.size none 0 room 0 [] := by
    rw [← hw2]
    exact ⟨Blk.new _ _ _, ⟨rfl, Or.inl ⟨rfl, rfl⟩⟩⟩
  have hC2 : IsC w2 (w.heap.size + 1) w.heap.size room 0 0 (.map []) := by rw [← hw2]; exact hC.al _
  have hF2 : Fr NoB w w2 := by rw [← hw2]; exact hF.alloc _
  have hP : POK w2 w.heap.size room ⟨w.heap.size + 1, w.heap.size, w1.heap.size, none, 0, 0, [], []⟩ := ⟨hC2, hR, CInv.start h1, Sim.start, by show w.heap.size ≤ w.heap.size + 1; omega, Nat.le_refl _, by show w.heap.size ≤ w1.heap.size; omega⟩
  have bx := Blk.new w2 23 #[.pointer (some ⟨w.heap.size + 1, 0, none⟩)]
  have byy := Blk.new (w2.alloc (.cells #[.pointer (some ⟨w.heap.size + 1, 0, none⟩)] 23)) 39 #[.pointer (some ⟨w1.heap.size, 0, none⟩)]
  have ez : (w2.alloc (.cells #[.pointer (some ⟨w.heap.size + 1, 0, none⟩)] 23)).heap.size = w2.heap.size + 1 := by simp
  rw [ez] at byy
  have f2 : Fr NoB w2 ((w2.alloc (.cells #[.pointer (some ⟨w.heap.size + 1, 0, none⟩)] 23)).alloc (.cells #[.pointer (some ⟨w1.heap.size, 0, none⟩)] 39)) := ((Fr.refl _ _).alloc _).alloc _
  have one : ∀ (i : Nat) q, [(⟨w.heap.size + 1, w.heap.size, w1.heap.size, none, 0, 0, [], []⟩ : Pr)][i]? = some q → i = 0 ∧ q = ⟨w.heap.size + 1, w.heap.size, w1.heap.size, none, 0, 0, [], []⟩ := by
    intro i q hq
    cases i with
    | zero => simp at hq; exact ⟨rfl, hq.symm⟩
    | succ i => simp at hq
  refine ⟨?_, ?_, ⟨rfl, Or.inr ⟨_, 1, _, rfl, by omega, (bx.alloc _), Nat.le_refl _, by unfold maxLen; omega, rfl, rfl⟩⟩, ⟨rfl, Or.inr ⟨_, 1, _, rfl, by omega, byy, Nat.le_refl _, by unfold maxLen; omega, rfl, rfl⟩⟩, hF2.no f2, by simp, by simp, ?_⟩
  · intro i q hq
    obtain ⟨_, rfl⟩ := one i q hq
    exact hP.no f2
  · intro i j q q' hq hq' hij
    have := (one i q hq).1
    have := (one j q' hq').1
    omega
  · intro i q hq
    obtain ⟨_, rfl⟩ := one i q hq
    exact Nat.zero_le _

theorem two_sp {p : Pr} {k : Nat} (h : Two p.b p.mb k) : SP p k := by
  rcases h with h | h
  · exact Or.inl h
  · exact Or.inr (Or.inl h)
theorem sr_sp {p : Pr} {k : Nat} (h : SR p.rb p.A k) : SP p k := by
  rcases h with h | h
  · exact Or.inr (Or.inr (Or.inl h))
  · exact Or.inr (Or.inr (Or.inr h))
theorem not_SP_tag {w : World} {base : Nat} {room : Int} {p : Pr} (hp : POK w base room p) {g t : Nat} (ht : tag w g = t + 2) (h1 : t ≠ 48) (h2 : t ≠ 53) (h3 : t ≠ 55) : ¬ SP p g := by
  have p1 := tag_blk hp.c.blk
  have p2 := tag_map hp.c.own
  have p3 := tag_blk hp.r.blk
  rintro (h5 | h5 | h5 | h5)
  · rw [h5, p1] at ht; exact h1 (Nat.add_right_cancel ht).symm
  · rw [h5, p2] at ht; omega
  · rw [h5, p3] at ht; exact h2 (Nat.add_right_cancel ht).symm
  · have := tag_rowB hp.r h5; rw [this] at ht; exact h3 (Nat.add_right_cancel ht).symm
theorem sr_not {w : World} {base : Nat} {room : Int} {p : Pr} (hp : POK w base room p) : ¬ SR p.rb p.A p.b ∧ ¬ SR p.rb p.A p.mb ∧ ¬ Two p.b p.mb p.rb ∧ ∀ g, rowB p.A = some g → ¬ Two p.b p.mb g := by
  have p1 := tag_blk hp.c.blk
  have p2 := tag_map hp.c.own
  have p3 := tag_blk hp.r.blk
  refine ⟨?_, ?_, ?_, fun g hg => ?_⟩
  · rintro (e | e)
    · rw [e, p3] at p1; exact absurd p1 (by decide)
    · rw [tag_rowB hp.r e] at p1; exact absurd p1 (by decide)
  · rintro (e | e)
    · rw [e, p3] at p2; exact absurd p2 (by decide)
    · rw [tag_rowB hp.r e] at p2; exact absurd p2 (by decide)
  · rintro (e | e)
    · rw [e, p1] at p3; exact absurd p3 (by decide)
    · rw [e, p2] at p3; exact absurd p3 (by decide)
  · have p4 := tag_rowB hp.r hg
    rintro (e | e)
    · rw [e, p1] at p4; exact absurd p4 (by decide)
    · rw [e, p2] at p4; exact absurd p4 (by decide)

set_option maxRecDepth 100000 in
set_option maxHeartbeats 3200000 in
theorem does_yes (room : Int) (A : Option Addr) (n c : Nat) (w : World) (h1 : 1 ≤ room) (h2 : room ≤ 64) (hn : n * 48 ≤ 140737488351232) (hO : Ops w A n w.heap.size) :
    Calls Try.prog 6 #[.int .i64 room, .slice A n c] w fun e w' => e = .returned (.bool true) ∧ Fr NoB w w' := by
  obtain ⟨ix, hix, hx0, hx1_, hx2⟩ := info_parts Try.infoX
  obtain ⟨iy, hiy, hy0, hy1_, hy2⟩ := info_parts Try.infoY
  go_enter Try.func6, Try.ntmps6
  go_wp2_with fail
  refine (new_yes room w h1 h2).mono ?_
  rintro e w1 ⟨rfl, hw1⟩
  have hC : IsC w1 (w.heap.size + 1) w.heap.size room 0 0 (.map []) := by subst hw1; exact new_C room w
  have hF : Fr NoB w w1 := by subst hw1; exact ((Fr.refl _ _).alloc _).alloc _
  have hz : w.heap.size + 2 ≤ w1.heap.size := by subst hw1; simp
  clear hw1
  go_wp2_with fail
  refine (rnew_yes room w1 h1 h2).mono ?_
  rintro e w2 ⟨rfl, hw2⟩
  have hD0 := DInv.start h1 hC hF hw2 hz
  clear hw2 hC hF
  go_wp2_with fail
  go_loopg [9, 10, 11] n (fun gk v9 v10 v11 wr => ∃ (k gx cx gy cy : Nat) (ps : List Pr), k + gk = n ∧ v11 = .int .i64 k ∧ v9 = .slice (some ⟨gx, 0, none⟩) ps.length cx ∧ v10 = .slice (some ⟨gy, 0, none⟩) ps.length cy ∧ DInv w wr room ps gx cx gy cy k)
  case atStart => exact ⟨0, _, 1, _, 1, _, by omega, rfl, rfl, rfl, hD0⟩
  case round =>
    obtain ⟨k, gx, cx, gy, cy, ps, hk, rfl, rfl, rfl, hD⟩ := hrel
    have HK := Lib.hid hk
    clear hk hD0
    by_cases hlt : k < n
    · obtain ⟨b, off, on, kind, til, now, s, rfl, hb, hs, a0, a1, a2, a3, a4⟩ := hO k hlt
      clear hO
      have nb : ¬ NoB b := by simp [NoB]
      rw [← hD.fr.cell hb nb] at a0 a1 a2 a3 a4
      have hpl : ps.length ≤ 9223372036854775807 := by have := hD.len; omega
      have hpos := hD.pos
      go_wp2_with fail
      have hD1 := hD.no ((Fr.refl NoB wr).alloc (.cells #[.int .i64 on, .int .i64 kind, .string s, .int .i64 til, .int .i64 now] 30))
      have hB1 := Blk.new wr 30 #[.int .i64 on, .int .i64 kind, .string s, .int .i64 til, .int .i64 now]
      obtain ⟨wb, hwb⟩ : ∃ wb, wb = wr.alloc (.cells #[.int .i64 on, .int .i64 kind, .string s, .int .i64 til, .int .i64 now] 30) := ⟨_, rfl⟩
      rw [← hwb] at hD1 hB1 ⊢
      obtain ⟨O, hOO⟩ : ∃ O, wr.heap.size = O := ⟨_, rfl⟩
      rw [hOO] at hB1 ⊢
      clear hwb hOO a0 a1 a2 a3 a4 hD
      refine (place_any on ps.length wb hpos hpl).mono ?_
      rintro e w' ⟨rfl, rfl⟩
      have hlt2 := placeN_lt on hpos
      obtain ⟨m, hm⟩ : ∃ m, placeN on ps.length = m := ⟨_, rfl⟩
      rw [hm] at hlt2 ⊢
      clear hm
      obtain ⟨p, hp⟩ : ∃ p, ps[m]? = some p := ⟨_, List.getElem?_eq_getElem hlt2⟩
      have hP := hD1.all m p hp
      have g1 := hB1.cell 1
      have g2 := hB1.cell 2
      have g3 := hB1.cell 3
      have g4 := hB1.cell 4
      simp at g1 g2 g3 g4
      have x1 := hD1.atx hp
      have y1 := hD1.aty hp
      obtain ⟨lx, ly, lcx, lcy, lpx, lpy⟩ := hD1.ltx
      have m0 : (0 : Int) ≤ (m : Int) := by omega
      have m1 : (m : Int) < (ps.length : Int) := by omega
      have tx := tag_row hD1.xs rfl
      have ty := tag_row hD1.ys rfl
      have tO := tag_blk hB1
      have nx := not_SP_tag hP tx (by decide) (by decide) (by decide)
      have ny := not_SP_tag hP ty (by decide) (by decide) (by decide)
      have nO := not_SP_tag hP tO (by decide) (by decide) (by decide)
      have lO := hB1.lt
      obtain ⟨sn1, sn2, sn3, sn4⟩ := sr_not hP
      have hc0 := hP.i.c0
      have hlen : p.es.length < maxLen := by unfold maxLen; have := hP.i.len; omega
      have hT := hP.c.tid
      clear tx ty tO
      by_cases k0 : kind = 0
      · subst k0
        obtain ⟨r1, hr1⟩ : ∃ r, addE room p.clock p.es s.data.toList til now = r := ⟨_, rfl⟩
        obtain ⟨c1, hc1⟩ : ∃ c', addC p.clock s.data.toList til now = c' := ⟨_, rfl⟩
        obtain ⟨l1, hl1⟩ : ∃ es', addL room p.clock p.es s.data.toList til now = es' := ⟨_, rfl⟩
        obtain ⟨L1, hL1⟩ : ∃ L', addRL room p.clock p.L s til now = L' := ⟨_, rfl⟩
        obtain ⟨e12, sim1⟩ := sim_add (room := room) hP.s hT hc0 s til now
        have J1 := hP.i.add s.data.toList til now
        have hLL : L1.length ≤ k + 1 := by
          have := hD1.lens m p hp
          rw [← hL1]
          unfold addRL
          split
          · simp; omega
          · omega
        rw [hr1] at e12
        rw [hc1, hl1, hL1] at sim1
        rw [hc1, hl1] at J1
        have CA := Lib.hid (fun W (h : IsC W p.b p.mb room p.clock p.es.length (.map p.es)) => add_at h hlen s hs til now r1 c1 l1 hr1 hc1 hl1)
        have hL24 : (p.L.length + 1) * 24 ≤ 140737488355328 := by have := hD1.lens m p hp; omega
        have CB : Hid (∀ W, w.heap.size ≤ W.heap.size → IsR W w.heap.size p.rb p.A p.cap room p.clock p.L → Calls Try.prog 14 #[.pointer (some ⟨p.rb, 0, none⟩), .string s, .int .i64 til, .int .i64 now] W fun e w' => e = .returned (.int .i64 r1) ∧ RPost W w' w.heap.size p.rb p.A room c1 L1) := by
          intro W hW h
          have := radd_any h hW hL24 s til now
          rw [← e12, hc1, hL1] at this
          exact this
        have hsz0 := hD1.fr.size
        clear hr1 hc1 hl1 hL1 e12 hT
        go_wp2_with fail
        have tok1 : True := trivial
        go_region_held3 (fun w' => w'.cell? ⟨gx, m, none⟩ = some (.pointer (some ⟨p.b, 0, none⟩)) ∧ w'.cell? ⟨gy, m, none⟩ = some (.pointer (some ⟨p.rb, 0, none⟩)) ∧ w'.cell? ⟨O, 2, none⟩ = some (.string s) ∧ w'.cell? ⟨O, 3, none⟩ = some (.int .i64 til) ∧ w'.cell? ⟨O, 4, none⟩ = some (.int .i64 now)) (first | go_keep | (exact ⟨(hFx.cell lx (fun q => nx (two_sp q))).trans x1, (hFx.cell ly (fun q => ny (two_sp q))).trans y1, (hFx.cell lO (fun q => nO (two_sp q))).trans g2, (hFx.cell lO (fun q => nO (two_sp q))).trans g3, (hFx.cell lO (fun q => nO (two_sp q))).trans g4⟩) | (exact ⟨(hFz.cell lx nx).trans x1, (hFz.cell ly ny).trans y1, (hFz.cell lO nO).trans g2, (hFz.cell lO nO).trans g3, (hFz.cell lO nO).trans g4⟩))
          (first
            | (go_at_call 11; have _t := tok1; refine (CA.out _ (by exact hP.c.drew)).mono ?_; clear tok1; rintro e wx ⟨rfl, hCx, hFx⟩)
            | (go_at_call 14; refine (CB.out _ (by have := hFx.size; exact Nat.le_trans hsz0 this) (hP.r.drew.fr hFx sn3 sn4)).mono ?_; rintro e wy ⟨rfl, hpost⟩; have hFz : Fr (SP p) wb.drew wy := (hFx.mono (fun _ _ q => two_sp q)).andThen hpost.fr (fun _ _ q => sr_sp q)))
        obtain ⟨A', cap', hR', hrow'⟩ := hpost.ex
        have hFzz : Fr (SP p) wb wy := (Fr.refl _ _).drew.andThen hFz (fun _ _ q => q)
        have hP' : POK wy w.heap.size room ⟨p.b, p.mb, p.rb, A', cap', c1, l1, L1⟩ := ⟨hCx.fr hpost.fr sn1 sn2, hR', J1, sim1, hP.b1, hP.b2, hP.b3⟩
        have hD2 := hD1.upd hp hFzz hP' rfl rfl rfl (fun g hg => by
          rcases hrow' g hg with e | e
          · exact Or.inl e
          · have := hFx.size
            exact Or.inr (Nat.le_trans this e)) hLL
        have hls : (ps.set m ⟨p.b, p.mb, p.rb, A', cap', c1, l1, L1⟩).length = ps.length := by simp
        have HLS := Lib.hid hls
        have rr : (r1 != r1) = false := by simp
        clear hls
        go_wp2_with fail
        go_roundg (gk - 1)
        case measure => have := HK.out; omega
        case rel => exact ⟨k + 1, gx, cx, gy, cy, ps.set m ⟨p.b, p.mb, p.rb, A', cap', c1, l1, L1⟩, by have := HK.out; omega, by go_num, by rw [HLS.out], by rw [HLS.out], hD2⟩
      · have b0 : (kind == 0) = false := by simpa using k0
        by_cases k1 : kind = 1
        · subst k1
          obtain ⟨r1, hr1⟩ : ∃ r, hasB p.clock (.map p.es) s.data.toList now = r := ⟨_, rfl⟩
          have e12 := (hP.s.has_eq hT hc0 s now).symm.trans hr1
          have CA := Lib.hid (fun W (h : IsC W p.b p.mb room p.clock p.es.length (.map p.es)) => has_at h s hs now r1 hr1)
          have CB : Hid (∀ W, IsR W w.heap.size p.rb p.A p.cap room p.clock p.L → Calls Try.prog 15 #[.pointer (some ⟨p.rb, 0, none⟩), .string s, .int .i64 now] W fun e w' => e = .returned (.bool r1) ∧ Fr NoB W w') := by
            intro W h
            have := rhas_any h s now
            rw [e12] at this
            exact this
          clear hr1 e12 hT k0
          go_wp2_with fail
          have tok1 : True := trivial
          go_region_held3 (fun w' => w'.cell? ⟨gx, m, none⟩ = some (.pointer (some ⟨p.b, 0, none⟩)) ∧ w'.cell? ⟨gy, m, none⟩ = some (.pointer (some ⟨p.rb, 0, none⟩)) ∧ w'.cell? ⟨O, 2, none⟩ = some (.string s) ∧ w'.cell? ⟨O, 4, none⟩ = some (.int .i64 now)) (first | go_keep | (exact ⟨(hFx.cell lx (fun q => q)).trans x1, (hFx.cell ly (fun q => q)).trans y1, (hFx.cell lO (fun q => q)).trans g2, (hFx.cell lO (fun q => q)).trans g4⟩) | (exact ⟨(hFz.cell lx (fun q => q)).trans x1, (hFz.cell ly (fun q => q)).trans y1, (hFz.cell lO (fun q => q)).trans g2, (hFz.cell lO (fun q => q)).trans g4⟩))
            (first
              | (go_at_call 9; have _t := tok1; refine (CA.out _ (by exact hP.c.drew)).mono ?_; clear tok1; rintro e wx ⟨rfl, hCx, hFx⟩)
              | (go_at_call 15; refine (CB.out _ (hP.r.drew.fr hFx (fun q => q) (fun _ _ q => q))).mono ?_; rintro e wy ⟨rfl, hFy⟩; have hFz : Fr NoB wb.drew wy := hFx.no hFy))
          have hFzz : Fr NoB wb wy := (Fr.refl _ _).drew.no hFz
          have rr : (r1 != r1) = false := by simp
          go_wp2_with fail
          go_roundg (gk - 1)
          case measure => have := HK.out; omega
          case rel => exact ⟨k + 1, gx, cx, gy, cy, ps, by have := HK.out; omega, by go_num, rfl, rfl, (hD1.no hFzz).mono (by omega)⟩
        · have b1 : (kind == 1) = false := by simpa using k1
          by_cases k2 : kind = 2
          · subst k2
            obtain ⟨r1, hr1⟩ : ∃ r, lenN p.clock p.es now = r := ⟨_, rfl⟩
            have e12 := (hP.s.len_eq now).symm.trans hr1
            have CA := Lib.hid (fun W (h : IsC W p.b p.mb room p.clock p.es.length (.map p.es)) => len_at h hlen now r1 hr1)
            have CB : Hid (∀ W, IsR W w.heap.size p.rb p.A p.cap room p.clock p.L → Calls Try.prog 16 #[.pointer (some ⟨p.rb, 0, none⟩), .int .i64 now] W fun e w' => e = .returned (.int .i64 r1) ∧ Fr NoB W w') := by
              intro W h
              have := rlen_any h now
              rw [e12] at this
              exact this
            clear hr1 e12 hT k0 k1
            go_wp2_with fail
            have tok1 : True := trivial
            go_region_held3 (fun w' => w'.cell? ⟨gx, m, none⟩ = some (.pointer (some ⟨p.b, 0, none⟩)) ∧ w'.cell? ⟨gy, m, none⟩ = some (.pointer (some ⟨p.rb, 0, none⟩)) ∧ w'.cell? ⟨O, 4, none⟩ = some (.int .i64 now)) (first | go_keep | (exact ⟨(hFx.cell lx (fun q => q)).trans x1, (hFx.cell ly (fun q => q)).trans y1, (hFx.cell lO (fun q => q)).trans g4⟩) | (exact ⟨(hFz.cell lx (fun q => q)).trans x1, (hFz.cell ly (fun q => q)).trans y1, (hFz.cell lO (fun q => q)).trans g4⟩))
              (first
                | (go_at_call 10; have _t := tok1; refine (CA.out _ (by exact hP.c.drew)).mono ?_; clear tok1; rintro e wx ⟨rfl, hCx, hFx⟩)
                | (go_at_call 16; refine (CB.out _ (hP.r.drew.fr hFx (fun q => q) (fun _ _ q => q))).mono ?_; rintro e wy ⟨rfl, hFy⟩; have hFz : Fr NoB wb.drew wy := hFx.no hFy))
            have hFzz : Fr NoB wb wy := (Fr.refl _ _).drew.no hFz
            have rr : (r1 != r1) = false := by simp
            go_wp2_with fail
            go_roundg (gk - 1)
            case measure => have := HK.out; omega
            case rel => exact ⟨k + 1, gx, cx, gy, cy, ps, by have := HK.out; omega, by go_num, rfl, rfl, (hD1.no hFzz).mono (by omega)⟩
          · have b2 : (kind == 2) = false := by simpa using k2
            by_cases k3 : kind = 3
            · subst k3
              clear k0 k1 k2
              have hplen := hD1.len
              go_wp2_with fail
              refine (cclone_any hP.c).mono ?_
              rintro e wx ⟨rfl, hcl⟩
              have hx1 := hcl.fr.row hD1.xs (fun _ _ q => q)
              have hy1 := hcl.fr.row hD1.ys (fun _ _ q => q)
              have hxy : gy ≠ gx := fun e => by
                have t1 := tag_row hx1 rfl
                have t2 := tag_row hy1 rfl
                rw [e, t1] at t2
                exact absurd t2 (by decide)
              have hsz0 := hD1.fr.size
              have hszx := hcl.fr.size
              go_wp2_with (at_builtin; refine wpList_append_lies _ rfl _ _ _ rfl w.heap.size 23 ix (.pointer none) 1 8 Try.underlying42 hix hx0 hx1_ hx2 rfl (by omega) _ ps.length (ps.map fun p => Value.pointer (some ⟨p.b, 0, none⟩)) rfl (hx1.alloc _) ⟨wx.heap.size, 0, none⟩ 1 1 [.pointer (some ⟨wb.heap.size + 1, 0, none⟩)] rfl rfl (cell_one_new _ _ _) (by simp [Value.oneCell']) (by omega) (by unfold maxLen; omega) (by omega) (by simp; omega) (wx.heap.size + 1) (by simp) ?_; intro gx3 cx3 w3 hX3 hgr3 _ _; have gr1 : wx.grownBy w3 (some gx) := (World.grownBy_alloc wx _ (some gx)).trans hgr3; have y3 : w3.cell? ⟨gy, m, none⟩ = some (.pointer (some ⟨p.rb, 0, none⟩)) := gr1.cell ((hcl.fr.cell ly (fun q => q)).trans y1) (by simpa using hxy))
              have hP3 : POK w3 w.heap.size room p := (hP.no hcl.fr).grown gr1 (tag_row hx1 rfl) (by decide) (by decide) (by decide)
              refine (copy_any hP3.r (by have := gr1.size; omega) (by have := hD1.lens m p hp; omega)).mono ?_
              rintro e w4 ⟨rfl, hcp⟩
              have hy4 := hcp.fr.row (hy1.kept gr1 (by simpa [Value.ownBlock] using hxy)) (fun _ _ q => q)
              have hsz4 := hcp.fr.size
              have hsz3 := gr1.size
              go_wp2_with (at_builtin; refine wpList_append_lies _ rfl _ _ _ rfl w.heap.size 39 iy (.pointer none) 1 8 Try.underlying43 hiy hy0 hy1_ hy2 rfl (by omega) _ ps.length (ps.map fun p => Value.pointer (some ⟨p.rb, 0, none⟩)) rfl (hy4.alloc _) ⟨w4.heap.size, 0, none⟩ 1 1 [.pointer (some ⟨w3.heap.size, 0, none⟩)] rfl rfl (cell_one_new _ _ _) (by simp [Value.oneCell']) (by omega) (by unfold maxLen; omega) (by omega) (by simp; omega) (w4.heap.size + 1) (by simp) ?_; intro gy5 cy5 w5 hY5 hgr5 _ _; have gr2 : w4.grownBy w5 (some gy) := (World.grownBy_alloc w4 _ (some gy)).trans hgr5)
              obtain ⟨ps', hps', hD5⟩ := hD1.push hp hcl gr1 hX3 hcp gr2 hY5
              go_roundg (gk - 1)
              case measure => have := HK.out; omega
              case rel => exact ⟨k + 1, gx3, cx3, gy5, cy5, ps', by have := HK.out; omega, by go_num, by rw [hps'], by rw [hps'], hD5⟩
            · have b3 : (kind == 3) = false := by simpa using k3
              go_wp2_with fail
              go_roundg (gk - 1)
              case measure => have := HK.out; omega
              case rel => exact ⟨k + 1, gx, cx, gy, cy, ps, by have := HK.out; omega, by go_num, rfl, rfl, hD1.mono (by omega)⟩
    · clear hO
      have hpl : ps.length ≤ 9223372036854775807 := by have := hD.len; have := HK.out; omega
      go_wp2_with fail
      obtain ⟨wo, rfl⟩ : ∃ wo : World, wo = wr := ⟨_, rfl⟩
      obtain ⟨go, rfl⟩ : ∃ go : Nat, go = gk := ⟨_, rfl⟩
      go_loopg [15] ps.length (fun gk v wz => ∃ j : Nat, j + gk = ps.length ∧ v = .int .i64 j ∧ DInv w wz room ps gx cx gy cy k)
      case atStart => exact ⟨0, by omega, rfl, hD⟩
      case round =>
        obtain ⟨j, hj, rfl, hDj⟩ := hrel
        have HJ := Lib.hid hj
        clear hj hD
        by_cases hjl : j < ps.length
        · obtain ⟨p, hp⟩ : ∃ p, ps[j]? = some p := ⟨_, List.getElem?_eq_getElem hjl⟩
          have hP := hDj.all j p hp
          have x1 := hDj.atx hp
          have y1 := hDj.aty hp
          obtain ⟨lx, ly, lcx, lcy, lpx, lpy⟩ := hDj.ltx
          have m0 : (0 : Int) ≤ (j : Int) := by omega
          have m1 : (j : Int) < (ps.length : Int) := by omega
          have hlen : p.es.length < maxLen := by unfold maxLen; have := hP.i.len; omega
          obtain ⟨r1, hr1⟩ : ∃ r, lenN p.clock p.es 0 = r := ⟨_, rfl⟩
          have e12 := (hP.s.len_eq 0).symm.trans hr1
          have CA := Lib.hid (fun W (h : IsC W p.b p.mb room p.clock p.es.length (.map p.es)) => len_at h hlen 0 r1 hr1)
          have CB : Hid (∀ W, IsR W w.heap.size p.rb p.A p.cap room p.clock p.L → Calls Try.prog 16 #[.pointer (some ⟨p.rb, 0, none⟩), .int .i64 0] W fun e w' => e = .returned (.int .i64 r1) ∧ Fr NoB W w') := by
            intro W h
            have := rlen_any h 0
            rw [e12] at this
            exact this
          clear hr1 e12
          go_wp2_with fail
          have tok1 : True := trivial
          go_region_held3 (fun w' => w'.cell? ⟨gx, j, none⟩ = some (.pointer (some ⟨p.b, 0, none⟩)) ∧ w'.cell? ⟨gy, j, none⟩ = some (.pointer (some ⟨p.rb, 0, none⟩))) (first | go_keep | (exact ⟨(hFx.cell lx (fun q => q)).trans x1, (hFx.cell ly (fun q => q)).trans y1⟩) | (exact ⟨(hFz.cell lx (fun q => q)).trans x1, (hFz.cell ly (fun q => q)).trans y1⟩))
            (first
              | (go_at_call 10; have _t := tok1; refine (CA.out _ (by exact hP.c.drew)).mono ?_; clear tok1; rintro e wx ⟨rfl, hCx, hFx⟩)
              | (go_at_call 16; refine (CB.out _ (hP.r.drew.fr hFx (fun q => q) (fun _ _ q => q))).mono ?_; rintro e wy ⟨rfl, hFy⟩; have hFz : Fr NoB wr.drew wy := hFx.no hFy))
          have hFzz : Fr NoB wr wy := (Fr.refl _ _).drew.no hFz
          have rr : (r1 != r1) = false := by simp
          go_wp2_with fail
          go_roundg (gk - 1)
          case measure => have := HJ.out; omega
          case rel => exact ⟨j + 1, by have := HJ.out; omega, by go_num, hDj.no hFzz⟩
        · go_wp2_with fail
          refine (fixed_any _).mono ?_
          rintro e w' ⟨rfl, hF⟩
          go_wp2_with fail
          go_ret
          exact ⟨rfl, hDj.fr.no hF⟩

end Go.Proofs.Ytkhaeoggchnheaa
