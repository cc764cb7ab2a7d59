/- JSON, the document's reader: word. Printed by gen_rw.py. -/
import Derived.Test.YteeijmfnjcddmaaGreatDoorRn
import Derived.Test.YteeijmfnjcddmaaGreatDoorJx
import Derived.Test.YteeijmfnjcddmaaGreatDoorRe
namespace Go.Proofs.YteeijmfnjcddmaaGreatDoor
open Go.RowKit

/-- What word has to do. -/
def WordIs (q : Pr) (s : Bs) (i b : Nat) (w : World) (en : Ending) (w' : World) : Prop :=
  match q with
  | .ok (j, r) => ∃ kd x : Int, j = .mk kd x [] [] [] ∧ IntOk kd ∧ IntOk x ∧ en = .returned (jV kd x [] (.slice none 0 0) (.slice none 0 0)) ∧ (∃ k, QSt w' b s k 0 ∧ blanks (s.drop k) = r ∧ i < k ∧ k ≤ s.length) ∧ Fr (Only b) w w'
  | .error n => en = .returned (jV 0 0 [] (.slice none 0 0) (.slice none 0 0)) ∧ n ≠ 0 ∧ QSt w' b s i n ∧ Fr (Only b) w w'
abbrev wdq : Array Value := #[.string ⟨#[110, 117, 108, 108]⟩, .string ⟨#[102, 97, 108, 115, 101]⟩, .string ⟨#[116, 114, 117, 101]⟩]
theorem pre_short {a s : Bs} {i : Nat} (h : ¬ i + a.length ≤ s.length) (ha : 0 < a.length) : ¬ a <+: s.drop i := fun e => by
  have := e.length_le
  rw [List.length_drop] at this
  omega
theorem pre_bool (s a : Bs) (i : Nat) : (((⟨s.toArray⟩ : ByteArray).extract i (i + a.length)).toList == a) = decide (a <+: s.drop i) := by
  rw [ext_mid, show i + a.length - i = a.length by omega, ba_list, Bool.eq_iff_iff]
  rw [beq_iff_eq, decide_eq_true_eq, List.prefix_iff_eq_take]
  exact eq_comm
theorem takeP_gx {a s r : Bs} (h : a <+: s) (hr : blanks (s.drop a.length) = r) : takeP a s = some r := by unfold takeP; rw [if_pos h, hr]
theorem takeP_nx {a s : Bs} (h : ¬ a <+: s) : takeP a s = none := by unfold takeP; rw [if_neg h]

theorem wrong_95 {b i e : Nat} {s : Bs} {w : World} (h : QSt w b s i e) : Calls Tryz.prog 42 #[.pointer (some ⟨b, 0, none⟩), .int .i64 95] w fun en w' => en = .returned (.tuple #[]) ∧ QSt w' b s i (if e = 0 then 95 else e) ∧ Fr (Only b) w w' := wrong_any h 95
theorem wrong_90w {b i e : Nat} {s : Bs} {w : World} (h : QSt w b s i e) : Calls Tryz.prog 42 #[.pointer (some ⟨b, 0, none⟩), .int .i64 90] w fun en w' => en = .returned (.tuple #[]) ∧ QSt w' b s i (if e = 0 then 90 else e) ∧ Fr (Only b) w w' := wrong_any h 90
set_option maxRecDepth 100000 in
set_option maxHeartbeats 6400000 in
theorem word_q {b i : Nat} {s : Bs} {w : World} (h : QSt w b s i 0) (hb : b < w.heap.size) (hi : i ≤ s.length) (hl : s.length ≤ 65536) :
    Calls Tryz.prog 71 #[.pointer (some ⟨b, 0, none⟩)] w (WordIs (wordP (s.drop i)) s i b w) := by
  have f0 : Fr NoB w ((w.alloc (.cells zj 25)).alloc (.cells wdq 9)) := ((Fr.refl _ _).alloc _).alloc _
  have q0 := h.fr f0
  have g0 : Blk ((w.alloc (.cells zj 25)).alloc (.cells wdq 9)) w.heap.size 25 zj := (Blk.new w 25 zj).alloc _
  have t0 : Blk ((w.alloc (.cells zj 25)).alloc (.cells wdq 9)) (w.heap.size + 1) 9 wdq := by
    have := Blk.new (w.alloc (.cells zj 25)) 9 wdq
    simpa using this
  generalize hW : (w.alloc (.cells zj 25)).alloc (.cells wdq 9) = W at *
  have HQ : Hid (∀ v, WordIs (wordP (s.drop i)) s i b w v = WordIs (wordP (s.drop i)) s i b w v) := Lib.hid (fun _ => rfl)
  generalize hWQ : wordP (s.drop i) = Q at *
  have HWQ := Lib.hid hWQ
  clear HQ hWQ
  obtain ⟨c0, c1, c2, z1, z2⟩ := q0.cells
  have F0 := f0
  have u0 := (t0.cell 0).trans (rfl : _ = some (Value.string ⟨#[110, 117, 108, 108]⟩))
  have k0 : (0 : Int) ≤ i := by omega
  have ki : (i : Int) ≤ s.length := by omega
  go_enter Tryz.func71, Tryz.ntmps71
  go_wp2_with (rw [hW])
  clear hW
  refine wp_loop_rounds 4 ?_
  rw [rounds_succ]
  have E0 : Hid (decide (wNull <+: s.drop i) = true ↔ wNull <+: s.drop i) := Lib.hid (by simp)
  go_upto_region 6 with fail
  go_cut [50] (fun v wx => v = .bool (decide (wNull <+: s.drop i)) ∧ Fr NoB W wx)
  case first =>
    by_cases hlen : i + 4 ≤ s.length
    · have k1 : (s.length : Int) - i ≥ 4 := by omega
      have k2 : (i : Int) + 4 ≤ s.length := by omega
      have HP := Lib.hid (pre_bool s [110, 117, 108, 108] i)
      go_quiet (fail)
      go_wp2_with fail
      go_meet
      exact ⟨by rw [show wNull = [110, 117, 108, 108] from rfl, ← HP.out]; rfl, (Fr.refl NoB W).drewN _⟩
    · have k1 : ¬ (s.length : Int) - i ≥ 4 := by omega
      have HE : Hid (decide (wNull <+: s.drop i) = false) := Lib.hid (by simpa using pre_short (a := wNull) (by simpa [wNull] using hlen) (by decide))
      go_quiet (fail)
      go_wp2_with fail
      go_meet
      exact ⟨by rw [HE.out], (Fr.refl NoB W).drewN _⟩
  case rest =>
    obtain ⟨rfl, f1⟩ := hcut
    obtain ⟨w1, hwn⟩ : ∃ x, x = wc := ⟨_, rfl⟩
    subst hwn
    have q1 := q0.fr f1
    have g1 := f1.blk g0 (fun x => x)
    have t1 := f1.blk t0 (fun x => x)
    have F1 := F0.trans f1
    clear c0 c1 c2 z1 z2 u0
    obtain ⟨c0, c1, c2, z1, z2⟩ := q1.cells
    by_cases hp : wNull <+: s.drop i
    · rw [show decide (wNull <+: s.drop i) = true by simpa using hp]
      have hki : i + 4 ≤ s.length := by have := hp.length_le; rw [List.length_drop] at this; simp [wNull] at this; omega
      have HR : Hid (Q = .ok (.mk 0 0 [] [] [], blanks (s.drop (i + 4)))) := Lib.hid (by rw [← HWQ.out, wordP]; rw [takeP_gx hp rfl]; simp [List.drop_drop, wNull])
      have q2 := q1.goto (i + 4)
      rw [show ((i + 4 : Nat) : Int) = (i : Int) + 4 by omega] at q2
      have fg : Fr (Only b) w1 (w1.setCell ⟨b, 1, none⟩ (.int .i64 ((i : Int) + 4))) := (Fr.refl _ _).only _
      have gA := fg.blk g1 (fun e => by have e' : w.heap.size = b := e; omega)
      go_wp2_with (refine wpList_store_row rfl 25 _ _ rfl w.heap.size #[.int .i64 0, .int .i64 0, .string ⟨#[]⟩, .slice none 0 0, .slice none 0 0] rfl rfl 25 zj gA size_json rfl (one_json _ _ _ _ _ _ _ _ _) ?_)
      have gB := gA.setRow #[.int .i64 0, .int .i64 0, .string ⟨#[]⟩, .slice none 0 0, .slice none 0 0]
      have fB := (F1.noB.trans fg).setRow w.heap.size #[.int .i64 0, .int .i64 0, .string ⟨#[]⟩, .slice none 0 0, .slice none 0 0] (Or.inl (Nat.le_refl _))
      have qB := (Fr.rowO _ w.heap.size #[.int .i64 0, .int .i64 0, .string ⟨#[]⟩, .slice none 0 0, .slice none 0 0]).blk q2 (fun e => by have e' : b = w.heap.size := e; omega)
      exact bodyPost_ret (v := jV 0 0 [] (.slice none 0 0) (.slice none 0 0)) (json_back rfl _ _ w.heap.size _ _ _ _ _ rfl gB) rfl (by rw [HR.out]; exact ⟨0, 0, rfl, by unfold IntOk; omega, by unfold IntOk; omega, rfl, ⟨i + 4, qB, rfl, by omega, hki⟩, fB⟩)
    · rw [show decide (wNull <+: s.drop i) = false by simpa using hp]
      have N0 := Lib.hid hp
      clear hp
      have u0 := (t1.cell 1).trans (rfl : _ = some (Value.string ⟨#[102, 97, 108, 115, 101]⟩))
      go_wp2_with fail
      rw [rounds_succ]
      have E1 : Hid (decide (wFalse <+: s.drop i) = true ↔ wFalse <+: s.drop i) := Lib.hid (by simp)
      go_upto_region 6 with fail
      go_cut [50] (fun v wx => v = .bool (decide (wFalse <+: s.drop i)) ∧ Fr NoB w1 wx)
      case first =>
        by_cases hlen : i + 5 ≤ s.length
        · have k1 : (s.length : Int) - i ≥ 5 := by omega
          have k2 : (i : Int) + 5 ≤ s.length := by omega
          have HP := Lib.hid (pre_bool s [102, 97, 108, 115, 101] i)
          go_quiet (fail)
          go_wp2_with fail
          go_meet
          exact ⟨by rw [show wFalse = [102, 97, 108, 115, 101] from rfl, ← HP.out]; rfl, (Fr.refl NoB w1).drewN _⟩
        · have k1 : ¬ (s.length : Int) - i ≥ 5 := by omega
          have HE : Hid (decide (wFalse <+: s.drop i) = false) := Lib.hid (by simpa using pre_short (a := wFalse) (by simpa [wFalse] using hlen) (by decide))
          go_quiet (fail)
          go_wp2_with fail
          go_meet
          exact ⟨by rw [HE.out], (Fr.refl NoB w1).drewN _⟩
      case rest =>
        obtain ⟨rfl, f2⟩ := hcut
        obtain ⟨w2, hwn⟩ : ∃ x, x = wc := ⟨_, rfl⟩
        subst hwn
        have q2 := q1.fr f2
        have g2 := f2.blk g1 (fun x => x)
        have t2 := f2.blk t1 (fun x => x)
        have F2 := F1.trans f2
        clear c0 c1 c2 z1 z2 u0
        obtain ⟨c0, c1, c2, z1, z2⟩ := q2.cells
        by_cases hp : wFalse <+: s.drop i
        · rw [show decide (wFalse <+: s.drop i) = true by simpa using hp]
          have hki : i + 5 ≤ s.length := by have := hp.length_le; rw [List.length_drop] at this; simp [wFalse] at this; omega
          have HR : Hid (Q = .ok (.mk 1 0 [] [] [], blanks (s.drop (i + 5)))) := Lib.hid (by rw [← HWQ.out, wordP]; rw [takeP_nx N0.out]; simp only []; rw [takeP_gx hp rfl]; simp [List.drop_drop, wFalse])
          have q2 := q2.goto (i + 5)
          rw [show ((i + 5 : Nat) : Int) = (i : Int) + 5 by omega] at q2
          have fg : Fr (Only b) w2 (w2.setCell ⟨b, 1, none⟩ (.int .i64 ((i : Int) + 5))) := (Fr.refl _ _).only _
          have gA := fg.blk g2 (fun e => by have e' : w.heap.size = b := e; omega)
          go_wp2_with (refine wpList_store_row rfl 25 _ _ rfl w.heap.size #[.int .i64 1, .int .i64 0, .string ⟨#[]⟩, .slice none 0 0, .slice none 0 0] rfl rfl 25 zj gA size_json rfl (one_json _ _ _ _ _ _ _ _ _) ?_)
          have gB := gA.setRow #[.int .i64 1, .int .i64 0, .string ⟨#[]⟩, .slice none 0 0, .slice none 0 0]
          have fB := (F2.noB.trans fg).setRow w.heap.size #[.int .i64 1, .int .i64 0, .string ⟨#[]⟩, .slice none 0 0, .slice none 0 0] (Or.inl (Nat.le_refl _))
          have qB := (Fr.rowO _ w.heap.size #[.int .i64 1, .int .i64 0, .string ⟨#[]⟩, .slice none 0 0, .slice none 0 0]).blk q2 (fun e => by have e' : b = w.heap.size := e; omega)
          exact bodyPost_ret (v := jV 1 0 [] (.slice none 0 0) (.slice none 0 0)) (json_back rfl _ _ w.heap.size _ _ _ _ _ rfl gB) rfl (by rw [HR.out]; exact ⟨1, 0, rfl, by unfold IntOk; omega, by unfold IntOk; omega, rfl, ⟨i + 5, qB, rfl, by omega, hki⟩, fB⟩)
        · rw [show decide (wFalse <+: s.drop i) = false by simpa using hp]
          have N1 := Lib.hid hp
          clear hp
          have u0 := (t2.cell 2).trans (rfl : _ = some (Value.string ⟨#[116, 114, 117, 101]⟩))
          go_wp2_with fail
          rw [rounds_succ]
          have E2 : Hid (decide (wTrue <+: s.drop i) = true ↔ wTrue <+: s.drop i) := Lib.hid (by simp)
          go_upto_region 6 with fail
          go_cut [50] (fun v wx => v = .bool (decide (wTrue <+: s.drop i)) ∧ Fr NoB w2 wx)
          case first =>
            by_cases hlen : i + 4 ≤ s.length
            · have k1 : (s.length : Int) - i ≥ 4 := by omega
              have k2 : (i : Int) + 4 ≤ s.length := by omega
              have HP := Lib.hid (pre_bool s [116, 114, 117, 101] i)
              go_quiet (fail)
              go_wp2_with fail
              go_meet
              exact ⟨by rw [show wTrue = [116, 114, 117, 101] from rfl, ← HP.out]; rfl, (Fr.refl NoB w2).drewN _⟩
            · have k1 : ¬ (s.length : Int) - i ≥ 4 := by omega
              have HE : Hid (decide (wTrue <+: s.drop i) = false) := Lib.hid (by simpa using pre_short (a := wTrue) (by simpa [wTrue] using hlen) (by decide))
              go_quiet (fail)
              go_wp2_with fail
              go_meet
              exact ⟨by rw [HE.out], (Fr.refl NoB w2).drewN _⟩
          case rest =>
            obtain ⟨rfl, f3⟩ := hcut
            obtain ⟨w3, hwn⟩ : ∃ x, x = wc := ⟨_, rfl⟩
            subst hwn
            have q3 := q2.fr f3
            have g3 := f3.blk g2 (fun x => x)
            have t3 := f3.blk t2 (fun x => x)
            have F3 := F2.trans f3
            clear c0 c1 c2 z1 z2 u0
            obtain ⟨c0, c1, c2, z1, z2⟩ := q3.cells
            by_cases hp : wTrue <+: s.drop i
            · rw [show decide (wTrue <+: s.drop i) = true by simpa using hp]
              have hki : i + 4 ≤ s.length := by have := hp.length_le; rw [List.length_drop] at this; simp [wTrue] at this; omega
              have HR : Hid (Q = .ok (.mk 2 0 [] [] [], blanks (s.drop (i + 4)))) := Lib.hid (by rw [← HWQ.out, wordP]; rw [takeP_nx N0.out]; simp only []; rw [takeP_nx N1.out]; simp only []; rw [takeP_gx hp rfl]; simp [List.drop_drop, wTrue])
              have q2 := q3.goto (i + 4)
              rw [show ((i + 4 : Nat) : Int) = (i : Int) + 4 by omega] at q2
              have fg : Fr (Only b) w3 (w3.setCell ⟨b, 1, none⟩ (.int .i64 ((i : Int) + 4))) := (Fr.refl _ _).only _
              have gA := fg.blk g3 (fun e => by have e' : w.heap.size = b := e; omega)
              go_wp2_with (refine wpList_store_row rfl 25 _ _ rfl w.heap.size #[.int .i64 2, .int .i64 0, .string ⟨#[]⟩, .slice none 0 0, .slice none 0 0] rfl rfl 25 zj gA size_json rfl (one_json _ _ _ _ _ _ _ _ _) ?_)
              have gB := gA.setRow #[.int .i64 2, .int .i64 0, .string ⟨#[]⟩, .slice none 0 0, .slice none 0 0]
              have fB := (F3.noB.trans fg).setRow w.heap.size #[.int .i64 2, .int .i64 0, .string ⟨#[]⟩, .slice none 0 0, .slice none 0 0] (Or.inl (Nat.le_refl _))
              have qB := (Fr.rowO _ w.heap.size #[.int .i64 2, .int .i64 0, .string ⟨#[]⟩, .slice none 0 0, .slice none 0 0]).blk q2 (fun e => by have e' : b = w.heap.size := e; omega)
              exact bodyPost_ret (v := jV 2 0 [] (.slice none 0 0) (.slice none 0 0)) (json_back rfl _ _ w.heap.size _ _ _ _ _ rfl gB) rfl (by rw [HR.out]; exact ⟨2, 0, rfl, by unfold IntOk; omega, by unfold IntOk; omega, rfl, ⟨i + 4, qB, rfl, by omega, hki⟩, fB⟩)
            · rw [show decide (wTrue <+: s.drop i) = false by simpa using hp]
              have N2 := Lib.hid hp
              clear hp
              skip
              go_wp2_with fail
              rw [rounds_succ]
              generalize hm : numP (s.drop i) = m at *
              have hmle : m ≤ s.length - i := by rw [← hm, ← List.length_drop]; exact numP_le _
              have HM := Lib.hid hm
              have HNM : Hid (∀ u, Calls Tryz.prog 96 #[.string ((⟨s.toArray⟩ : ByteArray).extract i s.length)] u fun en w' => en = .returned (.int .i64 (m : Int)) ∧ w' = u) := Lib.hid (fun u => by rw [ext_drop, ← hm]; exact number_any' (s.drop i) u (by simp; omega))
              clear hm
              have HR0 : Hid (m = 0 → Q = .error 90) := Lib.hid (fun e => by
                rw [← HWQ.out, wordP, takeP_nx N0.out]
                simp only []
                rw [takeP_nx N1.out]
                simp only []
                rw [takeP_nx N2.out]
                simp only []
                rw [HM.out, if_pos e])
              have HR1 : Hid (m ≠ 0 → exactP ((s.drop i).take m) = none → Q = .error 95) := Lib.hid (fun e he => by
                rw [← HWQ.out, wordP, takeP_nx N0.out]
                simp only []
                rw [takeP_nx N1.out]
                simp only []
                rw [takeP_nx N2.out]
                simp only []
                rw [HM.out, if_neg e, he])
              have HR2 : Hid (∀ x, m ≠ 0 → exactP ((s.drop i).take m) = some x → Q = .ok (.mk 3 x [] [] [], blanks (s.drop (i + m)))) := Lib.hid (fun x e he => by
                rw [← HWQ.out, wordP, takeP_nx N0.out]
                simp only []
                rw [takeP_nx N1.out]
                simp only []
                rw [takeP_nx N2.out]
                simp only []
                rw [HM.out, if_neg e, he]
                simp [List.drop_drop])
              have hmx : m ≠ 0 → docX ((s.drop i).take m) = exactP ((s.drop i).take m) := fun e => by rw [← HM.out] at e ⊢; exact docX_num e
              have HMX := Lib.hid hmx
              clear HWQ hmx
              go_upto_region 9 with fail
              go_cut [6] (fun v wx => v = .int .i64 (m : Int) ∧ Fr NoB w3 wx)
              case first =>
                go_quiet (first | (go_at_call 96; refine Calls.quiet_of_same (HNM.out _)))
                go_wp2_with fail
                go_meet
                exact ⟨rfl, (Fr.refl NoB w3).drewN _⟩
              case rest =>
                obtain ⟨rfl, f4⟩ := hcut
                obtain ⟨w4, hwn⟩ : ∃ x, x = wc := ⟨_, rfl⟩
                subst hwn
                have q4 := q3.fr f4
                have g4 := f4.blk g3 (fun x => x)
                have F4 := F3.trans f4
                clear c0 c1 c2 z1 z2 HNM
                obtain ⟨c0, c1, c2, z1, z2⟩ := q4.cells
                by_cases hm0 : m = 0
                · have HR := Lib.hid (HR0.out hm0)
                  have km : ((m : Int) == 0) = true := by simp [hm0]
                  have F5 := F4
                  go_wp2_with (first | (go_at_call 42; ((with_reducible refine (wrong_90w q4).mono ?_); rintro e w6 ⟨rfl, q6, f6⟩; have gX := f6.blk g4 (fun (e : w.heap.size = b) => by clear HR0 HR1 HR2 HR HMX; omega))) | (refine wpList_store_row rfl 25 _ _ rfl w.heap.size #[.int .i64 0, .int .i64 0, .string ⟨#[]⟩, .slice none 0 0, .slice none 0 0] rfl rfl 25 zj gX size_json rfl (one_json _ _ _ _ _ _ _ _ _) ?_))
                  have gB := gX.setRow #[.int .i64 0, .int .i64 0, .string ⟨#[]⟩, .slice none 0 0, .slice none 0 0]
                  have fB := (F5.noB.trans f6).setRow w.heap.size #[.int .i64 0, .int .i64 0, .string ⟨#[]⟩, .slice none 0 0, .slice none 0 0] (Or.inl (Nat.le_refl _))
                  have qB := (Fr.rowO _ w.heap.size #[.int .i64 0, .int .i64 0, .string ⟨#[]⟩, .slice none 0 0, .slice none 0 0]).blk q6 (fun e => by have e' : b = w.heap.size := e; omega)
                  exact bodyPost_ret (v := jV 0 0 [] (.slice none 0 0) (.slice none 0 0)) (json_back rfl _ _ w.heap.size _ _ _ _ _ rfl gB) rfl (by rw [HR.out]; exact ⟨rfl, by omega, by simpa [QSt] using qB, fB⟩)
                · have km : ((m : Int) == 0) = false := by simp; omega
                  have k3 : (0 : Int) ≤ m := by omega
                  have k4 : (i : Int) + m ≤ s.length := by omega
                  have hpos : 0 < ((s.drop i).take m).length := by simp; omega
                  have HX : Hid (∀ u, Calls Tryz.prog 97 #[.string ((⟨s.toArray⟩ : ByteArray).extract i (i + m))] u fun en w' => ExIs (exactP ((s.drop i).take m)) en ∧ w' = u) := Lib.hid (fun u => by
                    rw [ext_mid, show i + m - i = m by omega, ← HMX.out hm0]
                    exact exact_any' _ u (by simp; omega) hpos)
                  have HM0 := Lib.hid hm0
                  clear hm0 hpos HMX HR0
                  cases he : exactP ((s.drop i).take m) with
                  | none =>
                    have HR := Lib.hid (HR1.out HM0.out he)
                    have HX : Hid (∀ u, Calls Tryz.prog 97 #[.string ((⟨s.toArray⟩ : ByteArray).extract i (i + m))] u fun en w' => en = .returned (.tuple #[.int .i64 0, .bool false]) ∧ w' = u) := Lib.hid (fun u => by have := HX.out u; rw [he] at this; exact this)
                    clear HR1 HR2 he
                    go_upto_region 13 with fail
                    go_cut [7, 8] (fun v v2 wx => v = .int .i64 0 ∧ v2 = .bool false ∧ Fr NoB w4 wx)
                    case first =>
                      go_quiet (first | (go_at_call 97; refine Calls.quiet_of_same (HX.out _)))
                      go_wp2_with fail
                      go_meet
                      exact ⟨rfl, rfl, (Fr.refl NoB w4).drewN _⟩
                    case rest =>
                      obtain ⟨rfl, rfl, f5⟩ := hcut
                      obtain ⟨w5, hwn⟩ : ∃ x, x = wc := ⟨_, rfl⟩
                      subst hwn
                      have q5 := q4.fr f5
                      have g5 := f5.blk g4 (fun x => x)
                      have F5 := F4.trans f5
                      clear HX
                      go_wp2_with (first | (go_at_call 42; ((with_reducible refine (wrong_95 q5).mono ?_); rintro e w6 ⟨rfl, q6, f6⟩; have gX := f6.blk g5 (fun e => by have e' : w.heap.size = b := e; omega))) | (refine wpList_store_row rfl 25 _ _ rfl w.heap.size #[.int .i64 0, .int .i64 0, .string ⟨#[]⟩, .slice none 0 0, .slice none 0 0] rfl rfl 25 zj gX size_json rfl (one_json _ _ _ _ _ _ _ _ _) ?_))
                      have gB := gX.setRow #[.int .i64 0, .int .i64 0, .string ⟨#[]⟩, .slice none 0 0, .slice none 0 0]
                      have fB := (F5.noB.trans f6).setRow w.heap.size #[.int .i64 0, .int .i64 0, .string ⟨#[]⟩, .slice none 0 0, .slice none 0 0] (Or.inl (Nat.le_refl _))
                      have qB := (Fr.rowO _ w.heap.size #[.int .i64 0, .int .i64 0, .string ⟨#[]⟩, .slice none 0 0, .slice none 0 0]).blk q6 (fun e => by have e' : b = w.heap.size := e; omega)
                      exact bodyPost_ret (v := jV 0 0 [] (.slice none 0 0) (.slice none 0 0)) (json_back rfl _ _ w.heap.size _ _ _ _ _ rfl gB) rfl (by rw [HR.out]; exact ⟨rfl, by omega, by simpa [QSt] using qB, fB⟩)
                  | some x =>
                    have HR := Lib.hid (HR2.out x HM0.out he)
                    have hxo := exactP_ok he
                    have HX : Hid (∀ u, Calls Tryz.prog 97 #[.string ((⟨s.toArray⟩ : ByteArray).extract i (i + m))] u fun en w' => en = .returned (.tuple #[.int .i64 x, .bool true]) ∧ w' = u) := Lib.hid (fun u => by have := HX.out u; rw [he] at this; exact this)
                    clear HR1 HR2 he
                    go_upto_region 13 with fail
                    go_cut [7, 8] (fun v v2 wx => v = .int .i64 x ∧ v2 = .bool true ∧ Fr NoB w4 wx)
                    case first =>
                      go_quiet (first | (go_at_call 97; refine Calls.quiet_of_same (HX.out _)))
                      go_wp2_with fail
                      go_meet
                      exact ⟨rfl, rfl, (Fr.refl NoB w4).drewN _⟩
                    case rest =>
                      obtain ⟨rfl, rfl, f5⟩ := hcut
                      obtain ⟨w5, hwn⟩ : ∃ x, x = wc := ⟨_, rfl⟩
                      subst hwn
                      have q5 := q4.fr f5
                      have g5 := f5.blk g4 (fun x => x)
                      have F5 := F4.trans f5
                      clear HX c0 c1 c2 z1 z2
                      obtain ⟨c0, c1, c2, z1, z2⟩ := q5.cells
                      have q6 := q5.goto (i + m)
                      rw [show ((i + m : Nat) : Int) = (i : Int) + m by omega] at q6
                      have f6 : Fr (Only b) w5 (w5.setCell ⟨b, 1, none⟩ (.int .i64 ((i : Int) + m))) := (Fr.refl _ _).only _
                      have gX := f6.blk g5 (fun e => by have e' : w.heap.size = b := e; omega)
                      go_wp2_with (refine wpList_store_row rfl 25 _ _ rfl w.heap.size #[.int .i64 3, .int .i64 x, .string ⟨#[]⟩, .slice none 0 0, .slice none 0 0] rfl rfl 25 zj gX size_json rfl (one_json _ _ _ _ _ _ _ _ _) ?_)
                      have gB := gX.setRow #[.int .i64 3, .int .i64 x, .string ⟨#[]⟩, .slice none 0 0, .slice none 0 0]
                      have fB := (F5.noB.trans f6).setRow w.heap.size #[.int .i64 3, .int .i64 x, .string ⟨#[]⟩, .slice none 0 0, .slice none 0 0] (Or.inl (Nat.le_refl _))
                      have qB := (Fr.rowO _ w.heap.size #[.int .i64 3, .int .i64 x, .string ⟨#[]⟩, .slice none 0 0, .slice none 0 0]).blk q6 (fun e => by have e' : b = w.heap.size := e; omega)
                      exact bodyPost_ret (v := jV 3 x [] (.slice none 0 0) (.slice none 0 0)) (json_back rfl _ _ w.heap.size _ _ _ _ _ rfl gB) rfl (by rw [HR.out]; exact ⟨3, x, rfl, by unfold IntOk; omega, by unfold IntOk; omega, rfl, ⟨i + m, qB, rfl, by have := HM0.out; omega, by omega⟩, fB⟩)
end Go.Proofs.YteeijmfnjcddmaaGreatDoor
/- JSON, the document's reader: value, but for what is nested. -/
namespace Go.Proofs.YteeijmfnjcddmaaGreatDoor
open Go.RowKit

theorem blanks_skip : ∀ x : Bs, blanks x = x.drop (skipB x)
  | [] => rfl
  | c :: r => by
    have ih := blanks_skip r
    have e : blanks (c :: r) = if isBl c then blanks r else c :: r := by
      have hc : blankCs.contains c = isBl c := by
        unfold blankCs isBl
        simp [Bool.or_assoc]
        rfl
      unfold blanks Lib.trimLeftS
      rw [List.dropWhile_cons, hc]
    rw [e, skip_cons]
    split
    · rw [ih, Nat.add_comm]; rfl
    · rfl
theorem drop_sk (s : Bs) (i : Nat) : s.drop (i + skipB (s.drop i)) = blanks (s.drop i) := by rw [blanks_skip, List.drop_drop]
theorem sk_le {s : Bs} {i : Nat} (h : i ≤ s.length) : i + skipB (s.drop i) ≤ s.length := by
  have h2 : skipB (s.drop i) ≤ (s.drop i).length := (List.takeWhile_sublist _).length_le
  rw [List.length_drop] at h2
  omega
theorem sk_far {s : Bs} {i : Nat} (h : s.length ≤ i) : i + skipB (s.drop i) = i := by
  rw [List.drop_eq_nil_of_le h]; rfl
theorem head_qat (s : Bs) (k : Nat) : (s.drop k).head? = if k < s.length then some (byteAt s k) else none := by
  by_cases h : k < s.length
  · rw [if_pos h, drop_b h]; rfl
  · rw [if_neg h, List.drop_eq_nil_of_le (by omega)]; rfl

/-- What value has to do, so many levels from the end. -/
def QVal (q : Pr) (s : Bs) (i b d : Nat) (w : World) (en : Ending) (w' : World) : Prop :=
  match q with
  | .ok (j, r) => ∃ v, en = .returned v ∧ JTop w.heap.size w' j v ∧ (∃ k, QSt w' b s k 0 ∧ s.drop k = r ∧ i < k ∧ k ≤ s.length) ∧ Fr (Only b) w w'
  | .error n => ∃ v0 v1 v2 v3 v4, en = .returned (.agg #[v0, v1, v2, v3, v4]) ∧ (#[v0, v1, v2, v3, v4].all (·.oneCell')) = true ∧ n ≠ 0 ∧ (∃ k, QSt w' b s k n ∧ k ≤ s.length + 12 + 4 * d) ∧ Fr (Only b) w w'
/-- at, where the byte is known. -/
theorem at_is {b i e : Nat} {s : Bs} {u : World} {c : UInt8} (h : QSt u b s i e) (hc : byteAt s i = c) : Calls Tryz.prog 68 #[.pointer (some ⟨b, 0, none⟩)] u fun en w' => en = .returned (.int .u8 (c.toNat : Int)) ∧ Fr NoB u w' := by rw [← hc]; exact at_q h

/-- What stands behind the switch: the variable's block V, the result's block w.heap.size. -/
structure VSt (w : World) (b V : Nat) (s : Bs) (k e : Nat) (row : Array Value) (u : World) : Prop where
  rd : QSt u b s k e
  res : Blk u w.heap.size 25 zj
  var : Blk u V 25 row
  fr : Fr (Only b) w u
  lt : w.heap.size < V

set_option maxRecDepth 100000 in
set_option maxHeartbeats 6400000 in
theorem qv_text {d b i : Nat} {s : Bs} {w : World} (n : Int) (h : QSt w b s i 0) (hb : b < w.heap.size) (hi : i ≤ s.length) (hl : s.length ≤ 65536) (hc : byteAt s (i + skipB (s.drop i)) = 34) :
    Calls Tryz.prog 41 #[.pointer (some ⟨b, 0, none⟩), .int .i64 n] w (QVal (valueP d (blanks (s.drop i))) s i b d w) := by
  have hj := sk_le hi
  have hij : i ≤ i + skipB (s.drop i) := by omega
  have HQ : Hid (valueP d (blanks (s.drop i)) = (match textP (s.drop (i + skipB (s.drop i))) with | none => .error 90 | some (t, r) => .ok (.mk 4 0 t [] [], r))) := Lib.hid (by
    have hlt : i + skipB (s.drop i) < s.length := by
      rcases Nat.lt_or_ge (i + skipB (s.drop i)) s.length with h | h
      · exact h
      · simp [byteAt, List.getD, h] at hc
    rw [← drop_sk]
    unfold valueP
    rw [head_qat, if_pos hlt, hc]
    rfl)
  have f0 : Fr NoB w (w.alloc (.cells zj 25)) := (Fr.refl _ _).alloc _
  have q0 := h.fr f0
  have g0 : Blk (w.alloc (.cells zj 25)) w.heap.size 25 zj := Blk.new w 25 zj
  have z0 : w.heap.size < (w.alloc (.cells zj 25)).heap.size := Blk.lt g0
  have HBl := Lib.hid (blanks_q q0 (by unfold big; omega) (by unfold big; omega))
  generalize hW : w.alloc (.cells zj 25) = W at *
  have HW := Lib.hid hW
  clear hW
  generalize valueP d (blanks (s.drop i)) = Q at *
  generalize i + skipB (s.drop i) = j at *
  have HC := Lib.hid hc
  clear hc
  go_enter Tryz.func41, Tryz.ntmps41
  go_upto_block 0 with (first | (rw [HW.out]) | (go_at_call 67; ((with_reducible refine HBl.out.mono ?_); rintro e w1 ⟨rfl, q1, f1⟩)) | (go_at_call 68; ((with_reducible refine (at_is q1 HC.out).mono ?_); rintro e w2 ⟨rfl, f2⟩)))
  have q2 := q1.fr f2
  have fV : Fr NoB w2 (w2.alloc (.cells zj 25)) := (Fr.refl _ _).alloc _
  have q3 := q2.fr fV
  have gV : Blk (w2.alloc (.cells zj 25)) w2.heap.size 25 zj := Blk.new w2 25 zj
  have F3 : Fr (Only b) w (w2.alloc (.cells zj 25)) := ((f0.noB.trans f1).trans f2.noB).trans fV.noB
  have g1 := f1.blk g0 (fun (e : w.heap.size = b) => by omega)
  have gR := fV.blk (f2.blk g1 (fun x => x)) (fun x => x)
  have hV : w.heap.size < w2.heap.size := Blk.lt (f2.blk g1 (fun x => x))
  generalize hV2 : w2.heap.size = V at *
  generalize hW3 : w2.alloc (.cells zj 25) = w3 at *
  clear hW3 hV2 fV
  have hT := text_q q3 (by have := Blk.lt gR; omega) hj (by omega)
  go_cut [] (fun wx => ∃ (t : Bs) (k e : Nat), VSt w b V s k e #[.int .i64 4, .int .i64 0, .string ⟨t.toArray⟩, .slice none 0 0, .slice none 0 0] wx ∧ Hid ((e = 0 ∧ Q = .ok (.mk 4 0 t [] [], blanks (s.drop k)) ∧ i < k ∧ k ≤ s.length ∧ t.length ≤ 262144) ∨ (e = 90 ∧ Q = .error 90 ∧ k ≤ s.length + 12)))
  case first =>
    have HT := Lib.hid hT
    have hjt : (s.drop j).length ≤ 65536 := by rw [List.length_drop]; omega
    cases ht : textP (s.drop j) with
    | none =>
      have HR : Hid (Q = .error 90) := Lib.hid (by rw [HQ.out, ht])
      have HTn : Hid (Calls Tryz.prog 69 #[.pointer (some ⟨b, 0, none⟩)] w3 fun en w' => ∃ t, en = .returned (sV t) ∧ (∃ k, QSt w' b s k 90 ∧ k ≤ s.length + 12) ∧ Fr (Only b) w3 w') := Lib.hid (by have := HT.out; unfold TxtIs at this; rw [ht] at this; exact this)
      clear HQ ht HT hT
      go_wp2_with (first | (go_at_call 69; ((with_reducible refine HTn.out.mono ?_); rintro e w4 ⟨t, rfl, ⟨k, q4, hk⟩, f4⟩; have gA := f4.blk gV (fun (e : V = b) => by omega))) | (refine wpList_store_row rfl 25 _ _ rfl V #[.int .i64 4, .int .i64 0, .string ⟨t.toArray⟩, .slice none 0 0, .slice none 0 0] rfl rfl 25 zj gA size_json rfl (one_json _ _ _ _ _ _ _ _ _) ?_))
      go_meet
      exact ⟨t, k, 90, ⟨(Fr.rowO w4 V _).blk q4 (fun (e : b = V) => by omega), (Fr.rowO w4 V _).blk (f4.blk gR (fun (e : w.heap.size = b) => by omega)) (fun (e : w.heap.size = V) => by omega), gA.setRow _, (F3.trans f4).setRow V _ (Or.inl (by omega)), hV⟩, Lib.hid (Or.inr ⟨rfl, HR.out, hk⟩)⟩
    | some p =>
      obtain ⟨t, r⟩ := p
      have HR : Hid (Q = .ok (.mk 4 0 t [] [], r)) := Lib.hid (by rw [HQ.out, ht])
      have htl := textP_tlen hjt ht
      have HTn : Hid (Calls Tryz.prog 69 #[.pointer (some ⟨b, 0, none⟩)] w3 fun en w' => en = .returned (sV t) ∧ (∃ k, QSt w' b s k 0 ∧ blanks (s.drop k) = r ∧ j < k ∧ k ≤ s.length) ∧ Fr (Only b) w3 w') := Lib.hid (by have := HT.out; unfold TxtIs at this; rw [ht] at this; exact this)
      clear HQ ht HT hT
      go_wp2_with (first | (go_at_call 69; ((with_reducible refine HTn.out.mono ?_); rintro e w4 ⟨rfl, ⟨k, q4, hkr, hjk, hk⟩, f4⟩; have gA := f4.blk gV (fun (e : V = b) => by omega))) | (refine wpList_store_row rfl 25 _ _ rfl V #[.int .i64 4, .int .i64 0, .string ⟨t.toArray⟩, .slice none 0 0, .slice none 0 0] rfl rfl 25 zj gA size_json rfl (one_json _ _ _ _ _ _ _ _ _) ?_))
      go_meet
      exact ⟨t, k, 0, ⟨(Fr.rowO w4 V _).blk q4 (fun (e : b = V) => by omega), (Fr.rowO w4 V _).blk (f4.blk gR (fun (e : w.heap.size = b) => by omega)) (fun (e : w.heap.size = V) => by omega), gA.setRow _, (F3.trans f4).setRow V _ (Or.inl (by omega)), hV⟩, Lib.hid (Or.inl ⟨rfl, by rw [HR.out, hkr], by omega, hk, htl⟩)⟩
  case rest =>
    obtain ⟨t, k, e, hv, HR⟩ := hcut
    obtain ⟨w5, hwn⟩ : ∃ x, x = wc := ⟨_, rfl⟩
    subst hwn
    obtain ⟨q5, gR5, gV5, F5, _⟩ := hv
    obtain ⟨c0, c1, c2, z1, z2⟩ := q5.cells
    clear HBl f1 f2 q0 q1 q2 q3 g0 g1 gR gV hT HQ F3
    rcases HR.out with ⟨rfl, hQ, hik, hk, htl⟩ | ⟨rfl, hQ, hk⟩
    · have HQ := Lib.hid hQ
      clear hQ HR
      have HB2 := Lib.hid (blanks_q q5 (by unfold big; omega) (by unfold big; omega))
      go_wp2_with (first | (go_at_call 67; ((with_reducible refine HB2.out.mono ?_); rintro e w6 ⟨rfl, q6, f6⟩; have gR6 := f6.blk gR5 (fun (e : w.heap.size = b) => by omega); have gV6 := f6.blk gV5 (fun (e : V = b) => by omega))) | (refine wpList_load_row rfl 25 _ rfl V rfl 25 _ _ _ gV6 Tryz.underlying25 rfl size_json ?_) | (refine wpList_store_row rfl 25 _ _ rfl w.heap.size #[.int .i64 4, .int .i64 0, .string ⟨t.toArray⟩, .slice none 0 0, .slice none 0 0] rfl rfl 25 zj gR6 size_json rfl (one_json _ _ _ _ _ _ _ _ _) ?_))
      have gB := gR6.setRow #[.int .i64 4, .int .i64 0, .string ⟨t.toArray⟩, .slice none 0 0, .slice none 0 0]
      have fB := (F5.trans f6).setRow w.heap.size #[.int .i64 4, .int .i64 0, .string ⟨t.toArray⟩, .slice none 0 0, .slice none 0 0] (Or.inl (Nat.le_refl _))
      have qB := (Fr.rowO _ w.heap.size #[.int .i64 4, .int .i64 0, .string ⟨t.toArray⟩, .slice none 0 0, .slice none 0 0]).blk q6 (fun (e : b = w.heap.size) => by omega)
      exact bodyPost_ret (v := jV 4 0 t (.slice none 0 0) (.slice none 0 0)) (json_back rfl _ _ w.heap.size _ _ _ _ _ rfl gB) rfl (by rw [HQ.out]; exact ⟨_, rfl, jtop_leaf 4 0 t (by unfold IntOk; omega) (by unfold IntOk; omega) (by unfold big; omega), ⟨_, qB, drop_sk s k, by omega, sk_le hk⟩, fB⟩)
    · have HQ := Lib.hid hQ
      clear hQ HR
      have k1 : ((90 : Int) == 0) = false := rfl
      go_wp2_with (first | (refine wpList_load_row rfl 25 _ rfl V rfl 25 _ _ _ gV5 Tryz.underlying25 rfl size_json ?_) | (refine wpList_store_row rfl 25 _ _ rfl w.heap.size #[.int .i64 4, .int .i64 0, .string ⟨t.toArray⟩, .slice none 0 0, .slice none 0 0] rfl rfl 25 zj gR5 size_json rfl (one_json _ _ _ _ _ _ _ _ _) ?_))
      have gB := gR5.setRow #[.int .i64 4, .int .i64 0, .string ⟨t.toArray⟩, .slice none 0 0, .slice none 0 0]
      have fB := F5.setRow w.heap.size #[.int .i64 4, .int .i64 0, .string ⟨t.toArray⟩, .slice none 0 0, .slice none 0 0] (Or.inl (Nat.le_refl _))
      have qB := (Fr.rowO _ w.heap.size #[.int .i64 4, .int .i64 0, .string ⟨t.toArray⟩, .slice none 0 0, .slice none 0 0]).blk q5 (fun (e : b = w.heap.size) => by omega)
      exact bodyPost_ret (v := jV 4 0 t (.slice none 0 0) (.slice none 0 0)) (json_back rfl _ _ w.heap.size _ _ _ _ _ rfl gB) rfl (by rw [HQ.out]; exact ⟨_, _, _, _, _, rfl, one_json _ _ _ _ _ _ _ _ _, by omega, ⟨k, qB, by omega⟩, fB⟩)
set_option maxRecDepth 100000 in
set_option maxHeartbeats 6400000 in
theorem qv_word {d b i : Nat} {s : Bs} {w : World} (n : Int) (h : QSt w b s i 0) (hb : b < w.heap.size) (hi : i ≤ s.length) (hl : s.length ≤ 65536) (h34 : byteAt s (i + skipB (s.drop i)) ≠ 34) (h91 : byteAt s (i + skipB (s.drop i)) ≠ 91) (h123 : byteAt s (i + skipB (s.drop i)) ≠ 123) :
    Calls Tryz.prog 41 #[.pointer (some ⟨b, 0, none⟩), .int .i64 n] w (QVal (valueP d (blanks (s.drop i))) s i b d w) := by
  have hj := sk_le hi
  have hij : i ≤ i + skipB (s.drop i) := by omega
  have HQ : Hid (valueP d (blanks (s.drop i)) = wordP (s.drop (i + skipB (s.drop i)))) := Lib.hid (by
    rw [← drop_sk]
    unfold valueP
    rw [head_qat]
    split
    · rename_i e; split at e
      · exact absurd (Option.some.inj e) h34
      · cases e
    · rename_i e; split at e
      · exact absurd (Option.some.inj e) h91
      · cases e
    · rename_i e; split at e
      · exact absurd (Option.some.inj e) h123
      · cases e
    · rfl)
  have f0 : Fr NoB w (w.alloc (.cells zj 25)) := (Fr.refl _ _).alloc _
  have q0 := h.fr f0
  have g0 : Blk (w.alloc (.cells zj 25)) w.heap.size 25 zj := Blk.new w 25 zj
  have z0 : w.heap.size < (w.alloc (.cells zj 25)).heap.size := Blk.lt g0
  have HBl := Lib.hid (blanks_q q0 (by unfold big; omega) (by unfold big; omega))
  generalize hW : w.alloc (.cells zj 25) = W at *
  have HW := Lib.hid hW
  clear hW
  generalize valueP d (blanks (s.drop i)) = Q at *
  generalize i + skipB (s.drop i) = j at *
  have b34 : (((byteAt s j).toNat : Int) == 34) = false := u8_ne 34 (by omega) h34
  have b91 : (((byteAt s j).toNat : Int) == 91) = false := u8_ne 91 (by omega) h91
  have b123 : (((byteAt s j).toNat : Int) == 123) = false := u8_ne 123 (by omega) h123
  have HC : Hid (∃ c, byteAt s j = c ∧ ((c.toNat : Int) == 34) = false ∧ ((c.toNat : Int) == 91) = false ∧ ((c.toNat : Int) == 123) = false) := Lib.hid ⟨_, rfl, b34, b91, b123⟩
  clear h34 h91 h123 b34 b91 b123
  obtain ⟨c, hc, b34, b91, b123⟩ := HC.out
  have HC := Lib.hid hc
  clear hc
  go_enter Tryz.func41, Tryz.ntmps41
  go_upto_block 0 with (first | (rw [HW.out]) | (go_at_call 67; ((with_reducible refine HBl.out.mono ?_); rintro e w1 ⟨rfl, q1, f1⟩)) | (go_at_call 68; ((with_reducible refine (at_is q1 HC.out).mono ?_); rintro e w2 ⟨rfl, f2⟩)))
  have q2 := q1.fr f2
  have fV : Fr NoB w2 (w2.alloc (.cells zj 25)) := (Fr.refl _ _).alloc _
  have q3 := q2.fr fV
  have gV : Blk (w2.alloc (.cells zj 25)) w2.heap.size 25 zj := Blk.new w2 25 zj
  have F3 : Fr (Only b) w (w2.alloc (.cells zj 25)) := ((f0.noB.trans f1).trans f2.noB).trans fV.noB
  have g1 := f1.blk g0 (fun (e : w.heap.size = b) => by omega)
  have gR := fV.blk (f2.blk g1 (fun x => x)) (fun x => x)
  have hV : w.heap.size < w2.heap.size := Blk.lt (f2.blk g1 (fun x => x))
  generalize hV2 : w2.heap.size = V at *
  generalize hW3 : w2.alloc (.cells zj 25) = w3 at *
  clear hW3 hV2 fV
  have hT := word_q q3 (by have := Blk.lt gR; omega) hj hl
  go_cut [] (fun wx => ∃ (kd x : Int) (k e : Nat), VSt w b V s k e #[.int .i64 kd, .int .i64 x, .string ⟨#[]⟩, .slice none 0 0, .slice none 0 0] wx ∧ Hid ((e = 0 ∧ Q = .ok (.mk kd x [] [] [], blanks (s.drop k)) ∧ i < k ∧ k ≤ s.length ∧ IntOk kd ∧ IntOk x) ∨ (e ≠ 0 ∧ Q = .error e ∧ k ≤ s.length)))
  case first =>
    have HT := Lib.hid hT
    cases ht : wordP (s.drop j) with
    | error n =>
      have HR : Hid (Q = .error n) := Lib.hid (by rw [HQ.out, ht])
      have HTn : Hid (Calls Tryz.prog 71 #[.pointer (some ⟨b, 0, none⟩)] w3 fun en w' => en = .returned (jV 0 0 [] (.slice none 0 0) (.slice none 0 0)) ∧ n ≠ 0 ∧ QSt w' b s j n ∧ Fr (Only b) w3 w') := Lib.hid (by have := HT.out; unfold WordIs at this; rw [ht] at this; exact this)
      clear HQ ht HT hT
      go_wp2_with (first | (go_at_call 71; ((with_reducible refine HTn.out.mono ?_); rintro e w4 ⟨rfl, hn0, q4, f4⟩; have gA := f4.blk gV (fun (e : V = b) => by omega))) | (refine wpList_store_row rfl 25 _ _ rfl V #[.int .i64 0, .int .i64 0, .string ⟨#[]⟩, .slice none 0 0, .slice none 0 0] rfl rfl 25 zj gA size_json rfl (one_json _ _ _ _ _ _ _ _ _) ?_))
      go_meet
      exact ⟨0, 0, j, n, ⟨(Fr.rowO w4 V _).blk q4 (fun (e : b = V) => by omega), (Fr.rowO w4 V _).blk (f4.blk gR (fun (e : w.heap.size = b) => by omega)) (fun (e : w.heap.size = V) => by omega), gA.setRow _, (F3.trans f4).setRow V _ (Or.inl (by omega)), hV⟩, Lib.hid (Or.inr ⟨hn0, HR.out, hj⟩)⟩
    | ok p =>
      obtain ⟨jv, r⟩ := p
      have HR : Hid (Q = .ok (jv, r)) := Lib.hid (by rw [HQ.out, ht])
      have hTo := HT.out
      unfold WordIs at hTo
      rw [ht] at hTo
      have HTo : Hid (Calls Tryz.prog 71 #[.pointer (some ⟨b, 0, none⟩)] w3 fun en w' => ∃ kd x : Int, jv = .mk kd x [] [] [] ∧ IntOk kd ∧ IntOk x ∧ en = .returned (jV kd x [] (.slice none 0 0) (.slice none 0 0)) ∧ (∃ k, QSt w' b s k 0 ∧ blanks (s.drop k) = r ∧ j < k ∧ k ≤ s.length) ∧ Fr (Only b) w3 w') := Lib.hid hTo
      clear HQ ht HT hT hTo
      go_wp2_with (first | (go_at_call 71; ((with_reducible refine HTo.out.mono ?_); rintro e w4 ⟨kd, x, hjv, hk1, hk2, rfl, ⟨k, q4, hkr, hjk, hk⟩, f4⟩; have gA := f4.blk gV (fun (e : V = b) => by omega))) | (refine wpList_store_row rfl 25 _ _ rfl V #[.int .i64 kd, .int .i64 x, .string ⟨#[]⟩, .slice none 0 0, .slice none 0 0] rfl rfl 25 zj gA size_json rfl (one_json _ _ _ _ _ _ _ _ _) ?_))
      go_meet
      exact ⟨kd, x, k, 0, ⟨(Fr.rowO w4 V _).blk q4 (fun (e : b = V) => by omega), (Fr.rowO w4 V _).blk (f4.blk gR (fun (e : w.heap.size = b) => by omega)) (fun (e : w.heap.size = V) => by omega), gA.setRow _, (F3.trans f4).setRow V _ (Or.inl (by omega)), hV⟩, Lib.hid (Or.inl ⟨rfl, by rw [HR.out, hkr, hjv], by omega, hk, hk1, hk2⟩)⟩
  case rest =>
    obtain ⟨kd, x, k, e, hv, HR⟩ := hcut
    obtain ⟨w5, hwn⟩ : ∃ x, x = wc := ⟨_, rfl⟩
    subst hwn
    obtain ⟨q5, gR5, gV5, F5, _⟩ := hv
    obtain ⟨c0, c1, c2, z1, z2⟩ := q5.cells
    clear HBl f1 f2 q0 q1 q2 q3 g0 g1 gR gV hT HQ F3
    rcases HR.out with ⟨rfl, hQ, hik, hk, hk1, hk2⟩ | ⟨he0, hQ, hk⟩
    · have HQ := Lib.hid hQ
      clear hQ HR
      have HB2 := Lib.hid (blanks_q q5 (by unfold big; omega) (by unfold big; omega))
      go_wp2_with (first | (go_at_call 67; ((with_reducible refine HB2.out.mono ?_); rintro e w6 ⟨rfl, q6, f6⟩; have gR6 := f6.blk gR5 (fun (e : w.heap.size = b) => by omega); have gV6 := f6.blk gV5 (fun (e : V = b) => by omega))) | (refine wpList_load_row rfl 25 _ rfl V rfl 25 _ _ _ gV6 Tryz.underlying25 rfl size_json ?_) | (refine wpList_store_row rfl 25 _ _ rfl w.heap.size #[.int .i64 kd, .int .i64 x, .string ⟨#[]⟩, .slice none 0 0, .slice none 0 0] rfl rfl 25 zj gR6 size_json rfl (one_json _ _ _ _ _ _ _ _ _) ?_))
      have gB := gR6.setRow #[.int .i64 kd, .int .i64 x, .string ⟨#[]⟩, .slice none 0 0, .slice none 0 0]
      have fB := (F5.trans f6).setRow w.heap.size #[.int .i64 kd, .int .i64 x, .string ⟨#[]⟩, .slice none 0 0, .slice none 0 0] (Or.inl (Nat.le_refl _))
      have qB := (Fr.rowO _ w.heap.size #[.int .i64 kd, .int .i64 x, .string ⟨#[]⟩, .slice none 0 0, .slice none 0 0]).blk q6 (fun (e : b = w.heap.size) => by omega)
      exact bodyPost_ret (v := jV kd x [] (.slice none 0 0) (.slice none 0 0)) (json_back rfl _ _ w.heap.size _ _ _ _ _ rfl gB) rfl (by rw [HQ.out]; exact ⟨_, rfl, jtop_leaf kd x [] hk1 hk2 (by simp), ⟨_, qB, drop_sk s k, by omega, sk_le hk⟩, fB⟩)
    · have HQ := Lib.hid hQ
      clear hQ HR
      have k1 : ((e : Int) == 0) = false := by simp; omega
      go_wp2_with (first | (refine wpList_load_row rfl 25 _ rfl V rfl 25 _ _ _ gV5 Tryz.underlying25 rfl size_json ?_) | (refine wpList_store_row rfl 25 _ _ rfl w.heap.size #[.int .i64 kd, .int .i64 x, .string ⟨#[]⟩, .slice none 0 0, .slice none 0 0] rfl rfl 25 zj gR5 size_json rfl (one_json _ _ _ _ _ _ _ _ _) ?_))
      have gB := gR5.setRow #[.int .i64 kd, .int .i64 x, .string ⟨#[]⟩, .slice none 0 0, .slice none 0 0]
      have fB := F5.setRow w.heap.size #[.int .i64 kd, .int .i64 x, .string ⟨#[]⟩, .slice none 0 0, .slice none 0 0] (Or.inl (Nat.le_refl _))
      have qB := (Fr.rowO _ w.heap.size #[.int .i64 kd, .int .i64 x, .string ⟨#[]⟩, .slice none 0 0, .slice none 0 0]).blk q5 (fun (e : b = w.heap.size) => by omega)
      exact bodyPost_ret (v := jV kd x [] (.slice none 0 0) (.slice none 0 0)) (json_back rfl _ _ w.heap.size _ _ _ _ _ rfl gB) rfl (by rw [HQ.out]; exact ⟨_, _, _, _, _, rfl, one_json _ _ _ _ _ _ _ _ _, he0, ⟨k, qB, by omega⟩, fB⟩)


set_option maxRecDepth 100000 in
set_option maxHeartbeats 6400000 in
theorem qv_deep {b i : Nat} {s : Bs} {w : World} {n : Int} (h : QSt w b s i 0) (hb : b < w.heap.size) (hi : i ≤ s.length) (hl : s.length ≤ 65536) (c : UInt8) (hc : byteAt s (i + skipB (s.drop i)) = c) (hcc : c = 91 ∨ c = 123) (hn : 32 ≤ n) :
    Calls Tryz.prog 41 #[.pointer (some ⟨b, 0, none⟩), .int .i64 n] w (QVal (valueP 0 (blanks (s.drop i))) s i b 0 w) := by
  have hj := sk_le hi
  have hij : i ≤ i + skipB (s.drop i) := by omega
  have HQ : Hid (valueP 0 (blanks (s.drop i)) = .error 91) := Lib.hid (by
    have hlt : i + skipB (s.drop i) < s.length := by
      rcases Nat.lt_or_ge (i + skipB (s.drop i)) s.length with h | h
      · exact h
      · have : byteAt s (i + skipB (s.drop i)) = 0 := by simp [byteAt, List.getD, h]
        rw [hc] at this
        rcases hcc with rfl | rfl <;> cases this
    rw [← drop_sk]
    unfold valueP
    rw [head_qat, if_pos hlt, hc]
    rcases hcc with rfl | rfl <;> rfl)
  have f0 : Fr NoB w (w.alloc (.cells zj 25)) := (Fr.refl _ _).alloc _
  have q0 := h.fr f0
  have g0 : Blk (w.alloc (.cells zj 25)) w.heap.size 25 zj := Blk.new w 25 zj
  have z0 : w.heap.size < (w.alloc (.cells zj 25)).heap.size := Blk.lt g0
  have HBl := Lib.hid (blanks_q q0 (by unfold big; omega) (by unfold big; omega))
  generalize hW : w.alloc (.cells zj 25) = W at *
  have HW := Lib.hid hW
  clear hW
  generalize valueP 0 (blanks (s.drop i)) = Q at *
  generalize i + skipB (s.drop i) = j at *
  have HC := Lib.hid hc
  clear hc
  have QW : Hid (∀ (u : World) (k : Nat), QSt u b s k 0 → Calls Tryz.prog 42 #[.pointer (some ⟨b, 0, none⟩), .int .i64 91] u fun en w' => en = .returned (.tuple #[]) ∧ QSt w' b s k 91 ∧ Fr (Only b) u w') := Lib.hid (fun u k h => wrong_any h 91)
  have kn : n ≥ 32 := hn
  rcases hcc with rfl | rfl
  · go_enter Tryz.func41, Tryz.ntmps41
    go_wp2_with (first | (rw [HW.out]) | (go_at_call 67; ((with_reducible refine HBl.out.mono ?_); rintro e w1 ⟨rfl, q1, f1⟩)) | (go_at_call 68; ((with_reducible refine (at_is q1 HC.out).mono ?_); rintro e w2 ⟨rfl, f2⟩; have q2 := q1.fr f2; have fV : Fr NoB w2 (w2.alloc (.cells zj 25)) := (Fr.refl _ _).alloc _; have q3 := q2.fr fV; have gV : Blk (w2.alloc (.cells zj 25)) w2.heap.size 25 zj := Blk.new w2 25 zj)) | (go_at_call 42; ((with_reducible refine (QW.out _ _ q3).mono ?_); rintro e w4 ⟨rfl, q4, f4⟩; have hV : w.heap.size < w2.heap.size := Blk.lt (f2.blk (f1.blk g0 (fun (e : w.heap.size = b) => by omega)) (fun x => x)); have gR4 := f4.blk (fV.blk (f2.blk (f1.blk g0 (fun (e : w.heap.size = b) => by omega)) (fun x => x)) (fun x => x)) (fun (e : w.heap.size = b) => by omega); have gV4 := f4.blk gV (fun (e : w2.heap.size = b) => by omega); have F4 : Fr (Only b) w w4 := (((f0.noB.trans f1).trans f2.noB).trans fV.noB).trans f4)) | (refine wpList_load_row rfl 25 _ rfl w2.heap.size rfl 25 _ _ _ gV4 Tryz.underlying25 rfl size_json ?_) | (refine wpList_store_row rfl 25 _ _ rfl w.heap.size zj rfl rfl 25 zj gR4 size_json rfl (one_json _ _ _ _ _ _ _ _ _) ?_))
    have gB := gR4.setRow zj
    have fB := F4.setRow w.heap.size zj (Or.inl (Nat.le_refl _))
    have qB := (Fr.rowO _ w.heap.size zj).blk q4 (fun (e : b = w.heap.size) => by omega)
    exact bodyPost_ret (v := jV 0 0 [] (.slice none 0 0) (.slice none 0 0)) (json_back rfl _ _ w.heap.size _ _ _ _ _ rfl gB) rfl (by rw [HQ.out]; exact ⟨_, _, _, _, _, rfl, one_json _ _ _ _ _ _ _ _ _, by omega, ⟨j, qB, by omega⟩, fB⟩)
  · go_enter Tryz.func41, Tryz.ntmps41
    go_wp2_with (first | (rw [HW.out]) | (go_at_call 67; ((with_reducible refine HBl.out.mono ?_); rintro e w1 ⟨rfl, q1, f1⟩)) | (go_at_call 68; ((with_reducible refine (at_is q1 HC.out).mono ?_); rintro e w2 ⟨rfl, f2⟩; have q2 := q1.fr f2; have fV : Fr NoB w2 (w2.alloc (.cells zj 25)) := (Fr.refl _ _).alloc _; have q3 := q2.fr fV; have gV : Blk (w2.alloc (.cells zj 25)) w2.heap.size 25 zj := Blk.new w2 25 zj)) | (go_at_call 42; ((with_reducible refine (QW.out _ _ q3).mono ?_); rintro e w4 ⟨rfl, q4, f4⟩; have hV : w.heap.size < w2.heap.size := Blk.lt (f2.blk (f1.blk g0 (fun (e : w.heap.size = b) => by omega)) (fun x => x)); have gR4 := f4.blk (fV.blk (f2.blk (f1.blk g0 (fun (e : w.heap.size = b) => by omega)) (fun x => x)) (fun x => x)) (fun (e : w.heap.size = b) => by omega); have gV4 := f4.blk gV (fun (e : w2.heap.size = b) => by omega); have F4 : Fr (Only b) w w4 := (((f0.noB.trans f1).trans f2.noB).trans fV.noB).trans f4)) | (refine wpList_load_row rfl 25 _ rfl w2.heap.size rfl 25 _ _ _ gV4 Tryz.underlying25 rfl size_json ?_) | (refine wpList_store_row rfl 25 _ _ rfl w.heap.size zj rfl rfl 25 zj gR4 size_json rfl (one_json _ _ _ _ _ _ _ _ _) ?_))
    have gB := gR4.setRow zj
    have fB := F4.setRow w.heap.size zj (Or.inl (Nat.le_refl _))
    have qB := (Fr.rowO _ w.heap.size zj).blk q4 (fun (e : b = w.heap.size) => by omega)
    exact bodyPost_ret (v := jV 0 0 [] (.slice none 0 0) (.slice none 0 0)) (json_back rfl _ _ w.heap.size _ _ _ _ _ rfl gB) rfl (by rw [HQ.out]; exact ⟨_, _, _, _, _, rfl, one_json _ _ _ _ _ _ _ _ _, by omega, ⟨j, qB, by omega⟩, fB⟩)
end Go.Proofs.YteeijmfnjcddmaaGreatDoor
