/- The document's replay cache: what its functions do. -/
import Derived.Test.YtkhaeoggchnheaaCacheQ
import Derived.Deep.RegionHeld3
import Derived.Deep.AppendLies
import Derived.Deep.LoopGhost
namespace Go.Proofs.Ytkhaeoggchnheaa
open Go.RowKit Go.Maps Go.WideMaps

theorem rtick_any (n : Int) (w : World) :
    Calls Try.prog 21 #[.int .i64 n] w fun e w' => e = .returned (.bool (tickB n)) ∧ w = w' := by
  by_cases h0 : 0 ≤ n
  · by_cases h1 : n ≤ 1099511627776
    · have hf := Lib.hid (tickB_yes h0 h1)
      go_enter Try.func21, Try.ntmps21
      go_wp2
      go_ret
      exact ⟨by rw [hf.out]; rfl, rfl⟩
    · have hf := Lib.hid (tickB_no (n := n) (by omega))
      go_enter Try.func21, Try.ntmps21
      go_wp2
      go_ret
      exact ⟨by rw [hf.out]; rfl, rfl⟩
  · have hf := Lib.hid (tickB_no (n := n) (by omega))
    go_enter Try.func21, Try.ntmps21
    go_wp2
    go_ret
    exact ⟨by rw [hf.out]; rfl, rfl⟩
theorem rtick_yes (n : Int) (w : World) (h : tickB n = true) :
    Calls Try.prog 21 #[.int .i64 n] w fun e w' => e = .returned (.bool true) ∧ w = w' := (rtick_any n w).mono fun _ _ ⟨he, hw⟩ => ⟨by rw [he, h], hw⟩
theorem rtick_no (n : Int) (w : World) (h : tickB n = false) :
    Calls Try.prog 21 #[.int .i64 n] w fun e w' => e = .returned (.bool false) ∧ w = w' := (rtick_any n w).mono fun _ _ ⟨he, hw⟩ => ⟨by rw [he, h], hw⟩

theorem rnew_no (n : Int) (w : World) (h : n < 1 ∨ 64 < n) :
    Calls Try.prog 12 #[.int .i64 n] w fun e w' => e = .returned (.tuple #[.pointer none, .int .i64 1]) ∧ w = w' := by
  rcases h with h | h
  · go_enter Try.func12, Try.ntmps12
    go_wp2
    go_ret2
    exact ⟨rfl, rfl⟩
  · have h' : ¬ n < 1 := by omega
    go_enter Try.func12, Try.ntmps12
    go_wp2
    go_ret2
    exact ⟨rfl, rfl⟩
theorem rnew_yes (n : Int) (w : World) (h1 : 1 ≤ n) (h2 : n ≤ 64) :
    Calls Try.prog 12 #[.int .i64 n] w fun e w' => e = .returned (.tuple #[.pointer (some ⟨w.heap.size, 0, none⟩), .int .i64 0]) ∧
      w.alloc (.cells #[.int .i64 n, .int .i64 0, .slice none 0 0] 53) = w' := by
  go_enter Try.func12, Try.ntmps12
  go_wp2
  go_ret2
  exact ⟨rfl, rfl⟩

/-- The entries in their cells. -/
def flat (L : List (ByteArray × Int)) : List Value := L.flatMap fun p => [.string p.1, .int .i64 p.2]
theorem flat_len (L : List (ByteArray × Int)) : (flat L).length = L.length * 2 := by
  unfold flat
  induction L with
  | nil => rfl
  | cons p r ih => simp only [List.flatMap_cons, List.length_append, ih, List.length_cons, List.length_nil]; omega
theorem flat_snoc (L : List (ByteArray × Int)) (s : ByteArray) (t : Int) : flat (L ++ [(s, t)]) = flat L ++ [.string s, .int .i64 t] := by simp [flat]
theorem flat_at : ∀ (L : List (ByteArray × Int)) (i : Nat) (h : i < L.length), (flat L)[i * 2]? = some (.string L[i].1) ∧ (flat L)[i * 2 + 1]? = some (.int .i64 L[i].2)
  | p :: r, 0, _ => ⟨rfl, rfl⟩
  | p :: r, i + 1, h => by
    have ih := flat_at r i (by simpa using h)
    have e : flat (p :: r) = .string p.1 :: .int .i64 p.2 :: flat r := rfl
    rw [e, show (i + 1) * 2 = i * 2 + 1 + 1 by omega, show i * 2 + 1 + 1 + 1 = (i * 2 + 1) + 1 + 1 by omega]
    simpa using ih

/-- A cache of the document's lies at block b, its entries where its slice leads. -/
structure IsR (w : World) (base b : Nat) (A : Option Addr) (cap : Nat) (room clock : Int) (L : List (ByteArray × Int)) : Prop where
  blk : Blk w b 53 #[.int .i64 room, .int .i64 clock, .slice A L.length cap]
  row : w.ownsRow base 55 2 (.slice A L.length cap) L.length (flat L)

/-- The block of the entries, if there is one. -/
def rowB (A : Option Addr) : Option Nat := A.map (·.block)
theorem ownB_slice (A : Option Addr) (n c : Nat) : (Value.slice A n c).ownBlock = rowB A := by cases A <;> rfl

section
variable {w w' : World} {base b cap : Nat} {A : Option Addr} {room clock : Int} {L : List (ByteArray × Int)}
theorem IsR.drew (h : IsR w base b A cap room clock L) : IsR w.drew base b A cap room clock L := ⟨h.blk, h.row⟩
theorem IsR.drewN (h : IsR w base b A cap room clock L) (k : Nat) : IsR (w.drewN k) base b A cap room clock L := ⟨h.blk, h.row⟩
theorem IsR.fr {S : Nat → Prop} (h : IsR w base b A cap room clock L) (f : Fr S w w') (hb : ¬ S b) (hr : ∀ g, rowB A = some g → ¬ S g) : IsR w' base b A cap room clock L :=
  ⟨f.blk h.blk hb, f.row h.row (fun g hg => hr g (by rw [← ownB_slice A L.length cap]; exact hg))⟩
theorem IsR.al (h : IsR w base b A cap room clock L) (o : Obj) : IsR (w.alloc o) base b A cap room clock L := h.fr ((Fr.refl NoB w).alloc o) (fun x => x) (fun _ _ x => x)
theorem IsR.cells (h : IsR w base b A cap room clock L) :
    w.cell? ⟨b, 0, none⟩ = some (.int .i64 room) ∧ w.cell? ⟨b, 1, none⟩ = some (.int .i64 clock) ∧ w.cell? ⟨b, 2, none⟩ = some (.slice A L.length cap) ∧ w.frozen? ⟨b, 1, none⟩ = false ∧ w.frozen? ⟨b, 2, none⟩ = false :=
  ⟨h.blk.cell 0, h.blk.cell 1, h.blk.cell 2, h.blk.frozen 1, h.blk.frozen 2⟩
theorem radd0 (g j : Nat) : (⟨g, 0, none⟩ : Addr).add j = ⟨g, j, none⟩ := by
  unfold Addr.add
  split
  · rename_i h; subst h; rfl
  · simp
theorem IsR.shape (h : IsR w base b A cap room clock L) : (A = none ∧ L = [] ∧ cap = 0) ∨ ∃ g, A = some ⟨g, 0, none⟩ ∧ base ≤ g ∧ g < w.heap.size ∧ cap ≤ maxLen := by
  rcases h.row.2 with ⟨e, hn⟩ | ⟨g, cap', cur, e, hg, hh, h1, h2, _⟩
  · injection e with e1 e2 e3
    exact Or.inl ⟨e1, List.length_eq_zero_iff.1 hn, e3⟩
  · injection e with e1 e2 e3
    exact Or.inr ⟨g, e1, hg, lt_of_block hh, by omega⟩
theorem IsR.at_ (h : IsR w base b A cap room clock L) {i : Nat} (hi : i < L.length) :
    ∃ g, A = some ⟨g, 0, none⟩ ∧ w.cell? ⟨g, i * 2, none⟩ = some (.string L[i].1) ∧ w.cell? ⟨g, i * 2 + 1, none⟩ = some (.int .i64 L[i].2) := by
  rcases h.shape with ⟨_, rfl, _⟩ | ⟨g, rfl, _⟩
  · simp at hi
  · have hc := h.row.cells (g := g) rfl
    obtain ⟨f1, f2⟩ := flat_at L i hi
    exact ⟨g, rfl, by rw [← radd0]; exact hc _ _ f1, by rw [← radd0]; exact hc _ _ f2⟩
theorem IsR.len_le (h : IsR w base b A cap room clock L) : L.length ≤ maxLen := by
  rcases h.row.2 with ⟨_, hn⟩ | ⟨g, cap', cur, e, hg, hh, h1, h2, _⟩
  · rw [hn]; unfold maxLen; omega
  · omega
theorem IsR.ne (h : IsR w base b A cap room clock L) : rowB A ≠ some b := by
  intro e
  rcases h.shape with ⟨rfl, _⟩ | ⟨g, rfl, _⟩
  · cases e
  · simp [rowB] at e
    subst e
    rcases h.row.2 with ⟨e, _⟩ | ⟨g', cap', cur, e, _, hh, _⟩
    · cases e
    · injection e with e1
      injection e1 with e1
      injection e1 with e1
      subst e1
      have := h.blk
      unfold Blk at this
      rw [hh] at this
      injection this with this
      injection this with _ ht
      exact absurd ht (by decide)
end

def hitB (t : Int) (s : ByteArray) (p : ByteArray × Int) : Bool := (p.1.data.toList == s.data.toList) && decide (t < p.2)
/-- The document's Has and Len. -/
def hasR (clock : Int) (L : List (ByteArray × Int)) (s : ByteArray) (now : Int) : Bool := tickB now && L.any (hitB (max now clock) s)
def lenR (clock : Int) (L : List (ByteArray × Int)) (now : Int) : Int := if tickB now = true then ((L.filter fun p => decide (max now clock < p.2)).length : Int) else 0

set_option maxRecDepth 100000 in
set_option maxHeartbeats 1600000 in
theorem rhas_any {w : World} {base b cap : Nat} {A : Option Addr} {room clock : Int} {L : List (ByteArray × Int)} (h : IsR w base b A cap room clock L) (s : ByteArray) (now : Int) :
    Calls Try.prog 15 #[.pointer (some ⟨b, 0, none⟩), .string s, .int .i64 now] w fun e w' => e = .returned (.bool (hasR clock L s now)) ∧ Fr NoB w w' := by
  have hll := h.len_le
  unfold maxLen at hll
  go_enter Try.func15, Try.ntmps15
  go_wp2_with fail
  go_loopg [7] L.length (fun gk v wr => ∃ k : Nat, k + gk = L.length ∧ v = .int .i64 k ∧ Fr NoB w wr ∧ (tickB now && (L.take k).any (hitB (max now clock) s)) = false)
  case atStart => exact ⟨0, by omega, rfl, Fr.refl _ _, by simp⟩
  case round =>
    obtain ⟨k, hk, rfl, hF, hno⟩ := hrel
    have hr := h.fr hF (fun x => x) (fun _ _ x => x)
    obtain ⟨c0, c1, c2, _⟩ := hr.cells
    have HK := Lib.hid hk
    have HN := Lib.hid hno
    clear hk hno
    by_cases hlt : k < L.length
    · obtain ⟨g, rfl, d0, d1⟩ := hr.at_ hlt
      have hts : (L.take (k + 1)).any (hitB (max now clock) s) = ((L.take k).any (hitB (max now clock) s) || hitB (max now clock) s L[k]) := by
        rw [List.take_succ_eq_append_getElem hlt, List.any_append]; simp only [List.any_cons, List.any_nil, Bool.or_false]
      have HT := Lib.hid hts
      have hall : hitB (max now clock) s L[k] = true → L.any (hitB (max now clock) s) = true := fun e => List.any_eq_true.2 ⟨L[k], List.getElem_mem hlt, e⟩
      have HALL := Lib.hid hall
      obtain ⟨p, hp⟩ : ∃ p, L[k] = p := ⟨_, rfl⟩
      rw [hp] at d0 d1 HT HALL
      clear hts hall hp
      obtain ⟨t, u⟩ := p
      simp only at d0 d1
      have i0 : (0 : Int) ≤ (k : Int) := by omega
      have i1 : (k : Int) < (L.length : Int) := by omega
      cases ht : tickB now
      · go_wp2_with fail
        go_quiet ((go_at_call 21; exact quiet_id (rtick_no _ _ ht)))
        go_wp2_with fail
        go_roundg (gk - 1)
        case measure => have := HK.out; omega
        case rel => exact ⟨k + 1, by have := HK.out; omega, by go_num, hF.drewN _, by simp [ht]⟩
      · cases he : (t.toList == s.toList)
        · have hh : hitB (max now clock) s (t, u) = false := by
            rw [ByteArray.toList_eq, ByteArray.toList_eq] at he
            simp only [hitB, he, Bool.false_and]
          go_wp2_with fail
          go_quiet ((go_at_call 21; exact quiet_id (rtick_yes _ _ ht)))
          go_wp2_with fail
          go_roundg (gk - 1)
          case measure => have := HK.out; omega
          case rel => exact ⟨k + 1, by have := HK.out; omega, by go_num, hF.drewN _, by have := HN.out; rw [ht] at this; rw [HT.out, hh, ht]; simpa using this⟩
        · by_cases hu : max now clock < u
          · have q1 : now < u := by omega
            have q2 : clock < u := by omega
            have hh : hitB (max now clock) s (t, u) = true := by
              rw [ByteArray.toList_eq, ByteArray.toList_eq] at he
              simp [hitB, he, hu]
            have hfin : hasR clock L s now = true := by unfold hasR; rw [ht, HALL.out hh]; rfl
            have HFIN := Lib.hid hfin
            clear hfin hh hu
            go_wp2_with fail
            go_quiet ((go_at_call 21; exact quiet_id (rtick_yes _ _ ht)))
            go_wp2_with fail
            all_goals
              go_ret
              exact ⟨by rw [HFIN.out]; rfl, hF.drewN _⟩
          · have hh : hitB (max now clock) s (t, u) = false := by simp [hitB, hu]
            go_wp2_with fail
            go_quiet ((go_at_call 21; exact quiet_id (rtick_yes _ _ ht)))
            go_wp2_with fail
            all_goals
              go_roundg (gk - 1)
              case measure => have := HK.out; omega
              case rel => exact ⟨k + 1, by have := HK.out; omega, by go_num, hF.drewN _, by have := HN.out; rw [ht] at this; rw [HT.out, hh, ht]; simpa using this⟩
    · have hkl : L.take k = L := List.take_of_length_le (by omega)
      have hfin : hasR clock L s now = false := by have := HN.out; rw [hkl] at this; exact this
      have HFIN := Lib.hid hfin
      clear hfin hkl
      go_wp2_with fail
      go_ret
      exact ⟨by rw [HFIN.out]; rfl, hF⟩

end Go.Proofs.Ytkhaeoggchnheaa
