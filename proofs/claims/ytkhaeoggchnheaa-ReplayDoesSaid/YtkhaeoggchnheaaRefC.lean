/- The document's replay cache: Add in one word, Copy; the program's Clone; the law's place. -/
import Derived.Test.YtkhaeoggchnheaaRefB
import Derived.Shelf.SlMaps.Clone
namespace Go.Proofs.Ytkhaeoggchnheaa
open Go.RowKit Go.Maps Go.WideMaps

theorem radd_any {w : World} {base b cap : Nat} {A : Option Addr} {room clock : Int} {L : List (ByteArray × Int)} (h : IsR w base b A cap room clock L) (hbase : base ≤ w.heap.size) (hL : (L.length + 1) * 24 ≤ 140737488355328) (s : ByteArray) (til now : Int) :
    Calls Try.prog 14 #[.pointer (some ⟨b, 0, none⟩), .string s, .int .i64 til, .int .i64 now] w fun e w' => e = .returned (.int .i64 (addRE room clock L s til now)) ∧ RPost w w' base b A room (addC clock s.data.toList til now) (addRL room clock L s til now) := by
  unfold addRL addC
  by_cases h0 : ref0 s.data.toList til now = 0
  · have e1 : addRE room clock L s til now = (if til ≤ max clock now then 1 else if hasR (max clock now) L s now = true then 140 else if room ≤ lenR (max clock now) L now then 141 else 0) := by
      unfold addRE
      rw [if_neg (by simpa using h0)]
    rw [if_neg (by simpa using h0)]
    exact radd_yes h hbase hL s til now (max clock now) h0 (by omega) _ e1.symm
  · have e1 : addRE room clock L s til now = ref0 s.data.toList til now := by
      unfold addRE
      rw [if_pos h0]
    rw [e1, if_pos h0, if_neg h0]
    refine (radd_no s til now h0).mono ?_
    rintro e w' ⟨rfl, rfl⟩
    exact ⟨rfl, ⟨A, cap, h, fun _ e => Or.inl e⟩, Fr.refl _ _⟩

theorem flat_one (L : List (ByteArray × Int)) : ∀ u ∈ flat L, u.oneCell' = true := by
  intro u hu
  unfold flat at hu
  obtain ⟨p, _, hp⟩ := List.mem_flatMap.1 hu
  simp at hp
  rcases hp with rfl | rfl <;> rfl

theorem own_empty (W : World) (base N : Nat) (t : TypeId) (size : Nat) (hN : W.heap.size = N) (hb : base ≤ N) : (W.alloc (.cells #[] t)).ownsRow base t size (.slice (some ⟨N, 0, none⟩) 0 0) 0 [] := by
  subst hN
  exact ⟨by simp, Or.inr ⟨_, 0, #[], rfl, hb, heap_alloc_new _ _, Nat.le_refl _, by unfold maxLen; omega, by simp, by simp⟩⟩

theorem slice_of {w : World} {base : Nat} {e : TypeId} {size n : Nat} {v : Value} {xs : List Value} (h : w.ownsRow base e size v (0 + n) xs) (hne : v ≠ .slice none 0 0) : ∃ g cap, v = .slice (some ⟨g, 0, none⟩) n cap := by
  rcases h.2 with ⟨e, _⟩ | ⟨g, cap, cur, e, _⟩
  · exact absurd e hne
  · rw [Nat.zero_add] at e
    exact ⟨g, cap, e⟩

/-- What Copy leaves: a cache of its own. -/
structure CopyPost (w w' : World) (base : Nat) (room clock : Int) (L : List (ByteArray × Int)) : Prop where
  ex : ∃ A' cap', IsR w' base w.heap.size A' cap' room clock L ∧ (∀ g, rowB A' = some g → w.heap.size ≤ g)
  fr : Fr NoB w w'

set_option maxRecDepth 100000 in
set_option maxHeartbeats 1600000 in
theorem copy_any {w : World} {base b cap : Nat} {A : Option Addr} {room clock : Int} {L : List (ByteArray × Int)} (h : IsR w base b A cap room clock L) (hbase : base ≤ w.heap.size) (hL : (L.length + 1) * 24 ≤ 140737488355328) :
    Calls Try.prog 18 #[.pointer (some ⟨b, 0, none⟩)] w fun e w' => e = .returned (.pointer (some ⟨w.heap.size, 0, none⟩)) ∧ CopyPost w w' base room clock L := by
  obtain ⟨c0, c1, c2, f1, f2⟩ := h.cells
  have hlt := h.blk.lt
  obtain ⟨i0, hi, hz0, hz2, hz3⟩ := info_parts Try.infoE
  have hown0 : ((w.alloc (.cells #[.int .i64 room, .int .i64 clock, .slice A L.length cap] 53)).alloc (.cells #[] 55)).ownsRow w.heap.size 55 2 (.slice (some ⟨w.heap.size + 1, 0, none⟩) 0 0) 0 [] := own_empty _ _ _ _ _ (by simp) (by simp)
  have hB0 : Blk ((w.alloc (.cells #[.int .i64 room, .int .i64 clock, .slice A L.length cap] 53)).alloc (.cells #[] 55)) w.heap.size 53 #[.int .i64 room, .int .i64 clock, .slice A L.length cap] := (Blk.new _ _ _).alloc _
  have hF0 : Fr NoB w ((w.alloc (.cells #[.int .i64 room, .int .i64 clock, .slice A L.length cap] 53)).alloc (.cells #[] 55)) := ((Fr.refl _ _).alloc _).alloc _
  have hR0 := (h.al (.cells #[.int .i64 room, .int .i64 clock, .slice A L.length cap] 53)).al (.cells #[] 55)
  rcases h.shape with ⟨rfl, rfl, rfl⟩ | ⟨g, rfl, hg1, hg2, hg3⟩
  · go_enter Try.func18, Try.ntmps18
    go_wp2_with (at_builtin; refine wpList_append_own_none rfl _ _ _ rfl w.heap.size 55 i0 2 Try.underlying51 hi _ 0 [] rfl hown0 rfl ?_)
    go_ret
    refine ⟨rfl, ⟨⟨some ⟨w.heap.size + 1, 0, none⟩, 0, ⟨?_, ?_⟩, ?_⟩, ?_⟩⟩
    · exact (Blk.new _ _ _).alloc _
    · exact (own_empty _ base _ _ _ (by simp) (by omega))
    · intro g hg
      simp [rowB] at hg
      omega
    · exact ((Fr.refl _ _).alloc _).alloc _
  · have hcells := hR0.row.cells (g := g) rfl
    have hfl := flat_len L
    have hfo := flat_one L
    go_enter Try.func18, Try.ntmps18
    go_wp2_with (at_builtin; refine wpList_append_own _ rfl _ _ _ rfl w.heap.size 55 i0 (.agg #[.string ⟨#[]⟩, .int .i64 0]) 2 24 Try.underlying51 hi hz0 hz2 hz3 rfl (by omega) (.slice (some ⟨w.heap.size + 1, 0, none⟩) 0 0) 0 [] rfl hown0 ⟨g, 0, none⟩ L.length cap (flat L) rfl hfl hcells hfo (by unfold maxLen; omega) (by omega) (by simp; omega) ?_; intro v1 w1 hown1 hgrow1 hnil1; obtain ⟨g1, cap1, hv1⟩ := slice_of hown1 (fun e => by have := (hnil1.1 e).1; cases this); rw [hv1] at hown1 ⊢; clear hnil1 hv1; have hb1 : Blk w1 w.heap.size 53 #[.int .i64 room, .int .i64 clock, .slice (some ⟨g, 0, none⟩) L.length cap] := (hgrow1.block w.heap.size (by simp; omega) (by simp [Value.ownBlock])).trans hB0; have z2 := hb1.cell 2; have z3 := hb1.frozen 2; simp at z2)
    go_ret
    have hg1b : g1 ≠ w.heap.size := fun e => by
      subst e
      exact own_ne hown1 hb1 (by decide) rfl
    have hge : w.heap.size ≤ g1 := by
      rcases hown1.2 with ⟨e, _⟩ | ⟨g', _, _, e, hg', _⟩
      · cases e
      · injection e with e; injection e with e; injection e with e; omega
    refine ⟨rfl, ⟨⟨some ⟨g1, 0, none⟩, cap1, ⟨?_, ?_⟩, ?_⟩, ?_⟩⟩
    · have := hb1.set_ 2 (.slice (some ⟨g1, 0, none⟩) L.length cap1)
      simpa using this
    · have := ownsRow_setCell_other hown1 (a := ⟨w.heap.size, 2, none⟩) (by simpa [Value.ownBlock] using hg1b) (.slice (some ⟨g1, 0, none⟩) L.length cap1)
      simp only [Nat.zero_add, List.nil_append] at this
      obtain ⟨q1, q2⟩ := this
      refine ⟨q1, ?_⟩
      rcases q2 with q2 | ⟨g', cap', cur, e, hg', r⟩
      · exact Or.inl q2
      · exact Or.inr ⟨g', cap', cur, e, by omega, r⟩
    · intro g' hg
      simp [rowB] at hg
      omega
    · exact (hF0.grown hgrow1 (fun j hj hl => by simp [Value.ownBlock] at hj; omega)).setCell_new (by simp) _

theorem clone_any {w : World} {b mb : Nat} {room clock : Int} {n : Nat} {es : List (Lit × DataW Unit)} (h : IsC w b mb room clock n (.map es)) :
    Calls Try.prog 22 #[.map (some mb)] w fun e w' => e = .returned (.map (some w.heap.size)) ∧ ∃ ms cl, w.heap[mb]? = some (.map ms cl) ∧ w' = w.alloc (.map ms cl) := by
  obtain ⟨ms, cl, hb, F, hs, hD⟩ := h.own
  have hq := fun w => run_eql_map_nil_sl (P := Try.prog) w 28 _ _ (some mb) Try.underlying28
  go_enter Try.func22, Try.ntmps22
  go_wp2
  rw [run_callFunc_extern Try.func23 (by kernel_rfl) (by kernel_rfl) (by kernel_rfl) (e := Extern.MapsClone.clone) (by kernel_rfl), run_maps_clone_sl w 28 hb]
  simp only [Result.andThen]
  rw [Oper.upon_value]
  go_wp2
  rw [run_typeAssert_map_sl _ 28 20 _ _ _ Try.underlying28]
  simp only [Result.andThen]
  rw [Oper.upon_value]
  go_wp2
  go_ret
  exact ⟨rfl, ms, cl, hb, rfl⟩

/-- What Clone leaves: a cache of its own. -/
structure ClonePost (w w' : World) (b' mb' : Nat) (room clock : Int) (es : List (Lit × DataW Unit)) : Prop where
  c : IsC w' b' mb' room clock es.length (.map es)
  fr : Fr NoB w w'

set_option maxHeartbeats 1600000 in
theorem cclone_any {w : World} {b mb : Nat} {room clock : Int} {n : Nat} {es : List (Lit × DataW Unit)} (h : IsC w b mb room clock n (.map es)) :
    Calls Try.prog 17 #[.pointer (some ⟨b, 0, none⟩)] w fun e w' => e = .returned (.pointer (some ⟨w.heap.size + 1, 0, none⟩)) ∧ ClonePost w w' (w.heap.size + 1) w.heap.size room clock es := by
  obtain ⟨c0, c1, c2, _⟩ := h.cells
  go_enter Try.func17, Try.ntmps17
  go_wp2_with fail
  go_region_held3 (fun w' => w'.cell? ⟨b, 0, none⟩ = some (.int .i64 room) ∧ w'.cell? ⟨b, 1, none⟩ = some (.int .i64 clock) ∧ w'.cell? ⟨b, 2, none⟩ = some (.map (some mb))) (first | go_keep | exact ⟨hx.cells.1, hx.cells.2.1, hx.cells.2.2.1⟩)
    (first | (go_at_call 22; refine (clone_any (h.fr (Fr.refl NoB w).drew (fun x => x) (fun x => x))).mono ?_; rintro e wx ⟨rfl, ms, cl, hms, hwx⟩; have hx := h.fr (show Fr NoB w wx from by subst hwx; exact (Fr.refl _ _).drew.alloc _) (fun x => x) (fun x => x)))
  go_wp2_with fail
  go_ret
  have hms' : w.heap[mb]? = some (.map ms cl) := hms
  refine ⟨rfl, ⟨⟨?_, ?_, by omega⟩, (((Fr.refl _ _).alloc _).alloc _).drew⟩⟩
  · have := Blk.new (w.alloc (.map ms cl)) 48 #[.int .i64 room, .int .i64 clock, .map (some w.heap.size)]
    have e : (w.alloc (.map ms cl)).heap.size = w.heap.size + 1 := by simp
    rw [e] at this
    exact this
  · obtain ⟨ms', cl', hb, F, hs, hD⟩ := (Go.Proofs.Ytkhaeoggchnheaa.tight h.own)
    rw [hms'] at hb
    injection hb with hb
    injection hb with e1 e2
    subst e1 e2
    refine ⟨ms, cl, ?_, F, hs, hD⟩
    show ((w.alloc (.map ms cl)).alloc _).heap[w.heap.size]? = _
    rw [Below.heap_alloc _ _ _ (by simp)]
    exact (MapKept.heap_alloc w _).1

theorem mod_place (n m : Int) (h : 0 < m) : -m < n.tmod m ∧ n.tmod m < m ∧ (n.tmod m < 0 → n % m = n.tmod m + m) ∧ (0 ≤ n.tmod m → n % m = n.tmod m) := by
  have e := Int.tmod_add_mul_tdiv n m
  have a1 := Int.tmod_lt_of_pos n h
  have a2 : -m < n.tmod m := by
    rcases Int.lt_or_le n 0 with hn | hn
    · have := Int.tmod_lt_of_pos (-n) h
      rw [Int.neg_tmod] at this
      omega
    · have := Int.tmod_nonneg m hn
      omega
  refine ⟨a2, a1, fun hh => ?_, fun hh => ?_⟩
  · have h1 : n = (n.tmod m + m) + m * (n.tdiv m - 1) := by rw [Int.mul_sub]; omega
    rw [h1, Int.add_mul_emod_self_left, Int.emod_eq_of_lt (by omega) (by omega), ← h1]
  · have h1 : n = n.tmod m + m * n.tdiv m := by omega
    rw [h1, Int.add_mul_emod_self_left, Int.emod_eq_of_lt hh a1, ← h1]

/-- The remainder, 0 and above. -/
def placeN (n : Int) (m : Nat) : Nat := (n % (m : Int)).toNat
theorem placeN_lt (n : Int) {m : Nat} (h : 0 < m) : placeN n m < m := by
  unfold placeN
  have := Int.emod_lt_of_pos n (show (0 : Int) < m by omega)
  have := Int.emod_nonneg n (show (m : Int) ≠ 0 by omega)
  omega

theorem place_any (n : Int) (m : Nat) (w : World) (h1 : 0 < m) (h2 : m ≤ 9223372036854775807) :
    Calls Try.prog 13 #[.int .i64 n, .int .i64 (m : Int)] w fun e w' => e = .returned (.int .i64 (placeN n m)) ∧ w = w' := by
  obtain ⟨a1, a2, a3, a4⟩ := mod_place n m (by omega)
  have hp : ((placeN n m : Nat) : Int) = n % (m : Int) := by
    unfold placeN
    have := Int.emod_nonneg n (show (m : Int) ≠ 0 by omega)
    omega
  have HP := Lib.hid hp
  have A3 := Lib.hid a3
  have A4 := Lib.hid a4
  clear hp a3 a4
  go_enter Try.func13, Try.ntmps13
  go_wp2
  · go_ret
    rename_i hh
    exact ⟨by rw [HP.out, A3.out hh]; rfl, rfl⟩
  · go_ret
    rename_i hh
    exact ⟨by rw [HP.out, A4.out hh]; rfl, rfl⟩

end Go.Proofs.Ytkhaeoggchnheaa
