/- The program's cache beside the document's: plain lemmas; pairs of caches in memory. -/
import Derived.Test.YtkhaeoggchnheaaRefC
namespace Go.Proofs.Ytkhaeoggchnheaa
open Go.RowKit Go.Maps Go.WideShapes

def kv (p : ByteArray × Int) : Lit × DataW Unit := (.string p.1.data.toList, .lit (.int .i64 p.2))
/-- What lives in the document's list is what the map holds. -/
def Sim (clock : Int) (es : List (Lit × DataW Unit)) (L : List (ByteArray × Int)) : Prop := ((L.filter fun p => decide (clock < p.2)).map kv).Perm es

section
variable {clock t : Int} {es : List (Lit × DataW Unit)} {L : List (ByteArray × Int)}
theorem Sim.start : Sim 0 [] [] := List.Perm.refl _
theorem Sim.above (h : Sim clock es L) (ht : clock ≤ t) : ((L.filter fun p => decide (t < p.2)).map kv).Perm (sweep es t) := by
  have h1 := h.filter (fun p => decide (t < num p.2))
  unfold sweep
  rw [List.filter_map, List.filter_filter] at h1
  have e : L.filter (fun a => ((fun p => decide (t < num p.2)) ∘ kv) a && decide (clock < a.2)) = L.filter fun p => decide (t < p.2) := by
    refine List.filter_congr fun p _ => ?_
    simp only [Function.comp, kv, num]
    by_cases hh : t < p.2
    · have : clock < p.2 := by omega
      simp [hh, this]
    · simp [hh]
  rw [e] at h1
  exact h1
theorem Sim.up (h : Sim clock es L) (ht : clock ≤ t) : Sim t (sweep es t) L := h.above ht
theorem Sim.live_eq (h : Sim clock es L) (ht : clock ≤ t) : live es t = cntR t L := by
  have := (h.above ht).length_eq
  rw [List.length_map] at this
  exact this.symm
theorem Sim.hit (h : Sim clock es L) (hT : Tid es) (ht : clock ≤ t) (h0 : 0 ≤ t) (s : ByteArray) : decide (t < valAt (.map es) s.data.toList) = L.any (hitB t s) := by
  rw [Bool.eq_iff_iff, decide_eq_true_eq, List.any_eq_true]
  constructor
  · intro hv
    obtain ⟨d, hd, hn⟩ := mem_of_val (s := s.data.toList) hT (by omega)
    have hm : (Lit.string s.data.toList, d) ∈ sweep es t := mem_sweep.2 ⟨hd, by simp only; omega⟩
    obtain ⟨p, hp, he⟩ := List.mem_map.1 ((h.above ht).mem_iff.2 hm)
    have hp' := List.mem_filter.1 hp
    refine ⟨p, hp'.1, ?_⟩
    unfold kv at he
    injection he with he1 he2
    injection he1 with he1
    simp only [hitB, Bool.and_eq_true, beq_iff_eq]
    exact ⟨he1, hp'.2⟩
  · rintro ⟨p, hp, hh⟩
    simp only [hitB, Bool.and_eq_true, beq_iff_eq, decide_eq_true_eq] at hh
    have hm : kv p ∈ (L.filter fun p => decide (t < p.2)).map kv := List.mem_map.2 ⟨p, List.mem_filter.2 ⟨hp, by simpa using hh.2⟩, rfl⟩
    have := (mem_sweep.1 ((h.above ht).mem_iff.1 hm)).1
    unfold kv at this
    rw [hh.1] at this
    rw [valAt_of_mem hT this]
    exact hh.2
theorem Sim.has_eq (h : Sim clock es L) (hT : Tid es) (h0 : 0 ≤ clock) (s : ByteArray) (now : Int) : hasB clock (.map es) s.data.toList now = hasR clock L s now := by
  unfold hasB hasR
  rw [h.hit hT (by omega) (by omega) s]
theorem Sim.len_eq (h : Sim clock es L) (now : Int) : lenN clock es now = lenR clock L now := by
  unfold lenN lenR
  rw [h.live_eq (by omega)]
  rfl
theorem Sim.has_key (h : Sim clock es L) (hT : Tid es) (h0 : 0 ≤ clock) (hu : ∀ p ∈ es, clock < num p.2) (s : ByteArray) : Maps.has (.map es) (.string s.data.toList) = L.any (hitB clock s) := by
  rw [← h.hit hT (Int.le_refl _) h0 s]
  cases hh : Maps.has (.map es) (.string s.data.toList)
  · rw [valAt_none hh]
    simp; omega
  · obtain ⟨d, hd⟩ := mem_of_has hh
    rw [valAt_of_mem hT hd]
    have := hu _ hd
    exact (decide_eq_true this).symm
end

theorem sim_add {room clock : Int} {es : List (Lit × DataW Unit)} {L : List (ByteArray × Int)} (h : Sim clock es L) (hT : Tid es) (h0 : 0 ≤ clock) (s : ByteArray) (til now : Int) :
    addE room clock es s.data.toList til now = addRE room clock L s til now ∧ Sim (addC clock s.data.toList til now) (addL room clock es s.data.toList til now) (addRL room clock L s til now) := by
  by_cases hz : ref0 s.data.toList til now = 0
  · have hu := h.up (t := max clock now) (by omega)
    have hTu : Tid (sweep es (max clock now)) := sweep_tid hT
    obtain ⟨z1, z2, z3, z4⟩ := ref0_zero hz
    have zb := tickB_bd z2
    have hk := hu.has_key hTu (by omega) (fun p hp => (mem_sweep.1 hp).2) s
    have hr : hasR (max clock now) L s now = L.any (hitB (max clock now) s) := by
      unfold hasR
      rw [z2, show max now (max clock now) = max clock now by omega]
      rfl
    have hl : ((sweep es (max clock now)).length : Int) = lenR (max clock now) L now := by
      unfold lenR
      rw [z2, if_pos rfl, show max now (max clock now) = max clock now by omega]
      have := (h.above (t := max clock now) (by omega)).length_eq
      rw [List.length_map] at this
      omega
    have e : ref2 room (max clock now) (sweep es (max clock now)) s.data.toList til = addRE room clock L s til now := by
      unfold ref2 addRE
      simp only [hz, ne_eq, not_true_eq_false, if_false]
      rw [hk, hr, hl]
    have e1 : addE room clock es s.data.toList til now = addRE room clock L s til now := by
      unfold addE
      rw [if_neg (by simpa using hz), e]
    refine ⟨e1, ?_⟩
    unfold addC addL addRL
    rw [if_neg (by simpa using hz), if_neg (by simpa using hz), ← e]
    by_cases h2 : ref2 room (max clock now) (sweep es (max clock now)) s.data.toList til = 0
    · rw [if_neg (by simpa using h2), if_pos h2]
      obtain ⟨y1, y2, _⟩ := ref2_zero h2
      unfold Sim
      rw [List.filter_append, List.map_append]
      have e3 : [(s, til)].filter (fun p => decide (max clock now < p.2)) = [(s, til)] := by
        simp only [List.filter_cons, List.filter_nil]
        rw [if_pos (by simpa using y1)]
      rw [e3]
      have e4 : (sweep es (max clock now)).filter (fun p => !p.1.sameKey (.string s.data.toList)) = sweep es (max clock now) := by
        rw [List.filter_eq_self]
        intro p hp
        have := List.any_eq_false.1 y2 p hp
        simpa using this
      unfold putE
      rw [e4]
      refine List.Perm.trans ?_ (insert_perm _ _).symm
      refine List.Perm.trans (List.perm_append_comm) ?_
      exact (h.above (t := max clock now) (by omega)).cons _
    · rw [if_pos h2, if_neg h2]
      exact hu
  · have e1 : addRE room clock L s til now = ref0 s.data.toList til now := by
      unfold addRE
      rw [if_pos hz]
    unfold addE addC addL addRL
    rw [if_pos hz, if_pos hz, if_pos hz, e1, if_neg hz]
    exact ⟨rfl, h⟩

/-- A cache and the document's beside it. -/
structure Pr where
  b : Nat
  mb : Nat
  rb : Nat
  A : Option Addr
  cap : Nat
  clock : Int
  es : List (Lit × DataW Unit)
  L : List (ByteArray × Int)

structure POK (w : World) (base : Nat) (room : Int) (p : Pr) : Prop where
  c : IsC w p.b p.mb room p.clock p.es.length (.map p.es)
  r : IsR w base p.rb p.A p.cap room p.clock p.L
  i : CInv room p.clock p.es
  s : Sim p.clock p.es p.L
  b1 : base ≤ p.b
  b2 : base ≤ p.mb
  b3 : base ≤ p.rb

/-- What kind of block a number names. -/
def tag (w : World) (k : Nat) : Nat :=
  match w.heap[k]? with
  | some (.cells _ t _) => t + 2
  | some (.map _ _) => 1
  | _ => 0

theorem tag_blk {w : World} {g : Nat} {t : TypeId} {cs : Array Value} (h : Blk w g t cs) : tag w g = t + 2 := by
  unfold Blk at h
  simp [tag, h]
theorem tag_map {w : World} {P : Program} {k : TypeId} {R : Value → Option (DataW Unit × List MemPlace)} {b n : Nat} {D : DataW Unit} (h : w.ownsMap P k R b n D) : tag w b = 1 := by
  obtain ⟨es, cl, hb, _⟩ := h
  simp [tag, hb]
theorem tag_row {w : World} {base : Nat} {e : TypeId} {size n : Nat} {v : Value} {xs : List Value} (h : w.ownsRow base e size v n xs) {g : Nat} (hg : v.ownBlock = some g) : tag w g = e + 2 := by
  rcases h.2 with ⟨rfl, _⟩ | ⟨g', cap, cur, rfl, _, hh, _⟩
  · simp [Value.ownBlock] at hg
  · simp [Value.ownBlock] at hg
    subst hg
    simp [tag, hh]
theorem tag_rowB {w : World} {base b cap : Nat} {A : Option Addr} {room clock : Int} {L : List (ByteArray × Int)} (h : IsR w base b A cap room clock L) {g : Nat} (hg : rowB A = some g) : tag w g = 55 + 2 :=
  tag_row h.row (by rw [ownB_slice]; exact hg)

/-- The blocks of a pair. -/
def SP (p : Pr) : Nat → Prop := fun k => k = p.b ∨ k = p.mb ∨ k = p.rb ∨ rowB p.A = some k
structure Apart (p q : Pr) : Prop where
  b : p.b ≠ q.b
  mb : p.mb ≠ q.mb
  rb : p.rb ≠ q.rb
  row : ∀ g, rowB p.A = some g → rowB q.A ≠ some g

theorem POK.fr {w w' : World} {base : Nat} {room : Int} {q : Pr} {S : Nat → Prop} (h : POK w base room q) (f : Fr S w w') (h1 : ¬ S q.b) (h2 : ¬ S q.mb) (h3 : ¬ S q.rb) (h4 : ∀ g, rowB q.A = some g → ¬ S g) : POK w' base room q :=
  ⟨h.c.fr f h1 h2, h.r.fr f h3 h4, h.i, h.s, h.b1, h.b2, h.b3⟩
theorem POK.no {w w' : World} {base : Nat} {room : Int} {q : Pr} (h : POK w base room q) (f : Fr NoB w w') : POK w' base room q := h.fr f (fun x => x) (fun x => x) (fun x => x) (fun _ _ x => x)
theorem not_SP {w : World} {base : Nat} {room : Int} {p q : Pr} (hp : POK w base room p) (hq : POK w base room q) (ha : Apart p q) : ¬ SP p q.b ∧ ¬ SP p q.mb ∧ ¬ SP p q.rb ∧ ∀ g, rowB q.A = some g → ¬ SP p g := by
  have p1 := tag_blk hp.c.blk
  have p2 := tag_map hp.c.own
  have p3 := tag_blk hp.r.blk
  have q1 := tag_blk hq.c.blk
  have q2 := tag_map hq.c.own
  have q3 := tag_blk hq.r.blk
  refine ⟨?_, ?_, ?_, fun g hg => ?_⟩
  · rintro (e | e | e | e)
    · exact ha.b e.symm
    · rw [e, p2] at q1; omega
    · rw [e, p3] at q1; omega
    · have := tag_rowB hp.r e; rw [this] at q1; omega
  · rintro (e | e | e | e)
    · rw [e, p1] at q2; omega
    · exact ha.mb e.symm
    · rw [e, p3] at q2; omega
    · have := tag_rowB hp.r e; rw [this] at q2; omega
  · rintro (e | e | e | e)
    · rw [e, p1] at q3; omega
    · rw [e, p2] at q3; omega
    · exact ha.rb e.symm
    · have := tag_rowB hp.r e; rw [this] at q3; omega
  · have q4 := tag_rowB hq.r hg
    rintro (e | e | e | e)
    · rw [e, p1] at q4; omega
    · rw [e, p2] at q4; omega
    · rw [e, p3] at q4; omega
    · exact ha.row g e hg
theorem not_SP_row {w : World} {base base' : Nat} {room : Int} {p : Pr} (hp : POK w base room p) {e : TypeId} {size n : Nat} {v : Value} {xs : List Value} (h : w.ownsRow base' e size v n xs) (he1 : e ≠ 48) (he2 : e ≠ 53) (he3 : e ≠ 55) : ∀ g, v.ownBlock = some g → ¬ SP p g := by
  intro g hg
  have q := tag_row h hg
  have p1 := tag_blk hp.c.blk
  have p2 := tag_map hp.c.own
  have p3 := tag_blk hp.r.blk
  rintro (h5 | h5 | h5 | h5)
  · rw [h5, p1] at q; exact he1 (Nat.add_right_cancel q).symm
  · rw [h5, p2] at q; exact absurd q (by show 1 ≠ e + 2; intro hh; exact absurd (Nat.succ.inj hh) (by intro h6; cases h6))
  · rw [h5, p3] at q; exact he2 (Nat.add_right_cancel q).symm
  · have := tag_rowB hp.r h5; rw [this] at q; exact he3 (Nat.add_right_cancel q).symm

/-- All pairs, and the law's two slices over them. -/
structure DInv (w0 w : World) (room : Int) (ps : List Pr) (gx cx gy cy k : Nat) : Prop where
  all : ∀ (i : Nat) p, ps[i]? = some p → POK w w0.heap.size room p
  ap : ∀ (i j : Nat) p q, ps[i]? = some p → ps[j]? = some q → i ≠ j → Apart p q
  xs : w.ownsRow w0.heap.size 23 1 (.slice (some ⟨gx, 0, none⟩) ps.length cx) ps.length (ps.map fun p => .pointer (some ⟨p.b, 0, none⟩))
  ys : w.ownsRow w0.heap.size 39 1 (.slice (some ⟨gy, 0, none⟩) ps.length cy) ps.length (ps.map fun p => .pointer (some ⟨p.rb, 0, none⟩))
  fr : Fr NoB w0 w
  pos : 0 < ps.length
  len : ps.length ≤ k + 1
  lens : ∀ (i : Nat) p, ps[i]? = some p → p.L.length ≤ k

section
variable {w0 w w' : World} {room : Int} {ps : List Pr} {gx cx gy cy k : Nat}
theorem DInv.no (h : DInv w0 w room ps gx cx gy cy k) (f : Fr NoB w w') : DInv w0 w' room ps gx cx gy cy k :=
  ⟨fun i p hp => (h.all i p hp).no f, h.ap, f.row h.xs (fun _ _ x => x), f.row h.ys (fun _ _ x => x), h.fr.no f, h.pos, h.len, h.lens⟩
theorem DInv.mono (h : DInv w0 w room ps gx cx gy cy k) {k' : Nat} (hk : k ≤ k') : DInv w0 w room ps gx cx gy cy k' :=
  ⟨h.all, h.ap, h.xs, h.ys, h.fr, h.pos, by have := h.len; omega, fun i p hp => by have := h.lens i p hp; omega⟩
theorem DInv.upd (h : DInv w0 w room ps gx cx gy cy k) {n : Nat} {p p' : Pr} (hn : ps[n]? = some p) (hf : Fr (SP p) w w') (hp' : POK w' w0.heap.size room p') (e1 : p'.b = p.b) (e2 : p'.mb = p.mb) (e3 : p'.rb = p.rb)
    (hrow : ∀ g, rowB p'.A = some g → rowB p.A = some g ∨ w.heap.size ≤ g) (hl : p'.L.length ≤ k + 1) : DInv w0 w' room (ps.set n p') gx cx gy cy (k + 1) := by
  have hnl : n < ps.length := (List.getElem?_eq_some_iff.1 hn).1
  have hpn : ps[n] = p := (List.getElem?_eq_some_iff.1 hn).2
  have hp := h.all n p hn
  have mx : ∀ f : Pr → Value, f p' = f p → (ps.set n p').map f = ps.map f := by
    intro f hfe
    rw [List.map_set, hfe, ← hpn, ← List.getElem_map f (h := by simpa using hnl), List.set_getElem_self]
  have hother : ∀ (i : Nat) q, ps[i]? = some q → i ≠ n → POK w' w0.heap.size room q := by
    intro i q hq hin
    obtain ⟨s1, s2, s3, s4⟩ := not_SP hp (h.all i q hq) (h.ap n i p q hn hq (fun e => hin e.symm))
    exact (h.all i q hq).fr hf s1 s2 s3 s4
  have hap : ∀ (i : Nat) q, ps[i]? = some q → i ≠ n → Apart p' q := by
    intro i q hq hin
    have ha := h.ap n i p q hn hq (fun e => hin e.symm)
    refine ⟨by rw [e1]; exact ha.b, by rw [e2]; exact ha.mb, by rw [e3]; exact ha.rb, fun g hg hg2 => ?_⟩
    rcases hrow g hg with e | e
    · exact ha.row g e hg2
    · have hr := (h.all i q hq).r
      rcases hr.shape with ⟨e', _⟩ | ⟨g', e', _, hlt, _⟩
      · rw [e'] at hg2; cases hg2
      · rw [e'] at hg2; simp [rowB] at hg2; omega
  have gset : ∀ (i : Nat) q, (ps.set n p')[i]? = some q → (i = n ∧ q = p') ∨ (i ≠ n ∧ ps[i]? = some q) := by
    intro i q hq
    rw [List.getElem?_set] at hq
    by_cases e : n = i
    · rw [if_pos e, if_pos (by omega)] at hq
      exact Or.inl ⟨e.symm, by injection hq with hq; exact hq.symm⟩
    · rw [if_neg e] at hq
      exact Or.inr ⟨fun x => e x.symm, hq⟩
  have apSymm : ∀ {x y : Pr}, Apart x y → Apart y x := fun a => ⟨fun e => a.b e.symm, fun e => a.mb e.symm, fun e => a.rb e.symm, fun g hg hg' => a.row g hg' hg⟩
  refine ⟨?_, ?_, ?_, ?_, ?_, by simpa using h.pos, by have := h.len; simp; omega, ?_⟩
  · intro i q hq
    rcases gset i q hq with ⟨_, rfl⟩ | ⟨hin, hq⟩
    · exact hp'
    · exact hother i q hq hin
  · intro i j q q' hq hq' hij
    rcases gset i q hq with ⟨hi, ei⟩ | ⟨hin, hq2⟩
    · rcases gset j q' hq' with ⟨hj, ej⟩ | ⟨hjn, hq3⟩
      · omega
      · rw [ei]; exact hap j q' hq3 hjn
    · rcases gset j q' hq' with ⟨hj, ej⟩ | ⟨hjn, hq3⟩
      · rw [ej]; exact apSymm (hap i q hq2 hin)
      · exact h.ap i j q q' hq2 hq3 hij
  · rw [List.length_set, mx _ (by simp only [e1])]
    exact hf.row h.xs (not_SP_row hp h.xs (by decide) (by decide) (by decide))
  · rw [List.length_set, mx _ (by simp only [e3])]
    exact hf.row h.ys (not_SP_row hp h.ys (by decide) (by decide) (by decide))
  · refine h.fr.andThen hf (fun j hj hs => ?_)
    exfalso
    have := hp.b1
    have := hp.b2
    have := hp.b3
    rcases hs with rfl | rfl | rfl | e
    · omega
    · omega
    · omega
    · rcases hp.r.shape with ⟨e', _⟩ | ⟨g', e', hb, _⟩
      · rw [e'] at e; cases e
      · rw [e'] at e; simp [rowB] at e; omega
  · intro i q hq
    rcases gset i q hq with ⟨_, rfl⟩ | ⟨hin, hq⟩
    · exact hl
    · have := h.lens i q hq; omega
end

end Go.Proofs.Ytkhaeoggchnheaa
