/- A region whose first operation recovers; the rest as any region. No program. -/
import Derived.Recover
import Derived.Tactics2
namespace Go.Proofs.YteeijmfnjcddmaaGreatDoor

theorem wpS_region_recover {P : Program} {Q : Exit → Act → List Frame → World → Prop} {a : Act} {cs : List Frame} {w : World} {id : Nat} {o : Oper} {rest : List Oper}
    (v : Value) (cs' : List Frame) (hr : (execOp a.eval o).run P w = .ok .recover w) (hw : Region.wanted o (yielded (o :: rest).toArray a.tmps) = true)
    (hrec : recoverD cs = some (v, cs') ∨ (recoverD cs = none ∧ v = .nilIface ∧ cs' = cs))
    (h : wpList P (o :: rest).toArray (fun e a' w' => Q e a' cs' w') rest (a.put o.dst v) w) : (Code.region id (o :: rest).toArray false).wpS P Q a cs w := by
  intro b k hb hro
  have ho : (o :: rest).toArray[0]? = some o := by simp
  have hg := stepG_op (P := P) (b := b) (k := k) (cs := cs) (w := w) (rest := List.range' 1 rest.length) ho hw
  have hfin : (b.at a (.inRegion (o :: rest).toArray (0 :: List.range' 1 rest.length) :: k)).finish v = b.at (a.put o.dst v) (.inRegion (o :: rest).toArray (List.range' 1 rest.length) :: k) := by
    rw [Frame.finish_at, ho]; rfl
  have hk : (b.at a (.inRegion (o :: rest).toArray (0 :: List.range' 1 rest.length) :: k)).kind = .deferred := hb
  have htr := tryRecover_deferred hk cs
  have hops : wpOps P (o :: rest).toArray (fun e a' w' => Q e a' cs' w') (List.range' 1 rest.length) (a.put o.dst v) w := by
    rw [wpOps_eq_wpList rest 1 (by intro j; simp [Nat.add_comm 1 j])]; exact h
  obtain ⟨e, a', w', hq, harr⟩ := wp_ops _ _ _ hops b k cs'
  have hstep : step P (lone (b.at a (.inRegion (o :: rest).toArray (0 :: List.range' 1 rest.length) :: k)) cs w) = .next (lone (b.at (a.put o.dst v) (.inRegion (o :: rest).toArray (List.range' 1 rest.length) :: k)) cs' w) := by
    refine step_lone_go ?_
    rw [hg, ← hfin]
    simp only [Frame.at] at htr ⊢
    rcases hrec with hrec | ⟨hrec, rfl, rfl⟩ <;> simp [stepG.apply, hr, htr, hrec]
  refine ⟨e, a', cs', w', hq, .of_steps (.head step_region (.one ?_)) harr⟩
  have : List.range (o :: rest).toArray.size = 0 :: List.range' 1 rest.length := by
    simp [List.range_eq_range', List.range'_succ]
  rw [this]
  exact hstep
end Go.Proofs.YteeijmfnjcddmaaGreatDoor
