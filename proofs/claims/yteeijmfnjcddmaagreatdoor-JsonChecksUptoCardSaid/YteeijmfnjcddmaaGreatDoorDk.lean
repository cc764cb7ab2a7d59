/- JSON, the document's side: twice, form, check, Check. -/
import Derived.Test.YteeijmfnjcddmaaGreatDoorUf
import Derived.Test.YteeijmfnjcddmaaGreatDoorRg
namespace Go.Proofs.YteeijmfnjcddmaaGreatDoor
open Go.RowKit

theorem InMem.inS {S : Nat → Prop} {w u : World} {a : Option Addr} {n c : Nat} {cs : List Value} (h : InMem S w (.slice a n c) n cs) (hS : ∀ g, S g → g < w.heap.size) (f : Fr NoB w u) (hn : 0 < n) : ∃ g o, a = some ⟨g, o, none⟩ ∧ ∀ (i : Nat) x, cs[i]? = some x → u.cell? ⟨g, o + i, none⟩ = some x := by
  rcases h with ⟨h0, _⟩ | ⟨g, o, c', he, hg, hc⟩
  · omega
  · simp only [Value.slice.injEq, true_and] at he
    exact ⟨g, o, he.1, fun i x hx => (f.cell (p := ⟨g, o + i, none⟩) (hS g hg) (fun e => e)).trans (hc i x hx)⟩
theorem keyAt_get {ks : List Bs} {m : Nat} (h : m < ks.length) : ks[m] = keyAt ks m := by simp [keyAt, List.getD, h]
theorem nodup_step {ks : List Bs} {m : Nat} (h : m < ks.length) (hn : (ks.take m).Nodup) (hx : ∀ x, x < m → keyAt ks x ≠ keyAt ks m) : (ks.take (m + 1)).Nodup := by
  rw [(List.take_append_getElem h).symm, List.nodup_append]
  refine ⟨hn, by simp, fun a ha b hb => ?_⟩
  obtain ⟨i, hi, rfl⟩ := List.getElem_of_mem ha
  rw [List.mem_singleton] at hb
  subst hb
  rw [List.length_take] at hi
  have := hx i (by omega)
  rw [← keyAt_get h, ← keyAt_get (by omega)] at this
  simpa using this
theorem not_nodup {ks : List Bs} {m p : Nat} (h : m < ks.length) (hp : p < m) (he : keyAt ks m = keyAt ks p) : ¬ ks.Nodup := by
  intro hn
  rw [← keyAt_get h, ← keyAt_get (by omega)] at he
  have h2 := List.pairwise_iff_getElem.1 hn p m (by omega) h hp
  exact h2 he.symm

set_option maxRecDepth 100000 in
set_option maxHeartbeats 3200000 in
theorem rtwice_any (S : Nat → Prop) (ks : List Bs) (v : Value) (w : World) (hS : ∀ g, S g → g < w.heap.size) (hks : InMem S w v ks.length (ks.map sV)) (hl : ks.length ≤ big) :
    Calls Tryz.prog 70 #[v] w fun e w' => e = .returned (.bool (!decide ks.Nodup)) ∧ Fr NoB w w' := by
  obtain ⟨ka, kc, rfl⟩ := hks.sl
  unfold big at hl
  have HK := Lib.hid hks
  have HS := Lib.hid hS
  clear hks hS
  go_enter Tryz.func70, Tryz.ntmps70
  go_wp2_with fail
  go_loopw [3] (fun v wr => ∃ m : Nat, m ≤ ks.length ∧ v = .int .i64 m ∧ Fr NoB w wr ∧ Hid (ks.take m).Nodup) (fun v _ => ks.length - (intOf v).toNat)
  case atStart => exact ⟨0, Nat.zero_le _, rfl, Fr.refl _ _, Lib.hid (by simp)⟩
  case round =>
    obtain ⟨m, hm, rfl, hf, HN⟩ := hrel
    by_cases hlt : m < ks.length
    · have i1 : (0 : Int) ≤ m := by omega
      have i2 : (m : Int) < ks.length := by omega
      go_wp2_with fail
      go_loopw [4] (fun v wr2 => ∃ p : Nat, p ≤ m ∧ v = .int .i64 p ∧ Fr NoB w wr2 ∧ Hid (∀ x, x < p → keyAt ks x ≠ keyAt ks m)) (fun v _ => m - (intOf v).toNat)
      case atStart => exact ⟨0, Nat.zero_le _, rfl, hf, Lib.hid (fun _ h => absurd h (by omega))⟩
      case round =>
        obtain ⟨p, hp, rfl, h2, HP⟩ := hrel
        by_cases hpl : p < m
        · have j1 : (0 : Int) ≤ p := by omega
          have j2 : (p : Int) < m := by omega
          have j3 : (p : Int) < ks.length := by omega
          obtain ⟨gk, ok, rfl, hkc⟩ := HK.out.inS HS.out h2 (by omega)
          have em := hkc m (sV ks[m]) (by simp [hlt])
          have ep := hkc p (sV ks[p]) (by simp [show p < ks.length by omega])
          rw [keyAt_get hlt] at em
          rw [keyAt_get (by omega)] at ep
          clear hkc
          by_cases he : keyAt ks m = keyAt ks p
          · have hd : (!decide ks.Nodup) = true := by rw [decide_eq_false (not_nodup hlt hpl he)]; rfl
            rw [he] at em
            have HD := Lib.hid hd
            clear HN HP he hd
            generalize keyAt ks p = kp at *
            go_wp2_with fail
            go_quiet (fail)
            go_wp2_with fail
            go_ret
            exact ⟨by rw [HD.out]; rfl, h2.drewN _⟩
          · have hb : (keyAt ks m == keyAt ks p) = false := by simpa using he
            have hb3 : ¬ ((⟨(keyAt ks m).toArray⟩ : ByteArray) = ⟨(keyAt ks p).toArray⟩) := by simpa [ba_inj] using he
            have HP2 : Hid (∀ x, x < p + 1 → keyAt ks x ≠ keyAt ks m) := Lib.hid (fun x hx => by
              rcases Nat.lt_or_ge x p with h | h
              · exact HP.out x h
              · have : x = p := by omega
                subst this; exact fun e => he e.symm)
            clear HP he
            generalize hkm : keyAt ks m = km at em hb hb3
            generalize keyAt ks p = kp at ep hb hb3
            go_wp2_with fail
            go_quiet (fail)
            go_wp2_with fail
            go_roundw
            case rel => exact ⟨p + 1, by omega, by simp, h2.drewN _, by rw [← hkm] at *; exact HP2⟩
            case measure => simp [intOf]; omega
        · obtain rfl : p = m := by omega
          go_wp2_with fail
          go_roundw
          case rel => exact ⟨p + 1, by omega, by simp, h2, Lib.hid (nodup_step hlt HN.out HP.out)⟩
          case measure => simp [intOf]; omega
    · obtain rfl : m = ks.length := by omega
      have hd : (!decide ks.Nodup) = false := by have := HN.out; rw [List.take_length] at this; rw [decide_eq_true this]; rfl
      have HD := Lib.hid hd
      clear hd
      go_wp2_with fail
      go_ret
      exact ⟨by rw [HD.out]; rfl, hf⟩
end Go.Proofs.YteeijmfnjcddmaaGreatDoor
