/- What the rows' list of library variables gives; a world that meets it. -/
import Derived.Test.YteeijmfnjcddmaaGreatDoorLg
import Derived.Test.YteeijmfnjcddmaaGreatDoorRows
import Derived.Stop.LaidErr
import Derived.Lib.LaidTab
import Derived.LaidHandle
import Derived.LaidLaws
import Derived.Deep.DeepLaidRun
namespace Go.Proofs.YteeijmfnjcddmaaGreatDoor
open Go.RowKit

theorem own : ownKnob Tryz.prog.godebug = none := by kernel_rfl
theorem g_ety : Tryz.prog.globalNamed "errors.errorType" = some 0 := by kernel_rfl
theorem g_rty : (Tryz.prog.cutTypes.find? (·.1 == "internal/reflectlite.rtype")).map (·.2) = some 156 := by kernel_rfl
theorem oneErr : ((List.range Tryz.prog.types.size).filter fun t => Tryz.prog.rowNamed t [101, 114, 114, 111, 114]) = [76] := by kernel_rfl
theorem g_rng : Tryz.prog.globalNamed "strconv.ErrRange" = some 6 := by kernel_rfl
theorem g_syn : Tryz.prog.globalNamed "strconv.ErrSyntax" = some 5 := by kernel_rfl
theorem g_powT : (Tryz.prog.globals[2]?).map (·.type) = some 204 := by kernel_rfl
theorem g_d64 : Tryz.prog.globalNamed "math/bits.deBruijn64tab" = some 8 := by kernel_rfl

/-- The rows' list. -/
abbrev laidL : List (String × DataW Unit) := Rows.jsonChecksRow.laid

theorem laid_head {P : Program} {n : String} {x : DataW Unit} {r : List (String × DataW Unit)} {W : World} (h : laidMet P ((n, x) :: r) W) : ∃ g t cs fuel p, P.globalNamed n = some g ∧ (P.globals[g]?).map (·.type) = some t ∧ W.var? P n = some cs ∧ DataW.trod (fun _ => ()) P W 0 (fun _ => true) false fuel t cs.toList = some (x, p) := by
  obtain ⟨ps, ⟨g, t, cs, fuel, p, q, h1, h2, h3, h4, _⟩, _⟩ := h
  exact ⟨g, t, cs, fuel, p, h1, h2, h3, h4⟩
theorem laid_iface {n nm : String} {d : DataW Unit} {r : List (String × DataW Unit)} {W : World} (g : Nat) (hg : Tryz.prog.globalNamed n = some g) (ht : (Tryz.prog.globals[g]?).map (·.type) = some 76) (h : laidMet Tryz.prog ((n, .iface nm d) :: r) W) : ∃ te pe, W.cell? ⟨g, 0, none⟩ = some (.iface te pe) := by
  obtain ⟨g', t, cs, fuel, p, h1, h2, h3, h4⟩ := laid_head h
  obtain rfl := Option.some.inj (hg.symm.trans h1)
  obtain rfl := Option.some.inj (ht.symm.trans h2)
  obtain ⟨f1, u, v, hcs, _⟩ := iface_of_trod Tryz.underlying76 h4
  have := World.var?_cell hg h3 0
  rw [← Array.getElem?_toList, hcs] at this
  exact ⟨u, v, this⟩

theorem cx_of {W : World} (h : laidMetH Tryz.prog laidL W) : Cx 9 W := by
  have h' : laidMet Tryz.prog [("math/bits.deBruijn32tab", Rows.laid_math_bits_deBruijn32tab), ("math/bits.deBruijn64tab", Rows.laid_math_bits_deBruijn64tab), ("internal/strconv.uint64pow10", Rows.laid_internal_strconv_uint64pow10), ("unicode/utf8.acceptRanges", Rows.laid_unicode_utf8_acceptRanges), ("strconv.ErrRange", Rows.laid_strconv_ErrRange), ("strconv.ErrSyntax", Rows.laid_strconv_ErrSyntax), ("unicode/utf8.first", Rows.laid_unicode_utf8_first)] W ∧ handlesMet Tryz.prog [("errors.errorType", Rows.laid_errors_errorType)] W := h
  obtain ⟨h1, h2⟩ := h'
  have hp := h1.tail.tail
  have hr := hp.tail.tail
  have hs := hr.tail
  refine ⟨Nat.le_refl _, ?_, ?_, ?_, ?_, ?_⟩
  · obtain ⟨te, pe, hc⟩ := laid_iface 6 g_rng (by kernel_rfl) hr
    obtain ⟨g, t, cs, fuel, p, e1, e2, e3, e4⟩ := laid_head h1.tail
    obtain rfl := Option.some.inj (g_d64.symm.trans e1)
    simp only [World.var?, g_d64, Option.bind_some] at e3
    have : 8 < W.heap.size := by
      rcases Nat.lt_or_ge 8 W.heap.size with h | h
      · exact h
      · rw [Array.getElem?_eq_none h] at e3; cases e3
    omega
  · exact Lib.tabIs_of_head gpow g_powT Tryz.underlying204 Tryz.underlying174 (by kernel_rfl) (by kernel_rfl) hp
  · exact laid_iface 5 g_syn (by kernel_rfl) hs
  · exact laid_iface 6 g_rng (by kernel_rfl) hr
  · obtain ⟨name, u, ty, e1, e2, e3, e4, e5⟩ := h2 _ (List.mem_singleton.2 rfl)
    have en : name = [101, 114, 114, 111, 114] := (Option.some.inj e1).symm
    subst en
    obtain rfl := Option.some.inj (g_rty.symm.trans e2)
    have hm : ty ∈ (List.range Tryz.prog.types.size).filter fun t => Tryz.prog.rowNamed t [101, 114, 114, 111, 114] := List.mem_filter.2 ⟨List.mem_range.2 e3, e4⟩
    rw [oneErr] at hm
    obtain rfl := List.mem_singleton.1 hm
    have hh : typeHandle Tryz.prog 76 = .pointer (some ⟨9, 76, none⟩) := by kernel_rfl
    rw [hh] at e5
    simpa using World.var?_cell g_ety e5 0

mutual
/-- The cells of plain data. -/
def flatD : DataW Unit → List Value
  | .lit (.int k n) => [.int k n]
  | .agg l => flatDs l
  | _ => []
def flatDs : List (DataW Unit) → List Value
  | [] => []
  | d :: r => flatD d ++ flatDs r
end
def putC (cs : List Value) : Obj → Obj
  | .cells _ t frozen => .cells cs.toArray t frozen
  | o => o
noncomputable def low : Nat := (World.holding Tryz.prog default ⟨#[], #[], []⟩).heap.size
/-- A world that holds the variables as the program's text lays them. -/
noncomputable def laidWorld (os : Os) : World :=
  let w0 := World.holding Tryz.prog os ⟨#[.cells #[.string ⟨#[105, 110, 118, 97, 108, 105, 100, 32, 115, 121, 110, 116, 97, 120]⟩] 227, .cells #[.string ⟨#[118, 97, 108, 117, 101, 32, 111, 117, 116, 32, 111, 102, 32, 114, 97, 110, 103, 101]⟩] 227], #[], []⟩
  { w0 with heap := (((((((w0.heap.modify 0 (putC [.iface 156 (.agg #[.pointer (some ⟨9, 76, none⟩)])])).modify 2 (putC (flatD Rows.laid_internal_strconv_uint64pow10))).modify 3 (putC (flatD Rows.laid_unicode_utf8_first))).modify 4 (putC (flatD Rows.laid_unicode_utf8_acceptRanges))).modify 5 (putC [.iface 225 (.pointer (some ⟨low, 0, none⟩))])).modify 6 (putC [.iface 225 (.pointer (some ⟨low + 1, 0, none⟩))])).modify 7 (putC (flatD Rows.laid_math_bits_deBruijn32tab))).modify 8 (putC (flatD Rows.laid_math_bits_deBruijn64tab)) }
theorem laidWorld_met (os : Os) (args : Array Value) : laidMetH Tryz.prog laidL ((laidWorld os).forCall (fun _ _ => 0) ⟨#[], args, []⟩).memory :=
  laidMetH_of_parts (laidMet_of_run3 8 (by kernel_rfl) (by kernel_rfl) (by kernel_rfl)) (by kernel_rfl)
end Go.Proofs.YteeijmfnjcddmaaGreatDoor
