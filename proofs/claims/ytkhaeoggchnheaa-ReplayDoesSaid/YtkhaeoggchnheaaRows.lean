/-
  No cell of these rows narrows 'for every input' (looked for: loops, veiled, ifaces, maps, wideKeys, modest, calm, conditions, laid).
  DERIVED. THE GIVEN ROWS OF THIS SEAT. 4 by the template 'for every input the law returns true; each argument reads behind the call as it read before'; 0 by the template 'total and deterministic' (their statements: YtkhaeoggchnheaaTotals.lean).
  GIVEN WITH THE SEED: the statements are not yours to turn. If you find one false, say at which input.
  Laid BY PROGRAM, IN A SANDBOX (cutbox-rows.mjs): the forced cells as the released guide's own fill.sh prints them over the translation e32753be9578f136… (all of the seat's roots in one cut). By AI agents, Wed Nov 11 2026. No macro, syntax, notation, axiom, sorry.
-/
import Derived.Test.YtkhaeoggchnheaaChecked
import GoSem.Claim
import GoSem.ClaimJoined
import GoSem.ClaimMapViews
import Derived.JoinedTies
import Derived.KernelRfl
namespace Go.Proofs.Ytkhaeoggchnheaa
/- THE CELL 'sum', in the pinned program and in every row, IS THE sha256 OF THE DUMP (.gsa) THAT YtkhaeoggchnheaaProg.lean LOADS. Nothing in Lean hashes anything: it is a label: what it is worth is what the hold of that sum in a sandbox is worth. -/
noncomputable def Try.pinned : Pinned := { name := "ytkhaeoggchnheaa", sum := "e32753be9578f136d19eb55259b1cea9bb3f8a84619e4f125ae280d8d4590a19", checked := Try.checked }
namespace Rows
def none {H : Type} : Left H := { results := [], args := [] }

/-- 'ostiarylaw14.ReplayOnce': WHATEVER THE INPUT: true; the input reads as it did. -/
def replayOnceSpec : ChangeSpec := { name := "replayOnce", fn := fun _ => fun
  | [d1, d2] => { results := [.lit (.bool true)], args := [d1, d2] }
  | _ => none }
def replayOnceRow : OpenClaim := { program := "ytkhaeoggchnheaa", sum := "e32753be9578f136d19eb55259b1cea9bb3f8a84619e4f125ae280d8d4590a19", func := "ostiary/ostiarylaw14.ReplayOnce", spec := "replayOnce", apart := false }
def ReplayOnceSaid : Prop := replayOnceRow.holds Try.pinned (OpenSpec.ofChange replayOnceSpec)

/-- ITS FALSE NEIGHBOUR: 'it returns false'. Refute it at one input. -/
def replayOnceWrong : ChangeSpec := { name := "replayOnce", fn := fun _ => fun
  | [d1, d2] => { results := [.lit (.bool false)], args := [d1, d2] }
  | _ => none }
def ReplayOnceWrongFalsely : Prop := replayOnceRow.holds Try.pinned (OpenSpec.ofChange replayOnceWrong)

/-- 'ostiarylaw14.ReplayKeeps': WHATEVER THE INPUT: true; the input reads as it did. -/
def replayKeepsSpec : ChangeSpec := { name := "replayKeeps", fn := fun _ => fun
  | [d1, d2, d3] => { results := [.lit (.bool true)], args := [d1, d2, d3] }
  | _ => none }
def replayKeepsRow : OpenClaim := { program := "ytkhaeoggchnheaa", sum := "e32753be9578f136d19eb55259b1cea9bb3f8a84619e4f125ae280d8d4590a19", func := "ostiary/ostiarylaw14.ReplayKeeps", spec := "replayKeeps", apart := false }
def ReplayKeepsSaid : Prop := replayKeepsRow.holds Try.pinned (OpenSpec.ofChange replayKeepsSpec)

/-- ITS FALSE NEIGHBOUR: 'it returns false'. Refute it at one input. -/
def replayKeepsWrong : ChangeSpec := { name := "replayKeeps", fn := fun _ => fun
  | [d1, d2, d3] => { results := [.lit (.bool false)], args := [d1, d2, d3] }
  | _ => none }
def ReplayKeepsWrongFalsely : Prop := replayKeepsRow.holds Try.pinned (OpenSpec.ofChange replayKeepsWrong)

/-- 'ostiarylaw14.ReplayRooms': WHATEVER THE INPUT: true; the input reads as it did. -/
def replayRoomsSpec : ChangeSpec := { name := "replayRooms", fn := fun _ => fun
  | [d1, d2, d3] => { results := [.lit (.bool true)], args := [d1, d2, d3] }
  | _ => none }
def replayRoomsRow : OpenClaim := { program := "ytkhaeoggchnheaa", sum := "e32753be9578f136d19eb55259b1cea9bb3f8a84619e4f125ae280d8d4590a19", func := "ostiary/ostiarylaw14.ReplayRooms", spec := "replayRooms", apart := false }
def ReplayRoomsSaid : Prop := replayRoomsRow.holds Try.pinned (OpenSpec.ofChange replayRoomsSpec)

/-- ITS FALSE NEIGHBOUR: 'it returns false'. Refute it at one input. -/
def replayRoomsWrong : ChangeSpec := { name := "replayRooms", fn := fun _ => fun
  | [d1, d2, d3] => { results := [.lit (.bool false)], args := [d1, d2, d3] }
  | _ => none }
def ReplayRoomsWrongFalsely : Prop := replayRoomsRow.holds Try.pinned (OpenSpec.ofChange replayRoomsWrong)

/-- 'ostiarylaw14.ReplayDoes': WHATEVER THE INPUT: true; the input reads as it did. -/
def replayDoesSpec : ChangeSpec := { name := "replayDoes", fn := fun _ => fun
  | [d1, d2] => { results := [.lit (.bool true)], args := [d1, d2] }
  | _ => none }
def replayDoesRow : OpenClaim := { program := "ytkhaeoggchnheaa", sum := "e32753be9578f136d19eb55259b1cea9bb3f8a84619e4f125ae280d8d4590a19", func := "ostiary/ostiarylaw14.ReplayDoes", spec := "replayDoes", inPlace := ["maps.clone"], apart := false }
def ReplayDoesSaid : Prop := replayDoesRow.holds Try.pinned (OpenSpec.ofChange replayDoesSpec)

/-- ITS FALSE NEIGHBOUR: 'it returns false'. Refute it at one input. -/
def replayDoesWrong : ChangeSpec := { name := "replayDoes", fn := fun _ => fun
  | [d1, d2] => { results := [.lit (.bool false)], args := [d1, d2] }
  | _ => none }
def ReplayDoesWrongFalsely : Prop := replayDoesRow.holds Try.pinned (OpenSpec.ofChange replayDoesWrong)

/- THE SECOND FORM. 'bulk': how many values and letters a reading holds, each counted each time it is reached (what is shared counts as often as it is met; a slice's spare places count too). A statement '..UptoSaid' is the law's where the arguments, and the package variables that the reading takes, are together of bulk at most 1048576: NARROWER than '..Said'. Prove '..Said' where nothing that the law and all that it calls make is longer than what came in: it says more and counts as full. Else prove '..UptoSaid'. A law counts once. -/
mutual
def uptoBulk {H : Type} : DataW H → Nat
  | .lit (.string bytes) => bytes.length + 1
  | .lit _ => 1
  | .nil => 1
  | .ptr d => uptoBulk d + 1
  | .slice elems spare => uptoBulkAll elems + uptoBulkAll spare + 1
  | .agg parts => uptoBulkAll parts + 1
  | .iface _ d => uptoBulk d + 1
  | .map entries => uptoBulkEntries entries + 1
  | .held _ => 1
def uptoBulkAll {H : Type} : List (DataW H) → Nat
  | [] => 0
  | d :: r => uptoBulk d + uptoBulkAll r
def uptoBulkEntries {H : Type} : List (Lit × DataW H) → Nat
  | [] => 0
  | x :: r => uptoBulkEntry x + uptoBulkEntries r
def uptoBulkEntry {H : Type} : Lit × DataW H → Nat
  | (.string bytes, d) => bytes.length + uptoBulk d + 1
  | (_, d) => uptoBulk d + 1
 end
def uptoSmall : (H : Type) → List (DataW H) → Bool := fun _ ds => decide (uptoBulkAll ds ≤ 1048576)
def OpenSpec.upto (s : _root_.Go.ChangeSpec) : _root_.Go.OpenSpec := { _root_.Go.OpenSpec.ofChange s with cond := some uptoSmall }

/-- 'ostiarylaw14.ReplayOnce', WHERE WHAT IT READS IS OF BULK AT MOST 1048576: true; the input reads as it did. -/
def replayOnceUptoRow : OpenClaim := { program := "ytkhaeoggchnheaa", sum := "e32753be9578f136d19eb55259b1cea9bb3f8a84619e4f125ae280d8d4590a19", func := "ostiary/ostiarylaw14.ReplayOnce", spec := "replayOnce", apart := false, narrowed := true }
def ReplayOnceUptoSaid : Prop := replayOnceUptoRow.holds Try.pinned (OpenSpec.upto replayOnceSpec)

/-- 'ostiarylaw14.ReplayKeeps', WHERE WHAT IT READS IS OF BULK AT MOST 1048576: true; the input reads as it did. -/
def replayKeepsUptoRow : OpenClaim := { program := "ytkhaeoggchnheaa", sum := "e32753be9578f136d19eb55259b1cea9bb3f8a84619e4f125ae280d8d4590a19", func := "ostiary/ostiarylaw14.ReplayKeeps", spec := "replayKeeps", apart := false, narrowed := true }
def ReplayKeepsUptoSaid : Prop := replayKeepsUptoRow.holds Try.pinned (OpenSpec.upto replayKeepsSpec)

/-- 'ostiarylaw14.ReplayRooms', WHERE WHAT IT READS IS OF BULK AT MOST 1048576: true; the input reads as it did. -/
def replayRoomsUptoRow : OpenClaim := { program := "ytkhaeoggchnheaa", sum := "e32753be9578f136d19eb55259b1cea9bb3f8a84619e4f125ae280d8d4590a19", func := "ostiary/ostiarylaw14.ReplayRooms", spec := "replayRooms", apart := false, narrowed := true }
def ReplayRoomsUptoSaid : Prop := replayRoomsUptoRow.holds Try.pinned (OpenSpec.upto replayRoomsSpec)

/-- 'ostiarylaw14.ReplayDoes', WHERE WHAT IT READS IS OF BULK AT MOST 1048576: true; the input reads as it did. -/
def replayDoesUptoRow : OpenClaim := { program := "ytkhaeoggchnheaa", sum := "e32753be9578f136d19eb55259b1cea9bb3f8a84619e4f125ae280d8d4590a19", func := "ostiary/ostiarylaw14.ReplayDoes", spec := "replayDoes", inPlace := ["maps.clone"], apart := false, narrowed := true }
def ReplayDoesUptoSaid : Prop := replayDoesUptoRow.holds Try.pinned (OpenSpec.upto replayDoesSpec)

end Rows
end Go.Proofs.Ytkhaeoggchnheaa
