/- JwkTells: the row's closed facts, each by itself: all at once outgrow the kernel's memory. -/
import Derived.Test.YtbifjamddbpcjaaGreatDoorRows
import Derived.Test.YtbifjamddbpcjaaGreatDoorTie
import Derived.SevenTiedAt
import Derived.JoinedCond
import Derived.KernelRfl
namespace Go.Proofs.YtbifjamddbpcjaaGreatDoor.jwkTells
set_option maxRecDepth 100000
set_option maxHeartbeats 25600000
open Go.ChangeShapes Go.WideShapes Go.ChangeAt
theorem and_true_of {a b:Bool} (h1:a=true) (h2:b=true):(a&&b)=true:=by rw [h1,h2];rfl
theorem closed:joinedFacts Tryz.pinned.checked.prog 3 Tryz.f3 (Rows.OpenSpec.upto Rows.jwkTellsSpec).bare Rows.jwkTellsUptoRow=true:=by
 unfold joinedFacts
 repeat' (with_reducible refine and_true_of ?_ ?_)
 all_goals (as_aux_lemma=>kernel_rfl)
end Go.Proofs.YtbifjamddbpcjaaGreatDoor.jwkTells
