/- JSON: the calls whose answers the document fixes: plainly. -/
import Derived.Test.YteeijmfnjcddmaaGreatDoorLh
namespace Go.Proofs.YteeijmfnjcddmaaGreatDoor
open Go.RowKit

def fxS1 : Bs := [32, 123, 32, 34, 98, 34, 32, 58, 32, 91, 32, 49, 32, 44, 32, 45, 53, 32, 44, 32, 34, 92, 117, 48, 48, 101, 57, 92, 47, 34, 32, 93, 32, 44, 32, 34, 97, 34, 32, 58, 32, 110, 117, 108, 108, 32, 125, 32]
def fxS2 : Bs := [123, 34, 97, 34, 58, 49, 44, 34, 92, 117, 48, 48, 54, 49, 34, 58, 50, 125]
def fxS3 : Bs := [91, 49, 46, 53, 93]
def fxS4 : Bs := List.replicate 33 91 ++ List.replicate 33 93
def fxL : Jv := .mk 5 0 [] [.mk 3 1 [] [] [], .mk 3 (-5) [] [] [], .mk 4 0 [195, 169, 47] [] []] []
def fxJ : Jv := .mk 6 0 [] [fxL, .mk 0 0 [] [] []] [[98], [97]]
def fxT : Bs := [123, 34, 97, 34, 58, 110, 117, 108, 108, 44, 34, 98, 34, 58, 91, 49, 44, 45, 53, 44, 34, 195, 169, 47, 34, 93, 125]
theorem fx1 : parseP fxS1 = .ok fxJ := by kernel_rfl
theorem fx2 : parseP fxS2 = .error 94 := by kernel_rfl
theorem fx3 : parseP fxS3 = .error 95 := by kernel_rfl
theorem fx4 : parseP fxS4 = .error 91 := by kernel_rfl
theorem fx5 : checkP 0 fxJ = 0 := by kernel_rfl
theorem fxo : orderP true [[98], [97]] 2 = [1, 0] := by
  unfold orderP
  rw [if_pos rfl]
  show List.mergeSort [0, 1] _ = [1, 0]
  simp [List.mergeSort, List.MergeSort.Internal.splitInTwo, List.merge, keyAt]
  decide
theorem fx6a : itemsL true [[98], [97]] (laysP [fxL, .mk 0 0 [] [] []]) = (orderP true [[98], [97]] 2).map (memP true [[98], [97]] (laysP [fxL, .mk 0 0 [] [] []])) := by kernel_rfl
theorem fx6b : layP fxJ = 123 :: (joinC (itemsL true [[98], [97]] (laysP [fxL, .mk 0 0 [] [] []])) ++ [125]) := by kernel_rfl
theorem fx6 : layP fxJ = fxT := by
  rw [fx6b, fx6a, fxo]
  kernel_rfl
theorem fx7 : checkP 0 (.mk 7 0 [] [] []) = 93 := by kernel_rfl
theorem fx8 : getP fxJ [98] = some fxL := by kernel_rfl
end Go.Proofs.YteeijmfnjcddmaaGreatDoor
