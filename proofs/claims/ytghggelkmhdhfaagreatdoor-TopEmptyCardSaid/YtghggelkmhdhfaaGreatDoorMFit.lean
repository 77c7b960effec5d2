
/-
  A text made a sector (the statements' own help).
-/
import Derived.Test.YtghggelkmhdhfaaGreatDoorPlainPad
namespace Go.Proofs.YtghggelkmhdhfaaGreatDoor
open Go.RowKit

theorem fit_row (s : ByteArray) : ((Lib.byteCells (List.replicate 64 0)).toArray.toList.take 0 ++ Lib.byteCells s.data.toList ++ (Lib.byteCells (List.replicate 64 0)).toArray.toList.drop (0 + s.size)).toArray = (Lib.byteCells (pad s).data.toList).toArray := by
  have key : ∀ n k, List.drop k (Lib.byteCells (List.replicate n 0)) = Lib.byteCells (List.replicate (n - k) 0) := fun n k => by
    simp only [Lib.byteCells, List.map_replicate, List.drop_replicate]
  rw [data_pad, Nat.zero_add]
  show ([] ++ Lib.byteCells s.data.toList ++ List.drop s.size (Lib.byteCells (List.replicate 64 0))).toArray = _
  rw [key, List.nil_append]
  simp only [Lib.byteCells, List.map_append]

end Go.Proofs.YtghggelkmhdhfaaGreatDoor
