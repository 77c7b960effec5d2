
/-
  Bytes made a sector, in plain words; zeros repeated.
-/
import Derived.Test.YtghggelkmhdhfaaGreatDoorKit
import Derived.Lib.Repeat
namespace Go.Proofs.YtghggelkmhdhfaaGreatDoor
open Go.RowKit

/-- Bytes, made a sector. -/
def pad (s : ByteArray) : ByteArray := s ++ str (List.replicate (64 - s.size) 0)
theorem size_pad (s : ByteArray) (h : s.size ≤ 64) : (pad s).size = 64 := by
  simp only [pad, ByteArray.size_append, size_str, List.length_replicate]; omega
theorem data_pad (s : ByteArray) : (pad s).data.toList = s.data.toList ++ List.replicate (64 - s.size) 0 := by
  simp [pad, str]

theorem repeat_zero (n : Nat) : (⟨(Lib.repeatL [0] n).toArray⟩ : ByteArray) = str (List.replicate n 0) := by
  have : Lib.repeatL [0] n = List.replicate n 0 := by
    induction n with
    | zero => rfl
    | succ n ih => simp [Lib.repeatL, List.replicate_succ] at ih ⊢; try exact ih
  rw [this]; rfl

end Go.Proofs.YtghggelkmhdhfaaGreatDoor
