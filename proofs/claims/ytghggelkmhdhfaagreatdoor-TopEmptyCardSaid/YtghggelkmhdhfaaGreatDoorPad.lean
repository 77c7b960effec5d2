
/-
  Bytes made a sector (the program's and the document's).
-/
import Derived.Test.YtghggelkmhdhfaaGreatDoorPlainPad
import Derived.Test.YtghggelkmhdhfaaGreatDoorShelf
namespace Go.Proofs.YtghggelkmhdhfaaGreatDoor
open Go.RowKit

set_option maxHeartbeats 400000 in
theorem padded_any (s : ByteArray) (w : World) (hs : s.size ≤ 64) :
    Calls Tryz.prog 45 #[.string s] w fun e w' => e = .returned (.string (pad s)) ∧ Below w.heap.size w w' := by
  have hc := Tryz.strings_Repeat ⟨#[0]⟩ (64 - s.size) w (by omega) (by show 1 * _ ≤ _; omega)
  have e1 : ((64 - s.size : Nat) : Int) = 64 - (s.size : Int) := by omega
  rw [e1] at hc
  have e2 := repeat_zero (64 - s.size)
  change (⟨(Lib.repeatL (#[0] : Array UInt8).toList (64 - s.size)).toArray⟩ : ByteArray) = _ at e2
  rw [e2] at hc
  have hz : (str (List.replicate (64 - s.size) 0)).size ≤ 64 := by simp [size_str]
  have HC := Lib.hid hc
  clear hc e1 e2
  go_enter Tryz.func45, Tryz.ntmps45
  go_wp2_with fail
  refine (HC.out).mono ?_
  rintro e w1 ⟨rfl, hb⟩
  go_wp2
  go_ret
  exact ⟨rfl, hb⟩

end Go.Proofs.YtghggelkmhdhfaaGreatDoor
