
/-
  What the checks of a geometry answer (the program's and the document's): the same.
-/
import Derived.Test.YtghggelkmhdhfaaGreatDoorKit
namespace Go.Proofs.YtghggelkmhdhfaaGreatDoor
open Go.RowKit

/-- May a geometry be? -/
def geomOk (a b c : Int) : Bool := decide (1 ≤ a ∧ a ≤ 4 ∧ 1 ≤ b ∧ b ≤ 32 ∧ 1 ≤ c ∧ c ≤ 64)
theorem geomOk_iff {a b c : Int} : geomOk a b c = true ↔ (1 ≤ a ∧ a ≤ 4 ∧ 1 ≤ b ∧ b ≤ 32 ∧ 1 ≤ c ∧ c ≤ 64) := by simp [geomOk]
theorem geomOk_no {a b c : Int} : geomOk a b c = false ↔ ¬ (1 ≤ a ∧ a ≤ 4 ∧ 1 ≤ b ∧ b ≤ 32 ∧ 1 ≤ c ∧ c ≤ 64) := by simp [geomOk]

set_option maxHeartbeats 400000 in
theorem check_yes (a b c : Int) (w : World) (h : geomOk a b c = true) :
    Calls Tryz.prog 6 #[.agg #[.int .i64 a, .int .i64 b, .int .i64 c]] w fun e w' => e = .returned (.int .i64 0) ∧ Below w.heap.size w w' := by
  obtain ⟨h1, h2, h3, h4, h5, h6⟩ := geomOk_iff.1 h
  clear h
  go_enter Tryz.func6, Tryz.ntmps6
  go_wp2
  all_goals (go_ret; exact ⟨rfl, (Below.refl _ _).alloc (Nat.le_refl _) _⟩)

set_option maxHeartbeats 400000 in
theorem check_no (a b c : Int) (w : World) (h : geomOk a b c = false) :
    Calls Tryz.prog 6 #[.agg #[.int .i64 a, .int .i64 b, .int .i64 c]] w fun e w' => e = .returned (.int .i64 4) ∧ Below w.heap.size w w' := by
  have H := Lib.hid (geomOk_no.1 h)
  clear h
  go_enter Tryz.func6, Tryz.ntmps6
  go_wp2
  all_goals first
    | (exfalso; have := H.out; omega)
    | (go_ret; exact ⟨rfl, (Below.refl _ _).alloc (Nat.le_refl _) _⟩)

end Go.Proofs.YtghggelkmhdhfaaGreatDoor
