
/-
  A new side of a disk: soft.New at node 0, epoch 0, walked.
-/
import Derived.Test.YtghggelkmhdhfaaGreatDoorTSide
import Derived.Maps.OwnSet
import Derived.Maps.OwnOps
namespace Go.Proofs.YtghggelkmhdhfaaGreatDoor
open Go.RowKit Go.Maps Go.WideMaps

/-- What a new side is: its block, its Deps without changes. -/
def SoftNew (d : Nat) (w : World) (e : Ending) (w' : World) : Prop := ∃ s p, e = .returned (.tuple #[.pointer (some ⟨s, 0, none⟩), .int .i64 0]) ∧ w.heap.size ≤ p ∧ w.heap.size ≤ s ∧ Below w.heap.size w w' ∧
  w'.cell? ⟨s, 0, none⟩ = some (.pointer (some ⟨p, 0, none⟩)) ∧ w'.cell? ⟨s, 1, none⟩ = some (.pointer (some ⟨d, 0, none⟩)) ∧ w'.cell? ⟨p, 0, none⟩ = some (.slice none 0 0) ∧ w'.cell? ⟨p, 1, none⟩ = some (.int .i64 0) ∧ (∀ o, w'.frozen? ⟨p, o, none⟩ = false)

set_option maxHeartbeats 1000000 in
theorem softnew_any (d : Nat) (w : World) :
    Calls Tryz.prog 42 #[.pointer (some ⟨d, 0, none⟩), .int .i64 0, .int .i64 0] w (SoftNew d w) := by
  have HD := Lib.hid (fun W => depsnew_any W)
  have hmm := @run_makeMap Tryz.prog
  go_enter Tryz.func42, Tryz.ntmps42
  go_wp2_with fail
  refine (HD.out _).mono ?_
  rintro e w1 ⟨rfl, rfl⟩
  go_wp2_with fail
  go_ret2
  refine ⟨_, _, rfl, Nat.le_refl _, ?_, ?_, ?_, ?_, ?_, ?_, ?_⟩
  all_goals first | (simp [go_sem]; done) | (simp; omega) | ((repeat' (first | exact Below.refl _ _ | assumption | refine Below.setCell ?_ ?_ _ | refine Below.drew ?_ | refine below_drewN ?_ _ | refine Below.alloc ?_ ?_ _ | refine below_of_grown ?_ (by assumption) ?_ | refine Below.trans ?_ (Below.mono (by assumption) ?_) | omega | (simp; done) | (simp; omega)))) | (intro o; simp [go_sem]; done)
end Go.Proofs.YtghggelkmhdhfaaGreatDoor
