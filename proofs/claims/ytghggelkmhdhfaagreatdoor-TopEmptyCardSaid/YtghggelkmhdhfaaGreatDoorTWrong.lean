
/-
  Nothing is wrong with a side, a geometry, and group 0: alloc.wrong, walked.
-/
import Derived.Test.YtghggelkmhdhfaaGreatDoorTRowS
namespace Go.Proofs.YtghggelkmhdhfaaGreatDoor
open Go.RowKit

set_option maxHeartbeats 1000000 in
theorem awrong_any {A B C : Nat} (G : Geo A B C) (s b o c : Nat) (w : World) (hb : b < w.heap.size) (hc : w.cell? ⟨b, o, none⟩ = some (.int .i64 0)) :
    Calls Tryz.prog 62 #[.pointer (some ⟨s, 0, none⟩), .agg #[.int .i64 (A : Int), .int .i64 (B : Int), .int .i64 (C : Int)], .slice (some ⟨b, o, none⟩) 1 c] w fun e w' => e = .returned (.int .i64 0) ∧ Below w.heap.size w w' := by
  have HC := Lib.hid (fun W => check_yes A B C W G.ok)
  have hA : (1 : Int) ≤ A := by have := G.1; omega
  have hA2 : ¬ A = 0 := by omega
  go_enter Tryz.func62, Tryz.ntmps62
  go_wp2_with fail
  refine (HC.out _).mono ?_
  rintro e w1 ⟨rfl, hb1⟩
  have c0 : w1.cell? ⟨w.heap.size, 0, none⟩ = some (.int .i64 (A : Int)) := by rw [hb1.cell (by simp <;> omega)]; simp [go_sem]
  have g0 : w1.cell? ⟨b, o, none⟩ = some (.int .i64 0) := by
    rw [hb1.cell (by simp; omega)]
    have hne : ¬ b = w.heap.size := by omega
    simp [go_sem, hc, hb]
  have hb1' := Lib.hid (show Below w.heap.size w w1 from by (repeat' (first | exact Below.refl _ _ | assumption | refine Below.setCell ?_ ?_ _ | refine Below.drew ?_ | refine below_drewN ?_ _ | refine Below.alloc ?_ ?_ _ | refine below_of_grown ?_ (by assumption) ?_ | refine Below.trans ?_ (Below.mono (by assumption) ?_) | omega | (simp; done) | (simp; omega))))
  clear hb1
  go_wp2_with fail
  refine wp_loop_rounds 2 ?_
  rw [rounds_succ]
  go_wp2_with fail
  rw [rounds_succ]
  go_wp2_with fail
  go_ret
  exact ⟨rfl, hb1'.out⟩
end Go.Proofs.YtghggelkmhdhfaaGreatDoor
