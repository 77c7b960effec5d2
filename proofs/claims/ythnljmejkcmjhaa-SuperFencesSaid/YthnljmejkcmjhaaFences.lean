/-
  The walk of SuperFences: the law returns true, and what was there is as it was.
-/
import Derived.Test.YthnljmejkcmjhaaRaise
import Derived.Test.YthnljmejkcmjhaaWorks4
import Derived.Test.YthnljmejkcmjhaaArr
namespace Go.Proofs.Ythnljmejkcmjhaa
open Go.RowKit

set_option maxHeartbeats 1000000 in
set_option maxRecDepth 100000 in
theorem fences_walk (a b : Int) (s : ByteArray) (node n : Int) (w : World) :
    Calls Try.prog 5 #[.agg #[.int .i64 a, .int .i64 b], .string s, .agg #[.int .i64 node, .int .i64 n]] w fun e w' => e = .returned (.bool true) ∧ Below w.heap.size w w' := by
  have hpe := fun W => pair_eq (epX s 4) (epX s 8) (epX s 4) (epX s 8) W
  go_enter Try.func5, Try.ntmps5
  go_wp2_with fail
  go_quiet (fail)
  go_wp2_with fail
  refine (fence_any _ _ _).mono ?_
  rintro e w1 ⟨rfl, hb1⟩
  have hz1 := hb1.size
  simp at hz1
  have p0 : w1.cell? ⟨w.heap.size, 0, none⟩ = some (.int .i64 a) := by rw [hb1.cell (by simp <;> omega)]; simp [go_sem]
  have p1 : w1.cell? ⟨w.heap.size, 1, none⟩ = some (.int .i64 b) := by rw [hb1.cell (by simp <;> omega)]; simp [go_sem]
  go_wp2_with fail
  refine (rfence_any _ _ _).mono ?_
  rintro e w2 ⟨rfl, hb2⟩
  have hz2 := hb2.size
  go_wp2_with fail
  refine (epochs_any _ _).mono ?_
  rintro e w3 ⟨rfl, hb3⟩
  have hz3 := hb3.size
  go_wp2_with fail
  refine (repochs_any _ _).mono ?_
  rintro e w4 ⟨rfl, hb4⟩
  have hz4 := hb4.size
  simp at hz4
  have q0 : w4.cell? ⟨w3.heap.size, 0, none⟩ = some (.int .i64 (epX s 4)) := by rw [hb4.cell (by simp <;> omega)]; simp [go_sem]
  have q1 : w4.cell? ⟨w3.heap.size, 1, none⟩ = some (.int .i64 (epX s 8)) := by rw [hb4.cell (by simp <;> omega)]; simp [go_sem]
  have hl : w3.heap.size < w4.heap.size := by omega
  go_wp2_with fail
  refine (works_any _).mono ?_
  rintro e w5 ⟨rfl, hb5⟩
  have hz5 := hb5.size
  simp at hz5
  go_wp2_with fail
  refine (raise_any _ _ _ _).mono ?_
  rintro e w6 ⟨rfl, hb6⟩
  have hz6 := hb6.size
  go_wp2_with fail
  refine (rraise_any _ _ _ _).mono ?_
  rintro e w7 ⟨rfl, hb7⟩
  have hz7 := hb7.size
  go_wp2_with fail
  refine (passes_any _ _ _ _).mono ?_
  rintro e w8 ⟨rfl, hb8⟩
  have hz8 := hb8.size
  go_wp2_with fail
  refine (rpasses_any _ _ _ _).mono ?_
  rintro e w9 ⟨rfl, hb9⟩
  have hz9 := hb9.size
  go_wp2_with fail
  go_ret
  exact ⟨rfl, by (repeat' (first | exact Below.refl _ _ | assumption | refine Below.setCell ?_ ?_ _ | refine Below.drew ?_ | refine below_drewN ?_ _ | refine Below.alloc ?_ ?_ _ | refine below_of_grown ?_ (by assumption) ?_ | refine Below.trans ?_ (Below.mono (by assumption) ?_) | omega | (simp; done) | (simp; omega)))⟩
end Go.Proofs.Ythnljmejkcmjhaa
