/-
  The walk of SuperPasses: the law returns true, and what was there is as it was.
-/
import Derived.Test.YthnljmejkcmjhaaPlain4
import Derived.Test.YthnljmejkcmjhaaAmong
namespace Go.Proofs.Ythnljmejkcmjhaa
open Go.RowKit

theorem passes_wall0 {a b : Int} (n : Int) (ha : epochB a = true) (hb : epochB b = true) (w : World) :
    Calls Try.prog 19 #[.string (wallS a b), .int .i64 0, .int .i64 n] w fun e w' => e = .returned (.tuple #[.bool (decide (a ≤ n)), .int .i64 0]) ∧ Below w.heap.size w w' := by
  have h := passes_any (wallS a b) 0 n w
  have e1 : passB (wallS a b) 0 n = decide (a ≤ n) := by simp [passB, isFence_wall ha hb, nodeB, ep, (wall_num4 ha hb).1]
  have e2 : passE (wallS a b) 0 = 0 := by simp [passE, isFence_wall ha hb, nodeB]
  rw [e1, e2] at h
  exact h
theorem passes_wall1 {a b : Int} (n : Int) (ha : epochB a = true) (hb : epochB b = true) (w : World) :
    Calls Try.prog 19 #[.string (wallS a b), .int .i64 1, .int .i64 n] w fun e w' => e = .returned (.tuple #[.bool (decide (b ≤ n)), .int .i64 0]) ∧ Below w.heap.size w w' := by
  have h := passes_any (wallS a b) 1 n w
  have e1 : passB (wallS a b) 1 n = decide (b ≤ n) := by simp [passB, isFence_wall ha hb, nodeB, ep, (wall_num4 ha hb).2]
  have e2 : passE (wallS a b) 1 = 0 := by simp [passE, isFence_wall ha hb, nodeB]
  rw [e1, e2] at h
  exact h
theorem raise_wall0 {a b n : Int} (ha : epochB a = true) (hb : epochB b = true) (hn : epochB n = true) (hl : a ≤ n) (w : World) :
    Calls Try.prog 17 #[.string (wallS a b), .int .i64 0, .int .i64 n] w fun e w' => e = .returned (.tuple #[.string (wallS n b), .int .i64 0]) ∧ Below w.heap.size w w' := by
  have h := raise_any (wallS a b) 0 n w
  have e1 : raiseS (wallS a b) 0 n = wallS n b := by simp [raiseS, raiseOk, raised, isFence_wall ha hb, nodeB, ep, (wall_num4 ha hb).1, (wall_num4 ha hb).2, hn, hl]
  have e2 : raiseE (wallS a b) 0 n = 0 := by simp [raiseE, raiseOk, isFence_wall ha hb, nodeB, ep, (wall_num4 ha hb).1, hn, hl]
  rw [e1, e2] at h
  exact h
theorem raise_wall1 {a b n : Int} (ha : epochB a = true) (hb : epochB b = true) (hn : epochB n = true) (hl : b ≤ n) (w : World) :
    Calls Try.prog 17 #[.string (wallS a b), .int .i64 1, .int .i64 n] w fun e w' => e = .returned (.tuple #[.string (wallS a n), .int .i64 0]) ∧ Below w.heap.size w w' := by
  have h := raise_any (wallS a b) 1 n w
  have e1 : raiseS (wallS a b) 1 n = wallS a n := by simp [raiseS, raiseOk, raised, isFence_wall ha hb, nodeB, ep, (wall_num4 ha hb).1, (wall_num4 ha hb).2, hn, hl]
  have e2 : raiseE (wallS a b) 1 n = 0 := by simp [raiseE, raiseOk, isFence_wall ha hb, nodeB, ep, (wall_num4 ha hb).2, hn, hl]
  rw [e1, e2] at h
  exact h
theorem raise_wall_not {a b node n : Int} (ha : epochB a = true) (hb : epochB b = true) (hnot : raiseOk (wallS a b) node n = false) (w : World) :
    Calls Try.prog 17 #[.string (wallS a b), .int .i64 node, .int .i64 n] w fun e w' => e = .returned (.tuple #[.string ⟨#[]⟩, .int .i64 1]) ∧ Below w.heap.size w w' := by
  have h := raise_any (wallS a b) node n w
  have e1 : raiseS (wallS a b) node n = ⟨#[]⟩ := by simp [raiseS, hnot]
  have e2 : raiseE (wallS a b) node n = 1 := by simp [raiseE, hnot, isFence_wall ha hb]
  rw [e1, e2] at h
  exact h
theorem fence_yes {a b : Int} (ha : epochB a = true) (hb : epochB b = true) (w : World) :
    Calls Try.prog 14 #[.agg #[.int .i64 a, .int .i64 b]] w fun e w' => e = .returned (.tuple #[.string (wallS a b), .int .i64 0]) ∧ Below w.heap.size w w' := by
  have h := fence_any a b w
  have e1 : fenceS a b = wallS a b := by simp [fenceS, ha, hb]
  have e2 : fenceE a b = 0 := by simp [fenceE, ha, hb]
  rw [e1, e2] at h
  exact h
theorem fence_no {a b : Int} (hn : (epochB a && epochB b) = false) (w : World) :
    Calls Try.prog 14 #[.agg #[.int .i64 a, .int .i64 b]] w fun e w' => e = .returned (.tuple #[.string ⟨#[]⟩, .int .i64 1]) ∧ Below w.heap.size w w' := by
  have h := fence_any a b w
  have e1 : fenceS a b = ⟨#[]⟩ := by simp only [fenceS, hn]; rfl
  have e2 : fenceE a b = 1 := by simp only [fenceE, hn]; rfl
  rw [e1, e2] at h
  exact h

set_option maxHeartbeats 1000000 in
set_option maxRecDepth 100000 in
theorem passes_out (a b node n : Int) (w : World) (hn : (epochB a && epochB b) = false) :
    Calls Try.prog 7 #[.agg #[.int .i64 a, .int .i64 b], .agg #[.int .i64 node, .int .i64 n]] w fun e w' => e = .returned (.bool true) ∧ Below w.heap.size w w' := by
  have hF := Lib.hid (fun W => fence_no hn W)
  clear hn
  go_enter Try.func7, Try.ntmps7
  go_wp2_with fail
  refine (works_any _).mono ?_
  rintro e w1 ⟨rfl, hb1⟩
  have hz1 := hb1.size
  simp at hz1
  have p0 : w1.cell? ⟨w.heap.size, 0, none⟩ = some (.int .i64 a) := by rw [hb1.cell (by simp <;> omega)]; simp [go_sem]
  have p1 : w1.cell? ⟨w.heap.size, 1, none⟩ = some (.int .i64 b) := by rw [hb1.cell (by simp <;> omega)]; simp [go_sem]
  go_wp2_with fail
  refine (hF.out _).mono ?_
  rintro e w2 ⟨rfl, hb2⟩
  have hz2 := hb2.size
  go_wp2_with fail
  go_ret
  exact ⟨rfl, by (repeat' (first | exact Below.refl _ _ | assumption | refine Below.setCell ?_ ?_ _ | refine Below.drew ?_ | refine below_drewN ?_ _ | refine Below.alloc ?_ ?_ _ | refine below_of_grown ?_ (by assumption) ?_ | refine Below.trans ?_ (Below.mono (by assumption) ?_) | omega | (simp; done) | (simp; omega)))⟩

set_option maxHeartbeats 1000000 in
set_option maxRecDepth 100000 in
theorem passes_0_yes (a b node n : Int) (w : World) (ha : epochB a = true) (hb : epochB b = true) (hm : node % (2 : Nat) = 0) (hn : epochB n = true) (hl : a ≤ n) :
    Calls Try.prog 7 #[.agg #[.int .i64 a, .int .i64 b], .agg #[.int .i64 node, .int .i64 n]] w fun e w' => e = .returned (.bool true) ∧ Below w.heap.size w w' := by
  have hF := Lib.hid (fun W => fence_yes ha hb W)
  have hA := Lib.hid (fun W => among_any node 2 W (by omega) (by omega))
  rw [hm] at hA
  have hP := Lib.hid (fun W => passes_wall0 n ha hb W)
  have hR := Lib.hid (fun W => raise_wall0 ha hb hn hl W)
  have hP2 := Lib.hid (fun W => passes_wall0 (a := n) (b := b) n hn hb W)
  have hP3 := Lib.hid (fun W => passes_wall0 (a := n) (b := b) (n - 1) hn hb W)
  have n0 : 0 ≤ n := (of_decide_eq_true hn).1
  have n1 : n ≤ 4294967295 := (of_decide_eq_true hn).2
  have g1 : decide (a ≤ n) = true := decide_eq_true hl
  have g2 : decide (n ≤ n) = true := decide_eq_true (Int.le_refl n)
  have g3 : decide (n ≤ n - 1) = false := decide_eq_false (by omega)
  rw [g1] at hP
  rw [g2] at hP2
  rw [g3] at hP3
  clear g1 g2 g3
  clear hn
  clear hm ha hb
  go_enter Try.func7, Try.ntmps7
  go_wp2_with fail
  refine (works_any _).mono ?_
  rintro e w1 ⟨rfl, hb1⟩
  have hz1 := hb1.size
  simp at hz1
  have p0 : w1.cell? ⟨w.heap.size, 0, none⟩ = some (.int .i64 a) := by rw [hb1.cell (by simp <;> omega)]; simp [go_sem]
  have p1 : w1.cell? ⟨w.heap.size, 1, none⟩ = some (.int .i64 b) := by rw [hb1.cell (by simp <;> omega)]; simp [go_sem]
  have p2 : w1.cell? ⟨w.heap.size + 1, 0, none⟩ = some (.int .i64 node) := by rw [hb1.cell (by simp <;> omega)]; simp [go_sem]
  have p3 : w1.cell? ⟨w.heap.size + 1, 1, none⟩ = some (.int .i64 n) := by rw [hb1.cell (by simp <;> omega)]; simp [go_sem]
  have f1 : ∀ o, w1.frozen? ⟨w.heap.size + 1, o, none⟩ = false := fun o => by rw [hb1.frozen (by simp <;> omega)]; simp [go_sem]
  go_wp2_with fail
  refine (hF.out _).mono ?_
  rintro e w2 ⟨rfl, hb2⟩
  have hz2 := hb2.size
  have q0 : w2.cell? ⟨w.heap.size, 0, none⟩ = some (.int .i64 a) := by rw [hb2.cell (by simp; omega)]; exact p0
  have q1 : w2.cell? ⟨w.heap.size, 1, none⟩ = some (.int .i64 b) := by rw [hb2.cell (by simp; omega)]; exact p1
  have q2 : w2.cell? ⟨w.heap.size + 1, 0, none⟩ = some (.int .i64 node) := by rw [hb2.cell (by simp; omega)]; exact p2
  have q3 : w2.cell? ⟨w.heap.size + 1, 1, none⟩ = some (.int .i64 n) := by rw [hb2.cell (by simp; omega)]; exact p3
  have f2 : ∀ o, w2.frozen? ⟨w.heap.size + 1, o, none⟩ = false := fun o => by rw [hb2.frozen (by simp; omega)]; exact f1 o
  clear p0 p1 p2 p3 f1
  go_wp2_with fail
  refine (hA.out _).mono ?_
  rintro e w3 ⟨rfl, rfl⟩
  go_wp2_with fail
  refine (hP.out _).mono ?_
  rintro e w4 ⟨rfl, hb4⟩
  have hz4 := hb4.size
  simp at hz4
  have r0 : w4.cell? ⟨w.heap.size, 0, none⟩ = some (.int .i64 a) := by rw [hb4.cell (by simp; omega)]; simp [go_sem, q0]
  have r1 : w4.cell? ⟨w.heap.size, 1, none⟩ = some (.int .i64 b) := by rw [hb4.cell (by simp; omega)]; simp [go_sem, q1]
  have r2 : w4.cell? ⟨w.heap.size + 1, 0, none⟩ = some (.int .i64 0) := by rw [hb4.cell (by simp; omega)]; simp [go_sem, q2]
  have r3 : w4.cell? ⟨w.heap.size + 1, 1, none⟩ = some (.int .i64 n) := by rw [hb4.cell (by simp; omega)]; simp [go_sem, q3]
  clear q0 q1 q2 q3 f2
  go_wp2_with fail
  go_quiet (fail)
  go_wp2_with fail
  refine (hR.out _).mono ?_
  rintro e w5 ⟨rfl, hb5⟩
  have hz5 := hb5.size
  simp at hz5
  have s2 : w5.cell? ⟨w.heap.size + 1, 0, none⟩ = some (.int .i64 0) := by rw [hb5.cell (by simp; omega)]; simpa [go_sem] using r2
  have s3 : w5.cell? ⟨w.heap.size + 1, 1, none⟩ = some (.int .i64 n) := by rw [hb5.cell (by simp; omega)]; simpa [go_sem] using r3
  clear r0 r1 r2 r3
  go_wp2_with fail
  refine (hP2.out _).mono ?_
  rintro e w6 ⟨rfl, hb6⟩
  have hz6 := hb6.size
  have t2 : w6.cell? ⟨w.heap.size + 1, 0, none⟩ = some (.int .i64 0) := by rw [hb6.cell (by simp; omega)]; exact s2
  have t3 : w6.cell? ⟨w.heap.size + 1, 1, none⟩ = some (.int .i64 n) := by rw [hb6.cell (by simp; omega)]; exact s3
  clear s2 s3
  go_wp2_with fail
  refine (hP3.out _).mono ?_
  rintro e w7 ⟨rfl, hb7⟩
  have hz7 := hb7.size
  go_wp2_with fail
  go_ret
  exact ⟨rfl, by (repeat' (first | exact Below.refl _ _ | assumption | refine Below.setCell ?_ ?_ _ | refine Below.drew ?_ | refine below_drewN ?_ _ | refine Below.alloc ?_ ?_ _ | refine below_of_grown ?_ (by assumption) ?_ | refine Below.trans ?_ (Below.mono (by assumption) ?_) | omega | (simp; done) | (simp; omega)))⟩

set_option maxHeartbeats 1000000 in
set_option maxRecDepth 100000 in
theorem passes_0_low (a b node n : Int) (w : World) (ha : epochB a = true) (hb : epochB b = true) (hm : node % (2 : Nat) = 0) (hl : n < a) :
    Calls Try.prog 7 #[.agg #[.int .i64 a, .int .i64 b], .agg #[.int .i64 node, .int .i64 n]] w fun e w' => e = .returned (.bool true) ∧ Below w.heap.size w w' := by
  have hF := Lib.hid (fun W => fence_yes ha hb W)
  have hA := Lib.hid (fun W => among_any node 2 W (by omega) (by omega))
  rw [hm] at hA
  have hP := Lib.hid (fun W => passes_wall0 n ha hb W)
  have hno : raiseOk (wallS a b) 0 n = false := by simp [raiseOk, ep, (wall_num4 ha hb).1]; omega
  have hl' : ¬ a ≤ n := by omega
  have g1 : decide (a ≤ n) = false := decide_eq_false hl'
  have hR := Lib.hid (fun W => raise_wall_not ha hb hno W)
  rw [g1] at hP
  clear hno g1
  clear hm ha hb
  go_enter Try.func7, Try.ntmps7
  go_wp2_with fail
  refine (works_any _).mono ?_
  rintro e w1 ⟨rfl, hb1⟩
  have hz1 := hb1.size
  simp at hz1
  have p0 : w1.cell? ⟨w.heap.size, 0, none⟩ = some (.int .i64 a) := by rw [hb1.cell (by simp <;> omega)]; simp [go_sem]
  have p1 : w1.cell? ⟨w.heap.size, 1, none⟩ = some (.int .i64 b) := by rw [hb1.cell (by simp <;> omega)]; simp [go_sem]
  have p2 : w1.cell? ⟨w.heap.size + 1, 0, none⟩ = some (.int .i64 node) := by rw [hb1.cell (by simp <;> omega)]; simp [go_sem]
  have p3 : w1.cell? ⟨w.heap.size + 1, 1, none⟩ = some (.int .i64 n) := by rw [hb1.cell (by simp <;> omega)]; simp [go_sem]
  have f1 : ∀ o, w1.frozen? ⟨w.heap.size + 1, o, none⟩ = false := fun o => by rw [hb1.frozen (by simp <;> omega)]; simp [go_sem]
  go_wp2_with fail
  refine (hF.out _).mono ?_
  rintro e w2 ⟨rfl, hb2⟩
  have hz2 := hb2.size
  have q0 : w2.cell? ⟨w.heap.size, 0, none⟩ = some (.int .i64 a) := by rw [hb2.cell (by simp; omega)]; exact p0
  have q1 : w2.cell? ⟨w.heap.size, 1, none⟩ = some (.int .i64 b) := by rw [hb2.cell (by simp; omega)]; exact p1
  have q2 : w2.cell? ⟨w.heap.size + 1, 0, none⟩ = some (.int .i64 node) := by rw [hb2.cell (by simp; omega)]; exact p2
  have q3 : w2.cell? ⟨w.heap.size + 1, 1, none⟩ = some (.int .i64 n) := by rw [hb2.cell (by simp; omega)]; exact p3
  have f2 : ∀ o, w2.frozen? ⟨w.heap.size + 1, o, none⟩ = false := fun o => by rw [hb2.frozen (by simp; omega)]; exact f1 o
  clear p0 p1 p2 p3 f1
  go_wp2_with fail
  refine (hA.out _).mono ?_
  rintro e w3 ⟨rfl, rfl⟩
  go_wp2_with fail
  refine (hP.out _).mono ?_
  rintro e w4 ⟨rfl, hb4⟩
  have hz4 := hb4.size
  simp at hz4
  have r0 : w4.cell? ⟨w.heap.size, 0, none⟩ = some (.int .i64 a) := by rw [hb4.cell (by simp; omega)]; simp [go_sem, q0]
  have r1 : w4.cell? ⟨w.heap.size, 1, none⟩ = some (.int .i64 b) := by rw [hb4.cell (by simp; omega)]; simp [go_sem, q1]
  have r2 : w4.cell? ⟨w.heap.size + 1, 0, none⟩ = some (.int .i64 0) := by rw [hb4.cell (by simp; omega)]; simp [go_sem, q2]
  have r3 : w4.cell? ⟨w.heap.size + 1, 1, none⟩ = some (.int .i64 n) := by rw [hb4.cell (by simp; omega)]; simp [go_sem, q3]
  clear q0 q1 q2 q3 f2
  go_wp2_with fail
  go_quiet (fail)
  go_wp2_with fail
  refine (hR.out _).mono ?_
  rintro e w5 ⟨rfl, hb5⟩
  have hz5 := hb5.size
  simp at hz5
  have s3 : w5.cell? ⟨w.heap.size + 1, 1, none⟩ = some (.int .i64 n) := by rw [hb5.cell (by simp; omega)]; simpa [go_sem] using r3
  clear r0 r1 r2 r3
  go_wp2_with fail
  go_ret
  exact ⟨rfl, by (repeat' (first | exact Below.refl _ _ | assumption | refine Below.setCell ?_ ?_ _ | refine Below.drew ?_ | refine below_drewN ?_ _ | refine Below.alloc ?_ ?_ _ | refine below_of_grown ?_ (by assumption) ?_ | refine Below.trans ?_ (Below.mono (by assumption) ?_) | omega | (simp; done) | (simp; omega)))⟩

set_option maxHeartbeats 1000000 in
set_option maxRecDepth 100000 in
theorem passes_0_big (a b node n : Int) (w : World) (ha : epochB a = true) (hb : epochB b = true) (hm : node % (2 : Nat) = 0) (hn : 4294967295 < n) :
    Calls Try.prog 7 #[.agg #[.int .i64 a, .int .i64 b], .agg #[.int .i64 node, .int .i64 n]] w fun e w' => e = .returned (.bool true) ∧ Below w.heap.size w w' := by
  have hF := Lib.hid (fun W => fence_yes ha hb W)
  have hA := Lib.hid (fun W => among_any node 2 W (by omega) (by omega))
  rw [hm] at hA
  have hP := Lib.hid (fun W => passes_wall0 n ha hb W)
  have hne : epochB n = false := by simp [epochB]; omega
  have hno : raiseOk (wallS a b) 0 n = false := by simp [raiseOk, hne]
  have hl : a ≤ n := by have := (of_decide_eq_true ha).2; omega
  have g1 : decide (a ≤ n) = true := decide_eq_true hl
  clear hne
  have hR := Lib.hid (fun W => raise_wall_not ha hb hno W)
  rw [g1] at hP
  clear hno g1
  clear hm ha hb
  go_enter Try.func7, Try.ntmps7
  go_wp2_with fail
  refine (works_any _).mono ?_
  rintro e w1 ⟨rfl, hb1⟩
  have hz1 := hb1.size
  simp at hz1
  have p0 : w1.cell? ⟨w.heap.size, 0, none⟩ = some (.int .i64 a) := by rw [hb1.cell (by simp <;> omega)]; simp [go_sem]
  have p1 : w1.cell? ⟨w.heap.size, 1, none⟩ = some (.int .i64 b) := by rw [hb1.cell (by simp <;> omega)]; simp [go_sem]
  have p2 : w1.cell? ⟨w.heap.size + 1, 0, none⟩ = some (.int .i64 node) := by rw [hb1.cell (by simp <;> omega)]; simp [go_sem]
  have p3 : w1.cell? ⟨w.heap.size + 1, 1, none⟩ = some (.int .i64 n) := by rw [hb1.cell (by simp <;> omega)]; simp [go_sem]
  have f1 : ∀ o, w1.frozen? ⟨w.heap.size + 1, o, none⟩ = false := fun o => by rw [hb1.frozen (by simp <;> omega)]; simp [go_sem]
  go_wp2_with fail
  refine (hF.out _).mono ?_
  rintro e w2 ⟨rfl, hb2⟩
  have hz2 := hb2.size
  have q0 : w2.cell? ⟨w.heap.size, 0, none⟩ = some (.int .i64 a) := by rw [hb2.cell (by simp; omega)]; exact p0
  have q1 : w2.cell? ⟨w.heap.size, 1, none⟩ = some (.int .i64 b) := by rw [hb2.cell (by simp; omega)]; exact p1
  have q2 : w2.cell? ⟨w.heap.size + 1, 0, none⟩ = some (.int .i64 node) := by rw [hb2.cell (by simp; omega)]; exact p2
  have q3 : w2.cell? ⟨w.heap.size + 1, 1, none⟩ = some (.int .i64 n) := by rw [hb2.cell (by simp; omega)]; exact p3
  have f2 : ∀ o, w2.frozen? ⟨w.heap.size + 1, o, none⟩ = false := fun o => by rw [hb2.frozen (by simp; omega)]; exact f1 o
  clear p0 p1 p2 p3 f1
  go_wp2_with fail
  refine (hA.out _).mono ?_
  rintro e w3 ⟨rfl, rfl⟩
  go_wp2_with fail
  refine (hP.out _).mono ?_
  rintro e w4 ⟨rfl, hb4⟩
  have hz4 := hb4.size
  simp at hz4
  have r0 : w4.cell? ⟨w.heap.size, 0, none⟩ = some (.int .i64 a) := by rw [hb4.cell (by simp; omega)]; simp [go_sem, q0]
  have r1 : w4.cell? ⟨w.heap.size, 1, none⟩ = some (.int .i64 b) := by rw [hb4.cell (by simp; omega)]; simp [go_sem, q1]
  have r2 : w4.cell? ⟨w.heap.size + 1, 0, none⟩ = some (.int .i64 0) := by rw [hb4.cell (by simp; omega)]; simp [go_sem, q2]
  have r3 : w4.cell? ⟨w.heap.size + 1, 1, none⟩ = some (.int .i64 n) := by rw [hb4.cell (by simp; omega)]; simp [go_sem, q3]
  clear q0 q1 q2 q3 f2
  go_wp2_with fail
  go_quiet (fail)
  go_wp2_with fail
  refine (hR.out _).mono ?_
  rintro e w5 ⟨rfl, hb5⟩
  have hz5 := hb5.size
  simp at hz5
  have s3 : w5.cell? ⟨w.heap.size + 1, 1, none⟩ = some (.int .i64 n) := by rw [hb5.cell (by simp; omega)]; simpa [go_sem] using r3
  clear r0 r1 r2 r3
  go_wp2_with fail
  go_ret
  exact ⟨rfl, by (repeat' (first | exact Below.refl _ _ | assumption | refine Below.setCell ?_ ?_ _ | refine Below.drew ?_ | refine below_drewN ?_ _ | refine Below.alloc ?_ ?_ _ | refine below_of_grown ?_ (by assumption) ?_ | refine Below.trans ?_ (Below.mono (by assumption) ?_) | omega | (simp; done) | (simp; omega)))⟩

set_option maxHeartbeats 1000000 in
set_option maxRecDepth 100000 in
theorem passes_1_yes (a b node n : Int) (w : World) (ha : epochB a = true) (hb : epochB b = true) (hm : node % (2 : Nat) = 1) (hn : epochB n = true) (hl : b ≤ n) :
    Calls Try.prog 7 #[.agg #[.int .i64 a, .int .i64 b], .agg #[.int .i64 node, .int .i64 n]] w fun e w' => e = .returned (.bool true) ∧ Below w.heap.size w w' := by
  have hF := Lib.hid (fun W => fence_yes ha hb W)
  have hA := Lib.hid (fun W => among_any node 2 W (by omega) (by omega))
  rw [hm] at hA
  have hP := Lib.hid (fun W => passes_wall1 n ha hb W)
  have hR := Lib.hid (fun W => raise_wall1 ha hb hn hl W)
  have hP2 := Lib.hid (fun W => passes_wall1 (a := a) (b := n) n ha hn W)
  have hP3 := Lib.hid (fun W => passes_wall1 (a := a) (b := n) (n - 1) ha hn W)
  have n0 : 0 ≤ n := (of_decide_eq_true hn).1
  have n1 : n ≤ 4294967295 := (of_decide_eq_true hn).2
  have g1 : decide (b ≤ n) = true := decide_eq_true hl
  have g2 : decide (n ≤ n) = true := decide_eq_true (Int.le_refl n)
  have g3 : decide (n ≤ n - 1) = false := decide_eq_false (by omega)
  rw [g1] at hP
  rw [g2] at hP2
  rw [g3] at hP3
  clear g1 g2 g3
  clear hn
  clear hm ha hb
  go_enter Try.func7, Try.ntmps7
  go_wp2_with fail
  refine (works_any _).mono ?_
  rintro e w1 ⟨rfl, hb1⟩
  have hz1 := hb1.size
  simp at hz1
  have p0 : w1.cell? ⟨w.heap.size, 0, none⟩ = some (.int .i64 a) := by rw [hb1.cell (by simp <;> omega)]; simp [go_sem]
  have p1 : w1.cell? ⟨w.heap.size, 1, none⟩ = some (.int .i64 b) := by rw [hb1.cell (by simp <;> omega)]; simp [go_sem]
  have p2 : w1.cell? ⟨w.heap.size + 1, 0, none⟩ = some (.int .i64 node) := by rw [hb1.cell (by simp <;> omega)]; simp [go_sem]
  have p3 : w1.cell? ⟨w.heap.size + 1, 1, none⟩ = some (.int .i64 n) := by rw [hb1.cell (by simp <;> omega)]; simp [go_sem]
  have f1 : ∀ o, w1.frozen? ⟨w.heap.size + 1, o, none⟩ = false := fun o => by rw [hb1.frozen (by simp <;> omega)]; simp [go_sem]
  go_wp2_with fail
  refine (hF.out _).mono ?_
  rintro e w2 ⟨rfl, hb2⟩
  have hz2 := hb2.size
  have q0 : w2.cell? ⟨w.heap.size, 0, none⟩ = some (.int .i64 a) := by rw [hb2.cell (by simp; omega)]; exact p0
  have q1 : w2.cell? ⟨w.heap.size, 1, none⟩ = some (.int .i64 b) := by rw [hb2.cell (by simp; omega)]; exact p1
  have q2 : w2.cell? ⟨w.heap.size + 1, 0, none⟩ = some (.int .i64 node) := by rw [hb2.cell (by simp; omega)]; exact p2
  have q3 : w2.cell? ⟨w.heap.size + 1, 1, none⟩ = some (.int .i64 n) := by rw [hb2.cell (by simp; omega)]; exact p3
  have f2 : ∀ o, w2.frozen? ⟨w.heap.size + 1, o, none⟩ = false := fun o => by rw [hb2.frozen (by simp; omega)]; exact f1 o
  clear p0 p1 p2 p3 f1
  go_wp2_with fail
  refine (hA.out _).mono ?_
  rintro e w3 ⟨rfl, rfl⟩
  go_wp2_with fail
  refine (hP.out _).mono ?_
  rintro e w4 ⟨rfl, hb4⟩
  have hz4 := hb4.size
  simp at hz4
  have r0 : w4.cell? ⟨w.heap.size, 0, none⟩ = some (.int .i64 a) := by rw [hb4.cell (by simp; omega)]; simp [go_sem, q0]
  have r1 : w4.cell? ⟨w.heap.size, 1, none⟩ = some (.int .i64 b) := by rw [hb4.cell (by simp; omega)]; simp [go_sem, q1]
  have r2 : w4.cell? ⟨w.heap.size + 1, 0, none⟩ = some (.int .i64 1) := by rw [hb4.cell (by simp; omega)]; simp [go_sem, q2]
  have r3 : w4.cell? ⟨w.heap.size + 1, 1, none⟩ = some (.int .i64 n) := by rw [hb4.cell (by simp; omega)]; simp [go_sem, q3]
  clear q0 q1 q2 q3 f2
  go_wp2_with fail
  go_quiet (fail)
  go_wp2_with fail
  refine (hR.out _).mono ?_
  rintro e w5 ⟨rfl, hb5⟩
  have hz5 := hb5.size
  simp at hz5
  have s2 : w5.cell? ⟨w.heap.size + 1, 0, none⟩ = some (.int .i64 1) := by rw [hb5.cell (by simp; omega)]; simpa [go_sem] using r2
  have s3 : w5.cell? ⟨w.heap.size + 1, 1, none⟩ = some (.int .i64 n) := by rw [hb5.cell (by simp; omega)]; simpa [go_sem] using r3
  clear r0 r1 r2 r3
  go_wp2_with fail
  refine (hP2.out _).mono ?_
  rintro e w6 ⟨rfl, hb6⟩
  have hz6 := hb6.size
  have t2 : w6.cell? ⟨w.heap.size + 1, 0, none⟩ = some (.int .i64 1) := by rw [hb6.cell (by simp; omega)]; exact s2
  have t3 : w6.cell? ⟨w.heap.size + 1, 1, none⟩ = some (.int .i64 n) := by rw [hb6.cell (by simp; omega)]; exact s3
  clear s2 s3
  go_wp2_with fail
  refine (hP3.out _).mono ?_
  rintro e w7 ⟨rfl, hb7⟩
  have hz7 := hb7.size
  go_wp2_with fail
  go_ret
  exact ⟨rfl, by (repeat' (first | exact Below.refl _ _ | assumption | refine Below.setCell ?_ ?_ _ | refine Below.drew ?_ | refine below_drewN ?_ _ | refine Below.alloc ?_ ?_ _ | refine below_of_grown ?_ (by assumption) ?_ | refine Below.trans ?_ (Below.mono (by assumption) ?_) | omega | (simp; done) | (simp; omega)))⟩

set_option maxHeartbeats 1000000 in
set_option maxRecDepth 100000 in
theorem passes_1_low (a b node n : Int) (w : World) (ha : epochB a = true) (hb : epochB b = true) (hm : node % (2 : Nat) = 1) (hl : n < b) :
    Calls Try.prog 7 #[.agg #[.int .i64 a, .int .i64 b], .agg #[.int .i64 node, .int .i64 n]] w fun e w' => e = .returned (.bool true) ∧ Below w.heap.size w w' := by
  have hF := Lib.hid (fun W => fence_yes ha hb W)
  have hA := Lib.hid (fun W => among_any node 2 W (by omega) (by omega))
  rw [hm] at hA
  have hP := Lib.hid (fun W => passes_wall1 n ha hb W)
  have hno : raiseOk (wallS a b) 1 n = false := by simp [raiseOk, ep, (wall_num4 ha hb).2]; omega
  have hl' : ¬ b ≤ n := by omega
  have g1 : decide (b ≤ n) = false := decide_eq_false hl'
  have hR := Lib.hid (fun W => raise_wall_not ha hb hno W)
  rw [g1] at hP
  clear hno g1
  clear hm ha hb
  go_enter Try.func7, Try.ntmps7
  go_wp2_with fail
  refine (works_any _).mono ?_
  rintro e w1 ⟨rfl, hb1⟩
  have hz1 := hb1.size
  simp at hz1
  have p0 : w1.cell? ⟨w.heap.size, 0, none⟩ = some (.int .i64 a) := by rw [hb1.cell (by simp <;> omega)]; simp [go_sem]
  have p1 : w1.cell? ⟨w.heap.size, 1, none⟩ = some (.int .i64 b) := by rw [hb1.cell (by simp <;> omega)]; simp [go_sem]
  have p2 : w1.cell? ⟨w.heap.size + 1, 0, none⟩ = some (.int .i64 node) := by rw [hb1.cell (by simp <;> omega)]; simp [go_sem]
  have p3 : w1.cell? ⟨w.heap.size + 1, 1, none⟩ = some (.int .i64 n) := by rw [hb1.cell (by simp <;> omega)]; simp [go_sem]
  have f1 : ∀ o, w1.frozen? ⟨w.heap.size + 1, o, none⟩ = false := fun o => by rw [hb1.frozen (by simp <;> omega)]; simp [go_sem]
  go_wp2_with fail
  refine (hF.out _).mono ?_
  rintro e w2 ⟨rfl, hb2⟩
  have hz2 := hb2.size
  have q0 : w2.cell? ⟨w.heap.size, 0, none⟩ = some (.int .i64 a) := by rw [hb2.cell (by simp; omega)]; exact p0
  have q1 : w2.cell? ⟨w.heap.size, 1, none⟩ = some (.int .i64 b) := by rw [hb2.cell (by simp; omega)]; exact p1
  have q2 : w2.cell? ⟨w.heap.size + 1, 0, none⟩ = some (.int .i64 node) := by rw [hb2.cell (by simp; omega)]; exact p2
  have q3 : w2.cell? ⟨w.heap.size + 1, 1, none⟩ = some (.int .i64 n) := by rw [hb2.cell (by simp; omega)]; exact p3
  have f2 : ∀ o, w2.frozen? ⟨w.heap.size + 1, o, none⟩ = false := fun o => by rw [hb2.frozen (by simp; omega)]; exact f1 o
  clear p0 p1 p2 p3 f1
  go_wp2_with fail
  refine (hA.out _).mono ?_
  rintro e w3 ⟨rfl, rfl⟩
  go_wp2_with fail
  refine (hP.out _).mono ?_
  rintro e w4 ⟨rfl, hb4⟩
  have hz4 := hb4.size
  simp at hz4
  have r0 : w4.cell? ⟨w.heap.size, 0, none⟩ = some (.int .i64 a) := by rw [hb4.cell (by simp; omega)]; simp [go_sem, q0]
  have r1 : w4.cell? ⟨w.heap.size, 1, none⟩ = some (.int .i64 b) := by rw [hb4.cell (by simp; omega)]; simp [go_sem, q1]
  have r2 : w4.cell? ⟨w.heap.size + 1, 0, none⟩ = some (.int .i64 1) := by rw [hb4.cell (by simp; omega)]; simp [go_sem, q2]
  have r3 : w4.cell? ⟨w.heap.size + 1, 1, none⟩ = some (.int .i64 n) := by rw [hb4.cell (by simp; omega)]; simp [go_sem, q3]
  clear q0 q1 q2 q3 f2
  go_wp2_with fail
  go_quiet (fail)
  go_wp2_with fail
  refine (hR.out _).mono ?_
  rintro e w5 ⟨rfl, hb5⟩
  have hz5 := hb5.size
  simp at hz5
  have s3 : w5.cell? ⟨w.heap.size + 1, 1, none⟩ = some (.int .i64 n) := by rw [hb5.cell (by simp; omega)]; simpa [go_sem] using r3
  clear r0 r1 r2 r3
  go_wp2_with fail
  go_ret
  exact ⟨rfl, by (repeat' (first | exact Below.refl _ _ | assumption | refine Below.setCell ?_ ?_ _ | refine Below.drew ?_ | refine below_drewN ?_ _ | refine Below.alloc ?_ ?_ _ | refine below_of_grown ?_ (by assumption) ?_ | refine Below.trans ?_ (Below.mono (by assumption) ?_) | omega | (simp; done) | (simp; omega)))⟩

set_option maxHeartbeats 1000000 in
set_option maxRecDepth 100000 in
theorem passes_1_big (a b node n : Int) (w : World) (ha : epochB a = true) (hb : epochB b = true) (hm : node % (2 : Nat) = 1) (hn : 4294967295 < n) :
    Calls Try.prog 7 #[.agg #[.int .i64 a, .int .i64 b], .agg #[.int .i64 node, .int .i64 n]] w fun e w' => e = .returned (.bool true) ∧ Below w.heap.size w w' := by
  have hF := Lib.hid (fun W => fence_yes ha hb W)
  have hA := Lib.hid (fun W => among_any node 2 W (by omega) (by omega))
  rw [hm] at hA
  have hP := Lib.hid (fun W => passes_wall1 n ha hb W)
  have hne : epochB n = false := by simp [epochB]; omega
  have hno : raiseOk (wallS a b) 1 n = false := by simp [raiseOk, hne]
  have hl : b ≤ n := by have := (of_decide_eq_true hb).2; omega
  have g1 : decide (b ≤ n) = true := decide_eq_true hl
  clear hne
  have hR := Lib.hid (fun W => raise_wall_not ha hb hno W)
  rw [g1] at hP
  clear hno g1
  clear hm ha hb
  go_enter Try.func7, Try.ntmps7
  go_wp2_with fail
  refine (works_any _).mono ?_
  rintro e w1 ⟨rfl, hb1⟩
  have hz1 := hb1.size
  simp at hz1
  have p0 : w1.cell? ⟨w.heap.size, 0, none⟩ = some (.int .i64 a) := by rw [hb1.cell (by simp <;> omega)]; simp [go_sem]
  have p1 : w1.cell? ⟨w.heap.size, 1, none⟩ = some (.int .i64 b) := by rw [hb1.cell (by simp <;> omega)]; simp [go_sem]
  have p2 : w1.cell? ⟨w.heap.size + 1, 0, none⟩ = some (.int .i64 node) := by rw [hb1.cell (by simp <;> omega)]; simp [go_sem]
  have p3 : w1.cell? ⟨w.heap.size + 1, 1, none⟩ = some (.int .i64 n) := by rw [hb1.cell (by simp <;> omega)]; simp [go_sem]
  have f1 : ∀ o, w1.frozen? ⟨w.heap.size + 1, o, none⟩ = false := fun o => by rw [hb1.frozen (by simp <;> omega)]; simp [go_sem]
  go_wp2_with fail
  refine (hF.out _).mono ?_
  rintro e w2 ⟨rfl, hb2⟩
  have hz2 := hb2.size
  have q0 : w2.cell? ⟨w.heap.size, 0, none⟩ = some (.int .i64 a) := by rw [hb2.cell (by simp; omega)]; exact p0
  have q1 : w2.cell? ⟨w.heap.size, 1, none⟩ = some (.int .i64 b) := by rw [hb2.cell (by simp; omega)]; exact p1
  have q2 : w2.cell? ⟨w.heap.size + 1, 0, none⟩ = some (.int .i64 node) := by rw [hb2.cell (by simp; omega)]; exact p2
  have q3 : w2.cell? ⟨w.heap.size + 1, 1, none⟩ = some (.int .i64 n) := by rw [hb2.cell (by simp; omega)]; exact p3
  have f2 : ∀ o, w2.frozen? ⟨w.heap.size + 1, o, none⟩ = false := fun o => by rw [hb2.frozen (by simp; omega)]; exact f1 o
  clear p0 p1 p2 p3 f1
  go_wp2_with fail
  refine (hA.out _).mono ?_
  rintro e w3 ⟨rfl, rfl⟩
  go_wp2_with fail
  refine (hP.out _).mono ?_
  rintro e w4 ⟨rfl, hb4⟩
  have hz4 := hb4.size
  simp at hz4
  have r0 : w4.cell? ⟨w.heap.size, 0, none⟩ = some (.int .i64 a) := by rw [hb4.cell (by simp; omega)]; simp [go_sem, q0]
  have r1 : w4.cell? ⟨w.heap.size, 1, none⟩ = some (.int .i64 b) := by rw [hb4.cell (by simp; omega)]; simp [go_sem, q1]
  have r2 : w4.cell? ⟨w.heap.size + 1, 0, none⟩ = some (.int .i64 1) := by rw [hb4.cell (by simp; omega)]; simp [go_sem, q2]
  have r3 : w4.cell? ⟨w.heap.size + 1, 1, none⟩ = some (.int .i64 n) := by rw [hb4.cell (by simp; omega)]; simp [go_sem, q3]
  clear q0 q1 q2 q3 f2
  go_wp2_with fail
  go_quiet (fail)
  go_wp2_with fail
  refine (hR.out _).mono ?_
  rintro e w5 ⟨rfl, hb5⟩
  have hz5 := hb5.size
  simp at hz5
  have s3 : w5.cell? ⟨w.heap.size + 1, 1, none⟩ = some (.int .i64 n) := by rw [hb5.cell (by simp; omega)]; simpa [go_sem] using r3
  clear r0 r1 r2 r3
  go_wp2_with fail
  go_ret
  exact ⟨rfl, by (repeat' (first | exact Below.refl _ _ | assumption | refine Below.setCell ?_ ?_ _ | refine Below.drew ?_ | refine below_drewN ?_ _ | refine Below.alloc ?_ ?_ _ | refine below_of_grown ?_ (by assumption) ?_ | refine Below.trans ?_ (Below.mono (by assumption) ?_) | omega | (simp; done) | (simp; omega)))⟩

theorem passes_walk (a b node n : Int) (w : World) :
    Calls Try.prog 7 #[.agg #[.int .i64 a, .int .i64 b], .agg #[.int .i64 node, .int .i64 n]] w fun e w' => e = .returned (.bool true) ∧ Below w.heap.size w w' := by
  cases hab : (epochB a && epochB b) with
  | false => exact passes_out a b node n w hab
  | true =>
    have ha : epochB a = true := by simp at hab; exact hab.1
    have hb : epochB b = true := by simp at hab; exact hab.2
    have a0 := of_decide_eq_true ha
    have b0 := of_decide_eq_true hb
    have hm : node % (2 : Nat) = 0 ∨ node % (2 : Nat) = 1 := by omega
    rcases hm with hm | hm
    · by_cases hl : a ≤ n
      · by_cases hn : n ≤ 4294967295
        · exact passes_0_yes a b node n w ha hb hm (decide_eq_true ⟨by omega, hn⟩) hl
        · exact passes_0_big a b node n w ha hb hm (by omega)
      · exact passes_0_low a b node n w ha hb hm (by omega)
    · by_cases hl : b ≤ n
      · by_cases hn : n ≤ 4294967295
        · exact passes_1_yes a b node n w ha hb hm (decide_eq_true ⟨by omega, hn⟩) hl
        · exact passes_1_big a b node n w ha hb hm (by omega)
      · exact passes_1_low a b node n w ha hb hm (by omega)
end Go.Proofs.Ythnljmejkcmjhaa
