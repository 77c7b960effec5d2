/-
  A number from 0 to n - 1 (the statements' own help).
-/
import Derived.Test.YtfhmnkilmhnibaaDoorKit
namespace Go.Proofs.YtfhmnkilmhnibaaDoor
open Go.RowKit
theorem tmod_range (x : Int) (n : Nat) (h : 1 ≤ n) : -(n : Int) < x.tmod n ∧ x.tmod n < n := by
  have h1 := Int.tmod_lt_of_pos x (b := (n : Int)) (by omega)
  have h2 := Int.lt_tmod_of_pos x (b := (n : Int)) (by omega)
  omega
theorem among_eq (x : Int) (n : Nat) : (x.tmod n + n) % n = x % n := by
  rw [Int.add_emod_right]
  rw [Int.tmod_eq_emod]
  split
  · simp
  · rw [Int.sub_emod]
    simp
theorem ret_int' {k : IntKind} {a b : Int} (h : a = b) : Ending.returned (.int k a) = .returned (.int k b) := by rw [h]

set_option maxHeartbeats 400000 in
theorem among_any (x : Int) (n : Nat) (w : World) (h : 1 ≤ n) (h' : n ≤ 1000) :
    Calls Tryd.prog 13 #[.int .i64 x, .int .i64 n] w fun e w' => e = .returned (.int .i64 (x % n)) ∧ w = w' := by
  obtain ⟨t1, t2⟩ := tmod_range x n h
  have t3 : ¬ (n : Int) = 0 := by omega
  have he := Lib.hid (among_eq x n)
  have t4 : 0 ≤ x.tmod n + n := by omega
  have t5 : 1 ≤ (n : Int) := by omega
  go_enter Tryd.func13, Tryd.ntmps13
  go_wp2
  go_ret
  exact ⟨ret_int' he.out, rfl⟩
end Go.Proofs.YtfhmnkilmhnibaaDoor
