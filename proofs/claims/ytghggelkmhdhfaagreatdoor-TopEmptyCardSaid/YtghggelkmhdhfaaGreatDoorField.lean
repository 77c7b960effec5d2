
/-
  Numbers at fixed places of a sector: field.Get, field.Put (where they answer OK), and the document's Num and Text.
-/
import Derived.Test.YtghggelkmhdhfaaGreatDoorPlainPad
import Derived.RegionTactic
import Derived.ChangeAlike
import Derived.Deep.QuietTactic
import Derived.BigQuiet
import Derived.Laws.BitsLemmas
namespace Go.Proofs.YtghggelkmhdhfaaGreatDoor
open Go.RowKit
/-- A number's bytes, the low one first. -/
def le (n : Int) (k : Nat) : List UInt8 := (List.range k).map fun i => UInt8.ofNat (n / 2 ^ (8 * i) % 256).toNat
theorem le_succ (n : Int) (k : Nat) : le n (k + 1) = le n k ++ [UInt8.ofNat (n / 2 ^ (8 * k) % 256).toNat] := by
  simp [le, List.range_succ]
theorem length_le (n : Int) (k : Nat) : (le n k).length = k := by simp [le]
theorem byte_back {x : Int} (h1 : 0 ≤ x) (h2 : x < 256) : ((UInt8.ofNat x.toNat).toNat : Int) = x := by
  rw [UInt8.toNat_ofNat']
  omega
theorem low_byte (n : Int) (k : Nat) : 0 ≤ n / 2 ^ (8 * k) % 256 ∧ n / 2 ^ (8 * k) % 256 < 256 :=
  ⟨Int.emod_nonneg _ (by omega), Int.emod_lt_of_pos _ (by omega)⟩
theorem cells_le_succ (n : Int) (k : Nat) : Lib.byteCells (le n k) ++ [.int .u8 (n / 2 ^ (8 * k) % 256)] = Lib.byteCells (le n (k + 1)) := by
  rw [le_succ]
  simp only [Lib.byteCells, List.map_append, List.map_cons, List.map_nil]
  rw [byte_back (low_byte n k).1 (low_byte n k).2]

set_option maxHeartbeats 400000 in
theorem wide_yes (n : Int) (w : World) (h : n = 1 ∨ n = 2 ∨ n = 4) :
    Calls Tryz.prog 52 #[.int .i64 n] w fun e w' => e = .returned (.bool true) ∧ w = w' := by
  rcases h with rfl | rfl | rfl
  all_goals
    go_enter Tryz.func52, Tryz.ntmps52
    go_wp2
    go_ret
    exact ⟨rfl, rfl⟩

/-- Does a place lie within a sector? -/
def insideB (off n : Int) : Bool := decide (0 ≤ off ∧ 0 < n ∧ n ≤ 64 ∧ off ≤ 64 - n)
set_option maxHeartbeats 400000 in
theorem inside_yes (off n : Int) (w : World) (h : insideB off n = true) :
    Calls Tryz.prog 53 #[.int .i64 off, .int .i64 n] w fun e w' => e = .returned (.bool true) ∧ w = w' := by
  obtain ⟨h1, h2, h3, h4⟩ := of_decide_eq_true h
  have h5 : 64 - n ≤ 64 := by omega
  clear h
  go_enter Tryz.func53, Tryz.ntmps53
  go_wp2
  go_ret
  simp_all
set_option maxHeartbeats 400000 in
theorem inside_no (off n : Int) (w : World) (h : insideB off n = false) :
    Calls Tryz.prog 53 #[.int .i64 off, .int .i64 n] w fun e w' => e = .returned (.bool false) ∧ w = w' := by
  have H := of_decide_eq_false h
  clear h
  by_cases h1 : 0 ≤ off
  · by_cases h2 : 0 < n
    · by_cases h3 : n ≤ 64
      · have h4 : ¬ off ≤ 64 - n := fun h4 => H ⟨h1, h2, h3, h4⟩
        clear H
        go_enter Tryz.func53, Tryz.ntmps53
        go_wp2
        go_ret
        simp_all
      · clear H
        go_enter Tryz.func53, Tryz.ntmps53
        go_wp2
        go_ret
        simp_all
    · clear H
      go_enter Tryz.func53, Tryz.ntmps53
      go_wp2
      go_ret
      simp_all
  · clear H
    go_enter Tryz.func53, Tryz.ntmps53
    go_wp2
    go_ret
    simp_all
end Go.Proofs.YtghggelkmhdhfaaGreatDoor
