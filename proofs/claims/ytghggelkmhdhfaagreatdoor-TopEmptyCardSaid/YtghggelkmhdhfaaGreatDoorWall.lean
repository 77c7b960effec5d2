
/-
  Fences as sectors (the program's and the document's).
-/
import Derived.Test.YtghggelkmhdhfaaGreatDoorPut
import Derived.Test.YtghggelkmhdhfaaGreatDoorPad
import Derived.Deep.RegionHeld3
namespace Go.Proofs.YtghggelkmhdhfaaGreatDoor
open Go.RowKit

/-- The fence of two epochs. -/
def wallS (a b : Int) : ByteArray := pad (⟨#[70, 69, 78, 67]⟩ ++ str (le a 4) ++ str (le b 4))
theorem size_wall_in (a b : Int) : (⟨#[70, 69, 78, 67]⟩ ++ str (le a 4) ++ str (le b 4) : ByteArray).size = 12 := by
  rw [ByteArray.size_append, ByteArray.size_append, size_str, size_str, length_le, length_le]; rfl
theorem size_wallS (a b : Int) : (wallS a b).size = 64 := size_pad _ (by rw [size_wall_in]; omega)

/-- May a number be an epoch? -/
def epochB (n : Int) : Bool := decide (0 ≤ n ∧ n ≤ 4294967295)

theorem index0 (a b : Int) (w : World) : (Instr.index 32 (.agg #[.int .i64 a, .int .i64 b]) (.int .i64 0)).run Tryz.prog w = .ok (.int .i64 a) w := by kernel_rfl
theorem index1 (a b : Int) (w : World) : (Instr.index 32 (.agg #[.int .i64 a, .int .i64 b]) (.int .i64 1)).run Tryz.prog w = .ok (.int .i64 b) w := by kernel_rfl

set_option maxHeartbeats 400000 in
set_option maxRecDepth 100000 in
theorem wall_any (a b : Int) (w : World) (ha : epochB a = true) (hb : epochB b = true) :
    Calls Tryz.prog 28 #[.agg #[.int .i64 a, .int .i64 b]] w fun e w' => e = .returned (.string (wallS a b)) ∧ Below w.heap.size w w' := by
  obtain ⟨a0, a1⟩ := of_decide_eq_true ha
  obtain ⟨b0, b1⟩ := of_decide_eq_true hb
  have i0 := index0 a b
  have i1 := index1 a b
  have sa : (str (le a 4)).size ≤ 4 := by rw [size_str, length_le]; omega
  have sb : (str (le b 4)).size ≤ 4 := by rw [size_str, length_le]; omega
  have HZ := Lib.hid (size_wall_in a b)
  clear ha hb
  go_enter Tryz.func28, Tryz.ntmps28
  go_wp2_with fail
  refine wp_loop_rounds 3 ?_
  rw [rounds_succ]; go_wp2_with fail
  refine (put4_any _ _ _ (by omega) (by omega) a0 (by omega)).mono ?_
  rintro e w1 ⟨rfl, hb1⟩
  have hz1 := hb1.size
  go_wp2_with fail
  rw [rounds_succ]; go_wp2_with fail
  refine (put4_any _ _ _ (by omega) (by omega) b0 (by omega)).mono ?_
  rintro e w2 ⟨rfl, hb2⟩
  have hz2 := hb2.size
  go_wp2_with fail
  rw [rounds_succ]; go_wp2_with fail
  refine (padded_any _ _ (by rw [HZ.out]; omega)).mono ?_
  rintro e w3 ⟨rfl, hb3⟩
  go_wp2_with fail
  go_ret
  simp at hz1 hz2
  exact ⟨rfl, by (repeat' (first | exact Below.refl _ _ | assumption | refine Below.setCell ?_ ?_ _ | refine Below.drew ?_ | refine below_drewN ?_ _ | refine Below.alloc ?_ ?_ _ | refine below_of_grown ?_ (by assumption) ?_ | refine Below.trans ?_ (Below.mono (by assumption) ?_) | omega | (simp; done) | (simp; omega)))⟩

end Go.Proofs.YtghggelkmhdhfaaGreatDoor
