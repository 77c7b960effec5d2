/-
  Fences as sectors (the program's and the document's).
-/
import Derived.Test.YthnljmejkcmjhaaPut
import Derived.Deep.RegionHeld3
namespace Go.Proofs.Ythnljmejkcmjhaa
open Go.RowKit

/-- The fence of two epochs. -/
def wallS (a b : Int) : ByteArray := pad (⟨#[70, 69, 78, 67]⟩ ++ str (le a 4) ++ str (le b 4))
theorem size_wall_in (a b : Int) : (⟨#[70, 69, 78, 67]⟩ ++ str (le a 4) ++ str (le b 4) : ByteArray).size = 12 := by
  rw [ByteArray.size_append, ByteArray.size_append, size_str, size_str, length_le, length_le]; rfl
theorem size_wallS (a b : Int) : (wallS a b).size = 64 := size_pad _ (by rw [size_wall_in]; omega)

/-- May a number be an epoch? -/
def epochB (n : Int) : Bool := decide (0 ≤ n ∧ n ≤ 4294967295)

theorem index0 (a b : Int) (w : World) : (Instr.index 31 (.agg #[.int .i64 a, .int .i64 b]) (.int .i64 0)).run Try.prog w = .ok (.int .i64 a) w := by kernel_rfl
theorem index1 (a b : Int) (w : World) : (Instr.index 31 (.agg #[.int .i64 a, .int .i64 b]) (.int .i64 1)).run Try.prog w = .ok (.int .i64 b) w := by kernel_rfl

set_option maxHeartbeats 400000 in
set_option maxRecDepth 100000 in
theorem wall_any (a b : Int) (w : World) (ha : epochB a = true) (hb : epochB b = true) :
    Calls Try.prog 28 #[.agg #[.int .i64 a, .int .i64 b]] w fun e w' => e = .returned (.string (wallS a b)) ∧ Below w.heap.size w w' := by
  obtain ⟨a0, a1⟩ := of_decide_eq_true ha
  obtain ⟨b0, b1⟩ := of_decide_eq_true hb
  have i0 := index0 a b
  have i1 := index1 a b
  have sa : (str (le a 4)).size ≤ 4 := by rw [size_str, length_le]; omega
  have sb : (str (le b 4)).size ≤ 4 := by rw [size_str, length_le]; omega
  have HZ := Lib.hid (size_wall_in a b)
  clear ha hb
  go_enter Try.func28, Try.ntmps28
  go_wp2_with fail
  refine wp_loop_rounds 3 ?_
  rw [rounds_succ]; go_wp2_with fail
  refine (put4_any _ _ _ (by omega) (by omega) a0 (by omega)).mono ?_
  rintro e w1 ⟨rfl, hb1⟩
  have hz1 := hb1.size
  go_wp2_with fail
  rw [rounds_succ]; go_wp2_with fail
  refine (put4_any _ _ _ (by omega) (by omega) b0 (by omega)).mono ?_
  rintro e w2 ⟨rfl, hb2⟩
  have hz2 := hb2.size
  go_wp2_with fail
  rw [rounds_succ]; go_wp2_with fail
  refine (padded_any _ _ (by rw [HZ.out]; omega)).mono ?_
  rintro e w3 ⟨rfl, hb3⟩
  go_wp2_with fail
  go_ret
  simp at hz1 hz2
  exact ⟨rfl, by (repeat' (first | exact Below.refl _ _ | assumption | refine Below.setCell ?_ ?_ _ | refine Below.drew ?_ | refine below_drewN ?_ _ | refine Below.alloc ?_ ?_ _ | refine below_of_grown ?_ (by assumption) ?_ | refine Below.trans ?_ (Below.mono (by assumption) ?_) | omega | (simp; done) | (simp; omega)))⟩

set_option maxHeartbeats 400000 in
set_option maxRecDepth 100000 in
theorem rwall_any (a b : Int) (w : World) :
    Calls Try.prog 31 #[.agg #[.int .i64 a, .int .i64 b]] w fun e w' => e = .returned (.string (wallS a b)) ∧ Below w.heap.size w w' := by
  have sa : (str (le a 4)).size ≤ 4 := by rw [size_str, length_le]; omega
  have sb : (str (le b 4)).size ≤ 4 := by rw [size_str, length_le]; omega
  have HZ := Lib.hid (size_wall_in a b)
  go_enter Try.func31, Try.ntmps31
  have had1 := fun W => run_string_add_sum (P := Try.prog) W ⟨#[70, 69, 78, 67]⟩ (str (le a 4)) (by show 4 + _ ≤ _; omega)
  have had2 := fun W => run_string_add_sum (P := Try.prog) W (⟨#[70, 69, 78, 67]⟩ ++ str (le a 4)) (str (le b 4)) (by rw [ByteArray.size_append]; show 4 + _ + _ ≤ _; omega)
  go_wp2_with fail
  have c0 : (w.alloc (.cells #[.int .i64 a, .int .i64 b] 31)).cell? ⟨w.heap.size, 0, none⟩ = some (.int .i64 a) := by simp [go_sem]
  have c1 : (w.alloc (.cells #[.int .i64 a, .int .i64 b] 31)).cell? ⟨w.heap.size, 1, none⟩ = some (.int .i64 b) := by simp [go_sem]
  have cB : Below w.heap.size w (w.alloc (.cells #[.int .i64 a, .int .i64 b] 31)) := (Below.refl _ _).alloc (Nat.le_refl _) _
  generalize w.alloc (.cells #[.int .i64 a, .int .i64 b] 31) = W at c0 c1 cB ⊢
  go_region_held3 (fun w' => w'.cell? ⟨w.heap.size, 0, none⟩ = some (.int .i64 a) ∧ w'.cell? ⟨w.heap.size, 1, none⟩ = some (.int .i64 b) ∧ Below w.heap.size w w')
    (first
      | exact cB.drew
      | exact ⟨by go_keep, by go_keep, cB.drew⟩
      | exact keep2 hb1 c0 c1 cB.drew
      | (go_split_ands; exact keep2 hb1 (by assumption) (by assumption) (by assumption)))
    (first
      | (go_at_call 38; refine (text_any _ 4 _ (by omega)).mono ?_; rintro e w1 ⟨rfl, hb1⟩)
      | (go_at_call 34; refine (rpadded_any _ _ (by rw [HZ.out]; omega)).mono ?_; rintro e w1 ⟨rfl, hb1⟩))
  go_wp2
  go_split_ands
  go_ret
  exact ⟨rfl, by assumption⟩
end Go.Proofs.Ythnljmejkcmjhaa
