
/-
  A region's lease that nobody holds: table.may, table.Put at it, walked.
-/
import Derived.Test.YtghggelkmhdhfaaGreatDoorTGeom3
import Derived.Test.YtghggelkmhdhfaaGreatDoorPut
namespace Go.Proofs.YtghggelkmhdhfaaGreatDoor
open Go.RowKit

set_option maxHeartbeats 400000 in
theorem tmay_zero (w : World) :
    Calls Tryz.prog 72 #[.agg #[.int .i64 0, .int .i64 0]] w fun e w' => e = .returned (.bool true) ∧ Below w.heap.size w w' := by
  go_enter Tryz.func72, Tryz.ntmps72
  go_wp2_with fail
  go_ret
  exact ⟨rfl, (Below.refl _ _).alloc (Nat.le_refl _) _⟩

/-- Four bytes of zeros. -/
def zero4 : ByteArray := str (le 0 4)
theorem size_zero4 : zero4.size = 4 := by decide +kernel

set_option maxHeartbeats 2000000 in
theorem tput_zero {A B C r : Nat} (G : Geo A B C) (hr : r < rgN A B) (w : World) :
    Calls Tryz.prog 47 #[.agg #[.int .i64 (A : Int), .int .i64 (B : Int), .int .i64 (C : Int)], .int .i64 (r : Int), .agg #[.int .i64 0, .int .i64 0]] w fun e w' => e = .returned (.tuple #[.int .i64 ((2 + r / 16 : Nat) : Int), .agg #[.int .i64 ((r % 16 * 4 : Nat) : Int), .string zero4], .int .i64 0]) ∧ Below w.heap.size w w' := by
  have HT := Lib.hid (fun W => table_any G hr W)
  have HP := Lib.hid (fun W => put4_any ((r % 16 * 4 : Nat) : Int) 0 W (by omega) (by omega) (by omega) (by omega))
  have hz : str (le 0 4) = zero4 := rfl
  rw [hz] at HP
  generalize r % 16 * 4 = off at *
  generalize 2 + r / 16 = sec at *
  clear hz hr
  go_enter Tryz.func47, Tryz.ntmps47
  go_wp2_with fail
  refine (HT.out _).mono ?_
  rintro e w1 ⟨rfl, hb1⟩
  have hz1 := hb1.size
  simp at hz1
  have p0 : w1.cell? ⟨w.heap.size + 1, 0, none⟩ = some (.int .i64 0) := by rw [hb1.cell (by simp <;> omega)]; simp [go_sem]
  have p1 : w1.cell? ⟨w.heap.size + 1, 1, none⟩ = some (.int .i64 0) := by rw [hb1.cell (by simp <;> omega)]; simp [go_sem]
  have q0 : w1.cell? ⟨w.heap.size + 2, 0, none⟩ = some (.int .i64 0) := by rw [hb1.cell (by simp <;> omega)]; simp [go_sem]
  have q1 : w1.cell? ⟨w.heap.size + 2, 1, none⟩ = some (.string ⟨#[]⟩) := by rw [hb1.cell (by simp <;> omega)]; simp [go_sem]
  have uf : ∀ o, w1.frozen? ⟨w.heap.size + 2, o, none⟩ = false := fun o => by rw [hb1.frozen (by simp <;> omega)]; simp [go_sem]
  have hb1' : Below w.heap.size w w1 := by (repeat' (first | exact Below.refl _ _ | assumption | refine Below.setCell ?_ ?_ _ | refine Below.drew ?_ | refine below_drewN ?_ _ | refine Below.alloc ?_ ?_ _ | refine below_of_grown ?_ (by assumption) ?_ | refine Below.trans ?_ (Below.mono (by assumption) ?_) | omega | (simp; done) | (simp; omega)))
  clear hb1
  go_wp2_with fail
  refine (tmay_zero _).mono ?_
  rintro e w2 ⟨rfl, hb2⟩
  have hz2 := hb2.size
  have p0' : w2.cell? ⟨w.heap.size + 1, 0, none⟩ = some (.int .i64 0) := by rw [hb2.cell (by simp; omega)]; exact p0
  have p1' : w2.cell? ⟨w.heap.size + 1, 1, none⟩ = some (.int .i64 0) := by rw [hb2.cell (by simp; omega)]; exact p1
  have q0' : w2.cell? ⟨w.heap.size + 2, 0, none⟩ = some (.int .i64 0) := by rw [hb2.cell (by simp; omega)]; exact q0
  have q1' : w2.cell? ⟨w.heap.size + 2, 1, none⟩ = some (.string ⟨#[]⟩) := by rw [hb2.cell (by simp; omega)]; exact q1
  have uf' : ∀ o, w2.frozen? ⟨w.heap.size + 2, o, none⟩ = false := fun o => by rw [hb2.frozen (by simp; omega)]; exact uf o
  have hb2' : Below w.heap.size w w2 := hb1'.trans (hb2.mono (by omega))
  clear hb2 hb1' p0 p1 q0 q1 uf
  go_wp2_with fail
  refine (HP.out _).mono ?_
  rintro e w3 ⟨rfl, hb3⟩
  have hz3 := hb3.size
  have q0 : w3.cell? ⟨w.heap.size + 2, 0, none⟩ = some (.int .i64 0) := by rw [hb3.cell (by simp; omega)]; exact q0'
  have q1 : w3.cell? ⟨w.heap.size + 2, 1, none⟩ = some (.string ⟨#[]⟩) := by rw [hb3.cell (by simp; omega)]; exact q1'
  have uf : ∀ o, w3.frozen? ⟨w.heap.size + 2, o, none⟩ = false := fun o => by rw [hb3.frozen (by simp; omega)]; exact uf' o
  have hb3' : Below w.heap.size w w3 := hb2'.trans (hb3.mono (by omega))
  have l3 : w.heap.size + 2 < w3.heap.size := by omega
  clear hb3 hb2' p0' p1' q0' q1' uf'
  go_wp2_with fail
  have W0 : ((w3.setCell ⟨w.heap.size + 1 + 1, 0, none⟩ (.int .i64 (off : Int))).setCell ⟨w.heap.size + 1 + 1, 1, none⟩ (.string zero4)).cell? ⟨w.heap.size + 1 + 1, 0, none⟩ = some (.int .i64 (off : Int)) := by simp [go_sem, q0]
  have W1 : ((w3.setCell ⟨w.heap.size + 1 + 1, 0, none⟩ (.int .i64 (off : Int))).setCell ⟨w.heap.size + 1 + 1, 1, none⟩ (.string zero4)).cell? ⟨w.heap.size + 1 + 1, 1, none⟩ = some (.string zero4) := by simp [go_sem, q1]
  have WF : ∀ o, ((w3.setCell ⟨w.heap.size + 1 + 1, 0, none⟩ (.int .i64 (off : Int))).setCell ⟨w.heap.size + 1 + 1, 1, none⟩ (.string zero4)).frozen? ⟨w.heap.size + 1 + 1, o, none⟩ = false := fun o => by simp [go_sem, uf]
  have WB : Below w.heap.size w ((w3.setCell ⟨w.heap.size + 1 + 1, 0, none⟩ (.int .i64 (off : Int))).setCell ⟨w.heap.size + 1 + 1, 1, none⟩ (.string zero4)) := (hb3'.setCell (by simp; omega) _).setCell (by simp; omega) _
  have WL : w.heap.size + 1 + 1 < ((w3.setCell ⟨w.heap.size + 1 + 1, 0, none⟩ (.int .i64 (off : Int))).setCell ⟨w.heap.size + 1 + 1, 1, none⟩ (.string zero4)).heap.size := by simp; omega
  generalize ((w3.setCell ⟨w.heap.size + 1 + 1, 0, none⟩ (.int .i64 (off : Int))).setCell ⟨w.heap.size + 1 + 1, 1, none⟩ (.string zero4)) = w4 at *
  clear q0 q1 uf hb3' l3
  go_region
  all_goals
    go_wp2_with fail
    refine bodyPost_ret (v := .tuple #[.int .i64 (sec : Int), .agg #[.int .i64 (off : Int), .string zero4], .int .i64 0]) (by simp [results, Tryz.results47, go_sem, W0, W1]) rfl ⟨rfl, by (repeat' (first | exact Below.refl _ _ | assumption | refine Below.setCell ?_ ?_ _ | refine Below.drew ?_ | refine below_drewN ?_ _ | refine Below.alloc ?_ ?_ _ | refine below_of_grown ?_ (by assumption) ?_ | refine Below.trans ?_ (Below.mono (by assumption) ?_) | omega | (simp; done) | (simp; omega)))⟩
end Go.Proofs.YtghggelkmhdhfaaGreatDoor
