
/-
  Fences: Fence and Epochs (the program's and the document's).
-/
import Derived.Test.YtghggelkmhdhfaaGreatDoorWall
import Derived.Test.YtghggelkmhdhfaaGreatDoorGet
namespace Go.Proofs.YtghggelkmhdhfaaGreatDoor
open Go.RowKit

set_option maxHeartbeats 400000 in
theorem may_any (n : Int) (w : World) :
    Calls Tryz.prog 46 #[.int .i64 n] w fun e w' => e = .returned (.bool (epochB n)) ∧ w = w' := by
  by_cases h : 0 ≤ n
  all_goals
    go_enter Tryz.func46, Tryz.ntmps46
    go_wp2
    go_ret
    simp_all [epochB] <;> omega
def fenceS (a b : Int) : ByteArray := if (epochB a && epochB b) = true then wallS a b else ⟨#[]⟩
def fenceE (a b : Int) : Int := if (epochB a && epochB b) = true then 0 else 1

set_option maxHeartbeats 400000 in
theorem fence_any (a b : Int) (w : World) :
    Calls Tryz.prog 21 #[.agg #[.int .i64 a, .int .i64 b]] w fun e w' => e = .returned (.tuple #[.string (fenceS a b), .int .i64 (fenceE a b)]) ∧ Below w.heap.size w w' := by
  by_cases ha : epochB a = true
  · by_cases hb : epochB b = true
    · have hm1 := Lib.hid (fun W => may_any a W)
      have hm2 := Lib.hid (fun W => may_any b W)
      have hwl := Lib.hid (fun W => wall_any a b W ha hb)
      have hfin : fenceS a b = wallS a b ∧ fenceE a b = 0 := by simp [fenceS, fenceE, ha, hb]
      rw [hfin.1, hfin.2]
      rw [ha] at hm1
      rw [hb] at hm2
      clear ha hb hfin
      go_enter Tryz.func21, Tryz.ntmps21
      go_wp2_with fail
      refine (hm1.out _).mono ?_
      rintro e w1 ⟨rfl, rfl⟩
      go_wp2_with fail
      refine (hm2.out _).mono ?_
      rintro e w1 ⟨rfl, rfl⟩
      go_wp2_with fail
      refine (hwl.out _).mono ?_
      rintro e w1 ⟨rfl, hb1⟩
      go_wp2_with fail
      go_ret2
      exact ⟨rfl, by (repeat' (first | exact Below.refl _ _ | assumption | refine Below.setCell ?_ ?_ _ | refine Below.drew ?_ | refine below_drewN ?_ _ | refine Below.alloc ?_ ?_ _ | refine below_of_grown ?_ (by assumption) ?_ | refine Below.trans ?_ (Below.mono (by assumption) ?_) | omega | (simp; done) | (simp; omega)))⟩
    · have hb' : epochB b = false := by simpa using hb
      have hm1 := Lib.hid (fun W => may_any a W)
      have hm2 := Lib.hid (fun W => may_any b W)
      have hfin : fenceS a b = ⟨#[]⟩ ∧ fenceE a b = 1 := by simp [fenceS, fenceE, hb']
      rw [hfin.1, hfin.2]
      rw [ha] at hm1
      rw [hb'] at hm2
      clear ha hb hb' hfin
      go_enter Tryz.func21, Tryz.ntmps21
      go_wp2_with fail
      refine (hm1.out _).mono ?_
      rintro e w1 ⟨rfl, rfl⟩
      go_wp2_with fail
      refine (hm2.out _).mono ?_
      rintro e w1 ⟨rfl, rfl⟩
      go_wp2_with fail
      go_ret2
      exact ⟨rfl, by (repeat' (first | exact Below.refl _ _ | assumption | refine Below.setCell ?_ ?_ _ | refine Below.drew ?_ | refine below_drewN ?_ _ | refine Below.alloc ?_ ?_ _ | refine below_of_grown ?_ (by assumption) ?_ | refine Below.trans ?_ (Below.mono (by assumption) ?_) | omega | (simp; done) | (simp; omega)))⟩
  · have ha' : epochB a = false := by simpa using ha
    have hm1 := Lib.hid (fun W => may_any a W)
    have hfin : fenceS a b = ⟨#[]⟩ ∧ fenceE a b = 1 := by simp [fenceS, fenceE, ha']
    rw [hfin.1, hfin.2]
    rw [ha'] at hm1
    clear ha ha' hfin
    go_enter Tryz.func21, Tryz.ntmps21
    go_wp2_with fail
    refine (hm1.out _).mono ?_
    rintro e w1 ⟨rfl, rfl⟩
    go_wp2_with fail
    go_ret2
    exact ⟨rfl, by (repeat' (first | exact Below.refl _ _ | assumption | refine Below.setCell ?_ ?_ _ | refine Below.drew ?_ | refine below_drewN ?_ _ | refine Below.alloc ?_ ?_ _ | refine below_of_grown ?_ (by assumption) ?_ | refine Below.trans ?_ (Below.mono (by assumption) ?_) | omega | (simp; done) | (simp; omega)))⟩

/-- Is it a fence? -/
def isFence (s : ByteArray) : Bool := decide (s.size = 64) && decide (wallS (num4 s 4) (num4 s 8) = s)
theorem epochB_num4 (s : ByteArray) (o : Nat) : epochB (num4 s o) = true := by
  have := num4_range s o
  simp [epochB]
  omega
end Go.Proofs.YtghggelkmhdhfaaGreatDoor
