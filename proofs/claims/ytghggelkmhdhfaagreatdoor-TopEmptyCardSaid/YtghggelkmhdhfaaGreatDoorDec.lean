
/-
  First sectors: Decode (the program's and the document's).
-/
import Derived.Test.YtghggelkmhdhfaaGreatDoorEnc
import Derived.RegionTactic
import Derived.ChangeAlike
namespace Go.Proofs.YtghggelkmhdhfaaGreatDoor
open Go.RowKit

/-- Is it a first sector? -/
def isSector0 (s : ByteArray) : Bool := decide (7 ≤ s.size) && geomOk (byteAt s 4) (byteAt s 5) (byteAt s 6) && decide (sector0 (byteAt s 4) (byteAt s 5) (byteAt s 6) = s)

theorem size_sector0 (a b c : Int) : (sector0 a b c).size = 64 := by
  refine size_pad _ ?_
  rw [ByteArray.size_append, size_str]; show 4 + 3 ≤ 64; omega

theorem isSector0_size {s : ByteArray} (h : isSector0 s = true) : s.size = 64 := by
  simp only [isSector0, Bool.and_eq_true, decide_eq_true_eq] at h
  rw [← h.2]; exact size_sector0 _ _ _

set_option maxHeartbeats 400000 in
theorem decode_yes (s : ByteArray) (w : World) (h : isSector0 s = true) :
    Calls Tryz.prog 7 #[.string s] w fun e w' => e = .returned (.tuple #[.agg #[.int .i64 (byteAt s 4), .int .i64 (byteAt s 5), .int .i64 (byteAt s 6)], .int .i64 0]) ∧ Below w.heap.size w w' := by
  simp only [isSector0, Bool.and_eq_true, decide_eq_true_eq] at h
  obtain ⟨⟨h7, hg⟩, he⟩ := h
  have HE := fun W => encode_yes _ _ _ W hg
  rw [he] at HE
  have HC := Lib.hid HE
  clear HE hg he
  have h4 : (4 : Int) < s.size := by omega
  have h5 : (5 : Int) < s.size := by omega
  have h6 : (6 : Int) < s.size := by omega
  have hw4 := wrap_byteAt s 4 (by omega)
  have hw5 := wrap_byteAt s 5 (by omega)
  have hw6 := wrap_byteAt s 6 (by omega)
  go_enter Tryz.func7, Tryz.ntmps7
  go_wp2_with fail
  go_region
  go_wp2_with fail
  refine (HC.out _).mono ?_
  rintro e w1 ⟨rfl, hb⟩
  have hz := hb.size
  simp at hz
  have hz1 : w.heap.size < w1.heap.size := by omega
  have r0 : w1.cell? ⟨w.heap.size, 0, none⟩ = some (.int .i64 0) := by rw [hb.cell (by simp <;> omega)]; simp [go_sem]
  have r1 : w1.cell? ⟨w.heap.size, 1, none⟩ = some (.int .i64 0) := by rw [hb.cell (by simp <;> omega)]; simp [go_sem]
  have r2 : w1.cell? ⟨w.heap.size, 2, none⟩ = some (.int .i64 0) := by rw [hb.cell (by simp <;> omega)]; simp [go_sem]
  have q0 : w1.cell? ⟨w.heap.size + 1, 0, none⟩ = some (.int .i64 (byteAt s 4)) := by rw [hb.cell (by simp <;> omega)]; simp [go_sem]
  have q1 : w1.cell? ⟨w.heap.size + 1, 1, none⟩ = some (.int .i64 (byteAt s 5)) := by rw [hb.cell (by simp <;> omega)]; simp [go_sem]
  have q2 : w1.cell? ⟨w.heap.size + 1, 2, none⟩ = some (.int .i64 (byteAt s 6)) := by rw [hb.cell (by simp <;> omega)]; simp [go_sem]
  have u0 : ∀ o, w1.frozen? ⟨w.heap.size, o, none⟩ = false := fun o => by rw [hb.frozen (by simp <;> omega)]; simp [go_sem]
  go_wp2_with fail
  exact bodyPost_ret (v := .tuple #[.agg #[.int .i64 (byteAt s 4), .int .i64 (byteAt s 5), .int .i64 (byteAt s 6)], .int .i64 0]) (by simp [results, Tryz.results7, go_sem, r0, r1, r2]) rfl ⟨rfl, by (repeat' (first | exact Below.refl _ _ | assumption | refine Below.setCell ?_ ?_ _ | refine Below.drew ?_ | refine below_drewN ?_ _ | refine Below.alloc ?_ ?_ _ | refine below_of_grown ?_ (by assumption) ?_ | refine Below.trans ?_ (Below.mono (by assumption) ?_) | omega | (simp; done) | (simp; omega)))⟩

set_option maxHeartbeats 400000 in
theorem decode_no (s : ByteArray) (w : World) (h : isSector0 s = false) :
    Calls Tryz.prog 7 #[.string s] w fun e w' => e = .returned (.tuple #[.agg #[.int .i64 0, .int .i64 0, .int .i64 0], .int .i64 40]) ∧ Below w.heap.size w w' := by
  by_cases h7 : 7 ≤ s.size
  · have h4 : (4 : Int) < s.size := by omega
    have h5 : (5 : Int) < s.size := by omega
    have h6 : (6 : Int) < s.size := by omega
    have hw4 := wrap_byteAt s 4 (by omega)
    have hw5 := wrap_byteAt s 5 (by omega)
    have hw6 := wrap_byteAt s 6 (by omega)
    by_cases hg : geomOk (byteAt s 4) (byteAt s 5) (byteAt s 6) = true
    · have hne : ¬ (sector0 (byteAt s 4) (byteAt s 5) (byteAt s 6) = s) := by
        intro he
        simp [isSector0, h7, hg, he] at h
      have hne' := eqs_no hne
      have HE := fun W => encode_yes _ _ _ W hg
      have HC := Lib.hid HE
      clear HE hg h
      go_enter Tryz.func7, Tryz.ntmps7
      go_wp2_with fail
      go_region
      go_wp2_with fail
      refine (HC.out _).mono ?_
      rintro e w1 ⟨rfl, hb⟩
      have hz := hb.size
      simp at hz
      have hz1 : w.heap.size < w1.heap.size := by omega
      have r0 : w1.cell? ⟨w.heap.size, 0, none⟩ = some (.int .i64 0) := by rw [hb.cell (by simp <;> omega)]; simp [go_sem]
      have r1 : w1.cell? ⟨w.heap.size, 1, none⟩ = some (.int .i64 0) := by rw [hb.cell (by simp <;> omega)]; simp [go_sem]
      have r2 : w1.cell? ⟨w.heap.size, 2, none⟩ = some (.int .i64 0) := by rw [hb.cell (by simp <;> omega)]; simp [go_sem]
      have u0 : ∀ o, w1.frozen? ⟨w.heap.size, o, none⟩ = false := fun o => by rw [hb.frozen (by simp <;> omega)]; simp [go_sem]
      go_wp2_with fail
      exact bodyPost_ret (v := .tuple #[.agg #[.int .i64 0, .int .i64 0, .int .i64 0], .int .i64 40]) (by simp [results, Tryz.results7, go_sem, r0, r1, r2]) rfl ⟨rfl, by (repeat' (first | exact Below.refl _ _ | assumption | refine Below.setCell ?_ ?_ _ | refine Below.drew ?_ | refine below_drewN ?_ _ | refine Below.alloc ?_ ?_ _ | refine below_of_grown ?_ (by assumption) ?_ | refine Below.trans ?_ (Below.mono (by assumption) ?_) | omega | (simp; done) | (simp; omega)))⟩
    · have HE := fun W => encode_no _ _ _ W (by simpa using hg)
      have HC := Lib.hid HE
      clear HE hg h
      go_enter Tryz.func7, Tryz.ntmps7
      go_wp2_with fail
      go_region
      go_wp2_with fail
      refine (HC.out _).mono ?_
      rintro e w1 ⟨rfl, hb⟩
      have hz := hb.size
      simp at hz
      have hz1 : w.heap.size < w1.heap.size := by omega
      have r0 : w1.cell? ⟨w.heap.size, 0, none⟩ = some (.int .i64 0) := by rw [hb.cell (by simp <;> omega)]; simp [go_sem]
      have r1 : w1.cell? ⟨w.heap.size, 1, none⟩ = some (.int .i64 0) := by rw [hb.cell (by simp <;> omega)]; simp [go_sem]
      have r2 : w1.cell? ⟨w.heap.size, 2, none⟩ = some (.int .i64 0) := by rw [hb.cell (by simp <;> omega)]; simp [go_sem]
      have u0 : ∀ o, w1.frozen? ⟨w.heap.size, o, none⟩ = false := fun o => by rw [hb.frozen (by simp <;> omega)]; simp [go_sem]
      go_wp2_with fail
      exact bodyPost_ret (v := .tuple #[.agg #[.int .i64 0, .int .i64 0, .int .i64 0], .int .i64 40]) (by simp [results, Tryz.results7, go_sem, r0, r1, r2]) rfl ⟨rfl, by (repeat' (first | exact Below.refl _ _ | assumption | refine Below.setCell ?_ ?_ _ | refine Below.drew ?_ | refine below_drewN ?_ _ | refine Below.alloc ?_ ?_ _ | refine below_of_grown ?_ (by assumption) ?_ | refine Below.trans ?_ (Below.mono (by assumption) ?_) | omega | (simp; done) | (simp; omega)))⟩
  · clear h
    go_enter Tryz.func7, Tryz.ntmps7
    go_wp2_with fail
    exact bodyPost_ret (v := .tuple #[.agg #[.int .i64 0, .int .i64 0, .int .i64 0], .int .i64 40]) (by simp [results, Tryz.results7, go_sem]) rfl ⟨rfl, by (repeat' (first | exact Below.refl _ _ | assumption | refine Below.setCell ?_ ?_ _ | refine Below.drew ?_ | refine below_drewN ?_ _ | refine Below.alloc ?_ ?_ _ | refine below_of_grown ?_ (by assumption) ?_ | refine Below.trans ?_ (Below.mono (by assumption) ?_) | omega | (simp; done) | (simp; omega)))⟩

end Go.Proofs.YtghggelkmhdhfaaGreatDoor
