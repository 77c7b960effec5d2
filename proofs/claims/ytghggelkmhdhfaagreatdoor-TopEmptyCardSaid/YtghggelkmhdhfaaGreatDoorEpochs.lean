
/-
  Epochs of a fence: Epochs (the program's and the document's).
-/
import Derived.Test.YtghggelkmhdhfaaGreatDoorFence
namespace Go.Proofs.YtghggelkmhdhfaaGreatDoor
open Go.RowKit

def epX (s : ByteArray) (o : Nat) : Int := if isFence s = true then num4 s o else 0
def epE (s : ByteArray) : Int := if isFence s = true then 0 else 40

set_option maxHeartbeats 400000 in
set_option maxRecDepth 100000 in
theorem epochs_walk (s : ByteArray) (x y c : Int) (w : World) (hs : s.size = 64) (h : (wallS (num4 s 4) (num4 s 8) = s ∧ x = num4 s 4 ∧ y = num4 s 8 ∧ c = 0) ∨ (¬ wallS (num4 s 4) (num4 s 8) = s ∧ x = 0 ∧ y = 0 ∧ c = 40)) :
    Calls Tryz.prog 8 #[.string s] w fun e w' => e = .returned (.tuple #[.agg #[.int .i64 x, .int .i64 y], .int .i64 c]) ∧ Below w.heap.size w w' := by
  have hwl := Lib.hid (fun W => wall_any (num4 s 4) (num4 s 8) W (epochB_num4 s 4) (epochB_num4 s 8))
  have hg1 := Lib.hid (fun W => get4_draws s 4 W hs (by omega))
  have hg2 := Lib.hid (fun W => get4_draws s 8 W hs (by omega))
  generalize num4 s 4 = a at *
  generalize num4 s 8 = b at *
  rcases h with ⟨he, rfl, rfl, rfl⟩ | ⟨hne, rfl, rfl, rfl⟩
  · have he' := eqs_yes he
    clear he
    go_enter Tryz.func8, Tryz.ntmps8
    go_wp2_with fail
    refine wp_loop_rounds 3 ?_
    rw [rounds_succ]; go_wp2_with fail
    refine (hg1.out _).mono ?_
    rintro e w1 ⟨rfl, n1, rfl⟩
    go_wp2_with fail
    rw [rounds_succ]; go_wp2_with fail
    refine (hg2.out _).mono ?_
    rintro e w1 ⟨rfl, n2, rfl⟩
    go_wp2_with fail
    rw [rounds_succ]; go_wp2_with fail
    refine (hwl.out _).mono ?_
    rintro e w3 ⟨rfl, hb3⟩
    have hz3 := hb3.size
    simp at hz3
    have hz4 : w.heap.size < w3.heap.size := by omega
    have r0 : w3.cell? ⟨w.heap.size, 0, none⟩ = some (.int .i64 0) := by rw [hb3.cell (by simp <;> omega)]; simp [go_sem]
    have r1 : w3.cell? ⟨w.heap.size, 1, none⟩ = some (.int .i64 0) := by rw [hb3.cell (by simp <;> omega)]; simp [go_sem]
    have q0 : w3.cell? ⟨w.heap.size + 1, 0, none⟩ = some (.int .i64 x) := by rw [hb3.cell (by simp <;> omega)]; simp [go_sem]
    have q1 : w3.cell? ⟨w.heap.size + 1, 1, none⟩ = some (.int .i64 y) := by rw [hb3.cell (by simp <;> omega)]; simp [go_sem]
    have u0 : ∀ o, w3.frozen? ⟨w.heap.size, o, none⟩ = false := fun o => by rw [hb3.frozen (by simp <;> omega)]; simp [go_sem]
    go_wp2_with fail
    exact bodyPost_ret (v := .tuple #[.agg #[.int .i64 x, .int .i64 y], .int .i64 0]) (by simp [results, Tryz.results8, go_sem, r0, r1]) rfl ⟨rfl, by (repeat' (first | exact Below.refl _ _ | assumption | refine Below.setCell ?_ ?_ _ | refine Below.drew ?_ | refine below_drewN ?_ _ | refine Below.alloc ?_ ?_ _ | refine below_of_grown ?_ (by assumption) ?_ | refine Below.trans ?_ (Below.mono (by assumption) ?_) | omega | (simp; done) | (simp; omega)))⟩
  · have he' := eqs_no hne
    clear hne
    go_enter Tryz.func8, Tryz.ntmps8
    go_wp2_with fail
    refine wp_loop_rounds 3 ?_
    rw [rounds_succ]; go_wp2_with fail
    refine (hg1.out _).mono ?_
    rintro e w1 ⟨rfl, n1, rfl⟩
    go_wp2_with fail
    rw [rounds_succ]; go_wp2_with fail
    refine (hg2.out _).mono ?_
    rintro e w1 ⟨rfl, n2, rfl⟩
    go_wp2_with fail
    rw [rounds_succ]; go_wp2_with fail
    refine (hwl.out _).mono ?_
    rintro e w3 ⟨rfl, hb3⟩
    have hz3 := hb3.size
    simp at hz3
    have hz4 : w.heap.size < w3.heap.size := by omega
    have r0 : w3.cell? ⟨w.heap.size, 0, none⟩ = some (.int .i64 0) := by rw [hb3.cell (by simp <;> omega)]; simp [go_sem]
    have r1 : w3.cell? ⟨w.heap.size, 1, none⟩ = some (.int .i64 0) := by rw [hb3.cell (by simp <;> omega)]; simp [go_sem]
    have q0 : w3.cell? ⟨w.heap.size + 1, 0, none⟩ = some (.int .i64 a) := by rw [hb3.cell (by simp <;> omega)]; simp [go_sem]
    have q1 : w3.cell? ⟨w.heap.size + 1, 1, none⟩ = some (.int .i64 b) := by rw [hb3.cell (by simp <;> omega)]; simp [go_sem]
    have u0 : ∀ o, w3.frozen? ⟨w.heap.size, o, none⟩ = false := fun o => by rw [hb3.frozen (by simp <;> omega)]; simp [go_sem]
    go_wp2_with fail
    exact bodyPost_ret (v := .tuple #[.agg #[.int .i64 0, .int .i64 0], .int .i64 40]) (by simp [results, Tryz.results8, go_sem, r0, r1]) rfl ⟨rfl, by (repeat' (first | exact Below.refl _ _ | assumption | refine Below.setCell ?_ ?_ _ | refine Below.drew ?_ | refine below_drewN ?_ _ | refine Below.alloc ?_ ?_ _ | refine below_of_grown ?_ (by assumption) ?_ | refine Below.trans ?_ (Below.mono (by assumption) ?_) | omega | (simp; done) | (simp; omega)))⟩

set_option maxHeartbeats 400000 in
theorem epochs_short (s : ByteArray) (w : World) (hs : ¬ s.size = 64) :
    Calls Tryz.prog 8 #[.string s] w fun e w' => e = .returned (.tuple #[.agg #[.int .i64 0, .int .i64 0], .int .i64 40]) ∧ Below w.heap.size w w' := by
  go_enter Tryz.func8, Tryz.ntmps8
  go_wp2_with fail
  exact bodyPost_ret (v := .tuple #[.agg #[.int .i64 0, .int .i64 0], .int .i64 40]) (by simp [results, Tryz.results8, go_sem]) rfl ⟨rfl, by (repeat' (first | exact Below.refl _ _ | assumption | refine Below.setCell ?_ ?_ _ | refine Below.drew ?_ | refine below_drewN ?_ _ | refine Below.alloc ?_ ?_ _ | refine below_of_grown ?_ (by assumption) ?_ | refine Below.trans ?_ (Below.mono (by assumption) ?_) | omega | (simp; done) | (simp; omega)))⟩

theorem epochs_any (s : ByteArray) (w : World) :
    Calls Tryz.prog 8 #[.string s] w fun e w' => e = .returned (.tuple #[.agg #[.int .i64 (epX s 4), .int .i64 (epX s 8)], .int .i64 (epE s)]) ∧ Below w.heap.size w w' := by
  by_cases hs : s.size = 64
  · refine epochs_walk s _ _ _ w hs ?_
    by_cases he : wallS (num4 s 4) (num4 s 8) = s
    · exact .inl ⟨he, by simp [epX, isFence, hs, he], by simp [epX, isFence, hs, he], by simp [epE, isFence, hs, he]⟩
    · exact .inr ⟨he, by simp [epX, isFence, hs, he], by simp [epX, isFence, hs, he], by simp [epE, isFence, hs, he]⟩
  · have e : ∀ o, epX s o = 0 := fun o => by simp [epX, isFence, hs]
    have e' : epE s = 40 := by simp [epE, isFence, hs]
    rw [e, e, e']
    exact epochs_short s w hs
end Go.Proofs.YtghggelkmhdhfaaGreatDoor
