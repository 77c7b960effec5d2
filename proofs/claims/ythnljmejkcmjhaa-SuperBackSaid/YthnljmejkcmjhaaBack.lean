/-
  The walk of SuperBack: the law returns true, and what was there is as it was.
-/
import Derived.Test.YthnljmejkcmjhaaPlain4
namespace Go.Proofs.Ythnljmejkcmjhaa
open Go.RowKit

theorem decode_sector0 {a b c : Int} (h : geomOk a b c = true) (w : World) :
    Calls Try.prog 10 #[.string (sector0 a b c)] w fun e w' => e = .returned (.tuple #[.agg #[.int .i64 a, .int .i64 b, .int .i64 c], .int .i64 0]) ∧ Below w.heap.size w w' := by
  have hd := decode_yes (sector0 a b c) w (isSector0_sector0 h)
  obtain ⟨h4, h5, h6⟩ := sector0_bytes h
  rw [h4, h5, h6] at hd
  exact hd
theorem epochs_sector0 (a b c : Int) (w : World) :
    Calls Try.prog 13 #[.string (sector0 a b c)] w fun e w' => e = .returned (.tuple #[.agg #[.int .i64 0, .int .i64 0], .int .i64 40]) ∧ Below w.heap.size w w' := by
  have hd := epochs_any (sector0 a b c) w
  have h := not_isFence_sector0 a b c
  have e1 : ∀ o, epX (sector0 a b c) o = 0 := fun o => by simp [epX, h]
  have e2 : epE (sector0 a b c) = 40 := by simp [epE, h]
  simp only [e1, e2] at hd
  exact hd
theorem encode_back {s : ByteArray} (h : isSector0 s = true) (w : World) :
    Calls Try.prog 8 #[.agg #[.int .i64 (byteAt s 4), .int .i64 (byteAt s 5), .int .i64 (byteAt s 6)]] w fun e w' => e = .returned (.tuple #[.string s, .int .i64 0]) ∧ Below w.heap.size w w' := by
  obtain ⟨h1, h2⟩ := isSector0_back h
  have he := encode_yes _ _ _ w h1
  rw [h2] at he
  exact he

set_option maxHeartbeats 1000000 in
set_option maxRecDepth 100000 in
theorem back_11 (a b c : Int) (s : ByteArray) (w : World) (hg : geomOk a b c = true) (hs : isSector0 s = true) :
    Calls Try.prog 4 #[.agg #[.int .i64 a, .int .i64 b, .int .i64 c], .string s] w fun e w' => e = .returned (.bool true) ∧ Below w.heap.size w w' := by
  have hE := Lib.hid (fun W => encode_yes a b c W hg)
  have hD := Lib.hid (fun W => decode_sector0 hg W)
  have hP := Lib.hid (fun W => epochs_sector0 a b c W)
  clear hg
  have hX := Lib.hid (fun W => decode_yes s W hs)
  have hY := Lib.hid (fun W => encode_back hs W)
  clear hs
  go_enter Try.func4, Try.ntmps4
  go_wp2_with fail
  refine (works_any _).mono ?_
  rintro e w1 ⟨rfl, hb1⟩
  have hz1 := hb1.size
  simp at hz1
  have p0 : w1.cell? ⟨w.heap.size, 0, none⟩ = some (.int .i64 a) := by rw [hb1.cell (by simp <;> omega)]; simp [go_sem]
  have p1 : w1.cell? ⟨w.heap.size, 1, none⟩ = some (.int .i64 b) := by rw [hb1.cell (by simp <;> omega)]; simp [go_sem]
  have p2 : w1.cell? ⟨w.heap.size, 2, none⟩ = some (.int .i64 c) := by rw [hb1.cell (by simp <;> omega)]; simp [go_sem]
  go_wp2_with fail
  refine (hE.out _).mono ?_
  rintro e w2 ⟨rfl, hb2⟩
  have hz2 := hb2.size
  have r0 : w2.cell? ⟨w.heap.size, 0, none⟩ = some (.int .i64 a) := by rw [hb2.cell (by simp; omega)]; exact p0
  have r1 : w2.cell? ⟨w.heap.size, 1, none⟩ = some (.int .i64 b) := by rw [hb2.cell (by simp; omega)]; exact p1
  have r2 : w2.cell? ⟨w.heap.size, 2, none⟩ = some (.int .i64 c) := by rw [hb2.cell (by simp; omega)]; exact p2
  go_wp2_with fail
  refine (hD.out _).mono ?_
  rintro e w3 ⟨rfl, hb3⟩
  have hz3 := hb3.size
  have s0 : w3.cell? ⟨w.heap.size, 0, none⟩ = some (.int .i64 a) := by rw [hb3.cell (by simp; omega)]; exact r0
  have s1 : w3.cell? ⟨w.heap.size, 1, none⟩ = some (.int .i64 b) := by rw [hb3.cell (by simp; omega)]; exact r1
  have s2 : w3.cell? ⟨w.heap.size, 2, none⟩ = some (.int .i64 c) := by rw [hb3.cell (by simp; omega)]; exact r2
  have hl3 : w.heap.size < w3.heap.size := by omega
  have hn3 : ¬ w.heap.size = w3.heap.size := by omega
  clear p0 p1 p2 r0 r1 r2
  go_wp2_with fail
  refine (hP.out _).mono ?_
  rintro e w4 ⟨rfl, hb4⟩
  have hz4 := hb4.size
  simp at hz4
  have t0 : w4.cell? ⟨w.heap.size, 0, none⟩ = some (.int .i64 a) := by rw [hb4.cell (by simp; omega)]; simp [go_sem, s0, hl3]
  have t1 : w4.cell? ⟨w.heap.size, 1, none⟩ = some (.int .i64 b) := by rw [hb4.cell (by simp; omega)]; simp [go_sem, s1, hl3]
  have t2 : w4.cell? ⟨w.heap.size, 2, none⟩ = some (.int .i64 c) := by rw [hb4.cell (by simp; omega)]; simp [go_sem, s2, hl3]
  have u0 : w4.cell? ⟨w3.heap.size, 0, none⟩ = some (.int .i64 a) := by rw [hb4.cell (by simp <;> omega)]; simp [go_sem]
  have u1 : w4.cell? ⟨w3.heap.size, 1, none⟩ = some (.int .i64 b) := by rw [hb4.cell (by simp <;> omega)]; simp [go_sem]
  have u2 : w4.cell? ⟨w3.heap.size, 2, none⟩ = some (.int .i64 c) := by rw [hb4.cell (by simp <;> omega)]; simp [go_sem]
  have hl4 : w3.heap.size < w4.heap.size := by omega
  have hl5 : w.heap.size < w4.heap.size := by omega
  clear s0 s1 s2
  go_wp2_with fail
  refine (hX.out _).mono ?_
  rintro e w5 ⟨rfl, hb5⟩
  have hz5 := hb5.size
  try simp at hz5
  go_wp2_with fail
  refine (hY.out _).mono ?_
  rintro e w6 ⟨rfl, hb6⟩
  have hz6 := hb6.size
  try simp at hz6
  go_wp2_with fail
  go_ret
  exact ⟨rfl, by (repeat' (first | exact Below.refl _ _ | assumption | refine Below.setCell ?_ ?_ _ | refine Below.drew ?_ | refine below_drewN ?_ _ | refine Below.alloc ?_ ?_ _ | refine below_of_grown ?_ (by assumption) ?_ | refine Below.trans ?_ (Below.mono (by assumption) ?_) | omega | (simp; done) | (simp; omega)))⟩

set_option maxHeartbeats 1000000 in
set_option maxRecDepth 100000 in
theorem back_10 (a b c : Int) (s : ByteArray) (w : World) (hg : geomOk a b c = true) (hs : isSector0 s = false) :
    Calls Try.prog 4 #[.agg #[.int .i64 a, .int .i64 b, .int .i64 c], .string s] w fun e w' => e = .returned (.bool true) ∧ Below w.heap.size w w' := by
  have hE := Lib.hid (fun W => encode_yes a b c W hg)
  have hD := Lib.hid (fun W => decode_sector0 hg W)
  have hP := Lib.hid (fun W => epochs_sector0 a b c W)
  clear hg
  have hX := Lib.hid (fun W => decode_no s W hs)
  clear hs
  go_enter Try.func4, Try.ntmps4
  go_wp2_with fail
  refine (works_any _).mono ?_
  rintro e w1 ⟨rfl, hb1⟩
  have hz1 := hb1.size
  simp at hz1
  have p0 : w1.cell? ⟨w.heap.size, 0, none⟩ = some (.int .i64 a) := by rw [hb1.cell (by simp <;> omega)]; simp [go_sem]
  have p1 : w1.cell? ⟨w.heap.size, 1, none⟩ = some (.int .i64 b) := by rw [hb1.cell (by simp <;> omega)]; simp [go_sem]
  have p2 : w1.cell? ⟨w.heap.size, 2, none⟩ = some (.int .i64 c) := by rw [hb1.cell (by simp <;> omega)]; simp [go_sem]
  go_wp2_with fail
  refine (hE.out _).mono ?_
  rintro e w2 ⟨rfl, hb2⟩
  have hz2 := hb2.size
  have r0 : w2.cell? ⟨w.heap.size, 0, none⟩ = some (.int .i64 a) := by rw [hb2.cell (by simp; omega)]; exact p0
  have r1 : w2.cell? ⟨w.heap.size, 1, none⟩ = some (.int .i64 b) := by rw [hb2.cell (by simp; omega)]; exact p1
  have r2 : w2.cell? ⟨w.heap.size, 2, none⟩ = some (.int .i64 c) := by rw [hb2.cell (by simp; omega)]; exact p2
  go_wp2_with fail
  refine (hD.out _).mono ?_
  rintro e w3 ⟨rfl, hb3⟩
  have hz3 := hb3.size
  have s0 : w3.cell? ⟨w.heap.size, 0, none⟩ = some (.int .i64 a) := by rw [hb3.cell (by simp; omega)]; exact r0
  have s1 : w3.cell? ⟨w.heap.size, 1, none⟩ = some (.int .i64 b) := by rw [hb3.cell (by simp; omega)]; exact r1
  have s2 : w3.cell? ⟨w.heap.size, 2, none⟩ = some (.int .i64 c) := by rw [hb3.cell (by simp; omega)]; exact r2
  have hl3 : w.heap.size < w3.heap.size := by omega
  have hn3 : ¬ w.heap.size = w3.heap.size := by omega
  clear p0 p1 p2 r0 r1 r2
  go_wp2_with fail
  refine (hP.out _).mono ?_
  rintro e w4 ⟨rfl, hb4⟩
  have hz4 := hb4.size
  simp at hz4
  have t0 : w4.cell? ⟨w.heap.size, 0, none⟩ = some (.int .i64 a) := by rw [hb4.cell (by simp; omega)]; simp [go_sem, s0, hl3]
  have t1 : w4.cell? ⟨w.heap.size, 1, none⟩ = some (.int .i64 b) := by rw [hb4.cell (by simp; omega)]; simp [go_sem, s1, hl3]
  have t2 : w4.cell? ⟨w.heap.size, 2, none⟩ = some (.int .i64 c) := by rw [hb4.cell (by simp; omega)]; simp [go_sem, s2, hl3]
  have u0 : w4.cell? ⟨w3.heap.size, 0, none⟩ = some (.int .i64 a) := by rw [hb4.cell (by simp <;> omega)]; simp [go_sem]
  have u1 : w4.cell? ⟨w3.heap.size, 1, none⟩ = some (.int .i64 b) := by rw [hb4.cell (by simp <;> omega)]; simp [go_sem]
  have u2 : w4.cell? ⟨w3.heap.size, 2, none⟩ = some (.int .i64 c) := by rw [hb4.cell (by simp <;> omega)]; simp [go_sem]
  have hl4 : w3.heap.size < w4.heap.size := by omega
  have hl5 : w.heap.size < w4.heap.size := by omega
  clear s0 s1 s2
  go_wp2_with fail
  refine (hX.out _).mono ?_
  rintro e w5 ⟨rfl, hb5⟩
  have hz5 := hb5.size
  try simp at hz5
  go_wp2_with fail
  go_ret
  exact ⟨rfl, by (repeat' (first | exact Below.refl _ _ | assumption | refine Below.setCell ?_ ?_ _ | refine Below.drew ?_ | refine below_drewN ?_ _ | refine Below.alloc ?_ ?_ _ | refine below_of_grown ?_ (by assumption) ?_ | refine Below.trans ?_ (Below.mono (by assumption) ?_) | omega | (simp; done) | (simp; omega)))⟩

set_option maxHeartbeats 1000000 in
set_option maxRecDepth 100000 in
theorem back_01 (a b c : Int) (s : ByteArray) (w : World) (hg : geomOk a b c = false) (hs : isSector0 s = true) :
    Calls Try.prog 4 #[.agg #[.int .i64 a, .int .i64 b, .int .i64 c], .string s] w fun e w' => e = .returned (.bool true) ∧ Below w.heap.size w w' := by
  have hE := Lib.hid (fun W => encode_no a b c W hg)
  clear hg
  have hX := Lib.hid (fun W => decode_yes s W hs)
  have hY := Lib.hid (fun W => encode_back hs W)
  clear hs
  go_enter Try.func4, Try.ntmps4
  go_wp2_with fail
  refine (works_any _).mono ?_
  rintro e w1 ⟨rfl, hb1⟩
  have hz1 := hb1.size
  simp at hz1
  have p0 : w1.cell? ⟨w.heap.size, 0, none⟩ = some (.int .i64 a) := by rw [hb1.cell (by simp <;> omega)]; simp [go_sem]
  have p1 : w1.cell? ⟨w.heap.size, 1, none⟩ = some (.int .i64 b) := by rw [hb1.cell (by simp <;> omega)]; simp [go_sem]
  have p2 : w1.cell? ⟨w.heap.size, 2, none⟩ = some (.int .i64 c) := by rw [hb1.cell (by simp <;> omega)]; simp [go_sem]
  go_wp2_with fail
  refine (hE.out _).mono ?_
  rintro e w2 ⟨rfl, hb2⟩
  have hz2 := hb2.size
  go_wp2_with fail
  refine (hX.out _).mono ?_
  rintro e w5 ⟨rfl, hb5⟩
  have hz5 := hb5.size
  try simp at hz5
  go_wp2_with fail
  refine (hY.out _).mono ?_
  rintro e w6 ⟨rfl, hb6⟩
  have hz6 := hb6.size
  try simp at hz6
  go_wp2_with fail
  go_ret
  exact ⟨rfl, by (repeat' (first | exact Below.refl _ _ | assumption | refine Below.setCell ?_ ?_ _ | refine Below.drew ?_ | refine below_drewN ?_ _ | refine Below.alloc ?_ ?_ _ | refine below_of_grown ?_ (by assumption) ?_ | refine Below.trans ?_ (Below.mono (by assumption) ?_) | omega | (simp; done) | (simp; omega)))⟩

set_option maxHeartbeats 1000000 in
set_option maxRecDepth 100000 in
theorem back_00 (a b c : Int) (s : ByteArray) (w : World) (hg : geomOk a b c = false) (hs : isSector0 s = false) :
    Calls Try.prog 4 #[.agg #[.int .i64 a, .int .i64 b, .int .i64 c], .string s] w fun e w' => e = .returned (.bool true) ∧ Below w.heap.size w w' := by
  have hE := Lib.hid (fun W => encode_no a b c W hg)
  clear hg
  have hX := Lib.hid (fun W => decode_no s W hs)
  clear hs
  go_enter Try.func4, Try.ntmps4
  go_wp2_with fail
  refine (works_any _).mono ?_
  rintro e w1 ⟨rfl, hb1⟩
  have hz1 := hb1.size
  simp at hz1
  have p0 : w1.cell? ⟨w.heap.size, 0, none⟩ = some (.int .i64 a) := by rw [hb1.cell (by simp <;> omega)]; simp [go_sem]
  have p1 : w1.cell? ⟨w.heap.size, 1, none⟩ = some (.int .i64 b) := by rw [hb1.cell (by simp <;> omega)]; simp [go_sem]
  have p2 : w1.cell? ⟨w.heap.size, 2, none⟩ = some (.int .i64 c) := by rw [hb1.cell (by simp <;> omega)]; simp [go_sem]
  go_wp2_with fail
  refine (hE.out _).mono ?_
  rintro e w2 ⟨rfl, hb2⟩
  have hz2 := hb2.size
  go_wp2_with fail
  refine (hX.out _).mono ?_
  rintro e w5 ⟨rfl, hb5⟩
  have hz5 := hb5.size
  try simp at hz5
  go_wp2_with fail
  go_ret
  exact ⟨rfl, by (repeat' (first | exact Below.refl _ _ | assumption | refine Below.setCell ?_ ?_ _ | refine Below.drew ?_ | refine below_drewN ?_ _ | refine Below.alloc ?_ ?_ _ | refine below_of_grown ?_ (by assumption) ?_ | refine Below.trans ?_ (Below.mono (by assumption) ?_) | omega | (simp; done) | (simp; omega)))⟩

theorem back_walk (a b c : Int) (s : ByteArray) (w : World) :
    Calls Try.prog 4 #[.agg #[.int .i64 a, .int .i64 b, .int .i64 c], .string s] w fun e w' => e = .returned (.bool true) ∧ Below w.heap.size w w' := by
  cases hg : geomOk a b c <;> cases hs : isSector0 s
  · exact back_00 a b c s w hg hs
  · exact back_01 a b c s w hg hs
  · exact back_10 a b c s w hg hs
  · exact back_11 a b c s w hg hs
end Go.Proofs.Ythnljmejkcmjhaa
