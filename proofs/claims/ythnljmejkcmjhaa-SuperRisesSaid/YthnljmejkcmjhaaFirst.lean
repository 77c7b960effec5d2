/-
  The walk of SuperFirst: the law returns true, and what was there is as it was.
-/
import Derived.Test.YthnljmejkcmjhaaWorks4
import Derived.Test.YthnljmejkcmjhaaDec
namespace Go.Proofs.Ythnljmejkcmjhaa
open Go.RowKit

def encS (a b c : Int) : ByteArray := if geomOk a b c = true then sector0 a b c else ⟨#[]⟩
def encE (a b c : Int) : Int := if geomOk a b c = true then 0 else 4
def decX (s : ByteArray) (i : Nat) : Int := if isSector0 s = true then byteAt s i else 0
def decE (s : ByteArray) : Int := if isSector0 s = true then 0 else 40

theorem encode_any (a b c : Int) (w : World) :
    Calls Try.prog 8 #[.agg #[.int .i64 a, .int .i64 b, .int .i64 c]] w fun e w' => e = .returned (.tuple #[.string (encS a b c), .int .i64 (encE a b c)]) ∧ Below w.heap.size w w' := by
  by_cases h : geomOk a b c = true
  · rw [encS, encE, if_pos h, if_pos h]; exact encode_yes a b c w h
  · rw [encS, encE, if_neg h, if_neg h]; exact encode_no a b c w (by simpa using h)
theorem rencode_any (a b c : Int) (w : World) :
    Calls Try.prog 9 #[.agg #[.int .i64 a, .int .i64 b, .int .i64 c]] w fun e w' => e = .returned (.tuple #[.string (encS a b c), .int .i64 (encE a b c)]) ∧ Below w.heap.size w w' := by
  by_cases h : geomOk a b c = true
  · rw [encS, encE, if_pos h, if_pos h]; exact rencode_yes a b c w h
  · rw [encS, encE, if_neg h, if_neg h]; exact rencode_no a b c w (by simpa using h)
theorem decode_any (s : ByteArray) (w : World) :
    Calls Try.prog 10 #[.string s] w fun e w' => e = .returned (.tuple #[.agg #[.int .i64 (decX s 4), .int .i64 (decX s 5), .int .i64 (decX s 6)], .int .i64 (decE s)]) ∧ Below w.heap.size w w' := by
  by_cases h : isSector0 s = true
  · simp only [decX, decE, if_pos h]; exact decode_yes s w h
  · simp only [decX, decE, if_neg h]; exact decode_no s w (by simpa using h)
theorem rdecode_any (s : ByteArray) (w : World) :
    Calls Try.prog 11 #[.string s] w fun e w' => e = .returned (.tuple #[.agg #[.int .i64 (decX s 4), .int .i64 (decX s 5), .int .i64 (decX s 6)], .int .i64 (decE s)]) ∧ Below w.heap.size w w' := by
  by_cases h : isSector0 s = true
  · simp only [decX, decE, if_pos h]; exact rdecode_yes s w h
  · simp only [decX, decE, if_neg h]; exact rdecode_no s w (by simpa using h)

set_option maxHeartbeats 400000 in
theorem first_walk (a b c : Int) (s : ByteArray) (w : World) :
    Calls Try.prog 3 #[.agg #[.int .i64 a, .int .i64 b, .int .i64 c], .string s] w fun e w' => e = .returned (.bool true) ∧ Below w.heap.size w w' := by
  go_enter Try.func3, Try.ntmps3
  go_wp2_with fail
  refine (encode_any _ _ _ _).mono ?_
  rintro e w1 ⟨rfl, hb1⟩
  have hz1 := hb1.size
  simp at hz1
  have p0 : w1.cell? ⟨w.heap.size, 0, none⟩ = some (.int .i64 a) := by rw [hb1.cell (by simp <;> omega)]; simp [go_sem]
  have p1 : w1.cell? ⟨w.heap.size, 1, none⟩ = some (.int .i64 b) := by rw [hb1.cell (by simp <;> omega)]; simp [go_sem]
  have p2 : w1.cell? ⟨w.heap.size, 2, none⟩ = some (.int .i64 c) := by rw [hb1.cell (by simp <;> omega)]; simp [go_sem]
  go_wp2_with fail
  refine (rencode_any _ _ _ _).mono ?_
  rintro e w2 ⟨rfl, hb2⟩
  have hz2 := hb2.size
  go_wp2_with fail
  refine (decode_any _ _).mono ?_
  rintro e w3 ⟨rfl, hb3⟩
  have hz3 := hb3.size
  go_wp2_with fail
  refine (rdecode_any _ _).mono ?_
  rintro e w4 ⟨rfl, hb4⟩
  have hz4 := hb4.size
  simp at hz4
  have q0 : w4.cell? ⟨w3.heap.size, 0, none⟩ = some (.int .i64 (decX s 4)) := by rw [hb4.cell (by simp <;> omega)]; simp [go_sem]
  have q1 : w4.cell? ⟨w3.heap.size, 1, none⟩ = some (.int .i64 (decX s 5)) := by rw [hb4.cell (by simp <;> omega)]; simp [go_sem]
  have q2 : w4.cell? ⟨w3.heap.size, 2, none⟩ = some (.int .i64 (decX s 6)) := by rw [hb4.cell (by simp <;> omega)]; simp [go_sem]
  have hl : w3.heap.size < w4.heap.size := by omega
  go_wp2_with fail
  refine (works_any _).mono ?_
  rintro e w5 ⟨rfl, hb5⟩
  go_wp2
  go_ret
  have hz5 := hb5.size
  exact ⟨rfl, by (repeat' (first | exact Below.refl _ _ | assumption | refine Below.setCell ?_ ?_ _ | refine Below.drew ?_ | refine Below.alloc ?_ ?_ _ | refine below_of_grown ?_ (by assumption) ?_ | refine Below.trans ?_ (Below.mono (by assumption) ?_) | omega | (simp; done) | (simp; omega)))⟩
end Go.Proofs.Ythnljmejkcmjhaa
