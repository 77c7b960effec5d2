/-
  The walk of MapsAsk: the law returns true, and what was there is as it was.
-/
import Derived.Test.YtfhmnkilmhnibaaDoorMOf
namespace Go.Proofs.YtfhmnkilmhnibaaDoor
open Go.RowKit

theorem length_placesL (s : ByteArray) (n : Int) : (placesL s n).length ≤ 64 := by
  unfold placesL
  split
  · rename_i h
    obtain ⟨N, rfl, _, hN, _⟩ := chk_told h
    have := length_pl s ((N : Int).toNat)
    rw [Int.toNat_natCast] at this ⊢
    omega
  · simp

set_option maxHeartbeats 4000000 in
set_option maxRecDepth 100000 in
theorem ask_walk (s : ByteArray) (n p : Int) (w : World) :
    Calls Tryd.prog 6 #[.string s, .int .i64 n, .int .i64 p] w fun e w' => e = .returned (.bool true) ∧ Below w.heap.size w w' := by
  have H1 := Lib.hid (fun W => taken_any s n p W)
  have H2 := Lib.hid (fun W => rtaken_any s n p W)
  have H3 := Lib.hid (fun W => count_any s n W)
  have H4 := Lib.hid (fun W => rcount_any s n W)
  have H5 := Lib.hid (fun W => check_any s n W)
  have H6 := Lib.hid (fun W => rcheck_any s n W)
  have H7 := Lib.hid (fun W => find_any s n p W)
  have H8 := Lib.hid (fun W => rfind_any s n p W)
  have H9 := Lib.hid (fun W => places_any s n W)
  have H10 := Lib.hid (fun W => rplaces_any s n W)
  have hll := length_placesL s n
  generalize takenB s n p = tb at *
  generalize askE s n p = ae at *
  generalize placesL s n = l at *
  generalize chkE s n = ce at *
  generalize findI s n p = fi at *
  generalize findE s n p = fe at *
  go_enter Tryd.func6, Tryd.ntmps6
  go_wp2_with fail
  refine (H1.out _).mono ?_
  rintro e w1 ⟨rfl, hb1⟩
  go_wp2_with fail
  refine (H2.out _).mono ?_
  rintro e w2 ⟨rfl, rfl⟩
  go_wp2_with fail
  refine (H3.out _).mono ?_
  rintro e w3 ⟨rfl, hb3⟩
  have B3 := hb1.trans (Below.mono hb3 hb1.size)
  clear hb1 hb3
  go_wp2_with fail
  refine (H4.out _).mono ?_
  rintro e w4 ⟨rfl, hb4⟩
  have B4 := B3.trans (Below.mono hb4 B3.size)
  clear hb4 B3
  go_wp2_with fail
  refine (H5.out _).mono ?_
  rintro e w5 ⟨rfl, hb5⟩
  have B5 := B4.trans (Below.mono hb5 B4.size)
  clear hb5 B4
  go_wp2_with fail
  refine (H6.out _).mono ?_
  rintro e w6 ⟨rfl, rfl⟩
  go_wp2_with fail
  refine (works_any _).mono ?_
  rintro e w7 ⟨rfl, hb7⟩
  have B7 := B5.trans (Below.mono hb7 B5.size)
  clear hb7 B5
  go_wp2_with fail
  refine (H7.out _).mono ?_
  rintro e w8 ⟨rfl, hb8⟩
  have B8 := B7.trans (Below.mono hb8 B7.size)
  clear hb8 B7
  go_wp2_with fail
  refine (H8.out _).mono ?_
  rintro e w9 ⟨rfl, rfl⟩
  go_wp2_with fail
  refine (H9.out _).mono ?_
  rintro e w10 ⟨v10, rfl, o10, hb10⟩
  have B10 := B8.trans (Below.mono hb10 B8.size)
  obtain ⟨a10, c10, rfl, p10⟩ := o10.cells
  have P10 := Lib.hid p10
  clear hb10 B8 o10 p10
  go_wp2_with fail
  refine (H10.out _).mono ?_
  rintro e w11 ⟨v11, rfl, o11, hb11⟩
  have B11 := B10.trans (Below.mono hb11 B10.size)
  obtain ⟨a11, c11, rfl, p11⟩ := o11.cells
  have H11 := Lib.hid (ints_any a10 a11 l c10 c11 w11 (by omega) (P10.out.below hb11) p11)
  clear hb11 B10 o11 p11 P10
  go_wp2_with fail
  refine H11.out.mono ?_
  rintro e w12 ⟨rfl, hb12⟩
  have B12 := B11.trans (Below.mono hb12 B11.size)
  go_wp2_with fail
  go_ret
  exact ⟨rfl, B12⟩
end Go.Proofs.YtfhmnkilmhnibaaDoor
