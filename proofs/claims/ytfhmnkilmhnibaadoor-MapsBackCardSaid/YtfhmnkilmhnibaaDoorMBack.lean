/-
  The walk of MapsBack: the law returns true, and what was there is as it was.
-/
import Derived.Test.YtfhmnkilmhnibaaDoorMOf
namespace Go.Proofs.YtfhmnkilmhnibaaDoor
open Go.RowKit

theorem ext_bytes {a b : ByteArray} (ha : a.size = 64) (hb : b.size = 64) (h : ∀ i, i < 64 → byteAt a i = byteAt b i) : a = b := by
  refine ByteArray.ext (Array.toList_inj.1 (List.ext_getElem? fun i => ?_))
  by_cases hi : i < 64
  · obtain ⟨x, hx, ex⟩ := get_byteAt (s := a) (i := i) (by omega)
    obtain ⟨y, hy, ey⟩ := get_byteAt (s := b) (i := i) (by omega)
    have he := h i hi
    rw [ex, ey] at he
    rw [hx, hy, UInt8.toNat.inj (show x.toNat = y.toNat by omega)]
  · rw [List.getElem?_eq_none (by rw [length_data]; omega), List.getElem?_eq_none (by rw [length_data]; omega)]
theorem of_back {s : ByteArray} {N : Nat} (hm : mapB s N = true) : ofS (pl s N) = s := by
  obtain ⟨h64, h1, h2⟩ := (mapB_iff s N).1 hm
  refine ext_bytes (size_ofS _) h64 fun i hi => ?_
  rw [byteAt_ofS _ i hi]
  by_cases hc : (pl s N).contains i = true
  · rw [if_pos hc]
    exact ((mem_pl s N i).1 (by simpa using hc)).2.symm
  · rw [if_neg hc]
    have hn : ¬ (i < N ∧ byteAt s i = 1) := fun h => hc (by simpa using (mem_pl s N i).2 h)
    by_cases hiN : i < N
    · rcases h1 i hiN hi with h | h
      · exact h.symm
      · exact absurd ⟨hiN, h⟩ hn
    · exact (h2 i (by omega) hi).symm

set_option maxHeartbeats 2000000 in
theorem back_walk (s : ByteArray) (n : Int) (w : World) :
    Calls Tryd.prog 3 #[.string s, .int .i64 n] w fun e w' => e = .returned (.bool true) ∧ Below w.heap.size w w' := by
  have HP := Lib.hid (fun W => places_any s n W)
  by_cases h0 : chkE s n = 0
  · obtain ⟨N, rfl, h1, hN, hm⟩ := chk_told h0
    have hpl : placesL s N = pl s N := by rw [placesL, if_pos h0, Int.toNat_natCast]
    have hb := of_back hm
    have hO := fun a c W h => of_any N (pl s N) a c W h1 hN (fun x hx => ((mem_pl s N x).1 hx).1) (by have := length_pl s N; omega) h
    rw [hb] at hO
    rw [hpl, h0] at HP
    have hss := eqs_yes (rfl : s = s)
    have HO := Lib.hid hO
    clear hO hb hpl h0 hm
    generalize pl s N = l at *
    go_enter Tryd.func3, Tryd.ntmps3
    go_wp2_with fail
    refine (works_any _).mono ?_
    rintro e w1 ⟨rfl, hb1⟩
    go_wp2_with fail
    refine (HP.out _).mono ?_
    rintro e w2 ⟨v, rfl, ho, hb2⟩
    have B2 := hb1.trans (Below.mono hb2 hb1.size)
    obtain ⟨a, c, rfl, hc⟩ := ho.cells
    have HC := Lib.hid hc
    clear hb1 hb2 ho hc
    go_wp2_with fail
    refine (HO.out _ _ _ HC.out).mono ?_
    rintro e w3 ⟨rfl, hb3⟩
    have B3 := B2.trans (Below.mono hb3 B2.size)
    go_wp2_with fail
    go_ret
    exact ⟨rfl, B3⟩
  · have hpl : placesL s n = [] := by rw [placesL, if_neg h0]
    rw [hpl] at HP
    generalize chkE s n = ce at *
    have h1 : (ce == 0) = false := by simp [h0]
    have h2 : (ce != 0) = true := by simp [h0]
    clear hpl h0
    go_enter Tryd.func3, Tryd.ntmps3
    go_wp2_with fail
    refine (works_any _).mono ?_
    rintro e w1 ⟨rfl, hb1⟩
    go_wp2_with fail
    refine (HP.out _).mono ?_
    rintro e w2 ⟨v, rfl, ho, hb2⟩
    have B2 := hb1.trans (Below.mono hb2 hb1.size)
    obtain ⟨a, c, rfl, _⟩ := ho.cells
    clear hb1 hb2 ho
    go_wp2_with fail
    go_ret
    exact ⟨rfl, B2⟩
end Go.Proofs.YtfhmnkilmhnibaaDoor
