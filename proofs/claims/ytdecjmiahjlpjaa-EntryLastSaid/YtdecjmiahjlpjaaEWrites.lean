/-
  The walk of EntryWrites: the law returns true, and what was there is as it was.
-/
import Derived.Test.YtdecjmiahjlpjaaEAdd
import Derived.Test.YtdecjmiahjlpjaaEWorks
import Derived.Test.YtdecjmiahjlpjaaEHas
namespace Go.Proofs.Ytdecjmiahjlpjaa
open Go.RowKit

theorem putV_form (at_ n : Int) (nm : ByteArray) : ∃ a t, putV at_ n nm = .agg #[.int .i64 a, .string t] := by
  unfold putV; split <;> exact ⟨_, _, rfl⟩
theorem addP_form (s : ByteArray) (n : Int) (nm : ByteArray) : ∃ a t, addP s n nm = .agg #[.int .i64 a, .string t] := by
  unfold addP; split <;> exact ⟨_, _, rfl⟩

set_option maxHeartbeats 2000000 in
set_option maxRecDepth 100000 in
theorem writes_walk (s : ByteArray) (slot n : Int) (nm : ByteArray) (w : World) :
    Calls Try.prog 6 #[.string s, .int .i64 slot, .agg #[.int .i64 n, .string nm]] w fun e w' => e = .returned (.bool true) ∧ Below w.heap.size w w' := by
  obtain ⟨pa, pt, hp⟩ := putV_form slot n nm
  obtain ⟨qa, qt, hq⟩ := addP_form s n nm
  have h1 := fun W => eput_any slot n nm W
  have h2 := fun W => rput_any slot n nm W
  have h3 := fun W => eadd_any s n nm W
  have h4 := fun W => radd_any s n nm W
  unfold addR at h3 h4
  rw [hp] at h1 h2
  rw [hq] at h3 h4
  have H1 := Lib.hid h1
  have H2 := Lib.hid h2
  have H3 := Lib.hid h3
  have H4 := Lib.hid h4
  clear h1 h2 h3 h4 hp hq
  generalize putE slot n nm = pe at *
  generalize addE s n nm = qe at *
  generalize addI s n nm = qi at *
  go_enter Try.func6, Try.ntmps6
  go_wp2_with fail
  have A0 := Has.new w n nm 23
  have B0 : Below w.heap.size w (w.alloc (.cells #[.int .i64 n, .string nm] 23)) := by (repeat' (first | exact Below.refl _ _ | assumption | refine Below.setCell ?_ ?_ _ | refine Below.drew ?_ | refine below_drewN ?_ _ | refine Below.alloc ?_ ?_ _ | refine below_of_grown ?_ (by assumption) ?_ | refine Below.trans ?_ (Below.mono (by assumption) ?_) | omega | (simp; done) | (simp; omega)))
  change Calls Try.prog _ _ (w.alloc (.cells #[.int .i64 n, .string nm] 23)) _
  generalize w.alloc (.cells #[.int .i64 n, .string nm] 23) = W0 at A0 B0 ⊢
  refine (H1.out _).mono ?_
  rintro e w1 ⟨rfl, hb1⟩
  have A1 := A0.below hb1
  have A2 := A1.alloc (.cells #[.int .i64 pa, .string pt] 32)
  have P2 := Has.new w1 pa pt 32
  have B2 := (B0.trans (Below.mono hb1 B0.size)).alloc (by have := hb1.size; have := B0.size; omega) (.cells #[.int .i64 pa, .string pt] 32)
  obtain ⟨a0, a1, al⟩ := A1
  go_wp2_with fail
  change Calls Try.prog _ _ (w1.alloc (.cells #[.int .i64 pa, .string pt] 32)) _
  generalize w1.alloc (.cells #[.int .i64 pa, .string pt] 32) = W1 at A2 P2 B2 ⊢
  clear a0 a1 al hb1 A0 B0
  refine (H2.out _).mono ?_
  rintro e w2 ⟨rfl, hb2⟩
  have A3 := A2.below hb2
  have A4 := A3.alloc (.cells #[.int .i64 pa, .string pt] 32)
  have P4 := (P2.below hb2).alloc (.cells #[.int .i64 pa, .string pt] 32)
  have Q4 := Has.new w2 pa pt 32
  have B4 := (B2.trans (Below.mono hb2 B2.size)).alloc (by have := hb2.size; have := B2.size; omega) (.cells #[.int .i64 pa, .string pt] 32)
  obtain ⟨a0, a1, al⟩ := A3
  go_wp2_with fail
  change Calls Try.prog _ _ (w2.alloc (.cells #[.int .i64 pa, .string pt] 32)) _
  generalize w2.alloc (.cells #[.int .i64 pa, .string pt] 32) = W2 at A4 P4 Q4 B4 ⊢
  clear a0 a1 al hb2 A2 P2 B2
  refine (H3.out _).mono ?_
  rintro e w3 ⟨rfl, hb3⟩
  have A5 := A4.below hb3
  have A6 := A5.alloc (.cells #[.int .i64 qa, .string qt] 32)
  have P6 := (P4.below hb3).alloc (.cells #[.int .i64 qa, .string qt] 32)
  have Q6 := (Q4.below hb3).alloc (.cells #[.int .i64 qa, .string qt] 32)
  have R6 := Has.new w3 qa qt 32
  have B6 := (B4.trans (Below.mono hb3 B4.size)).alloc (by have := hb3.size; have := B4.size; omega) (.cells #[.int .i64 qa, .string qt] 32)
  obtain ⟨a0, a1, al⟩ := A5
  go_wp2_with fail
  change Calls Try.prog _ _ (w3.alloc (.cells #[.int .i64 qa, .string qt] 32)) _
  generalize w3.alloc (.cells #[.int .i64 qa, .string qt] 32) = W3 at A6 P6 Q6 R6 B6 ⊢
  clear a0 a1 al hb3 A4 P4 Q4 B4
  refine (H4.out _).mono ?_
  rintro e w4 ⟨rfl, hb4⟩
  have P7 := P6.below hb4
  have Q7 := Q6.below hb4
  have R7 := R6.below hb4
  have B7 := B6.trans (Below.mono hb4 B6.size)
  have hz7 := B7.size
  obtain ⟨p0, p1, pl⟩ := P7
  obtain ⟨q0, q1, ql⟩ := Q7
  obtain ⟨r0, r1, rl⟩ := R7
  have et := eqs_yes (rfl : pt = pt)
  have eu := eqs_yes (rfl : qt = qt)
  clear hb4 A6 P6 Q6 R6 B6
  go_wp2_with fail
  refine (works_any _).mono ?_
  rintro e w5 ⟨rfl, hb5⟩
  have hz5 := hb5.size
  go_wp2_with fail
  go_ret
  exact ⟨rfl, by (repeat' (first | exact Below.refl _ _ | assumption | refine Below.setCell ?_ ?_ _ | refine Below.drew ?_ | refine below_drewN ?_ _ | refine Below.alloc ?_ ?_ _ | refine below_of_grown ?_ (by assumption) ?_ | refine Below.trans ?_ (Below.mono (by assumption) ?_) | omega | (simp; done) | (simp; omega)))⟩
end Go.Proofs.Ytdecjmiahjlpjaa
