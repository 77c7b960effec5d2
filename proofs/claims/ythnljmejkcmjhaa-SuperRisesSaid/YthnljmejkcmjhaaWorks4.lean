/-
  The chapter's example (layer 4).
-/
import Derived.Test.YthnljmejkcmjhaaFit
import Derived.Test.YthnljmejkcmjhaaEnc
namespace Go.Proofs.Ythnljmejkcmjhaa
open Go.RowKit

theorem works_text : sector0 1 2 3 = pad ⟨#[67, 85, 84, 87, 1, 2, 3]⟩ := by decide +kernel

set_option maxHeartbeats 400000 in
theorem works_any (w : World) :
    Calls Try.prog 12 #[] w fun e w' => e = .returned (.bool true) ∧ Below w.heap.size w w' := by
  have HE := Lib.hid (fun W => encode_yes 1 2 3 W (by decide))
  have HF := Lib.hid (fun W => fit_any ⟨#[67, 85, 84, 87, 1, 2, 3]⟩ W (by decide))
  have heq := eqs_yes works_text
  go_enter Try.func12, Try.ntmps12
  go_wp2_with fail
  refine (HE.out _).mono ?_
  rintro e w1 ⟨rfl, hb1⟩
  go_wp2_with fail
  refine (HF.out _).mono ?_
  rintro e w2 ⟨rfl, hb2⟩
  go_wp2
  go_ret
  have hz1 := hb1.size
  exact ⟨rfl, by (repeat' (first | exact Below.refl _ _ | assumption | refine Below.setCell ?_ ?_ _ | refine Below.drew ?_ | refine Below.alloc ?_ ?_ _ | refine below_of_grown ?_ (by assumption) ?_ | refine Below.trans ?_ (Below.mono (by assumption) ?_) | omega | (simp; done) | (simp; omega)))⟩
end Go.Proofs.Ythnljmejkcmjhaa
