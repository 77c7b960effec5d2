/-
  Two lists of texts, compared (the statements' own help).
-/
import Derived.Test.YtdecjmiahjlpjaaKit
import Derived.Deep.QuietTactic
import Derived.BigQuiet
namespace Go.Proofs.Ytdecjmiahjlpjaa
open Go.RowKit

/-- The cells of a list of texts. -/
def Texts (w : World) (a : Option Addr) (n : Nat) (f : Nat → ByteArray) : Prop := ∀ i, i < n → ∃ g o, a = some ⟨g, o, none⟩ ∧ w.cell? ⟨g, o + i, none⟩ = some (.string (f i))
theorem Texts.below {w w' : World} {a : Option Addr} {n : Nat} {f : Nat → ByteArray} (h : Texts w a n f) (hb : Below w.heap.size w w') : Texts w' a n f := fun i hi => by
  obtain ⟨g, o, h1, h2⟩ := h i hi
  have hg := World.block_lt_of_cell? w _ h2
  exact ⟨g, o, h1, by rw [hb.cell (by simpa using hg)]; exact h2⟩

def Kept23 (w : World) (n : Nat) (i : Value) (wr : World) : Prop := ∃ k : Nat, k ≤ n ∧ i = .int .i64 k ∧ Below w.heap.size w wr

set_option maxHeartbeats 1000000 in
theorem texts_any (a b : Option Addr) (n ca cb : Nat) (f : Nat → ByteArray) (w : World) (hn : n ≤ 1000) (ha : Texts w a n f) (hb : Texts w b n f) :
    Calls Try.prog 23 #[.slice a n ca, .slice b n cb] w fun e w' => e = .returned (.bool true) ∧ Below w.heap.size w w' := by
  have HA := Lib.hid ha
  have HB := Lib.hid hb
  clear ha hb
  go_enter Try.func23, Try.ntmps23
  go_wp2_with fail
  go_loopw [5] (fun i wr => Kept23 w n i wr) (fun i _ => n - (intOf i).toNat)
  case atStart => exact ⟨0, by omega, rfl, Below.refl _ _⟩
  case round =>
    obtain ⟨k, hk, rfl, hbe⟩ := hrel
    by_cases hlt : k < n
    · obtain ⟨g, o, rfl, h1⟩ := HA.out k hlt
      obtain ⟨g', o', rfl, h2⟩ := HB.out k hlt
      have g1 := World.block_lt_of_cell? w _ h1
      have g2 := World.block_lt_of_cell? w _ h2
      have x1 : wr.cell? ⟨g, o + k, none⟩ = some (.string (f k)) := by rw [hbe.cell (by simpa using g1)]; exact h1
      have x2 : wr.cell? ⟨g', o' + k, none⟩ = some (.string (f k)) := by rw [hbe.cell (by simpa using g2)]; exact h2
      have l1 : (k : Int) < n := by omega
      have l2 : (0 : Int) ≤ k := by omega
      have he := eqs_yes (rfl : f k = f k)
      clear HA HB h1 h2 g1 g2
      go_wp2_with fail
      go_quiet (fail)
      clear x1 x2
      go_wp2_with fail
      go_roundw
      case rel => exact ⟨k + 1, by omega, by go_num, by (repeat' (first | exact Below.refl _ _ | assumption | refine Below.setCell ?_ ?_ _ | refine Below.drew ?_ | refine below_drewN ?_ _ | refine Below.alloc ?_ ?_ _ | refine below_of_grown ?_ (by assumption) ?_ | refine Below.trans ?_ (Below.mono (by assumption) ?_) | omega | (simp; done) | (simp; omega)))⟩
      case measure => simp [intOf]; omega
    · obtain rfl : k = n := by omega
      go_wp2_with fail
      go_ret
      exact ⟨rfl, hbe⟩
end Go.Proofs.Ytdecjmiahjlpjaa
