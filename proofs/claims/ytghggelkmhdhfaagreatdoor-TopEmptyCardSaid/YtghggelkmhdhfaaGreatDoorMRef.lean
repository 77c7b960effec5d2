
/-
  The document's maps: many, Check, asked, Taken, Find, walked: they say what the program's say.
-/
import Derived.Test.YtghggelkmhdhfaaGreatDoorMTaken
namespace Go.Proofs.YtghggelkmhdhfaaGreatDoor
open Go.RowKit

theorem mapB_all {s : ByteArray} {N : Nat} (h64 : s.size = 64) (h : ∀ j, j < 64 → byteAt s j = 0 ∨ (byteAt s j = 1 ∧ j < N)) : mapB s N = true := by
  refine (mapB_iff s N).2 ⟨h64, fun i _ hi => ?_, fun i hi h2 => ?_⟩
  · rcases h i hi with h | h
    · exact .inl h
    · exact .inr h.1
  · rcases h i h2 with h | h
    · exact h
    · omega
theorem mapB_bad {s : ByteArray} {N j : Nat} (hj : j < 64) (h : ¬ (byteAt s j = 0 ∨ (byteAt s j = 1 ∧ j < N))) : mapB s N = false := by
  cases hm : mapB s N with
  | false => rfl
  | true =>
    obtain ⟨_, h1, h2⟩ := (mapB_iff s N).1 hm
    by_cases hjN : j < N
    · rcases h1 j hjN hj with h3 | h3
      · exact absurd (.inl h3) h
      · exact absurd (.inr ⟨h3, hjN⟩) h
    · exact absurd (.inl (h2 j (by omega) hj)) h

end Go.Proofs.YtghggelkmhdhfaaGreatDoor
