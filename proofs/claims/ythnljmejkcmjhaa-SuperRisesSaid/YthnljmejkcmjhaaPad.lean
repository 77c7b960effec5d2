/-
  Bytes made a sector (the program's and the document's).
-/
import Derived.Test.YthnljmejkcmjhaaKit
import Derived.Test.YthnljmejkcmjhaaShelf
namespace Go.Proofs.Ythnljmejkcmjhaa
open Go.RowKit

/-- Bytes, made a sector. -/
def pad (s : ByteArray) : ByteArray := s ++ str (List.replicate (64 - s.size) 0)
theorem size_pad (s : ByteArray) (h : s.size ≤ 64) : (pad s).size = 64 := by
  simp only [pad, ByteArray.size_append, size_str, List.length_replicate]; omega
theorem data_pad (s : ByteArray) : (pad s).data.toList = s.data.toList ++ List.replicate (64 - s.size) 0 := by
  simp [pad, str]

theorem repeat_zero (n : Nat) : (⟨(Lib.repeatL [0] n).toArray⟩ : ByteArray) = str (List.replicate n 0) := by
  have : Lib.repeatL [0] n = List.replicate n 0 := by
    induction n with
    | zero => rfl
    | succ n ih => simp [Lib.repeatL, List.replicate_succ] at ih ⊢; try exact ih
  rw [this]; rfl

set_option maxHeartbeats 400000 in
theorem padded_any (s : ByteArray) (w : World) (hs : s.size ≤ 64) :
    Calls Try.prog 23 #[.string s] w fun e w' => e = .returned (.string (pad s)) ∧ Below w.heap.size w w' := by
  have hc := Try.strings_Repeat ⟨#[0]⟩ (64 - s.size) w (by omega) (by show 1 * _ ≤ _; omega)
  have e1 : ((64 - s.size : Nat) : Int) = 64 - (s.size : Int) := by omega
  rw [e1] at hc
  have e2 := repeat_zero (64 - s.size)
  change (⟨(Lib.repeatL (#[0] : Array UInt8).toList (64 - s.size)).toArray⟩ : ByteArray) = _ at e2
  rw [e2] at hc
  have hz : (str (List.replicate (64 - s.size) 0)).size ≤ 64 := by simp [size_str]
  have HC := Lib.hid hc
  clear hc e1 e2
  go_enter Try.func23, Try.ntmps23
  go_wp2_with fail
  refine (HC.out).mono ?_
  rintro e w1 ⟨rfl, hb⟩
  go_wp2
  go_ret
  exact ⟨rfl, hb⟩

set_option maxHeartbeats 400000 in
theorem rpadded_any (s : ByteArray) (w : World) (hs : s.size ≤ 64) :
    Calls Try.prog 34 #[.string s] w fun e w' => e = .returned (.string (pad s)) ∧ Below w.heap.size w w' := by
  obtain ⟨i0, hi, hz0, hz1, hz2⟩ := info_parts info_u8
  have hz : (str (List.replicate (64 - s.size) 0)).size ≤ 64 := by simp [size_str]
  go_enter Try.func34, Try.ntmps34
  go_wp2_with (first | (at_make; refine wpList_make_full _ rfl _ _ 47 rfl w.heap.size 5 i0 (.int .u8 0) 1 Try.underlying47 hi hz0 hz1 _ _ _ _ (64 - s.size) rfl rfl (by omega) (by omega) ?b1 ?b2 ?b3 ?_))
  case b1 => rw [hz2]; omega
  case b2 => unfold maxLen; omega
  case b3 => omega
  intro w1 hown hgrow
  have hcv := conv_zeros (P := Try.prog) (dst := 9) Try.underlying47 Try.underlying5 Try.underlying9 hown
  go_wp2
  go_ret
  exact ⟨rfl, below_of_grown (Below.refl _ _) hgrow (Nat.le_refl _)⟩
end Go.Proofs.Ythnljmejkcmjhaa
