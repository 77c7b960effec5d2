/-
  A text made a sector (the statements' own help).
-/
import Derived.Test.YtfhmnkilmhnibaaDoorPlainPad
namespace Go.Proofs.YtfhmnkilmhnibaaDoor
open Go.RowKit

theorem fit_row (s : ByteArray) : ((Lib.byteCells (List.replicate 64 0)).toArray.toList.take 0 ++ Lib.byteCells s.data.toList ++ (Lib.byteCells (List.replicate 64 0)).toArray.toList.drop (0 + s.size)).toArray = (Lib.byteCells (pad s).data.toList).toArray := by
  have key : ∀ n k, List.drop k (Lib.byteCells (List.replicate n 0)) = Lib.byteCells (List.replicate (n - k) 0) := fun n k => by
    simp only [Lib.byteCells, List.map_replicate, List.drop_replicate]
  rw [data_pad, Nat.zero_add]
  show ([] ++ Lib.byteCells s.data.toList ++ List.drop s.size (Lib.byteCells (List.replicate 64 0))).toArray = _
  rw [key, List.nil_append]
  simp only [Lib.byteCells, List.map_append]

set_option maxHeartbeats 400000 in
theorem fit_any (s : ByteArray) (w : World) (hs : s.size ≤ 64) :
    Calls Tryd.prog 25 #[.string s] w fun e w' => e = .returned (.string (pad s)) ∧ Below w.heap.size w w' := by
  obtain ⟨i0, hi, hz0, hz1, hz2⟩ := info_parts info_u8
  have hsz := size_pad s hs
  have HF := Lib.hid (fit_row s)
  go_enter Tryd.func25, Tryd.ntmps25
  go_wp2_with (first | (at_make; refine wpList_make_full _ rfl _ _ 50 rfl w.heap.size 5 i0 (.int .u8 0) 1 Tryd.underlying50 hi hz0 hz1 _ _ _ _ 64 rfl rfl rfl rfl ?b1 ?b2 ?b3 ?_))
  case b2 => unfold maxLen; omega
  intro w1 hown hgrow
  have hblk := own_block hown
  have hsz1 := hgrow.size
  rw [made_zeros] at hblk
  have hcp := Lib.run_copy_row_string (P := Tryd.prog) w1 50 9 3 5 w.heap.size 0 64 64 s _ _ Tryd.underlying50 (by kernel_rfl) hblk hs (by simp [Lib.byteCells]; omega)
  rw [HF.out] at hcp
  have hblk2 := setRow_heap w1 w.heap.size _ (Lib.byteCells (pad s).data.toList).toArray _ _ hblk
  have hcv := conv_block (P := Tryd.prog) (src := 50) (dst := 9) (cap := 64) (rest := []) Tryd.underlying50 Tryd.underlying5 Tryd.underlying9 (by rw [List.append_nil]; exact hblk2) (n := 64) (by rw [length_data]; exact hsz)
  rw [str_data] at hcv
  have hbe : Below w.heap.size w (w1.setRow w.heap.size (Lib.byteCells (pad s).data.toList).toArray) := below_setRow (below_of_grown (Below.refl _ _) hgrow (Nat.le_refl _)) (Nat.le_refl _) _
  generalize w1.setRow w.heap.size (Lib.byteCells (pad s).data.toList).toArray = w2 at hcp hcv hbe
  clear hblk hblk2 hown
  go_wp2
  go_ret
  exact ⟨rfl, hbe⟩
end Go.Proofs.YtfhmnkilmhnibaaDoor
