/-
  A text made a sector (the statements' own help).
-/
import Derived.Test.YthnljmejkcmjhaaPad
namespace Go.Proofs.Ythnljmejkcmjhaa
open Go.RowKit

theorem fit_row (s : ByteArray) : ((Lib.byteCells (List.replicate 64 0)).toArray.toList.take 0 ++ Lib.byteCells s.data.toList ++ (Lib.byteCells (List.replicate 64 0)).toArray.toList.drop (0 + s.size)).toArray = (Lib.byteCells (pad s).data.toList).toArray := by
  have key : ∀ n k, List.drop k (Lib.byteCells (List.replicate n 0)) = Lib.byteCells (List.replicate (n - k) 0) := fun n k => by
    simp only [Lib.byteCells, List.map_replicate, List.drop_replicate]
  rw [data_pad, Nat.zero_add]
  show ([] ++ Lib.byteCells s.data.toList ++ List.drop s.size (Lib.byteCells (List.replicate 64 0))).toArray = _
  rw [key, List.nil_append]
  simp only [Lib.byteCells, List.map_append]

set_option maxHeartbeats 400000 in
theorem fit_any (s : ByteArray) (w : World) (hs : s.size ≤ 64) :
    Calls Try.prog 26 #[.string s] w fun e w' => e = .returned (.string (pad s)) ∧ Below w.heap.size w w' := by
  obtain ⟨i0, hi, hz0, hz1, hz2⟩ := info_parts info_u8
  have hsz := size_pad s hs
  have HF := Lib.hid (fit_row s)
  go_enter Try.func26, Try.ntmps26
  go_wp2_with (first | (at_make; refine wpList_make_full _ rfl _ _ 47 rfl w.heap.size 5 i0 (.int .u8 0) 1 Try.underlying47 hi hz0 hz1 _ _ _ _ 64 rfl rfl rfl rfl ?b1 ?b2 ?b3 ?_))
  case b2 => unfold maxLen; omega
  intro w1 hown hgrow
  have hblk := own_block hown
  have hsz1 := hgrow.size
  rw [made_zeros] at hblk
  have hcp := Lib.run_copy_row_string (P := Try.prog) w1 47 9 3 5 w.heap.size 0 64 64 s _ _ Try.underlying47 (by kernel_rfl) hblk hs (by simp [Lib.byteCells]; omega)
  rw [HF.out] at hcp
  have hblk2 := setRow_heap w1 w.heap.size _ (Lib.byteCells (pad s).data.toList).toArray _ _ hblk
  have hcv := conv_block (P := Try.prog) (src := 47) (dst := 9) (cap := 64) (rest := []) Try.underlying47 Try.underlying5 Try.underlying9 (by rw [List.append_nil]; exact hblk2) (n := 64) (by rw [length_data]; exact hsz)
  rw [str_data] at hcv
  have hbe : Below w.heap.size w (w1.setRow w.heap.size (Lib.byteCells (pad s).data.toList).toArray) := below_setRow (below_of_grown (Below.refl _ _) hgrow (Nat.le_refl _)) (Nat.le_refl _) _
  generalize w1.setRow w.heap.size (Lib.byteCells (pad s).data.toList).toArray = w2 at hcp hcv hbe
  clear hblk hblk2 hown
  go_wp2
  go_ret
  exact ⟨rfl, hbe⟩
end Go.Proofs.Ythnljmejkcmjhaa
