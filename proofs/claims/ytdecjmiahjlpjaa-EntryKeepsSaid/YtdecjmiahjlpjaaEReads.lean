/-
  The walk of EntryReads: the law returns true, and what was there is as it was.
-/
import Derived.Test.YtdecjmiahjlpjaaENames
import Derived.Test.YtdecjmiahjlpjaaETexts
import Derived.Test.YtdecjmiahjlpjaaEFind2
import Derived.Test.YtdecjmiahjlpjaaEWorks
import Derived.Test.YtdecjmiahjlpjaaEHas
namespace Go.Proofs.Ytdecjmiahjlpjaa
open Go.RowKit

def dirCells (s : ByteArray) : Array Value := (if dirOk s = true then outCells s 4 else zeroDir).toArray
theorem dirV_cells (s : ByteArray) : dirV s = .agg (dirCells s) := rfl
theorem dirCells_size (s : ByteArray) : (dirCells s).size = 8 := by
  unfold dirCells
  rw [List.size_toArray]
  split
  · exact outCells_size s 4
  · rfl
theorem dirCells_one (s : ByteArray) : (dirCells s).all (·.oneCell') = true := by
  unfold dirCells
  split
  · exact out_one s 4
  · exact zero_one
theorem dirCells_form (s : ByteArray) : ∃ n0 n1 n2 n3 s0 s1 s2 s3, dirCells s = cells4 n0 n1 n2 n3 s0 s1 s2 s3 := by
  unfold dirCells
  split
  · exact ⟨_, _, _, _, _, _, _, _, outCells_cells4 s⟩
  · exact ⟨_, _, _, _, _, _, _, _, zeroDir_cells4⟩
theorem dir_same (s : ByteArray) (W : World) : (Op.equalIn 10000 26 (.agg (dirCells s)) (.agg (dirCells s))).run Try.prog W = .ok true W := by
  obtain ⟨n0, n1, n2, n3, s0, s1, s2, s3, h⟩ := dirCells_form s
  rw [h, dir_eq]
  simp [eqE]
theorem own_texts {w : World} {base : Nat} {v : Value} {l : List ByteArray} (h : w.ownsRow base 9 1 v l.length (nmsV l)) : ∃ a c, v = .slice a l.length c ∧ Texts w a l.length (fun i => l.getD i ⟨#[]⟩) := by
  have h' := h
  obtain ⟨_, ⟨rfl, h0⟩ | ⟨g, cap, cur, rfl, _⟩⟩ := h
  · exact ⟨none, 0, by rw [h0], fun i hi => by omega⟩
  · refine ⟨_, _, rfl, fun i hi => ⟨g, 0, rfl, ?_⟩⟩
    have hc := h'.cells (g := g) rfl i (.string (l.getD i ⟨#[]⟩)) (by simp [nmsV, List.getD, List.getElem?_eq_getElem hi])
    rw [Addr.add_lit] at hc
    exact hc
theorem length_namesL (s : ByteArray) : (namesL s).length ≤ 4 := by
  unfold namesL
  split
  · exact length_nms s
  · simp

set_option maxHeartbeats 4000000 in
set_option maxRecDepth 100000 in
theorem reads_walk (s name : ByteArray) (w : World) :
    Calls Try.prog 5 #[.string s, .string name] w fun e w' => e = .returned (.bool true) ∧ Below w.heap.size w w' := by
  have h1 := fun W => edecode_any s W
  have h2 := fun W => rdecode_any s W
  rw [dirV_cells] at h1 h2
  have H1 := Lib.hid h1
  have H2 := Lib.hid h2
  have H3 := Lib.hid (fun W => efind_any s name W)
  have H4 := Lib.hid (fun W => rfind_any s name W)
  have H5 := Lib.hid (fun W => name_any name W)
  have H6 := Lib.hid (fun W => rname_any name W)
  have H7 := Lib.hid (fun W => efree_any s W)
  have H8 := Lib.hid (fun W => rfree_any s W)
  have H9 := Lib.hid (fun W => enames_any s W)
  have H10 := Lib.hid (fun W => rnames_any s W)
  have hi8 : (Try.prog.info? 26).map (·.size) = some (dirCells s).size := by rw [dirCells_size]; kernel_rfl
  have hsz : zeroDir.toArray.size = (dirCells s).size := by rw [dirCells_size]; rfl
  have hone := dirCells_one s
  have hEQ := dir_same s
  have hnl := length_namesL s
  clear h1 h2
  generalize dirCells s = cs at *
  generalize namesL s = nl at *
  generalize dirE s = de at *
  generalize findI s name = fi at *
  generalize findN s name = fn at *
  generalize findE s name = fe at *
  generalize freeI s = ri at *
  generalize freeE s = re at *
  generalize nameB name = nb at *
  have HI8 := Lib.hid hi8
  have HSZ := Lib.hid hsz
  have HONE := Lib.hid hone
  clear hi8 hsz hone
  go_enter Try.func5, Try.ntmps5
  go_wp2_with fail
  refine (H1.out _).mono ?_
  rintro e w1 ⟨rfl, hb1⟩
  have B1 := below_row hb1 (.cells zeroDir.toArray 26) cs
  have D1 := Blk.rowNew w1 zeroDir.toArray cs 26
  go_wp2_with (refine wpList_store_row rfl 26 _ _ rfl w1.heap.size cs rfl rfl 26 zeroDir.toArray (_root_.Go.heap_alloc_new _ _) HI8.out HSZ.out HONE.out ?_)
  change Calls Try.prog _ _ ((w1.alloc (.cells zeroDir.toArray 26)).setRow w1.heap.size cs) _
  generalize (w1.alloc (.cells zeroDir.toArray 26)).setRow w1.heap.size cs = W1 at B1 D1 ⊢
  clear hb1
  refine (H2.out _).mono ?_
  rintro e w2 ⟨rfl, hb2⟩
  have B2 := below_row (B1.trans (Below.mono hb2 B1.size)) (.cells zeroDir.toArray 26) cs
  have D2 := (D1.below hb2).row (.cells zeroDir.toArray 26) cs
  have E2 := Blk.rowNew w2 zeroDir.toArray cs 26
  go_wp2_with (refine wpList_store_row rfl 26 _ _ rfl w2.heap.size cs rfl rfl 26 zeroDir.toArray (_root_.Go.heap_alloc_new _ _) HI8.out HSZ.out HONE.out ?_)
  change Calls Try.prog _ _ ((w2.alloc (.cells zeroDir.toArray 26)).setRow w2.heap.size cs) _
  generalize (w2.alloc (.cells zeroDir.toArray 26)).setRow w2.heap.size cs = W2 at B2 D2 E2 ⊢
  clear hb2 B1 D1
  refine (H3.out _).mono ?_
  rintro e w3 ⟨rfl, hb3⟩
  have B3 := B2.trans (Below.mono hb3 B2.size)
  have D3 := D2.below hb3
  have E3 := E2.below hb3
  clear hb3 B2 D2 E2
  go_wp2_with fail
  refine (H4.out _).mono ?_
  rintro e w4 ⟨rfl, hb4⟩
  have B4 := B3.trans (Below.mono hb4 B3.size)
  have D4 := Lib.hid (D3.below hb4)
  have E4 := Lib.hid (E3.below hb4)
  clear hb4 B3 D3 E3
  go_wp2_with (first | (refine wpList_load_row_g 26 _ rfl w1.heap.size rfl 26 cs (0, 0) _ D4.out Try.underlying26 rfl HI8.out (by simp [Region.wanted, yielded]) ?_) | (refine wpList_load_row_g 26 _ rfl w2.heap.size rfl 26 cs (0, 0) _ E4.out Try.underlying26 rfl HI8.out (by simp [Region.wanted, yielded, Act.put]) ?_))
  clear hEQ D4 E4
  refine (H5.out _).mono ?_
  rintro e w5 ⟨rfl, rfl⟩
  go_wp2_with fail
  refine (H6.out _).mono ?_
  rintro e w5 ⟨rfl, rfl⟩
  go_wp2_with fail
  refine (works_any _).mono ?_
  rintro e w5 ⟨rfl, hb5⟩
  have B5 := B4.trans (Below.mono hb5 B4.size)
  clear hb5 B4
  go_wp2_with fail
  refine (H7.out _).mono ?_
  rintro e w6 ⟨rfl, hb6⟩
  have B6 := B5.trans (Below.mono hb6 B5.size)
  clear hb6 B5
  go_wp2_with fail
  refine (H8.out _).mono ?_
  rintro e w7 ⟨rfl, hb7⟩
  have B7 := B6.trans (Below.mono hb7 B6.size)
  clear hb7 B6
  go_wp2_with fail
  refine (H9.out _).mono ?_
  rintro e w8 ⟨v8, rfl, O8, hb8⟩
  have B8 := B7.trans (Below.mono hb8 B7.size)
  obtain ⟨a8, c8, rfl, T8⟩ := own_texts O8
  have T8' := Lib.hid T8
  clear hb8 B7 O8 T8
  go_wp2_with fail
  refine (H10.out _).mono ?_
  rintro e w9 ⟨v9, rfl, O9, hb9⟩
  have B9 := B8.trans (Below.mono hb9 B8.size)
  obtain ⟨a9, c9, rfl, T9⟩ := own_texts O9
  have T10 := T8'.out.below hb9
  have H11 := Lib.hid (texts_any a8 a9 nl.length c8 c9 _ w9 (by omega) T10 T9)
  clear hb9 B8 O9 T9 T10 T8'
  go_wp2_with fail
  refine H11.out.mono ?_
  rintro e w10 ⟨rfl, hb10⟩
  have B10 := B9.trans (Below.mono hb10 B9.size)
  go_wp2_with fail
  go_ret
  exact ⟨rfl, B10⟩
end Go.Proofs.Ytdecjmiahjlpjaa
