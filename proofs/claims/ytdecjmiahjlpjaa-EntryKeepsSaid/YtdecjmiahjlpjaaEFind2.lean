/-
  Where a name stands: ref.Find, walked.
-/
import Derived.Test.YtdecjmiahjlpjaaEFind
namespace Go.Proofs.Ytdecjmiahjlpjaa
open Go.RowKit

/-- What the loop of ref.Find keeps. -/
def Kept16 (s nm : ByteArray) (w : World) (g : Nat) (i : Value) (wr : World) : Prop :=
  ∃ k : Nat, k ≤ 4 ∧ i = .int .i64 k ∧ Below w.heap.size w wr ∧ wr.heap[g]? = some (.cells (outCells s 4).toArray 26 (0, 0)) ∧ findAt s nm 0 = findAt s nm k

set_option maxHeartbeats 2000000 in
set_option maxRecDepth 100000 in
theorem rfind_any (s nm : ByteArray) (w : World) :
    Calls Try.prog 16 #[.string s, .string nm] w fun e w' => e = .returned (.tuple #[.int .i64 (findI s nm), .int .i64 (findN s nm), .int .i64 (findE s nm)]) ∧ Below w.heap.size w w' := by
  have HD := Lib.hid (fun W => rdecode_any s W)
  have HN := Lib.hid (fun W => rname_any nm W)
  have hi8 : (Try.prog.info? 26).map (·.size) = some 8 := by kernel_rfl
  have hl4 : (outCells s 4).length = 8 := outCells_size s 4
  by_cases hok : dirOk s = true
  · have ev : dirV s = .agg (outCells s 4).toArray := by simp [dirV, hok]
    have ee : dirE s = 0 := by simp [dirE, hok]
    have hsz : zeroDir.toArray.size = (outCells s 4).toArray.size := by rw [List.size_toArray, List.size_toArray, hl4]; rfl
    have hi9 : (Try.prog.info? 26).map (·.size) = some (outCells s 4).toArray.size := by rw [List.size_toArray, hl4]; exact hi8
    rw [ev, ee] at HD
    go_enter Try.func16, Try.ntmps16
    go_wp2_with fail
    refine (HD.out _).mono ?_
    rintro e w1 ⟨rfl, hb1⟩
    have hz1 := hb1.size
    go_wp2_with (refine wpList_store_row rfl 26 _ _ rfl w1.heap.size (outCells s 4).toArray rfl rfl 26 zeroDir.toArray (_root_.Go.heap_alloc_new _ _) hi9 hsz (out_one s 4) ?_)
    have hB := setRow_heap (w1.alloc (.cells zeroDir.toArray 26)) w1.heap.size zeroDir.toArray (outCells s 4).toArray 26 (0, 0) (_root_.Go.heap_alloc_new _ _)
    have hb2 : Below w.heap.size w ((w1.alloc (.cells zeroDir.toArray 26)).setRow w1.heap.size (outCells s 4).toArray) := below_setRow (hb1.alloc hz1 _) hz1 _
    change Calls Try.prog _ _ ((w1.alloc (.cells zeroDir.toArray 26)).setRow w1.heap.size (outCells s 4).toArray) _
    generalize (w1.alloc (.cells zeroDir.toArray 26)).setRow w1.heap.size (outCells s 4).toArray = w2 at hB hb2 ⊢
    have B := Lib.hid hB
    clear hB
    refine (HN.out _).mono ?_
    rintro e w3 ⟨rfl, rfl⟩
    cases hnb : nameB nm with
    | false =>
      go_wp2_with fail
      go_ret3
      exact ⟨by simp [findI, findN, findE, hok, hnb], hb2⟩
    | true =>
      go_wp2_with fail
      go_loopw [9] (fun i wr => Kept16 s nm w w1.heap.size i wr) (fun i _ => 4 - (intOf i).toNat)
      case atStart => exact ⟨0, by omega, rfl, hb2, B.out, rfl⟩
      case round =>
        clear B
        obtain ⟨k, hk, rfl, hbe, b, hf0⟩ := hrel
        have B := Lib.hid b
        have HF := Lib.hid hf0
        have hz3 := lt_of_block b
        clear hf0 b
        by_cases hlt : k < 4
        · have T := outCells_told s 4 k (by omega) hlt
          obtain ⟨nk, hnk⟩ : ∃ nk, nk = entS s k := ⟨_, rfl⟩
          have x0 : wr.cell? ⟨w1.heap.size, k * 2, none⟩ = some (.int .i64 (entN s k)) := by rw [Joins.cell_of_block B.out]; exact T.1
          have x1 : wr.cell? ⟨w1.heap.size, k * 2 + 1, none⟩ = some (.string nk) := by rw [Joins.cell_of_block B.out, hnk]; exact T.2
          have HNK := Lib.hid hnk
          clear hnk T
          by_cases heq : nk = nm
          · have he1 := eqs_yes heq
            have HK := Lib.hid (show findAt s nm 0 = k by rw [HF.out, findAt_here hlt (HNK.out.symm.trans heq)])
            have hres : ∀ W, Below w.heap.size w W → (Ending.returned (.tuple #[.int .i64 (k : Int), .int .i64 (entN s k), .int .i64 0]) = Ending.returned (.tuple #[.int .i64 (findI s nm), .int .i64 (findN s nm), .int .i64 (findE s nm)]) ∧ Below w.heap.size w W) := fun W hW =>
              ⟨by simp [findI, findN, findE, hok, hnb, HK.out, hlt], hW⟩
            clear HF HNK HK HN HD
            go_wp2_with fail
            go_quiet (fail)
            go_wp2_with fail
            go_ret3
            exact hres _ (by (repeat' (first | exact Below.refl _ _ | assumption | refine Below.setCell ?_ ?_ _ | refine Below.drew ?_ | refine below_drewN ?_ _ | refine Below.alloc ?_ ?_ _ | refine below_of_grown ?_ (by assumption) ?_ | refine Below.trans ?_ (Below.mono (by assumption) ?_) | omega | (simp; done) | (simp; omega))))
          · have he1 := eqs_no heq
            have hnext : ∀ W, Below w.heap.size w W → W.heap[w1.heap.size]? = some (.cells (outCells s 4).toArray 26 (0, 0)) → Kept16 s nm w w1.heap.size (.int .i64 ((k : Int) + 1)) W := fun W hW hb =>
              ⟨k + 1, by omega, by simp, hW, hb, by rw [HF.out]; exact findAt_step hlt (fun h => heq (HNK.out.trans h))⟩
            clear HF HNK HN HD
            go_wp2_with fail
            exact ⟨hnext _ hbe B.out, by simp [intOf]; omega⟩
        · have h4 : k = 4 := by omega
          subst h4
          have hres : Ending.returned (.tuple #[.int .i64 0, .int .i64 0, .int .i64 5]) = Ending.returned (.tuple #[.int .i64 (findI s nm), .int .i64 (findN s nm), .int .i64 (findE s nm)]) := by
            simp [findI, findN, findE, hok, hnb, HF.out, findAt_four]
          clear HF HN HD
          go_wp2_with fail
          go_ret3
          exact ⟨hres, hbe⟩
  · have hof : dirOk s = false := by simpa using hok
    have ev : dirV s = .agg zeroDir.toArray := by simp [dirV, hof]
    have ee : dirE s = 70 := by simp [dirE, hof]
    rw [ev, ee] at HD
    go_enter Try.func16, Try.ntmps16
    go_wp2_with fail
    refine (HD.out _).mono ?_
    rintro e w1 ⟨rfl, hb1⟩
    have hz1 := hb1.size
    go_wp2_with (refine wpList_store_row rfl 26 _ _ rfl w1.heap.size zeroDir.toArray rfl rfl 26 zeroDir.toArray (_root_.Go.heap_alloc_new _ _) hi8 rfl zero_one ?_)
    go_ret3
    exact ⟨by simp [findI, findN, findE, hof], below_setRow (hb1.alloc hz1 _) hz1 _⟩
end Go.Proofs.Ytdecjmiahjlpjaa
