/-
  The first slot that is free: entry.Free and ref.Free, walked. (gen/efree.py)
-/
import Derived.Test.YtdecjmiahjlpjaaEFind
namespace Go.Proofs.Ytdecjmiahjlpjaa
open Go.RowKit

/-- The first free slot from k on; 4: none. -/
def freeAt (s : ByteArray) (k : Nat) : Nat := if k < 4 then (if entN s k = 0 then k else freeAt s (k + 1)) else 4
termination_by 4 - k
def freeI (s : ByteArray) : Int := if dirOk s = true ∧ freeAt s 0 < 4 then freeAt s 0 else 0
def freeE (s : ByteArray) : Int := if dirOk s = true then (if freeAt s 0 < 4 then 0 else 50) else 70
theorem freeAt_step {s : ByteArray} {k : Nat} (hk : k < 4) (h : ¬ entN s k = 0) : freeAt s k = freeAt s (k + 1) := by
  rw [freeAt, if_pos hk, if_neg h]
theorem freeAt_here {s : ByteArray} {k : Nat} (hk : k < 4) (h : entN s k = 0) : freeAt s k = k := by
  rw [freeAt, if_pos hk, if_pos h]
theorem freeAt_four (s : ByteArray) : freeAt s 4 = 4 := by rw [freeAt]; rfl

/-- What the loops of Free keep. -/
def Kept19 (s : ByteArray) (w : World) (g : Nat) (i : Value) (wr : World) : Prop :=
  ∃ k : Nat, k ≤ 4 ∧ i = .int .i64 k ∧ Below w.heap.size w wr ∧ wr.heap[g]? = some (.cells (outCells s 4).toArray 26 (0, 0)) ∧ freeAt s 0 = freeAt s k


set_option maxHeartbeats 2000000 in
set_option maxRecDepth 100000 in
theorem efree_any (s : ByteArray) (w : World) :
    Calls Try.prog 19 #[.string s] w fun e w' => e = .returned (.tuple #[.int .i64 (freeI s), .int .i64 (freeE s)]) ∧ Below w.heap.size w w' := by
  have HD := Lib.hid (fun W => edecode_any s W)
  have hi8 : (Try.prog.info? 26).map (·.size) = some 8 := by kernel_rfl
  have hl4 : (outCells s 4).length = 8 := outCells_size s 4
  by_cases hok : dirOk s = true
  · have ev : dirV s = .agg (outCells s 4).toArray := by simp [dirV, hok]
    have ee : dirE s = 0 := by simp [dirE, hok]
    have hsz : zeroDir.toArray.size = (outCells s 4).toArray.size := by rw [List.size_toArray, List.size_toArray, hl4]; rfl
    have hi9 : (Try.prog.info? 26).map (·.size) = some (outCells s 4).toArray.size := by rw [List.size_toArray, hl4]; exact hi8
    rw [ev, ee] at HD
    go_enter Try.func19, Try.ntmps19
    go_wp2_with fail
    refine (HD.out _).mono ?_
    rintro e w1 ⟨rfl, hb1⟩
    have hz1 := hb1.size
    have hB := setRow_heap (w1.alloc (.cells zeroDir.toArray 26)) w1.heap.size zeroDir.toArray (outCells s 4).toArray 26 (0, 0) (_root_.Go.heap_alloc_new _ _)
    have hb2 : Below w.heap.size w ((w1.alloc (.cells zeroDir.toArray 26)).setRow w1.heap.size (outCells s 4).toArray) := below_setRow (hb1.alloc hz1 _) hz1 _
    have B := Lib.hid hB
    have HB2 := Lib.hid hb2
    have HZ := lt_of_block hB
    clear hB hb2
    go_wp2_with (first | (refine wpList_store_row rfl 26 _ _ rfl w1.heap.size (outCells s 4).toArray rfl rfl 26 zeroDir.toArray (_root_.Go.heap_alloc_new _ _) hi9 hsz (out_one s 4) ?_) | (refine wpList_load_row rfl 26 _ rfl w1.heap.size rfl 26 (outCells s 4).toArray (0, 0) _ B.out Try.underlying26 rfl hi9 ?_))
    go_loopw [17] (fun i wr => Kept19 s w w1.heap.size i wr) (fun i _ => 4 - (intOf i).toNat)
    case atStart => exact ⟨0, by omega, rfl, HB2.out, B.out, rfl⟩
    case round =>
      clear B HB2 HZ
      obtain ⟨k, hk, rfl, hbe, b, hf0⟩ := hrel
      have B := Lib.hid b
      have HF := Lib.hid hf0
      have hz3 := lt_of_block b
      have hz4 := hbe.size
      clear hf0 b
      by_cases hlt : k < 4
      · have T := outCells_told s 4 k (by omega) hlt
        have hix := index_out s k hlt
        obtain ⟨nk, hnk⟩ : ∃ nk, nk = entN s k := ⟨_, rfl⟩
        rw [← hnk] at hix
        have x0 : wr.cell? ⟨w1.heap.size, k * 2, none⟩ = some (.int .i64 nk) := by rw [Joins.cell_of_block B.out, hnk]; exact T.1
        have HNK := Lib.hid hnk
        clear hnk T
        by_cases heq : nk = 0
        · have hres : ∀ W, Below w.heap.size w W → (Ending.returned (.tuple #[.int .i64 (k : Int), .int .i64 0]) = Ending.returned (.tuple #[.int .i64 (freeI s), .int .i64 (freeE s)]) ∧ Below w.heap.size w W) := fun W hW => by
            have HK : freeAt s 0 = k := by rw [HF.out, freeAt_here hlt (HNK.out.symm.trans heq)]
            exact ⟨by simp [freeI, freeE, hok, HK, hlt], hW⟩
          have he : (nk == 0) = true := by simp [heq]
          clear HF HNK HD
          go_wp2_with fail
          go_ret2
          exact hres _ (by (repeat' (first | exact Below.refl _ _ | assumption | refine Below.setCell ?_ ?_ _ | refine Below.drew ?_ | refine below_drewN ?_ _ | refine Below.alloc ?_ ?_ _ | refine below_of_grown ?_ (by assumption) ?_ | refine Below.trans ?_ (Below.mono (by assumption) ?_) | omega | (simp; done) | (simp; omega))))
        · have he : (nk == 0) = false := by simp [heq]
          have hnext : ∀ W, Below w.heap.size w W → W.heap[w1.heap.size]? = some (.cells (outCells s 4).toArray 26 (0, 0)) → Kept19 s w w1.heap.size (.int .i64 ((k : Int) + 1)) W := fun W hW hb =>
            ⟨k + 1, by omega, by simp, hW, hb, by rw [HF.out]; exact freeAt_step hlt (fun h => heq (HNK.out.trans h))⟩
          clear HF HNK HD
          go_wp2_with fail
          exact ⟨hnext _ (by (repeat' (first | exact Below.refl _ _ | assumption | refine Below.setCell ?_ ?_ _ | refine Below.drew ?_ | refine below_drewN ?_ _ | refine Below.alloc ?_ ?_ _ | refine below_of_grown ?_ (by assumption) ?_ | refine Below.trans ?_ (Below.mono (by assumption) ?_) | omega | (simp; done) | (simp; omega)))) (by first | exact B.out | (rw [_root_.Go.heap_alloc_old _ _ hz3]; exact B.out)), by simp [intOf]; omega⟩
      · have h4 : k = 4 := by omega
        subst h4
        have hres : Ending.returned (.tuple #[.int .i64 0, .int .i64 50]) = Ending.returned (.tuple #[.int .i64 (freeI s), .int .i64 (freeE s)]) := by
          simp [freeI, freeE, hok, HF.out, freeAt_four]
        clear HF HD
        go_wp2_with fail
        go_ret2
        exact ⟨hres, hbe⟩
  · have hof : dirOk s = false := by simpa using hok
    have ev : dirV s = .agg zeroDir.toArray := by simp [dirV, hof]
    have ee : dirE s = 70 := by simp [dirE, hof]
    rw [ev, ee] at HD
    go_enter Try.func19, Try.ntmps19
    go_wp2_with fail
    refine (HD.out _).mono ?_
    rintro e w1 ⟨rfl, hb1⟩
    have hz1 := hb1.size
    go_wp2_with (refine wpList_store_row rfl 26 _ _ rfl w1.heap.size zeroDir.toArray rfl rfl 26 zeroDir.toArray (_root_.Go.heap_alloc_new _ _) hi8 rfl zero_one ?_)
    go_ret2
    exact ⟨by simp [freeI, freeE, hof], below_setRow (hb1.alloc hz1 _) hz1 _⟩


set_option maxHeartbeats 2000000 in
set_option maxRecDepth 100000 in
theorem rfree_any (s : ByteArray) (w : World) :
    Calls Try.prog 20 #[.string s] w fun e w' => e = .returned (.tuple #[.int .i64 (freeI s), .int .i64 (freeE s)]) ∧ Below w.heap.size w w' := by
  have HD := Lib.hid (fun W => rdecode_any s W)
  have hi8 : (Try.prog.info? 26).map (·.size) = some 8 := by kernel_rfl
  have hl4 : (outCells s 4).length = 8 := outCells_size s 4
  by_cases hok : dirOk s = true
  · have ev : dirV s = .agg (outCells s 4).toArray := by simp [dirV, hok]
    have ee : dirE s = 0 := by simp [dirE, hok]
    have hsz : zeroDir.toArray.size = (outCells s 4).toArray.size := by rw [List.size_toArray, List.size_toArray, hl4]; rfl
    have hi9 : (Try.prog.info? 26).map (·.size) = some (outCells s 4).toArray.size := by rw [List.size_toArray, hl4]; exact hi8
    rw [ev, ee] at HD
    go_enter Try.func20, Try.ntmps20
    go_wp2_with fail
    refine (HD.out _).mono ?_
    rintro e w1 ⟨rfl, hb1⟩
    have hz1 := hb1.size
    have hB := setRow_heap (w1.alloc (.cells zeroDir.toArray 26)) w1.heap.size zeroDir.toArray (outCells s 4).toArray 26 (0, 0) (_root_.Go.heap_alloc_new _ _)
    have hb2 : Below w.heap.size w ((w1.alloc (.cells zeroDir.toArray 26)).setRow w1.heap.size (outCells s 4).toArray) := below_setRow (hb1.alloc hz1 _) hz1 _
    have B := Lib.hid hB
    have HB2 := Lib.hid hb2
    have HZ := lt_of_block hB
    clear hB hb2
    go_wp2_with (first | (refine wpList_store_row rfl 26 _ _ rfl w1.heap.size (outCells s 4).toArray rfl rfl 26 zeroDir.toArray (_root_.Go.heap_alloc_new _ _) hi9 hsz (out_one s 4) ?_) | (refine wpList_load_row rfl 26 _ rfl w1.heap.size rfl 26 (outCells s 4).toArray (0, 0) _ B.out Try.underlying26 rfl hi9 ?_))
    go_loopw [6] (fun i wr => Kept19 s w w1.heap.size i wr) (fun i _ => 4 - (intOf i).toNat)
    case atStart => exact ⟨0, by omega, rfl, HB2.out, B.out, rfl⟩
    case round =>
      clear B HB2 HZ
      obtain ⟨k, hk, rfl, hbe, b, hf0⟩ := hrel
      have B := Lib.hid b
      have HF := Lib.hid hf0
      have hz3 := lt_of_block b
      have hz4 := hbe.size
      clear hf0 b
      by_cases hlt : k < 4
      · have T := outCells_told s 4 k (by omega) hlt
        have hix := index_out s k hlt
        obtain ⟨nk, hnk⟩ : ∃ nk, nk = entN s k := ⟨_, rfl⟩
        rw [← hnk] at hix
        have x0 : wr.cell? ⟨w1.heap.size, k * 2, none⟩ = some (.int .i64 nk) := by rw [Joins.cell_of_block B.out, hnk]; exact T.1
        have HNK := Lib.hid hnk
        clear hnk T
        by_cases heq : nk = 0
        · have hres : ∀ W, Below w.heap.size w W → (Ending.returned (.tuple #[.int .i64 (k : Int), .int .i64 0]) = Ending.returned (.tuple #[.int .i64 (freeI s), .int .i64 (freeE s)]) ∧ Below w.heap.size w W) := fun W hW => by
            have HK : freeAt s 0 = k := by rw [HF.out, freeAt_here hlt (HNK.out.symm.trans heq)]
            exact ⟨by simp [freeI, freeE, hok, HK, hlt], hW⟩
          have he : (nk == 0) = true := by simp [heq]
          clear HF HNK HD
          go_wp2_with fail
          go_ret2
          exact hres _ (by (repeat' (first | exact Below.refl _ _ | assumption | refine Below.setCell ?_ ?_ _ | refine Below.drew ?_ | refine below_drewN ?_ _ | refine Below.alloc ?_ ?_ _ | refine below_of_grown ?_ (by assumption) ?_ | refine Below.trans ?_ (Below.mono (by assumption) ?_) | omega | (simp; done) | (simp; omega))))
        · have he : (nk == 0) = false := by simp [heq]
          have hnext : ∀ W, Below w.heap.size w W → W.heap[w1.heap.size]? = some (.cells (outCells s 4).toArray 26 (0, 0)) → Kept19 s w w1.heap.size (.int .i64 ((k : Int) + 1)) W := fun W hW hb =>
            ⟨k + 1, by omega, by simp, hW, hb, by rw [HF.out]; exact freeAt_step hlt (fun h => heq (HNK.out.trans h))⟩
          clear HF HNK HD
          go_wp2_with fail
          exact ⟨hnext _ (by (repeat' (first | exact Below.refl _ _ | assumption | refine Below.setCell ?_ ?_ _ | refine Below.drew ?_ | refine below_drewN ?_ _ | refine Below.alloc ?_ ?_ _ | refine below_of_grown ?_ (by assumption) ?_ | refine Below.trans ?_ (Below.mono (by assumption) ?_) | omega | (simp; done) | (simp; omega)))) (by first | exact B.out | (rw [_root_.Go.heap_alloc_old _ _ hz3]; exact B.out)), by simp [intOf]; omega⟩
      · have h4 : k = 4 := by omega
        subst h4
        have hres : Ending.returned (.tuple #[.int .i64 0, .int .i64 50]) = Ending.returned (.tuple #[.int .i64 (freeI s), .int .i64 (freeE s)]) := by
          simp [freeI, freeE, hok, HF.out, freeAt_four]
        clear HF HD
        go_wp2_with fail
        go_ret2
        exact ⟨hres, hbe⟩
  · have hof : dirOk s = false := by simpa using hok
    have ev : dirV s = .agg zeroDir.toArray := by simp [dirV, hof]
    have ee : dirE s = 70 := by simp [dirE, hof]
    rw [ev, ee] at HD
    go_enter Try.func20, Try.ntmps20
    go_wp2_with fail
    refine (HD.out _).mono ?_
    rintro e w1 ⟨rfl, hb1⟩
    have hz1 := hb1.size
    go_wp2_with (refine wpList_store_row rfl 26 _ _ rfl w1.heap.size zeroDir.toArray rfl rfl 26 zeroDir.toArray (_root_.Go.heap_alloc_new _ _) hi8 rfl zero_one ?_)
    go_ret2
    exact ⟨by simp [freeI, freeE, hof], below_setRow (hb1.alloc hz1 _) hz1 _⟩

end Go.Proofs.Ytdecjmiahjlpjaa
