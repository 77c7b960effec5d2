/-
  Where a name stands: entry.Find, walked.
-/
import Derived.Test.YtdecjmiahjlpjaaEDec2
import Derived.OwnWalk
namespace Go.Proofs.Ytdecjmiahjlpjaa
open Go.RowKit

/-- The first slot, from k on, that has a name; 4: none. -/
def findAt (s nm : ByteArray) (k : Nat) : Nat := if k < 4 then (if entS s k = nm then k else findAt s nm (k + 1)) else 4
termination_by 4 - k
def findI (s nm : ByteArray) : Int := if dirOk s = true ∧ nameB nm = true ∧ findAt s nm 0 < 4 then findAt s nm 0 else 0
def findN (s nm : ByteArray) : Int := if dirOk s = true ∧ nameB nm = true ∧ findAt s nm 0 < 4 then entN s (findAt s nm 0) else 0
def findE (s nm : ByteArray) : Int := if dirOk s = true then (if nameB nm = true then (if findAt s nm 0 < 4 then 0 else 5) else 90) else 70

theorem findAt_step {s nm : ByteArray} {k : Nat} (hk : k < 4) (h : ¬ entS s k = nm) : findAt s nm k = findAt s nm (k + 1) := by
  rw [findAt, if_pos hk, if_neg h]
theorem findAt_here {s nm : ByteArray} {k : Nat} (hk : k < 4) (h : entS s k = nm) : findAt s nm k = k := by
  rw [findAt, if_pos hk, if_pos h]
theorem findAt_four (s nm : ByteArray) : findAt s nm 4 = 4 := by rw [findAt]; rfl

theorem index_out (s : ByteArray) (k : Nat) (hk : k < 4) (W : World) : (Instr.index 26 (.agg (outCells s 4).toArray) (.int .i64 k)).run Try.prog W = .ok (.agg #[.int .i64 (entN s k), .string (entS s k)]) W := by
  have : k = 0 ∨ k = 1 ∨ k = 2 ∨ k = 3 := by omega
  rcases this with rfl | rfl | rfl | rfl <;> rfl

/-- What the loop of Find keeps. -/
def Kept15 (s nm : ByteArray) (w : World) (i : Value) (wr : World) : Prop :=
  ∃ k : Nat, k ≤ 4 ∧ i = .int .i64 k ∧ Below w.heap.size w wr ∧ findAt s nm 0 = findAt s nm k

set_option maxHeartbeats 2000000 in
set_option maxRecDepth 100000 in
theorem efind_any (s nm : ByteArray) (w : World) :
    Calls Try.prog 15 #[.string s, .string nm] w fun e w' => e = .returned (.tuple #[.int .i64 (findI s nm), .int .i64 (findN s nm), .int .i64 (findE s nm)]) ∧ Below w.heap.size w w' := by
  have HD := Lib.hid (fun W => edecode_any s W)
  have HN := Lib.hid (fun W => name_any nm W)
  have hi8 : (Try.prog.info? 26).map (·.size) = some 8 := by kernel_rfl
  have hl4 : (outCells s 4).length = 8 := outCells_size s 4
  by_cases hok : dirOk s = true
  · have ev : dirV s = .agg (outCells s 4).toArray := by simp [dirV, hok]
    have ee : dirE s = 0 := by simp [dirE, hok]
    have hsz : zeroDir.toArray.size = (outCells s 4).toArray.size := by rw [List.size_toArray, List.size_toArray, hl4]; rfl
    have hi9 : (Try.prog.info? 26).map (·.size) = some (outCells s 4).toArray.size := by rw [List.size_toArray, hl4]; exact hi8
    rw [ev, ee] at HD
    go_enter Try.func15, Try.ntmps15
    go_wp2_with fail
    refine (HD.out _).mono ?_
    rintro e w1 ⟨rfl, hb1⟩
    have hz1 := hb1.size
    go_wp2_with (refine wpList_store_row rfl 26 _ _ rfl w1.heap.size (outCells s 4).toArray rfl rfl 26 zeroDir.toArray (_root_.Go.heap_alloc_new _ _) hi9 hsz (out_one s 4) ?_)
    have hB := setRow_heap (w1.alloc (.cells zeroDir.toArray 26)) w1.heap.size zeroDir.toArray (outCells s 4).toArray 26 (0, 0) (_root_.Go.heap_alloc_new _ _)
    have hb2 : Below w.heap.size w ((w1.alloc (.cells zeroDir.toArray 26)).setRow w1.heap.size (outCells s 4).toArray) := below_setRow (hb1.alloc hz1 _) hz1 _
    change Calls Try.prog _ _ ((w1.alloc (.cells zeroDir.toArray 26)).setRow w1.heap.size (outCells s 4).toArray) _
    generalize (w1.alloc (.cells zeroDir.toArray 26)).setRow w1.heap.size (outCells s 4).toArray = w2 at hB hb2 ⊢
    have B := Lib.hid hB
    clear hB
    refine (HN.out _).mono ?_
    rintro e w3 ⟨rfl, rfl⟩
    cases hnb : nameB nm with
    | false =>
      go_wp2_with fail
      go_ret3
      exact ⟨by simp [findI, findN, findE, hok, hnb], hb2⟩
    | true =>
      have hz2 : w1.heap.size < w2.heap.size := lt_of_block B.out
      go_wp2_with (refine wpList_load_row rfl 26 _ rfl w1.heap.size rfl 26 (outCells s 4).toArray (0, 0) _ B.out Try.underlying26 rfl hi9 ?_)
      go_loopw [24] (fun i wr => Kept15 s nm w i wr) (fun i _ => 4 - (intOf i).toNat)
      case atStart => exact ⟨0, by omega, rfl, hb2, rfl⟩
      case round =>
        obtain ⟨k, hk, rfl, hbe, hf0⟩ := hrel
        have HF := Lib.hid hf0
        clear hf0
        have hz3 := hbe.size
        by_cases hlt : k < 4
        · have hix := index_out s k hlt
          obtain ⟨nk, hnk⟩ : ∃ nk, nk = entS s k := ⟨_, rfl⟩
          rw [← hnk] at hix
          have HNK := Lib.hid hnk
          clear hnk
          by_cases heq : nk = nm
          · have he1 := eqs_yes heq
            have HK := Lib.hid (show findAt s nm 0 = k by rw [HF.out, findAt_here hlt (HNK.out.symm.trans heq)])
            go_wp2_with fail
            go_quiet (fail)
            go_wp2_with fail
            go_ret3
            refine ⟨?_, by (repeat' (first | exact Below.refl _ _ | assumption | refine Below.setCell ?_ ?_ _ | refine Below.drew ?_ | refine below_drewN ?_ _ | refine Below.alloc ?_ ?_ _ | refine below_of_grown ?_ (by assumption) ?_ | refine Below.trans ?_ (Below.mono (by assumption) ?_) | omega | (simp; done) | (simp; omega)))⟩
            simp [findI, findN, findE, hok, hnb, HK.out, hlt]
          · have he1 := eqs_no heq
            have hnext : ∀ W, Below w.heap.size w W → Kept15 s nm w (.int .i64 ((k : Int) + 1)) W := fun W hW =>
              ⟨k + 1, by omega, by simp, hW, by rw [HF.out]; exact findAt_step hlt (fun h => heq (HNK.out.trans h))⟩
            clear HF HNK HN HD
            go_wp2_with fail
            exact ⟨hnext _ (by (repeat' (first | exact Below.refl _ _ | assumption | refine Below.setCell ?_ ?_ _ | refine Below.drew ?_ | refine below_drewN ?_ _ | refine Below.alloc ?_ ?_ _ | refine below_of_grown ?_ (by assumption) ?_ | refine Below.trans ?_ (Below.mono (by assumption) ?_) | omega | (simp; done) | (simp; omega)))), by simp [intOf]; omega⟩
        · have h4 : k = 4 := by omega
          subst h4
          go_wp2_with fail
          go_ret3
          exact ⟨by simp [findI, findN, findE, hok, hnb, HF.out, findAt_four], hbe⟩
  · have hof : dirOk s = false := by simpa using hok
    have ev : dirV s = .agg zeroDir.toArray := by simp [dirV, hof]
    have ee : dirE s = 70 := by simp [dirE, hof]
    rw [ev, ee] at HD
    go_enter Try.func15, Try.ntmps15
    go_wp2_with fail
    refine (HD.out _).mono ?_
    rintro e w1 ⟨rfl, hb1⟩
    have hz1 := hb1.size
    go_wp2_with (refine wpList_store_row rfl 26 _ _ rfl w1.heap.size zeroDir.toArray rfl rfl 26 zeroDir.toArray (_root_.Go.heap_alloc_new _ _) hi8 rfl zero_one ?_)
    go_ret3
    exact ⟨by simp [findI, findN, findE, hof], below_setRow (hb1.alloc hz1 _) hz1 _⟩
end Go.Proofs.Ytdecjmiahjlpjaa
