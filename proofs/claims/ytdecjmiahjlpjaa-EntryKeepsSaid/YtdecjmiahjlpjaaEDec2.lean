/-
  ref.Decode, walked: it says what entry.Decode says.
-/
import Derived.Test.YtdecjmiahjlpjaaEDec
import Derived.Test.YtdecjmiahjlpjaaRText
import Derived.StillTailTactics
import Derived.Deep.QuietTactic
import Derived.BigQuiet
namespace Go.Proofs.Ytdecjmiahjlpjaa
open Go.RowKit Go.Maps Go.WideMaps

theorem outCells_told (s : ByteArray) (k j : Nat) (hk : k ≤ 4) (hj : j < k) : (outCells s k).toArray[j * 2]? = some (.int .i64 (entN s j)) ∧ (outCells s k).toArray[j * 2 + 1]? = some (.string (entS s j)) := by
  have hk4 : k = 0 ∨ k = 1 ∨ k = 2 ∨ k = 3 ∨ k = 4 := by omega
  have hj4 : j = 0 ∨ j = 1 ∨ j = 2 ∨ j = 3 := by omega
  rcases hk4 with rfl | rfl | rfl | rfl | rfl <;> rcases hj4 with rfl | rfl | rfl | rfl <;> first | omega | simp [outCells, List.range_succ]
theorem bytes_none {t : ByteArray} (h : t.size = 0) : t = ⟨#[]⟩ := ByteArray.ext (Array.size_eq_zero_iff.1 h)
theorem bytes_list {a b : ByteArray} (h : a.data.toList = b.data.toList) : a = b := ByteArray.ext (Array.toList_inj.1 h)
theorem nameB_none : nameB ⟨#[]⟩ = false := by
  simp [nameB]
theorem slotGood_ok {s : ByteArray} {k : Nat} (h : slotGood s k = true) : entOk (entN s k) (entS s k) = true := by
  simp only [slotGood, Bool.and_eq_true] at h
  exact h.2.1
theorem good_pos {s : ByteArray} {j : Nat} (h : slotGood s j = true) (hne : ¬ entS s j = ⟨#[]⟩) : 0 < entN s j := by
  have h1 := slotGood_ok h
  have h2 := entN_range s j
  by_cases h0 : entN s j = 0
  · rw [h0] at h1
    simp only [entOk, if_true] at h1
    rw [isEmpty_size] at h1
    have h3 := of_decide_eq_true h1
    exact absurd (bytes_none (by omega)) hne
  · omega
theorem good_some {s : ByteArray} {j : Nat} (h : slotGood s j = true) (hp : 0 < entN s j) : ¬ entS s j = ⟨#[]⟩ := by
  intro he
  have h1 := slotGood_ok h
  rw [he] at h1
  have h0 : ¬ entN s j = 0 := by omega
  simp only [entOk, h0, if_false, Bool.and_eq_true, nameB_none] at h1
  simp at h1
/-- The document's question after a name that was there. -/
theorem seenUpto_eq {s : ByteArray} {k : Nat} (hg : ∀ j, j < k → slotFine s j = true) (nm : ByteArray) : seenUpto s k nm.data.toList = true ↔ ∃ j, j < k ∧ entS s j = nm ∧ ¬ nm = ⟨#[]⟩ := by
  unfold seenUpto
  simp only [List.any_eq_true, List.mem_range, Bool.and_eq_true, beq_iff_eq, decide_eq_true_eq]
  have hgood : ∀ j, j < k → slotGood s j = true := fun j hj => by have := hg j hj; simp only [slotFine, Bool.and_eq_true] at this; exact this.1
  have hdata : ∀ j, (entS s j).data.toList = nm.data.toList ↔ entS s j = nm := fun j => ⟨bytes_list, fun h => by rw [h]⟩
  constructor
  · rintro ⟨j, hj, h1, h2⟩
    exact ⟨j, hj, (hdata j).1 h1, fun h => good_some (hgood j hj) h2 (((hdata j).1 h1).trans h)⟩
  · rintro ⟨j, hj, h1, h2⟩
    exact ⟨j, hj, (hdata j).2 h1, good_pos (hgood j hj) (by rw [h1]; exact h2)⟩

theorem num2_slot (s : ByteArray) (k : Nat) (hs : s.size = 64) (hk : k < 4) : num2 (slotT s k) 0 = entN s k := by
  have hb : ∀ i, i < 16 → byteAt (slotT s k) i = byteAt s (k * 16 + i) := by
    intro i hi
    have hz := size_slotT s k hs hk
    rw [← byteAt_eq _ i (by omega), ← byteAt_eq s (k * 16 + i) (by omega)]
    unfold slotT
    rw [ByteArray.getElem_extract]
  unfold entN num2
  rw [hb 0 (by omega), hb (0 + 1) (by omega)]
  rfl

theorem rdecode_results (tmps : Array Value) (W : World) (g : Nat) (cs : Array Value) (fr : Nat × Nat) (c : Int) (h2 : tmps.getD 2 undef = .pointer (some ⟨g, 0, none⟩)) (h3 : tmps.getD 3 undef = .int .i64 c)
    (hg : W.heap[g]? = some (.cells cs 26 fr)) (hs : cs.size = 8) :
    (results Try.f14 tmps).run Try.prog W = .ok (.tuple #[.agg cs, .int .i64 c]) W := by
  rw [results_cell_tmp Try.results14, h2, h3]
  simp only [asAddr, Sem.run_pure, Result.andThen_ok]
  rw [run_loadVar_row W g _ _ cs fr _ hg Try.underlying26 rfl (by rw [hs]; kernel_rfl)]
  rfl

/-- What the loop of ref.Decode keeps. -/
def Kept14 (s : ByteArray) (w : World) (i : Value) (wr : World) : Prop :=
  ∃ k : Nat, k ≤ 4 ∧ i = .int .i64 k ∧ Below w.heap.size w wr ∧ wr.heap[w.heap.size]? = some (.cells zeroDir.toArray 26 (0, 0)) ∧ wr.heap[w.heap.size + 1]? = some (.cells (outCells s k).toArray 26 (0, 0)) ∧
    ∀ j, j < k → slotFine s j = true
/-- And the inner one. -/
def Kept14b (s : ByteArray) (w : World) (k : Nat) (i : Value) (wr : World) : Prop :=
  ∃ j : Nat, j ≤ k ∧ i = .int .i64 j ∧ Below w.heap.size w wr ∧ wr.heap[w.heap.size]? = some (.cells zeroDir.toArray 26 (0, 0)) ∧ wr.heap[w.heap.size + 1]? = some (.cells (outCells s (k + 1)).toArray 26 (0, 0)) ∧
    ∀ i, i < j → ¬ (entS s i = entS s k ∧ ¬ entS s k = ⟨#[]⟩)

set_option maxHeartbeats 2000000 in
set_option maxRecDepth 100000 in
theorem rdecode_walk (s : ByteArray) (w : World) (hs : s.size = 64) :
    Calls Try.prog 14 #[.string s] w fun e w' => e = .returned (.tuple #[dirV s, .int .i64 (dirE s)]) ∧ Below w.heap.size w w' := by
  have hi8 : (Try.prog.info? 26).map (·.size) = some 8 := by kernel_rfl
  go_enter Try.func14, Try.ntmps14
  go_wp2_with fail
  go_loopw [5] (fun i wr => Kept14 s w i wr) (fun i _ => 4 - (intOf i).toNat)
  case atStart =>
    refine ⟨0, by omega, rfl, by (repeat' (first | exact Below.refl _ _ | assumption | refine Below.setCell ?_ ?_ _ | refine Below.drew ?_ | refine below_drewN ?_ _ | refine Below.alloc ?_ ?_ _ | refine below_of_grown ?_ (by assumption) ?_ | refine Below.trans ?_ (Below.mono (by assumption) ?_) | omega | (simp; done) | (simp; omega))), ?_, ?_, fun j hj => by omega⟩
    · exact heap_alloc2_old _ _ _
    · rw [outCells_zero]; exact heap_alloc2_new _ _ _
  case round =>
    obtain ⟨k, hk, rfl, hbe, b0, b1, hfine⟩ := hrel
    have hzr : w.heap.size + 1 < wr.heap.size := lt_of_block b1
    have HF := Lib.hid hfine
    have B0 := Lib.hid b0
    have B1 := Lib.hid b1
    clear hfine b0 b1
    by_cases hlt : k < 4
    · obtain ⟨T, hT⟩ : ∃ T, T = slotT s k := ⟨_, rfl⟩
      have hTs : T.size = 16 := by rw [hT]; exact size_slotT s k hs hlt
      have hsl : ∀ W, (Instr.slice 9 (.string s) (some (.int .i64 ((k : Int) * 16))) (some (.int .i64 ((k : Int) * 16 + 16))) none).run Try.prog W = .ok (.string T) W := fun W => by
        rw [run_slice_string_if W _ _ _ _ _ _ Try.underlying9, if_pos ⟨by omega, by omega⟩, if_pos ⟨by omega, by omega⟩, hT]
        have e1 : ((k : Int) * 16).toNat = k * 16 := by omega
        have e2 : ((k : Int) * 16 + 16).toNat = (k + 1) * 16 := by omega
        rw [e1, e2]; rfl
      have m2 : 2 < T.size := by omega
      have hb2 := byteAt_eq T 2 m2
      obtain ⟨r0, r1⟩ := byteAt_range T 2
      have l2 : (2 : Int) < T.size := by omega
      have l3 : (k : Int) * 16 ≤ 48 := by omega
      have HT := Lib.hid hT
      have HTs := Lib.hid hTs
      have HS64 := Lib.hid hs
      clear hT hTs
      by_cases hc1 : byteAt T 2 ≤ 13
      · obtain ⟨nm, hnm⟩ : ∃ nm, nm = entS s k := ⟨_, rfl⟩
        obtain ⟨N, hN⟩ : ∃ N, N = entN s k := ⟨_, rfl⟩
        have hNr := entN_range s k
        have hL := entL_le (by rw [← HT.out]; exact hc1)
        have hns : nm.size ≤ 13 := by rw [hnm, size_entS s k HS64.out hlt hL]; exact hL
        have eb : (3 : Int) + byteAt T 2 = ((3 + entL s k : Nat) : Int) := by
          unfold entL
          rw [← HT.out]; omega
        have hsl2 : ∀ W, (Instr.slice 9 (.string T) (some (.int .i64 3)) (some (.int .i64 (3 + byteAt T 2))) none).run Try.prog W = .ok (.string nm) W := fun W => by
          have h16 := HTs.out
          rw [run_slice_string_if W _ _ _ _ _ _ Try.underlying9, if_pos ⟨by omega, by omega⟩, if_pos ⟨by omega, by omega⟩, eb, hnm, HT.out]
          rfl
        have eN : num2 T 0 = N := by rw [hN, HT.out]; exact num2_slot s k HS64.out hlt
        have hg2 : ∀ W, Calls Try.prog 32 #[.string T, .int .i64 0, .int .i64 2] W fun e w' => e = .returned (.int .i64 N) ∧ w' = W := fun W =>
          (rnum2_any T 0 W (by omega) (by omega)).mono fun e w' ⟨h1, h2⟩ => ⟨by rw [h1, eN], h2.symm⟩
        rw [← hN] at hNr
        obtain ⟨o0, o1⟩ := outCells_at s k hlt
        have x0 : wr.cell? ⟨w.heap.size + 1, k * 2, none⟩ = some (.int .i64 0) := by rw [Joins.cell_of_block B1.out]; exact o0
        have x1 : wr.cell? ⟨w.heap.size + 1, k * 2 + 1, none⟩ = some (.string ⟨#[]⟩) := by rw [Joins.cell_of_block B1.out]; exact o1
        have u0 : ∀ o, wr.frozen? ⟨w.heap.size + 1, o, none⟩ = false := fun o => Joins.unfrozen_of_block B1.out o
        have hsum : IntKind.i64.wrap (3 + byteAt T 2) = 3 + byteAt T 2 := IntWalk.i64_in _ (by omega)
        have HG2 := Lib.hid hg2
        have HNM := Lib.hid hnm
        have HNN := Lib.hid hN
        clear hg2 hnm hN eb eN hL o0 o1
        go_wp2_with fail
        refine wp_region_still_tail 9 (by kernel_rfl) (by kernel_rfl) ?_
        simp only [List.take_succ_cons, List.take_zero, List.drop_succ_cons, List.drop_zero]
        still_step
        still_step
        still_call (HG2.out _)
        repeat still_step
        refine wpStill_nil ?_
        change wpList _ _ _ _ _ wr.drew
        have y0 : (wr.drew).cell? ⟨w.heap.size + 1, k * 2, none⟩ = some (.int .i64 0) := x0
        have y1 : (wr.drew).cell? ⟨w.heap.size + 1, k * 2 + 1, none⟩ = some (.string ⟨#[]⟩) := x1
        have v0 : ∀ o, (wr.drew).frozen? ⟨w.heap.size + 1, o, none⟩ = false := u0
        have D0 : Hid ((wr.drew).heap[w.heap.size]? = some (.cells zeroDir.toArray 26 (0, 0))) := B0
        have D1 : Hid ((wr.drew).heap[w.heap.size + 1]? = some (.cells (outCells s k).toArray 26 (0, 0))) := B1
        have hz1 : (wr.drew).heap.size = wr.heap.size := rfl
        have hbe1 : Below w.heap.size w wr.drew := hbe.drew
        generalize wr.drew = w1 at y0 y1 v0 D0 D1 hz1 hbe1 ⊢
        clear B0 B1 x0 x1 u0 hbe
        go_wp2_with fail
        have hbe2 : Below w.heap.size w ((w1.setCell ⟨w.heap.size + 1, k * 2, none⟩ (.int .i64 N)).setCell ⟨w.heap.size + 1, k * 2 + 1, none⟩ (.string nm)) := by (repeat' (first | exact Below.refl _ _ | assumption | refine Below.setCell ?_ ?_ _ | refine Below.drew ?_ | refine below_drewN ?_ _ | refine Below.alloc ?_ ?_ _ | refine below_of_grown ?_ (by assumption) ?_ | refine Below.trans ?_ (Below.mono (by assumption) ?_) | omega | (simp; done) | (simp; omega)))
        have E0 : Hid (((w1.setCell ⟨w.heap.size + 1, k * 2, none⟩ (.int .i64 N)).setCell ⟨w.heap.size + 1, k * 2 + 1, none⟩ (.string nm)).heap[w.heap.size]? = some (.cells zeroDir.toArray 26 (0, 0))) := by
          refine Lib.hid ?_
          rw [_root_.Go.heap_setCell_other _ _ _ _ (by simp), _root_.Go.heap_setCell_other _ _ _ _ (by simp)]; exact D0.out
        have E1 : Hid (((w1.setCell ⟨w.heap.size + 1, k * 2, none⟩ (.int .i64 N)).setCell ⟨w.heap.size + 1, k * 2 + 1, none⟩ (.string nm)).heap[w.heap.size + 1]? = some (.cells (outCells s (k + 1)).toArray 26 (0, 0))) := by
          refine Lib.hid ?_
          have := Joins.block_setCell (i := k * 2 + 1) (Joins.block_setCell (i := k * 2) D1.out (.int .i64 N)) (.string nm)
          rw [HNN.out, HNM.out, outCells_step s k hlt] at this
          rw [HNN.out, HNM.out]
          exact this
        generalize (w1.setCell ⟨w.heap.size + 1, k * 2, none⟩ (.int .i64 N)).setCell ⟨w.heap.size + 1, k * 2 + 1, none⟩ (.string nm) = w2 at hbe2 E0 E1 ⊢
        have hz2 : w.heap.size + 1 < w2.heap.size := lt_of_block E1.out
        clear y0 y1 v0 D0 D1
        have HD := Lib.hid (outCells_told s (k + 1) k (by omega) (by omega))
        refine (remay_any _ _ _).mono ?_
        rintro e w3 ⟨rfl, hb3⟩
        have hz3 := hb3.size
        have hE3 : Below w.heap.size w w3 := by (repeat' (first | exact Below.refl _ _ | assumption | refine Below.setCell ?_ ?_ _ | refine Below.drew ?_ | refine below_drewN ?_ _ | refine Below.alloc ?_ ?_ _ | refine below_of_grown ?_ (by assumption) ?_ | refine Below.trans ?_ (Below.mono (by assumption) ?_) | omega | (simp; done) | (simp; omega)))
        have D0 := Lib.hid (keep_block hb3 (by omega) E0.out)
        have D1 := Lib.hid (keep_block hb3 (by omega) E1.out)
        have x0 : w3.cell? ⟨w.heap.size + 1, k * 2, none⟩ = some (.int .i64 N) := by rw [Joins.cell_of_block D1.out, HNN.out]; exact HD.out.1
        have x1 : w3.cell? ⟨w.heap.size + 1, k * 2 + 1, none⟩ = some (.string nm) := by rw [Joins.cell_of_block D1.out, HNM.out]; exact HD.out.2
        clear E0 E1
        cases hem : entOk N nm with
        | false =>
          have hbad : dirOk s = false := dirOk_not hlt (by simp [slotFine, slotGood, ← HNM.out, ← HNN.out, hem])
          go_wp2_with (refine wpList_store_row rfl 26 _ _ rfl w.heap.size zeroDir.toArray rfl rfl 26 zeroDir.toArray D0.out hi8 rfl zero_one ?_)
          rw [setRow_self _ _ _ _ _ D0.out]
          refine bodyPost_ret (v := .tuple #[.agg zeroDir.toArray, .int .i64 70]) (rdecode_results _ _ w.heap.size _ _ _ rfl rfl D0.out rfl) rfl ⟨?_, hE3⟩
          simp [dirV, dirE, hbad]
        | true =>
          have htext := Lib.hid (fun W => rtext_any N nm W hns)
          go_wp2_with fail
          refine (htext.out _).mono ?_
          rintro e w4 ⟨rfl, hb4⟩
          have hz4 := hb4.size
          have hE4 : Below w.heap.size w w4 := by (repeat' (first | exact Below.refl _ _ | assumption | refine Below.setCell ?_ ?_ _ | refine Below.drew ?_ | refine below_drewN ?_ _ | refine Below.alloc ?_ ?_ _ | refine below_of_grown ?_ (by assumption) ?_ | refine Below.trans ?_ (Below.mono (by assumption) ?_) | omega | (simp; done) | (simp; omega)))
          have F0 := Lib.hid (keep_block hb4 (by omega) D0.out)
          have F1 := Lib.hid (keep_block hb4 (by omega) D1.out)
          clear D0 D1 x0 x1
          by_cases hsT : slotS N nm = T
          · have hes := eqs_yes hsT
            go_wp2_with fail
            go_loopw [8] (fun i wr => Kept14b s w k i wr) (fun i _ => k - (intOf i).toNat)
            case atStart => exact ⟨0, by omega, rfl, hE4, F0.out, F1.out, fun i hi => by omega⟩
            case round =>
              clear F0 F1 hE4
              obtain ⟨j, hj, rfl, hE, f0, f1, hno⟩ := hrel
              have F0 := Lib.hid f0
              have F1 := Lib.hid f1
              have hz5 := lt_of_block f1
              clear f0 f1
              have HNO := Lib.hid hno
              clear hno
              have TK := outCells_told s (k + 1) k (by omega) (by omega)
              have yk : wr.cell? ⟨w.heap.size + 1, k * 2 + 1, none⟩ = some (.string nm) := by rw [Joins.cell_of_block F1.out, HNM.out]; exact TK.2
              clear TK
              by_cases hjk : j < k
              · have TJ := outCells_told s (k + 1) j (by omega) (by omega)
                obtain ⟨nj, hnj⟩ : ∃ nj, nj = entS s j := ⟨_, rfl⟩
                have yj : wr.cell? ⟨w.heap.size + 1, j * 2 + 1, none⟩ = some (.string nj) := by rw [Joins.cell_of_block F1.out, hnj]; exact TJ.2
                have HNJ := Lib.hid hnj
                clear TJ hnj
                have hj4 : j < 4 := by omega
                have next : ∀ m, ¬ (nj = nm ∧ ¬ nm = ⟨#[]⟩) → Kept14b s w k (.int .i64 ((j : Int) + 1)) (wr.drewN m) ∧ k - (intOf (.int .i64 ((j : Int) + 1))).toNat < k - (intOf (.int .i64 j)).toNat := by
                  intro m hn
                  refine ⟨⟨j + 1, by omega, by simp, by (repeat' (first | exact Below.refl _ _ | assumption | refine Below.setCell ?_ ?_ _ | refine Below.drew ?_ | refine below_drewN ?_ _ | refine Below.alloc ?_ ?_ _ | refine below_of_grown ?_ (by assumption) ?_ | refine Below.trans ?_ (Below.mono (by assumption) ?_) | omega | (simp; done) | (simp; omega))), F0.out, F1.out, ?_⟩, by simp [intOf]; omega⟩
                  intro i hi
                  by_cases hij : i < j
                  · exact HNO.out i hij
                  · have : i = j := by omega
                    subst this
                    rw [← HNJ.out, ← HNM.out]
                    exact hn
                have NEXT := Lib.hid next
                clear next
                by_cases heq : nj = nm
                · have he1 := eqs_yes heq
                  by_cases hem0 : nm = ⟨#[]⟩
                  · have he2 : nm.toList.isEmpty = true := by rw [isEmpty_size, hem0]; rfl
                    go_wp2_with fail
                    go_quiet (fail)
                    go_wp2_with fail
                    exact NEXT.out _ (fun h => h.2 hem0)
                  · have he2 : nm.toList.isEmpty = false := by rw [isEmpty_size]; exact decide_eq_false (fun h => hem0 (bytes_none (by omega)))
                    have hbad : dirOk s = false := dirOk_not hlt (by
                      have := (seenUpto_eq HF.out nm).2 ⟨j, hjk, HNJ.out.symm.trans heq, hem0⟩
                      simp [slotFine, ← HNM.out, this])
                    go_wp2_with fail
                    go_quiet (fail)
                    have G0 : Hid ((wr.drewN nq).heap[w.heap.size]? = some (.cells zeroDir.toArray 26 (0, 0))) := F0
                    have hE5 : Below w.heap.size w (wr.drewN nq) := by (repeat' (first | exact Below.refl _ _ | assumption | refine Below.setCell ?_ ?_ _ | refine Below.drew ?_ | refine below_drewN ?_ _ | refine Below.alloc ?_ ?_ _ | refine below_of_grown ?_ (by assumption) ?_ | refine Below.trans ?_ (Below.mono (by assumption) ?_) | omega | (simp; done) | (simp; omega)))
                    clear NEXT HNO HF
                    generalize wr.drewN nq = w5 at G0 hE5 ⊢
                    go_wp2_with (refine wpList_store_row rfl 26 _ _ rfl w.heap.size zeroDir.toArray rfl rfl 26 zeroDir.toArray G0.out hi8 rfl zero_one ?_)
                    rw [setRow_self _ _ _ _ _ G0.out]
                    refine bodyPost_ret (v := .tuple #[.agg zeroDir.toArray, .int .i64 70]) (rdecode_results _ _ w.heap.size _ _ _ rfl rfl G0.out rfl) rfl ⟨?_, hE5⟩
                    simp [dirV, dirE, hbad]
                · have he1 := eqs_no heq
                  go_wp2_with fail
                  go_quiet (fail)
                  go_wp2_with fail
                  exact NEXT.out _ (fun h => heq h.1)
              · have hjk' : j = k := by omega
                subst hjk'
                go_wp2_with fail
                refine ⟨⟨j + 1, by omega, by simp, hE, F0.out, F1.out, ?_⟩, by simp [intOf]; omega⟩
                intro i hi
                by_cases hij : i < j
                · exact HF.out i hij
                · have : i = j := by omega
                  subst this
                  have hsn : seenUpto s i nm.data.toList = false := by
                    rw [Bool.eq_false_iff]
                    intro h
                    obtain ⟨q, hq, h1, h2⟩ := (seenUpto_eq HF.out nm).1 h
                    exact HNO.out q hq ⟨h1.trans HNM.out, by rw [← HNM.out]; exact h2⟩
                  simp [slotFine, slotGood, ← HNM.out, ← HNN.out, ← HT.out, hsT, hem, hsn, hc1]
          · have hes := eqs_no hsT
            have hbad : dirOk s = false := dirOk_not hlt (by simp [slotFine, slotGood, ← HNM.out, ← HNN.out, ← HT.out, hsT])
            go_wp2_with (refine wpList_store_row rfl 26 _ _ rfl w.heap.size zeroDir.toArray rfl rfl 26 zeroDir.toArray F0.out hi8 rfl zero_one ?_)
            rw [setRow_self _ _ _ _ _ F0.out]
            refine bodyPost_ret (v := .tuple #[.agg zeroDir.toArray, .int .i64 70]) (rdecode_results _ _ w.heap.size _ _ _ rfl rfl F0.out rfl) rfl ⟨?_, hE4⟩
            simp [dirV, dirE, hbad]
      · have hbad : dirOk s = false := dirOk_not hlt (by simp [slotFine, slotGood, ← HT.out, hc1])
        have hc1' : 13 < byteAt T 2 := by omega
        go_wp2_with (refine wpList_store_row rfl 26 _ _ rfl w.heap.size zeroDir.toArray rfl rfl 26 zeroDir.toArray B0.out hi8 rfl zero_one ?_)
        rw [setRow_self _ _ _ _ _ B0.out]
        refine bodyPost_ret (v := .tuple #[.agg zeroDir.toArray, .int .i64 70]) (rdecode_results _ _ w.heap.size _ _ _ rfl rfl B0.out rfl) rfl ⟨?_, by (repeat' (first | exact Below.refl _ _ | assumption | refine Below.setCell ?_ ?_ _ | refine Below.drew ?_ | refine below_drewN ?_ _ | refine Below.alloc ?_ ?_ _ | refine below_of_grown ?_ (by assumption) ?_ | refine Below.trans ?_ (Below.mono (by assumption) ?_) | omega | (simp; done) | (simp; omega)))⟩
        simp [dirV, dirE, hbad]
    · have h4 : k = 4 := by omega
      subst h4
      have hok := dirOk_of hs HF.out
      have hl4 : (outCells s 4).length = 8 := outCells_size s 4
      have hsz : zeroDir.toArray.size = (outCells s 4).toArray.size := by rw [List.size_toArray, List.size_toArray, hl4]; rfl
      have hi9 : (Try.prog.info? 26).map (·.size) = some (outCells s 4).toArray.size := by rw [List.size_toArray, hl4]; exact hi8
      go_wp2_with (first | (refine wpList_store_row rfl 26 _ _ rfl w.heap.size (outCells s 4).toArray rfl rfl 26 zeroDir.toArray B0.out hi9 hsz (out_one s 4) ?_) | (refine wpList_load_row rfl 26 _ rfl (w.heap.size + 1) rfl 26 (outCells s 4).toArray (0, 0) _ B1.out Try.underlying26 rfl hi9 ?_))
      refine bodyPost_ret (v := .tuple #[.agg (outCells s 4).toArray, .int .i64 0]) (rdecode_results _ _ w.heap.size _ _ _ rfl rfl (setRow_heap _ _ _ _ _ _ B0.out) (by rw [List.size_toArray, hl4])) rfl ⟨?_, below_setRow hbe (Nat.le_refl _) _⟩
      simp [dirV, dirE, hok]

theorem block0'' (w : World) (o1 o2 : Obj) : ((w.alloc o1).alloc o2).heap[w.heap.size]? = some o1 := heap_alloc2_old _ _ _
theorem rdecode_any (s : ByteArray) (w : World) :
    Calls Try.prog 14 #[.string s] w fun e w' => e = .returned (.tuple #[dirV s, .int .i64 (dirE s)]) ∧ Below w.heap.size w w' := by
  by_cases hs : s.size = 64
  · exact rdecode_walk s w hs
  · have hbad : dirOk s = false := by simp [dirOk, hs]
    have hs' : ¬ (s.size : Int) = 64 := by omega
    go_enter Try.func14, Try.ntmps14
    go_wp2_with fail
    refine bodyPost_ret (v := .tuple #[.agg zeroDir.toArray, .int .i64 70]) (rdecode_results _ _ w.heap.size zeroDir.toArray (0, 0) _ rfl rfl (block0'' _ _ _) rfl) rfl ⟨by simp [dirV, dirE, hbad], by (repeat' (first | exact Below.refl _ _ | assumption | refine Below.setCell ?_ ?_ _ | refine Below.drew ?_ | refine below_drewN ?_ _ | refine Below.alloc ?_ ?_ _ | refine below_of_grown ?_ (by assumption) ?_ | refine Below.trans ?_ (Below.mono (by assumption) ?_) | omega | (simp; done) | (simp; omega)))⟩
end Go.Proofs.Ytdecjmiahjlpjaa
