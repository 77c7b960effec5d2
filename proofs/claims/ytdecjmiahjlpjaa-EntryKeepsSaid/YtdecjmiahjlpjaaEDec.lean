/-
  entry.Decode, walked.
-/
import Derived.Test.YtdecjmiahjlpjaaDir
import Derived.Test.YtdecjmiahjlpjaaSeen
import Derived.Lib.SmallJoins
import Derived.Laws.Rows
import Derived.Laws.CopyRow
import Derived.Laws.CopyOwn
import Derived.Laws.ResultCell
namespace Go.Proofs.Ytdecjmiahjlpjaa
open Go.RowKit Go.Maps Go.WideMaps

/-- The cells of the four entries, the first k told. -/
def outCells (s : ByteArray) (k : Nat) : List Value := (List.range 4).flatMap fun j => if j < k then [.int .i64 (entN s j), .string (entS s j)] else [.int .i64 0, .string ⟨#[]⟩]
def zeroDir : List Value := [.int .i64 0, .string ⟨#[]⟩, .int .i64 0, .string ⟨#[]⟩, .int .i64 0, .string ⟨#[]⟩, .int .i64 0, .string ⟨#[]⟩]
theorem outCells_zero (s : ByteArray) : outCells s 0 = zeroDir := by simp [outCells, zeroDir, List.range_succ]
theorem outCells_step (s : ByteArray) (k : Nat) (hk : k < 4) : ((outCells s k).toArray.setIfInBounds (k * 2) (.int .i64 (entN s k))).setIfInBounds (k * 2 + 1) (.string (entS s k)) = (outCells s (k + 1)).toArray := by
  have : k = 0 ∨ k = 1 ∨ k = 2 ∨ k = 3 := by omega
  rcases this with rfl | rfl | rfl | rfl <;> simp [outCells, List.range_succ]

/-- What the loop of Decode keeps. -/
def Kept7 (s : ByteArray) (w : World) (i : Value) (wr : World) : Prop :=
  ∃ k : Nat, k ≤ 4 ∧ i = .int .i64 k ∧ Below w.heap.size w wr ∧ wr.heap[w.heap.size]? = some (.cells zeroDir.toArray 26 (0, 0)) ∧ wr.heap[w.heap.size + 1]? = some (.cells (outCells s k).toArray 26 (0, 0)) ∧
    wr.heap[w.heap.size + 1 + 1]? = some (.cells zeroDir.toArray 26 (0, 0)) ∧ SeenMap wr (w.heap.size + 1 + 1 + 1) k (seenUpto s k) ∧ ∀ j, j < k → slotFine s j = true

def dirV (s : ByteArray) : Value := .agg (if dirOk s = true then outCells s 4 else zeroDir).toArray
def dirE (s : ByteArray) : Int := if dirOk s = true then 0 else 70

theorem lt_of_block {W : World} {g : Nat} {o : Obj} (h : W.heap[g]? = some o) : g < W.heap.size := (Array.getElem?_eq_some_iff.1 h).1
theorem block0 (w : World) (o1 o2 o3 o4 : Obj) : ((((w.alloc o1).alloc o2).alloc o3).alloc o4).heap[w.heap.size]? = some o1 := by
  rw [_root_.Go.heap_alloc_old _ _ (by simp <;> omega), _root_.Go.heap_alloc_old _ _ (by simp <;> omega), _root_.Go.heap_alloc_old _ _ (by simp <;> omega), _root_.Go.heap_alloc_new]
theorem block0' (w : World) (o1 o2 o3 : Obj) : (((w.alloc o1).alloc o2).alloc o3).heap[w.heap.size]? = some o1 := by
  rw [_root_.Go.heap_alloc_old _ _ (by simp <;> omega), _root_.Go.heap_alloc_old _ _ (by simp <;> omega), _root_.Go.heap_alloc_new]
theorem block1 (w : World) (o1 o2 o3 o4 : Obj) : ((((w.alloc o1).alloc o2).alloc o3).alloc o4).heap[w.heap.size + 1]? = some o2 := by
  have h := _root_.Go.heap_alloc_new (w.alloc o1) o2
  rw [World.size_alloc] at h
  rw [_root_.Go.heap_alloc_old _ _ (by simp <;> omega), _root_.Go.heap_alloc_old _ _ (by simp <;> omega), h]
theorem block2 (w : World) (o1 o2 o3 o4 : Obj) : ((((w.alloc o1).alloc o2).alloc o3).alloc o4).heap[w.heap.size + 1 + 1]? = some o3 := by
  have h := _root_.Go.heap_alloc_new ((w.alloc o1).alloc o2) o3
  rw [World.size_alloc, World.size_alloc] at h
  rw [_root_.Go.heap_alloc_old _ _ (by simp <;> omega), h]
theorem zero_one : zeroDir.toArray.all (·.oneCell') = true := by simp [zeroDir, Value.oneCell']
theorem out_one (s : ByteArray) (k : Nat) : (outCells s k).toArray.all (·.oneCell') = true := by
  simp [outCells, List.range_succ]
  repeat' constructor
  all_goals (split <;> simp [Value.oneCell'])
theorem outCells_at (s : ByteArray) (k : Nat) (hk : k < 4) : (outCells s k).toArray[k * 2]? = some (.int .i64 0) ∧ (outCells s k).toArray[k * 2 + 1]? = some (.string ⟨#[]⟩) := by
  have : k = 0 ∨ k = 1 ∨ k = 2 ∨ k = 3 := by omega
  rcases this with rfl | rfl | rfl | rfl <;> simp [outCells, List.range_succ]
theorem keep_block {B : Nat} {W W' : World} (h : Below B W W') {k : Nat} {o : Option Obj} (hk : k < B) (hw : W.heap[k]? = o) : W'.heap[k]? = o := (h.block k hk).trans hw

/-- 'm[k] = v' of a set of texts, at the operation. -/
theorem wpList_seen {w : World} {ops : Array Oper} {rest : List Oper} {o : Oper} {a : Act} {Q : Exit → Act → World → Prop} (hg : o.guard = none) (m x v : Operand) (hop : o.op = .mapUpdate 59 m x v)
    (b n : Nat) (f : List UInt8 → Bool) (hm : a.eval m = .map (some b)) (hs : SeenMap w b n f) (hn : n < maxLen) (nm : ByteArray) (val : Bool) (hx : a.eval x = .string nm) (hv : a.eval v = .bool val) (hz : nm.size ≤ maxLen)
    (hK : ∀ w', SeenMap w' b (n + 1) (fun l => if l = nm.data.toList then val else f l) → w.grownBy w' (some b) → wpList Try.prog ops Q rest (a.put o.dst undef) w') :
    wpList Try.prog ops Q (o :: rest) a w := by
  obtain ⟨D, h1, h2⟩ := hs
  refine wpList_mapUpdate_own w hg m x v _ hop _ _ key_law Try.underlying59 _ b n D hm h1 hn _ _ _ hx hv (keyOf_string_mk Try.underlying9 hz) _ [] (plainElem_bool Try.underlying4 val) ?_
  intro w' hw hgr
  exact hK w' ⟨_, hw, SeenMap.put h1 h2 _ _⟩ hgr
theorem le_maxLen {n : Nat} (h : n ≤ 13) : n ≤ maxLen := by unfold maxLen; omega
theorem outCells_size (s : ByteArray) (k : Nat) : (outCells s k).length = 8 := by
  simp [outCells, List.range_succ]; repeat' split
  all_goals rfl

theorem decode_results (tmps : Array Value) (W : World) (g : Nat) (cs : Array Value) (fr : Nat × Nat) (c : Int) (h2 : tmps.getD 2 undef = .pointer (some ⟨g, 0, none⟩)) (h3 : tmps.getD 3 undef = .int .i64 c)
    (hg : W.heap[g]? = some (.cells cs 26 fr)) (hs : cs.size = 8) :
    (results Try.f9 tmps).run Try.prog W = .ok (.tuple #[.agg cs, .int .i64 c]) W := by
  rw [results_cell_tmp Try.results9, h2, h3]
  simp only [asAddr, Sem.run_pure, Result.andThen_ok]
  rw [run_loadVar_row W g _ _ cs fr _ hg Try.underlying26 rfl (by rw [hs]; kernel_rfl)]
  rfl

set_option maxHeartbeats 2000000 in
set_option maxRecDepth 100000 in
theorem edecode_walk (s : ByteArray) (w : World) (hs : s.size = 64) :
    Calls Try.prog 9 #[.string s] w fun e w' => e = .returned (.tuple #[dirV s, .int .i64 (dirE s)]) ∧ Below w.heap.size w w' := by
  have hmm := @run_makeMap Try.prog
  have hi8 : (Try.prog.info? 26).map (·.size) = some 8 := by kernel_rfl
  go_enter Try.func9, Try.ntmps9
  go_wp2_with fail
  go_loopw [17] (fun i wr => Kept7 s w i wr) (fun i _ => 4 - (intOf i).toNat)
  case atStart =>
    refine ⟨0, by omega, rfl, by (repeat' (first | exact Below.refl _ _ | assumption | refine Below.setCell ?_ ?_ _ | refine Below.drew ?_ | refine below_drewN ?_ _ | refine Below.alloc ?_ ?_ _ | refine below_of_grown ?_ (by assumption) ?_ | refine Below.trans ?_ (Below.mono (by assumption) ?_) | omega | (simp; done) | (simp; omega))), ?_, ?_, ?_, ?_, fun j hj => by omega⟩
    · exact block0 _ _ _ _ _
    · rw [outCells_zero]; exact block1 _ _ _ _ _
    · exact block2 _ _ _ _ _
    · have := SeenMap.made (((w.alloc (.cells zeroDir.toArray 26)).alloc (.cells zeroDir.toArray 26)).alloc (.cells zeroDir.toArray 26))
      have e : (((w.alloc (.cells zeroDir.toArray 26)).alloc (.cells zeroDir.toArray 26)).alloc (.cells zeroDir.toArray 26)).heap.size = w.heap.size + 1 + 1 + 1 := by simp
      rw [e] at this
      exact this
  case round =>
    obtain ⟨k, hk, rfl, hbe, b0, b1, b2, hsm, hfine⟩ := hrel
    have HF := Lib.hid hfine
    have HS := Lib.hid hsm
    have B0 := Lib.hid b0
    have B1 := Lib.hid b1
    have B2 := Lib.hid b2
    clear hfine hsm b0 b1 b2
    by_cases hlt : k < 4
    · obtain ⟨T, hT⟩ : ∃ T, T = slotT s k := ⟨_, rfl⟩
      have hTs : T.size = 16 := by rw [hT]; exact size_slotT s k hs hlt
      have hsl : ∀ W, (Instr.slice 9 (.string s) (some (.int .i64 ((k : Int) * 16))) (some (.int .i64 (((k : Int) + 1) * 16))) none).run Try.prog W = .ok (.string T) W := fun W => by
        rw [run_slice_string_if W _ _ _ _ _ _ Try.underlying9, if_pos ⟨by omega, by omega⟩, if_pos ⟨by omega, by omega⟩, hT]
        have e1 : ((k : Int) * 16).toNat = k * 16 := by omega
        have e2 : (((k : Int) + 1) * 16).toNat = (k + 1) * 16 := by omega
        rw [e1, e2]; rfl
      have m2 : 2 < T.size := by omega
      have hb2 := byteAt_eq T 2 m2
      obtain ⟨r0, r1⟩ := byteAt_range T 2
      have l2 : (2 : Int) < T.size := by omega
      have l3 : (k : Int) * 16 ≤ 48 := by omega
      have l4 : ((k : Int) + 1) * 16 ≤ 64 := by omega
      have HT := Lib.hid hT
      have HTs := Lib.hid hTs
      have HS64 := Lib.hid hs
      clear hT hTs
      by_cases hc1 : byteAt T 2 ≤ 13
      · obtain ⟨nm, hnm⟩ : ∃ nm, nm = entS s k := ⟨_, rfl⟩
        obtain ⟨N, hN⟩ : ∃ N, N = entN s k := ⟨_, rfl⟩
        have hNr := entN_range s k
        have hL := entL_le (by rw [← HT.out]; exact hc1)
        have hns : nm.size ≤ 13 := by rw [hnm, size_entS s k HS64.out hlt hL]; exact hL
        have eb : (3 : Int) + byteAt T 2 = ((3 + entL s k : Nat) : Int) := by
          unfold entL
          rw [← HT.out]; omega
        have hsl2 : ∀ W, (Instr.slice 9 (.string T) (some (.int .i64 3)) (some (.int .u8 (3 + byteAt T 2))) none).run Try.prog W = .ok (.string nm) W := fun W => by
          have h16 := HTs.out
          rw [run_slice_string_if W _ _ _ _ _ _ Try.underlying9, if_pos ⟨by omega, by omega⟩, if_pos ⟨by omega, by omega⟩, eb, hnm, HT.out]
          rfl
        have hg2 := fun W => get2_any s (k * 16) W HS64.out (by omega)
        have e16 : ((k * 16 : Nat) : Int) = (k : Int) * 16 := by omega
        have eN : num2 s (k * 16) = N := hN.symm
        simp only [e16, eN] at hg2
        rw [← hN] at hNr
        have HG2 := Lib.hid hg2
        have HNM := Lib.hid hnm
        have HNN := Lib.hid hN
        clear hg2 hnm hN eb eN e16 hL
        go_wp2_with (first | (refine wpList_store_row rfl 26 _ _ rfl w.heap.size zeroDir.toArray rfl rfl 26 zeroDir.toArray B0.out hi8 rfl zero_one ?_) | (refine wpList_load_row rfl 26 _ rfl (w.heap.size + 1 + 1) rfl 26 zeroDir.toArray (0, 0) _ B2.out Try.underlying26 rfl hi8 ?_))
        refine (HG2.out _).mono ?_
        rintro e w1 ⟨rfl, rfl⟩
        go_wp2_with fail
        refine (emay_any _ _ _).mono ?_
        rintro e w1 ⟨rfl, hb1⟩
        have hz1 := hb1.size
        simp at hz1
        have hzr : w.heap.size + 1 + 1 + 1 < wr.heap.size := HS.out.lt
        have p0 : w1.cell? ⟨wr.heap.size, 0, none⟩ = some (.int .i64 N) := by rw [hb1.cell (by simp <;> omega)]; simp [go_sem]
        have p1 : w1.cell? ⟨wr.heap.size, 1, none⟩ = some (.string nm) := by rw [hb1.cell (by simp <;> omega)]; simp [go_sem]
        have hB1 : Below wr.heap.size wr w1 := by (repeat' (first | exact Below.refl _ _ | assumption | refine Below.setCell ?_ ?_ _ | refine Below.drew ?_ | refine below_drewN ?_ _ | refine Below.alloc ?_ ?_ _ | refine below_of_grown ?_ (by assumption) ?_ | refine Below.trans ?_ (Below.mono (by assumption) ?_) | omega | (simp; done) | (simp; omega)))
        have hE1 : Below w.heap.size w w1 := by (repeat' (first | exact Below.refl _ _ | assumption | refine Below.setCell ?_ ?_ _ | refine Below.drew ?_ | refine below_drewN ?_ _ | refine Below.alloc ?_ ?_ _ | refine below_of_grown ?_ (by assumption) ?_ | refine Below.trans ?_ (Below.mono (by assumption) ?_) | omega | (simp; done) | (simp; omega)))
        cases hem : entOk N nm with
        | false =>
          have hbad : dirOk s = false := dirOk_not hlt (by simp [slotFine, slotGood, ← HNM.out, ← HNN.out, hem])
          have D0 := Lib.hid (keep_block hB1 (by omega) B0.out)
          have D2 := Lib.hid (keep_block hB1 (by omega) B2.out)
          go_wp2_with (first | (refine wpList_store_row rfl 26 _ _ rfl w.heap.size zeroDir.toArray rfl rfl 26 zeroDir.toArray D0.out hi8 rfl zero_one ?_) | (refine wpList_load_row rfl 26 _ rfl (w.heap.size + 1 + 1) rfl 26 zeroDir.toArray (0, 0) _ D2.out Try.underlying26 rfl hi8 ?_))
          rw [setRow_self _ _ _ _ _ D0.out]
          refine bodyPost_ret (v := .tuple #[.agg zeroDir.toArray, .int .i64 70]) (decode_results _ _ w.heap.size _ _ _ rfl rfl D0.out rfl) rfl ⟨?_, hE1⟩
          simp [dirV, dirE, hbad]
        | true =>
          have hslot := Lib.hid (fun W => slot_any N nm W hNr.1 hNr.2 hns)
          go_wp2_with fail
          refine (hslot.out _).mono ?_
          rintro e w2 ⟨rfl, hb2'⟩
          have hz2 := hb2'.size
          have q0 : w2.cell? ⟨wr.heap.size, 0, none⟩ = some (.int .i64 N) := by rw [hb2'.cell (by simp <;> omega)]; exact p0
          have q1 : w2.cell? ⟨wr.heap.size, 1, none⟩ = some (.string nm) := by rw [hb2'.cell (by simp <;> omega)]; exact p1
          have hB2 : Below wr.heap.size wr w2 := by (repeat' (first | exact Below.refl _ _ | assumption | refine Below.setCell ?_ ?_ _ | refine Below.drew ?_ | refine below_drewN ?_ _ | refine Below.alloc ?_ ?_ _ | refine below_of_grown ?_ (by assumption) ?_ | refine Below.trans ?_ (Below.mono (by assumption) ?_) | omega | (simp; done) | (simp; omega)))
          have hE2 : Below w.heap.size w w2 := by (repeat' (first | exact Below.refl _ _ | assumption | refine Below.setCell ?_ ?_ _ | refine Below.drew ?_ | refine below_drewN ?_ _ | refine Below.alloc ?_ ?_ _ | refine below_of_grown ?_ (by assumption) ?_ | refine Below.trans ?_ (Below.mono (by assumption) ?_) | omega | (simp; done) | (simp; omega)))
          have hsm2 := HS.out.below hB2
          have D0 := Lib.hid (keep_block hB2 (by omega) B0.out)
          have D1 := Lib.hid (keep_block hB2 (by omega) B1.out)
          have D2 := Lib.hid (keep_block hB2 (by omega) B2.out)
          by_cases hsT : slotS N nm = T
          · have hes := eqs_yes hsT
            have hlook := hsm2.look (s := nm) (le_maxLen hns)
            have HSM := Lib.hid hsm2
            clear hsm2
            cases hseen : seenUpto s k nm.data.toList with
            | true =>
              have hbad : dirOk s = false := dirOk_not hlt (by simp [slotFine, ← HNM.out, hseen])
              rw [hseen] at hlook
              go_wp2_with (first | (refine wpList_store_row rfl 26 _ _ rfl w.heap.size zeroDir.toArray rfl rfl 26 zeroDir.toArray D0.out hi8 rfl zero_one ?_) | (refine wpList_load_row rfl 26 _ rfl (w.heap.size + 1 + 1) rfl 26 zeroDir.toArray (0, 0) _ D2.out Try.underlying26 rfl hi8 ?_))
              rw [setRow_self _ _ _ _ _ D0.out]
              refine bodyPost_ret (v := .tuple #[.agg zeroDir.toArray, .int .i64 70]) (decode_results _ _ w.heap.size _ _ _ rfl rfl D0.out rfl) rfl ⟨?_, hE2⟩
              simp [dirV, dirE, hbad]
            | false =>
              rw [hseen] at hlook
              go_wp2_with (first | (at_mapUpdate; refine wpList_seen rfl _ _ _ rfl (w.heap.size + 1 + 1 + 1) k _ rfl HSM.out (Nat.lt_of_le_of_lt hk (by unfold maxLen; omega)) nm (decide (0 < N)) rfl rfl (le_maxLen hns) ?_))
              intro w3 hsm3 hg3
              have hz3 := hg3.size
              have E0 := (hg3.block w.heap.size (by omega) (by simp; omega)).trans D0.out
              have E1 := (hg3.block (w.heap.size + 1) (by omega) (by simp)).trans D1.out
              have E2 := (hg3.block (w.heap.size + 1 + 1) (by omega) (by simp)).trans D2.out
              have q2 : w3.cell? ⟨wr.heap.size, 0, none⟩ = some (.int .i64 N) := by
                rw [← q0]; exact World.cell?_of_block (hg3.block _ (by simp; omega) (by simp; omega))
              have q3 : w3.cell? ⟨wr.heap.size, 1, none⟩ = some (.string nm) := by
                rw [← q1]; exact World.cell?_of_block (hg3.block _ (by simp; omega) (by simp; omega))
              obtain ⟨o0, o1⟩ := outCells_at s k hlt
              have x0 : w3.cell? ⟨w.heap.size + 1, k * 2, none⟩ = some (.int .i64 0) := by rw [Joins.cell_of_block E1]; exact o0
              have x1 : w3.cell? ⟨w.heap.size + 1, k * 2 + 1, none⟩ = some (.string ⟨#[]⟩) := by rw [Joins.cell_of_block E1]; exact o1
              have u0 : ∀ o, w3.frozen? ⟨w.heap.size + 1, o, none⟩ = false := fun o => Joins.unfrozen_of_block E1 o
              have hE3 : Below w.heap.size w w3 := hE2.grown hg3 (by omega) (by intro j hj; cases hj; omega)
              have E0' := Lib.hid E0
              have E1' := Lib.hid E1
              have E2' := Lib.hid E2
              have HSM3 := Lib.hid hsm3
              have hne : w.heap.size + 1 < wr.heap.size := by omega
              clear E0 E1 E2 hsm3 o0 o1
              go_wp2_with fail
              refine ⟨⟨k + 1, by omega, by simp, by (repeat' (first | exact Below.refl _ _ | assumption | refine Below.setCell ?_ ?_ _ | refine Below.drew ?_ | refine below_drewN ?_ _ | refine Below.alloc ?_ ?_ _ | refine below_of_grown ?_ (by assumption) ?_ | refine Below.trans ?_ (Below.mono (by assumption) ?_) | omega | (simp; done) | (simp; omega))), ?_, ?_, ?_, ?_, ?_⟩, by simp [intOf]; omega⟩
              · rw [_root_.Go.heap_setCell_other _ _ _ _ (by simp), _root_.Go.heap_setCell_other _ _ _ _ (by simp)]; exact E0'.out
              · have := Joins.block_setCell (i := k * 2 + 1) (Joins.block_setCell (i := k * 2) E1'.out (.int .i64 N)) (.string nm)
                rw [HNN.out, HNM.out, outCells_step s k hlt] at this
                rw [HNN.out, HNM.out]
                exact this
              · rw [_root_.Go.heap_setCell_other _ _ _ _ (by simp), _root_.Go.heap_setCell_other _ _ _ _ (by simp)]; exact E2'.out
              · have hf : (fun l => if l = nm.data.toList then decide (0 < N) else seenUpto s k l) = seenUpto s (k + 1) := by
                  funext l
                  rw [seenUpto_succ s k (by rw [← HNM.out]; exact hseen) l, ← HNM.out, ← HNN.out]
                have := HSM3.out
                rw [hf] at this
                exact (this.setCell (by simp; omega) _).setCell (by simp; omega) _
              · intro j hj
                by_cases hjk : j < k
                · exact HF.out j hjk
                · have : j = k := by omega
                  subst this
                  simp [slotFine, slotGood, ← HNM.out, ← HNN.out, ← HT.out, hsT, hem, hseen, hc1]
          · have hes := eqs_no hsT
            have hbad : dirOk s = false := dirOk_not hlt (by simp [slotFine, slotGood, ← HNM.out, ← HNN.out, ← HT.out, hsT])
            have hlook := hsm2.look (s := nm) (le_maxLen hns)
            go_wp2_with (first | (refine wpList_store_row rfl 26 _ _ rfl w.heap.size zeroDir.toArray rfl rfl 26 zeroDir.toArray D0.out hi8 rfl zero_one ?_) | (refine wpList_load_row rfl 26 _ rfl (w.heap.size + 1 + 1) rfl 26 zeroDir.toArray (0, 0) _ D2.out Try.underlying26 rfl hi8 ?_))
            rw [setRow_self _ _ _ _ _ D0.out]
            refine bodyPost_ret (v := .tuple #[.agg zeroDir.toArray, .int .i64 70]) (decode_results _ _ w.heap.size _ _ _ rfl rfl D0.out rfl) rfl ⟨?_, hE2⟩
            simp [dirV, dirE, hbad]
      · have hbad : dirOk s = false := dirOk_not hlt (by simp [slotFine, slotGood, ← HT.out, hc1])
        have hc1' : 13 < byteAt T 2 := by omega
        have hz : w.heap.size < wr.heap.size := lt_of_block B0.out
        go_wp2_with (first | (refine wpList_store_row rfl 26 _ _ rfl w.heap.size zeroDir.toArray rfl rfl 26 zeroDir.toArray B0.out hi8 rfl zero_one ?_) | (refine wpList_load_row rfl 26 _ rfl (w.heap.size + 1 + 1) rfl 26 zeroDir.toArray (0, 0) _ B2.out Try.underlying26 rfl hi8 ?_))
        rw [setRow_self _ _ _ _ _ B0.out]
        refine bodyPost_ret (v := .tuple #[.agg zeroDir.toArray, .int .i64 70]) (decode_results _ _ w.heap.size _ _ _ rfl rfl B0.out rfl) rfl ⟨?_, by (repeat' (first | exact Below.refl _ _ | assumption | refine Below.setCell ?_ ?_ _ | refine Below.drew ?_ | refine below_drewN ?_ _ | refine Below.alloc ?_ ?_ _ | refine below_of_grown ?_ (by assumption) ?_ | refine Below.trans ?_ (Below.mono (by assumption) ?_) | omega | (simp; done) | (simp; omega)))⟩
        simp [dirV, dirE, hbad]
    · have h4 : k = 4 := by omega
      subst h4
      have hok := dirOk_of hs HF.out
      have hz : w.heap.size < wr.heap.size := lt_of_block B0.out
      have hl4 : (outCells s 4).length = 8 := outCells_size s 4
      have hsz : zeroDir.toArray.size = (outCells s 4).toArray.size := by rw [List.size_toArray, List.size_toArray, hl4]; rfl
      have hi9 : (Try.prog.info? 26).map (·.size) = some (outCells s 4).toArray.size := by rw [List.size_toArray, hl4]; exact hi8
      go_wp2_with (first | (refine wpList_store_row rfl 26 _ _ rfl w.heap.size (outCells s 4).toArray rfl rfl 26 zeroDir.toArray B0.out hi9 hsz (out_one s 4) ?_) | (refine wpList_load_row rfl 26 _ rfl (w.heap.size + 1) rfl 26 (outCells s 4).toArray (0, 0) _ B1.out Try.underlying26 rfl hi9 ?_))
      refine bodyPost_ret (v := .tuple #[.agg (outCells s 4).toArray, .int .i64 0]) (decode_results _ _ w.heap.size _ _ _ rfl rfl (setRow_heap _ _ _ _ _ _ B0.out) (by rw [List.size_toArray, hl4])) rfl ⟨?_, below_setRow hbe (Nat.le_refl _) _⟩
      simp [dirV, dirE, hok]

theorem edecode_any (s : ByteArray) (w : World) :
    Calls Try.prog 9 #[.string s] w fun e w' => e = .returned (.tuple #[dirV s, .int .i64 (dirE s)]) ∧ Below w.heap.size w w' := by
  by_cases hs : s.size = 64
  · exact edecode_walk s w hs
  · have hbad : dirOk s = false := by simp [dirOk, hs]
    have hs' : ¬ (s.size : Int) = 64 := by omega
    go_enter Try.func9, Try.ntmps9
    go_wp2_with fail
    refine bodyPost_ret (v := .tuple #[.agg zeroDir.toArray, .int .i64 70]) (decode_results _ _ w.heap.size zeroDir.toArray (0, 0) _ rfl rfl (block0' _ _ _ _) rfl) rfl ⟨by simp [dirV, dirE, hbad], by (repeat' (first | exact Below.refl _ _ | assumption | refine Below.setCell ?_ ?_ _ | refine Below.drew ?_ | refine below_drewN ?_ _ | refine Below.alloc ?_ ?_ _ | refine below_of_grown ?_ (by assumption) ?_ | refine Below.trans ?_ (Below.mono (by assumption) ?_) | omega | (simp; done) | (simp; omega)))⟩
end Go.Proofs.Ytdecjmiahjlpjaa
