/-
  The names that are there: entry.Names and ref.Names, walked. (gen/enames.py)
-/
import Derived.Test.YtdecjmiahjlpjaaEnts
import Derived.Test.YtdecjmiahjlpjaaEEq
namespace Go.Proofs.Ytdecjmiahjlpjaa
open Go.RowKit

theorem outCells_cells4 (s : ByteArray) : (outCells s 4).toArray = cells4 (entN s 0) (entN s 1) (entN s 2) (entN s 3) (entS s 0) (entS s 1) (entS s 2) (entS s 3) := by
  rw [outCells_four]; rfl
theorem zeroDir_cells4 : zeroDir.toArray = cells4 0 0 0 0 ⟨#[]⟩ ⟨#[]⟩ ⟨#[]⟩ ⟨#[]⟩ := rfl
/-- Is there no entry at all? -/
def emptyB (s : ByteArray) : Bool := eqE (entN s 0) 0 (entS s 0) ⟨#[]⟩ && (eqE (entN s 1) 0 (entS s 1) ⟨#[]⟩ && (eqE (entN s 2) 0 (entS s 2) ⟨#[]⟩ && eqE (entN s 3) 0 (entS s 3) ⟨#[]⟩))
theorem emptyB_nms {s : ByteArray} (h : emptyB s = true) : nmsUpto s 4 = [] := by
  simp only [emptyB, eqE, Bool.and_eq_true, beq_iff_eq] at h
  obtain ⟨⟨h0, _⟩, ⟨h1, _⟩, ⟨h2, _⟩, ⟨h3, _⟩⟩ := h
  simp [nmsUpto, h0, h1, h2, h3]
theorem empty_eq (s : ByteArray) (W : World) : (Op.equalIn 10000 26 (.agg (outCells s 4).toArray) (.agg #[.int .i64 0, .string ⟨#[]⟩, .int .i64 0, .string ⟨#[]⟩, .int .i64 0, .string ⟨#[]⟩, .int .i64 0, .string ⟨#[]⟩])).run Try.prog W = .ok (emptyB s) W := by
  rw [outCells_cells4]
  exact dir_eq W _ _ _ _ _ _ _ _ _ _ _ _ _ _ _ _
theorem info_string : (Try.prog.info? 9).map (fun i => (i.zero, i.size, i.bytes)) = some (some (.string ⟨#[]⟩), 1, 16) := by kernel_rfl

/-- The names' cells; what Names says. -/
def nmsV (l : List ByteArray) : List Value := l.map Value.string
def namesL (s : ByteArray) : List ByteArray := if dirOk s = true then nmsUpto s 4 else []
theorem length_nmsV (l : List ByteArray) : (nmsV l).length = l.length := by simp [nmsV]
theorem length_upto (s : ByteArray) : ∀ k, (nmsUpto s k).length ≤ k
  | 0 => by simp [nmsUpto]
  | k + 1 => by
    have := length_upto s k
    rw [nmsUpto, List.length_append]
    split <;> simp <;> omega
theorem nmsUpto_here {s : ByteArray} {k : Nat} (h : 0 < entN s k) : nmsV (nmsUpto s k) ++ [.string (entS s k)] = nmsV (nmsUpto s (k + 1)) ∧ (nmsUpto s k).length + 1 = (nmsUpto s (k + 1)).length := by
  simp [nmsUpto, h, nmsV]
theorem nmsUpto_not {s : ByteArray} {k : Nat} (h : ¬ 0 < entN s k) : nmsUpto s (k + 1) = nmsUpto s k := by
  simp [nmsUpto, h]
/-- A list of names that the call made. -/
def NamesIs (w : World) (base : Nat) (l : List ByteArray) (e0 : Int) (e : Ending) (w' : World) : Prop := ∃ v, e = .returned (.tuple #[v, .int .i64 e0]) ∧ w'.ownsRow base 9 1 v l.length (nmsV l) ∧ Below w.heap.size w w'
/-- A whole row loaded, behind a guard that holds. -/
theorem wpList_load_row_g {P : Program} {ops : Array Oper} {rest : List Oper} {o : Oper} {a : Act} {w : World} {Q : Exit → Act → World → Prop} (ty : TypeId) (x : Operand) (ho : o.op = .load ty x)
    (g : Nat) (hx : a.eval x = .pointer (some ⟨g, 0, none⟩)) (t : TypeId) (cs : Array Value) (fr : Nat × Nat) (d : TypeDesc) (hg : w.heap[g]? = some (.cells cs t fr))
    (hu : P.underlying ty = some d) (hd : (match d with | .struct _ | .array _ _ => true | _ => false) = true) (hi : (P.info? ty).map (·.size) = some cs.size) (hw : Region.wanted o (yielded ops a.tmps) = true)
    (h : wpList P ops Q rest (a.put o.dst (.agg cs)) w) : wpList P ops Q (o :: rest) a w :=
  wpList_step fun K hK => by
    rw [if_pos hw]
    exact wp_load_row ty x ho g hx t cs fr d hg hu hd hi (hK _ _ h)
/-- What the loops of Names keep. -/
def Kept21 (s : ByteArray) (w : World) (base g : Nat) (v i : Value) (wr : World) : Prop :=
  ∃ k : Nat, k ≤ 4 ∧ i = .int .i64 k ∧ Below w.heap.size w wr ∧ wr.ownsRow base 9 1 v (nmsUpto s k).length (nmsV (nmsUpto s k)) ∧ wr.heap[g]? = some (.cells (outCells s 4).toArray 26 (0, 0))
theorem owns_base {w : World} {b b' n : Nat} {e : TypeId} {v : Value} {xs : List Value} (h : b' ≤ b) (ho : w.ownsRow b e 1 v n xs) : w.ownsRow b' e 1 v n xs := by
  obtain ⟨h1, h2 | ⟨g, cap, cur, hv, hb, hr⟩⟩ := ho
  · exact ⟨h1, .inl h2⟩
  · exact ⟨h1, .inr ⟨g, cap, cur, hv, Nat.le_trans h hb, hr⟩⟩
theorem cell_one_new2 (w : World) (A : Obj) (x : Value) (e : TypeId) : ∀ j v, [x][j]? = some v → ((w.alloc A).alloc (.cells #[x] e)).cell? ((⟨w.heap.size + 1, 0, none⟩ : Addr).add j) = some v := by
  have h := cell_one_new (w.alloc A) x e
  simpa only [World.size_alloc] using h
theorem names_nil (w w' : World) (base : Nat) (e0 : Int) (hb : Below w.heap.size w w') : NamesIs w base [] e0 (.returned (.tuple #[.slice none 0 0, .int .i64 e0])) w' :=
  ⟨_, rfl, ⟨rfl, .inl ⟨rfl, rfl⟩⟩, hb⟩

set_option maxHeartbeats 4000000 in
set_option maxRecDepth 100000 in
theorem enames_any (s : ByteArray) (w : World) :
    Calls Try.prog 21 #[.string s] w (NamesIs w w.heap.size (namesL s) (dirE s)) := by
  have HD := Lib.hid (fun W => edecode_any s W)
  have hi8 : (Try.prog.info? 26).map (·.size) = some 8 := by kernel_rfl
  have hl4 : (outCells s 4).length = 8 := outCells_size s 4
  obtain ⟨i0, hi, hz0, hz1, hz2⟩ := info_parts info_string
  by_cases hok : dirOk s = true
  · have ev : dirV s = .agg (outCells s 4).toArray := by simp [dirV, hok]
    have ee : dirE s = 0 := by simp [dirE, hok]
    have eL : namesL s = nmsUpto s 4 := by simp [namesL, hok]
    have hsz : zeroDir.toArray.size = (outCells s 4).toArray.size := by rw [List.size_toArray, List.size_toArray, hl4]; rfl
    have hi9 : (Try.prog.info? 26).map (·.size) = some (outCells s 4).toArray.size := by rw [List.size_toArray, hl4]; exact hi8
    rw [ev, ee] at HD
    rw [ee, eL]
    clear hok ev ee eL
    go_enter Try.func21, Try.ntmps21
    go_wp2_with fail
    refine (HD.out _).mono ?_
    rintro e w1 ⟨rfl, hb1⟩
    have hz1' := hb1.size
    have hB := setRow_heap (w1.alloc (.cells zeroDir.toArray 26)) w1.heap.size zeroDir.toArray (outCells s 4).toArray 26 (0, 0) (_root_.Go.heap_alloc_new _ _)
    have hb2 : Below w.heap.size w ((w1.alloc (.cells zeroDir.toArray 26)).setRow w1.heap.size (outCells s 4).toArray) := below_setRow (hb1.alloc hz1' _) hz1' _
    have B := Lib.hid hB
    have HB2 := Lib.hid hb2
    clear hB hb2
    have hEQ := empty_eq s
    cases hemp : emptyB s with
    | true =>
      rw [hemp] at hEQ
      go_wp2_with (first | (refine wpList_store_row rfl 26 _ _ rfl w1.heap.size (outCells s 4).toArray rfl rfl 26 zeroDir.toArray (_root_.Go.heap_alloc_new _ _) hi9 hsz (out_one s 4) ?_) | (refine wpList_load_row rfl 26 _ rfl w1.heap.size rfl 26 (outCells s 4).toArray (0, 0) _ B.out Try.underlying26 rfl hi9 ?_) | (refine wpList_load_row_g 26 _ rfl w1.heap.size rfl 26 (outCells s 4).toArray (0, 0) _ B.out Try.underlying26 rfl hi9 (by simp [Region.wanted, yielded]) ?_))
      refine bodyPost_ret (v := .tuple #[.slice none 0 0, .int .i64 0]) (by simp [results, Try.results21, go_sem]) rfl (by rw [emptyB_nms hemp]; exact names_nil _ _ _ _ HB2.out)
    | false =>
    rw [hemp] at hEQ
    go_wp2_with (first | (refine wpList_store_row rfl 26 _ _ rfl w1.heap.size (outCells s 4).toArray rfl rfl 26 zeroDir.toArray (_root_.Go.heap_alloc_new _ _) hi9 hsz (out_one s 4) ?_) | (refine wpList_load_row rfl 26 _ rfl w1.heap.size rfl 26 (outCells s 4).toArray (0, 0) _ B.out Try.underlying26 rfl hi9 ?_) | (refine wpList_load_row_g 26 _ rfl w1.heap.size rfl 26 (outCells s 4).toArray (0, 0) _ B.out Try.underlying26 rfl hi9 (by simp [Region.wanted, yielded]) ?_))
    clear hEQ
    go_loopw [6, 23] (fun v i wr => Kept21 s w (w1.heap.size + 1) w1.heap.size v i wr) (fun _ i _ => 4 - (intOf i).toNat)
    case atStart => exact ⟨0, by omega, rfl, HB2.out, World.ownsRow_nil _ _ _ _, B.out⟩
    case round =>
      clear B HB2
      obtain ⟨k, hk, rfl, hbe, hown, b⟩ := hrel
      have B := Lib.hid b
      have hz3 := lt_of_block b
      have hz4 := hbe.size
      clear b
      by_cases hlt : k < 4
      · have T := outCells_told s 4 k (by omega) hlt
        have hix := index_out s k hlt
        have hup := length_upto s k
        have hr := (entN_range s k).1
        by_cases hp : 0 < entN s k
        · obtain ⟨t1, t2⟩ := nmsUpto_here hp
          have T1 := Lib.hid t1
          have T2 := Lib.hid t2
          clear t1 t2
          obtain ⟨L, hL⟩ : ∃ L, L = nmsV (nmsUpto s k) := ⟨_, rfl⟩
          obtain ⟨m, hm⟩ : ∃ m, m = (nmsUpto s k).length := ⟨_, rfl⟩
          rw [← hL, ← hm] at hown
          rw [← hm] at hup
          have HL := Lib.hid hL
          have HM := Lib.hid hm
          clear hL hm
          obtain ⟨nk, hnk⟩ : ∃ nk, nk = entN s k := ⟨_, rfl⟩
          obtain ⟨sk, hsk⟩ : ∃ sk, sk = entS s k := ⟨_, rfl⟩
          rw [← hnk] at hix hp hr T
          rw [← hsk] at hix T
          rw [← hsk] at T1
          have x0 : wr.cell? ⟨w1.heap.size, k * 2, none⟩ = some (.int .i64 nk) := by rw [Joins.cell_of_block B.out]; exact T.1
          have x1 : wr.cell? ⟨w1.heap.size, k * 2 + 1, none⟩ = some (.string sk) := by rw [Joins.cell_of_block B.out]; exact T.2
          clear hnk hsk T
          have hnz : (nk == 0) = false := by
            have : ¬ nk = 0 := by omega
            simp [this]
          go_wp2_with (at_builtin; refine wpList_append_own _ rfl _ _ 45 rfl (w1.heap.size + 1) 9 i0 (.string ⟨#[]⟩) 1 16 Try.underlying45 hi hz0 hz1 hz2 rfl (by decide) _ _ _ rfl ((hown.alloc _).alloc _) ⟨wr.heap.size + 1, 0, none⟩ 1 1 [.string sk] rfl rfl ?c1 ?c2 ?c3 ?c4 ?c5 ?_)
          case c1 => exact cell_one_new2 _ _ _ _
          case c2 => simp [Value.oneCell']
          case c3 => unfold maxLen; omega
          case c4 => omega
          case c5 => simp; omega
          intro v' w2 hown' hgrow _
          rw [HL.out, T1.out, HM.out, T2.out] at hown'
          have hne : ∀ g, Value.ownBlock u6 = some g → w1.heap.size + 1 ≤ g := fun g hg => (hown.lt g hg).1
          have hb2 : Below w.heap.size w w2 := ((hbe.alloc hz4 _).alloc (by simp; omega) _).grown hgrow (by simp; omega) (fun g hg => by have := hne g hg; omega)
          have b2 : w2.heap[w1.heap.size]? = some (.cells (outCells s 4).toArray 26 (0, 0)) := by
            rw [hgrow.block _ (by simp; omega) (fun h => by have := hne _ h.symm; omega)]
            rw [_root_.Go.heap_alloc_old _ _ (by simp; omega), _root_.Go.heap_alloc_old _ _ hz3]
            exact B.out
          have HN := Lib.hid (show Kept21 s w (w1.heap.size + 1) w1.heap.size v' (.int .i64 ((k : Int) + 1)) w2 from ⟨k + 1, by omega, by simp, hb2, hown', b2⟩)
          clear hown' hgrow hb2 b2 hne hown
          go_wp2_with fail
          exact ⟨HN.out, by simp [intOf]; omega⟩
        · have h0 : entN s k = 0 := by omega
          have hn := nmsUpto_not hp
          have hnext : ∀ W v, Below w.heap.size w W → W.ownsRow (w1.heap.size + 1) 9 1 v (nmsUpto s k).length (nmsV (nmsUpto s k)) → W.heap[w1.heap.size]? = some (.cells (outCells s 4).toArray 26 (0, 0)) → Kept21 s w (w1.heap.size + 1) w1.heap.size v (.int .i64 ((k : Int) + 1)) W := fun W v hW ho hb =>
            ⟨k + 1, by omega, by simp, hW, by rw [hn]; exact ho, hb⟩
          rw [h0] at hix T
          have x0 : wr.cell? ⟨w1.heap.size, k * 2, none⟩ = some (.int .i64 0) := by rw [Joins.cell_of_block B.out]; exact T.1
          have HN := Lib.hid hnext
          have HO := Lib.hid hown
          clear hnext hown hn h0 hp T HD
          go_wp2_with fail
          exact ⟨HN.out _ _ (by (repeat' (first | exact Below.refl _ _ | assumption | refine Below.setCell ?_ ?_ _ | refine Below.drew ?_ | refine below_drewN ?_ _ | refine Below.alloc ?_ ?_ _ | refine below_of_grown ?_ (by assumption) ?_ | refine Below.trans ?_ (Below.mono (by assumption) ?_) | omega | (simp; done) | (simp; omega)))) (HO.out.alloc _) (by rw [_root_.Go.heap_alloc_old _ _ hz3]; exact B.out), by simp [intOf]; omega⟩
      · have h4 : k = 4 := by omega
        subst h4
        have HO := Lib.hid hown
        clear hown HD
        go_wp2_with fail
        refine bodyPost_ret (v := .tuple #[u6, .int .i64 0]) (by simp [results, Try.results21, go_sem]) rfl ⟨_, rfl, owns_base (by omega) HO.out, hbe⟩
  · have hof : dirOk s = false := by simpa using hok
    have ev : dirV s = .agg zeroDir.toArray := by simp [dirV, hof]
    have ee : dirE s = 70 := by simp [dirE, hof]
    have eL : namesL s = [] := by simp [namesL, hof]
    rw [ev, ee] at HD
    rw [ee, eL]
    clear hok ev ee eL
    go_enter Try.func21, Try.ntmps21
    go_wp2_with fail
    refine (HD.out _).mono ?_
    rintro e w1 ⟨rfl, hb1⟩
    have hz1' := hb1.size
    have hb3 := Lib.hid (below_setRow (hb1.alloc hz1' (.cells zeroDir.toArray 26)) hz1' zeroDir.toArray)
    go_wp2_with (refine wpList_store_row rfl 26 _ _ rfl w1.heap.size zeroDir.toArray rfl rfl 26 zeroDir.toArray (_root_.Go.heap_alloc_new _ _) hi8 rfl zero_one ?_)
    refine bodyPost_ret (v := .tuple #[.slice none 0 0, .int .i64 70]) (by simp [results, Try.results21, go_sem]) rfl (names_nil _ _ _ _ hb3.out)

set_option maxHeartbeats 4000000 in
set_option maxRecDepth 100000 in
theorem rnames_any (s : ByteArray) (w : World) :
    Calls Try.prog 22 #[.string s] w (NamesIs w w.heap.size (namesL s) (dirE s)) := by
  have HD := Lib.hid (fun W => rdecode_any s W)
  have hi8 : (Try.prog.info? 26).map (·.size) = some 8 := by kernel_rfl
  have hl4 : (outCells s 4).length = 8 := outCells_size s 4
  obtain ⟨i0, hi, hz0, hz1, hz2⟩ := info_parts info_string
  by_cases hok : dirOk s = true
  · have ev : dirV s = .agg (outCells s 4).toArray := by simp [dirV, hok]
    have ee : dirE s = 0 := by simp [dirE, hok]
    have eL : namesL s = nmsUpto s 4 := by simp [namesL, hok]
    have hsz : zeroDir.toArray.size = (outCells s 4).toArray.size := by rw [List.size_toArray, List.size_toArray, hl4]; rfl
    have hi9 : (Try.prog.info? 26).map (·.size) = some (outCells s 4).toArray.size := by rw [List.size_toArray, hl4]; exact hi8
    rw [ev, ee] at HD
    rw [ee, eL]
    clear hok ev ee eL
    go_enter Try.func22, Try.ntmps22
    go_wp2_with fail
    refine (HD.out _).mono ?_
    rintro e w1 ⟨rfl, hb1⟩
    have hz1' := hb1.size
    have hB := setRow_heap (w1.alloc (.cells zeroDir.toArray 26)) w1.heap.size zeroDir.toArray (outCells s 4).toArray 26 (0, 0) (_root_.Go.heap_alloc_new _ _)
    have hb2 : Below w.heap.size w ((w1.alloc (.cells zeroDir.toArray 26)).setRow w1.heap.size (outCells s 4).toArray) := below_setRow (hb1.alloc hz1' _) hz1' _
    have B := Lib.hid hB
    have HB2 := Lib.hid hb2
    clear hB hb2
    go_wp2_with (first | (refine wpList_store_row rfl 26 _ _ rfl w1.heap.size (outCells s 4).toArray rfl rfl 26 zeroDir.toArray (_root_.Go.heap_alloc_new _ _) hi9 hsz (out_one s 4) ?_))
    go_loopw [6, 7] (fun v i wr => Kept21 s w (w1.heap.size + 1) w1.heap.size v i wr) (fun _ i _ => 4 - (intOf i).toNat)
    case atStart => exact ⟨0, by omega, rfl, HB2.out, World.ownsRow_nil _ _ _ _, B.out⟩
    case round =>
      clear B HB2
      obtain ⟨k, hk, rfl, hbe, hown, b⟩ := hrel
      have B := Lib.hid b
      have hz3 := lt_of_block b
      have hz4 := hbe.size
      clear b
      by_cases hlt : k < 4
      · have T := outCells_told s 4 k (by omega) hlt
        have hix := index_out s k hlt
        have hup := length_upto s k
        have hr := (entN_range s k).1
        by_cases hp : 0 < entN s k
        · obtain ⟨t1, t2⟩ := nmsUpto_here hp
          have T1 := Lib.hid t1
          have T2 := Lib.hid t2
          clear t1 t2
          obtain ⟨L, hL⟩ : ∃ L, L = nmsV (nmsUpto s k) := ⟨_, rfl⟩
          obtain ⟨m, hm⟩ : ∃ m, m = (nmsUpto s k).length := ⟨_, rfl⟩
          rw [← hL, ← hm] at hown
          rw [← hm] at hup
          have HL := Lib.hid hL
          have HM := Lib.hid hm
          clear hL hm
          obtain ⟨nk, hnk⟩ : ∃ nk, nk = entN s k := ⟨_, rfl⟩
          obtain ⟨sk, hsk⟩ : ∃ sk, sk = entS s k := ⟨_, rfl⟩
          rw [← hnk] at hix hp hr T
          rw [← hsk] at hix T
          rw [← hsk] at T1
          have x0 : wr.cell? ⟨w1.heap.size, k * 2, none⟩ = some (.int .i64 nk) := by rw [Joins.cell_of_block B.out]; exact T.1
          have x1 : wr.cell? ⟨w1.heap.size, k * 2 + 1, none⟩ = some (.string sk) := by rw [Joins.cell_of_block B.out]; exact T.2
          clear hnk hsk T
          have hnz : (nk == 0) = false := by
            have : ¬ nk = 0 := by omega
            simp [this]
          go_wp2_with (at_builtin; refine wpList_append_own _ rfl _ _ 45 rfl (w1.heap.size + 1) 9 i0 (.string ⟨#[]⟩) 1 16 Try.underlying45 hi hz0 hz1 hz2 rfl (by decide) _ _ _ rfl (hown.alloc _) ⟨wr.heap.size, 0, none⟩ 1 1 [.string sk] rfl rfl ?c1 ?c2 ?c3 ?c4 ?c5 ?_)
          case c1 => exact cell_one_new _ _ _
          case c2 => simp [Value.oneCell']
          case c3 => unfold maxLen; omega
          case c4 => omega
          case c5 => simp; omega
          intro v' w2 hown' hgrow _
          rw [HL.out, T1.out, HM.out, T2.out] at hown'
          have hne : ∀ g, Value.ownBlock u6 = some g → w1.heap.size + 1 ≤ g := fun g hg => (hown.lt g hg).1
          have hb2 : Below w.heap.size w w2 := (hbe.alloc hz4 _).grown hgrow (by simp; omega) (fun g hg => by have := hne g hg; omega)
          have b2 : w2.heap[w1.heap.size]? = some (.cells (outCells s 4).toArray 26 (0, 0)) := by
            rw [hgrow.block _ (by simp; omega) (fun h => by have := hne _ h.symm; omega)]
            rw [_root_.Go.heap_alloc_old _ _ hz3]
            exact B.out
          have HN := Lib.hid (show Kept21 s w (w1.heap.size + 1) w1.heap.size v' (.int .i64 ((k : Int) + 1)) w2 from ⟨k + 1, by omega, by simp, hb2, hown', b2⟩)
          clear hown' hgrow hb2 b2 hne hown
          go_wp2_with fail
          exact ⟨HN.out, by simp [intOf]; omega⟩
        · have h0 : entN s k = 0 := by omega
          have hn := nmsUpto_not hp
          have hnext : ∀ W v, Below w.heap.size w W → W.ownsRow (w1.heap.size + 1) 9 1 v (nmsUpto s k).length (nmsV (nmsUpto s k)) → W.heap[w1.heap.size]? = some (.cells (outCells s 4).toArray 26 (0, 0)) → Kept21 s w (w1.heap.size + 1) w1.heap.size v (.int .i64 ((k : Int) + 1)) W := fun W v hW ho hb =>
            ⟨k + 1, by omega, by simp, hW, by rw [hn]; exact ho, hb⟩
          rw [h0] at hix T
          have x0 : wr.cell? ⟨w1.heap.size, k * 2, none⟩ = some (.int .i64 0) := by rw [Joins.cell_of_block B.out]; exact T.1
          have HN := Lib.hid hnext
          have HO := Lib.hid hown
          clear hnext hown hn h0 hp T HD
          go_wp2_with fail
          exact ⟨HN.out _ _ hbe HO.out B.out, by simp [intOf]; omega⟩
      · have h4 : k = 4 := by omega
        subst h4
        have HO := Lib.hid hown
        clear hown HD
        go_wp2_with fail
        refine bodyPost_ret (v := .tuple #[u6, .int .i64 0]) (by simp [results, Try.results22, go_sem]) rfl ⟨_, rfl, owns_base (by omega) HO.out, hbe⟩
  · have hof : dirOk s = false := by simpa using hok
    have ev : dirV s = .agg zeroDir.toArray := by simp [dirV, hof]
    have ee : dirE s = 70 := by simp [dirE, hof]
    have eL : namesL s = [] := by simp [namesL, hof]
    rw [ev, ee] at HD
    rw [ee, eL]
    clear hok ev ee eL
    go_enter Try.func22, Try.ntmps22
    go_wp2_with fail
    refine (HD.out _).mono ?_
    rintro e w1 ⟨rfl, hb1⟩
    have hz1' := hb1.size
    have hb3 := Lib.hid (below_setRow (hb1.alloc hz1' (.cells zeroDir.toArray 26)) hz1' zeroDir.toArray)
    go_wp2_with (refine wpList_store_row rfl 26 _ _ rfl w1.heap.size zeroDir.toArray rfl rfl 26 zeroDir.toArray (_root_.Go.heap_alloc_new _ _) hi8 rfl zero_one ?_)
    refine bodyPost_ret (v := .tuple #[.slice none 0 0, .int .i64 70]) (by simp [results, Try.results22, go_sem]) rfl (names_nil _ _ _ _ hb3.out)
end Go.Proofs.Ytdecjmiahjlpjaa
