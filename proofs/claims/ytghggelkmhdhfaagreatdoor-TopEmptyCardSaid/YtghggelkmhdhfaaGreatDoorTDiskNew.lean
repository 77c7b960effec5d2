
/-
  A new disk: disk.New, walked.
-/
import Derived.Test.YtghggelkmhdhfaaGreatDoorTFormat
import Derived.Test.YtghggelkmhdhfaaGreatDoorTSoftNew
import Derived.Deep.RegionLaw
import Derived.Deep.SlicePairs
namespace Go.Proofs.YtghggelkmhdhfaaGreatDoor
open Go.RowKit Go.Maps Go.WideMaps

/-- What New's loop keeps: the disk's block at d, its row. -/
def RowD (w : World) (d base k : Nat) (v : Value) (W : World) : Prop := Below w.heap.size w W ∧ W.cell? ⟨d, 0, none⟩ = some v ∧ W.frozen? ⟨d, 0, none⟩ = false ∧ W.ownsRow base 9 1 v k (List.replicate k (.string blank))
theorem own_below {w w' : World} {base n : Nat} {t : TypeId} {sz : Nat} {v : Value} {cs : List Value} (h : w.ownsRow base t sz v n cs) (hb : Below w.heap.size w w') : w'.ownsRow base t sz v n cs := by
  obtain ⟨h1, h2 | ⟨g, cap, cur, hv, hbb, hg, hr⟩⟩ := h
  · exact ⟨h1, .inl h2⟩
  · exact ⟨h1, .inr ⟨g, cap, cur, hv, hbb, (hb.block g (Array.getElem?_eq_some_iff.1 hg).1).trans hg, hr⟩⟩
theorem own_other {w : World} {base n d i : Nat} {t : TypeId} {sz : Nat} {v u : Value} {cs : List Value} (h : w.ownsRow base t sz v n cs) (hd : d < base) : (w.setCell ⟨d, i, none⟩ u).ownsRow base t sz v n cs := by
  obtain ⟨h1, h2 | ⟨g, cap, cur, hv, hbb, hg, hr⟩⟩ := h
  · exact ⟨h1, .inl h2⟩
  · refine ⟨h1, .inr ⟨g, cap, cur, hv, hbb, ?_, hr⟩⟩
    have h1 := Below.heap_setCell w ⟨d, i, none⟩ u g (fun e => by simp at e; omega)
    exact h1.trans hg
theorem RowD.below {w W w' : World} {d base k : Nat} {v : Value} (h : RowD w d base k v W) (hb : Below W.heap.size W w') : RowD w d base k v w' := by
  have hl := World.block_lt_of_cell? W _ h.2.1
  exact ⟨h.1.trans (hb.mono h.1.size), by rw [hb.cell hl]; exact h.2.1, by rw [hb.frozen hl]; exact h.2.2.1, own_below h.2.2.2 hb⟩
theorem RowD.grown {w W w' : World} {d base k : Nat} {v : Value} (h : RowD w d base k v W) (hwd : w.heap.size ≤ d) (hd : d < base) (hbs : base ≤ W.heap.size) (hgrow : W.grownBy w' v.ownBlock) :
    Below w.heap.size w w' ∧ w'.cell? ⟨d, 0, none⟩ = some v ∧ w'.frozen? ⟨d, 0, none⟩ = false := by
  have hB : Below base W w' := (Below.refl _ _).grown hgrow hbs (fun g hg => (h.2.2.2.lt g hg).1)
  exact ⟨h.1.trans (hB.mono (by omega)), by rw [hB.cell hd]; exact h.2.1, by rw [hB.frozen hd]; exact h.2.2.1⟩
/-- A call of a function, as one step of a region that draws. -/
theorem step_call {P : Program} {q : Bool} {o : Oper} {a : Act} {w : World} {K : Act → World → Prop} {Q : Exit → Act → World → Prop} {E : Prop} {f : FuncId} {args : Array Operand} {ts : Array TypeId} {vals : Array Value} {v : Value} {R : World → Prop} (hq : q = true)
    (hop : o.op = .call { callee := .value (.func f), args := args, argTypes := ts }) (hargs : args.map a.eval = vals) (hrun : (callFunc f vals).run P w = .ok (.enter f vals) w) (HC : Calls P f vals w fun e w' => e = .returned v ∧ R w')
    (hK : ∀ w', R w' → K (a.put o.dst v) w') : if q = true then Oper.wp P o a w K Q else E := by
  rw [if_pos hq]
  unfold Oper.wp
  have hr : (execOp a.eval o).run P w = .ok (.enter f vals) w := by
    simp [execOp, hop, resolve, Deferred.ofValue, invoke, Act.eval, hargs, hrun]
  rw [hr, Oper.upon_enter]
  refine HC.mono ?_
  rintro e w' ⟨rfl, hS⟩
  exact hK w' hS
set_option maxRecDepth 100000 in
theorem callF_blank (w : World) : (callFunc 19 #[]).run Tryz.prog w = .ok (.enter 19 #[]) w := by kernel_rfl
theorem step_blank {q : Bool} {o : Oper} {a : Act} {w : World} {K : Act → World → Prop} {Q : Exit → Act → World → Prop} {E : Prop} (hq : q = true) (hop : o.op = .call { callee := .value (.func 19), args := #[], argTypes := #[] })
    (hK : ∀ w', Below w.heap.size w w' → K (a.put o.dst (.string blank)) w') : if q = true then Oper.wp Tryz.prog o a w K Q else E :=
  step_call (f := 19) (args := #[]) (ts := #[]) (vals := #[]) (v := .string blank) (R := fun w' => Below w.heap.size w w') hq hop (by simp) (callF_blank w) (blank_any w) hK
/-- The append of New's loop, as one step of its region. -/
theorem rowD_append {q : Bool} {o : Oper} {a : Act} {w w4 : World} {K : Act → World → Prop} {Q : Exit → Act → World → Prop} {E : Prop} {d k : Nat} {v : Value} (hq : q = true)
    (ho : o.op = .call { callee := .builtin .append, args := #[.tmp 21, .tmp 23], argTypes := #[25, 25] }) (hs : a.eval (.tmp 21) = v) (hx : a.eval (.tmp 23) = .slice (some ⟨w4.heap.size, 0, none⟩) 1 1)
    (R : RowD w d (d + 1) k v w4) (hwd : w.heap.size ≤ d) (hk : k ≤ 2048)
    (hK : ∀ g c w5, w5.ownsRow (d + 1) 9 1 (.slice (some ⟨g, 0, none⟩) (k + 1) c) (k + 1) (List.replicate (k + 1) (.string blank)) → Below w.heap.size w w5 → w5.cell? ⟨d, 0, none⟩ = some v → w5.frozen? ⟨d, 0, none⟩ = false → K (a.put o.dst (.slice (some ⟨g, 0, none⟩) (k + 1) c)) w5) :
    if q = true then Oper.wp Tryz.prog o a (w4.alloc (.cells #[.string blank] 9)) K Q else E := by
  obtain ⟨i0, hi, hz0, hz1, hz2⟩ := info_parts info_str
  have hl : d < w4.heap.size := World.block_lt_of_cell? w4 _ R.2.1
  have R' := R.below ((Below.refl _ w4).alloc (Nat.le_refl _) (.cells #[.string blank] 9))
  rw [if_pos hq]
  refine wp_append_own _ (.tmp 21) (.tmp 23) 25 ho (d + 1) 9 i0 (.string ⟨#[]⟩) 1 16 Tryz.underlying25 hi hz0 hz1 hz2 rfl (by decide) v k _ hs R'.2.2.2 ⟨w4.heap.size, 0, none⟩ 1 1 [.string blank] hx rfl (cell_one_new _ _ _) (by simp [Value.oneCell']) (by unfold maxLen; omega) (by omega) (by simp; omega) ?_
  intro v5 w5 hown hgrow _
  obtain ⟨z1, z2, z3⟩ := R'.grown hwd (by omega) (by simp; omega) hgrow
  have hown' : w5.ownsRow (d + 1) 9 1 v5 (k + 1) (List.replicate (k + 1) (.string blank)) := by
    rw [List.replicate_succ']
    exact hown
  obtain ⟨g, c, rfl⟩ : ∃ g c, v5 = .slice (some ⟨g, 0, none⟩) (k + 1) c := by
    obtain ⟨_, ⟨_, h0⟩ | ⟨g, cap, cur, hv, _⟩⟩ := hown'
    · omega
    · exact ⟨g, cap, hv⟩
  exact hK g c w5 hown' z1 z2 z3
/-- A row of sectors. -/
def SRow (W : World) (g n : Nat) (f : Nat → ByteArray) : Prop := ∀ i, i < n → W.cell? ⟨g, i, none⟩ = some (.string (f i)) ∧ W.frozen? ⟨g, i, none⟩ = false
theorem SRow.below {W w' : World} {g n : Nat} {f : Nat → ByteArray} (h : SRow W g n f) (hb : Below W.heap.size W w') : SRow w' g n f := fun i hi => by
  have hl := World.block_lt_of_cell? W _ (h i hi).1
  exact ⟨by rw [hb.cell hl]; exact (h i hi).1, by rw [hb.frozen hl]; exact (h i hi).2⟩
theorem SRow.set {W : World} {g n : Nat} {f : Nat → ByteArray} (h : SRow W g n f) (x : Nat) (hx : x < n) (s : ByteArray) : SRow (W.setCell ⟨g, x, none⟩ (.string s)) g n (fun i => if i = x then s else f i) := fun i hi => by
  by_cases hix : i = x
  · subst hix
    refine ⟨?_, by rw [World.frozen?_setCell]; exact (h i hi).2⟩
    rw [World.cell?_setCell_same _ _ _ (h i hi).1]
    simp
  · refine ⟨?_, by rw [World.frozen?_setCell]; exact (h i hi).2⟩
    rw [World.cell?_setCell_other _ _ _ _ (fun e => hix (by cases e; rfl)), (h i hi).1]
    simp [hix]
theorem RowD.srow {w W : World} {d base n g c : Nat} (h : RowD w d base n (.slice (some ⟨g, 0, none⟩) n c) W) : SRow W g n (fun _ => blank) ∧ base ≤ g ∧ g < W.heap.size := by
  obtain ⟨h1, ⟨hv, _⟩ | ⟨g', cap, cur, hv, hb, hg, _⟩⟩ := h.2.2.2
  · cases hv
  · cases hv
    refine ⟨fun i hi => ⟨?_, Blk.free (show Blk W g cur 9 from hg) i⟩, hb, (Array.getElem?_eq_some_iff.1 hg).1⟩
    have hc := World.ownsRow.cells h.2.2.2 (g := g) rfl i (.string blank) (by rw [List.getElem?_replicate, if_pos hi])
    rw [Addr.add_lit, Nat.zero_add] at hc
    exact hc
set_option maxRecDepth 100000 in
theorem callF_fence (w : World) : (callFunc 21 #[.agg #[.int .i64 0, .int .i64 0]]).run Tryz.prog w = .ok (.enter 21 #[.agg #[.int .i64 0, .int .i64 0]]) w := by kernel_rfl
theorem step_fence {q : Bool} {o : Oper} {a : Act} {w : World} {K : Act → World → Prop} {Q : Exit → Act → World → Prop} {E : Prop} {x : Operand} {t : TypeId} (hq : q = true) (hop : o.op = .call { callee := .value (.func 21), args := #[x], argTypes := #[t] })
    (hx : a.eval x = .agg #[.int .i64 0, .int .i64 0]) (hK : ∀ w', Below w.heap.size w w' → K (a.put o.dst (.tuple #[.string (fenceS 0 0), .int .i64 (fenceE 0 0)])) w') : if q = true then Oper.wp Tryz.prog o a w K Q else E :=
  step_call (f := 21) (args := #[x]) (ts := #[t]) (vals := #[.agg #[.int .i64 0, .int .i64 0]]) (v := .tuple #[.string (fenceS 0 0), .int .i64 (fenceE 0 0)]) (R := fun w' => Below w.heap.size w w') hq hop (by simp [hx]) (callF_fence w) (fence_any 0 0 w) hK
/-- What New hands back. -/
def DiskIs (w : World) (n : Nat) (f : Nat → ByteArray) (e : Ending) (w' : World) : Prop := ∃ d g c, e = .returned (.tuple #[.pointer (some ⟨d, 0, none⟩), .int .i64 0]) ∧ w.heap.size ≤ d ∧ d < g ∧ g < w'.heap.size ∧ Below w.heap.size w w' ∧ w'.cell? ⟨d, 0, none⟩ = some (.slice (some ⟨g, 0, none⟩) n c) ∧ SRow w' g n f

def KeptDN (w : World) (d n : Nat) (i : Value) (wr : World) : Prop := ∃ k v, k ≤ n ∧ i = .int .i64 (k : Nat) ∧ RowD w d (d + 1) k v wr

set_option maxHeartbeats 4000000 in
set_option maxRecDepth 100000 in
theorem disknew_any (n : Nat) (hn : 2 ≤ n) (hn2 : n ≤ 2048) (w : World) :
    Calls Tryz.prog 40 #[.int .i64 (n : Int)] w (DiskIs w n fun i => if i = 1 then fenceS 0 0 else blank) := by
  have hmm := @run_makeMap Tryz.prog
  have HBL := Lib.hid (fun W => blank_any W)
  have HF0 := Lib.hid (fun W => fence_any 0 0 W)
  have ln1 : decide ((n : Int) < 2) = false := decide_eq_false (by omega)
  have ln2 : decide ((2048 : Int) < n) = false := decide_eq_false (by omega)
  have ln3 : ¬ n < 2 := by omega
  have ln4 : ¬ 2048 < n := by omega
  obtain ⟨i0, hi, hz0, hz1, hz2⟩ := info_parts info_str
  go_enter Tryz.func40, Tryz.ntmps40
  go_wp2_with fail
  have R0 : RowD w (w.heap.size + 1) (w.heap.size + 1 + 1) 0 (.slice none 0 0) ((w.alloc (.map #[] 0)).alloc (.cells #[.slice none 0 0, .map (some w.heap.size), .int .i64 0] 106)) :=
    ⟨by (repeat' (first | exact Below.refl _ _ | assumption | refine Below.setCell ?_ ?_ _ | refine Below.drew ?_ | refine below_drewN ?_ _ | refine Below.alloc ?_ ?_ _ | refine below_of_grown ?_ (by assumption) ?_ | refine Below.trans ?_ (Below.mono (by assumption) ?_) | omega | (simp; done) | (simp; omega))), by simp [go_sem], by simp [go_sem], World.ownsRow_nil _ _ _ _⟩
  have HR0 := Lib.hid R0
  have hwd : w.heap.size ≤ w.heap.size + 1 := by omega
  clear R0
  go_loopw [15] (fun i wr => KeptDN w (w.heap.size + 1) n i wr) (fun i _ => n - (intOf i).toNat)
  case atStart => exact ⟨0, _, by omega, rfl, HR0.out⟩
  case round =>
    clear HR0
    generalize w.heap.size + 1 = d at *
    obtain ⟨k, v, hk, rfl, hR⟩ := hrel
    by_cases hlt : k < n
    · have lk : (k : Int) < n := by omega
      have lk0 : (0 : Int) ≤ k := by omega
      have hk2 : k ≤ 2048 := by omega
      have x0 := hR.2.1
      have xf := hR.2.2.1
      have HRD := Lib.hid (hR.below (Below.refl _ wr).drew)
      clear hR
      go_wp2_with fail
      go_region_law (first
        | (apply rowD_append rfl rfl rfl rfl R4 hwd hk2; (intro g5 c5 w5 hown5 hB5 z0 zf))
        | (apply step_blank rfl rfl; (intro w4 hb4); (have R4 := RowD.below HRD.out hb4); (have y0 := R4.2.1); (have yf := R4.2.2.1); (have y2 := (RowD.below R4 ((Below.refl _ w4).alloc (Nat.le_refl _) (.cells #[.string blank] 9))).2.1)))
      all_goals
        have RN := Lib.hid (show KeptDN w d n (.int .i64 ((k : Int) + 1)) (w5.setCell ⟨d, 0, none⟩ (.slice (some ⟨g5, 0, none⟩) (k + 1) c5)) from
          ⟨k + 1, _, by omega, by simp, hB5.setCell (by simpa using hwd) _, World.cell?_setCell_same _ _ _ z0, by rw [World.frozen?_setCell]; exact zf, own_other hown5 (by omega)⟩)
        clear hown5 hB5 z0 zf R4 y0 yf y2 hb4 x0 xf HRD
        go_wp2_with fail
        exact ⟨RN.out, by simp [intOf]; omega⟩
    · obtain rfl : k = n := by omega
      obtain ⟨g, c, rfl⟩ : ∃ g c, v = .slice (some ⟨g, 0, none⟩) k c := by
        obtain ⟨_, ⟨_, h0⟩ | ⟨g, cap, cur, hv, _⟩⟩ := hR.2.2.2
        · omega
        · exact ⟨g, cap, hv⟩
      obtain ⟨hs, hgd, hgl⟩ := hR.srow
      have x0 := hR.2.1
      have lk1 : (1 : Int) < k := by omega
      have HRD := Lib.hid (hR.below (Below.refl _ wr).drew)
      have HSR := Lib.hid (hs.below (Below.refl _ wr).drew)
      have s1 := (hs 1 (by omega)).1
      have s2 := (hs 1 (by omega)).2
      clear hR hs
      go_wp2_with fail
      go_region_law (first
        | (apply step_fence rfl rfl rfl; (intro w4 hb4); (have R4 := RowD.below HRD.out hb4); (have y0 := R4.2.1); (have S4 := SRow.below HSR.out hb4); (have y1 := (S4 1 hn).1); (have yf := (S4 1 hn).2)))
      all_goals
        have hgl4 : g < w4.heap.size := World.block_lt_of_cell? w4 _ y1
        have hD := Lib.hid (show w.heap.size ≤ d ∧ d < g ∧ g < (w4.setCell ⟨g, 1, none⟩ (.string (fenceS 0 0))).heap.size ∧ Below w.heap.size w (w4.setCell ⟨g, 1, none⟩ (.string (fenceS 0 0))) ∧ (w4.setCell ⟨g, 1, none⟩ (.string (fenceS 0 0))).cell? ⟨d, 0, none⟩ = some (.slice (some ⟨g, 0, none⟩) k c) ∧
            SRow (w4.setCell ⟨g, 1, none⟩ (.string (fenceS 0 0))) g k (fun i => if i = 1 then fenceS 0 0 else blank) from
          ⟨hwd, by omega, by simpa using hgl4, R4.1.setCell (by simp; omega) _, by rw [World.cell?_setCell_other _ _ _ _ (fun e => by cases e)]; exact y0, S4.set 1 (by omega) _⟩)
        clear R4 y0 y1 yf S4 hb4 x0 s1 s2 HRD HSR
        go_wp2_with fail
        refine bodyPost_ret (v := .tuple #[.pointer (some ⟨d, 0, none⟩), .int .i64 0]) (by simp [results, Tryz.results40, go_sem]) rfl ⟨d, g, c, rfl, hD.out⟩
end Go.Proofs.YtghggelkmhdhfaaGreatDoor
