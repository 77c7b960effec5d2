/-
  The walk of EntryLast: the law returns true, and what was there is as it was.
-/
import Derived.Test.YtdecjmiahjlpjaaEPatch2
import Derived.Test.YtdecjmiahjlpjaaEWorks
import Derived.Test.YtdecjmiahjlpjaaEReads
import Derived.Test.YtdecjmiahjlpjaaEWrites
import Derived.Test.YtdecjmiahjlpjaaAmong
import Derived.Deep.DeepCutAuto
namespace Go.Proofs.Ytdecjmiahjlpjaa
open Go.RowKit

def Last1 (w : World) (n0 n1 : Int) (s0 s1 : ByteArray) (v7 v8 : Value) (W : World) : Prop :=
  ∃ b7 b8 : Nat, v7 = .pointer (some ⟨b7, 0, none⟩) ∧ v8 = .pointer (some ⟨b8, 0, none⟩) ∧ Has W b7 n0 s0 ∧ Has W b8 n1 s1 ∧ Below w.heap.size w W

set_option maxHeartbeats 4000000 in
set_option maxRecDepth 100000 in
theorem last_walk (s : ByteArray) (slot n0 n1 : Int) (s0 s1 : ByteArray) (w : World) :
    Calls Try.prog 3 #[.string s, .int .i64 slot, .agg #[.int .i64 n0, .string s0, .int .i64 n1, .string s1]] w fun e w' => e = .returned (.bool true) ∧ Below w.heap.size w w' := by
  have h1 := fun W => edecode_any s W
  rw [dirV_cells] at h1
  have H1 := Lib.hid h1
  obtain ⟨k, hk, hks⟩ : ∃ k : Nat, k < 4 ∧ slot % ((4 : Nat) : Int) = (k : Int) := ⟨(slot % 4).toNat, by omega, by omega⟩
  obtain ⟨pa, pt, hp⟩ := putV_form k n0 s0
  obtain ⟨qa, qt, hq⟩ := putV_form k n1 s1
  have h3 := fun W => eput_any k n0 s0 W
  have h4 := fun W => eput_any k n1 s1 W
  rw [hp] at h3
  rw [hq] at h4
  obtain ⟨pe, hpe⟩ : ∃ pe, pe = putE k n0 s0 := ⟨_, rfl⟩
  obtain ⟨qe, hqe⟩ : ∃ qe, qe = putE k n1 s1 := ⟨_, rfl⟩
  obtain ⟨de, hde⟩ : ∃ de, de = dirE s := ⟨_, rfl⟩
  rw [← hpe] at h3
  rw [← hqe] at h4
  rw [← hde] at H1
  have H3 := Lib.hid h3
  have H4 := Lib.hid h4
  have HPE := Lib.hid hpe
  have HQE := Lib.hid hqe
  have HDE := Lib.hid hde
  have HPV := Lib.hid hp
  have HQV := Lib.hid hq
  obtain ⟨cs, hcs⟩ : ∃ cs, cs = dirCells s := ⟨_, rfl⟩
  rw [← hcs] at H1
  have hi8 : (Try.prog.info? 26).map (·.size) = some cs.size := by rw [hcs, dirCells_size]; kernel_rfl
  have hsz : zeroDir.toArray.size = cs.size := by rw [hcs, dirCells_size]; rfl
  have hone := dirCells_one s
  rw [← hcs] at hone
  have HCS := Lib.hid hcs
  have HI8 := Lib.hid hi8
  have HSZ := Lib.hid hsz
  have HONE := Lib.hid hone
  clear hi8 hsz hone hcs h3 h4 hpe hqe hde hp hq
  have h2 := fun W => among_any slot 4 W (by omega) (by omega)
  rw [hks] at h2
  have H2 := Lib.hid h2
  clear h1 h2 hks
  go_enter Try.func3, Try.ntmps3
  go_upto_region 1 with fail
  go_cut [7, 8] (fun v7 v8 W => Last1 w n0 n1 s0 s1 v7 v8 W)
  case first =>
    go_region
    all_goals (go_wp2_with fail; go_meet)
    all_goals exact ⟨_, _, rfl, rfl, ⟨by simp [go_sem], by simp [go_sem], by simp⟩, ⟨by simp [go_sem], by simp [go_sem], by simp⟩, by (repeat' (first | exact Below.refl _ _ | assumption | refine Below.setCell ?_ ?_ _ | refine Below.drew ?_ | refine below_drewN ?_ _ | refine Below.alloc ?_ ?_ _ | refine below_of_grown ?_ (by assumption) ?_ | refine Below.trans ?_ (Below.mono (by assumption) ?_) | omega | (simp; done) | (simp; omega)))⟩
  case rest =>
    obtain ⟨b7, b8, rfl, rfl, X0, Y0, B0⟩ := hcut
    go_wp2_with fail
    refine (works_any _).mono ?_
    rintro e w1 ⟨rfl, hb1⟩
    have X1 := X0.below hb1
    have Y1 := Y0.below hb1
    have B1 := B0.trans (Below.mono hb1 B0.size)
    clear X0 Y0 B0 hb1
    go_wp2_with fail
    refine (H1.out _).mono ?_
    rintro e w2 ⟨rfl, hb2⟩
    have B2 := B1.trans (Below.mono hb2 B1.size)
    have B3 := below_row B2 (.cells zeroDir.toArray 26) cs
    have X3 := (X1.below hb2).row (.cells zeroDir.toArray 26) cs
    have Y3 := (Y1.below hb2).row (.cells zeroDir.toArray 26) cs
    have D3 := Blk.rowNew w2 zeroDir.toArray cs 26
    have hB9 : w.heap.size ≤ w2.heap.size := B2.size
    clear X1 Y1 B1 B2 hb2
    go_wp2_with (refine wpList_store_row rfl 26 _ _ rfl w2.heap.size cs rfl rfl 26 zeroDir.toArray (_root_.Go.heap_alloc_new _ _) HI8.out HSZ.out HONE.out ?_)
    change Calls Try.prog _ _ ((w2.alloc (.cells zeroDir.toArray 26)).setRow w2.heap.size cs) _
    generalize (w2.alloc (.cells zeroDir.toArray 26)).setRow w2.heap.size cs = W3 at B3 X3 Y3 D3 ⊢
    refine (H2.out _).mono ?_
    rintro e w4 ⟨rfl, rfl⟩
    have X3' := X3
    obtain ⟨x0, x1, xl⟩ := X3'
    have D4 := Lib.hid D3
    clear D3
    go_wp2_with fail
    clear x0 x1 xl
    refine (H3.out _).mono ?_
    rintro e w5 ⟨rfl, hb5⟩
    have X5 := (X3.below hb5).alloc (.cells #[.int .i64 pa, .string pt] 32)
    have Y5 := (Y3.below hb5)
    have Y6 := Y5.alloc (.cells #[.int .i64 pa, .string pt] 32)
    have P6 := Has.new w5 pa pt 32
    have D6 := Lib.hid ((D4.out.below hb5).alloc (.cells #[.int .i64 pa, .string pt] 32))
    have B6 := (B3.trans (Below.mono hb5 B3.size)).alloc (by have := hb5.size; have := B3.size; omega) (.cells #[.int .i64 pa, .string pt] 32)
    obtain ⟨x0, x1, xl⟩ := Y5
    clear X3 Y3 D4 B3 hb5
    go_wp2_with fail
    clear x0 x1 xl
    change Calls Try.prog _ _ (w5.alloc (.cells #[.int .i64 pa, .string pt] 32)) _
    generalize w5.alloc (.cells #[.int .i64 pa, .string pt] 32) = W6 at X5 Y6 P6 D6 B6 ⊢
    refine (H4.out _).mono ?_
    rintro e w7 ⟨rfl, hb7⟩
    have Y8 := (Y6.below hb7).alloc (.cells #[.int .i64 qa, .string qt] 32)
    have P8 := (P6.below hb7).alloc (.cells #[.int .i64 qa, .string qt] 32)
    have Q8 := Has.new w7 qa qt 32
    have D8 := Lib.hid ((D6.out.below hb7).alloc (.cells #[.int .i64 qa, .string qt] 32))
    have B8 := (B6.trans (Below.mono hb7 B6.size)).alloc (by have := hb7.size; have := B6.size; omega) (.cells #[.int .i64 qa, .string qt] 32)
    clear X5 Y6 P6 D6 B6 hb7
    by_cases hd0 : de = 0
    · by_cases hp0 : pe = 0
      · by_cases hq0 : qe = 0
        · subst hd0 hp0 hq0
          have hd := dirE_told HDE.out.symm
          have hs0 := put_told hk HPE.out.symm
          have hs1 := put_told hk HQE.out.symm
          have hp1 := HPV.out
          have hq1 := HQV.out
          rw [(put_good hk hs0).1] at hp1
          rw [(put_good hk hs1).1] at hq1
          simp only [Value.agg.injEq, Array.mk.injEq, List.cons.injEq, and_true, true_and, Value.int.injEq, Value.string.injEq] at hp1 hq1
          obtain ⟨hpa, hpt⟩ := hp1
          obtain ⟨hqa, hqt⟩ := hq1
          obtain ⟨o, ho⟩ : ∃ o, o = k * 16 := ⟨_, rfl⟩
          have hpa' : pa = (o : Int) := by omega
          have hqa' : qa = (o : Int) := by omega
          subst hpa' hqa'
          have h64 := ((dirOk_iff s).1 hd).1
          have hps : pt.size = 16 := by rw [← hpt]; exact size_slotS _ _ (entOk_sizes hs0).2.2
          have hqs : qt.size = 16 := by rw [← hqt]; exact size_slotS _ _ (entOk_sizes hs1).2.2
          have hov := over_twice (p := pt) (q := qt) h64 hps hqs hk
          rw [← ho] at hov
          have C1 := fun W g hg => patched_two s pt qt o W g hg h64 (by omega) (by omega) (by omega) (by omega)
          have C2 := fun W g hg => patched_one s qt o W g hg h64 (by omega) (by omega)
          rw [hov] at C1
          obtain ⟨a, ha⟩ : ∃ a, a = over s o qt := ⟨_, rfl⟩
          rw [← ha] at C1 C2
          have CC1 := Lib.hid C1
          have CC2 := Lib.hid C2
          have ha64 : a.size = 64 := by rw [ha, size_over (by omega), h64]
          have hac : (outCells a 4).toArray = (cs.setIfInBounds (k * 2) (.int .i64 n1)).setIfInBounds (k * 2 + 1) (.string s1) := by
            rw [ha, ho, ← hqt, outCells_over h64 hk hs1, HCS.out]
            simp [dirCells, hd]
          have HAC := Lib.hid hac
          clear C1 C2 hov hps hqs hpt hqt hs0 HPV HQV h64 hac ha hpa hqa ho
          obtain ⟨p0, p1, pl⟩ := P8
          have QH := Lib.hid Q8
          obtain ⟨q0, q1, ql⟩ := Q8
          go_wp2_with fail
          refine (CC1.out _ _ (by simp)).mono ?_
          rintro e w9 ⟨rfl, hb9⟩
          have B9 := (B8.alloc (by have := B8.size; omega) (.cells #[.int .i64 (o : Int), .string pt, .int .i64 (o : Int), .string qt] 32)).trans (Below.mono hb9 (by have := B8.size; simp at this ⊢; omega))
          have Y9 := (Y8.alloc (.cells #[.int .i64 (o : Int), .string pt, .int .i64 (o : Int), .string qt] 32)).below hb9
          have D9 := Lib.hid ((D8.out.alloc (.cells #[.int .i64 (o : Int), .string pt, .int .i64 (o : Int), .string qt] 32)).below hb9)
          have Q9 := (QH.out.alloc (.cells #[.int .i64 (o : Int), .string pt, .int .i64 (o : Int), .string qt] 32)).below hb9
          clear p0 p1 pl q0 q1 ql hb9 Y8 D8 B8 QH
          obtain ⟨q0, q1, ql⟩ := Q9
          go_wp2_with fail
          refine (CC2.out _ _ (by simp)).mono ?_
          rintro e w10 ⟨rfl, hb10⟩
          have B10 := (B9.alloc (by have := B9.size; omega) (.cells #[.int .i64 (o : Int), .string qt] 32)).trans (Below.mono hb10 (by have := B9.size; simp at this ⊢; omega))
          have Y10 := (Y9.alloc (.cells #[.int .i64 (o : Int), .string qt] 32)).below hb10
          have D10 := Lib.hid ((D9.out.alloc (.cells #[.int .i64 (o : Int), .string qt] 32)).below hb10)
          clear q0 q1 ql hb10 Y9 D9 B9
          have h5 := fun W => edecode_any a W
          rw [dirV_cells] at h5
          have haa := eqs_yes (rfl : a = a)
          obtain ⟨ct, hct⟩ : ∃ ct, ct = dirCells a := ⟨_, rfl⟩
          rw [← hct] at h5
          have ht8 : (Try.prog.info? 26).map (·.size) = some ct.size := by rw [hct, dirCells_size]; kernel_rfl
          have htz : zeroDir.toArray.size = ct.size := by rw [hct, dirCells_size]; rfl
          have hto := dirCells_one a
          have hteq := dir_same a
          rw [← hct] at hto hteq
          have HT8 := Lib.hid ht8
          have HTZ := Lib.hid htz
          have HTO := Lib.hid hto
          have HTEQ := Lib.hid hteq
          clear ht8 htz hto hteq
          have HCT := Lib.hid hct
          clear hct
          by_cases hda : dirOk a = true
          · have e5 : dirE a = 0 := by simp [dirE, hda]
            rw [e5] at h5
            have H5 := Lib.hid h5
            clear h5 e5
            go_wp2_with fail
            refine (H5.out _).mono ?_
            rintro e w11 ⟨rfl, hb11⟩
            have B11 := below_row (B10.trans (Below.mono hb11 B10.size)) (.cells zeroDir.toArray 26) ct
            have Y11 := (Y10.below hb11).row (.cells zeroDir.toArray 26) ct
            have D11 := Lib.hid ((D10.out.below hb11).row (.cells zeroDir.toArray 26) ct)
            have E11 := Lib.hid (Blk.rowNew w11 zeroDir.toArray ct 26)
            have hne : ¬ w11.heap.size = w2.heap.size := by
              have := (D10.out.below hb11).lt
              omega
            clear B10 Y10 D10 hb11
            go_upto_region 15 with (refine wpList_store_row rfl 26 _ _ rfl w11.heap.size ct rfl rfl 26 zeroDir.toArray (_root_.Go.heap_alloc_new _ _) HT8.out HTZ.out HTO.out ?_)
            change Code.wp Try.prog _ _ _ ((w11.alloc (.cells zeroDir.toArray 26)).setRow w11.heap.size ct)
            generalize (w11.alloc (.cells zeroDir.toArray 26)).setRow w11.heap.size ct = W at B11 Y11 D11 E11 ⊢
            obtain ⟨y0, y1, yl⟩ := Y11
            have ecs : cs = (outCells s 4).toArray := by rw [HCS.out]; simp [dirCells, hd]
            have ect : ct = (outCells a 4).toArray := by rw [HCT.out]; simp [dirCells, hda]
            obtain ⟨t0, t1⟩ := outCells_told s 4 k (by omega) hk
            rw [← ecs] at t0 t1
            have c0 : W.cell? ⟨w2.heap.size, k * 2, none⟩ = some (.int .i64 (entN s k)) := by rw [D11.out.cell]; exact t0
            have c1 : W.cell? ⟨w2.heap.size, k * 2 + 1, none⟩ = some (.string (entS s k)) := by rw [D11.out.cell]; exact t1
            have cf : ∀ o, W.frozen? ⟨w2.heap.size, o, none⟩ = false := D11.out.free
            have D12 := Lib.hid ((D11.out.setCell (k * 2) (.int .i64 n1)).setCell (k * 2 + 1) (.string s1))
            rw [← HAC.out, ← ect] at D12
            have E12 := Lib.hid ((E11.out.setOther hne (k * 2) (.int .i64 n1)).setOther hne (k * 2 + 1) (.string s1))
            have B12 : Below w.heap.size w ((W.setCell ⟨w2.heap.size, k * 2, none⟩ (.int .i64 n1)).setCell ⟨w2.heap.size, k * 2 + 1, none⟩ (.string s1)) := (B11.setCell hB9 _).setCell hB9 _
            have lk : (k : Int) < 4 := by omega
            clear D11 E11 B11 ecs ect t0 t1
            go_upto_region 18 with fail
            change Code.wp Try.prog _ _ _ ((W.setCell ⟨w2.heap.size, k * 2, none⟩ (.int .i64 n1)).setCell ⟨w2.heap.size, k * 2 + 1, none⟩ (.string s1))
            generalize (W.setCell ⟨w2.heap.size, k * 2, none⟩ (.int .i64 n1)).setCell ⟨w2.heap.size, k * 2 + 1, none⟩ (.string s1) = W2 at D12 E12 B12 ⊢
            clear c0 c1 cf y0 y1 yl
            have hteq := HTEQ.out
            go_wp2_with (first | (refine wpList_load_row rfl 26 _ rfl w11.heap.size rfl 26 ct (0, 0) _ E12.out Try.underlying26 rfl HT8.out ?_) | (refine wpList_load_row rfl 26 _ rfl w2.heap.size rfl 26 ct (0, 0) _ D12.out Try.underlying26 rfl HT8.out ?_))
            go_ret
            exact ⟨rfl, B12⟩
          · have e5 : dirE a = 70 := by simp [dirE, hda]
            rw [e5] at h5
            have H5 := Lib.hid h5
            clear h5 e5
            go_wp2_with fail
            refine (H5.out _).mono ?_
            rintro e w11 ⟨rfl, hb11⟩
            have B11 := Lib.hid (below_row (B10.trans (Below.mono hb11 B10.size)) (.cells zeroDir.toArray 26) ct)
            clear B10 Y10 D10 hb11
            go_wp2_with (refine wpList_store_row rfl 26 _ _ rfl w11.heap.size ct rfl rfl 26 zeroDir.toArray (_root_.Go.heap_alloc_new _ _) HT8.out HTZ.out HTO.out ?_)
            go_ret
            exact ⟨rfl, B11.out⟩
        · have e1 : (qe == 0) = false := by simp [hq0]
          have e2 : (qe != 0) = true := by simp [hq0]
          subst hd0 hp0
          clear hq0
          go_wp2_with fail
          go_ret
          exact ⟨rfl, B8⟩
      · have e1 : (pe == 0) = false := by simp [hp0]
        have e2 : (pe != 0) = true := by simp [hp0]
        subst hd0
        clear hp0
        go_wp2_with fail
        go_ret
        exact ⟨rfl, B8⟩
    · have e1 : (de == 0) = false := by simp [hd0]
      have e2 : (de != 0) = true := by simp [hd0]
      clear hd0
      go_wp2_with fail
      go_ret
      exact ⟨rfl, B8⟩
end Go.Proofs.Ytdecjmiahjlpjaa
