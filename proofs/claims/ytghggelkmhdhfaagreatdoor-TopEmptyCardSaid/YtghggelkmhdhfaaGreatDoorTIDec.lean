
/-
  A sector's inode: inode.Decode, walked at the sectors of inodes without blocks, of no bytes.
-/
import Derived.Test.YtghggelkmhdhfaaGreatDoorTIEnc
import Derived.Laws.Rows
import Derived.Laws.ResultCell
namespace Go.Proofs.YtghggelkmhdhfaaGreatDoor
open Go.RowKit

set_option maxHeartbeats 1000000 in
theorem dget_any (s : ByteArray) (b off : Nat) (c n : Int) (w : World) (hb : w.cell? ⟨b, 0, none⟩ = some (.string s)) (hs : s.size = 64) (h : (c = 1 ∧ off ≤ 63 ∧ byteAt s off = n) ∨ (c = 2 ∧ off ≤ 62 ∧ num2 s off = n)) :
    Calls Tryz.prog 39 #[.int .i64 (off : Int), .int .i64 c, .pointer (some ⟨b, 0, none⟩)] w fun e w' => e = .returned (.int .i64 n) ∧ w = w' := by
  have HG : ∀ W, Calls Tryz.prog 27 #[.string s, .int .i64 (off : Int), .int .i64 c] W fun e w' => e = .returned (.tuple #[.int .i64 n, .int .i64 0]) ∧ W = w' := fun W => by
    rcases h with ⟨rfl, h1, rfl⟩ | ⟨rfl, h1, rfl⟩
    · exact get1_any s off W hs h1
    · exact get2_any s off W hs h1
  have HG := Lib.hid HG
  go_enter Tryz.func39, Tryz.ntmps39
  go_wp2_with fail
  refine (HG.out _).mono ?_
  rintro e w1 ⟨rfl, rfl⟩
  go_wp2_with fail
  go_ret
  exact ⟨rfl, rfl⟩

theorem inoC_set (k l p g : Int) (j : Nat) (hj : j < 8) : (inoC k l p g).setIfInBounds (5 + j) (.int .i64 0) = inoC k l p g := by
  have h : j = 0 ∨ j = 1 ∨ j = 2 ∨ j = 3 ∨ j = 4 ∨ j = 5 ∨ j = 6 ∨ j = 7 := by omega
  rcases h with rfl | rfl | rfl | rfl | rfl | rfl | rfl | rfl <;> rfl
theorem inoC_one (k l p g : Int) : (inoC k l p g).all (·.oneCell') = true := by simp [inoC, Value.oneCell']

theorem idec_results (tmps : Array Value) (W : World) (g : Nat) (cs : Array Value) (fr : Nat × Nat) (c : Int) (h2 : tmps.getD 4 undef = .pointer (some ⟨g, 0, none⟩)) (h3 : tmps.getD 5 undef = .int .i64 c)
    (hg : W.heap[g]? = some (.cells cs 49 fr)) (hs : cs.size = 14) :
    (results Tryz.f15 tmps).run Tryz.prog W = .ok (.tuple #[.agg cs, .int .i64 c]) W := by
  rw [results_cell_tmp Tryz.results15, h2, h3]
  simp only [asAddr, Sem.run_pure, Result.andThen_ok]
  rw [run_loadVar_row W g _ _ cs fr _ hg Tryz.underlying49 rfl (by rw [hs]; kernel_rfl)]
  rfl
/-- What the loop of Decode keeps. -/
def KeptID (w : World) (A B C r : Nat) (s : ByteArray) (k l p g : Int) (i : Value) (wr : World) : Prop := ∃ j : Nat, j ≤ 8 ∧ i = .int .i64 j ∧ Below w.heap.size w wr ∧ Box wr w.heap.size A B C ∧ wr.cell? ⟨w.heap.size + 1, 0, none⟩ = some (.string s) ∧
  Blk wr (w.heap.size + 1 + 1) (inoC 0 0 0 0) 49 ∧ Blk wr r (inoC k l p g) 49

theorem Blk.otherCell {w : World} {g r : Nat} {cs : Array Value} {t : TypeId} (h : Blk w g cs t) (hne : ¬ g = r) (i : Nat) (v : Value) : Blk (w.setCell ⟨r, i, none⟩ v) g cs t := by
  have h1 := Below.heap_setCell w ⟨r, i, none⟩ v g (fun e => hne (by simpa using e))
  exact h1.trans h

/-- What Decode asks of a sector. -/
def InoT (s : ByteArray) (k l p g : Int) : Prop := s.size = 64 ∧ byteAt s 0 = k ∧ byteAt s 1 = l ∧ num2 s 2 = 0 ∧ num2 s 4 = p ∧ num2 s 6 = g ∧ num2 s 24 = 0 ∧ ∀ j, j < 8 → num2 s (8 + 2 * j) = 0

set_option maxHeartbeats 4000000 in
set_option maxRecDepth 100000 in
theorem idecode_of {A B C : Nat} (G : Geo A B C) (k l p g : Int) (s : ByteArray) (hT : InoT s k l p g)
    (HE : ∀ W : World, Calls Tryz.prog 26 #[.agg #[.int .i64 (A : Int), .int .i64 (B : Int), .int .i64 (C : Int)], inoV k l p g] W fun e w' => e = .returned (.tuple #[.string s, .int .i64 0]) ∧ Below W.heap.size W w') (w : World) :
    Calls Tryz.prog 15 #[.agg #[.int .i64 (A : Int), .int .i64 (B : Int), .int .i64 (C : Int)], .string s] w fun e w' => e = .returned (.tuple #[inoV k l p g, .int .i64 0]) ∧ Below w.heap.size w w' := by
  obtain ⟨hs, t0, t1, t2, t3, t4, t5, t6⟩ := hT
  have HE := Lib.hid HE
  have HC := Lib.hid (fun W => check_yes A B C W G.ok)
  have HG := Lib.hid (fun b off c n W h => dget_any s b off c n W h hs)
  have hs64 : (s.size : Int) = 64 := by omega
  go_enter Tryz.func15, Tryz.ntmps15
  go_wp2_with fail
  refine (HC.out _).mono ?_
  rintro e w1 ⟨rfl, hb1⟩
  have X1 : Box w1 w.heap.size A B C := ⟨by rw [hb1.cell (by simp <;> omega)]; simp [go_sem], by rw [hb1.cell (by simp <;> omega)]; simp [go_sem], by rw [hb1.cell (by simp <;> omega)]; simp [go_sem]⟩
  have q1 : w1.cell? ⟨w.heap.size + 1, 0, none⟩ = some (.string s) := by rw [hb1.cell (by simp <;> omega)]; simp [go_sem]
  have D1 : Blk w1 (w.heap.size + 1 + 1) (inoC 0 0 0 0) 49 := by simpa using (Blk.new ((w.alloc (.cells #[.int .i64 (A : Int), .int .i64 (B : Int), .int .i64 (C : Int)] 23)).alloc (.cells #[.string s] 9)) (inoC 0 0 0 0) 49).below hb1
  have B1 : Below w.heap.size w w1 := by (repeat' (first | exact Below.refl _ _ | assumption | refine Below.setCell ?_ ?_ _ | refine Below.drew ?_ | refine below_drewN ?_ _ | refine Below.alloc ?_ ?_ _ | refine below_of_grown ?_ (by assumption) ?_ | refine Below.trans ?_ (Below.mono (by assumption) ?_) | omega | (simp; done) | (simp; omega)))
  have HX1 := Lib.hid X1
  have HD1 := Lib.hid D1
  have HB1 := Lib.hid B1
  have hlt1 := D1.lt
  clear hb1 X1 D1 B1
  go_wp2_with fail
  refine (HG.out (w.heap.size + 1) 0 1 k w1 q1 (.inl ⟨rfl, by omega, t0⟩)).mono ?_
  rintro e w2 ⟨rfl, rfl⟩
  go_wp2_with fail
  refine (HG.out (w.heap.size + 1) 1 1 l w1 q1 (.inl ⟨rfl, by omega, t1⟩)).mono ?_
  rintro e w2 ⟨rfl, rfl⟩
  go_wp2_with fail
  refine (HG.out (w.heap.size + 1) 2 2 0 w1 q1 (.inr ⟨rfl, by omega, t2⟩)).mono ?_
  rintro e w2 ⟨rfl, rfl⟩
  go_wp2_with fail
  refine (HG.out (w.heap.size + 1) 4 2 p w1 q1 (.inr ⟨rfl, by omega, t3⟩)).mono ?_
  rintro e w2 ⟨rfl, rfl⟩
  go_wp2_with fail
  refine (HG.out (w.heap.size + 1) 6 2 g w1 q1 (.inr ⟨rfl, by omega, t4⟩)).mono ?_
  rintro e w2 ⟨rfl, rfl⟩
  go_wp2_with fail
  refine (HG.out (w.heap.size + 1) 24 2 0 w1 q1 (.inr ⟨rfl, by omega, t5⟩)).mono ?_
  rintro e w2 ⟨rfl, rfl⟩
  go_wp2_with (refine wpList_store_row rfl 49 _ _ rfl w1.heap.size (inoC k l p g) rfl rfl 49 (inoC 0 0 0 0) (_root_.Go.heap_alloc_new _ _) (info_ino k l p g) rfl (inoC_one k l p g) ?_)
  have hT6 := Lib.hid t6
  have B2 : KeptID w A B C w1.heap.size s k l p g (.int .i64 0) ((w1.alloc (.cells #[.int .i64 0, .int .i64 0, .int .i64 0, .int .i64 0, .int .i64 0, .int .i64 0, .int .i64 0, .int .i64 0, .int .i64 0, .int .i64 0, .int .i64 0, .int .i64 0, .int .i64 0, .int .i64 0] 49)).setRow w1.heap.size (inoC k l p g)) := by
    have hb := below_row (Below.refl w1.heap.size w1) (.cells #[.int .i64 0, .int .i64 0, .int .i64 0, .int .i64 0, .int .i64 0, .int .i64 0, .int .i64 0, .int .i64 0, .int .i64 0, .int .i64 0, .int .i64 0, .int .i64 0, .int .i64 0, .int .i64 0] 49) (inoC k l p g)
    refine ⟨0, by omega, rfl, HB1.out.trans (hb.mono HB1.out.size), HX1.out.below hb, by rw [hb.cell (World.block_lt_of_cell? _ _ q1)]; exact q1, HD1.out.below hb, Blk.rowNew _ _ _ _⟩
  have HB2 := Lib.hid B2
  have hr : ¬ w.heap.size = w1.heap.size := by omega
  have hr1 : w.heap.size + 1 + 1 < w1.heap.size := hlt1
  clear B2 HX1 HD1 HB1 q1 t0 t1 t2 t3 t4 t5 t6 hlt1
  go_loopw [36] (fun i wr => KeptID w A B C w1.heap.size s k l p g i wr) (fun i _ => 8 - (intOf i).toNat)
  case atStart => exact HB2.out
  case round =>
    clear HB2
    generalize w1.heap.size = r at *
    obtain ⟨j, hj, rfl, hbe, hbox, q1, hD, hE⟩ := hrel
    have hzr := hbe.size
    by_cases hlt : j < 8
    · have BE := Lib.hid hbe
      have X := Lib.hid hbox
      have D := Lib.hid hD
      have E := Lib.hid hE
      have lk : (j : Int) < 8 := by omega
      have lk0 : (0 : Int) ≤ j := by omega
      have hgj := HG.out (w.heap.size + 1) (8 + 2 * j) 2 0 wr q1 (.inr ⟨rfl, by omega, hT6.out j hlt⟩)
      rw [show ((8 + 2 * j : Nat) : Int) = 8 + 2 * (j : Int) by omega] at hgj
      have HGJ := Lib.hid hgj
      have hc : wr.cell? ⟨r, 5 + j, none⟩ = some (.int .i64 0) := by
        rw [hE.cell]
        have h : j = 0 ∨ j = 1 ∨ j = 2 ∨ j = 3 ∨ j = 4 ∨ j = 5 ∨ j = 6 ∨ j = 7 := by omega
        rcases h with rfl | rfl | rfl | rfl | rfl | rfl | rfl | rfl <;> rfl
      have hf : ∀ o, wr.frozen? ⟨r, o, none⟩ = false := hE.free
      clear hbe hbox hD hE hgj
      go_wp2_with fail
      refine HGJ.out.mono ?_
      rintro e w2 ⟨rfl, rfl⟩
      go_wp2_with fail
      have E2 := E.out.setCell (5 + j) (.int .i64 0)
      rw [inoC_set k l p g j hlt] at E2
      have hq2 : (wr.setCell ⟨r, 5 + j, none⟩ (.int .i64 0)).cell? ⟨w.heap.size + 1, 0, none⟩ = some (.string s) := by
        have h1 := Below.heap_setCell wr ⟨r, 5 + j, none⟩ (.int .i64 0) (w.heap.size + 1) (by simp; omega)
        simp only [World.cell?, h1] at q1 ⊢
        exact q1
      exact ⟨⟨j + 1, by omega, by simp, BE.out.setCell (by simp; omega) _, X.out.setCell hr _ _, hq2, D.out.otherCell (by omega) _ _, E2⟩, by simp [intOf]; omega⟩
    · obtain rfl : j = 8 := by omega
      have BE := Lib.hid hbe
      have D := Lib.hid hD
      have E := Lib.hid hE
      have b0 := hbox.1
      have b1 := hbox.2.1
      have b2 := hbox.2.2
      clear hbe hbox hD hE
      go_wp2_with (refine wpList_load_row rfl 49 _ rfl r rfl 49 (inoC k l p g) (0, 0) _ E.out Tryz.underlying49 rfl (info_ino k l p g) ?_)
      refine (HE.out _).mono ?_
      rintro e w4 ⟨rfl, hb4⟩
      have B4 := Lib.hid (BE.out.trans (Below.mono hb4 hzr))
      have D4 := Lib.hid (D.out.below hb4)
      have E4 := Lib.hid (E.out.below hb4)
      have q4 : w4.cell? ⟨w.heap.size + 1, 0, none⟩ = some (.string s) := by rw [hb4.cell (World.block_lt_of_cell? _ _ q1)]; exact q1
      clear hb4 BE D E b0 b1 b2 q1
      have hlt0 : w.heap.size < w4.heap.size := by
        have := D4.out.lt
        omega
      go_wp2_with (first | (refine wpList_load_row rfl 49 _ rfl r rfl 49 (inoC k l p g) (0, 0) _ E4.out Tryz.underlying49 rfl (info_ino k l p g) ?_) | (refine wpList_store_row rfl 49 _ _ rfl (w.heap.size + 1 + 1) (inoC k l p g) rfl rfl 49 (inoC 0 0 0 0) D4.out (info_ino k l p g) rfl (inoC_one k l p g) ?_))
      refine bodyPost_ret (v := .tuple #[.agg (inoC k l p g), .int .i64 0]) (idec_results _ _ (w.heap.size + 1 + 1) _ _ _ rfl rfl (D4.out.set _) rfl) rfl ⟨rfl, below_setRow B4.out (by omega) _⟩

theorem rootT_ok : InoT rootS 2 1 1 1 := by
  refine ⟨by decide +kernel, by decide +kernel, by decide +kernel, by decide +kernel, by decide +kernel, by decide +kernel, by decide +kernel, ?_⟩
  have : ∀ j, j < 8 → num2 rootS (8 + 2 * j) = 0 := by decide +kernel
  exact this
theorem blankT_ok : InoT blank 0 0 0 0 := by
  refine ⟨by decide +kernel, by decide +kernel, by decide +kernel, by decide +kernel, by decide +kernel, by decide +kernel, by decide +kernel, ?_⟩
  have : ∀ j, j < 8 → num2 blank (8 + 2 * j) = 0 := by decide +kernel
  exact this
theorem idecode_root {A B C : Nat} (G : Geo A B C) (w : World) :
    Calls Tryz.prog 15 #[.agg #[.int .i64 (A : Int), .int .i64 (B : Int), .int .i64 (C : Int)], .string rootS] w fun e w' => e = .returned (.tuple #[inoV 2 1 1 1, .int .i64 0]) ∧ Below w.heap.size w w' :=
  idecode_of G 2 1 1 1 rootS rootT_ok (fun W => iencode_root G W) w
theorem idecode_free {A B C : Nat} (G : Geo A B C) (w : World) :
    Calls Tryz.prog 15 #[.agg #[.int .i64 (A : Int), .int .i64 (B : Int), .int .i64 (C : Int)], .string blank] w fun e w' => e = .returned (.tuple #[inoV 0 0 0 0, .int .i64 0]) ∧ Below w.heap.size w w' :=
  idecode_of G 0 0 0 0 blank blankT_ok (fun W => iencode_free G W) w
end Go.Proofs.YtghggelkmhdhfaaGreatDoor
