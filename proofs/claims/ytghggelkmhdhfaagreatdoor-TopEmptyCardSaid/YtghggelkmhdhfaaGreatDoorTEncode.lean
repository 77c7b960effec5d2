
/-
  A table that nobody holds: table.Encode of free leases, walked: each sector is blank.
-/
import Derived.Test.YtghggelkmhdhfaaGreatDoorTRowS
import Derived.Deep.RegionHeld3
namespace Go.Proofs.YtghggelkmhdhfaaGreatDoor
open Go.RowKit

/-- The cells of free leases. -/
def FreeL (w : World) (a : Option Addr) (R : Nat) : Prop := ∃ g o, a = some ⟨g, o, none⟩ ∧ g < w.heap.size ∧ ∀ i, i < R → w.cell? ⟨g, o + i * 2, none⟩ = some (.int .i64 0) ∧ w.cell? ⟨g, o + i * 2 + 1, none⟩ = some (.int .i64 0)
theorem FreeL.below {w w' : World} {a : Option Addr} {R : Nat} (h : FreeL w a R) (hb : Below w.heap.size w w') : FreeL w' a R := by
  obtain ⟨g, o, h1, h2, h3⟩ := h
  exact ⟨g, o, h1, Nat.lt_of_lt_of_le h2 hb.size, fun i hi => ⟨by rw [hb.cell (by simpa using h2)]; exact (h3 i hi).1, by rw [hb.cell (by simpa using h2)]; exact (h3 i hi).2⟩⟩

def KeptB (w : World) (A B C g T : Nat) (i : Value) (wr : World) : Prop := ∃ k : Nat, k ≤ T ∧ i = .int .i64 k ∧ Below w.heap.size w wr ∧ Blk wr g (strC T fun i => if i < k then blank else ⟨#[]⟩) 9 ∧ Box wr w.heap.size A B C
def KeptT (w : World) (A B C g T R : Nat) (i : Value) (wr : World) : Prop := ∃ k : Nat, k ≤ R ∧ i = .int .i64 k ∧ Below w.heap.size w wr ∧ Blk wr g (strC T fun _ => blank) 9 ∧ Box wr w.heap.size A B C
/-- What Encode hands back. -/
def BlankT (w : World) (T : Nat) (e : Ending) (w' : World) : Prop := ∃ g, e = .returned (.tuple #[.slice (some ⟨g, 0, none⟩) T T, .int .i64 0]) ∧ w.heap.size ≤ g ∧ Below w.heap.size w w' ∧ Blk w' g (strC T fun _ => blank) 9

/-- What the drawn statement of the table's loop keeps. -/
def RowOk (w : World) (A B C g T : Nat) (w' : World) : Prop := Below w.heap.size w w' ∧ Blk w' g (strC T fun _ => blank) 9 ∧ Box w' w.heap.size A B C
def RowS (w : World) (A B C g T ix p off : Nat) (w' : World) : Prop := w'.cell? ⟨g, ix, none⟩ = some (.string blank) ∧ w'.cell? ⟨p, 0, none⟩ = some (.int .i64 (off : Int)) ∧ w'.cell? ⟨p, 1, none⟩ = some (.string zero4) ∧ w'.frozen? ⟨g, ix, none⟩ = false ∧ RowOk w A B C g T w'
theorem RowS.below {w W w' : World} {A B C g T ix p off : Nat} (hb : Below W.heap.size W w') (h : RowS w A B C g T ix p off W) : RowS w A B C g T ix p off w' := by
  obtain ⟨h0, h1, h2, h3, h4, h5, h6⟩ := h
  have l0 := World.block_lt_of_cell? W _ h0
  have l1 := World.block_lt_of_cell? W _ h1
  exact ⟨by rw [hb.cell (p := ⟨g, ix, none⟩) l0, h0], by rw [hb.cell (p := ⟨p, 0, none⟩) l1, h1], by rw [hb.cell (p := ⟨p, 1, none⟩) l1, h2], by rw [hb.frozen (p := ⟨g, ix, none⟩) l0, h3], h4.trans (hb.mono h4.size), h5.below hb, h6.below hb⟩
theorem RowS.alloc {w W : World} {A B C g T ix p off : Nat} (o : Obj) (h : RowS w A B C g T ix p off W) : RowS w A B C g T ix p off (W.alloc o) := h.below ((Below.refl _ _).alloc (Nat.le_refl _) o)
theorem RowS.set {w W : World} {A B C g T ix p off : Nat} (hg : w.heap.size < g) (hp : ¬ p = g) (h : RowS w A B C g T ix p off W) : RowS w A B C g T ix p off (W.setCell ⟨g, ix, none⟩ (.string blank)) := by
  obtain ⟨h0, h1, h2, h3, h4, h5, h6⟩ := h
  have hd := h5.setCell ix (.string blank)
  have he : (fun i => if i = ix then blank else blank) = fun _ : Nat => blank := by funext i; simp
  rw [strC_step, he] at hd
  have e : ∀ o, (W.setCell ⟨g, ix, none⟩ (.string blank)).cell? ⟨p, o, none⟩ = W.cell? ⟨p, o, none⟩ := fun o => by
    have h1 := Below.heap_setCell W ⟨g, ix, none⟩ (.string blank) p (fun e => hp (by simpa using e))
    simp only [World.cell?, h1]
  refine ⟨?_, by rw [e]; exact h1, by rw [e]; exact h2, hd.free ix, h4.setCell (by simp; omega) _, hd, h6.setCell (by omega) _ _⟩
  rw [hd.cell]
  rw [h5.cell] at h0
  exact h0

set_option maxHeartbeats 4000000 in
set_option maxRecDepth 100000 in
theorem tencode_any {A B C : Nat} (G : Geo A B C) (a : Option Addr) (c : Nat) (w : World) (hL : FreeL w a (rgN A B)) :
    Calls Tryz.prog 22 #[.agg #[.int .i64 (A : Int), .int .i64 (B : Int), .int .i64 (C : Int)], .slice a (rgN A B) c] w (BlankT w (tsN A B)) := by
  have HR := Lib.hid (fun W => regions_any G W)
  have HS := Lib.hid (fun W => sectors_any G W)
  have HP := Lib.hid (fun r hr W => tput_zero (r := r) G hr W)
  have hr1 := rgN_le G
  have ht1 := tsN_le G
  have hsec := Lib.hid (fun r (hr : r < rgN A B) => show r / 16 < tsN A B by unfold tsN; omega)
  obtain ⟨i0, hi, hz0, hz1, hz2⟩ := info_parts info_str
  have HF := Lib.hid hL
  generalize rgN A B = R at *
  generalize tsN A B = T at *
  have hRne : ((R : Int) == 0) = false := by rw [beq_eq_false_iff_ne]; omega
  have hRne2 : ¬ R = 0 := by omega
  clear hL
  go_enter Tryz.func22, Tryz.ntmps22
  go_wp2_with fail
  refine (HR.out _).mono ?_
  rintro e w1 ⟨rfl, hb1⟩
  have c0 : w1.cell? ⟨w.heap.size, 0, none⟩ = some (.int .i64 (A : Int)) := by rw [hb1.cell (by simp <;> omega)]; simp [go_sem]
  have c1 : w1.cell? ⟨w.heap.size, 1, none⟩ = some (.int .i64 (B : Int)) := by rw [hb1.cell (by simp <;> omega)]; simp [go_sem]
  have c2 : w1.cell? ⟨w.heap.size, 2, none⟩ = some (.int .i64 (C : Int)) := by rw [hb1.cell (by simp <;> omega)]; simp [go_sem]
  have B1 : Below w.heap.size w w1 := by (repeat' (first | exact Below.refl _ _ | assumption | refine Below.setCell ?_ ?_ _ | refine Below.drew ?_ | refine below_drewN ?_ _ | refine Below.alloc ?_ ?_ _ | refine below_of_grown ?_ (by assumption) ?_ | refine Below.trans ?_ (Below.mono (by assumption) ?_) | omega | (simp; done) | (simp; omega)))
  clear hb1
  go_wp2_with fail
  refine (HS.out _).mono ?_
  rintro e w2 ⟨rfl, hb2⟩
  have l1 : w.heap.size < w1.heap.size := by
    have := World.block_lt_of_cell? w1 _ c0
    simpa using this
  have d0 : w2.cell? ⟨w.heap.size, 0, none⟩ = some (.int .i64 (A : Int)) := by rw [hb2.cell (by simpa using l1)]; exact c0
  have d1 : w2.cell? ⟨w.heap.size, 1, none⟩ = some (.int .i64 (B : Int)) := by rw [hb2.cell (by simpa using l1)]; exact c1
  have d2 : w2.cell? ⟨w.heap.size, 2, none⟩ = some (.int .i64 (C : Int)) := by rw [hb2.cell (by simpa using l1)]; exact c2
  have B2 : Below w.heap.size w w2 := B1.trans (hb2.mono B1.size)
  have l2 : w.heap.size < w2.heap.size := Nat.lt_of_lt_of_le l1 hb2.size
  clear hb2 B1 c0 c1 c2
  go_wp2_with (first | (at_make; refine wpList_make_full _ rfl _ _ 25 rfl w2.heap.size 9 i0 (.string ⟨#[]⟩) 1 Tryz.underlying25 hi hz0 hz1 _ _ _ _ T rfl rfl rfl rfl ?b1 ?b2 ?b3 ?_))
  case b1 => rw [hz2]; omega
  case b2 => unfold maxLen; omega
  case b3 => exact Nat.le_refl _
  intro w3 hown hgrow
  have hblk := own_block hown
  rw [strC_made] at hblk
  have D3 := Lib.hid (show Blk w3 w2.heap.size (strC T fun _ => ⟨#[]⟩) 9 from hblk)
  have hb3 := below_of_grown (Below.refl w2.heap.size w2) hgrow (Nat.le_refl _)
  have B3 := Lib.hid (B2.trans (hb3.mono B2.size))
  have c0 : w3.cell? ⟨w.heap.size, 0, none⟩ = some (.int .i64 (A : Int)) := by rw [hb3.cell (by simpa using l2)]; exact d0
  have c1 : w3.cell? ⟨w.heap.size, 1, none⟩ = some (.int .i64 (B : Int)) := by rw [hb3.cell (by simpa using l2)]; exact d1
  have c2 : w3.cell? ⟨w.heap.size, 2, none⟩ = some (.int .i64 (C : Int)) := by rw [hb3.cell (by simpa using l2)]; exact d2
  clear hown hgrow hblk d0 d1 d2 hb3 B2
  go_wp2_with fail
  have hg2 : w.heap.size < w2.heap.size := l2
  have hgb := B3.out.size
  have X3 := Lib.hid (show Box w3 w.heap.size A B C from ⟨c0, c1, c2⟩)
  generalize w2.heap.size = g at *
  have HBL := Lib.hid (fun W => blank_any W)
  clear c0 c1 c2 l1 l2
  go_loopw [29] (fun i wr => KeptB w A B C g T i wr) (fun i _ => T - (intOf i).toNat)
  case atStart => exact ⟨0, by omega, rfl, B3.out, by simpa using D3.out, X3.out⟩
  case round =>
    clear B3 D3 X3
    obtain ⟨k, hk, rfl, hbe, hblk, hbox⟩ := hrel
    have hzr := hbe.size
    have hgl := hblk.lt
    by_cases hlt : k < T
    · have BE := Lib.hid hbe
      have D := Lib.hid hblk
      have X := Lib.hid hbox
      have lk : (k : Int) < T := by omega
      have lk0 : (0 : Int) ≤ k := by omega
      clear hbe hblk hbox
      go_wp2_with fail
      refine (HBL.out _).mono ?_
      rintro e w4 ⟨rfl, hb4⟩
      have B4 := BE.out.trans (Below.mono hb4 hzr)
      have D4 := D.out.below hb4
      have X4 := X.out.below hb4
      have c0 : w4.cell? ⟨g, k, none⟩ = some (.string ⟨#[]⟩) := by rw [D4.cell, strC_get _ hlt, if_neg (by omega)]
      have cf : ∀ o, w4.frozen? ⟨g, o, none⟩ = false := D4.free
      have D5 := D4.setCell k (.string blank)
      rw [strC_step, strC_congr (f' := fun i => if i < k + 1 then blank else ⟨#[]⟩) (fun i _ => by
        by_cases h1 : i = k
        · rw [if_pos h1, if_pos (by omega)]
        · rw [if_neg h1]
          by_cases h2 : i < k
          · rw [if_pos h2, if_pos (by omega)]
          · rw [if_neg h2, if_neg (by omega)])] at D5
      have HN := Lib.hid (show KeptB w A B C g T (.int .i64 ((k : Int) + 1)) (w4.setCell ⟨g, k, none⟩ (.string blank)) from ⟨k + 1, by omega, by simp, B4.setCell (by simp; omega) _, D5, X4.setCell (by omega) _ _⟩)
      clear B4 D4 X4 D5 BE D X hb4
      go_wp2_with fail
      exact ⟨HN.out, by simp [intOf]; omega⟩
    · obtain rfl : k = T := by omega
      rw [strC_congr (f' := fun _ => blank) (fun i hi => by rw [if_pos hi])] at hblk
      have BE := Lib.hid hbe
      have D := Lib.hid hblk
      have X := Lib.hid hbox
      clear hbe hblk hbox
      go_wp2_with fail
      go_loopw [39] (fun i wr => KeptT w A B C g k R i wr) (fun i _ => R - (intOf i).toNat)
      case atStart => exact ⟨0, by omega, rfl, BE.out, D.out, X.out⟩
      case round =>
        clear BE D X
        obtain ⟨j, hj, rfl, hbe, hblk, hbox⟩ := hrel
        have hzr2 := hbe.size
        have hgl2 := hblk.lt
        by_cases hlt2 : j < R
        · obtain ⟨lg, lo, rfl, hlg, hcells⟩ := HF.out
          obtain ⟨x0', x1'⟩ := hcells j hlt2
          have x0 : wr.cell? ⟨lg, lo + j * 2, none⟩ = some (.int .i64 0) := by rw [hbe.cell (by simpa using hlg)]; exact x0'
          have x1 : wr.cell? ⟨lg, lo + j * 2 + 1, none⟩ = some (.int .i64 0) := by rw [hbe.cell (by simpa using hlg)]; exact x1'
          have hixk := hsec.out j hlt2
          have HPJ := Lib.hid (HP.out j hlt2)
          have hoff : j % 16 * 4 ≤ 60 := by omega
          obtain ⟨off, hoff2⟩ : ∃ off, off = j % 16 * 4 := ⟨_, rfl⟩
          obtain ⟨ix, hix2⟩ : ∃ ix, ix = j / 16 := ⟨_, rfl⟩
          obtain ⟨sec, hsec2⟩ : ∃ sec, sec = 2 + j / 16 := ⟨_, rfl⟩
          have hsub : (sec : Int) - 2 = (ix : Int) := by omega
          rw [← hoff2, ← hsec2] at HPJ
          rw [← hoff2] at hoff
          rw [← hix2] at hixk
          have BE := Lib.hid hbe
          have D := Lib.hid hblk
          have X := Lib.hid hbox
          have b0 := X.out.1
          have b1 := X.out.2.1
          have b2 := X.out.2.2
          have hlgr : lg < wr.heap.size := by omega
          have lj : (j : Int) < R := by omega
          have lj0 : (0 : Int) ≤ j := by omega
          have hbx := X.out.lt
          clear hbe hblk hbox x0' x1' hcells hoff2 hsec2 hix2
          go_wp2_with fail
          refine (HPJ.out _).mono ?_
          rintro e w5 ⟨rfl, hb5⟩
          have B5 := Lib.hid ((BE.out.alloc hzr2 (.cells #[.int .i64 0, .int .i64 0] 72)).trans (Below.mono hb5 (by simp; omega)))
          have D5 := Lib.hid ((D.out.alloc (.cells #[.int .i64 0, .int .i64 0] 72)).below hb5)
          have X5 := Lib.hid ((X.out.below ((Below.refl _ _).alloc (Nat.le_refl _) (.cells #[.int .i64 0, .int .i64 0] 72))).below hb5)
          clear hb5 BE D X b0 b1 b2 x0 x1
          have hgl5 := D5.out.lt
          go_wp2_with fail
          have S6 : RowS w A B C g k ix w5.heap.size off (w5.alloc (.cells #[.int .i64 (off : Int), .string zero4] 90)) := by
            have hD := D5.out.alloc (.cells #[.int .i64 (off : Int), .string zero4] 90)
            have hX := X5.out.below ((Below.refl _ _).alloc (Nat.le_refl _) (.cells #[.int .i64 (off : Int), .string zero4] 90))
            exact ⟨by rw [hD.cell, strC_get _ hixk], by simp [go_sem], by simp [go_sem], hD.free ix, B5.out.alloc B5.out.size _, hD, hX⟩
          have hpg : ¬ w5.heap.size = g := by omega
          generalize w5.heap.size = p at *
          generalize w5.alloc (.cells #[.int .i64 (off : Int), .string zero4] 90) = w6 at *
          have hpt := patched_any blank [(off, zero4)] w6.heap.size 0 1 ((w6.alloc (.cells #[.int .i64 (off : Int), .string zero4] 90)).drew) (by decide +kernel) (by simp) (by simp) (by simp [size_zero4]; omega) (fun i q hq => by
            have hi0 : i = 0 := by
              have := (List.getElem?_eq_some_iff.1 hq).1
              simp at this; omega
            subst hi0
            simp at hq
            subst hq
            constructor <;> simp [go_sem])
          rw [show overs blank [(off, zero4)] = blank from over_blank hoff] at hpt
          have HPT := Lib.hid hpt
          have hix0 : (0 : Int) ≤ ix := by omega
          have hixk2 : (ix : Int) < k := by omega
          have w1 : IntKind.i64.wrap (ix : Int) = (ix : Int) := IntWalk.i64_in _ (by omega)
          obtain ⟨s0, s1, s2, s3, s4⟩ := S6
          have S6' : RowS w A B C g k ix p off w6 := ⟨s0, s1, s2, s3, s4⟩
          clear hpt B5 D5 X5
          go_region_held3 (fun w' => w'.cell? ⟨g, ix, none⟩ = some (.string blank) ∧ w'.cell? ⟨p, 0, none⟩ = some (.int .i64 (off : Int)) ∧ w'.cell? ⟨p, 1, none⟩ = some (.string zero4) ∧ w'.frozen? ⟨g, ix, none⟩ = false ∧ RowOk w A B C g k w')
            (first
              | exact RowS.below (w := w) (A := A) (B := B) (C := C) (T := k) (Below.refl _ w6).drew S6'
              | exact RowS.below hb7 (RowS.below (w := w) (A := A) (B := B) (C := C) (T := k) (((Below.refl _ w6).alloc (Nat.le_refl _) _).drew) S6')
              | exact RowS.below (w := w) (A := A) (B := B) (C := C) (T := k) (((Below.refl _ w6).alloc (Nat.le_refl _) _).drew) S6'
              | (refine RowS.alloc _ ?_; assumption)
              | (refine RowS.set hg2 hpg ?_; assumption))
            (first
              | (go_at_call 48; refine HPT.out.mono ?_; rintro e w7 ⟨rfl, hb7⟩))
          all_goals
            obtain ⟨_, _, _, _, t4, t5, t6⟩ := ‹_ ∧ _ ∧ _ ∧ _ ∧ RowOk w A B C g k _›
            have HN := Lib.hid (show ∃ w', KeptT w A B C g k R (.int .i64 ((j : Int) + 1)) w' from ⟨_, j + 1, by omega, by simp, t4, t5, t6⟩)
            go_wp2_with fail
            refine ⟨⟨j + 1, by omega, by simp, t4, t5, t6⟩, by simp [intOf]; omega⟩
        · obtain rfl : j = R := by omega
          have BE := Lib.hid hbe
          have D := Lib.hid hblk
          clear hbe hblk hbox
          go_wp2_with fail
          refine bodyPost_ret (v := .tuple #[.slice (some ⟨g, 0, none⟩) k k, .int .i64 0]) (by simp [results, Tryz.results22, go_sem]) rfl ⟨g, rfl, by omega, BE.out, D.out⟩
end Go.Proofs.YtghggelkmhdhfaaGreatDoor
