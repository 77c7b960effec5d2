
/-
  An empty file system is laid on a disk: alloc.Lay, walked. A disk of an empty file system, and a side of it: laid, walked.
-/
import Derived.Test.YtghggelkmhdhfaaGreatDoorTDiskNew
import Derived.Test.YtghggelkmhdhfaaGreatDoorTSide
import Derived.Test.YtghggelkmhdhfaaGreatDoorDec
namespace Go.Proofs.YtghggelkmhdhfaaGreatDoor
open Go.RowKit

theorem size_blank : blank.size = 64 := by decide +kernel
theorem size_fmtF (A B C i : Nat) : (fmtF A B C i).size = 64 := by
  unfold fmtF
  split
  · decide +kernel
  · split
    · exact size_ofS _
    · split
      · unfold fenceS
        split
        · exact size_wallS _ _
        · rename_i h; exact absurd (by decide) h
      · split
        · exact size_sector0 _ _ _
        · exact size_blank
def KeptLay (w : World) (d g g2 n c : Nat) (f0 F : Nat → ByteArray) (i : Value) (wr : World) : Prop := ∃ k : Nat, k ≤ n ∧ i = .int .i64 k ∧ Below g w wr ∧ wr.cell? ⟨d, 0, none⟩ = some (.slice (some ⟨g, 0, none⟩) n c) ∧
  SRow wr g n (fun i => if i < k then F i else f0 i) ∧ Blk wr g2 (strC n F) 9
theorem SRow.congr {W : World} {g n : Nat} {f f' : Nat → ByteArray} (h : SRow W g n f) (e : ∀ i, i < n → f i = f' i) : SRow W g n f' := fun i hi => by rw [← e i hi]; exact h i hi

set_option maxHeartbeats 2000000 in
theorem lay_any {A B C : Nat} (G : Geo A B C) (d g c : Nat) (f0 : Nat → ByteArray) (w : World) (hdg : d < g) (hg : g < w.heap.size) (hd : w.cell? ⟨d, 0, none⟩ = some (.slice (some ⟨g, 0, none⟩) (fiN A B C A) c)) (hs : SRow w g (fiN A B C A) f0) :
    Calls Tryz.prog 41 #[.pointer (some ⟨d, 0, none⟩), .agg #[.int .i64 (A : Int), .int .i64 (B : Int), .int .i64 (C : Int)]] w fun e w' => e = .returned (.int .i64 0) ∧ Below g w w' ∧ SRow w' g (fiN A B C A) (fmtF A B C) := by
  have HF := Lib.hid (fun W => format_any G W)
  have HSZ := Lib.hid (fun i => size_fmtF A B C i)
  have hf2 := fiN_le (k := A) G (Nat.le_refl _)
  have HD := Lib.hid hd
  have HSR := Lib.hid hs
  unfold FmtIs at HF
  generalize fmtF A B C = F at *
  generalize fiN A B C A = n at *
  have hne : ((n : Int) != n) = false := by simp
  clear hd hs
  go_enter Tryz.func41, Tryz.ntmps41
  go_wp2_with fail
  refine (HF.out _).mono ?_
  rintro e w1 ⟨g2, rfl, hg2, hb1, hD1⟩
  have hz1 := hb1.size
  simp at hz1 hg2
  have HDS := Lib.hid (fun W => dsize_any d (some ⟨g, 0, none⟩) n c W)
  have hB1 : Below w.heap.size w w1 := by (repeat' (first | exact Below.refl _ _ | assumption | refine Below.setCell ?_ ?_ _ | refine Below.drew ?_ | refine below_drewN ?_ _ | refine Below.alloc ?_ ?_ _ | refine below_of_grown ?_ (by assumption) ?_ | refine Below.trans ?_ (Below.mono (by assumption) ?_) | omega | (simp; done) | (simp; omega)))
  have x0 : w1.cell? ⟨d, 0, none⟩ = some (.slice (some ⟨g, 0, none⟩) n c) := by rw [hB1.cell (by simp; omega)]; exact HD.out
  have S1 := Lib.hid (HSR.out.below hB1)
  have D1 := Lib.hid hD1
  have HB1 := Lib.hid (hB1.mono (Nat.le_of_lt hg))
  clear hb1 hD1 hB1
  go_wp2_with fail
  refine (HDS.out _ x0).mono ?_
  rintro e w2 ⟨rfl, rfl⟩
  go_wp2_with fail
  go_loopw [28] (fun i wr => KeptLay w d g g2 n c f0 F i wr) (fun i _ => n - (intOf i).toNat)
  case atStart => exact ⟨0, by omega, rfl, HB1.out, x0, S1.out.congr (fun i _ => by simp), D1.out⟩
  case round =>
    clear HB1 S1 D1 x0
    obtain ⟨k, hk, rfl, hbe, x0, hs, hD⟩ := hrel
    by_cases hlt : k < n
    · have lk : (k : Int) < n := by omega
      have lk0 : (0 : Int) ≤ k := by omega
      have y0 : wr.cell? ⟨g2, k, none⟩ = some (.string (F k)) := by rw [hD.cell, strC_get _ hlt]
      have hg2l := hD.lt
      have HL := Lib.hid (dlay_any d g n c k (F k) _ wr x0 hlt (HSZ.out k) (hs k hlt).1 (hs k hlt).2)
      have HN := Lib.hid (show KeptLay w d g g2 n c f0 F (.int .i64 ((k : Int) + 1)) (wr.setCell ⟨g, k, none⟩ (.string (F k))) from
        ⟨k + 1, by omega, by simp, hbe.setCell (by simp) _, by rw [World.cell?_setCell_other _ _ _ _ (fun e => by cases e; omega)]; exact x0, (hs.set k hlt (F k)).congr (fun i _ => by
          by_cases h1 : i = k
          · rw [if_pos h1, if_pos (by omega), h1]
          · rw [if_neg h1]
            by_cases h2 : i < k
            · rw [if_pos h2, if_pos (by omega)]
            · rw [if_neg h2, if_neg (by omega)]), hD.otherCell (by omega) _ _⟩)
      clear hbe x0 hs hD
      go_wp2_with fail
      refine HL.out.mono ?_
      rintro e w4 ⟨rfl, rfl⟩
      go_wp2_with fail
      exact ⟨HN.out, by simp [intOf]; omega⟩
    · obtain rfl : k = n := by omega
      have BE := Lib.hid hbe
      have HS := Lib.hid (hs.congr (f' := F) (fun i hi => by rw [if_pos hi]))
      clear hbe x0 hs hD
      go_wp2_with fail
      go_ret
      exact ⟨rfl, BE.out, HS.out⟩
end Go.Proofs.YtghggelkmhdhfaaGreatDoor

namespace Go.Proofs.YtghggelkmhdhfaaGreatDoor
open Go.RowKit

/-- A disk with an empty file system, and a side of it without changes. -/
def SideAt (A B C d g s p : Nat) (W : World) : Prop := (∃ c, W.cell? ⟨d, 0, none⟩ = some (.slice (some ⟨g, 0, none⟩) (fiN A B C A) c)) ∧ SRow W g (fiN A B C A) (fmtF A B C) ∧
  W.cell? ⟨s, 0, none⟩ = some (.pointer (some ⟨p, 0, none⟩)) ∧ W.cell? ⟨s, 1, none⟩ = some (.pointer (some ⟨d, 0, none⟩)) ∧ W.cell? ⟨p, 0, none⟩ = some (.slice none 0 0) ∧ W.cell? ⟨p, 1, none⟩ = some (.int .i64 0) ∧ ∀ o, W.frozen? ⟨p, o, none⟩ = false
theorem SideAt.below {A B C d g s p : Nat} {W w' : World} (h : SideAt A B C d g s p W) (hb : Below W.heap.size W w') : SideAt A B C d g s p w' := by
  obtain ⟨⟨c, h0⟩, h1, h2, h3, h4, h5, h6⟩ := h
  have e : ∀ q v, W.cell? q = some v → w'.cell? q = some v := fun q v h => by rw [hb.cell (World.block_lt_of_cell? _ _ h)]; exact h
  have hl : p < W.heap.size := World.block_lt_of_cell? W ⟨p, 0, none⟩ h4
  exact ⟨⟨c, e _ _ h0⟩, h1.below hb, e _ _ h2, e _ _ h3, e _ _ h4, e _ _ h5, fun o => by rw [hb.frozen (by simpa using hl)]; exact h6 o⟩
def LaidIs (w : World) (A B C : Nat) (e : Ending) (w' : World) : Prop := ∃ d g s p, e = .returned (.tuple #[.pointer (some ⟨d, 0, none⟩), .pointer (some ⟨s, 0, none⟩)]) ∧ w.heap.size ≤ p ∧ Below w.heap.size w w' ∧ SideAt A B C d g s p w'

set_option maxHeartbeats 2000000 in
theorem laid_any {A B C : Nat} (G : Geo A B C) (w : World) :
    Calls Tryz.prog 16 #[.agg #[.int .i64 (A : Int), .int .i64 (B : Int), .int .i64 (C : Int)]] w (LaidIs w A B C) := by
  have HZ := Lib.hid (fun W => size_any G W)
  have hf2 := fiN_le (k := A) G (Nat.le_refl _)
  have HDN := Lib.hid (fun W => disknew_any (fiN A B C A) (by omega) (by omega) W)
  have HL := Lib.hid (fun d g c f0 W h1 h2 h3 h4 => lay_any G d g c f0 W h1 h2 h3 h4)
  have HS := Lib.hid (fun d W => softnew_any d W)
  unfold LaidIs SideAt
  unfold DiskIs at HDN
  unfold SoftNew at HS
  generalize fmtF A B C = F at *
  generalize fiN A B C A = n at *
  go_enter Tryz.func16, Tryz.ntmps16
  go_wp2_with fail
  refine (HZ.out _).mono ?_
  rintro e w1 ⟨rfl, hb1⟩
  have X1 : Box w1 w.heap.size A B C := ⟨by rw [hb1.cell (by simp <;> omega)]; simp [go_sem], by rw [hb1.cell (by simp <;> omega)]; simp [go_sem], by rw [hb1.cell (by simp <;> omega)]; simp [go_sem]⟩
  have B1 : Below w.heap.size w w1 := by (repeat' (first | exact Below.refl _ _ | assumption | refine Below.setCell ?_ ?_ _ | refine Below.drew ?_ | refine below_drewN ?_ _ | refine Below.alloc ?_ ?_ _ | refine below_of_grown ?_ (by assumption) ?_ | refine Below.trans ?_ (Below.mono (by assumption) ?_) | omega | (simp; done) | (simp; omega)))
  have HX1 := Lib.hid X1
  clear hb1 X1
  go_wp2_with fail
  refine (HDN.out _).mono ?_
  rintro e w2 ⟨d, g, c, rfl, hd, hdg, hgl, hb2, x0, hs⟩
  have X2 := HX1.out.below hb2
  have l1 := HX1.out.lt
  have B2 := Lib.hid (B1.trans (hb2.mono B1.size))
  have HX2 := Lib.hid X2
  have c0 := X2.1
  have c1 := X2.2.1
  have c2 := X2.2.2
  have HSR := Lib.hid hs
  have hwd : w.heap.size < d := by omega
  have hX0 := Lib.hid x0
  clear hb2 X2 B1 HX1 hs x0
  go_wp2_with fail
  refine (HL.out d g c _ _ hdg hgl hX0.out HSR.out).mono ?_
  rintro e w3 ⟨rfl, hb3, hs3⟩
  have B3 := Lib.hid (B2.out.trans (hb3.mono (by omega)))
  have y0 : w3.cell? ⟨d, 0, none⟩ = some (.slice (some ⟨g, 0, none⟩) n c) := by rw [hb3.cell hdg]; exact hX0.out
  have HY0 := Lib.hid y0
  have HS3 := Lib.hid hs3
  clear hb3 hs3 hX0 HSR B2 y0 c0 c1 c2
  go_wp2_with fail
  refine (HS.out d _).mono ?_
  rintro e w4 ⟨s, p, rfl, hp, hs', hb4, z0, z1, z2, z3, z4⟩
  have B4 := Lib.hid (B3.out.trans (hb4.mono B3.out.size))
  have hp2 : w.heap.size ≤ p := Nat.le_trans B3.out.size hp
  have y4 : w4.cell? ⟨d, 0, none⟩ = some (.slice (some ⟨g, 0, none⟩) n c) := by rw [hb4.cell (World.block_lt_of_cell? _ _ HY0.out)]; exact HY0.out
  have HS4 := Lib.hid (HS3.out.below hb4)
  have HSide := Lib.hid (And.intro z0 (And.intro z1 (And.intro z2 (And.intro z3 z4))))
  have HY4 := Lib.hid y4
  clear hb4 z0 z1 z2 z3 z4 y4
  go_wp2_with fail
  refine bodyPost_ret (v := .tuple #[.pointer (some ⟨d, 0, none⟩), .pointer (some ⟨s, 0, none⟩)]) (by simp [results, Tryz.results16, go_sem]) rfl ⟨d, g, s, p, rfl, hp2, B4.out, ⟨c, HY4.out⟩, HS4.out, HSide.out⟩
end Go.Proofs.YtghggelkmhdhfaaGreatDoor
