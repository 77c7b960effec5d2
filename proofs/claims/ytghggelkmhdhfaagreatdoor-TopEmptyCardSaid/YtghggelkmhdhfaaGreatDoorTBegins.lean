
/-
  A side takes an inode: begins, walked.
-/
import Derived.Test.YtghggelkmhdhfaaGreatDoorTTake
namespace Go.Proofs.YtghggelkmhdhfaaGreatDoor
open Go.RowKit

theorem chk_root : chkE (ofS [0]) ((2 : Nat) : Int) = 0 := by
  unfold chkE
  rw [if_pos (by omega), if_pos (by decide +kernel)]
theorem find_root : findI (ofS [0]) ((2 : Nat) : Int) 0 = ((1 : Nat) : Int) ∧ findE (ofS [0]) ((2 : Nat) : Int) 0 = 0 := by
  have ha : askE (ofS [0]) ((2 : Nat) : Int) 0 = 0 := by
    unfold askE
    rw [if_pos chk_root]
    decide +kernel
  have hf : ff (ofS [0]) 2 0 0 = 1 := by
    rw [ff_step (by omega) (by decide +kernel), ff_here (by omega) (by decide +kernel)]
  constructor
  · unfold findI
    rw [show ((2 : Nat) : Int).toNat = 2 from rfl, show (0 : Int).toNat = 0 from rfl, hf, if_pos ⟨ha, by omega⟩]
  · unfold findE
    rw [show ((2 : Nat) : Int).toNat = 2 from rfl, show (0 : Int).toNat = 0 from rfl, hf, if_pos ha, if_pos (by omega)]
theorem fmtF_map (A B C : Nat) : fmtF A B C (fiN A B C 0) = ofS [0] := by
  unfold fmtF
  rw [if_neg (by omega), if_pos rfl]
theorem SideAt.side {A B C d g s p : Nat} {W : World} (h : SideAt A B C d g s p W) (hF : fiN A B C 0 < fiN A B C A) : SideN s p d g (fiN A B C A) (fiN A B C 0) (fmtF A B C (fiN A B C 0)) W ∧ ¬ s = p := by
  obtain ⟨⟨c, h0⟩, h1, h2, h3, h4, h5, h6⟩ := h
  refine ⟨⟨h2, h3, ⟨c, h0⟩, (h1 _ hF).1, h4, h5, h6⟩, ?_⟩
  intro e
  subst e
  rw [h2] at h4
  cases h4
theorem geo122 : Geo 1 2 2 := by
  unfold Geo
  omega

set_option maxHeartbeats 2000000 in
theorem begins_any (w : World) : Calls Tryz.prog 4 #[] w fun e w' => e = .returned (.bool true) ∧ Below w.heap.size w w' := by
  have hL : ∀ W, Calls Tryz.prog 16 #[.agg #[.int .i64 1, .int .i64 2, .int .i64 2]] W (LaidIs W 1 2 2) := fun W => laid_any geo122 W
  have HL := Lib.hid hL
  have hy : fmtF 1 2 2 (fiN 1 2 2 0) = ofS [0] := fmtF_map 1 2 2
  have hI : ∀ (s p d g b o c : Nat) (W : World), ¬ s = p → b < W.heap.size → W.cell? ⟨b, o, none⟩ = some (.int .i64 0) → SideN s p d g (fiN 1 2 2 1) (fiN 1 2 2 0) (fmtF 1 2 2 (fiN 1 2 2 0)) W →
      Calls Tryz.prog 17 #[.pointer (some ⟨s, 0, none⟩), .agg #[.int .i64 1, .int .i64 2, .int .i64 2], .slice (some ⟨b, o, none⟩) 1 c] W fun e w' => e = .returned (.tuple #[.int .i64 2, .int .i64 1, .int .i64 0]) ∧ But p W w' := fun s p d g b o c W hsp hb hz hS => by
    rw [hy] at hS
    exact ainode_any geo122 s p d g (fiN 1 2 2 1) b o c (ofS [0]) W (by decide) (by decide) (size_ofS _) chk_root 1 (by omega) find_root.1 find_root.2 hsp hb hz hS
  have HI := Lib.hid hI
  unfold LaidIs at HL
  clear hL hI hy
  go_enter Tryz.func4, Tryz.ntmps4
  go_wp2_with fail
  refine (HL.out _).mono ?_
  rintro e w1 ⟨d, g, s, p, rfl, hp, hb1, hs⟩
  have c0 : w1.cell? ⟨w.heap.size, 0, none⟩ = some (.int .i64 1) := by rw [hb1.cell (by simp <;> omega)]; simp [go_sem]
  have c1 : w1.cell? ⟨w.heap.size, 1, none⟩ = some (.int .i64 2) := by rw [hb1.cell (by simp <;> omega)]; simp [go_sem]
  have c2 : w1.cell? ⟨w.heap.size, 2, none⟩ = some (.int .i64 2) := by rw [hb1.cell (by simp <;> omega)]; simp [go_sem]
  have B1 := Lib.hid (show Below w.heap.size w w1 from by (repeat' (first | exact Below.refl _ _ | assumption | refine Below.setCell ?_ ?_ _ | refine Below.drew ?_ | refine below_drewN ?_ _ | refine Below.alloc ?_ ?_ _ | refine below_of_grown ?_ (by assumption) ?_ | refine Below.trans ?_ (Below.mono (by assumption) ?_) | omega | (simp; done) | (simp; omega))))
  have hpw : w.heap.size ≤ p := by simp at hp; omega
  have HSD := Lib.hid (hs.side (by decide))
  clear hb1 hs hp
  go_wp2_with fail
  have hA := (Below.refl w1.heap.size w1).alloc (Nat.le_refl _) (.cells #[.int .i64 0] 3)
  refine (HI.out s p d g w1.heap.size 0 1 _ HSD.out.2 (by simp) (by simp [go_sem]) (HSD.out.1.below hA)).mono ?_
  rintro e w2 ⟨rfl, hb2⟩
  have B2 := Lib.hid ((B1.out.trans (hA.mono B1.out.size)).trans (hb2.1.mono hpw))
  clear hb2 hA B1 HSD c0 c1 c2
  go_wp2_with fail
  go_ret
  exact ⟨rfl, B2.out⟩
end Go.Proofs.YtghggelkmhdhfaaGreatDoor
