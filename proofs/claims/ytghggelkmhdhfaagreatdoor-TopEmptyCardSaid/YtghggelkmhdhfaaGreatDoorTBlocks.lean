
/-
  Numbers that are all 0 are no blocks: inode.blocks, walked at them.
-/
import Derived.Test.YtghggelkmhdhfaaGreatDoorTWhat
import Derived.Test.YtghggelkmhdhfaaGreatDoorTRowS
namespace Go.Proofs.YtghggelkmhdhfaaGreatDoor
open Go.RowKit

def KeptZ (w : World) (A B C n : Nat) (i : Value) (wr : World) : Prop := ∃ k : Nat, k ≤ n ∧ i = .int .i64 k ∧ Below w.heap.size w wr ∧ Box wr w.heap.size A B C

set_option maxHeartbeats 1000000 in
theorem blocks_zero {A B C : Nat} (G : Geo A B C) (b o n c : Nat) (w : World) (hn : n ≤ 100) (hb : b < w.heap.size) (hc : ∀ i, i < n → w.cell? ⟨b, o + i, none⟩ = some (.int .i64 0)) :
    Calls Tryz.prog 74 #[.agg #[.int .i64 (A : Int), .int .i64 (B : Int), .int .i64 (C : Int)], .slice (some ⟨b, o, none⟩) n c] w fun e w' => e = .returned (.bool true) ∧ Below w.heap.size w w' := by
  have hw0 := fun W => what_any (k := 0) (kind := 0) (num := 0) G (.inl ⟨rfl, rfl, rfl⟩) W
  have HW := Lib.hid hw0
  have HC := Lib.hid hc
  clear hw0 hc
  go_enter Tryz.func74, Tryz.ntmps74
  go_wp2_with fail
  go_loopw [12] (fun i wr => KeptZ w A B C n i wr) (fun i _ => n - (intOf i).toNat)
  case atStart => exact ⟨0, by omega, rfl, (Below.refl _ _).alloc (Nat.le_refl _) _, by simp [go_sem], by simp [go_sem], by simp [go_sem]⟩
  case round =>
    obtain ⟨k, hk, rfl, hbe, hbox⟩ := hrel
    have hzr := hbe.size
    by_cases hlt : k < n
    · have x0 : wr.cell? ⟨b, o + k, none⟩ = some (.int .i64 0) := by rw [hbe.cell (by simpa using hb)]; exact HC.out k hlt
      have BE := Lib.hid hbe
      have X := Lib.hid hbox
      have b0 := hbox.1
      have b1 := hbox.2.1
      have b2 := hbox.2.2
      have hbx := hbox.lt
      have lk : (k : Int) < n := by omega
      have lk0 : (0 : Int) ≤ k := by omega
      have hbr : b < wr.heap.size := by omega
      clear hbe hbox
      go_wp2_with fail
      refine (HW.out _).mono ?_
      rintro e w4 ⟨rfl, hb4⟩
      have HN := Lib.hid (show KeptZ w A B C n (.int .i64 ((k : Int) + 1)) w4 from ⟨k + 1, by omega, by simp, BE.out.trans (Below.mono hb4 hzr), X.out.below hb4⟩)
      clear hb4 BE X b0 b1 b2 x0
      go_wp2_with fail
      exact ⟨HN.out, by simp [intOf]; omega⟩
    · obtain rfl : k = n := by omega
      have BE := Lib.hid hbe
      clear hbe hbox
      go_wp2_with fail
      go_ret
      exact ⟨rfl, BE.out⟩
end Go.Proofs.YtghggelkmhdhfaaGreatDoor
