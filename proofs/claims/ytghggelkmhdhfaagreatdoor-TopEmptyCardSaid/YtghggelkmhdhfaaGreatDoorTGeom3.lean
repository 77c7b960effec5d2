
/-
  Where a region stands in the table, where the root's inode stands, what a sector is: geom.Table, Inode, What, walked.
-/
import Derived.Test.YtghggelkmhdhfaaGreatDoorTGeom2
import Derived.BigQuiet
namespace Go.Proofs.YtghggelkmhdhfaaGreatDoor
open Go.RowKit

set_option maxHeartbeats 1000000 in
theorem table_any {A B C r : Nat} (G : Geo A B C) (hr : r < rgN A B) (w : World) :
    Calls Tryz.prog 30 #[.agg #[.int .i64 (A : Int), .int .i64 (B : Int), .int .i64 (C : Int)], .int .i64 (r : Int)] w fun e w' => e = .returned (.tuple #[.int .i64 ((2 + r / 16 : Nat) : Int), .int .i64 ((r % 16 * 4 : Nat) : Int), .int .i64 0]) ∧ Below w.heap.size w w' := by
  have HR := Lib.hid (fun W => regions_any G W)
  have hr1 := (rgN_le G).1
  have hW := fun W => within_any G (r : Int) ((rgN A B : Nat) : Int) W
  have hw0 : withE (r : Int) ((rgN A B : Nat) : Int) = 0 := by rw [withE, if_neg (by omega)]
  rw [hw0] at hW
  have HW := Lib.hid hW
  generalize rgN A B = R at *
  have hr2 : r < 132 := by omega
  clear hW hw0 hr hr1
  go_enter Tryz.func30, Tryz.ntmps30
  go_wp2_with fail
  have c0 : (w.alloc (.cells #[.int .i64 (A : Int), .int .i64 (B : Int), .int .i64 (C : Int)] 23)).cell? ⟨w.heap.size, 0, none⟩ = some (.int .i64 (A : Int)) := by simp [go_sem]
  have c1 : (w.alloc (.cells #[.int .i64 (A : Int), .int .i64 (B : Int), .int .i64 (C : Int)] 23)).cell? ⟨w.heap.size, 1, none⟩ = some (.int .i64 (B : Int)) := by simp [go_sem]
  have c2 : (w.alloc (.cells #[.int .i64 (A : Int), .int .i64 (B : Int), .int .i64 (C : Int)] 23)).cell? ⟨w.heap.size, 2, none⟩ = some (.int .i64 (C : Int)) := by simp [go_sem]
  have hb2 : Below w.heap.size w (w.alloc (.cells #[.int .i64 (A : Int), .int .i64 (B : Int), .int .i64 (C : Int)] 23)) := (Below.refl _ _).alloc (Nat.le_refl _) _
  generalize w.alloc (.cells #[.int .i64 (A : Int), .int .i64 (B : Int), .int .i64 (C : Int)] 23) = W at *
  go_region_held3 (fun w' => w'.cell? ⟨w.heap.size, 0, none⟩ = some (.int .i64 (A : Int)) ∧ w'.cell? ⟨w.heap.size, 1, none⟩ = some (.int .i64 (B : Int)) ∧ w'.cell? ⟨w.heap.size, 2, none⟩ = some (.int .i64 (C : Int)) ∧ Below w.heap.size w w')
    (first
      | exact ⟨c0, c1, c2, hb2.drew⟩
      | exact keepS (by assumption) (by assumption))
    (first
      | (go_at_call 10; refine (HR.out _).mono ?_; rintro e w7 ⟨rfl, hb7⟩)
      | (go_at_call 34; refine (HW.out _).mono ?_; rintro e w8 ⟨rfl, hb8⟩))
  all_goals
    go_split_ands
    go_wp2_with fail
    go_ret3
    exact ⟨by simp, by assumption⟩

set_option maxHeartbeats 1000000 in
/-- Where the root's inode stands. -/
theorem root_any {A B C : Nat} (G : Geo A B C) (w : World) :
    Calls Tryz.prog 25 #[.agg #[.int .i64 (A : Int), .int .i64 (B : Int), .int .i64 (C : Int)], .int .i64 1] w fun e w' => e = .returned (.tuple #[.int .i64 ((fiN A B C 0 + 2 : Nat) : Int), .int .i64 0, .int .i64 0, .int .i64 0]) ∧ Below w.heap.size w w' := by
  have HI := Lib.hid (fun W => inodes_any G W)
  have HF := Lib.hid (fun W => first_any (k := 0) G (Nat.zero_le _) W)
  have hf := (fiN_le (k := 0) G (Nat.zero_le _)).1
  obtain ⟨hm1, hm2⟩ := mulAB G
  have hB1 : 1 ≤ B ∧ B ≤ 32 := ⟨G.2.2.1, G.2.2.2.1⟩
  have hW := fun W => within_any G (1 : Int) (((A * B : Nat) : Int) + 1) W
  have hw0 : withE (1 : Int) (((A * B : Nat) : Int) + 1) = 0 := by rw [withE, if_neg (by omega)]
  rw [hw0] at hW
  have HW := Lib.hid hW
  generalize fiN A B C 0 = F at *
  generalize A * B = M at *
  have w1 : IntKind.i64.wrap ((M : Int) + 1) = (M : Int) + 1 := IntWalk.i64_in _ (by omega)
  have hB0 : ¬ (B : Int) = 0 := by omega
  clear hW hw0
  go_enter Tryz.func25, Tryz.ntmps25
  go_wp2_with fail
  have c0 : (w.alloc (.cells #[.int .i64 (A : Int), .int .i64 (B : Int), .int .i64 (C : Int)] 23)).cell? ⟨w.heap.size, 0, none⟩ = some (.int .i64 (A : Int)) := by simp [go_sem]
  have c1 : (w.alloc (.cells #[.int .i64 (A : Int), .int .i64 (B : Int), .int .i64 (C : Int)] 23)).cell? ⟨w.heap.size, 1, none⟩ = some (.int .i64 (B : Int)) := by simp [go_sem]
  have c2 : (w.alloc (.cells #[.int .i64 (A : Int), .int .i64 (B : Int), .int .i64 (C : Int)] 23)).cell? ⟨w.heap.size, 2, none⟩ = some (.int .i64 (C : Int)) := by simp [go_sem]
  have hb2 : Below w.heap.size w (w.alloc (.cells #[.int .i64 (A : Int), .int .i64 (B : Int), .int .i64 (C : Int)] 23)) := (Below.refl _ _).alloc (Nat.le_refl _) _
  generalize w.alloc (.cells #[.int .i64 (A : Int), .int .i64 (B : Int), .int .i64 (C : Int)] 23) = W at *
  go_region_held3 (fun w' => w'.cell? ⟨w.heap.size, 0, none⟩ = some (.int .i64 (A : Int)) ∧ w'.cell? ⟨w.heap.size, 1, none⟩ = some (.int .i64 (B : Int)) ∧ w'.cell? ⟨w.heap.size, 2, none⟩ = some (.int .i64 (C : Int)) ∧ Below w.heap.size w w')
    (first
      | exact ⟨c0, c1, c2, hb2.drew⟩
      | exact keepS (by assumption) (by assumption))
    (first
      | (go_at_call 33; refine (HI.out _).mono ?_; rintro e w7 ⟨rfl, hb7⟩)
      | (go_at_call 34; refine (HW.out _).mono ?_; rintro e w8 ⟨rfl, hb8⟩))
  all_goals
    go_split_ands
    clear w1
    rename_i d0 d1 d2 D
    have D' := Lib.hid D
    clear c0 c1 c2 hb2 D
    go_wp2_with fail
    go_quiet (fail)
    have D2 := Lib.hid (below_drewN D'.out nq)
    have hz2 := D2.out.size
    go_wp2_with fail
    refine (HF.out _).mono ?_
    rintro e w9 ⟨rfl, hb9⟩
    go_wp2_with fail
    refine bodyPost_ret (v := .tuple #[.int .i64 ((F + 2 : Nat) : Int), .int .i64 0, .int .i64 0, .int .i64 0]) (by simp [results, Tryz.results25, go_sem]) rfl ⟨rfl, D2.out.trans (hb9.mono hz2)⟩
end Go.Proofs.YtghggelkmhdhfaaGreatDoor
