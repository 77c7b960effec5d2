
/-
  Where everything stands: geom.first, Size, within, What, Map, Inode, Table; table.sectors, walked.
-/
import Derived.Test.YtghggelkmhdhfaaGreatDoorTGeom
namespace Go.Proofs.YtghggelkmhdhfaaGreatDoor
open Go.RowKit

set_option maxHeartbeats 1000000 in
theorem first_any {A B C k : Nat} (G : Geo A B C) (hk : k ≤ A) (w : World) :
    Calls Tryz.prog 35 #[.agg #[.int .i64 (A : Int), .int .i64 (B : Int), .int .i64 (C : Int)], .int .i64 (k : Int)] w fun e w' => e = .returned (.int .i64 ((fiN A B C k : Nat) : Int)) ∧ Below w.heap.size w w' := by
  have HR := Lib.hid (fun W => regions_any G W)
  have HL := Lib.hid (fun W => long_any G W)
  have hr := (rgN_le G).1
  have hkl := klg_le G hk
  have ht := (tsN_le G).1
  have hf := (fiN_le G hk).1
  have hT2 : (((rgN A B : Nat) : Int) + 16 - 1).tdiv 16 = ((tsN A B : Nat) : Int) := by
    rw [Int.tdiv_eq_ediv_of_nonneg (by omega)]
    unfold tsN
    omega
  have hKL : (k : Int) * ((lgN B C : Nat) : Int) = ((k * lgN B C : Nat) : Int) := by simp
  have hF : (2 : Int) + ((tsN A B : Nat) : Int) + ((k * lgN B C : Nat) : Int) = ((fiN A B C k : Nat) : Int) := by
    unfold fiN; omega
  generalize fiN A B C k = F at *
  generalize tsN A B = T at *
  generalize k * lgN B C = KL at *
  generalize lgN B C = L at *
  generalize rgN A B = R at *
  have w1 : IntKind.i64.wrap ((R : Int) + 16) = (R : Int) + 16 := IntWalk.i64_in _ (by omega)
  have w2 : IntKind.i64.wrap ((R : Int) + 16 - 1) = (R : Int) + 16 - 1 := IntWalk.i64_in _ (by omega)
  have w3 : IntKind.i64.wrap (T : Int) = (T : Int) := IntWalk.i64_in _ (by omega)
  have w4 : IntKind.i64.wrap ((2 : Int) + T) = (2 : Int) + T := IntWalk.i64_in _ (by omega)
  have w5 : IntKind.i64.wrap (KL : Int) = KL := IntWalk.i64_in _ (by omega)
  have w6 : IntKind.i64.wrap (F : Int) = F := IntWalk.i64_in _ (by omega)
  go_enter Tryz.func35, Tryz.ntmps35
  go_wp2_with fail
  have c0 : (w.alloc (.cells #[.int .i64 (A : Int), .int .i64 (B : Int), .int .i64 (C : Int)] 23)).cell? ⟨w.heap.size, 0, none⟩ = some (.int .i64 (A : Int)) := by simp [go_sem]
  have c1 : (w.alloc (.cells #[.int .i64 (A : Int), .int .i64 (B : Int), .int .i64 (C : Int)] 23)).cell? ⟨w.heap.size, 1, none⟩ = some (.int .i64 (B : Int)) := by simp [go_sem]
  have c2 : (w.alloc (.cells #[.int .i64 (A : Int), .int .i64 (B : Int), .int .i64 (C : Int)] 23)).cell? ⟨w.heap.size, 2, none⟩ = some (.int .i64 (C : Int)) := by simp [go_sem]
  have hb2 : Below w.heap.size w (w.alloc (.cells #[.int .i64 (A : Int), .int .i64 (B : Int), .int .i64 (C : Int)] 23)) := (Below.refl _ _).alloc (Nat.le_refl _) _
  generalize w.alloc (.cells #[.int .i64 (A : Int), .int .i64 (B : Int), .int .i64 (C : Int)] 23) = W at *
  go_region_held3 (fun w' => w'.cell? ⟨w.heap.size, 0, none⟩ = some (.int .i64 (A : Int)) ∧ w'.cell? ⟨w.heap.size, 1, none⟩ = some (.int .i64 (B : Int)) ∧ w'.cell? ⟨w.heap.size, 2, none⟩ = some (.int .i64 (C : Int)) ∧ Below w.heap.size w w')
    (first
      | exact ⟨c0, c1, c2, hb2.drew⟩
      | exact keepS (by assumption) (by assumption))
    (first
      | (go_at_call 10; refine (HR.out _).mono ?_; rintro e w7 ⟨rfl, hb7⟩)
      | (go_at_call 36; refine (HL.out _).mono ?_; rintro e w8 ⟨rfl, hb8⟩))
  all_goals
    go_split_ands
    go_wp2_with fail
    go_ret
    exact ⟨rfl, by assumption⟩

set_option maxHeartbeats 400000 in
theorem size_any {A B C : Nat} (G : Geo A B C) (w : World) :
    Calls Tryz.prog 18 #[.agg #[.int .i64 (A : Int), .int .i64 (B : Int), .int .i64 (C : Int)]] w fun e w' => e = .returned (.int .i64 ((fiN A B C A : Nat) : Int)) ∧ Below w.heap.size w w' := by
  have HM := Lib.hid (fun W => gmay_any G W)
  have HF := Lib.hid (fun W => first_any (k := A) G (Nat.le_refl _) W)
  generalize fiN A B C A = F at *
  go_enter Tryz.func18, Tryz.ntmps18
  go_wp2_with fail
  refine (HM.out _).mono ?_
  rintro e w1 ⟨rfl, hb1⟩
  have c0 : w1.cell? ⟨w.heap.size, 0, none⟩ = some (.int .i64 (A : Int)) := by rw [hb1.cell (by simp <;> omega)]; simp [go_sem]
  have c1 : w1.cell? ⟨w.heap.size, 1, none⟩ = some (.int .i64 (B : Int)) := by rw [hb1.cell (by simp <;> omega)]; simp [go_sem]
  have c2 : w1.cell? ⟨w.heap.size, 2, none⟩ = some (.int .i64 (C : Int)) := by rw [hb1.cell (by simp <;> omega)]; simp [go_sem]
  have hb2 : Below w.heap.size w w1 := by (repeat' (first | exact Below.refl _ _ | assumption | refine Below.setCell ?_ ?_ _ | refine Below.drew ?_ | refine below_drewN ?_ _ | refine Below.alloc ?_ ?_ _ | refine below_of_grown ?_ (by assumption) ?_ | refine Below.trans ?_ (Below.mono (by assumption) ?_) | omega | (simp; done) | (simp; omega)))
  clear hb1
  go_wp2_with fail
  refine (HF.out _).mono ?_
  rintro e w2 ⟨rfl, hb3⟩
  go_wp2_with fail
  go_ret
  exact ⟨rfl, hb2.trans (hb3.mono hb2.size)⟩

def withE (n m : Int) : Int := if n < 0 ∨ m ≤ n then 1 else 0
set_option maxHeartbeats 400000 in
theorem within_any {A B C : Nat} (G : Geo A B C) (n m : Int) (w : World) :
    Calls Tryz.prog 34 #[.agg #[.int .i64 (A : Int), .int .i64 (B : Int), .int .i64 (C : Int)], .int .i64 n, .int .i64 m] w fun e w' => e = .returned (.int .i64 (withE n m)) ∧ Below w.heap.size w w' := by
  have HM := Lib.hid (fun W => gmay_any G W)
  by_cases h1 : n < 0
  · have hr : withE n m = 1 := by rw [withE, if_pos (.inl h1)]
    rw [hr]
    clear hr
    go_enter Tryz.func34, Tryz.ntmps34
    go_wp2_with fail
    refine (HM.out _).mono ?_
    rintro e w1 ⟨rfl, hb1⟩
    go_wp2_with fail
    go_ret
    exact ⟨rfl, by (repeat' (first | exact Below.refl _ _ | assumption | refine Below.setCell ?_ ?_ _ | refine Below.drew ?_ | refine below_drewN ?_ _ | refine Below.alloc ?_ ?_ _ | refine below_of_grown ?_ (by assumption) ?_ | refine Below.trans ?_ (Below.mono (by assumption) ?_) | omega | (simp; done) | (simp; omega)))⟩
  · have g1 : decide (n < 0) = false := decide_eq_false h1
    by_cases h2 : m ≤ n
    · have hr : withE n m = 1 := by rw [withE, if_pos (.inr h2)]
      have g2 : decide (m ≤ n) = true := decide_eq_true h2
      rw [hr]
      clear hr
      go_enter Tryz.func34, Tryz.ntmps34
      go_wp2_with fail
      refine (HM.out _).mono ?_
      rintro e w1 ⟨rfl, hb1⟩
      go_wp2_with fail
      go_ret
      exact ⟨rfl, by (repeat' (first | exact Below.refl _ _ | assumption | refine Below.setCell ?_ ?_ _ | refine Below.drew ?_ | refine below_drewN ?_ _ | refine Below.alloc ?_ ?_ _ | refine below_of_grown ?_ (by assumption) ?_ | refine Below.trans ?_ (Below.mono (by assumption) ?_) | omega | (simp; done) | (simp; omega)))⟩
    · have hr : withE n m = 0 := by rw [withE, if_neg (by omega)]
      have g2 : decide (m ≤ n) = false := decide_eq_false h2
      rw [hr]
      clear hr
      go_enter Tryz.func34, Tryz.ntmps34
      go_wp2_with fail
      refine (HM.out _).mono ?_
      rintro e w1 ⟨rfl, hb1⟩
      go_wp2_with fail
      go_ret
      exact ⟨rfl, by (repeat' (first | exact Below.refl _ _ | assumption | refine Below.setCell ?_ ?_ _ | refine Below.drew ?_ | refine below_drewN ?_ _ | refine Below.alloc ?_ ?_ _ | refine below_of_grown ?_ (by assumption) ?_ | refine Below.trans ?_ (Below.mono (by assumption) ?_) | omega | (simp; done) | (simp; omega)))⟩

set_option maxHeartbeats 400000 in
theorem map_any {A B C : Nat} (G : Geo A B C) (w : World) :
    Calls Tryz.prog 23 #[.agg #[.int .i64 (A : Int), .int .i64 (B : Int), .int .i64 (C : Int)], .int .i64 0, .bool false] w fun e w' => e = .returned (.tuple #[.int .i64 ((fiN A B C 0 : Nat) : Int), .int .i64 0]) ∧ Below w.heap.size w w' := by
  have hW := fun W => within_any G 0 A W
  have hw0 : withE 0 (A : Int) = 0 := by obtain ⟨h1, _⟩ := G; rw [withE, if_neg (by omega)]
  rw [hw0] at hW
  have HW := Lib.hid hW
  have HF := Lib.hid (fun W => first_any (k := 0) G (Nat.zero_le _) W)
  generalize fiN A B C 0 = F at *
  clear hW hw0
  go_enter Tryz.func23, Tryz.ntmps23
  go_wp2_with fail
  refine (HW.out _).mono ?_
  rintro e w1 ⟨rfl, hb1⟩
  have c0 : w1.cell? ⟨w.heap.size, 0, none⟩ = some (.int .i64 (A : Int)) := by rw [hb1.cell (by simp <;> omega)]; simp [go_sem]
  have c1 : w1.cell? ⟨w.heap.size, 1, none⟩ = some (.int .i64 (B : Int)) := by rw [hb1.cell (by simp <;> omega)]; simp [go_sem]
  have c2 : w1.cell? ⟨w.heap.size, 2, none⟩ = some (.int .i64 (C : Int)) := by rw [hb1.cell (by simp <;> omega)]; simp [go_sem]
  have hb2 : Below w.heap.size w w1 := by (repeat' (first | exact Below.refl _ _ | assumption | refine Below.setCell ?_ ?_ _ | refine Below.drew ?_ | refine below_drewN ?_ _ | refine Below.alloc ?_ ?_ _ | refine below_of_grown ?_ (by assumption) ?_ | refine Below.trans ?_ (Below.mono (by assumption) ?_) | omega | (simp; done) | (simp; omega)))
  clear hb1
  go_wp2_with fail
  refine (HF.out _).mono ?_
  rintro e w2 ⟨rfl, hb3⟩
  go_wp2_with fail
  go_ret2
  exact ⟨rfl, hb2.trans (hb3.mono hb2.size)⟩

set_option maxHeartbeats 400000 in
theorem sectors_any {A B C : Nat} (G : Geo A B C) (w : World) :
    Calls Tryz.prog 29 #[.agg #[.int .i64 (A : Int), .int .i64 (B : Int), .int .i64 (C : Int)]] w fun e w' => e = .returned (.int .i64 ((tsN A B : Nat) : Int)) ∧ Below w.heap.size w w' := by
  have HR := Lib.hid (fun W => regions_any G W)
  have hr := (rgN_le G).1
  have hT2 : ((((rgN A B : Nat) : Int) + 16 - 1)) / 16 = ((tsN A B : Nat) : Int) := by
    unfold tsN
    omega
  have HT := Lib.hid hT2
  generalize tsN A B = T at *
  generalize rgN A B = R at *
  clear hT2
  go_enter Tryz.func29, Tryz.ntmps29
  go_wp2_with fail
  refine (HR.out _).mono ?_
  rintro e w1 ⟨rfl, hb1⟩
  go_wp2_with fail
  go_ret
  refine ⟨?_, by (repeat' (first | exact Below.refl _ _ | assumption | refine Below.setCell ?_ ?_ _ | refine Below.drew ?_ | refine below_drewN ?_ _ | refine Below.alloc ?_ ?_ _ | refine below_of_grown ?_ (by assumption) ?_ | refine Below.trans ?_ (Below.mono (by assumption) ?_) | omega | (simp; done) | (simp; omega)))⟩
  rw [← HT.out]
  simp
end Go.Proofs.YtghggelkmhdhfaaGreatDoor
