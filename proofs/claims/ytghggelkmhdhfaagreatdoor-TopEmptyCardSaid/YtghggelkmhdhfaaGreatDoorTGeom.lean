
/-
  Where everything stands, of a geometry that may be: geom.may, Inodes, Regions, long, walked.
-/
import Derived.Test.YtghggelkmhdhfaaGreatDoorGeo
import Derived.Deep.RegionHeld3
import Derived.Deep.DeepCutAuto
import Derived.IntWalk
import Derived.RegionTactic
import Derived.Deep.RegionWith
namespace Go.Proofs.YtghggelkmhdhfaaGreatDoor
open Go.RowKit

/-- A geometry that may be. -/
def Geo (A B C : Nat) : Prop := 1 ≤ A ∧ A ≤ 4 ∧ 1 ≤ B ∧ B ≤ 32 ∧ 1 ≤ C ∧ C ≤ 64
theorem Geo.ok {A B C : Nat} (h : Geo A B C) : geomOk A B C = true := by
  obtain ⟨h1, h2, h3, h4, h5, h6⟩ := h
  rw [geomOk_iff]
  omega
/-- Regions; sectors of the table; sectors of a group; a group's first one; all. -/
def rgN (A B : Nat) : Nat := A + A * B
def tsN (A B : Nat) : Nat := (rgN A B + 15) / 16
def lgN (B C : Nat) : Nat := 2 + B + C
def fiN (A B C k : Nat) : Nat := 2 + tsN A B + k * lgN B C
theorem mulAB {A B C : Nat} (h : Geo A B C) : A * B ≤ 128 ∧ 1 ≤ A * B := by
  obtain ⟨h1, h2, h3, h4, _, _⟩ := h
  exact ⟨Nat.mul_le_mul h2 h4, Nat.mul_le_mul h1 h3⟩
theorem rgN_le {A B C : Nat} (h : Geo A B C) : rgN A B ≤ 132 ∧ 2 ≤ rgN A B := by
  have := mulAB h
  obtain ⟨h1, h2, _⟩ := h
  unfold rgN
  omega
theorem tsN_le {A B C : Nat} (h : Geo A B C) : tsN A B ≤ 9 ∧ 1 ≤ tsN A B := by
  have := rgN_le h
  unfold tsN
  omega
theorem lgN_le {A B C : Nat} (h : Geo A B C) : lgN B C ≤ 98 ∧ 4 ≤ lgN B C := by
  obtain ⟨h1, h2, h3, h4, h5, h6⟩ := h
  unfold lgN
  omega
theorem klg_le {A B C k : Nat} (h : Geo A B C) (hk : k ≤ A) : k * lgN B C ≤ 392 := by
  have h1 := lgN_le h
  obtain ⟨_, h2, _⟩ := h
  exact Nat.mul_le_mul (show k ≤ 4 by omega) h1.1
theorem fiN_le {A B C k : Nat} (h : Geo A B C) (hk : k ≤ A) : fiN A B C k ≤ 403 ∧ 3 ≤ fiN A B C k := by
  have h1 := klg_le h hk
  have h2 := tsN_le h
  unfold fiN
  omega

/-- What a drawn region keeps of a geometry's box. -/
theorem keepS {w W w' : World} {b : Nat} {x y z : Value} (hb : Below W.heap.size W w') (h : W.cell? ⟨b, 0, none⟩ = some x ∧ W.cell? ⟨b, 1, none⟩ = some y ∧ W.cell? ⟨b, 2, none⟩ = some z ∧ Below w.heap.size w W) :
    w'.cell? ⟨b, 0, none⟩ = some x ∧ w'.cell? ⟨b, 1, none⟩ = some y ∧ w'.cell? ⟨b, 2, none⟩ = some z ∧ Below w.heap.size w w' := by
  obtain ⟨h0, h1, h2, hB⟩ := h
  have l0 := World.block_lt_of_cell? W _ h0
  exact ⟨by rw [hb.cell (p := ⟨b, 0, none⟩) l0, h0], by rw [hb.cell (p := ⟨b, 1, none⟩) l0, h1], by rw [hb.cell (p := ⟨b, 2, none⟩) l0, h2], hB.trans (hb.mono hB.size)⟩

set_option maxHeartbeats 400000 in
theorem gmay_any {A B C : Nat} (G : Geo A B C) (w : World) :
    Calls Tryz.prog 32 #[.agg #[.int .i64 (A : Int), .int .i64 (B : Int), .int .i64 (C : Int)]] w fun e w' => e = .returned (.bool true) ∧ Below w.heap.size w w' := by
  have HC := Lib.hid (fun W => check_yes A B C W G.ok)
  go_enter Tryz.func32, Tryz.ntmps32
  go_wp2_with fail
  refine (HC.out _).mono ?_
  rintro e w1 ⟨rfl, hb1⟩
  go_wp2_with fail
  go_ret
  exact ⟨rfl, by (repeat' (first | exact Below.refl _ _ | assumption | refine Below.setCell ?_ ?_ _ | refine Below.drew ?_ | refine below_drewN ?_ _ | refine Below.alloc ?_ ?_ _ | refine below_of_grown ?_ (by assumption) ?_ | refine Below.trans ?_ (Below.mono (by assumption) ?_) | omega | (simp; done) | (simp; omega)))⟩

set_option maxHeartbeats 400000 in
theorem inodes_any {A B C : Nat} (G : Geo A B C) (w : World) :
    Calls Tryz.prog 33 #[.agg #[.int .i64 (A : Int), .int .i64 (B : Int), .int .i64 (C : Int)]] w fun e w' => e = .returned (.int .i64 ((A * B : Nat) : Int)) ∧ Below w.heap.size w w' := by
  have HC := Lib.hid (fun W => gmay_any G W)
  have hm := (mulAB G).1
  obtain ⟨M, hM⟩ : ∃ M, M = A * B := ⟨_, rfl⟩
  have hAB : (A : Int) * (B : Int) = (M : Int) := by rw [hM]; simp
  rw [← hM] at hm ⊢
  clear hM
  go_enter Tryz.func33, Tryz.ntmps33
  go_wp2_with fail
  refine (HC.out _).mono ?_
  rintro e w1 ⟨rfl, hb1⟩
  have c0 : w1.cell? ⟨w.heap.size, 0, none⟩ = some (.int .i64 (A : Int)) := by rw [hb1.cell (by simp <;> omega)]; simp [go_sem]
  have c1 : w1.cell? ⟨w.heap.size, 1, none⟩ = some (.int .i64 (B : Int)) := by rw [hb1.cell (by simp <;> omega)]; simp [go_sem]
  have hb2 : Below w.heap.size w w1 := by (repeat' (first | exact Below.refl _ _ | assumption | refine Below.setCell ?_ ?_ _ | refine Below.drew ?_ | refine below_drewN ?_ _ | refine Below.alloc ?_ ?_ _ | refine below_of_grown ?_ (by assumption) ?_ | refine Below.trans ?_ (Below.mono (by assumption) ?_) | omega | (simp; done) | (simp; omega)))
  clear hb1
  go_wp2_with fail
  go_ret
  exact ⟨rfl, hb2⟩

set_option maxHeartbeats 400000 in
theorem long_any {A B C : Nat} (G : Geo A B C) (w : World) :
    Calls Tryz.prog 36 #[.agg #[.int .i64 (A : Int), .int .i64 (B : Int), .int .i64 (C : Int)]] w fun e w' => e = .returned (.int .i64 ((lgN B C : Nat) : Int)) ∧ Below w.heap.size w w' := by
  have hl := (lgN_le G).1
  have hL : (2 : Int) + (B : Int) + (C : Int) = ((lgN B C : Nat) : Int) := by unfold lgN; omega
  generalize lgN B C = L at *
  go_enter Tryz.func36, Tryz.ntmps36
  go_wp2_with fail
  go_ret
  exact ⟨by simp, (Below.refl _ _).alloc (Nat.le_refl _) _⟩

set_option maxHeartbeats 1000000 in
theorem regions_any {A B C : Nat} (G : Geo A B C) (w : World) :
    Calls Tryz.prog 10 #[.agg #[.int .i64 (A : Int), .int .i64 (B : Int), .int .i64 (C : Int)]] w fun e w' => e = .returned (.int .i64 ((rgN A B : Nat) : Int)) ∧ Below w.heap.size w w' := by
  have HC := Lib.hid (fun W => gmay_any G W)
  have HI := Lib.hid (fun W => inodes_any G W)
  have hm := (mulAB G).1
  have hr := (rgN_le G).1
  have hR : (A : Int) + ((A * B : Nat) : Int) = ((rgN A B : Nat) : Int) := by unfold rgN; omega
  have hW : IntKind.i64.wrap ((rgN A B : Nat) : Int) = ((rgN A B : Nat) : Int) := IntWalk.i64_in _ (by omega)
  generalize rgN A B = R at *
  generalize A * B = M at *
  go_enter Tryz.func10, Tryz.ntmps10
  go_wp2_with fail
  refine (HC.out _).mono ?_
  rintro e w1 ⟨rfl, hb1⟩
  have c0 : w1.cell? ⟨w.heap.size, 0, none⟩ = some (.int .i64 (A : Int)) := by rw [hb1.cell (by simp <;> omega)]; simp [go_sem]
  have c1 : w1.cell? ⟨w.heap.size, 1, none⟩ = some (.int .i64 (B : Int)) := by rw [hb1.cell (by simp <;> omega)]; simp [go_sem]
  have c2 : w1.cell? ⟨w.heap.size, 2, none⟩ = some (.int .i64 (C : Int)) := by rw [hb1.cell (by simp <;> omega)]; simp [go_sem]
  have hb2 : Below w.heap.size w w1 := by (repeat' (first | exact Below.refl _ _ | assumption | refine Below.setCell ?_ ?_ _ | refine Below.drew ?_ | refine below_drewN ?_ _ | refine Below.alloc ?_ ?_ _ | refine below_of_grown ?_ (by assumption) ?_ | refine Below.trans ?_ (Below.mono (by assumption) ?_) | omega | (simp; done) | (simp; omega)))
  clear hb1
  go_wp2_with fail
  go_region_held3 (fun w' => w'.cell? ⟨w.heap.size, 0, none⟩ = some (.int .i64 (A : Int)) ∧ w'.cell? ⟨w.heap.size, 1, none⟩ = some (.int .i64 (B : Int)) ∧ w'.cell? ⟨w.heap.size, 2, none⟩ = some (.int .i64 (C : Int)) ∧ Below w.heap.size w w')
    (first
      | exact ⟨c0, c1, c2, hb2.drew⟩
      | exact keepS (by assumption) (by assumption))
    (first
      | (go_at_call 33; refine (HI.out _).mono ?_; rintro e w7 ⟨rfl, hb7⟩))
  go_split_ands
  go_wp2_with fail
  go_ret
  exact ⟨rfl, by assumption⟩
end Go.Proofs.YtghggelkmhdhfaaGreatDoor
