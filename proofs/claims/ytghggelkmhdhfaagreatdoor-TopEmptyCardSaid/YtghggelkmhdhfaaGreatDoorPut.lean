
/-
  The patch that writes a number: field.Put, where it answers OK.
-/
import Derived.Test.YtghggelkmhdhfaaGreatDoorField
import Derived.IntWalk
namespace Go.Proofs.YtghggelkmhdhfaaGreatDoor
open Go.RowKit

theorem make2 (w : World) : (Instr.makeSlice 87 (.int .i64 2) (.int .i64 2)).run Tryz.prog w = .ok (.slice (some ⟨w.heap.size, 0, none⟩) 2 2) (w.alloc (.cells #[.int .u8 0, .int .u8 0] 5)) := by kernel_rfl
theorem make4 (w : World) : (Instr.makeSlice 87 (.int .i64 4) (.int .i64 4)).run Tryz.prog w = .ok (.slice (some ⟨w.heap.size, 0, none⟩) 4 4) (w.alloc (.cells #[.int .u8 0, .int .u8 0, .int .u8 0, .int .u8 0] 5)) := by kernel_rfl

theorem le_two (n : Int) (h0 : 0 ≤ n) (h1 : n < 65536) : [n % 256, n / 256].map (fun k => UInt8.ofNat k.toNat) = le n 2 := by
  have e : n / 256 = n / 256 % 256 := by omega
  rw [e]
  simp [le, List.range_succ]
theorem le_four (n : Int) (h0 : 0 ≤ n) (h1 : n < 4294967296) : [n % 256, n / 256 % 256, n / 65536 % 256, n / 16777216].map (fun k => UInt8.ofNat k.toNat) = le n 4 := by
  have e : n / 16777216 = n / 16777216 % 256 := by omega
  rw [e]
  simp [le, List.range_succ]

set_option maxHeartbeats 400000 in
set_option maxRecDepth 100000 in
theorem put4_any (off n : Int) (w : World) (ho : 0 ≤ off) (ho' : off ≤ 60) (hn : 0 ≤ n) (hn' : n < 4294967296) :
    Calls Tryz.prog 54 #[.int .i64 off, .int .i64 4, .int .i64 n] w fun e w' => e = .returned (.tuple #[.agg #[.int .i64 off, .string (str (le n 4))], .int .i64 0]) ∧ Below w.heap.size w w' := by
  have hi := Lib.hid (fun W => inside_yes off 4 W (decide_eq_true (by omega)))
  have hw := Lib.hid (fun W => wide_yes 4 W (by omega))
  have hmk := make4
  have hcv := fun o => conv_cells (P := Tryz.prog) (W := w.alloc o) (g := w.heap.size + 1) (n := 4) (cap := 4) (dst := 9) #[.int .u8 (n % 256), .int .u8 (n / 256 % 256), .int .u8 (n / 65536 % 256), .int .u8 (n / 16777216)] [n % 256, n / 256 % 256, n / 65536 % 256, n / 16777216] rfl rfl (by simp) Tryz.underlying87 Tryz.underlying5 Tryz.underlying9 (by simp; omega)
  rw [le_four n hn hn'] at hcv
  go_enter Tryz.func54, Tryz.ntmps54
  go_wp2_with fail
  refine (hw.out _).mono ?_
  rintro e w1 ⟨rfl, rfl⟩
  go_wp2_with fail
  refine (hi.out _).mono ?_
  rintro e w1 ⟨rfl, rfl⟩
  go_wp2_with fail
  refine wp_loop_rounds 5 ?_
  rw [rounds_succ]; go_wp2
  rw [rounds_succ]; go_wp2
  rw [rounds_succ]; go_wp2
  rw [rounds_succ]; go_wp2
  rw [rounds_succ]; go_wp2
  exact bodyPost_ret (v := .tuple #[.agg #[.int .i64 off, .string (str (le n 4))], .int .i64 0]) (by simp [results, Tryz.results54, go_sem]) rfl ⟨rfl, by (repeat' (first | exact Below.refl _ _ | assumption | refine Below.setCell ?_ ?_ _ | refine Below.drew ?_ | refine below_drewN ?_ _ | refine Below.alloc ?_ ?_ _ | refine below_of_grown ?_ (by assumption) ?_ | refine Below.trans ?_ (Below.mono (by assumption) ?_) | omega | (simp; done) | (simp; omega)))⟩

set_option maxHeartbeats 400000 in
set_option maxRecDepth 100000 in
theorem put2_any (off n : Int) (w : World) (ho : 0 ≤ off) (ho' : off ≤ 62) (hn : 0 ≤ n) (hn' : n < 65536) :
    Calls Tryz.prog 54 #[.int .i64 off, .int .i64 2, .int .i64 n] w fun e w' => e = .returned (.tuple #[.agg #[.int .i64 off, .string (str (le n 2))], .int .i64 0]) ∧ Below w.heap.size w w' := by
  have hi := Lib.hid (fun W => inside_yes off 2 W (decide_eq_true (by omega)))
  have hw := Lib.hid (fun W => wide_yes 2 W (by omega))
  have hmk := make2
  have hcv := fun o => conv_cells (P := Tryz.prog) (W := w.alloc o) (g := w.heap.size + 1) (n := 2) (cap := 2) (dst := 9) #[.int .u8 (n % 256), .int .u8 (n / 256)] [n % 256, n / 256] rfl rfl (by simp) Tryz.underlying87 Tryz.underlying5 Tryz.underlying9 (by simp; omega)
  rw [le_two n hn hn'] at hcv
  go_enter Tryz.func54, Tryz.ntmps54
  go_wp2_with fail
  refine (hw.out _).mono ?_
  rintro e w1 ⟨rfl, rfl⟩
  go_wp2_with fail
  refine (hi.out _).mono ?_
  rintro e w1 ⟨rfl, rfl⟩
  go_wp2_with fail
  refine wp_loop_rounds 3 ?_
  rw [rounds_succ]; go_wp2
  rw [rounds_succ]; go_wp2
  rw [rounds_succ]; go_wp2
  exact bodyPost_ret (v := .tuple #[.agg #[.int .i64 off, .string (str (le n 2))], .int .i64 0]) (by simp [results, Tryz.results54, go_sem]) rfl ⟨rfl, by (repeat' (first | exact Below.refl _ _ | assumption | refine Below.setCell ?_ ?_ _ | refine Below.drew ?_ | refine below_drewN ?_ _ | refine Below.alloc ?_ ?_ _ | refine below_of_grown ?_ (by assumption) ?_ | refine Below.trans ?_ (Below.mono (by assumption) ?_) | omega | (simp; done) | (simp; omega)))⟩
end Go.Proofs.YtghggelkmhdhfaaGreatDoor
