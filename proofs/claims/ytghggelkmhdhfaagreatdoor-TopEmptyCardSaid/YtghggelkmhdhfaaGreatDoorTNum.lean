
/-
  Numbers of one byte: field.Put and Get at them; inode.num, walked.
-/
import Derived.Test.YtghggelkmhdhfaaGreatDoorPut
import Derived.Test.YtghggelkmhdhfaaGreatDoorGet
namespace Go.Proofs.YtghggelkmhdhfaaGreatDoor
open Go.RowKit

theorem make1 (w : World) : (Instr.makeSlice 87 (.int .i64 1) (.int .i64 1)).run Tryz.prog w = .ok (.slice (some ⟨w.heap.size, 0, none⟩) 1 1) (w.alloc (.cells #[.int .u8 0] 5)) := by kernel_rfl
theorem le_one (n : Int) (h0 : 0 ≤ n) (h1 : n < 256) : [n].map (fun k => UInt8.ofNat k.toNat) = le n 1 := by
  have e : n % 256 = n := by omega
  simp [le, List.range_succ, e]

set_option maxHeartbeats 400000 in
set_option maxRecDepth 100000 in
theorem put1_any (off n : Int) (w : World) (ho : 0 ≤ off) (ho' : off ≤ 63) (hn : 0 ≤ n) (hn' : n < 256) :
    Calls Tryz.prog 54 #[.int .i64 off, .int .i64 1, .int .i64 n] w fun e w' => e = .returned (.tuple #[.agg #[.int .i64 off, .string (str (le n 1))], .int .i64 0]) ∧ Below w.heap.size w w' := by
  have hi := Lib.hid (fun W => inside_yes off 1 W (decide_eq_true (by omega)))
  have hw := Lib.hid (fun W => wide_yes 1 W (by omega))
  have hmk := make1
  have hcv := fun o => conv_cells (P := Tryz.prog) (W := w.alloc o) (g := w.heap.size + 1) (n := 1) (cap := 1) (dst := 9) #[.int .u8 n] [n] rfl rfl (by simp) Tryz.underlying87 Tryz.underlying5 Tryz.underlying9 (by simp; omega)
  rw [le_one n hn hn'] at hcv
  go_enter Tryz.func54, Tryz.ntmps54
  go_wp2_with fail
  refine (hw.out _).mono ?_
  rintro e w1 ⟨rfl, rfl⟩
  go_wp2_with fail
  refine (hi.out _).mono ?_
  rintro e w1 ⟨rfl, rfl⟩
  go_wp2_with fail
  refine wp_loop_rounds 2 ?_
  rw [rounds_succ]; go_wp2
  rw [rounds_succ]; go_wp2
  exact bodyPost_ret (v := .tuple #[.agg #[.int .i64 off, .string (str (le n 1))], .int .i64 0]) (by simp [results, Tryz.results54, go_sem]) rfl ⟨rfl, by (repeat' (first | exact Below.refl _ _ | assumption | refine Below.setCell ?_ ?_ _ | refine Below.drew ?_ | refine below_drewN ?_ _ | refine Below.alloc ?_ ?_ _ | refine below_of_grown ?_ (by assumption) ?_ | refine Below.trans ?_ (Below.mono (by assumption) ?_) | omega | (simp; done) | (simp; omega)))⟩

theorem num1_bits (s : ByteArray) (off : Nat) : bits BinOp.or IntKind.i64 0 (byteAt s off) = byteAt s off := by
  have h0 := byteAt_range s off
  rw [or8 0 _ (by omega) (by omega) (by omega) (by omega) (by omega), Int.zero_add]
set_option maxHeartbeats 400000 in
set_option maxRecDepth 100000 in
theorem get1_any (s : ByteArray) (off : Nat) (w : World) (hs : s.size = 64) (ho : off ≤ 63) :
    Calls Tryz.prog 27 #[.string s, .int .i64 off, .int .i64 1] w fun e w' => e = .returned (.tuple #[.int .i64 (byteAt s off), .int .i64 0]) ∧ w = w' := by
  have hi := Lib.hid (fun W => inside_yes (off : Int) 1 W (decide_eq_true (by omega)))
  have hw := Lib.hid (fun W => wide_yes 1 W (by omega))
  have l0 : (off : Int) < 64 := by omega
  have m0 : off < s.size := by omega
  obtain ⟨b0l, b0h⟩ := byteAt_range s off
  have w0 := wrap_byteAt s off m0
  have HN := Lib.hid (num1_bits s off)
  go_enter Tryz.func27, Tryz.ntmps27
  go_wp2_with fail
  refine (hw.out _).mono ?_
  rintro e w1 ⟨rfl, rfl⟩
  go_wp2_with fail
  refine (hi.out _).mono ?_
  rintro e w1 ⟨rfl, rfl⟩
  go_wp2_with fail
  go_ret2
  exact ⟨by rw [HN.out]; rfl, rfl⟩

set_option maxHeartbeats 400000 in
theorem inum_of (off k n : Int) (s : ByteArray) (w : World) (HP : ∀ W : World, Calls Tryz.prog 54 #[.int .i64 off, .int .i64 k, .int .i64 n] W fun e w' => e = .returned (.tuple #[.agg #[.int .i64 off, .string s], .int .i64 0]) ∧ Below W.heap.size W w') :
    Calls Tryz.prog 51 #[.int .i64 off, .int .i64 k, .int .i64 n] w fun e w' => e = .returned (.agg #[.int .i64 off, .string s]) ∧ Below w.heap.size w w' := by
  have HP := Lib.hid HP
  go_enter Tryz.func51, Tryz.ntmps51
  go_wp2_with fail
  refine (HP.out _).mono ?_
  rintro e w1 ⟨rfl, hb1⟩
  have hz1 := hb1.size
  simp at hz1
  have q0 : w1.cell? ⟨w.heap.size, 0, none⟩ = some (.int .i64 0) := by rw [hb1.cell (by simp <;> omega)]; simp [go_sem]
  have q1 : w1.cell? ⟨w.heap.size, 1, none⟩ = some (.string ⟨#[]⟩) := by rw [hb1.cell (by simp <;> omega)]; simp [go_sem]
  have uf : ∀ o, w1.frozen? ⟨w.heap.size, o, none⟩ = false := fun o => by rw [hb1.frozen (by simp <;> omega)]; simp [go_sem]
  have hb1' : Below w.heap.size w w1 := by (repeat' (first | exact Below.refl _ _ | assumption | refine Below.setCell ?_ ?_ _ | refine Below.drew ?_ | refine below_drewN ?_ _ | refine Below.alloc ?_ ?_ _ | refine below_of_grown ?_ (by assumption) ?_ | refine Below.trans ?_ (Below.mono (by assumption) ?_) | omega | (simp; done) | (simp; omega)))
  have hlt : w.heap.size < w1.heap.size := by omega
  clear hb1
  go_wp2_with fail
  refine bodyPost_ret (v := .agg #[.int .i64 off, .string s]) (by simp [results, Tryz.results51, go_sem, q0, q1, hlt]) rfl ⟨rfl, by (repeat' (first | exact Below.refl _ _ | assumption | refine Below.setCell ?_ ?_ _ | refine Below.drew ?_ | refine below_drewN ?_ _ | refine Below.alloc ?_ ?_ _ | refine below_of_grown ?_ (by assumption) ?_ | refine Below.trans ?_ (Below.mono (by assumption) ?_) | omega | (simp; done) | (simp; omega)))⟩
theorem inum1_any (off n : Int) (w : World) (ho : 0 ≤ off) (ho' : off ≤ 63) (hn : 0 ≤ n) (hn' : n < 256) :
    Calls Tryz.prog 51 #[.int .i64 off, .int .i64 1, .int .i64 n] w fun e w' => e = .returned (.agg #[.int .i64 off, .string (str (le n 1))]) ∧ Below w.heap.size w w' :=
  inum_of off 1 n _ w fun W => put1_any off n W ho ho' hn hn'
theorem inum2_any (off n : Int) (w : World) (ho : 0 ≤ off) (ho' : off ≤ 62) (hn : 0 ≤ n) (hn' : n < 65536) :
    Calls Tryz.prog 51 #[.int .i64 off, .int .i64 2, .int .i64 n] w fun e w' => e = .returned (.agg #[.int .i64 off, .string (str (le n 2))]) ∧ Below w.heap.size w w' :=
  inum_of off 2 n _ w fun W => put2_any off n W ho ho' hn hn'
end Go.Proofs.YtghggelkmhdhfaaGreatDoor
