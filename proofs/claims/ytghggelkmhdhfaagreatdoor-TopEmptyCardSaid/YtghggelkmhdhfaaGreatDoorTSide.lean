
/-
  slices.Sort, ContainsFunc of nothing; deps.New, walked. A disk's sectors: (*disk.Disk).Size, Read, wrong; a Deps without changes: of, walked. A sector behind no patches, seen without changes: field.Patched at none, (*deps.Deps).patched, View, walked. A side of a disk without changes: (*soft.Soft).Read, walked. A first change: slices.ContainsFunc of nothing; (*deps.Deps).Add at a Deps without changes, walked (under way).
-/
import Derived.Test.YtghggelkmhdhfaaGreatDoorKit
import Derived.Test.YtghggelkmhdhfaaGreatDoorShelf
import Derived.OwnWalkIn
import Derived.Test.YtghggelkmhdhfaaGreatDoorTPatch
namespace Go.Proofs.YtghggelkmhdhfaaGreatDoor
open Go.RowKit

set_option maxHeartbeats 1000000 in
theorem isort_none (p : Option Addr) (cap : Nat) (w : World) :
    Calls Tryz.prog 123 #[.slice p 0 cap, .int .i64 0, .int .i64 0] w fun e w' => e = .returned (.tuple #[]) ∧ w = w' := by
  go_enter Tryz.func123, Tryz.ntmps123
  go_wp2_with fail
  refine wp_loop_rounds 1 ?_
  rw [rounds_succ]
  go_wp2_with fail
  go_end0
  exact ⟨rfl, rfl⟩

set_option maxHeartbeats 2000000 in
set_option maxRecDepth 100000 in
theorem pdq_none (p : Option Addr) (cap : Nat) (n : Int) (w : World) :
    Calls Tryz.prog 120 #[.slice p 0 cap, .int .i64 0, .int .i64 0, .int .i64 n] w fun e w' => e = .returned (.tuple #[]) ∧ w = w' := by
  have H := Lib.hid (fun W => isort_none p cap W)
  go_enter Tryz.func120, Tryz.ntmps120
  go_wp2_with fail
  refine wp_loop_rounds 1 ?_
  rw [rounds_succ]
  go_wp2_with fail
  refine (H.out _).mono ?_
  rintro e w1 ⟨rfl, rfl⟩
  go_wp2_with fail
  refine bodyPost_ret (results_none rfl _ _ _) rfl ⟨rfl, rfl⟩

set_option maxHeartbeats 1000000 in
theorem sort_none (p : Option Addr) (cap : Nat) (w : World) :
    Calls Tryz.prog 112 #[.slice p 0 cap] w fun e w' => e = .returned (.tuple #[]) ∧ w = w' := by
  have HB := Lib.hid (fun W => Tryz.bits_Len 0 W (by omega) (by omega))
  have HP := Lib.hid (fun n W => pdq_none p cap n W)
  go_enter Tryz.func112, Tryz.ntmps112
  go_wp2_with fail
  refine (HB.out _).mono ?_
  rintro e w1 ⟨rfl, rfl⟩
  go_wp2_with fail
  refine (HP.out _ _).mono ?_
  rintro e w2 ⟨rfl, rfl⟩
  go_wp2_with fail
  go_end0
  exact ⟨rfl, rfl⟩
end Go.Proofs.YtghggelkmhdhfaaGreatDoor

namespace Go.Proofs.YtghggelkmhdhfaaGreatDoor
open Go.RowKit

set_option maxHeartbeats 400000 in
theorem dsize_any (d : Nat) (a : Option Addr) (n c : Nat) (w : World) (h : w.cell? ⟨d, 0, none⟩ = some (.slice a n c)) :
    Calls Tryz.prog 59 #[.pointer (some ⟨d, 0, none⟩)] w fun e w' => e = .returned (.int .i64 (n : Int)) ∧ w = w' := by
  go_enter Tryz.func59, Tryz.ntmps59
  go_wp2_with fail
  go_ret
  exact ⟨rfl, rfl⟩

set_option maxHeartbeats 400000 in
theorem dread_any (d g n c k : Nat) (s : ByteArray) (w : World) (h : w.cell? ⟨d, 0, none⟩ = some (.slice (some ⟨g, 0, none⟩) n c)) (hk : k < n) (hs : w.cell? ⟨g, k, none⟩ = some (.string s)) :
    Calls Tryz.prog 101 #[.pointer (some ⟨d, 0, none⟩), .int .i64 (k : Int)] w fun e w' => e = .returned (.tuple #[.string s, .int .i64 0]) ∧ w = w' := by
  have lk : (k : Int) < n := by omega
  have lk0 : (0 : Int) ≤ k := by omega
  go_enter Tryz.func101, Tryz.ntmps101
  go_wp2_with fail
  go_ret2
  exact ⟨rfl, rfl⟩

set_option maxHeartbeats 400000 in
theorem dwrong_any (d g n c k : Nat) (s : ByteArray) (w : World) (h : w.cell? ⟨d, 0, none⟩ = some (.slice (some ⟨g, 0, none⟩) n c)) (hk : k < n) (hs : s.size = 64) :
    Calls Tryz.prog 83 #[.pointer (some ⟨d, 0, none⟩), .int .i64 (k : Int), .string s] w fun e w' => e = .returned (.int .i64 0) ∧ w = w' := by
  have lk : (k : Int) < n := by omega
  have lk0 : (0 : Int) ≤ k := by omega
  have hz : ((s.size : Int) == 64) = true := by simp [hs]
  have hz2 : ((s.size : Int) != 64) = false := by simp [hs]
  clear hs
  go_enter Tryz.func83, Tryz.ntmps83
  go_wp2_with fail
  go_ret
  exact ⟨rfl, rfl⟩

set_option maxHeartbeats 400000 in
theorem dlay_any (d g n c k : Nat) (s y : ByteArray) (w : World) (h : w.cell? ⟨d, 0, none⟩ = some (.slice (some ⟨g, 0, none⟩) n c)) (hk : k < n) (hs : s.size = 64) (hy : w.cell? ⟨g, k, none⟩ = some (.string y)) (hf : w.frozen? ⟨g, k, none⟩ = false) :
    Calls Tryz.prog 60 #[.pointer (some ⟨d, 0, none⟩), .int .i64 (k : Int), .string s] w fun e w' => e = .returned (.int .i64 0) ∧ w.setCell ⟨g, k, none⟩ (.string s) = w' := by
  have lk : (k : Int) < n := by omega
  have lk0 : (0 : Int) ≤ k := by omega
  have HW := Lib.hid (dwrong_any d g n c k s w h hk hs)
  go_enter Tryz.func60, Tryz.ntmps60
  go_wp2_with fail
  refine HW.out.mono ?_
  rintro e w1 ⟨rfl, rfl⟩
  go_wp2_with fail
  go_ret
  exact ⟨rfl, rfl⟩

set_option maxHeartbeats 400000 in
theorem of_none (d : Nat) (at_ st : Int) (w : World) (h : w.cell? ⟨d, 0, none⟩ = some (.slice none 0 0)) :
    Calls Tryz.prog 111 #[.pointer (some ⟨d, 0, none⟩), .int .i64 at_, .int .i64 st] w fun e w' => e = .returned (.slice none 0 0) ∧ w = w' := by
  go_enter Tryz.func111, Tryz.ntmps111
  go_wp2_with fail
  refine wp_loop_rounds 1 ?_
  rw [rounds_succ]
  go_wp2_with fail
  go_ret
  exact ⟨rfl, rfl⟩
end Go.Proofs.YtghggelkmhdhfaaGreatDoor

namespace Go.Proofs.YtghggelkmhdhfaaGreatDoor
open Go.RowKit

theorem patched_nil (s : ByteArray) (w : World) (hs : s.size = 64) :
    Calls Tryz.prog 48 #[.string s, .slice none 0 0] w fun e w' => e = .returned (.tuple #[.string s, .int .i64 0]) ∧ Below w.heap.size w w' := by
  have hcv := fun W => Lib.run_convert_string_bytes (P := Tryz.prog) W 9 87 5 s Tryz.underlying9 Tryz.underlying87 Tryz.underlying5
  rw [hs] at hcv
  have HC := Lib.hid hcv
  have HS := Lib.hid hs
  go_enter Tryz.func48, Tryz.ntmps48
  go_wp2_with fail
  have hbw : Below w.heap.size w (Lib.bytesWorld w 5 s) := Joins.below_bytesWorld _ w _ s (Nat.le_refl _)
  have hrw := rowed_conv w s HS.out
  have hcv2 := conv_rowed (cap := grownCap w 64 0 5) hrw HS.out
  refine wp_loop_rounds 1 ?_
  rw [rounds_succ]
  go_wp2_with fail
  go_ret2
  exact ⟨rfl, hbw⟩

set_option maxHeartbeats 1000000 in
theorem dpatched_none (d : Nat) (s : ByteArray) (w : World) (hs : s.size = 64) :
    Calls Tryz.prog 113 #[.pointer (some ⟨d, 0, none⟩), .string s, .slice none 0 0] w fun e w' => e = .returned (.tuple #[.string s, .int .i64 0]) ∧ Below w.heap.size w w' := by
  have HP := Lib.hid (fun W => patched_nil s W hs)
  clear hs
  go_enter Tryz.func113, Tryz.ntmps113
  go_wp2_with fail
  refine wp_loop_rounds 1 ?_
  rw [rounds_succ]
  go_wp2_with fail
  refine (HP.out _).mono ?_
  rintro e w1 ⟨rfl, hb1⟩
  go_wp2_with fail
  go_ret2
  exact ⟨rfl, hb1⟩

set_option maxHeartbeats 1000000 in
theorem view_none (d : Nat) (at_ : Int) (s : ByteArray) (w : World) (hs : s.size = 64) (h : w.cell? ⟨d, 0, none⟩ = some (.slice none 0 0)) :
    Calls Tryz.prog 102 #[.pointer (some ⟨d, 0, none⟩), .int .i64 at_, .string s] w fun e w' => e = .returned (.tuple #[.string s, .int .i64 0]) ∧ Below w.heap.size w w' := by
  have HO := Lib.hid (fun st => of_none d at_ st w h)
  have HS := Lib.hid (fun W => sort_none none 0 W)
  have HP := Lib.hid (fun W => dpatched_none d s W hs)
  clear hs
  go_enter Tryz.func102, Tryz.ntmps102
  go_wp2_with fail
  refine (HO.out _).mono ?_
  rintro e w1 ⟨rfl, rfl⟩
  go_wp2_with fail
  refine (HO.out _).mono ?_
  rintro e w2 ⟨rfl, rfl⟩
  go_wp2_with fail
  refine (HS.out _).mono ?_
  rintro e w3 ⟨rfl, rfl⟩
  go_wp2_with fail
  refine (HP.out _).mono ?_
  rintro e w4 ⟨rfl, hb4⟩
  go_wp2_with fail
  go_ret2
  exact ⟨rfl, hb4⟩
end Go.Proofs.YtghggelkmhdhfaaGreatDoor

namespace Go.Proofs.YtghggelkmhdhfaaGreatDoor
open Go.RowKit

set_option maxHeartbeats 1000000 in
theorem sread_any (s p d g n c k : Nat) (t : ByteArray) (w : World) (h0 : w.cell? ⟨s, 0, none⟩ = some (.pointer (some ⟨p, 0, none⟩))) (h1 : w.cell? ⟨s, 1, none⟩ = some (.pointer (some ⟨d, 0, none⟩)))
    (hp : w.cell? ⟨p, 0, none⟩ = some (.slice none 0 0)) (hd : w.cell? ⟨d, 0, none⟩ = some (.slice (some ⟨g, 0, none⟩) n c)) (hk : k < n) (ht : w.cell? ⟨g, k, none⟩ = some (.string t)) (h64 : t.size = 64) :
    Calls Tryz.prog 84 #[.pointer (some ⟨s, 0, none⟩), .int .i64 (k : Int)] w fun e w' => e = .returned (.tuple #[.string t, .int .i64 0]) ∧ Below w.heap.size w w' := by
  have HR := Lib.hid (dread_any d g n c k t w hd hk ht)
  have HV := Lib.hid (view_none p (k : Int) t w h64 hp)
  clear hp hd ht h64
  go_enter Tryz.func84, Tryz.ntmps84
  go_wp2_with fail
  refine HR.out.mono ?_
  rintro e w1 ⟨rfl, rfl⟩
  go_wp2_with fail
  refine HV.out.mono ?_
  rintro e w2 ⟨rfl, hb2⟩
  go_wp2_with fail
  go_ret2
  exact ⟨rfl, hb2⟩
end Go.Proofs.YtghggelkmhdhfaaGreatDoor

namespace Go.Proofs.YtghggelkmhdhfaaGreatDoor
open Go.RowKit

set_option maxHeartbeats 400000 in
theorem indexfunc_none (f : Value) (w : World) :
    Calls Tryz.prog 122 #[.slice none 0 0, f] w fun e w' => e = .returned (.int .i64 (-1)) ∧ w = w' := by
  go_enter Tryz.func122, Tryz.ntmps122
  go_wp2_with fail
  refine wp_loop_rounds 1 ?_
  rw [rounds_succ]
  go_wp2_with fail
  go_ret
  exact ⟨rfl, rfl⟩
set_option maxHeartbeats 400000 in
theorem containsfunc_none (f : Value) (w : World) :
    Calls Tryz.prog 114 #[.slice none 0 0, f] w fun e w' => e = .returned (.bool false) ∧ w = w' := by
  have HI := Lib.hid (fun W => indexfunc_none f W)
  go_enter Tryz.func114, Tryz.ntmps114
  go_wp2_with fail
  refine (HI.out _).mono ?_
  rintro e w1 ⟨rfl, rfl⟩
  go_wp2_with fail
  go_ret
  exact ⟨rfl, rfl⟩
set_option maxHeartbeats 400000 in
/-- A new Deps. -/
theorem depsnew_any (w : World) :
    Calls Tryz.prog 61 #[] w fun e w' => e = .returned (.pointer (some ⟨w.heap.size, 0, none⟩)) ∧ w' = w.alloc (.cells #[.slice none 0 0, .int .i64 0] 143) := by
  go_enter Tryz.func61, Tryz.ntmps61
  go_wp2_with fail
  go_ret
  exact ⟨rfl, rfl⟩
end Go.Proofs.YtghggelkmhdhfaaGreatDoor
