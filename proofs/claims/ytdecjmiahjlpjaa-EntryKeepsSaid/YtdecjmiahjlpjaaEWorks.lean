/-
  The chapter's example (layer 7).
-/
import Derived.Test.YtdecjmiahjlpjaaEPut
import Derived.Test.YtdecjmiahjlpjaaEPlain
import Derived.Deep.RegionWith
namespace Go.Proofs.Ytdecjmiahjlpjaa
open Go.RowKit

theorem make11 (w : World) : (Instr.makeSlice 58 (.int .i64 11) (.int .i64 11)).run Try.prog w = .ok (.slice (some ⟨w.heap.size, 0, none⟩) 11 11) (w.alloc (.cells #[.int .u8 0, .int .u8 0, .int .u8 0, .int .u8 0, .int .u8 0, .int .u8 0, .int .u8 0, .int .u8 0, .int .u8 0, .int .u8 0, .int .u8 0] 5)) := by kernel_rfl
def ab5 : ByteArray := ⟨#[5, 0, 2, 97, 98, 0, 0, 0, 0, 0, 0, 0, 0, 0, 0, 0]⟩
theorem ab5_slot : slotS 5 ⟨#[97, 98]⟩ = ab5 := by decide +kernel
theorem ab5_put : putV 1 5 ⟨#[97, 98]⟩ = .agg #[.int .i64 16, .string ab5] ∧ putE 1 5 ⟨#[97, 98]⟩ = 0 := by
  have h : entOk 5 ⟨#[97, 98]⟩ = true := by decide +kernel
  simp [putV, putE, h, ab5_slot]

set_option maxHeartbeats 2000000 in
set_option maxRecDepth 100000 in
theorem works_any (w : World) :
    Calls Try.prog 8 #[] w fun e w' => e = .returned (.bool true) ∧ Below w.heap.size w w' := by
  have hP := fun W => eput_any 1 5 ⟨#[97, 98]⟩ W
  rw [ab5_put.1, ab5_put.2] at hP
  have HP := Lib.hid hP
  have hN3 := fun W => name_any ⟨#[46, 46, 46]⟩ W
  have hN2 := fun W => name_any ⟨#[46, 46]⟩ W
  have e3 : nameB ⟨#[46, 46, 46]⟩ = true := by decide +kernel
  have e2 : nameB ⟨#[46, 46]⟩ = false := by decide +kernel
  simp only [e3] at hN3
  simp only [e2] at hN2
  have HN3 := Lib.hid hN3
  have HN2 := Lib.hid hN2
  clear hP hN3 hN2 e3 e2
  go_enter Try.func8, Try.ntmps8
  go_wp2_with fail
  refine (HP.out _).mono ?_
  rintro e w1 ⟨rfl, hb1⟩
  obtain ⟨t, ht⟩ : ∃ t, t = ab5 := ⟨_, rfl⟩
  rw [← ht]
  obtain ⟨Z, hZ⟩ : ∃ Z, Z = str (List.replicate 11 0) := ⟨_, rfl⟩
  have heq : (t.toList == ((⟨#[5, 0, 2, 97, 98]⟩ : ByteArray) ++ Z).toList) = true := by
    rw [ht, hZ]; decide +kernel
  have hzs : Z.size ≤ 11 := by rw [hZ, size_str]; simp
  have hcv : ∀ W : World, (convert 58 9 (.slice (some ⟨W.heap.size, 0, none⟩) 11 11)).run Try.prog (W.alloc (.cells #[.int .u8 0, .int .u8 0, .int .u8 0, .int .u8 0, .int .u8 0, .int .u8 0, .int .u8 0, .int .u8 0, .int .u8 0, .int .u8 0, .int .u8 0] 5)).drew = .ok (.string Z) (W.alloc (.cells #[.int .u8 0, .int .u8 0, .int .u8 0, .int .u8 0, .int .u8 0, .int .u8 0, .int .u8 0, .int .u8 0, .int .u8 0, .int .u8 0, .int .u8 0] 5)).drew := fun W => by
    rw [hZ]
    exact conv_cells (P := Try.prog) (W := W.drew) (g := W.heap.size) (n := 11) (cap := 11) (dst := 9) #[.int .u8 0, .int .u8 0, .int .u8 0, .int .u8 0, .int .u8 0, .int .u8 0, .int .u8 0, .int .u8 0, .int .u8 0, .int .u8 0, .int .u8 0] [0, 0, 0, 0, 0, 0, 0, 0, 0, 0, 0] rfl rfl rfl Try.underlying58 Try.underlying5 Try.underlying9 (by simp)
  have hmk := make11
  clear ht hZ
  go_wp2_with fail
  have c0 : (w1.alloc (.cells #[.int .i64 16, .string t] 32)).cell? ⟨w1.heap.size, 0, none⟩ = some (.int .i64 16) := by simp [go_sem]
  have c1 : (w1.alloc (.cells #[.int .i64 16, .string t] 32)).cell? ⟨w1.heap.size, 1, none⟩ = some (.string t) := by simp [go_sem]
  have hlt : w1.heap.size < (w1.alloc (.cells #[.int .i64 16, .string t] 32)).heap.size := by simp
  have hB : Below w.heap.size w (w1.alloc (.cells #[.int .i64 16, .string t] 32)) := by
    have hz1 := hb1.size
    (repeat' (first | exact Below.refl _ _ | assumption | refine Below.setCell ?_ ?_ _ | refine Below.drew ?_ | refine below_drewN ?_ _ | refine Below.alloc ?_ ?_ _ | refine below_of_grown ?_ (by assumption) ?_ | refine Below.trans ?_ (Below.mono (by assumption) ?_) | omega | (simp; done) | (simp; omega)))
  generalize w1.alloc (.cells #[.int .i64 16, .string t] 32) = W at c0 c1 hlt hB ⊢
  go_region_with (first | (go_at_call 17; (with_reducible refine (HN3.out _).mono ?_); rintro e w2 ⟨rfl, rfl⟩) | (go_at_call 17; (with_reducible refine (HN2.out _).mono ?_); rintro e w2 ⟨rfl, rfl⟩))
  all_goals (have hBs := hB.size; go_wp2_with fail; go_ret; exact ⟨rfl, by (repeat' (first | exact Below.refl _ _ | assumption | refine Below.setCell ?_ ?_ _ | refine Below.drew ?_ | refine below_drewN ?_ _ | refine Below.alloc ?_ ?_ _ | refine below_of_grown ?_ (by assumption) ?_ | refine Below.trans ?_ (Below.mono (by assumption) ?_) | omega | (simp; done) | (simp; omega)))⟩)
end Go.Proofs.Ytdecjmiahjlpjaa
