
/-
  First sectors: Encode (the program's and the document's).
-/
import Derived.Test.YtghggelkmhdhfaaGreatDoorGeo
import Derived.Test.YtghggelkmhdhfaaGreatDoorPad
namespace Go.Proofs.YtghggelkmhdhfaaGreatDoor
open Go.RowKit

/-- A geometry's first sector. -/
def sector0 (a b c : Int) : ByteArray := pad (⟨#[67, 85, 84, 87]⟩ ++ str [UInt8.ofNat a.toNat, UInt8.ofNat b.toNat, UInt8.ofNat c.toNat])

set_option maxHeartbeats 400000 in
theorem encode_yes (a b c : Int) (w : World) (h : geomOk a b c = true) :
    Calls Tryz.prog 20 #[.agg #[.int .i64 a, .int .i64 b, .int .i64 c]] w fun e w' => e = .returned (.tuple #[.string (sector0 a b c), .int .i64 0]) ∧ Below w.heap.size w w' := by
  have hck := fun W => check_yes a b c W h
  have HC := Lib.hid hck
  clear hck
  obtain ⟨h1, h2, h3, h4, h5, h6⟩ := geomOk_iff.1 h
  clear h
  have hsz : (str [UInt8.ofNat a.toNat, UInt8.ofNat b.toNat, UInt8.ofNat c.toNat]).size ≤ 3 := by simp [size_str]
  go_enter Tryz.func20, Tryz.ntmps20
  go_wp2_with fail
  refine (HC.out _).mono ?_
  rintro e w1 ⟨rfl, hb⟩
  have hc0 : w1.cell? ⟨w.heap.size, 0, none⟩ = some (.int .i64 a) := by rw [hb.cell (by simp)]; simp [go_sem]
  have hc1 : w1.cell? ⟨w.heap.size, 1, none⟩ = some (.int .i64 b) := by rw [hb.cell (by simp)]; simp [go_sem]
  have hc2 : w1.cell? ⟨w.heap.size, 2, none⟩ = some (.int .i64 c) := by rw [hb.cell (by simp)]; simp [go_sem]
  have hcv := conv_cells (P := Tryz.prog) (W := w1) (g := w1.heap.size) (n := 3) (cap := 3) (dst := 9) #[.int .u8 a, .int .u8 b, .int .u8 c] [a, b, c] rfl rfl rfl Tryz.underlying87 Tryz.underlying5 Tryz.underlying9 (by simp; omega)
  simp only [List.map_cons, List.map_nil] at hcv
  go_wp2_with fail
  refine (padded_any _ _ (by rw [ByteArray.size_append]; show 4 + _ ≤ _; omega)).mono ?_
  rintro e w2 ⟨rfl, hb2⟩
  go_wp2
  go_ret2
  have hz := hb.size
  simp at hz
  exact ⟨rfl, (((Below.refl _ _).alloc (Nat.le_refl _) _).trans (hb.mono (by simp))).trans (((Below.refl _ _).alloc (by omega) _).trans (hb2.mono (by simp; omega)))⟩

set_option maxHeartbeats 400000 in
theorem encode_no (a b c : Int) (w : World) (h : geomOk a b c = false) :
    Calls Tryz.prog 20 #[.agg #[.int .i64 a, .int .i64 b, .int .i64 c]] w fun e w' => e = .returned (.tuple #[.string ⟨#[]⟩, .int .i64 4]) ∧ Below w.heap.size w w' := by
  have hck := fun W => check_no a b c W h
  have HC := Lib.hid hck
  clear hck h
  go_enter Tryz.func20, Tryz.ntmps20
  go_wp2_with fail
  refine (HC.out _).mono ?_
  rintro e w1 ⟨rfl, hb⟩
  go_wp2
  go_ret2
  exact ⟨rfl, ((Below.refl _ _).alloc (Nat.le_refl _) _).trans (hb.mono (by simp))⟩

end Go.Proofs.YtghggelkmhdhfaaGreatDoor
