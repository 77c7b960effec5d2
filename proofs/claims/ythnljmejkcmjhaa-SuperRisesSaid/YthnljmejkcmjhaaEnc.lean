/-
  First sectors: Encode (the program's and the document's).
-/
import Derived.Test.YthnljmejkcmjhaaGeo
import Derived.Test.YthnljmejkcmjhaaPad
namespace Go.Proofs.Ythnljmejkcmjhaa
open Go.RowKit

/-- A geometry's first sector. -/
def sector0 (a b c : Int) : ByteArray := pad (⟨#[67, 85, 84, 87]⟩ ++ str [UInt8.ofNat a.toNat, UInt8.ofNat b.toNat, UInt8.ofNat c.toNat])

set_option maxHeartbeats 400000 in
theorem one_any (a b c : Int) (w : World) (h : geomOk a b c = true) :
    Calls Try.prog 25 #[.agg #[.int .i64 a, .int .i64 b, .int .i64 c]] w fun e w' => e = .returned (.string (sector0 a b c)) ∧ Below w.heap.size w w' := by
  obtain ⟨h1, h2, h3, h4, h5, h6⟩ := geomOk_iff.1 h
  clear h
  have hcv := fun o => conv_cells (P := Try.prog) (W := w.alloc o) (g := w.heap.size + 1) (n := 3) (cap := 3) (dst := 9) #[.int .u8 a, .int .u8 b, .int .u8 c] [a, b, c] rfl rfl (by simp) Try.underlying47 Try.underlying5 Try.underlying9 (by simp; omega)
  simp only [List.map_cons, List.map_nil] at hcv
  have hsz : (str [UInt8.ofNat a.toNat, UInt8.ofNat b.toNat, UInt8.ofNat c.toNat]).size ≤ 3 := by simp [size_str]
  go_enter Try.func25, Try.ntmps25
  go_wp2_with fail
  refine (rpadded_any _ _ (by rw [ByteArray.size_append]; show 4 + _ ≤ _; omega)).mono ?_
  rintro e w1 ⟨rfl, hb⟩
  go_wp2
  go_ret
  exact ⟨rfl, (((Below.refl _ _).alloc (Nat.le_refl _) _).alloc (by simp) _).trans (hb.mono (by simp; omega))⟩

set_option maxHeartbeats 400000 in
theorem encode_yes (a b c : Int) (w : World) (h : geomOk a b c = true) :
    Calls Try.prog 8 #[.agg #[.int .i64 a, .int .i64 b, .int .i64 c]] w fun e w' => e = .returned (.tuple #[.string (sector0 a b c), .int .i64 0]) ∧ Below w.heap.size w w' := by
  have hck := fun W => check_yes a b c W h
  have HC := Lib.hid hck
  clear hck
  obtain ⟨h1, h2, h3, h4, h5, h6⟩ := geomOk_iff.1 h
  clear h
  have hsz : (str [UInt8.ofNat a.toNat, UInt8.ofNat b.toNat, UInt8.ofNat c.toNat]).size ≤ 3 := by simp [size_str]
  go_enter Try.func8, Try.ntmps8
  go_wp2_with fail
  refine (HC.out _).mono ?_
  rintro e w1 ⟨rfl, hb⟩
  have hc0 : w1.cell? ⟨w.heap.size, 0, none⟩ = some (.int .i64 a) := by rw [hb.cell (by simp)]; simp [go_sem]
  have hc1 : w1.cell? ⟨w.heap.size, 1, none⟩ = some (.int .i64 b) := by rw [hb.cell (by simp)]; simp [go_sem]
  have hc2 : w1.cell? ⟨w.heap.size, 2, none⟩ = some (.int .i64 c) := by rw [hb.cell (by simp)]; simp [go_sem]
  have hcv := conv_cells (P := Try.prog) (W := w1) (g := w1.heap.size) (n := 3) (cap := 3) (dst := 9) #[.int .u8 a, .int .u8 b, .int .u8 c] [a, b, c] rfl rfl rfl Try.underlying47 Try.underlying5 Try.underlying9 (by simp; omega)
  simp only [List.map_cons, List.map_nil] at hcv
  go_wp2_with fail
  refine (padded_any _ _ (by rw [ByteArray.size_append]; show 4 + _ ≤ _; omega)).mono ?_
  rintro e w2 ⟨rfl, hb2⟩
  go_wp2
  go_ret2
  have hz := hb.size
  simp at hz
  exact ⟨rfl, (((Below.refl _ _).alloc (Nat.le_refl _) _).trans (hb.mono (by simp))).trans (((Below.refl _ _).alloc (by omega) _).trans (hb2.mono (by simp; omega)))⟩

set_option maxHeartbeats 400000 in
theorem encode_no (a b c : Int) (w : World) (h : geomOk a b c = false) :
    Calls Try.prog 8 #[.agg #[.int .i64 a, .int .i64 b, .int .i64 c]] w fun e w' => e = .returned (.tuple #[.string ⟨#[]⟩, .int .i64 4]) ∧ Below w.heap.size w w' := by
  have hck := fun W => check_no a b c W h
  have HC := Lib.hid hck
  clear hck h
  go_enter Try.func8, Try.ntmps8
  go_wp2_with fail
  refine (HC.out _).mono ?_
  rintro e w1 ⟨rfl, hb⟩
  go_wp2
  go_ret2
  exact ⟨rfl, ((Below.refl _ _).alloc (Nat.le_refl _) _).trans (hb.mono (by simp))⟩

set_option maxHeartbeats 400000 in
theorem rencode_yes (a b c : Int) (w : World) (h : geomOk a b c = true) :
    Calls Try.prog 9 #[.agg #[.int .i64 a, .int .i64 b, .int .i64 c]] w fun e w' => e = .returned (.tuple #[.string (sector0 a b c), .int .i64 0]) ∧ Below w.heap.size w w' := by
  have hck := fun W => rcheck_yes a b c W h
  have HC := Lib.hid hck
  have ho := fun W => one_any a b c W h
  have HO := Lib.hid ho
  clear hck ho h
  go_enter Try.func9, Try.ntmps9
  go_wp2_with fail
  refine (HC.out _).mono ?_
  rintro e w1 ⟨rfl, hb⟩
  have hc0 : w1.cell? ⟨w.heap.size, 0, none⟩ = some (.int .i64 a) := by rw [hb.cell (by simp)]; simp [go_sem]
  have hc1 : w1.cell? ⟨w.heap.size, 1, none⟩ = some (.int .i64 b) := by rw [hb.cell (by simp)]; simp [go_sem]
  have hc2 : w1.cell? ⟨w.heap.size, 2, none⟩ = some (.int .i64 c) := by rw [hb.cell (by simp)]; simp [go_sem]
  go_wp2_with fail
  refine (HO.out _).mono ?_
  rintro e w2 ⟨rfl, hb2⟩
  go_wp2
  go_ret2
  have hz := hb.size
  simp at hz
  exact ⟨rfl, (((Below.refl _ _).alloc (Nat.le_refl _) _).trans (hb.mono (by simp))).trans (hb2.mono (by omega))⟩

set_option maxHeartbeats 400000 in
theorem rencode_no (a b c : Int) (w : World) (h : geomOk a b c = false) :
    Calls Try.prog 9 #[.agg #[.int .i64 a, .int .i64 b, .int .i64 c]] w fun e w' => e = .returned (.tuple #[.string ⟨#[]⟩, .int .i64 4]) ∧ Below w.heap.size w w' := by
  have hck := fun W => rcheck_no a b c W h
  have HC := Lib.hid hck
  clear hck h
  go_enter Try.func9, Try.ntmps9
  go_wp2_with fail
  refine (HC.out _).mono ?_
  rintro e w1 ⟨rfl, hb⟩
  go_wp2
  go_ret2
  exact ⟨rfl, ((Below.refl _ _).alloc (Nat.le_refl _) _).trans (hb.mono (by simp))⟩
end Go.Proofs.Ythnljmejkcmjhaa
