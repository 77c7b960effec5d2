
/-
  Numbers at fixed places of a sector: field.Get (where it answers OK), and the document's Num.
-/
import Derived.Test.YtghggelkmhdhfaaGreatDoorField
import Derived.IntWalk
namespace Go.Proofs.YtghggelkmhdhfaaGreatDoor
open Go.RowKit

/-- The number of two bytes, of four bytes, the low one first. -/
def num2 (s : ByteArray) (off : Nat) : Int := byteAt s (off + 1) * 256 + byteAt s off
def num4 (s : ByteArray) (off : Nat) : Int := byteAt s (off + 3) * 16777216 + byteAt s (off + 2) * 65536 + byteAt s (off + 1) * 256 + byteAt s off
theorem num2_range (s : ByteArray) (off : Nat) : 0 ≤ num2 s off ∧ num2 s off < 65536 := by
  have h0 := byteAt_range s off
  have h1 := byteAt_range s (off + 1)
  unfold num2
  omega
theorem num4_range (s : ByteArray) (off : Nat) : 0 ≤ num4 s off ∧ num4 s off < 4294967296 := by
  have h0 := byteAt_range s off
  have h1 := byteAt_range s (off + 1)
  have h2 := byteAt_range s (off + 2)
  have h3 := byteAt_range s (off + 3)
  unfold num4
  omega

/-- The world is as it was, but for draws. -/
def Draws (w w' : World) : Prop := ∃ n, w' = w.drewN n
theorem ret_int {k : IntKind} {a b : Int} (h : a = b) : Ending.returned (.int k a) = .returned (.int k b) := by rw [h]
theorem wraps_i64 (n : Int) (h₀ : 0 ≤ n) (h₁ : n < 2 ^ 40) : IntKind.i64.wrap n = n := by rw [IntKind.wrap_i64]; omega
theorem or8 (x y : Int) (hx₀ : 0 ≤ x) (hx : x % 256 = 0) (hx₁ : x < 4294967296) (hy₀ : 0 ≤ y) (hy : y < 256) : bits .or .i64 x y = x + y :=
  bits_join .i64 40 (by decide) wraps_i64 8 x y hx₀ hx (by omega) hy₀ hy (by omega)
theorem or16 (x y : Int) (hx₀ : 0 ≤ x) (hx : x % 65536 = 0) (hx₁ : x < 4294967296) (hy₀ : 0 ≤ y) (hy : y < 65536) : bits .or .i64 x y = x + y :=
  bits_join .i64 40 (by decide) wraps_i64 16 x y hx₀ hx (by omega) hy₀ hy (by omega)
theorem or24 (x y : Int) (hx₀ : 0 ≤ x) (hx : x % 16777216 = 0) (hx₁ : x < 4294967296) (hy₀ : 0 ≤ y) (hy : y < 16777216) : bits .or .i64 x y = x + y :=
  bits_join .i64 40 (by decide) wraps_i64 24 x y hx₀ hx (by omega) hy₀ hy (by omega)

theorem num2_bits (s : ByteArray) (off : Nat) : bits BinOp.or IntKind.i64 (bits BinOp.or IntKind.i64 0 (byteAt s (off + 1) * 256)) (byteAt s off) = num2 s off := by
  have h0 := byteAt_range s off
  have h1 := byteAt_range s (off + 1)
  rw [or16 0 _ (by omega) (by omega) (by omega) (by omega) (by omega), or8 _ _ (by omega) (by omega) (by omega) (by omega) (by omega)]
  unfold num2
  omega
theorem num4_bits (s : ByteArray) (off : Nat) : bits BinOp.or IntKind.i64 (bits BinOp.or IntKind.i64 (bits BinOp.or IntKind.i64 (byteAt s (off + 3) * 16777216) (byteAt s (off + 2) * 65536)) (byteAt s (off + 1) * 256)) (byteAt s off) = num4 s off := by
  have h0 := byteAt_range s off
  have h1 := byteAt_range s (off + 1)
  have h2 := byteAt_range s (off + 2)
  have h3 := byteAt_range s (off + 3)
  rw [or24 _ (byteAt s (off + 2) * 65536) (by omega) (by omega) (by omega) (by omega) (by omega), or16 _ (byteAt s (off + 1) * 256) (by omega) (by omega) (by omega) (by omega) (by omega), or8 _ _ (by omega) (by omega) (by omega) (by omega) (by omega)]
  unfold num4
  omega

set_option maxHeartbeats 400000 in
set_option maxRecDepth 100000 in
theorem get2_any (s : ByteArray) (off : Nat) (w : World) (hs : s.size = 64) (ho : off ≤ 62) :
    Calls Tryz.prog 27 #[.string s, .int .i64 off, .int .i64 2] w fun e w' => e = .returned (.tuple #[.int .i64 (num2 s off), .int .i64 0]) ∧ w = w' := by
  have hi := Lib.hid (fun W => inside_yes (off : Int) 2 W (decide_eq_true (by omega)))
  have hw := Lib.hid (fun W => wide_yes 2 W (by omega))
  have l0 : (off : Int) < 64 := by omega
  have l1 : (off : Int) + 1 < 64 := by omega
  have m1 : off + 1 < s.size := by omega
  have m0 : off < s.size := by omega
  obtain ⟨b0l, b0h⟩ := byteAt_range s off
  obtain ⟨b1l, b1h⟩ := byteAt_range s (off + 1)
  have w0 := wrap_byteAt s off m0
  have w1 := wrap_byteAt s (off + 1) m1
  have HN := Lib.hid (num2_bits s off)
  go_enter Tryz.func27, Tryz.ntmps27
  go_wp2_with fail
  refine (hw.out _).mono ?_
  rintro e w1 ⟨rfl, rfl⟩
  go_wp2_with fail
  refine (hi.out _).mono ?_
  rintro e w1 ⟨rfl, rfl⟩
  go_wp2_with fail
  go_ret2
  exact ⟨by rw [HN.out]; rfl, rfl⟩

set_option maxHeartbeats 400000 in
set_option maxRecDepth 100000 in
theorem get4_draws (s : ByteArray) (off : Nat) (w : World) (hs : s.size = 64) (ho : off ≤ 60) :
    Calls Tryz.prog 27 #[.string s, .int .i64 off, .int .i64 4] w fun e w' => e = .returned (.tuple #[.int .i64 (num4 s off), .int .i64 0]) ∧ Draws w w' := by
  have hi := Lib.hid (fun W => inside_yes (off : Int) 4 W (decide_eq_true (by omega)))
  have hw := Lib.hid (fun W => wide_yes 4 W (by omega))
  have l0 : (off : Int) < 64 := by omega
  have l1 : (off : Int) + 1 < 64 := by omega
  have l2 : (off : Int) + 2 < 64 := by omega
  have l3 : (off : Int) + 3 < 64 := by omega
  have m1 : off + 1 < s.size := by omega
  have m2 : off + 2 < s.size := by omega
  have m3 : off + 3 < s.size := by omega
  have m0 : off < s.size := by omega
  obtain ⟨b0l, b0h⟩ := byteAt_range s off
  obtain ⟨b1l, b1h⟩ := byteAt_range s (off + 1)
  obtain ⟨b2l, b2h⟩ := byteAt_range s (off + 2)
  obtain ⟨b3l, b3h⟩ := byteAt_range s (off + 3)
  have w0 := wrap_byteAt s off m0
  have w1 := wrap_byteAt s (off + 1) m1
  have w2 := wrap_byteAt s (off + 2) m2
  have w3 := wrap_byteAt s (off + 3) m3
  have HN := Lib.hid (num4_bits s off)
  go_enter Tryz.func27, Tryz.ntmps27
  go_wp2_with fail
  refine (hw.out _).mono ?_
  rintro e w1 ⟨rfl, rfl⟩
  go_wp2_with fail
  refine (hi.out _).mono ?_
  rintro e w1 ⟨rfl, rfl⟩
  go_wp2_with fail
  have g3 : IntKind.i64.wrap ((off : Int) + 3) = (off : Int) + 3 := IntWalk.i64_in _ (by omega)
  have g2 : IntKind.i64.wrap ((off : Int) + 2) = (off : Int) + 2 := IntWalk.i64_in _ (by omega)
  have n3 : (0 : Int) ≤ (off : Int) + 3 := by omega
  have n2 : (0 : Int) ≤ (off : Int) + 2 := by omega
  have t3 : ((off : Int) + 3).toNat = off + 3 := by omega
  have t2 : ((off : Int) + 2).toNat = off + 2 := by omega
  go_quiet (fail)
  go_wp2_with fail
  go_ret2
  exact ⟨by rw [HN.out]; rfl, _, rfl⟩
theorem get4_any (s : ByteArray) (off : Nat) (w : World) (hs : s.size = 64) (ho : off ≤ 60) :
    Calls Tryz.prog 27 #[.string s, .int .i64 off, .int .i64 4] w fun e w' => e = .returned (.tuple #[.int .i64 (num4 s off), .int .i64 0]) ∧ Below w.heap.size w w' :=
  (get4_draws s off w hs ho).mono fun _ _ ⟨he, n, hw⟩ => ⟨he, by rw [hw]; exact below_drewN (Below.refl _ _) n⟩

end Go.Proofs.YtghggelkmhdhfaaGreatDoor
