/-
  Numbers at fixed places of a sector: field.Get, field.Put (where they answer OK), and the document's Num and Text.
-/
import Derived.Test.YtdecjmiahjlpjaaPlainPad
import Derived.RegionTactic
import Derived.ChangeAlike
import Derived.Deep.QuietTactic
import Derived.BigQuiet
import Derived.Laws.BitsLemmas
namespace Go.Proofs.Ytdecjmiahjlpjaa
open Go.RowKit
/-- A number's bytes, the low one first. -/
def le (n : Int) (k : Nat) : List UInt8 := (List.range k).map fun i => UInt8.ofNat (n / 2 ^ (8 * i) % 256).toNat
theorem le_succ (n : Int) (k : Nat) : le n (k + 1) = le n k ++ [UInt8.ofNat (n / 2 ^ (8 * k) % 256).toNat] := by
  simp [le, List.range_succ]
theorem length_le (n : Int) (k : Nat) : (le n k).length = k := by simp [le]
theorem byte_back {x : Int} (h1 : 0 ≤ x) (h2 : x < 256) : ((UInt8.ofNat x.toNat).toNat : Int) = x := by
  rw [UInt8.toNat_ofNat']
  omega
theorem low_byte (n : Int) (k : Nat) : 0 ≤ n / 2 ^ (8 * k) % 256 ∧ n / 2 ^ (8 * k) % 256 < 256 :=
  ⟨Int.emod_nonneg _ (by omega), Int.emod_lt_of_pos _ (by omega)⟩
theorem cells_le_succ (n : Int) (k : Nat) : Lib.byteCells (le n k) ++ [.int .u8 (n / 2 ^ (8 * k) % 256)] = Lib.byteCells (le n (k + 1)) := by
  rw [le_succ]
  simp only [Lib.byteCells, List.map_append, List.map_cons, List.map_nil]
  rw [byte_back (low_byte n k).1 (low_byte n k).2]

set_option maxHeartbeats 400000 in
theorem text_any (n : Int) (k : Nat) (w : World) (hk : k ≤ 4) :
    Calls Try.prog 45 #[.int .i64 n, .int .i64 k] w fun e w' => e = .returned (.string (str (le n k))) ∧ Below w.heap.size w w' := by
  obtain ⟨i0, hi, hz0, hz1, hz2⟩ := info_parts info_u8
  go_enter Try.func45, Try.ntmps45
  go_wp2_with fail
  go_loopw [5, 6] (fun v i wr => ∃ j : Nat, j ≤ k ∧ i = .int .i64 j ∧ wr.ownsRow w.heap.size 5 1 v j (Lib.byteCells (le n j)) ∧ Below w.heap.size w wr) (fun _ i _ => k - (intOf i).toNat)
  case atStart => exact ⟨0, Nat.zero_le _, rfl, World.ownsRow_nil _ _ _ _, Below.refl _ _⟩
  case round =>
    obtain ⟨j, hj, rfl, hown, hbe⟩ := hrel
    by_cases hlt : j < k
    · have h1 : (8 : Int) * j ≤ 64 := by omega
      have hzb := hbe.size
      go_wp2_with (at_builtin; refine wpList_append_own _ rfl _ _ 58 rfl w.heap.size 5 i0 (.int .u8 0) 1 1 Try.underlying58 hi hz0 hz1 hz2 rfl (by decide) _ _ _ rfl (hown.alloc _) ⟨wr.heap.size, 0, none⟩ 1 1 [.int .u8 (n / 2 ^ (8 * j) % 256)] rfl rfl ?c1 ?c2 ?c3 ?c4 ?c5 ?_)
      case c1 => exact cell_one_new _ _ _
      case c2 => simp [Value.oneCell']
      case c3 => unfold maxLen; omega
      case c4 => omega
      case c5 => simp; omega
      intro v' w1 hown' hgrow _
      rw [cells_le_succ] at hown'
      have hb2 : Below w.heap.size w w1 := (hbe.alloc (by omega) _).grown hgrow (by simp; omega) (fun g hg => (hown.lt g hg).1)
      clear hgrow hown hbe
      go_wp2
      go_roundw
      case rel => exact ⟨j + 1, by omega, by go_num, hown', hb2⟩
      case measure => simp [intOf]; omega
    · obtain rfl : j = k := by omega
      have hcv := conv_own (P := Try.prog) (dst := 9) Try.underlying58 Try.underlying5 Try.underlying9 hown
      go_wp2
      go_ret
      exact ⟨rfl, hbe⟩

set_option maxHeartbeats 400000 in
theorem wide_yes (n : Int) (w : World) (h : n = 1 ∨ n = 2 ∨ n = 4) :
    Calls Try.prog 36 #[.int .i64 n] w fun e w' => e = .returned (.bool true) ∧ w = w' := by
  rcases h with rfl | rfl | rfl
  all_goals
    go_enter Try.func36, Try.ntmps36
    go_wp2
    go_ret
    exact ⟨rfl, rfl⟩

/-- Does a place lie within a sector? -/
def insideB (off n : Int) : Bool := decide (0 ≤ off ∧ 0 < n ∧ n ≤ 64 ∧ off ≤ 64 - n)
set_option maxHeartbeats 400000 in
theorem inside_yes (off n : Int) (w : World) (h : insideB off n = true) :
    Calls Try.prog 37 #[.int .i64 off, .int .i64 n] w fun e w' => e = .returned (.bool true) ∧ w = w' := by
  obtain ⟨h1, h2, h3, h4⟩ := of_decide_eq_true h
  have h5 : 64 - n ≤ 64 := by omega
  clear h
  go_enter Try.func37, Try.ntmps37
  go_wp2
  go_ret
  simp_all
set_option maxHeartbeats 400000 in
theorem inside_no (off n : Int) (w : World) (h : insideB off n = false) :
    Calls Try.prog 37 #[.int .i64 off, .int .i64 n] w fun e w' => e = .returned (.bool false) ∧ w = w' := by
  have H := of_decide_eq_false h
  clear h
  by_cases h1 : 0 ≤ off
  · by_cases h2 : 0 < n
    · by_cases h3 : n ≤ 64
      · have h4 : ¬ off ≤ 64 - n := fun h4 => H ⟨h1, h2, h3, h4⟩
        clear H
        go_enter Try.func37, Try.ntmps37
        go_wp2
        go_ret
        simp_all
      · clear H
        go_enter Try.func37, Try.ntmps37
        go_wp2
        go_ret
        simp_all
    · clear H
      go_enter Try.func37, Try.ntmps37
      go_wp2
      go_ret
      simp_all
  · clear H
    go_enter Try.func37, Try.ntmps37
    go_wp2
    go_ret
    simp_all
end Go.Proofs.Ytdecjmiahjlpjaa
