
/-
  What nobody holds: table.Held of free leases, walked: all of them.
-/
import Derived.Test.YtghggelkmhdhfaaGreatDoorTDecode
import Derived.Test.YtghggelkmhdhfaaGreatDoorMOf
namespace Go.Proofs.YtghggelkmhdhfaaGreatDoor
open Go.RowKit

theorem cell_one_new2 (w : World) (A : Obj) (x : Value) (e : TypeId) : ∀ j v, [x][j]? = some v → ((w.alloc A).alloc (.cells #[x] e)).cell? ((⟨w.heap.size + 1, 0, none⟩ : Addr).add j) = some v := by
  have h := cell_one_new (w.alloc A) x e
  simpa only [World.size_alloc] using h
def KeptH (w : World) (R : Nat) (v i : Value) (wr : World) : Prop := ∃ k : Nat, k ≤ R ∧ i = .int .i64 k ∧ Below w.heap.size w wr ∧ OwnPl wr w.heap.size v (List.range k)

set_option maxHeartbeats 4000000 in
set_option maxRecDepth 100000 in
theorem held_any (a : Option Addr) (R c : Nat) (w : World) (hR : R ≤ 132) (hL : FreeL w a R) :
    Calls Tryz.prog 11 #[.slice a R c, .int .i64 0] w fun e w' => (∃ a' c', e = .returned (.slice a' R c')) ∧ Below w.heap.size w w' := by
  obtain ⟨b, o, rfl, hbw, hcell⟩ := hL
  have HC := Lib.hid hcell
  obtain ⟨i0, hi, hz0, hz1, hz2⟩ := info_parts info_int
  clear hcell
  go_enter Tryz.func11, Tryz.ntmps11
  go_wp2_with fail
  go_loopw [5, 10] (fun v i wr => KeptH w R v i wr) (fun _ i _ => R - (intOf i).toNat)
  case atStart => exact ⟨0, by omega, rfl, Below.refl _ _, World.ownsRow_nil _ _ _ _⟩
  case round =>
    obtain ⟨k, hk, rfl, hbe, hown⟩ := hrel
    have hzr := hbe.size
    by_cases hlt : k < R
    · have x0 : wr.cell? ⟨b, o + k * 2, none⟩ = some (.int .i64 0) := by rw [hbe.cell (by simpa using hbw)]; exact (HC.out k hlt).1
      have x1 : wr.cell? ⟨b, o + k * 2 + 1, none⟩ = some (.int .i64 0) := by rw [hbe.cell (by simpa using hbw)]; exact (HC.out k hlt).2
      have hbr : b < wr.heap.size := by omega
      have lk : (k : Int) < R := by omega
      have lk0 : (0 : Int) ≤ k := by omega
      have BE := Lib.hid hbe
      unfold OwnPl at hown
      rw [List.length_range] at hown
      have hcs : plV (List.range k) ++ [.int .i64 (k : Int)] = plV (List.range (k + 1)) := by
        unfold plV
        rw [List.range_succ, List.map_append]
        rfl
      have HCS := Lib.hid hcs
      obtain ⟨cs, hcs2⟩ : ∃ cs, cs = plV (List.range k) := ⟨_, rfl⟩
      rw [← hcs2] at hown
      have HC2 := Lib.hid hcs2
      clear hbe hcs hcs2
      go_wp2_with (at_builtin; refine wpList_append_own _ rfl _ _ 39 rfl w.heap.size 3 i0 (.int .i64 0) 1 8 Tryz.underlying39 hi hz0 hz1 hz2 rfl (by decide) _ _ _ rfl ((hown.alloc _).alloc _) ⟨wr.heap.size + 1, 0, none⟩ 1 1 [.int .i64 (k : Int)] rfl rfl ?c1 ?c2 ?c3 ?c4 ?c5 ?_)
      case c1 => exact cell_one_new2 _ _ _ _
      case c2 => simp [Value.oneCell']
      case c3 => unfold maxLen; omega
      case c4 => omega
      case c5 => simp; omega
      intro v' w1 hown' hgrow _
      have hb1 : Below w.heap.size w w1 := ((BE.out.alloc hzr _).alloc (by simp; omega) _).grown hgrow (by simp; omega) (fun g hg => (hown.lt g hg).1)
      have O1 : OwnPl w1 w.heap.size v' (List.range (k + 1)) := by
        unfold OwnPl
        rw [List.length_range, ← HCS.out, ← HC2.out]
        exact hown'
      have HN := Lib.hid (show KeptH w R v' (.int .i64 ((k : Int) + 1)) w1 from ⟨k + 1, by omega, by simp, hb1, O1⟩)
      clear hown hown' hgrow O1 hb1
      go_wp2_with fail
      exact ⟨HN.out, by simp [intOf]; omega⟩
    · obtain rfl : k = R := by omega
      obtain ⟨a4, c4, rfl, _⟩ := hown.cells
      have BE := Lib.hid hbe
      clear hbe hown
      rw [List.length_range]
      go_wp2_with fail
      refine bodyPost_ret (v := .slice a4 k c4) (by simp [results, Tryz.results11, go_sem]) rfl ⟨⟨a4, c4, rfl⟩, BE.out⟩
end Go.Proofs.YtghggelkmhdhfaaGreatDoor
