/-
  The walk of SuperRises: the law returns true, and what was there is as it was.
-/
import Derived.Test.YthnljmejkcmjhaaPasses
import Derived.Test.YthnljmejkcmjhaaUps
import Derived.Deep.RegionHeld3
namespace Go.Proofs.Ythnljmejkcmjhaa
open Go.RowKit

/-- A node's epoch, of the two. -/
def sel (m x y : Int) : Int := if m = 0 then x else y

theorem epochs_wall {x y : Int} (hx : epochB x = true) (hy : epochB y = true) (W : World) :
    Calls Try.prog 13 #[.string (wallS x y)] W fun e w' => e = .returned (.tuple #[.agg #[.int .i64 x, .int .i64 y], .int .i64 0]) ∧ Below W.heap.size W w' := by
  have h := epochs_any (wallS x y) W
  have hf := isFence_wall hx hy
  obtain ⟨h4, h8⟩ := wall_num4 hx hy
  have e1 : epX (wallS x y) 4 = x := by simp [epX, hf, h4]
  have e2 : epX (wallS x y) 8 = y := by simp [epX, hf, h8]
  have e3 : epE (wallS x y) = 0 := by simp [epE, hf]
  rw [e1, e2, e3] at h
  exact h

/-- What a raise may do to a fence. -/
def Raised (x y : Int) (nd n x' y' : Int) : Prop := ∀ W, Calls Try.prog 17 #[.string (wallS x y), .int .i64 nd, .int .i64 n] W fun e w' => e = .returned (.tuple #[.string (wallS x' y'), .int .i64 0]) ∧ Below W.heap.size W w'
def NotRaised (x y : Int) (nd n : Int) : Prop := ∀ W, Calls Try.prog 17 #[.string (wallS x y), .int .i64 nd, .int .i64 n] W fun e w' => e = .returned (.tuple #[.string ⟨#[]⟩, .int .i64 1]) ∧ Below W.heap.size W w'
theorem raise_ways {x y : Int} (nd n : Int) (hx : epochB x = true) (hy : epochB y = true) :
    (epochB n = true ∧ x ≤ n ∧ Raised x y nd n n y) ∨ (epochB n = true ∧ y ≤ n ∧ Raised x y nd n x n) ∨ NotRaised x y nd n := by
  cases h : raiseOk (wallS x y) nd n with
  | false => exact .inr (.inr fun W => raise_wall_not hx hy h W)
  | true =>
    simp only [raiseOk, nodeB, Bool.and_eq_true, decide_eq_true_eq] at h
    obtain ⟨hn, he, hl⟩ := h
    rcases hn with rfl | rfl
    · have hl' : x ≤ n := by simpa [ep, (wall_num4 hx hy).1] using hl
      exact .inl ⟨he, hl', fun W => raise_wall0 hx hy he hl' W⟩
    · have hl' : y ≤ n := by simpa [ep, (wall_num4 hx hy).2] using hl
      exact .inr (.inl ⟨he, hl', fun W => raise_wall1 hx hy he hl' W⟩)
theorem passes_sel {x y : Int} (m n : Int) (hm : m = 0 ∨ m = 1) (hx : epochB x = true) (hy : epochB y = true) (w : World) :
    Calls Try.prog 19 #[.string (wallS x y), .int .i64 m, .int .i64 n] w fun e w' => e = .returned (.tuple #[.bool (decide (sel m x y ≤ n)), .int .i64 0]) ∧ Below w.heap.size w w' := by
  rcases hm with rfl | rfl
  · exact passes_wall0 n hx hy w
  · exact passes_wall1 n hx hy w

/-- What the loop keeps. -/
def Kept4 (w : World) (len : Nat) (m n : Int) (s out i : Value) (wr : World) : Prop :=
  ∃ (k : Nat) (x y : Int) (o : Bool), k ≤ len ∧ k ≤ 30 ∧ i = .int .i64 k ∧ s = .string (wallS x y) ∧ epochB x = true ∧ epochB y = true ∧ out = .bool o ∧ (o = true → n < sel m x y) ∧
    Below w.heap.size w wr ∧ w.heap.size < wr.heap.size ∧ wr.cell? ⟨w.heap.size, 0, none⟩ = some (.int .i64 m) ∧ wr.cell? ⟨w.heap.size, 1, none⟩ = some (.int .i64 n)

set_option maxHeartbeats 1000000 in
set_option maxRecDepth 100000 in
theorem rises_walk (ad : Option Addr) (len cap : Nat) (node n : Int) (w : World) (row : ∃ zs, IsPairs w ad len zs) :
    Calls Try.prog 6 #[.slice ad len cap, .agg #[.int .i64 node, .int .i64 n]] w fun e w' => e = .returned (.bool true) ∧ Below w.heap.size w w' := by
  obtain ⟨zs, hrow⟩ := row
  have hF := Lib.hid (fun W => fence_yes (a := 0) (b := 0) rfl rfl W)
  have hm : node % (2 : Nat) = 0 ∨ node % (2 : Nat) = 1 := by omega
  have hA := Lib.hid (fun W => among_any node 2 W (by omega) (by omega))
  have HM := Lib.hid hm
  clear hm
  generalize node % (2 : Nat) = m at *
  have HR := Lib.hid hrow
  clear hrow
  go_enter Try.func6, Try.ntmps6
  go_wp2_with fail
  refine (works_any _).mono ?_
  rintro e w1 ⟨rfl, hb1⟩
  have hz1 := hb1.size
  simp at hz1
  have p2 : w1.cell? ⟨w.heap.size, 0, none⟩ = some (.int .i64 node) := by rw [hb1.cell (by simp <;> omega)]; simp [go_sem]
  have p3 : w1.cell? ⟨w.heap.size, 1, none⟩ = some (.int .i64 n) := by rw [hb1.cell (by simp <;> omega)]; simp [go_sem]
  have f1 : ∀ o, w1.frozen? ⟨w.heap.size, o, none⟩ = false := fun o => by rw [hb1.frozen (by simp <;> omega)]; simp [go_sem]
  go_wp2_with fail
  refine (hF.out _).mono ?_
  rintro e w2 ⟨rfl, hb2⟩
  have hz2 := hb2.size
  have q2 : w2.cell? ⟨w.heap.size, 0, none⟩ = some (.int .i64 node) := by rw [hb2.cell (by simp; omega)]; exact p2
  have q3 : w2.cell? ⟨w.heap.size, 1, none⟩ = some (.int .i64 n) := by rw [hb2.cell (by simp; omega)]; exact p3
  have f2 : ∀ o, w2.frozen? ⟨w.heap.size, o, none⟩ = false := fun o => by rw [hb2.frozen (by simp; omega)]; exact f1 o
  clear p2 p3 f1
  go_wp2_with fail
  refine (hA.out _).mono ?_
  rintro e w3 ⟨rfl, rfl⟩
  go_wp2_with fail
  have hst : Below w.heap.size w (w2.setCell ⟨w.heap.size, 0, none⟩ (.int .i64 m)) := by (repeat' (first | exact Below.refl _ _ | assumption | refine Below.setCell ?_ ?_ _ | refine Below.drew ?_ | refine below_drewN ?_ _ | refine Below.alloc ?_ ?_ _ | refine below_of_grown ?_ (by assumption) ?_ | refine Below.trans ?_ (Below.mono (by assumption) ?_) | omega | (simp; done) | (simp; omega)))
  have hz3 : w.heap.size < (w2.setCell ⟨w.heap.size, 0, none⟩ (.int .i64 m)).heap.size := by simp; omega
  have c0 : (w2.setCell ⟨w.heap.size, 0, none⟩ (.int .i64 m)).cell? ⟨w.heap.size, 0, none⟩ = some (.int .i64 m) := by simp [go_sem, q2]
  have c1 : (w2.setCell ⟨w.heap.size, 0, none⟩ (.int .i64 m)).cell? ⟨w.heap.size, 1, none⟩ = some (.int .i64 n) := by simp [go_sem, q3]
  generalize w2.setCell ⟨w.heap.size, 0, none⟩ (.int .i64 m) = w4 at *
  clear q2 q3 f2
  go_loopw [5, 7, 8] (fun s out i wr => Kept4 w len m n s out i wr) (fun _ _ i _ => 30 - (intOf i).toNat)
  case atStart => exact ⟨0, 0, 0, false, by omega, by omega, rfl, rfl, rfl, rfl, rfl, by simp, hst, hz3, c0, c1⟩
  case round =>
    obtain ⟨k, x, y, o, hk1, hk2, rfl, rfl, hx, hy, rfl, ho, hbe, hzr, d0, d1⟩ := hrel
    clear c0 c1 hst hz3 hz1 hz2 hb1 hb2
    by_cases hlt : k < len ∧ k < 30
    · obtain ⟨hlt1, hlt2⟩ := hlt
      rcases HR.out with h0 | ⟨b, off, rfl, hmx, hbw, hcell⟩
      · omega
      unfold maxLen at hmx
      have e0 := (hcell k hlt1).1
      have e1 := (hcell k hlt1).2
      have hE := Lib.hid (fun W => epochs_wall hx hy W)
      have hR := Lib.hid (raise_ways (zs k).1 (zs k).2 hx hy)
      have hO := Lib.hid ho
      have hX := Lib.hid hx
      have hY := Lib.hid hy
      have hbr : b < wr.heap.size := by omega
      have g0 : wr.cell? ⟨b, off + k * 2, none⟩ = some (.int .i64 (zs k).1) := by rw [hbe.cell (by simpa using hbw)]; exact e0
      have g1 : wr.cell? ⟨b, off + k * 2 + 1, none⟩ = some (.int .i64 (zs k).2) := by rw [hbe.cell (by simpa using hbw)]; exact e1
      generalize (zs k).1 = nd at *
      generalize (zs k).2 = ne at *
      clear ho hx hy hcell e0 e1
      go_wp2_with fail
      refine (hE.out _).mono ?_
      rintro e w5 ⟨rfl, hb5⟩
      have hz5 := hb5.size
      have i0 : w5.cell? ⟨b, off + k * 2, none⟩ = some (.int .i64 nd) := by rw [hb5.cell (by simpa using hbr)]; exact g0
      have i1 : w5.cell? ⟨b, off + k * 2 + 1, none⟩ = some (.int .i64 ne) := by rw [hb5.cell (by simpa using hbr)]; exact g1
      have i2 : w5.cell? ⟨w.heap.size, 0, none⟩ = some (.int .i64 m) := by rw [hb5.cell (by simpa using hzr)]; exact d0
      have i3 : w5.cell? ⟨w.heap.size, 1, none⟩ = some (.int .i64 n) := by rw [hb5.cell (by simpa using hzr)]; exact d1
      clear g0 g1 d0 d1
      have hbe5 : Below w.heap.size w w5 := hbe.trans (hb5.mono (by omega))
      clear hbe hb5
      have hb5' : b < w5.heap.size := by omega
      have hz5' : w.heap.size < w5.heap.size := by omega
      go_wp2_with fail
      -- the world ahead of the region
      have j0 : (w5.alloc (.cells #[.int .i64 x, .int .i64 y] 31)).cell? ⟨b, off + k * 2, none⟩ = some (.int .i64 nd) := by simp [go_sem, i0, hb5']
      have j1 : (w5.alloc (.cells #[.int .i64 x, .int .i64 y] 31)).cell? ⟨b, off + k * 2 + 1, none⟩ = some (.int .i64 ne) := by simp [go_sem, i1, hb5']
      have j2 : (w5.alloc (.cells #[.int .i64 x, .int .i64 y] 31)).cell? ⟨w.heap.size, 0, none⟩ = some (.int .i64 m) := by simp [go_sem, i2, hz5']
      have j3 : (w5.alloc (.cells #[.int .i64 x, .int .i64 y] 31)).cell? ⟨w.heap.size, 1, none⟩ = some (.int .i64 n) := by simp [go_sem, i3, hz5']
      have j4 : (w5.alloc (.cells #[.int .i64 x, .int .i64 y] 31)).cell? ⟨w5.heap.size, 0, none⟩ = some (.int .i64 x) := by simp [go_sem]
      have j5 : (w5.alloc (.cells #[.int .i64 x, .int .i64 y] 31)).cell? ⟨w5.heap.size, 1, none⟩ = some (.int .i64 y) := by simp [go_sem]
      have hbe6 : Below w.heap.size w (w5.alloc (.cells #[.int .i64 x, .int .i64 y] 31)) := hbe5.alloc (by omega) _
      have hz6 : w5.heap.size < (w5.alloc (.cells #[.int .i64 x, .int .i64 y] 31)).heap.size := by simp
      clear i0 i1 i2 i3 hbe5
      generalize w5.alloc (.cells #[.int .i64 x, .int .i64 y] 31) = w6 at *
      have l0 : (k : Int) < len := by omega
      rcases hR.out with ⟨hne, hle, hr⟩ | ⟨hne, hle, hr⟩ | hr
      · have HR2 := Lib.hid hr
        have hNE := Lib.hid hne
        have HE2 := Lib.hid (fun W => epochs_wall hne hY.out W)
        have HP := Lib.hid (fun W => passes_sel m n HM.out hne hY.out W)
        clear hr hne hR
        go_region_held3 (fun w' => w'.cell? ⟨b, off + k * 2, none⟩ = some (.int .i64 nd) ∧ w'.cell? ⟨b, off + k * 2 + 1, none⟩ = some (.int .i64 ne) ∧ Below w6.heap.size w6 w')
          (first
            | exact (Below.refl _ _).drew
            | exact ⟨by go_keep, by go_keep, (Below.refl _ _).drew⟩
            | exact keep2 hb7 j0 j1 (Below.refl _ _).drew
            | (go_split_ands; exact keep2 hb7 (by assumption) (by assumption) (by assumption)))
          (first
            | (go_at_call 17; refine (HR2.out _).mono ?_; rintro e w7 ⟨rfl, hb7⟩))
        have hb : Below w6.heap.size w6 w7 := by go_split_ands; assumption
        have hz7 := hb.size
        have m2 : w7.cell? ⟨w.heap.size, 0, none⟩ = some (.int .i64 m) := by rw [hb.cell (by simp; omega)]; exact j2
        have m3 : w7.cell? ⟨w.heap.size, 1, none⟩ = some (.int .i64 n) := by rw [hb.cell (by simp; omega)]; exact j3
        have m4 : w7.cell? ⟨w5.heap.size, 0, none⟩ = some (.int .i64 x) := by rw [hb.cell (by simp; omega)]; exact j4
        have m5 : w7.cell? ⟨w5.heap.size, 1, none⟩ = some (.int .i64 y) := by rw [hb.cell (by simp; omega)]; exact j5
        have hbe7 : Below w.heap.size w w7 := hbe6.trans (hb.mono (by omega))
        clear j0 j1 j2 j3 j4 j5 hb hb7 hbe6
        have hb7s : w5.heap.size < w7.heap.size := by omega
        have hb7t : w.heap.size < w7.heap.size := by omega
        go_wp2_with fail
        refine (HE2.out _).mono ?_
        rintro e w8 ⟨rfl, hb8⟩
        have hz8 := hb8.size
        have n2 : w8.cell? ⟨w.heap.size, 0, none⟩ = some (.int .i64 m) := by rw [hb8.cell (by simp; omega)]; exact m2
        have n3 : w8.cell? ⟨w.heap.size, 1, none⟩ = some (.int .i64 n) := by rw [hb8.cell (by simp; omega)]; exact m3
        have n4 : w8.cell? ⟨w5.heap.size, 0, none⟩ = some (.int .i64 x) := by rw [hb8.cell (by simp; omega)]; exact m4
        have n5 : w8.cell? ⟨w5.heap.size, 1, none⟩ = some (.int .i64 y) := by rw [hb8.cell (by simp; omega)]; exact m5
        have hbe8 : Below w.heap.size w w8 := hbe7.trans (hb8.mono (by omega))
        clear m2 m3 m4 m5 hbe7 hb8
        have hb8s : w5.heap.size < w8.heap.size := by omega
        have hb8t : w.heap.size < w8.heap.size := by omega
        go_wp2_with fail
        refine (HP.out _).mono ?_
        rintro e w9 ⟨rfl, hb9⟩
        have hz9 := hb9.size
        simp at hz9
        have o2 : w9.cell? ⟨w.heap.size, 0, none⟩ = some (.int .i64 m) := by rw [hb9.cell (by simp; omega)]; simp [go_sem, n2, hb8t]
        have o3 : w9.cell? ⟨w.heap.size, 1, none⟩ = some (.int .i64 n) := by rw [hb9.cell (by simp; omega)]; simp [go_sem, n3, hb8t]
        have o4 : w9.cell? ⟨w5.heap.size, 0, none⟩ = some (.int .i64 x) := by rw [hb9.cell (by simp; omega)]; simp [go_sem, n4, hb8s]
        have o5 : w9.cell? ⟨w5.heap.size, 1, none⟩ = some (.int .i64 y) := by rw [hb9.cell (by simp; omega)]; simp [go_sem, n5, hb8s]
        have o6 : w9.cell? ⟨w8.heap.size, 0, none⟩ = some (.int .i64 ne) := by rw [hb9.cell (by simp <;> omega)]; simp [go_sem]
        have o7 : w9.cell? ⟨w8.heap.size, 1, none⟩ = some (.int .i64 y) := by rw [hb9.cell (by simp <;> omega)]; simp [go_sem]
        have hbe9 : Below w.heap.size w w9 := (hbe8.alloc (by omega) _).trans (hb9.mono (by simp; omega))
        have hz10 : w.heap.size < w9.heap.size := by omega
        clear n2 n3 n4 n5 hbe8 hb9
        obtain ⟨ok, hok⟩ : ∃ ok : Bool, ok = decide (sel m ne y ≤ n) := ⟨_, rfl⟩
        have hmono : sel m x y ≤ sel m ne y := by unfold sel; split <;> omega
        have hno : o = true → ok = false := fun ho' => by rw [hok]; exact decide_eq_false (by have := hO.out ho'; omega)
        have hnext : (!ok) = true → n < sel m ne y := fun h' => by rw [hok] at h'; simpa using h'
        rw [← hok]
        have HOK := Lib.hid hok
        have HNX := Lib.hid hnext
        clear hok hmono hnext
        by_cases hgt : x < ne
        · cases o with
          | false =>
            clear hno
            go_wp2_with fail
            go_roundw
            case rel => exact ⟨k + 1, ne, y, !ok, by omega, by omega, by go_num, rfl, hNE.out, hY.out, rfl, HNX.out, hbe9, hz10, o2, o3⟩
            case measure => simp [intOf]; omega
          | true =>
            have hf := hno rfl
            subst hf
            clear hno
            go_wp2_with fail
            go_roundw
            case rel => exact ⟨k + 1, ne, y, true, by omega, by omega, by go_num, rfl, hNE.out, hY.out, rfl, HNX.out, hbe9, hz10, o2, o3⟩
            case measure => simp [intOf]; omega
        · cases o with
          | false =>
            clear hno
            go_wp2_with fail
            go_roundw
            case rel => exact ⟨k + 1, ne, y, !ok, by omega, by omega, by go_num, rfl, hNE.out, hY.out, rfl, HNX.out, hbe9, hz10, o2, o3⟩
            case measure => simp [intOf]; omega
          | true =>
            have hf := hno rfl
            subst hf
            clear hno
            go_wp2_with fail
            go_roundw
            case rel => exact ⟨k + 1, ne, y, true, by omega, by omega, by go_num, rfl, hNE.out, hY.out, rfl, HNX.out, hbe9, hz10, o2, o3⟩
            case measure => simp [intOf]; omega
      · have HR2 := Lib.hid hr
        have hNE := Lib.hid hne
        have HE2 := Lib.hid (fun W => epochs_wall hX.out hne W)
        have HP := Lib.hid (fun W => passes_sel m n HM.out hX.out hne W)
        clear hr hne hR
        go_region_held3 (fun w' => w'.cell? ⟨b, off + k * 2, none⟩ = some (.int .i64 nd) ∧ w'.cell? ⟨b, off + k * 2 + 1, none⟩ = some (.int .i64 ne) ∧ Below w6.heap.size w6 w')
          (first
            | exact (Below.refl _ _).drew
            | exact ⟨by go_keep, by go_keep, (Below.refl _ _).drew⟩
            | exact keep2 hb7 j0 j1 (Below.refl _ _).drew
            | (go_split_ands; exact keep2 hb7 (by assumption) (by assumption) (by assumption)))
          (first
            | (go_at_call 17; refine (HR2.out _).mono ?_; rintro e w7 ⟨rfl, hb7⟩))
        have hb : Below w6.heap.size w6 w7 := by go_split_ands; assumption
        have hz7 := hb.size
        have m2 : w7.cell? ⟨w.heap.size, 0, none⟩ = some (.int .i64 m) := by rw [hb.cell (by simp; omega)]; exact j2
        have m3 : w7.cell? ⟨w.heap.size, 1, none⟩ = some (.int .i64 n) := by rw [hb.cell (by simp; omega)]; exact j3
        have m4 : w7.cell? ⟨w5.heap.size, 0, none⟩ = some (.int .i64 x) := by rw [hb.cell (by simp; omega)]; exact j4
        have m5 : w7.cell? ⟨w5.heap.size, 1, none⟩ = some (.int .i64 y) := by rw [hb.cell (by simp; omega)]; exact j5
        have hbe7 : Below w.heap.size w w7 := hbe6.trans (hb.mono (by omega))
        clear j0 j1 j2 j3 j4 j5 hb hb7 hbe6
        have hb7s : w5.heap.size < w7.heap.size := by omega
        have hb7t : w.heap.size < w7.heap.size := by omega
        go_wp2_with fail
        refine (HE2.out _).mono ?_
        rintro e w8 ⟨rfl, hb8⟩
        have hz8 := hb8.size
        have n2 : w8.cell? ⟨w.heap.size, 0, none⟩ = some (.int .i64 m) := by rw [hb8.cell (by simp; omega)]; exact m2
        have n3 : w8.cell? ⟨w.heap.size, 1, none⟩ = some (.int .i64 n) := by rw [hb8.cell (by simp; omega)]; exact m3
        have n4 : w8.cell? ⟨w5.heap.size, 0, none⟩ = some (.int .i64 x) := by rw [hb8.cell (by simp; omega)]; exact m4
        have n5 : w8.cell? ⟨w5.heap.size, 1, none⟩ = some (.int .i64 y) := by rw [hb8.cell (by simp; omega)]; exact m5
        have hbe8 : Below w.heap.size w w8 := hbe7.trans (hb8.mono (by omega))
        clear m2 m3 m4 m5 hbe7 hb8
        have hb8s : w5.heap.size < w8.heap.size := by omega
        have hb8t : w.heap.size < w8.heap.size := by omega
        go_wp2_with fail
        refine (HP.out _).mono ?_
        rintro e w9 ⟨rfl, hb9⟩
        have hz9 := hb9.size
        simp at hz9
        have o2 : w9.cell? ⟨w.heap.size, 0, none⟩ = some (.int .i64 m) := by rw [hb9.cell (by simp; omega)]; simp [go_sem, n2, hb8t]
        have o3 : w9.cell? ⟨w.heap.size, 1, none⟩ = some (.int .i64 n) := by rw [hb9.cell (by simp; omega)]; simp [go_sem, n3, hb8t]
        have o4 : w9.cell? ⟨w5.heap.size, 0, none⟩ = some (.int .i64 x) := by rw [hb9.cell (by simp; omega)]; simp [go_sem, n4, hb8s]
        have o5 : w9.cell? ⟨w5.heap.size, 1, none⟩ = some (.int .i64 y) := by rw [hb9.cell (by simp; omega)]; simp [go_sem, n5, hb8s]
        have o6 : w9.cell? ⟨w8.heap.size, 0, none⟩ = some (.int .i64 x) := by rw [hb9.cell (by simp <;> omega)]; simp [go_sem]
        have o7 : w9.cell? ⟨w8.heap.size, 1, none⟩ = some (.int .i64 ne) := by rw [hb9.cell (by simp <;> omega)]; simp [go_sem]
        have hbe9 : Below w.heap.size w w9 := (hbe8.alloc (by omega) _).trans (hb9.mono (by simp; omega))
        have hz10 : w.heap.size < w9.heap.size := by omega
        clear n2 n3 n4 n5 hbe8 hb9
        obtain ⟨ok, hok⟩ : ∃ ok : Bool, ok = decide (sel m x ne ≤ n) := ⟨_, rfl⟩
        have hmono : sel m x y ≤ sel m x ne := by unfold sel; split <;> omega
        have hno : o = true → ok = false := fun ho' => by rw [hok]; exact decide_eq_false (by have := hO.out ho'; omega)
        have hnext : (!ok) = true → n < sel m x ne := fun h' => by rw [hok] at h'; simpa using h'
        rw [← hok]
        have HOK := Lib.hid hok
        have HNX := Lib.hid hnext
        clear hok hmono hnext
        cases o with
        | false =>
          clear hno
          go_wp2_with fail
          go_roundw
          case rel => exact ⟨k + 1, x, ne, !ok, by omega, by omega, by go_num, rfl, hX.out, hNE.out, rfl, HNX.out, hbe9, hz10, o2, o3⟩
          case measure => simp [intOf]; omega
        | true =>
          have hf := hno rfl
          subst hf
          clear hno
          go_wp2_with fail
          go_roundw
          case rel => exact ⟨k + 1, x, ne, true, by omega, by omega, by go_num, rfl, hX.out, hNE.out, rfl, HNX.out, hbe9, hz10, o2, o3⟩
          case measure => simp [intOf]; omega
      · have HR2 := Lib.hid hr
        have HE2 := Lib.hid (fun W => epochs_wall hX.out hY.out W)
        have HP := Lib.hid (fun W => passes_sel m n HM.out hX.out hY.out W)
        clear hr hR
        go_region_held3 (fun w' => w'.cell? ⟨b, off + k * 2, none⟩ = some (.int .i64 nd) ∧ w'.cell? ⟨b, off + k * 2 + 1, none⟩ = some (.int .i64 ne) ∧ Below w6.heap.size w6 w')
          (first
            | exact (Below.refl _ _).drew
            | exact ⟨by go_keep, by go_keep, (Below.refl _ _).drew⟩
            | exact keep2 hb7 j0 j1 (Below.refl _ _).drew
            | (go_split_ands; exact keep2 hb7 (by assumption) (by assumption) (by assumption)))
          (first
            | (go_at_call 17; refine (HR2.out _).mono ?_; rintro e w7 ⟨rfl, hb7⟩))
        have hb : Below w6.heap.size w6 w7 := by go_split_ands; assumption
        have hz7 := hb.size
        have m2 : w7.cell? ⟨w.heap.size, 0, none⟩ = some (.int .i64 m) := by rw [hb.cell (by simp; omega)]; exact j2
        have m3 : w7.cell? ⟨w.heap.size, 1, none⟩ = some (.int .i64 n) := by rw [hb.cell (by simp; omega)]; exact j3
        have m4 : w7.cell? ⟨w5.heap.size, 0, none⟩ = some (.int .i64 x) := by rw [hb.cell (by simp; omega)]; exact j4
        have m5 : w7.cell? ⟨w5.heap.size, 1, none⟩ = some (.int .i64 y) := by rw [hb.cell (by simp; omega)]; exact j5
        have hbe7 : Below w.heap.size w w7 := hbe6.trans (hb.mono (by omega))
        clear j0 j1 j2 j3 j4 j5 hb hb7 hbe6
        have hb7s : w5.heap.size < w7.heap.size := by omega
        have hb7t : w.heap.size < w7.heap.size := by omega
        go_wp2_with fail
        refine (HE2.out _).mono ?_
        rintro e w8 ⟨rfl, hb8⟩
        have hz8 := hb8.size
        have n2 : w8.cell? ⟨w.heap.size, 0, none⟩ = some (.int .i64 m) := by rw [hb8.cell (by simp; omega)]; exact m2
        have n3 : w8.cell? ⟨w.heap.size, 1, none⟩ = some (.int .i64 n) := by rw [hb8.cell (by simp; omega)]; exact m3
        have n4 : w8.cell? ⟨w5.heap.size, 0, none⟩ = some (.int .i64 x) := by rw [hb8.cell (by simp; omega)]; exact m4
        have n5 : w8.cell? ⟨w5.heap.size, 1, none⟩ = some (.int .i64 y) := by rw [hb8.cell (by simp; omega)]; exact m5
        have hbe8 : Below w.heap.size w w8 := hbe7.trans (hb8.mono (by omega))
        clear m2 m3 m4 m5 hbe7 hb8
        have hb8s : w5.heap.size < w8.heap.size := by omega
        have hb8t : w.heap.size < w8.heap.size := by omega
        go_wp2_with fail
        refine (HP.out _).mono ?_
        rintro e w9 ⟨rfl, hb9⟩
        have hz9 := hb9.size
        simp at hz9
        have o2 : w9.cell? ⟨w.heap.size, 0, none⟩ = some (.int .i64 m) := by rw [hb9.cell (by simp; omega)]; simp [go_sem, n2, hb8t]
        have o3 : w9.cell? ⟨w.heap.size, 1, none⟩ = some (.int .i64 n) := by rw [hb9.cell (by simp; omega)]; simp [go_sem, n3, hb8t]
        have o4 : w9.cell? ⟨w5.heap.size, 0, none⟩ = some (.int .i64 x) := by rw [hb9.cell (by simp; omega)]; simp [go_sem, n4, hb8s]
        have o5 : w9.cell? ⟨w5.heap.size, 1, none⟩ = some (.int .i64 y) := by rw [hb9.cell (by simp; omega)]; simp [go_sem, n5, hb8s]
        have o6 : w9.cell? ⟨w8.heap.size, 0, none⟩ = some (.int .i64 x) := by rw [hb9.cell (by simp <;> omega)]; simp [go_sem]
        have o7 : w9.cell? ⟨w8.heap.size, 1, none⟩ = some (.int .i64 y) := by rw [hb9.cell (by simp <;> omega)]; simp [go_sem]
        have hbe9 : Below w.heap.size w w9 := (hbe8.alloc (by omega) _).trans (hb9.mono (by simp; omega))
        have hz10 : w.heap.size < w9.heap.size := by omega
        clear n2 n3 n4 n5 hbe8 hb9
        obtain ⟨ok, hok⟩ : ∃ ok : Bool, ok = decide (sel m x y ≤ n) := ⟨_, rfl⟩
        have hmono : sel m x y ≤ sel m x y := by unfold sel; split <;> omega
        have hno : o = true → ok = false := fun ho' => by rw [hok]; exact decide_eq_false (by have := hO.out ho'; omega)
        have hnext : (!ok) = true → n < sel m x y := fun h' => by rw [hok] at h'; simpa using h'
        rw [← hok]
        have HOK := Lib.hid hok
        have HNX := Lib.hid hnext
        clear hok hmono hnext
        cases o with
        | false =>
          clear hno
          go_wp2_with fail
          go_roundw
          case rel => exact ⟨k + 1, x, y, !ok, by omega, by omega, by go_num, rfl, hX.out, hY.out, rfl, HNX.out, hbe9, hz10, o2, o3⟩
          case measure => simp [intOf]; omega
        | true =>
          have hf := hno rfl
          subst hf
          clear hno
          go_wp2_with fail
          go_roundw
          case rel => exact ⟨k + 1, x, y, true, by omega, by omega, by go_num, rfl, hX.out, hY.out, rfl, HNX.out, hbe9, hz10, o2, o3⟩
          case measure => simp [intOf]; omega
    · by_cases hk : k < len
      · have hk30 : ¬ k < 30 := fun h => hlt ⟨hk, h⟩
        clear hlt
        go_wp2_with fail
        go_ret
        exact ⟨rfl, hbe⟩
      · clear hlt
        go_wp2_with fail
        go_ret
        exact ⟨rfl, hbe⟩
end Go.Proofs.Ythnljmejkcmjhaa
