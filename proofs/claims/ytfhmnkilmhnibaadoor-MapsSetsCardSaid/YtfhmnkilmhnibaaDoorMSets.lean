/-
  The walk of MapsSets: the law returns true, and what was there is as it was.
-/
import Derived.Test.YtfhmnkilmhnibaaDoorMSet
import Derived.Test.YtfhmnkilmhnibaaDoorMInts
import Derived.Test.YtfhmnkilmhnibaaDoorAmong
namespace Go.Proofs.YtfhmnkilmhnibaaDoor
open Go.RowKit

def KeptS (w : World) (g len N : Nat) (v i : Value) (wr : World) : Prop :=
  ∃ (k : Nat) (f : Nat → Bool), k ≤ len ∧ k ≤ 60 ∧ i = .int .i64 k ∧ v = .string (setS f) ∧ Hid (∀ y, N ≤ y → f y = false) ∧ Below w.heap.size w wr ∧ Blk wr g (wantC f) 42
def KeptM (w : World) (g N : Nat) (f : Nat → Bool) (v i : Value) (wr : World) : Prop :=
  ∃ k : Nat, k ≤ N ∧ i = .int .i64 k ∧ v = .int .i64 (cnt f k) ∧ Below w.heap.size w wr ∧ Blk wr g (wantC f) 42

set_option maxHeartbeats 4000000 in
set_option maxRecDepth 100000 in
theorem sets_walk (n : Int) (ad : Option Addr) (len cap : Nat) (place : Int) (w : World) (row : ∃ zs, IsInts w ad len zs) :
    Calls Tryd.prog 7 #[.int .i64 n, .slice ad len cap, .int .i64 place] w fun e w' => e = .returned (.bool true) ∧ Below w.heap.size w w' := by
  obtain ⟨zs, hrow⟩ := row
  have HR := Lib.hid hrow
  obtain ⟨m, hm, hm64⟩ : ∃ m : Nat, n % ((64 : Nat) : Int) = (m : Int) ∧ m < 64 := ⟨(n % 64).toNat, by omega, by omega⟩
  have hA0 := fun W => among_any n 64 W (by omega) (by omega)
  rw [hm] at hA0
  have HA0 := Lib.hid hA0
  obtain ⟨N, hNm⟩ : ∃ N : Nat, (1 : Int) + (m : Int) = (N : Int) := ⟨1 + m, by omega⟩
  have h1 : 1 ≤ N := by omega
  have hN : N ≤ 64 := by omega
  have HAM := Lib.hid (fun (x : Int) W => among_any x N W h1 (by omega))
  obtain ⟨x, hx, hxN⟩ : ∃ x : Nat, place % (N : Int) = (x : Int) ∧ x < N := ⟨(place % N).toNat, by
    have := Int.emod_nonneg place (show (N : Int) ≠ 0 by omega)
    omega, by
    have h2 := Int.emod_lt_of_pos place (show (0 : Int) < N by omega)
    have h3 := Int.emod_nonneg place (show (N : Int) ≠ 0 by omega)
    omega⟩
  have hAP := fun W => HAM.out place W
  rw [hx] at hAP
  have HAP := Lib.hid hAP
  have HBL := Lib.hid (fun W => blank_any W)
  rw [setS_blank] at HBL
  clear hrow hA0 hm hx hAP
  go_enter Tryd.func7, Tryd.ntmps7
  go_wp2_with fail
  refine (works_any _).mono ?_
  rintro e w1 ⟨rfl, hb1⟩
  go_wp2_with fail
  refine (HA0.out _).mono ?_
  rintro e w2 ⟨rfl, rfl⟩
  have hm0 : (0 : Int) ≤ m := by omega
  have hm1 : (m : Int) ≤ 63 := by omega
  go_wp2_with fail
  clear hNm hm0 hm1 hm64
  refine (HBL.out _).mono ?_
  rintro e w3 ⟨rfl, hb3⟩
  have B3 := hb1.trans (Below.mono hb3 hb1.size)
  clear hb1 hb3
  go_wp2_with fail
  have hb0 : Blk (w3.alloc (.cells (List.replicate 64 (Value.bool false)).toArray 42)) w3.heap.size (wantC fun _ => false) 42 := by
    rw [wantC_none]
    exact Blk.new _ _ _
  have hz3 := B3.size
  have B4 : Below w.heap.size w (w3.alloc (.cells (List.replicate 64 (Value.bool false)).toArray 42)) := B3.alloc hz3 _
  go_loopw [7, 9] (fun v i wr => KeptS w w3.heap.size len N v i wr) (fun _ i _ => 60 - (intOf i).toNat)
  case atStart => exact ⟨0, fun _ => false, by omega, by omega, rfl, rfl, Lib.hid fun _ _ => rfl, B4, hb0⟩
  case round =>
    clear hb0 B4 B3
    have hwg := hz3
    clear hz3
    generalize w3.heap.size = g at *
    obtain ⟨k, f, hk1, hk2, rfl, rfl, hfN, hbe, hblk⟩ := hrel
    have hzr := hbe.size
    have hgl := hblk.lt
    by_cases hlt : k < len ∧ k < 60
    · obtain ⟨hlt1, hlt2⟩ := hlt
      rcases HR.out with h0 | ⟨b, off, rfl, hmx, hbw, hcell⟩
      · omega
      unfold maxLen at hmx
      have g0 : wr.cell? ⟨b, off + k, none⟩ = some (.int .i64 (zs k)) := by rw [hbe.cell (by simpa using hbw)]; exact hcell k hlt1
      obtain ⟨y, hy, hyN⟩ : ∃ y : Nat, (zs k) % (N : Int) = (y : Int) ∧ y < N := ⟨((zs k) % N).toNat, by
        have := Int.emod_nonneg (zs k) (show (N : Int) ≠ 0 by omega)
        omega, by
        have h2 := Int.emod_lt_of_pos (zs k) (show (0 : Int) < N by omega)
        have h3 := Int.emod_nonneg (zs k) (show (N : Int) ≠ 0 by omega)
        omega⟩
      have hAY := fun W => HAM.out (zs k) W
      rw [hy] at hAY
      have HAY := Lib.hid hAY
      generalize zs k = z at g0 HAY
      have hd40 : decide ((k : Int) < 60) = true := decide_eq_true (by omega)
      have lk : (k : Int) < len := by omega
      have lk0 : (0 : Int) ≤ k := by omega
      have HBLK := Lib.hid hblk
      have HBE := Lib.hid hbe
      clear hcell hAY hy hblk hbe
      go_wp2_with fail
      go_quiet ((go_at_call 13; exact Calls.quiet_of_same ((HAY.out _).mono fun _ _ h => ⟨h.1, h.2.symm⟩)))
      have B5 := Lib.hid (below_drewN HBE.out nq)
      have D5 := Lib.hid (HBLK.out.below (below_drewN (Below.refl wr.heap.size wr) nq))
      have hgl5 : g < (wr.drewN nq).heap.size := D5.out.lt
      have hz5 := B5.out.size
      generalize wr.drewN nq = w5 at *
      generalize (z.tmod 3 != 0) = tk at *
      have hpt := fun W g hg => patched_one (setS f) (bit tk) y W g hg (size_setS f) (by rw [size_bit]; omega) (by rw [size_bit]; omega)
      rw [over_setS f y tk (by omega)] at hpt
      have HPT := Lib.hid hpt
      have HSET := Lib.hid (fun W => set_any N y tk W hyN hN)
      generalize bit tk = bt at HPT HSET
      obtain ⟨S2, hS2⟩ : ∃ S2, S2 = setS (upd f y tk) := ⟨_, rfl⟩
      obtain ⟨S1, hS1⟩ : ∃ S1, S1 = setS f := ⟨_, rfl⟩
      rw [← hS2, ← hS1] at HPT
      rw [← hS1]
      have HS2 := Lib.hid hS2
      clear hpt g0 HBLK HBE HAY hS1 hS2
      go_wp2_with fail
      refine (HSET.out _).mono ?_
      rintro e w6 ⟨rfl, hb6⟩
      have B6 := Lib.hid (B5.out.trans (Below.mono hb6 hz5))
      have D6 := Lib.hid (D5.out.below hb6)
      have hz6 := B6.out.size
      clear hb6 B5 D5 HSET
      go_wp2_with fail
      refine (HPT.out _ _ (by simp)).mono ?_
      rintro e w7 ⟨rfl, hb7⟩
      have B7 := Lib.hid (((B6.out.alloc hz6 (.cells #[.int .i64 (y : Int), .string bt] 44)).alloc (by simp; omega) (.cells #[.int .i64 (y : Int), .string bt] 44)).trans (Below.mono hb7 (by simp; omega)))
      have D7 := Lib.hid (((D6.out.alloc (.cells #[.int .i64 (y : Int), .string bt] 44)).alloc (.cells #[.int .i64 (y : Int), .string bt] 44)).below hb7)
      have c0 : w7.cell? ⟨g, y, none⟩ = some (.bool (f y)) := by rw [D7.out.cell, wantC_get f y (by omega)]
      have cf : ∀ o, w7.frozen? ⟨g, o, none⟩ = false := D7.out.free
      have lx0 : (0 : Int) ≤ y := by omega
      have lx1 : (y : Int) < 64 := by omega
      have D8 := D7.out.setCell y (.bool tk)
      rw [wantC_step] at D8
      have B8 : Below w.heap.size w (w7.setCell ⟨g, y, none⟩ (.bool tk)) := B7.out.setCell hwg _
      have HN := Lib.hid (show KeptS w g len N (.string S2) (.int .i64 ((k : Int) + 1)) (w7.setCell ⟨g, y, none⟩ (.bool tk)) from ⟨k + 1, upd f y tk, by omega, by omega, by simp, by rw [HS2.out], Lib.hid (upd_beyond tk hyN hfN.out), B8, D8⟩)
      clear hb7 D7 B7 B6 D6 D8 B8 HPT
      generalize f y = fy at c0
      go_wp2_with fail
      exact ⟨HN.out, by simp [intOf]; omega⟩
    · have hend : decide (k < len) = false ∨ (decide (k < len) = true ∧ decide ((k : Int) < 60) = false) := by
        by_cases h : k < len
        · exact .inr ⟨decide_eq_true h, decide_eq_false (by omega)⟩
        · exact .inl (decide_eq_false h)
      have hfind := find_setS hxN hN hfN.out
      obtain ⟨p1, p2⟩ := count_setS h1 hN hfN.out
      have C1 := fun W => count_any (setS f) N W
      rw [p1, p2] at C1
      have HC1 := Lib.hid C1
      have HTK := Lib.hid (fun (y : Nat) (hy : y < N) W => by
        have := taken_any (setS f) N y W
        rw [(taken_setS hy hN hfN.out).1, (taken_setS hy hN hfN.out).2] at this
        exact this)
      have HF := Lib.hid (fun W => find_any (setS f) N x W)
      have HFI := Lib.hid hfind
      clear p1 p2 C1 hfind hfN
      generalize setS f = S at *
      generalize findI S N x = fi at *
      generalize findE S N x = fe at *
      have BE := Lib.hid hbe
      have DE := Lib.hid hblk
      have hN0 : (1 : Int) ≤ N := by omega
      have hN1 : (N : Int) ≤ 64 := by omega
      clear hbe hblk
      rcases hend with e1 | ⟨e1, e2⟩
      all_goals
        go_wp2_with fail
        go_loopw [16, 78] (fun v i wr => KeptM w g N f v i wr) (fun _ i _ => N - (intOf i).toNat)
        case atStart => exact ⟨0, by omega, rfl, rfl, BE.out, DE.out⟩
        case round =>
          obtain ⟨j, hj, rfl, rfl, hbe, hblk⟩ := hrel
          have hzr2 := hbe.size
          have hgl2 := hblk.lt
          by_cases hlt2 : j < N
          · have c0 : wr.cell? ⟨g, j, none⟩ = some (.bool (f j)) := by rw [hblk.cell, wantC_get f j (by omega)]
            have HJ := Lib.hid (HTK.out j hlt2)
            have hcs : cnt f (j + 1) = cnt f j + if f j = true then 1 else 0 := rfl
            have hcl := cnt_le f j
            have lj : (j : Int) < N := by omega
            have lj0 : (0 : Int) ≤ j := by omega
            have HCL := Lib.hid hcs
            generalize f j = fj at *
            generalize cnt f j = cj at *
            have lc : (cj : Int) ≤ 64 := by omega
            have B2 := Lib.hid hbe
            have D2 := Lib.hid hblk
            clear hbe hblk hcs hlt2
            go_wp2_with fail
            refine (HJ.out _).mono ?_
            rintro e w8 ⟨rfl, hb8⟩
            have B8 := Lib.hid (B2.out.trans (Below.mono hb8 hzr2))
            have D8 := Lib.hid (D2.out.below hb8)
            have c1 : w8.cell? ⟨g, j, none⟩ = some (.bool fj) := by rw [hb8.cell (by simpa using hgl2)]; exact c0
            clear hb8 c0 B2 D2
            cases fj with
            | true =>
              have HN := Lib.hid (show KeptM w g N f (.int .i64 ((cj : Int) + 1)) (.int .i64 ((j : Int) + 1)) w8 from ⟨j + 1, by omega, by simp, by rw [HCL.out]; simp, B8.out, D8.out⟩)
              go_wp2_with fail
              exact ⟨HN.out, by simp [intOf]; omega⟩
            | false =>
              have HN := Lib.hid (show KeptM w g N f (.int .i64 (cj : Int)) (.int .i64 ((j : Int) + 1)) w8 from ⟨j + 1, by omega, by simp, by rw [HCL.out]; simp, B8.out, D8.out⟩)
              go_wp2_with fail
              exact ⟨HN.out, by simp [intOf]; omega⟩
          · obtain rfl : j = N := by omega
            have hcl := cnt_le f j
            have B2 := Lib.hid hbe
            have D2 := Lib.hid hblk
            clear hbe hblk BE DE
            go_wp2_with fail
            refine (HC1.out _).mono ?_
            rintro e w8 ⟨rfl, hb8⟩
            have B8 := Lib.hid (B2.out.trans (Below.mono hb8 hzr2))
            have D8 := Lib.hid (D2.out.below hb8)
            have hz8 := B8.out.size
            clear hb8 B2 D2
            go_wp2_with fail
            refine (HAP.out _).mono ?_
            rintro e w9 ⟨rfl, rfl⟩
            go_wp2_with fail
            refine (HF.out _).mono ?_
            rintro e w10 ⟨rfl, hb10⟩
            have B10 := Lib.hid (B8.out.trans (Below.mono hb10 hz8))
            have D10 := Lib.hid (D8.out.below hb10)
            clear hb10 B8 D8 HF HC1 HTK
            rcases HFI.out with ⟨i0, q1, rfl, rfl, q2, q3, q4⟩ | ⟨rfl, rfl, q4⟩
            · obtain ⟨a, ha⟩ : ∃ a, a = (x + i0) % j := ⟨_, rfl⟩
              have haj : a < j := by rw [ha]; exact Nat.mod_lt _ (by omega)
              rw [← ha] at q2
              rw [← ha]
              have c0 : w10.cell? ⟨g, a, none⟩ = some (.bool false) := by rw [D10.out.cell, wantC_get f a (by omega), q2]
              have hne : ((cnt f j : Int) == (j : Int)) = false := by
                have : ¬ (cnt f j : Int) = (j : Int) := by omega
                simp [this]
              have Q2 := Lib.hid q2
              have Q3 := Lib.hid q3
              have HA := Lib.hid ha
              generalize cnt f j = cj at *
              have la0 : (0 : Int) ≤ a := by omega
              have la1 : (a : Int) < 64 := by omega
              clear q2 q3 ha
              go_wp2_with fail
              go_loop [24] (fun v => ∃ i : Nat, i ≤ i0 ∧ v = .int .i64 ((x + i : Nat) : Int)) (fun v => x + i0 - (intOf v).toNat)
              case atStart => exact ⟨0, by omega, rfl⟩
              case round =>
                obtain ⟨i, hi, rfl⟩ := hrel
                obtain ⟨q, hq⟩ : ∃ q, q = x + i := ⟨_, rfl⟩
                obtain ⟨y, hy⟩ : ∃ y, y = (x + i) % j := ⟨_, rfl⟩
                have hyj : y < j := by rw [hy]; exact Nat.mod_lt _ (by omega)
                have hmod : (q : Int) % (j : Int) = (y : Int) := by rw [hy, hq]; simp
                rw [← hq]
                have hj0 : ¬ (j : Int) = 0 := by omega
                have hp0 : (0 : Int) ≤ (q : Int) := by omega
                have hp1 : (q : Int) ≤ 128 := by omega
                have ly0 : (0 : Int) ≤ y := by omega
                have ly1 : (y : Int) < 64 := by omega
                by_cases hlt3 : i < i0
                · have hfy : f y = true := by rw [hy]; exact Q3.out i hlt3
                  have hay : ¬ y = a := by
                    intro e
                    rw [e, Q2.out] at hfy
                    cases hfy
                  have hne2 : ((y : Int) == (a : Int)) = false := by
                    have : ¬ (y : Int) = (a : Int) := by omega
                    simp [this]
                  have c1 : w10.cell? ⟨g, y, none⟩ = some (.bool true) := by rw [D10.out.cell, wantC_get f y (by omega), hfy]
                  have HQ := Lib.hid hq
                  clear hy hfy hay hq
                  go_wp2_with fail
                  go_round
                  case rel => exact ⟨i + 1, by omega, by rw [HQ.out]; go_num⟩
                  case measure => have := HQ.out; simp [intOf]; omega
                · obtain rfl : i = i0 := by omega
                  obtain rfl : y = a := by rw [hy, HA.out]
                  clear hy hq
                  go_wp2_with fail
                  go_ret
                  exact ⟨rfl, B10.out⟩
            · have hgl3 := D10.out.lt
              rw [q4]
              go_wp2_with fail
              refine wp_loop_rounds 1 ?_
              rw [rounds_succ]
              go_wp2_with fail
              go_ret
              exact ⟨rfl, B10.out⟩
end Go.Proofs.YtfhmnkilmhnibaaDoor
