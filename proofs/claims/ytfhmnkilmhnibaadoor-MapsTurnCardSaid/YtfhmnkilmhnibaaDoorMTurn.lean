/-
  The walk of MapsTurn: the law returns true, and what was there is as it was.
-/
import Derived.Test.YtfhmnkilmhnibaaDoorMOf
import Derived.Test.YtfhmnkilmhnibaaDoorMInts
import Derived.Test.YtfhmnkilmhnibaaDoorAmong
namespace Go.Proofs.YtfhmnkilmhnibaaDoor
open Go.RowKit

theorem mapB_ofS {l : List Nat} {N : Nat} (h : ∀ x ∈ l, x < N) : mapB (ofS l) N = true := by
  refine (mapB_iff _ N).2 ⟨size_ofS l, fun i _ hi => ?_, fun i hi h2 => ?_⟩
  · rw [byteAt_ofS l i hi]
    split
    · exact .inr rfl
    · exact .inl rfl
  · rw [byteAt_ofS l i h2, if_neg]
    intro hc
    have := h i (by simpa using hc)
    omega
theorem length_pl_set {s t : ByteArray} {x : Nat} (h1 : ¬ byteAt s x = 1) (h2 : byteAt t x = 1) : ∀ k, (∀ i, i < k → ¬ i = x → (byteAt t i = 1 ↔ byteAt s i = 1)) → (pl t k).length = (pl s k).length + if x < k then 1 else 0
  | 0, _ => by simp [pl]
  | k + 1, h => by
    have ih := length_pl_set h1 h2 k (fun i hi => h i (by omega))
    rw [pl, pl, List.length_append, List.length_append, ih]
    by_cases hk : k = x
    · subst hk
      rw [if_pos h2, if_neg h1, if_neg (by omega), if_pos (by omega)]
      rfl
    · have hb := h k (by omega) hk
      by_cases hs : byteAt s k = 1
      · rw [if_pos hs, if_pos (hb.2 hs)]
        by_cases hx : x < k
        · rw [if_pos hx, if_pos (by omega)]; simp only [List.length_cons, List.length_nil]
        · rw [if_neg hx, if_neg (by omega)]; simp only [List.length_cons, List.length_nil]
      · rw [if_neg hs, if_neg (fun h => hs (hb.1 h))]
        by_cases hx : x < k
        · rw [if_pos hx, if_pos (by omega)]; simp only [List.length_nil]
        · rw [if_neg hx, if_neg (by omega)]; rfl
theorem ofS_again {l : List Nat} {x : Nat} (h : x ∈ l) : ofS (l ++ [x]) = ofS l := by
  unfold ofS ofL
  congr 1
  refine List.map_congr_left fun i _ => ?_
  have : (l ++ [x]).contains i = l.contains i := by
    rw [Bool.eq_iff_iff]
    simp only [List.contains_iff_mem, List.mem_append, List.mem_singleton]
    constructor
    · rintro (h1 | rfl)
      · exact h1
      · exact h
    · exact .inl
  rw [this]
theorem count_again {l : List Nat} {x N : Nat} (hx : x < N) (hN : N ≤ 64) (h : ¬ x ∈ l) : (pl (ofS (l ++ [x])) N).length = (pl (ofS l) N).length + 1 := by
  have hb : ∀ (m : List Nat) i, i < 64 → (byteAt (ofS m) i = 1 ↔ i ∈ m) := fun m i hi => by
    rw [byteAt_ofS m i hi]
    by_cases hc : m.contains i = true
    · rw [if_pos hc]; simp at hc; simp [hc]
    · rw [if_neg hc]; simp at hc; simp [hc]
  have h1 := length_pl_set (s := ofS l) (t := ofS (l ++ [x])) (x := x) (fun e => h ((hb l x (by omega)).1 e)) ((hb _ x (by omega)).2 (by simp)) N (fun i hi hne => by
    rw [hb _ i (by omega), hb _ i (by omega)]
    simp [hne])
  rw [if_pos hx] at h1
  exact h1
theorem places_ofS {l : List Nat} {N : Nat} (h1 : 1 ≤ N) (hN : N ≤ 64) (h : ∀ x ∈ l, x < N) : placesL (ofS l) N = pl (ofS l) N ∧ chkE (ofS l) N = 0 := by
  have hc := chk_ok (mapB_ofS h) hN h1
  exact ⟨by rw [placesL, if_pos hc, Int.toNat_natCast], hc⟩
theorem taken_ofS {l : List Nat} {N x : Nat} (hx : x < N) (hN : N ≤ 64) (h : ∀ x ∈ l, x < N) : takenB (ofS l) N x = l.contains x ∧ askE (ofS l) N x = 0 := by
  have ha := ask_ok (mapB_ofS h) hN hx
  refine ⟨?_, ha⟩
  rw [takenB, ha, Int.toNat_natCast, byteAt_ofS l x (by omega)]
  cases l.contains x <;> rfl

def KeptT (w : World) (len N : Nat) (v i : Value) (wr : World) : Prop :=
  ∃ (k : Nat) (L : List Nat), k ≤ len ∧ k ≤ 64 ∧ i = .int .i64 k ∧ L.length = k ∧ (∀ y ∈ L, y < N) ∧ OwnPl wr w.heap.size v L ∧ Below w.heap.size w wr

set_option maxHeartbeats 4000000 in
set_option maxRecDepth 100000 in
theorem turn_walk (n : Int) (ad : Option Addr) (len cap : Nat) (place : Int) (w : World) (row : ∃ zs, IsInts w ad len zs) :
    Calls Tryd.prog 5 #[.int .i64 n, .slice ad len cap, .int .i64 place] w fun e w' => e = .returned (.bool true) ∧ Below w.heap.size w w' := by
  obtain ⟨zs, hrow⟩ := row
  have HR := Lib.hid hrow
  obtain ⟨m, hm, hm64⟩ : ∃ m : Nat, n % ((64 : Nat) : Int) = (m : Int) ∧ m < 64 := ⟨(n % 64).toNat, by omega, by omega⟩
  have hA0 := fun W => among_any n 64 W (by omega) (by omega)
  rw [hm] at hA0
  have HA0 := Lib.hid hA0
  obtain ⟨N, hNm⟩ : ∃ N : Nat, (1 : Int) + (m : Int) = (N : Int) := ⟨1 + m, by omega⟩
  have h1 : 1 ≤ N := by omega
  have hN : N ≤ 64 := by omega
  have HAM := Lib.hid (fun (x : Int) W => among_any x N W h1 (by omega))
  obtain ⟨x, hx, hxN⟩ : ∃ x : Nat, place % (N : Int) = (x : Int) ∧ x < N := ⟨(place % N).toNat, by
    have := Int.emod_nonneg place (show (N : Int) ≠ 0 by omega)
    omega, by
    have h2 := Int.emod_lt_of_pos place (show (0 : Int) < N by omega)
    have h3 := Int.emod_nonneg place (show (N : Int) ≠ 0 by omega)
    omega⟩
  have hAP := fun W => HAM.out place W
  rw [hx] at hAP
  have HAP := Lib.hid hAP
  obtain ⟨i0, hi, hz0, hz1, hz2⟩ := info_parts info_int
  clear hrow hA0 hm hx hAP
  go_enter Tryd.func5, Tryd.ntmps5
  go_wp2_with fail
  refine (works_any _).mono ?_
  rintro e w1 ⟨rfl, hb1⟩
  go_wp2_with fail
  refine (HA0.out _).mono ?_
  rintro e w2 ⟨rfl, rfl⟩
  have hm0 : (0 : Int) ≤ m := by omega
  have hm1 : (m : Int) ≤ 63 := by omega
  go_wp2_with fail
  clear hNm hm0 hm1 hm64
  go_loopw [7, 8] (fun v i wr => KeptT w len N v i wr) (fun _ i _ => 64 - (intOf i).toNat)
  case atStart => exact ⟨0, [], by omega, by omega, rfl, rfl, by simp, World.ownsRow_nil _ _ _ _, hb1⟩
  case round =>
    clear hb1
    obtain ⟨k, L, hk1, hk2, rfl, hL, hLN, hown, hbe⟩ := hrel
    have hzr := hbe.size
    have HLN := Lib.hid hLN
    have BE := Lib.hid hbe
    have HLk := Lib.hid hL
    by_cases hlt : k < len ∧ k < 64
    · obtain ⟨hlt1, hlt2⟩ := hlt
      rcases HR.out with h0 | ⟨b, off, rfl, hmx, hbw, hcell⟩
      · omega
      unfold maxLen at hmx
      have hL64 : L.length ≤ 63 := by omega
      have g0 : wr.cell? ⟨b, off + k, none⟩ = some (.int .i64 (zs k)) := by rw [hbe.cell (by simpa using hbw)]; exact hcell k hlt1
      obtain ⟨y, hy, hyN⟩ : ∃ y : Nat, (zs k) % (N : Int) = (y : Int) ∧ y < N := ⟨((zs k) % N).toNat, by
        have := Int.emod_nonneg (zs k) (show (N : Int) ≠ 0 by omega)
        omega, by
        have h2 := Int.emod_lt_of_pos (zs k) (show (0 : Int) < N by omega)
        have h3 := Int.emod_nonneg (zs k) (show (N : Int) ≠ 0 by omega)
        omega⟩
      have hAY := fun W => HAM.out (zs k) W
      rw [hy] at hAY
      have HAY := Lib.hid hAY
      generalize zs k = z at g0 HAY
      have hd40 : decide ((k : Int) < 64) = true := decide_eq_true (by omega)
      unfold OwnPl at hown
      obtain ⟨cs, hcs⟩ : ∃ cs, cs = plV L := ⟨_, rfl⟩
      obtain ⟨ll, hll⟩ : ∃ ll, ll = L.length := ⟨_, rfl⟩
      rw [← hcs, ← hll] at hown
      rw [← hll] at hL64
      have HCS := Lib.hid hcs
      have HLL := Lib.hid hll
      have lk : (k : Int) < len := by omega
      clear hcell hAY hy hLN hbe hcs hll hL
      go_wp2_with fail
      refine (HAY.out _).mono ?_
      rintro e w3 ⟨rfl, rfl⟩
      go_wp2_with (at_builtin; refine wpList_append_own _ rfl _ _ 23 rfl w.heap.size 3 i0 (.int .i64 0) 1 8 Tryd.underlying23 hi hz0 hz1 hz2 rfl (by decide) _ _ _ rfl (hown.alloc _) ⟨wr.heap.size, 0, none⟩ 1 1 [.int .i64 (y : Int)] rfl rfl ?c1 ?c2 ?c3 ?c4 ?c5 ?_)
      case c1 => exact cell_one_new _ _ _
      case c2 => simp [Value.oneCell']
      case c3 => unfold maxLen; omega
      case c4 => omega
      case c5 => simp; omega
      intro v' w4 hown' hgrow _
      have hb4 : Below w.heap.size w w4 := (BE.out.alloc hzr _).grown hgrow (by simp; omega) (fun g hg => (hown.lt g hg).1)
      have ho4 : OwnPl w4 w.heap.size v' (L ++ [y]) := by
        unfold OwnPl
        rw [HCS.out, HLL.out] at hown'
        rw [List.length_append]
        simpa [plV] using hown'
      have HN := Lib.hid (show KeptT w len N v' (.int .i64 ((k : Int) + 1)) w4 from ⟨k + 1, L ++ [y], by omega, by omega, by simp, by rw [List.length_append, HLk.out]; rfl, fun z hz => by
        rcases List.mem_append.1 hz with h | h
        · exact HLN.out z h
        · simp at h; omega, ho4, hb4⟩)
      clear hown' hgrow hb4 ho4 hown g0
      go_wp2_with fail
      exact ⟨HN.out, by simp [intOf]; omega⟩
    · have hend : decide (k < len) = false ∨ (decide (k < len) = true ∧ decide ((k : Int) < 64) = false) := by
        by_cases h : k < len
        · exact .inr ⟨decide_eq_true h, decide_eq_false (by omega)⟩
        · exact .inl (decide_eq_false h)
      have hLen : L.length ≤ 64 := by omega
      obtain ⟨p1, p2⟩ := places_ofS h1 hN hLN
      have hLx : ∀ y ∈ L ++ [x], y < N := fun y hy => by
        rcases List.mem_append.1 hy with h | h
        · exact hLN y h
        · simp at h; omega
      obtain ⟨q1, q2⟩ := places_ofS h1 hN hLx
      obtain ⟨r1, r2⟩ := taken_ofS hxN hN hLN
      have C1 := fun W => count_any (ofS L) N W
      have C2 := fun W => count_any (ofS (L ++ [x])) N W
      have C3 := fun W => taken_any (ofS L) N x W
      rw [p1, p2] at C1
      rw [q1, q2] at C2
      rw [r1, r2] at C3
      have O1 := fun a c W hc => of_any N L a c W h1 hN hLN (by omega) hc
      have O2 := fun a c W hc => of_any N (L ++ [x]) a c W h1 hN hLx (by rw [List.length_append]; simp; omega) hc
      have hcmp : (L.contains x = true ∧ ofS (L ++ [x]) = ofS L) ∨ (L.contains x = false ∧ (pl (ofS (L ++ [x])) N).length = (pl (ofS L) N).length + 1) := by
        by_cases h : x ∈ L
        · exact .inl ⟨by simpa using h, ofS_again h⟩
        · exact .inr ⟨by simpa using h, count_again hxN hN h⟩
      obtain ⟨L2, hL2⟩ : ∃ L2, L2 = L ++ [x] := ⟨_, rfl⟩
      rw [← hL2] at C2 O2 hcmp
      have HL2 := Lib.hid hL2
      clear hL2
      have hcb : (pl (ofS L) N).length ≤ 64 := by have := length_pl (ofS L) N; omega
      generalize ofS L = sa at *
      generalize ofS L2 = sb at *
      generalize (pl sa N).length = ca at *
      generalize (pl sb N).length = cb at *
      generalize L.contains x = was at *
      have HC1 := Lib.hid C1
      have HC2 := Lib.hid C2
      have HC3 := Lib.hid C3
      have HO1 := Lib.hid O1
      have HO2 := Lib.hid O2
      have HCMP := Lib.hid hcmp
      have HOW := Lib.hid hown
      obtain ⟨a4, c4, rfl, hc4⟩ := hown.cells
      have HPC := Lib.hid hc4
      clear C1 C2 C3 O1 O2 hcmp p1 p2 q1 q2 r1 r2 hLx hLN hown hc4 hbe hL HLN
      rcases hend with e1 | ⟨e1, e2⟩
      all_goals
        go_wp2_with fail
        refine (HO1.out _ _ _ HPC.out).mono ?_
        rintro e w3 ⟨rfl, hb3⟩
        have B3 := BE.out.trans (Below.mono hb3 hzr)
        have O3 := Lib.hid (HOW.out.below hb3)
        clear hb3 HOW
        go_wp2_with fail
        refine (HAP.out _).mono ?_
        rintro e w4 ⟨rfl, rfl⟩
        have hown := O3.out
        unfold OwnPl at hown
        have hz3 := B3.size
        obtain ⟨cs, hcs⟩ : ∃ cs, cs = plV L := ⟨_, rfl⟩
        rw [← hcs] at hown
        have HCS := Lib.hid hcs
        clear hcs
        go_wp2_with (at_builtin; refine wpList_append_own _ rfl _ _ 23 rfl w.heap.size 3 i0 (.int .i64 0) 1 8 Tryd.underlying23 hi hz0 hz1 hz2 rfl (by decide) _ _ _ rfl (hown.alloc _) ⟨w3.heap.size, 0, none⟩ 1 1 [.int .i64 (x : Int)] rfl rfl ?_ ?_ ?_ ?_ ?_ ?_)
        · exact cell_one_new _ _ _
        · simp [Value.oneCell']
        · unfold maxLen; omega
        · omega
        · simp; omega
        intro v' w5 hown' hgrow _
        have B5 : Below w.heap.size w w5 := (B3.alloc hz3 _).grown hgrow (by simp; omega) (fun g hg => (hown.lt g hg).1)
        have ho5 : OwnPl w5 w.heap.size v' (L ++ [x]) := by
          unfold OwnPl
          rw [HCS.out] at hown'
          rw [List.length_append]
          simpa [plV] using hown'
        rw [← HL2.out] at ho5
        obtain ⟨a5, c5, rfl, hc5⟩ := ho5.cells
        have HP5 := Lib.hid hc5
        clear hown' hgrow hown ho5 hc5 B3
        go_wp2_with fail
        refine (HO2.out _ _ _ HP5.out).mono ?_
        rintro e w6 ⟨rfl, hb6⟩
        have B6 := B5.trans (Below.mono hb6 B5.size)
        clear hb6 B5
        go_wp2_with fail
        refine (HC1.out _).mono ?_
        rintro e w7 ⟨rfl, hb7⟩
        have B7 := B6.trans (Below.mono hb7 B6.size)
        clear hb7 B6
        go_wp2_with fail
        refine (HC2.out _).mono ?_
        rintro e w8 ⟨rfl, hb8⟩
        have B8 := B7.trans (Below.mono hb8 B7.size)
        clear hb8 B7
        go_wp2_with fail
        refine (HAP.out _).mono ?_
        rintro e w9 ⟨rfl, rfl⟩
        go_wp2_with fail
        refine (HC3.out _).mono ?_
        rintro e w10 ⟨rfl, hb10⟩
        have B10 := Lib.hid (B8.trans (Below.mono hb10 B8.size))
        clear hb10 B8
        rcases HCMP.out with ⟨rfl, rfl⟩ | ⟨rfl, rfl⟩
        · have hss := eqs_yes (rfl : sb = sb)
          go_wp2_with fail
          go_ret
          exact ⟨rfl, B10.out⟩
        · have hc1 : (ca : Int) ≤ 64 := by omega
          go_wp2_with fail
          go_ret
          exact ⟨rfl, B10.out⟩
end Go.Proofs.YtfhmnkilmhnibaaDoor
