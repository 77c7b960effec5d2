
/-
  What of a map is taken, counted, found: maps.Taken, Count, Find, walked.
-/
import Derived.Test.YtghggelkmhdhfaaGreatDoorMCheck
import Derived.Lib.IndexLaws
namespace Go.Proofs.YtghggelkmhdhfaaGreatDoor
open Go.RowKit

theorem chk_told {s : ByteArray} {n : Int} (h : chkE s n = 0) : ∃ N : Nat, n = (N : Int) ∧ 1 ≤ N ∧ N ≤ 64 ∧ mapB s N = true := by
  unfold chkE at h
  split at h
  · rename_i hn
    refine ⟨n.toNat, by omega, by omega, by omega, ?_⟩
    cases hm : mapB s n.toNat with
    | true => rfl
    | false => rw [hm] at h; simp at h
  · omega
theorem many_told {n p : Int} (h : manyE n p = 0) : 1 ≤ n ∧ n ≤ 64 ∧ 0 ≤ p ∧ p < n := by
  unfold manyE at h
  split at h
  · omega
  · rename_i hn
    omega
theorem ask_told {s : ByteArray} {n p : Int} (h : askE s n p = 0) : ∃ N P : Nat, n = (N : Int) ∧ p = (P : Int) ∧ P < N ∧ N ≤ 64 ∧ mapB s N = true := by
  unfold askE at h
  by_cases h0 : chkE s n = 0
  · rw [if_pos h0] at h
    obtain ⟨N, rfl, h1, h2, h3⟩ := chk_told h0
    obtain ⟨_, _, h4, h5⟩ := many_told h
    exact ⟨N, p.toNat, rfl, by omega, by omega, h2, h3⟩
  · rw [if_neg h0] at h
    exact absurd h h0
theorem ask_ok {s : ByteArray} {N P : Nat} (hm : mapB s N = true) (hN : N ≤ 64) (hP : P < N) : askE s N P = 0 := by
  have h1 : chkE s N = 0 := by rw [chkE, if_pos ⟨by omega, by omega⟩, Int.toNat_natCast, if_pos hm]
  rw [askE, if_pos h1, manyE, if_neg (by omega)]
theorem chk_ok {s : ByteArray} {N : Nat} (hm : mapB s N = true) (hN : N ≤ 64) (h1 : 1 ≤ N) : chkE s N = 0 := by
  rw [chkE, if_pos ⟨by omega, by omega⟩, Int.toNat_natCast, if_pos hm]

def takenB (s : ByteArray) (n p : Int) : Bool := decide (askE s n p = 0) && byteAt s p.toNat == 1
/-- The places that are taken, of the first k. -/
def pl (s : ByteArray) : Nat → List Nat
  | 0 => []
  | k + 1 => pl s k ++ (if byteAt s k = 1 then [k] else [])
theorem length_pl (s : ByteArray) : ∀ k, (pl s k).length ≤ k
  | 0 => by simp [pl]
  | k + 1 => by
    have := length_pl s k
    rw [pl, List.length_append]
    split <;> simp <;> omega
theorem mem_pl (s : ByteArray) : ∀ k i, i ∈ pl s k ↔ i < k ∧ byteAt s i = 1
  | 0, i => by simp [pl]
  | k + 1, i => by
    rw [pl, List.mem_append, mem_pl s k i]
    split
    · rename_i h
      simp only [List.mem_singleton]
      constructor
      · rintro (⟨h1, h2⟩ | rfl)
        · exact ⟨by omega, h2⟩
        · exact ⟨by omega, h⟩
      · rintro ⟨h1, h2⟩
        by_cases he : i = k
        · exact .inr he
        · exact .inl ⟨by omega, h2⟩
    · rename_i h
      simp only [List.not_mem_nil, or_false]
      constructor
      · rintro ⟨h1, h2⟩; exact ⟨by omega, h2⟩
      · rintro ⟨h1, h2⟩
        refine ⟨?_, h2⟩
        by_cases he : i = k
        · subst he; exact absurd h2 h
        · omega
theorem count_pl (s : ByteArray) : ∀ k, k ≤ s.size → (s.data.toList.take k).count 1 = (pl s k).length
  | 0, _ => by simp [pl]
  | k + 1, h => by
    obtain ⟨b, hb, he⟩ := get_byteAt (s := s) (i := k) (by omega)
    rw [List.take_add_one, hb, List.count_append, count_pl s k (by omega), pl, List.length_append]
    congr 1
    have hb1 : b = 1 ↔ (b.toNat : Int) = 1 := ⟨fun h => by rw [h]; rfl, fun h => UInt8.toNat.inj (by show b.toNat = 1; omega)⟩
    by_cases h1 : b = 1
    · rw [if_pos (by rw [he]; exact hb1.1 h1), h1]
      rfl
    · rw [if_neg (by rw [he]; exact fun h => h1 (hb1.2 h))]
      simp [h1]
theorem pl_beyond {s : ByteArray} {N : Nat} (h : ∀ i, N ≤ i → i < 64 → byteAt s i = 0) : ∀ d, N + d ≤ 64 → pl s (N + d) = pl s N
  | 0, _ => rfl
  | d + 1, hd => by
    have h1 := h (N + d) (by omega) (by omega)
    show pl s (N + d + 1) = _
    rw [pl, pl_beyond h d (by omega), if_neg (by omega), List.append_nil]
theorem count_map {s : ByteArray} {N : Nat} (hm : mapB s N = true) (hN : N ≤ 64) : Lib.countByte s.data.toList 1 = (pl s N).length := by
  obtain ⟨h64, _, h2⟩ := (mapB_iff s N).1 hm
  have h := count_pl s 64 (by omega)
  rw [List.take_of_length_le (by rw [length_data]; omega)] at h
  have h3 := pl_beyond h2 (64 - N) (by omega)
  have e : N + (64 - N) = 64 := by omega
  rw [e] at h3
  rw [← h3, ← h]
  rfl
def placesL (s : ByteArray) (n : Int) : List Nat := if chkE s n = 0 then pl s n.toNat else []

set_option maxHeartbeats 1000000 in
theorem count_any (s : ByteArray) (n : Int) (w : World) :
    Calls Tryz.prog 14 #[.string s, .int .i64 n] w fun e w' => e = .returned (.tuple #[.int .i64 (placesL s n).length, .int .i64 (chkE s n)]) ∧ Below w.heap.size w w' := by
  have HC := Lib.hid (fun W => check_any s n W)
  by_cases h0 : chkE s n = 0
  · obtain ⟨N, rfl, h1, hN, hm⟩ := chk_told h0
    have hpl : placesL s N = pl s N := by rw [placesL, if_pos h0, Int.toNat_natCast]
    have hK := fun W => Tryz.strings_Count_one s 1 W
    rw [count_map hm hN] at hK
    rw [hpl, h0]
    rw [h0] at HC
    have HK := Lib.hid hK
    clear hpl h0 hm hK
    go_enter Tryz.func14, Tryz.ntmps14
    go_wp2_with fail
    refine (HC.out _).mono ?_
    rintro e w1 ⟨rfl, hb1⟩
    go_wp2_with fail
    refine (HK.out _).mono ?_
    rintro e w2 ⟨rfl, rfl⟩
    go_wp2_with fail
    go_ret2
    exact ⟨rfl, hb1⟩
  · have hpl : placesL s n = [] := by rw [placesL, if_neg h0]
    rw [hpl]
    generalize chkE s n = ce at *
    have h1 : (ce == 0) = false := by simp [h0]
    have h2 : (ce != 0) = true := by simp [h0]
    clear hpl h0
    go_enter Tryz.func14, Tryz.ntmps14
    go_wp2_with fail
    refine (HC.out _).mono ?_
    rintro e w1 ⟨rfl, hb1⟩
    go_wp2_with fail
    go_ret2
    exact ⟨rfl, hb1⟩

/-- The first free place from P on, round about, the i-th asked first; N: none. -/
def ff (s : ByteArray) (N P : Nat) (i : Nat) : Nat := if i < N then (if byteAt s ((P + i) % N) = 0 then (P + i) % N else ff s N P (i + 1)) else N
termination_by N - i
theorem ff_here {s : ByteArray} {N P i : Nat} (hi : i < N) (h : byteAt s ((P + i) % N) = 0) : ff s N P i = (P + i) % N := by rw [ff, if_pos hi, if_pos h]
theorem ff_step {s : ByteArray} {N P i : Nat} (hi : i < N) (h : ¬ byteAt s ((P + i) % N) = 0) : ff s N P i = ff s N P (i + 1) := by rw [ff, if_pos hi, if_neg h]
theorem ff_end (s : ByteArray) (N P : Nat) : ff s N P N = N := by rw [ff, if_neg (by omega)]
theorem ff_skip {s : ByteArray} {N P : Nat} : ∀ k, k ≤ N → (∀ j, j < k → ¬ byteAt s ((P + j) % N) = 0) → ff s N P 0 = ff s N P k
  | 0, _, _ => rfl
  | k + 1, hk, h => by rw [ff_skip k (by omega) (fun j hj => h j (by omega)), ff_step (by omega) (h k (by omega))]
theorem ff_is {s : ByteArray} {N P i : Nat} (hi : i < N) (h : byteAt s ((P + i) % N) = 0) (hn : ∀ j, j < i → ¬ byteAt s ((P + j) % N) = 0) : ff s N P 0 = (P + i) % N := by
  rw [ff_skip i (by omega) hn, ff_here hi h]
theorem ff_none {s : ByteArray} {N P : Nat} (hn : ∀ j, j < N → ¬ byteAt s ((P + j) % N) = 0) : ff s N P 0 = N := by
  rw [ff_skip N (by omega) hn, ff_end]
def findI (s : ByteArray) (n p : Int) : Int := if askE s n p = 0 ∧ ff s n.toNat p.toNat 0 < n.toNat then ff s n.toNat p.toNat 0 else 0
def findE (s : ByteArray) (n p : Int) : Int := if askE s n p = 0 then (if ff s n.toNat p.toNat 0 < n.toNat then 0 else 50) else askE s n p

theorem index_zero (s : ByteArray) (a b : Nat) (hab : a ≤ b) (hb : b ≤ s.size) :
    (∃ i : Nat, Lib.indexByte (s.extract a b).data.toList 0 = (i : Int) ∧ a + i < b ∧ byteAt s (a + i) = 0 ∧ ∀ j, j < i → ¬ byteAt s (a + j) = 0) ∨ (Lib.indexByte (s.extract a b).data.toList 0 = -1 ∧ ∀ j, a + j < b → ¬ byteAt s (a + j) = 0) := by
  have hz : ∀ b : UInt8, (b.toNat : Int) = 0 → b = 0 := fun b h => UInt8.toNat.inj (by show b.toNat = 0; omega)
  have hge := Lib.indexByte_ge (s.extract a b).data.toList 0
  by_cases h : Lib.indexByte (s.extract a b).data.toList 0 = -1
  · refine .inr ⟨h, fun j hj h0 => ?_⟩
    have hn := Lib.indexByte_none h j
    rw [extract_get, if_pos (by omega)] at hn
    obtain ⟨c, hc, he⟩ := get_byteAt (s := s) (i := a + j) (by omega)
    rw [hc] at hn
    rw [he] at h0
    exact hn (by rw [hz c h0])
  · obtain ⟨i, hi⟩ : ∃ i : Nat, Lib.indexByte (s.extract a b).data.toList 0 = (i : Int) := ⟨(Lib.indexByte (s.extract a b).data.toList 0).toNat, by omega⟩
    obtain ⟨h1, h2⟩ := Lib.indexByte_some hi
    rw [extract_get] at h1
    split at h1
    · rename_i hlt
      refine .inl ⟨i, hi, by omega, by rw [byteAt_get h1]; rfl, fun j hj h0 => ?_⟩
      have hn := h2 j hj
      rw [extract_get, if_pos (by omega)] at hn
      obtain ⟨c, hc, he⟩ := get_byteAt (s := s) (i := a + j) (by omega)
      rw [hc] at hn
      rw [he] at h0
      exact hn (by rw [hz c h0])
    · cases h1

set_option maxHeartbeats 1000000 in
theorem find_any (s : ByteArray) (n p : Int) (w : World) :
    Calls Tryz.prog 64 #[.string s, .int .i64 n, .int .i64 p] w fun e w' => e = .returned (.tuple #[.int .i64 (findI s n p), .int .i64 (findE s n p)]) ∧ Below w.heap.size w w' := by
  have HA := Lib.hid (fun W => ask_any s n p W)
  by_cases h0 : askE s n p = 0
  · obtain ⟨N, P, rfl, rfl, hP, hN, hm⟩ := ask_told h0
    have h64 := ((mapB_iff s N).1 hm).1
    have hI : findI s N P = if ff s N P 0 < N then (ff s N P 0 : Int) else 0 := by simp [findI, h0]
    have hE : findE s N P = if ff s N P 0 < N then 0 else 50 := by simp [findE, h0]
    have hx1 := fun W => Tryz.strings_Index_one (s.extract P N) 0 W
    have hx2 := fun W => Tryz.strings_Index_one (s.extract 0 P) 0 W
    have hsl1 : ∀ W, (Instr.slice 9 (.string s) (some (.int .i64 (P : Int))) (some (.int .i64 (N : Int))) none).run Tryz.prog W = .ok (.string (s.extract P N)) W := fun W => by
      have h := run_slice_string (P := Tryz.prog) W 9 s .i64 .i64 (P : Int) (N : Int) Tryz.underlying9 (by omega) (by omega) (by omega)
      rwa [Int.toNat_natCast, Int.toNat_natCast] at h
    have hsl2 : ∀ W, (Instr.slice 9 (.string s) none (some (.int .i64 (P : Int))) none).run Tryz.prog W = .ok (.string (s.extract 0 P)) W := fun W => by
      rw [run_slice_string_h (P := Tryz.prog) (ht := Tryz.underlying9) (h0 := by omega) (h2 := by omega), Int.toNat_natCast]
    rw [h0] at HA
    rcases index_zero s P N (by omega) (by omega) with ⟨i, hi, hi1, hi2, hi3⟩ | ⟨hi, hi3⟩
    · have hff : ff s N P 0 = P + i := by
        have e : ∀ j, P + j < N → (P + j) % N = P + j := fun j hj => Nat.mod_eq_of_lt hj
        rw [ff_is (i := i) (by omega) (by rw [e i hi1]; exact hi2) (fun j hj => by rw [e j (by omega)]; exact hi3 j hj), e i hi1]
      rw [hi] at hx1
      have HX1 := Lib.hid hx1
      have hres : (Ending.returned (.tuple #[.int .i64 ((P : Int) + (i : Int)), .int .i64 0])) = .returned (.tuple #[.int .i64 (findI s N P), .int .i64 (findE s N P)]) := by
        rw [hI, hE, hff, if_pos hi1, if_pos hi1]; simp
      have HRES := Lib.hid hres
      have g0 : (0 : Int) ≤ i := by omega
      have g1 : (i : Int) ≤ 64 := by omega
      have g2 : (P : Int) ≤ 64 := by omega
      clear hx1 hx2 hres hI hE hff hi hi2 hi3 h0 hm h64
      go_enter Tryz.func64, Tryz.ntmps64
      go_wp2_with fail
      refine (HA.out _).mono ?_
      rintro e w1 ⟨rfl, hb1⟩
      go_wp2_with fail
      refine (HX1.out _).mono ?_
      rintro e w2 ⟨rfl, rfl⟩
      go_wp2_with fail
      go_ret2
      exact ⟨HRES.out, hb1⟩
    · rw [hi] at hx1
      have HX1 := Lib.hid hx1
      rcases index_zero s 0 P (by omega) (by omega) with ⟨j, hj, hj1, hj2, hj3⟩ | ⟨hj, hj3⟩
      · rw [Nat.zero_add] at hj1 hj2
        have hff : ff s N P 0 = j := by
          have e2 : ∀ x, N - P ≤ x → x < N → (P + x) % N = x - (N - P) := fun x h1 h2 => by
            have : P + x = (x - (N - P)) + N := by omega
            rw [this, Nat.add_mod_right, Nat.mod_eq_of_lt (by omega)]
          have e1 : ∀ x, x < N - P → (P + x) % N = P + x := fun x h => Nat.mod_eq_of_lt (by omega)
          rw [ff_is (i := N - P + j) (by omega) (by rw [e2 _ (by omega) (by omega)]; have : N - P + j - (N - P) = j := by omega
                                                    rw [this]; exact hj2) (fun x hx => by
            by_cases hlt : x < N - P
            · rw [e1 x hlt]; exact hi3 x (by omega)
            · rw [e2 x (by omega) (by omega)]
              have := hj3 (x - (N - P)) (by omega)
              rwa [Nat.zero_add] at this), e2 _ (by omega) (by omega)]
          omega
        rw [hj] at hx2
        have HX2 := Lib.hid hx2
        have hres : (Ending.returned (.tuple #[.int .i64 (j : Int), .int .i64 0])) = .returned (.tuple #[.int .i64 (findI s N P), .int .i64 (findE s N P)]) := by
          rw [hI, hE, hff, if_pos (by omega), if_pos (by omega)]
        have HRES := Lib.hid hres
        have g0 : (0 : Int) ≤ j := by omega
        clear hx1 hx2 hres hI hE hff hi hi3 hj hj2 hj3 h0 hm h64
        go_enter Tryz.func64, Tryz.ntmps64
        go_wp2_with fail
        refine (HA.out _).mono ?_
        rintro e w1 ⟨rfl, hb1⟩
        go_wp2_with fail
        refine (HX1.out _).mono ?_
        rintro e w2 ⟨rfl, rfl⟩
        go_wp2_with fail
        refine (HX2.out _).mono ?_
        rintro e w2 ⟨rfl, rfl⟩
        go_wp2_with fail
        go_ret2
        exact ⟨HRES.out, hb1⟩
      · have hff : ff s N P 0 = N := by
          have e2 : ∀ x, N - P ≤ x → x < N → (P + x) % N = x - (N - P) := fun x h1 h2 => by
            have : P + x = (x - (N - P)) + N := by omega
            rw [this, Nat.add_mod_right, Nat.mod_eq_of_lt (by omega)]
          have e1 : ∀ x, x < N - P → (P + x) % N = P + x := fun x h => Nat.mod_eq_of_lt (by omega)
          refine ff_none fun x hx => ?_
          by_cases hlt : x < N - P
          · rw [e1 x hlt]; exact hi3 x (by omega)
          · rw [e2 x (by omega) (by omega)]
            have := hj3 (x - (N - P)) (by omega)
            rwa [Nat.zero_add] at this
        rw [hj] at hx2
        have HX2 := Lib.hid hx2
        have hres : (Ending.returned (.tuple #[.int .i64 0, .int .i64 50])) = .returned (.tuple #[.int .i64 (findI s N P), .int .i64 (findE s N P)]) := by
          rw [hI, hE, hff, if_neg (by omega), if_neg (by omega)]
        have HRES := Lib.hid hres
        clear hx1 hx2 hres hI hE hff hi hi3 hj hj3 h0 hm h64
        go_enter Tryz.func64, Tryz.ntmps64
        go_wp2_with fail
        refine (HA.out _).mono ?_
        rintro e w1 ⟨rfl, hb1⟩
        go_wp2_with fail
        refine (HX1.out _).mono ?_
        rintro e w2 ⟨rfl, rfl⟩
        go_wp2_with fail
        refine (HX2.out _).mono ?_
        rintro e w2 ⟨rfl, rfl⟩
        go_wp2_with fail
        go_ret2
        exact ⟨HRES.out, hb1⟩
  · have hI : findI s n p = 0 := by simp [findI, h0]
    have hE : findE s n p = askE s n p := by simp [findE, h0]
    rw [hI, hE]
    generalize askE s n p = ce at *
    have h1 : (ce == 0) = false := by simp [h0]
    have h2 : (ce != 0) = true := by simp [h0]
    clear hI hE h0
    go_enter Tryz.func64, Tryz.ntmps64
    go_wp2_with fail
    refine (HA.out _).mono ?_
    rintro e w1 ⟨rfl, hb1⟩
    go_wp2_with fail
    go_ret2
    exact ⟨rfl, hb1⟩
end Go.Proofs.YtghggelkmhdhfaaGreatDoor
