/-
  The document's maps: many, Check, asked, Taken, Find, walked: they say what the program's say.
-/
import Derived.Test.YtfhmnkilmhnibaaDoorMTaken
namespace Go.Proofs.YtfhmnkilmhnibaaDoor
open Go.RowKit

set_option maxHeartbeats 400000 in
theorem rmany_any (n : Int) (w : World) :
    Calls Tryd.prog 32 #[.int .i64 n] w fun e w' => e = .returned (.bool (decide (1 ≤ n ∧ n ≤ 64))) ∧ w = w' := by
  by_cases h1 : 1 ≤ n
  · by_cases h2 : n ≤ 64
    · have hr : decide (1 ≤ n ∧ n ≤ 64) = true := decide_eq_true ⟨h1, h2⟩
      rw [hr]
      clear hr
      go_enter Tryd.func32, Tryd.ntmps32
      go_wp2_with fail
      go_ret
      exact ⟨rfl, rfl⟩
    · have hr : decide (1 ≤ n ∧ n ≤ 64) = false := decide_eq_false fun h => h2 h.2
      have g2 : decide (n ≤ 64) = false := decide_eq_false h2
      rw [hr]
      clear hr
      go_enter Tryd.func32, Tryd.ntmps32
      go_wp2_with fail
      go_ret
      exact ⟨rfl, rfl⟩
  · have hr : decide (1 ≤ n ∧ n ≤ 64) = false := decide_eq_false fun h => h1 h.1
    have g1 : decide (1 ≤ n) = false := decide_eq_false h1
    rw [hr]
    clear hr
    go_enter Tryd.func32, Tryd.ntmps32
    go_wp2_with fail
    go_ret
    exact ⟨rfl, rfl⟩

theorem mapB_all {s : ByteArray} {N : Nat} (h64 : s.size = 64) (h : ∀ j, j < 64 → byteAt s j = 0 ∨ (byteAt s j = 1 ∧ j < N)) : mapB s N = true := by
  refine (mapB_iff s N).2 ⟨h64, fun i _ hi => ?_, fun i hi h2 => ?_⟩
  · rcases h i hi with h | h
    · exact .inl h
    · exact .inr h.1
  · rcases h i h2 with h | h
    · exact h
    · omega
theorem mapB_bad {s : ByteArray} {N j : Nat} (hj : j < 64) (h : ¬ (byteAt s j = 0 ∨ (byteAt s j = 1 ∧ j < N))) : mapB s N = false := by
  cases hm : mapB s N with
  | false => rfl
  | true =>
    obtain ⟨_, h1, h2⟩ := (mapB_iff s N).1 hm
    by_cases hjN : j < N
    · rcases h1 j hjN hj with h3 | h3
      · exact absurd (.inl h3) h
      · exact absurd (.inr ⟨h3, hjN⟩) h
    · exact absurd (.inl (h2 j (by omega) hj)) h

set_option maxHeartbeats 1000000 in
theorem rcheck_any (s : ByteArray) (n : Int) (w : World) :
    Calls Tryd.prog 18 #[.string s, .int .i64 n] w fun e w' => e = .returned (.int .i64 (chkE s n)) ∧ w = w' := by
  have hM := fun W => rmany_any n W
  by_cases hn : 1 ≤ n ∧ n ≤ 64
  · obtain ⟨N, hN⟩ : ∃ N : Nat, n = (N : Int) := ⟨n.toNat, by omega⟩
    subst hN
    rw [decide_eq_true hn] at hM
    have HM := Lib.hid hM
    have hE : chkE s N = if mapB s N = true then 0 else 3 := by
      rw [chkE, if_pos hn, Int.toNat_natCast]
    have HE := Lib.hid hE
    clear hM hE
    by_cases h64 : s.size = 64
    · have hz : ((s.size : Int) == 64) = true := by simp [h64]
      have hz2 : ((s.size : Int) != 64) = false := by simp [h64]
      have H64 := Lib.hid h64
      obtain ⟨n1, n2⟩ := hn
      clear h64
      go_enter Tryd.func18, Tryd.ntmps18
      go_wp2_with fail
      refine (HM.out _).mono ?_
      rintro e w1 ⟨rfl, rfl⟩
      go_wp2_with fail
      go_loop [5] (fun i => ∃ k : Nat, k ≤ s.size ∧ i = .int .i64 k ∧ Hid (∀ j, j < k → byteAt s j = 0 ∨ (byteAt s j = 1 ∧ j < N))) (fun i => s.size - (intOf i).toNat)
      case atStart => exact ⟨0, Nat.zero_le _, rfl, fun j hj => by omega⟩
      case round =>
        obtain ⟨k, hk, rfl, hall⟩ := hrel
        by_cases hlt : k < s.size
        · have hb := byteAt_eq s k hlt
          obtain ⟨r0, r1⟩ := byteAt_range s k
          obtain ⟨c, hc⟩ : ∃ c, c = byteAt s k := ⟨_, rfl⟩
          rw [← hc] at hb r0 r1
          have HCC := Lib.hid hc
          have hk64 : k < 64 := by have := H64.out; omega
          clear hc
          by_cases c1 : 1 < c
          · have hres : chkE s N = 3 := by
              rw [HE.out, mapB_bad hk64 (by rw [← HCC.out]; omega)]; rfl
            have HRES := Lib.hid hres
            clear hres
            go_wp2_with fail
            go_ret
            exact ⟨by rw [HRES.out]; rfl, rfl⟩
          · have d1 : decide (1 < c) = false := decide_eq_false c1
            by_cases c2 : c = 1
            · by_cases c3 : N ≤ k
              · have hres : chkE s N = 3 := by
                  rw [HE.out, mapB_bad hk64 (by rw [← HCC.out]; omega)]; rfl
                have HRES := Lib.hid hres
                have d3 : decide (N ≤ k) = true := decide_eq_true c3
                clear hres
                subst c2
                go_wp2_with fail
                go_ret
                exact ⟨by rw [HRES.out]; rfl, rfl⟩
              · have d3 : decide (N ≤ k) = false := decide_eq_false c3
                have hn2 : Hid (∀ j, j < k + 1 → byteAt s j = 0 ∨ (byteAt s j = 1 ∧ j < N)) := Lib.hid fun j hj => by
                  by_cases hjk : j = k
                  · subst hjk; exact .inr ⟨by rw [← HCC.out]; exact c2, by omega⟩
                  · exact hall.out j (by omega)
                subst c2
                go_wp2_with fail
                go_round
                case rel => exact ⟨k + 1, by omega, by go_num, hn2⟩
                case measure => simp [intOf]; omega
            · have c0 : c = 0 := by omega
              have hn2 : Hid (∀ j, j < k + 1 → byteAt s j = 0 ∨ (byteAt s j = 1 ∧ j < N)) := Lib.hid fun j hj => by
                by_cases hjk : j = k
                · subst hjk; exact .inl (by rw [← HCC.out]; exact c0)
                · exact hall.out j (by omega)
              subst c0
              go_wp2_with fail
              go_round
              case rel => exact ⟨k + 1, by omega, by go_num, hn2⟩
              case measure => simp [intOf]; omega
        · obtain rfl : k = s.size := by omega
          have hres : chkE s N = 0 := by
            rw [HE.out, mapB_all H64.out (fun j hj => hall.out j (by rw [H64.out]; exact hj))]; rfl
          have HRES := Lib.hid hres
          clear hres
          go_wp2_with fail
          go_ret
          exact ⟨by rw [HRES.out]; rfl, rfl⟩
    · have hmb : mapB s N = false := by simp [mapB, h64]
      have hres : chkE s N = 3 := by rw [HE.out, hmb]; rfl
      have HRES := Lib.hid hres
      have hz : ((s.size : Int) == 64) = false := by
        have : ¬ (s.size : Int) = 64 := by omega
        simp [this]
      have hz2 : ((s.size : Int) != 64) = true := by
        have : ¬ (s.size : Int) = 64 := by omega
        simp [this]
      clear hmb hres h64
      go_enter Tryd.func18, Tryd.ntmps18
      go_wp2_with fail
      refine (HM.out _).mono ?_
      rintro e w1 ⟨rfl, rfl⟩
      go_wp2_with fail
      go_ret
      exact ⟨by rw [HRES.out]; rfl, rfl⟩
  · have hE : chkE s n = 1 := by rw [chkE, if_neg hn]
    rw [decide_eq_false hn] at hM
    rw [hE]
    have HM := Lib.hid hM
    clear hM hE hn
    go_enter Tryd.func18, Tryd.ntmps18
    go_wp2_with fail
    refine (HM.out _).mono ?_
    rintro e w1 ⟨rfl, rfl⟩
    go_wp2_with fail
    go_ret
    exact ⟨rfl, rfl⟩

set_option maxHeartbeats 1000000 in
theorem rasked_any (s : ByteArray) (n p : Int) (w : World) :
    Calls Tryd.prog 30 #[.string s, .int .i64 n, .int .i64 p] w fun e w' => e = .returned (.int .i64 (askE s n p)) ∧ w = w' := by
  have HC := Lib.hid (fun W => rcheck_any s n W)
  by_cases h0 : chkE s n = 0
  · have hn : 1 ≤ n ∧ n ≤ 64 := by
      obtain ⟨N, rfl, h1, h2, _⟩ := chk_told h0
      omega
    have hE : askE s n p = manyE n p := by rw [askE, if_pos h0]
    rw [hE]
    rw [h0] at HC
    clear hE h0
    by_cases h1 : p < 0
    · have hr : manyE n p = 1 := by simp [manyE, h1]
      rw [hr]
      clear hr hn
      go_enter Tryd.func30, Tryd.ntmps30
      go_wp2_with fail
      refine (HC.out _).mono ?_
      rintro e w1 ⟨rfl, rfl⟩
      go_wp2_with fail
      go_ret
      exact ⟨rfl, rfl⟩
    · have g1 : decide (p < 0) = false := decide_eq_false h1
      by_cases h2 : n ≤ p
      · have hr : manyE n p = 1 := by simp [manyE, h2]
        have g2 : decide (n ≤ p) = true := decide_eq_true h2
        rw [hr]
        clear hr hn
        go_enter Tryd.func30, Tryd.ntmps30
        go_wp2_with fail
        refine (HC.out _).mono ?_
        rintro e w1 ⟨rfl, rfl⟩
        go_wp2_with fail
        go_ret
        exact ⟨rfl, rfl⟩
      · have g2 : decide (n ≤ p) = false := decide_eq_false h2
        have hr : manyE n p = 0 := by rw [manyE, if_neg (by omega)]
        rw [hr]
        clear hr hn
        go_enter Tryd.func30, Tryd.ntmps30
        go_wp2_with fail
        refine (HC.out _).mono ?_
        rintro e w1 ⟨rfl, rfl⟩
        go_wp2_with fail
        go_ret
        exact ⟨rfl, rfl⟩
  · have hE : askE s n p = chkE s n := by rw [askE, if_neg h0]
    rw [hE]
    generalize chkE s n = ce at *
    have h1 : (ce == 0) = false := by simp [h0]
    have h2 : (ce != 0) = true := by simp [h0]
    clear hE h0
    go_enter Tryd.func30, Tryd.ntmps30
    go_wp2_with fail
    refine (HC.out _).mono ?_
    rintro e w1 ⟨rfl, rfl⟩
    go_wp2_with fail
    go_ret
    exact ⟨rfl, rfl⟩

set_option maxHeartbeats 1000000 in
theorem rtaken_any (s : ByteArray) (n p : Int) (w : World) :
    Calls Tryd.prog 15 #[.string s, .int .i64 n, .int .i64 p] w fun e w' => e = .returned (.tuple #[.bool (takenB s n p), .int .i64 (askE s n p)]) ∧ w = w' := by
  have HA := Lib.hid (fun W => rasked_any s n p W)
  by_cases h0 : askE s n p = 0
  · obtain ⟨N, P, rfl, rfl, hP, hN, hm⟩ := ask_told h0
    have h64 := ((mapB_iff s N).1 hm).1
    have ht : takenB s N P = (byteAt s P == 1) := by simp [takenB, h0]
    rw [ht, h0]
    rw [h0] at HA
    have hlt : P < s.size := by omega
    have hb := Lib.hid (byteAt_eq s P hlt)
    clear ht h0 hm
    go_enter Tryd.func15, Tryd.ntmps15
    go_wp2_with fail
    refine (HA.out _).mono ?_
    rintro e w1 ⟨rfl, rfl⟩
    go_wp2_with fail
    go_ret2
    exact ⟨by rw [hb.out]; rfl, rfl⟩
  · have ht : takenB s n p = false := by simp [takenB, h0]
    rw [ht]
    generalize askE s n p = ce at *
    have h1 : (ce == 0) = false := by simp [h0]
    have h2 : (ce != 0) = true := by simp [h0]
    clear ht h0
    go_enter Tryd.func15, Tryd.ntmps15
    go_wp2_with fail
    refine (HA.out _).mono ?_
    rintro e w1 ⟨rfl, rfl⟩
    go_wp2_with fail
    go_ret2
    exact ⟨rfl, rfl⟩

set_option maxHeartbeats 1000000 in
theorem rfind_any (s : ByteArray) (n p : Int) (w : World) :
    Calls Tryd.prog 19 #[.string s, .int .i64 n, .int .i64 p] w fun e w' => e = .returned (.tuple #[.int .i64 (findI s n p), .int .i64 (findE s n p)]) ∧ w = w' := by
  have HA := Lib.hid (fun W => rasked_any s n p W)
  by_cases h0 : askE s n p = 0
  · obtain ⟨N, P, rfl, rfl, hP, hN, hm⟩ := ask_told h0
    have h64 := ((mapB_iff s N).1 hm).1
    have hI : findI s N P = if ff s N P 0 < N then (ff s N P 0 : Int) else 0 := by simp [findI, h0]
    have hE : findE s N P = if ff s N P 0 < N then 0 else 50 := by simp [findE, h0]
    have HI := Lib.hid hI
    have HE := Lib.hid hE
    rw [h0] at HA
    have H64 := Lib.hid h64
    clear hI hE h0 hm h64
    go_enter Tryd.func19, Tryd.ntmps19
    go_wp2_with fail
    refine (HA.out _).mono ?_
    rintro e w1 ⟨rfl, rfl⟩
    go_wp2_with fail
    go_loop [9] (fun i => ∃ k : Nat, k ≤ N ∧ i = .int .i64 k ∧ Hid (ff s N P 0 = ff s N P k)) (fun i => N - (intOf i).toNat)
    case atStart => exact ⟨0, Nat.zero_le _, rfl, Lib.hid rfl⟩
    case round =>
      obtain ⟨k, hk, rfl, hall⟩ := hrel
      by_cases hlt : k < N
      · obtain ⟨x, hx⟩ : ∃ x, x = (P + k) % N := ⟨_, rfl⟩
        have hxN : x < N := by rw [hx]; exact Nat.mod_lt _ (by omega)
        have hxs : x < s.size := by have := H64.out; omega
        have hmod : ((P : Int) + (k : Int)) % (N : Int) = (x : Int) := by rw [hx]; simp
        have hne : ¬ (N : Int) = 0 := by omega
        have hp0 : (0 : Int) ≤ (P : Int) + k := by omega
        have hp1 : (P : Int) + k ≤ 128 := by omega
        have hidx : ∀ W, (Instr.index 9 (.string s) (.int .i64 (x : Int))).run Tryd.prog W = .ok (.int .u8 (byteAt s x)) W := fun W => by
          rw [← byteAt_eq s x hxs]
          simp [go_sem, hxs]
        have HX := Lib.hid hx
        clear hx
        by_cases hz : byteAt s x = 0
        · have hff : ff s N P 0 = x := by rw [hall.out, ff_here hlt (by rw [← HX.out]; exact hz), HX.out]
          have hres : (Ending.returned (.tuple #[.int .i64 (x : Int), .int .i64 0])) = .returned (.tuple #[.int .i64 (findI s N P), .int .i64 (findE s N P)]) := by
            rw [HI.out, HE.out, hff, if_pos hxN, if_pos hxN]
          have HRES := Lib.hid hres
          rw [hz] at hidx
          clear hres hff hz
          go_wp2_with fail
          go_ret2
          exact ⟨HRES.out, rfl⟩
        · have hnx := Lib.hid (show ff s N P 0 = ff s N P (k + 1) by rw [hall.out, ff_step hlt (by rw [← HX.out]; exact hz)])
          have hz1 : (byteAt s x == 0) = false := by simp [hz]
          clear hz
          go_wp2_with fail
          go_round
          case rel => exact ⟨k + 1, by omega, by go_num, hnx⟩
          case measure => simp [intOf]; omega
      · obtain rfl : k = N := by omega
        have hff : ff s k P 0 = k := by rw [hall.out, ff_end]
        have hres : (Ending.returned (.tuple #[.int .i64 0, .int .i64 50])) = .returned (.tuple #[.int .i64 (findI s k P), .int .i64 (findE s k P)]) := by
          rw [HI.out, HE.out, hff, if_neg (by omega), if_neg (by omega)]
        have HRES := Lib.hid hres
        clear hres hff
        go_wp2_with fail
        go_ret2
        exact ⟨HRES.out, rfl⟩
  · have hI : findI s n p = 0 := by simp [findI, h0]
    have hE : findE s n p = askE s n p := by simp [findE, h0]
    rw [hI, hE]
    generalize askE s n p = ce at *
    have h1 : (ce == 0) = false := by simp [h0]
    have h2 : (ce != 0) = true := by simp [h0]
    clear hI hE h0
    go_enter Tryd.func19, Tryd.ntmps19
    go_wp2_with fail
    refine (HA.out _).mono ?_
    rintro e w1 ⟨rfl, rfl⟩
    go_wp2_with fail
    go_ret2
    exact ⟨rfl, rfl⟩
end Go.Proofs.YtfhmnkilmhnibaaDoor
