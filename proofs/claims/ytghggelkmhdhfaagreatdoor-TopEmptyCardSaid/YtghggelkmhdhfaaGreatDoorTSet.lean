
/-
  One place of a map set: maps.Set, walked; the map's bytes by a set of places.
-/
import Derived.Test.YtghggelkmhdhfaaGreatDoorTPatch
import Derived.Test.YtghggelkmhdhfaaGreatDoorMOf
namespace Go.Proofs.YtghggelkmhdhfaaGreatDoor
open Go.RowKit

def bit (b : Bool) : ByteArray := if b = true then ⟨#[1]⟩ else ⟨#[0]⟩
theorem size_bit (b : Bool) : (bit b).size = 1 := by cases b <;> rfl

set_option maxHeartbeats 1000000 in
theorem set_any (N P : Nat) (b : Bool) (w : World) (hP : P < N) (hN : N ≤ 64) :
    Calls Tryz.prog 86 #[.int .i64 (N : Int), .int .i64 (P : Int), .bool b] w fun e w' => e = .returned (.tuple #[.agg #[.int .i64 (P : Int), .string (bit b)], .int .i64 0]) ∧ Below w.heap.size w w' := by
  have hM := fun W => many_any (N : Int) (P : Int) W
  have hm : manyE (N : Int) (P : Int) = 0 := by rw [manyE, if_neg (by omega)]
  rw [hm] at hM
  have HM := Lib.hid hM
  clear hM hm
  cases b with
  | false =>
    go_enter Tryz.func86, Tryz.ntmps86
    go_wp2_with fail
    refine (HM.out _).mono ?_
    rintro e w1 ⟨rfl, rfl⟩
    go_wp2_with fail
    refine bodyPost_ret (v := .tuple #[.agg #[.int .i64 (P : Int), .string ⟨#[0]⟩], .int .i64 0]) (by simp [results, Tryz.results86, go_sem]) rfl ⟨rfl, by (repeat' (first | exact Below.refl _ _ | assumption | refine Below.setCell ?_ ?_ _ | refine Below.drew ?_ | refine below_drewN ?_ _ | refine Below.alloc ?_ ?_ _ | refine below_of_grown ?_ (by assumption) ?_ | refine Below.trans ?_ (Below.mono (by assumption) ?_) | omega | (simp; done) | (simp; omega)))⟩
  | true =>
    go_enter Tryz.func86, Tryz.ntmps86
    go_wp2_with fail
    refine (HM.out _).mono ?_
    rintro e w1 ⟨rfl, rfl⟩
    go_wp2_with fail
    refine bodyPost_ret (v := .tuple #[.agg #[.int .i64 (P : Int), .string ⟨#[1]⟩], .int .i64 0]) (by simp [results, Tryz.results86, go_sem]) rfl ⟨rfl, by (repeat' (first | exact Below.refl _ _ | assumption | refine Below.setCell ?_ ?_ _ | refine Below.drew ?_ | refine below_drewN ?_ _ | refine Below.alloc ?_ ?_ _ | refine below_of_grown ?_ (by assumption) ?_ | refine Below.trans ?_ (Below.mono (by assumption) ?_) | omega | (simp; done) | (simp; omega)))⟩

/-- The bytes of a map, by its set. -/
def setL (f : Nat → Bool) : List UInt8 := (List.range 64).map fun i => if f i = true then 1 else 0
def setS (f : Nat → Bool) : ByteArray := str (setL f)
def upd (f : Nat → Bool) (x : Nat) (b : Bool) : Nat → Bool := fun i => if i = x then b else f i
theorem length_setL (f : Nat → Bool) : (setL f).length = 64 := by simp [setL]
theorem size_setS (f : Nat → Bool) : (setS f).size = 64 := by rw [setS, size_str, length_setL]
theorem setL_get (f : Nat → Bool) (i : Nat) (h : i < 64) : (setL f)[i]? = some (if f i = true then 1 else 0) := by
  simp [setL, h]
theorem setS_blank : blank = setS (fun _ => false) := by decide +kernel
theorem byteAt_setS (f : Nat → Bool) (i : Nat) (h : i < 64) : byteAt (setS f) i = if f i = true then 1 else 0 := by
  unfold byteAt
  rw [setS, data_str, List.getD_eq_getElem?_getD, setL_get f i h]
  split <;> rfl
theorem over_setS (f : Nat → Bool) (x : Nat) (b : Bool) (hx : x < 64) : over (setS f) x (bit b) = setS (upd f x b) := by
  unfold over setS
  rw [data_str]
  congr 1
  have hb : (bit b).data.toList = [if b = true then (1 : UInt8) else 0] := by cases b <;> rfl
  rw [hb]
  refine List.ext_getElem? fun i => ?_
  rw [get_overL (by rw [length_setL]; simp; omega)]
  by_cases hi : i < 64
  · rw [setL_get f i hi, setL_get _ i hi]
    unfold upd
    by_cases h1 : i < x
    · rw [if_pos h1, if_neg (show ¬ i = x by omega)]
    · rw [if_neg h1]
      by_cases h2 : i = x
      · subst h2
        rw [if_pos (by simp), if_pos rfl, Nat.sub_self]
        rfl
      · rw [if_neg (by simp; omega), if_neg h2]
  · rw [if_neg (by omega), if_neg (by simp; omega), List.getElem?_eq_none (by rw [length_setL]; omega), List.getElem?_eq_none (by rw [length_setL]; omega)]
theorem mapB_setS {f : Nat → Bool} {N : Nat} (h : ∀ i, N ≤ i → f i = false) : mapB (setS f) N = true := by
  refine (mapB_iff _ N).2 ⟨size_setS f, fun i _ hi => ?_, fun i hi h2 => ?_⟩
  · rw [byteAt_setS f i hi]
    split
    · exact .inr rfl
    · exact .inl rfl
  · rw [byteAt_setS f i h2, h i hi]
    rfl
theorem taken_setS {f : Nat → Bool} {N x : Nat} (hx : x < N) (hN : N ≤ 64) (h : ∀ i, N ≤ i → f i = false) : takenB (setS f) N x = f x ∧ askE (setS f) N x = 0 := by
  have ha := ask_ok (mapB_setS h) hN hx
  refine ⟨?_, ha⟩
  rw [takenB, ha, Int.toNat_natCast, byteAt_setS f x (by omega)]
  cases f x <;> rfl
/-- How many of the first k are in it. -/
def cnt (f : Nat → Bool) : Nat → Nat
  | 0 => 0
  | k + 1 => cnt f k + if f k = true then 1 else 0
theorem cnt_le (f : Nat → Bool) : ∀ k, cnt f k ≤ k
  | 0 => Nat.le_refl _
  | k + 1 => by
    have := cnt_le f k
    rw [cnt]
    split <;> omega
theorem cnt_full (f : Nat → Bool) : ∀ k, cnt f k = k → ∀ i, i < k → f i = true
  | 0, _, i, hi => by omega
  | k + 1, h, i, hi => by
    have := cnt_le f k
    rw [cnt] at h
    by_cases hk : f k = true
    · rw [if_pos hk] at h
      by_cases hik : i = k
      · subst hik; exact hk
      · exact cnt_full f k (by omega) i (by omega)
    · rw [if_neg hk] at h
      omega
theorem cnt_all (f : Nat → Bool) : ∀ k, (∀ i, i < k → f i = true) → cnt f k = k
  | 0, _ => rfl
  | k + 1, h => by rw [cnt, cnt_all f k (fun i hi => h i (by omega)), h k (by omega)]; rfl
theorem pl_setS (f : Nat → Bool) : ∀ k, k ≤ 64 → (pl (setS f) k).length = cnt f k
  | 0, _ => rfl
  | k + 1, h => by
    rw [pl, cnt, List.length_append, pl_setS f k (by omega), byteAt_setS f k (by omega)]
    cases f k <;> rfl
theorem count_setS {f : Nat → Bool} {N : Nat} (h1 : 1 ≤ N) (hN : N ≤ 64) (h : ∀ i, N ≤ i → f i = false) : (placesL (setS f) N).length = cnt f N ∧ chkE (setS f) N = 0 := by
  have hc := chk_ok (mapB_setS h) hN h1
  exact ⟨by rw [placesL, if_pos hc, Int.toNat_natCast, pl_setS f N hN], hc⟩
theorem ff_first (s : ByteArray) (N P : Nat) : ∀ m k, k + m = N → (∃ i, k ≤ i ∧ i < N ∧ ff s N P k = (P + i) % N ∧ byteAt s ((P + i) % N) = 0 ∧ ∀ j, k ≤ j → j < i → ¬ byteAt s ((P + j) % N) = 0) ∨ (ff s N P k = N ∧ ∀ j, k ≤ j → j < N → ¬ byteAt s ((P + j) % N) = 0)
  | 0, k, hk => by
    obtain rfl : k = N := by omega
    exact .inr ⟨ff_end s k P, fun j h1 h2 => by omega⟩
  | m + 1, k, hk => by
    by_cases h : byteAt s ((P + k) % N) = 0
    · exact .inl ⟨k, Nat.le_refl _, by omega, ff_here (by omega) h, h, fun j h1 h2 => by omega⟩
    · rw [ff_step (by omega) h]
      rcases ff_first s N P m (k + 1) (by omega) with ⟨i, g1, g2, g3, g4, g5⟩ | ⟨h1, h2⟩
      · refine .inl ⟨i, by omega, g2, g3, g4, fun j h3 h4 => ?_⟩
        by_cases hj : j = k
        · subst hj; exact h
        · exact g5 j (by omega) h4
      · refine .inr ⟨h1, fun j h3 h4 => ?_⟩
        by_cases hj : j = k
        · subst hj; exact h
        · exact h2 j (by omega) h4
/-- What Find tells of it: the first free place from P on, or that it is full. -/
theorem find_setS {f : Nat → Bool} {N P : Nat} (hP : P < N) (hN : N ≤ 64) (h : ∀ i, N ≤ i → f i = false) :
    (∃ i, i < N ∧ findI (setS f) N P = (((P + i) % N : Nat) : Int) ∧ findE (setS f) N P = 0 ∧ f ((P + i) % N) = false ∧ (∀ j, j < i → f ((P + j) % N) = true) ∧ ¬ cnt f N = N) ∨ (findI (setS f) N P = 0 ∧ findE (setS f) N P = 50 ∧ cnt f N = N) := by
  have ha := ask_ok (mapB_setS h) hN hP
  have hlt : ∀ i, (P + i) % N < N := fun i => Nat.mod_lt _ (by omega)
  have hz : ∀ i, byteAt (setS f) ((P + i) % N) = 0 ↔ f ((P + i) % N) = false := fun i => by
    rw [byteAt_setS f _ (by have := hlt i; omega)]
    cases f ((P + i) % N) <;> simp
  rcases ff_first (setS f) N P N 0 (by omega) with ⟨i, _, h2, h3, h4, h5⟩ | ⟨h1, h2⟩
  · have h4' := (hz i).1 h4
    refine .inl ⟨i, h2, ?_, ?_, h4', fun j hj => ?_, fun hc => ?_⟩
    · have := hlt i
      simp [findI, ha, h3, this]
    · have := hlt i
      simp [findE, ha, h3, this]
    · have := h5 j (by omega) hj
      rw [hz] at this
      simpa using this
    · rw [cnt_full f N hc _ (hlt i)] at h4'
      cases h4'
  · refine .inr ⟨?_, ?_, cnt_all f N fun y hy => ?_⟩
    · simp [findI, ha, h1]
    · simp [findE, ha, h1]
    · have key : ∃ j, j < N ∧ (P + j) % N = y := by
        by_cases hlt : P ≤ y
        · exact ⟨y - P, by omega, by rw [show P + (y - P) = y by omega]; exact Nat.mod_eq_of_lt hy⟩
        · exact ⟨y + N - P, by omega, by rw [show P + (y + N - P) = y + N by omega, Nat.add_mod_right]; exact Nat.mod_eq_of_lt hy⟩
      obtain ⟨j, hj, rfl⟩ := key
      have := h2 j (by omega) hj
      rw [hz] at this
      simpa using this

/-- The law's own array. -/
def wantC (f : Nat → Bool) : Array Value := ((List.range 64).map fun i => Value.bool (f i)).toArray
theorem size_wantC (f : Nat → Bool) : (wantC f).size = 64 := by simp [wantC]
theorem wantC_get (f : Nat → Bool) (i : Nat) (h : i < 64) : (wantC f)[i]? = some (.bool (f i)) := by simp [wantC, h]
theorem wantC_step (f : Nat → Bool) (x : Nat) (b : Bool) : (wantC f).setIfInBounds x (.bool b) = wantC (upd f x b) := by
  refine Array.ext_getElem? fun i => ?_
  rw [Array.getElem?_setIfInBounds]
  by_cases hi : i < 64
  · rw [wantC_get f i hi, wantC_get _ i hi]
    unfold upd
    by_cases hx : x = i
    · subst hx
      rw [if_pos rfl, if_pos (by rw [size_wantC]; exact hi), if_pos rfl]
    · rw [if_neg hx, if_neg (fun e => hx e.symm)]
  · have e1 : ∀ g, (wantC g)[i]? = none := fun g => Array.getElem?_eq_none (by rw [size_wantC]; omega)
    rw [e1, e1]
    by_cases hx : x = i
    · subst hx
      rw [if_pos rfl, if_neg (by rw [size_wantC]; exact hi)]
    · rw [if_neg hx]
theorem wantC_none : wantC (fun _ => false) = (List.replicate 64 (Value.bool false)).toArray := by
  simp [wantC, List.range_succ, List.replicate]
theorem upd_beyond {f : Nat → Bool} {N x : Nat} (b : Bool) (hx : x < N) (h : ∀ i, N ≤ i → f i = false) : ∀ i, N ≤ i → upd f x b i = false := fun i hi => by
  unfold upd
  rw [if_neg (by omega)]
  exact h i hi
end Go.Proofs.YtghggelkmhdhfaaGreatDoor
