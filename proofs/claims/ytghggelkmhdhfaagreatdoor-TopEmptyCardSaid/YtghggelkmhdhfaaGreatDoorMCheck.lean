
/-
  Which bytes are a map of places: maps.many, maps.Check, maps.ask, and the document's, walked.
-/
import Derived.Test.YtghggelkmhdhfaaGreatDoorPlainPad
import Derived.Test.YtghggelkmhdhfaaGreatDoorShelf
import Derived.Shelf.Strings.SlTrimAscii
import Derived.Laws.Slices
import Derived.Laws.Strings2
namespace Go.Proofs.YtghggelkmhdhfaaGreatDoor
open Go.RowKit

theorem dropWhile_head {α : Type} {p : α → Bool} : ∀ {l : List α} {x : α} {t : List α}, l.dropWhile p = x :: t → p x = false
  | [], _, _, h => by simp at h
  | a :: l, x, t, h => by
    rw [List.dropWhile_cons] at h
    split at h
    · exact dropWhile_head h
    · rename_i hp
      injection h with h1 h2
      subst h1
      simpa using hp
theorem dropWhile_nil {α : Type} {p : α → Bool} : ∀ {l : List α}, l.dropWhile p = [] ↔ ∀ x ∈ l, p x = true
  | [] => by simp
  | a :: l => by
    rw [List.dropWhile_cons]
    by_cases h : p a = true
    · rw [if_pos h, dropWhile_nil]
      simp [h]
    · rw [if_neg h]
      simp [h]
theorem trimS_nil (l cs : List UInt8) : Lib.trimS l cs = [] ↔ ∀ b ∈ l, cs.contains b = true := by
  unfold Lib.trimS Lib.trimLeftS Lib.trimRightS
  have hr : (l.reverse.dropWhile (cs.contains ·)) = [] ↔ ∀ b ∈ l, cs.contains b = true := by
    rw [dropWhile_nil]
    simp
  constructor
  · intro h
    rw [dropWhile_nil] at h
    cases hd : l.reverse.dropWhile (cs.contains ·) with
    | nil => exact hr.1 hd
    | cons x t =>
      have h1 := dropWhile_head hd
      have h2 := h x (by rw [hd]; simp)
      rw [h2] at h1
      cases h1
  · intro h
    rw [hr.2 h]
    rfl

/-- Is it a map of N places? -/
def mapB (s : ByteArray) (N : Nat) : Bool := decide (s.size = 64) && ((s.extract 0 N).data.toList.all (fun b => [0, 1].contains b) && (s.extract N s.size).data.toList.all (fun b => [0].contains b))
theorem extract_get (s : ByteArray) (a b i : Nat) : (s.extract a b).data.toList[i]? = if i < b - a then s.data.toList[a + i]? else none := by
  rw [ByteArray.data_extract, Array.toList_extract, List.extract_eq_take_drop, List.getElem?_take, List.getElem?_drop]
theorem byteAt_get {s : ByteArray} {i : Nat} {b : UInt8} (h : s.data.toList[i]? = some b) : byteAt s i = (b.toNat : Int) := by
  unfold byteAt
  rw [List.getD_eq_getElem?_getD, h]
  rfl
theorem get_byteAt {s : ByteArray} {i : Nat} (h : i < s.size) : ∃ b, s.data.toList[i]? = some b ∧ byteAt s i = (b.toNat : Int) := by
  have h' : i < s.data.toList.length := by rw [length_data]; exact h
  exact ⟨_, List.getElem?_eq_getElem h', byteAt_get (List.getElem?_eq_getElem h')⟩
theorem mapB_iff (s : ByteArray) (N : Nat) : mapB s N = true ↔ s.size = 64 ∧ (∀ i, i < N → i < 64 → byteAt s i = 0 ∨ byteAt s i = 1) ∧ ∀ i, N ≤ i → i < 64 → byteAt s i = 0 := by
  have c2 : ∀ b : UInt8, [0, 1].contains b = true ↔ (b.toNat : Int) = 0 ∨ (b.toNat : Int) = 1 := fun b => by
    have h0 : b = 0 ↔ (b.toNat : Int) = 0 := ⟨fun h => by rw [h]; rfl, fun h => UInt8.toNat.inj (by show b.toNat = 0; omega)⟩
    have h1 : b = 1 ↔ (b.toNat : Int) = 1 := ⟨fun h => by rw [h]; rfl, fun h => UInt8.toNat.inj (by show b.toNat = 1; omega)⟩
    simp [h0, h1]
  have c1 : ∀ b : UInt8, [0].contains b = true ↔ (b.toNat : Int) = 0 := fun b => by
    have h0 : b = 0 ↔ (b.toNat : Int) = 0 := ⟨fun h => by rw [h]; rfl, fun h => UInt8.toNat.inj (by show b.toNat = 0; omega)⟩
    simp [h0]
  unfold mapB
  simp only [Bool.and_eq_true, decide_eq_true_eq, List.all_eq_true]
  constructor
  · rintro ⟨hs, h1, h2⟩
    refine ⟨hs, fun i hi h64 => ?_, fun i hi h64 => ?_⟩
    · obtain ⟨b, hb, he⟩ := get_byteAt (s := s) (i := i) (by omega)
      have hm : b ∈ (s.extract 0 N).data.toList := List.mem_iff_getElem?.2 ⟨i, by rw [extract_get, if_pos (by omega), Nat.zero_add, hb]⟩
      rw [he]
      exact (c2 b).1 (h1 b hm)
    · obtain ⟨b, hb, he⟩ := get_byteAt (s := s) (i := i) (by omega)
      have hm : b ∈ (s.extract N s.size).data.toList := List.mem_iff_getElem?.2 ⟨i - N, by
        rw [extract_get, if_pos (by omega)]
        have e : N + (i - N) = i := by omega
        rw [e, hb]⟩
      rw [he]
      exact (c1 b).1 (h2 b hm)
  · rintro ⟨hs, h1, h2⟩
    refine ⟨hs, fun b hb => ?_, fun b hb => ?_⟩
    · obtain ⟨i, hi⟩ := List.mem_iff_getElem?.1 hb
      rw [extract_get] at hi
      split at hi
      · rename_i hlt
        rw [Nat.zero_add] at hi
        have hl := (List.getElem?_eq_some_iff.1 hi).1
        rw [length_data] at hl
        have := h1 i (by omega) (by omega)
        rw [byteAt_get hi] at this
        exact (c2 b).2 this
      · cases hi
    · obtain ⟨i, hi⟩ := List.mem_iff_getElem?.1 hb
      rw [extract_get] at hi
      split at hi
      · have hl := (List.getElem?_eq_some_iff.1 hi).1
        rw [length_data] at hl
        have := h2 (N + i) (by omega) (by omega)
        rw [byteAt_get hi] at this
        exact (c1 b).2 this
      · cases hi

def manyE (n p : Int) : Int := if n < 1 ∨ 64 < n ∨ p < 0 ∨ n ≤ p then 1 else 0
def chkE (s : ByteArray) (n : Int) : Int := if 1 ≤ n ∧ n ≤ 64 then (if mapB s n.toNat = true then 0 else 3) else 1
def askE (s : ByteArray) (n p : Int) : Int := if chkE s n = 0 then manyE n p else chkE s n

set_option maxHeartbeats 400000 in
theorem many_any (n p : Int) (w : World) :
    Calls Tryz.prog 49 #[.int .i64 n, .int .i64 p] w fun e w' => e = .returned (.int .i64 (manyE n p)) ∧ w = w' := by
  by_cases h1 : n < 1
  · have hr : manyE n p = 1 := by simp [manyE, h1]
    rw [hr]
    clear hr
    go_enter Tryz.func49, Tryz.ntmps49
    go_wp2_with fail
    go_ret
    exact ⟨rfl, rfl⟩
  · have g1 : decide (n < 1) = false := decide_eq_false h1
    by_cases h2 : 64 < n
    · have hr : manyE n p = 1 := by simp [manyE, h2]
      rw [hr]
      clear hr
      go_enter Tryz.func49, Tryz.ntmps49
      go_wp2_with fail
      go_ret
      exact ⟨rfl, rfl⟩
    · have g2 : decide (64 < n) = false := decide_eq_false h2
      by_cases h3 : p < 0
      · have hr : manyE n p = 1 := by simp [manyE, h3]
        rw [hr]
        clear hr
        go_enter Tryz.func49, Tryz.ntmps49
        go_wp2_with fail
        go_ret
        exact ⟨rfl, rfl⟩
      · have g3 : decide (p < 0) = false := decide_eq_false h3
        by_cases h4 : n ≤ p
        · have hr : manyE n p = 1 := by simp [manyE, h4]
          rw [hr]
          clear hr
          go_enter Tryz.func49, Tryz.ntmps49
          go_wp2_with fail
          go_ret
          exact ⟨rfl, rfl⟩
        · have g4 : decide (n ≤ p) = false := decide_eq_false h4
          have hr : manyE n p = 0 := by simp [manyE, h1, h2, h3, h4]
          rw [hr]
          clear hr
          go_enter Tryz.func49, Tryz.ntmps49
          go_wp2_with fail
          go_ret
          exact ⟨rfl, rfl⟩

theorem trim_any (s : ByteArray) (cs : ByteArray) (w : World) (hs : s.size ≤ 64) (hc : cs = ⟨#[0, 1]⟩ ∨ cs = ⟨#[0]⟩) :
    Calls Tryz.prog 55 #[.string s, .string cs] w fun e w' => e = .returned (.string ⟨(Lib.trimS s.data.toList cs.data.toList).toArray⟩) ∧ Below w.heap.size w w' := by
  refine Any.strings_Trim_laid Tryz.lays160 (by kernel_rfl) s cs w (by omega) ?_ ?_
  · rcases hc with rfl | rfl <;> decide
  · rcases hc with rfl | rfl <;> exact ascii_of_all (by decide)
/-- Trimmed to nothing, as the walk asks it. -/
theorem trim_asked (l cs : List UInt8) : ((⟨(Lib.trimS l cs).toArray⟩ : ByteArray)).toList.isEmpty = l.all (fun b => cs.contains b) := by
  rw [ByteArray.toList_eq]
  show (Lib.trimS l cs).isEmpty = _
  cases h : l.all (fun b => cs.contains b) with
  | true =>
    rw [(trimS_nil l cs).2 (by simpa using h)]
    rfl
  | false =>
    rw [← Bool.not_eq_true] at h ⊢
    intro h1
    exact h (by simpa using (trimS_nil l cs).1 (List.isEmpty_iff.1 h1))

set_option maxHeartbeats 1000000 in
set_option maxRecDepth 100000 in
theorem check_any (s : ByteArray) (n : Int) (w : World) :
    Calls Tryz.prog 37 #[.string s, .int .i64 n] w fun e w' => e = .returned (.int .i64 (chkE s n)) ∧ Below w.heap.size w w' := by
  have hM := fun W => many_any n 0 W
  by_cases hn : 1 ≤ n ∧ n ≤ 64
  · obtain ⟨N, hN⟩ : ∃ N : Nat, n = (N : Int) := ⟨n.toNat, by omega⟩
    subst hN
    obtain ⟨n1, n2⟩ := hn
    have hm0 : manyE (N : Int) 0 = 0 := by
      have h1 : ¬ (N : Int) < 1 := by omega
      have h2 : ¬ (64 : Int) < N := by omega
      simp [manyE, h1, h2]
      omega
    rw [hm0] at hM
    have HM := Lib.hid hM
    have hE : chkE s N = if mapB s N = true then 0 else 3 := by
      rw [chkE, if_pos ⟨n1, n2⟩, Int.toNat_natCast]
    clear hM hm0
    by_cases h64 : s.size = 64
    · have hz : ((s.size : Int) == 64) = true := by simp [h64]
      have hz2 : ((s.size : Int) != 64) = false := by simp [h64]
      have hT1 := Lib.hid (fun W => trim_any (s.extract 0 N) ⟨#[0, 1]⟩ W (by rw [ByteArray.size_extract]; omega) (.inl rfl))
      have hT2 := Lib.hid (fun W => trim_any (s.extract N s.size) ⟨#[0]⟩ W (by rw [ByteArray.size_extract]; omega) (.inr rfl))
      have q1 := trim_asked (s.extract 0 N).data.toList [0, 1]
      have q2 := trim_asked (s.extract N s.size).data.toList [0]
      have hmb : mapB s N = ((s.extract 0 N).data.toList.all (fun b => [0, 1].contains b) && (s.extract N s.size).data.toList.all (fun b => [0].contains b)) := by simp [mapB, h64]
      generalize (s.extract 0 N).data.toList.all (fun b => [0, 1].contains b) = b1 at *
      generalize (s.extract N s.size).data.toList.all (fun b => [0].contains b) = b2 at *
      have l1 : (N : Int) ≤ s.size := by omega
      have l0 : (0 : Int) ≤ N := by omega
      change Hid (∀ W, Calls Tryz.prog _ _ W fun e w' => e = .returned (.string ⟨(Lib.trimS (s.extract 0 N).data.toList [0, 1]).toArray⟩) ∧ _) at hT1
      change Hid (∀ W, Calls Tryz.prog _ _ W fun e w' => e = .returned (.string ⟨(Lib.trimS (s.extract N s.size).data.toList [0]).toArray⟩) ∧ _) at hT2
      generalize (⟨(Lib.trimS (s.extract 0 N).data.toList [0, 1]).toArray⟩ : ByteArray) = t1 at *
      generalize (⟨(Lib.trimS (s.extract N s.size).data.toList [0]).toArray⟩ : ByteArray) = t2 at *
      rw [hE, hmb]
      have hsl1 : ∀ W, (Instr.slice 9 (.string s) none (some (.int .i64 (N : Int))) none).run Tryz.prog W = .ok (.string (s.extract 0 N)) W := fun W => by
        rw [run_slice_string_h (P := Tryz.prog) (ht := Tryz.underlying9) (h0 := by omega) (h2 := by omega), Int.toNat_natCast]
      have hsl2 : ∀ W, (Instr.slice 9 (.string s) (some (.int .i64 (N : Int))) none none).run Tryz.prog W = .ok (.string (s.extract N s.size)) W := fun W => by
        rw [run_slice_string_l (P := Tryz.prog) (ht := Tryz.underlying9) (h0 := by omega) (h1 := by omega), Int.toNat_natCast]
      clear hE hmb h64
      go_enter Tryz.func37, Tryz.ntmps37
      go_wp2_with fail
      refine (HM.out _).mono ?_
      rintro e w1 ⟨rfl, rfl⟩
      go_wp2_with fail
      refine (hT1.out _).mono ?_
      rintro e w2 ⟨rfl, hb2⟩
      cases b1 with
      | false =>
        go_wp2_with fail
        go_ret
        exact ⟨rfl, hb2⟩
      | true =>
        go_wp2_with fail
        refine (hT2.out _).mono ?_
        rintro e w3 ⟨rfl, hb3⟩
        have B3 := hb2.trans (Below.mono hb3 hb2.size)
        clear hb2 hb3
        cases b2 with
        | false =>
          go_wp2_with fail
          go_ret
          exact ⟨rfl, B3⟩
        | true =>
          go_wp2_with fail
          go_ret
          exact ⟨rfl, B3⟩
    · have hmb : mapB s N = false := by simp [mapB, h64]
      rw [hE, hmb]
      have hz : ((s.size : Int) == 64) = false := by
        have : ¬ (s.size : Int) = 64 := by omega
        simp [this]
      have hz2 : ((s.size : Int) != 64) = true := by
        have : ¬ (s.size : Int) = 64 := by omega
        simp [this]
      clear hE hmb h64
      go_enter Tryz.func37, Tryz.ntmps37
      go_wp2_with fail
      refine (HM.out _).mono ?_
      rintro e w1 ⟨rfl, rfl⟩
      go_wp2_with fail
      go_ret
      exact ⟨rfl, Below.refl _ _⟩
  · have hE : chkE s n = 1 := by rw [chkE, if_neg hn]
    have hm1 : manyE n 0 = 1 := by
      by_cases h1 : n < 1
      · simp [manyE, h1]
      · have h2 : 64 < n := by omega
        simp [manyE, h2]
    rw [hm1] at hM
    rw [hE]
    have HM := Lib.hid hM
    clear hM hm1 hE hn
    go_enter Tryz.func37, Tryz.ntmps37
    go_wp2_with fail
    refine (HM.out _).mono ?_
    rintro e w1 ⟨rfl, rfl⟩
    go_wp2_with fail
    go_ret
    exact ⟨rfl, Below.refl _ _⟩

set_option maxHeartbeats 1000000 in
theorem ask_any (s : ByteArray) (n p : Int) (w : World) :
    Calls Tryz.prog 85 #[.string s, .int .i64 n, .int .i64 p] w fun e w' => e = .returned (.int .i64 (askE s n p)) ∧ Below w.heap.size w w' := by
  have HC := Lib.hid (fun W => check_any s n W)
  have HM := Lib.hid (fun W => many_any n p W)
  by_cases h0 : chkE s n = 0
  · have hE : askE s n p = manyE n p := by rw [askE, if_pos h0]
    rw [hE]
    rw [h0] at HC
    clear hE h0
    go_enter Tryz.func85, Tryz.ntmps85
    go_wp2_with fail
    refine (HC.out _).mono ?_
    rintro e w1 ⟨rfl, hb1⟩
    go_wp2_with fail
    refine (HM.out _).mono ?_
    rintro e w2 ⟨rfl, rfl⟩
    go_wp2_with fail
    go_ret
    exact ⟨rfl, hb1⟩
  · have hE : askE s n p = chkE s n := by rw [askE, if_neg h0]
    rw [hE]
    generalize chkE s n = ce at *
    have h1 : (ce == 0) = false := by simp [h0]
    have h2 : (ce != 0) = true := by simp [h0]
    clear hE h0
    go_enter Tryz.func85, Tryz.ntmps85
    go_wp2_with fail
    refine (HC.out _).mono ?_
    rintro e w1 ⟨rfl, hb1⟩
    go_wp2_with fail
    go_ret
    exact ⟨rfl, hb1⟩
end Go.Proofs.YtghggelkmhdhfaaGreatDoor
