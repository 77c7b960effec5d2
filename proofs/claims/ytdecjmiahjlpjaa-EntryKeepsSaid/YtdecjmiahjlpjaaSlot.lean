/-
  Which entries may be, and an entry's bytes (the program's and the document's).
-/
import Derived.Test.YtdecjmiahjlpjaaName
import Derived.Test.YtdecjmiahjlpjaaPut
import Derived.Test.YtdecjmiahjlpjaaPlainPad
import Derived.RegionTactic
import Derived.ChangeAlike
import Derived.Deep.RegionHeld3
namespace Go.Proofs.Ytdecjmiahjlpjaa
open Go.RowKit

/-- May an entry be? -/
def entOk (n : Int) (s : ByteArray) : Bool := if n = 0 then s.toList.isEmpty else (decide (1 ≤ n) && (decide (n ≤ 65535) && nameB s))

set_option maxHeartbeats 1000000 in
theorem emay_any (n : Int) (s : ByteArray) (w : World) :
    Calls Try.prog 28 #[.agg #[.int .i64 n, .string s]] w fun e w' => e = .returned (.bool (entOk n s)) ∧ Below w.heap.size w w' := by
  have hN := Lib.hid (fun W => name_any s W)
  by_cases h0 : n = 0
  · subst h0
    have hr : entOk 0 s = s.toList.isEmpty := by simp [entOk]
    rw [hr]
    clear hr
    go_enter Try.func28, Try.ntmps28
    go_wp2_with fail
    go_ret
    exact ⟨rfl, by (repeat' (first | exact Below.refl _ _ | assumption | refine Below.setCell ?_ ?_ _ | refine Below.drew ?_ | refine below_drewN ?_ _ | refine Below.alloc ?_ ?_ _ | refine below_of_grown ?_ (by assumption) ?_ | refine Below.trans ?_ (Below.mono (by assumption) ?_) | omega | (simp; done) | (simp; omega)))⟩
  · have g0 : (n == 0) = false := by simp [h0]
    by_cases h1 : 0 < n
    · by_cases h2 : n ≤ 65535
      · have h3 : 1 ≤ n := by omega
        have hr : entOk n s = nameB s := by simp [entOk, h0, h2, h3]
        rw [hr]
        clear hr h0
        go_enter Try.func28, Try.ntmps28
        go_wp2_with fail
        refine (hN.out _).mono ?_
        rintro e w1 ⟨rfl, rfl⟩
        go_wp2_with fail
        go_ret
        exact ⟨rfl, by (repeat' (first | exact Below.refl _ _ | assumption | refine Below.setCell ?_ ?_ _ | refine Below.drew ?_ | refine below_drewN ?_ _ | refine Below.alloc ?_ ?_ _ | refine below_of_grown ?_ (by assumption) ?_ | refine Below.trans ?_ (Below.mono (by assumption) ?_) | omega | (simp; done) | (simp; omega)))⟩
      · have hr : entOk n s = false := by simp [entOk, h0, h2]
        rw [hr]
        clear hr h0
        go_enter Try.func28, Try.ntmps28
        go_wp2_with fail
        go_ret
        exact ⟨rfl, by (repeat' (first | exact Below.refl _ _ | assumption | refine Below.setCell ?_ ?_ _ | refine Below.drew ?_ | refine below_drewN ?_ _ | refine Below.alloc ?_ ?_ _ | refine below_of_grown ?_ (by assumption) ?_ | refine Below.trans ?_ (Below.mono (by assumption) ?_) | omega | (simp; done) | (simp; omega)))⟩
    · have hr : entOk n s = false := by
        have h3 : ¬ 1 ≤ n := by omega
        simp [entOk, h0, h3]
      rw [hr]
      clear hr h0
      go_enter Try.func28, Try.ntmps28
      go_wp2_with fail
      go_ret
      exact ⟨rfl, by (repeat' (first | exact Below.refl _ _ | assumption | refine Below.setCell ?_ ?_ _ | refine Below.drew ?_ | refine below_drewN ?_ _ | refine Below.alloc ?_ ?_ _ | refine below_of_grown ?_ (by assumption) ?_ | refine Below.trans ?_ (Below.mono (by assumption) ?_) | omega | (simp; done) | (simp; omega)))⟩
set_option maxHeartbeats 1000000 in
theorem remay_any (n : Int) (s : ByteArray) (w : World) :
    Calls Try.prog 33 #[.agg #[.int .i64 n, .string s]] w fun e w' => e = .returned (.bool (entOk n s)) ∧ Below w.heap.size w w' := by
  have hN := Lib.hid (fun W => rname_any s W)
  by_cases h0 : n = 0
  · subst h0
    have hr : entOk 0 s = s.toList.isEmpty := by simp [entOk]
    rw [hr]
    clear hr
    go_enter Try.func33, Try.ntmps33
    go_wp2_with fail
    go_ret
    exact ⟨rfl, by (repeat' (first | exact Below.refl _ _ | assumption | refine Below.setCell ?_ ?_ _ | refine Below.drew ?_ | refine below_drewN ?_ _ | refine Below.alloc ?_ ?_ _ | refine below_of_grown ?_ (by assumption) ?_ | refine Below.trans ?_ (Below.mono (by assumption) ?_) | omega | (simp; done) | (simp; omega)))⟩
  · have g0 : (n == 0) = false := by simp [h0]
    by_cases h1 : 1 ≤ n
    · by_cases h2 : n ≤ 65535
      · have hr : entOk n s = nameB s := by simp [entOk, h0, h2, h1]
        rw [hr]
        clear hr h0
        go_enter Try.func33, Try.ntmps33
        go_wp2_with fail
        refine (hN.out _).mono ?_
        rintro e w1 ⟨rfl, rfl⟩
        go_wp2_with fail
        go_ret
        exact ⟨rfl, by (repeat' (first | exact Below.refl _ _ | assumption | refine Below.setCell ?_ ?_ _ | refine Below.drew ?_ | refine below_drewN ?_ _ | refine Below.alloc ?_ ?_ _ | refine below_of_grown ?_ (by assumption) ?_ | refine Below.trans ?_ (Below.mono (by assumption) ?_) | omega | (simp; done) | (simp; omega)))⟩
      · have hr : entOk n s = false := by simp [entOk, h0, h2]
        rw [hr]
        clear hr h0
        go_enter Try.func33, Try.ntmps33
        go_wp2_with fail
        go_ret
        exact ⟨rfl, by (repeat' (first | exact Below.refl _ _ | assumption | refine Below.setCell ?_ ?_ _ | refine Below.drew ?_ | refine below_drewN ?_ _ | refine Below.alloc ?_ ?_ _ | refine below_of_grown ?_ (by assumption) ?_ | refine Below.trans ?_ (Below.mono (by assumption) ?_) | omega | (simp; done) | (simp; omega)))⟩
    · have hr : entOk n s = false := by simp [entOk, h0, h1]
      rw [hr]
      clear hr h0
      go_enter Try.func33, Try.ntmps33
      go_wp2_with fail
      go_ret
      exact ⟨rfl, by (repeat' (first | exact Below.refl _ _ | assumption | refine Below.setCell ?_ ?_ _ | refine Below.drew ?_ | refine below_drewN ?_ _ | refine Below.alloc ?_ ?_ _ | refine below_of_grown ?_ (by assumption) ?_ | refine Below.trans ?_ (Below.mono (by assumption) ?_) | omega | (simp; done) | (simp; omega)))⟩

/-- Bytes, made as long as a slot. -/
def pad16 (t : ByteArray) : ByteArray := t ++ str (List.replicate (16 - t.size) 0)
/-- An entry's bytes. -/
def slotS (n : Int) (s : ByteArray) : ByteArray := pad16 (str (le n 2) ++ str [UInt8.ofNat s.size] ++ s)
theorem size_slot_in (n : Int) (s : ByteArray) : (str (le n 2) ++ str [UInt8.ofNat s.size] ++ s : ByteArray).size = 3 + s.size := by
  rw [ByteArray.size_append, ByteArray.size_append, size_str, size_str, length_le]; rfl
theorem size_pad16 (t : ByteArray) (h : t.size ≤ 16) : (pad16 t).size = 16 := by
  simp only [pad16, ByteArray.size_append, size_str, List.length_replicate]; omega
theorem size_slotS (n : Int) (s : ByteArray) (h : s.size ≤ 13) : (slotS n s).size = 16 := size_pad16 _ (by rw [size_slot_in]; omega)

/-- A row of one byte, as a string. -/
theorem conv_byte (W : World) (L : Nat) (h : L < 256) : (convert 58 9 (.slice (some ⟨W.heap.size, 0, none⟩) 1 1)).run Try.prog (W.alloc (.cells #[.int .u8 (L : Int)] 5)) = .ok (.string (str [UInt8.ofNat L])) (W.alloc (.cells #[.int .u8 (L : Int)] 5)) := by
  have hcv := conv_cells (P := Try.prog) (W := W) (g := W.heap.size) (n := 1) (cap := 1) (dst := 9) #[.int .u8 (L : Int)] [(L : Int)] rfl rfl rfl Try.underlying58 Try.underlying5 Try.underlying9 (by simp; omega)
  simpa only [List.map_cons, List.map_nil, Int.toNat_natCast] using hcv
theorem conv_byte_drew (W : World) (L : Nat) (h : L < 256) : (convert 58 9 (.slice (some ⟨W.heap.size, 0, none⟩) 1 1)).run Try.prog (W.alloc (.cells #[.int .u8 (L : Int)] 5)).drew = .ok (.string (str [UInt8.ofNat L])) (W.alloc (.cells #[.int .u8 (L : Int)] 5)).drew :=
  conv_byte W.drew L h

set_option maxHeartbeats 1000000 in
set_option maxRecDepth 100000 in
theorem slot_any (n : Int) (s : ByteArray) (w : World) (hn : 0 ≤ n) (hn' : n < 65536) (hs : s.size ≤ 13) :
    Calls Try.prog 29 #[.agg #[.int .i64 n, .string s]] w fun e w' => e = .returned (.string (slotS n s)) ∧ Below w.heap.size w w' := by
  have z1 : (str (le n 2)).size ≤ 2 := by rw [size_str, length_le]; omega
  have z2 : (str [UInt8.ofNat s.size]).size ≤ 1 := by rw [size_str]; simp
  have hsz := size_slot_in n s
  have z3 : (str (List.replicate (16 - (str (le n 2) ++ str [UInt8.ofNat s.size] ++ s : ByteArray).size) 0)).size ≤ 16 := by rw [size_str]; simp
  obtain ⟨L, hL⟩ : ∃ L, L = (str (le n 2) ++ str [UInt8.ofNat s.size] ++ s : ByteArray).size := ⟨_, rfl⟩
  have hc := fun W => Try.strings_Repeat ⟨#[0]⟩ (16 - L) W (by omega) (by show 1 * _ ≤ _; omega)
  have e2 := repeat_zero (16 - L)
  change (⟨(Lib.repeatL (#[0] : Array UInt8).toList (16 - L)).toArray⟩ : ByteArray) = _ at e2
  simp only [e2] at hc
  have hL3 : L ≤ 16 := by omega
  have e1 : ((16 - L : Nat) : Int) = 16 - (((str (le n 2)).size : Int) + ((str [UInt8.ofNat s.size]).size : Int) + (s.size : Int)) := by
    rw [ByteArray.size_append, ByteArray.size_append] at hL
    omega
  simp only [e1] at hc
  have HC := Lib.hid hc
  have HL := Lib.hid hL
  rw [← hL] at z3
  clear hc hL e2 e1 hsz
  go_enter Try.func29, Try.ntmps29
  go_wp2_with fail
  refine (put2_any _ _ _ (by omega) (by omega) hn hn').mono ?_
  rintro e w1 ⟨rfl, hb1⟩
  have hz1 := hb1.size
  simp at hz1
  have p0 : w1.cell? ⟨w.heap.size, 0, none⟩ = some (.int .i64 n) := by rw [hb1.cell (by simp <;> omega)]; simp [go_sem]
  have p1 : w1.cell? ⟨w.heap.size, 1, none⟩ = some (.string s) := by rw [hb1.cell (by simp <;> omega)]; simp [go_sem]
  have hl : w.heap.size < w1.heap.size := by omega
  have hcv := fun o => conv_byte (w1.alloc o) s.size (by omega)
  simp only [World.size_alloc] at hcv
  go_wp2_with fail
  refine (HC.out _).mono ?_
  rintro e w2 ⟨rfl, hb2⟩
  go_wp2_with fail
  go_ret
  refine ⟨?_, by (repeat' (first | exact Below.refl _ _ | assumption | refine Below.setCell ?_ ?_ _ | refine Below.drew ?_ | refine below_drewN ?_ _ | refine Below.alloc ?_ ?_ _ | refine below_of_grown ?_ (by assumption) ?_ | refine Below.trans ?_ (Below.mono (by assumption) ?_) | omega | (simp; done) | (simp; omega)))⟩
  rw [slotS, pad16, ← HL.out]
  rfl

end Go.Proofs.Ytdecjmiahjlpjaa
