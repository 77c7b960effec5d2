
/-
  The map of places: maps.Of, where the places are some; the chapter's example; two lists of ints compared.
-/
import Derived.Test.YtghggelkmhdhfaaGreatDoorMPlaces
import Derived.Test.YtghggelkmhdhfaaGreatDoorMFit
import Derived.Test.YtghggelkmhdhfaaGreatDoorEHas
import Derived.Lib.SmallJoins
import Derived.Deep.QuietTactic
import Derived.BigQuiet
namespace Go.Proofs.YtghggelkmhdhfaaGreatDoor
open Go.RowKit

theorem Blk.cell {w : World} {g : Nat} {cs : Array Value} {t : TypeId} (h : Blk w g cs t) (i : Nat) : w.cell? ⟨g, i, none⟩ = cs[i]? := Joins.cell_of_block h i
theorem Blk.free {w : World} {g : Nat} {cs : Array Value} {t : TypeId} (h : Blk w g cs t) (i : Nat) : w.frozen? ⟨g, i, none⟩ = false := by
  unfold Blk at h
  simp [World.frozen?, h]
theorem Blk.setCell {w : World} {g : Nat} {cs : Array Value} {t : TypeId} (h : Blk w g cs t) (i : Nat) (v : Value) : Blk (w.setCell ⟨g, i, none⟩ v) g (cs.setIfInBounds i v) t := by
  rw [setCell_eq_setRow w g i cs t (0, 0) v h]
  exact h.set _

/-- The bytes of the map of places. -/
def ofL (l : List Nat) : List UInt8 := (List.range 64).map fun i => if l.contains i then 1 else 0
def ofS (l : List Nat) : ByteArray := str (ofL l)
theorem length_ofL (l : List Nat) : (ofL l).length = 64 := by simp [ofL]
theorem size_ofS (l : List Nat) : (ofS l).size = 64 := by rw [ofS, size_str, length_ofL]
theorem ofL_nil : ofL [] = List.replicate 64 0 := by decide +kernel
theorem ofL_get (l : List Nat) (i : Nat) (h : i < 64) : (ofL l)[i]? = some (if l.contains i then 1 else 0) := by
  simp [ofL, h]
theorem byteAt_ofS (l : List Nat) (i : Nat) (h : i < 64) : byteAt (ofS l) i = if l.contains i then 1 else 0 := by
  unfold byteAt
  rw [ofS, data_str, List.getD_eq_getElem?_getD, ofL_get l i h]
  split <;> rfl
theorem ofL_step (l : List Nat) (x : Nat) : (Lib.byteCells (ofL l)).toArray.setIfInBounds x (.int .u8 1) = (Lib.byteCells (ofL (l ++ [x]))).toArray := by
  refine Array.ext_getElem? fun i => ?_
  rw [Array.getElem?_setIfInBounds]
  by_cases hi : i < 64
  · have e1 : ∀ m : List Nat, (Lib.byteCells (ofL m)).toArray[i]? = some (.int .u8 (if m.contains i then 1 else 0)) := fun m => by
      simp only [Lib.byteCells, List.getElem?_toArray, List.getElem?_map, ofL_get m i hi, Option.map_some]
      split <;> rfl
    rw [e1, e1]
    by_cases hx : x = i
    · subst hx
      have hs : x < (Lib.byteCells (ofL l)).toArray.size := by simp [Lib.byteCells, length_ofL]; exact hi
      rw [if_pos rfl, if_pos hs]
      simp
    · rw [if_neg hx]
      have : (l ++ [x]).contains i = l.contains i := by
        simp
        intro h
        exact absurd h.symm hx
      rw [this]
  · have e1 : ∀ m : List Nat, (Lib.byteCells (ofL m)).toArray[i]? = none := fun m => by
      rw [Array.getElem?_eq_none]
      simp [Lib.byteCells, length_ofL]; omega
    rw [e1, e1]
    by_cases hx : x = i
    · subst hx
      have hs : ¬ x < (Lib.byteCells (ofL l)).toArray.size := by simp [Lib.byteCells, length_ofL]; omega
      rw [if_pos rfl, if_neg hs]
    · rw [if_neg hx]

/-- The cells of a list of places, wherever they lie. -/
def PlCells (w : World) (a : Option Addr) (l : List Nat) : Prop := ∀ (i x : Nat), l[i]? = some x → ∃ g o, a = some ⟨g, o, none⟩ ∧ g < w.heap.size ∧ w.cell? ⟨g, o + i, none⟩ = some (.int .i64 (x : Int))
theorem PlCells.below {w w' : World} {a : Option Addr} {l : List Nat} (h : PlCells w a l) (hb : Below w.heap.size w w') : PlCells w' a l := fun i x hi => by
  obtain ⟨g, o, h1, h2, h3⟩ := h i x hi
  exact ⟨g, o, h1, Nat.lt_of_lt_of_le h2 hb.size, by rw [hb.cell (by simpa using h2)]; exact h3⟩
theorem OwnPl.cells {w : World} {base : Nat} {v : Value} {l : List Nat} (h : OwnPl w base v l) : ∃ a c, v = .slice a l.length c ∧ PlCells w a l := by
  obtain ⟨a, c, rfl, hc⟩ := h.form
  refine ⟨a, c, rfl, fun i x hi => ?_⟩
  obtain ⟨g, rfl, _, h2, h3⟩ := hc i x hi
  exact ⟨g, 0, rfl, h2, by rw [Nat.zero_add]; exact h3⟩
def KeptO (l : List Nat) (w : World) (i : Value) (wr : World) : Prop := ∃ k : Nat, k ≤ l.length ∧ i = .int .i64 k ∧ Below w.heap.size w wr ∧ Blk wr w.heap.size (Lib.byteCells (ofL (l.take k))).toArray 5

set_option maxHeartbeats 2000000 in
set_option maxRecDepth 100000 in
theorem of_any (N : Nat) (l : List Nat) (a : Option Addr) (c : Nat) (w : World) (h1 : 1 ≤ N) (hN : N ≤ 64) (hl : ∀ x ∈ l, x < N) (hlen : l.length ≤ 1000) (hc : PlCells w a l) :
    Calls Tryz.prog 24 #[.int .i64 (N : Int), .slice a l.length c] w fun e w' => e = .returned (.tuple #[.string (ofS l), .int .i64 0]) ∧ Below w.heap.size w w' := by
  have hM0 := fun W => many_any (N : Int) 0 W
  have hm0 : manyE (N : Int) 0 = 0 := by rw [manyE, if_neg (by omega)]
  rw [hm0] at hM0
  have HM0 := Lib.hid hM0
  have HC := Lib.hid hc
  have HL := Lib.hid hl
  obtain ⟨i0, hi, hz0, hz1, hz2⟩ := info_parts info_u8
  clear hM0 hm0 hc hl
  go_enter Tryz.func24, Tryz.ntmps24
  go_wp2_with fail
  refine (HM0.out _).mono ?_
  rintro e w1 ⟨rfl, rfl⟩
  go_wp2_with (first | (at_make; refine wpList_make_full _ rfl _ _ 87 rfl w.heap.size 5 i0 (.int .u8 0) 1 Tryz.underlying87 hi hz0 hz1 _ _ _ _ 64 rfl rfl rfl rfl ?b1 ?b2 ?b3 ?_))
  case b1 => rw [hz2]; omega
  case b2 => unfold maxLen; omega
  case b3 => exact Nat.le_refl _
  intro w1 hown hgrow
  have hblk := own_block hown
  rw [made_zeros, ← ofL_nil] at hblk
  have B1 := below_of_grown (Below.refl w.heap.size w) hgrow (Nat.le_refl _)
  have D1 := Lib.hid (show Blk w1 w.heap.size (Lib.byteCells (ofL [])).toArray 5 from hblk)
  clear hown hgrow hblk
  go_wp2_with fail
  go_loopw [19] (fun i wr => KeptO l w i wr) (fun i _ => l.length - (intOf i).toNat)
  case atStart => exact ⟨0, by omega, rfl, B1, D1.out⟩
  case round =>
    clear B1 D1
    obtain ⟨k, hk, rfl, hbe, hblk⟩ := hrel
    have D := Lib.hid hblk
    have hzr := hbe.size
    have hzl := hblk.lt
    by_cases hlt : k < l.length
    · obtain ⟨x, hx⟩ : ∃ x, l[k]? = some x := ⟨_, List.getElem?_eq_getElem hlt⟩
      have hxN := HL.out x (List.mem_of_getElem? hx)
      obtain ⟨g, o, rfl, hg, hcell⟩ := HC.out k x hx
      have x0 : wr.cell? ⟨g, o + k, none⟩ = some (.int .i64 (x : Int)) := by rw [hbe.cell (by simpa using hg)]; exact hcell
      have hM := fun W => many_any (N : Int) (x : Int) W
      have hm : manyE (N : Int) (x : Int) = 0 := by rw [manyE, if_neg (by omega)]
      rw [hm] at hM
      have HM := Lib.hid hM
      have hx64 : x < 64 := by omega
      have hcc : ∃ y, wr.cell? ⟨w.heap.size, x, none⟩ = some y := by
        rw [hblk.cell]
        exact ⟨_, Array.getElem?_eq_getElem (by simp [Lib.byteCells, length_ofL]; exact hx64)⟩
      obtain ⟨y, c0⟩ := hcc
      have cf : ∀ o, wr.frozen? ⟨w.heap.size, o, none⟩ = false := hblk.free
      have lx0 : (0 : Int) ≤ x := by omega
      have lx1 : (x : Int) < 64 := by omega
      have hstep : l.take (k + 1) = l.take k ++ [x] := by rw [List.take_add_one, hx]; rfl
      have D2 := hblk.setCell x (.int .u8 1)
      rw [ofL_step, ← hstep] at D2
      have DD2 := Lib.hid D2
      have BB2 := Lib.hid (show Below w.heap.size w (wr.setCell ⟨w.heap.size, x, none⟩ (.int .u8 1)) from hbe.setCell (Nat.le_refl _) _)
      clear hM hm hblk D hcell hx hstep D2 hbe
      go_wp2_with fail
      refine (HM.out _).mono ?_
      rintro e w2 ⟨rfl, rfl⟩
      go_wp2_with fail
      exact ⟨⟨k + 1, by omega, by simp, BB2.out, DD2.out⟩, by simp [intOf]; omega⟩
    · obtain rfl : k = l.length := by omega
      have hb2 := hblk
      rw [List.take_length] at hb2
      have hcv := conv_block (P := Tryz.prog) (src := 87) (dst := 9) (cap := 64) (rest := []) Tryz.underlying87 Tryz.underlying5 Tryz.underlying9 (by rw [List.append_nil]; exact hb2) (n := 64) (length_ofL l)
      clear hblk D hb2
      go_wp2_with fail
      go_ret2
      exact ⟨rfl, hbe⟩

/-- The example's map. -/
theorem ex_text : ofS [1, 3] = pad ⟨#[0, 1, 0, 1]⟩ := by decide +kernel
theorem ex_map : mapB (ofS [1, 3]) 4 = true := by decide +kernel
theorem ex_find : findI (ofS [1, 3]) 4 3 = 0 ∧ findE (ofS [1, 3]) 4 3 = 0 := by
  have ha : askE (ofS [1, 3]) 4 3 = 0 := ask_ok (N := 4) (P := 3) ex_map (by omega) (by omega)
  have hf : ff (ofS [1, 3]) 4 3 0 = 0 := by
    have := ff_is (s := ofS [1, 3]) (N := 4) (P := 3) (i := 1) (by omega) (by decide +kernel) (fun j hj => by
      have : j = 0 := by omega
      subst this
      decide +kernel)
    exact this
  have e1 : (4 : Int).toNat = 4 := rfl
  have e2 : (3 : Int).toNat = 3 := rfl
  simp [findI, findE, ha, e1, e2, hf]

def KeptI (w : World) (n : Nat) (i : Value) (wr : World) : Prop := ∃ k : Nat, k ≤ n ∧ i = .int .i64 k ∧ Below w.heap.size w wr
end Go.Proofs.YtghggelkmhdhfaaGreatDoor
