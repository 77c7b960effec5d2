
/-
  A row of strings; a blank with zeros over it.
-/
import Derived.Test.YtghggelkmhdhfaaGreatDoorTPut
import Derived.Test.YtghggelkmhdhfaaGreatDoorTPatch
import Derived.Test.YtghggelkmhdhfaaGreatDoorMOf
namespace Go.Proofs.YtghggelkmhdhfaaGreatDoor
open Go.RowKit

theorem info_str : (Tryz.prog.info? 9).map (fun i => (i.zero, i.size, i.bytes)) = some (some (.string ⟨#[]⟩), 1, 16) := by kernel_rfl
/-- A row of strings. -/
def strC (n : Nat) (f : Nat → ByteArray) : Array Value := ((List.range n).map fun i => Value.string (f i)).toArray
theorem size_strC (n : Nat) (f : Nat → ByteArray) : (strC n f).size = n := by simp [strC]
theorem strC_get {n : Nat} (f : Nat → ByteArray) {i : Nat} (h : i < n) : (strC n f)[i]? = some (.string (f i)) := by simp [strC, h]
theorem strC_congr {n : Nat} {f f' : Nat → ByteArray} (h : ∀ i, i < n → f i = f' i) : strC n f = strC n f' := by
  unfold strC
  congr 1
  refine List.map_congr_left fun i hi => ?_
  rw [h i (by simpa using hi)]
theorem strC_step {n : Nat} (f : Nat → ByteArray) (x : Nat) (s : ByteArray) : (strC n f).setIfInBounds x (.string s) = strC n (fun i => if i = x then s else f i) := by
  refine Array.ext_getElem? fun i => ?_
  rw [Array.getElem?_setIfInBounds]
  by_cases hi : i < n
  · rw [strC_get f hi, strC_get _ hi]
    by_cases hx : x = i
    · subst hx
      rw [if_pos rfl, if_pos (by rw [size_strC]; exact hi), if_pos rfl]
    · rw [if_neg hx, if_neg (fun e => hx e.symm)]
  · have e1 : ∀ g, (strC n g)[i]? = none := fun g => Array.getElem?_eq_none (by rw [size_strC]; omega)
    rw [e1, e1]
    by_cases hx : x = i
    · subst hx
      rw [if_pos rfl, if_neg (by rw [size_strC]; exact hi)]
    · rw [if_neg hx]
theorem strC_made (n : Nat) : (madeCells #[Value.string ⟨#[]⟩] n).toList.toArray = strC n (fun _ => ⟨#[]⟩) := by
  rw [toList_madeCells_one]
  unfold strC
  congr 1
  exact List.ext_getElem? fun i => by simp [List.getElem?_replicate]; split <;> simp_all
theorem over_blank {off : Nat} (h : off ≤ 60) : over blank off zero4 = blank := by
  have : ∀ o, o < 61 → over blank o zero4 = blank := by decide +kernel
  exact this off (by omega)

/-- A geometry's box. -/
def Box (w : World) (b A B C : Nat) : Prop := w.cell? ⟨b, 0, none⟩ = some (.int .i64 (A : Int)) ∧ w.cell? ⟨b, 1, none⟩ = some (.int .i64 (B : Int)) ∧ w.cell? ⟨b, 2, none⟩ = some (.int .i64 (C : Int))
theorem Box.lt {w : World} {b A B C : Nat} (h : Box w b A B C) : b < w.heap.size := by
  have := World.block_lt_of_cell? w _ h.1
  simpa using this
theorem Box.below {w w' : World} {b A B C : Nat} (h : Box w b A B C) (hb : Below w.heap.size w w') : Box w' b A B C := by
  have hl := h.lt
  exact ⟨by rw [hb.cell (by simpa using hl)]; exact h.1, by rw [hb.cell (by simpa using hl)]; exact h.2.1, by rw [hb.cell (by simpa using hl)]; exact h.2.2⟩
theorem Box.setCell {w : World} {b A B C g : Nat} (h : Box w b A B C) (hne : ¬ b = g) (i : Nat) (v : Value) : Box (w.setCell ⟨g, i, none⟩ v) b A B C := by
  have e : ∀ o, (w.setCell ⟨g, i, none⟩ v).cell? ⟨b, o, none⟩ = w.cell? ⟨b, o, none⟩ := fun o => by
    have h1 := Below.heap_setCell w ⟨g, i, none⟩ v b (fun e => hne (by simpa using e))
    simp only [World.cell?, h1]
  exact ⟨by rw [e]; exact h.1, by rw [e]; exact h.2.1, by rw [e]; exact h.2.2⟩
end Go.Proofs.YtghggelkmhdhfaaGreatDoor
