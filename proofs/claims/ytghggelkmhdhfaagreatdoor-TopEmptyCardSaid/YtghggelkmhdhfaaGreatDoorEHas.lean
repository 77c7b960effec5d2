
/-
  A struct of an int and a text in memory; a block known whole.
-/
import Derived.Test.YtghggelkmhdhfaaGreatDoorKit
import Derived.Laws.Rows
namespace Go.Proofs.YtghggelkmhdhfaaGreatDoor
open Go.RowKit

def Has (w : World) (b : Nat) (n : Int) (s : ByteArray) : Prop := w.cell? ⟨b, 0, none⟩ = some (.int .i64 n) ∧ w.cell? ⟨b, 1, none⟩ = some (.string s) ∧ b < w.heap.size
theorem Has.below {w w' : World} {b : Nat} {n : Int} {s : ByteArray} (h : Has w b n s) (hb : Below w.heap.size w w') : Has w' b n s :=
  ⟨by rw [hb.cell (by simpa using h.2.2)]; exact h.1, by rw [hb.cell (by simpa using h.2.2)]; exact h.2.1, Nat.lt_of_lt_of_le h.2.2 hb.size⟩
theorem Has.alloc {w : World} {b : Nat} {n : Int} {s : ByteArray} (h : Has w b n s) (o : Obj) : Has (w.alloc o) b n s := h.below ((Below.refl _ _).alloc (Nat.le_refl _) o)
theorem Has.new (w : World) (n : Int) (s : ByteArray) (T : TypeId) : Has (w.alloc (.cells #[.int .i64 n, .string s] T)) w.heap.size n s := by
  refine ⟨?_, ?_, ?_⟩ <;> simp [go_sem]
/-- A block known whole. -/
def Blk (w : World) (g : Nat) (cs : Array Value) (t : TypeId) : Prop := w.heap[g]? = some (.cells cs t (0, 0))
theorem Blk.lt {w : World} {g : Nat} {cs : Array Value} {t : TypeId} (h : Blk w g cs t) : g < w.heap.size := (Array.getElem?_eq_some_iff.1 h).1
theorem Blk.below {w w' : World} {g : Nat} {cs : Array Value} {t : TypeId} (h : Blk w g cs t) (hb : Below w.heap.size w w') : Blk w' g cs t := (hb.block g h.lt).trans h
theorem Blk.alloc {w : World} {g : Nat} {cs : Array Value} {t : TypeId} (h : Blk w g cs t) (o : Obj) : Blk (w.alloc o) g cs t := h.below ((Below.refl _ _).alloc (Nat.le_refl _) o)
theorem Blk.new (w : World) (cs : Array Value) (t : TypeId) : Blk (w.alloc (.cells cs t)) w.heap.size cs t := _root_.Go.heap_alloc_new _ _
theorem Blk.set {w : World} {g : Nat} {cs : Array Value} {t : TypeId} (h : Blk w g cs t) (cs' : Array Value) : Blk (w.setRow g cs') g cs' t := setRow_heap w g cs cs' t (0, 0) h
theorem Blk.other {w : World} {g g' : Nat} {cs : Array Value} {t : TypeId} (h : Blk w g cs t) (hne : ¬ g = g') (cs' : Array Value) : Blk (w.setRow g' cs') g cs t := by
  unfold Blk
  rw [setRow_other w g' g cs' (fun e => hne e)]
  exact h
theorem Has.row {w : World} {b : Nat} {n : Int} {s : ByteArray} (h : Has w b n s) (o : Obj) (cs : Array Value) : Has ((w.alloc o).setRow w.heap.size cs) b n s :=
  h.below (below_setRow ((Below.refl _ _).alloc (Nat.le_refl _) o) (Nat.le_refl _) cs)
theorem Blk.row {w : World} {g : Nat} {cs : Array Value} {t : TypeId} (h : Blk w g cs t) (o : Obj) (cs' : Array Value) : Blk ((w.alloc o).setRow w.heap.size cs') g cs t :=
  h.below (below_setRow ((Below.refl _ _).alloc (Nat.le_refl _) o) (Nat.le_refl _) cs')
theorem Blk.rowNew (w : World) (cs cs' : Array Value) (t : TypeId) : Blk ((w.alloc (.cells cs t)).setRow w.heap.size cs') w.heap.size cs' t := (Blk.new w cs t).set cs'
theorem below_row {w w1 : World} (hb : Below w.heap.size w w1) (o : Obj) (cs : Array Value) : Below w.heap.size w ((w1.alloc o).setRow w1.heap.size cs) := below_setRow (hb.alloc hb.size o) hb.size cs
end Go.Proofs.YtghggelkmhdhfaaGreatDoor
