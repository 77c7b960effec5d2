/-
  A slice of ints that came in: its cells.
-/
import Derived.Test.YtfhmnkilmhnibaaDoorOpen
import Derived.Deep.Slices
namespace Go.Proofs.YtfhmnkilmhnibaaDoor
open Go.ChangeShapes Go.WideShapes Go.ChangeAt Go.RowKit Go.Joins

/-- What a walk is told of a slice of ints: the cells. -/
def IsInts (w : World) (ad : Option Addr) (len : Nat) (zs : Nat → Int) : Prop :=
  len = 0 ∨ ∃ b off, ad = some ⟨b, off, none⟩ ∧ len ≤ maxLen ∧ b < w.heap.size ∧ ∀ i, i < len → w.cell? ⟨b, off + i, none⟩ = some (.int .i64 (zs i))

theorem cells_int1 : Tryd.prog.cellsOf 3 = 1 := by kernel_rfl
theorem choose_below {α : Type} [Inhabited α] {n : Nat} {p : Nat → α → Prop} (h : ∀ i, i < n → ∃ x, p i x) : ∃ f : Nat → α, ∀ i, i < n → p i (f i) := by
  refine ⟨fun i => if hi : i < n then Classical.choose (h i hi) else default, fun i hi => ?_⟩
  simp only [hi, dif_pos]
  exact Classical.choose_spec (h i hi)

theorem open_ints {H : Type} {enc : TypeId × Value → H} {w : World} {base : Nat} {spare : Nat → Bool} {held : Bool} {ad : Option Addr} {len cap : Nat} {d : DataW H} {p : List MemPlace}
    (h : DataW.Trod enc Tryd.prog w base spare held 23 (.slice ad len cap) d p) : ∃ zs, IsInts w ad len zs := by
  obtain ⟨fuel, hf⟩ := h
  rcases Go.Deep.open_slice1 Tryd.underlying23 cells_int1 hf with ⟨hcs, _⟩ | ⟨a, l, c, m, n, V, D, Pl, hcs, _, hl, hm, hmm, _, hx⟩
  · simp [Value.cells] at hcs
    exact ⟨fun _ => 0, .inl hcs.2.1⟩
  · simp [Value.cells] at hcs
    obtain ⟨rfl, rfl, rfl⟩ := hcs
    by_cases h0 : len = 0
    · exact ⟨fun _ => 0, .inl h0⟩
    · have hlm : len ≤ m := by rw [hmm]; split <;> omega
      obtain ⟨b, off, spot⟩ := a
      have hc := (hx 0 (by omega)).1
      have hspot : spot = none := by simpa [Addr.add] using World.cell?_spot hc
      subst hspot
      have hb : b < w.heap.size := by
        have := World.block_lt_of_cell? w _ hc
        simpa [Addr.add_lit] using this
      obtain ⟨q, hq⟩ := choose_below (n := len) (p := fun i (z : Int) => V i = .int .i64 z) (fun i hi => by
        obtain ⟨_, g0⟩ := hx i (by omega)
        obtain ⟨x, e0, _, _⟩ := DataW.trod_int Tryd.underlying3 g0
        simp at e0
        exact ⟨x, e0⟩)
      refine ⟨q, .inr ⟨b, off, rfl, by omega, hb, fun i hi => ?_⟩⟩
      have h1 := (hx i (by omega)).1
      rw [Addr.add_lit, hq i hi] at h1
      exact h1
end Go.Proofs.YtfhmnkilmhnibaaDoor
