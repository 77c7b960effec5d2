/-
  A slice of structs of two ints that came in: its cells.
-/
import Derived.Test.YthnljmejkcmjhaaOpen
import Derived.Deep.SlicePairs
namespace Go.Proofs.Ythnljmejkcmjhaa
open Go.ChangeShapes Go.WideShapes Go.ChangeAt Go.RowKit Go.Joins

/-- What a walk is told of a slice of structs of two ints: the cells of each element. -/
def IsPairs (w : World) (ad : Option Addr) (len : Nat) (zs : Nat → Int × Int) : Prop :=
  len = 0 ∨ ∃ b off, ad = some ⟨b, off, none⟩ ∧ len ≤ maxLen ∧ b < w.heap.size ∧
    ∀ i, i < len → w.cell? ⟨b, off + i * 2, none⟩ = some (.int .i64 (zs i).1) ∧ w.cell? ⟨b, off + i * 2 + 1, none⟩ = some (.int .i64 (zs i).2)

theorem cells_up2 : Try.prog.cellsOf 35 = 2 := by kernel_rfl
theorem cells_int2 : Try.prog.cellsOf 3 = 1 := by kernel_rfl
theorem choose_below {α : Type} [Inhabited α] {n : Nat} {p : Nat → α → Prop} (h : ∀ i, i < n → ∃ x, p i x) : ∃ f : Nat → α, ∀ i, i < n → p i (f i) := by
  refine ⟨fun i => if hi : i < n then Classical.choose (h i hi) else default, fun i hi => ?_⟩
  simp only [hi, dif_pos]
  exact Classical.choose_spec (h i hi)

theorem open_ups {H : Type} {enc : TypeId × Value → H} {w : World} {base : Nat} {spare : Nat → Bool} {held : Bool} {ad : Option Addr} {len cap : Nat} {d : DataW H} {p : List MemPlace}
    (h : DataW.Trod enc Try.prog w base spare held 41 (.slice ad len cap) d p) : ∃ zs, IsPairs w ad len zs := by
  obtain ⟨fuel, hf⟩ := h
  rcases Go.Deep.open_slice_pairs Try.underlying41 Try.underlying35 cells_up2 rfl rfl cells_int2 cells_int2 hf with ⟨hcs, _⟩ | ⟨a, l, c, m, n, V0, V1, D0, D1, P0, P1, hcs, _, hl, hm, hmm, _, hx⟩
  · simp [Value.cells] at hcs
    exact ⟨fun _ => (0, 0), .inl hcs.2.1⟩
  · simp [Value.cells] at hcs
    obtain ⟨rfl, rfl, rfl⟩ := hcs
    by_cases h0 : len = 0
    · exact ⟨fun _ => (0, 0), .inl h0⟩
    · have hlm : len ≤ m := by rw [hmm]; split <;> omega
      obtain ⟨b, off, spot⟩ := a
      have hc := (hx 0 (by omega)).1
      have hspot : spot = none := by simpa [Addr.add] using World.cell?_spot hc
      subst hspot
      have hb : b < w.heap.size := by
        have := World.block_lt_of_cell? w _ hc
        simpa [Addr.add_lit] using this
      obtain ⟨zs, hzs⟩ := choose_below (n := len) (p := fun i (z : Int × Int) => V0 i = .int .i64 z.1 ∧ V1 i = .int .i64 z.2) (fun i hi => by
        obtain ⟨_, _, g0, g1⟩ := hx i (by omega)
        obtain ⟨x, e0, _, _⟩ := DataW.trod_int Try.underlying3 g0
        obtain ⟨y, e1, _, _⟩ := DataW.trod_int Try.underlying3 g1
        simp at e0 e1
        exact ⟨(x, y), e0, e1⟩)
      refine ⟨zs, .inr ⟨b, off, rfl, by omega, hb, fun i hi => ?_⟩⟩
      obtain ⟨c0, c1, _, _⟩ := hx i (by omega)
      rw [Addr.add_lit] at c0 c1
      rw [(hzs i hi).1] at c0
      rw [(hzs i hi).2] at c1
      exact ⟨c0, by rw [Nat.add_assoc]; exact c1⟩
end Go.Proofs.Ythnljmejkcmjhaa
