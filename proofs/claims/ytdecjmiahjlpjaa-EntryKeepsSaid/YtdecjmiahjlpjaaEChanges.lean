/-
  A slice of changes (an entry and a bool) that came in: its cells.
-/
import Derived.Test.YtdecjmiahjlpjaaEOpen2
import Derived.Deep.SlicePairs
namespace Go.Proofs.Ytdecjmiahjlpjaa
open Go.ChangeShapes Go.WideShapes Go.ChangeAt Go.RowKit Go.Joins

/-- What a walk is told of a slice of changes: the cells of each. -/
def IsChanges (w : World) (ad : Option Addr) (len : Nat) (zn : Nat → Int) (zs : Nat → ByteArray) (zb : Nat → Bool) : Prop :=
  len = 0 ∨ ∃ b off, ad = some ⟨b, off, none⟩ ∧ len ≤ maxLen ∧ b < w.heap.size ∧
    ∀ i, i < len → w.cell? ⟨b, off + i * 3, none⟩ = some (.int .i64 (zn i)) ∧ w.cell? ⟨b, off + i * 3 + 1, none⟩ = some (.string (zs i)) ∧ w.cell? ⟨b, off + i * 3 + 2, none⟩ = some (.bool (zb i))

theorem cells_change3 : Try.prog.cellsOf 56 = 3 := by kernel_rfl
theorem choose_below {α : Type} [Inhabited α] {n : Nat} {p : Nat → α → Prop} (h : ∀ i, i < n → ∃ x, p i x) : ∃ f : Nat → α, ∀ i, i < n → p i (f i) := by
  refine ⟨fun i => if hi : i < n then Classical.choose (h i hi) else default, fun i hi => ?_⟩
  simp only [hi, dif_pos]
  exact Classical.choose_spec (h i hi)

theorem change_cells {H : Type} {enc : TypeId × Value → H} {w : World} {base : Nat} {spare : Nat → Bool} {held : Bool} {m : Nat} {c0 c1 c2 : Value} {x : DataW H × List MemPlace}
    (h : DataW.trod enc Try.prog w base spare held m 56 [c0, c1, c2] = some x) : ∃ (a : Int) (s : ByteArray) (b : Bool), c0 = .int .i64 a ∧ c1 = .string s ∧ c2 = .bool b := by
  obtain ⟨y0, y1, n, _, _, h0, h1⟩ := trod_struct2 Try.underlying56 h
  have k0 : Try.prog.cellsOf 23 = 2 := cells_entry2
  have k1 : Try.prog.cellsOf 4 = 1 := by kernel_rfl
  simp only [k0] at h0
  simp only [k1] at h1
  obtain ⟨a, s, e0, e1⟩ := entry_cells (c0 := c0) (c1 := c1) h0
  obtain ⟨b, e2, _⟩ := DataW.trod_bool Try.underlying4 h1
  simp at e2
  exact ⟨a, s, b, e0, e1, e2⟩

theorem open_changes {H : Type} {enc : TypeId × Value → H} {w : World} {base : Nat} {spare : Nat → Bool} {held : Bool} {ad : Option Addr} {len cap : Nat} {d : DataW H} {p : List MemPlace}
    (h : DataW.Trod enc Try.prog w base spare held 53 (.slice ad len cap) d p) : ∃ zn zs zb, IsChanges w ad len zn zs zb := by
  obtain ⟨fuel, hf⟩ := h
  rcases Go.Deep.open_slice Try.underlying53 hf with ⟨hcs, _⟩ | ⟨a, l, c, m, n, D, Pl, hcs, _, hl, hm, hmm, _, hx⟩
  · simp [Value.cells] at hcs
    exact ⟨fun _ => 0, fun _ => ⟨#[]⟩, fun _ => false, .inl hcs.2.1⟩
  · simp [Value.cells] at hcs
    obtain ⟨rfl, rfl, rfl⟩ := hcs
    by_cases h0 : len = 0
    · exact ⟨fun _ => 0, fun _ => ⟨#[]⟩, fun _ => false, .inl h0⟩
    · have hlm : len ≤ m := by rw [hmm]; split <;> omega
      obtain ⟨b, off, spot⟩ := a
      have hspot : spot = none := by
        obtain ⟨cs', h1, _⟩ := hx 0 (by omega)
        rw [cells_change3] at h1
        obtain ⟨_, hlen, hcell⟩ := World.cells?_some h1
        match cs', hlen with
        | [v0, v1, v2], _ =>
          have e0 := hcell 0 (by omega)
          rw [Go.Deep.add_add] at e0
          simpa [Addr.add] using World.cell?_spot e0
      subst hspot
      have each : ∀ i, i < len → ∃ q : Int × ByteArray × Bool, b < w.heap.size ∧ w.cell? ⟨b, off + i * 3, none⟩ = some (.int .i64 q.1) ∧ w.cell? ⟨b, off + i * 3 + 1, none⟩ = some (.string q.2.1) ∧ w.cell? ⟨b, off + i * 3 + 2, none⟩ = some (.bool q.2.2) := by
        intro i hi
        obtain ⟨cs', h1, h2⟩ := hx i (by omega)
        rw [cells_change3] at h1
        obtain ⟨_, hlen, hcell⟩ := World.cells?_some h1
        match cs', hlen with
        | [v0, v1, v2], _ =>
          obtain ⟨x0, s0, b0, rfl, rfl, rfl⟩ := change_cells h2
          have e0 := hcell 0 (by omega)
          have e1 := hcell 1 (by omega)
          have e2 := hcell 2 (by omega)
          rw [Go.Deep.add_add] at e0 e1 e2
          rw [Addr.add_lit] at e0 e1 e2
          have hb := World.block_lt_of_cell? w _ e0
          exact ⟨(x0, s0, b0), by simpa using hb, by simpa using e0, by simpa [Nat.add_assoc] using e1, by simpa [Nat.add_assoc] using e2⟩
      obtain ⟨q, hq⟩ := choose_below each
      obtain ⟨hb, _⟩ := hq 0 (by omega)
      exact ⟨fun i => (q i).1, fun i => (q i).2.1, fun i => (q i).2.2, .inr ⟨b, off, rfl, by omega, hb, fun i hi => (hq i hi).2⟩⟩
end Go.Proofs.Ytdecjmiahjlpjaa
