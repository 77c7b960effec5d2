/-
  An argument opened: an array of two entries, by value.
-/
import Derived.Test.YtdecjmiahjlpjaaOpen
namespace Go.Proofs.Ytdecjmiahjlpjaa
open Go.ChangeShapes Go.WideShapes Go.ChangeAt Go.RowKit Go.Joins

theorem cells_entry2 : Try.prog.cellsOf 23 = 2 := by kernel_rfl
theorem entry_cells {H : Type} {enc : TypeId × Value → H} {w : World} {base : Nat} {spare : Nat → Bool} {held : Bool} {m : Nat} {c0 c1 : Value} {x : DataW H × List MemPlace}
    (h : DataW.trod enc Try.prog w base spare held m 23 [c0, c1] = some x) : ∃ (a : Int) (s : ByteArray), c0 = .int .i64 a ∧ c1 = .string s := by
  obtain ⟨y0, y1, n, _, _, h0, h1⟩ := trod_struct2 Try.underlying23 h
  obtain ⟨a, e0, _, _⟩ := DataW.trod_int Try.underlying3 h0
  obtain ⟨s, e1, _, _⟩ := DataW.trod_string Try.underlying9 h1
  have k0 : Try.prog.cellsOf 3 = 1 := by kernel_rfl
  have k1 : Try.prog.cellsOf 9 = 1 := by kernel_rfl
  simp [k0] at e0
  simp [k1] at e1
  exact ⟨a, s, e0, e1⟩
theorem open_ents2 {H : Type} {enc : TypeId × Value → H} {w : World} {base : Nat} {spare : Nat → Bool} {held : Bool} {r : Reach} {b0 : Nat} {v : Value} {d : DataW H} {p : List MemPlace}
    (hv : Value.okWide Try.prog w r b0 24 v) (h : DataW.Trod enc Try.prog w base spare held 24 v d p) :
    ∃ (a : Int) (s : ByteArray) (b : Int) (t : ByteArray), v = .agg #[.int .i64 a, .string s, .int .i64 b, .string t] := by
  obtain ⟨cs, rfl, hsz⟩ := okWide_array Try.underlying24 hv
  have h4 : Try.prog.cellsOf 24 = 4 := by kernel_rfl
  obtain ⟨c0, c1, c2, c3, rfl⟩ := array4 (hsz.trans h4)
  obtain ⟨fuel, hf⟩ := h
  obtain ⟨xs, m, _, _, _, hl, hi⟩ := DataW.trod_array Try.underlying24 hf
  have h0 := hi 0 (by omega)
  have h1 := hi 1 (by omega)
  rw [cells_entry2, List.getElem?_eq_getElem (by omega)] at h0 h1
  obtain ⟨a, s, rfl, rfl⟩ := entry_cells (c0 := c0) (c1 := c1) h0
  obtain ⟨b, t, rfl, rfl⟩ := entry_cells (c0 := c2) (c1 := c3) h1
  exact ⟨a, s, b, t, rfl⟩
end Go.Proofs.Ytdecjmiahjlpjaa
