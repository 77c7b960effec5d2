/-
  A set of texts that a call makes (map[string]bool), asked without 'ok': laws that the kit lacks.
-/
import Derived.Test.YtdecjmiahjlpjaaKit
import Derived.Maps.OwnSet
import Derived.Maps.OwnOps
namespace Go.Proofs.Ytdecjmiahjlpjaa
open Go.RowKit Go.Maps Go.WideMaps

theorem plainElem_bool_inv {H : Type} {P : Program} {e : TypeId} (he : P.underlying e = some .bool) {v : Value} {z : DataW H × List MemPlace} (h : plainElem P e v = some z) : ∃ b, v = .bool b ∧ z = (.lit (.bool b), []) := by
  unfold plainElem at h
  rw [he] at h
  split at h
  · rename_i x _
    exact ⟨x, rfl, by cases h; rfl⟩
  · rename_i h1; cases h1
  · rename_i h1; cases h1
  · cases h

theorem key_law : Keyed Try.prog 9 := string_keyed Try.underlying9
theorem zero_bool (w : World) : (zeroValue 4).run Try.prog w = .ok (.bool false) w := by kernel_rfl

/-- Block b is a map from texts to bools that tells of each text what 'f' does; at most n entries. -/
def SeenMap (w : World) (b n : Nat) (f : List UInt8 → Bool) : Prop :=
  ∃ D : DataW Unit, w.ownsMap Try.prog 9 (plainElem Try.prog 4) b n D ∧ ∀ l, D.atKey (.string l) (.lit (.bool false)) = .lit (.bool (f l))

theorem SeenMap.made (w : World) : SeenMap (w.alloc (.map #[] 0)) w.heap.size 0 (fun _ => false) :=
  ⟨.map [], World.ownsMap_made _ _ _ _, fun _ => rfl⟩
theorem SeenMap.kept {w w' : World} {b n : Nat} {f : List UInt8 → Bool} {row : Option Nat} (h : SeenMap w b n f) (hg : w.grownBy w' row) (hne : some b ≠ row) : SeenMap w' b n f := by
  obtain ⟨D, h1, h2⟩ := h
  exact ⟨D, h1.kept hg hne, h2⟩
theorem grownBy_of_below {w w' : World} (h : Below w.heap.size w w') : w.grownBy w' none := ⟨h.os, h.tape, h.output, h.size, fun k hk _ => h.block k hk⟩
theorem SeenMap.below {w w' : World} {b n : Nat} {f : List UInt8 → Bool} (h : SeenMap w b n f) (hb : Below w.heap.size w w') : SeenMap w' b n f := h.kept (grownBy_of_below hb) (by simp)
theorem SeenMap.alloc {w : World} {b n : Nat} {f : List UInt8 → Bool} (h : SeenMap w b n f) (o : Obj) : SeenMap (w.alloc o) b n f := h.kept (World.grownBy_alloc w o none) (by simp)
theorem SeenMap.setCell {w : World} {b n : Nat} {f : List UInt8 → Bool} (h : SeenMap w b n f) {a : Addr} (ha : b ≠ a.block) (u : Value) : SeenMap (w.setCell a u) b n f := by
  obtain ⟨D, h1, h2⟩ := h
  exact ⟨D, h1.setCell ha u, h2⟩
theorem SeenMap.lt {w : World} {b n : Nat} {f : List UInt8 → Bool} (h : SeenMap w b n f) : b < w.heap.size := by
  obtain ⟨D, h1, _⟩ := h
  exact h1.lt

/-- 'm[k]'. -/
theorem SeenMap.look {w : World} {b n : Nat} {f : List UInt8 → Bool} (h : SeenMap w b n f) {s : ByteArray} (hs : s.size ≤ maxLen) :
    (Instr.lookup 59 (.map (some b)) (.string s) false).run Try.prog w = .ok (.bool (f s.data.toList)) w := by
  obtain ⟨D, h1, h2⟩ := h
  obtain ⟨v, ps, hrun, hv⟩ := h1.lookup key_law Try.underlying59 (zero_bool w) (plainElem_bool Try.underlying4 false) (keyOf_string_mk Try.underlying9 hs)
  obtain ⟨x, rfl, hx⟩ := plainElem_bool_inv Try.underlying4 hv
  simp only [Prod.mk.injEq] at hx
  rw [h2] at hx
  have := hx.1
  simp only [DataW.lit.injEq, Lit.bool.injEq] at this
  rw [hrun, this]

theorem SeenMap.put {w : World} {b n : Nat} {f : List UInt8 → Bool} {D : DataW Unit} (hD : w.ownsMap Try.prog 9 (plainElem Try.prog 4) b n D) (h2 : ∀ l, D.atKey (.string l) (.lit (.bool false)) = .lit (.bool (f l))) (k : List UInt8) (v : Bool) :
    ∀ l, (D.put (.string k) (.lit (.bool v))).atKey (.string l) (.lit (.bool false)) = .lit (.bool (if l = k then v else f l)) := by
  intro l
  by_cases hl : l = k
  · subst hl
    rw [if_pos rfl]
    exact atKey_put_same hD.isMap (by simp [WideAt.IsKeyLit]) _ _
  · rw [if_neg hl, ← h2 l]
    exact atKey_put_other (fun h => hl (by simpa using h)) _ _
end Go.Proofs.Ytdecjmiahjlpjaa
