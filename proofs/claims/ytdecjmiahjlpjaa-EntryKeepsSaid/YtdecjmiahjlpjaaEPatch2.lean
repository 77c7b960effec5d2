/-
  Patched by one patch, by two, as the calls build them; Put at a slot, by its outcome; an array's cell stored.
-/
import Derived.Test.YtdecjmiahjlpjaaEPatch
import Derived.Test.YtdecjmiahjlpjaaEPut
import Derived.Test.YtdecjmiahjlpjaaEHas
namespace Go.Proofs.Ytdecjmiahjlpjaa
open Go.RowKit

theorem patched_one (s p : ByteArray) (o : Nat) (W : World) (g : Nat) (hg : g = W.heap.size) (hs : s.size = 64) (hp : o + p.size ≤ 64) (h0 : 0 < p.size) :
    Calls Try.prog 12 #[.string s, .slice (some ⟨g, 0, none⟩) 1 1] (W.alloc (.cells #[.int .i64 (o : Int), .string p] 32)) fun e w' => e = .returned (.tuple #[.string (over s o p), .int .i64 0]) ∧ Below (W.alloc (.cells #[.int .i64 (o : Int), .string p] 32)).heap.size (W.alloc (.cells #[.int .i64 (o : Int), .string p] 32)) w' := by
  subst hg
  refine patched_any s [(o, p)] W.heap.size 0 1 _ hs (by simp) (by simp) (by simp; omega) fun i q hq => ?_
  have hi : i = 0 := by
    have := (List.getElem?_eq_some_iff.1 hq).1
    simp at this; omega
  subst hi
  simp at hq
  subst hq
  constructor <;> simp [go_sem]
theorem patched_two (s p q : ByteArray) (o : Nat) (W : World) (g : Nat) (hg : g = W.heap.size) (hs : s.size = 64) (hp : o + p.size ≤ 64) (h0 : 0 < p.size) (hq : o + q.size ≤ 64) (h1 : 0 < q.size) :
    Calls Try.prog 12 #[.string s, .slice (some ⟨g, 0, none⟩) 2 2] (W.alloc (.cells #[.int .i64 (o : Int), .string p, .int .i64 (o : Int), .string q] 32)) fun e w' => e = .returned (.tuple #[.string (over (over s o p) o q), .int .i64 0]) ∧ Below (W.alloc (.cells #[.int .i64 (o : Int), .string p, .int .i64 (o : Int), .string q] 32)).heap.size (W.alloc (.cells #[.int .i64 (o : Int), .string p, .int .i64 (o : Int), .string q] 32)) w' := by
  subst hg
  refine patched_any s [(o, p), (o, q)] W.heap.size 0 2 _ hs (by simp) (by simp) (by simp; omega) fun i r hr => ?_
  have hi : i = 0 ∨ i = 1 := by
    have := (List.getElem?_eq_some_iff.1 hr).1
    simp at this; omega
  rcases hi with rfl | rfl
  · simp at hr
    subst hr
    constructor <;> simp [go_sem]
  · simp at hr
    subst hr
    constructor <;> simp [go_sem]

theorem put_good {k : Nat} {n : Int} {nm : ByteArray} (hk : k < 4) (h : entOk n nm = true) : putV k n nm = .agg #[.int .i64 ((k * 16 : Nat) : Int), .string (slotS n nm)] ∧ putE k n nm = 0 := by
  have h1 : ¬ (k : Int) < 0 := by omega
  have h2 : ¬ 4 ≤ (k : Int) := by omega
  have h3 : (k : Int) < 4 := by omega
  simp [putV, putE, h, h1, h2, h3]
theorem put_bad {k : Nat} {n : Int} {nm : ByteArray} (hk : k < 4) (h : entOk n nm = false) : putE k n nm = 70 := by
  have h1 : ¬ (k : Int) < 0 := by omega
  have h2 : ¬ 4 ≤ (k : Int) := by omega
  simp [putE, h, h1, h2]
theorem put_told {k : Nat} {n : Int} {nm : ByteArray} (hk : k < 4) (h : putE k n nm = 0) : entOk n nm = true := by
  cases he : entOk n nm with
  | true => rfl
  | false => rw [put_bad hk he] at h; omega
theorem dirE_told {s : ByteArray} (h : dirE s = 0) : dirOk s = true := by
  unfold dirE at h
  split at h
  · assumption
  · omega
theorem Blk.cell {w : World} {g : Nat} {cs : Array Value} {t : TypeId} (h : Blk w g cs t) (i : Nat) : w.cell? ⟨g, i, none⟩ = cs[i]? := Joins.cell_of_block h i
theorem Blk.free {w : World} {g : Nat} {cs : Array Value} {t : TypeId} (h : Blk w g cs t) (i : Nat) : w.frozen? ⟨g, i, none⟩ = false := by
  unfold Blk at h
  simp [World.frozen?, h]
theorem Blk.setCell {w : World} {g : Nat} {cs : Array Value} {t : TypeId} (h : Blk w g cs t) (i : Nat) (v : Value) : Blk (w.setCell ⟨g, i, none⟩ v) g (cs.setIfInBounds i v) t := by
  rw [setCell_eq_setRow w g i cs t (0, 0) v h]
  exact h.set _
theorem Blk.setOther {w : World} {g g' : Nat} {cs : Array Value} {t : TypeId} (h : Blk w g cs t) (hne : ¬ g = g') (i : Nat) (v : Value) : Blk (w.setCell ⟨g', i, none⟩ v) g cs t := by
  unfold Blk
  rw [Below.heap_setCell _ _ _ _ (fun e => hne (by simpa using e))]
  exact h
end Go.Proofs.Ytdecjmiahjlpjaa
