
/-
  A free inode may be: inode.Check, walked at it.
-/
import Derived.Test.YtghggelkmhdhfaaGreatDoorTBlocks
namespace Go.Proofs.YtghggelkmhdhfaaGreatDoor
open Go.RowKit

/-- A guarded load of a whole block. -/
theorem wpList_load_row_g {P : Program} {ops : Array Oper} {rest : List Oper} {o : Oper} {a : Act} {w : World} {Q : Exit → Act → World → Prop} (ty : TypeId) (x : Operand) (ho : o.op = .load ty x)
    (g : Nat) (hx : a.eval x = .pointer (some ⟨g, 0, none⟩)) (t : TypeId) (cs : Array Value) (fr : Nat × Nat) (d : TypeDesc) (hg : w.heap[g]? = some (.cells cs t fr))
    (hu : P.underlying ty = some d) (hd : (match d with | .struct _ | .array _ _ => true | _ => false) = true) (hi : (P.info? ty).map (·.size) = some cs.size) (hw : Region.wanted o (yielded ops a.tmps) = true)
    (h : wpList P ops Q rest (a.put o.dst (.agg cs)) w) : wpList P ops Q (o :: rest) a w :=
  wpList_step fun K hK => by
    rw [if_pos hw]
    exact wp_load_row ty x ho g hx t cs fr d hg hu hd hi (hK _ _ h)
/-- The cells of an inode without blocks, of no bytes. -/
def inoC (kind links par gen : Int) : Array Value := #[.int .i64 kind, .int .i64 links, .int .i64 0, .int .i64 par, .int .i64 gen, .int .i64 0, .int .i64 0, .int .i64 0, .int .i64 0, .int .i64 0, .int .i64 0, .int .i64 0, .int .i64 0, .int .i64 0]
theorem info_ino (kind links par gen : Int) : (Tryz.prog.info? 49).map (·.size) = some (inoC kind links par gen).size := by kernel_rfl
/-- An inode without blocks, of no bytes (its cells lie flat). -/
def inoV (kind links par gen : Int) : Value := .agg #[.int .i64 kind, .int .i64 links, .int .i64 0, .int .i64 par, .int .i64 gen, .int .i64 0, .int .i64 0, .int .i64 0, .int .i64 0, .int .i64 0, .int .i64 0, .int .i64 0, .int .i64 0, .int .i64 0]

theorem eq_free (w : World) : (Op.equalIn 10000 49 (.agg #[.int .i64 0, .int .i64 0, .int .i64 0, .int .i64 0, .int .i64 0, .int .i64 0, .int .i64 0, .int .i64 0, .int .i64 0, .int .i64 0, .int .i64 0, .int .i64 0, .int .i64 0, .int .i64 0]) (.agg #[.int .i64 0, .int .i64 0, .int .i64 0, .int .i64 0, .int .i64 0, .int .i64 0, .int .i64 0, .int .i64 0, .int .i64 0, .int .i64 0, .int .i64 0, .int .i64 0, .int .i64 0, .int .i64 0])).run Tryz.prog w = .ok true w := by kernel_rfl
theorem info_zero : (Tryz.prog.info? 49).map (·.size) = some (#[.int .i64 0, .int .i64 0, .int .i64 0, .int .i64 0, .int .i64 0, .int .i64 0, .int .i64 0, .int .i64 0, .int .i64 0, .int .i64 0, .int .i64 0, .int .i64 0, .int .i64 0, .int .i64 0] : Array Value).size := by kernel_rfl
set_option maxHeartbeats 4000000 in
set_option maxRecDepth 100000 in
theorem icheck_free {A B C : Nat} (G : Geo A B C) (w : World) :
    Calls Tryz.prog 50 #[.agg #[.int .i64 (A : Int), .int .i64 (B : Int), .int .i64 (C : Int)], inoV 0 0 0 0] w fun e w' => e = .returned (.int .i64 0) ∧ Below w.heap.size w w' := by
  have HC := Lib.hid (fun W => check_yes A B C W G.ok)
  unfold inoV
  go_enter Tryz.func50, Tryz.ntmps50
  go_wp2_with fail
  refine (HC.out _).mono ?_
  rintro e w1 ⟨rfl, hb1⟩
  have hz1 := hb1.size
  simp at hz1
  have q : ∀ o, o < 14 → w1.cell? ⟨w.heap.size + 1, o, none⟩ = some (.int .i64 0) := fun o ho => by
    rw [hb1.cell (by simp)]
    have : o = 0 ∨ o = 1 ∨ o = 2 ∨ o = 3 ∨ o = 4 ∨ o = 5 ∨ o = 6 ∨ o = 7 ∨ o = 8 ∨ o = 9 ∨ o = 10 ∨ o = 11 ∨ o = 12 ∨ o = 13 := by omega
    rcases this with rfl | rfl | rfl | rfl | rfl | rfl | rfl | rfl | rfl | rfl | rfl | rfl | rfl | rfl <;> simp [go_sem]
  have q0 := q 0 (by omega)
  have q1 := q 1 (by omega)
  have q2 := q 2 (by omega)
  have q3 := q 3 (by omega)
  have q4 := q 4 (by omega)
  have q5 := q 5 (by omega)
  have q6 := q 6 (by omega)
  have q7 := q 7 (by omega)
  have q8 := q 8 (by omega)
  have q9 := q 9 (by omega)
  have q10 := q 10 (by omega)
  have q11 := q 11 (by omega)
  have q12 := q 12 (by omega)
  have q13 := q 13 (by omega)
  have D1 := Lib.hid (show Blk w1 (w.heap.size + 1) (inoC 0 0 0 0) 49 from by simpa using (Blk.new (w.alloc (.cells #[.int .i64 (A : Int), .int .i64 (B : Int), .int .i64 (C : Int)] 23)) (inoC 0 0 0 0) 49).below hb1)
  have HEQ := eq_free
  have hb1' := Lib.hid (show Below w.heap.size w w1 from by (repeat' (first | exact Below.refl _ _ | assumption | refine Below.setCell ?_ ?_ _ | refine Below.drew ?_ | refine below_drewN ?_ _ | refine Below.alloc ?_ ?_ _ | refine below_of_grown ?_ (by assumption) ?_ | refine Below.trans ?_ (Below.mono (by assumption) ?_) | omega | (simp; done) | (simp; omega))))
  clear hb1 q
  go_wp2_with (refine wpList_load_row_g 49 _ rfl (w.heap.size + 1) rfl 49 #[.int .i64 0, .int .i64 0, .int .i64 0, .int .i64 0, .int .i64 0, .int .i64 0, .int .i64 0, .int .i64 0, .int .i64 0, .int .i64 0, .int .i64 0, .int .i64 0, .int .i64 0, .int .i64 0] (0, 0) _ D1.out Tryz.underlying49 rfl info_zero (by simp [Region.wanted, yielded]) ?_)
  go_ret
  exact ⟨rfl, hb1'.out⟩
end Go.Proofs.YtghggelkmhdhfaaGreatDoor
