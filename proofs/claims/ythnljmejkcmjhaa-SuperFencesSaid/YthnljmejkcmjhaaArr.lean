/-
  '==' on arrays: a law that the kit lacks (it has the one on structs).
-/
import Derived.Test.YthnljmejkcmjhaaKit
namespace Go.Proofs.Ythnljmejkcmjhaa
open Go.RowKit

/-- The elements of two arrays, compared one by one. -/
def eqElems (d : Nat) (e : TypeId) (n : Nat) (xs ys : Array Value) : List Nat → Sem Bool
  | [] => pure true
  | i :: is => do
    let a ← part e xs (i * n)
    let b ← part e ys (i * n)
    let r ← Op.equalIn d e a b
    if (!r) = true then pure false else eqElems d e n xs ys is

section
variable {P : Program}
theorem run_equalIn_array (w : World) (d : Nat) (t e : TypeId) (len n : Nat) (xs ys : Array Value) (ht : P.underlying t = some (.array len e)) (hs : ∀ w, (sizeOf e).run P w = .ok n w) :
    (Op.equalIn (d + 1) t (.agg xs) (.agg ys)).run P w = (eqElems d e n xs ys (List.range len)).run P w := by
  simp only [Op.equalIn, Sem.run_bind, run_underlying ht, Result.andThen_ok, hs]
  rw [Std.Legacy.Range.forIn_eq_forIn_range']
  simp only [Std.Legacy.Range.size, Nat.sub_zero, Nat.add_sub_cancel, Nat.div_one]
  rw [List.range_eq_range']
  generalize List.range' 0 len = is
  clear ht
  induction is generalizing w with
  | nil => simp [eqElems]
  | cons i is ih =>
    simp only [List.forIn_cons, eqElems, Sem.run_bind, Sem.run_ite]
    generalize (part e xs (i * n)).run P w = r1
    cases r1 with
    | ok a w1 =>
      simp only [Result.andThen_ok]
      generalize (part e ys (i * n)).run P w1 = r2
      cases r2 with
      | ok b w2 =>
        simp only [Result.andThen_ok]
        generalize (Op.equalIn d e a b).run P w2 = r3
        cases r3 with
        | ok r w3 =>
          cases r
          · simp only [Result.andThen_ok, Bool.not_false, if_true, Sem.run_pure]
          · simp only [Result.andThen_ok, Bool.not_true, Bool.false_eq_true, if_false, Sem.run_pure]
            exact ih w3
        | halt x w3 => simp [Result.andThen]
      | halt x w2 => simp [Result.andThen]
    | halt x w1 => simp [Result.andThen]

/-- Two arrays of two ints. -/
theorem arr2_run (w : World) (dd : Nat) (t e : TypeId) (a b c d : Int) (ht : P.underlying t = some (.array 2 e)) (hs : ∀ w, (sizeOf e).run P w = .ok 1 w) (he : P.underlying e = some (.int .i64)) :
    (Op.equalIn (dd + 2) t (.agg #[.int .i64 a, .int .i64 b]) (.agg #[.int .i64 c, .int .i64 d])).run P w = .ok (a == c && b == d) w := by
  rw [run_equalIn_array w (dd + 1) t e 2 1 _ _ ht hs]
  have hE := fun x y w => run_equalIn_int (P := P) w dd e .i64 .i64 x y he
  have h0 : ∀ (cs : Array Value) (off : Nat) (v : Value) (w : World), cs[off]? = some v → (part e cs off).run P w = .ok v w := fun cs off v w h => by
    simp [part, isAgg, run_underlying he, h]
  show (eqElems (dd + 1) e 1 _ _ [0, 1]).run P w = _
  simp only [eqElems, Sem.run_bind, h0 #[.int .i64 a, .int .i64 b] 0 (.int .i64 a) _ rfl, h0 #[.int .i64 c, .int .i64 d] 0 (.int .i64 c) _ rfl,
    h0 #[.int .i64 a, .int .i64 b] 1 (.int .i64 b) _ rfl, h0 #[.int .i64 c, .int .i64 d] 1 (.int .i64 d) _ rfl, Result.andThen_ok, hE, Sem.run_ite, Nat.zero_mul, Nat.one_mul, Sem.run_pure]
  by_cases ha : a = c <;> by_cases hb : b = d <;> simp [ha, hb]
end
theorem size_int (w : World) : (sizeOf 3).run Try.prog w = .ok 1 w := by kernel_rfl
theorem pair_eq (a b c d : Int) (w : World) : (Op.equalIn 10000 31 (.agg #[.int .i64 a, .int .i64 b]) (.agg #[.int .i64 c, .int .i64 d])).run Try.prog w = .ok (a == c && b == d) w :=
  arr2_run w 9998 31 3 a b c d Try.underlying31 size_int Try.underlying3
end Go.Proofs.Ythnljmejkcmjhaa
