/-
  '==' on arrays of four entries.
-/
import Derived.Test.YtdecjmiahjlpjaaArrG
import Derived.Test.YtdecjmiahjlpjaaEDec
namespace Go.Proofs.Ytdecjmiahjlpjaa
open Go.RowKit

theorem size_entry (w : World) : (sizeOf 23).run Try.prog w = .ok 2 w := by kernel_rfl
theorem ent_eq (W : World) (d : Nat) (n m : Int) (s t : ByteArray) : (Op.equalIn (d + 2) 23 (.agg #[.int .i64 n, .string s]) (.agg #[.int .i64 m, .string t])).run Try.prog W = .ok (n == m && s.toList == t.toList) W := by
  rw [run_equalIn_agg W (d + 1) 23 _ _ (by kernel_rfl) (by kernel_rfl)]
  have e : (Try.prog.fieldsOf 23).toList = [{ name := "Inode", type := 3, offset := 0, embedded := false, tag := "", pkgPath := "", byteOffset := 0 }, { name := "Name", type := 9, offset := 1, embedded := false, tag := "", pkgPath := "", byteOffset := 8 }] := by kernel_rfl
  rw [e]
  simp only [Op.eqFields]
  have h0 : ∀ (cs : Array Value) (v : Value) (w : World), cs[0]? = some v → (part 3 cs 0).run Try.prog w = .ok v w := fun cs v w h => by
    simp [part, isAgg, run_underlying Try.underlying3, h]
  have h1 : ∀ (cs : Array Value) (v : Value) (w : World), cs[1]? = some v → (part 9 cs 1).run Try.prog w = .ok v w := fun cs v w h => by
    simp [part, isAgg, run_underlying Try.underlying9, h]
  have hi := fun w => run_equalIn_int (P := Try.prog) w d 3 .i64 .i64 n m Try.underlying3
  have hs := fun w => run_equalIn_string (P := Try.prog) w d 9 s t Try.underlying9
  simp only [Sem.run_bind, h0 #[.int .i64 n, .string s] (.int .i64 n) _ rfl, h0 #[.int .i64 m, .string t] (.int .i64 m) _ rfl, h1 #[.int .i64 n, .string s] (.string s) _ rfl, h1 #[.int .i64 m, .string t] (.string t) _ rfl, Result.andThen_ok, hi, hs, Sem.run_ite, Sem.run_pure]
  by_cases hn : n = m <;> cases he : s.toList == t.toList <;> simp [hn]

/-- Four entries' cells. -/
def cells4 (n0 n1 n2 n3 : Int) (s0 s1 s2 s3 : ByteArray) : Array Value := #[.int .i64 n0, .string s0, .int .i64 n1, .string s1, .int .i64 n2, .string s2, .int .i64 n3, .string s3]
def eqE (n m : Int) (s t : ByteArray) : Bool := n == m && s.toList == t.toList
theorem eqE_self (n : Int) (s : ByteArray) : eqE n n s s = true := by simp [eqE]
theorem part_entry (cs : Array Value) (off : Nat) (v : Value) (w : World) (h : .agg (cs.extract off (off + 2)) = v) : (part 23 cs off).run Try.prog w = .ok v w := by
  subst h
  have hz := size_entry w
  have hu : (isAgg 23).run Try.prog w = .ok true w := by kernel_rfl
  simp only [part, Sem.run_bind, hu, Result.andThen_ok, if_true, hz, Sem.run_pure]
theorem dir_eq (W : World) (n0 n1 n2 n3 m0 m1 m2 m3 : Int) (s0 s1 s2 s3 t0 t1 t2 t3 : ByteArray) :
    (Op.equalIn 10000 26 (.agg (cells4 n0 n1 n2 n3 s0 s1 s2 s3)) (.agg (cells4 m0 m1 m2 m3 t0 t1 t2 t3))).run Try.prog W = .ok (eqE n0 m0 s0 t0 && (eqE n1 m1 s1 t1 && (eqE n2 m2 s2 t2 && eqE n3 m3 s3 t3))) W := by
  have hE := fun w n m s t => ent_eq w 9997 n m s t
  rw [run_equalIn_array W 9999 26 23 4 2 _ _ Try.underlying26 size_entry]
  show (eqElems 9999 23 2 _ _ [0, 1, 2, 3]).run Try.prog W = _
  have x0 : ∀ (a b c d : Int) (p q r u : ByteArray) w, (part 23 (cells4 a b c d p q r u) (0 * 2)).run Try.prog w = .ok (.agg #[.int .i64 a, .string p]) w := fun _ _ _ _ _ _ _ _ w => part_entry _ _ _ w rfl
  have x1 : ∀ (a b c d : Int) (p q r u : ByteArray) w, (part 23 (cells4 a b c d p q r u) (1 * 2)).run Try.prog w = .ok (.agg #[.int .i64 b, .string q]) w := fun _ _ _ _ _ _ _ _ w => part_entry _ _ _ w rfl
  have x2 : ∀ (a b c d : Int) (p q r u : ByteArray) w, (part 23 (cells4 a b c d p q r u) (2 * 2)).run Try.prog w = .ok (.agg #[.int .i64 c, .string r]) w := fun _ _ _ _ _ _ _ _ w => part_entry _ _ _ w rfl
  have x3 : ∀ (a b c d : Int) (p q r u : ByteArray) w, (part 23 (cells4 a b c d p q r u) (3 * 2)).run Try.prog w = .ok (.agg #[.int .i64 d, .string u]) w := fun _ _ _ _ _ _ _ _ w => part_entry _ _ _ w rfl
  simp only [eqElems, Sem.run_bind, x0, x1, x2, x3, hE, Result.andThen_ok, Sem.run_ite, Sem.run_pure]
  show _ = Result.ok (eqE n0 m0 s0 t0 && _) W
  unfold eqE
  cases (n0 == m0 && s0.toList == t0.toList) <;> cases (n1 == m1 && s1.toList == t1.toList) <;> cases (n2 == m2 && s2.toList == t2.toList) <;> cases (n3 == m3 && s3.toList == t3.toList) <;> simp
end Go.Proofs.Ytdecjmiahjlpjaa
