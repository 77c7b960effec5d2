/-
  What a directory's sector says, in plain words.
-/
import Derived.Test.YtdecjmiahjlpjaaSlot
import Derived.Test.YtdecjmiahjlpjaaGet
namespace Go.Proofs.Ytdecjmiahjlpjaa

/-- A slot's bytes; its entry's inode, its name's length, its name. -/
def slotT (s : ByteArray) (k : Nat) : ByteArray := s.extract (k * 16) ((k + 1) * 16)
def entN (s : ByteArray) (k : Nat) : Int := num2 s (k * 16)
def entL (s : ByteArray) (k : Nat) : Nat := (byteAt (slotT s k) 2).toNat
def entS (s : ByteArray) (k : Nat) : ByteArray := (slotT s k).extract 3 (3 + entL s k)
def slotGood (s : ByteArray) (k : Nat) : Bool := decide (byteAt (slotT s k) 2 ≤ 13) && (entOk (entN s k) (entS s k) && decide (slotS (entN s k) (entS s k) = slotT s k))
/-- Is a name among the first k slots' ones? -/
def seenUpto (s : ByteArray) (k : Nat) (l : List UInt8) : Bool := (List.range k).any fun j => (entS s j).data.toList == l && decide (0 < entN s j)
def slotFine (s : ByteArray) (k : Nat) : Bool := slotGood s k && !(seenUpto s k (entS s k).data.toList)
/-- Is it a directory's sector? -/
def dirOk (s : ByteArray) : Bool := decide (s.size = 64) && (slotFine s 0 && (slotFine s 1 && (slotFine s 2 && slotFine s 3)))

theorem size_slotT (s : ByteArray) (k : Nat) (hs : s.size = 64) (hk : k < 4) : (slotT s k).size = 16 := by
  unfold slotT
  rw [ByteArray.size_extract, hs]
  omega
theorem entL_le {s : ByteArray} {k : Nat} (h : byteAt (slotT s k) 2 ≤ 13) : entL s k ≤ 13 := by
  unfold entL
  omega
theorem size_entS (s : ByteArray) (k : Nat) (hs : s.size = 64) (hk : k < 4) (h : entL s k ≤ 13) : (entS s k).size = entL s k := by
  unfold entS
  rw [ByteArray.size_extract, size_slotT s k hs hk]
  omega
theorem seenUpto_succ (s : ByteArray) (k : Nat) (h : seenUpto s k (entS s k).data.toList = false) (l : List UInt8) :
    seenUpto s (k + 1) l = if l = (entS s k).data.toList then decide (0 < entN s k) else seenUpto s k l := by
  have e : seenUpto s (k + 1) l = (seenUpto s k l || ((entS s k).data.toList == l && decide (0 < entN s k))) := by
    unfold seenUpto
    rw [List.range_succ, List.any_append]
    simp only [List.any_cons, List.any_nil, Bool.or_false]
  rw [e]
  generalize (entS s k).data.toList = nm at *
  by_cases hl : l = nm
  · subst hl
    rw [h]
    simp
  · have h2 : (nm == l) = false := beq_eq_false_iff_ne.2 fun e => hl e.symm
    rw [h2, if_neg hl]
    simp
theorem dirOk_of {s : ByteArray} (hs : s.size = 64) (h : ∀ j, j < 4 → slotFine s j = true) : dirOk s = true := by
  simp [dirOk, hs, h 0 (by omega), h 1 (by omega), h 2 (by omega), h 3 (by omega)]
theorem dirOk_not {s : ByteArray} {k : Nat} (hk : k < 4) (h : slotFine s k = false) : dirOk s = false := by
  have : k = 0 ∨ k = 1 ∨ k = 2 ∨ k = 3 := by omega
  rcases this with rfl | rfl | rfl | rfl <;> simp [dirOk, h]
theorem entN_range (s : ByteArray) (k : Nat) : 0 ≤ entN s k ∧ entN s k < 65536 := num2_range s _
end Go.Proofs.Ytdecjmiahjlpjaa
