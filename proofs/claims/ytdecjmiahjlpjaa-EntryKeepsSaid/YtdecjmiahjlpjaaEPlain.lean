/-
  A directory's sector with one slot put anew, in plain words.
-/
import Derived.Test.YtdecjmiahjlpjaaEDec2
namespace Go.Proofs.Ytdecjmiahjlpjaa

/-- Bytes with others written over them from a place on. -/
def overL (l : List UInt8) (o : Nat) (t : List UInt8) : List UInt8 := l.take o ++ t ++ l.drop (o + t.length)
def over (s : ByteArray) (o : Nat) (t : ByteArray) : ByteArray := str (overL s.data.toList o t.data.toList)

theorem length_overL {l t : List UInt8} {o : Nat} (h : o + t.length ≤ l.length) : (overL l o t).length = l.length := by
  simp [overL]; omega
theorem size_over {s t : ByteArray} {o : Nat} (h : o + t.size ≤ s.size) : (over s o t).size = s.size := by
  rw [over, size_str, length_overL (by rw [length_data, length_data]; exact h), length_data]
theorem get_overL {l t : List UInt8} {o : Nat} (h : o + t.length ≤ l.length) (i : Nat) :
    (overL l o t)[i]? = if i < o then l[i]? else if i < o + t.length then t[i - o]? else l[i]? := by
  unfold overL
  have e : (l.take o).length = o := by simp; omega
  rw [List.append_assoc, List.getElem?_append, e]
  split
  · rename_i h1
    rw [List.getElem?_take, if_pos h1]
  · rw [List.getElem?_append]
    by_cases h2 : i < o + t.length
    · rw [if_pos (by omega), if_pos h2]
    · rw [if_neg (by omega), if_neg h2, List.getElem?_drop]
      congr 1; omega
theorem slotT_get (s : ByteArray) (k i : Nat) : (slotT s k).data.toList[i]? = if i < 16 then s.data.toList[k * 16 + i]? else none := by
  unfold slotT
  rw [ByteArray.data_extract, Array.toList_extract, List.extract_eq_take_drop, List.getElem?_take, List.getElem?_drop]
  have e : (k + 1) * 16 - k * 16 = 16 := by omega
  rw [e]
theorem ext_slots {a b : ByteArray} (ha : a.size = 64) (hb : b.size = 64) (h : ∀ j, j < 4 → slotT a j = slotT b j) : a = b := by
  refine bytes_list (List.ext_getElem? fun i => ?_)
  by_cases hi : i < 64
  · have e := slotT_get a (i / 16) (i % 16)
    have f := slotT_get b (i / 16) (i % 16)
    have g : i / 16 * 16 + i % 16 = i := by omega
    rw [if_pos (by omega), g] at e f
    rw [← e, ← f, h _ (by omega)]
  · rw [List.getElem?_eq_none (by rw [length_data]; omega), List.getElem?_eq_none (by rw [length_data]; omega)]
theorem slotT_over {s t : ByteArray} {k j : Nat} (hs : s.size = 64) (ht : t.size = 16) (hk : k < 4) : slotT (over s (k * 16) t) j = if j = k then t else slotT s j := by
  refine bytes_list (List.ext_getElem? fun i => ?_)
  have hl : t.data.toList.length = 16 := by rw [length_data]; exact ht
  have hl2 : s.data.toList.length = 64 := by rw [length_data]; exact hs
  rw [slotT_get]
  have e : (over s (k * 16) t).data.toList = overL s.data.toList (k * 16) t.data.toList := data_str _
  rw [e]
  by_cases hi : i < 16
  · rw [if_pos hi, get_overL (by omega), hl]
    by_cases hjk : j = k
    · subst hjk
      rw [if_neg (by omega), if_pos (by omega), if_pos rfl]
      congr 1; omega
    · rw [if_neg hjk, slotT_get, if_pos hi]
      by_cases hlt : j < k
      · rw [if_pos (by omega)]
      · rw [if_neg (by omega), if_neg (by omega)]
  · rw [if_neg hi]
    split
    · rw [List.getElem?_eq_none (by omega)]
    · rw [slotT_get, if_neg hi]
theorem over_twice {s p q : ByteArray} {k : Nat} (hs : s.size = 64) (hp : p.size = 16) (hq : q.size = 16) (hk : k < 4) : over (over s (k * 16) p) (k * 16) q = over s (k * 16) q := by
  have h1 : (over s (k * 16) p).size = 64 := by rw [size_over (by omega), hs]
  refine ext_slots (by rw [size_over (by omega), h1]) (by rw [size_over (by omega), hs]) fun j _ => ?_
  rw [slotT_over h1 hq hk, slotT_over hs hq hk, slotT_over hs hp hk]
  split <;> rfl

/-- An entry's bytes, one by one. -/
theorem data_slotS (n : Int) (nm : ByteArray) : (slotS n nm).data.toList = UInt8.ofNat (n % 256).toNat :: UInt8.ofNat (n / 256 % 256).toNat :: UInt8.ofNat nm.size :: (nm.data.toList ++ List.replicate (16 - (3 + nm.size)) 0) := by
  rw [slotS, pad16, size_slot_in]
  simp [str, le, List.range_succ]

theorem byte_small {n : Nat} (h : n < 256) : (UInt8.ofNat n).toNat = n := by rw [UInt8.toNat_ofNat']; omega
theorem entOk_sizes {n : Int} {s : ByteArray} (h : entOk n s = true) : 0 ≤ n ∧ n < 65536 ∧ s.size ≤ 13 := by
  unfold entOk at h
  split at h
  · rw [isEmpty_size] at h
    have := of_decide_eq_true h
    omega
  · simp only [Bool.and_eq_true, decide_eq_true_eq, nameB] at h
    omega
/-- What a slot tells that holds an entry's bytes. -/
theorem slot_tells {s nm : ByteArray} {n : Int} {k : Nat} (hs : s.size = 64) (hk : k < 4) (h : entOk n nm = true) (ht : slotT s k = slotS n nm) : entN s k = n ∧ entS s k = nm ∧ slotGood s k = true := by
  obtain ⟨h0, h1, h2⟩ := entOk_sizes h
  have hd := data_slotS n nm
  have b0 : byteAt (slotS n nm) 0 = n % 256 := by
    unfold byteAt; rw [hd]
    simp only [List.getD_cons_zero]
    rw [byte_small (by omega)]; omega
  have b1 : byteAt (slotS n nm) (0 + 1) = n / 256 % 256 := by
    unfold byteAt; rw [hd]
    simp only [List.getD_cons_zero, List.getD_cons_succ]
    rw [byte_small (by omega)]; omega
  have b2 : byteAt (slotS n nm) 2 = nm.size := by
    unfold byteAt; rw [hd]
    simp only [List.getD_cons_zero, List.getD_cons_succ]
    rw [byte_small (by omega)]
  have eN : entN s k = n := by
    rw [← num2_slot s k hs hk, ht]
    unfold num2
    rw [b0, b1]; omega
  have eL : entL s k = nm.size := by
    unfold entL; rw [ht, b2]; omega
  have eS : entS s k = nm := by
    unfold entS
    rw [eL, ht]
    refine bytes_list ?_
    rw [ByteArray.data_extract, Array.toList_extract, List.extract_eq_take_drop, hd]
    have e : 3 + nm.size - 3 = nm.size := by omega
    rw [e]
    simp only [List.drop_succ_cons, List.drop_zero]
    rw [List.take_append_of_le_length (by rw [length_data]; exact Nat.le_refl _), List.take_of_length_le (by rw [length_data]; exact Nat.le_refl _)]
  refine ⟨eN, eS, ?_⟩
  unfold slotGood
  rw [eN, eS, ht, b2, h]
  simp
  omega
/-- A slot's word is the slot's bytes' own. -/
theorem slot_same {a b : ByteArray} {j : Nat} (ha : a.size = 64) (hb : b.size = 64) (hj : j < 4) (h : slotT a j = slotT b j) : entN a j = entN b j ∧ entS a j = entS b j ∧ slotGood a j = slotGood b j := by
  have eN : entN a j = entN b j := by rw [← num2_slot a j ha hj, ← num2_slot b j hb hj, h]
  have eL : entL a j = entL b j := by unfold entL; rw [h]
  have eS : entS a j = entS b j := by unfold entS; rw [eL, h]
  exact ⟨eN, eS, by unfold slotGood; rw [eN, eS, h]⟩

/-- A directory's sector: its slots are good, and no two names are alike. -/
theorem dirOk_iff (s : ByteArray) : dirOk s = true ↔ s.size = 64 ∧ (∀ j, j < 4 → slotGood s j = true) ∧ ∀ i j, i < j → j < 4 → ¬ (entS s i = entS s j ∧ 0 < entN s i) := by
  have hseen : ∀ j, seenUpto s j (entS s j).data.toList = false ↔ ∀ i, i < j → ¬ (entS s i = entS s j ∧ 0 < entN s i) := by
    intro j
    rw [← Bool.not_eq_true]
    unfold seenUpto
    simp only [List.any_eq_true, List.mem_range, Bool.and_eq_true, beq_iff_eq, decide_eq_true_eq]
    constructor
    · rintro h i hi ⟨h1, h2⟩
      exact h ⟨i, hi, by rw [h1], h2⟩
    · rintro h ⟨i, hi, h1, h2⟩
      exact h i hi ⟨bytes_list h1, h2⟩
  have hf : ∀ j, slotFine s j = true ↔ slotGood s j = true ∧ ∀ i, i < j → ¬ (entS s i = entS s j ∧ 0 < entN s i) := by
    intro j
    rw [← hseen j]
    simp [slotFine]
  constructor
  · intro h
    have h' := h
    simp only [dirOk, Bool.and_eq_true, decide_eq_true_eq] at h'
    have hall : ∀ j, j < 4 → slotFine s j = true := by
      intro j hj
      have : j = 0 ∨ j = 1 ∨ j = 2 ∨ j = 3 := by omega
      rcases this with rfl | rfl | rfl | rfl
      · exact h'.2.1
      · exact h'.2.2.1
      · exact h'.2.2.2.1
      · exact h'.2.2.2.2
    exact ⟨h'.1, fun j hj => ((hf j).1 (hall j hj)).1, fun i j hi hj => ((hf j).1 (hall j hj)).2 i hi⟩
  · rintro ⟨h1, h2, h3⟩
    exact dirOk_of h1 fun j hj => (hf j).2 ⟨h2 j hj, fun i hi => h3 i j hi hj⟩

/-- What a sector says behind one slot that was put. -/
theorem over_tells {s nm : ByteArray} {n : Int} {k : Nat} (hs : s.size = 64) (hk : k < 4) (h : entOk n nm = true) (j : Nat) (hj : j < 4) :
    entN (over s (k * 16) (slotS n nm)) j = (if j = k then n else entN s j) ∧ entS (over s (k * 16) (slotS n nm)) j = (if j = k then nm else entS s j) ∧ slotGood (over s (k * 16) (slotS n nm)) j = (if j = k then true else slotGood s j) := by
  have h13 := (entOk_sizes h).2.2
  have h16 : (slotS n nm).size = 16 := size_slotS n nm h13
  have hs2 : (over s (k * 16) (slotS n nm)).size = 64 := by rw [size_over (by omega), hs]
  have ht := slotT_over (j := j) hs h16 hk
  by_cases hjk : j = k
  · subst hjk
    rw [if_pos rfl] at ht
    simp only [if_true]
    exact slot_tells hs2 hj h ht
  · rw [if_neg hjk] at ht
    simp only [if_neg hjk]
    exact slot_same hs2 hs hj ht
theorem size_over64 {s nm : ByteArray} {n : Int} {k : Nat} (hs : s.size = 64) (hk : k < 4) (h : entOk n nm = true) : (over s (k * 16) (slotS n nm)).size = 64 := by
  have h16 : (slotS n nm).size = 16 := size_slotS n nm (entOk_sizes h).2.2
  rw [size_over (by omega), hs]
theorem entOk_none : entOk 0 ⟨#[]⟩ = true := by simp [entOk]
theorem dirOk_over {s nm : ByteArray} {n : Int} {k : Nat} (hd : dirOk s = true) (hk : k < 4) (h : entOk n nm = true) (hf : ∀ j, j < 4 → ¬ j = k → 0 < n → ¬ entS s j = nm) : dirOk (over s (k * 16) (slotS n nm)) = true := by
  obtain ⟨hs, hg, hu⟩ := (dirOk_iff s).1 hd
  have ht := fun j hj => over_tells (s := s) (nm := nm) (n := n) hs hk h j hj
  refine (dirOk_iff _).2 ⟨size_over64 hs hk h, fun j hj => ?_, fun i j hi hj => ?_⟩
  · rw [(ht j hj).2.2]
    split
    · rfl
    · exact hg j hj
  · obtain ⟨a1, a2, _⟩ := ht i (by omega)
    obtain ⟨b1, b2, _⟩ := ht j hj
    rw [a1, a2, b2]
    rintro ⟨c1, c2⟩
    by_cases hik : i = k
    · rw [if_pos hik] at c1 c2
      rw [if_neg (by omega)] at c1
      exact hf j hj (by omega) c2 c1.symm
    · rw [if_neg hik] at c1 c2
      by_cases hjk : j = k
      · rw [if_pos hjk] at c1
        have hne := good_some (hg i (by omega)) c2
        rw [c1] at hne
        by_cases hn : 0 < n
        · exact hf i (by omega) hik hn c1
        · have h0 := (entOk_sizes h).1
          have : n = 0 := by omega
          subst this
          simp only [entOk, if_true] at h
          rw [isEmpty_size] at h
          have h3 := of_decide_eq_true h
          exact hne (bytes_none (by omega))
      · rw [if_neg hjk] at c1
        exact hu i j hi hj ⟨c1, c2⟩
/-- The four entries' cells. -/
theorem outCells_four (s : ByteArray) : outCells s 4 = [.int .i64 (entN s 0), .string (entS s 0), .int .i64 (entN s 1), .string (entS s 1), .int .i64 (entN s 2), .string (entS s 2), .int .i64 (entN s 3), .string (entS s 3)] := by
  simp [outCells, List.range_succ]
theorem outCells_over {s nm : ByteArray} {n : Int} {k : Nat} (hs : s.size = 64) (hk : k < 4) (h : entOk n nm = true) :
    (outCells (over s (k * 16) (slotS n nm)) 4).toArray = ((outCells s 4).toArray.setIfInBounds (k * 2) (.int .i64 n)).setIfInBounds (k * 2 + 1) (.string nm) := by
  have ht := fun j hj => over_tells (s := s) (nm := nm) (n := n) hs hk h j hj
  rw [outCells_four, outCells_four, (ht 0 (by omega)).1, (ht 1 (by omega)).1, (ht 2 (by omega)).1, (ht 3 (by omega)).1, (ht 0 (by omega)).2.1, (ht 1 (by omega)).2.1, (ht 2 (by omega)).2.1, (ht 3 (by omega)).2.1]
  have : k = 0 ∨ k = 1 ∨ k = 2 ∨ k = 3 := by omega
  rcases this with rfl | rfl | rfl | rfl <;> simp
end Go.Proofs.Ytdecjmiahjlpjaa
