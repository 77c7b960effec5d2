/-
  The entries of a directory's sector as a list, in plain words.
-/
import Derived.Test.YtdecjmiahjlpjaaEPlain
import Derived.Test.YtdecjmiahjlpjaaEFree
namespace Go.Proofs.Ytdecjmiahjlpjaa

theorem findAt_spec (s nm : ByteArray) : ∀ (m k : Nat), k + m = 4 → (findAt s nm k < 4 ∧ entS s (findAt s nm k) = nm) ∨ (findAt s nm k = 4 ∧ ∀ j, k ≤ j → j < 4 → ¬ entS s j = nm) := by
  intro m
  induction m with
  | zero =>
    intro k hk
    obtain rfl : k = 4 := by omega
    exact .inr ⟨findAt_four s nm, fun j h1 h2 => by omega⟩
  | succ m ih =>
    intro k hk
    by_cases h : entS s k = nm
    · rw [findAt_here (by omega) h]
      exact .inl ⟨by omega, h⟩
    · rw [findAt_step (by omega) h]
      rcases ih (k + 1) (by omega) with h1 | ⟨h1, h2⟩
      · exact .inl h1
      · refine .inr ⟨h1, fun j h3 h4 => ?_⟩
        by_cases hj : j = k
        · rw [hj]; exact h
        · exact h2 j (by omega) h4
theorem freeAt_spec (s : ByteArray) : ∀ (m k : Nat), k + m = 4 → (freeAt s k < 4 ∧ entN s (freeAt s k) = 0) ∨ (freeAt s k = 4 ∧ ∀ j, k ≤ j → j < 4 → ¬ entN s j = 0) := by
  intro m
  induction m with
  | zero =>
    intro k hk
    obtain rfl : k = 4 := by omega
    exact .inr ⟨freeAt_four s, fun j h1 h2 => by omega⟩
  | succ m ih =>
    intro k hk
    by_cases h : entN s k = 0
    · rw [freeAt_here (by omega) h]
      exact .inl ⟨by omega, h⟩
    · rw [freeAt_step (by omega) h]
      rcases ih (k + 1) (by omega) with h1 | ⟨h1, h2⟩
      · exact .inl h1
      · refine .inr ⟨h1, fun j h3 h4 => ?_⟩
        by_cases hj : j = k
        · rw [hj]; exact h
        · exact h2 j (by omega) h4

/-- The entry of a slot, if it has one; all that are there; their names. -/
def opt (s : ByteArray) (j : Nat) : List (Int × ByteArray) := if 0 < entN s j then [(entN s j, entS s j)] else []
def ents (s : ByteArray) : List (Int × ByteArray) := opt s 0 ++ (opt s 1 ++ (opt s 2 ++ opt s 3))
def nmsUpto (s : ByteArray) : Nat → List ByteArray
  | 0 => []
  | k + 1 => nmsUpto s k ++ (if 0 < entN s k then [entS s k] else [])
theorem nmsUpto_four (s : ByteArray) : nmsUpto s 4 = (ents s).map (·.2) := by
  simp only [nmsUpto, ents, opt, List.nil_append, List.map_append, List.append_assoc]
  congr 1
  · split <;> rfl
  congr 1
  · split <;> rfl
  congr 1
  · split <;> rfl
  · split <;> rfl
theorem length_opt (s : ByteArray) (j : Nat) : (opt s j).length ≤ 1 := by
  unfold opt; split <;> simp
theorem length_nms (s : ByteArray) : (nmsUpto s 4).length ≤ 4 := by
  rw [nmsUpto_four, List.length_map]
  unfold ents
  have h0 := length_opt s 0
  have h1 := length_opt s 1
  have h2 := length_opt s 2
  have h3 := length_opt s 3
  simp only [List.length_append]
  omega
theorem mem_opt (s : ByteArray) (j : Nat) (p : Int × ByteArray) : p ∈ opt s j ↔ 0 < entN s j ∧ p = (entN s j, entS s j) := by
  unfold opt
  split
  · rename_i h; simp [h]
  · rename_i h; simp [h]
theorem mem_ents (s : ByteArray) (p : Int × ByteArray) : p ∈ ents s ↔ ∃ j, j < 4 ∧ 0 < entN s j ∧ p = (entN s j, entS s j) := by
  unfold ents
  simp only [List.mem_append, mem_opt]
  constructor
  · rintro (h | h | h | h)
    · exact ⟨0, by omega, h⟩
    · exact ⟨1, by omega, h⟩
    · exact ⟨2, by omega, h⟩
    · exact ⟨3, by omega, h⟩
  · rintro ⟨j, hj, h⟩
    have : j = 0 ∨ j = 1 ∨ j = 2 ∨ j = 3 := by omega
    rcases this with rfl | rfl | rfl | rfl
    · exact .inl h
    · exact .inr (.inl h)
    · exact .inr (.inr (.inl h))
    · exact .inr (.inr (.inr h))
theorem ents_uniq {s nm : ByteArray} {n m : Int} (hd : dirOk s = true) (h1 : (n, nm) ∈ ents s) (h2 : (m, nm) ∈ ents s) : n = m := by
  obtain ⟨hs, hg, hu⟩ := (dirOk_iff s).1 hd
  obtain ⟨i, hi, pi, ei⟩ := (mem_ents _ _).1 h1
  obtain ⟨j, hj, pj, ej⟩ := (mem_ents _ _).1 h2
  simp only [Prod.mk.injEq] at ei ej
  have : i = j := by
    by_cases h : i < j
    · exact absurd ⟨by rw [← ei.2, ← ej.2], pi⟩ (hu i j h hj)
    · by_cases h' : j < i
      · exact absurd ⟨by rw [← ei.2, ← ej.2], pj⟩ (hu j i h' hi)
      · omega
  subst this
  rw [ei.1, ej.1]
theorem ents_ok {s nm : ByteArray} {n : Int} (hd : dirOk s = true) (h : (n, nm) ∈ ents s) : 0 < n ∧ entOk n nm = true ∧ nameB nm = true := by
  obtain ⟨hs, hg, hu⟩ := (dirOk_iff s).1 hd
  obtain ⟨i, hi, pi, ei⟩ := (mem_ents _ _).1 h
  simp only [Prod.mk.injEq] at ei
  have hok := slotGood_ok (hg i hi)
  rw [← ei.1, ← ei.2] at hok
  have hn : 0 < n := by rw [ei.1]; exact pi
  refine ⟨hn, hok, ?_⟩
  have h0 : ¬ n = 0 := by omega
  simp only [entOk, h0, if_false, Bool.and_eq_true] at hok
  exact hok.2.2
theorem find_ents {s nm : ByteArray} (hd : dirOk s = true) (hn : nameB nm = true) :
    (findAt s nm 0 < 4 ∧ 0 < entN s (findAt s nm 0) ∧ entS s (findAt s nm 0) = nm ∧ (entN s (findAt s nm 0), nm) ∈ ents s) ∨ (findAt s nm 0 = 4 ∧ ∀ n, (n, nm) ∉ ents s) := by
  obtain ⟨hs, hg, hu⟩ := (dirOk_iff s).1 hd
  rcases findAt_spec s nm 4 0 (by omega) with ⟨h1, h2⟩ | ⟨h1, h2⟩
  · have hne : ¬ entS s (findAt s nm 0) = ⟨#[]⟩ := by
      rw [h2]
      rintro rfl
      rw [nameB_none] at hn
      exact absurd hn (by simp)
    have hp := good_pos (hg _ h1) hne
    exact .inl ⟨h1, hp, h2, (mem_ents _ _).2 ⟨_, h1, hp, by rw [h2]⟩⟩
  · refine .inr ⟨h1, fun n h => ?_⟩
    obtain ⟨j, hj, _, ej⟩ := (mem_ents _ _).1 h
    simp only [Prod.mk.injEq] at ej
    exact h2 j (by omega) hj ej.2.symm
theorem full_ents {s : ByteArray} (hd : dirOk s = true) (h : freeAt s 0 = 4) : (ents s).length = 4 := by
  obtain ⟨hs, hg, hu⟩ := (dirOk_iff s).1 hd
  rcases freeAt_spec s 4 0 (by omega) with ⟨h1, h2⟩ | ⟨h1, h2⟩
  · omega
  · have hp : ∀ j, j < 4 → opt s j = [(entN s j, entS s j)] := fun j hj => by
      have := h2 j (by omega) hj
      have := entN_range s j
      rw [opt, if_pos (by omega)]
    rw [ents, hp 0 (by omega), hp 1 (by omega), hp 2 (by omega), hp 3 (by omega)]
    rfl
theorem opt_over {s nm : ByteArray} {n : Int} {k : Nat} (hs : s.size = 64) (hk : k < 4) (h : entOk n nm = true) (j : Nat) (hj : j < 4) :
    opt (over s (k * 16) (slotS n nm)) j = if j = k then (if 0 < n then [(n, nm)] else []) else opt s j := by
  obtain ⟨h1, h2, _⟩ := over_tells (s := s) (nm := nm) (n := n) hs hk h j hj
  unfold opt
  rw [h1, h2]
  split <;> rfl
theorem perm_one (a b : List (Int × ByteArray)) (p : Int × ByteArray) : List.Perm (a ++ ([p] ++ b)) (p :: (a ++ b)) := List.perm_middle
theorem ents_swap {s nm : ByteArray} {n : Int} {k : Nat} (hs : s.size = 64) (hk : k < 4) (h : entOk n nm = true) :
    ∃ a b, ents s = a ++ (opt s k ++ b) ∧ ents (over s (k * 16) (slotS n nm)) = a ++ ((if 0 < n then [(n, nm)] else []) ++ b) := by
  have ho := fun j hj => opt_over (s := s) (nm := nm) (n := n) hs hk h j hj
  have : k = 0 ∨ k = 1 ∨ k = 2 ∨ k = 3 := by omega
  unfold ents
  rw [ho 0 (by omega), ho 1 (by omega), ho 2 (by omega), ho 3 (by omega)]
  rcases this with rfl | rfl | rfl | rfl
  · exact ⟨[], opt s 1 ++ (opt s 2 ++ opt s 3), by simp, by simp⟩
  · exact ⟨opt s 0, opt s 2 ++ opt s 3, by simp, by simp⟩
  · exact ⟨opt s 0 ++ opt s 1, opt s 3, by simp, by simp⟩
  · exact ⟨opt s 0 ++ (opt s 1 ++ opt s 2), [], by simp, by simp⟩
theorem ents_put {s nm : ByteArray} {n : Int} {k : Nat} (hs : s.size = 64) (hk : k < 4) (h : entOk n nm = true) (hn : 0 < n) (h0 : entN s k = 0) :
    List.Perm (ents (over s (k * 16) (slotS n nm))) ((n, nm) :: ents s) := by
  obtain ⟨a, b, e1, e2⟩ := ents_swap (nm := nm) (n := n) hs hk h
  have eo : opt s k = [] := by rw [opt, if_neg (by omega)]
  rw [e1, e2, if_pos hn, eo]
  exact perm_one a b _
theorem ents_away {s : ByteArray} {k : Nat} (hs : s.size = 64) (hk : k < 4) (h0 : 0 < entN s k) :
    List.Perm (ents s) ((entN s k, entS s k) :: ents (over s (k * 16) (slotS 0 ⟨#[]⟩))) := by
  obtain ⟨a, b, e1, e2⟩ := ents_swap (nm := ⟨#[]⟩) (n := 0) hs hk entOk_none
  have eo : opt s k = [(entN s k, entS s k)] := by rw [opt, if_pos h0]
  rw [e1, e2, if_neg (by omega), eo]
  exact perm_one a b _
end Go.Proofs.Ytdecjmiahjlpjaa
