/-
  What a list of entries says of a sector's answers, in plain words.
-/
import Derived.Test.YtdecjmiahjlpjaaEAdd
import Derived.Test.YtdecjmiahjlpjaaENames
import Derived.Test.YtdecjmiahjlpjaaEPatch2
namespace Go.Proofs.Ytdecjmiahjlpjaa

theorem blank_slots : ∀ j, j < 4 → slotT blank j = slotS 0 ⟨#[]⟩ := by
  intro j hj
  have : j = 0 ∨ j = 1 ∨ j = 2 ∨ j = 3 := by omega
  rcases this with rfl | rfl | rfl | rfl <;> decide +kernel
theorem dirOk_blank : dirOk blank = true := by
  have ht := fun j hj => slot_tells (s := blank) (nm := ⟨#[]⟩) (n := 0) (k := j) (by simp [blank, size_str]) hj entOk_none (blank_slots j hj)
  refine (dirOk_iff _).2 ⟨by simp [blank, size_str], fun j hj => (ht j hj).2.2, fun i j hi hj => ?_⟩
  rw [(ht i (by omega)).1]
  rintro ⟨_, h⟩
  omega
theorem ents_blank : ents blank = [] := by
  have ht := fun j hj => slot_tells (s := blank) (nm := ⟨#[]⟩) (n := 0) (k := j) (by simp [blank, size_str]) hj entOk_none (blank_slots j hj)
  have ho : ∀ j, j < 4 → opt blank j = [] := fun j hj => by rw [opt, (ht j hj).1, if_neg (by omega)]
  rw [ents, ho 0 (by omega), ho 1 (by omega), ho 2 (by omega), ho 3 (by omega)]
  rfl
theorem length_names_ents {s : ByteArray} {L : List (Int × ByteArray)} (hd : dirOk s = true) (hp : List.Perm L (ents s)) : (namesL s).length = L.length := by
  rw [namesL, if_pos hd, nmsUpto_four, List.length_map, hp.length_eq]
theorem length_ents (s : ByteArray) : (ents s).length ≤ 4 := by
  have h := length_nms s
  rwa [nmsUpto_four, List.length_map] at h

theorem found_all {s nm : ByteArray} {L : List (Int × ByteArray)} {a : Nat} {m : Int} (hd : dirOk s = true) (hp : List.Perm L (ents s)) (ha : L[a]? = some (m, nm)) :
    nameB nm = true ∧ findE s nm = 0 ∧ findN s nm = m ∧ ∃ q : Nat, q < 4 ∧ findI s nm = q ∧
      dirOk (over s (q * 16) (slotS 0 ⟨#[]⟩)) = true ∧ List.Perm (L.take a ++ L.drop (a + 1)) (ents (over s (q * 16) (slotS 0 ⟨#[]⟩))) := by
  have hm : (m, nm) ∈ ents s := hp.mem_iff.1 (List.mem_of_getElem? ha)
  obtain ⟨h1, h2, h3⟩ := ents_ok hd hm
  have h64 := ((dirOk_iff s).1 hd).1
  rcases find_ents hd h3 with ⟨f1, f2, f3, f4⟩ | ⟨_, f2⟩
  · have e := ents_uniq hd hm f4
    refine ⟨h3, by simp [findE, hd, h3, f1], by simp [findN, hd, h3, f1, ← e], findAt s nm 0, f1, by simp [findI, hd, h3, f1], dirOk_over hd f1 entOk_none (fun j _ _ h0 => by omega), ?_⟩
    have hper := ents_away h64 f1 f2
    rw [← e, f3] at hper
    have hl : a < L.length := (List.getElem?_eq_some_iff.1 ha).1
    have hsplit : L = L.take a ++ (m, nm) :: L.drop (a + 1) := by
      have := List.take_append_drop a L
      rw [List.drop_eq_getElem_cons hl, (List.getElem?_eq_some_iff.1 ha).2] at this
      exact this.symm
    have h4 : List.Perm ((m, nm) :: (L.take a ++ L.drop (a + 1))) ((m, nm) :: ents (over s (findAt s nm 0 * 16) (slotS 0 ⟨#[]⟩))) := by
      refine List.Perm.trans ?_ (hp.trans hper)
      conv => rhs; rw [hsplit]
      exact List.perm_middle.symm
    exact h4.cons_inv
  · exact absurd hm (f2 m)
theorem none_all {s nm : ByteArray} {L : List (Int × ByteArray)} (hd : dirOk s = true) (hp : List.Perm L (ents s)) (hn : ∀ (i : Nat) p, L[i]? = some p → ¬ p.2 = nm) : (nameB nm = true → findAt s nm 0 = 4) ∧ ¬ findE s nm = 0 := by
  have hnot : ∀ m, (m, nm) ∉ ents s := fun m hm => by
    obtain ⟨i, hi⟩ := List.mem_iff_getElem?.1 (hp.mem_iff.2 hm)
    exact hn i _ hi rfl
  have h1 : nameB nm = true → findAt s nm 0 = 4 := fun h => by
    rcases find_ents hd h with ⟨_, _, _, f4⟩ | ⟨f1, _⟩
    · exact absurd f4 (hnot _)
    · exact f1
  refine ⟨h1, ?_⟩
  cases hb : nameB nm with
  | true => simp [findE, hd, hb, h1 hb]
  | false => simp [findE, hd, hb]
theorem add_found {s nm : ByteArray} {n : Int} (hf : findE s nm = 0) : (addE s n nm = 70 ∨ addE s n nm = 6) ∧ addP s n nm = .agg #[.int .i64 0, .string ⟨#[]⟩] := by
  cases h : addOk s n nm with
  | true => 
    have e : addE s n nm = 6 := by simp [addE, h, hf]
    exact ⟨.inr e, by simp [addP, e]⟩
  | false =>
    have e : addE s n nm = 70 := by simp [addE, h]
    exact ⟨.inl e, by simp [addP, e]⟩
theorem add_none {s nm : ByteArray} {n : Int} {L : List (Int × ByteArray)} (hd : dirOk s = true) (hp : List.Perm L (ents s)) (hn : ∀ (i : Nat) p, L[i]? = some p → ¬ p.2 = nm) :
    (((addE s n nm = 70) ∨ (addE s n nm = 50 ∧ L.length = 4)) ∧ addP s n nm = .agg #[.int .i64 0, .string ⟨#[]⟩]) ∨
    (addE s n nm = 0 ∧ entOk n nm = true ∧ ∃ f : Nat, f < 4 ∧ addP s n nm = .agg #[.int .i64 ((f * 16 : Nat) : Int), .string (slotS n nm)] ∧ dirOk (over s (f * 16) (slotS n nm)) = true ∧ List.Perm (L ++ [(n, nm)]) (ents (over s (f * 16) (slotS n nm)))) := by
  obtain ⟨h1, h2⟩ := none_all hd hp hn
  have h64 := ((dirOk_iff s).1 hd).1
  cases h : addOk s n nm with
  | false =>
    have e : addE s n nm = 70 := by simp [addE, h]
    exact .inl ⟨.inl e, by simp [addP, e]⟩
  | true =>
    have h' := h
    simp only [addOk, Bool.and_eq_true, Bool.not_eq_true', beq_eq_false_iff_ne, ne_eq] at h'
    obtain ⟨_, hok, hn0⟩ := h'
    have hpos : 0 < n := by have := (entOk_sizes hok).1; omega
    have hnb : nameB nm = true := by
      have hok' := hok
      simp only [entOk, hn0, if_false, Bool.and_eq_true] at hok'
      exact hok'.2.2
    rcases freeAt_spec s 4 0 (by omega) with ⟨g1, g2⟩ | ⟨g1, g2⟩
    · have eF : freeE s = 0 := by simp [freeE, hd, g1]
      have eI : freeI s = (freeAt s 0 : Nat) := by simp [freeI, hd, g1]
      have e : addE s n nm = 0 := by simp [addE, h, h2, eF]
      refine .inr ⟨e, hok, freeAt s 0, g1, by simp [addP, e, eI], ?_, ?_⟩
      · refine dirOk_over hd g1 hok fun j hj hjk _ hs => ?_
        have hgood := ((dirOk_iff s).1 hd).2.1 j hj
        have hne : ¬ entS s j = ⟨#[]⟩ := by
          rw [hs]; rintro rfl
          rw [nameB_none] at hnb
          exact absurd hnb (by simp)
        have hm : (entN s j, nm) ∈ ents s := (mem_ents _ _).2 ⟨j, hj, good_pos hgood hne, by rw [hs]⟩
        obtain ⟨i, hi⟩ := List.mem_iff_getElem?.1 (hp.mem_iff.2 hm)
        exact hn i _ hi rfl
      · have hper := ents_put h64 g1 hok hpos g2
        refine List.Perm.trans ?_ hper.symm
        exact (List.perm_append_comm (l₁ := L) (l₂ := [(n, nm)])).trans (hp.cons _)
    · have eF : freeE s = 50 := by simp [freeE, hd, g1]
      have e : addE s n nm = 50 := by simp [addE, h, h2, eF]
      exact .inl ⟨.inr ⟨e, by rw [hp.length_eq]; exact full_ents hd g1⟩, by simp [addP, e]⟩
end Go.Proofs.Ytdecjmiahjlpjaa
