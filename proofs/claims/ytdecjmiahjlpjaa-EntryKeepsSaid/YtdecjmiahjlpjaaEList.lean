/-
  A list of entries in memory: its cells; a row appended to, in a region that draws its order.
-/
import Derived.Test.YtdecjmiahjlpjaaEnts
import Derived.Deep.RegionLaw
namespace Go.Proofs.Ytdecjmiahjlpjaa
open Go.RowKit

def entCells (L : List (Int × ByteArray)) : List Value := L.flatMap fun p => [.int .i64 p.1, .string p.2]
theorem length_entCells (L : List (Int × ByteArray)) : (entCells L).length = L.length * 2 := by
  induction L with
  | nil => rfl
  | cons p L ih => simp [entCells] at ih ⊢; omega
theorem entCells_append (A B : List (Int × ByteArray)) : entCells (A ++ B) = entCells A ++ entCells B := by simp [entCells]
theorem entCells_get : ∀ (L : List (Int × ByteArray)) (i : Nat) (p : Int × ByteArray), L[i]? = some p → (entCells L)[i * 2]? = some (.int .i64 p.1) ∧ (entCells L)[i * 2 + 1]? = some (.string p.2)
  | [], _, _, h => by simp at h
  | q :: L, 0, p, h => by
    simp at h
    subst h
    simp [entCells]
  | q :: L, i + 1, p, h => by
    have ih := entCells_get L i p (by simpa using h)
    have e : entCells (q :: L) = .int .i64 q.1 :: .string q.2 :: entCells L := rfl
    have e1 : (i + 1) * 2 = i * 2 + 1 + 1 := by omega
    rw [e, e1]
    simpa using ih
theorem entCells_one (L : List (Int × ByteArray)) : ∀ u ∈ entCells L, u.oneCell' = true := by
  intro u hu
  simp only [entCells, List.mem_flatMap] at hu
  obtain ⟨p, _, hp⟩ := hu
  simp at hp
  rcases hp with rfl | rfl <;> rfl
theorem entCells_drop (L : List (Int × ByteArray)) (k j : Nat) : (entCells (L.drop k))[j]? = (entCells L)[k * 2 + j]? := by
  by_cases hk : k ≤ L.length
  · have h : entCells L = entCells (L.take k) ++ entCells (L.drop k) := by rw [← entCells_append, List.take_append_drop]
    have hl : (entCells (L.take k)).length = k * 2 := by rw [length_entCells, List.length_take]; omega
    rw [h, List.getElem?_append_right (by omega), hl]
    congr 1; omega
  · have h1 : L.drop k = [] := List.drop_eq_nil_of_le (by omega)
    rw [h1, List.getElem?_eq_none (l := entCells L) (by rw [length_entCells]; omega)]
    rfl
theorem entCells_take (L : List (Int × ByteArray)) (k j : Nat) (u : Value) (h : (entCells (L.take k))[j]? = some u) : (entCells L)[j]? = some u := by
  have e : entCells L = entCells (L.take k) ++ entCells (L.drop k) := by rw [← entCells_append, List.take_append_drop]
  have hj := (List.getElem?_eq_some_iff.1 h).1
  rw [e, List.getElem?_append_left hj, h]
theorem info_entry : (Try.prog.info? 23).map (fun i => (i.zero, i.size, i.bytes)) = some (some (.agg #[.int .i64 0, .string ⟨#[]⟩]), 2, 24) := by kernel_rfl

/-- A list of entries that the call made. -/
def OwnList (w : World) (base : Nat) (v : Value) (L : List (Int × ByteArray)) : Prop := w.ownsRow base 23 2 v L.length (entCells L)
theorem OwnList.nil (w : World) (base : Nat) : OwnList w base (.slice none 0 0) [] := World.ownsRow_nil w base _ _
theorem OwnList.below {w w' : World} {base : Nat} {v : Value} {L : List (Int × ByteArray)} (h : OwnList w base v L) (hb : Below w.heap.size w w') : OwnList w' base v L := by
  obtain ⟨h1, h2 | ⟨g, cap, cur, hv, hbb, hg, hr⟩⟩ := h
  · exact ⟨h1, .inl h2⟩
  · exact ⟨h1, .inr ⟨g, cap, cur, hv, hbb, (hb.block g (Array.getElem?_eq_some_iff.1 hg).1).trans hg, hr⟩⟩
theorem OwnList.base {w : World} {b b' : Nat} {v : Value} {L : List (Int × ByteArray)} (h : b' ≤ b) (ho : OwnList w b v L) : OwnList w b' v L := by
  obtain ⟨h1, h2 | ⟨g, cap, cur, hv, hb, hr⟩⟩ := ho
  · exact ⟨h1, .inl h2⟩
  · exact ⟨h1, .inr ⟨g, cap, cur, hv, Nat.le_trans h hb, hr⟩⟩
/-- The slice, and the cells of its entries. -/
theorem OwnList.form {w : World} {base : Nat} {v : Value} {L : List (Int × ByteArray)} (h : OwnList w base v L) : ∃ a c, v = .slice a L.length c ∧ L.length ≤ c ∧ c ≤ maxLen ∧ ∀ i p, L[i]? = some p → ∃ g, a = some ⟨g, 0, none⟩ ∧ g < w.heap.size ∧ base ≤ g ∧ w.cell? ⟨g, i * 2, none⟩ = some (.int .i64 p.1) ∧ w.cell? ⟨g, i * 2 + 1, none⟩ = some (.string p.2) := by
  have h' := h
  obtain ⟨h1, ⟨rfl, h0⟩ | ⟨g, cap, cur, rfl, hb, hg, hn, hm, _⟩⟩ := h
  · exact ⟨none, 0, by rw [h0], by omega, by unfold maxLen; omega, fun i p hp => by
      have := (List.getElem?_eq_some_iff.1 hp).1
      omega⟩
  · refine ⟨_, _, rfl, hn, hm, fun i p hp => ⟨g, rfl, (Array.getElem?_eq_some_iff.1 hg).1, hb, ?_, ?_⟩⟩
    · have hc := World.ownsRow.cells h' (g := g) rfl (i * 2) _ (entCells_get L i p hp).1
      rwa [Addr.add_lit, Nat.zero_add] at hc
    · have hc := World.ownsRow.cells h' (g := g) rfl (i * 2 + 1) _ (entCells_get L i p hp).2
      rwa [Addr.add_lit, Nat.zero_add] at hc

/-- append to a row of one's own, as one step of a region that draws. -/
theorem step_append_own {P : Program} {ops : Array Oper} {o : Oper} {a : Act} {w : World} {K : Act → World → Prop} {Q : Exit → Act → World → Prop} {E : Prop} (hgd : o.guard = none) (s x : Operand) (t : TypeId)
    (ho : o.op = .call { callee := .builtin .append, args := #[s, x], argTypes := #[t, t] })
    (base : Nat) (e : TypeId) (i : TypeInfo) (z : Value) (size bytes : Nat) (ht : P.underlying t = some (.slice e)) (hi : P.info? e = some i) (hz : i.zero = some z)
    (hsize : i.size = size) (hby : i.bytes = bytes) (hzs : z.cells.size = size) (hsz : 0 < size)
    (v : Value) (n : Nat) (xs : List Value) (hs : a.eval s = v) (hown : w.ownsRow base e size v n xs)
    (ad : Addr) (m c : Nat) (news : List Value) (hx : a.eval x = .slice (some ad) m c) (hl : news.length = m * size) (hnews : ∀ j u, news[j]? = some u → w.cell? (ad.add j) = some u) (h1 : ∀ u ∈ news, u.oneCell' = true)
    (h63 : n + m ≤ maxLen) (hbytes : (n + m) * bytes ≤ 140737488355328) (hbase : base ≤ w.heap.size)
    (h : ∀ v' w', w'.ownsRow base e size v' (n + m) (xs ++ news) → w.grownBy w' v.ownBlock → (v' = .slice none 0 0 ↔ v = .slice none 0 0 ∧ m = 0) → K (a.put o.dst v') w') :
    if Region.wanted o (yielded ops a.tmps) = true then Oper.wp P o a w K Q else E := by
  have hw : Region.wanted o (yielded ops a.tmps) = true := by simp [Region.wanted, hgd]
  rw [if_pos hw]
  exact wp_append_own w s x t ho base e i z size bytes ht hi hz hsize hby hzs hsz v n xs hs hown ad m c news hx hl hnews h1 h63 hbytes hbase h
end Go.Proofs.Ytdecjmiahjlpjaa
