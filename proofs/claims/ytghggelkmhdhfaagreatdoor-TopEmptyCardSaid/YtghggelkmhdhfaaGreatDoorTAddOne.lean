
/-
  A first change is added: (*deps.Deps).Add at no changes, walked.
-/
import Derived.Test.YtghggelkmhdhfaaGreatDoorTLaidOn
import Derived.Test.YtghggelkmhdhfaaGreatDoorTSide
import Derived.Test.YtghggelkmhdhfaaGreatDoorTPatch
namespace Go.Proofs.YtghggelkmhdhfaaGreatDoor
open Go.RowKit

/-- All but block p is as it was. -/
def But (p : Nat) (w w' : World) : Prop := Below p w w' ∧ w.heap.size ≤ w'.heap.size ∧ ∀ g, g < w.heap.size → ¬ g = p → w'.heap[g]? = w.heap[g]?
theorem But.of_below {p : Nat} {w w' : World} (hb : Below w.heap.size w w') (hp : p ≤ w.heap.size) : But p w w' := ⟨hb.mono hp, hb.size, fun g hg _ => hb.block g hg⟩
theorem But.trans {p : Nat} {w w1 w2 : World} (h : But p w w1) (h2 : But p w1 w2) : But p w w2 := ⟨h.1.trans h2.1, Nat.le_trans h.2.1 h2.2.1, fun g hg hne => (h2.2.2 g (Nat.lt_of_lt_of_le hg h.2.1) hne).trans (h.2.2 g hg hne)⟩
theorem But.below {p : Nat} {w w1 w2 : World} (h : But p w w1) (hb : Below w1.heap.size w1 w2) (hp : p ≤ w.heap.size) : But p w w2 := h.trans (But.of_below hb (Nat.le_trans hp h.2.1))
theorem But.set {p : Nat} {w w1 : World} (h : But p w w1) (i : Nat) (v : Value) : But p w (w1.setCell ⟨p, i, none⟩ v) :=
  ⟨h.1.setCell (Nat.le_refl _) _, by simpa using h.2.1, fun g hg hne => (Below.heap_setCell w1 ⟨p, i, none⟩ v g (fun e => hne (by simpa using e))).trans (h.2.2 g hg hne)⟩
theorem But.cell {p : Nat} {w w' : World} (h : But p w w') {b o : Nat} {v : Value} (hne : ¬ b = p) (hc : w.cell? ⟨b, o, none⟩ = some v) : w'.cell? ⟨b, o, none⟩ = some v := by
  have hl := World.block_lt_of_cell? w ⟨b, o, none⟩ hc
  have h1 := h.2.2 b hl hne
  simp only [World.cell?, h1] at hc ⊢
  exact hc
theorem But.box {p : Nat} {w w' : World} (h : But p w w') {b A B C : Nat} (hne : ¬ b = p) (hx : Box w b A B C) : Box w' b A B C := ⟨h.cell hne hx.1, h.cell hne hx.2.1, h.cell hne hx.2.2⟩
theorem But.blk {p : Nat} {w w' : World} (h : But p w w') {b : Nat} {cs : Array Value} {t : TypeId} (hne : ¬ b = p) (hx : Blk w b cs t) : Blk w' b cs t := (h.2.2 b hx.lt hne).trans hx

theorem cells_new (w : World) (xs : List Value) (e : TypeId) : ∀ j u, xs[j]? = some u → (w.alloc (.cells xs.toArray e)).cell? ((⟨w.heap.size, 0, none⟩ : Addr).add j) = some u := fun j u hj => by
  rw [Addr.add_lit, (Blk.new w xs.toArray e).cell, Nat.zero_add, List.getElem?_toArray]
  exact hj
theorem info_change : (Tryz.prog.info? 172).map (fun i => (i.zero, i.size, i.bytes)) = some (some (.agg #[.int .i64 0, .int .i64 0, .int .i64 0, .string ⟨#[]⟩, .slice none 0 0, .int .i64 0]), 6, 72) := by kernel_rfl
/-- The append of Add, as one step of its region. -/
theorem chg_append {q : Bool} {o : Oper} {a : Act} {W : World} {K : Act → World → Prop} {Q : Exit → Act → World → Prop} {E : Prop} {n at_ off st : Int} {t : ByteArray} (hq : q = true)
    (ho : o.op = .call { callee := .builtin .append, args := #[.tmp 77, .tmp 86], argTypes := #[141, 141] }) (hs : a.eval (.tmp 77) = .slice none 0 0) (hx : a.eval (.tmp 86) = .slice (some ⟨W.heap.size, 0, none⟩) 1 1)
    (hK : ∀ g c w9, Below W.heap.size W w9 → K (a.put o.dst (.slice (some ⟨g, 0, none⟩) 1 c)) w9) :
    if q = true then Oper.wp Tryz.prog o a (W.alloc (.cells #[.int .i64 n, .int .i64 at_, .int .i64 off, .string t, .slice none 0 0, .int .i64 st] 172)) K Q else E := by
  obtain ⟨i0, hi, hz0, hz1, hz2⟩ := info_parts info_change
  rw [if_pos hq]
  refine wp_append_own _ (.tmp 77) (.tmp 86) 141 ho (W.heap.size + 1) 172 i0 _ 6 72 Tryz.underlying141 hi hz0 hz1 hz2 rfl (by decide) (.slice none 0 0) 0 [] hs (World.ownsRow_nil _ _ _ _) ⟨W.heap.size, 0, none⟩ 1 1 [.int .i64 n, .int .i64 at_, .int .i64 off, .string t, .slice none 0 0, .int .i64 st] hx rfl (cells_new _ _ _) (by simp [Value.oneCell']) (by unfold maxLen; omega) (by omega) (by simp) ?_
  intro v5 w5 hown hgrow _
  obtain ⟨g, c, rfl⟩ : ∃ g c, v5 = .slice (some ⟨g, 0, none⟩) 1 c := by
    obtain ⟨_, ⟨_, h0⟩ | ⟨g, cap, cur, hv, _⟩⟩ := hown
    · omega
    · exact ⟨g, cap, hv⟩
  exact hK g c w5 (((Below.refl _ _).alloc (Nat.le_refl _) _).grown hgrow (by simp) (fun k hk => by cases hk))

/-- What Add's last region keeps, behind what changes nothing that is there. -/
theorem add_step {w W w' : World} {p off : Nat} {t : ByteArray} (hp : p ≤ w.heap.size) (hb : Below W.heap.size W w') (h : W.cell? ⟨w.heap.size, 0, none⟩ = some (.pointer (some ⟨p, 0, none⟩)) ∧ W.cell? ⟨p, 1, none⟩ = some (.int .i64 1) ∧ W.cell? ⟨w.heap.size + 1, 0, none⟩ = some (.int .i64 (off : Int)) ∧ W.cell? ⟨w.heap.size + 1, 1, none⟩ = some (.string t) ∧ But p w W) : w'.cell? ⟨w.heap.size, 0, none⟩ = some (.pointer (some ⟨p, 0, none⟩)) ∧ w'.cell? ⟨p, 1, none⟩ = some (.int .i64 1) ∧ w'.cell? ⟨w.heap.size + 1, 0, none⟩ = some (.int .i64 (off : Int)) ∧ w'.cell? ⟨w.heap.size + 1, 1, none⟩ = some (.string t) ∧ But p w w' := by
  obtain ⟨h0, h1, h2, h3, h4⟩ := h
  have e : ∀ q v, W.cell? q = some v → w'.cell? q = some v := fun q v h => by rw [hb.cell (World.block_lt_of_cell? _ _ h)]; exact h
  exact ⟨e _ _ h0, e _ _ h1, e _ _ h2, e _ _ h3, h4.below hb hp⟩
theorem add_set {w W : World} {p off : Nat} {t : ByteArray} {v : Value} (hp : p < w.heap.size) (h : W.cell? ⟨w.heap.size, 0, none⟩ = some (.pointer (some ⟨p, 0, none⟩)) ∧ W.cell? ⟨p, 1, none⟩ = some (.int .i64 1) ∧ W.cell? ⟨w.heap.size + 1, 0, none⟩ = some (.int .i64 (off : Int)) ∧ W.cell? ⟨w.heap.size + 1, 1, none⟩ = some (.string t) ∧ But p w W) : (W.setCell ⟨p, 0, none⟩ v).cell? ⟨w.heap.size, 0, none⟩ = some (.pointer (some ⟨p, 0, none⟩)) ∧ (W.setCell ⟨p, 0, none⟩ v).cell? ⟨p, 1, none⟩ = some (.int .i64 1) ∧ (W.setCell ⟨p, 0, none⟩ v).cell? ⟨w.heap.size + 1, 0, none⟩ = some (.int .i64 (off : Int)) ∧ (W.setCell ⟨p, 0, none⟩ v).cell? ⟨w.heap.size + 1, 1, none⟩ = some (.string t) ∧ But p w (W.setCell ⟨p, 0, none⟩ v) := by
  obtain ⟨h0, h1, h2, h3, h4⟩ := h
  have e : ∀ b o v', ¬ b = p ∨ ¬ o = 0 → W.cell? ⟨b, o, none⟩ = some v' → (W.setCell ⟨p, 0, none⟩ v).cell? ⟨b, o, none⟩ = some v' := fun b o v' hne hc => by
    rw [World.cell?_setCell_other _ _ _ _ (fun e => by cases e; rcases hne with h | h <;> exact h rfl)]; exact hc
  exact ⟨e _ _ _ (.inl (by omega)) h0, e _ _ _ (.inr (by omega)) h1, e _ _ _ (.inl (by omega)) h2, e _ _ _ (.inl (by omega)) h3, h4.set 0 v⟩

set_option maxHeartbeats 4000000 in
set_option maxRecDepth 100000 in
theorem add_none (p k off : Nat) (t : ByteArray) (w : World) (hk : k < 2048) (ht : insideB off t.size = true) (h0 : w.cell? ⟨p, 0, none⟩ = some (.slice none 0 0)) (h1 : w.cell? ⟨p, 1, none⟩ = some (.int .i64 0)) (hf : ∀ o, w.frozen? ⟨p, o, none⟩ = false) :
    Calls Tryz.prog 103 #[.pointer (some ⟨p, 0, none⟩), .int .i64 (k : Int), .agg #[.int .i64 (off : Int), .string t], .slice none 0 0] w fun e w' => e = .returned (.tuple #[.int .i64 1, .int .i64 0]) ∧ But p w w' := by
  have HCK := Lib.hid (fun W => fcheck_yes (off : Int) t W ht)
  have HCF := Lib.hid (fun f W => containsfunc_none f W)
  have hpl := World.block_lt_of_cell? w _ h0
  have lk : (k : Int) < 2048 := by omega
  have lk0 : (0 : Int) ≤ k := by omega
  have lk1 : decide ((2048 : Int) ≤ k) = false := decide_eq_false (by omega)
  have lk2 : decide ((k : Int) < 0) = false := decide_eq_false (by omega)
  have lk3 : ¬ 2048 ≤ k := by omega
  clear ht
  go_enter Tryz.func103, Tryz.ntmps103
  go_wp2_with fail
  refine (HCK.out _).mono ?_
  rintro e w1 ⟨rfl, hb1⟩
  have c4 : w1.cell? ⟨w.heap.size, 0, none⟩ = some (.pointer (some ⟨p, 0, none⟩)) := by rw [hb1.cell (by simp <;> omega)]; simp [go_sem]
  have c6 : w1.cell? ⟨w.heap.size + 1, 0, none⟩ = some (.int .i64 (off : Int)) := by rw [hb1.cell (by simp <;> omega)]; simp [go_sem]
  have c7 : w1.cell? ⟨w.heap.size + 1, 1, none⟩ = some (.string t) := by rw [hb1.cell (by simp <;> omega)]; simp [go_sem]
  have hB1 : Below w.heap.size w w1 := by (repeat' (first | exact Below.refl _ _ | assumption | refine Below.setCell ?_ ?_ _ | refine Below.drew ?_ | refine below_drewN ?_ _ | refine Below.alloc ?_ ?_ _ | refine below_of_grown ?_ (by assumption) ?_ | refine Below.trans ?_ (Below.mono (by assumption) ?_) | omega | (simp; done) | (simp; omega)))
  have p0 : w1.cell? ⟨p, 0, none⟩ = some (.slice none 0 0) := by rw [hB1.cell (by simpa using hpl)]; exact h0
  have p1 : w1.cell? ⟨p, 1, none⟩ = some (.int .i64 0) := by rw [hB1.cell (by simpa using hpl)]; exact h1
  have pf : ∀ o, w1.frozen? ⟨p, o, none⟩ = false := fun o => by rw [hB1.frozen (by simpa using hpl)]; exact hf o
  have HB1 := Lib.hid (But.of_below hB1 (Nat.le_of_lt hpl))
  have hCL := Lib.hid (fun n c W => Tryz.slices_Clone_nil n c W)
  clear hb1 hB1
  go_wp2_with fail
  refine (HCF.out _ _).mono ?_
  rintro e w2 ⟨rfl, rfl⟩
  go_wp2_with fail
  refine (hCL.out _ _ _).mono ?_
  rintro e w2 ⟨rfl, rfl⟩
  go_wp2_with fail
  refine wp_loop_rounds 1 ?_
  rw [rounds_succ]
  go_wp2_with fail
  have hSx : (w2.setCell ⟨p, 1, none⟩ (.int .i64 1)).cell? ⟨w.heap.size, 0, none⟩ = some (.pointer (some ⟨p, 0, none⟩)) ∧ (w2.setCell ⟨p, 1, none⟩ (.int .i64 1)).cell? ⟨p, 1, none⟩ = some (.int .i64 1) ∧ (w2.setCell ⟨p, 1, none⟩ (.int .i64 1)).cell? ⟨w.heap.size + 1, 0, none⟩ = some (.int .i64 (off : Int)) ∧ (w2.setCell ⟨p, 1, none⟩ (.int .i64 1)).cell? ⟨w.heap.size + 1, 1, none⟩ = some (.string t) ∧ But p w (w2.setCell ⟨p, 1, none⟩ (.int .i64 1)) := by
    have e : ∀ b o v', ¬ b = p → w2.cell? ⟨b, o, none⟩ = some v' → (w2.setCell ⟨p, 1, none⟩ (.int .i64 1)).cell? ⟨b, o, none⟩ = some v' := fun b o v' hne hc => by
      rw [World.cell?_setCell_other _ _ _ _ (fun e => by cases e; exact hne rfl)]; exact hc
    exact ⟨e _ _ _ (by omega) c4, World.cell?_setCell_same _ _ _ p1, e _ _ _ (by omega) c6, e _ _ _ (by omega) c7, HB1.out.set 1 _⟩
  have z0 : (w2.setCell ⟨p, 1, none⟩ (.int .i64 1)).cell? ⟨p, 0, none⟩ = some (.slice none 0 0) := by
    rw [World.cell?_setCell_other _ _ _ _ (fun e => by cases e)]; exact p0
  have zf : (w2.setCell ⟨p, 1, none⟩ (.int .i64 1)).frozen? ⟨p, 0, none⟩ = false := by rw [World.frozen?_setCell]; exact pf 0
  have hpl2 : p < (w2.setCell ⟨p, 1, none⟩ (.int .i64 1)).heap.size := World.block_lt_of_cell? _ ⟨p, 0, none⟩ z0
  have HPL := Lib.hid hpl
  generalize w2.setCell ⟨p, 1, none⟩ (.int .i64 1) = w3 at *
  clear c4 c6 c7 p0 p1 pf HB1 h0 h1 hf
  refine wp_region_noPanic ?_
  refine wp_region_held_drew (S := fun w' => w'.cell? ⟨w.heap.size, 0, none⟩ = some (.pointer (some ⟨p, 0, none⟩)) ∧ w'.cell? ⟨p, 1, none⟩ = some (.int .i64 1) ∧ w'.cell? ⟨w.heap.size + 1, 0, none⟩ = some (.int .i64 (off : Int)) ∧ w'.cell? ⟨w.heap.size + 1, 1, none⟩ = some (.string t) ∧ But p w w') (by kernel_rfl) (add_step (Nat.le_of_lt hpl) (Below.refl _ w3).drew hSx) (fun hHeld => ?_)
  have y0 : w3.drew.cell? ⟨p, 0, none⟩ = some (.slice none 0 0) := z0
  have yf : w3.drew.frozen? ⟨p, 0, none⟩ = false := zf
  have hpl3 : p < w3.drew.heap.size := hpl2
  clear hSx z0 zf hpl2
  generalize w3.drew = w5 at hHeld y0 yf hpl3 ⊢
  refine wpAnyH_take (i := 0) (oi := _) (v := ?_) (by simp only [List.getElem?_toArray, List.getElem?_cons_zero]; rfl) (by kernel_rfl) (by kernel_rfl) (by kernel_rfl) (fun _ _ _ h => h) (Or.inl ⟨by rfl, ?_⟩) (by assumption) ?_
  rotate_left
  · intro w hSw
    (try dsimp only at hSw)
    go_simp
    try with_reducible rfl
  (try simp only [Act.put])
  (try simp only [List.setIfInBounds_toArray])
  (try simp only [List.set])
  refine wpAnyH_take (i := 1) (oi := _) (v := ?_) (by simp only [List.getElem?_toArray, List.getElem?_cons_zero, List.getElem?_cons_succ]; rfl) (by kernel_rfl) (by kernel_rfl) (by kernel_rfl) (fun _ _ _ h => h) (Or.inl ⟨by rfl, ?_⟩) (by assumption) ?_
  rotate_left
  · intro w hSw
    (try dsimp only at hSw)
    go_simp
    try with_reducible rfl
  (try simp only [Act.put])
  (try simp only [List.setIfInBounds_toArray])
  (try simp only [List.set])
  refine wpAnyH_take (i := 2) (oi := _) (v := ?_) (by simp only [List.getElem?_toArray, List.getElem?_cons_zero, List.getElem?_cons_succ]; rfl) (by kernel_rfl) (by kernel_rfl) (by kernel_rfl) (fun _ _ _ h => h) (Or.inl ⟨by rfl, ?_⟩) (by assumption) ?_
  rotate_left
  · intro w hSw
    (try dsimp only at hSw)
    go_simp
    try with_reducible rfl
  (try simp only [Act.put])
  (try simp only [List.setIfInBounds_toArray])
  (try simp only [List.set])
  refine wpAnyH_take (i := 3) (oi := _) (v := ?_) (by simp only [List.getElem?_toArray, List.getElem?_cons_zero, List.getElem?_cons_succ]; rfl) (by kernel_rfl) (by kernel_rfl) (by kernel_rfl) (fun _ _ _ h => h) (Or.inl ⟨by rfl, ?_⟩) (by assumption) ?_
  rotate_left
  · intro w hSw
    (try dsimp only at hSw)
    go_simp
    try with_reducible rfl
  (try simp only [Act.put])
  (try simp only [List.setIfInBounds_toArray])
  (try simp only [List.set])
  refine wpAnyH_take (i := 5) (oi := _) (v := ?_) (by simp only [List.getElem?_toArray, List.getElem?_cons_zero, List.getElem?_cons_succ]; rfl) (by kernel_rfl) (by kernel_rfl) (by kernel_rfl) (fun _ _ _ h => h) (Or.inl ⟨by rfl, ?_⟩) (by assumption) ?_
  rotate_left
  · intro w hSw
    (try dsimp only at hSw)
    go_simp
    try with_reducible rfl
  (try simp only [Act.put])
  (try simp only [List.setIfInBounds_toArray])
  (try simp only [List.set])
  refine wpAnyH_take (i := 6) (oi := _) (v := ?_) (by simp only [List.getElem?_toArray, List.getElem?_cons_zero, List.getElem?_cons_succ]; rfl) (by kernel_rfl) (by kernel_rfl) (by kernel_rfl) (fun _ _ _ h => h) (Or.inl ⟨by rfl, ?_⟩) (by assumption) ?_
  rotate_left
  · intro w hSw
    (try dsimp only at hSw)
    go_simp
    try with_reducible rfl
  (try simp only [Act.put])
  (try simp only [List.setIfInBounds_toArray])
  (try simp only [List.set])
  refine wpAnyH_take (i := 7) (oi := _) (v := ?_) (by simp only [List.getElem?_toArray, List.getElem?_cons_zero, List.getElem?_cons_succ]; rfl) (by kernel_rfl) (by kernel_rfl) (by kernel_rfl) (fun _ _ _ h => h) (Or.inl ⟨by rfl, ?_⟩) (by assumption) ?_
  rotate_left
  · intro w hSw
    (try dsimp only at hSw)
    go_simp
    try with_reducible rfl
  (try simp only [Act.put])
  (try simp only [List.setIfInBounds_toArray])
  (try simp only [List.set])
  refine wpAnyH_take (i := 8) (oi := _) (v := ?_) (by simp only [List.getElem?_toArray, List.getElem?_cons_zero, List.getElem?_cons_succ]; rfl) (by kernel_rfl) (by kernel_rfl) (by kernel_rfl) (fun _ _ _ h => h) (Or.inl ⟨by rfl, ?_⟩) (by assumption) ?_
  rotate_left
  · intro w hSw
    (try dsimp only at hSw)
    go_simp
    try with_reducible rfl
  (try simp only [Act.put])
  (try simp only [List.setIfInBounds_toArray])
  (try simp only [List.set])
  refine wpAnyH_take (i := 9) (oi := _) (v := ?_) (by simp only [List.getElem?_toArray, List.getElem?_cons_zero, List.getElem?_cons_succ]; rfl) (by kernel_rfl) (by kernel_rfl) (by kernel_rfl) (fun _ _ _ h => h) (Or.inl ⟨by rfl, ?_⟩) (by assumption) ?_
  rotate_left
  · intro w hSw
    (try dsimp only at hSw)
    go_simp
    try with_reducible rfl
  (try simp only [Act.put])
  (try simp only [List.setIfInBounds_toArray])
  (try simp only [List.set])
  refine wpAnyH_take (i := 10) (oi := _) (v := ?_) (by simp only [List.getElem?_toArray, List.getElem?_cons_zero, List.getElem?_cons_succ]; rfl) (by kernel_rfl) (by kernel_rfl) (by kernel_rfl) (fun _ _ _ h => h) (Or.inl ⟨by rfl, ?_⟩) (by assumption) ?_
  rotate_left
  · intro w hSw
    (try dsimp only at hSw)
    go_simp
    try with_reducible rfl
  (try simp only [Act.put])
  (try simp only [List.setIfInBounds_toArray])
  (try simp only [List.set])
  refine wpAnyH_take (i := 11) (oi := _) (v := ?_) (by simp only [List.getElem?_toArray, List.getElem?_cons_zero, List.getElem?_cons_succ]; rfl) (by kernel_rfl) (by kernel_rfl) (by kernel_rfl) (fun _ _ _ h => h) (Or.inl ⟨by rfl, ?_⟩) (by assumption) ?_
  rotate_left
  · intro w hSw
    (try dsimp only at hSw)
    go_simp
    try with_reducible rfl
  (try simp only [Act.put])
  (try simp only [List.setIfInBounds_toArray])
  (try simp only [List.set])
  refine wpAnyH_take (i := 12) (oi := _) (v := ?_) (by simp only [List.getElem?_toArray, List.getElem?_cons_zero, List.getElem?_cons_succ]; rfl) (by kernel_rfl) (by kernel_rfl) (by kernel_rfl) (fun _ _ _ h => h) (Or.inl ⟨by rfl, ?_⟩) (by assumption) ?_
  rotate_left
  · intro w hSw
    (try dsimp only at hSw)
    go_simp
    try with_reducible rfl
  (try simp only [Act.put])
  (try simp only [List.setIfInBounds_toArray])
  (try simp only [List.set])
  refine wpAnyH_ready (rs := [4, 13]) (by kernel_rfl) (by simp) ?_
  have ya := fun o => ((Below.refl _ w5).alloc (Nat.le_refl _) o).cell (p := ⟨p, 0, none⟩) hpl3
  refine AllReadyH.cons (by simp only [List.getElem?_toArray, List.getElem?_cons_zero, List.getElem?_cons_succ]; rfl) (fun K hK => ?_) (AllReadyH.cons (by simp only [List.getElem?_toArray, List.getElem?_cons_zero, List.getElem?_cons_succ]; rfl) (fun K hK => ?_) AllReadyH.nil)
  · go_simp
    refine hK.out _ _ hHeld (fun hHeld2 => ?_)
    clear hK K hHeld2
    refine wpAnyH_ready (rs := [13]) (by kernel_rfl) (by simp) ?_
    refine AllReadyH.cons (by simp only [List.getElem?_toArray, List.getElem?_cons_zero, List.getElem?_cons_succ]; rfl) (fun K hK => ?_) AllReadyH.nil
    go_simp
    refine hK.out _ _ (add_step (Nat.le_of_lt hpl) ((Below.refl _ w5).alloc (Nat.le_refl _) _) hHeld) (fun hHeld3 => ?_)
    clear hK K hHeld3
    refine wpAnyH_ready (rs := [14]) (by kernel_rfl) (by simp) ?_
    refine AllReadyH.cons (by simp only [List.getElem?_toArray, List.getElem?_cons_zero, List.getElem?_cons_succ]; rfl) (fun K hK => ?_) AllReadyH.nil
    refine chg_append ?_ ?_ ?_ ?_ ?_
    · rfl
    · rfl
    · rfl
    · rfl
    intro g9 c9 w9 hb9
    have hH9 := add_step (Nat.le_of_lt hpl) hb9 hHeld
    have u0 : w9.cell? ⟨p, 0, none⟩ = some (.slice none 0 0) := (hb9.cell (p := ⟨p, 0, none⟩) hpl3).trans y0
    have uf : w9.frozen? ⟨p, 0, none⟩ = false := (hb9.frozen (p := ⟨p, 0, none⟩) hpl3).trans yf
    refine hK.out _ _ hH9 (fun hHeld4 => ?_)
    clear hK K hHeld
    refine wpAnyH_take (i := 15) (oi := _) (v := ?_) (by simp only [List.getElem?_toArray, List.getElem?_cons_zero, List.getElem?_cons_succ]; rfl) (by kernel_rfl) (by kernel_rfl) (by kernel_rfl) (fun _ _ _ h => h) (Or.inl ⟨by rfl, ?_⟩) (by assumption) ?_
    rotate_left
    · intro w hSw
      (try dsimp only at hSw)
      go_simp
      try with_reducible rfl
    (try simp only [Act.put])
    (try simp only [List.setIfInBounds_toArray])
    (try simp only [List.set])
    refine wpAnyH_take (i := 16) (oi := _) (v := ?_) (by simp only [List.getElem?_toArray, List.getElem?_cons_zero, List.getElem?_cons_succ]; rfl) (by kernel_rfl) (by kernel_rfl) (by kernel_rfl) (fun _ _ _ h => h) (Or.inl ⟨by rfl, ?_⟩) (by assumption) ?_
    rotate_left
    · intro w hSw
      (try dsimp only at hSw)
      go_simp
      try with_reducible rfl
    (try simp only [Act.put])
    (try simp only [List.setIfInBounds_toArray])
    (try simp only [List.set])
    refine wpAnyH_ready (rs := [17]) (by kernel_rfl) (by simp) ?_
    refine AllReadyH.cons (by simp only [List.getElem?_toArray, List.getElem?_cons_zero, List.getElem?_cons_succ]; rfl) (fun K hK => ?_) AllReadyH.nil
    go_simp
    have hH10 := add_set (v := .slice (some ⟨g9, 0, none⟩) 1 c9) hpl hH9
    refine hK.out _ _ hH10 (fun hHeld5 => ?_)
    clear hK K
    refine wpAnyH_done (by kernel_rfl) ?_ _
    refine NoPanic.normal ?_
    clear hHeld4 hHeld5 hb9 hH9 y0 yf u0 uf
    generalize w9.setCell ⟨p, 0, none⟩ (.slice (some ⟨g9, 0, none⟩) 1 c9) = w10 at *
    obtain ⟨d0, d1, d2, d3, d4⟩ := hH10
    have D4 := Lib.hid d4
    clear d4
    go_wp2_with fail
    go_ret2
    exact ⟨rfl, D4.out⟩
  · go_simp
    refine hK.out _ _ (add_step (Nat.le_of_lt hpl) ((Below.refl _ w5).alloc (Nat.le_refl _) _) hHeld) (fun hHeld2 => ?_)
    clear hK K
    refine wpAnyH_ready (rs := [4]) (by kernel_rfl) (by simp) ?_
    refine AllReadyH.cons (by simp only [List.getElem?_toArray, List.getElem?_cons_zero, List.getElem?_cons_succ]; rfl) (fun K hK => ?_) AllReadyH.nil
    have y2 := (ya (.cells #[.int .i64 1, .int .i64 (k : Int), .int .i64 (off : Int), .string t, .slice none 0 0, .int .i64 1] 172)).trans y0
    go_simp
    refine hK.out _ _ hHeld2 (fun hHeld3 => ?_)
    clear hK K hHeld3 hHeld2 y2
    refine wpAnyH_ready (rs := [14]) (by kernel_rfl) (by simp) ?_
    refine AllReadyH.cons (by simp only [List.getElem?_toArray, List.getElem?_cons_zero, List.getElem?_cons_succ]; rfl) (fun K hK => ?_) AllReadyH.nil
    refine chg_append ?_ ?_ ?_ ?_ ?_
    · rfl
    · rfl
    · rfl
    · rfl
    intro g9 c9 w9 hb9
    have hH9 := add_step (Nat.le_of_lt hpl) hb9 hHeld
    have u0 : w9.cell? ⟨p, 0, none⟩ = some (.slice none 0 0) := (hb9.cell (p := ⟨p, 0, none⟩) hpl3).trans y0
    have uf : w9.frozen? ⟨p, 0, none⟩ = false := (hb9.frozen (p := ⟨p, 0, none⟩) hpl3).trans yf
    refine hK.out _ _ hH9 (fun hHeld4 => ?_)
    clear hK K hHeld
    refine wpAnyH_take (i := 15) (oi := _) (v := ?_) (by simp only [List.getElem?_toArray, List.getElem?_cons_zero, List.getElem?_cons_succ]; rfl) (by kernel_rfl) (by kernel_rfl) (by kernel_rfl) (fun _ _ _ h => h) (Or.inl ⟨by rfl, ?_⟩) (by assumption) ?_
    rotate_left
    · intro w hSw
      (try dsimp only at hSw)
      go_simp
      try with_reducible rfl
    (try simp only [Act.put])
    (try simp only [List.setIfInBounds_toArray])
    (try simp only [List.set])
    refine wpAnyH_take (i := 16) (oi := _) (v := ?_) (by simp only [List.getElem?_toArray, List.getElem?_cons_zero, List.getElem?_cons_succ]; rfl) (by kernel_rfl) (by kernel_rfl) (by kernel_rfl) (fun _ _ _ h => h) (Or.inl ⟨by rfl, ?_⟩) (by assumption) ?_
    rotate_left
    · intro w hSw
      (try dsimp only at hSw)
      go_simp
      try with_reducible rfl
    (try simp only [Act.put])
    (try simp only [List.setIfInBounds_toArray])
    (try simp only [List.set])
    refine wpAnyH_ready (rs := [17]) (by kernel_rfl) (by simp) ?_
    refine AllReadyH.cons (by simp only [List.getElem?_toArray, List.getElem?_cons_zero, List.getElem?_cons_succ]; rfl) (fun K hK => ?_) AllReadyH.nil
    go_simp
    have hH10 := add_set (v := .slice (some ⟨g9, 0, none⟩) 1 c9) hpl hH9
    refine hK.out _ _ hH10 (fun hHeld5 => ?_)
    clear hK K
    refine wpAnyH_done (by kernel_rfl) ?_ _
    refine NoPanic.normal ?_
    clear hHeld4 hHeld5 hb9 hH9 y0 yf u0 uf
    generalize w9.setCell ⟨p, 0, none⟩ (.slice (some ⟨g9, 0, none⟩) 1 c9) = w10 at *
    obtain ⟨d0, d1, d2, d3, d4⟩ := hH10
    have D4 := Lib.hid d4
    clear d4
    go_wp2_with fail
    go_ret2
    exact ⟨rfl, D4.out⟩
end Go.Proofs.YtghggelkmhdhfaaGreatDoor
