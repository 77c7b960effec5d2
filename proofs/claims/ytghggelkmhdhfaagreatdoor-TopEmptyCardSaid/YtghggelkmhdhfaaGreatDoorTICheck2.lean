
/-
  The root's inode may be: inode.Check, walked at it.
-/
import Derived.Test.YtghggelkmhdhfaaGreatDoorTICheck
import Derived.Test.YtghggelkmhdhfaaGreatDoorTGrowG
import Derived.Deep.RegionHeld3
namespace Go.Proofs.YtghggelkmhdhfaaGreatDoor
open Go.RowKit

def RootS (w : World) (w' : World) : Prop := Below w.heap.size w w' ∧ Blk w' (w.heap.size + 1) (inoC 2 1 1 1) 49
theorem RootS.below {w W w' : World} {A B C : Nat} (hb : Below W.heap.size W w') (h : W.cell? ⟨w.heap.size, 0, none⟩ = some (.int .i64 (A : Int)) ∧ W.cell? ⟨w.heap.size, 1, none⟩ = some (.int .i64 (B : Int)) ∧ W.cell? ⟨w.heap.size, 2, none⟩ = some (.int .i64 (C : Int)) ∧ W.cell? ⟨w.heap.size + 1, 2, none⟩ = some (.int .i64 0) ∧ W.cell? ⟨w.heap.size + 1, 3, none⟩ = some (.int .i64 1) ∧ RootS w W) :
    w'.cell? ⟨w.heap.size, 0, none⟩ = some (.int .i64 (A : Int)) ∧ w'.cell? ⟨w.heap.size, 1, none⟩ = some (.int .i64 (B : Int)) ∧ w'.cell? ⟨w.heap.size, 2, none⟩ = some (.int .i64 (C : Int)) ∧ w'.cell? ⟨w.heap.size + 1, 2, none⟩ = some (.int .i64 0) ∧ w'.cell? ⟨w.heap.size + 1, 3, none⟩ = some (.int .i64 1) ∧ RootS w w' := by
  obtain ⟨h0, h1, h2, h3, h4, h5, h6⟩ := h
  have hl := h6.lt
  have e : ∀ b o, b ≤ w.heap.size + 1 → w'.cell? ⟨b, o, none⟩ = W.cell? ⟨b, o, none⟩ := fun b o h => hb.cell (p := ⟨b, o, none⟩) (by simp; omega)
  exact ⟨by rw [e _ _ (by omega)]; exact h0, by rw [e _ _ (by omega)]; exact h1, by rw [e _ _ (by omega)]; exact h2, by rw [e _ _ (by omega)]; exact h3, by rw [e _ _ (by omega)]; exact h4, h5.trans (hb.mono h5.size), h6.below hb⟩

/-- The cells of eight zeros. -/
def zero8 : Array Value := #[.int .i64 0, .int .i64 0, .int .i64 0, .int .i64 0, .int .i64 0, .int .i64 0, .int .i64 0, .int .i64 0]
theorem zero8_get (j : Nat) (u : Value) (h : (List.replicate 8 (Value.int .i64 0))[j]? = some u) : zero8[j]? = some u := by
  have e : zero8 = (List.replicate 8 (Value.int .i64 0)).toArray := rfl
  rw [e, List.getElem?_toArray]
  exact h
/-- What region 13 keeps beside its cells. -/
def RootT (w : World) (g : Nat) (W : World) : Prop := Below w.heap.size w W ∧ Blk W g zero8 47
theorem RootT.cells {w W : World} {g : Nat} (h : RootT w g W) : ∀ j u, (List.replicate 8 (Value.int .i64 0))[j]? = some u → W.cell? ((⟨g, 0, none⟩ : Addr).add j) = some u := fun j u hj => by
  rw [Addr.add_lit, h.2.cell, Nat.zero_add]
  exact zero8_get j u hj
/-- A row of nine zeros of one's own. -/
theorem nine_form {W : World} {base : Nat} {v : Value} (h : W.ownsRow base 3 1 v 9 (List.replicate 8 (Value.int .i64 0) ++ [.int .i64 0])) : ∃ g c, v = .slice (some ⟨g, 0, none⟩) 9 c ∧ g < W.heap.size ∧ ∀ i, i < 9 → W.cell? ⟨g, 0 + i, none⟩ = some (.int .i64 0) := by
  have h' := h
  obtain ⟨h1, ⟨rfl, h0⟩ | ⟨g, cap, cur, rfl, hb, hg, hnn, hm, _⟩⟩ := h
  · omega
  · refine ⟨g, cap, rfl, (Array.getElem?_eq_some_iff.1 hg).1, fun i hi => ?_⟩
    have hc := World.ownsRow.cells h' (g := g) rfl i (.int .i64 0) (by
      have e : List.replicate 8 (Value.int .i64 0) ++ [.int .i64 0] = List.replicate 9 (Value.int .i64 0) := rfl
      rw [e, List.getElem?_replicate, if_pos hi])
    rw [Addr.add_lit] at hc
    exact hc
theorem grow9 {q : Bool} {o : Oper} {a : Act} {W : World} {K : Act → World → Prop} {Q : Exit → Act → World → Prop} {E : Prop} {g h : Nat}
    (hw : q = true) (hop : o.op = Op.call { callee := Callee.builtin Builtin.append, args := #[.tmp 87, .tmp 90], argTypes := #[39, 39] })
    (hs : a.eval (.tmp 87) = .slice (some ⟨g, 0, none⟩) 8 8) (hx : a.eval (.tmp 90) = .slice (some ⟨h, 0, none⟩) 1 1) (hT : ∀ j u, (List.replicate 8 (Value.int .i64 0))[j]? = some u → W.cell? ((⟨g, 0, none⟩ : Addr).add j) = some u) (hc : W.cell? ⟨h, 0, none⟩ = some (.int .i64 0))
    (hK : ∀ g9 c9 w9, Below W.heap.size W w9 → g9 < w9.heap.size → (∀ i, i < 9 → w9.cell? ⟨g9, 0 + i, none⟩ = some (.int .i64 0)) → K (a.put o.dst (.slice (some ⟨g9, 0, none⟩) 9 c9)) w9) :
    if q = true then Oper.wp Tryz.prog o a W K Q else E := by
  obtain ⟨i0, hi, hz0, hz1, hz2⟩ := info_parts info_int
  refine step_append_grows_g hw (.tmp 87) (.tmp 90) 39 hop 3 i0 (.int .i64 0) 1 8 Tryz.underlying39 hi hz0 hz1 hz2 rfl (by decide) ⟨g, 0, none⟩ 8 8 (List.replicate 8 (.int .i64 0)) hs rfl hT ⟨h, 0, none⟩ 1 1 [.int .i64 0] hx rfl ?_ (by decide) (by unfold maxLen; omega) (by decide) ?_
  · intro j u hj
    have hlt : j < 1 := by simpa using (List.getElem?_eq_some_iff.1 hj).1
    obtain rfl : j = 0 := by omega
    rw [Addr.add_lit]
    simp at hj
    subst hj
    exact hc
  · intro v9 w9 hown hgrow
    obtain ⟨g9, c9, rfl, hg9, hc9⟩ := nine_form hown
    exact hK g9 c9 w9 (below_of_grown (Below.refl _ _) hgrow (Nat.le_refl _)) hg9 hc9
theorem RootT.cells6 {w W : World} {g : Nat} {p1 p2 p3 p4 p5 : Prop} (h : p1 ∧ p2 ∧ p3 ∧ p4 ∧ p5 ∧ RootT w g W) : ∀ j u, (List.replicate 8 (Value.int .i64 0))[j]? = some u → W.cell? ((⟨g, 0, none⟩ : Addr).add j) = some u := h.2.2.2.2.2.cells
theorem RootT.step {w W w' : World} {g : Nat} {A B C : Nat} (hb : Below W.heap.size W w') (h : W.cell? ⟨w.heap.size, 0, none⟩ = some (.int .i64 (A : Int)) ∧ W.cell? ⟨w.heap.size, 1, none⟩ = some (.int .i64 (B : Int)) ∧ W.cell? ⟨w.heap.size, 2, none⟩ = some (.int .i64 (C : Int)) ∧ W.cell? ⟨w.heap.size + 1, 3, none⟩ = some (.int .i64 0) ∧ W.cell? ⟨w.heap.size + 1, 13, none⟩ = some (.int .i64 0) ∧ RootT w g W) :
    w'.cell? ⟨w.heap.size, 0, none⟩ = some (.int .i64 (A : Int)) ∧ w'.cell? ⟨w.heap.size, 1, none⟩ = some (.int .i64 (B : Int)) ∧ w'.cell? ⟨w.heap.size, 2, none⟩ = some (.int .i64 (C : Int)) ∧ w'.cell? ⟨w.heap.size + 1, 3, none⟩ = some (.int .i64 0) ∧ w'.cell? ⟨w.heap.size + 1, 13, none⟩ = some (.int .i64 0) ∧ RootT w g w' := by
  obtain ⟨h0, h1, h2, h3, h4, h5, h6⟩ := h
  have e : ∀ p v, W.cell? p = some v → w'.cell? p = some v := fun p v h => by rw [hb.cell (World.block_lt_of_cell? _ _ h)]; exact h
  exact ⟨e _ _ h0, e _ _ h1, e _ _ h2, e _ _ h3, e _ _ h4, h5.trans (hb.mono h5.size), h6.below hb⟩

set_option maxHeartbeats 4000000 in
set_option maxRecDepth 100000 in
theorem icheck_root {A B C : Nat} (G : Geo A B C) (w : World) :
    Calls Tryz.prog 50 #[.agg #[.int .i64 (A : Int), .int .i64 (B : Int), .int .i64 (C : Int)], inoV 2 1 1 1] w fun e w' => e = .returned (.int .i64 0) ∧ Below w.heap.size w w' := by
  have HC := Lib.hid (fun W => check_yes A B C W G.ok)
  have HI := Lib.hid (fun W => inodes_any G W)
  have hm := (mulAB G).2
  have hm2 := (mulAB G).1
  generalize A * B = M at *
  have hM1 : decide ((M : Int) < 1) = false := decide_eq_false (by omega)
  have hM2 : ¬ M < 1 := by omega
  have hM3 : ¬ M = 0 := by omega
  unfold inoV
  go_enter Tryz.func50, Tryz.ntmps50
  go_wp2_with fail
  refine (HC.out _).mono ?_
  rintro e w1 ⟨rfl, hb1⟩
  have hz1 := hb1.size
  simp at hz1
  have D1 : Blk w1 (w.heap.size + 1) (inoC 2 1 1 1) 49 := by simpa using (Blk.new (w.alloc (.cells #[.int .i64 (A : Int), .int .i64 (B : Int), .int .i64 (C : Int)] 23)) (inoC 2 1 1 1) 49).below hb1
  have q0 : w1.cell? ⟨w.heap.size + 1, 0, none⟩ = some (.int .i64 2) := D1.cell 0
  have q1 : w1.cell? ⟨w.heap.size + 1, 1, none⟩ = some (.int .i64 1) := D1.cell 1
  have q2 : w1.cell? ⟨w.heap.size + 1, 2, none⟩ = some (.int .i64 0) := D1.cell 2
  have q3 : w1.cell? ⟨w.heap.size + 1, 3, none⟩ = some (.int .i64 1) := D1.cell 3
  have q4 : w1.cell? ⟨w.heap.size + 1, 4, none⟩ = some (.int .i64 1) := D1.cell 4
  have c0 : w1.cell? ⟨w.heap.size, 0, none⟩ = some (.int .i64 (A : Int)) := by rw [hb1.cell (by simp <;> omega)]; simp [go_sem]
  have c1 : w1.cell? ⟨w.heap.size, 1, none⟩ = some (.int .i64 (B : Int)) := by rw [hb1.cell (by simp <;> omega)]; simp [go_sem]
  have c2 : w1.cell? ⟨w.heap.size, 2, none⟩ = some (.int .i64 (C : Int)) := by rw [hb1.cell (by simp <;> omega)]; simp [go_sem]
  have hb1' : Below w.heap.size w w1 := by (repeat' (first | exact Below.refl _ _ | assumption | refine Below.setCell ?_ ?_ _ | refine Below.drew ?_ | refine below_drewN ?_ _ | refine Below.alloc ?_ ?_ _ | refine below_of_grown ?_ (by assumption) ?_ | refine Below.trans ?_ (Below.mono (by assumption) ?_) | omega | (simp; done) | (simp; omega)))
  have S1 : w1.cell? ⟨w.heap.size, 0, none⟩ = some (.int .i64 (A : Int)) ∧ w1.cell? ⟨w.heap.size, 1, none⟩ = some (.int .i64 (B : Int)) ∧ w1.cell? ⟨w.heap.size, 2, none⟩ = some (.int .i64 (C : Int)) ∧ w1.cell? ⟨w.heap.size + 1, 2, none⟩ = some (.int .i64 0) ∧ w1.cell? ⟨w.heap.size + 1, 3, none⟩ = some (.int .i64 1) ∧ RootS w w1 := ⟨c0, c1, c2, q2, q3, hb1', D1⟩
  have HS1 := Lib.hid S1
  clear hb1 S1 D1
  go_wp2_with fail
  go_region_held3 (fun w' => w'.cell? ⟨w.heap.size, 0, none⟩ = some (.int .i64 (A : Int)) ∧ w'.cell? ⟨w.heap.size, 1, none⟩ = some (.int .i64 (B : Int)) ∧ w'.cell? ⟨w.heap.size, 2, none⟩ = some (.int .i64 (C : Int)) ∧ w'.cell? ⟨w.heap.size + 1, 2, none⟩ = some (.int .i64 0) ∧ w'.cell? ⟨w.heap.size + 1, 3, none⟩ = some (.int .i64 1) ∧ RootS w w')
    (first
      | exact RootS.below (Below.refl _ w1).drew HS1.out
      | exact RootS.below hb7 (RootS.below (Below.refl _ w1).drew HS1.out))
    (first
      | (go_at_call 33; refine (HI.out _).mono ?_; rintro e w7 ⟨rfl, hb7⟩))
  obtain ⟨e0, e1, e2, e3, e4, e5, e6⟩ := ‹w7.cell? _ = _ ∧ _›
  have hl7 := e6.lt
  have f4 := e6.free
  have E6 := e6.setCell 3 (.int .i64 0)
  have E6' : Blk (w7.setCell ⟨w.heap.size + 1, 3, none⟩ (.int .i64 0)) (w.heap.size + 1) (inoC 2 1 0 1) 49 := E6
  have B8 : Below w.heap.size w (w7.setCell ⟨w.heap.size + 1, 3, none⟩ (.int .i64 0)) := e5.setCell (by simp) _
  have x0 : (w7.setCell ⟨w.heap.size + 1, 3, none⟩ (.int .i64 0)).cell? ⟨w.heap.size, 0, none⟩ = some (.int .i64 (A : Int)) := by simp [go_sem, e0]
  have x1 : (w7.setCell ⟨w.heap.size + 1, 3, none⟩ (.int .i64 0)).cell? ⟨w.heap.size, 1, none⟩ = some (.int .i64 (B : Int)) := by simp [go_sem, e1]
  have x2 : (w7.setCell ⟨w.heap.size + 1, 3, none⟩ (.int .i64 0)).cell? ⟨w.heap.size, 2, none⟩ = some (.int .i64 (C : Int)) := by simp [go_sem, e2]
  have HE6 := Lib.hid E6'
  have HB8 := Lib.hid B8
  have HX := Lib.hid (And.intro x0 (And.intro x1 x2))
  have z5 : w7.cell? ⟨w.heap.size + 1, 5, none⟩ = some (.int .i64 0) := e6.cell 5
  have z6 : w7.cell? ⟨w.heap.size + 1, 6, none⟩ = some (.int .i64 0) := e6.cell 6
  have z7 : w7.cell? ⟨w.heap.size + 1, 7, none⟩ = some (.int .i64 0) := e6.cell 7
  have z8 : w7.cell? ⟨w.heap.size + 1, 8, none⟩ = some (.int .i64 0) := e6.cell 8
  have z9 : w7.cell? ⟨w.heap.size + 1, 9, none⟩ = some (.int .i64 0) := e6.cell 9
  have z10 : w7.cell? ⟨w.heap.size + 1, 10, none⟩ = some (.int .i64 0) := e6.cell 10
  have z11 : w7.cell? ⟨w.heap.size + 1, 11, none⟩ = some (.int .i64 0) := e6.cell 11
  have z12 : w7.cell? ⟨w.heap.size + 1, 12, none⟩ = some (.int .i64 0) := e6.cell 12
  have z13 : w7.cell? ⟨w.heap.size + 1, 13, none⟩ = some (.int .i64 0) := e6.cell 13
  have HBZ := Lib.hid (fun b c W hb hc => blocks_zero G b 0 9 c W (by omega) hb hc)
  obtain ⟨i0, hi, hz0, hz1, hz2⟩ := info_parts info_int
  clear c0 c1 c2 q0 q1 q2 q3 q4 hb7 hb1' HS1 E6 E6' B8 x0 x1 x2 e5 e6
  go_wp2_with fail
  have ST : ((w7.setCell ⟨w.heap.size + 1, 3, none⟩ (.int .i64 0)).alloc (.cells zero8 47)).cell? ⟨w.heap.size, 0, none⟩ = some (.int .i64 (A : Int)) ∧ ((w7.setCell ⟨w.heap.size + 1, 3, none⟩ (.int .i64 0)).alloc (.cells zero8 47)).cell? ⟨w.heap.size, 1, none⟩ = some (.int .i64 (B : Int)) ∧ ((w7.setCell ⟨w.heap.size + 1, 3, none⟩ (.int .i64 0)).alloc (.cells zero8 47)).cell? ⟨w.heap.size, 2, none⟩ = some (.int .i64 (C : Int)) ∧ ((w7.setCell ⟨w.heap.size + 1, 3, none⟩ (.int .i64 0)).alloc (.cells zero8 47)).cell? ⟨w.heap.size + 1, 3, none⟩ = some (.int .i64 0) ∧ ((w7.setCell ⟨w.heap.size + 1, 3, none⟩ (.int .i64 0)).alloc (.cells zero8 47)).cell? ⟨w.heap.size + 1, 13, none⟩ = some (.int .i64 0) ∧ RootT w w7.heap.size ((w7.setCell ⟨w.heap.size + 1, 3, none⟩ (.int .i64 0)).alloc (.cells zero8 47)) := by
    have hD := HE6.out.alloc (.cells zero8 47)
    have hbb := (Below.refl (w7.setCell ⟨w.heap.size + 1, 3, none⟩ (.int .i64 0)).heap.size (w7.setCell ⟨w.heap.size + 1, 3, none⟩ (.int .i64 0))).alloc (Nat.le_refl _) (.cells zero8 47)
    obtain ⟨x0, x1, x2⟩ := HX.out
    have e : ∀ p v, (w7.setCell ⟨w.heap.size + 1, 3, none⟩ (.int .i64 0)).cell? p = some v → ((w7.setCell ⟨w.heap.size + 1, 3, none⟩ (.int .i64 0)).alloc (.cells zero8 47)).cell? p = some v := fun p v h => by rw [hbb.cell (World.block_lt_of_cell? _ _ h)]; exact h
    have hnew := Blk.new (w7.setCell ⟨w.heap.size + 1, 3, none⟩ (.int .i64 0)) zero8 47
    have hz : (w7.setCell ⟨w.heap.size + 1, 3, none⟩ (.int .i64 0)).heap.size = w7.heap.size := by simp
    rw [hz] at hnew
    exact ⟨e _ _ x0, e _ _ x1, e _ _ x2, by rw [hD.cell]; rfl, by rw [hD.cell]; rfl, HB8.out.alloc HB8.out.size _, hnew⟩
  have HST := Lib.hid ST
  clear HE6 HB8 HX
  have hmx : 9 ≤ maxLen := by unfold maxLen; omega
  clear ST
  generalize hw8 : (w7.setCell ⟨w.heap.size + 1, 3, none⟩ (.int .i64 0)).alloc (.cells #[.int .i64 0, .int .i64 0, .int .i64 0, .int .i64 0, .int .i64 0, .int .i64 0, .int .i64 0, .int .i64 0] 47) = w8 at ⊢
  have HST8 := Lib.hid (show w8.cell? ⟨w.heap.size, 0, none⟩ = some (.int .i64 (A : Int)) ∧ w8.cell? ⟨w.heap.size, 1, none⟩ = some (.int .i64 (B : Int)) ∧ w8.cell? ⟨w.heap.size, 2, none⟩ = some (.int .i64 (C : Int)) ∧ w8.cell? ⟨w.heap.size + 1, 3, none⟩ = some (.int .i64 0) ∧ w8.cell? ⟨w.heap.size + 1, 13, none⟩ = some (.int .i64 0) ∧ RootT w w7.heap.size w8 by subst hw8; exact HST.out)
  clear HST hw8
  go_region_held3 (fun w' => w'.cell? ⟨w.heap.size, 0, none⟩ = some (.int .i64 (A : Int)) ∧ w'.cell? ⟨w.heap.size, 1, none⟩ = some (.int .i64 (B : Int)) ∧ w'.cell? ⟨w.heap.size, 2, none⟩ = some (.int .i64 (C : Int)) ∧ w'.cell? ⟨w.heap.size + 1, 3, none⟩ = some (.int .i64 0) ∧ w'.cell? ⟨w.heap.size + 1, 13, none⟩ = some (.int .i64 0) ∧ RootT w w7.heap.size w')
    (first
      | exact RootT.step (Below.refl _ w8).drew HST8.out
      | exact RootT.step (((Below.refl _ w8).alloc (Nat.le_refl _) _).drew) HST8.out
      | exact RootT.step hb10 ‹_ ∧ _ ∧ _ ∧ _ ∧ _ ∧ RootT w w7.heap.size _›
      | exact RootT.step hb9 ‹_ ∧ _ ∧ _ ∧ _ ∧ _ ∧ RootT w w7.heap.size _›)
    (first
      | (apply grow9 (g := w7.heap.size) rfl rfl rfl rfl; (exact RootT.cells6 ‹_ ∧ _ ∧ _ ∧ _ ∧ _ ∧ RootT w w7.heap.size _›); (exact (Blk.new w8 #[.int .i64 0] 3).cell 0); (intro g9 c9 w9 hb9 hg9 hc9))
      | (go_at_call 74; refine (HBZ.out g9 c9 _ hg9 hc9).mono ?_; rintro e w10 ⟨rfl, hb10⟩))
  have HT := Lib.hid ‹_ ∧ _ ∧ _ ∧ _ ∧ _ ∧ RootT w w7.heap.size _›
  clear hb9 hb10 hg9 hc9
  go_wp2_with fail
  go_ret
  exact ⟨rfl, HT.out.2.2.2.2.2.1⟩
end Go.Proofs.YtghggelkmhdhfaaGreatDoor
