
/-
  An inode's sector: inode.Encode, walked at inodes without blocks, of no bytes.
-/
import Derived.Test.YtghggelkmhdhfaaGreatDoorTICheck2
import Derived.Test.YtghggelkmhdhfaaGreatDoorTNum
import Derived.Test.YtghggelkmhdhfaaGreatDoorTDecode
namespace Go.Proofs.YtghggelkmhdhfaaGreatDoor
open Go.RowKit

theorem info_patch : (Tryz.prog.info? 90).map (fun i => (i.zero, i.size, i.bytes)) = some (some (.agg #[.int .i64 0, .string ⟨#[]⟩]), 2, 24) := by kernel_rfl
/-- The cells of patches. -/
def patV : List (Nat × ByteArray) → List Value
  | [] => []
  | p :: ps => .int .i64 (p.1 : Int) :: .string p.2 :: patV ps
theorem patV_append (a b : List (Nat × ByteArray)) : patV (a ++ b) = patV a ++ patV b := by
  induction a with
  | nil => rfl
  | cons p a ih => simp [patV, ih]
theorem length_patV (a : List (Nat × ByteArray)) : (patV a).length = a.length * 2 := by
  induction a with
  | nil => rfl
  | cons p a ih => simp [patV, ih]; omega
theorem patV_get : ∀ (ps : List (Nat × ByteArray)) (i : Nat) (p : Nat × ByteArray), ps[i]? = some p → (patV ps)[i * 2]? = some (.int .i64 (p.1 : Int)) ∧ (patV ps)[i * 2 + 1]? = some (.string p.2)
  | [], i, p, h => by simp at h
  | q :: ps, 0, p, h => by simp at h; subst h; exact ⟨rfl, rfl⟩
  | q :: ps, i + 1, p, h => by
    have := patV_get ps i p (by simpa using h)
    have e : (i + 1) * 2 = i * 2 + 1 + 1 := by omega
    rw [e]
    simpa [patV] using this
/-- Patches that the call made. -/
def OwnPs (w : World) (base : Nat) (v : Value) (ps : List (Nat × ByteArray)) : Prop := w.ownsRow base 90 2 v ps.length (patV ps)
theorem OwnPs.below {w w' : World} {base : Nat} {v : Value} {ps : List (Nat × ByteArray)} (h : OwnPs w base v ps) (hb : Below w.heap.size w w') : OwnPs w' base v ps := by
  obtain ⟨h1, h2 | ⟨g, cap, cur, hv, hbb, hg, hr⟩⟩ := h
  · exact ⟨h1, .inl h2⟩
  · exact ⟨h1, .inr ⟨g, cap, cur, hv, hbb, (hb.block g (Array.getElem?_eq_some_iff.1 hg).1).trans hg, hr⟩⟩
theorem OwnPs.form {w : World} {base : Nat} {v : Value} {ps : List (Nat × ByteArray)} (h : OwnPs w base v ps) (hn : 1 ≤ ps.length) : ∃ g c, v = .slice (some ⟨g, 0, none⟩) ps.length c ∧ g < w.heap.size ∧
    ∀ i p, ps[i]? = some p → w.cell? ⟨g, 0 + i * 2, none⟩ = some (.int .i64 (p.1 : Nat)) ∧ w.cell? ⟨g, 0 + i * 2 + 1, none⟩ = some (.string p.2) := by
  have h' := h
  obtain ⟨h1, ⟨rfl, h0⟩ | ⟨g, cap, cur, rfl, hb, hg, hnn, hm, _⟩⟩ := h
  · omega
  · refine ⟨g, cap, rfl, (Array.getElem?_eq_some_iff.1 hg).1, fun i p hp => ?_⟩
    obtain ⟨q0, q1⟩ := patV_get ps i p hp
    have c0 := World.ownsRow.cells h' (g := g) rfl _ _ q0
    have c1 := World.ownsRow.cells h' (g := g) rfl _ _ q1
    rw [Addr.add_lit] at c0 c1
    exact ⟨c0, by rw [show 0 + i * 2 + 1 = 0 + (i * 2 + 1) by omega]; exact c1⟩
/-- The first patches of an inode. -/
def inoP6 (k l p g : Int) : List (Nat × ByteArray) := [(0, str (le k 1)), (1, str (le l 1)), (2, str (le 0 2)), (4, str (le p 2)), (6, str (le g 2)), (24, str (le 0 2))]
/-- The patches of its first blocks. -/
def inoD (n : Nat) : List (Nat × ByteArray) := (List.range n).map fun i => (8 + 2 * i, str (le 0 2))
theorem inoD_succ (n : Nat) : inoD (n + 1) = inoD n ++ [(8 + 2 * n, str (le 0 2))] := by unfold inoD; rw [List.range_succ, List.map_append]; rfl
theorem length_inoD (n : Nat) : (inoD n).length = n := by simp [inoD]
/-- What Encode's region keeps. -/
def InoS (w : World) (k l p g : Int) (W : World) : Prop := Below w.heap.size w W ∧ Blk W (w.heap.size + 1) (inoC k l p g) 49
theorem InoS.conj {w W : World} {k l p g : Int} (h : InoS w k l p g W) : W.cell? ⟨w.heap.size + 1, 0, none⟩ = some (.int .i64 k) ∧ W.cell? ⟨w.heap.size + 1, 1, none⟩ = some (.int .i64 l) ∧ W.cell? ⟨w.heap.size + 1, 2, none⟩ = some (.int .i64 0) ∧ W.cell? ⟨w.heap.size + 1, 3, none⟩ = some (.int .i64 p) ∧ W.cell? ⟨w.heap.size + 1, 4, none⟩ = some (.int .i64 g) ∧ W.cell? ⟨w.heap.size + 1, 13, none⟩ = some (.int .i64 0) ∧ InoS w k l p g W := ⟨h.2.cell 0, h.2.cell 1, h.2.cell 2, h.2.cell 3, h.2.cell 4, h.2.cell 13, h⟩
theorem InoS.below {w W w' : World} {k l p g : Int} (h : InoS w k l p g W) (hb : Below W.heap.size W w') : InoS w k l p g w' := ⟨h.1.trans (hb.mono h.1.size), h.2.below hb⟩
theorem InoS.step {w W w' : World} {k l p g : Int} (hb : Below W.heap.size W w') (h : W.cell? ⟨w.heap.size + 1, 0, none⟩ = some (.int .i64 k) ∧ W.cell? ⟨w.heap.size + 1, 1, none⟩ = some (.int .i64 l) ∧ W.cell? ⟨w.heap.size + 1, 2, none⟩ = some (.int .i64 0) ∧ W.cell? ⟨w.heap.size + 1, 3, none⟩ = some (.int .i64 p) ∧ W.cell? ⟨w.heap.size + 1, 4, none⟩ = some (.int .i64 g) ∧ W.cell? ⟨w.heap.size + 1, 13, none⟩ = some (.int .i64 0) ∧ InoS w k l p g W) : w'.cell? ⟨w.heap.size + 1, 0, none⟩ = some (.int .i64 k) ∧ w'.cell? ⟨w.heap.size + 1, 1, none⟩ = some (.int .i64 l) ∧ w'.cell? ⟨w.heap.size + 1, 2, none⟩ = some (.int .i64 0) ∧ w'.cell? ⟨w.heap.size + 1, 3, none⟩ = some (.int .i64 p) ∧ w'.cell? ⟨w.heap.size + 1, 4, none⟩ = some (.int .i64 g) ∧ w'.cell? ⟨w.heap.size + 1, 13, none⟩ = some (.int .i64 0) ∧ InoS w k l p g w' := (h.2.2.2.2.2.2.below hb).conj
theorem index_zero8_0 (W : World) : (Instr.index 47 (.agg #[.int .i64 0, .int .i64 0, .int .i64 0, .int .i64 0, .int .i64 0, .int .i64 0, .int .i64 0, .int .i64 0]) (.int .i64 0)).run Tryz.prog W = .ok (.int .i64 0) W := by kernel_rfl
theorem index_zero8_1 (W : World) : (Instr.index 47 (.agg #[.int .i64 0, .int .i64 0, .int .i64 0, .int .i64 0, .int .i64 0, .int .i64 0, .int .i64 0, .int .i64 0]) (.int .i64 1)).run Tryz.prog W = .ok (.int .i64 0) W := by kernel_rfl
theorem index_zero8_2 (W : World) : (Instr.index 47 (.agg #[.int .i64 0, .int .i64 0, .int .i64 0, .int .i64 0, .int .i64 0, .int .i64 0, .int .i64 0, .int .i64 0]) (.int .i64 2)).run Tryz.prog W = .ok (.int .i64 0) W := by kernel_rfl
theorem index_zero8_3 (W : World) : (Instr.index 47 (.agg #[.int .i64 0, .int .i64 0, .int .i64 0, .int .i64 0, .int .i64 0, .int .i64 0, .int .i64 0, .int .i64 0]) (.int .i64 3)).run Tryz.prog W = .ok (.int .i64 0) W := by kernel_rfl
theorem index_zero8_4 (W : World) : (Instr.index 47 (.agg #[.int .i64 0, .int .i64 0, .int .i64 0, .int .i64 0, .int .i64 0, .int .i64 0, .int .i64 0, .int .i64 0]) (.int .i64 4)).run Tryz.prog W = .ok (.int .i64 0) W := by kernel_rfl
theorem index_zero8_5 (W : World) : (Instr.index 47 (.agg #[.int .i64 0, .int .i64 0, .int .i64 0, .int .i64 0, .int .i64 0, .int .i64 0, .int .i64 0, .int .i64 0]) (.int .i64 5)).run Tryz.prog W = .ok (.int .i64 0) W := by kernel_rfl
theorem index_zero8_6 (W : World) : (Instr.index 47 (.agg #[.int .i64 0, .int .i64 0, .int .i64 0, .int .i64 0, .int .i64 0, .int .i64 0, .int .i64 0, .int .i64 0]) (.int .i64 6)).run Tryz.prog W = .ok (.int .i64 0) W := by kernel_rfl
theorem index_zero8_7 (W : World) : (Instr.index 47 (.agg #[.int .i64 0, .int .i64 0, .int .i64 0, .int .i64 0, .int .i64 0, .int .i64 0, .int .i64 0, .int .i64 0]) (.int .i64 7)).run Tryz.prog W = .ok (.int .i64 0) W := by kernel_rfl
theorem index_zero8 (j : Nat) (hj : j < 8) (W : World) : (Instr.index 47 (.agg #[.int .i64 0, .int .i64 0, .int .i64 0, .int .i64 0, .int .i64 0, .int .i64 0, .int .i64 0, .int .i64 0]) (.int .i64 (j : Int))).run Tryz.prog W = .ok (.int .i64 0) W := by
  have h : j = 0 ∨ j = 1 ∨ j = 2 ∨ j = 3 ∨ j = 4 ∨ j = 5 ∨ j = 6 ∨ j = 7 := by omega
  rcases h with rfl | rfl | rfl | rfl | rfl | rfl | rfl | rfl
  · exact index_zero8_0 W
  · exact index_zero8_1 W
  · exact index_zero8_2 W
  · exact index_zero8_3 W
  · exact index_zero8_4 W
  · exact index_zero8_5 W
  · exact index_zero8_6 W
  · exact index_zero8_7 W
def KeptE (w : World) (ps : List (Nat × ByteArray)) (v i : Value) (wr : World) : Prop := ∃ j : Nat, j ≤ 8 ∧ i = .int .i64 j ∧ Below w.heap.size w wr ∧ OwnPs wr w.heap.size v (ps ++ inoD j)
theorem inumc_any (off c n : Int) (w : World) (h : (c = 1 ∧ 0 ≤ off ∧ off ≤ 63 ∧ 0 ≤ n ∧ n < 256) ∨ (c = 2 ∧ 0 ≤ off ∧ off ≤ 62 ∧ 0 ≤ n ∧ n < 65536)) :
    Calls Tryz.prog 51 #[.int .i64 off, .int .i64 c, .int .i64 n] w fun e w' => e = .returned (.agg #[.int .i64 off, .string (str (le n c.toNat))]) ∧ Below w.heap.size w w' := by
  rcases h with ⟨rfl, h1, h2, h3, h4⟩ | ⟨rfl, h1, h2, h3, h4⟩
  · exact inum1_any off n w h1 h2 h3 h4
  · exact inum2_any off n w h1 h2 h3 h4

set_option maxHeartbeats 4000000 in
set_option maxRecDepth 100000 in
theorem iencode_of {A B C : Nat} (k l p g : Int) (s : ByteArray) (hk : 0 ≤ k ∧ k < 256) (hl : 0 ≤ l ∧ l < 256) (hp : 0 ≤ p ∧ p < 65536) (hg : 0 ≤ g ∧ g < 65536)
    (HC : ∀ W : World, Calls Tryz.prog 50 #[.agg #[.int .i64 (A : Int), .int .i64 (B : Int), .int .i64 (C : Int)], inoV k l p g] W fun e w' => e = .returned (.int .i64 0) ∧ Below W.heap.size W w')
    (hs : overs blank (inoP6 k l p g ++ inoD 8) = s) (w : World) :
    Calls Tryz.prog 26 #[.agg #[.int .i64 (A : Int), .int .i64 (B : Int), .int .i64 (C : Int)], inoV k l p g] w fun e w' => e = .returned (.tuple #[.string s, .int .i64 0]) ∧ Below w.heap.size w w' := by
  have HC := Lib.hid HC
  have HS := Lib.hid hs
  have HN := Lib.hid (fun off c n W h => inumc_any off c n W h)
  clear hs
  unfold inoV at *
  go_enter Tryz.func26, Tryz.ntmps26
  go_wp2_with fail
  refine (HC.out _).mono ?_
  rintro e w1 ⟨rfl, hb1⟩
  have S1 : InoS w k l p g w1 := ⟨by (repeat' (first | exact Below.refl _ _ | assumption | refine Below.setCell ?_ ?_ _ | refine Below.drew ?_ | refine below_drewN ?_ _ | refine Below.alloc ?_ ?_ _ | refine below_of_grown ?_ (by assumption) ?_ | refine Below.trans ?_ (Below.mono (by assumption) ?_) | omega | (simp; done) | (simp; omega))), by simpa using (Blk.new (w.alloc (.cells #[.int .i64 (A : Int), .int .i64 (B : Int), .int .i64 (C : Int)] 23)) (inoC k l p g) 49).below hb1⟩
  have HS1 := Lib.hid S1
  clear hb1 S1
  go_wp2_with fail
  go_region_held3 (fun w' => w'.cell? ⟨w.heap.size + 1, 0, none⟩ = some (.int .i64 k) ∧ w'.cell? ⟨w.heap.size + 1, 1, none⟩ = some (.int .i64 l) ∧ w'.cell? ⟨w.heap.size + 1, 2, none⟩ = some (.int .i64 0) ∧ w'.cell? ⟨w.heap.size + 1, 3, none⟩ = some (.int .i64 p) ∧ w'.cell? ⟨w.heap.size + 1, 4, none⟩ = some (.int .i64 g) ∧ w'.cell? ⟨w.heap.size + 1, 13, none⟩ = some (.int .i64 0) ∧ InoS w k l p g w')
    (first
      | exact (HS1.out.below (Below.refl _ w1).drew).conj
      | exact InoS.step hb2 ‹_ ∧ _ ∧ _ ∧ _ ∧ _ ∧ _ ∧ InoS w k l p g _›
      | (refine InoS.step (W := _) ((Below.refl _ _).alloc (Nat.le_refl _) _) ?_; assumption))
    (first
      | (go_at_call 51; refine (HN.out _ _ _ _ ?_).mono ?_; omega; rintro e w2 ⟨rfl, hb2⟩))
  have S3 := InoS.below HS1.out (w' := w2.alloc (.cells #[.int .i64 0, .string (str (le k 1)), .int .i64 1, .string (str (le l 1)), .int .i64 2, .string (str (le 0 2)), .int .i64 4, .string (str (le p 2)), .int .i64 6, .string (str (le g 2)), .int .i64 24, .string (str (le 0 2))] 90))
  have hS3 := ‹_ ∧ _ ∧ _ ∧ _ ∧ _ ∧ _ ∧ InoS w k l p g (w2.alloc _)›
  clear S3
  have S3 := hS3.2.2.2.2.2.2
  have hsz : w.heap.size ≤ w2.heap.size := by
    have h1 := S3.2.lt
    simp at h1
    omega
  have O3 : OwnPs (w2.alloc (.cells #[.int .i64 0, .string (str (le k 1)), .int .i64 1, .string (str (le l 1)), .int .i64 2, .string (str (le 0 2)), .int .i64 4, .string (str (le p 2)), .int .i64 6, .string (str (le g 2)), .int .i64 24, .string (str (le 0 2))] 90)) w.heap.size (.slice (some ⟨w2.heap.size, 0, none⟩) 6 6) (inoP6 k l p g) :=
    ⟨rfl, .inr ⟨w2.heap.size, 6, _, rfl, hsz, Blk.new w2 _ _, Nat.le_refl _, by unfold maxLen; omega, rfl, rfl⟩⟩
  clear hS3 hsz
  have hlen : (inoP6 k l p g).length = 6 := rfl
  have hfit : ∀ q ∈ inoP6 k l p g ++ inoD 8, q.1 + q.2.size ≤ 64 ∧ 0 < q.2.size := by
    intro q hq
    have h1 : ∀ n, (str (le n 1)).size = 1 := fun n => by rw [size_str]; simp [le]
    have h2 : ∀ n, (str (le n 2)).size = 2 := fun n => by rw [size_str]; simp [le]
    simp only [inoP6, inoD, List.range_succ, List.range_zero, List.map_cons, List.map_nil, List.cons_append, List.nil_append, List.mem_cons, List.not_mem_nil, or_false] at hq
    rcases hq with rfl | rfl | rfl | rfl | rfl | rfl | rfl | rfl | rfl | rfl | rfl | rfl | rfl | rfl <;> simp [h1, h2]
  generalize inoP6 k l p g = ps at *
  generalize w2.alloc _ = w3 at *
  have z5 : w3.cell? ⟨w.heap.size + 1, 5, none⟩ = some (.int .i64 0) := S3.2.cell 5
  have z6 : w3.cell? ⟨w.heap.size + 1, 6, none⟩ = some (.int .i64 0) := S3.2.cell 6
  have z7 : w3.cell? ⟨w.heap.size + 1, 7, none⟩ = some (.int .i64 0) := S3.2.cell 7
  have z8 : w3.cell? ⟨w.heap.size + 1, 8, none⟩ = some (.int .i64 0) := S3.2.cell 8
  have z9 : w3.cell? ⟨w.heap.size + 1, 9, none⟩ = some (.int .i64 0) := S3.2.cell 9
  have z10 : w3.cell? ⟨w.heap.size + 1, 10, none⟩ = some (.int .i64 0) := S3.2.cell 10
  have z11 : w3.cell? ⟨w.heap.size + 1, 11, none⟩ = some (.int .i64 0) := S3.2.cell 11
  have z12 : w3.cell? ⟨w.heap.size + 1, 12, none⟩ = some (.int .i64 0) := S3.2.cell 12
  have HO := Lib.hid O3
  have HS3 := Lib.hid S3
  clear O3 S3
  obtain ⟨i0, hi, hz0, hz1, hz2⟩ := info_parts info_patch
  have HBL := Lib.hid (fun W => blank_any W)
  have HF := Lib.hid hfit
  clear hfit
  go_wp2_with fail
  go_loopw [7, 37] (fun v i wr => KeptE w ps v i wr) (fun _ i _ => 8 - (intOf i).toNat)
  case atStart => exact ⟨0, by omega, rfl, HS3.out.1, by rw [show ps ++ inoD 0 = ps from List.append_nil ps]; exact HO.out⟩
  case round =>
    clear HO HS3 z5 z6 z7 z8 z9 z10 z11 z12
    obtain ⟨j, hj, rfl, hbe, hown⟩ := hrel
    have hzr := hbe.size
    by_cases hlt : j < 8
    · have BE := Lib.hid hbe
      have lk : (j : Int) < 8 := by omega
      have lk0 : (0 : Int) ≤ j := by omega
      have hnx := inoD_succ j
      have hln : (ps ++ inoD j).length = 6 + j := by rw [List.length_append, hlen, length_inoD]
      have O2 := Lib.hid hown
      clear hbe hown
      have hix := fun W => index_zero8 j hlt W
      have HNX := Lib.hid hnx
      clear hnx
      go_wp2_with fail
      refine (HN.out _ _ _ _ (by omega)).mono ?_
      rintro e w4 ⟨rfl, hb4⟩
      have B4 := Lib.hid (BE.out.trans (Below.mono hb4 hzr))
      have O4 := Lib.hid (O2.out.below hb4)
      have hz4 := hb4.size
      clear hb4 BE O2
      have hown := O4.out
      unfold OwnPs at hown
      rw [hln] at hown
      go_wp2_with (at_builtin; refine wpList_append_own _ rfl _ _ 97 rfl w.heap.size 90 i0 (.agg #[.int .i64 0, .string ⟨#[]⟩]) 2 24 Tryz.underlying97 hi hz0 hz1 hz2 rfl (by decide) _ _ _ rfl (hown.alloc _) ⟨w4.heap.size, 0, none⟩ 1 1 [.int .i64 (8 + 2 * (j : Int)), .string (str (le 0 2))] rfl rfl ?c1 ?c2 ?c3 ?c4 ?c5 ?_)
      case c1 => exact cell_two_new _ _ _ _
      case c2 => simp [Value.oneCell']
      case c3 => unfold maxLen; omega
      case c4 => omega
      case c5 => simp; omega
      intro v6 w6 hown6 hgrow6 _
      have O6 : OwnPs w6 w.heap.size v6 (ps ++ inoD (j + 1)) := by
        unfold OwnPs
        rw [HNX.out, ← List.append_assoc, patV_append, List.length_append, hln]
        have e : (8 + 2 * (j : Int)) = ((8 + 2 * j : Nat) : Int) := by omega
        rw [e] at hown6
        exact hown6
      have B6 : Below w.heap.size w w6 := (B4.out.alloc B4.out.size (.cells #[.int .i64 (8 + 2 * (j : Int)), .string (str (le 0 2))] 90)).grown hgrow6 (by simp; omega) (fun g hg => (hown.lt g hg).1)
      have HN6 := Lib.hid (show KeptE w ps v6 (.int .i64 ((j : Int) + 1)) w6 from ⟨j + 1, by omega, by simp, B6, O6⟩)
      clear hown hown6 hgrow6 O6 B6 B4 O4
      go_wp2_with fail
      exact ⟨HN6.out, by simp [intOf]; omega⟩
    · obtain rfl : j = 8 := by omega
      obtain ⟨g9, c9, rfl, hg9, hc9⟩ := hown.form (by rw [List.length_append]; omega)
      have BE := Lib.hid hbe
      have HC9 := Lib.hid hc9
      have hl14 : (ps ++ inoD 8).length = 14 := by rw [List.length_append, hlen, length_inoD]
      clear hbe hown hc9
      rw [hl14]
      go_wp2_with fail
      refine (HBL.out _).mono ?_
      rintro e w4 ⟨rfl, hb4⟩
      have B4 := Lib.hid (BE.out.trans (Below.mono hb4 hzr))
      have HP := patched_any blank (ps ++ inoD 8) g9 0 c9 w4 (by decide +kernel) (by omega) (by have := hb4.size; omega) HF.out (fun i q hq => by
        rw [hb4.cell (by simpa using hg9), hb4.cell (by simpa using hg9)]
        exact HC9.out i q hq)
      rw [HS.out, hl14] at HP
      have HP' := Lib.hid HP
      clear HP hb4 BE
      go_wp2_with fail
      refine HP'.out.mono ?_
      rintro e w5 ⟨rfl, hb5⟩
      have B5 := Lib.hid (B4.out.trans (Below.mono hb5 B4.out.size))
      clear hb5
      go_wp2_with fail
      refine bodyPost_ret (v := .tuple #[.string s, .int .i64 0]) (by simp [results, Tryz.results26, go_sem]) rfl ⟨rfl, B5.out⟩

/-- The root's sector. -/
def rootS : ByteArray := overs blank (inoP6 2 1 1 1 ++ inoD 8)
theorem iencode_root {A B C : Nat} (G : Geo A B C) (w : World) :
    Calls Tryz.prog 26 #[.agg #[.int .i64 (A : Int), .int .i64 (B : Int), .int .i64 (C : Int)], inoV 2 1 1 1] w fun e w' => e = .returned (.tuple #[.string rootS, .int .i64 0]) ∧ Below w.heap.size w w' :=
  iencode_of 2 1 1 1 rootS (by omega) (by omega) (by omega) (by omega) (fun W => icheck_root G W) rfl w
theorem iencode_free {A B C : Nat} (G : Geo A B C) (w : World) :
    Calls Tryz.prog 26 #[.agg #[.int .i64 (A : Int), .int .i64 (B : Int), .int .i64 (C : Int)], inoV 0 0 0 0] w fun e w' => e = .returned (.tuple #[.string blank, .int .i64 0]) ∧ Below w.heap.size w w' :=
  iencode_of 0 0 0 0 blank (by omega) (by omega) (by omega) (by omega) (fun W => icheck_free G W) (by decide +kernel) w
end Go.Proofs.YtghggelkmhdhfaaGreatDoor
