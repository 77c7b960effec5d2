
/-
  The sectors of an empty file system: alloc.Format, walked.
-/
import Derived.Test.YtghggelkmhdhfaaGreatDoorTIDec
import Derived.Test.YtghggelkmhdhfaaGreatDoorTEncode
import Derived.Test.YtghggelkmhdhfaaGreatDoorTDecode
import Derived.Test.YtghggelkmhdhfaaGreatDoorEnc
import Derived.Test.YtghggelkmhdhfaaGreatDoorFence
import Derived.Test.YtghggelkmhdhfaaGreatDoorMOf
import Derived.Laws.CopyRow
import Derived.Laws.CopyOwn
namespace Go.Proofs.YtghggelkmhdhfaaGreatDoor
open Go.RowKit

/-- The sectors, place by place. -/
def fmtF (A B C : Nat) (i : Nat) : ByteArray :=
  if i = fiN A B C 0 + 2 then rootS else if i = fiN A B C 0 then ofS [0] else if i = 1 then fenceS 0 0 else if i = 0 then sector0 (A : Int) (B : Int) (C : Int) else blank
/-- What Format hands back. -/
def FmtIs (w : World) (A B C : Nat) (e : Ending) (w' : World) : Prop :=
  ∃ g, e = .returned (.tuple #[.slice (some ⟨g, 0, none⟩) (fiN A B C A) (fiN A B C A), .int .i64 0]) ∧ w.heap.size ≤ g ∧ Below w.heap.size w w' ∧ Blk w' g (strC (fiN A B C A) (fmtF A B C)) 9

/-- A copy that copies what is there. -/
theorem copy_same (W : World) (g g2 n T : Nat) (f : Nat → ByteArray) (hg : Blk W g (strC n f) 9) (hg2 : Blk W g2 (strC T fun _ => blank) 9) (hT : 2 + T ≤ n) (hf : ∀ i, 2 ≤ i → i < 2 + T → f i = blank) :
    (Builtin.copy_ #[25, 25] 3 #[.slice (some ⟨g, 2, none⟩) (n - 2) (n - 2), .slice (some ⟨g2, 0, none⟩) T T]).run Tryz.prog W = .ok (goInt T) W := by
  have hl : (((strC n f).toList.drop 2).take T).length = T := by
    rw [List.length_take, List.length_drop, Array.length_toList, size_strC]
    omega
  have hget : ∀ j, j < T → (((strC n f).toList.drop 2).take T)[j]? = some (.string blank) := fun j hj => by
    rw [List.getElem?_take, if_pos hj, List.getElem?_drop, Array.getElem?_toList, strC_get f (by omega), hf (2 + j) (by omega) (by omega)]
  have h := run_copy_row (P := Tryz.prog) W 25 25 3 9 g 2 (n - 2) (n - 2) ⟨g2, 0, none⟩ T T (strC n f) 9 (((strC n f).toList.drop 2).take T) Tryz.underlying25 (by kernel_rfl) hg
    (by rw [hl]; exact (Nat.min_eq_left (by omega)).symm)
    (fun j v hv => by
      have hj : j < T := by
        have := (List.getElem?_eq_some_iff.1 hv).1
        omega
      rw [hget j hj] at hv
      cases hv
      rw [Addr.add_lit, hg2.cell, Nat.zero_add, strC_get _ hj])
    (by rw [hl, size_strC]; exact hT)
    (fun v hv => by
      obtain ⟨j, hj⟩ := List.mem_iff_getElem?.1 hv
      have hj' : j < T := by
        have := (List.getElem?_eq_some_iff.1 hj).1
        omega
      rw [hget j hj'] at hj
      cases hj
      rfl)
  have he : ((strC n f).toList.take 2 ++ ((strC n f).toList.drop 2).take T ++ (strC n f).toList.drop (2 + T)).toArray = strC n f := by
    rw [← List.drop_drop, List.append_assoc, List.take_append_drop, List.take_append_drop]
  rw [hl, he, setRow_self W g _ _ _ hg] at h
  exact h

/-- New leases are free. -/
theorem made_leases (m j : Nat) (hj : j < m) : (madeCells #[Value.int .i64 0, Value.int .i64 0] m).toList[j]? = some (.int .i64 0) := by
  have h2 : j % 2 = 0 ∨ j % 2 = 1 := by omega
  have e : (madeCells #[Value.int .i64 0, Value.int .i64 0] m)[j]? = some ((#[Value.int .i64 0, Value.int .i64 0] : Array Value)[j % 2]!) := by simp [madeCells, hj]
  rw [Array.getElem?_toList, e]
  rcases h2 with h | h <;> rw [h] <;> rfl
theorem make_leases (R : Nat) (hR : R ≤ 132) : ∃ mk : World → World, ∀ W : World, (Instr.makeSlice 35 (.int .i64 (R : Int)) (.int .i64 (R : Int))).run Tryz.prog W = .ok (.slice (some ⟨W.heap.size, 0, none⟩) R R) (mk W) ∧ Below W.heap.size W (mk W) ∧ FreeL (mk W) (some ⟨W.heap.size, 0, none⟩) R := by
  obtain ⟨i0, hi, hz0, hz1, hz2⟩ := info_parts info_lease
  have h : ∀ W : World, ∃ w' : World, (Instr.makeSlice 35 (.int .i64 (R : Int)) (.int .i64 (R : Int))).run Tryz.prog W = .ok (.slice (some ⟨W.heap.size, 0, none⟩) R R) w' ∧ Below W.heap.size W w' ∧ FreeL w' (some ⟨W.heap.size, 0, none⟩) R := fun W => by
    obtain ⟨w', hrun, r1, r2⟩ := run_make_full (P := Tryz.prog) W W.heap.size 35 72 i0 (.agg #[.int .i64 0, .int .i64 0]) 2 Tryz.underlying35 hi hz0 hz1 .i64 .i64 R (by rw [hz2]; omega) (by unfold maxLen; omega) (Nat.le_refl _)
    have hlt : W.heap.size < w'.heap.size := by
      obtain ⟨_, ⟨h0, _⟩ | ⟨g, cap, cur, hv, _, hg, _⟩⟩ := r1
      · cases h0
      · cases hv
        exact (Array.getElem?_eq_some_iff.1 hg).1
    refine ⟨w', hrun, below_of_grown (Below.refl _ _) r2 (Nat.le_refl _), W.heap.size, 0, rfl, hlt, fun i hiR => ⟨?_, ?_⟩⟩
    · have hc := World.ownsRow.cells r1 (g := W.heap.size) rfl (i * 2) (.int .i64 0) (made_leases _ _ (by omega))
      rwa [Addr.add_lit] at hc
    · have hc := World.ownsRow.cells r1 (g := W.heap.size) rfl (i * 2 + 1) (.int .i64 0) (made_leases _ _ (by omega))
      rwa [Addr.add_lit] at hc
  exact ⟨fun W => (h W).choose, fun W => (h W).choose_spec⟩

/-- What Format keeps. -/
def FmS (w : World) (A B C g n : Nat) (f : Nat → ByteArray) (W : World) : Prop := Below w.heap.size w W ∧ Blk W g (strC n f) 9 ∧ Box W w.heap.size A B C
theorem FmS.below {w W w' : World} {A B C g n : Nat} {f : Nat → ByteArray} (h : FmS w A B C g n f W) (hb : Below W.heap.size W w') : FmS w A B C g n f w' := ⟨h.1.trans (hb.mono h.1.size), h.2.1.below hb, h.2.2.below hb⟩
theorem FmS.set {w W : World} {A B C g n : Nat} {f : Nat → ByteArray} (h : FmS w A B C g n f W) (hg : w.heap.size < g) (x : Nat) (s : ByteArray) : FmS w A B C g n (fun i => if i = x then s else f i) (W.setCell ⟨g, x, none⟩ (.string s)) := by
  have hd := h.2.1.setCell x (.string s)
  rw [strC_step] at hd
  exact ⟨h.1.setCell (by simp; omega) _, hd, h.2.2.setCell (by omega) _ _⟩
theorem FmS.at {w W : World} {A B C g n : Nat} {f : Nat → ByteArray} (h : FmS w A B C g n f W) (x : Nat) (hx : x < n) : W.cell? ⟨g, x, none⟩ = some (.string (f x)) := by rw [h.2.1.cell, strC_get _ hx]
theorem FmS.step {w W w' : World} {A B C g n : Nat} {f : Nat → ByteArray} {p1 p2 p3 : Prop} (hb : Below W.heap.size W w') (h : p1 ∧ p2 ∧ p3 ∧ FmS w A B C g n f W) :
    w'.cell? ⟨w.heap.size, 0, none⟩ = some (.int .i64 (A : Int)) ∧ w'.cell? ⟨w.heap.size, 1, none⟩ = some (.int .i64 (B : Int)) ∧ w'.cell? ⟨w.heap.size, 2, none⟩ = some (.int .i64 (C : Int)) ∧ FmS w A B C g n f w' :=
  ⟨(h.2.2.2.below hb).2.2.1, (h.2.2.2.below hb).2.2.2.1, (h.2.2.2.below hb).2.2.2.2, h.2.2.2.below hb⟩

set_option maxHeartbeats 1000000 in
theorem format_no (a b c : Int) (w : World) (h : geomOk a b c = false) :
    Calls Tryz.prog 5 #[.agg #[.int .i64 a, .int .i64 b, .int .i64 c]] w fun e w' => e = .returned (.tuple #[.slice none 0 0, .int .i64 4]) ∧ Below w.heap.size w w' := by
  have HC := Lib.hid (fun W => check_no a b c W h)
  go_enter Tryz.func5, Tryz.ntmps5
  go_wp2_with fail
  refine (HC.out _).mono ?_
  rintro e w1 ⟨rfl, hb1⟩
  have hb1' : Below w.heap.size w w1 := by (repeat' (first | exact Below.refl _ _ | assumption | refine Below.setCell ?_ ?_ _ | refine Below.drew ?_ | refine below_drewN ?_ _ | refine Below.alloc ?_ ?_ _ | refine below_of_grown ?_ (by assumption) ?_ | refine Below.trans ?_ (Below.mono (by assumption) ?_) | omega | (simp; done) | (simp; omega)))
  clear hb1
  go_wp2_with fail
  go_ret2
  exact ⟨rfl, hb1'⟩

set_option maxHeartbeats 4000000 in
set_option maxRecDepth 100000 in
theorem format_any {A B C : Nat} (G : Geo A B C) (w : World) :
    Calls Tryz.prog 5 #[.agg #[.int .i64 (A : Int), .int .i64 (B : Int), .int .i64 (C : Int)]] w (FmtIs w A B C) := by
  have HC := Lib.hid (fun W => check_yes A B C W G.ok)
  have HZ := Lib.hid (fun W => size_any G W)
  have HBL := Lib.hid (fun W => blank_any W)
  have HS0 := Lib.hid (fun W => encode_yes A B C W G.ok)
  have HF0 := Lib.hid (fun W => fence_any 0 0 W)
  have HR := Lib.hid (fun W => regions_any G W)
  have HT := Lib.hid (fun a c W h => tencode_any G a c W h)
  have HM := Lib.hid (fun W => map_any G W)
  have HI := Lib.hid (fun W => root_any G W)
  have HE := Lib.hid (fun W => iencode_root G W)
  have hB32 : 1 ≤ B ∧ B ≤ 64 := by
    obtain ⟨_, _, h3, h4, _, _⟩ := G
    omega
  have HO := Lib.hid (fun a c W h => of_any B [0] a c W hB32.1 hB32.2 (by simp; omega) (by simp) h)
  have hf1 := fiN_le (k := 0) G (Nat.zero_le _)
  have hf2 := fiN_le (k := A) G (Nat.le_refl _)
  have hl := lgN_le G
  have htn := tsN_le G
  have hrn := rgN_le G
  have hlast : fiN A B C 0 + 2 < fiN A B C A := by
    have h1 := G.1
    have hA : lgN B C ≤ A * lgN B C := Nat.le_mul_of_pos_left _ (by omega)
    rw [fi_succ A B C A]
    omega
  have hfT : fiN A B C 0 = 2 + tsN A B := by unfold fiN; omega
  obtain ⟨f, hfd⟩ : ∃ f, f = fmtF A B C := ⟨_, rfl⟩
  have HFD := Lib.hid hfd
  obtain ⟨i0, hi, hz0, hz1, hz2⟩ := info_parts info_str
  unfold FmtIs
  generalize fiN A B C A = n at *
  clear hfd
  go_enter Tryz.func5, Tryz.ntmps5
  go_wp2_with fail
  refine (HC.out _).mono ?_
  rintro e w1 ⟨rfl, hb1⟩
  have X1 : Box w1 w.heap.size A B C := ⟨by rw [hb1.cell (by simp <;> omega)]; simp [go_sem], by rw [hb1.cell (by simp <;> omega)]; simp [go_sem], by rw [hb1.cell (by simp <;> omega)]; simp [go_sem]⟩
  have B1 : Below w.heap.size w w1 := by (repeat' (first | exact Below.refl _ _ | assumption | refine Below.setCell ?_ ?_ _ | refine Below.drew ?_ | refine below_drewN ?_ _ | refine Below.alloc ?_ ?_ _ | refine below_of_grown ?_ (by assumption) ?_ | refine Below.trans ?_ (Below.mono (by assumption) ?_) | omega | (simp; done) | (simp; omega)))
  clear hb1
  have c0 := X1.1
  have c1 := X1.2.1
  have c2 := X1.2.2
  have X1' := Lib.hid X1
  clear X1
  go_wp2_with fail
  refine (HZ.out _).mono ?_
  rintro e w2 ⟨rfl, hb2⟩
  have B2 := B1.trans (hb2.mono B1.size)
  have X2 := X1'.out.below hb2
  have l2 := X2.lt
  clear hb2 B1 X1' c0 c1 c2
  go_wp2_with (first | (at_make; refine wpList_make_full _ rfl _ _ 25 rfl w2.heap.size 9 i0 (.string ⟨#[]⟩) 1 Tryz.underlying25 hi hz0 hz1 _ _ _ _ n rfl rfl rfl rfl ?b1 ?b2 ?b3 ?_))
  case b1 => rw [hz2]; omega
  case b2 => unfold maxLen; omega
  case b3 => exact Nat.le_refl _
  intro w3 hown hgrow
  have hblk := own_block hown
  rw [strC_made] at hblk
  have D3 := Lib.hid (show Blk w3 w2.heap.size (strC n fun _ => ⟨#[]⟩) 9 from hblk)
  have hb3 := below_of_grown (Below.refl w2.heap.size w2) hgrow (Nat.le_refl _)
  have B3 := Lib.hid (B2.trans (hb3.mono B2.size))
  have X3 := Lib.hid (X2.below hb3)
  have hg2 : w.heap.size < w2.heap.size := l2
  clear hown hgrow hblk hb3 B2 X2 l2
  generalize w2.heap.size = g at *
  go_wp2_with fail
  go_loopw [21] (fun i wr => KeptB w A B C g n i wr) (fun i _ => n - (intOf i).toNat)
  case atStart => exact ⟨0, by omega, rfl, B3.out, by simpa using D3.out, X3.out⟩
  case round =>
    clear B3 D3 X3
    obtain ⟨k, hk, rfl, hbe, hblk, hbox⟩ := hrel
    have hzr := hbe.size
    have hgl := hblk.lt
    by_cases hlt : k < n
    · have BE := Lib.hid hbe
      have D := Lib.hid hblk
      have X := Lib.hid hbox
      have lk : (k : Int) < n := by omega
      have lk0 : (0 : Int) ≤ k := by omega
      clear hbe hblk hbox
      go_wp2_with fail
      refine (HBL.out _).mono ?_
      rintro e w4 ⟨rfl, hb4⟩
      have B4 := BE.out.trans (Below.mono hb4 hzr)
      have D4 := D.out.below hb4
      have X4 := X.out.below hb4
      have c0 : w4.cell? ⟨g, k, none⟩ = some (.string ⟨#[]⟩) := by rw [D4.cell, strC_get _ hlt, if_neg (by omega)]
      have cf : ∀ o, w4.frozen? ⟨g, o, none⟩ = false := D4.free
      have D5 := D4.setCell k (.string blank)
      rw [strC_step, strC_congr (f' := fun i => if i < k + 1 then blank else ⟨#[]⟩) (fun i _ => by
        by_cases h1 : i = k
        · rw [if_pos h1, if_pos (by omega)]
        · rw [if_neg h1]
          by_cases h2 : i < k
          · rw [if_pos h2, if_pos (by omega)]
          · rw [if_neg h2, if_neg (by omega)])] at D5
      have HN := Lib.hid (show KeptB w A B C g n (.int .i64 ((k : Int) + 1)) (w4.setCell ⟨g, k, none⟩ (.string blank)) from ⟨k + 1, by omega, by simp, B4.setCell (by simp; omega) _, D5, X4.setCell (by omega) _ _⟩)
      clear B4 D4 X4 D5 BE D X hb4
      go_wp2_with fail
      exact ⟨HN.out, by simp [intOf]; omega⟩
    · obtain rfl : k = n := by omega
      rw [strC_congr (f' := fun _ => blank) (fun i hi => by rw [if_pos hi])] at hblk
      have S3 := Lib.hid (show FmS w A B C g k (fun _ => blank) wr from ⟨hbe, hblk, hbox⟩)
      have b0 := hbox.1
      have b1 := hbox.2.1
      have b2 := hbox.2.2
      have lk0 : (0 : Int) < k := by omega
      have lk1 : (1 : Int) < k := by omega
      have lk2 : (2 : Int) ≤ k := by omega
      clear hbe hblk hbox
      go_wp2_with fail
      refine (HS0.out _).mono ?_
      rintro e w4 ⟨rfl, hb4⟩
      have S4 := Lib.hid (S3.out.below hb4)
      clear hb4 S3 b0 b1 b2
      have q0 := S4.out.at 0 (by omega)
      have qf : ∀ o, w4.frozen? ⟨g, o, none⟩ = false := S4.out.2.1.free
      have S5 := Lib.hid (S4.out.set hg2 0 (sector0 A B C))
      clear S4
      go_wp2_with fail
      generalize w4.setCell ⟨g, 0, none⟩ (.string (sector0 A B C)) = w5 at *
      clear q0 qf
      refine (HF0.out _).mono ?_
      rintro e w6 ⟨rfl, hb6⟩
      have S6 := Lib.hid (S5.out.below hb6)
      clear hb6 S5
      have q0 := S6.out.at 1 (by omega)
      have qf : ∀ o, w6.frozen? ⟨g, o, none⟩ = false := S6.out.2.1.free
      have S7 := Lib.hid (S6.out.set hg2 1 (fenceS 0 0))
      clear S6
      go_wp2_with fail
      generalize w6.setCell ⟨g, 1, none⟩ (.string (fenceS 0 0)) = w7 at *
      clear q0 qf
      obtain ⟨mk, hmk⟩ := make_leases (rgN A B) hrn.1
      have hmk1 := fun W => (hmk W).1
      have HMB := Lib.hid (fun W => (hmk W).2.1)
      have HMF := Lib.hid (fun W => (hmk W).2.2)
      clear hmk
      obtain ⟨f7, hf7⟩ : ∃ f7 : Nat → ByteArray, f7 = fun i => if i = 1 then fenceS 0 0 else if i = 0 then sector0 (A : Int) (B : Int) (C : Int) else blank := ⟨_, rfl⟩
      rw [← hf7] at S7
      have HF7 := Lib.hid hf7
      clear hf7
      obtain ⟨_, _, b0, b1, b2⟩ := S7.out
      go_region_held3 (fun w' => w'.cell? ⟨w.heap.size, 0, none⟩ = some (.int .i64 (A : Int)) ∧ w'.cell? ⟨w.heap.size, 1, none⟩ = some (.int .i64 (B : Int)) ∧ w'.cell? ⟨w.heap.size, 2, none⟩ = some (.int .i64 (C : Int)) ∧ FmS w A B C g k f7 w')
        (first
          | exact FmS.step (Below.refl _ w7).drew ⟨b0, b1, b2, S7.out⟩
          | exact FmS.step hb10 ‹_ ∧ _ ∧ _ ∧ FmS w A B C g k f7 _›
          | exact FmS.step (HMB.out _) ‹_ ∧ _ ∧ _ ∧ FmS w A B C g k f7 _›
          | exact FmS.step hb8 ‹_ ∧ _ ∧ _ ∧ FmS w A B C g k f7 _›)
        (first
          | (go_at_call 10; refine (HR.out _).mono ?_; rintro e w8 ⟨rfl, hb8⟩)
          | (go_at_call 22; refine (HT.out _ _ _ (HMF.out _)).mono ?_; rintro e w10 ⟨g2, rfl, hg10, hb10, hD10⟩))
      have S10 := Lib.hid ‹_ ∧ _ ∧ _ ∧ FmS w A B C g k f7 w10›.2.2.2
      have hcp := copy_same w10 g g2 k (tsN A B) f7 S10.out.2.1 hD10 (by omega) (fun i h1 h2 => by rw [HF7.out]; simp only [if_neg (show ¬ i = 1 by omega), if_neg (show ¬ i = 0 by omega)])
      obtain ⟨_, _, d0, d1, d2⟩ := S10.out
      clear hb8 hb10 hD10 hg10 b0 b1 b2 hmk1 S7 hfT
      go_wp2_with fail
      refine (HM.out _).mono ?_
      rintro e w11 ⟨rfl, hb11⟩
      have S11 := Lib.hid (S10.out.below hb11)
      clear hb11 S10 hcp d0 d1 d2
      obtain ⟨F, hF⟩ : ∃ F, F = fiN A B C 0 := ⟨_, rfl⟩
      have HFF := Lib.hid hF
      rw [← hF] at hf1 hlast HI ⊢
      clear hF
      have lF0 : (0 : Int) ≤ F := by omega
      have lF1 : (F : Int) < k := by omega
      have lF2 : ((F + 2 : Nat) : Int) < k := by omega
      have lF3 : (0 : Int) ≤ ((F + 2 : Nat) : Int) := by omega
      obtain ⟨_, _, d0, d1, d2⟩ := S11.out
      go_wp2_with fail
      refine (HO.out (some ⟨w11.heap.size, 0, none⟩) 1 _ ?_).mono ?_
      · intro i x hix
        have h0 : i = 0 := by
          have := (List.getElem?_eq_some_iff.1 hix).1
          simpa using this
        subst h0
        simp at hix
        subst hix
        exact ⟨w11.heap.size, 0, rfl, by simp, by simp [go_sem]⟩
      rintro e w12 ⟨rfl, hb12⟩
      have S12 := Lib.hid (S11.out.below (((Below.refl _ w11).alloc (Nat.le_refl _) (.cells #[.int .i64 0] 3)).trans (hb12.mono (by simp))))
      clear hb12 S11 d0 d1 d2
      have q0 := S12.out.at F (by omega)
      have qf : ∀ o, w12.frozen? ⟨g, o, none⟩ = false := S12.out.2.1.free
      obtain ⟨_, _, d0, d1, d2⟩ := S12.out
      have S13 := Lib.hid (S12.out.set hg2 F (ofS [0]))
      have hne : ¬ w.heap.size = g := by omega
      have hne2 : ¬ g = w.heap.size := by omega
      clear S12
      go_wp2_with fail
      generalize w12.setCell ⟨g, F, none⟩ (.string (ofS [0])) = w13 at *
      clear q0 qf d0 d1 d2
      refine (HI.out _).mono ?_
      rintro e w14 ⟨rfl, hb14⟩
      have S14 := Lib.hid (S13.out.below hb14)
      clear hb14 S13
      obtain ⟨_, _, d0, d1, d2⟩ := S14.out
      go_wp2_with fail
      refine (HE.out _).mono ?_
      rintro e w15 ⟨rfl, hb15⟩
      have S15 := Lib.hid (S14.out.below hb15)
      clear hb15 S14 d0 d1 d2
      have q0 := S15.out.at (F + 2) (by omega)
      have qf : ∀ o, w15.frozen? ⟨g, o, none⟩ = false := S15.out.2.1.free
      have S16 := Lib.hid (S15.out.set hg2 (F + 2) rootS)
      clear S15
      go_wp2_with fail
      refine bodyPost_ret (v := .tuple #[.slice (some ⟨g, 0, none⟩) k k, .int .i64 0]) (by simp [results, Tryz.results5, go_sem]) rfl ⟨g, rfl, by omega, S16.out.1, ?_⟩
      have hS := S16.out.2.1
      have hfe : (fun i => if i = F + 2 then rootS else if i = F then ofS [0] else f7 i) = fmtF A B C := by
        rw [HF7.out, HFF.out]
        rfl
      rw [hfe] at hS
      exact hS
end Go.Proofs.YtghggelkmhdhfaaGreatDoor
