
/-
  An empty file system is one: TopEmpty, walked. An empty file system is one, of any geometry: TopEmpty, walked.
-/
import Derived.Test.YtghggelkmhdhfaaGreatDoorTPlainM
import Derived.Test.YtghggelkmhdhfaaGreatDoorTHeld
namespace Go.Proofs.YtghggelkmhdhfaaGreatDoor
open Go.RowKit

set_option maxHeartbeats 1000000 in
set_option maxRecDepth 100000 in
theorem topempty_no (a b c : Int) (w : World) (h : geomOk a b c = false) :
    Calls Tryz.prog 3 #[.agg #[.int .i64 a, .int .i64 b, .int .i64 c]] w fun e w' => e = .returned (.bool true) ∧ Below w.heap.size w w' := by
  have HB := Lib.hid (fun W => begins_any W)
  have HF := Lib.hid (fun W => format_no a b c W h)
  have HC := Lib.hid (fun W => check_no a b c W h)
  go_enter Tryz.func3, Tryz.ntmps3
  go_wp2_with fail
  refine (HB.out _).mono ?_
  rintro e w1 ⟨rfl, hb1⟩
  have c0 : w1.cell? ⟨w.heap.size, 0, none⟩ = some (.int .i64 a) := by rw [hb1.cell (by simp <;> omega)]; simp [go_sem]
  have c1 : w1.cell? ⟨w.heap.size, 1, none⟩ = some (.int .i64 b) := by rw [hb1.cell (by simp <;> omega)]; simp [go_sem]
  have c2 : w1.cell? ⟨w.heap.size, 2, none⟩ = some (.int .i64 c) := by rw [hb1.cell (by simp <;> omega)]; simp [go_sem]
  have B1 : Below w.heap.size w w1 := by (repeat' (first | exact Below.refl _ _ | assumption | refine Below.setCell ?_ ?_ _ | refine Below.drew ?_ | refine below_drewN ?_ _ | refine Below.alloc ?_ ?_ _ | refine below_of_grown ?_ (by assumption) ?_ | refine Below.trans ?_ (Below.mono (by assumption) ?_) | omega | (simp; done) | (simp; omega)))
  have hlt : w.heap.size < w1.heap.size := World.block_lt_of_cell? w1 _ c0
  clear hb1
  go_wp2_with fail
  refine (HF.out _).mono ?_
  rintro e w2 ⟨rfl, hb2⟩
  have d0 : w2.cell? ⟨w.heap.size, 0, none⟩ = some (.int .i64 a) := by rw [hb2.cell (by simpa using hlt)]; exact c0
  have d1 : w2.cell? ⟨w.heap.size, 1, none⟩ = some (.int .i64 b) := by rw [hb2.cell (by simpa using hlt)]; exact c1
  have d2 : w2.cell? ⟨w.heap.size, 2, none⟩ = some (.int .i64 c) := by rw [hb2.cell (by simpa using hlt)]; exact c2
  have B2 : Below w.heap.size w w2 := B1.trans (hb2.mono B1.size)
  clear hb2 c0 c1 c2 B1
  go_wp2_with fail
  refine (HC.out _).mono ?_
  rintro e w3 ⟨rfl, hb3⟩
  have B3 : Below w.heap.size w w3 := B2.trans (hb3.mono B2.size)
  clear hb3 d0 d1 d2 B2
  go_wp2_with fail
  go_ret
  exact ⟨rfl, B3⟩

/-- What TopEmpty keeps. -/
def TopS (w : World) (A B C g n : Nat) (F : Nat → ByteArray) (W : World) : Prop := Below w.heap.size w W ∧ Blk W g (strC n F) 9 ∧ Box W w.heap.size A B C
theorem TopS.below {w W w' : World} {A B C g n : Nat} {F : Nat → ByteArray} (h : TopS w A B C g n F W) (hb : Below W.heap.size W w') : TopS w A B C g n F w' := ⟨h.1.trans (hb.mono h.1.size), h.2.1.below hb, h.2.2.below hb⟩
theorem TopS.at {w W : World} {A B C g n : Nat} {F : Nat → ByteArray} (h : TopS w A B C g n F W) (x : Nat) (hx : x < n) : W.cell? ⟨g, x, none⟩ = some (.string (F x)) := by rw [h.2.1.cell, strC_get _ hx]
set_option maxRecDepth 100000 in
theorem cut_table (W : World) (g n T : Nat) (h : 2 + T ≤ n) (hT : 1 ≤ T) : (Instr.slice 25 (.slice (some ⟨g, 0, none⟩) n n) (some (.int .i64 2)) (some (.int .i64 (2 + (T : Int)))) none).run Tryz.prog W = .ok (.slice (some ⟨g, 2, none⟩) T (n - 2)) W := by
  have hz : (sizeOf (Tryz.prog.elem 25)).run Tryz.prog W = .ok 1 W := by kernel_rfl
  have ht : (2 + (T : Int)).toNat - 2 = T := by omega
  have hne : ¬ n = 2 := by omega
  rw [run_slice_lh (P := Tryz.prog) (ht := Tryz.underlying25) (h0 := by omega) (h1 := by omega) (h2 := by omega), hz]
  simp [sliced, hne, ht, Result.andThen, Addr.add_lit]
theorem eq_pair (w : World) : (Op.equalIn 10000 32 (.agg #[.int .i64 0, .int .i64 0]) (.agg #[.int .i64 0, .int .i64 0])).run Tryz.prog w = .ok true w := by kernel_rfl
def KeptTop (w : World) (A B C g n : Nat) (F : Nat → ByteArray) (i : Value) (wr : World) : Prop := ∃ k : Nat, k ≤ n ∧ i = .int .i64 k ∧ TopS w A B C g n F wr
theorem TopS.lt {w W : World} {A B C g n : Nat} {F : Nat → ByteArray} (h : TopS w A B C g n F W) : g < W.heap.size := h.2.1.lt
theorem TopS.blank {w W : World} {A B C g n i : Nat} {F : Nat → ByteArray} (h : TopS w A B C g n F W) (hi : 2 + i < n) (hb : F (2 + i) = blank) : W.cell? ⟨g, 2 + i, none⟩ = some (.string blank) := by rw [h.at _ hi, hb]
theorem top_step {w W w' : World} {A B C g n x y : Nat} {F : Nat → ByteArray} (hb : Below W.heap.size W w') (h : W.cell? ⟨w.heap.size, 0, none⟩ = some (.int .i64 (A : Int)) ∧ W.cell? ⟨w.heap.size, 1, none⟩ = some (.int .i64 (B : Int)) ∧ W.cell? ⟨w.heap.size, 2, none⟩ = some (.int .i64 (C : Int)) ∧ W.cell? ⟨x, 0, none⟩ = some (.int .i64 (A : Int)) ∧ W.cell? ⟨x, 1, none⟩ = some (.int .i64 (B : Int)) ∧ W.cell? ⟨x, 2, none⟩ = some (.int .i64 (C : Int)) ∧ W.cell? ⟨y, 0, none⟩ = some (.int .i64 0) ∧ W.cell? ⟨y, 1, none⟩ = some (.int .i64 0) ∧ TopS w A B C g n F W) : w'.cell? ⟨w.heap.size, 0, none⟩ = some (.int .i64 (A : Int)) ∧ w'.cell? ⟨w.heap.size, 1, none⟩ = some (.int .i64 (B : Int)) ∧ w'.cell? ⟨w.heap.size, 2, none⟩ = some (.int .i64 (C : Int)) ∧ w'.cell? ⟨x, 0, none⟩ = some (.int .i64 (A : Int)) ∧ w'.cell? ⟨x, 1, none⟩ = some (.int .i64 (B : Int)) ∧ w'.cell? ⟨x, 2, none⟩ = some (.int .i64 (C : Int)) ∧ w'.cell? ⟨y, 0, none⟩ = some (.int .i64 0) ∧ w'.cell? ⟨y, 1, none⟩ = some (.int .i64 0) ∧ TopS w A B C g n F w' := by
  obtain ⟨h0, h1, h2, h3, h4, h5, h6, h7, h8⟩ := h
  have e : ∀ q v, W.cell? q = some v → w'.cell? q = some v := fun q v h => by rw [hb.cell (World.block_lt_of_cell? _ _ h)]; exact h
  exact ⟨e _ _ h0, e _ _ h1, e _ _ h2, e _ _ h3, e _ _ h4, e _ _ h5, e _ _ h6, e _ _ h7, h8.below hb⟩

set_option maxHeartbeats 4000000 in
set_option maxRecDepth 100000 in
theorem topempty_yes {A B C : Nat} (G : Geo A B C) (w : World) :
    Calls Tryz.prog 3 #[.agg #[.int .i64 (A : Int), .int .i64 (B : Int), .int .i64 (C : Int)]] w fun e w' => e = .returned (.bool true) ∧ Below w.heap.size w w' := by
  have HB := Lib.hid (fun W => begins_any W)
  have HF := Lib.hid (fun W => format_any G W)
  have HD := Lib.hid (fun W => decode_first G W)
  have HE := Lib.hid (fun W => epochs_none W)
  have HR := Lib.hid (fun W => regions_any G W)
  have HT := Lib.hid (fun b o c W h => tdecode_any G b o c W h)
  have HH := Lib.hid (fun a R c W h1 h2 => held_any a R c W h1 h2)
  have hf1 := (fiN_le (k := 0) G (Nat.zero_le _)).2
  have hf2 := fiN_le (k := A) G (Nat.le_refl _)
  have htn := tsN_le G
  have hrn := rgN_le G
  have hlg := (lgN_le G).2
  have hfT : fiN A B C 0 = 2 + tsN A B := by unfold fiN; omega
  have hlast : fiN A B C 0 + 2 < fiN A B C A := by
    have h1 := G.1
    have hA : lgN B C ≤ A * lgN B C := Nat.le_mul_of_pos_left _ (by omega)
    rw [fi_succ A B C A]
    omega
  have hts : tsN A B = (rgN A B + 15) / 16 := rfl
  have F0 := fmt_zero G
  have F1 := fmt_one G
  have FB := Lib.hid (fun i (h1 : i < tsN A B) => fmt_blank (A := A) (B := B) (C := C) (k := 2 + i) (by omega) (by omega) (by omega) (by omega))
  have FW := Lib.hid (fun k (hk : k < fiN A B C A) => what_ex G hk)
  have FA := Lib.hid (fun k kind num (h : WhatIs A B C k kind num) => And.intro (fun W => what_any G h W) (fits_any G h))
  have FS := Lib.hid (fun i => size_fmtF A B C i)
  have HP := Lib.hid (fun s W => places_any s (B : Int) W)
  have HC := Lib.hid (fun s W => count_any s (C : Int) W)
  have hi1 := fun W => idecode_root G W
  have hi0 := fun W => idecode_free G W
  unfold inoV at hi1 hi0
  have HI1 := Lib.hid hi1
  have HI0 := Lib.hid hi0
  clear hi1 hi0
  unfold FmtIs at HF
  generalize fmtF A B C = F at *
  generalize fiN A B C A = n at *
  go_enter Tryz.func3, Tryz.ntmps3
  go_wp2_with fail
  refine (HB.out _).mono ?_
  rintro e w1 ⟨rfl, hb1⟩
  have X1 : Box w1 w.heap.size A B C := ⟨by rw [hb1.cell (by simp <;> omega)]; simp [go_sem], by rw [hb1.cell (by simp <;> omega)]; simp [go_sem], by rw [hb1.cell (by simp <;> omega)]; simp [go_sem]⟩
  have B1 : Below w.heap.size w w1 := by (repeat' (first | exact Below.refl _ _ | assumption | refine Below.setCell ?_ ?_ _ | refine Below.drew ?_ | refine below_drewN ?_ _ | refine Below.alloc ?_ ?_ _ | refine below_of_grown ?_ (by assumption) ?_ | refine Below.trans ?_ (Below.mono (by assumption) ?_) | omega | (simp; done) | (simp; omega)))
  have HX1 := Lib.hid X1
  have c0 := X1.1
  have c1 := X1.2.1
  have c2 := X1.2.2
  clear hb1 X1
  go_wp2_with fail
  refine (HF.out _).mono ?_
  rintro e w2 ⟨g, rfl, hg, hb2, hD2⟩
  have S2 := Lib.hid (show TopS w A B C g n F w2 from ⟨B1.trans (hb2.mono B1.size), hD2, HX1.out.below hb2⟩)
  have hwg : w.heap.size < g := Nat.lt_of_lt_of_le HX1.out.lt hg
  clear hb2 hD2 B1 HX1 c0 c1 c2
  have q0 := S2.out.at 0 (by omega)
  rw [F0] at q0
  have ln0 : (0 : Int) < n := by omega
  have ln1 : (1 : Int) < n := by omega
  have ln2 : (2 : Int) ≤ n := by omega
  go_wp2_with fail
  refine (HD.out _).mono ?_
  rintro e w3 ⟨rfl, hb3⟩
  have S3 := Lib.hid ((S2.out.below hb3).below ((Below.refl _ w3).alloc (Nat.le_refl _) (.cells #[.int .i64 (A : Int), .int .i64 (B : Int), .int .i64 (C : Int)] 23)))
  have X3 := Lib.hid (show Box (w3.alloc (.cells #[.int .i64 (A : Int), .int .i64 (B : Int), .int .i64 (C : Int)] 23)) w3.heap.size A B C from ⟨by simp [go_sem], by simp [go_sem], by simp [go_sem]⟩)
  clear hb3 S2 q0
  have q1 := S3.out.at 1 (by omega)
  rw [F1] at q1
  go_wp2_with fail
  refine (HE.out _).mono ?_
  rintro e w4 ⟨rfl, hb4⟩
  obtain ⟨x, hx⟩ : ∃ x, x = w3.heap.size := ⟨_, rfl⟩
  rw [← hx] at X3
  have S4 := (S3.out.below hb4).below ((Below.refl _ w4).alloc (Nat.le_refl _) (.cells #[.int .i64 0, .int .i64 0] 32))
  have X4 := (X3.out.below hb4).below ((Below.refl _ w4).alloc (Nat.le_refl _) (.cells #[.int .i64 0, .int .i64 0] 32))
  have Y0 : (w4.alloc (.cells #[.int .i64 0, .int .i64 0] 32)).cell? ⟨w4.heap.size, 0, none⟩ = some (.int .i64 0) := by simp [go_sem]
  have Y1 : (w4.alloc (.cells #[.int .i64 0, .int .i64 0] 32)).cell? ⟨w4.heap.size, 1, none⟩ = some (.int .i64 0) := by simp [go_sem]
  obtain ⟨y, hy⟩ : ∃ y, y = w4.heap.size := ⟨_, rfl⟩
  rw [← hy] at Y0 Y1
  clear hb4 S3 X3 q1
  go_wp2_with fail
  rw [← hx, ← hy]
  generalize w4.alloc (.cells #[.int .i64 0, .int .i64 0] 32) = w5 at *
  have T5 := Lib.hid (show w5.cell? ⟨w.heap.size, 0, none⟩ = some (.int .i64 (A : Int)) ∧ w5.cell? ⟨w.heap.size, 1, none⟩ = some (.int .i64 (B : Int)) ∧ w5.cell? ⟨w.heap.size, 2, none⟩ = some (.int .i64 (C : Int)) ∧ w5.cell? ⟨x, 0, none⟩ = some (.int .i64 (A : Int)) ∧ w5.cell? ⟨x, 1, none⟩ = some (.int .i64 (B : Int)) ∧ w5.cell? ⟨x, 2, none⟩ = some (.int .i64 (C : Int)) ∧ w5.cell? ⟨y, 0, none⟩ = some (.int .i64 0) ∧ w5.cell? ⟨y, 1, none⟩ = some (.int .i64 0) ∧ TopS w A B C g n F w5 from ⟨S4.2.2.1, S4.2.2.2.1, S4.2.2.2.2, X4.1, X4.2.1, X4.2.2, Y0, Y1, S4⟩)
  clear S4 X4 Y0 Y1 hx hy
  have HR8 := HR
  generalize hRg : rgN A B = R at *
  generalize hTg : tsN A B = T at *
  have hq : ((R : Int) + 15).tdiv 16 = (T : Int) := by rw [Int.tdiv_eq_ediv_of_nonneg (by omega)]; omega
  have hn2 : ¬ n = 2 := by omega
  have hT2 : (2 + (T : Int)).toNat - 2 = T := by omega
  have lT : 2 + (T : Int) ≤ n := by omega
  have lT0 : (2 : Int) ≤ 2 + (T : Int) := by omega
  have lT1 : (0 : Int) ≤ 2 + (T : Int) := by omega
  have HTS := Lib.hid hts
  clear hts hTg hRg
  have hw1 : IntKind.i64.wrap ((R : Int) + 15) = (R : Int) + 15 := IntWalk.i64_in _ (by omega)
  have hw2 : IntKind.i64.wrap (T : Int) = (T : Int) := IntWalk.i64_in _ (by omega)
  have hw3 : IntKind.i64.wrap (2 + (T : Int)) = 2 + (T : Int) := IntWalk.i64_in _ (by omega)
  have hcut := fun W => cut_table W g n T (by omega) (by omega)
  go_region_held3 (fun w' => w'.cell? ⟨w.heap.size, 0, none⟩ = some (.int .i64 (A : Int)) ∧ w'.cell? ⟨w.heap.size, 1, none⟩ = some (.int .i64 (B : Int)) ∧ w'.cell? ⟨w.heap.size, 2, none⟩ = some (.int .i64 (C : Int)) ∧ w'.cell? ⟨x, 0, none⟩ = some (.int .i64 (A : Int)) ∧ w'.cell? ⟨x, 1, none⟩ = some (.int .i64 (B : Int)) ∧ w'.cell? ⟨x, 2, none⟩ = some (.int .i64 (C : Int)) ∧ w'.cell? ⟨y, 0, none⟩ = some (.int .i64 0) ∧ w'.cell? ⟨y, 1, none⟩ = some (.int .i64 0) ∧ TopS w A B C g n F w')
    (first
      | exact top_step (Below.refl _ w5).drew T5.out
      | exact top_step hb7 ‹_ ∧ _ ∧ _ ∧ _ ∧ _ ∧ _ ∧ _ ∧ _ ∧ TopS w A B C g n F _›
      | exact top_step hb6 ‹_ ∧ _ ∧ _ ∧ _ ∧ _ ∧ _ ∧ _ ∧ _ ∧ TopS w A B C g n F _›)
    (first
      | (go_at_call 10; refine (HR.out _).mono ?_; rintro e w6 ⟨rfl, hb6⟩)
      | (go_at_call 9; refine (HT.out _ _ _ _ ?_).mono ?_; exact ⟨TopS.lt ‹_ ∧ _ ∧ _ ∧ _ ∧ _ ∧ _ ∧ _ ∧ _ ∧ TopS w A B C g n F _›.2.2.2.2.2.2.2.2, fun i hi => TopS.blank ‹_ ∧ _ ∧ _ ∧ _ ∧ _ ∧ _ ∧ _ ∧ _ ∧ TopS w A B C g n F _›.2.2.2.2.2.2.2.2 (by omega) (FB.out i hi)⟩; rintro e w7 ⟨a7, c7, rfl, hfree7, hb7⟩))
  have T7 := Lib.hid ‹_ ∧ _ ∧ _ ∧ _ ∧ _ ∧ _ ∧ _ ∧ _ ∧ TopS w A B C g n F w7›
  have HFR := Lib.hid hfree7
  clear hb7 hb6 hfree7 hcut hn2 hT2 lT lT0 lT1 hq hw1 hw2 hw3 T5
  have heq := eq_pair
  go_wp2_with fail
  go_region_held3 (fun w' => w'.cell? ⟨w.heap.size, 0, none⟩ = some (.int .i64 (A : Int)) ∧ w'.cell? ⟨w.heap.size, 1, none⟩ = some (.int .i64 (B : Int)) ∧ w'.cell? ⟨w.heap.size, 2, none⟩ = some (.int .i64 (C : Int)) ∧ w'.cell? ⟨x, 0, none⟩ = some (.int .i64 (A : Int)) ∧ w'.cell? ⟨x, 1, none⟩ = some (.int .i64 (B : Int)) ∧ w'.cell? ⟨x, 2, none⟩ = some (.int .i64 (C : Int)) ∧ w'.cell? ⟨y, 0, none⟩ = some (.int .i64 0) ∧ w'.cell? ⟨y, 1, none⟩ = some (.int .i64 0) ∧ TopS w A B C g n F w')
    (first
      | exact top_step (Below.refl _ w7).drew T7.out
      | exact top_step hb9 ‹_ ∧ _ ∧ _ ∧ _ ∧ _ ∧ _ ∧ _ ∧ _ ∧ TopS w A B C g n F _›
      | exact top_step hb8 ‹_ ∧ _ ∧ _ ∧ _ ∧ _ ∧ _ ∧ _ ∧ _ ∧ TopS w A B C g n F _›)
    (first
      | (go_at_call 11; refine (HH.out _ _ _ _ hrn.1 ?_).mono ?_; exact HFR.out; rintro e w8 ⟨⟨a8, c8, rfl⟩, hb8⟩)
      | (go_at_call 10; refine (HR.out _).mono ?_; rintro e w9 ⟨rfl, hb9⟩))
  have T9 := Lib.hid (‹_ ∧ _ ∧ _ ∧ _ ∧ _ ∧ _ ∧ _ ∧ _ ∧ TopS w A B C g n F w9›).2.2.2.2.2.2.2.2
  clear hb9 hb8 T7 HFR HR HR8 HT HH HD HE HB HF F0 F1 FB HTS
  go_wp2_with fail
  go_loopw [94] (fun i wr => KeptTop w A B C g n F i wr) (fun i _ => n - (intOf i).toNat)
  case atStart => exact ⟨0, by omega, rfl, T9.out⟩
  case round =>
    clear T9
    obtain ⟨k, hk, rfl, hT⟩ := hrel
    have hgl := hT.lt
    have hwl := hT.2.2.lt
    by_cases hlt : k < n
    · obtain ⟨kind, num, hwi⟩ := FW.out k hlt
      obtain ⟨hwhat, hfit⟩ := FA.out k kind num hwi
      have HWH := Lib.hid hwhat
      obtain ⟨s, hs⟩ : ∃ s, s = F k := ⟨_, rfl⟩
      rw [← hs] at hfit
      have hs64 : (s.size : Int) = 64 := by rw [hs, FS.out k]; rfl
      have q0 := hT.at k hlt
      rw [← hs] at q0
      have lk : (k : Int) < n := by omega
      have lk0 : (0 : Int) ≤ k := by omega
      have b0 := hT.2.2.1
      have b1 := hT.2.2.2.1
      have b2 := hT.2.2.2.2
      have HT := Lib.hid hT
      clear hT hwhat hwi hs
      go_wp2_with fail
      refine (HWH.out _).mono ?_
      rintro e w4 ⟨rfl, hb4⟩
      have T4 := HT.out.below hb4
      have HN := Lib.hid (show ∀ W, Below w4.heap.size w4 W → KeptTop w A B C g n F (.int .i64 ((k : Int) + 1)) W from fun W hb => ⟨k + 1, by omega, by simp, T4.below hb⟩)
      have b0 := T4.2.2.1
      have b1 := T4.2.2.2.1
      have b2 := T4.2.2.2.2
      have hwl4 := T4.2.2.lt
      clear hb4 HT T4 q0
      rcases hfit with rfl | rfl | rfl | rfl | ⟨rfl, hc, hp⟩ | ⟨rfl, hc, hp⟩ | ⟨rfl, hp⟩
      · go_wp2_with fail
        exact ⟨HN.out _ (Below.refl _ _), by simp [intOf]; omega⟩
      · go_wp2_with fail
        exact ⟨HN.out _ (Below.refl _ _), by simp [intOf]; omega⟩
      · go_wp2_with fail
        exact ⟨HN.out _ (Below.refl _ _), by simp [intOf]; omega⟩
      · go_wp2_with fail
        exact ⟨HN.out _ (Below.refl _ _), by simp [intOf]; omega⟩
      · have hpl := fun W => HP.out s W
        unfold PlacesIs at hpl
        rw [hc] at hpl
        have HPL := Lib.hid hpl
        clear hpl
        go_wp2_with fail
        refine (HPL.out _).mono ?_
        rintro e w5 ⟨v, rfl, hown, hb5⟩
        obtain ⟨a5, c5, rfl, _⟩ := hown.cells
        have HN5 := Lib.hid (HN.out _ hb5)
        clear hb5 hown HN b0 b1 b2
        rcases hp with ⟨rfl, hp⟩ | ⟨hn0, hp⟩
        · rw [hp]
          go_wp2_with fail
          exact ⟨HN5.out, by simp [intOf]; omega⟩
        · rw [hp]
          have hn1 : ((num : Int) == 0) = false := by rw [beq_eq_false_iff_ne]; omega
          go_wp2_with fail
          exact ⟨HN5.out, by simp [intOf]; omega⟩
      · have hct := fun W => HC.out s W
        rw [hc, hp] at hct
        have HCT := Lib.hid hct
        clear hct
        go_wp2_with fail
        refine (HCT.out _).mono ?_
        rintro e w5 ⟨rfl, hb5⟩
        have HN5 := Lib.hid (HN.out _ hb5)
        clear hb5 HN b0 b1 b2
        go_wp2_with fail
        exact ⟨HN5.out, by simp [intOf]; omega⟩
      · rcases hp with ⟨rfl, rfl⟩ | ⟨hn1, rfl⟩
        · go_wp2_with fail
          refine (HI1.out _).mono ?_
          rintro e w5 ⟨rfl, hb5⟩
          have D6 := Blk.rowNew w5 #[.int .i64 0, .int .i64 0, .int .i64 0, .int .i64 0, .int .i64 0, .int .i64 0, .int .i64 0, .int .i64 0, .int .i64 0, .int .i64 0, .int .i64 0, .int .i64 0, .int .i64 0, .int .i64 0] (inoC 2 1 1 1) 49
          have HN6 := Lib.hid (HN.out _ (hb5.trans ((below_row (Below.refl _ w5) (.cells #[.int .i64 0, .int .i64 0, .int .i64 0, .int .i64 0, .int .i64 0, .int .i64 0, .int .i64 0, .int .i64 0, .int .i64 0, .int .i64 0, .int .i64 0, .int .i64 0, .int .i64 0, .int .i64 0] 49) (inoC 2 1 1 1)).mono hb5.size)))
          have d0 : ((w5.alloc (.cells #[.int .i64 0, .int .i64 0, .int .i64 0, .int .i64 0, .int .i64 0, .int .i64 0, .int .i64 0, .int .i64 0, .int .i64 0, .int .i64 0, .int .i64 0, .int .i64 0, .int .i64 0, .int .i64 0] 49)).setRow w5.heap.size (inoC 2 1 1 1)).cell? ⟨w5.heap.size, 0, none⟩ = some (.int .i64 2) := D6.cell 0
          clear hb5 HN b0 b1 b2 D6
          go_wp2_with (refine wpList_store_row rfl 49 _ _ rfl w5.heap.size (inoC 2 1 1 1) rfl rfl 49 (inoC 0 0 0 0) (_root_.Go.heap_alloc_new _ _) (info_ino 2 1 1 1) rfl (inoC_one 2 1 1 1) ?_)
          exact ⟨HN6.out, by simp [intOf]; omega⟩
        · have hnn : ((num : Int) == 1) = false := by rw [beq_eq_false_iff_ne]; omega
          have hnn2 : ¬ num = 1 := by omega
          have hgt : (1 : Int) < num := by omega
          have HEQ := eq_free
          go_wp2_with fail
          refine (HI0.out _).mono ?_
          rintro e w5 ⟨rfl, hb5⟩
          have D6 := Blk.rowNew w5 #[.int .i64 0, .int .i64 0, .int .i64 0, .int .i64 0, .int .i64 0, .int .i64 0, .int .i64 0, .int .i64 0, .int .i64 0, .int .i64 0, .int .i64 0, .int .i64 0, .int .i64 0, .int .i64 0] (inoC 0 0 0 0) 49
          have HN6 := Lib.hid (HN.out _ (hb5.trans ((below_row (Below.refl _ w5) (.cells #[.int .i64 0, .int .i64 0, .int .i64 0, .int .i64 0, .int .i64 0, .int .i64 0, .int .i64 0, .int .i64 0, .int .i64 0, .int .i64 0, .int .i64 0, .int .i64 0, .int .i64 0, .int .i64 0] 49) (inoC 0 0 0 0)).mono hb5.size)))
          have d0 : ((w5.alloc (.cells #[.int .i64 0, .int .i64 0, .int .i64 0, .int .i64 0, .int .i64 0, .int .i64 0, .int .i64 0, .int .i64 0, .int .i64 0, .int .i64 0, .int .i64 0, .int .i64 0, .int .i64 0, .int .i64 0] 49)).setRow w5.heap.size (inoC 0 0 0 0)).cell? ⟨w5.heap.size, 0, none⟩ = some (.int .i64 0) := D6.cell 0
          have HD6 := Lib.hid D6
          clear hb5 HN b0 b1 b2 D6
          go_wp2_with (first | (refine wpList_store_row rfl 49 _ _ rfl w5.heap.size (inoC 0 0 0 0) rfl rfl 49 (inoC 0 0 0 0) (_root_.Go.heap_alloc_new _ _) (info_ino 0 0 0 0) rfl (inoC_one 0 0 0 0) ?_) | (refine wpList_load_row_g 49 _ rfl w5.heap.size rfl 49 #[.int .i64 0, .int .i64 0, .int .i64 0, .int .i64 0, .int .i64 0, .int .i64 0, .int .i64 0, .int .i64 0, .int .i64 0, .int .i64 0, .int .i64 0, .int .i64 0, .int .i64 0, .int .i64 0] (0, 0) _ HD6.out Tryz.underlying49 rfl info_zero (by simp [Region.wanted, yielded]) ?_))
          exact ⟨HN6.out, by simp [intOf]; omega⟩
    · obtain rfl : k = n := by omega
      have BE := Lib.hid hT.1
      clear hT
      go_wp2_with fail
      go_ret
      exact ⟨rfl, BE.out⟩
end Go.Proofs.YtghggelkmhdhfaaGreatDoor

namespace Go.Proofs.YtghggelkmhdhfaaGreatDoor
open Go.RowKit

theorem topempty_walk (a b c : Int) (w : World) :
    Calls Tryz.prog 3 #[.agg #[.int .i64 a, .int .i64 b, .int .i64 c]] w fun e w' => e = .returned (.bool true) ∧ Below w.heap.size w w' := by
  cases hg : geomOk a b c
  · exact topempty_no a b c w hg
  · obtain ⟨h1, h2, h3, h4, h5, h6⟩ := geomOk_iff.1 hg
    obtain ⟨A, rfl⟩ := Int.eq_ofNat_of_zero_le (show 0 ≤ a by omega)
    obtain ⟨B, rfl⟩ := Int.eq_ofNat_of_zero_le (show 0 ≤ b by omega)
    obtain ⟨C, rfl⟩ := Int.eq_ofNat_of_zero_le (show 0 ≤ c by omega)
    exact topempty_yes (A := A) (B := B) (C := C) ⟨by omega, by omega, by omega, by omega, by omega, by omega⟩ w
end Go.Proofs.YtghggelkmhdhfaaGreatDoor
