
/-
  What a sector is: geom.What, walked, kind by kind. (gen/twhat.py)
-/
import Derived.Test.YtghggelkmhdhfaaGreatDoorTGeom3
namespace Go.Proofs.YtghggelkmhdhfaaGreatDoor
open Go.RowKit

/-- Sector k is of this kind, and has this number. -/
def WhatIs (A B C k kind num : Nat) : Prop :=
  (k = 0 ∧ kind = 0 ∧ num = 0) ∨ (k = 1 ∧ kind = 1 ∧ num = 0) ∨ (2 ≤ k ∧ k < fiN A B C 0 ∧ kind = 2 ∧ num = k - 2) ∨
  ∃ q m, k = fiN A B C 0 + (q * lgN B C + m) ∧ q < A ∧ m < lgN B C ∧ ((m < 2 ∧ kind = 3 + m ∧ num = q) ∨ (2 ≤ m ∧ m < 2 + B ∧ kind = 5 ∧ num = q * B + (m - 2) + 1) ∨ (2 + B ≤ m ∧ kind = 6 ∧ num = q * C + (m - 2 - B)))
theorem fi_succ (A B C k : Nat) : fiN A B C k = fiN A B C 0 + k * lgN B C := by
  unfold fiN
  omega
theorem what_ex {A B C k : Nat} (G : Geo A B C) (hk : k < fiN A B C A) : ∃ kind num, WhatIs A B C k kind num := by
  have hf := (fiN_le (k := 0) G (Nat.zero_le _)).2
  by_cases h0 : k < fiN A B C 0
  · by_cases h1 : k = 0
    · exact ⟨0, 0, .inl ⟨h1, rfl, rfl⟩⟩
    · by_cases h2 : k = 1
      · exact ⟨1, 0, .inr (.inl ⟨h2, rfl, rfl⟩)⟩
      · exact ⟨2, k - 2, .inr (.inr (.inl ⟨by omega, h0, rfl, rfl⟩))⟩
  · have hl := (lgN_le G).2
    have hq : (k - fiN A B C 0) / lgN B C < A := by
      rw [Nat.div_lt_iff_lt_mul (by omega)]
      rw [fi_succ] at hk
      omega
    have hm : (k - fiN A B C 0) % lgN B C < lgN B C := Nat.mod_lt _ (by omega)
    have hd := Nat.div_add_mod (k - fiN A B C 0) (lgN B C)
    rw [Nat.mul_comm] at hd
    have hk2 : k = fiN A B C 0 + ((k - fiN A B C 0) / lgN B C * lgN B C + (k - fiN A B C 0) % lgN B C) := by omega
    by_cases h1 : (k - fiN A B C 0) % lgN B C < 2
    · exact ⟨_, _, .inr (.inr (.inr ⟨_, _, hk2, hq, hm, .inl ⟨h1, rfl, rfl⟩⟩))⟩
    · by_cases h2 : (k - fiN A B C 0) % lgN B C < 2 + B
      · exact ⟨_, _, .inr (.inr (.inr ⟨_, _, hk2, hq, hm, .inr (.inl ⟨by omega, h2, rfl, rfl⟩)⟩))⟩
      · exact ⟨_, _, .inr (.inr (.inr ⟨_, _, hk2, hq, hm, .inr (.inr ⟨by omega, rfl, rfl⟩)⟩))⟩
theorem what_lt {A B C k kind num : Nat} (G : Geo A B C) (h : WhatIs A B C k kind num) : k < fiN A B C A := by
  have hf := (fiN_le (k := 0) G (Nat.zero_le _)).2
  have hl := (lgN_le G).2
  have h1 := G.1
  have hA : lgN B C ≤ A * lgN B C := Nat.le_mul_of_pos_left _ (by omega)
  rw [fi_succ]
  rcases h with ⟨rfl, _⟩ | ⟨rfl, _⟩ | ⟨_, h, _⟩ | ⟨q, m, rfl, hq, hm, _⟩
  · omega
  · omega
  · omega
  · have h2 : (q + 1) * lgN B C ≤ A * lgN B C := Nat.mul_le_mul_right _ hq
    rw [Nat.add_mul] at h2
    omega

set_option maxHeartbeats 2000000 in
theorem what_low {A B C k kind num : Nat} (G : Geo A B C) (h : WhatIs A B C k kind num) (hk : k < fiN A B C 0) (w : World) :
    Calls Tryz.prog 12 #[.agg #[.int .i64 (A : Int), .int .i64 (B : Int), .int .i64 (C : Int)], .int .i64 (k : Int)] w fun e w' => e = .returned (.tuple #[.int .i64 (kind : Int), .int .i64 (num : Int), .int .i64 0]) ∧ Below w.heap.size w w' := by
  have HS := Lib.hid (fun W => size_any G W)
  have HF := Lib.hid (fun W => first_any (k := 0) G (Nat.zero_le _) W)
  have HL := Lib.hid (fun W => long_any G W)
  have hlt := what_lt G h
  have hs := (fiN_le (k := A) G (Nat.le_refl _)).1
  have hf := fiN_le (k := 0) G (Nat.zero_le _)
  have hl := lgN_le G
  have hW := fun W => within_any G (k : Int) ((fiN A B C A : Nat) : Int) W
  have hw0 : withE (k : Int) ((fiN A B C A : Nat) : Int) = 0 := by rw [withE, if_neg (by omega)]
  rw [hw0] at hW
  have HW := Lib.hid hW
  have h1B : 1 ≤ B ∧ B ≤ 32 := ⟨G.2.2.1, G.2.2.2.1⟩
  have h1C : 1 ≤ C ∧ C ≤ 64 := ⟨G.2.2.2.2.1, G.2.2.2.2.2⟩
  have h4A := G.2.1
  have hlow : decide (k < fiN A B C 0) = true := decide_eq_true (by omega)
  have hcs : (k = 0 ∧ kind = 0 ∧ num = 0) ∨ (k = 1 ∧ kind = 1 ∧ num = 0) ∨ (2 ≤ k ∧ kind = 2 ∧ num = k - 2) := by
    rcases h with h | h | ⟨h1, _, h2, h3⟩ | ⟨q, m, h1, _⟩
    · exact .inl h
    · exact .inr (.inl h)
    · exact .inr (.inr ⟨h1, h2, h3⟩)
    · omega
  generalize fiN A B C 0 = F at *
  generalize fiN A B C A = Sz at *
  have hk4 : (k : Int) ≤ 403 := by omega
  clear hW hw0 h hlt hs hf hl hk
  go_enter Tryz.func12, Tryz.ntmps12
  go_wp2_with fail
  have c0 : (w.alloc (.cells #[.int .i64 (A : Int), .int .i64 (B : Int), .int .i64 (C : Int)] 23)).cell? ⟨w.heap.size, 0, none⟩ = some (.int .i64 (A : Int)) := by simp [go_sem]
  have c1 : (w.alloc (.cells #[.int .i64 (A : Int), .int .i64 (B : Int), .int .i64 (C : Int)] 23)).cell? ⟨w.heap.size, 1, none⟩ = some (.int .i64 (B : Int)) := by simp [go_sem]
  have c2 : (w.alloc (.cells #[.int .i64 (A : Int), .int .i64 (B : Int), .int .i64 (C : Int)] 23)).cell? ⟨w.heap.size, 2, none⟩ = some (.int .i64 (C : Int)) := by simp [go_sem]
  have hb2 : Below w.heap.size w (w.alloc (.cells #[.int .i64 (A : Int), .int .i64 (B : Int), .int .i64 (C : Int)] 23)) := (Below.refl _ _).alloc (Nat.le_refl _) _
  generalize w.alloc (.cells #[.int .i64 (A : Int), .int .i64 (B : Int), .int .i64 (C : Int)] 23) = W at *
  go_region_held3 (fun w' => w'.cell? ⟨w.heap.size, 0, none⟩ = some (.int .i64 (A : Int)) ∧ w'.cell? ⟨w.heap.size, 1, none⟩ = some (.int .i64 (B : Int)) ∧ w'.cell? ⟨w.heap.size, 2, none⟩ = some (.int .i64 (C : Int)) ∧ Below w.heap.size w w')
    (first
      | exact ⟨c0, c1, c2, hb2.drew⟩
      | exact keepS (by assumption) (by assumption))
    (first
      | (go_at_call 18; refine (HS.out _).mono ?_; rintro e w7 ⟨rfl, hb7⟩)
      | (go_at_call 34; refine (HW.out _).mono ?_; rintro e w8 ⟨rfl, hb8⟩))
  go_split_ands
  rename_i d0 d1 d2 D
  have BE := Lib.hid D
  have hz8 := D.size
  have l8 : w.heap.size < w8.heap.size := by
    have := World.block_lt_of_cell? w8 _ d0
    simpa using this
  clear c0 c1 c2 hb2 D hb7 hb8
  go_wp2_with fail
  refine (HF.out _).mono ?_
  rintro e w9 ⟨rfl, hb9⟩
  have B9 := Lib.hid (BE.out.trans (hb9.mono hz8))
  clear hb9 d0 d1 d2 HL HF HS HW
  rcases hcs with ⟨hk0, rfl, rfl⟩ | ⟨hk1, rfl, rfl⟩ | ⟨h2, rfl, rfl⟩
  · have e0 : ((k : Int) == 0) = true := by simp [hk0]
    have HK := Lib.hid hk0
    clear hk0
    go_wp2_with fail
    go_ret3
    exact ⟨by rw [HK.out]; rfl, B9.out⟩
  · have e0 : ((k : Int) == 0) = false := by simp [hk1]
    have e1 : ((k : Int) == 1) = true := by simp [hk1]
    have HK := Lib.hid hk1
    clear hk1
    go_wp2_with fail
    go_ret3
    exact ⟨by rw [HK.out]; rfl, B9.out⟩
  · have e0 : ((k : Int) == 0) = false := by rw [beq_eq_false_iff_ne]; omega
    have e1 : ((k : Int) == 1) = false := by rw [beq_eq_false_iff_ne]; omega
    have f0 : ¬ k = 0 := by omega
    have f1 : ¬ k = 1 := by omega
    have hs2 : ((k - 2 : Nat) : Int) = (k : Int) - 2 := by omega
    have HS2 := Lib.hid hs2
    clear hs2
    go_wp2_with fail
    go_ret3
    exact ⟨by rw [HS2.out]; rfl, B9.out⟩

set_option maxHeartbeats 4000000 in
set_option maxRecDepth 100000 in
theorem what_high {A B C k kind num : Nat} (G : Geo A B C) (h : WhatIs A B C k kind num) (hk : ¬ k < fiN A B C 0) (w : World) :
    Calls Tryz.prog 12 #[.agg #[.int .i64 (A : Int), .int .i64 (B : Int), .int .i64 (C : Int)], .int .i64 (k : Int)] w fun e w' => e = .returned (.tuple #[.int .i64 (kind : Int), .int .i64 (num : Int), .int .i64 0]) ∧ Below w.heap.size w w' := by
  have HS := Lib.hid (fun W => size_any G W)
  have HF := Lib.hid (fun W => first_any (k := 0) G (Nat.zero_le _) W)
  have HL := Lib.hid (fun W => long_any G W)
  have hlt := what_lt G h
  have hs := (fiN_le (k := A) G (Nat.le_refl _)).1
  have hf := fiN_le (k := 0) G (Nat.zero_le _)
  have hl := lgN_le G
  have hW := fun W => within_any G (k : Int) ((fiN A B C A : Nat) : Int) W
  have hw0 : withE (k : Int) ((fiN A B C A : Nat) : Int) = 0 := by rw [withE, if_neg (by omega)]
  rw [hw0] at hW
  have HW := Lib.hid hW
  have h1B : 1 ≤ B ∧ B ≤ 32 := ⟨G.2.2.1, G.2.2.2.1⟩
  have h1C : 1 ≤ C ∧ C ≤ 64 := ⟨G.2.2.2.2.1, G.2.2.2.2.2⟩
  have h4A := G.2.1
  have hlow : decide (k < fiN A B C 0) = false := decide_eq_false (by omega)
  obtain ⟨q, m, hkq, hq, hm, hcs⟩ : ∃ q m, k = fiN A B C 0 + (q * lgN B C + m) ∧ q < A ∧ m < lgN B C ∧ ((m < 2 ∧ kind = 3 + m ∧ num = q) ∨ (2 ≤ m ∧ m < 2 + B ∧ kind = 5 ∧ num = q * B + (m - 2) + 1) ∨ (2 + B ≤ m ∧ kind = 6 ∧ num = q * C + (m - 2 - B))) := by
    rcases h with ⟨h, _⟩ | ⟨h, _⟩ | ⟨_, h, _⟩ | h
    · omega
    · omega
    · exact absurd h hk
    · exact h
  have hqB : q * B ≤ 96 := Nat.mul_le_mul (show q ≤ 3 by omega) h1B.2
  have hqC : q * C ≤ 192 := Nat.mul_le_mul (show q ≤ 3 by omega) h1C.2
  obtain ⟨X, hX⟩ : ∃ X, X = q * lgN B C + m := ⟨_, rfl⟩
  have hdiv : (X : Int).tdiv ((lgN B C : Nat) : Int) = (q : Int) := by
    rw [hX, Int.tdiv_eq_ediv_of_nonneg (by omega)]
    have : (q * lgN B C + m) / lgN B C = q := by
      rw [Nat.mul_comm, Nat.mul_add_div (by omega), Nat.div_eq_of_lt hm, Nat.add_zero]
    exact_mod_cast this
  have hmod : (X : Int).tmod ((lgN B C : Nat) : Int) = (m : Int) := by
    rw [hX, Int.tmod_eq_emod_of_nonneg (by omega)]
    have : (q * lgN B C + m) % lgN B C = m := by
      rw [Nat.mul_comm, Nat.mul_add_mod, Nat.mod_eq_of_lt hm]
    exact_mod_cast this
  have hsub : (k : Int) - ((fiN A B C 0 : Nat) : Int) = (X : Int) := by omega
  rw [← hX] at hkq
  have hL0 : ¬ ((lgN B C : Nat) : Int) = 0 := by omega
  have hL00 : ¬ lgN B C = 0 := by omega
  have hX4 : X ≤ 403 := by omega
  have hk4 : (k : Int) ≤ 403 := by omega
  have hmL : m < 98 := by omega
  have hq4 : q < 4 := by omega
  generalize fiN A B C 0 = F at *
  generalize fiN A B C A = Sz at *
  generalize lgN B C = L at *
  have hBm : (B : Int) ≤ 32 := by omega
  have HQB := Lib.hid hqB
  have HQC := Lib.hid hqC
  clear hW hw0 h hlt hs hf hl hk hX hkq hm hq hqB hqC h1C
  go_enter Tryz.func12, Tryz.ntmps12
  go_wp2_with fail
  have c0 : (w.alloc (.cells #[.int .i64 (A : Int), .int .i64 (B : Int), .int .i64 (C : Int)] 23)).cell? ⟨w.heap.size, 0, none⟩ = some (.int .i64 (A : Int)) := by simp [go_sem]
  have c1 : (w.alloc (.cells #[.int .i64 (A : Int), .int .i64 (B : Int), .int .i64 (C : Int)] 23)).cell? ⟨w.heap.size, 1, none⟩ = some (.int .i64 (B : Int)) := by simp [go_sem]
  have c2 : (w.alloc (.cells #[.int .i64 (A : Int), .int .i64 (B : Int), .int .i64 (C : Int)] 23)).cell? ⟨w.heap.size, 2, none⟩ = some (.int .i64 (C : Int)) := by simp [go_sem]
  have hb2 : Below w.heap.size w (w.alloc (.cells #[.int .i64 (A : Int), .int .i64 (B : Int), .int .i64 (C : Int)] 23)) := (Below.refl _ _).alloc (Nat.le_refl _) _
  generalize w.alloc (.cells #[.int .i64 (A : Int), .int .i64 (B : Int), .int .i64 (C : Int)] 23) = W at *
  go_region_held3 (fun w' => w'.cell? ⟨w.heap.size, 0, none⟩ = some (.int .i64 (A : Int)) ∧ w'.cell? ⟨w.heap.size, 1, none⟩ = some (.int .i64 (B : Int)) ∧ w'.cell? ⟨w.heap.size, 2, none⟩ = some (.int .i64 (C : Int)) ∧ Below w.heap.size w w')
    (first
      | exact ⟨c0, c1, c2, hb2.drew⟩
      | exact keepS (by assumption) (by assumption))
    (first
      | (go_at_call 18; refine (HS.out _).mono ?_; rintro e w7 ⟨rfl, hb7⟩)
      | (go_at_call 34; refine (HW.out _).mono ?_; rintro e w8 ⟨rfl, hb8⟩))
  go_split_ands
  rename_i d0 d1 d2 D
  have BE := Lib.hid D
  have hz8 := D.size
  have l8 : w.heap.size < w8.heap.size := by
    have := World.block_lt_of_cell? w8 _ d0
    simpa using this
  clear c0 c1 c2 hb2 D hb7 hb8
  go_wp2_with fail
  refine (HF.out _).mono ?_
  rintro e w9 ⟨rfl, hb9⟩
  have B9 := Lib.hid (BE.out.trans (hb9.mono hz8))
  have c0 : w9.cell? ⟨w.heap.size, 0, none⟩ = some (.int .i64 (A : Int)) := by rw [hb9.cell (by simpa using l8)]; exact d0
  have c1 : w9.cell? ⟨w.heap.size, 1, none⟩ = some (.int .i64 (B : Int)) := by rw [hb9.cell (by simpa using l8)]; exact d1
  have c2 : w9.cell? ⟨w.heap.size, 2, none⟩ = some (.int .i64 (C : Int)) := by rw [hb9.cell (by simpa using l8)]; exact d2
  have hz9 := hb9.size
  have l9 : w.heap.size < w9.heap.size := by omega
  clear hb9 d0 d1 d2
  go_wp2_with fail
  clear hlow
  refine (HF.out _).mono ?_
  rintro e w10 ⟨rfl, hb10⟩
  have B10 := Lib.hid (B9.out.trans (hb10.mono (by omega)))
  have d0 : w10.cell? ⟨w.heap.size, 0, none⟩ = some (.int .i64 (A : Int)) := by rw [hb10.cell (by simpa using l9)]; exact c0
  have d1 : w10.cell? ⟨w.heap.size, 1, none⟩ = some (.int .i64 (B : Int)) := by rw [hb10.cell (by simpa using l9)]; exact c1
  have d2 : w10.cell? ⟨w.heap.size, 2, none⟩ = some (.int .i64 (C : Int)) := by rw [hb10.cell (by simpa using l9)]; exact c2
  clear hb10 c0 c1 c2 B9 BE HF HS HW
  go_wp2_with fail
  have x1 : IntKind.i64.wrap (q : Int) = (q : Int) := IntWalk.i64_in _ (by omega)
  have x2 : IntKind.i64.wrap (m : Int) = (m : Int) := IntWalk.i64_in _ (by omega)
  have hb2 := B10.out
  go_region_held3 (fun w' => w'.cell? ⟨w.heap.size, 0, none⟩ = some (.int .i64 (A : Int)) ∧ w'.cell? ⟨w.heap.size, 1, none⟩ = some (.int .i64 (B : Int)) ∧ w'.cell? ⟨w.heap.size, 2, none⟩ = some (.int .i64 (C : Int)) ∧ Below w.heap.size w w')
    (first
      | exact ⟨d0, d1, d2, hb2.drew⟩
      | exact keepS (by assumption) (by assumption))
    (first
      | (go_at_call 36; refine (HL.out _).mono ?_; rintro e w7 ⟨rfl, hb7⟩))
  obtain ⟨e0, e1, e2, E⟩ := ‹w7.cell? _ = _ ∧ _›
  have E7 := Lib.hid E
  clear d0 d1 d2 hb2 E hb7 hdiv hmod hsub x1 x2 HL B10 hL0 hL00
  rcases hcs with ⟨g1, rfl, rfl⟩ | ⟨g1, g2, rfl, rfl⟩ | ⟨g1, rfl, rfl⟩
  · have f1 : decide ((2 : Int) + (B : Int) ≤ (m : Int)) = false := decide_eq_false (by omega)
    have f2 : decide (2 ≤ m) = false := decide_eq_false (by omega)
    have f3 : decide ((2 : Int) ≤ (m : Int)) = false := decide_eq_false (by omega)
    go_wp2_with fail
    go_ret3
    exact ⟨by simp, E7.out⟩
  · have f1 : decide ((2 : Int) + (B : Int) ≤ (m : Int)) = false := decide_eq_false (by omega)
    have f2 : decide (2 ≤ m) = true := decide_eq_true (by omega)
    have f3 : decide ((2 : Int) ≤ (m : Int)) = true := decide_eq_true (by omega)
    go_wp2_with fail
    obtain ⟨QB, hQB⟩ : ∃ QB, QB = q * B := ⟨_, rfl⟩
    have n1 : (q : Int) * (B : Int) = (QB : Int) := by rw [hQB]; simp
    have n2 : (QB : Int) + (m : Int) - 2 + 1 = ((q * B + (m - 2) + 1 : Nat) : Int) := by omega
    have HN := Lib.hid n2
    have hqb := HQB.out
    rw [← hQB] at hqb
    clear n2 hQB
    have y1 : IntKind.i64.wrap (QB : Int) = QB := IntWalk.i64_in _ (by omega)
    have y2 : IntKind.i64.wrap ((QB : Int) + m) = (QB : Int) + m := IntWalk.i64_in _ (by omega)
    have y3 : IntKind.i64.wrap ((QB : Int) + m - 2) = (QB : Int) + m - 2 := IntWalk.i64_in _ (by omega)
    have y4 : IntKind.i64.wrap ((QB : Int) + m - 2 + 1) = (QB : Int) + m - 2 + 1 := IntWalk.i64_in _ (by omega)
    go_quiet (fail)
    have E8 := Lib.hid (below_drewN E7.out nq)
    clear y1 y2 y3 y4
    go_wp2_with fail
    go_ret3
    exact ⟨by rw [← HN.out]; rfl, E8.out⟩
  · have f1 : decide ((2 : Int) + (B : Int) ≤ (m : Int)) = true := decide_eq_true (by omega)
    go_wp2_with fail
    obtain ⟨QC, hQC⟩ : ∃ QC, QC = q * C := ⟨_, rfl⟩
    have n1 : (q : Int) * (C : Int) = (QC : Int) := by rw [hQC]; simp
    have n2 : (QC : Int) + (m : Int) - 2 - (B : Int) = ((q * C + (m - 2 - B) : Nat) : Int) := by omega
    have HN := Lib.hid n2
    have hqc := HQC.out
    rw [← hQC] at hqc
    clear n2 hQC
    have y1 : IntKind.i64.wrap (QC : Int) = QC := IntWalk.i64_in _ (by omega)
    have y2 : IntKind.i64.wrap ((QC : Int) + m) = (QC : Int) + m := IntWalk.i64_in _ (by omega)
    have y3 : IntKind.i64.wrap ((QC : Int) + m - 2) = (QC : Int) + m - 2 := IntWalk.i64_in _ (by omega)
    have y4 : IntKind.i64.wrap ((QC : Int) + m - 2 - (B : Int)) = (QC : Int) + m - 2 - (B : Int) := IntWalk.i64_in _ (by omega)
    go_quiet (fail)
    have E8 := Lib.hid (below_drewN E7.out nq)
    clear y1 y2 y3 y4
    go_wp2_with fail
    go_ret3
    exact ⟨by rw [← HN.out]; rfl, E8.out⟩

theorem what_any {A B C k kind num : Nat} (G : Geo A B C) (h : WhatIs A B C k kind num) (w : World) :
    Calls Tryz.prog 12 #[.agg #[.int .i64 (A : Int), .int .i64 (B : Int), .int .i64 (C : Int)], .int .i64 (k : Int)] w fun e w' => e = .returned (.tuple #[.int .i64 (kind : Int), .int .i64 (num : Int), .int .i64 0]) ∧ Below w.heap.size w w' := by
  by_cases hk : k < fiN A B C 0
  · exact what_low G h hk w
  · exact what_high G h hk w
end Go.Proofs.YtghggelkmhdhfaaGreatDoor
