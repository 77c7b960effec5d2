/-
  An entry's bytes: the document's text.
-/
import Derived.Test.YtdecjmiahjlpjaaSlot
namespace Go.Proofs.Ytdecjmiahjlpjaa
open Go.RowKit

/-- A stronger condition may be named on the way. -/
theorem wpAnyH_strong {P : Program} {ops : Array Oper} {Q : Exit → Act → World → Prop} {md : Region.Mode} {S S' : World → Prop} (h : ∀ w, S' w → S w) :
    ∀ (fuel : Nat) (listed : Array Bool) (a : Act) (w : World), wpAnyH P md ops Q S' fuel listed a w → wpAnyH P md ops Q S fuel listed a w
  | 0, _, _, _, h' => h'
  | fuel + 1, _, _, _, h' => ⟨h'.1, fun i hi => wpOp_mono (fun a' w' h2 => ⟨h _ h2.1, wpAnyH_strong h fuel _ a' w' h2.2⟩) (h'.2 i hi)⟩

theorem conv_one (W : World) (b : Nat) (L : Nat) (h : L < 256) (hc : W.cell? ⟨b, 0, none⟩ = some (.int .u8 (L : Int))) : (convert 58 9 (.slice (some ⟨b, 0, none⟩) 1 1)).run Try.prog W = .ok (.string (str [UInt8.ofNat L])) W := by
  refine run_convert_bytes_back W _ _ _ ⟨b, 0, none⟩ 1 [UInt8.ofNat L] Try.underlying58 Try.underlying5 Try.underlying9 fun j hj => ?_
  obtain rfl : j = 0 := by simp at hj; omega
  rw [Addr.add_lit, hc]
  simp
  omega

set_option maxHeartbeats 1000000 in
set_option maxRecDepth 100000 in
theorem rtext_any (n : Int) (s : ByteArray) (w : World) (hs : s.size ≤ 13) :
    Calls Try.prog 34 #[.agg #[.int .i64 n, .string s]] w fun e w' => e = .returned (.string (slotS n s)) ∧ Below w.heap.size w w' := by
  have z1 : (str (le n 2)).size ≤ 2 := by rw [size_str, length_le]; omega
  have z2 : (str [UInt8.ofNat s.size]).size ≤ 1 := by rw [size_str]; simp
  have had1 := fun W => run_string_add_sum (P := Try.prog) W (str (le n 2)) (str [UInt8.ofNat s.size]) (by omega)
  have had2 := fun W => run_string_add_sum (P := Try.prog) W (str (le n 2) ++ str [UInt8.ofNat s.size]) s (by rw [ByteArray.size_append]; omega)
  have hw8 : IntKind.u8.wrap (s.size : Int) = (s.size : Int) := by simp [IntKind.wrap, IntKind.bits, IntKind.signed]; omega
  obtain ⟨i0, hi, hz0, hz1, hz2⟩ := info_parts info_u8
  obtain ⟨L, hL⟩ : ∃ L, L = (str (le n 2) ++ str [UInt8.ofNat s.size] ++ s : ByteArray).size := ⟨_, rfl⟩
  have hsz := size_slot_in n s
  have hL3 : L ≤ 16 := by omega
  have e1 : (16 - (((str (le n 2)).size : Int) + ((str [UInt8.ofNat s.size]).size : Int) + (s.size : Int))) = ((16 - L : Nat) : Int) := by
    have hL' := hL
    rw [ByteArray.size_append, ByteArray.size_append] at hL'
    omega
  have HS := Lib.hid e1
  have HL := Lib.hid hL
  have z3 : (str (List.replicate (16 - L) 0)).size ≤ 16 := by rw [size_str]; simp
  clear e1 hL hsz
  go_enter Try.func34, Try.ntmps34
  go_wp2_with fail
  have c0 : (w.alloc (.cells #[.int .i64 n, .string s] 23)).cell? ⟨w.heap.size, 0, none⟩ = some (.int .i64 n) := by simp [go_sem]
  have c1 : (w.alloc (.cells #[.int .i64 n, .string s] 23)).cell? ⟨w.heap.size, 1, none⟩ = some (.string s) := by simp [go_sem]
  have cB : Below w.heap.size w (w.alloc (.cells #[.int .i64 n, .string s] 23)) := (Below.refl _ _).alloc (Nat.le_refl _) _
  generalize w.alloc (.cells #[.int .i64 n, .string s] 23) = W at c0 c1 cB ⊢
  have hc1 := fun W b => conv_one W b s.size (by omega)
  refine wp_region_noPanic ?_
  refine wp_region_held_drew (S := fun w' => w'.cell? ⟨w.heap.size, 0, none⟩ = some (.int .i64 n) ∧ w'.cell? ⟨w.heap.size, 1, none⟩ = some (.string s) ∧ Below w.heap.size w w') (by kernel_rfl) ⟨c0, c1, cB.drew⟩ (fun hHeld => ?_)
  refine wpAnyH_take (i := 0) (oi := _) (v := ?_) (by simp only [List.getElem?_toArray, List.getElem?_cons_zero]; rfl) (by kernel_rfl) (by kernel_rfl) (by kernel_rfl) (fun _ _ _ h => h) (Or.inl ⟨by rfl, ?_⟩) (by assumption) ?_
  rotate_left
  · intro w hSw
    (try dsimp only at hSw)
    go_simp
    try with_reducible rfl
  (try simp only [Act.put])
  (try simp only [List.setIfInBounds_toArray])
  (try simp only [List.set])
  refine wpAnyH_take (i := 1) (oi := _) (v := ?_) (by simp only [List.getElem?_toArray, List.getElem?_cons_zero, List.getElem?_cons_succ]; rfl) (by kernel_rfl) (by kernel_rfl) (by kernel_rfl) (fun _ _ _ h => h) (Or.inl ⟨by rfl, ?_⟩) (by assumption) ?_
  rotate_left
  · intro w hSw
    (try dsimp only at hSw)
    go_simp
    try with_reducible rfl
  (try simp only [Act.put])
  (try simp only [List.setIfInBounds_toArray])
  (try simp only [List.set])
  refine wpAnyH_take (i := 3) (oi := _) (v := ?_) (by simp only [List.getElem?_toArray, List.getElem?_cons_zero, List.getElem?_cons_succ]; rfl) (by kernel_rfl) (by kernel_rfl) (by kernel_rfl) (fun _ _ _ h => h) (Or.inl ⟨by rfl, ?_⟩) (by assumption) ?_
  rotate_left
  · intro w hSw
    (try dsimp only at hSw)
    go_simp
    try with_reducible rfl
  (try simp only [Act.put])
  (try simp only [List.setIfInBounds_toArray])
  (try simp only [List.set])
  refine wpAnyH_take (i := 4) (oi := _) (v := ?_) (by simp only [List.getElem?_toArray, List.getElem?_cons_zero, List.getElem?_cons_succ]; rfl) (by kernel_rfl) (by kernel_rfl) (by kernel_rfl) (fun _ _ _ h => h) (Or.inl ⟨by rfl, ?_⟩) (by assumption) ?_
  rotate_left
  · intro w hSw
    (try dsimp only at hSw)
    go_simp
    try with_reducible rfl
  (try simp only [Act.put])
  (try simp only [List.setIfInBounds_toArray])
  (try simp only [List.set])
  refine wpAnyH_take (i := 5) (oi := _) (v := ?_) (by simp only [List.getElem?_toArray, List.getElem?_cons_zero, List.getElem?_cons_succ]; rfl) (by kernel_rfl) (by kernel_rfl) (by kernel_rfl) (fun _ _ _ h => h) (Or.inl ⟨by rfl, ?_⟩) (by assumption) ?_
  rotate_left
  · intro w hSw
    (try dsimp only at hSw)
    go_simp
    try with_reducible rfl
  (try simp only [Act.put])
  (try simp only [List.setIfInBounds_toArray])
  (try simp only [List.set])
  refine wpAnyH_take (i := 6) (oi := _) (v := ?_) (by simp only [List.getElem?_toArray, List.getElem?_cons_zero, List.getElem?_cons_succ]; rfl) (by kernel_rfl) (by kernel_rfl) (by kernel_rfl) (fun _ _ _ h => h) (Or.inl ⟨by rfl, ?_⟩) (by assumption) ?_
  rotate_left
  · intro w hSw
    (try dsimp only at hSw)
    go_simp
    try with_reducible rfl
  (try simp only [Act.put])
  (try simp only [List.setIfInBounds_toArray])
  (try simp only [List.set])
  refine wpAnyH_take (i := 10) (oi := _) (v := ?_) (by simp only [List.getElem?_toArray, List.getElem?_cons_zero, List.getElem?_cons_succ]; rfl) (by kernel_rfl) (by kernel_rfl) (by kernel_rfl) (fun _ _ _ h => h) (Or.inl ⟨by rfl, ?_⟩) (by assumption) ?_
  rotate_left
  · intro w hSw
    (try dsimp only at hSw)
    go_simp
    try with_reducible rfl
  (try simp only [Act.put])
  (try simp only [List.setIfInBounds_toArray])
  (try simp only [List.set])
  refine wpAnyH_take (i := 11) (oi := _) (v := ?_) (by simp only [List.getElem?_toArray, List.getElem?_cons_zero, List.getElem?_cons_succ]; rfl) (by kernel_rfl) (by kernel_rfl) (by kernel_rfl) (fun _ _ _ h => h) (Or.inl ⟨by rfl, ?_⟩) (by assumption) ?_
  rotate_left
  · intro w hSw
    (try dsimp only at hSw)
    go_simp
    try with_reducible rfl
  (try simp only [Act.put])
  (try simp only [List.setIfInBounds_toArray])
  (try simp only [List.set])
  refine wpAnyH_ready (rs := [2, 7]) (by kernel_rfl) (by simp) ?_
  refine AllReadyH.cons (by simp only [List.getElem?_toArray, List.getElem?_cons_zero, List.getElem?_cons_succ]; rfl) (fun K hK => ?_) ?_
  · go_simp
    refine (text_any n 2 _ (by omega)).mono ?_
    rintro e w1 ⟨rfl, hb1⟩
    have hS1 := keep2 hb1 c0 c1 cB.drew
    refine hK.out _ _ hS1 (fun hHeld2 => ?_)
    clear hK K hHeld
    refine wpAnyH_ready (rs := [7]) (by kernel_rfl) (by simp) ?_
    refine AllReadyH.cons (by simp only [List.getElem?_toArray, List.getElem?_cons_zero, List.getElem?_cons_succ]; rfl) (fun K hK => ?_) AllReadyH.nil
    go_simp
    have hS2 := keep2_alloc (.cells #[.int .u8 (s.size : Int)] 5) hS1.1 hS1.2.1 hS1.2.2
    refine hK.out _ _ hS2 (fun hHeld3 => ?_)
    clear hK K hHeld2
    have hB : (w1.alloc (.cells #[.int .u8 (s.size : Int)] 5)).cell? ⟨w1.heap.size, 0, none⟩ = some (.int .u8 (s.size : Int)) := by simp [go_sem]
    generalize w1.alloc (.cells #[.int .u8 (s.size : Int)] 5) = w2 at *
    refine wpAnyH_strong (S' := fun w' => (w'.cell? ⟨w.heap.size, 0, none⟩ = some (.int .i64 n) ∧ w'.cell? ⟨w.heap.size, 1, none⟩ = some (.string s) ∧ Below w.heap.size w w') ∧ w'.cell? ⟨w1.heap.size, 0, none⟩ = some (.int .u8 (s.size : Int))) (fun _ h => h.1) _ _ _ _ ?_
    have hHeld4 : (w2.cell? ⟨w.heap.size, 0, none⟩ = some (.int .i64 n) ∧ w2.cell? ⟨w.heap.size, 1, none⟩ = some (.string s) ∧ Below w.heap.size w w2) ∧ w2.cell? ⟨w1.heap.size, 0, none⟩ = some (.int .u8 (s.size : Int)) := ⟨hS2, hB⟩
    have hcv := fun W' h => hc1 W' w1.heap.size h
    refine wpAnyH_take (i := 8) (oi := _) (v := ?_) (by simp only [List.getElem?_toArray, List.getElem?_cons_zero, List.getElem?_cons_succ]; rfl) (by kernel_rfl) (by kernel_rfl) (by kernel_rfl) (fun _ _ _ h => h) (Or.inl ⟨by rfl, ?_⟩) (by assumption) ?_
    rotate_left
    · intro w hSw
      (try dsimp only at hSw)
      go_simp
      try with_reducible rfl
    (try simp only [Act.put])
    (try simp only [List.setIfInBounds_toArray])
    (try simp only [List.set])
    refine wpAnyH_take (i := 9) (oi := _) (v := ?_) (by simp only [List.getElem?_toArray, List.getElem?_cons_zero, List.getElem?_cons_succ]; rfl) (by kernel_rfl) (by kernel_rfl) (by kernel_rfl) (fun _ _ _ h => h) (Or.inl ⟨by rfl, ?_⟩) (by assumption) ?_
    rotate_left
    · intro w hSw
      (try dsimp only at hSw)
      go_simp
      try with_reducible rfl
    (try simp only [Act.put])
    (try simp only [List.setIfInBounds_toArray])
    (try simp only [List.set])
    refine wpAnyH_take (i := 12) (oi := _) (v := ?_) (by simp only [List.getElem?_toArray, List.getElem?_cons_zero, List.getElem?_cons_succ]; rfl) (by kernel_rfl) (by kernel_rfl) (by kernel_rfl) (fun _ _ _ h => h) (Or.inl ⟨by rfl, ?_⟩) (by assumption) ?_
    rotate_left
    · intro w hSw
      (try dsimp only at hSw)
      go_simp
      try with_reducible rfl
    (try simp only [Act.put])
    (try simp only [List.setIfInBounds_toArray])
    (try simp only [List.set])
    refine wpAnyH_take (i := 13) (oi := _) (v := ?_) (by simp only [List.getElem?_toArray, List.getElem?_cons_zero, List.getElem?_cons_succ]; rfl) (by kernel_rfl) (by kernel_rfl) (by kernel_rfl) (fun _ _ _ h => h) (Or.inl ⟨by rfl, ?_⟩) (by assumption) ?_
    rotate_left
    · intro w hSw
      (try dsimp only at hSw)
      go_simp
      try with_reducible rfl
    (try simp only [Act.put])
    (try simp only [List.setIfInBounds_toArray])
    (try simp only [List.set])
    refine wpAnyH_done (by kernel_rfl) ?_ _
    refine NoPanic.normal ?_
    clear hHeld3 hHeld4 hB
    obtain ⟨_, _, hbe⟩ := hS2
    clear hcv had1 had2 hc1
    go_wp2_with (first | (at_make; refine wpList_make_full _ rfl _ _ 58 rfl w.heap.size 5 i0 (.int .u8 0) 1 Try.underlying58 hi hz0 hz1 _ _ _ _ (16 - L) rfl rfl (by rw [HS.out]) (by rw [HS.out]) ?b1 ?b2 ?b3 ?_))
    case b1 => rw [hz2]; omega
    case b2 => unfold maxLen; omega
    case b3 => exact hbe.size
    intro w3 hown hgrow
    have hcv := conv_zeros (P := Try.prog) (dst := 9) Try.underlying58 Try.underlying5 Try.underlying9 hown
    go_wp2
    go_ret
    refine ⟨?_, below_of_grown hbe hgrow hbe.size⟩
    rw [slotS, pad16, ← HL.out]
    rfl
  · refine AllReadyH.cons (by simp only [List.getElem?_toArray, List.getElem?_cons_zero, List.getElem?_cons_succ]; rfl) (fun K hK => ?_) AllReadyH.nil
    go_simp
    have hS1 := keep2_alloc (W := W.drew) (.cells #[.int .u8 (s.size : Int)] 5) c0 c1 cB.drew
    refine hK.out _ _ hS1 (fun hHeld2 => ?_)
    clear hK K hHeld hHeld2
    have hB : (W.alloc (.cells #[.int .u8 (s.size : Int)] 5)).drew.cell? ⟨W.heap.size, 0, none⟩ = some (.int .u8 (s.size : Int)) := by simp [go_sem]
    change (W.alloc (.cells #[.int .u8 (s.size : Int)] 5)).drew.cell? _ = _ ∧ (W.alloc (.cells #[.int .u8 (s.size : Int)] 5)).drew.cell? _ = _ ∧ Below _ _ (W.alloc (.cells #[.int .u8 (s.size : Int)] 5)).drew at hS1
    generalize (W.alloc (.cells #[.int .u8 (s.size : Int)] 5)).drew = w1 at *
    refine wpAnyH_strong (S' := fun w' => (w'.cell? ⟨w.heap.size, 0, none⟩ = some (.int .i64 n) ∧ w'.cell? ⟨w.heap.size, 1, none⟩ = some (.string s) ∧ Below w.heap.size w w') ∧ w'.cell? ⟨W.heap.size, 0, none⟩ = some (.int .u8 (s.size : Int))) (fun _ h => h.1) _ _ _ _ ?_
    have hHeld4 : (w1.cell? ⟨w.heap.size, 0, none⟩ = some (.int .i64 n) ∧ w1.cell? ⟨w.heap.size, 1, none⟩ = some (.string s) ∧ Below w.heap.size w w1) ∧ w1.cell? ⟨W.heap.size, 0, none⟩ = some (.int .u8 (s.size : Int)) := ⟨hS1, hB⟩
    have hcv := fun W' h => hc1 W' W.heap.size h
    refine wpAnyH_take (i := 8) (oi := _) (v := ?_) (by simp only [List.getElem?_toArray, List.getElem?_cons_zero, List.getElem?_cons_succ]; rfl) (by kernel_rfl) (by kernel_rfl) (by kernel_rfl) (fun _ _ _ h => h) (Or.inl ⟨by rfl, ?_⟩) (by assumption) ?_
    rotate_left
    · intro w hSw
      (try dsimp only at hSw)
      go_simp
      try with_reducible rfl
    (try simp only [Act.put])
    (try simp only [List.setIfInBounds_toArray])
    (try simp only [List.set])
    refine wpAnyH_ready (rs := [2]) (by kernel_rfl) (by simp) ?_
    refine AllReadyH.cons (by simp only [List.getElem?_toArray, List.getElem?_cons_zero, List.getElem?_cons_succ]; rfl) (fun K hK => ?_) AllReadyH.nil
    go_simp
    refine (text_any n 2 _ (by omega)).mono ?_
    rintro e w2 ⟨rfl, hb2⟩
    have hS2 := keep2 hb2 hS1.1 hS1.2.1 hS1.2.2
    have hB2 : w2.cell? ⟨W.heap.size, 0, none⟩ = some (.int .u8 (s.size : Int)) := by rw [hb2.cell (World.block_lt_of_cell? _ _ hB)]; exact hB
    refine hK.out _ _ ⟨hS2, hB2⟩ (fun hHeld3 => ?_)
    clear hK K hHeld4 hB
    have hB := hB2
    have hHeld4 := hHeld3
    refine wpAnyH_take (i := 9) (oi := _) (v := ?_) (by simp only [List.getElem?_toArray, List.getElem?_cons_zero, List.getElem?_cons_succ]; rfl) (by kernel_rfl) (by kernel_rfl) (by kernel_rfl) (fun _ _ _ h => h) (Or.inl ⟨by rfl, ?_⟩) (by assumption) ?_
    rotate_left
    · intro w hSw
      (try dsimp only at hSw)
      go_simp
      try with_reducible rfl
    (try simp only [Act.put])
    (try simp only [List.setIfInBounds_toArray])
    (try simp only [List.set])
    refine wpAnyH_take (i := 12) (oi := _) (v := ?_) (by simp only [List.getElem?_toArray, List.getElem?_cons_zero, List.getElem?_cons_succ]; rfl) (by kernel_rfl) (by kernel_rfl) (by kernel_rfl) (fun _ _ _ h => h) (Or.inl ⟨by rfl, ?_⟩) (by assumption) ?_
    rotate_left
    · intro w hSw
      (try dsimp only at hSw)
      go_simp
      try with_reducible rfl
    (try simp only [Act.put])
    (try simp only [List.setIfInBounds_toArray])
    (try simp only [List.set])
    refine wpAnyH_take (i := 13) (oi := _) (v := ?_) (by simp only [List.getElem?_toArray, List.getElem?_cons_zero, List.getElem?_cons_succ]; rfl) (by kernel_rfl) (by kernel_rfl) (by kernel_rfl) (fun _ _ _ h => h) (Or.inl ⟨by rfl, ?_⟩) (by assumption) ?_
    rotate_left
    · intro w hSw
      (try dsimp only at hSw)
      go_simp
      try with_reducible rfl
    (try simp only [Act.put])
    (try simp only [List.setIfInBounds_toArray])
    (try simp only [List.set])
    refine wpAnyH_done (by kernel_rfl) ?_ _
    refine NoPanic.normal ?_
    clear hB2
    clear hHeld3 hHeld4 hB
    obtain ⟨_, _, hbe⟩ := hS2
    clear hcv had1 had2 hc1
    go_wp2_with (first | (at_make; refine wpList_make_full _ rfl _ _ 58 rfl w.heap.size 5 i0 (.int .u8 0) 1 Try.underlying58 hi hz0 hz1 _ _ _ _ (16 - L) rfl rfl (by rw [HS.out]) (by rw [HS.out]) ?b1 ?b2 ?b3 ?_))
    case b1 => rw [hz2]; omega
    case b2 => unfold maxLen; omega
    case b3 => exact hbe.size
    intro w3 hown hgrow
    have hcv := conv_zeros (P := Try.prog) (dst := 9) Try.underlying58 Try.underlying5 Try.underlying9 hown
    go_wp2
    go_ret
    refine ⟨?_, below_of_grown hbe hgrow hbe.size⟩
    rw [slotS, pad16, ← HL.out]
    rfl
end Go.Proofs.Ytdecjmiahjlpjaa
