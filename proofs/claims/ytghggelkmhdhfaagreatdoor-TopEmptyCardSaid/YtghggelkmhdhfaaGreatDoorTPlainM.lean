
/-
  The maps of an empty file system: the root alone is taken. What an empty file system's sectors are, in plain words.
-/
import Derived.Test.YtghggelkmhdhfaaGreatDoorMPlaces
import Derived.Test.YtghggelkmhdhfaaGreatDoorMTaken
import Derived.Test.YtghggelkmhdhfaaGreatDoorMOf
import Derived.Test.YtghggelkmhdhfaaGreatDoorTPatch
import Derived.Test.YtghggelkmhdhfaaGreatDoorTBegins
import Derived.Test.YtghggelkmhdhfaaGreatDoorTWhat
import Derived.Test.YtghggelkmhdhfaaGreatDoorEpochs
import Derived.Test.YtghggelkmhdhfaaGreatDoorDec
namespace Go.Proofs.YtghggelkmhdhfaaGreatDoor
open Go.RowKit

theorem root_map : ∀ B : Nat, B < 33 → 1 ≤ B → chkE (ofS [0]) (B : Int) = 0 ∧ (placesL (ofS [0]) (B : Int)).length = 1 := by decide +kernel
theorem blank_map : ∀ N : Nat, N < 65 → 1 ≤ N → chkE blank (N : Int) = 0 ∧ (placesL blank (N : Int)).length = 0 := by decide +kernel
end Go.Proofs.YtghggelkmhdhfaaGreatDoor

namespace Go.Proofs.YtghggelkmhdhfaaGreatDoor
open Go.RowKit

theorem byteAt_append_left (x y : ByteArray) (i : Nat) (h : i < x.size) : byteAt (x ++ y) i = byteAt x i := by
  have e : (x ++ y).data.toList = x.data.toList ++ y.data.toList := by simp
  have h' : i < x.data.toList.length := by rw [length_data]; exact h
  unfold byteAt
  rw [e]
  simp only [List.getD, List.getElem?_append_left h']
theorem byteAt_append_right (x y : ByteArray) (i : Nat) (h : x.size ≤ i) : byteAt (x ++ y) i = byteAt y (i - x.size) := by
  have e : (x ++ y).data.toList = x.data.toList ++ y.data.toList := by simp
  have h' : x.data.toList.length ≤ i := by rw [length_data]; exact h
  unfold byteAt
  rw [e]
  simp only [List.getD, List.getElem?_append_right h', length_data]
theorem byteAt_pad (x : ByteArray) (i : Nat) (h : i < x.size) : byteAt (pad x) i = byteAt x i := byteAt_append_left _ _ _ h
theorem byteAt_str (l : List UInt8) (i : Nat) : byteAt (str l) i = ((l.getD i 0).toNat : Int) := by
  unfold byteAt
  rw [data_str]
theorem ofNat_back {a : Int} (h0 : 0 ≤ a) (h1 : a < 256) : ((UInt8.ofNat a.toNat).toNat : Int) = a := by
  rw [UInt8.toNat_ofNat']
  omega

theorem sector0_text (a b c : Int) : (⟨#[67, 85, 84, 87]⟩ ++ str [UInt8.ofNat a.toNat, UInt8.ofNat b.toNat, UInt8.ofNat c.toNat] : ByteArray) = str [67, 85, 84, 87, UInt8.ofNat a.toNat, UInt8.ofNat b.toNat, UInt8.ofNat c.toNat] :=
  str_append [67, 85, 84, 87] _
theorem sector0_bytes {a b c : Int} (h : geomOk a b c = true) : byteAt (sector0 a b c) 4 = a ∧ byteAt (sector0 a b c) 5 = b ∧ byteAt (sector0 a b c) 6 = c := by
  obtain ⟨h1, h2, h3, h4, h5, h6⟩ := geomOk_iff.1 h
  unfold sector0
  rw [sector0_text]
  have hz : ∀ i, i < 7 → i < (str [67, 85, 84, 87, UInt8.ofNat a.toNat, UInt8.ofNat b.toNat, UInt8.ofNat c.toNat]).size := fun i hi => by rw [size_str]; simpa using hi
  rw [byteAt_pad _ 4 (hz 4 (by omega)), byteAt_pad _ 5 (hz 5 (by omega)), byteAt_pad _ 6 (hz 6 (by omega)), byteAt_str, byteAt_str, byteAt_str]
  exact ⟨ofNat_back (by omega) (by omega), ofNat_back (by omega) (by omega), ofNat_back (by omega) (by omega)⟩
theorem isSector0_sector0 {a b c : Int} (h : geomOk a b c = true) : isSector0 (sector0 a b c) = true := by
  obtain ⟨h4, h5, h6⟩ := sector0_bytes h
  simp only [isSector0, h4, h5, h6, h, size_sector0]
  simp

theorem fence_ep : epX (fenceS 0 0) 4 = 0 ∧ epX (fenceS 0 0) 8 = 0 ∧ epE (fenceS 0 0) = 0 := by decide +kernel
theorem decode_first {A B C : Nat} (G : Geo A B C) (w : World) :
    Calls Tryz.prog 7 #[.string (sector0 (A : Int) (B : Int) (C : Int))] w fun e w' => e = .returned (.tuple #[.agg #[.int .i64 (A : Int), .int .i64 (B : Int), .int .i64 (C : Int)], .int .i64 0]) ∧ Below w.heap.size w w' := by
  have hd := decode_yes (sector0 (A : Int) (B : Int) (C : Int)) w (isSector0_sector0 G.ok)
  obtain ⟨h4, h5, h6⟩ := sector0_bytes G.ok
  rw [h4, h5, h6] at hd
  exact hd
theorem epochs_none (w : World) : Calls Tryz.prog 8 #[.string (fenceS 0 0)] w fun e w' => e = .returned (.tuple #[.agg #[.int .i64 0, .int .i64 0], .int .i64 0]) ∧ Below w.heap.size w w' := by
  have h := epochs_any (fenceS 0 0) w
  rw [fence_ep.1, fence_ep.2.1, fence_ep.2.2] at h
  exact h

/-- The sectors by what they are. -/
theorem fmt_zero {A B C : Nat} (G : Geo A B C) : fmtF A B C 0 = sector0 (A : Int) (B : Int) (C : Int) := by
  have := (fiN_le (k := 0) G (Nat.zero_le _)).2
  unfold fmtF
  rw [if_neg (by omega), if_neg (by omega), if_neg (by omega), if_pos rfl]
theorem fmt_one {A B C : Nat} (G : Geo A B C) : fmtF A B C 1 = fenceS 0 0 := by
  have := (fiN_le (k := 0) G (Nat.zero_le _)).2
  unfold fmtF
  rw [if_neg (by omega), if_neg (by omega), if_pos rfl]
theorem fmt_blank {A B C k : Nat} (h0 : ¬ k = 0) (h1 : ¬ k = 1) (h2 : ¬ k = fiN A B C 0) (h3 : ¬ k = fiN A B C 0 + 2) : fmtF A B C k = blank := by
  unfold fmtF
  rw [if_neg h3, if_neg h2, if_neg h1, if_neg h0]
/-- What TopEmpty asks of a sector. -/
def Fits (B C kind num : Nat) (s : ByteArray) : Prop :=
  kind = 0 ∨ kind = 1 ∨ kind = 2 ∨ kind = 6 ∨ (kind = 3 ∧ chkE s (B : Int) = 0 ∧ ((num = 0 ∧ (placesL s (B : Int)).length = 1) ∨ (¬ num = 0 ∧ (placesL s (B : Int)).length = 0))) ∨
    (kind = 4 ∧ chkE s (C : Int) = 0 ∧ (placesL s (C : Int)).length = 0) ∨ (kind = 5 ∧ ((num = 1 ∧ s = rootS) ∨ (1 < num ∧ s = blank)))
theorem fits_any {A B C k kind num : Nat} (G : Geo A B C) (h : WhatIs A B C k kind num) : Fits B C kind num (fmtF A B C k) := by
  have hf := (fiN_le (k := 0) G (Nat.zero_le _)).2
  have hl := (lgN_le G).2
  obtain ⟨h1, h2, h3, h4, h5, h6⟩ := G
  rcases h with ⟨_, h, _⟩ | ⟨_, h, _⟩ | ⟨_, _, h, _⟩ | ⟨q, m, rfl, hq, hm, h⟩
  · exact .inl h
  · exact .inr (.inl h)
  · exact .inr (.inr (.inl h))
  · have hq0 : ¬ q = 0 → 4 ≤ q * lgN B C := fun h => Nat.le_trans hl (Nat.le_mul_of_pos_left _ (by omega))
    rcases h with ⟨hm2, rfl, rfl⟩ | ⟨hm2, hm3, rfl, rfl⟩ | ⟨hm2, rfl, rfl⟩
    · have hmm : m = 0 ∨ m = 1 := by omega
      rcases hmm with rfl | rfl
      · refine .inr (.inr (.inr (.inr (.inl ⟨rfl, ?_⟩))))
        by_cases h0 : num = 0
        · subst h0
          rw [show fiN A B C 0 + (0 * lgN B C + 0) = fiN A B C 0 by simp, fmtF_map]
          have := root_map B (by omega) h3
          exact ⟨this.1, .inl ⟨rfl, this.2⟩⟩
        · have := hq0 h0
          rw [fmt_blank (by omega) (by omega) (by omega) (by omega)]
          have := blank_map B (by omega) h3
          exact ⟨this.1, .inr ⟨h0, this.2⟩⟩
      · refine .inr (.inr (.inr (.inr (.inr (.inl ⟨rfl, ?_⟩)))))
        have h0 : num = 0 ∨ 4 ≤ num * lgN B C := by
          by_cases h : num = 0
          · exact .inl h
          · exact .inr (hq0 h)
        have e : ¬ num * lgN B C + 1 = 2 := by
          rcases h0 with rfl | h
          · omega
          · omega
        rw [fmt_blank (by omega) (by omega) (by omega) (by omega)]
        exact blank_map C (by omega) h5
    · refine .inr (.inr (.inr (.inr (.inr (.inr ⟨rfl, ?_⟩)))))
      by_cases h0 : q = 0
      · subst h0
        by_cases hm0 : m = 2
        · subst hm0
          refine .inl ⟨by simp, ?_⟩
          rw [Nat.zero_mul, Nat.zero_add]
          unfold fmtF
          rw [if_pos rfl]
        · refine .inr ⟨by omega, ?_⟩
          rw [Nat.zero_mul, Nat.zero_add]
          exact fmt_blank (by omega) (by omega) (by omega) (by omega)
      · have h7 := hq0 h0
        have h8 : 1 ≤ q * B := Nat.mul_le_mul (show 1 ≤ q by omega) h3
        refine .inr ⟨by omega, ?_⟩
        exact fmt_blank (by omega) (by omega) (by omega) (by omega)
    · exact .inr (.inr (.inr (.inl rfl)))
end Go.Proofs.YtghggelkmhdhfaaGreatDoor
