
/-
  A table that nobody holds: table.Decode of blank sectors, walked: each lease is free.
-/
import Derived.Test.YtghggelkmhdhfaaGreatDoorTEncode
import Derived.Test.YtghggelkmhdhfaaGreatDoorGet
namespace Go.Proofs.YtghggelkmhdhfaaGreatDoor
open Go.RowKit

theorem info_lease : (Tryz.prog.info? 72).map (fun i => (i.zero, i.size, i.bytes)) = some (some (.agg #[.int .i64 0, .int .i64 0]), 2, 16) := by kernel_rfl
/-- The cells of n free leases. -/
def freeC (n : Nat) : List Value := List.replicate (n * 2) (.int .i64 0)
theorem freeC_succ (n : Nat) : freeC n ++ [.int .i64 0, .int .i64 0] = freeC (n + 1) := by
  unfold freeC
  have e : (n + 1) * 2 = n * 2 + 1 + 1 := by omega
  rw [e, List.replicate_succ', List.replicate_succ']
  simp
/-- Free leases that the call made. -/
def OwnF (w : World) (base : Nat) (v : Value) (n : Nat) : Prop := w.ownsRow base 72 2 v n (freeC n)
theorem OwnF.below {w w' : World} {base : Nat} {v : Value} {n : Nat} (h : OwnF w base v n) (hb : Below w.heap.size w w') : OwnF w' base v n := by
  obtain ⟨h1, h2 | ⟨g, cap, cur, hv, hbb, hg, hr⟩⟩ := h
  · exact ⟨h1, .inl h2⟩
  · exact ⟨h1, .inr ⟨g, cap, cur, hv, hbb, (hb.block g (Array.getElem?_eq_some_iff.1 hg).1).trans hg, hr⟩⟩
theorem OwnF.form {w : World} {base : Nat} {v : Value} {n : Nat} (h : OwnF w base v n) (hn : 1 ≤ n) : ∃ a c, v = .slice a n c ∧ FreeL w a n := by
  have h' := h
  obtain ⟨h1, ⟨rfl, h0⟩ | ⟨g, cap, cur, rfl, hb, hg, hnn, hm, _⟩⟩ := h
  · omega
  · refine ⟨_, _, rfl, g, 0, rfl, (Array.getElem?_eq_some_iff.1 hg).1, fun i hi => ⟨?_, ?_⟩⟩
    · have hc := World.ownsRow.cells h' (g := g) rfl (i * 2) (.int .i64 0) (by unfold freeC; rw [List.getElem?_replicate, if_pos (by omega)])
      rwa [Addr.add_lit] at hc
    · have hc := World.ownsRow.cells h' (g := g) rfl (i * 2 + 1) (.int .i64 0) (by unfold freeC; rw [List.getElem?_replicate, if_pos (by omega)])
      rwa [Addr.add_lit] at hc
theorem num4_blank {off : Nat} (h : off ≤ 60) : num4 blank off = 0 := by
  have : ∀ o, o < 61 → num4 blank o = 0 := by decide +kernel
  exact this off (by omega)

theorem cell_two_new (w : World) (x y : Value) (e : TypeId) : ∀ j v, [x, y][j]? = some v → (w.alloc (.cells #[x, y] e)).cell? ((⟨w.heap.size, 0, none⟩ : Addr).add j) = some v := by
  intro j v hj
  have hlt : j < 2 := by
    have := (List.getElem?_eq_some_iff.1 hj).1
    simpa using this
  rw [Addr.add_lit, cell_of_row _ w.heap.size _ #[x, y] e (0, 0) (_root_.Go.heap_alloc_new w _)]
  have : j = 0 ∨ j = 1 := by omega
  rcases this with rfl | rfl <;> simpa using hj
/-- The cells of blank sectors. -/
def BlankL (w : World) (b o T : Nat) : Prop := b < w.heap.size ∧ ∀ i, i < T → w.cell? ⟨b, o + i, none⟩ = some (.string blank)
def KeptD (w : World) (A B C R : Nat) (v i : Value) (wr : World) : Prop := ∃ k : Nat, k ≤ R ∧ i = .int .i64 k ∧ Below w.heap.size w wr ∧ OwnF wr (w.heap.size + 1) v k ∧ Box wr w.heap.size A B C
/-- What Decode hands back. -/
def FreeIs (w : World) (R : Nat) (e : Ending) (w' : World) : Prop := ∃ a c, e = .returned (.tuple #[.slice a R c, .int .i64 0]) ∧ FreeL w' a R ∧ Below w.heap.size w w'

set_option maxHeartbeats 4000000 in
set_option maxRecDepth 100000 in
theorem tdecode_any {A B C : Nat} (G : Geo A B C) (b o c : Nat) (w : World) (hL : BlankL w b o (tsN A B)) :
    Calls Tryz.prog 9 #[.agg #[.int .i64 (A : Int), .int .i64 (B : Int), .int .i64 (C : Int)], .slice (some ⟨b, o, none⟩) (tsN A B) c] w (FreeIs w (rgN A B)) := by
  have HR := Lib.hid (fun W => regions_any G W)
  have HS := Lib.hid (fun W => sectors_any G W)
  have HT := Lib.hid (fun r hr W => table_any (r := r) G hr W)
  have HE := Lib.hid (fun a c W h => tencode_any G a c W h)
  have HG := Lib.hid (fun off (h : off ≤ 60) W => get4_any blank off W (by decide +kernel) h)
  have hr1 := rgN_le G
  have ht1 := tsN_le G
  have hsec := Lib.hid (fun r (hr : r < rgN A B) => show r / 16 < tsN A B by unfold tsN; omega)
  obtain ⟨i0, hi, hz0, hz1, hz2⟩ := info_parts info_lease
  obtain ⟨hbw, hcell⟩ := hL
  have HC := Lib.hid hcell
  generalize rgN A B = R at *
  generalize tsN A B = T at *
  have hTne : ((T : Int) == 0) = false := by rw [beq_eq_false_iff_ne]; omega
  have hTne2 : ¬ T = 0 := by omega
  clear hcell
  go_enter Tryz.func9, Tryz.ntmps9
  go_wp2_with fail
  refine (HS.out _).mono ?_
  rintro e w1 ⟨rfl, hb1⟩
  have X1 : Box w1 w.heap.size A B C := ⟨by rw [hb1.cell (by simp <;> omega)]; simp [go_sem], by rw [hb1.cell (by simp <;> omega)]; simp [go_sem], by rw [hb1.cell (by simp <;> omega)]; simp [go_sem]⟩
  have B1 : Below w.heap.size w w1 := by (repeat' (first | exact Below.refl _ _ | assumption | refine Below.setCell ?_ ?_ _ | refine Below.drew ?_ | refine below_drewN ?_ _ | refine Below.alloc ?_ ?_ _ | refine below_of_grown ?_ (by assumption) ?_ | refine Below.trans ?_ (Below.mono (by assumption) ?_) | omega | (simp; done) | (simp; omega)))
  clear hb1
  have c0 := X1.1
  have c1 := X1.2.1
  have c2 := X1.2.2
  have X1' := Lib.hid X1
  clear X1
  go_wp2_with fail
  refine (HR.out _).mono ?_
  rintro e w2 ⟨rfl, hb2⟩
  have X2 := Lib.hid (X1'.out.below hb2)
  have B2 := Lib.hid (B1.trans (hb2.mono B1.size))
  clear hb2 c0 c1 c2 B1 X1'
  go_wp2_with fail
  go_loopw [7, 28] (fun v i wr => KeptD w A B C R v i wr) (fun _ i _ => R - (intOf i).toNat)
  case atStart => exact ⟨0, by omega, rfl, B2.out, World.ownsRow_nil _ _ _ _, X2.out⟩
  case round =>
    clear B2 X2
    obtain ⟨k, hk, rfl, hbe, hown, hbox⟩ := hrel
    have hzr := hbe.size
    by_cases hlt : k < R
    · have hixk := hsec.out k hlt
      have HTK := Lib.hid (HT.out k hlt)
      have hoff : k % 16 * 4 ≤ 60 := by omega
      have hgk := HG.out (k % 16 * 4) hoff
      rw [num4_blank hoff] at hgk
      have HGK := Lib.hid hgk
      clear hgk
      obtain ⟨off, hoff2⟩ : ∃ off, off = k % 16 * 4 := ⟨_, rfl⟩
      obtain ⟨ix, hix2⟩ : ∃ ix, ix = k / 16 := ⟨_, rfl⟩
      obtain ⟨sec, hsec2⟩ : ∃ sec, sec = 2 + k / 16 := ⟨_, rfl⟩
      have hsub : (sec : Int) - 2 = (ix : Int) := by omega
      rw [← hoff2, ← hsec2] at HTK
      rw [← hoff2] at HGK
      rw [← hix2] at hixk
      have BE := Lib.hid hbe
      have OW := Lib.hid hown
      have X := Lib.hid hbox
      have b0 := hbox.1
      have b1 := hbox.2.1
      have b2 := hbox.2.2
      have hbx := hbox.lt
      have lk : (k : Int) < R := by omega
      have lk0 : (0 : Int) ≤ k := by omega
      have hbr : b < wr.heap.size := by omega
      have x0 : wr.cell? ⟨b, o + ix, none⟩ = some (.string blank) := by rw [hbe.cell (by simpa using hbw)]; exact HC.out ix hixk
      clear hbe hown hbox hoff hoff2 hix2 hsec2
      go_wp2_with fail
      refine (HTK.out _).mono ?_
      rintro e w4 ⟨rfl, hb4⟩
      have y0 : w4.cell? ⟨b, o + ix, none⟩ = some (.string blank) := by rw [hb4.cell (by simpa using hbr)]; exact x0
      have B4 := Lib.hid (BE.out.trans (Below.mono hb4 hzr))
      have O4 := Lib.hid (OW.out.below hb4)
      have X4 := Lib.hid (X.out.below hb4)
      have hix0 : (0 : Int) ≤ ix := by omega
      have hixT : (ix : Int) < T := by omega
      have hz4 := hb4.size
      clear hb4 BE OW X b0 b1 b2 x0
      go_wp2_with fail
      refine (HGK.out _).mono ?_
      rintro e w5 ⟨rfl, hb5⟩
      have B5 := Lib.hid (B4.out.trans (Below.mono hb5 B4.out.size))
      have O5 := Lib.hid (O4.out.below hb5)
      have X5 := Lib.hid (X4.out.below hb5)
      have hz5 := hb5.size
      clear hb5 B4 O4 X4 y0
      have hown := O5.out
      unfold OwnF at hown
      have hbx5 := X5.out.lt
      go_wp2_with (at_builtin; refine wpList_append_own _ rfl _ _ 35 rfl (w.heap.size + 1) 72 i0 (.agg #[.int .i64 0, .int .i64 0]) 2 16 Tryz.underlying35 hi hz0 hz1 hz2 rfl (by decide) _ _ _ rfl (hown.alloc _) ⟨w5.heap.size, 0, none⟩ 1 1 [.int .i64 0, .int .i64 0] rfl rfl ?c1 ?c2 ?c3 ?c4 ?c5 ?_)
      case c1 => exact cell_two_new _ _ _ _
      case c2 => simp [Value.oneCell']
      case c3 => unfold maxLen; omega
      case c4 => omega
      case c5 => simp; omega
      intro v6 w6 hown6 hgrow6 _
      have hne : ∀ g, u7.ownBlock = some g → w.heap.size + 1 ≤ g := fun g hg => (hown.lt g hg).1
      have O6 : OwnF w6 (w.heap.size + 1) v6 (k + 1) := by
        unfold OwnF
        rw [← freeC_succ]
        exact hown6
      have B6 : Below w.heap.size w w6 := (B5.out.alloc B5.out.size (.cells #[.int .i64 0, .int .i64 0] 72)).grown hgrow6 (by simp; omega) (fun g hg => by have := hne g hg; omega)
      have X6 : Box w6 w.heap.size A B C := by
        have hX := X5.out.below ((Below.refl _ _).alloc (Nat.le_refl _) (.cells #[.int .i64 0, .int .i64 0] 72))
        have hB : Below (w.heap.size + 1) (w5.alloc (.cells #[.int .i64 0, .int .i64 0] 72)) w6 := (Below.refl _ _).grown hgrow6 (by simp; omega) (fun g hg => hne g hg)
        exact ⟨by rw [hB.cell (by simp)]; exact hX.1, by rw [hB.cell (by simp)]; exact hX.2.1, by rw [hB.cell (by simp)]; exact hX.2.2⟩
      have HN := Lib.hid (show KeptD w A B C R v6 (.int .i64 ((k : Int) + 1)) w6 from ⟨k + 1, by omega, by simp, B6, O6, X6⟩)
      clear hown hown6 hgrow6 O6 B6 X6 B5 O5 X5 hne
      go_wp2_with fail
      exact ⟨HN.out, by simp [intOf]; omega⟩
    · obtain rfl : k = R := by omega
      obtain ⟨a, c9, rfl, hfree⟩ := hown.form (by omega)
      have HEE := Lib.hid (HE.out a c9 wr hfree)
      have BE := Lib.hid hbe
      have FR := Lib.hid hfree
      have b0 := hbox.1
      have b1 := hbox.2.1
      have b2 := hbox.2.2
      clear hbe hown hbox hfree
      go_wp2_with fail
      refine HEE.out.mono ?_
      rintro e w4 ⟨g, rfl, hg, hb4, hD⟩
      have B4 := Lib.hid (BE.out.trans (Below.mono hb4 hzr))
      have F4 := Lib.hid (FR.out.below hb4)
      have hbr : b < wr.heap.size := by omega
      have HQ := Tryz.slices_Equal_string g 0 T T b o T c (List.replicate T blank) (List.replicate T blank) w4 (by simp) (by simp) (by omega) (by omega)
        (fun j hj => by
          have hjT : j < T := by simpa using hj
          rw [Nat.zero_add, hD.cell, strC_get _ hjT]
          simp [List.getD_eq_getElem?_getD, hjT])
        (fun j hj => by
          have hjT : j < T := by simpa using hj
          rw [B4.out.cell (by simpa using hbw), HC.out j hjT]
          simp [List.getD_eq_getElem?_getD, hjT])
      rw [show decide ((List.replicate T blank).take T = (List.replicate T blank).take T) = true from decide_eq_true rfl] at HQ
      have HQ' := Lib.hid HQ
      clear HQ hb4 hD BE FR b0 b1 b2
      go_wp2_with fail
      refine HQ'.out.mono ?_
      rintro e w5 ⟨rfl, q, rfl⟩
      go_wp2_with fail
      refine bodyPost_ret (v := .tuple #[.slice a k c9, .int .i64 0]) (by simp [results, Tryz.results9, go_sem]) rfl ⟨a, c9, rfl, F4.out.below (below_drewN (Below.refl _ _) q), below_drewN B4.out q⟩
end Go.Proofs.YtghggelkmhdhfaaGreatDoor
