
/-
  An inode is taken of an empty file system: soft.Change, alloc.look, set, take, Inode, walked.
-/
import Derived.Test.YtghggelkmhdhfaaGreatDoorTAddOne
import Derived.Test.YtghggelkmhdhfaaGreatDoorTSide
import Derived.Test.YtghggelkmhdhfaaGreatDoorTSet
import Derived.Test.YtghggelkmhdhfaaGreatDoorTWrong
import Derived.Test.YtghggelkmhdhfaaGreatDoorMTaken
import Derived.Deep.RegionHeld3
namespace Go.Proofs.YtghggelkmhdhfaaGreatDoor
open Go.RowKit

theorem change_step {w W w' : World} {p s off : Nat} {t : ByteArray} (hs : ¬ s = p) (hp : p < w.heap.size) (hb : But p W w') (h : W.cell? ⟨s, 0, none⟩ = some (.pointer (some ⟨p, 0, none⟩)) ∧ W.cell? ⟨w.heap.size, 0, none⟩ = some (.int .i64 (off : Int)) ∧ W.cell? ⟨w.heap.size, 1, none⟩ = some (.string t) ∧ But p w W) :
    w'.cell? ⟨s, 0, none⟩ = some (.pointer (some ⟨p, 0, none⟩)) ∧ w'.cell? ⟨w.heap.size, 0, none⟩ = some (.int .i64 (off : Int)) ∧ w'.cell? ⟨w.heap.size, 1, none⟩ = some (.string t) ∧ But p w w' :=
  ⟨hb.cell hs h.1, hb.cell (by omega) h.2.1, hb.cell (by omega) h.2.2.1, h.2.2.2.trans hb⟩

set_option maxHeartbeats 2000000 in
theorem schange_any (s p d g n c k off : Nat) (t y : ByteArray) (w : World) (hk : k < n) (hk2 : k < 2048) (ht : insideB off t.size = true) (hsp : ¬ s = p) (h0 : w.cell? ⟨s, 0, none⟩ = some (.pointer (some ⟨p, 0, none⟩))) (h1 : w.cell? ⟨s, 1, none⟩ = some (.pointer (some ⟨d, 0, none⟩)))
    (h2 : w.cell? ⟨d, 0, none⟩ = some (.slice (some ⟨g, 0, none⟩) n c)) (h3 : w.cell? ⟨g, k, none⟩ = some (.string y)) (h4 : w.cell? ⟨p, 0, none⟩ = some (.slice none 0 0)) (h5 : w.cell? ⟨p, 1, none⟩ = some (.int .i64 0)) (h6 : ∀ o, w.frozen? ⟨p, o, none⟩ = false) :
    Calls Tryz.prog 87 #[.pointer (some ⟨s, 0, none⟩), .int .i64 (k : Int), .agg #[.int .i64 (off : Int), .string t], .slice none 0 0] w fun e w' => e = .returned (.tuple #[.int .i64 1, .int .i64 0]) ∧ But p w w' := by
  have hpl : p < w.heap.size := World.block_lt_of_cell? w _ h4
  have hsl : s < w.heap.size := World.block_lt_of_cell? w _ h0
  have hB := (Below.refl w.heap.size w).alloc (Nat.le_refl _) (.cells #[.int .i64 (off : Int), .string t] 90)
  have hP : But p w (w.alloc (.cells #[.int .i64 (off : Int), .string t] 90)) := But.of_below hB (Nat.le_of_lt hpl)
  have e : ∀ q v, w.cell? q = some v → (w.alloc (.cells #[.int .i64 (off : Int), .string t] 90)).cell? q = some v := fun q v h => by rw [hB.cell (World.block_lt_of_cell? _ _ h)]; exact h
  have HR := Lib.hid (dread_any d g n c k y _ (e _ _ h2) hk (e _ _ h3))
  have k0 := e _ _ h0
  have k1 := e _ _ h1
  have q0 : (w.alloc (.cells #[.int .i64 (off : Int), .string t] 90)).cell? ⟨w.heap.size, 0, none⟩ = some (.int .i64 (off : Int)) := by simp [go_sem]
  have q1 : (w.alloc (.cells #[.int .i64 (off : Int), .string t] 90)).cell? ⟨w.heap.size, 1, none⟩ = some (.string t) := by simp [go_sem]
  have HA := Lib.hid (add_none p k off t (w.alloc (.cells #[.int .i64 (off : Int), .string t] 90)).drew hk2 ht (e _ _ h4) (e _ _ h5) (fun o => by rw [show (w.alloc (.cells #[.int .i64 (off : Int), .string t] 90)).drew.frozen? ⟨p, o, none⟩ = (w.alloc (.cells #[.int .i64 (off : Int), .string t] 90)).frozen? ⟨p, o, none⟩ from rfl, hB.frozen (by simpa using hpl)]; exact h6 o))
  have HSP := Lib.hid hsp
  have HPL := Lib.hid hpl
  clear ht h2 h3 h4 h5 h6 e hB
  go_enter Tryz.func87, Tryz.ntmps87
  go_wp2_with fail
  generalize w.alloc (.cells #[.int .i64 (off : Int), .string t] 90) = w1 at *
  refine HR.out.mono ?_
  rintro e w2 ⟨rfl, rfl⟩
  go_wp2_with fail
  go_region_held3 (fun w' => w'.cell? ⟨s, 0, none⟩ = some (.pointer (some ⟨p, 0, none⟩)) ∧ w'.cell? ⟨w.heap.size, 0, none⟩ = some (.int .i64 (off : Int)) ∧ w'.cell? ⟨w.heap.size, 1, none⟩ = some (.string t) ∧ But p w w')
    (first
      | exact ⟨k0, q0, q1, hP.below (Below.refl _ w1).drew (Nat.le_of_lt hpl)⟩
      | exact change_step hsp hpl hb4 ‹_ ∧ _ ∧ _ ∧ But p w _›)
    (first
      | (go_at_call 103; refine HA.out.mono ?_; rintro e w4 ⟨rfl, hb4⟩))
  have HT := Lib.hid ‹_ ∧ _ ∧ _ ∧ But p w w4›.2.2.2
  clear hb4
  go_wp2_with fail
  go_ret2
  exact ⟨rfl, HT.out⟩

/-- A side of a disk, and nothing changed. -/
def SideN (s p d g n k : Nat) (y : ByteArray) (W : World) : Prop := W.cell? ⟨s, 0, none⟩ = some (.pointer (some ⟨p, 0, none⟩)) ∧ W.cell? ⟨s, 1, none⟩ = some (.pointer (some ⟨d, 0, none⟩)) ∧ (∃ c, W.cell? ⟨d, 0, none⟩ = some (.slice (some ⟨g, 0, none⟩) n c)) ∧ W.cell? ⟨g, k, none⟩ = some (.string y) ∧
  W.cell? ⟨p, 0, none⟩ = some (.slice none 0 0) ∧ W.cell? ⟨p, 1, none⟩ = some (.int .i64 0) ∧ ∀ o, W.frozen? ⟨p, o, none⟩ = false
theorem SideN.lt {s p d g n k : Nat} {y : ByteArray} {W : World} (h : SideN s p d g n k y W) : p < W.heap.size := World.block_lt_of_cell? W ⟨p, 0, none⟩ h.2.2.2.2.1
theorem SideN.below {s p d g n k : Nat} {y : ByteArray} {W w' : World} (h : SideN s p d g n k y W) (hb : Below W.heap.size W w') : SideN s p d g n k y w' := by
  have hl := h.lt
  obtain ⟨h0, h1, ⟨c, h2⟩, h3, h4, h5, h6⟩ := h
  have e : ∀ q v, W.cell? q = some v → w'.cell? q = some v := fun q v h => by rw [hb.cell (World.block_lt_of_cell? _ _ h)]; exact h
  exact ⟨e _ _ h0, e _ _ h1, ⟨c, e _ _ h2⟩, e _ _ h3, e _ _ h4, e _ _ h5, fun o => by rw [hb.frozen (by simpa using hl)]; exact h6 o⟩
theorem SideN.change {s p d g n k off : Nat} {t y : ByteArray} {w : World} (h : SideN s p d g n k y w) (hk : k < n) (hk2 : k < 2048) (ht : insideB off t.size = true) (hsp : ¬ s = p) :
    Calls Tryz.prog 87 #[.pointer (some ⟨s, 0, none⟩), .int .i64 (k : Int), .agg #[.int .i64 (off : Int), .string t], .slice none 0 0] w fun e w' => e = .returned (.tuple #[.int .i64 1, .int .i64 0]) ∧ But p w w' := by
  obtain ⟨h0, h1, ⟨c, h2⟩, h3, h4, h5, h6⟩ := h
  exact schange_any s p d g n c k off t y w hk hk2 ht hsp h0 h1 h2 h3 h4 h5 h6
theorem SideN.read {s p d g n k : Nat} {y : ByteArray} {w : World} (h : SideN s p d g n k y w) (hk : k < n) (hy : y.size = 64) :
    Calls Tryz.prog 84 #[.pointer (some ⟨s, 0, none⟩), .int .i64 (k : Int)] w fun e w' => e = .returned (.tuple #[.string y, .int .i64 0]) ∧ Below w.heap.size w w' := by
  obtain ⟨h0, h1, ⟨c, h2⟩, h3, h4, h5, h6⟩ := h
  exact sread_any s p d g n c k y w h0 h1 h4 h2 hk h3 hy

set_option maxHeartbeats 2000000 in
theorem cset_any (s p d g n k N P : Nat) (y b : ByteArray) (w : World) (hk : k < n) (hk2 : k < 2048) (hP : P < N) (hN : N ≤ 64) (hsp : ¬ s = p) (h : SideN s p d g n k y w) :
    Calls Tryz.prog 65 #[.agg #[.pointer (some ⟨s, 0, none⟩), .int .i64 (k : Int), .string b, .int .i64 (N : Int)], .int .i64 (P : Int), .bool true, .slice none 0 0] w fun e w' => e = .returned (.tuple #[.int .i64 1, .int .i64 0]) ∧ But p w w' := by
  have HM := Lib.hid (fun W => set_any N P true W hP hN)
  have HC := Lib.hid (fun W (hS : SideN s p d g n k y W) => hS.change (off := P) (t := bit true) hk hk2 (decide_eq_true (by rw [size_bit]; omega)) hsp)
  have HS := Lib.hid h
  have hpl := h.lt
  clear h
  go_enter Tryz.func65, Tryz.ntmps65
  go_wp2_with fail
  refine (HM.out _).mono ?_
  rintro e w1 ⟨rfl, hb1⟩
  have c0 : w1.cell? ⟨w.heap.size, 0, none⟩ = some (.pointer (some ⟨s, 0, none⟩)) := by rw [hb1.cell (by simp <;> omega)]; simp [go_sem]
  have c1 : w1.cell? ⟨w.heap.size, 1, none⟩ = some (.int .i64 (k : Int)) := by rw [hb1.cell (by simp <;> omega)]; simp [go_sem]
  have hB1 : Below w.heap.size w w1 := by (repeat' (first | exact Below.refl _ _ | assumption | refine Below.setCell ?_ ?_ _ | refine Below.drew ?_ | refine below_drewN ?_ _ | refine Below.alloc ?_ ?_ _ | refine below_of_grown ?_ (by assumption) ?_ | refine Below.trans ?_ (Below.mono (by assumption) ?_) | omega | (simp; done) | (simp; omega)))
  have hlt : w.heap.size < w1.heap.size := World.block_lt_of_cell? w1 _ c0
  have S1 := Lib.hid (HS.out.below hB1)
  have HB1 := Lib.hid hB1
  clear hb1 hB1 HS
  go_wp2_with fail
  have S2 := S1.out.below ((Below.refl _ w1).alloc (Nat.le_refl _) (.cells #[.int .i64 (P : Int), .string (bit true)] 90))
  have B2 := Lib.hid (But.of_below (HB1.out.alloc HB1.out.size (.cells #[.int .i64 (P : Int), .string (bit true)] 90)) (Nat.le_of_lt hpl))
  refine (HC.out _ S2).mono ?_
  rintro e w3 ⟨rfl, hb3⟩
  have B3 := Lib.hid (B2.out.trans hb3)
  clear hb3 S2 S1 HB1 B2 c0 c1
  go_wp2_with fail
  go_ret2
  exact ⟨rfl, B3.out⟩

theorem look_results (tmps : Array Value) (W : World) (g : Nat) (cs : Array Value) (fr : Nat × Nat) (c : Int) (h2 : tmps.getD 8 undef = .pointer (some ⟨g, 0, none⟩)) (h3 : tmps.getD 9 undef = .int .i64 c)
    (hg : W.heap[g]? = some (.cells cs 116 fr)) (hs : cs.size = 4) :
    (results Tryz.f63 tmps).run Tryz.prog W = .ok (.tuple #[.agg cs, .int .i64 c]) W := by
  rw [results_cell_tmp Tryz.results63, h2, h3]
  simp only [asAddr, Sem.run_pure, Result.andThen_ok]
  rw [run_loadVar_row W g _ _ cs fr _ hg Tryz.underlying116 rfl (by rw [hs]; kernel_rfl)]
  rfl
theorem info_chart : (Tryz.prog.info? 116).map (·.size) = some 4 := by kernel_rfl
/-- A group's map, as a side sees it. -/
def LookIs (w : World) (s k N : Nat) (y : ByteArray) (e : Ending) (w' : World) : Prop := e = .returned (.tuple #[.agg #[.pointer (some ⟨s, 0, none⟩), .int .i64 (k : Int), .string y, .int .i64 (N : Int)], .int .i64 0]) ∧ Below w.heap.size w w'

set_option maxHeartbeats 2000000 in
theorem look_any {A B C : Nat} (G : Geo A B C) (s p d g n : Nat) (y : ByteArray) (w : World) (hk : fiN A B C 0 < n) (hy : y.size = 64) (hc : chkE y (B : Int) = 0) (h : SideN s p d g n (fiN A B C 0) y w) :
    Calls Tryz.prog 63 #[.pointer (some ⟨s, 0, none⟩), .agg #[.int .i64 (A : Int), .int .i64 (B : Int), .int .i64 (C : Int)], .int .i64 0, .bool false] w (LookIs w s (fiN A B C 0) B y) := by
  have HM := Lib.hid (fun W => map_any G W)
  have HR := Lib.hid (fun W (hS : SideN s p d g n (fiN A B C 0) y W) => hS.read hk hy)
  have hch := fun W => check_any y (B : Int) W
  rw [hc] at hch
  have HCH := Lib.hid hch
  have HS := Lib.hid h
  generalize fiN A B C 0 = F at *
  unfold LookIs
  clear h hc hch hy
  go_enter Tryz.func63, Tryz.ntmps63
  go_wp2_with fail
  refine (HM.out _).mono ?_
  rintro e w1 ⟨rfl, hb1⟩
  have D1 : Blk w1 (w.heap.size + 1 + 1) #[.pointer (some ⟨s, 0, none⟩), .int .i64 0, .string ⟨#[]⟩, .int .i64 (B : Int)] 116 := by simpa using (Blk.new ((w.alloc (.cells #[.int .i64 (A : Int), .int .i64 (B : Int), .int .i64 (C : Int)] 23)).alloc (.cells #[.pointer none, .int .i64 0, .string ⟨#[]⟩, .int .i64 0] 116)) #[.pointer (some ⟨s, 0, none⟩), .int .i64 0, .string ⟨#[]⟩, .int .i64 (B : Int)] 116).below hb1
  have R1 : Blk w1 (w.heap.size + 1) #[.pointer none, .int .i64 0, .string ⟨#[]⟩, .int .i64 0] 116 := by simpa using ((Blk.new (w.alloc (.cells #[.int .i64 (A : Int), .int .i64 (B : Int), .int .i64 (C : Int)] 23)) #[.pointer none, .int .i64 0, .string ⟨#[]⟩, .int .i64 0] 116).alloc (.cells #[.pointer (some ⟨s, 0, none⟩), .int .i64 0, .string ⟨#[]⟩, .int .i64 (B : Int)] 116)).below hb1
  have B1 : Below w.heap.size w w1 := by (repeat' (first | exact Below.refl _ _ | assumption | refine Below.setCell ?_ ?_ _ | refine Below.drew ?_ | refine below_drewN ?_ _ | refine Below.alloc ?_ ?_ _ | refine below_of_grown ?_ (by assumption) ?_ | refine Below.trans ?_ (Below.mono (by assumption) ?_) | omega | (simp; done) | (simp; omega)))
  have c1 := D1.cell 1
  have cf := D1.free
  have D2 : Blk (w1.setCell ⟨w.heap.size + 1 + 1, 1, none⟩ (.int .i64 (F : Int))) (w.heap.size + 1 + 1) #[.pointer (some ⟨s, 0, none⟩), .int .i64 (F : Int), .string ⟨#[]⟩, .int .i64 (B : Int)] 116 := D1.setCell 1 _
  have R2 := R1.otherCell (r := w.heap.size + 1 + 1) (by omega) 1 (.int .i64 (F : Int))
  have B2 : Below w.heap.size w (w1.setCell ⟨w.heap.size + 1 + 1, 1, none⟩ (.int .i64 (F : Int))) := B1.setCell (by simp; omega) _
  have HD2 := Lib.hid D2
  have HR2 := Lib.hid R2
  have HB2 := Lib.hid B2
  have d1 : (w1.setCell ⟨w.heap.size + 1 + 1, 1, none⟩ (.int .i64 (F : Int))).cell? ⟨w.heap.size + 1 + 1, 1, none⟩ = some (.int .i64 (F : Int)) := D2.cell 1
  have c1' : w1.cell? ⟨w.heap.size + 1 + 1, 1, none⟩ = some (.int .i64 0) := c1
  clear hb1 D1 R1 D2 R2 B1 B2 c1
  go_wp2_with fail
  generalize w1.setCell ⟨w.heap.size + 1 + 1, 1, none⟩ (.int .i64 (F : Int)) = w2 at *
  clear c1' cf d1
  refine (HR.out _ (HS.out.below HB2.out)).mono ?_
  rintro e w3 ⟨rfl, hb3⟩
  have D3 := HD2.out.below hb3
  have R3 := HR2.out.below hb3
  have B3 : Below w.heap.size w w3 := HB2.out.trans (hb3.mono HB2.out.size)
  have c2 : w3.cell? ⟨w.heap.size + 1 + 1, 2, none⟩ = some (.string ⟨#[]⟩) := D3.cell 2
  have cf := D3.free
  have D4 : Blk (w3.setCell ⟨w.heap.size + 1 + 1, 2, none⟩ (.string y)) (w.heap.size + 1 + 1) #[.pointer (some ⟨s, 0, none⟩), .int .i64 (F : Int), .string y, .int .i64 (B : Int)] 116 := D3.setCell 2 _
  have R4 := R3.otherCell (r := w.heap.size + 1 + 1) (by omega) 2 (.string y)
  have B4 : Below w.heap.size w (w3.setCell ⟨w.heap.size + 1 + 1, 2, none⟩ (.string y)) := B3.setCell (by simp; omega) _
  have HD4 := Lib.hid D4
  have HR4 := Lib.hid R4
  have HB4 := Lib.hid B4
  have d3 : w3.cell? ⟨w.heap.size + 1 + 1, 3, none⟩ = some (.int .i64 (B : Int)) := D3.cell 3
  clear hb3 D3 R3 D4 R4 B3 B4 HD2 HR2 HB2
  go_wp2_with fail
  generalize w3.setCell ⟨w.heap.size + 1 + 1, 2, none⟩ (.string y) = w4 at *
  clear c2 cf d3
  refine (HCH.out _).mono ?_
  rintro e w5 ⟨rfl, hb5⟩
  have D5 := HD4.out.below hb5
  have R5 := HR4.out.below hb5
  have B5 : Below w.heap.size w w5 := HB4.out.trans (hb5.mono HB4.out.size)
  have HD5 := Lib.hid D5
  have HR5 := Lib.hid R5
  have HB5 := Lib.hid B5
  clear hb5 D5 R5 B5 HD4 HR4 HB4
  have hlt0 : w.heap.size + 1 < w5.heap.size := HR5.out.lt
  go_wp2_with (first | (refine wpList_load_row rfl 116 _ rfl (w.heap.size + 1 + 1) rfl 116 #[.pointer (some ⟨s, 0, none⟩), .int .i64 (F : Int), .string y, .int .i64 (B : Int)] (0, 0) _ HD5.out Tryz.underlying116 rfl info_chart ?_) | (refine wpList_store_row rfl 116 _ _ rfl (w.heap.size + 1) #[.pointer (some ⟨s, 0, none⟩), .int .i64 (F : Int), .string y, .int .i64 (B : Int)] rfl rfl 116 #[.pointer none, .int .i64 0, .string ⟨#[]⟩, .int .i64 0] HR5.out info_chart rfl (by simp [Value.oneCell']) ?_))
  refine bodyPost_ret (v := .tuple #[.agg #[.pointer (some ⟨s, 0, none⟩), .int .i64 (F : Int), .string y, .int .i64 (B : Int)], .int .i64 0]) (look_results _ _ (w.heap.size + 1) _ _ _ rfl rfl (HR5.out.set _) rfl) rfl ⟨rfl, below_setRow HB5.out (by omega) _⟩

set_option maxHeartbeats 2000000 in
theorem take_any {A B C : Nat} (G : Geo A B C) (s p d g n b o c : Nat) (y : ByteArray) (w : World) (hk : fiN A B C 0 < n) (hk2 : fiN A B C 0 < 2048) (hy : y.size = 64) (hc : chkE y (B : Int) = 0) (P : Nat) (hP : P < B) (hfi : findI y (B : Int) 0 = (P : Int)) (hfe : findE y (B : Int) 0 = 0) (hsp : ¬ s = p)
    (hb : b < w.heap.size) (hz : w.cell? ⟨b, o, none⟩ = some (.int .i64 0)) (h : SideN s p d g n (fiN A B C 0) y w) :
    Calls Tryz.prog 43 #[.pointer (some ⟨s, 0, none⟩), .agg #[.int .i64 (A : Int), .int .i64 (B : Int), .int .i64 (C : Int)], .bool false, .slice (some ⟨b, o, none⟩) 1 c] w fun e w' => e = .returned (.tuple #[.int .i64 0, .int .i64 (P : Int), .int .i64 1, .int .i64 0]) ∧ But p w w' := by
  have HW := Lib.hid (fun W h1 h2 => awrong_any G s b o c W h1 h2)
  have HL := Lib.hid (fun W hS => look_any G s p d g n y W hk hy hc hS)
  have hfd := fun W => find_any y (B : Int) 0 W
  rw [hfi, hfe] at hfd
  have HFD := Lib.hid hfd
  have hB64 : B ≤ 64 := by
    obtain ⟨_, _, _, h4, _, _⟩ := G
    omega
  have HST := Lib.hid (fun W hS => cset_any s p d g n (fiN A B C 0) B P y y W hk hk2 hP hB64 hsp hS)
  have HS := Lib.hid h
  have hpl := h.lt
  unfold LookIs at HL
  have HZ := Lib.hid hz
  generalize fiN A B C 0 = F at *
  clear h hc hfd hfi hfe hy hz
  go_enter Tryz.func43, Tryz.ntmps43
  go_wp2_with fail
  refine (HW.out _ (by simp; omega) (by rw [((Below.refl w.heap.size w).alloc (Nat.le_refl _) _).cell (by simpa using hb)]; exact HZ.out)).mono ?_
  rintro e w1 ⟨rfl, hb1⟩
  have X1 : Box w1 w.heap.size A B C := ⟨by rw [hb1.cell (by simp <;> omega)]; simp [go_sem], by rw [hb1.cell (by simp <;> omega)]; simp [go_sem], by rw [hb1.cell (by simp <;> omega)]; simp [go_sem]⟩
  have B1 : Below w.heap.size w w1 := by (repeat' (first | exact Below.refl _ _ | assumption | refine Below.setCell ?_ ?_ _ | refine Below.drew ?_ | refine below_drewN ?_ _ | refine Below.alloc ?_ ?_ _ | refine below_of_grown ?_ (by assumption) ?_ | refine Below.trans ?_ (Below.mono (by assumption) ?_) | omega | (simp; done) | (simp; omega)))
  have z1 : w1.cell? ⟨b, o, none⟩ = some (.int .i64 0) := by rw [B1.cell (by simpa using hb)]; exact HZ.out
  have S1 := Lib.hid (HS.out.below B1)
  have HB1 := Lib.hid B1
  have HX1 := Lib.hid X1
  have c0 := X1.1
  have c1 := X1.2.1
  have c2 := X1.2.2
  have hb1' : b < w1.heap.size := World.block_lt_of_cell? w1 _ z1
  clear hb1 B1 X1 HZ HS
  go_wp2_with fail
  refine wp_loop_rounds 1 ?_
  rw [rounds_succ]
  go_wp2_with fail
  refine (HL.out _ S1.out).mono ?_
  rintro e w2 ⟨rfl, hb2⟩
  have S2 := Lib.hid (S1.out.below hb2)
  have B2 := Lib.hid (HB1.out.trans (hb2.mono HB1.out.size))
  clear hb2 S1 HB1 HX1 z1 c0 c1 c2
  go_wp2_with fail
  refine (HFD.out _).mono ?_
  rintro e w3 ⟨rfl, hb3⟩
  have D3 := (Blk.new w2 #[.pointer (some ⟨s, 0, none⟩), .int .i64 (F : Int), .string y, .int .i64 (B : Int)] 116).below hb3
  have d0 := D3.cell 0
  have d1 := D3.cell 1
  have d2 := D3.cell 2
  have d3 := D3.cell 3
  have hB3 := ((Below.refl _ w2).alloc (Nat.le_refl _) (.cells #[.pointer (some ⟨s, 0, none⟩), .int .i64 (F : Int), .string y, .int .i64 (B : Int)] 116)).trans (hb3.mono (by simp))
  have S3 := Lib.hid (S2.out.below hB3)
  have B3 := Lib.hid (But.of_below (B2.out.trans (hB3.mono B2.out.size)) (Nat.le_of_lt hpl))
  have D3' := Lib.hid D3
  clear hb3 hB3 D3 d0 d1 d2 d3 S2 B2
  go_wp2_with (refine wpList_load_row rfl 116 _ rfl w2.heap.size rfl 116 #[.pointer (some ⟨s, 0, none⟩), .int .i64 (F : Int), .string y, .int .i64 (B : Int)] (0, 0) _ D3'.out Tryz.underlying116 rfl info_chart ?_)
  refine (HST.out _ S3.out).mono ?_
  rintro e w4 ⟨rfl, hb4⟩
  have B4 := Lib.hid (B3.out.trans hb4)
  clear hb4 S3 B3 D3'
  go_wp2_with fail
  refine bodyPost_ret (v := .tuple #[.int .i64 0, .int .i64 (P : Int), .int .i64 1, .int .i64 0]) (by simp [results, Tryz.results43, go_sem]) rfl ⟨rfl, B4.out⟩

set_option maxHeartbeats 2000000 in
theorem ainode_any {A B C : Nat} (G : Geo A B C) (s p d g n b o c : Nat) (y : ByteArray) (w : World) (hk : fiN A B C 0 < n) (hk2 : fiN A B C 0 < 2048) (hy : y.size = 64) (hc : chkE y (B : Int) = 0) (P : Nat) (hP : P < B) (hfi : findI y (B : Int) 0 = (P : Int)) (hfe : findE y (B : Int) 0 = 0) (hsp : ¬ s = p)
    (hb : b < w.heap.size) (hz : w.cell? ⟨b, o, none⟩ = some (.int .i64 0)) (h : SideN s p d g n (fiN A B C 0) y w) :
    Calls Tryz.prog 17 #[.pointer (some ⟨s, 0, none⟩), .agg #[.int .i64 (A : Int), .int .i64 (B : Int), .int .i64 (C : Int)], .slice (some ⟨b, o, none⟩) 1 c] w fun e w' => e = .returned (.tuple #[.int .i64 ((P : Int) + 1), .int .i64 1, .int .i64 0]) ∧ But p w w' := by
  have HT := Lib.hid (fun W h1 h2 hS => take_any G s p d g n b o c y W hk hk2 hy hc P hP hfi hfe hsp h1 h2 hS)
  have hB64 : B ≤ 64 := by
    obtain ⟨_, _, _, h4, _, _⟩ := G
    omega
  have hpl := h.lt
  have HS := Lib.hid h
  have HZ := Lib.hid hz
  clear h hc hfi hfe hy hz
  go_enter Tryz.func17, Tryz.ntmps17
  go_wp2_with fail
  have hA := (Below.refl w.heap.size w).alloc (Nat.le_refl _) (.cells #[.int .i64 (A : Int), .int .i64 (B : Int), .int .i64 (C : Int)] 23)
  have hX : Box (w.alloc (.cells #[.int .i64 (A : Int), .int .i64 (B : Int), .int .i64 (C : Int)] 23)) w.heap.size A B C := ⟨by simp [go_sem], by simp [go_sem], by simp [go_sem]⟩
  refine (HT.out _ (by simp; omega) (by rw [hA.cell (by simpa using hb)]; exact HZ.out) (HS.out.below hA)).mono ?_
  rintro e w1 ⟨rfl, hb1⟩
  have X1 := hb1.box (by omega) hX
  have HB1 := Lib.hid ((But.of_below hA (Nat.le_of_lt hpl)).trans hb1)
  have c1 := X1.2.1
  clear hb1 X1 hA hX HS HZ
  go_wp2_with fail
  refine bodyPost_ret (v := .tuple #[.int .i64 ((P : Int) + 1), .int .i64 1, .int .i64 0]) (by simp [results, Tryz.results17, go_sem]) rfl ⟨rfl, HB1.out⟩
end Go.Proofs.YtghggelkmhdhfaaGreatDoor
