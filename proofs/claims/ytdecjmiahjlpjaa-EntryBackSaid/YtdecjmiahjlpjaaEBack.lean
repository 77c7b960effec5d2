/-
  The walk of EntryBack: the law returns true, and what was there is as it was.
-/
import Derived.Test.YtdecjmiahjlpjaaEPatch2
import Derived.Test.YtdecjmiahjlpjaaEWorks
import Derived.Test.YtdecjmiahjlpjaaEReads
import Derived.Test.YtdecjmiahjlpjaaAmong
namespace Go.Proofs.Ytdecjmiahjlpjaa
open Go.RowKit

/-- What the first k slots, put one by one, make of a blank sector. -/
def upto (s : ByteArray) : Nat → ByteArray
  | 0 => blank
  | k + 1 => over (upto s k) (k * 16) (slotT s k)
theorem size_blank : blank.size = 64 := by simp [blank, size_str]
theorem size_upto (s : ByteArray) (hs : s.size = 64) : ∀ k, k ≤ 4 → (upto s k).size = 64
  | 0, _ => size_blank
  | k + 1, h => by
    have h1 := size_upto s hs k (by omega)
    have h2 := size_slotT s k hs (by omega)
    rw [upto, size_over (by omega), h1]
theorem slot_upto (s : ByteArray) (hs : s.size = 64) : ∀ k, k ≤ 4 → ∀ j, j < 4 → slotT (upto s k) j = if j < k then slotT s j else slotT blank j
  | 0, _, j, _ => by rw [upto, if_neg (by omega)]
  | k + 1, h, j, hj => by
    have h1 := size_upto s hs k (by omega)
    have h2 := size_slotT s k hs (by omega)
    rw [upto, slotT_over h1 h2 (by omega), slot_upto s hs k (by omega) j hj]
    by_cases hjk : j = k
    · subst hjk
      rw [if_pos rfl, if_pos (by omega)]
    · rw [if_neg hjk]
      by_cases hlt : j < k
      · rw [if_pos hlt, if_pos (by omega)]
      · rw [if_neg hlt, if_neg (by omega)]
theorem upto_four (s : ByteArray) (hs : s.size = 64) : upto s 4 = s :=
  ext_slots (size_upto s hs 4 (by omega)) hs fun j hj => by rw [slot_upto s hs 4 (by omega) j hj, if_pos hj]
theorem slot_bytes {s : ByteArray} {k : Nat} (h : slotGood s k = true) : slotS (entN s k) (entS s k) = slotT s k := by
  simp only [slotGood, Bool.and_eq_true, decide_eq_true_eq] at h
  exact h.2.2

def Kept4b (s : ByteArray) (w : World) (b5 : Nat) (cs : Array Value) (v i : Value) (wr : World) : Prop :=
  ∃ k : Nat, k ≤ 4 ∧ i = .int .i64 k ∧ v = .string (upto s k) ∧ Below w.heap.size w wr ∧ Blk wr b5 cs 26
/-- 'l == [4]api.Entry of nothing'. -/
theorem zero_eq (W : World) : (Op.equalIn 10000 26 (.agg zeroDir.toArray) (.agg #[.int .i64 0, .string ⟨#[]⟩, .int .i64 0, .string ⟨#[]⟩, .int .i64 0, .string ⟨#[]⟩, .int .i64 0, .string ⟨#[]⟩])).run Try.prog W = .ok true W := by
  have h := dir_eq W 0 0 0 0 0 0 0 0 ⟨#[]⟩ ⟨#[]⟩ ⟨#[]⟩ ⟨#[]⟩ ⟨#[]⟩ ⟨#[]⟩ ⟨#[]⟩ ⟨#[]⟩
  simp only [eqE, beq_self_eq_true, Bool.and_true] at h
  exact h

set_option maxHeartbeats 4000000 in
set_option maxRecDepth 100000 in
theorem back_no (s : ByteArray) (slot : Int) (w : World) (hd : dirOk s = false) :
    Calls Try.prog 4 #[.string s, .int .i64 slot] w fun e w' => e = .returned (.bool true) ∧ Below w.heap.size w w' := by
  have h1 := fun W => edecode_any s W
  have ev : dirV s = .agg zeroDir.toArray := by simp [dirV, hd]
  have ee : dirE s = 70 := by simp [dirE, hd]
  rw [ev, ee] at h1
  have H1 := Lib.hid h1
  have hi8 : (Try.prog.info? 26).map (·.size) = some zeroDir.toArray.size := by kernel_rfl
  clear h1 ev ee hd
  go_enter Try.func4, Try.ntmps4
  go_wp2_with fail
  refine (works_any _).mono ?_
  rintro e w1 ⟨rfl, hb1⟩
  go_wp2_with fail
  refine (H1.out _).mono ?_
  rintro e w2 ⟨rfl, hb2⟩
  have B2 := hb1.trans (Below.mono hb2 hb1.size)
  have B3 := Lib.hid (below_row B2 (.cells zeroDir.toArray 26) zeroDir.toArray)
  have D3 := Lib.hid (Blk.rowNew w2 zeroDir.toArray zeroDir.toArray 26)
  have hEQ := zero_eq
  clear hb1 hb2 B2
  go_wp2_with (first | (refine wpList_store_row rfl 26 _ _ rfl w2.heap.size zeroDir.toArray rfl rfl 26 zeroDir.toArray (_root_.Go.heap_alloc_new _ _) hi8 rfl zero_one ?_) | (refine wpList_load_row rfl 26 _ rfl w2.heap.size rfl 26 zeroDir.toArray (0, 0) _ D3.out Try.underlying26 rfl hi8 ?_))
  go_ret
  exact ⟨rfl, B3.out⟩

set_option maxHeartbeats 4000000 in
set_option maxRecDepth 100000 in
theorem back_yes (s : ByteArray) (slot : Int) (w : World) (hd : dirOk s = true) :
    Calls Try.prog 4 #[.string s, .int .i64 slot] w fun e w' => e = .returned (.bool true) ∧ Below w.heap.size w w' := by
  have h1 := fun W => edecode_any s W
  have ee : dirE s = 0 := by simp [dirE, hd]
  rw [dirV_cells, ee] at h1
  have H1 := Lib.hid h1
  obtain ⟨k0, hk0, hks⟩ : ∃ k : Nat, k < 4 ∧ slot % ((4 : Nat) : Int) = (k : Int) := ⟨(slot % 4).toNat, by omega, by omega⟩
  have h2 := fun W => among_any slot 4 W (by omega) (by omega)
  rw [hks] at h2
  have H2 := Lib.hid h2
  clear h1 h2 hks
  have h64 := ((dirOk_iff s).1 hd).1
  have hgood := ((dirOk_iff s).1 hd).2.1
  have HG := Lib.hid hgood
  have H64 := Lib.hid h64
  obtain ⟨cs, hcs⟩ : ∃ cs, cs = dirCells s := ⟨_, rfl⟩
  rw [← hcs] at H1
  have hi8 : (Try.prog.info? 26).map (·.size) = some cs.size := by rw [hcs, dirCells_size]; kernel_rfl
  have hsz : zeroDir.toArray.size = cs.size := by rw [hcs, dirCells_size]; rfl
  have hone := dirCells_one s
  rw [← hcs] at hone
  have ecs : cs = (outCells s 4).toArray := by rw [hcs]; simp [dirCells, hd]
  have HCS := Lib.hid ecs
  have HI8 := Lib.hid hi8
  have HSZ := Lib.hid hsz
  have HONE := Lib.hid hone
  have HD := Lib.hid hd
  clear hi8 hsz hone hcs ecs hgood h64 hd ee
  go_enter Try.func4, Try.ntmps4
  go_wp2_with fail
  refine (works_any _).mono ?_
  rintro e w1 ⟨rfl, hb1⟩
  go_wp2_with fail
  refine (H1.out _).mono ?_
  rintro e w2 ⟨rfl, hb2⟩
  have B2 := hb1.trans (Below.mono hb2 hb1.size)
  have B3 := below_row B2 (.cells zeroDir.toArray 26) cs
  have D3 := Lib.hid (Blk.rowNew w2 zeroDir.toArray cs 26)
  have hB9 : w.heap.size ≤ w2.heap.size := B2.size
  clear hb1 hb2 B2
  go_wp2_with (refine wpList_store_row rfl 26 _ _ rfl w2.heap.size cs rfl rfl 26 zeroDir.toArray (_root_.Go.heap_alloc_new _ _) HI8.out HSZ.out HONE.out ?_)
  change Calls Try.prog _ _ ((w2.alloc (.cells zeroDir.toArray 26)).setRow w2.heap.size cs) _
  generalize (w2.alloc (.cells zeroDir.toArray 26)).setRow w2.heap.size cs = W3 at B3 D3 ⊢
  refine (blank_any _).mono ?_
  rintro e w4 ⟨rfl, hb4⟩
  have B4 := B3.trans (Below.mono hb4 B3.size)
  have D4 := Lib.hid (D3.out.below hb4)
  clear B3 D3 hb4
  go_wp2_with (refine wpList_load_row rfl 26 _ rfl w2.heap.size rfl 26 cs (0, 0) _ D4.out Try.underlying26 rfl HI8.out ?_)
  go_loopw [7, 34] (fun v i wr => Kept4b s w w2.heap.size cs v i wr) (fun _ i _ => 4 - (intOf i).toNat)
  case atStart => exact ⟨0, by omega, rfl, rfl, B4, D4.out⟩
  case round =>
    clear B4 D4
    obtain ⟨k, hk, rfl, rfl, hbe, hblk⟩ := hrel
    have D5 := Lib.hid hblk
    have hzr := hbe.size
    clear hblk
    by_cases hlt : k < 4
    · have hgk := HG.out k hlt
      have hek := slotGood_ok hgk
      have hix := index_out s k hlt
      rw [← HCS.out] at hix
      have hT := slot_bytes hgk
      have hput := fun W => eput_any k (entN s k) (entS s k) W
      rw [(put_good hlt hek).1, (put_good hlt hek).2, hT] at hput
      have h64u := size_upto s H64.out k (by omega)
      have h16 := size_slotT s k H64.out hlt
      have hpat := fun W g hg => patched_one (upto s k) (slotT s k) (k * 16) W g hg h64u (by omega) (by omega)
      have hnx : over (upto s k) (k * 16) (slotT s k) = upto s (k + 1) := rfl
      rw [hnx] at hpat
      obtain ⟨o, ho⟩ : ∃ o, o = k * 16 := ⟨_, rfl⟩
      rw [← ho] at hput hpat
      generalize entN s k = n at hix hput
      generalize entS s k = nm at hix hput
      generalize slotT s k = tx at hput hpat
      have HPUT := Lib.hid hput
      have HPAT := Lib.hid hpat
      obtain ⟨u0, hu0⟩ : ∃ u0, u0 = upto s k := ⟨_, rfl⟩
      obtain ⟨u1, hu1⟩ : ∃ u1, u1 = upto s (k + 1) := ⟨_, rfl⟩
      rw [← hu0, ← hu1] at HPAT
      rw [← hu0]
      have HU1 := Lib.hid hu1
      clear hgk hek hT hput h64u h16 hpat hnx ho hu0 hu1
      go_wp2_with fail
      refine (HPUT.out _).mono ?_
      rintro e w5 ⟨rfl, hb5⟩
      have B5 := (hbe.alloc hzr (.cells #[.int .i64 n, .string nm] 23)).trans (Below.mono hb5 (by simp; omega))
      have D6 := Lib.hid ((D5.out.alloc (.cells #[.int .i64 n, .string nm] 23)).below hb5)
      have hz5 := B5.size
      clear hb5 D5
      go_wp2_with fail
      refine (HPAT.out _ _ (by simp)).mono ?_
      rintro e w6 ⟨rfl, hb6⟩
      have B7 := Lib.hid (((B5.alloc hz5 (.cells #[.int .i64 (o : Int), .string tx] 32)).alloc (by simp; omega) (.cells #[.int .i64 (o : Int), .string tx] 32)).trans (Below.mono hb6 (by simp; omega)))
      have D7 := Lib.hid (((D6.out.alloc (.cells #[.int .i64 (o : Int), .string tx] 32)).alloc (.cells #[.int .i64 (o : Int), .string tx] 32)).below hb6)
      clear hb6 D6 B5 hbe hz5
      go_wp2_with fail
      go_roundw
      case rel => exact ⟨k + 1, by omega, by go_num, by rw [HU1.out], B7.out, D7.out⟩
      case measure => simp [intOf]; omega
    · have h4 : k = 4 := by omega
      subst h4
      rw [upto_four s H64.out]
      have hd := HD.out
      have hput := fun W => eput_any k0 0 ⟨#[]⟩ W
      rw [(put_good hk0 entOk_none).1, (put_good hk0 entOk_none).2] at hput
      have h16 := size_slotS 0 ⟨#[]⟩ (by decide)
      have hpat := fun W g hg => patched_one s (slotS 0 ⟨#[]⟩) (k0 * 16) W g hg H64.out (by omega) (by omega)
      have hdu := dirOk_over (s := s) (nm := ⟨#[]⟩) (n := 0) hd hk0 entOk_none (fun j hj hjk h0 => by omega)
      have hac := outCells_over (s := s) (nm := ⟨#[]⟩) (n := 0) H64.out hk0 entOk_none
      rw [← HCS.out] at hac
      have h5 := fun W => edecode_any (over s (k0 * 16) (slotS 0 ⟨#[]⟩)) W
      have e5 : dirE (over s (k0 * 16) (slotS 0 ⟨#[]⟩)) = 0 := by simp [dirE, hdu]
      have hct' : dirCells (over s (k0 * 16) (slotS 0 ⟨#[]⟩)) = (outCells (over s (k0 * 16) (slotS 0 ⟨#[]⟩)) 4).toArray := by simp [dirCells, hdu]
      have hteq := dir_same (over s (k0 * 16) (slotS 0 ⟨#[]⟩))
      have hto := dirCells_one (over s (k0 * 16) (slotS 0 ⟨#[]⟩))
      have hts := dirCells_size (over s (k0 * 16) (slotS 0 ⟨#[]⟩))
      rw [dirV_cells, e5] at h5
      rw [← hct'] at hac
      obtain ⟨ct, hct⟩ : ∃ ct, ct = dirCells (over s (k0 * 16) (slotS 0 ⟨#[]⟩)) := ⟨_, rfl⟩
      rw [← hct] at h5 hteq hto hts hac
      have ht8 : (Try.prog.info? 26).map (·.size) = some ct.size := by rw [hts]; kernel_rfl
      have htz : zeroDir.toArray.size = ct.size := by rw [hts]; rfl
      obtain ⟨o, ho⟩ : ∃ o, o = k0 * 16 := ⟨_, rfl⟩
      rw [← ho] at hput hpat h5
      generalize over s o (slotS 0 ⟨#[]⟩) = u at hpat h5
      generalize slotS 0 ⟨#[]⟩ = tx at hput hpat
      have HPUT := Lib.hid hput
      have HPAT := Lib.hid hpat
      have H5 := Lib.hid h5
      have HT8 := Lib.hid ht8
      have HTZ := Lib.hid htz
      have HTO := Lib.hid hto
      have HTEQ := Lib.hid hteq
      have HAC := Lib.hid hac
      have HU4 := Lib.hid (upto_four s H64.out)
      clear hd hput h16 hpat hdu hac h5 e5 hct' hteq hto hts hct ht8 htz ho
      go_wp2_with fail
      refine (H2.out _).mono ?_
      rintro e w5 ⟨rfl, rfl⟩
      go_wp2_with fail
      refine (HPUT.out _).mono ?_
      rintro e w6 ⟨rfl, hb6⟩
      have B6 := hbe.trans (Below.mono hb6 hzr)
      have D6 := Lib.hid (D5.out.below hb6)
      have hz6 := B6.size
      clear hb6 D5 hbe hzr
      go_wp2_with fail
      refine (HPAT.out _ _ (by simp)).mono ?_
      rintro e w7 ⟨rfl, hb7⟩
      have B7 := ((B6.alloc hz6 (.cells #[.int .i64 (o : Int), .string tx] 32)).alloc (by simp; omega) (.cells #[.int .i64 (o : Int), .string tx] 32)).trans (Below.mono hb7 (by simp; omega))
      have D7 := Lib.hid (((D6.out.alloc (.cells #[.int .i64 (o : Int), .string tx] 32)).alloc (.cells #[.int .i64 (o : Int), .string tx] 32)).below hb7)
      clear hb7 D6 B6 hz6
      go_wp2_with fail
      refine (H5.out _).mono ?_
      rintro e w8 ⟨rfl, hb8⟩
      have B8 := B7.trans (Below.mono hb8 B7.size)
      have D8 := Lib.hid (D7.out.below hb8)
      have B9 := below_row B8 (.cells zeroDir.toArray 26) ct
      have D9 := Lib.hid (D8.out.row (.cells zeroDir.toArray 26) ct)
      have E9 := Lib.hid (Blk.rowNew w8 zeroDir.toArray ct 26)
      have hne : ¬ w8.heap.size = w2.heap.size := by
        have := D8.out.lt
        omega
      have hss := eqs_yes (rfl : s = s)
      clear hb8 B7 B8 D7 D8
      go_upto_region 20 with (refine wpList_store_row rfl 26 _ _ rfl w8.heap.size ct rfl rfl 26 zeroDir.toArray (_root_.Go.heap_alloc_new _ _) HT8.out HTZ.out HTO.out ?_)
      change Code.wp Try.prog _ _ _ ((w8.alloc (.cells zeroDir.toArray 26)).setRow w8.heap.size ct)
      generalize (w8.alloc (.cells zeroDir.toArray 26)).setRow w8.heap.size ct = W at B9 D9 E9 ⊢
      obtain ⟨t0, t1⟩ := outCells_told s 4 k0 (by omega) hk0
      rw [← HCS.out] at t0 t1
      have c0 : W.cell? ⟨w2.heap.size, k0 * 2, none⟩ = some (.int .i64 (entN s k0)) := by rw [D9.out.cell]; exact t0
      have c1 : W.cell? ⟨w2.heap.size, k0 * 2 + 1, none⟩ = some (.string (entS s k0)) := by rw [D9.out.cell]; exact t1
      have cf : ∀ o, W.frozen? ⟨w2.heap.size, o, none⟩ = false := D9.out.free
      have D12 := Lib.hid ((D9.out.setCell (k0 * 2) (.int .i64 0)).setCell (k0 * 2 + 1) (.string ⟨#[]⟩))
      rw [← HAC.out] at D12
      have E12 := Lib.hid ((E9.out.setOther hne (k0 * 2) (.int .i64 0)).setOther hne (k0 * 2 + 1) (.string ⟨#[]⟩))
      have B12 : Below w.heap.size w ((W.setCell ⟨w2.heap.size, k0 * 2, none⟩ (.int .i64 0)).setCell ⟨w2.heap.size, k0 * 2 + 1, none⟩ (.string ⟨#[]⟩)) := (B9.setCell hB9 _).setCell hB9 _
      have lk : (k0 : Int) < 4 := by omega
      clear D9 E9 B9 t0 t1
      go_upto_region 23 with fail
      change Code.wp Try.prog _ _ _ ((W.setCell ⟨w2.heap.size, k0 * 2, none⟩ (.int .i64 0)).setCell ⟨w2.heap.size, k0 * 2 + 1, none⟩ (.string ⟨#[]⟩))
      generalize (W.setCell ⟨w2.heap.size, k0 * 2, none⟩ (.int .i64 0)).setCell ⟨w2.heap.size, k0 * 2 + 1, none⟩ (.string ⟨#[]⟩) = W2 at D12 E12 B12 ⊢
      clear c0 c1 cf
      have hteq := HTEQ.out
      go_wp2_with (first | (refine wpList_load_row rfl 26 _ rfl w8.heap.size rfl 26 ct (0, 0) _ E12.out Try.underlying26 rfl HT8.out ?_) | (refine wpList_load_row rfl 26 _ rfl w2.heap.size rfl 26 ct (0, 0) _ D12.out Try.underlying26 rfl HT8.out ?_))
      go_ret
      exact ⟨rfl, B12⟩

theorem back_walk (s : ByteArray) (slot : Int) (w : World) :
    Calls Try.prog 4 #[.string s, .int .i64 slot] w fun e w' => e = .returned (.bool true) ∧ Below w.heap.size w w' := by
  cases hd : dirOk s with
  | true => exact back_yes s slot w hd
  | false => exact back_no s slot w hd
end Go.Proofs.Ytdecjmiahjlpjaa
