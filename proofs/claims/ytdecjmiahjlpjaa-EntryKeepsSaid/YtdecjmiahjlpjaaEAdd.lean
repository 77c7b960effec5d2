/-
  One entry more: entry.Add and ref.Add, walked. (gen/eadd.py)
-/
import Derived.Test.YtdecjmiahjlpjaaEFind2
import Derived.Test.YtdecjmiahjlpjaaEFree
import Derived.Test.YtdecjmiahjlpjaaEPut
import Derived.RegionTactic
import Derived.ChangeAlike
namespace Go.Proofs.Ytdecjmiahjlpjaa
open Go.RowKit

def addOk (s : ByteArray) (n : Int) (nm : ByteArray) : Bool := dirOk s && (entOk n nm && !(n == 0))
def addE (s : ByteArray) (n : Int) (nm : ByteArray) : Int := if addOk s n nm = true then (if findE s nm = 0 then 6 else freeE s) else 70
def addI (s : ByteArray) (n : Int) (nm : ByteArray) : Int := if addE s n nm = 0 then freeI s else 0
def addP (s : ByteArray) (n : Int) (nm : ByteArray) : Value := if addE s n nm = 0 then .agg #[.int .i64 (freeI s * 16), .string (slotS n nm)] else .agg #[.int .i64 0, .string ⟨#[]⟩]

/-- What the calls within Add leave. -/
structure AddKeep (w : World) (n : Int) (nm : ByteArray) (W : World) : Prop where
  below : Below w.heap.size w W
  lt : w.heap.size + 1 < W.heap.size
  x0 : W.cell? ⟨w.heap.size, 0, none⟩ = some (.int .i64 n)
  x1 : W.cell? ⟨w.heap.size, 1, none⟩ = some (.string nm)
  y0 : W.cell? ⟨w.heap.size + 1, 0, none⟩ = some (.int .i64 0)
  y1 : W.cell? ⟨w.heap.size + 1, 1, none⟩ = some (.string ⟨#[]⟩)
  u : ∀ o, W.frozen? ⟨w.heap.size + 1, o, none⟩ = false

theorem AddKeep.step {w : World} {n : Int} {nm : ByteArray} {W W' : World} (h : AddKeep w n nm W) (hb : Below W.heap.size W W') : AddKeep w n nm W' where
  below := h.below.trans (Below.mono hb (by have := h.lt; omega))
  lt := Nat.lt_of_lt_of_le h.lt hb.size
  x0 := by rw [hb.cell (by have := h.lt; simp; omega)]; exact h.x0
  x1 := by rw [hb.cell (by have := h.lt; simp; omega)]; exact h.x1
  y0 := by rw [hb.cell (by have := h.lt; simp; omega)]; exact h.y0
  y1 := by rw [hb.cell (by have := h.lt; simp; omega)]; exact h.y1
  u := fun o => by rw [hb.frozen (by have := h.lt; simp; omega)]; exact h.u o
theorem AddKeep.start (w : World) (n : Int) (nm : ByteArray) : AddKeep w n nm ((w.alloc (.cells #[.int .i64 n, .string nm] 23)).alloc (.cells #[.int .i64 0, .string ⟨#[]⟩] 32)) where
  below := ((Below.refl _ _).alloc (Nat.le_refl _) _).alloc (by simp) _
  lt := by simp
  x0 := by simp [go_sem]
  x1 := by simp [go_sem]
  y0 := by simp [go_sem]
  y1 := by simp [go_sem]
  u := fun o => by simp [go_sem]
theorem AddKeep.row {w : World} {n : Int} {nm : ByteArray} {W : World} (h : AddKeep w n nm W) (o : Obj) (cs : Array Value) : AddKeep w n nm ((W.alloc o).setRow W.heap.size cs) :=
  h.step (below_setRow ((Below.refl _ _).alloc (Nat.le_refl _) o) (Nat.le_refl _) cs)

def addR (i : Int) (p : Value) (e : Int) : Ending := .returned (.tuple #[.int .i64 i, p, .int .i64 e])
theorem addRes_no {s : ByteArray} {n : Int} {nm : ByteArray} (h : addOk s n nm = false) : Ending.returned (.tuple #[.int .i64 0, .agg #[.int .i64 0, .string ⟨#[]⟩], .int .i64 70]) = addR (addI s n nm) (addP s n nm) (addE s n nm) := by
  have e : addE s n nm = 70 := by simp [addE, h]
  simp [addR, addI, addP, e]
theorem addRes_there {s : ByteArray} {n : Int} {nm : ByteArray} (h : addOk s n nm = true) (hf : findE s nm = 0) : Ending.returned (.tuple #[.int .i64 0, .agg #[.int .i64 0, .string ⟨#[]⟩], .int .i64 6]) = addR (addI s n nm) (addP s n nm) (addE s n nm) := by
  have e : addE s n nm = 6 := by simp [addE, h, hf]
  simp [addR, addI, addP, e]
theorem addRes_full {s : ByteArray} {n : Int} {nm : ByteArray} (h : addOk s n nm = true) (hf : ¬ findE s nm = 0) (hg : ¬ freeE s = 0) : Ending.returned (.tuple #[.int .i64 0, .agg #[.int .i64 0, .string ⟨#[]⟩], .int .i64 (freeE s)]) = addR (addI s n nm) (addP s n nm) (addE s n nm) := by
  have e : addE s n nm = freeE s := by simp [addE, h, hf]
  simp [addR, addI, addP, e, hg]
theorem addRes_ok {s : ByteArray} {n : Int} {nm : ByteArray} (h : addOk s n nm = true) (hf : ¬ findE s nm = 0) (hg : freeE s = 0) : Ending.returned (.tuple #[.int .i64 (freeI s), .agg #[.int .i64 (freeI s * 16), .string (slotS n nm)], .int .i64 0]) = addR (addI s n nm) (addP s n nm) (addE s n nm) := by
  have e : addE s n nm = 0 := by simp [addE, h, hf, hg]
  simp [addR, addI, addP, e]
theorem two_set {W : World} {b : Nat} {x0 x1 : Value} (y0 y1 : Value) (h0 : W.cell? ⟨b, 0, none⟩ = some x0) (h1 : W.cell? ⟨b, 1, none⟩ = some x1) :
    ((W.setCell ⟨b, 0, none⟩ y0).setCell ⟨b, 1, none⟩ y1).cell? ⟨b, 0, none⟩ = some y0 ∧ ((W.setCell ⟨b, 0, none⟩ y0).setCell ⟨b, 1, none⟩ y1).cell? ⟨b, 1, none⟩ = some y1 := by
  simp [go_sem, h0, h1]
theorem free_range {s : ByteArray} (h : freeE s = 0) : 0 ≤ freeI s ∧ freeI s < 4 := by
  unfold freeE at h
  unfold freeI
  split at h
  · rename_i hd
    split at h
    · rename_i hl
      rw [if_pos ⟨hd, hl⟩]
      omega
    · omega
  · omega

set_option maxHeartbeats 4000000 in
set_option maxRecDepth 100000 in
theorem eadd_any (s : ByteArray) (n : Int) (nm : ByteArray) (w : World) :
    Calls Try.prog 25 #[.string s, .agg #[.int .i64 n, .string nm]] w fun e w' => e = addR (addI s n nm) (addP s n nm) (addE s n nm) ∧ Below w.heap.size w w' := by
  have HD := Lib.hid (fun W => edecode_any s W)
  have HM := Lib.hid (fun W => emay_any n nm W)
  have HFI := Lib.hid (fun W => efind_any s nm W)
  have HFR := Lib.hid (fun W => efree_any s W)
  have HP := Lib.hid (fun W => eput_any (freeI s) n nm W)
  have K0 := AddKeep.start w n nm
  have hi8 : (Try.prog.info? 26).map (·.size) = some 8 := by kernel_rfl
  have hl4 : (outCells s 4).length = 8 := outCells_size s 4
  have hsz : zeroDir.toArray.size = (outCells s 4).toArray.size := by rw [List.size_toArray, List.size_toArray, hl4]; rfl
  have hi9 : (Try.prog.info? 26).map (·.size) = some (outCells s 4).toArray.size := by rw [List.size_toArray, hl4]; exact hi8
  by_cases hok : dirOk s = true
  · have ev : dirV s = .agg (outCells s 4).toArray := by simp [dirV, hok]
    have ee : dirE s = 0 := by simp [dirE, hok]
    rw [ev, ee] at HD
    go_enter Try.func25, Try.ntmps25
    go_wp2_with fail
    refine (HD.out _).mono ?_
    rintro e w1 ⟨rfl, hb1⟩
    have K1 := K0.step hb1
    have K2 := K1.row (.cells zeroDir.toArray 26) (outCells s 4).toArray
    clear K0 hb1 HD
    go_upto_region 2 with (refine wpList_store_row rfl 26 _ _ rfl w1.heap.size (outCells s 4).toArray rfl rfl 26 zeroDir.toArray (_root_.Go.heap_alloc_new _ _) hi9 hsz (out_one s 4) ?_)
    change Code.wp Try.prog _ _ _ ((w1.alloc (.cells zeroDir.toArray 26)).setRow w1.heap.size (outCells s 4).toArray)
    generalize (w1.alloc (.cells zeroDir.toArray 26)).setRow w1.heap.size (outCells s 4).toArray = w2 at K2 ⊢
    clear K1 ev ee hl4 hsz
    obtain ⟨b2, l2, x0, x1, y0, y1, u2⟩ := K2
    have K2 : AddKeep w n nm w2 := ⟨b2, l2, x0, x1, y0, y1, u2⟩
    go_wp2_with fail
    refine (HM.out _).mono ?_
    rintro e w3 ⟨rfl, hb3⟩
    have K3 := K2.step hb3
    clear hb3 HM K2 x0 x1 y0 y1 u2 l2 b2
    obtain ⟨b3, l3, x0, x1, y0, y1, u3⟩ := K3
    have K3 : AddKeep w n nm w3 := ⟨b3, l3, x0, x1, y0, y1, u3⟩
    cases hem : entOk n nm with
    | false =>
      have HRES := Lib.hid (addRes_no (s := s) (n := n) (nm := nm) (by simp [addOk, hem]))
      clear HFI HFR HP
      go_wp2_with fail
      refine bodyPost_ret (v := .tuple #[.int .i64 0, .agg #[.int .i64 0, .string ⟨#[]⟩], .int .i64 70]) (by simp [results, Try.results25, go_sem, y0, y1]) rfl ⟨HRES.out, by (repeat' (first | exact Below.refl _ _ | assumption | refine Below.setCell ?_ ?_ _ | refine Below.drew ?_ | refine below_drewN ?_ _ | refine Below.alloc ?_ ?_ _ | refine below_of_grown ?_ (by assumption) ?_ | refine Below.trans ?_ (Below.mono (by assumption) ?_) | omega | (simp; done) | (simp; omega)))⟩
    | true =>
      by_cases hn0 : n = 0
      · have HRES := Lib.hid (addRes_no (s := s) (n := n) (nm := nm) (by simp [addOk, hn0]))
        have hnm : nm = ⟨#[]⟩ := by
          rw [hn0] at hem
          simp only [entOk, if_true] at hem
          rw [isEmpty_size] at hem
          have := of_decide_eq_true hem
          exact bytes_none (by omega)
        subst hn0 hnm
        clear HFI HFR HP
        go_wp2_with fail
        refine bodyPost_ret (v := .tuple #[.int .i64 0, .agg #[.int .i64 0, .string ⟨#[]⟩], .int .i64 70]) (by simp [results, Try.results25, go_sem, y0, y1]) rfl ⟨HRES.out, by (repeat' (first | exact Below.refl _ _ | assumption | refine Below.setCell ?_ ?_ _ | refine Below.drew ?_ | refine below_drewN ?_ _ | refine Below.alloc ?_ ?_ _ | refine below_of_grown ?_ (by assumption) ?_ | refine Below.trans ?_ (Below.mono (by assumption) ?_) | omega | (simp; done) | (simp; omega)))⟩
      · have hadd : addOk s n nm = true := by simp [addOk, hem, hn0, hok]
        have HADD := Lib.hid hadd
        have HOK := Lib.hid hok
        clear hadd hok
        have hn1 : (n == 0) = false := by simp [hn0]
        go_wp2_with fail
        refine (HFI.out _).mono ?_
        rintro e w4 ⟨rfl, hb4⟩
        have K4 := K3.step hb4
        clear hb4 K3 x0 x1 y0 y1 u3 l3 b3 HFI
        obtain ⟨b4, l4, x0, x1, y0, y1, u4⟩ := K4
        have K4 : AddKeep w n nm w4 := ⟨b4, l4, x0, x1, y0, y1, u4⟩
        obtain ⟨fe, hfe⟩ : ∃ fe, fe = findE s nm := ⟨_, rfl⟩
        rw [← hfe]
        by_cases hf0 : fe = 0
        · have HRES := Lib.hid (addRes_there HADD.out (by rw [← hfe]; exact hf0))
          have hf1 : (fe == 0) = true := by simp [hf0]
          have HFE := Lib.hid hfe
          clear hfe HFR HP
          go_wp2_with fail
          refine bodyPost_ret (v := .tuple #[.int .i64 0, .agg #[.int .i64 0, .string ⟨#[]⟩], .int .i64 6]) (by simp [results, Try.results25, go_sem, y0, y1]) rfl ⟨HRES.out, by (repeat' (first | exact Below.refl _ _ | assumption | refine Below.setCell ?_ ?_ _ | refine Below.drew ?_ | refine below_drewN ?_ _ | refine Below.alloc ?_ ?_ _ | refine below_of_grown ?_ (by assumption) ?_ | refine Below.trans ?_ (Below.mono (by assumption) ?_) | omega | (simp; done) | (simp; omega)))⟩
        · have hf1 : (fe == 0) = false := by simp [hf0]
          have HNF := Lib.hid (show ¬ findE s nm = 0 by rw [← hfe]; exact hf0)
          clear hfe
          obtain ⟨re, hre⟩ : ∃ re, re = freeE s := ⟨_, rfl⟩
          rw [← hre] at HFR
          go_wp2_with fail
          refine (HFR.out _).mono ?_
          rintro e w5 ⟨rfl, hb5⟩
          have K5 := K4.step hb5
          clear hb5 K4 x0 x1 y0 y1 u4 l4 b4 HFR
          obtain ⟨b5, l5, x0, x1, y0, y1, u5⟩ := K5
          have K5 : AddKeep w n nm w5 := ⟨b5, l5, x0, x1, y0, y1, u5⟩
          by_cases hr0 : re = 0
          · obtain ⟨q0, q1⟩ := free_range (s := s) (by rw [← hre]; exact hr0)
            have HRES := Lib.hid (addRes_ok HADD.out HNF.out (by rw [← hre]; exact hr0))
            have pv : putV (freeI s) n nm = .agg #[.int .i64 (freeI s * 16), .string (slotS n nm)] := by simp [putV, q0, q1, hem]
            have pe : putE (freeI s) n nm = 0 := by
              have h1 : ¬ freeI s < 0 := by omega
              have h2 : ¬ 4 ≤ freeI s := by omega
              simp [putE, h1, h2, hem]
            rw [pv, pe] at HP
            clear pv pe
            have HRE := Lib.hid hre
            generalize freeI s = at_ at *
            generalize slotS n nm = tx at *
            clear hre
            subst hr0
            go_wp2_with fail
            refine (HP.out _).mono ?_
            rintro e w6 ⟨rfl, hb6⟩
            have K6 := K5.step hb6
            clear hb6 K5 x0 x1 y0 y1 u5 l5 b5 HP
            obtain ⟨b6, l6, x0, x1, y0, y1, u6⟩ := K6
            go_wp2_with fail
            go_region
            all_goals go_wp2_with fail
            have v1 := two_set (.int .i64 (at_ * 16)) (.string tx) y0 y1
            have v2 := two_set (.int .i64 (at_ * 16)) (.string tx) v1.1 v1.2
            all_goals refine bodyPost_ret (v := .tuple #[.int .i64 at_, .agg #[.int .i64 (at_ * 16), .string tx], .int .i64 0]) (by simp [results, Try.results25, go_sem, v2.1, v2.2]) rfl ⟨HRES.out, by (repeat' (first | exact Below.refl _ _ | assumption | refine Below.setCell ?_ ?_ _ | refine Below.drew ?_ | refine below_drewN ?_ _ | refine Below.alloc ?_ ?_ _ | refine below_of_grown ?_ (by assumption) ?_ | refine Below.trans ?_ (Below.mono (by assumption) ?_) | omega | (simp; done) | (simp; omega)))⟩
          · have HRES := Lib.hid (addRes_full HADD.out HNF.out (by rw [← hre]; exact hr0))
            rw [← hre] at HRES
            have hr1 : (re == 0) = false := by simp [hr0]
            clear hre HP
            go_wp2_with fail
            refine bodyPost_ret (v := .tuple #[.int .i64 0, .agg #[.int .i64 0, .string ⟨#[]⟩], .int .i64 re]) (by simp [results, Try.results25, go_sem, y0, y1]) rfl ⟨HRES.out, by (repeat' (first | exact Below.refl _ _ | assumption | refine Below.setCell ?_ ?_ _ | refine Below.drew ?_ | refine below_drewN ?_ _ | refine Below.alloc ?_ ?_ _ | refine below_of_grown ?_ (by assumption) ?_ | refine Below.trans ?_ (Below.mono (by assumption) ?_) | omega | (simp; done) | (simp; omega)))⟩
  · have hof : dirOk s = false := by simpa using hok
    have HRES := Lib.hid (addRes_no (s := s) (n := n) (nm := nm) (by simp [addOk, hof]))
    have ev : dirV s = .agg zeroDir.toArray := by simp [dirV, hof]
    have ee : dirE s = 70 := by simp [dirE, hof]
    rw [ev, ee] at HD
    clear HM HFI HFR HP
    go_enter Try.func25, Try.ntmps25
    go_wp2_with fail
    refine (HD.out _).mono ?_
    rintro e w1 ⟨rfl, hb1⟩
    have K1 := K0.step hb1
    have K2 := K1.row (.cells zeroDir.toArray 26) zeroDir.toArray
    clear K0 hb1 HD
    go_upto_region 2 with (refine wpList_store_row rfl 26 _ _ rfl w1.heap.size zeroDir.toArray rfl rfl 26 zeroDir.toArray (_root_.Go.heap_alloc_new _ _) hi8 rfl zero_one ?_)
    change Code.wp Try.prog _ _ _ ((w1.alloc (.cells zeroDir.toArray 26)).setRow w1.heap.size zeroDir.toArray)
    generalize (w1.alloc (.cells zeroDir.toArray 26)).setRow w1.heap.size zeroDir.toArray = w2 at K2 ⊢
    clear K1
    obtain ⟨b2, l2, x0, x1, y0, y1, u2⟩ := K2
    go_wp2_with fail
    refine bodyPost_ret (v := .tuple #[.int .i64 0, .agg #[.int .i64 0, .string ⟨#[]⟩], .int .i64 70]) (by simp [results, Try.results25, go_sem, y0, y1]) rfl ⟨HRES.out, by (repeat' (first | exact Below.refl _ _ | assumption | refine Below.setCell ?_ ?_ _ | refine Below.drew ?_ | refine below_drewN ?_ _ | refine Below.alloc ?_ ?_ _ | refine below_of_grown ?_ (by assumption) ?_ | refine Below.trans ?_ (Below.mono (by assumption) ?_) | omega | (simp; done) | (simp; omega)))⟩

set_option maxHeartbeats 4000000 in
set_option maxRecDepth 100000 in
theorem radd_any (s : ByteArray) (n : Int) (nm : ByteArray) (w : World) :
    Calls Try.prog 26 #[.string s, .agg #[.int .i64 n, .string nm]] w fun e w' => e = addR (addI s n nm) (addP s n nm) (addE s n nm) ∧ Below w.heap.size w w' := by
  have HD := Lib.hid (fun W => rdecode_any s W)
  have HM := Lib.hid (fun W => remay_any n nm W)
  have HFI := Lib.hid (fun W => rfind_any s nm W)
  have HFR := Lib.hid (fun W => rfree_any s W)
  have HP := Lib.hid (fun W => rput_any (freeI s) n nm W)
  have K0 := AddKeep.start w n nm
  have hi8 : (Try.prog.info? 26).map (·.size) = some 8 := by kernel_rfl
  have hl4 : (outCells s 4).length = 8 := outCells_size s 4
  have hsz : zeroDir.toArray.size = (outCells s 4).toArray.size := by rw [List.size_toArray, List.size_toArray, hl4]; rfl
  have hi9 : (Try.prog.info? 26).map (·.size) = some (outCells s 4).toArray.size := by rw [List.size_toArray, hl4]; exact hi8
  by_cases hok : dirOk s = true
  · have ev : dirV s = .agg (outCells s 4).toArray := by simp [dirV, hok]
    have ee : dirE s = 0 := by simp [dirE, hok]
    rw [ev, ee] at HD
    go_enter Try.func26, Try.ntmps26
    go_wp2_with fail
    refine (HD.out _).mono ?_
    rintro e w1 ⟨rfl, hb1⟩
    have K1 := K0.step hb1
    have K2 := K1.row (.cells zeroDir.toArray 26) (outCells s 4).toArray
    clear K0 hb1 HD
    go_upto_region 2 with (refine wpList_store_row rfl 26 _ _ rfl w1.heap.size (outCells s 4).toArray rfl rfl 26 zeroDir.toArray (_root_.Go.heap_alloc_new _ _) hi9 hsz (out_one s 4) ?_)
    change Code.wp Try.prog _ _ _ ((w1.alloc (.cells zeroDir.toArray 26)).setRow w1.heap.size (outCells s 4).toArray)
    generalize (w1.alloc (.cells zeroDir.toArray 26)).setRow w1.heap.size (outCells s 4).toArray = w2 at K2 ⊢
    clear K1 ev ee hl4 hsz
    obtain ⟨b2, l2, x0, x1, y0, y1, u2⟩ := K2
    have K2 : AddKeep w n nm w2 := ⟨b2, l2, x0, x1, y0, y1, u2⟩
    go_wp2_with fail
    refine (HM.out _).mono ?_
    rintro e w3 ⟨rfl, hb3⟩
    have K3 := K2.step hb3
    clear hb3 HM K2 x0 x1 y0 y1 u2 l2 b2
    obtain ⟨b3, l3, x0, x1, y0, y1, u3⟩ := K3
    have K3 : AddKeep w n nm w3 := ⟨b3, l3, x0, x1, y0, y1, u3⟩
    cases hem : entOk n nm with
    | false =>
      have HRES := Lib.hid (addRes_no (s := s) (n := n) (nm := nm) (by simp [addOk, hem]))
      clear HFI HFR HP
      go_wp2_with fail
      refine bodyPost_ret (v := .tuple #[.int .i64 0, .agg #[.int .i64 0, .string ⟨#[]⟩], .int .i64 70]) (by simp [results, Try.results26, go_sem, y0, y1]) rfl ⟨HRES.out, by (repeat' (first | exact Below.refl _ _ | assumption | refine Below.setCell ?_ ?_ _ | refine Below.drew ?_ | refine below_drewN ?_ _ | refine Below.alloc ?_ ?_ _ | refine below_of_grown ?_ (by assumption) ?_ | refine Below.trans ?_ (Below.mono (by assumption) ?_) | omega | (simp; done) | (simp; omega)))⟩
    | true =>
      by_cases hn0 : n = 0
      · have HRES := Lib.hid (addRes_no (s := s) (n := n) (nm := nm) (by simp [addOk, hn0]))
        have hnm : nm = ⟨#[]⟩ := by
          rw [hn0] at hem
          simp only [entOk, if_true] at hem
          rw [isEmpty_size] at hem
          have := of_decide_eq_true hem
          exact bytes_none (by omega)
        subst hn0 hnm
        clear HFI HFR HP
        go_wp2_with fail
        refine bodyPost_ret (v := .tuple #[.int .i64 0, .agg #[.int .i64 0, .string ⟨#[]⟩], .int .i64 70]) (by simp [results, Try.results26, go_sem, y0, y1]) rfl ⟨HRES.out, by (repeat' (first | exact Below.refl _ _ | assumption | refine Below.setCell ?_ ?_ _ | refine Below.drew ?_ | refine below_drewN ?_ _ | refine Below.alloc ?_ ?_ _ | refine below_of_grown ?_ (by assumption) ?_ | refine Below.trans ?_ (Below.mono (by assumption) ?_) | omega | (simp; done) | (simp; omega)))⟩
      · have hadd : addOk s n nm = true := by simp [addOk, hem, hn0, hok]
        have HADD := Lib.hid hadd
        have HOK := Lib.hid hok
        clear hadd hok
        have hn1 : (n == 0) = false := by simp [hn0]
        go_wp2_with fail
        refine (HFI.out _).mono ?_
        rintro e w4 ⟨rfl, hb4⟩
        have K4 := K3.step hb4
        clear hb4 K3 x0 x1 y0 y1 u3 l3 b3 HFI
        obtain ⟨b4, l4, x0, x1, y0, y1, u4⟩ := K4
        have K4 : AddKeep w n nm w4 := ⟨b4, l4, x0, x1, y0, y1, u4⟩
        obtain ⟨fe, hfe⟩ : ∃ fe, fe = findE s nm := ⟨_, rfl⟩
        rw [← hfe]
        by_cases hf0 : fe = 0
        · have HRES := Lib.hid (addRes_there HADD.out (by rw [← hfe]; exact hf0))
          have hf1 : (fe == 0) = true := by simp [hf0]
          have HFE := Lib.hid hfe
          clear hfe HFR HP
          go_wp2_with fail
          refine bodyPost_ret (v := .tuple #[.int .i64 0, .agg #[.int .i64 0, .string ⟨#[]⟩], .int .i64 6]) (by simp [results, Try.results26, go_sem, y0, y1]) rfl ⟨HRES.out, by (repeat' (first | exact Below.refl _ _ | assumption | refine Below.setCell ?_ ?_ _ | refine Below.drew ?_ | refine below_drewN ?_ _ | refine Below.alloc ?_ ?_ _ | refine below_of_grown ?_ (by assumption) ?_ | refine Below.trans ?_ (Below.mono (by assumption) ?_) | omega | (simp; done) | (simp; omega)))⟩
        · have hf1 : (fe == 0) = false := by simp [hf0]
          have HNF := Lib.hid (show ¬ findE s nm = 0 by rw [← hfe]; exact hf0)
          clear hfe
          obtain ⟨re, hre⟩ : ∃ re, re = freeE s := ⟨_, rfl⟩
          rw [← hre] at HFR
          go_wp2_with fail
          refine (HFR.out _).mono ?_
          rintro e w5 ⟨rfl, hb5⟩
          have K5 := K4.step hb5
          clear hb5 K4 x0 x1 y0 y1 u4 l4 b4 HFR
          obtain ⟨b5, l5, x0, x1, y0, y1, u5⟩ := K5
          have K5 : AddKeep w n nm w5 := ⟨b5, l5, x0, x1, y0, y1, u5⟩
          by_cases hr0 : re = 0
          · obtain ⟨q0, q1⟩ := free_range (s := s) (by rw [← hre]; exact hr0)
            have HRES := Lib.hid (addRes_ok HADD.out HNF.out (by rw [← hre]; exact hr0))
            have pv : putV (freeI s) n nm = .agg #[.int .i64 (freeI s * 16), .string (slotS n nm)] := by simp [putV, q0, q1, hem]
            have pe : putE (freeI s) n nm = 0 := by
              have h1 : ¬ freeI s < 0 := by omega
              have h2 : ¬ 4 ≤ freeI s := by omega
              simp [putE, h1, h2, hem]
            rw [pv, pe] at HP
            clear pv pe
            have HRE := Lib.hid hre
            generalize freeI s = at_ at *
            generalize slotS n nm = tx at *
            clear hre
            subst hr0
            go_wp2_with fail
            refine (HP.out _).mono ?_
            rintro e w6 ⟨rfl, hb6⟩
            have K6 := K5.step hb6
            clear hb6 K5 x0 x1 y0 y1 u5 l5 b5 HP
            obtain ⟨b6, l6, x0, x1, y0, y1, u6⟩ := K6
            go_wp2_with fail
            go_region
            all_goals go_wp2_with fail
            all_goals refine bodyPost_ret (v := .tuple #[.int .i64 at_, .agg #[.int .i64 (at_ * 16), .string tx], .int .i64 0]) (by simp [results, Try.results26, go_sem, y0, y1, l6]) rfl ⟨HRES.out, by (repeat' (first | exact Below.refl _ _ | assumption | refine Below.setCell ?_ ?_ _ | refine Below.drew ?_ | refine below_drewN ?_ _ | refine Below.alloc ?_ ?_ _ | refine below_of_grown ?_ (by assumption) ?_ | refine Below.trans ?_ (Below.mono (by assumption) ?_) | omega | (simp; done) | (simp; omega)))⟩
          · have HRES := Lib.hid (addRes_full HADD.out HNF.out (by rw [← hre]; exact hr0))
            rw [← hre] at HRES
            have hr1 : (re == 0) = false := by simp [hr0]
            clear hre HP
            go_wp2_with fail
            refine bodyPost_ret (v := .tuple #[.int .i64 0, .agg #[.int .i64 0, .string ⟨#[]⟩], .int .i64 re]) (by simp [results, Try.results26, go_sem, y0, y1]) rfl ⟨HRES.out, by (repeat' (first | exact Below.refl _ _ | assumption | refine Below.setCell ?_ ?_ _ | refine Below.drew ?_ | refine below_drewN ?_ _ | refine Below.alloc ?_ ?_ _ | refine below_of_grown ?_ (by assumption) ?_ | refine Below.trans ?_ (Below.mono (by assumption) ?_) | omega | (simp; done) | (simp; omega)))⟩
  · have hof : dirOk s = false := by simpa using hok
    have HRES := Lib.hid (addRes_no (s := s) (n := n) (nm := nm) (by simp [addOk, hof]))
    have ev : dirV s = .agg zeroDir.toArray := by simp [dirV, hof]
    have ee : dirE s = 70 := by simp [dirE, hof]
    rw [ev, ee] at HD
    clear HM HFI HFR HP
    go_enter Try.func26, Try.ntmps26
    go_wp2_with fail
    refine (HD.out _).mono ?_
    rintro e w1 ⟨rfl, hb1⟩
    have K1 := K0.step hb1
    have K2 := K1.row (.cells zeroDir.toArray 26) zeroDir.toArray
    clear K0 hb1 HD
    go_upto_region 2 with (refine wpList_store_row rfl 26 _ _ rfl w1.heap.size zeroDir.toArray rfl rfl 26 zeroDir.toArray (_root_.Go.heap_alloc_new _ _) hi8 rfl zero_one ?_)
    change Code.wp Try.prog _ _ _ ((w1.alloc (.cells zeroDir.toArray 26)).setRow w1.heap.size zeroDir.toArray)
    generalize (w1.alloc (.cells zeroDir.toArray 26)).setRow w1.heap.size zeroDir.toArray = w2 at K2 ⊢
    clear K1
    obtain ⟨b2, l2, x0, x1, y0, y1, u2⟩ := K2
    go_wp2_with fail
    refine bodyPost_ret (v := .tuple #[.int .i64 0, .agg #[.int .i64 0, .string ⟨#[]⟩], .int .i64 70]) (by simp [results, Try.results26, go_sem, y0, y1]) rfl ⟨HRES.out, by (repeat' (first | exact Below.refl _ _ | assumption | refine Below.setCell ?_ ?_ _ | refine Below.drew ?_ | refine below_drewN ?_ _ | refine Below.alloc ?_ ?_ _ | refine below_of_grown ?_ (by assumption) ?_ | refine Below.trans ?_ (Below.mono (by assumption) ?_) | omega | (simp; done) | (simp; omega)))⟩
end Go.Proofs.Ytdecjmiahjlpjaa
