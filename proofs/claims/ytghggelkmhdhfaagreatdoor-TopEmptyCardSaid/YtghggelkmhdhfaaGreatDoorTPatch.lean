
/-
  A sector behind patches that lie within it: field.Check, field.Patched, field.Blank, walked. (XMPatch less what XField has)
-/
import Derived.Test.YtghggelkmhdhfaaGreatDoorPlainPad
import Derived.Test.YtghggelkmhdhfaaGreatDoorField
import Derived.Test.YtghggelkmhdhfaaGreatDoorShelf
import Derived.Lib.LazyBuf
import Derived.Lib.ConvBytes
import Derived.Lib.SmallJoins
import Derived.RegionTactic
import Derived.ChangeAlike
import Derived.Deep.RegionLaw
import Derived.BigQuiet
namespace Go.Proofs.YtghggelkmhdhfaaGreatDoor
open Go.RowKit

/-- Bytes with others written over them from a place on. -/
def overL (l : List UInt8) (o : Nat) (t : List UInt8) : List UInt8 := l.take o ++ t ++ l.drop (o + t.length)
def over (s : ByteArray) (o : Nat) (t : ByteArray) : ByteArray := str (overL s.data.toList o t.data.toList)

theorem length_overL {l t : List UInt8} {o : Nat} (h : o + t.length ≤ l.length) : (overL l o t).length = l.length := by
  simp [overL]; omega
theorem size_over {s t : ByteArray} {o : Nat} (h : o + t.size ≤ s.size) : (over s o t).size = s.size := by
  rw [over, size_str, length_overL (by rw [length_data, length_data]; exact h), length_data]
theorem get_overL {l t : List UInt8} {o : Nat} (h : o + t.length ≤ l.length) (i : Nat) :
    (overL l o t)[i]? = if i < o then l[i]? else if i < o + t.length then t[i - o]? else l[i]? := by
  unfold overL
  have e : (l.take o).length = o := by simp; omega
  rw [List.append_assoc, List.getElem?_append, e]
  split
  · rename_i h1
    rw [List.getElem?_take, if_pos h1]
  · rw [List.getElem?_append]
    by_cases h2 : i < o + t.length
    · rw [if_pos (by omega), if_pos h2]
    · rw [if_neg (by omega), if_neg h2, List.getElem?_drop]
      congr 1; omega
/-- A sector of zeros. -/
def blank : ByteArray := str (List.replicate 64 0)
set_option maxHeartbeats 400000 in
theorem blank_any (w : World) :
    Calls Tryz.prog 19 #[] w fun e w' => e = .returned (.string blank) ∧ Below w.heap.size w w' := by
  have hc := fun W => Tryz.strings_Repeat ⟨#[0]⟩ 64 W (by omega) (by show 1 * _ ≤ _; omega)
  have e2 := repeat_zero 64
  change (⟨(Lib.repeatL (#[0] : Array UInt8).toList 64).toArray⟩ : ByteArray) = _ at e2
  simp only [e2] at hc
  have HC := Lib.hid hc
  clear hc e2
  go_enter Tryz.func19, Tryz.ntmps19
  go_wp2_with fail
  refine (HC.out _).mono ?_
  rintro e w1 ⟨rfl, hb1⟩
  go_wp2_with fail
  go_ret
  exact ⟨rfl, hb1⟩

set_option maxHeartbeats 400000 in
theorem fcheck_yes (off : Int) (t : ByteArray) (w : World) (h : insideB off t.size = true) :
    Calls Tryz.prog 73 #[.agg #[.int .i64 off, .string t]] w fun e w' => e = .returned (.int .i64 0) ∧ Below w.heap.size w w' := by
  have hi := Lib.hid (fun W => inside_yes off t.size W h)
  clear h
  go_enter Tryz.func73, Tryz.ntmps73
  go_wp2_with fail
  refine (hi.out _).mono ?_
  rintro e w1 ⟨rfl, rfl⟩
  go_wp2_with fail
  go_ret
  exact ⟨rfl, by (repeat' (first | exact Below.refl _ _ | assumption | refine Below.setCell ?_ ?_ _ | refine Below.drew ?_ | refine below_drewN ?_ _ | refine Below.alloc ?_ ?_ _ | refine below_of_grown ?_ (by assumption) ?_ | refine Below.trans ?_ (Below.mono (by assumption) ?_) | omega | (simp; done) | (simp; omega)))⟩

/-- Bytes behind patches. -/
def overs (s : ByteArray) (ps : List (Nat × ByteArray)) : ByteArray := ps.foldl (fun s p => over s p.1 p.2) s
theorem overs_snoc (s : ByteArray) (ps : List (Nat × ByteArray)) (p : Nat × ByteArray) : overs s (ps ++ [p]) = over (overs s ps) p.1 p.2 := by
  simp [overs]
theorem size_overs : ∀ (ps : List (Nat × ByteArray)) (s : ByteArray), s.size = 64 → (∀ p ∈ ps, p.1 + p.2.size ≤ 64) → (overs s ps).size = 64
  | [], s, hs, _ => hs
  | p :: ps, s, hs, h => by
    have h1 := h p (by simp)
    show (overs (over s p.1 p.2) ps).size = 64
    exact size_overs ps _ (by rw [size_over (by omega), hs]) (fun q hq => h q (by simp [hq]))
theorem take_overs {s : ByteArray} {ps : List (Nat × ByteArray)} {k : Nat} {p : Nat × ByteArray} (h : ps[k]? = some p) : overs s (ps.take (k + 1)) = over (overs s (ps.take k)) p.1 p.2 := by
  rw [List.take_add_one, h]
  exact overs_snoc _ _ _
theorem byteAt_over {s t : ByteArray} {o : Nat} (h : o + t.size ≤ s.size) (j : Nat) : byteAt (over s o t) j = if j < o then byteAt s j else if j < o + t.size then byteAt t (j - o) else byteAt s j := by
  have e : (over s o t).data.toList = overL s.data.toList o t.data.toList := data_str _
  have g := get_overL (l := s.data.toList) (t := t.data.toList) (o := o) (by rw [length_data, length_data]; exact h) j
  rw [length_data] at g
  unfold byteAt
  rw [e, List.getD_eq_getElem?_getD, g, List.getD_eq_getElem?_getD, List.getD_eq_getElem?_getD]
  split
  · rfl
  · split <;> rfl

/-- The cells of the bytes. -/
def Rowed (S : ByteArray) (g : Nat) (W : World) : Prop := (∀ j, j < 64 → W.cell? ⟨g, j, none⟩ = some (.int .u8 (byteAt S j))) ∧ ∀ j, j < 64 → W.frozen? ⟨g, j, none⟩ = false
theorem Rowed.below {S : ByteArray} {g : Nat} {W W' : World} (h : Rowed S g W) (hb : Below W.heap.size W W') : Rowed S g W' := by
  have hg : g < W.heap.size := by
    have := World.block_lt_of_cell? W _ (h.1 0 (by omega))
    simpa using this
  exact ⟨fun j hj => by rw [hb.cell (by simpa using hg)]; exact h.1 j hj, fun j hj => by rw [hb.frozen (by simpa using hg)]; exact h.2 j hj⟩
theorem Rowed.lt {S : ByteArray} {g : Nat} {W : World} (h : Rowed S g W) : g < W.heap.size := by
  have := World.block_lt_of_cell? W _ (h.1 0 (by omega))
  simpa using this
theorem bytesU (t : ByteArray) : (t.data.toList.map fun x => Value.int .u8 (x.toNat : Int)).length = t.size := by rw [List.length_map, length_data]
theorem Rowed.over {S t : ByteArray} {g o : Nat} {W : World} (h : Rowed S g W) (hS : S.size = 64) (ho : o + t.size ≤ 64) : Rowed (over S o t) g (W.setCells g o (t.data.toList.map fun x => Value.int .u8 (x.toNat : Int))) := by
  refine ⟨fun j hj => ?_, fun j hj => by rw [World.frozen?_setCells]; exact h.2 j hj⟩
  rw [byteAt_over (by omega)]
  by_cases h1 : o ≤ j ∧ j < o + t.size
  · rw [if_neg (by omega), if_pos h1.2]
    have hin := World.cell?_setCells_in g (t.data.toList.map fun x => Value.int .u8 (x.toNat : Int)) o W (fun i hi => by
      rw [bytesU] at hi
      rw [h.1 (o + i) (by omega)]; rfl) (j - o) (by rw [bytesU]; omega)
    have e : o + (j - o) = j := by omega
    rw [e] at hin
    rw [hin]
    have hl : j - o < t.data.toList.length := by rw [length_data]; omega
    simp only [List.getElem_map]
    unfold byteAt
    rw [List.getD_eq_getElem?_getD, List.getElem?_eq_getElem hl]
    rfl
  · rw [World.cell?_setCells_out _ _ _ _ _ (fun _ _ => by rw [bytesU]; simp; omega), h.1 j hj]
    by_cases h2 : j < o
    · rw [if_pos h2]
    · rw [if_neg h2, if_neg (by omega)]
set_option maxRecDepth 100000 in
theorem cut_at (W : World) (g o cap : Nat) (ho : o < 64) (hc : 64 ≤ cap) : (Instr.slice 87 (.slice (some ⟨g, 0, none⟩) 64 cap) (some (.int .i64 (o : Int))) none none).run Tryz.prog W = .ok (.slice (some ⟨g, o, none⟩) (64 - o) (cap - o)) W := by
  have hne : ¬ cap = o := by omega
  have hz : (sizeOf (Tryz.prog.elem 87)).run Tryz.prog W = .ok 1 W := by kernel_rfl
  rw [run_slice_l (P := Tryz.prog) (ht := Tryz.underlying87) (h0 := by omega) (h1 := by omega), hz]
  simp [sliced, hne, Result.andThen, Addr.add_lit]
theorem conv_rowed {S : ByteArray} {g cap : Nat} {W : World} (h : Rowed S g W) (hS : S.size = 64) : (convert 87 9 (.slice (some ⟨g, 0, none⟩) 64 cap)).run Tryz.prog W = .ok (.string S) W := by
  have hl : S.data.toList.length = 64 := by rw [length_data]; exact hS
  have hr := run_convert_bytes_back (P := Tryz.prog) W 87 9 5 ⟨g, 0, none⟩ cap S.data.toList Tryz.underlying87 Tryz.underlying5 Tryz.underlying9 (fun j hj => by
    rw [Addr.add_lit, Nat.zero_add, h.1 j (by omega)]
    unfold byteAt
    rw [List.getD_eq_getElem?_getD, List.getElem?_eq_getElem hj]
    rfl)
  rw [hl] at hr
  exact hr
theorem size_uint8 (w : World) : (sizeOf 5).run Tryz.prog w = .ok 1 w := by kernel_rfl
theorem copy_rowed {S t : ByteArray} {g o n cap : Nat} {W : World} (h : Rowed S g W) (ho : o + t.size ≤ 64) (hn : t.size ≤ n) :
    (Builtin.copy_ #[87, 9] 3 #[.slice (some ⟨g, o, none⟩) n cap, .string t]).run Tryz.prog W = .ok (goInt t.size) (W.setCells g o (t.data.toList.map fun x => Value.int .u8 (x.toNat : Int))) :=
  run_copy_string W 87 9 3 5 g o n cap t Tryz.underlying87 size_uint8 hn (fun j hj => by rw [h.1 (o + j) (by omega)]; rfl) (fun j hj => h.2 (o + j) (by omega))
theorem rowed_conv (W : World) (s : ByteArray) (hs : s.size = 64) : Rowed s W.heap.size (Lib.bytesWorld W 5 s) := by
  refine ⟨fun j hj => Lib.bytesWorld_cell W _ s j (by omega), fun j hj => ?_⟩
  have h := Lib.bytesWorld_at_new W 5 s
  simp only [World.frozen?, h, Bool.and_eq_false_iff, decide_eq_false_iff_not]
  left
  simp [Lib.bytesCells]
  have : s.data.size = 64 := hs
  omega

theorem cap_ge (w : World) (s : ByteArray) (hs : s.size = 64) : 64 ≤ grownCap w s.size 0 5 := by
  have := grownCap_ge w s.size 0 5
  omega
/-- What the loop of Patched keeps. -/
def Kept12 (s : ByteArray) (ps : List (Nat × ByteArray)) (w : World) (i : Value) (wr : World) : Prop :=
  ∃ k : Nat, k ≤ ps.length ∧ i = .int .i64 k ∧ Below w.heap.size w wr ∧ Rowed (overs s (ps.take k)) w.heap.size wr

set_option maxHeartbeats 2000000 in
set_option maxRecDepth 100000 in
theorem patched_any (s : ByteArray) (ps : List (Nat × ByteArray)) (g off cap : Nat) (w : World) (hs : s.size = 64) (hm : ps.length ≤ 1024) (hg : g < w.heap.size)
    (hp : ∀ p ∈ ps, p.1 + p.2.size ≤ 64 ∧ 0 < p.2.size) (hrow : ∀ i p, ps[i]? = some p → w.cell? ⟨g, off + i * 2, none⟩ = some (.int .i64 (p.1 : Nat)) ∧ w.cell? ⟨g, off + i * 2 + 1, none⟩ = some (.string p.2)) :
    Calls Tryz.prog 48 #[.string s, .slice (some ⟨g, off, none⟩) ps.length cap] w fun e w' => e = .returned (.tuple #[.string (overs s ps), .int .i64 0]) ∧ Below w.heap.size w w' := by
  have hcv := fun W => Lib.run_convert_string_bytes (P := Tryz.prog) W 9 87 5 s Tryz.underlying9 Tryz.underlying87 Tryz.underlying5
  rw [hs] at hcv
  have HC := Lib.hid hcv
  have hc64 := cap_ge w s hs
  rw [hs] at hc64
  have l1 : decide ((1024 : Int) < ps.length) = false := decide_eq_false (by omega)
  have HR := Lib.hid hrow
  have HP := Lib.hid hp
  have HS := Lib.hid hs
  clear hrow hp
  go_enter Tryz.func48, Tryz.ntmps48
  go_wp2_with fail
  have hbw : Below w.heap.size w (Lib.bytesWorld w 5 s) := Joins.below_bytesWorld _ w _ s (Nat.le_refl _)
  have hrw := rowed_conv w s HS.out
  go_loopw [22] (fun i wr => Kept12 s ps w i wr) (fun i _ => ps.length - (intOf i).toNat)
  case atStart => exact ⟨0, by omega, rfl, hbw, hrw⟩
  case round =>
    clear hbw hrw
    obtain ⟨k, hk, rfl, hbe, hrd⟩ := hrel
    have hz := hrd.lt
    by_cases hlt : k < ps.length
    · obtain ⟨p, hpk⟩ : ∃ p, ps[k]? = some p := ⟨_, List.getElem?_eq_getElem hlt⟩
      obtain ⟨q1, q2⟩ := HP.out p (List.mem_of_getElem? hpk)
      obtain ⟨r0, r1⟩ := HR.out k p hpk
      have x0 : wr.cell? ⟨g, off + k * 2, none⟩ = some (.int .i64 (p.1 : Nat)) := by rw [hbe.cell (by simpa using hg)]; exact r0
      have x1 : wr.cell? ⟨g, off + k * 2 + 1, none⟩ = some (.string p.2) := by rw [hbe.cell (by simpa using hg)]; exact r1
      have hnext := Lib.hid (take_overs (s := s) hpk)
      have hSz := Lib.hid (size_overs (ps.take k) s HS.out (fun q hq => (HP.out q (List.mem_of_mem_take hq)).1))
      obtain ⟨o, t⟩ := p
      simp only at q1 q2 x0 x1
      have hck := Lib.hid (fun W => fcheck_yes (o : Int) t W (decide_eq_true (by omega)))
      have HRD := Lib.hid hrd
      clear r0 r1 hpk hrd
      go_wp2_with fail
      refine (hck.out _).mono ?_
      rintro e w2 ⟨rfl, hb2⟩
      have hz2 := hb2.size
      simp at hz2
      have y0 : w2.cell? ⟨wr.heap.size, 0, none⟩ = some (.int .i64 (o : Int)) := by rw [hb2.cell (by simp <;> omega)]; simp [go_sem]
      have y1 : w2.cell? ⟨wr.heap.size, 1, none⟩ = some (.string t) := by rw [hb2.cell (by simp <;> omega)]; simp [go_sem]
      have hb3 : Below wr.heap.size wr w2 := by (repeat' (first | exact Below.refl _ _ | assumption | refine Below.setCell ?_ ?_ _ | refine Below.drew ?_ | refine below_drewN ?_ _ | refine Below.alloc ?_ ?_ _ | refine below_of_grown ?_ (by assumption) ?_ | refine Below.trans ?_ (Below.mono (by assumption) ?_) | omega | (simp; done) | (simp; omega)))
      have hb4 : Below w.heap.size w w2 := by (repeat' (first | exact Below.refl _ _ | assumption | refine Below.setCell ?_ ?_ _ | refine Below.drew ?_ | refine below_drewN ?_ _ | refine Below.alloc ?_ ?_ _ | refine below_of_grown ?_ (by assumption) ?_ | refine Below.trans ?_ (Below.mono (by assumption) ?_) | omega | (simp; done) | (simp; omega)))
      have hrd2 := HRD.out.below hb3
      have hrd3 : Rowed (overs s (ps.take k)) w.heap.size w2.drew := hrd2
      have hrd4 := Lib.hid (hrd3.over (t := t) (o := o) hSz.out (by omega))
      have hcut := fun W => cut_at W w.heap.size o (grownCap w 64 0 5) (by omega) hc64
      have hcp := copy_rowed (t := t) (n := 64 - o) (cap := grownCap w 64 0 5 - o) hrd3 (by omega) (by omega)
      have hbf := Lib.hid (below_setCells (a := w) (Nat.le_refl w.heap.size) (t.data.toList.map fun x => Value.int .u8 (x.toNat : Int)) o w2.drew hb4.drew)
      clear hrd2 hrd3 hb3 hb4 x0 x1 hb2
      go_wp2_with fail
      go_region
      clear y0 y1
      go_wp2_with fail
      go_roundw
      case rel => exact ⟨k + 1, by omega, by go_num, hbf.out, by rw [hnext.out]; exact hrd4.out⟩
      case measure => simp [intOf]; omega
    · obtain rfl : k = ps.length := by omega
      have hcv2 := conv_rowed (cap := grownCap w 64 0 5) hrd (size_overs _ s HS.out (fun q hq => (HP.out q (List.mem_of_mem_take hq)).1))
      rw [List.take_length] at hcv2
      clear hrd
      go_wp2_with fail
      go_ret2
      exact ⟨rfl, hbe⟩
theorem patched_one (s p : ByteArray) (o : Nat) (W : World) (g : Nat) (hg : g = W.heap.size) (hs : s.size = 64) (hp : o + p.size ≤ 64) (h0 : 0 < p.size) :
    Calls Tryz.prog 48 #[.string s, .slice (some ⟨g, 0, none⟩) 1 1] (W.alloc (.cells #[.int .i64 (o : Int), .string p] 90)) fun e w' => e = .returned (.tuple #[.string (over s o p), .int .i64 0]) ∧ Below (W.alloc (.cells #[.int .i64 (o : Int), .string p] 90)).heap.size (W.alloc (.cells #[.int .i64 (o : Int), .string p] 90)) w' := by
  subst hg
  refine patched_any s [(o, p)] W.heap.size 0 1 _ hs (by simp) (by simp) (by simp; omega) fun i q hq => ?_
  have hi : i = 0 := by
    have := (List.getElem?_eq_some_iff.1 hq).1
    simp at this; omega
  subst hi
  simp at hq
  subst hq
  constructor <;> simp [go_sem]
end Go.Proofs.YtghggelkmhdhfaaGreatDoor
