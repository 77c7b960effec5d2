
/-
  The places that are taken, as a list: maps.Places, ref.Places, ref.Count, walked. (gen/mplaces.py)
-/
import Derived.Test.YtghggelkmhdhfaaGreatDoorMRef
namespace Go.Proofs.YtghggelkmhdhfaaGreatDoor
open Go.RowKit

theorem info_int : (Tryz.prog.info? 3).map (fun i => (i.zero, i.size, i.bytes)) = some (some (.int .i64 0), 1, 8) := by kernel_rfl
/-- The cells of a list of places. -/
def plV (l : List Nat) : List Value := l.map fun (i : Nat) => .int .i64 (i : Int)
theorem length_plV (l : List Nat) : (plV l).length = l.length := by simp [plV]
/-- A list of places that the call made. -/
def OwnPl (w : World) (base : Nat) (v : Value) (l : List Nat) : Prop := w.ownsRow base 3 1 v l.length (plV l)
def PlacesIs (w : World) (l : List Nat) (e0 : Int) (e : Ending) (w' : World) : Prop := ∃ v, e = .returned (.tuple #[v, .int .i64 e0]) ∧ OwnPl w' w.heap.size v l ∧ Below w.heap.size w w'
theorem OwnPl.below {w w' : World} {base : Nat} {v : Value} {l : List Nat} (h : OwnPl w base v l) (hb : Below w.heap.size w w') : OwnPl w' base v l := by
  obtain ⟨h1, h2 | ⟨g, cap, cur, hv, hbb, hg, hr⟩⟩ := h
  · exact ⟨h1, .inl h2⟩
  · exact ⟨h1, .inr ⟨g, cap, cur, hv, hbb, (hb.block g (Array.getElem?_eq_some_iff.1 hg).1).trans hg, hr⟩⟩
theorem places_nil (w w' : World) (e0 : Int) (hb : Below w.heap.size w w') : PlacesIs w [] e0 (.returned (.tuple #[.slice none 0 0, .int .i64 e0])) w' :=
  ⟨_, rfl, ⟨rfl, .inl ⟨rfl, rfl⟩⟩, hb⟩
/-- The slice, and its cells. -/
theorem OwnPl.form {w : World} {base : Nat} {v : Value} {l : List Nat} (h : OwnPl w base v l) : ∃ a c, v = .slice a l.length c ∧ ∀ (i x : Nat), l[i]? = some x → ∃ g, a = some ⟨g, 0, none⟩ ∧ base ≤ g ∧ g < w.heap.size ∧ w.cell? ⟨g, i, none⟩ = some (.int .i64 (x : Int)) := by
  have h' := h
  obtain ⟨h1, ⟨rfl, h0⟩ | ⟨g, cap, cur, rfl, hb, hg, hn, hm, _⟩⟩ := h
  · exact ⟨none, 0, by rw [h0], fun i p hp => by
      have := (List.getElem?_eq_some_iff.1 hp).1
      omega⟩
  · refine ⟨_, _, rfl, fun i x hx => ⟨g, rfl, hb, (Array.getElem?_eq_some_iff.1 hg).1, ?_⟩⟩
    have hc := World.ownsRow.cells h' (g := g) rfl i (.int .i64 (x : Int)) (by simp [plV, hx])
    rwa [Addr.add_lit, Nat.zero_add] at hc
theorem pl_here {s : ByteArray} {k : Nat} (h : byteAt s k = 1) : plV (pl s k) ++ [.int .i64 (k : Int)] = plV (pl s (k + 1)) ∧ (pl s k).length + 1 = (pl s (k + 1)).length := by
  simp [pl, h, plV]
theorem pl_not {s : ByteArray} {k : Nat} (h : ¬ byteAt s k = 1) : pl s (k + 1) = pl s k := by
  simp [pl, h]
/-- What the loops of Places keep. -/
def KeptP (s : ByteArray) (N : Nat) (w : World) (v i : Value) (wr : World) : Prop := ∃ k : Nat, k ≤ N ∧ i = .int .i64 k ∧ Below w.heap.size w wr ∧ OwnPl wr w.heap.size v (pl s k)

set_option maxHeartbeats 2000000 in
set_option maxRecDepth 100000 in
theorem places_any (s : ByteArray) (n : Int) (w : World) :
    Calls Tryz.prog 13 #[.string s, .int .i64 n] w (PlacesIs w (placesL s n) (chkE s n)) := by
  have HC := Lib.hid (fun W => check_any s n W)
  obtain ⟨i0, hi, hz0, hz1, hz2⟩ := info_parts info_int
  by_cases h0 : chkE s n = 0
  · obtain ⟨N, rfl, h1, hN, hm⟩ := chk_told h0
    have h64 := ((mapB_iff s N).1 hm).1
    have hpl : placesL s N = pl s N := by rw [placesL, if_pos h0, Int.toNat_natCast]
    rw [hpl, h0]
    rw [h0] at HC
    have H64 := Lib.hid h64
    clear hpl h0 hm h64
    go_enter Tryz.func13, Tryz.ntmps13
    go_wp2_with fail
    refine (HC.out _).mono ?_
    rintro e w1 ⟨rfl, hb1⟩
    skip
    go_wp2_with fail
    go_loopw [7, 16] (fun v i wr => KeptP s N w v i wr) (fun _ i _ => N - (intOf i).toNat)
    case atStart => exact ⟨0, by omega, rfl, hb1, World.ownsRow_nil _ _ _ _⟩
    case round =>
      clear hb1
      obtain ⟨k, hk, rfl, hbe, hown⟩ := hrel
      have hzr := hbe.size
      by_cases hlt : k < N
      · have hks : k < s.size := by have := H64.out; omega
        have hb := byteAt_eq s k hks
        obtain ⟨r0, r1⟩ := byteAt_range s k
        have lk : (k : Int) < s.size := by omega
        by_cases hone : byteAt s k = 1
        · obtain ⟨t1, t2⟩ := pl_here hone
          have T1 := Lib.hid t1
          have T2 := Lib.hid t2
          have hup := length_pl s k
          obtain ⟨L, hL⟩ : ∃ L, L = plV (pl s k) := ⟨_, rfl⟩
          obtain ⟨m, hm⟩ : ∃ m, m = (pl s k).length := ⟨_, rfl⟩
          unfold OwnPl at hown
          rw [← hL, ← hm] at hown
          rw [← hm] at hup
          have HL := Lib.hid hL
          have HM := Lib.hid hm
          rw [hone] at hb
          clear t1 t2 hL hm hone r0 r1
          go_wp2_with (at_builtin; refine wpList_append_own _ rfl _ _ 39 rfl w.heap.size 3 i0 (.int .i64 0) 1 8 Tryz.underlying39 hi hz0 hz1 hz2 rfl (by decide) _ _ _ rfl (hown.alloc _) ⟨wr.heap.size, 0, none⟩ 1 1 [.int .i64 (k : Int)] rfl rfl ?c1 ?c2 ?c3 ?c4 ?c5 ?_)
          case c1 => exact cell_one_new _ _ _
          case c2 => simp [Value.oneCell']
          case c3 => unfold maxLen; omega
          case c4 => omega
          case c5 => simp; omega
          intro v' w2 hown' hgrow _
          rw [HL.out, T1.out, HM.out, T2.out] at hown'
          have hb2 : Below w.heap.size w w2 := (hbe.alloc hzr _).grown hgrow (by simp; omega) (fun g hg => (hown.lt g hg).1)
          have HN := Lib.hid (show KeptP s N w v' (.int .i64 ((k : Int) + 1)) w2 from ⟨k + 1, by omega, by simp, hb2, hown'⟩)
          clear hown' hgrow hb2 hown hb hbe
          go_wp2_with fail
          exact ⟨HN.out, by simp [intOf]; omega⟩
        · have hn := pl_not hone
          have hz : (byteAt s k == 1) = false := by simp [hone]
          have HN := Lib.hid (fun v (ho : OwnPl wr w.heap.size v (pl s k)) => (⟨k + 1, by omega, by simp, hbe, by rw [hn]; exact ho⟩ : KeptP s N w v (.int .i64 ((k : Int) + 1)) wr))
          have HO := Lib.hid hown
          clear hn hown hone
          go_wp2_with fail
          exact ⟨HN.out _ HO.out, by simp [intOf]; omega⟩
      · obtain rfl : k = N := by omega
        have HO := Lib.hid hown
        clear hown
        go_wp2_with fail
        go_ret2
        exact ⟨_, rfl, HO.out, hbe⟩
  · have hpl : placesL s n = [] := by rw [placesL, if_neg h0]
    rw [hpl]
    generalize chkE s n = ce at *
    have h1 : (ce == 0) = false := by simp [h0]
    have h2 : (ce != 0) = true := by simp [h0]
    clear hpl h0
    go_enter Tryz.func13, Tryz.ntmps13
    go_wp2_with fail
    refine (HC.out _).mono ?_
    rintro e w1 ⟨rfl, hb1⟩
    skip
    go_wp2_with fail
    go_ret2
    exact places_nil _ _ _ hb1

end Go.Proofs.YtghggelkmhdhfaaGreatDoor
