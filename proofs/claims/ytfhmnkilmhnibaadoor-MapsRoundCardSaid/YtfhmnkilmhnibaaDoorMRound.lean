/-
  The walk of MapsRound: the law returns true, and what was there is as it was.
-/
import Derived.Test.YtfhmnkilmhnibaaDoorMOf
import Derived.Maps.OwnSet
import Derived.Maps.OwnOps
namespace Go.Proofs.YtfhmnkilmhnibaaDoor
open Go.RowKit Go.Maps Go.WideMaps

/-- How many of the first k are in a set. -/
def cn (S : Nat → Bool) : Nat → Nat
  | 0 => 0
  | k + 1 => cn S k + if S k = true then 1 else 0
theorem cn_congr {S T : Nat → Bool} : ∀ k, (∀ i, i < k → S i = T i) → cn S k = cn T k
  | 0, _ => rfl
  | k + 1, h => by rw [cn, cn, cn_congr k (fun i hi => h i (by omega)), h k (by omega)]
theorem cn_put (S : Nat → Bool) (x : Nat) : ∀ k, cn (fun y => S y || y == x) k = cn S k + if x < k ∧ S x = false then 1 else 0
  | 0 => by simp [cn]
  | k + 1 => by
    rw [cn, cn, cn_put S x k]
    by_cases hk : k = x
    · subst hk
      cases hs : S k <;> simp
    · have e : (k == x) = false := by simp [hk]
      rw [e, Bool.or_false]
      by_cases hx : x < k
      · have h2 : x < k + 1 := by omega
        cases hs : S x <;> simp [hx, h2] <;> omega
      · have h2 : ¬ x < k + 1 := by omega
        simp [hx, h2]
theorem pl_cn (s : ByteArray) : ∀ k, (pl s k).length + cn (fun y => !(byteAt s y == 1)) k = k
  | 0 => rfl
  | k + 1 => by
    have ih := pl_cn s k
    rw [pl, cn, List.length_append]
    by_cases h : byteAt s k = 1
    · simp [h]; omega
    · have e : (byteAt s k == 1) = false := by simp [h]
      simp [h, e]; omega
theorem ff_spec (s : ByteArray) (N P : Nat) : ∀ m k, k + m = N → (∃ i, i < N ∧ ff s N P k = (P + i) % N ∧ byteAt s ((P + i) % N) = 0) ∨ (ff s N P k = N ∧ ∀ j, k ≤ j → j < N → ¬ byteAt s ((P + j) % N) = 0)
  | 0, k, hk => by
    obtain rfl : k = N := by omega
    exact .inr ⟨ff_end s k P, fun j h1 h2 => by omega⟩
  | m + 1, k, hk => by
    by_cases h : byteAt s ((P + k) % N) = 0
    · exact .inl ⟨k, by omega, ff_here (by omega) h, h⟩
    · rw [ff_step (by omega) h]
      rcases ff_spec s N P m (k + 1) (by omega) with h1 | ⟨h1, h2⟩
      · exact .inl h1
      · refine .inr ⟨h1, fun j h3 h4 => ?_⟩
        by_cases hj : j = k
        · subst hj; exact h
        · exact h2 j (by omega) h4
theorem ff_some {s : ByteArray} {N P y : Nat} (hP : P < N) (hy : y < N) (h0 : byteAt s y = 0) : ff s N P 0 < N ∧ byteAt s (ff s N P 0) = 0 := by
  rcases ff_spec s N P N 0 (by omega) with ⟨i, h1, h2, h3⟩ | ⟨h1, h2⟩
  · rw [h2]
    exact ⟨Nat.mod_lt _ (by omega), h3⟩
  · exfalso
    by_cases hlt : P ≤ y
    · have := h2 (y - P) (by omega) (by omega)
      have e : (P + (y - P)) % N = y := by
        rw [show P + (y - P) = y by omega]; exact Nat.mod_eq_of_lt hy
      rw [e] at this
      exact this h0
    · have := h2 (y + N - P) (by omega) (by omega)
      have e : (P + (y + N - P)) % N = y := by
        rw [show P + (y + N - P) = y + N by omega, Nat.add_mod_right]; exact Nat.mod_eq_of_lt hy
      rw [e] at this
      exact this h0
theorem ff_self {s : ByteArray} {N i : Nat} (hi : i < N) (h : byteAt s i = 0) : ff s N i 0 = i := by
  have e : (i + 0) % N = i := by rw [Nat.add_zero]; exact Nat.mod_eq_of_lt hi
  rw [ff_here (by omega) (by rw [e]; exact h), e]

theorem int_law3 : Keyed Tryd.prog 3 := int_keyed Tryd.underlying3
/-- Block b is a map whose keys are the numbers of a set. -/
def IntSet (w : World) (b n : Nat) (S : Nat → Bool) (N : Nat) : Prop :=
  ∃ D : DataW Unit, w.ownsMap Tryd.prog 3 (plainElem Tryd.prog 4) b n D ∧ (∀ x : Nat, has D (.int .i64 (x : Int)) = S x) ∧ size D = cn S N
theorem IntSet.made (w : World) (N : Nat) : IntSet (w.alloc (.map #[] 0)) w.heap.size 0 (fun _ => false) N := by
  refine ⟨.map [], World.ownsMap_made _ _ _ _, fun _ => rfl, ?_⟩
  have : ∀ k, cn (fun _ => false) k = 0 := fun k => by
    induction k with
    | zero => rfl
    | succ k ih => rw [cn, ih]; rfl
  rw [this]; rfl
theorem grownBy_of_below {w w' : World} (h : Below w.heap.size w w') : w.grownBy w' none := ⟨h.os, h.tape, h.output, h.size, fun k hk _ => h.block k hk⟩
theorem IntSet.below {w w' : World} {b n : Nat} {S : Nat → Bool} {N : Nat} (h : IntSet w b n S N) (hb : Below w.heap.size w w') : IntSet w' b n S N := by
  obtain ⟨D, h1, h2⟩ := h
  exact ⟨D, h1.kept (grownBy_of_below hb) (by simp), h2⟩
theorem IntSet.lt {w : World} {b n : Nat} {S : Nat → Bool} {N : Nat} (h : IntSet w b n S N) : b < w.heap.size := by
  obtain ⟨D, h1, _⟩ := h
  exact h1.lt
theorem wf_small {x : Nat} (h : x < 1000) : (Lit.int .i64 (x : Int)).wf = true := by
  have := wrap64_wf (x : Int)
  have e : wrap64 (x : Int) = x := by unfold wrap64; omega
  rwa [e] at this
/-- 'm[x] = true', at the operation. -/
theorem wpList_set {w : World} {ops : Array Oper} {rest : List Oper} {o : Oper} {a : Act} {Q : Exit → Act → World → Prop} (hg : o.guard = none) (m x v : Operand) (hop : o.op = .mapUpdate 30 m x v)
    (b n : Nat) (S : Nat → Bool) (N : Nat) (hm : a.eval m = .map (some b)) (hs : IntSet w b n S N) (hn : n < maxLen) (y : Nat) (hy : y < N) (hN : N ≤ 64) (hx : a.eval x = .int .i64 (y : Int)) (hv : a.eval v = .bool true)
    (hK : ∀ w', IntSet w' b (n + 1) (fun z => S z || z == y) N → w.grownBy w' (some b) → wpList Tryd.prog ops Q rest (a.put o.dst undef) w') :
    wpList Tryd.prog ops Q (o :: rest) a w := by
  obtain ⟨D, h1, h2, h3⟩ := hs
  refine wpList_mapUpdate_own w hg m x v _ hop _ _ int_law3 Tryd.underlying30 _ b n D hm h1 hn _ _ _ hx hv (keyOf_int_mk Tryd.underlying3 (wf_small (by omega))) _ [] (plainElem_bool Tryd.underlying4 true) ?_
  intro w' hw hgr
  refine hK w' ⟨_, hw, fun z => ?_, ?_⟩ hgr
  · by_cases hz : z = y
    · subst hz
      rw [has_put_same h1.isMap (by simp [WideAt.IsKeyLit])]
      simp
    · rw [has_put_other (by simp; omega), h2 z]
      have : (z == y) = false := by simp [hz]
      show S z = (S z || z == y)
      rw [this, Bool.or_false]
  · rw [size_put (h1.tidy int_law3), h2 y, cn_put, h3]
    cases hS : S y <;> simp [hy]

def KeptR (s : ByteArray) (N b : Nat) (w : World) (i : Value) (wr : World) : Prop :=
  ∃ k : Nat, k ≤ N ∧ i = .int .i64 k ∧ Below w.heap.size w wr ∧ IntSet wr b k (fun y => (List.range k).any fun i => ff s N i 0 == y) N

set_option maxHeartbeats 4000000 in
set_option maxRecDepth 100000 in
theorem round_walk (s : ByteArray) (n : Int) (w : World) :
    Calls Tryd.prog 4 #[.string s, .int .i64 n] w fun e w' => e = .returned (.bool true) ∧ Below w.heap.size w w' := by
  have HP := Lib.hid (fun W => places_any s n W)
  have hmm := @run_makeMap Tryd.prog
  by_cases h0 : chkE s n = 0
  · obtain ⟨N, rfl, h1, hN, hm⟩ := chk_told h0
    have hpl : placesL s N = pl s N := by rw [placesL, if_pos h0, Int.toNat_natCast]
    rw [hpl, h0] at HP
    have hcnt := pl_cn s N
    have hple := length_pl s N
    obtain ⟨h64, hbits, _⟩ := (mapB_iff s N).1 hm
    have HBITS := Lib.hid hbits
    have hask : ∀ P : Nat, P < N → askE s N P = 0 := fun P hP => ask_ok hm hN hP
    have HASK := Lib.hid hask
    clear hpl h0 hm hbits hask h64
    by_cases hfree : ∃ y, y < N ∧ byteAt s y = 0
    · obtain ⟨y0, hy0, hb0⟩ := hfree
      have HFF := Lib.hid (fun P (hP : P < N) => ff_some (s := s) hP hy0 hb0)
      clear hb0 hy0
      obtain ⟨cl, hcl⟩ : ∃ cl, cl = (pl s N).length := ⟨_, rfl⟩
      rw [← hcl] at hcnt hple
      have HCNT := Lib.hid hcnt
      have HCL := Lib.hid hcl
      clear hcnt hcl
      go_enter Tryd.func4, Tryd.ntmps4
      go_wp2_with fail
      refine (works_any _).mono ?_
      rintro e w1 ⟨rfl, hb1⟩
      go_wp2_with fail
      refine (HP.out _).mono ?_
      rintro e w2 ⟨v, rfl, ho, hb2⟩
      have B2 := hb1.trans (Below.mono hb2 hb1.size)
      have hz2 := B2.size
      obtain ⟨a, c, rfl, _⟩ := ho.cells
      clear hb1 hb2 ho
      rw [← HCL.out]
      have M2 := IntSet.made w2 N
      go_wp2_with fail
      go_loopw [25] (fun i wr => KeptR s N w2.heap.size w i wr) (fun i _ => N - (intOf i).toNat)
      case atStart => exact ⟨0, by omega, rfl, by (repeat' (first | exact Below.refl _ _ | assumption | refine Below.setCell ?_ ?_ _ | refine Below.drew ?_ | refine below_drewN ?_ _ | refine Below.alloc ?_ ?_ _ | refine below_of_grown ?_ (by assumption) ?_ | refine Below.trans ?_ (Below.mono (by assumption) ?_) | omega | (simp; done) | (simp; omega))), M2⟩
      case round =>
        clear M2
        obtain ⟨k, hk, rfl, hbe, hset⟩ := hrel
        have hzr := hbe.size
        have hzb := hset.lt
        have SET := Lib.hid hset
        clear hset
        by_cases hlt : k < N
        · obtain ⟨f1, f2⟩ := HFF.out k hlt
          have hfi := fun W => find_any s N k W
          have e1 : findI s N k = (ff s N k 0 : Nat) := by simp [findI, HASK.out k hlt, f1]
          have e2 : findE s N k = 0 := by simp [findE, HASK.out k hlt, f1]
          rw [e1, e2] at hfi
          have hta := fun W => taken_any s N k W
          have e3 : takenB s N k = (byteAt s k == 1) := by simp [takenB, HASK.out k hlt]
          rw [e3, HASK.out k hlt] at hta
          obtain ⟨x, hx⟩ : ∃ x, x = ff s N k 0 := ⟨_, rfl⟩
          rw [← hx] at hfi f1 f2
          have hcmp : (((x : Int) == (k : Int)) == (byteAt s k == 1)) = false := by
            rcases HBITS.out k hlt (by omega) with h | h
            · have hxk : x = k := by rw [hx, ff_self hlt h]
              rw [h, hxk]; simp
            · have hxk : ¬ x = k := fun e => by rw [e, h] at f2; cases f2
              have hxk' : ¬ (x : Int) = (k : Int) := by omega
              rw [h]; simp [hxk']
          obtain ⟨tb, htb⟩ : ∃ tb, tb = (byteAt s k == 1) := ⟨_, rfl⟩
          rw [← htb] at hcmp hta
          have HFI := Lib.hid hfi
          have HTA := Lib.hid hta
          have HX := Lib.hid hx
          have hbn : (((x : Int) == (k : Int)) != tb) = true := by rw [bne, hcmp]; rfl
          have hlk : (k : Int) < N := by omega
          clear hfi hta e1 e2 e3 f2 hx htb
          go_wp2_with fail
          refine (HFI.out _).mono ?_
          rintro e w3 ⟨rfl, hb3⟩
          have B3 := hbe.trans (Below.mono hb3 hzr)
          have S3 := Lib.hid (SET.out.below hb3)
          have hz3 := hb3.size
          clear hb3 hbe SET
          go_wp2_with fail
          refine (HTA.out _).mono ?_
          rintro e w4 ⟨rfl, hb4⟩
          have B4 := B3.trans (Below.mono hb4 B3.size)
          have S4 := Lib.hid (S3.out.below hb4)
          clear hb4 B3 S3
          go_wp2_with (at_mapUpdate; refine wpList_set rfl _ _ _ rfl w2.heap.size k _ N rfl S4.out (by unfold maxLen; omega) x f1 hN rfl rfl ?_; intro w5 S5 hgr5)
          have B5 : Below w.heap.size w w5 := B4.grown hgr5 B4.size (fun g hg => by simp at hg; omega)
          have S6 : IntSet w5 w2.heap.size (k + 1) (fun y => (List.range (k + 1)).any fun i => ff s N i 0 == y) N := by
            have e : (fun y => (List.range (k + 1)).any fun i => ff s N i 0 == y) = (fun z => ((List.range k).any fun i => ff s N i 0 == z) || z == x) := by
              funext z
              rw [List.range_succ, List.any_append, HX.out]
              simp only [List.any_cons, List.any_nil, Bool.or_false]
              congr 1
              rw [Bool.eq_iff_iff]
              simp only [beq_iff_eq]
              exact ⟨fun h => h.symm, fun h => h.symm⟩
            rw [e]
            exact S5
          have HN := Lib.hid (show KeptR s N w2.heap.size w (.int .i64 ((k : Int) + 1)) w5 from ⟨k + 1, by omega, by simp, B5, S6⟩)
          clear S5 hgr5 B5 S6 B4 S4
          go_wp2_with fail
          exact ⟨HN.out, by simp [intOf]; omega⟩
        · obtain rfl : k = N := by omega
          obtain ⟨D, d1, d2, d3⟩ := SET.out
          have hsz : (size D : Int) = (k : Int) - (cl : Int) := by
            have e : cn (fun y => (List.range k).any fun i => ff s k i 0 == y) k = cn (fun y => !(byteAt s y == 1)) k := cn_congr k fun y hy => by
              rw [Bool.eq_iff_iff]
              simp only [List.any_eq_true, List.mem_range, beq_iff_eq, Bool.not_eq_true', beq_eq_false_iff_ne, ne_eq]
              constructor
              · rintro ⟨i, hi, rfl⟩ he
                have := (HFF.out i hi).2
                rw [this] at he
                cases he
              · intro h
                rcases HBITS.out y hy (by omega) with h3 | h3
                · exact ⟨y, hy, ff_self hy h3⟩
                · exact absurd h3 h
            rw [d3, e]
            have := HCNT.out
            omega
          have hle : (cl : Int) ≤ 64 := by omega
          have DD := Lib.hid d1
          have HSZ := Lib.hid hsz
          clear d1 d2 d3 hsz SET
          go_wp2_with (at_len; refine wpList_len_own _ rfl _ 30 rfl 3 4 Tryd.underlying30 _ w2.heap.size k D rfl DD.out ?_; rw [HSZ.out])
          go_ret
          exact ⟨rfl, hbe⟩
    · have hall : ∀ j, j < N → ¬ byteAt s j = 0 := fun j hj h => hfree ⟨j, hj, h⟩
      have hcl : (pl s N).length = N := by
        have e : cn (fun y => !(byteAt s y == 1)) N = 0 := by
          have : ∀ k, k ≤ N → cn (fun y => !(byteAt s y == 1)) k = 0 := fun k => by
            induction k with
            | zero => intro _; rfl
            | succ k ih =>
              intro hk
              rcases HBITS.out k (by omega) (by omega) with h | h
              · exact absurd h (hall k (by omega))
              · rw [cn, ih (by omega), h]; rfl
          exact this N (Nat.le_refl _)
        omega
      have hff : ff s N 0 0 = N := by
        rcases ff_spec s N 0 N 0 (by omega) with ⟨i, hi, _, h3⟩ | ⟨h, _⟩
        · exact absurd h3 (hall _ (Nat.mod_lt _ (by omega)))
        · exact h
      have hfi := fun W => find_any s N 0 W
      have ha0 := HASK.out 0 (by omega)
      have e1 : findI s N 0 = 0 := by
        have : askE s N 0 = 0 := ha0
        simp [findI, this, hff]
      have e2 : findE s N 0 = 50 := by
        have : askE s N 0 = 0 := ha0
        simp [findE, this, hff]
      rw [e1, e2] at hfi
      have HFI := Lib.hid hfi
      have HCL := Lib.hid hcl
      clear hfi e1 e2 ha0 hff hcl hall hfree hcnt hple
      have l0 : (0 : Int) < N := by omega
      go_enter Tryd.func4, Tryd.ntmps4
      go_wp2_with fail
      refine (works_any _).mono ?_
      rintro e w1 ⟨rfl, hb1⟩
      go_wp2_with fail
      refine (HP.out _).mono ?_
      rintro e w2 ⟨v, rfl, ho, hb2⟩
      have B2 := hb1.trans (Below.mono hb2 hb1.size)
      have hz2 := B2.size
      obtain ⟨a, c, rfl, _⟩ := ho.cells
      clear hb1 hb2 ho
      rw [HCL.out]
      go_wp2_with fail
      refine wp_loop_rounds 1 ?_
      rw [rounds_succ]
      go_wp2_with fail
      refine (HFI.out _).mono ?_
      rintro e w3 ⟨rfl, hb3⟩
      go_wp2_with fail
      go_ret
      exact ⟨rfl, by (repeat' (first | exact Below.refl _ _ | assumption | refine Below.setCell ?_ ?_ _ | refine Below.drew ?_ | refine below_drewN ?_ _ | refine Below.alloc ?_ ?_ _ | refine below_of_grown ?_ (by assumption) ?_ | refine Below.trans ?_ (Below.mono (by assumption) ?_) | omega | (simp; done) | (simp; omega)))⟩
  · generalize chkE s n = ce at *
    have h1 : (ce == 0) = false := by simp [h0]
    have h2 : (ce != 0) = true := by simp [h0]
    clear h0
    go_enter Tryd.func4, Tryd.ntmps4
    go_wp2_with fail
    refine (works_any _).mono ?_
    rintro e w1 ⟨rfl, hb1⟩
    go_wp2_with fail
    refine (HP.out _).mono ?_
    rintro e w2 ⟨v, rfl, ho, hb2⟩
    have B2 := hb1.trans (Below.mono hb2 hb1.size)
    obtain ⟨a, c, rfl, _⟩ := ho.cells
    clear hb1 hb2 ho
    go_wp2_with fail
    go_ret
    exact ⟨rfl, B2⟩
end Go.Proofs.YtfhmnkilmhnibaaDoor
