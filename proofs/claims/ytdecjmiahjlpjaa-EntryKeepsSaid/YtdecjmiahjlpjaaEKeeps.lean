/-
  The walk of EntryKeeps: the law returns true, and what was there is as it was.
-/
import Derived.Test.YtdecjmiahjlpjaaEKeepsP
import Derived.Test.YtdecjmiahjlpjaaEList
import Derived.Test.YtdecjmiahjlpjaaEChanges
import Derived.Test.YtdecjmiahjlpjaaEReads
import Derived.Deep.DeepCutAuto
import Derived.Deep.QuietTactic
import Derived.BigQuiet
namespace Go.Proofs.Ytdecjmiahjlpjaa
open Go.RowKit

/-- What the loop keeps. -/
def Kept7a (w : World) (len : Nat) (v3 v4 v5 : Value) (wr : World) : Prop :=
  ∃ (k : Nat) (s : ByteArray) (L : List (Int × ByteArray)), k ≤ len ∧ k ≤ 40 ∧ v5 = .int .i64 k ∧ v3 = .string s ∧ dirOk s = true ∧ List.Perm L (ents s) ∧ OwnList wr w.heap.size v4 L ∧ Below w.heap.size w wr
/-- Where a name stands among the first j entries: at the place, or nowhere. -/
def AtIs (L : List (Int × ByteArray)) (nm : ByteArray) (j : Nat) (at_ : Int) : Prop := (at_ = -1 ∧ ∀ (i : Nat) p, i < j → L[i]? = some p → ¬ p.2 = nm) ∨ ∃ (a : Nat) (m : Int), at_ = a ∧ L[a]? = some (m, nm)
/-- And the inner one. -/
def Kept7b (w : World) (v4 : Value) (L : List (Int × ByteArray)) (nm : ByteArray) (v6 v32 : Value) (wr : World) : Prop :=
  ∃ (j : Nat) (at_ : Int), j ≤ L.length ∧ v32 = .int .i64 j ∧ v6 = .int .i64 at_ ∧ AtIs L nm j at_ ∧ OwnList wr w.heap.size v4 L ∧ Below w.heap.size w wr
theorem below_of_alloc {w W : World} (h : Below w.heap.size w W) (o : Obj) : Below w.heap.size w (W.alloc o) := h.alloc h.size o
theorem Has.setTwo {w : World} {b : Nat} {n : Int} {s : ByteArray} (h : Has w b n s) (n' : Int) (s' : ByteArray) : Has ((w.setCell ⟨b, 0, none⟩ (.int .i64 n')).setCell ⟨b, 1, none⟩ (.string s')) b n' s' := by
  obtain ⟨h0, h1, h2⟩ := h
  have h := two_set (.int .i64 n') (.string s') h0 h1
  exact ⟨h.1, h.2, by simp [World.setCell]; exact h2⟩
theorem OwnList.setNew {w0 w : World} {base b : Nat} {v : Value} {L : List (Int × ByteArray)} (h : OwnList w base v L) (h0 : OwnList w0 base v L) (hb : w0.heap.size ≤ b) (i : Nat) (u : Value) : OwnList (w.setCell ⟨b, i, none⟩ u) base v L := by
  refine World.ownsRow.kept h (row := some b) ⟨rfl, rfl, rfl, by simp [World.setCell], fun k _ hk => Below.heap_setCell _ _ _ _ (fun e => hk (by simp [e]))⟩ ?_
  cases hv : v.ownBlock with
  | none => exact .inl rfl
  | some g =>
    refine .inr fun e => ?_
    have := (World.ownsRow.lt h0 g hv).2
    simp at e
    omega
theorem Has.grown {w w' : World} {b : Nat} {n : Int} {s : ByteArray} {row : Option Nat} (h : Has w b n s) (hg : w.grownBy w' row) (hne : ¬ row = some b) : Has w' b n s := by
  have hb := hg.block b h.2.2 (fun e => hne e.symm)
  have hz := hg.size
  refine ⟨?_, ?_, Nat.lt_of_lt_of_le h.2.2 hz⟩
  · rw [← h.1]; unfold World.cell?; simp only [hb]
  · rw [← h.2.1]; unfold World.cell?; simp only [hb]
theorem cell_two_new (w : World) (x y : Value) (e : TypeId) : ∀ j v, [x, y][j]? = some v → (w.alloc (.cells #[x, y] e)).cell? ((⟨w.heap.size, 0, none⟩ : Addr).add j) = some v := by
  intro j v hj
  have hlt : j < 2 := by
    have := (List.getElem?_eq_some_iff.1 hj).1
    simpa using this
  rw [Addr.add_lit, cell_of_row _ w.heap.size _ #[x, y] e (0, 0) (_root_.Go.heap_alloc_new w _)]
  have : j = 0 ∨ j = 1 := by omega
  rcases this with rfl | rfl <;> simpa using hj
theorem length_le4 {s : ByteArray} {L : List (Int × ByteArray)} (h : List.Perm L (ents s)) : L.length ≤ 4 := by
  rw [h.length_eq]; exact length_ents s

set_option maxHeartbeats 8000000 in
set_option maxRecDepth 100000 in
theorem keeps_walk (ad : Option Addr) (len cap : Nat) (w : World) (row : ∃ zn zs zb, IsChanges w ad len zn zs zb) :
    Calls Try.prog 7 #[.slice ad len cap] w fun e w' => e = .returned (.bool true) ∧ Below w.heap.size w w' := by
  obtain ⟨zn, zs, zb, hrow⟩ := row
  have HR := Lib.hid hrow
  clear hrow
  go_enter Try.func7, Try.ntmps7
  go_wp2_with fail
  refine (works_any _).mono ?_
  rintro e w1 ⟨rfl, hb1⟩
  go_wp2_with fail
  refine (blank_any _).mono ?_
  rintro e w2 ⟨rfl, hb2⟩
  have B2 := hb1.trans (Below.mono hb2 hb1.size)
  clear hb1 hb2
  go_wp2_with fail
  go_loopw [3, 4, 5] (fun v3 v4 v5 wr => Kept7a w len v3 v4 v5 wr) (fun _ _ i _ => 40 - (intOf i).toNat)
  case atStart => exact ⟨0, blank, [], by omega, by omega, rfl, rfl, dirOk_blank, by rw [ents_blank], OwnList.nil _ _, B2⟩
  case round =>
    clear B2
    obtain ⟨k, s, L, hk1, hk2, rfl, rfl, hd, hp, hown, hbe⟩ := hrel
    have HD := Lib.hid hd
    have HP := Lib.hid hp
    have h4 := length_le4 hp
    have OWN := Lib.hid hown
    have BE := Lib.hid hbe
    obtain ⟨a4, c4, rfl, hc4, hcm, hcells⟩ := hown.form
    have HC := Lib.hid hcells
    clear hd hp hown hbe hcells
    by_cases hlt : k < len ∧ k < 40
    · obtain ⟨hlt1, hlt2⟩ := hlt
      rcases HR.out with h0 | ⟨b, off, rfl, hmx, hbw, hcell⟩
      · omega
      unfold maxLen at hmx hcm
      obtain ⟨e0, e1, e2⟩ := hcell k hlt1
      obtain ⟨n, hn⟩ : ∃ n, n = zn k := ⟨_, rfl⟩
      obtain ⟨nm, hnm⟩ : ∃ nm, nm = zs k := ⟨_, rfl⟩
      obtain ⟨away, haw⟩ : ∃ away, away = zb k := ⟨_, rfl⟩
      rw [← hn] at e0
      rw [← hnm] at e1
      rw [← haw] at e2
      have E0 := Lib.hid e0
      have E1 := Lib.hid e1
      have E2 := Lib.hid e2
      clear hcell hn hnm haw e0 e1 e2
      obtain ⟨wo, rfl⟩ : ∃ wo : World, wo = wr := ⟨_, rfl⟩
      have hd40 : decide ((k : Int) < 40) = true := decide_eq_true (by omega)
      go_wp2_with fail
      go_loopw [6, 32] (fun v6 v32 wr => Kept7b w (.slice a4 L.length c4) L nm v6 v32 wr) (fun _ i _ => L.length - (intOf i).toNat)
      case atStart => exact ⟨0, -1, by omega, rfl, rfl, .inl ⟨rfl, fun i p hi => by omega⟩, OWN.out, BE.out⟩
      case round =>
        clear OWN BE
        obtain ⟨j, at_, hj, rfl, rfl, hat, hown, hbe⟩ := hrel
        have HAT := Lib.hid hat
        have OWN := Lib.hid hown
        have BE := Lib.hid hbe
        have f2 := Lib.hid (fun i p hi => by
          obtain ⟨a', c', hv, _, _, hcc⟩ := hown.form
          simp only [Value.slice.injEq, true_and] at hv
          obtain ⟨rfl, rfl⟩ := hv
          exact hcc i p hi : ∀ i p, L[i]? = some p → ∃ g, a4 = some ⟨g, 0, none⟩ ∧ g < wr.heap.size ∧ w.heap.size ≤ g ∧ wr.cell? ⟨g, i * 2, none⟩ = some (.int .i64 p.1) ∧ wr.cell? ⟨g, i * 2 + 1, none⟩ = some (.string p.2))
        have hzr := hbe.size
        have g0 : wr.cell? ⟨b, off + k * 3, none⟩ = some (.int .i64 n) := by rw [hbe.cell (by simpa using hbw)]; exact E0.out
        have g1 : wr.cell? ⟨b, off + k * 3 + 1, none⟩ = some (.string nm) := by rw [hbe.cell (by simpa using hbw)]; exact E1.out
        have g2 : wr.cell? ⟨b, off + k * 3 + 2, none⟩ = some (.bool away) := by rw [hbe.cell (by simpa using hbw)]; exact E2.out
        have hbr : b < wr.heap.size := by omega
        clear hat hown hbe
        by_cases hjl : j < L.length
        · obtain ⟨p, hpj⟩ : ∃ p, L[j]? = some p := ⟨_, List.getElem?_eq_getElem hjl⟩
          obtain ⟨g, rfl, hg1, hg2, y0, y1⟩ := f2.out j p hpj
          obtain ⟨m, nm2⟩ := p
          have HPJ := Lib.hid hpj
          clear hpj
          have hnext : ∀ W at', AtIs L nm (j + 1) at' → Below w.heap.size w W → OwnList W w.heap.size (.slice (some ⟨g, 0, none⟩) L.length c4) L → Kept7b w (.slice (some ⟨g, 0, none⟩) L.length c4) L nm (.int .i64 at') (.int .i64 ((j : Int) + 1)) W := fun W at' h1 h2 h3 =>
            ⟨j + 1, at', by omega, by simp, rfl, h1, h3, h2⟩
          have HNX := Lib.hid hnext
          have hbw2 := Lib.hid (below_of_alloc BE.out (.cells #[.int .i64 m, .string nm2] 23))
          have how2 := Lib.hid (OWN.out.below ((Below.refl wr.heap.size wr).alloc (Nat.le_refl _) (.cells #[.int .i64 m, .string nm2] 23)))
          clear hnext HC f2
          have lk : (k : Int) < len := by omega
          have lk0 : (0 : Int) ≤ k := by omega
          by_cases heq : nm2 = nm
          · have he1 := eqs_yes heq
            have hA : AtIs L nm (j + 1) (j : Int) := .inr ⟨j, m, rfl, by rw [HPJ.out, heq]⟩
            have HA := Lib.hid hA
            clear hA heq
            go_wp2_with fail
            go_quiet (fail)
            clear y0 y1 g0 g1 g2
            go_wp2_with fail
            go_roundw
            case rel => exact HNX.out _ _ HA.out (below_drewN hbw2.out _) (how2.out.below (below_drewN (Below.refl _ _) _))
            case measure => simp [intOf]; omega
          · have he1 := eqs_no heq
            have hA : AtIs L nm (j + 1) at_ := by
              rcases HAT.out with ⟨h1, h2⟩ | h
              · refine .inl ⟨h1, fun i p hi hp => ?_⟩
                by_cases hij : i = j
                · subst hij
                  rw [HPJ.out] at hp
                  cases hp
                  exact heq
                · exact h2 i p (by omega) hp
              · exact .inr h
            have HA := Lib.hid hA
            clear hA heq
            go_wp2_with fail
            go_quiet (fail)
            clear y0 y1 g0 g1 g2
            go_wp2_with fail
            go_roundw
            case rel => exact HNX.out _ _ HA.out (below_drewN hbw2.out _) (how2.out.below (below_drewN (Below.refl _ _) _))
            case measure => simp [intOf]; omega
        · have hjl' : j = L.length := by omega
          subst hjl'
          have lk : (k : Int) < len := by omega
          have lk0 : (0 : Int) ≤ k := by omega
          have hF := Lib.hid (fun W => efind_any s nm W)
          have hNm := Lib.hid (fun W => name_any nm W)
          clear HC
          rcases HAT.out with ⟨rfl, hnone⟩ | ⟨a, m, rfl, hla⟩
          · clear HAT f2
            obtain ⟨hq1, hq2⟩ := none_all HD.out HP.out (fun i p hp => hnone i p (List.getElem?_eq_some_iff.1 hp).1 hp)
            have HNO := Lib.hid hnone
            clear hnone
            obtain ⟨fe, hfe⟩ : ∃ fe, fe = findE s nm := ⟨_, rfl⟩
            rw [← hfe] at hq2 hF
            have hfe0 : (fe == 0) = false := by simp [hq2]
            obtain ⟨nb, hnb⟩ : ∃ nb, nb = nameB nm := ⟨_, rfl⟩
            rw [← hnb] at hNm
            clear hfe hnb hq1 hq2
            generalize findI s nm = fi at hF
            generalize findN s nm = fn at hF
            go_wp2_with fail
            refine (hF.out _).mono ?_
            rintro e w5 ⟨rfl, hb5⟩
            have hz5 := hb5.size
            have B5 := BE.out.trans (Below.mono hb5 hzr)
            have O5 := OWN.out.below hb5
            have i0 : w5.cell? ⟨b, off + k * 3, none⟩ = some (.int .i64 n) := by rw [hb5.cell (by simpa using hbr)]; exact g0
            have i1 : w5.cell? ⟨b, off + k * 3 + 1, none⟩ = some (.string nm) := by rw [hb5.cell (by simpa using hbr)]; exact g1
            have i2 : w5.cell? ⟨b, off + k * 3 + 2, none⟩ = some (.bool away) := by rw [hb5.cell (by simpa using hbr)]; exact g2
            have hb6 : b < w5.heap.size := by omega
            clear g0 g1 g2 hb5 OWN BE
            have hstay : ∀ W, Below w.heap.size w W → OwnList W w.heap.size (.slice a4 L.length c4) L → Kept7a w len (.string s) (.slice a4 L.length c4) (.int .i64 ((k : Int) + 1)) W := fun W h1 h2 =>
              ⟨k + 1, s, L, by omega, by omega, by simp, rfl, HD.out, HP.out, h2, h1⟩
            have HST := Lib.hid hstay
            have OO5 := Lib.hid O5
            have BB5 := Lib.hid B5
            clear hstay O5 B5
            go_upto_region 16 with fail
            go_cut [86] (fun v W => v = .bool false ∧ W = w5)
            case first =>
              go_wp2_with fail
              refine (hNm.out _).mono ?_
              rintro e w6 ⟨rfl, rfl⟩
              cases nb <;> (go_wp2_with fail; go_meet; exact ⟨rfl, rfl⟩)
            case rest =>
              obtain ⟨rfl, rfl⟩ := hcut
              cases away with
              | true =>
                go_wp2_with fail
                exact ⟨HST.out _ (below_of_alloc BB5.out _) (OO5.out.below ((Below.refl _ _).alloc (Nat.le_refl _) _)), by simp [intOf]; omega⟩
              | false =>
                have hadd := fun W => eadd_any s n nm W
                unfold addR at hadd
                rcases add_none (n := n) HD.out HP.out (fun i p hp => HNO.out i p (List.getElem?_eq_some_iff.1 hp).1 hp) with ⟨hbad, hpv⟩ | ⟨he0, hok, f, hf4, hpv, hdu, hper⟩
                · rw [hpv] at hadd
                  generalize addI s n nm = ai at hadd
                  rcases hbad with hb70 | ⟨hb50, hfull⟩
                  · rw [hb70] at hadd
                    have HADD := Lib.hid hadd
                    clear hadd hb70 hpv
                    go_wp2_with fail
                    refine (HADD.out _).mono ?_
                    rintro e w7 ⟨rfl, hb7⟩
                    obtain ⟨z0, z1, zl⟩ := (Has.new wc 0 ⟨#[]⟩ 32).below hb7
                    have zf : ∀ o, w7.frozen? ⟨wc.heap.size, o, none⟩ = false := fun o => by rw [hb7.frozen (by simp <;> omega)]; simp [go_sem]
                    have O7 := (OO5.out.below ((Below.refl _ _).alloc (Nat.le_refl _) (.cells #[.int .i64 0, .string ⟨#[]⟩] 32))).below hb7
                    have O8 := Lib.hid ((O7.setNew OO5.out (Nat.le_refl _) 0 (.int .i64 0)).setNew OO5.out (Nat.le_refl _) 1 (.string ⟨#[]⟩))
                    have hzb := BB5.out.size
                    have B7 := (below_of_alloc BB5.out (.cells #[.int .i64 0, .string ⟨#[]⟩] 32)).trans (Below.mono hb7 (by simp; omega))
                    have B8 : Below w.heap.size w ((w7.setCell ⟨wc.heap.size, 0, none⟩ (.int .i64 0)).setCell ⟨wc.heap.size, 1, none⟩ (.string ⟨#[]⟩)) := (B7.setCell hzb _).setCell hzb _
                    have BB8 := Lib.hid B8
                    clear O7 B7 B8 hb7
                    go_wp2_with fail
                    exact ⟨HST.out _ BB8.out O8.out, by simp [intOf]; omega⟩
                  · rw [hb50] at hadd
                    have HADD := Lib.hid hadd
                    have hll : decide ((L.length : Int) < 4) = false := decide_eq_false (by omega)
                    have HFULL := Lib.hid hfull
                    clear hadd hb50 hpv hfull
                    go_wp2_with fail
                    refine (HADD.out _).mono ?_
                    rintro e w7 ⟨rfl, hb7⟩
                    obtain ⟨z0, z1, zl⟩ := (Has.new wc 0 ⟨#[]⟩ 32).below hb7
                    have zf : ∀ o, w7.frozen? ⟨wc.heap.size, o, none⟩ = false := fun o => by rw [hb7.frozen (by simp <;> omega)]; simp [go_sem]
                    have O7 := (OO5.out.below ((Below.refl _ _).alloc (Nat.le_refl _) (.cells #[.int .i64 0, .string ⟨#[]⟩] 32))).below hb7
                    have O8 := Lib.hid ((O7.setNew OO5.out (Nat.le_refl _) 0 (.int .i64 0)).setNew OO5.out (Nat.le_refl _) 1 (.string ⟨#[]⟩))
                    have hzb := BB5.out.size
                    have B7 := (below_of_alloc BB5.out (.cells #[.int .i64 0, .string ⟨#[]⟩] 32)).trans (Below.mono hb7 (by simp; omega))
                    have B8 : Below w.heap.size w ((w7.setCell ⟨wc.heap.size, 0, none⟩ (.int .i64 0)).setCell ⟨wc.heap.size, 1, none⟩ (.string ⟨#[]⟩)) := (B7.setCell hzb _).setCell hzb _
                    have BB8 := Lib.hid B8
                    clear O7 B7 B8 hb7
                    go_wp2_with fail
                    exact ⟨HST.out _ BB8.out O8.out, by simp [intOf]; omega⟩
                · rw [hpv, he0] at hadd
                  generalize addI s n nm = ai at hadd
                  have h64 := ((dirOk_iff s).1 HD.out).1
                  have htx := size_slotS n nm (entOk_sizes hok).2.2
                  have hpat := fun W g hg => patched_one s (slotS n nm) (f * 16) W g hg h64 (by omega) (by omega)
                  have hnms := fun W => enames_any (over s (f * 16) (slotS n nm)) W
                  have hde : dirE (over s (f * 16) (slotS n nm)) = 0 := by simp [dirE, hdu]
                  rw [hde] at hnms
                  have hlen := length_names_ents hdu hper
                  have hnew : ∀ W v, Below w.heap.size w W → OwnList W w.heap.size v (L ++ [(n, nm)]) → Kept7a w len (.string (over s (f * 16) (slotS n nm))) v (.int .i64 ((k : Int) + 1)) W := fun W v h1 h2 =>
                    ⟨k + 1, _, _, by omega, by omega, by simp, rfl, hdu, hper, h2, h1⟩
                  obtain ⟨o, ho⟩ : ∃ o, o = f * 16 := ⟨_, rfl⟩
                  rw [← ho] at hadd hpat hnms hlen hnew
                  generalize over s o (slotS n nm) = u at hpat hnms hlen hnew
                  generalize slotS n nm = tx at hadd hpat
                  have HADD := Lib.hid hadd
                  have HPAT := Lib.hid hpat
                  have HNMS := Lib.hid hnms
                  have HLEN := Lib.hid hlen
                  have HNEW := Lib.hid hnew
                  clear hadd hpat hnms hlen hnew hde hdu hper hpv he0 h64 htx ho hok hf4
                  go_wp2_with fail
                  refine (HADD.out _).mono ?_
                  rintro e w7 ⟨rfl, hb7⟩
                  obtain ⟨z0, z1, zl⟩ := (Has.new wc 0 ⟨#[]⟩ 32).below hb7
                  have P8 := Has.setTwo (b := wc.heap.size) ⟨z0, z1, zl⟩ (o : Int) tx
                  have zf : ∀ o, w7.frozen? ⟨wc.heap.size, o, none⟩ = false := fun o => by rw [hb7.frozen (by simp <;> omega)]; simp [go_sem]
                  have O7 := (OO5.out.below ((Below.refl _ _).alloc (Nat.le_refl _) (.cells #[.int .i64 0, .string ⟨#[]⟩] 32))).below hb7
                  have O8 := (O7.setNew OO5.out (Nat.le_refl _) 0 (.int .i64 (o : Int))).setNew OO5.out (Nat.le_refl _) 1 (.string tx)
                  have hzb := BB5.out.size
                  have B7 := (below_of_alloc BB5.out (.cells #[.int .i64 0, .string ⟨#[]⟩] 32)).trans (Below.mono hb7 (by simp; omega))
                  have B8 : Below w.heap.size w ((w7.setCell ⟨wc.heap.size, 0, none⟩ (.int .i64 (o : Int))).setCell ⟨wc.heap.size, 1, none⟩ (.string tx)) := (B7.setCell hzb _).setCell hzb _
                  have PP8 := Lib.hid P8
                  have HNE := Lib.hid (fun x hx => World.ownsRow.lt OO5.out x hx : ∀ x, Value.ownBlock (.slice a4 L.length c4) = some x → w.heap.size ≤ x ∧ x < wc.heap.size)
                  have OO8 := Lib.hid O8
                  have BB8 := Lib.hid B8
                  have j0 : ((w7.setCell ⟨wc.heap.size, 0, none⟩ (.int .i64 (o : Int))).setCell ⟨wc.heap.size, 1, none⟩ (.string tx)).cell? ⟨b, off + k * 3, none⟩ = some (.int .i64 n) := by
                    rw [B8.cell (by simpa using hbw)]; exact E0.out
                  have j1 : ((w7.setCell ⟨wc.heap.size, 0, none⟩ (.int .i64 (o : Int))).setCell ⟨wc.heap.size, 1, none⟩ (.string tx)).cell? ⟨b, off + k * 3 + 1, none⟩ = some (.string nm) := by
                    rw [B8.cell (by simpa using hbw)]; exact E1.out
                  have J0 := Lib.hid j0
                  have J1 := Lib.hid j1
                  clear P8 O7 O8 B7 B8 hb7 j0 j1 i0 i1 i2 OO5 BB5
                  go_upto_region 29 with fail
                  change Code.wp Try.prog _ _ _ ((w7.setCell ⟨wc.heap.size, 0, none⟩ (.int .i64 (o : Int))).setCell ⟨wc.heap.size, 1, none⟩ (.string tx))
                  generalize (w7.setCell ⟨wc.heap.size, 0, none⟩ (.int .i64 (o : Int))).setCell ⟨wc.heap.size, 1, none⟩ (.string tx) = W8 at PP8 OO8 BB8 J0 J1 ⊢
                  clear z0 z1 zl zf
                  obtain ⟨q0, hi, hz0, hz1, hz2⟩ := info_parts info_entry
                  have x0 := J0.out
                  have x1 := J1.out
                  have hzz := BB8.out.size
                  have hown8 := OO8.out
                  unfold OwnList at hown8
                  go_wp2_with (at_builtin; refine wpList_append_own _ rfl _ _ 54 rfl w.heap.size 23 q0 (.agg #[.int .i64 0, .string ⟨#[]⟩]) 2 24 Try.underlying54 hi hz0 hz1 hz2 rfl (by decide) _ _ _ rfl (hown8.alloc _) ⟨W8.heap.size, 0, none⟩ 1 1 [.int .i64 n, .string nm] rfl rfl ?c1 ?c2 ?c3 ?c4 ?c5 ?_)
                  case c1 => exact cell_two_new _ _ _ _
                  case c2 => simp [Value.oneCell']
                  case c3 => unfold maxLen; omega
                  case c4 => omega
                  case c5 => simp; omega
                  intro v9 w9 hown9 hgrow9 _
                  have O9 : OwnList w9 w.heap.size v9 (L ++ [(n, nm)]) := by
                    unfold OwnList
                    rw [entCells_append, List.length_append]
                    exact hown9
                  have P9 := (PP8.out.alloc (.cells #[.int .i64 n, .string nm] 23)).grown hgrow9 (fun h => by have := (HNE.out _ h).2; omega)
                  have B9 := (below_of_alloc BB8.out (.cells #[.int .i64 n, .string nm] 23)).grown hgrow9 (by simp; omega) (fun g hg => (HNE.out g hg).1)
                  clear hown9 hgrow9 hown8 x0 x1 hzz PP8 OO8 BB8 J0 J1 HNE
                  generalize L ++ [(n, nm)] = L2 at O9 HNEW HLEN
                  obtain ⟨a9, c9, rfl, _, _, _⟩ := O9.form
                  have OO9 := Lib.hid O9
                  have hz9 := B9.size
                  obtain ⟨p0, p1, pl⟩ := P9
                  clear O9
                  go_wp2_with fail
                  refine (HPAT.out _ _ (by simp)).mono ?_
                  rintro e w10 ⟨rfl, hb10⟩
                  have B10 := (B9.alloc hz9 (.cells #[.int .i64 (o : Int), .string tx] 32)).trans (Below.mono hb10 (by simp; omega))
                  have O10 := Lib.hid ((OO9.out.below ((Below.refl _ _).alloc (Nat.le_refl _) (.cells #[.int .i64 (o : Int), .string tx] 32))).below hb10)
                  clear p0 p1 pl hb10 B9 OO9 hz9
                  go_wp2_with fail
                  refine (HNMS.out _).mono ?_
                  rintro e w11 ⟨v11, rfl, O11, hb11⟩
                  obtain ⟨a11, c11, rfl, _⟩ := own_texts O11
                  have B11 := Lib.hid (B10.trans (Below.mono hb11 B10.size))
                  have O12 := Lib.hid (O10.out.below hb11)
                  rw [HLEN.out]
                  clear O11 hb11 B10 O10
                  go_wp2_with fail
                  exact ⟨HNEW.out _ _ B11.out O12.out, by simp [intOf]; omega⟩
          · clear HAT
            have HLA := Lib.hid hla
            have hal : a < L.length := (List.getElem?_eq_some_iff.1 hla).1
            obtain ⟨hnb, hfe, hfn, q, hq4, hfi, hdu, hper⟩ := found_all HD.out HP.out hla
            obtain ⟨g, rfl, hg1, hg2, y0, y1⟩ := f2.out a (m, nm) hla
            have hadd0 := add_found (n := n) hfe
            rw [hfi, hfn, hfe] at hF
            rw [hnb] at hNm
            have HDU := Lib.hid hdu
            have HPER := Lib.hid hper
            have HADD0 := Lib.hid hadd0
            clear hla f2 hnb hfe hfn hfi hdu hper hadd0
            go_wp2_with fail
            refine (hF.out _).mono ?_
            rintro e w5 ⟨rfl, hb5⟩
            have hz5 := hb5.size
            have B5 := BE.out.trans (Below.mono hb5 hzr)
            have O5 := OWN.out.below hb5
            have i0 : w5.cell? ⟨b, off + k * 3, none⟩ = some (.int .i64 n) := by rw [hb5.cell (by simpa using hbr)]; exact g0
            have i1 : w5.cell? ⟨b, off + k * 3 + 1, none⟩ = some (.string nm) := by rw [hb5.cell (by simpa using hbr)]; exact g1
            have i2 : w5.cell? ⟨b, off + k * 3 + 2, none⟩ = some (.bool away) := by rw [hb5.cell (by simpa using hbr)]; exact g2
            have yy : w5.cell? ⟨g, a * 2, none⟩ = some (.int .i64 m) := by rw [hb5.cell (by simpa using hg1)]; exact y0
            have hb6 : b < w5.heap.size := by omega
            clear g0 g1 g2 hb5 OWN BE y0 y1
            have hstay : ∀ W, Below w.heap.size w W → OwnList W w.heap.size (.slice (some ⟨g, 0, none⟩) L.length c4) L → Kept7a w len (.string s) (.slice (some ⟨g, 0, none⟩) L.length c4) (.int .i64 ((k : Int) + 1)) W := fun W h1 h2 =>
              ⟨k + 1, s, L, by omega, by omega, by simp, rfl, HD.out, HP.out, h2, h1⟩
            have HST := Lib.hid hstay
            have OO5 := Lib.hid O5
            have BB5 := Lib.hid B5
            have la : (a : Int) < L.length := by omega
            have la0 : (0 : Int) ≤ a := by omega
            clear hstay O5 B5
            go_upto_region 16 with fail
            go_cut [86] (fun v W => v = .bool false ∧ W = w5)
            case first =>
              go_wp2_with fail
              refine (hNm.out _).mono ?_
              rintro e w6 ⟨rfl, rfl⟩
              go_wp2_with fail
              go_meet
              exact ⟨rfl, rfl⟩
            case rest =>
              obtain ⟨rfl, rfl⟩ := hcut
              cases away with
              | false =>
                have hadd := fun W => eadd_any s n nm W
                unfold addR at hadd
                obtain ⟨hcode, hpv⟩ := HADD0.out
                rw [hpv] at hadd
                generalize addI s n nm = ai at hadd
                rcases hcode with hc | hc
                all_goals
                  rw [hc] at hadd
                  have HADD := Lib.hid hadd
                  clear hadd hc hpv HADD0 yy
                  go_wp2_with fail
                  refine (HADD.out _).mono ?_
                  rintro e w7 ⟨rfl, hb7⟩
                  obtain ⟨z0, z1, zl⟩ := (Has.new wc 0 ⟨#[]⟩ 32).below hb7
                  have zf : ∀ o, w7.frozen? ⟨wc.heap.size, o, none⟩ = false := fun o => by rw [hb7.frozen (by simp <;> omega)]; simp [go_sem]
                  have O7 := (OO5.out.below ((Below.refl _ _).alloc (Nat.le_refl _) (.cells #[.int .i64 0, .string ⟨#[]⟩] 32))).below hb7
                  have O8 := Lib.hid ((O7.setNew OO5.out (Nat.le_refl _) 0 (.int .i64 0)).setNew OO5.out (Nat.le_refl _) 1 (.string ⟨#[]⟩))
                  have hzb := BB5.out.size
                  have B7 := (below_of_alloc BB5.out (.cells #[.int .i64 0, .string ⟨#[]⟩] 32)).trans (Below.mono hb7 (by simp; omega))
                  have B8 : Below w.heap.size w ((w7.setCell ⟨wc.heap.size, 0, none⟩ (.int .i64 0)).setCell ⟨wc.heap.size, 1, none⟩ (.string ⟨#[]⟩)) := (B7.setCell hzb _).setCell hzb _
                  have BB8 := Lib.hid B8
                  clear O7 B7 B8 hb7
                  go_wp2_with fail
                  exact ⟨HST.out _ BB8.out O8.out, by simp [intOf]; omega⟩
              | true =>
                have h64 := ((dirOk_iff s).1 HD.out).1
                have htx := size_slotS 0 ⟨#[]⟩ (by decide)
                have hpat := fun W g hg => patched_one s (slotS 0 ⟨#[]⟩) (q * 16) W g hg h64 (by omega) (by omega)
                have hnms := fun W => enames_any (over s (q * 16) (slotS 0 ⟨#[]⟩)) W
                have hde : dirE (over s (q * 16) (slotS 0 ⟨#[]⟩)) = 0 := by simp [dirE, HDU.out]
                rw [hde] at hnms
                have hlen := length_names_ents HDU.out HPER.out
                have hnew : ∀ W v, Below w.heap.size w W → OwnList W w.heap.size v (L.take a ++ L.drop (a + 1)) → Kept7a w len (.string (over s (q * 16) (slotS 0 ⟨#[]⟩))) v (.int .i64 ((k : Int) + 1)) W := fun W v h1 h2 =>
                  ⟨k + 1, _, _, by omega, by omega, by simp, rfl, HDU.out, HPER.out, h2, h1⟩
                have hput := fun W => eput_any q 0 ⟨#[]⟩ W
                rw [(put_good hq4 entOk_none).1, (put_good hq4 entOk_none).2] at hput
                obtain ⟨o, ho⟩ : ∃ o, o = q * 16 := ⟨_, rfl⟩
                rw [← ho] at hput hpat hnms hlen hnew
                clear HDU HPER
                generalize over s o (slotS 0 ⟨#[]⟩) = u at hpat hnms hlen hnew
                generalize slotS 0 ⟨#[]⟩ = tx at hput hpat
                have HPUT := Lib.hid hput
                have HPAT := Lib.hid hpat
                have HNMS := Lib.hid hnms
                have HLEN := Lib.hid hlen
                have HNEW := Lib.hid hnew
                clear hput hpat hnms hlen hnew hde h64 htx ho HADD0 yy
                go_wp2_with fail
                refine (HPUT.out _).mono ?_
                rintro e w7 ⟨rfl, hb7⟩
                obtain ⟨z0, z1, zl⟩ := (Has.new wc 0 ⟨#[]⟩ 32).below hb7
                have P8 := Has.setTwo (b := wc.heap.size) ⟨z0, z1, zl⟩ (o : Int) tx
                have zf : ∀ o, w7.frozen? ⟨wc.heap.size, o, none⟩ = false := fun o => by rw [hb7.frozen (by simp <;> omega)]; simp [go_sem]
                have O7 := (OO5.out.below ((Below.refl _ _).alloc (Nat.le_refl _) (.cells #[.int .i64 0, .string ⟨#[]⟩] 32))).below hb7
                have O8 := (O7.setNew OO5.out (Nat.le_refl _) 0 (.int .i64 (o : Int))).setNew OO5.out (Nat.le_refl _) 1 (.string tx)
                have hzb := BB5.out.size
                have B7 := (below_of_alloc BB5.out (.cells #[.int .i64 0, .string ⟨#[]⟩] 32)).trans (Below.mono hb7 (by simp; omega))
                have B8 : Below w.heap.size w ((w7.setCell ⟨wc.heap.size, 0, none⟩ (.int .i64 (o : Int))).setCell ⟨wc.heap.size, 1, none⟩ (.string tx)) := (B7.setCell hzb _).setCell hzb _
                have PP8 := Lib.hid P8
                have HNE := Lib.hid (fun x hx => World.ownsRow.lt OO5.out x hx : ∀ x, Value.ownBlock (.slice (some ⟨g, 0, none⟩) L.length c4) = some x → w.heap.size ≤ x ∧ x < wc.heap.size)
                have OO8 := Lib.hid O8
                have BB8 := Lib.hid B8
                have j0 : ((w7.setCell ⟨wc.heap.size, 0, none⟩ (.int .i64 (o : Int))).setCell ⟨wc.heap.size, 1, none⟩ (.string tx)).cell? ⟨b, off + k * 3, none⟩ = some (.int .i64 n) := by
                  rw [B8.cell (by simpa using hbw)]; exact E0.out
                have j1 : ((w7.setCell ⟨wc.heap.size, 0, none⟩ (.int .i64 (o : Int))).setCell ⟨wc.heap.size, 1, none⟩ (.string tx)).cell? ⟨b, off + k * 3 + 1, none⟩ = some (.string nm) := by
                  rw [B8.cell (by simpa using hbw)]; exact E1.out
                have J0 := Lib.hid j0
                have J1 := Lib.hid j1
                clear P8 O7 O8 B7 B8 hb7 j0 j1 i0 i1 i2 OO5 BB5
                go_upto_region 24 with fail
                change Code.wp Try.prog _ _ _ ((w7.setCell ⟨wc.heap.size, 0, none⟩ (.int .i64 (o : Int))).setCell ⟨wc.heap.size, 1, none⟩ (.string tx))
                generalize (w7.setCell ⟨wc.heap.size, 0, none⟩ (.int .i64 (o : Int))).setCell ⟨wc.heap.size, 1, none⟩ (.string tx) = W8 at PP8 OO8 BB8 J0 J1 ⊢
                clear z0 z1 zl zf
                obtain ⟨q0, hi, hz0, hz1, hz2⟩ := info_parts info_entry
                have hown8 := OO8.out
                unfold OwnList at hown8
                have hzz := BB8.out.size
                have hg8 := (HNE.out g rfl).2
                have hgz : g < W8.heap.size := (World.ownsRow.lt hown8 g rfl).2
                have hc8 := fun j u h => World.ownsRow.cells hown8 (g := g) rfl j u h
                have hE : ((W8.alloc (.cells #[] 23)).drew).ownsRow W8.heap.size 23 2 (.slice (some ⟨W8.heap.size, 0, none⟩) 0 0) 0 [] :=
                  ⟨rfl, .inr ⟨W8.heap.size, 0, #[], rfl, Nat.le_refl _, _root_.Go.heap_alloc_new W8 _, Nat.le_refl _, by unfold maxLen; omega, rfl, rfl⟩⟩
                have hA1 : ∀ j u, (entCells (L.take a))[j]? = some u → ((W8.alloc (.cells #[] 23)).drew).cell? ((⟨g, 0, none⟩ : Addr).add j) = some u := fun j u h => by
                  have h1 := hc8 j u (entCells_take L a j u h)
                  rw [← h1]
                  rw [Addr.add_lit]
                  exact ((Below.refl W8.heap.size W8).alloc (Nat.le_refl _) (.cells #[] 23)).cell (p := ⟨g, 0 + j, none⟩) (by simpa using hgz)
                obtain ⟨A, hAs, hAc⟩ : ∃ A : Addr, (∀ W : World, (Instr.slice 54 (.slice (some ⟨g, 0, none⟩) L.length c4) (some (.int .i64 ((a : Int) + 1))) none none).run Try.prog W = .ok (.slice (some A) (L.length - (a + 1)) (c4 - (a + 1))) W) ∧
                    ∀ j u, (entCells (L.drop (a + 1)))[j]? = some u → A.add j = ⟨g, (a + 1) * 2 + j, none⟩ := by
                  have hrun : ∀ W : World, (Instr.slice 54 (.slice (some ⟨g, 0, none⟩) L.length c4) (some (.int .i64 ((a : Int) + 1))) none none).run Try.prog W = .ok (sliced (some ⟨g, 0, none⟩) (a + 1) L.length c4 2) W := fun W => by
                    have hz : (sizeOf (Try.prog.elem 54)).run Try.prog W = .ok 2 W := by kernel_rfl
                    rw [run_slice_l (P := Try.prog) (ht := Try.underlying54) (h0 := by omega) (h1 := by omega), hz]
                    have e : ((a : Int) + 1).toNat = a + 1 := by omega
                    simp only [Result.andThen, e]
                  by_cases hcap : c4 = a + 1
                  · refine ⟨⟨g, 0, none⟩, fun W => by rw [hrun]; simp [sliced, hcap], fun j u h => ?_⟩
                    have h2 := (List.getElem?_eq_some_iff.1 h).1
                    rw [length_entCells, List.length_drop] at h2
                    omega
                  · refine ⟨⟨g, (a + 1) * 2, none⟩, fun W => by rw [hrun]; simp [sliced, hcap, Addr.add_lit], fun j u h => by rw [Addr.add_lit]⟩
                have hA2 : ∀ w9 : World, ((W8.alloc (.cells #[] 23)).drew).grownBy w9 (some W8.heap.size) → ∀ j u, (entCells (L.drop (a + 1)))[j]? = some u → w9.cell? (A.add j) = some u := fun w9 hgr j u h => by
                  rw [hAc j u h]
                  rw [entCells_drop] at h
                  have h1 := hc8 _ u h
                  rw [Addr.add_lit, Nat.zero_add] at h1
                  have hblk := hgr.block g (by show g < (W8.alloc _).heap.size; simp; omega) (by intro e; simp at e; omega)
                  rw [← h1]
                  have hold : ((W8.alloc (.cells #[] 23)).drew).heap[g]? = W8.heap[g]? := _root_.Go.heap_alloc_old W8 _ hgz
                  unfold World.cell?
                  simp only [hblk, hold]
                have hlt1 : (L.take a).length = a := by rw [List.length_take]; omega
                have hld1 : (L.drop (a + 1)).length = L.length - (a + 1) := List.length_drop
                have hl1 := length_entCells (L.take a)
                have hl2 := length_entCells (L.drop (a + 1))
                rw [hlt1] at hl1
                rw [hld1] at hl2
                have hL2 : (L.take a ++ L.drop (a + 1)).length = 0 + a + (L.length - (a + 1)) := by rw [List.length_append, hlt1, hld1]; omega
                have hcells2 : entCells (L.take a ++ L.drop (a + 1)) = [] ++ entCells (L.take a) ++ entCells (L.drop (a + 1)) := by rw [entCells_append]; rfl
                have one1 := entCells_one (L.take a)
                have one2 := entCells_one (L.drop (a + 1))
                have lc0 : (a : Int) ≤ c4 := by omega
                have lc1 : (a : Int) + 1 ≤ L.length := by omega
                have hwrap : IntKind.i64.wrap ((a : Int) + 1) = (a : Int) + 1 := by rw [IntKind.wrap_i64]; omega
                have HL2 := Lib.hid hL2
                have HC2 := Lib.hid hcells2
                have HL1 := Lib.hid hl1
                have HLL2 := Lib.hid hl2
                have HO1 := Lib.hid one1
                have HO2 := Lib.hid one2
                have HA1 := Lib.hid hA1
                have HA2 := Lib.hid hA2
                have HE := Lib.hid hE
                clear hL2 hcells2 hl1 hl2 one1 one2 hA1 hA2 hE hc8 hAc hlt1 hld1 hown8
                go_cut [4] (fun v4 W => OwnList W W8.heap.size v4 (L.take a ++ L.drop (a + 1)) ∧ Below W8.heap.size W8 W)
                case first =>
                  go_region_law (first | (refine step_append_own rfl (.tmp 102) (.tmp 105) 54 rfl W8.heap.size 23 q0 (.agg #[.int .i64 0, .string ⟨#[]⟩]) 2 24 Try.underlying54 hi hz0 hz1 hz2 rfl (by decide) (.slice (some ⟨W8.heap.size, 0, none⟩) 0 0) 0 [] rfl HE.out ⟨g, 0, none⟩ a c4 (entCells (L.take a)) rfl HL1.out HA1.out HO1.out (by unfold maxLen; omega) (by omega) (by show W8.heap.size ≤ (W8.alloc _).heap.size; simp) ?_; intro v1 w9 h1 gr1 _) | (refine step_append_own rfl (.tmp 106) (.tmp 110) 54 rfl W8.heap.size 23 q0 (.agg #[.int .i64 0, .string ⟨#[]⟩]) 2 24 Try.underlying54 hi hz0 hz1 hz2 rfl (by decide) v1 (0 + a) ([] ++ entCells (L.take a)) rfl h1 A (L.length - (a + 1)) (c4 - (a + 1)) (entCells (L.drop (a + 1))) rfl HLL2.out (HA2.out w9 gr1) HO2.out (by unfold maxLen; omega) (by omega) (by have hsz := gr1.size; change (W8.alloc _).heap.size ≤ _ at hsz; simp at hsz; omega) ?_; intro v2 w10 h2 gr2 _))
                  all_goals
                    have O10 := Lib.hid (show OwnList w10 W8.heap.size v2 (L.take a ++ L.drop (a + 1)) by
                      unfold OwnList
                      rw [HL2.out, HC2.out]
                      exact h2)
                    have hsz1 := gr1.size
                    change (W8.alloc (.cells #[] 23)).heap.size ≤ _ at hsz1
                    simp at hsz1
                    have hb10 := Lib.hid ((((Below.refl W8.heap.size W8).alloc (Nat.le_refl _) (.cells #[] 23)).drew.grown gr1 (by show W8.heap.size ≤ (W8.alloc _).heap.size; simp) (fun x hx => by simp [Value.ownBlock] at hx; omega)).grown gr2 (by omega) (fun x hx => (h1.lt x hx).1))
                    clear h1 h2 gr1 gr2 hsz1 HA1 HA2 HE HO1 HO2 HL1 HLL2 HL2 HC2 hAs
                    go_wp2_with fail
                    go_meet
                    exact ⟨O10.out, hb10.out⟩
                case rest =>
                  obtain ⟨O9', hb9⟩ := hcut
                  have P9 := PP8.out.below hb9
                  have B9 := BB8.out.trans (Below.mono hb9 hzz)
                  have O9 := O9'.base hzz
                  clear O9' hb9 PP8 OO8 BB8 J0 J1 HNE HL2 HC2 HL1 HLL2 HO1 HO2 HA1 HA2 HE hAs
                  generalize L.take a ++ L.drop (a + 1) = L2 at O9 HNEW HLEN
                  obtain ⟨a9, c9, rfl, _, _, _⟩ := O9.form
                  have OO9 := Lib.hid O9
                  have hz9 := B9.size
                  obtain ⟨p0, p1, pl⟩ := P9
                  clear O9
                  go_wp2_with fail
                  refine (HPAT.out _ _ (by simp)).mono ?_
                  rintro e w10 ⟨rfl, hb10⟩
                  have B10 := (B9.alloc hz9 (.cells #[.int .i64 (o : Int), .string tx] 32)).trans (Below.mono hb10 (by simp; omega))
                  have O10 := Lib.hid ((OO9.out.below ((Below.refl _ _).alloc (Nat.le_refl _) (.cells #[.int .i64 (o : Int), .string tx] 32))).below hb10)
                  clear p0 p1 pl hb10 B9 OO9 hz9
                  go_wp2_with fail
                  refine (HNMS.out _).mono ?_
                  rintro e w11 ⟨v11, rfl, O11, hb11⟩
                  obtain ⟨a11, c11, rfl, _⟩ := own_texts O11
                  have B11 := Lib.hid (B10.trans (Below.mono hb11 B10.size))
                  have O12 := Lib.hid (O10.out.below hb11)
                  rw [HLEN.out]
                  clear O11 hb11 B10 O10
                  go_wp2_with fail
                  exact ⟨HNEW.out _ _ B11.out O12.out, by simp [intOf]; omega⟩
    · by_cases h1 : k < len
      · have h2 : k = 40 := by omega
        subst h2
        have hl1 : (40 : Int) < len := by omega
        go_wp2_with fail
        go_ret
        exact ⟨rfl, BE.out⟩
      · have h3 : decide (k < len) = false := decide_eq_false h1
        go_wp2_with fail
        go_ret
        exact ⟨rfl, BE.out⟩
end Go.Proofs.Ytdecjmiahjlpjaa
