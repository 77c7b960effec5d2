/-
  The patch of a slot: entry.Put and ref.Put, walked. (gen/eput.py)
-/
import Derived.Test.YtdecjmiahjlpjaaSlot
import Derived.Test.YtdecjmiahjlpjaaRText
namespace Go.Proofs.Ytdecjmiahjlpjaa
open Go.RowKit

def putV (at_ n : Int) (s : ByteArray) : Value := if 0 ≤ at_ ∧ at_ < 4 ∧ entOk n s = true then .agg #[.int .i64 (at_ * 16), .string (slotS n s)] else .agg #[.int .i64 0, .string ⟨#[]⟩]
def putE (at_ n : Int) (s : ByteArray) : Int := if at_ < 0 ∨ 4 ≤ at_ then 1 else if entOk n s = true then 0 else 70

theorem entOk_facts {n : Int} {s : ByteArray} (h : entOk n s = true) : 0 ≤ n ∧ n < 65536 ∧ s.size ≤ 13 := by
  unfold entOk at h
  split at h
  · rw [isEmpty_size] at h
    have := of_decide_eq_true h
    omega
  · simp only [Bool.and_eq_true, decide_eq_true_eq, nameB] at h
    omega

set_option maxHeartbeats 1000000 in
set_option maxRecDepth 100000 in
theorem eput_any (at_ n : Int) (s : ByteArray) (w : World) :
    Calls Try.prog 11 #[.int .i64 at_, .agg #[.int .i64 n, .string s]] w fun e w' => e = .returned (.tuple #[putV at_ n s, .int .i64 (putE at_ n s)]) ∧ Below w.heap.size w w' := by
  by_cases h0 : at_ < 0
  · have hr : putV at_ n s = .agg #[.int .i64 0, .string ⟨#[]⟩] ∧ putE at_ n s = 1 := ⟨by rw [putV, if_neg (fun h => absurd h.1 (by omega))], by rw [putE, if_pos (Or.inl h0)]⟩
    rw [hr.1, hr.2]
    clear hr
    go_enter Try.func11, Try.ntmps11
    go_wp2_with fail
    refine bodyPost_ret (v := .tuple #[.agg #[.int .i64 0, .string ⟨#[]⟩], .int .i64 1]) (by simp [results, Try.results11, go_sem]) rfl ⟨rfl, by (repeat' (first | exact Below.refl _ _ | assumption | refine Below.setCell ?_ ?_ _ | refine Below.drew ?_ | refine below_drewN ?_ _ | refine Below.alloc ?_ ?_ _ | refine below_of_grown ?_ (by assumption) ?_ | refine Below.trans ?_ (Below.mono (by assumption) ?_) | omega | (simp; done) | (simp; omega)))⟩
  · have g0 : decide (at_ < 0) = false := decide_eq_false h0
    by_cases h1 : 4 ≤ at_
    · have hr : putV at_ n s = .agg #[.int .i64 0, .string ⟨#[]⟩] ∧ putE at_ n s = 1 := ⟨by rw [putV, if_neg (fun h => absurd h.2.1 (by omega))], by rw [putE, if_pos (Or.inr h1)]⟩
      rw [hr.1, hr.2]
      clear hr
      go_enter Try.func11, Try.ntmps11
      go_wp2_with fail
      refine bodyPost_ret (v := .tuple #[.agg #[.int .i64 0, .string ⟨#[]⟩], .int .i64 1]) (by simp [results, Try.results11, go_sem]) rfl ⟨rfl, by (repeat' (first | exact Below.refl _ _ | assumption | refine Below.setCell ?_ ?_ _ | refine Below.drew ?_ | refine below_drewN ?_ _ | refine Below.alloc ?_ ?_ _ | refine below_of_grown ?_ (by assumption) ?_ | refine Below.trans ?_ (Below.mono (by assumption) ?_) | omega | (simp; done) | (simp; omega)))⟩
    · have h2 : at_ < 4 := by omega
      have g1 : decide (4 ≤ at_) = false := decide_eq_false h1
      have h3 : 0 ≤ at_ := by omega
      have hmay := Lib.hid (fun W => emay_any n s W)
      cases hem : entOk n s with
      | false =>
        have hr : putV at_ n s = .agg #[.int .i64 0, .string ⟨#[]⟩] ∧ putE at_ n s = 70 := by simp [putV, putE, h0, h1, hem]
        rw [hr.1, hr.2]
        clear hr
        go_enter Try.func11, Try.ntmps11
        go_wp2_with fail
        refine (hmay.out _).mono ?_
        rintro e w1 ⟨rfl, hb1⟩
        have hz1 := hb1.size
        simp at hz1
        have q0 : w1.cell? ⟨w.heap.size + 1, 0, none⟩ = some (.int .i64 0) := by rw [hb1.cell (by simp <;> omega)]; simp [go_sem]
        have q1 : w1.cell? ⟨w.heap.size + 1, 1, none⟩ = some (.string ⟨#[]⟩) := by rw [hb1.cell (by simp <;> omega)]; simp [go_sem]
        have uf : ∀ o, w1.frozen? ⟨w.heap.size + 1, o, none⟩ = false := fun o => by rw [hb1.frozen (by simp <;> omega)]; simp [go_sem]
        have hlt : w.heap.size + 1 < w1.heap.size := by omega
        rw [hem]
        go_wp2_with fail
        refine bodyPost_ret (v := .tuple #[.agg #[.int .i64 0, .string ⟨#[]⟩], .int .i64 70]) (by simp [results, Try.results11, go_sem, q0, q1]) rfl ⟨rfl, by (repeat' (first | exact Below.refl _ _ | assumption | refine Below.setCell ?_ ?_ _ | refine Below.drew ?_ | refine below_drewN ?_ _ | refine Below.alloc ?_ ?_ _ | refine below_of_grown ?_ (by assumption) ?_ | refine Below.trans ?_ (Below.mono (by assumption) ?_) | omega | (simp; done) | (simp; omega)))⟩
      | true =>
        have hr : putV at_ n s = .agg #[.int .i64 (at_ * 16), .string (slotS n s)] ∧ putE at_ n s = 0 := by simp [putV, putE, h0, h1, hem]
        rw [hr.1, hr.2]
        clear hr
        obtain ⟨k0, k1, k2⟩ := entOk_facts hem
        have hslot := Lib.hid (fun W => slot_any n s W k0 k1 k2)
        go_enter Try.func11, Try.ntmps11
        go_wp2_with fail
        refine (hmay.out _).mono ?_
        rintro e w1 ⟨rfl, hb1⟩
        have hz1 := hb1.size
        simp at hz1
        have p0 : w1.cell? ⟨w.heap.size, 0, none⟩ = some (.int .i64 n) := by rw [hb1.cell (by simp <;> omega)]; simp [go_sem]
        have p1 : w1.cell? ⟨w.heap.size, 1, none⟩ = some (.string s) := by rw [hb1.cell (by simp <;> omega)]; simp [go_sem]
        have q0 : w1.cell? ⟨w.heap.size + 1, 0, none⟩ = some (.int .i64 0) := by rw [hb1.cell (by simp <;> omega)]; simp [go_sem]
        have q1 : w1.cell? ⟨w.heap.size + 1, 1, none⟩ = some (.string ⟨#[]⟩) := by rw [hb1.cell (by simp <;> omega)]; simp [go_sem]
        have uf : ∀ o, w1.frozen? ⟨w.heap.size + 1, o, none⟩ = false := fun o => by rw [hb1.frozen (by simp <;> omega)]; simp [go_sem]
        have hlt : w.heap.size + 1 < w1.heap.size := by omega
        have hb1' : Below w.heap.size w w1 := by (repeat' (first | exact Below.refl _ _ | assumption | refine Below.setCell ?_ ?_ _ | refine Below.drew ?_ | refine below_drewN ?_ _ | refine Below.alloc ?_ ?_ _ | refine below_of_grown ?_ (by assumption) ?_ | refine Below.trans ?_ (Below.mono (by assumption) ?_) | omega | (simp; done) | (simp; omega)))
        rw [hem]
        clear hb1
        go_wp2_with fail
        refine (hslot.out _).mono ?_
        rintro e w2 ⟨rfl, hb2⟩
        have hz2 := hb2.size
        have r0 : w2.cell? ⟨w.heap.size + 1, 0, none⟩ = some (.int .i64 0) := by rw [hb2.cell (by simp <;> omega)]; exact q0
        have r1 : w2.cell? ⟨w.heap.size + 1, 1, none⟩ = some (.string ⟨#[]⟩) := by rw [hb2.cell (by simp <;> omega)]; exact q1
        have uf2 : ∀ o, w2.frozen? ⟨w.heap.size + 1, o, none⟩ = false := fun o => by rw [hb2.frozen (by simp <;> omega)]; exact uf o
        have hlt2 : w.heap.size + 1 < w2.heap.size := by omega
        have hb2' : Below w.heap.size w w2 := by (repeat' (first | exact Below.refl _ _ | assumption | refine Below.setCell ?_ ?_ _ | refine Below.drew ?_ | refine below_drewN ?_ _ | refine Below.alloc ?_ ?_ _ | refine below_of_grown ?_ (by assumption) ?_ | refine Below.trans ?_ (Below.mono (by assumption) ?_) | omega | (simp; done) | (simp; omega)))
        clear hb2 q0 q1 uf p0 p1
        go_wp2_with fail
        refine bodyPost_ret (v := .tuple #[.agg #[.int .i64 (at_ * 16), .string (slotS n s)], .int .i64 0]) (by simp [results, Try.results11, go_sem, r0, r1]) rfl ⟨rfl, by (repeat' (first | exact Below.refl _ _ | assumption | refine Below.setCell ?_ ?_ _ | refine Below.drew ?_ | refine below_drewN ?_ _ | refine Below.alloc ?_ ?_ _ | refine below_of_grown ?_ (by assumption) ?_ | refine Below.trans ?_ (Below.mono (by assumption) ?_) | omega | (simp; done) | (simp; omega)))⟩


set_option maxHeartbeats 1000000 in
set_option maxRecDepth 100000 in
theorem rput_any (at_ n : Int) (s : ByteArray) (w : World) :
    Calls Try.prog 24 #[.int .i64 at_, .agg #[.int .i64 n, .string s]] w fun e w' => e = .returned (.tuple #[putV at_ n s, .int .i64 (putE at_ n s)]) ∧ Below w.heap.size w w' := by
  by_cases h0 : at_ < 0
  · have hr : putV at_ n s = .agg #[.int .i64 0, .string ⟨#[]⟩] ∧ putE at_ n s = 1 := ⟨by rw [putV, if_neg (fun h => absurd h.1 (by omega))], by rw [putE, if_pos (Or.inl h0)]⟩
    rw [hr.1, hr.2]
    clear hr
    go_enter Try.func24, Try.ntmps24
    go_wp2_with fail
    refine bodyPost_ret (v := .tuple #[.agg #[.int .i64 0, .string ⟨#[]⟩], .int .i64 1]) (by simp [results, Try.results24, go_sem]) rfl ⟨rfl, by (repeat' (first | exact Below.refl _ _ | assumption | refine Below.setCell ?_ ?_ _ | refine Below.drew ?_ | refine below_drewN ?_ _ | refine Below.alloc ?_ ?_ _ | refine below_of_grown ?_ (by assumption) ?_ | refine Below.trans ?_ (Below.mono (by assumption) ?_) | omega | (simp; done) | (simp; omega)))⟩
  · have g0 : decide (at_ < 0) = false := decide_eq_false h0
    by_cases h1 : 4 ≤ at_
    · have hr : putV at_ n s = .agg #[.int .i64 0, .string ⟨#[]⟩] ∧ putE at_ n s = 1 := ⟨by rw [putV, if_neg (fun h => absurd h.2.1 (by omega))], by rw [putE, if_pos (Or.inr h1)]⟩
      rw [hr.1, hr.2]
      clear hr
      go_enter Try.func24, Try.ntmps24
      go_wp2_with fail
      refine bodyPost_ret (v := .tuple #[.agg #[.int .i64 0, .string ⟨#[]⟩], .int .i64 1]) (by simp [results, Try.results24, go_sem]) rfl ⟨rfl, by (repeat' (first | exact Below.refl _ _ | assumption | refine Below.setCell ?_ ?_ _ | refine Below.drew ?_ | refine below_drewN ?_ _ | refine Below.alloc ?_ ?_ _ | refine below_of_grown ?_ (by assumption) ?_ | refine Below.trans ?_ (Below.mono (by assumption) ?_) | omega | (simp; done) | (simp; omega)))⟩
    · have h2 : at_ < 4 := by omega
      have g1 : decide (4 ≤ at_) = false := decide_eq_false h1
      have h3 : 0 ≤ at_ := by omega
      have hmay := Lib.hid (fun W => remay_any n s W)
      cases hem : entOk n s with
      | false =>
        have hr : putV at_ n s = .agg #[.int .i64 0, .string ⟨#[]⟩] ∧ putE at_ n s = 70 := by simp [putV, putE, h0, h1, hem]
        rw [hr.1, hr.2]
        clear hr
        go_enter Try.func24, Try.ntmps24
        go_wp2_with fail
        refine (hmay.out _).mono ?_
        rintro e w1 ⟨rfl, hb1⟩
        have hz1 := hb1.size
        simp at hz1
        have q0 : w1.cell? ⟨w.heap.size + 1, 0, none⟩ = some (.int .i64 0) := by rw [hb1.cell (by simp <;> omega)]; simp [go_sem]
        have q1 : w1.cell? ⟨w.heap.size + 1, 1, none⟩ = some (.string ⟨#[]⟩) := by rw [hb1.cell (by simp <;> omega)]; simp [go_sem]
        have uf : ∀ o, w1.frozen? ⟨w.heap.size + 1, o, none⟩ = false := fun o => by rw [hb1.frozen (by simp <;> omega)]; simp [go_sem]
        have hlt : w.heap.size + 1 < w1.heap.size := by omega
        rw [hem]
        go_wp2_with fail
        refine bodyPost_ret (v := .tuple #[.agg #[.int .i64 0, .string ⟨#[]⟩], .int .i64 70]) (by simp [results, Try.results24, go_sem, q0, q1]) rfl ⟨rfl, by (repeat' (first | exact Below.refl _ _ | assumption | refine Below.setCell ?_ ?_ _ | refine Below.drew ?_ | refine below_drewN ?_ _ | refine Below.alloc ?_ ?_ _ | refine below_of_grown ?_ (by assumption) ?_ | refine Below.trans ?_ (Below.mono (by assumption) ?_) | omega | (simp; done) | (simp; omega)))⟩
      | true =>
        have hr : putV at_ n s = .agg #[.int .i64 (at_ * 16), .string (slotS n s)] ∧ putE at_ n s = 0 := by simp [putV, putE, h0, h1, hem]
        rw [hr.1, hr.2]
        clear hr
        obtain ⟨k0, k1, k2⟩ := entOk_facts hem
        have hslot := Lib.hid (fun W => rtext_any n s W k2)
        go_enter Try.func24, Try.ntmps24
        go_wp2_with fail
        refine (hmay.out _).mono ?_
        rintro e w1 ⟨rfl, hb1⟩
        have hz1 := hb1.size
        simp at hz1
        have p0 : w1.cell? ⟨w.heap.size, 0, none⟩ = some (.int .i64 n) := by rw [hb1.cell (by simp <;> omega)]; simp [go_sem]
        have p1 : w1.cell? ⟨w.heap.size, 1, none⟩ = some (.string s) := by rw [hb1.cell (by simp <;> omega)]; simp [go_sem]
        have q0 : w1.cell? ⟨w.heap.size + 1, 0, none⟩ = some (.int .i64 0) := by rw [hb1.cell (by simp <;> omega)]; simp [go_sem]
        have q1 : w1.cell? ⟨w.heap.size + 1, 1, none⟩ = some (.string ⟨#[]⟩) := by rw [hb1.cell (by simp <;> omega)]; simp [go_sem]
        have uf : ∀ o, w1.frozen? ⟨w.heap.size + 1, o, none⟩ = false := fun o => by rw [hb1.frozen (by simp <;> omega)]; simp [go_sem]
        have hlt : w.heap.size + 1 < w1.heap.size := by omega
        have hb1' : Below w.heap.size w w1 := by (repeat' (first | exact Below.refl _ _ | assumption | refine Below.setCell ?_ ?_ _ | refine Below.drew ?_ | refine below_drewN ?_ _ | refine Below.alloc ?_ ?_ _ | refine below_of_grown ?_ (by assumption) ?_ | refine Below.trans ?_ (Below.mono (by assumption) ?_) | omega | (simp; done) | (simp; omega)))
        rw [hem]
        clear hb1
        go_wp2_with fail
        refine (hslot.out _).mono ?_
        rintro e w2 ⟨rfl, hb2⟩
        have hz2 := hb2.size
        have r0 : w2.cell? ⟨w.heap.size + 1, 0, none⟩ = some (.int .i64 0) := by rw [hb2.cell (by simp <;> omega)]; exact q0
        have r1 : w2.cell? ⟨w.heap.size + 1, 1, none⟩ = some (.string ⟨#[]⟩) := by rw [hb2.cell (by simp <;> omega)]; exact q1
        have uf2 : ∀ o, w2.frozen? ⟨w.heap.size + 1, o, none⟩ = false := fun o => by rw [hb2.frozen (by simp <;> omega)]; exact uf o
        have hlt2 : w.heap.size + 1 < w2.heap.size := by omega
        have hb2' : Below w.heap.size w w2 := by (repeat' (first | exact Below.refl _ _ | assumption | refine Below.setCell ?_ ?_ _ | refine Below.drew ?_ | refine below_drewN ?_ _ | refine Below.alloc ?_ ?_ _ | refine below_of_grown ?_ (by assumption) ?_ | refine Below.trans ?_ (Below.mono (by assumption) ?_) | omega | (simp; done) | (simp; omega)))
        clear hb2 q0 q1 uf p0 p1
        go_wp2_with fail
        refine bodyPost_ret (v := .tuple #[.agg #[.int .i64 (at_ * 16), .string (slotS n s)], .int .i64 0]) (by simp [results, Try.results24, go_sem, r0, r1]) rfl ⟨rfl, by (repeat' (first | exact Below.refl _ _ | assumption | refine Below.setCell ?_ ?_ _ | refine Below.drew ?_ | refine below_drewN ?_ _ | refine Below.alloc ?_ ?_ _ | refine below_of_grown ?_ (by assumption) ?_ | refine Below.trans ?_ (Below.mono (by assumption) ?_) | omega | (simp; done) | (simp; omega)))⟩

end Go.Proofs.Ytdecjmiahjlpjaa
