/-
  Fences: Raise and Passes (the program's and the document's).
-/
import Derived.Test.YthnljmejkcmjhaaEpochs
import Derived.Test.YthnljmejkcmjhaaREpochs
namespace Go.Proofs.Ythnljmejkcmjhaa
open Go.RowKit

/-- A node's epoch in a fence. -/
def ep (s : ByteArray) (node : Int) : Int := if node = 0 then num4 s 4 else num4 s 8
def nodeB (node : Int) : Bool := decide (node = 0 ∨ node = 1)
def raiseOk (s : ByteArray) (node n : Int) : Bool := nodeB node && (epochB n && decide (ep s node ≤ n))
def raised (s : ByteArray) (node n : Int) : ByteArray := if node = 0 then wallS n (num4 s 8) else wallS (num4 s 4) n
def raiseS (s : ByteArray) (node n : Int) : ByteArray := if (isFence s && raiseOk s node n) = true then raised s node n else ⟨#[]⟩
def raiseE (s : ByteArray) (node n : Int) : Int := if isFence s = true then (if raiseOk s node n = true then 0 else 1) else 40
def passB (s : ByteArray) (node n : Int) : Bool := isFence s && (nodeB node && decide (ep s node ≤ n))
def passE (s : ByteArray) (node : Int) : Int := if isFence s = true then (if nodeB node = true then 0 else 1) else 40

set_option maxHeartbeats 1000000 in
set_option maxRecDepth 100000 in
theorem raise_any (s : ByteArray) (node n : Int) (w : World) :
    Calls Try.prog 17 #[.string s, .int .i64 node, .int .i64 n] w fun e w' => e = .returned (.tuple #[.string (raiseS s node n), .int .i64 (raiseE s node n)]) ∧ Below w.heap.size w w' := by
  have hE := Lib.hid (fun W => epochs_any s W)
  by_cases hF : isFence s = true
  · have e1 : ∀ o, epX s o = num4 s o := fun o => by simp [epX, hF]
    have e2 : epE s = 0 := by simp [epE, hF]
    simp only [e1, e2] at hE
    have ht1 := epochB_num4 s 4
    have ht2 := epochB_num4 s 8
    clear e1 e2
    by_cases hN : node = 0 ∨ node = 1
    · by_cases hB : epochB n = true
      · have hM := Lib.hid (fun W => may_any n W)
        rw [hB] at hM
        by_cases hC : ep s node ≤ n
        · have f1 : raiseS s node n = raised s node n := by simp [raiseS, raiseOk, hF, nodeB, hN, hB, hC]
          have f2 : raiseE s node n = 0 := by simp [raiseE, raiseOk, hF, nodeB, hN, hB, hC]
          rw [f1, f2]
          clear f1 f2 hF
          rcases hN with rfl | rfl
          · simp only [ep, if_pos] at hC
            simp only [raised, if_pos]
            generalize num4 s 4 = a at *
            generalize num4 s 8 = b at *
            go_enter Try.func17, Try.ntmps17
            go_wp2_with fail
            refine (hE.out _).mono ?_
            rintro e w1 ⟨rfl, hb1⟩
            have hz1 := hb1.size
            go_wp2_with fail
            refine (hM.out _).mono ?_
            rintro e w2 ⟨rfl, rfl⟩
            go_wp2_with fail
            refine (wall_any _ _ _ (by assumption) (by assumption)).mono ?_
            rintro e w3 ⟨rfl, hb3⟩
            go_wp2_with fail
            go_ret2
            exact ⟨rfl, by (repeat' (first | exact Below.refl _ _ | assumption | refine Below.setCell ?_ ?_ _ | refine Below.drew ?_ | refine below_drewN ?_ _ | refine Below.alloc ?_ ?_ _ | refine below_of_grown ?_ (by assumption) ?_ | refine Below.trans ?_ (Below.mono (by assumption) ?_) | omega | (simp; done) | (simp; omega)))⟩
          · have hC' : num4 s 8 ≤ n := by simpa [ep] using hC
            have hR : raised s 1 n = wallS (num4 s 4) n := by simp [raised]
            rw [hR]
            clear hC hR
            generalize num4 s 4 = a at *
            generalize num4 s 8 = b at *
            go_enter Try.func17, Try.ntmps17
            go_wp2_with fail
            refine (hE.out _).mono ?_
            rintro e w1 ⟨rfl, hb1⟩
            have hz1 := hb1.size
            go_wp2_with fail
            refine (hM.out _).mono ?_
            rintro e w2 ⟨rfl, rfl⟩
            go_wp2_with fail
            refine (wall_any _ _ _ (by assumption) (by assumption)).mono ?_
            rintro e w3 ⟨rfl, hb3⟩
            go_wp2_with fail
            go_ret2
            exact ⟨rfl, by (repeat' (first | exact Below.refl _ _ | assumption | refine Below.setCell ?_ ?_ _ | refine Below.drew ?_ | refine below_drewN ?_ _ | refine Below.alloc ?_ ?_ _ | refine below_of_grown ?_ (by assumption) ?_ | refine Below.trans ?_ (Below.mono (by assumption) ?_) | omega | (simp; done) | (simp; omega)))⟩
        · have f1 : raiseS s node n = ⟨#[]⟩ := by simp [raiseS, raiseOk, hC]
          have f2 : raiseE s node n = 1 := by simp [raiseE, raiseOk, hF, hC]
          rw [f1, f2]
          clear f1 f2 hF
          rcases hN with rfl | rfl
          · have hC' : n < num4 s 4 := by simp [ep] at hC; omega
            clear hC
            generalize num4 s 4 = a at *
            generalize num4 s 8 = b at *
            go_enter Try.func17, Try.ntmps17
            go_wp2_with fail
            refine (hE.out _).mono ?_
            rintro e w1 ⟨rfl, hb1⟩
            have hz1 := hb1.size
            go_wp2_with fail
            refine (hM.out _).mono ?_
            rintro e w2 ⟨rfl, rfl⟩
            go_wp2_with fail
            go_ret2
            exact ⟨rfl, by (repeat' (first | exact Below.refl _ _ | assumption | refine Below.setCell ?_ ?_ _ | refine Below.drew ?_ | refine below_drewN ?_ _ | refine Below.alloc ?_ ?_ _ | refine below_of_grown ?_ (by assumption) ?_ | refine Below.trans ?_ (Below.mono (by assumption) ?_) | omega | (simp; done) | (simp; omega)))⟩
          · have hC' : n < num4 s 8 := by simp [ep] at hC; omega
            clear hC
            generalize num4 s 4 = a at *
            generalize num4 s 8 = b at *
            go_enter Try.func17, Try.ntmps17
            go_wp2_with fail
            refine (hE.out _).mono ?_
            rintro e w1 ⟨rfl, hb1⟩
            have hz1 := hb1.size
            go_wp2_with fail
            refine (hM.out _).mono ?_
            rintro e w2 ⟨rfl, rfl⟩
            go_wp2_with fail
            go_ret2
            exact ⟨rfl, by (repeat' (first | exact Below.refl _ _ | assumption | refine Below.setCell ?_ ?_ _ | refine Below.drew ?_ | refine below_drewN ?_ _ | refine Below.alloc ?_ ?_ _ | refine below_of_grown ?_ (by assumption) ?_ | refine Below.trans ?_ (Below.mono (by assumption) ?_) | omega | (simp; done) | (simp; omega)))⟩
      · have hB' : epochB n = false := by simpa using hB
        have hM := Lib.hid (fun W => may_any n W)
        rw [hB'] at hM
        have f1 : raiseS s node n = ⟨#[]⟩ := by simp [raiseS, raiseOk, hB']
        have f2 : raiseE s node n = 1 := by simp [raiseE, raiseOk, hF, hB']
        rw [f1, f2]
        clear f1 f2 hF hB hB'
        have hN0 : 0 ≤ node := by omega
        have hN1 : node < 2 := by omega
        clear hN
        generalize num4 s 4 = a at *
        generalize num4 s 8 = b at *
        go_enter Try.func17, Try.ntmps17
        go_wp2_with fail
        refine (hE.out _).mono ?_
        rintro e w1 ⟨rfl, hb1⟩
        have hz1 := hb1.size
        go_wp2_with fail
        refine (hM.out _).mono ?_
        rintro e w2 ⟨rfl, rfl⟩
        go_wp2_with fail
        go_ret2
        exact ⟨rfl, by (repeat' (first | exact Below.refl _ _ | assumption | refine Below.setCell ?_ ?_ _ | refine Below.drew ?_ | refine below_drewN ?_ _ | refine Below.alloc ?_ ?_ _ | refine below_of_grown ?_ (by assumption) ?_ | refine Below.trans ?_ (Below.mono (by assumption) ?_) | omega | (simp; done) | (simp; omega)))⟩
    · have f1 : raiseS s node n = ⟨#[]⟩ := by simp [raiseS, raiseOk, nodeB, hN]
      have f2 : raiseE s node n = 1 := by simp [raiseE, raiseOk, hF, nodeB, hN]
      rw [f1, f2]
      clear f1 f2 hF
      generalize num4 s 4 = a at *
      generalize num4 s 8 = b at *
      by_cases hN0 : node < 0
      · clear hN
        go_enter Try.func17, Try.ntmps17
        go_wp2_with fail
        refine (hE.out _).mono ?_
        rintro e w1 ⟨rfl, hb1⟩
        have hz1 := hb1.size
        go_wp2_with fail
        go_ret2
        exact ⟨rfl, by (repeat' (first | exact Below.refl _ _ | assumption | refine Below.setCell ?_ ?_ _ | refine Below.drew ?_ | refine below_drewN ?_ _ | refine Below.alloc ?_ ?_ _ | refine below_of_grown ?_ (by assumption) ?_ | refine Below.trans ?_ (Below.mono (by assumption) ?_) | omega | (simp; done) | (simp; omega)))⟩
      · have hN1 : 2 ≤ node := by omega
        have hN2 : 0 ≤ node := by omega
        clear hN hN0
        go_enter Try.func17, Try.ntmps17
        go_wp2_with fail
        refine (hE.out _).mono ?_
        rintro e w1 ⟨rfl, hb1⟩
        have hz1 := hb1.size
        go_wp2_with fail
        go_ret2
        exact ⟨rfl, by (repeat' (first | exact Below.refl _ _ | assumption | refine Below.setCell ?_ ?_ _ | refine Below.drew ?_ | refine below_drewN ?_ _ | refine Below.alloc ?_ ?_ _ | refine below_of_grown ?_ (by assumption) ?_ | refine Below.trans ?_ (Below.mono (by assumption) ?_) | omega | (simp; done) | (simp; omega)))⟩
  · have e1 : ∀ o, epX s o = 0 := fun o => by simp [epX, hF]
    have e2 : epE s = 40 := by simp [epE, hF]
    simp only [e1, e2] at hE
    have f1 : raiseS s node n = ⟨#[]⟩ := by simp [raiseS, hF]
    have f2 : raiseE s node n = 40 := by simp [raiseE, hF]
    rw [f1, f2]
    clear e1 e2 f1 f2 hF
    go_enter Try.func17, Try.ntmps17
    go_wp2_with fail
    refine (hE.out _).mono ?_
    rintro e w1 ⟨rfl, hb1⟩
    have hz1 := hb1.size
    go_wp2_with fail
    go_ret2
    exact ⟨rfl, by (repeat' (first | exact Below.refl _ _ | assumption | refine Below.setCell ?_ ?_ _ | refine Below.drew ?_ | refine below_drewN ?_ _ | refine Below.alloc ?_ ?_ _ | refine below_of_grown ?_ (by assumption) ?_ | refine Below.trans ?_ (Below.mono (by assumption) ?_) | omega | (simp; done) | (simp; omega)))⟩

set_option maxHeartbeats 1000000 in
set_option maxRecDepth 100000 in
theorem passes_any (s : ByteArray) (node n : Int) (w : World) :
    Calls Try.prog 19 #[.string s, .int .i64 node, .int .i64 n] w fun e w' => e = .returned (.tuple #[.bool (passB s node n), .int .i64 (passE s node)]) ∧ Below w.heap.size w w' := by
  have hE := Lib.hid (fun W => epochs_any s W)
  by_cases hF : isFence s = true
  · have e1 : ∀ o, epX s o = num4 s o := fun o => by simp [epX, hF]
    have e2 : epE s = 0 := by simp [epE, hF]
    simp only [e1, e2] at hE
    clear e1 e2
    by_cases hN : node = 0 ∨ node = 1
    · have f1 : passB s node n = decide (ep s node ≤ n) := by simp [passB, hF, nodeB, hN]
      have f2 : passE s node = 0 := by simp [passE, hF, nodeB, hN]
      rw [f1, f2]
      clear f1 f2 hF
      rcases hN with rfl | rfl
      · have hR : ep s 0 = num4 s 4 := by simp [ep]
        rw [hR]
        clear hR
        generalize num4 s 4 = a at *
        generalize num4 s 8 = b at *
        go_enter Try.func19, Try.ntmps19
        go_wp2_with fail
        refine (hE.out _).mono ?_
        rintro e w1 ⟨rfl, hb1⟩
        have hz1 := hb1.size
        go_wp2_with fail
        go_ret2
        exact ⟨rfl, by (repeat' (first | exact Below.refl _ _ | assumption | refine Below.setCell ?_ ?_ _ | refine Below.drew ?_ | refine below_drewN ?_ _ | refine Below.alloc ?_ ?_ _ | refine below_of_grown ?_ (by assumption) ?_ | refine Below.trans ?_ (Below.mono (by assumption) ?_) | omega | (simp; done) | (simp; omega)))⟩
      · have hR : ep s 1 = num4 s 8 := by simp [ep]
        rw [hR]
        clear hR
        generalize num4 s 4 = a at *
        generalize num4 s 8 = b at *
        go_enter Try.func19, Try.ntmps19
        go_wp2_with fail
        refine (hE.out _).mono ?_
        rintro e w1 ⟨rfl, hb1⟩
        have hz1 := hb1.size
        go_wp2_with fail
        go_ret2
        exact ⟨rfl, by (repeat' (first | exact Below.refl _ _ | assumption | refine Below.setCell ?_ ?_ _ | refine Below.drew ?_ | refine below_drewN ?_ _ | refine Below.alloc ?_ ?_ _ | refine below_of_grown ?_ (by assumption) ?_ | refine Below.trans ?_ (Below.mono (by assumption) ?_) | omega | (simp; done) | (simp; omega)))⟩
    · have f1 : passB s node n = false := by simp [passB, nodeB, hN]
      have f2 : passE s node = 1 := by simp [passE, hF, nodeB, hN]
      rw [f1, f2]
      clear f1 f2 hF
      generalize num4 s 4 = a at *
      generalize num4 s 8 = b at *
      by_cases hN0 : node < 0
      · clear hN
        go_enter Try.func19, Try.ntmps19
        go_wp2_with fail
        refine (hE.out _).mono ?_
        rintro e w1 ⟨rfl, hb1⟩
        have hz1 := hb1.size
        go_wp2_with fail
        go_ret2
        exact ⟨rfl, by (repeat' (first | exact Below.refl _ _ | assumption | refine Below.setCell ?_ ?_ _ | refine Below.drew ?_ | refine below_drewN ?_ _ | refine Below.alloc ?_ ?_ _ | refine below_of_grown ?_ (by assumption) ?_ | refine Below.trans ?_ (Below.mono (by assumption) ?_) | omega | (simp; done) | (simp; omega)))⟩
      · have hN1 : 2 ≤ node := by omega
        have hN2 : 0 ≤ node := by omega
        clear hN hN0
        go_enter Try.func19, Try.ntmps19
        go_wp2_with fail
        refine (hE.out _).mono ?_
        rintro e w1 ⟨rfl, hb1⟩
        have hz1 := hb1.size
        go_wp2_with fail
        go_ret2
        exact ⟨rfl, by (repeat' (first | exact Below.refl _ _ | assumption | refine Below.setCell ?_ ?_ _ | refine Below.drew ?_ | refine below_drewN ?_ _ | refine Below.alloc ?_ ?_ _ | refine below_of_grown ?_ (by assumption) ?_ | refine Below.trans ?_ (Below.mono (by assumption) ?_) | omega | (simp; done) | (simp; omega)))⟩
  · have e1 : ∀ o, epX s o = 0 := fun o => by simp [epX, hF]
    have e2 : epE s = 40 := by simp [epE, hF]
    simp only [e1, e2] at hE
    have f1 : passB s node n = false := by simp [passB, hF]
    have f2 : passE s node = 40 := by simp [passE, hF]
    rw [f1, f2]
    clear e1 e2 f1 f2 hF
    go_enter Try.func19, Try.ntmps19
    go_wp2_with fail
    refine (hE.out _).mono ?_
    rintro e w1 ⟨rfl, hb1⟩
    have hz1 := hb1.size
    go_wp2_with fail
    go_ret2
    exact ⟨rfl, by (repeat' (first | exact Below.refl _ _ | assumption | refine Below.setCell ?_ ?_ _ | refine Below.drew ?_ | refine below_drewN ?_ _ | refine Below.alloc ?_ ?_ _ | refine below_of_grown ?_ (by assumption) ?_ | refine Below.trans ?_ (Below.mono (by assumption) ?_) | omega | (simp; done) | (simp; omega)))⟩

set_option maxHeartbeats 1000000 in
set_option maxRecDepth 100000 in
theorem rraise_any (s : ByteArray) (node n : Int) (w : World) :
    Calls Try.prog 18 #[.string s, .int .i64 node, .int .i64 n] w fun e w' => e = .returned (.tuple #[.string (raiseS s node n), .int .i64 (raiseE s node n)]) ∧ Below w.heap.size w w' := by
  have hE := Lib.hid (fun W => repochs_any s W)
  by_cases hF : isFence s = true
  · have e1 : ∀ o, epX s o = num4 s o := fun o => by simp [epX, hF]
    have e2 : epE s = 0 := by simp [epE, hF]
    simp only [e1, e2] at hE
    have ht1 := epochB_num4 s 4
    have ht2 := epochB_num4 s 8
    clear e1 e2
    by_cases hN : node = 0 ∨ node = 1
    · by_cases hB : epochB n = true
      · have hM := Lib.hid (fun W => rmay_any n W)
        rw [hB] at hM
        by_cases hC : ep s node ≤ n
        · have f1 : raiseS s node n = raised s node n := by simp [raiseS, raiseOk, hF, nodeB, hN, hB, hC]
          have f2 : raiseE s node n = 0 := by simp [raiseE, raiseOk, hF, nodeB, hN, hB, hC]
          rw [f1, f2]
          clear f1 f2 hF
          rcases hN with rfl | rfl
          · simp only [ep, if_pos] at hC
            simp only [raised, if_pos]
            generalize num4 s 4 = a at *
            generalize num4 s 8 = b at *
            go_enter Try.func18, Try.ntmps18
            go_wp2_with fail
            refine (hE.out _).mono ?_
            rintro e w1 ⟨rfl, hb1⟩
            have hz1 := hb1.size
            go_wp2_with fail
            refine (hM.out _).mono ?_
            rintro e w2 ⟨rfl, rfl⟩
            go_wp2_with fail
            refine (rwall_any _ _ _).mono ?_
            rintro e w3 ⟨rfl, hb3⟩
            go_wp2_with fail
            go_ret2
            exact ⟨rfl, by (repeat' (first | exact Below.refl _ _ | assumption | refine Below.setCell ?_ ?_ _ | refine Below.drew ?_ | refine below_drewN ?_ _ | refine Below.alloc ?_ ?_ _ | refine below_of_grown ?_ (by assumption) ?_ | refine Below.trans ?_ (Below.mono (by assumption) ?_) | omega | (simp; done) | (simp; omega)))⟩
          · have hC' : num4 s 8 ≤ n := by simpa [ep] using hC
            have hR : raised s 1 n = wallS (num4 s 4) n := by simp [raised]
            rw [hR]
            clear hC hR
            generalize num4 s 4 = a at *
            generalize num4 s 8 = b at *
            go_enter Try.func18, Try.ntmps18
            go_wp2_with fail
            refine (hE.out _).mono ?_
            rintro e w1 ⟨rfl, hb1⟩
            have hz1 := hb1.size
            go_wp2_with fail
            refine (hM.out _).mono ?_
            rintro e w2 ⟨rfl, rfl⟩
            go_wp2_with fail
            refine (rwall_any _ _ _).mono ?_
            rintro e w3 ⟨rfl, hb3⟩
            go_wp2_with fail
            go_ret2
            exact ⟨rfl, by (repeat' (first | exact Below.refl _ _ | assumption | refine Below.setCell ?_ ?_ _ | refine Below.drew ?_ | refine below_drewN ?_ _ | refine Below.alloc ?_ ?_ _ | refine below_of_grown ?_ (by assumption) ?_ | refine Below.trans ?_ (Below.mono (by assumption) ?_) | omega | (simp; done) | (simp; omega)))⟩
        · have f1 : raiseS s node n = ⟨#[]⟩ := by simp [raiseS, raiseOk, hC]
          have f2 : raiseE s node n = 1 := by simp [raiseE, raiseOk, hF, hC]
          rw [f1, f2]
          clear f1 f2 hF
          rcases hN with rfl | rfl
          · have hC' : n < num4 s 4 := by simp [ep] at hC; omega
            clear hC
            generalize num4 s 4 = a at *
            generalize num4 s 8 = b at *
            go_enter Try.func18, Try.ntmps18
            go_wp2_with fail
            refine (hE.out _).mono ?_
            rintro e w1 ⟨rfl, hb1⟩
            have hz1 := hb1.size
            go_wp2_with fail
            refine (hM.out _).mono ?_
            rintro e w2 ⟨rfl, rfl⟩
            go_wp2_with fail
            go_ret2
            exact ⟨rfl, by (repeat' (first | exact Below.refl _ _ | assumption | refine Below.setCell ?_ ?_ _ | refine Below.drew ?_ | refine below_drewN ?_ _ | refine Below.alloc ?_ ?_ _ | refine below_of_grown ?_ (by assumption) ?_ | refine Below.trans ?_ (Below.mono (by assumption) ?_) | omega | (simp; done) | (simp; omega)))⟩
          · have hC' : n < num4 s 8 := by simp [ep] at hC; omega
            clear hC
            generalize num4 s 4 = a at *
            generalize num4 s 8 = b at *
            go_enter Try.func18, Try.ntmps18
            go_wp2_with fail
            refine (hE.out _).mono ?_
            rintro e w1 ⟨rfl, hb1⟩
            have hz1 := hb1.size
            go_wp2_with fail
            refine (hM.out _).mono ?_
            rintro e w2 ⟨rfl, rfl⟩
            go_wp2_with fail
            go_ret2
            exact ⟨rfl, by (repeat' (first | exact Below.refl _ _ | assumption | refine Below.setCell ?_ ?_ _ | refine Below.drew ?_ | refine below_drewN ?_ _ | refine Below.alloc ?_ ?_ _ | refine below_of_grown ?_ (by assumption) ?_ | refine Below.trans ?_ (Below.mono (by assumption) ?_) | omega | (simp; done) | (simp; omega)))⟩
      · have hB' : epochB n = false := by simpa using hB
        have hM := Lib.hid (fun W => rmay_any n W)
        rw [hB'] at hM
        have f1 : raiseS s node n = ⟨#[]⟩ := by simp [raiseS, raiseOk, hB']
        have f2 : raiseE s node n = 1 := by simp [raiseE, raiseOk, hF, hB']
        rw [f1, f2]
        clear f1 f2 hF hB hB'
        have hN0 : 0 ≤ node := by omega
        have hN1 : node < 2 := by omega
        clear hN
        generalize num4 s 4 = a at *
        generalize num4 s 8 = b at *
        go_enter Try.func18, Try.ntmps18
        go_wp2_with fail
        refine (hE.out _).mono ?_
        rintro e w1 ⟨rfl, hb1⟩
        have hz1 := hb1.size
        go_wp2_with fail
        refine (hM.out _).mono ?_
        rintro e w2 ⟨rfl, rfl⟩
        go_wp2_with fail
        go_ret2
        exact ⟨rfl, by (repeat' (first | exact Below.refl _ _ | assumption | refine Below.setCell ?_ ?_ _ | refine Below.drew ?_ | refine below_drewN ?_ _ | refine Below.alloc ?_ ?_ _ | refine below_of_grown ?_ (by assumption) ?_ | refine Below.trans ?_ (Below.mono (by assumption) ?_) | omega | (simp; done) | (simp; omega)))⟩
    · have f1 : raiseS s node n = ⟨#[]⟩ := by simp [raiseS, raiseOk, nodeB, hN]
      have f2 : raiseE s node n = 1 := by simp [raiseE, raiseOk, hF, nodeB, hN]
      rw [f1, f2]
      clear f1 f2 hF
      generalize num4 s 4 = a at *
      generalize num4 s 8 = b at *
      by_cases hN0 : node < 0
      · clear hN
        go_enter Try.func18, Try.ntmps18
        go_wp2_with fail
        refine (hE.out _).mono ?_
        rintro e w1 ⟨rfl, hb1⟩
        have hz1 := hb1.size
        go_wp2_with fail
        go_ret2
        exact ⟨rfl, by (repeat' (first | exact Below.refl _ _ | assumption | refine Below.setCell ?_ ?_ _ | refine Below.drew ?_ | refine below_drewN ?_ _ | refine Below.alloc ?_ ?_ _ | refine below_of_grown ?_ (by assumption) ?_ | refine Below.trans ?_ (Below.mono (by assumption) ?_) | omega | (simp; done) | (simp; omega)))⟩
      · have hN1 : 2 ≤ node := by omega
        have hN2 : 0 ≤ node := by omega
        clear hN hN0
        go_enter Try.func18, Try.ntmps18
        go_wp2_with fail
        refine (hE.out _).mono ?_
        rintro e w1 ⟨rfl, hb1⟩
        have hz1 := hb1.size
        go_wp2_with fail
        go_ret2
        exact ⟨rfl, by (repeat' (first | exact Below.refl _ _ | assumption | refine Below.setCell ?_ ?_ _ | refine Below.drew ?_ | refine below_drewN ?_ _ | refine Below.alloc ?_ ?_ _ | refine below_of_grown ?_ (by assumption) ?_ | refine Below.trans ?_ (Below.mono (by assumption) ?_) | omega | (simp; done) | (simp; omega)))⟩
  · have e1 : ∀ o, epX s o = 0 := fun o => by simp [epX, hF]
    have e2 : epE s = 40 := by simp [epE, hF]
    simp only [e1, e2] at hE
    have f1 : raiseS s node n = ⟨#[]⟩ := by simp [raiseS, hF]
    have f2 : raiseE s node n = 40 := by simp [raiseE, hF]
    rw [f1, f2]
    clear e1 e2 f1 f2 hF
    go_enter Try.func18, Try.ntmps18
    go_wp2_with fail
    refine (hE.out _).mono ?_
    rintro e w1 ⟨rfl, hb1⟩
    have hz1 := hb1.size
    go_wp2_with fail
    go_ret2
    exact ⟨rfl, by (repeat' (first | exact Below.refl _ _ | assumption | refine Below.setCell ?_ ?_ _ | refine Below.drew ?_ | refine below_drewN ?_ _ | refine Below.alloc ?_ ?_ _ | refine below_of_grown ?_ (by assumption) ?_ | refine Below.trans ?_ (Below.mono (by assumption) ?_) | omega | (simp; done) | (simp; omega)))⟩

set_option maxHeartbeats 1000000 in
set_option maxRecDepth 100000 in
theorem rpasses_any (s : ByteArray) (node n : Int) (w : World) :
    Calls Try.prog 20 #[.string s, .int .i64 node, .int .i64 n] w fun e w' => e = .returned (.tuple #[.bool (passB s node n), .int .i64 (passE s node)]) ∧ Below w.heap.size w w' := by
  have hE := Lib.hid (fun W => repochs_any s W)
  by_cases hF : isFence s = true
  · have e1 : ∀ o, epX s o = num4 s o := fun o => by simp [epX, hF]
    have e2 : epE s = 0 := by simp [epE, hF]
    simp only [e1, e2] at hE
    clear e1 e2
    by_cases hN : node = 0 ∨ node = 1
    · have f1 : passB s node n = decide (ep s node ≤ n) := by simp [passB, hF, nodeB, hN]
      have f2 : passE s node = 0 := by simp [passE, hF, nodeB, hN]
      rw [f1, f2]
      clear f1 f2 hF
      rcases hN with rfl | rfl
      · have hR : ep s 0 = num4 s 4 := by simp [ep]
        rw [hR]
        clear hR
        generalize num4 s 4 = a at *
        generalize num4 s 8 = b at *
        go_enter Try.func20, Try.ntmps20
        go_wp2_with fail
        refine (hE.out _).mono ?_
        rintro e w1 ⟨rfl, hb1⟩
        have hz1 := hb1.size
        go_wp2_with fail
        go_ret2
        exact ⟨rfl, by (repeat' (first | exact Below.refl _ _ | assumption | refine Below.setCell ?_ ?_ _ | refine Below.drew ?_ | refine below_drewN ?_ _ | refine Below.alloc ?_ ?_ _ | refine below_of_grown ?_ (by assumption) ?_ | refine Below.trans ?_ (Below.mono (by assumption) ?_) | omega | (simp; done) | (simp; omega)))⟩
      · have hR : ep s 1 = num4 s 8 := by simp [ep]
        rw [hR]
        clear hR
        generalize num4 s 4 = a at *
        generalize num4 s 8 = b at *
        go_enter Try.func20, Try.ntmps20
        go_wp2_with fail
        refine (hE.out _).mono ?_
        rintro e w1 ⟨rfl, hb1⟩
        have hz1 := hb1.size
        go_wp2_with fail
        go_ret2
        exact ⟨rfl, by (repeat' (first | exact Below.refl _ _ | assumption | refine Below.setCell ?_ ?_ _ | refine Below.drew ?_ | refine below_drewN ?_ _ | refine Below.alloc ?_ ?_ _ | refine below_of_grown ?_ (by assumption) ?_ | refine Below.trans ?_ (Below.mono (by assumption) ?_) | omega | (simp; done) | (simp; omega)))⟩
    · have f1 : passB s node n = false := by simp [passB, nodeB, hN]
      have f2 : passE s node = 1 := by simp [passE, hF, nodeB, hN]
      rw [f1, f2]
      clear f1 f2 hF
      generalize num4 s 4 = a at *
      generalize num4 s 8 = b at *
      by_cases hN0 : node < 0
      · clear hN
        go_enter Try.func20, Try.ntmps20
        go_wp2_with fail
        refine (hE.out _).mono ?_
        rintro e w1 ⟨rfl, hb1⟩
        have hz1 := hb1.size
        go_wp2_with fail
        go_ret2
        exact ⟨rfl, by (repeat' (first | exact Below.refl _ _ | assumption | refine Below.setCell ?_ ?_ _ | refine Below.drew ?_ | refine below_drewN ?_ _ | refine Below.alloc ?_ ?_ _ | refine below_of_grown ?_ (by assumption) ?_ | refine Below.trans ?_ (Below.mono (by assumption) ?_) | omega | (simp; done) | (simp; omega)))⟩
      · have hN1 : 2 ≤ node := by omega
        have hN2 : 0 ≤ node := by omega
        clear hN hN0
        go_enter Try.func20, Try.ntmps20
        go_wp2_with fail
        refine (hE.out _).mono ?_
        rintro e w1 ⟨rfl, hb1⟩
        have hz1 := hb1.size
        go_wp2_with fail
        go_ret2
        exact ⟨rfl, by (repeat' (first | exact Below.refl _ _ | assumption | refine Below.setCell ?_ ?_ _ | refine Below.drew ?_ | refine below_drewN ?_ _ | refine Below.alloc ?_ ?_ _ | refine below_of_grown ?_ (by assumption) ?_ | refine Below.trans ?_ (Below.mono (by assumption) ?_) | omega | (simp; done) | (simp; omega)))⟩
  · have e1 : ∀ o, epX s o = 0 := fun o => by simp [epX, hF]
    have e2 : epE s = 40 := by simp [epE, hF]
    simp only [e1, e2] at hE
    have f1 : passB s node n = false := by simp [passB, hF]
    have f2 : passE s node = 40 := by simp [passE, hF]
    rw [f1, f2]
    clear e1 e2 f1 f2 hF
    go_enter Try.func20, Try.ntmps20
    go_wp2_with fail
    refine (hE.out _).mono ?_
    rintro e w1 ⟨rfl, hb1⟩
    have hz1 := hb1.size
    go_wp2_with fail
    go_ret2
    exact ⟨rfl, by (repeat' (first | exact Below.refl _ _ | assumption | refine Below.setCell ?_ ?_ _ | refine Below.drew ?_ | refine below_drewN ?_ _ | refine Below.alloc ?_ ?_ _ | refine below_of_grown ?_ (by assumption) ?_ | refine Below.trans ?_ (Below.mono (by assumption) ?_) | omega | (simp; done) | (simp; omega)))⟩

end Go.Proofs.Ythnljmejkcmjhaa
