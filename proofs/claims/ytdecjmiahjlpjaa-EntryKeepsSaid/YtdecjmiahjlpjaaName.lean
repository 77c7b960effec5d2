/-
  Which texts may be names: entry.Name, and the document's Name.
-/
import Derived.Test.YtdecjmiahjlpjaaKit
import Derived.Test.YtdecjmiahjlpjaaShelf
import Derived.Lib.IndexAny
namespace Go.Proofs.Ytdecjmiahjlpjaa
open Go.RowKit

/-- May a text be a name? -/
def nameB (s : ByteArray) : Bool := !s.toList.isEmpty && decide (s.size ≤ 13) && !(s.toList == [46]) && !(s.toList == [46, 46]) && !(s.data.toList.contains 47) && !(s.data.toList.contains 0)

theorem contains_one (s : ByteArray) (c : UInt8) (w : World) :
    Calls Try.prog 35 #[.string s, .string ⟨#[c]⟩] w fun e w' => e = .returned (.bool (s.data.toList.contains c)) ∧ w = w' :=
  (Try.strings_Contains_one s c w).mono fun _ _ ⟨he, hw⟩ => ⟨by rw [he, Lib.contains_iff_indexByte], hw.symm⟩

set_option maxHeartbeats 1000000 in
theorem name_any (s : ByteArray) (w : World) :
    Calls Try.prog 17 #[.string s] w fun e w' => e = .returned (.bool (nameB s)) ∧ w = w' := by
  have h1 := Lib.hid (fun W => contains_one s 47 W)
  have h2 := Lib.hid (fun W => contains_one s 0 W)
  obtain ⟨r, hr⟩ : ∃ r, r = nameB s := ⟨_, rfl⟩
  rw [← hr]
  unfold nameB at hr
  generalize s.data.toList.contains 47 = a at *
  generalize s.data.toList.contains 0 = b at *
  have HR := Lib.hid hr
  clear hr
  go_enter Try.func17, Try.ntmps17
  go_wp2_with (first | (go_at_call 35; (with_reducible refine (h1.out _).mono ?_); rintro e w1 ⟨rfl, rfl⟩) | (go_at_call 35; (with_reducible refine (h2.out _).mono ?_); rintro e w1 ⟨rfl, rfl⟩))
  all_goals (go_ret; have hr := HR.out; clear HR h1 h2)
  all_goals first
    | (refine ⟨?_, rfl⟩; rw [hr]; simp_all; done)
    | (refine ⟨?_, rfl⟩; have hs : s.size ≤ 13 := by omega
       rw [hr]; simp_all; done)
    | (refine ⟨?_, rfl⟩; have hs : decide (s.size ≤ 13) = false := decide_eq_false (by omega)
       rw [hr, hs]; simp_all; done)

theorem isEmpty_size (s : ByteArray) : s.toList.isEmpty = decide (s.size < 1) := by
  rw [ByteArray.toList_eq]
  have h := length_data s
  cases hl : s.data.toList with
  | nil => rw [hl] at h; simp at h; simp [← h]
  | cons a l => rw [hl] at h; simp at h; simp [← h]

theorem not_contains_of {s : ByteArray} {c : UInt8} (h : ∀ j, j < s.size → ¬ byteAt s j = (c.toNat : Int)) : s.data.toList.contains c = false := by
  cases hc : s.data.toList.contains c with
  | false => rfl
  | true =>
    have hm : c ∈ s.data.toList := by simpa using hc
    obtain ⟨j, hj, he⟩ := List.getElem_of_mem hm
    have hj' : j < s.size := by rw [← length_data]; exact hj
    refine absurd ?_ (h j hj')
    unfold byteAt
    simp [List.getD, List.getElem?_eq_getElem hj, he]
theorem contains_of {s : ByteArray} {c : UInt8} {j : Nat} (hj : j < s.size) (h : byteAt s j = (c.toNat : Int)) : s.data.toList.contains c = true := by
  have hj' : j < s.data.toList.length := by rw [length_data]; exact hj
  unfold byteAt at h
  simp only [List.getD, List.getElem?_eq_getElem hj', Option.getD_some] at h
  have he : s.data.toList[j] = c := UInt8.toNat.inj (by omega)
  have : c ∈ s.data.toList := by rw [← he]; exact List.getElem_mem hj'
  simpa using this

set_option maxHeartbeats 1000000 in
theorem rname_loop (s : ByteArray) (w : World) (h1 : ¬ s.size < 1) (h2 : s.size ≤ 13) (h3 : (s.toList == [46]) = false) (h4 : (s.toList == [46, 46]) = false) :
    Calls Try.prog 18 #[.string s] w fun e w' => e = .returned (.bool (nameB s)) ∧ w = w' := by
  have hr : nameB s = (!(s.data.toList.contains 47) && !(s.data.toList.contains 0)) := by simp [nameB, isEmpty_size, h1, h2, h3, h4]
  have HR := Lib.hid hr
  clear hr
  have l1 : ¬ (s.size : Int) < 1 := by omega
  have l2 : ¬ (13 : Int) < s.size := by omega
  go_enter Try.func18, Try.ntmps18
  go_wp2_with fail
  go_loop [3] (fun i => ∃ k : Nat, k ≤ s.size ∧ i = .int .i64 k ∧ Hid (∀ j, j < k → ¬ byteAt s j = 0 ∧ ¬ byteAt s j = 47)) (fun i => s.size - (intOf i).toNat)
  case atStart => exact ⟨0, Nat.zero_le _, rfl, fun j hj => by omega⟩
  case round =>
    obtain ⟨k, hk, rfl, hall⟩ := hrel
    by_cases hlt : k < s.size
    · have hb := Lib.hid (byteAt_eq s k hlt)
      by_cases e0 : byteAt s k = 0
      · have g0 : ((s[k].toNat : Int) == 0) = true := by rw [hb.out]; simp [e0]
        go_wp2_with fail
        go_ret
        exact ⟨by rw [HR.out, contains_of (c := 0) hlt (by rw [e0]; rfl)]; simp, rfl⟩
      · have g0 : ((s[k].toNat : Int) == 0) = false := by rw [hb.out]; simp [e0]
        by_cases e1 : byteAt s k = 47
        · have g1 : ((s[k].toNat : Int) == 47) = true := by rw [hb.out]; simp [e1]
          go_wp2_with fail
          go_ret
          exact ⟨by rw [HR.out, contains_of (c := 47) hlt (by rw [e1]; rfl)]; simp, rfl⟩
        · have g1 : ((s[k].toNat : Int) == 47) = false := by rw [hb.out]; simp [e1]
          have hn : Hid (∀ j, j < k + 1 → ¬ byteAt s j = 0 ∧ ¬ byteAt s j = 47) := Lib.hid fun j hj => by
            by_cases hjk : j = k
            · subst hjk; exact ⟨e0, e1⟩
            · exact hall.out j (by omega)
          clear e0 e1
          go_wp2_with fail
          go_round
          case rel => exact ⟨k + 1, by omega, by go_num, hn⟩
          case measure => simp [intOf]; omega
    · obtain rfl : k = s.size := by omega
      go_wp2_with fail
      go_ret
      refine ⟨?_, rfl⟩
      rw [HR.out, not_contains_of (c := 47) (fun j hj => (hall.out j hj).2), not_contains_of (c := 0) (fun j hj => (hall.out j hj).1)]
      rfl

set_option maxHeartbeats 1000000 in
theorem rname_any (s : ByteArray) (w : World) :
    Calls Try.prog 18 #[.string s] w fun e w' => e = .returned (.bool (nameB s)) ∧ w = w' := by
  by_cases h1 : s.size < 1
  · have hr : nameB s = false := by simp [nameB, isEmpty_size, h1]
    rw [hr]
    have l1 : (s.size : Int) < 1 := by omega
    clear hr
    go_enter Try.func18, Try.ntmps18
    go_wp2_with fail
    go_ret
    exact ⟨rfl, rfl⟩
  · by_cases h2 : s.size ≤ 13
    · cases h3 : s.toList == [46] with
      | true =>
        have hr : nameB s = false := by simp [nameB, h3]
        rw [hr]
        have l1 : ¬ (s.size : Int) < 1 := by omega
        have l2 : ¬ (13 : Int) < s.size := by omega
        clear hr
        go_enter Try.func18, Try.ntmps18
        go_wp2_with fail
        go_ret
        exact ⟨rfl, rfl⟩
      | false =>
        cases h4 : s.toList == [46, 46] with
        | true =>
          have hr : nameB s = false := by simp [nameB, h4]
          rw [hr]
          have l1 : ¬ (s.size : Int) < 1 := by omega
          have l2 : ¬ (13 : Int) < s.size := by omega
          clear hr
          go_enter Try.func18, Try.ntmps18
          go_wp2_with fail
          go_ret
          exact ⟨rfl, rfl⟩
        | false => exact rname_loop s w h1 h2 h3 h4
    · have hr : nameB s = false := by simp [nameB, h2]
      rw [hr]
      have l1 : ¬ (s.size : Int) < 1 := by omega
      have l2 : (13 : Int) < s.size := by omega
      clear hr
      go_enter Try.func18, Try.ntmps18
      go_wp2_with fail
      go_ret
      exact ⟨rfl, rfl⟩
end Go.Proofs.Ytdecjmiahjlpjaa
