/-
  Plain facts of layer 4: what is encoded reads back; a first sector is no fence; a fence's epochs read back. No program in sight.
-/
import Derived.Test.YthnljmejkcmjhaaRaise
import Derived.Test.YthnljmejkcmjhaaFirst
namespace Go.Proofs.Ythnljmejkcmjhaa

theorem byteAt_append_left (x y : ByteArray) (i : Nat) (h : i < x.size) : byteAt (x ++ y) i = byteAt x i := by
  have e : (x ++ y).data.toList = x.data.toList ++ y.data.toList := by simp
  have h' : i < x.data.toList.length := by rw [length_data]; exact h
  unfold byteAt
  rw [e]
  simp only [List.getD, List.getElem?_append_left h']
theorem byteAt_append_right (x y : ByteArray) (i : Nat) (h : x.size ≤ i) : byteAt (x ++ y) i = byteAt y (i - x.size) := by
  have e : (x ++ y).data.toList = x.data.toList ++ y.data.toList := by simp
  have h' : x.data.toList.length ≤ i := by rw [length_data]; exact h
  unfold byteAt
  rw [e]
  simp only [List.getD, List.getElem?_append_right h', length_data]
theorem byteAt_pad (x : ByteArray) (i : Nat) (h : i < x.size) : byteAt (pad x) i = byteAt x i := byteAt_append_left _ _ _ h
theorem byteAt_str (l : List UInt8) (i : Nat) : byteAt (str l) i = ((l.getD i 0).toNat : Int) := by
  unfold byteAt
  rw [data_str]
theorem ofNat_back {a : Int} (h0 : 0 ≤ a) (h1 : a < 256) : ((UInt8.ofNat a.toNat).toNat : Int) = a := by
  rw [UInt8.toNat_ofNat']
  omega

theorem sector0_text (a b c : Int) : (⟨#[67, 85, 84, 87]⟩ ++ str [UInt8.ofNat a.toNat, UInt8.ofNat b.toNat, UInt8.ofNat c.toNat] : ByteArray) = str [67, 85, 84, 87, UInt8.ofNat a.toNat, UInt8.ofNat b.toNat, UInt8.ofNat c.toNat] :=
  str_append [67, 85, 84, 87] _
theorem sector0_bytes {a b c : Int} (h : geomOk a b c = true) : byteAt (sector0 a b c) 4 = a ∧ byteAt (sector0 a b c) 5 = b ∧ byteAt (sector0 a b c) 6 = c := by
  obtain ⟨h1, h2, h3, h4, h5, h6⟩ := geomOk_iff.1 h
  unfold sector0
  rw [sector0_text]
  have hz : ∀ i, i < 7 → i < (str [67, 85, 84, 87, UInt8.ofNat a.toNat, UInt8.ofNat b.toNat, UInt8.ofNat c.toNat]).size := fun i hi => by rw [size_str]; simpa using hi
  rw [byteAt_pad _ 4 (hz 4 (by omega)), byteAt_pad _ 5 (hz 5 (by omega)), byteAt_pad _ 6 (hz 6 (by omega)), byteAt_str, byteAt_str, byteAt_str]
  exact ⟨ofNat_back (by omega) (by omega), ofNat_back (by omega) (by omega), ofNat_back (by omega) (by omega)⟩
theorem sector0_first (a b c : Int) : byteAt (sector0 a b c) 0 = 67 := by
  unfold sector0
  rw [sector0_text]
  have hz : ∀ i, i < 7 → i < (str [67, 85, 84, 87, UInt8.ofNat a.toNat, UInt8.ofNat b.toNat, UInt8.ofNat c.toNat]).size := fun i hi => by rw [size_str]; simpa using hi
  rw [byteAt_pad _ 0 (hz 0 (by omega)), byteAt_str]
  rfl
theorem isSector0_sector0 {a b c : Int} (h : geomOk a b c = true) : isSector0 (sector0 a b c) = true := by
  obtain ⟨h4, h5, h6⟩ := sector0_bytes h
  simp only [isSector0, h4, h5, h6, h, size_sector0]
  simp
theorem isSector0_back {s : ByteArray} (h : isSector0 s = true) : geomOk (byteAt s 4) (byteAt s 5) (byteAt s 6) = true ∧ sector0 (byteAt s 4) (byteAt s 5) (byteAt s 6) = s := by
  simp only [isSector0, Bool.and_eq_true, decide_eq_true_eq] at h
  exact ⟨h.1.2, h.2⟩

theorem wall_text (a b : Int) : (⟨#[70, 69, 78, 67]⟩ ++ str (le a 4) ++ str (le b 4) : ByteArray) = str ([70, 69, 78, 67] ++ (le a 4 ++ le b 4)) := by
  have e : (⟨#[70, 69, 78, 67]⟩ : ByteArray) = str [70, 69, 78, 67] := rfl
  rw [e, str_append, str_append, List.append_assoc]
theorem le4_list (a : Int) : le a 4 = [UInt8.ofNat (a % 256).toNat, UInt8.ofNat (a / 256 % 256).toNat, UInt8.ofNat (a / 65536 % 256).toNat, UInt8.ofNat (a / 16777216 % 256).toNat] := by
  simp [le, List.range_succ]
theorem wall_byte (a b : Int) (i : Nat) (h : i < 12) : byteAt (wallS a b) i = ((([70, 69, 78, 67] ++ (le a 4 ++ le b 4)).getD i 0).toNat : Int) := by
  unfold wallS
  rw [wall_text, byteAt_pad _ i (by rw [size_str, List.length_append, List.length_append, length_le, length_le]; simpa using h), byteAt_str]
theorem wall_num4 {a b : Int} (ha : epochB a = true) (hb : epochB b = true) : num4 (wallS a b) 4 = a ∧ num4 (wallS a b) 8 = b := by
  obtain ⟨a0, a1⟩ := of_decide_eq_true ha
  obtain ⟨b0, b1⟩ := of_decide_eq_true hb
  unfold num4
  rw [wall_byte a b _ (by omega), wall_byte a b _ (by omega), wall_byte a b _ (by omega), wall_byte a b _ (by omega), wall_byte a b _ (by omega), wall_byte a b _ (by omega), wall_byte a b _ (by omega), wall_byte a b _ (by omega)]
  rw [le4_list, le4_list]
  simp only [List.cons_append, List.nil_append, List.getD_cons_succ, List.getD_cons_zero]
  have k : ∀ x : Int, ((UInt8.ofNat (x % 256).toNat).toNat : Int) = x % 256 := fun x => ofNat_back (Int.emod_nonneg _ (by omega)) (Int.emod_lt_of_pos _ (by omega))
  rw [k, k, k, k, k, k, k, k]
  omega
theorem isFence_wall {a b : Int} (ha : epochB a = true) (hb : epochB b = true) : isFence (wallS a b) = true := by
  obtain ⟨h4, h8⟩ := wall_num4 ha hb
  simp only [isFence, h4, h8, size_wallS]
  simp
theorem wall_first (a b : Int) : byteAt (wallS a b) 0 = 70 := by
  rw [wall_byte a b 0 (by omega)]
  rfl
theorem not_isFence_sector0 (a b c : Int) : isFence (sector0 a b c) = false := by
  cases h : isFence (sector0 a b c) with
  | false => rfl
  | true =>
    simp only [isFence, Bool.and_eq_true, decide_eq_true_eq] at h
    have h1 := sector0_first a b c
    rw [← h.2, wall_first] at h1
    cases h1
end Go.Proofs.Ythnljmejkcmjhaa
