
/-
  Small facts on strings as lists of bytes and on rows of bytes of the call's own; nothing here speaks of a function of the program.
-/
import Derived.Test.YtghggelkmhdhfaaGreatDoorRows
import Derived.WalkKit
import Derived.WalkSpells
import Derived.WalkLawsBesides
import Derived.Laws.IdiomStrings
import Derived.Lib.Hide
import Derived.Lib.UnsafeStr
import Derived.Lib.BufferWrite
import Derived.Laws.CopyOwn
namespace Go.Proofs.YtghggelkmhdhfaaGreatDoor
open Go.RowKit

/-- A list of bytes as a string. -/
def str (l : List UInt8) : ByteArray := ⟨l.toArray⟩
theorem str_data (s : ByteArray) : str s.data.toList = s := by simp [str]
theorem data_str (l : List UInt8) : (str l).data.toList = l := by simp [str]
theorem size_str (l : List UInt8) : (str l).size = l.length := by simp [str, ByteArray.size]
theorem str_inj {a b : List UInt8} (h : str a = str b) : a = b := by
  have := congrArg (fun s : ByteArray => s.data.toList) h
  simpa [data_str] using this
theorem str_append (a b : List UInt8) : str a ++ str b = str (a ++ b) := by
  apply ByteArray.ext
  simp [str]
theorem exists_str (s : ByteArray) : ∃ l, s = str l := ⟨s.data.toList, (str_data s).symm⟩
theorem length_data (s : ByteArray) : s.data.toList.length = s.size := Array.length_toList

theorem info_u8 : (Tryz.prog.info? 5).map (fun i => (i.zero, i.size, i.bytes)) = some (some (.int .u8 0), 1, 1) := by kernel_rfl

/-- A row of the call's own that holds the bytes l, as a string. -/
theorem conv_row {P : Program} {w : World} {base g n cap : Nat} {src dst e : TypeId} {l : List UInt8} (hs : P.underlying src = some (.slice e)) (he : P.underlying e = some (.int .u8)) (hd : P.underlying dst = some .string)
    (hown : w.ownsRow base e 1 (.slice (some ⟨g, 0, none⟩) n cap) n (Lib.byteCells l)) :
    (convert src dst (.slice (some ⟨g, 0, none⟩) n cap)).run P w = .ok (.string (str l)) w := by
  have hn : l.length = n := by have := hown.1; simpa [Lib.byteCells] using this
  subst hn
  refine run_convert_bytes_back w src dst e ⟨g, 0, none⟩ cap l hs he hd fun j hj => ?_
  refine hown.cells (g := g) rfl j _ ?_
  simp [Lib.byteCells, hj]

theorem made_zeros (n : Nat) : (madeCells #[Value.int IntKind.u8 0] n).toList = Lib.byteCells (List.replicate n 0) := by
  rw [toList_madeCells_one]
  simp [Lib.byteCells]

/-- A new row of zeros, as a string. -/
theorem conv_zeros {P : Program} {w : World} {base g n cap : Nat} {src dst e : TypeId} (hs : P.underlying src = some (.slice e)) (he : P.underlying e = some (.int .u8)) (hd : P.underlying dst = some .string)
    (hown : w.ownsRow base e 1 (.slice (some ⟨g, 0, none⟩) n cap) n (madeCells #[Value.int IntKind.u8 0] n).toList) :
    (convert src dst (.slice (some ⟨g, 0, none⟩) n cap)).run P w = .ok (.string (str (List.replicate n 0))) w :=
  conv_row hs he hd (by rw [← made_zeros]; exact hown)

/-- A new row of written-out bytes, as a string. -/
theorem conv_cells {P : Program} {W : World} {g n cap : Nat} {src dst e : TypeId} (cs : Array Value) (ns : List Int) (hcs : cs.toList = ns.map (Value.int .u8)) (hn : ns.length = n) (hg : g = W.heap.size) (hs : P.underlying src = some (.slice e)) (he : P.underlying e = some (.int .u8)) (hd : P.underlying dst = some .string) (h0 : ∀ k ∈ ns, 0 ≤ k ∧ k < 256) :
    (convert src dst (.slice (some ⟨g, 0, none⟩) n cap)).run P (W.alloc (.cells cs e)) = .ok (.string (str (ns.map fun k => UInt8.ofNat k.toNat))) (W.alloc (.cells cs e)) := by
  subst hg
  have hl : (ns.map fun k => UInt8.ofNat k.toNat).length = n := by simpa using hn
  subst hl
  refine run_convert_bytes_back _ src dst e ⟨W.heap.size, 0, none⟩ cap _ hs he hd fun j hj => ?_
  have hj' : j < ns.length := by simpa using hj
  have hadd : (⟨W.heap.size, 0, none⟩ : Addr).add j = ⟨W.heap.size, j, none⟩ := by rw [Addr.add_lit]; simp
  rw [hadd, cell_of_row _ W.heap.size j cs e (0, 0) (heap_alloc_new W _)]
  have hc : cs[j]? = (ns.map (Value.int .u8))[j]? := by rw [← hcs]; simp
  rw [hc]
  have hk := h0 ns[j] (List.getElem_mem hj')
  simp only [List.getElem?_map, List.getElem?_eq_getElem hj', Option.map_some, List.getElem_map]
  congr 2
  rw [UInt8.toNat_ofNat']
  omega

/-- A row that is owned whole: the block itself. -/
theorem own_block {w : World} {base g n : Nat} {e : TypeId} {xs : List Value} (hown : w.ownsRow base e 1 (.slice (some ⟨g, 0, none⟩) n n) n xs) : w.heap[g]? = some (.cells xs.toArray e (0, 0)) := by
  obtain ⟨hl, h | ⟨g', cap, cur, hv, _, hg, _, _, hs, ht⟩⟩ := hown
  · obtain ⟨h, _⟩ := h; cases h
  · simp only [Value.slice.injEq, Option.some.injEq, Addr.mk.injEq, and_true, true_and] at hv
    obtain ⟨rfl, rfl⟩ := hv
    have : cur = xs.toArray := by
      rw [← ht, List.take_of_length_le (by simp [hs])]
    rw [hg, this]

/-- A block of bytes that is known whole, as a string. -/
theorem conv_block {P : Program} {w : World} {g n cap : Nat} {src dst e t : TypeId} {l : List UInt8} {fr : Nat × Nat} {rest : List Value} (hs : P.underlying src = some (.slice e)) (he : P.underlying e = some (.int .u8)) (hd : P.underlying dst = some .string)
    (hg : w.heap[g]? = some (.cells (Lib.byteCells l ++ rest).toArray t fr)) (hn : l.length = n) :
    (convert src dst (.slice (some ⟨g, 0, none⟩) n cap)).run P w = .ok (.string (str l)) w := by
  subst hn
  refine run_convert_bytes_back w src dst e ⟨g, 0, none⟩ cap l hs he hd fun j hj => ?_
  rw [Addr.add_lit, Nat.zero_add, cell_of_row w g j _ t fr hg]
  simp [Lib.byteCells, hj, List.getElem?_append]

/-- Bytes of the call's own, in whatever slice (nil too), as a string. -/
theorem conv_own {P : Program} {w : World} {base n : Nat} {v : Value} {src dst e : TypeId} {l : List UInt8} (hs : P.underlying src = some (.slice e)) (he : P.underlying e = some (.int .u8)) (hd : P.underlying dst = some .string)
    (hown : w.ownsRow base e 1 v n (Lib.byteCells l)) :
    (convert src dst v).run P w = .ok (.string (str l)) w := by
  have hn : l.length = n := by have := hown.1; simpa [Lib.byteCells] using this
  have hown' := hown
  obtain ⟨_, ⟨rfl, rfl⟩ | ⟨g, cap, cur, rfl, _⟩⟩ := hown
  · have hl : l = [] := List.eq_nil_of_length_eq_zero hn
    subst hl
    rw [run_convert_bytes_string w src dst e none 0 0 hs he hd]
    rfl
  · exact conv_row hs he hd hown'

/-- Behind a call that only laid new blocks every elder cell reads as before. -/
theorem bcell {W w1 : World} (hb : Below W.heap.size W w1) : (∀ b o, b < W.heap.size → w1.cell? ⟨b, o, none⟩ = W.cell? ⟨b, o, none⟩) ∧ (∀ b o, b < W.heap.size → w1.frozen? ⟨b, o, none⟩ = W.frozen? ⟨b, o, none⟩) :=
  ⟨fun b o h => hb.cell (p := ⟨b, o, none⟩) h, fun b o h => hb.frozen (p := ⟨b, o, none⟩) h⟩

/-- What a region that makes memory beside loads of two cells of a new block keeps. -/
theorem keep2 {w W w1 : World} {b0 b1 o0 o1 : Nat} {x y : Value} (hb : Below W.heap.size W w1) (h0 : W.cell? ⟨b0, o0, none⟩ = some x) (h1 : W.cell? ⟨b1, o1, none⟩ = some y) (hB : Below w.heap.size w W) :
    w1.cell? ⟨b0, o0, none⟩ = some x ∧ w1.cell? ⟨b1, o1, none⟩ = some y ∧ Below w.heap.size w w1 := by
  have l0 := World.block_lt_of_cell? W _ h0
  have l1 := World.block_lt_of_cell? W _ h1
  exact ⟨by rw [hb.cell (p := ⟨b0, o0, none⟩) l0, h0], by rw [hb.cell (p := ⟨b1, o1, none⟩) l1, h1], hB.trans (hb.mono hB.size)⟩

theorem keep2_alloc {w W : World} {b0 b1 o0 o1 : Nat} {x y : Value} (o : Obj) (h0 : W.cell? ⟨b0, o0, none⟩ = some x) (h1 : W.cell? ⟨b1, o1, none⟩ = some y) (hB : Below w.heap.size w W) :
    (W.alloc o).cell? ⟨b0, o0, none⟩ = some x ∧ (W.alloc o).cell? ⟨b1, o1, none⟩ = some y ∧ Below w.heap.size w (W.alloc o) :=
  keep2 ((Below.refl _ _).alloc (Nat.le_refl _) o) h0 h1 hB

/-- The byte at a place (0 beyond the end). -/
def byteAt (s : ByteArray) (i : Nat) : Int := ((s.data.toList.getD i 0).toNat : Int)
theorem byteAt_range (s : ByteArray) (i : Nat) : 0 ≤ byteAt s i ∧ byteAt s i < 256 := by
  unfold byteAt
  have := (s.data.toList.getD i 0).toNat_lt
  omega
theorem byteAt_eq (s : ByteArray) (i : Nat) (h : i < s.size) : ((s[i]'h).toNat : Int) = byteAt s i := by
  unfold byteAt
  have h' : i < s.data.toList.length := by rw [length_data]; exact h
  have e : s.data.toList.getD i 0 = s.data.toList[i] := by simp [List.getD, List.getElem?_eq_getElem h']
  rw [e]
  rfl
theorem wrap_byteAt (s : ByteArray) (i : Nat) (h : i < s.size) : wrap64 ((s[i]'h).toNat : Int) = byteAt s i := by
  rw [byteAt_eq s i h]
  have := byteAt_range s i
  unfold wrap64
  omega

/-- '==' on strings, as the walk spells it. -/
theorem eqs_no {a b : ByteArray} (h : ¬ a = b) : (a.toList == b.toList) = false := by
  rw [beq_eq_false_iff_ne]
  intro he
  apply h
  rw [ByteArray.toList_eq, ByteArray.toList_eq] at he
  rw [← str_data a, ← str_data b, he]
theorem eqs_yes {a b : ByteArray} (h : a = b) : (a.toList == b.toList) = true := by rw [h]; exact beq_self_eq_true _

theorem below_of_grown {B : Nat} {w0 w w' : World} (h : Below B w0 w) (hg : w.grownBy w' none) (hB : B ≤ w.heap.size) : Below B w0 w' :=
  h.grown hg hB (fun _ h => by cases h)
end Go.Proofs.YtghggelkmhdhfaaGreatDoor
