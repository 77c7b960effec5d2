/-
  No cell of these rows narrows 'for every input' (looked for: loops, veiled, ifaces, maps, wideKeys, modest, calm, conditions, laid).
  DERIVED. THE GIVEN ROWS OF THIS SEAT. 5 by the template 'for every input the law returns true; each argument reads behind the call as it read before'; 0 by the template 'total and deterministic' (their statements: YthnljmejkcmjhaaTotals.lean).
  GIVEN WITH THE SEED: the statements are not yours to turn. If you find one false, say at which input.
  Laid BY PROGRAM, IN A SANDBOX (cutbox-rows.mjs): the forced cells as the released guide's own fill.sh prints them over the translation 553384abebaa93fb… (all of the seat's roots in one cut). By AI agents, Wed Nov 11 2026. No macro, syntax, notation, axiom, sorry.
-/
import Derived.Test.YthnljmejkcmjhaaChecked
import GoSem.Claim
import GoSem.ClaimJoined
import GoSem.ClaimMapViews
import Derived.JoinedTies
import Derived.KernelRfl
namespace Go.Proofs.Ythnljmejkcmjhaa
/- THE CELL 'sum', in the pinned program and in every row, IS THE sha256 OF THE DUMP (.gsa) THAT YthnljmejkcmjhaaProg.lean LOADS. Nothing in Lean hashes anything: it is a label: what it is worth is what the hold of that sum in a sandbox is worth. -/
noncomputable def Try.pinned : Pinned := { name := "ythnljmejkcmjhaa", sum := "553384abebaa93fb3f6360c972c90dc0f6d300a7344ffaf36702f91d20765e47", checked := Try.checked }
namespace Rows
def none {H : Type} : Left H := { results := [], args := [] }

/-- 'cutwaterlaw04.SuperFirst': WHATEVER THE INPUT: true; the input reads as it did. -/
def superFirstSpec : ChangeSpec := { name := "superFirst", fn := fun _ => fun
  | [d1, d2] => { results := [.lit (.bool true)], args := [d1, d2] }
  | _ => none }
def superFirstRow : OpenClaim := { program := "ythnljmejkcmjhaa", sum := "553384abebaa93fb3f6360c972c90dc0f6d300a7344ffaf36702f91d20765e47", func := "cutwater/cutwaterlaw04.SuperFirst", spec := "superFirst", inPlace := ["internal/abi.NoEscape", "internal/bytealg.MakeNoZero"], apart := false }
def SuperFirstSaid : Prop := superFirstRow.holds Try.pinned (OpenSpec.ofChange superFirstSpec)

/-- ITS FALSE NEIGHBOUR: 'it returns false'. Refute it at one input. -/
def superFirstWrong : ChangeSpec := { name := "superFirst", fn := fun _ => fun
  | [d1, d2] => { results := [.lit (.bool false)], args := [d1, d2] }
  | _ => none }
def SuperFirstWrongFalsely : Prop := superFirstRow.holds Try.pinned (OpenSpec.ofChange superFirstWrong)

/-- 'cutwaterlaw04.SuperBack': WHATEVER THE INPUT: true; the input reads as it did. -/
def superBackSpec : ChangeSpec := { name := "superBack", fn := fun _ => fun
  | [d1, d2] => { results := [.lit (.bool true)], args := [d1, d2] }
  | _ => none }
def superBackRow : OpenClaim := { program := "ythnljmejkcmjhaa", sum := "553384abebaa93fb3f6360c972c90dc0f6d300a7344ffaf36702f91d20765e47", func := "cutwater/cutwaterlaw04.SuperBack", spec := "superBack", inPlace := ["internal/abi.NoEscape", "internal/bytealg.MakeNoZero"], apart := false }
def SuperBackSaid : Prop := superBackRow.holds Try.pinned (OpenSpec.ofChange superBackSpec)

/-- ITS FALSE NEIGHBOUR: 'it returns false'. Refute it at one input. -/
def superBackWrong : ChangeSpec := { name := "superBack", fn := fun _ => fun
  | [d1, d2] => { results := [.lit (.bool false)], args := [d1, d2] }
  | _ => none }
def SuperBackWrongFalsely : Prop := superBackRow.holds Try.pinned (OpenSpec.ofChange superBackWrong)

/-- 'cutwaterlaw04.SuperFences': WHATEVER THE INPUT: true; the input reads as it did. -/
def superFencesSpec : ChangeSpec := { name := "superFences", fn := fun _ => fun
  | [d1, d2, d3] => { results := [.lit (.bool true)], args := [d1, d2, d3] }
  | _ => none }
def superFencesRow : OpenClaim := { program := "ythnljmejkcmjhaa", sum := "553384abebaa93fb3f6360c972c90dc0f6d300a7344ffaf36702f91d20765e47", func := "cutwater/cutwaterlaw04.SuperFences", spec := "superFences", inPlace := ["internal/abi.NoEscape", "internal/bytealg.MakeNoZero"], apart := false }
def SuperFencesSaid : Prop := superFencesRow.holds Try.pinned (OpenSpec.ofChange superFencesSpec)

/-- ITS FALSE NEIGHBOUR: 'it returns false'. Refute it at one input. -/
def superFencesWrong : ChangeSpec := { name := "superFences", fn := fun _ => fun
  | [d1, d2, d3] => { results := [.lit (.bool false)], args := [d1, d2, d3] }
  | _ => none }
def SuperFencesWrongFalsely : Prop := superFencesRow.holds Try.pinned (OpenSpec.ofChange superFencesWrong)

/-- 'cutwaterlaw04.SuperRises': WHATEVER THE INPUT: true; the input reads as it did. -/
def superRisesSpec : ChangeSpec := { name := "superRises", fn := fun _ => fun
  | [d1, d2] => { results := [.lit (.bool true)], args := [d1, d2] }
  | _ => none }
def superRisesRow : OpenClaim := { program := "ythnljmejkcmjhaa", sum := "553384abebaa93fb3f6360c972c90dc0f6d300a7344ffaf36702f91d20765e47", func := "cutwater/cutwaterlaw04.SuperRises", spec := "superRises", inPlace := ["internal/abi.NoEscape", "internal/bytealg.MakeNoZero"], apart := false }
def SuperRisesSaid : Prop := superRisesRow.holds Try.pinned (OpenSpec.ofChange superRisesSpec)

/-- ITS FALSE NEIGHBOUR: 'it returns false'. Refute it at one input. -/
def superRisesWrong : ChangeSpec := { name := "superRises", fn := fun _ => fun
  | [d1, d2] => { results := [.lit (.bool false)], args := [d1, d2] }
  | _ => none }
def SuperRisesWrongFalsely : Prop := superRisesRow.holds Try.pinned (OpenSpec.ofChange superRisesWrong)

/-- 'cutwaterlaw04.SuperPasses': WHATEVER THE INPUT: true; the input reads as it did. -/
def superPassesSpec : ChangeSpec := { name := "superPasses", fn := fun _ => fun
  | [d1, d2] => { results := [.lit (.bool true)], args := [d1, d2] }
  | _ => none }
def superPassesRow : OpenClaim := { program := "ythnljmejkcmjhaa", sum := "553384abebaa93fb3f6360c972c90dc0f6d300a7344ffaf36702f91d20765e47", func := "cutwater/cutwaterlaw04.SuperPasses", spec := "superPasses", inPlace := ["internal/abi.NoEscape", "internal/bytealg.MakeNoZero"], apart := false }
def SuperPassesSaid : Prop := superPassesRow.holds Try.pinned (OpenSpec.ofChange superPassesSpec)

/-- ITS FALSE NEIGHBOUR: 'it returns false'. Refute it at one input. -/
def superPassesWrong : ChangeSpec := { name := "superPasses", fn := fun _ => fun
  | [d1, d2] => { results := [.lit (.bool false)], args := [d1, d2] }
  | _ => none }
def SuperPassesWrongFalsely : Prop := superPassesRow.holds Try.pinned (OpenSpec.ofChange superPassesWrong)

/- THE SECOND FORM. 'bulk': how many values and letters a reading holds, each counted each time it is reached (what is shared counts as often as it is met; a slice's spare places count too). A statement '..UptoSaid' is the law's where the arguments, and the package variables that the reading takes, are together of bulk at most 1048576: NARROWER than '..Said'. Prove '..Said' where nothing that the law and all that it calls make is longer than what came in: it says more and counts as full. Else prove '..UptoSaid'. A law counts once. -/
mutual
def uptoBulk {H : Type} : DataW H → Nat
  | .lit (.string bytes) => bytes.length + 1
  | .lit _ => 1
  | .nil => 1
  | .ptr d => uptoBulk d + 1
  | .slice elems spare => uptoBulkAll elems + uptoBulkAll spare + 1
  | .agg parts => uptoBulkAll parts + 1
  | .iface _ d => uptoBulk d + 1
  | .map entries => uptoBulkEntries entries + 1
  | .held _ => 1
def uptoBulkAll {H : Type} : List (DataW H) → Nat
  | [] => 0
  | d :: r => uptoBulk d + uptoBulkAll r
def uptoBulkEntries {H : Type} : List (Lit × DataW H) → Nat
  | [] => 0
  | x :: r => uptoBulkEntry x + uptoBulkEntries r
def uptoBulkEntry {H : Type} : Lit × DataW H → Nat
  | (.string bytes, d) => bytes.length + uptoBulk d + 1
  | (_, d) => uptoBulk d + 1
 end
def uptoSmall : (H : Type) → List (DataW H) → Bool := fun _ ds => decide (uptoBulkAll ds ≤ 1048576)
def OpenSpec.upto (s : _root_.Go.ChangeSpec) : _root_.Go.OpenSpec := { _root_.Go.OpenSpec.ofChange s with cond := some uptoSmall }

/-- 'cutwaterlaw04.SuperFirst', WHERE WHAT IT READS IS OF BULK AT MOST 1048576: true; the input reads as it did. -/
def superFirstUptoRow : OpenClaim := { program := "ythnljmejkcmjhaa", sum := "553384abebaa93fb3f6360c972c90dc0f6d300a7344ffaf36702f91d20765e47", func := "cutwater/cutwaterlaw04.SuperFirst", spec := "superFirst", inPlace := ["internal/abi.NoEscape", "internal/bytealg.MakeNoZero"], apart := false, narrowed := true }
def SuperFirstUptoSaid : Prop := superFirstUptoRow.holds Try.pinned (OpenSpec.upto superFirstSpec)

/-- 'cutwaterlaw04.SuperBack', WHERE WHAT IT READS IS OF BULK AT MOST 1048576: true; the input reads as it did. -/
def superBackUptoRow : OpenClaim := { program := "ythnljmejkcmjhaa", sum := "553384abebaa93fb3f6360c972c90dc0f6d300a7344ffaf36702f91d20765e47", func := "cutwater/cutwaterlaw04.SuperBack", spec := "superBack", inPlace := ["internal/abi.NoEscape", "internal/bytealg.MakeNoZero"], apart := false, narrowed := true }
def SuperBackUptoSaid : Prop := superBackUptoRow.holds Try.pinned (OpenSpec.upto superBackSpec)

/-- 'cutwaterlaw04.SuperFences', WHERE WHAT IT READS IS OF BULK AT MOST 1048576: true; the input reads as it did. -/
def superFencesUptoRow : OpenClaim := { program := "ythnljmejkcmjhaa", sum := "553384abebaa93fb3f6360c972c90dc0f6d300a7344ffaf36702f91d20765e47", func := "cutwater/cutwaterlaw04.SuperFences", spec := "superFences", inPlace := ["internal/abi.NoEscape", "internal/bytealg.MakeNoZero"], apart := false, narrowed := true }
def SuperFencesUptoSaid : Prop := superFencesUptoRow.holds Try.pinned (OpenSpec.upto superFencesSpec)

/-- 'cutwaterlaw04.SuperRises', WHERE WHAT IT READS IS OF BULK AT MOST 1048576: true; the input reads as it did. -/
def superRisesUptoRow : OpenClaim := { program := "ythnljmejkcmjhaa", sum := "553384abebaa93fb3f6360c972c90dc0f6d300a7344ffaf36702f91d20765e47", func := "cutwater/cutwaterlaw04.SuperRises", spec := "superRises", inPlace := ["internal/abi.NoEscape", "internal/bytealg.MakeNoZero"], apart := false, narrowed := true }
def SuperRisesUptoSaid : Prop := superRisesUptoRow.holds Try.pinned (OpenSpec.upto superRisesSpec)

/-- 'cutwaterlaw04.SuperPasses', WHERE WHAT IT READS IS OF BULK AT MOST 1048576: true; the input reads as it did. -/
def superPassesUptoRow : OpenClaim := { program := "ythnljmejkcmjhaa", sum := "553384abebaa93fb3f6360c972c90dc0f6d300a7344ffaf36702f91d20765e47", func := "cutwater/cutwaterlaw04.SuperPasses", spec := "superPasses", inPlace := ["internal/abi.NoEscape", "internal/bytealg.MakeNoZero"], apart := false, narrowed := true }
def SuperPassesUptoSaid : Prop := superPassesUptoRow.holds Try.pinned (OpenSpec.upto superPassesSpec)

end Rows
end Go.Proofs.Ythnljmejkcmjhaa
