/-
  No cell of these rows narrows 'for every input' (looked for: loops, veiled, ifaces, maps, wideKeys, modest, calm, conditions, laid).
  DERIVED. THE GIVEN ROWS OF THIS SEAT. 4 by the template 'for every input the law returns true; each argument reads behind the call as it read before'; 0 by the template 'total and deterministic' (their statements: YtmkfhjhiklnbfaaTotals.lean).
  GIVEN WITH THE SEED: the statements are not yours to turn. If you find one false, say at which input.
  Laid BY PROGRAM, IN A SANDBOX (cutbox-rows.mjs): the forced cells as the released guide's own fill.sh prints them over the translation 25447828081f5823… (all of the seat's roots in one cut). By AI agents, Wed Nov 11 2026. No macro, syntax, notation, axiom, sorry.
-/
import Derived.Test.YtmkfhjhiklnbfaaChecked
import GoSem.Claim
import GoSem.ClaimJoined
import GoSem.ClaimMapViews
import Derived.JoinedTies
import Derived.KernelRfl
namespace Go.Proofs.Ytmkfhjhiklnbfaa
/- THE CELL 'sum', in the pinned program and in every row, IS THE sha256 OF THE DUMP (.gsa) THAT YtmkfhjhiklnbfaaProg.lean LOADS. Nothing in Lean hashes anything: it is a label: what it is worth is what the hold of that sum in a sandbox is worth. -/
noncomputable def Try.pinned : Pinned := { name := "ytmkfhjhiklnbfaa", sum := "25447828081f58231f893c51ce14c334527603efb8e894393f20501e201e11ca", checked := Try.checked }
namespace Rows
def none {H : Type} : Left H := { results := [], args := [] }

/-- 'laws.FnExactLineArm': WHATEVER THE INPUT: true; the input reads as it did. -/
def fnExactLineArmSpec : ChangeSpec := { name := "fnExactLineArm", fn := fun _ => fun
  | [d] => { results := [.lit (.bool true)], args := [d] }
  | _ => none }
def fnExactLineArmRow : OpenClaim := { program := "ytmkfhjhiklnbfaa", sum := "25447828081f58231f893c51ce14c334527603efb8e894393f20501e201e11ca", func := "loop.example/g01131/laws.FnExactLineArm", spec := "fnExactLineArm", plainKeys := false, apart := false }
def FnExactLineArmSaid : Prop := fnExactLineArmRow.holds Try.pinned (OpenSpec.ofChange fnExactLineArmSpec)

/-- ITS FALSE NEIGHBOUR: 'it returns false'. Refute it at one input. -/
def fnExactLineArmWrong : ChangeSpec := { name := "fnExactLineArm", fn := fun _ => fun
  | [d] => { results := [.lit (.bool false)], args := [d] }
  | _ => none }
def FnExactLineArmWrongFalsely : Prop := fnExactLineArmRow.holds Try.pinned (OpenSpec.ofChange fnExactLineArmWrong)

/-- 'laws.FnExactIsArm': WHATEVER THE INPUT: true; the input reads as it did. -/
def fnExactIsArmSpec : ChangeSpec := { name := "fnExactIsArm", fn := fun _ => fun
  | [d] => { results := [.lit (.bool true)], args := [d] }
  | _ => none }
def fnExactIsArmRow : OpenClaim := { program := "ytmkfhjhiklnbfaa", sum := "25447828081f58231f893c51ce14c334527603efb8e894393f20501e201e11ca", func := "loop.example/g01131/laws.FnExactIsArm", spec := "fnExactIsArm", plainKeys := false, apart := false }
def FnExactIsArmSaid : Prop := fnExactIsArmRow.holds Try.pinned (OpenSpec.ofChange fnExactIsArmSpec)

/-- ITS FALSE NEIGHBOUR: 'it returns false'. Refute it at one input. -/
def fnExactIsArmWrong : ChangeSpec := { name := "fnExactIsArm", fn := fun _ => fun
  | [d] => { results := [.lit (.bool false)], args := [d] }
  | _ => none }
def FnExactIsArmWrongFalsely : Prop := fnExactIsArmRow.holds Try.pinned (OpenSpec.ofChange fnExactIsArmWrong)

/-- 'laws.FnExactLeaveValue': WHATEVER THE INPUT: true; the input reads as it did. -/
def fnExactLeaveValueSpec : ChangeSpec := { name := "fnExactLeaveValue", fn := fun _ => fun
  | [d1, d2, d3, d4] => { results := [.lit (.bool true)], args := [d1, d2, d3, d4] }
  | _ => none }
def fnExactLeaveValueRow : OpenClaim := { program := "ytmkfhjhiklnbfaa", sum := "25447828081f58231f893c51ce14c334527603efb8e894393f20501e201e11ca", func := "loop.example/g01131/laws.FnExactLeaveValue", spec := "fnExactLeaveValue", recurses := true, plainKeys := false, apart := false }
def FnExactLeaveValueSaid : Prop := fnExactLeaveValueRow.holds Try.pinned (OpenSpec.ofChange fnExactLeaveValueSpec)

/-- ITS FALSE NEIGHBOUR: 'it returns false'. Refute it at one input. -/
def fnExactLeaveValueWrong : ChangeSpec := { name := "fnExactLeaveValue", fn := fun _ => fun
  | [d1, d2, d3, d4] => { results := [.lit (.bool false)], args := [d1, d2, d3, d4] }
  | _ => none }
def FnExactLeaveValueWrongFalsely : Prop := fnExactLeaveValueRow.holds Try.pinned (OpenSpec.ofChange fnExactLeaveValueWrong)

/-- 'laws.FnExactScaleOf': WHATEVER THE INPUT: true; the input reads as it did. -/
def fnExactScaleOfSpec : ChangeSpec := { name := "fnExactScaleOf", fn := fun _ => fun
  | [d1, d2, d3] => { results := [.lit (.bool true)], args := [d1, d2, d3] }
  | _ => none }
def fnExactScaleOfRow : OpenClaim := { program := "ytmkfhjhiklnbfaa", sum := "25447828081f58231f893c51ce14c334527603efb8e894393f20501e201e11ca", func := "loop.example/g01131/laws.FnExactScaleOf", spec := "fnExactScaleOf", plainKeys := false, apart := false }
def FnExactScaleOfSaid : Prop := fnExactScaleOfRow.holds Try.pinned (OpenSpec.ofChange fnExactScaleOfSpec)

/-- ITS FALSE NEIGHBOUR: 'it returns false'. Refute it at one input. -/
def fnExactScaleOfWrong : ChangeSpec := { name := "fnExactScaleOf", fn := fun _ => fun
  | [d1, d2, d3] => { results := [.lit (.bool false)], args := [d1, d2, d3] }
  | _ => none }
def FnExactScaleOfWrongFalsely : Prop := fnExactScaleOfRow.holds Try.pinned (OpenSpec.ofChange fnExactScaleOfWrong)

/- THE SECOND FORM. 'bulk': how many values and letters a reading holds, each counted each time it is reached (what is shared counts as often as it is met; a slice's spare places count too). A statement '..UptoSaid' is the law's where the arguments, and the package variables that the reading takes, are together of bulk at most 1048576: NARROWER than '..Said'. Prove '..Said' where nothing that the law and all that it calls make is longer than what came in: it says more and counts as full. Else prove '..UptoSaid'. A law counts once. -/
mutual
def uptoBulk {H : Type} : DataW H → Nat
  | .lit (.string bytes) => bytes.length + 1
  | .lit _ => 1
  | .nil => 1
  | .ptr d => uptoBulk d + 1
  | .slice elems spare => uptoBulkAll elems + uptoBulkAll spare + 1
  | .agg parts => uptoBulkAll parts + 1
  | .iface _ d => uptoBulk d + 1
  | .map entries => uptoBulkEntries entries + 1
  | .held _ => 1
def uptoBulkAll {H : Type} : List (DataW H) → Nat
  | [] => 0
  | d :: r => uptoBulk d + uptoBulkAll r
def uptoBulkEntries {H : Type} : List (Lit × DataW H) → Nat
  | [] => 0
  | x :: r => uptoBulkEntry x + uptoBulkEntries r
def uptoBulkEntry {H : Type} : Lit × DataW H → Nat
  | (.string bytes, d) => bytes.length + uptoBulk d + 1
  | (_, d) => uptoBulk d + 1
 end
def uptoSmall : (H : Type) → List (DataW H) → Bool := fun _ ds => decide (uptoBulkAll ds ≤ 1048576)
def OpenSpec.upto (s : _root_.Go.ChangeSpec) : _root_.Go.OpenSpec := { _root_.Go.OpenSpec.ofChange s with cond := some uptoSmall }

/-- 'laws.FnExactLineArm', WHERE WHAT IT READS IS OF BULK AT MOST 1048576: true; the input reads as it did. -/
def fnExactLineArmUptoRow : OpenClaim := { program := "ytmkfhjhiklnbfaa", sum := "25447828081f58231f893c51ce14c334527603efb8e894393f20501e201e11ca", func := "loop.example/g01131/laws.FnExactLineArm", spec := "fnExactLineArm", plainKeys := false, apart := false, narrowed := true }
def FnExactLineArmUptoSaid : Prop := fnExactLineArmUptoRow.holds Try.pinned (OpenSpec.upto fnExactLineArmSpec)

/-- 'laws.FnExactIsArm', WHERE WHAT IT READS IS OF BULK AT MOST 1048576: true; the input reads as it did. -/
def fnExactIsArmUptoRow : OpenClaim := { program := "ytmkfhjhiklnbfaa", sum := "25447828081f58231f893c51ce14c334527603efb8e894393f20501e201e11ca", func := "loop.example/g01131/laws.FnExactIsArm", spec := "fnExactIsArm", plainKeys := false, apart := false, narrowed := true }
def FnExactIsArmUptoSaid : Prop := fnExactIsArmUptoRow.holds Try.pinned (OpenSpec.upto fnExactIsArmSpec)

/-- 'laws.FnExactLeaveValue', WHERE WHAT IT READS IS OF BULK AT MOST 1048576: true; the input reads as it did. -/
def fnExactLeaveValueUptoRow : OpenClaim := { program := "ytmkfhjhiklnbfaa", sum := "25447828081f58231f893c51ce14c334527603efb8e894393f20501e201e11ca", func := "loop.example/g01131/laws.FnExactLeaveValue", spec := "fnExactLeaveValue", recurses := true, plainKeys := false, apart := false, narrowed := true }
def FnExactLeaveValueUptoSaid : Prop := fnExactLeaveValueUptoRow.holds Try.pinned (OpenSpec.upto fnExactLeaveValueSpec)

/-- 'laws.FnExactScaleOf', WHERE WHAT IT READS IS OF BULK AT MOST 1048576: true; the input reads as it did. -/
def fnExactScaleOfUptoRow : OpenClaim := { program := "ytmkfhjhiklnbfaa", sum := "25447828081f58231f893c51ce14c334527603efb8e894393f20501e201e11ca", func := "loop.example/g01131/laws.FnExactScaleOf", spec := "fnExactScaleOf", plainKeys := false, apart := false, narrowed := true }
def FnExactScaleOfUptoSaid : Prop := fnExactScaleOfUptoRow.holds Try.pinned (OpenSpec.upto fnExactScaleOfSpec)

end Rows
end Go.Proofs.Ytmkfhjhiklnbfaa
