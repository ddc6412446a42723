/-
  No cell of these rows narrows 'for every input' (looked for: loops, veiled, ifaces, maps, wideKeys, modest, calm, conditions, laid).
  DERIVED. THE GIVEN ROWS OF THIS SEAT. 12 by the template 'for every input the law returns true; each argument reads behind the call as it read before'; 0 by the template 'total and deterministic' (their statements: YtjnllbmknblecaaTotals.lean).
  GIVEN WITH THE SEED: the statements are not yours to turn. If you find one false, say at which input.
  Laid BY PROGRAM, IN A SANDBOX (cutbox-rows.mjs): the forced cells as the released guide's own fill.sh prints them over the translation 13582695d668c413… (all of the seat's roots in one cut). By AI agents, Wed Nov 11 2026. No macro, syntax, notation, axiom, sorry.
-/
import Derived.Test.YtjnllbmknblecaaChecked
import GoSem.Claim
import GoSem.ClaimJoined
import GoSem.ClaimMapViews
import Derived.JoinedTies
import Derived.KernelRfl
namespace Go.Proofs.Ytjnllbmknblecaa
/- THE CELL 'sum', in the pinned program and in every row, IS THE sha256 OF THE DUMP (.gsa) THAT YtjnllbmknblecaaProg.lean LOADS. Nothing in Lean hashes anything: it is a label: what it is worth is what the hold of that sum in a sandbox is worth. -/
noncomputable def Try.pinned : Pinned := { name := "ytjnllbmknblecaa", sum := "13582695d668c4137f1f9bb46724ef2c0e991611e75fdd46d02cd134928b1ec4", checked := Try.checked }
namespace Rows
def none {H : Type} : Left H := { results := [], args := [] }

/-- 'laws.FnExactIsLaw': WHATEVER THE INPUT: true; the input reads as it did. -/
def fnExactIsLawSpec : ChangeSpec := { name := "fnExactIsLaw", fn := fun _ => fun
  | [d] => { results := [.lit (.bool true)], args := [d] }
  | _ => none }
def fnExactIsLawRow : OpenClaim := { program := "ytjnllbmknblecaa", sum := "13582695d668c4137f1f9bb46724ef2c0e991611e75fdd46d02cd134928b1ec4", func := "loop.example/g01131/laws.FnExactIsLaw", spec := "fnExactIsLaw", apart := false }
def FnExactIsLawSaid : Prop := fnExactIsLawRow.holds Try.pinned (OpenSpec.ofChange fnExactIsLawSpec)

/-- ITS FALSE NEIGHBOUR: 'it returns false'. Refute it at one input. -/
def fnExactIsLawWrong : ChangeSpec := { name := "fnExactIsLaw", fn := fun _ => fun
  | [d] => { results := [.lit (.bool false)], args := [d] }
  | _ => none }
def FnExactIsLawWrongFalsely : Prop := fnExactIsLawRow.holds Try.pinned (OpenSpec.ofChange fnExactIsLawWrong)

/-- 'laws.FnExactLawMean': WHATEVER THE INPUT: true; the input reads as it did. -/
def fnExactLawMeanSpec : ChangeSpec := { name := "fnExactLawMean", fn := fun _ => fun
  | [d] => { results := [.lit (.bool true)], args := [d] }
  | _ => none }
def fnExactLawMeanRow : OpenClaim := { program := "ytjnllbmknblecaa", sum := "13582695d668c4137f1f9bb46724ef2c0e991611e75fdd46d02cd134928b1ec4", func := "loop.example/g01131/laws.FnExactLawMean", spec := "fnExactLawMean", apart := false }
def FnExactLawMeanSaid : Prop := fnExactLawMeanRow.holds Try.pinned (OpenSpec.ofChange fnExactLawMeanSpec)

/-- ITS FALSE NEIGHBOUR: 'it returns false'. Refute it at one input. -/
def fnExactLawMeanWrong : ChangeSpec := { name := "fnExactLawMean", fn := fun _ => fun
  | [d] => { results := [.lit (.bool false)], args := [d] }
  | _ => none }
def FnExactLawMeanWrongFalsely : Prop := fnExactLawMeanRow.holds Try.pinned (OpenSpec.ofChange fnExactLawMeanWrong)

/-- 'laws.FnExactBestOfLaws': WHATEVER THE INPUT: true; the input reads as it did. -/
def fnExactBestOfLawsSpec : ChangeSpec := { name := "fnExactBestOfLaws", fn := fun _ => fun
  | [d] => { results := [.lit (.bool true)], args := [d] }
  | _ => none }
def fnExactBestOfLawsRow : OpenClaim := { program := "ytjnllbmknblecaa", sum := "13582695d668c4137f1f9bb46724ef2c0e991611e75fdd46d02cd134928b1ec4", func := "loop.example/g01131/laws.FnExactBestOfLaws", spec := "fnExactBestOfLaws", apart := false }
def FnExactBestOfLawsSaid : Prop := fnExactBestOfLawsRow.holds Try.pinned (OpenSpec.ofChange fnExactBestOfLawsSpec)

/-- ITS FALSE NEIGHBOUR: 'it returns false'. Refute it at one input. -/
def fnExactBestOfLawsWrong : ChangeSpec := { name := "fnExactBestOfLaws", fn := fun _ => fun
  | [d] => { results := [.lit (.bool false)], args := [d] }
  | _ => none }
def FnExactBestOfLawsWrongFalsely : Prop := fnExactBestOfLawsRow.holds Try.pinned (OpenSpec.ofChange fnExactBestOfLawsWrong)

/-- 'laws.FnExactProphetMean': WHATEVER THE INPUT: true; the input reads as it did. -/
def fnExactProphetMeanSpec : ChangeSpec := { name := "fnExactProphetMean", fn := fun _ => fun
  | [d] => { results := [.lit (.bool true)], args := [d] }
  | _ => none }
def fnExactProphetMeanRow : OpenClaim := { program := "ytjnllbmknblecaa", sum := "13582695d668c4137f1f9bb46724ef2c0e991611e75fdd46d02cd134928b1ec4", func := "loop.example/g01131/laws.FnExactProphetMean", spec := "fnExactProphetMean", apart := false }
def FnExactProphetMeanSaid : Prop := fnExactProphetMeanRow.holds Try.pinned (OpenSpec.ofChange fnExactProphetMeanSpec)

/-- ITS FALSE NEIGHBOUR: 'it returns false'. Refute it at one input. -/
def fnExactProphetMeanWrong : ChangeSpec := { name := "fnExactProphetMean", fn := fun _ => fun
  | [d] => { results := [.lit (.bool false)], args := [d] }
  | _ => none }
def FnExactProphetMeanWrongFalsely : Prop := fnExactProphetMeanRow.holds Try.pinned (OpenSpec.ofChange fnExactProphetMeanWrong)

/-- 'laws.FnExactThresholdMean': WHATEVER THE INPUT: true; the input reads as it did. -/
def fnExactThresholdMeanSpec : ChangeSpec := { name := "fnExactThresholdMean", fn := fun _ => fun
  | [d1, d2] => { results := [.lit (.bool true)], args := [d1, d2] }
  | _ => none }
def fnExactThresholdMeanRow : OpenClaim := { program := "ytjnllbmknblecaa", sum := "13582695d668c4137f1f9bb46724ef2c0e991611e75fdd46d02cd134928b1ec4", func := "loop.example/g01131/laws.FnExactThresholdMean", spec := "fnExactThresholdMean", apart := false }
def FnExactThresholdMeanSaid : Prop := fnExactThresholdMeanRow.holds Try.pinned (OpenSpec.ofChange fnExactThresholdMeanSpec)

/-- ITS FALSE NEIGHBOUR: 'it returns false'. Refute it at one input. -/
def fnExactThresholdMeanWrong : ChangeSpec := { name := "fnExactThresholdMean", fn := fun _ => fun
  | [d1, d2] => { results := [.lit (.bool false)], args := [d1, d2] }
  | _ => none }
def FnExactThresholdMeanWrongFalsely : Prop := fnExactThresholdMeanRow.holds Try.pinned (OpenSpec.ofChange fnExactThresholdMeanWrong)

/-- 'laws.FnExactGamblerTable': WHATEVER THE INPUT: true; the input reads as it did. -/
def fnExactGamblerTableSpec : ChangeSpec := { name := "fnExactGamblerTable", fn := fun _ => fun
  | [d] => { results := [.lit (.bool true)], args := [d] }
  | _ => none }
def fnExactGamblerTableRow : OpenClaim := { program := "ytjnllbmknblecaa", sum := "13582695d668c4137f1f9bb46724ef2c0e991611e75fdd46d02cd134928b1ec4", func := "loop.example/g01131/laws.FnExactGamblerTable", spec := "fnExactGamblerTable", apart := false }
def FnExactGamblerTableSaid : Prop := fnExactGamblerTableRow.holds Try.pinned (OpenSpec.ofChange fnExactGamblerTableSpec)

/-- ITS FALSE NEIGHBOUR: 'it returns false'. Refute it at one input. -/
def fnExactGamblerTableWrong : ChangeSpec := { name := "fnExactGamblerTable", fn := fun _ => fun
  | [d] => { results := [.lit (.bool false)], args := [d] }
  | _ => none }
def FnExactGamblerTableWrongFalsely : Prop := fnExactGamblerTableRow.holds Try.pinned (OpenSpec.ofChange fnExactGamblerTableWrong)

/-- 'laws.FnExactGamblerMean': WHATEVER THE INPUT: true; the input reads as it did. -/
def fnExactGamblerMeanSpec : ChangeSpec := { name := "fnExactGamblerMean", fn := fun _ => fun
  | [d] => { results := [.lit (.bool true)], args := [d] }
  | _ => none }
def fnExactGamblerMeanRow : OpenClaim := { program := "ytjnllbmknblecaa", sum := "13582695d668c4137f1f9bb46724ef2c0e991611e75fdd46d02cd134928b1ec4", func := "loop.example/g01131/laws.FnExactGamblerMean", spec := "fnExactGamblerMean", apart := false }
def FnExactGamblerMeanSaid : Prop := fnExactGamblerMeanRow.holds Try.pinned (OpenSpec.ofChange fnExactGamblerMeanSpec)

/-- ITS FALSE NEIGHBOUR: 'it returns false'. Refute it at one input. -/
def fnExactGamblerMeanWrong : ChangeSpec := { name := "fnExactGamblerMean", fn := fun _ => fun
  | [d] => { results := [.lit (.bool false)], args := [d] }
  | _ => none }
def FnExactGamblerMeanWrongFalsely : Prop := fnExactGamblerMeanRow.holds Try.pinned (OpenSpec.ofChange fnExactGamblerMeanWrong)

/-- 'laws.FnExactHalfThreshold': WHATEVER THE INPUT: true; the input reads as it did. -/
def fnExactHalfThresholdSpec : ChangeSpec := { name := "fnExactHalfThreshold", fn := fun _ => fun
  | [d] => { results := [.lit (.bool true)], args := [d] }
  | _ => none }
def fnExactHalfThresholdRow : OpenClaim := { program := "ytjnllbmknblecaa", sum := "13582695d668c4137f1f9bb46724ef2c0e991611e75fdd46d02cd134928b1ec4", func := "loop.example/g01131/laws.FnExactHalfThreshold", spec := "fnExactHalfThreshold", apart := false }
def FnExactHalfThresholdSaid : Prop := fnExactHalfThresholdRow.holds Try.pinned (OpenSpec.ofChange fnExactHalfThresholdSpec)

/-- ITS FALSE NEIGHBOUR: 'it returns false'. Refute it at one input. -/
def fnExactHalfThresholdWrong : ChangeSpec := { name := "fnExactHalfThreshold", fn := fun _ => fun
  | [d] => { results := [.lit (.bool false)], args := [d] }
  | _ => none }
def FnExactHalfThresholdWrongFalsely : Prop := fnExactHalfThresholdRow.holds Try.pinned (OpenSpec.ofChange fnExactHalfThresholdWrong)

/-- 'laws.FnExactCountWins': WHATEVER THE INPUT: true; the input reads as it did. -/
def fnExactCountWinsSpec : ChangeSpec := { name := "fnExactCountWins", fn := fun _ => fun
  | [d1, d2] => { results := [.lit (.bool true)], args := [d1, d2] }
  | _ => none }
def fnExactCountWinsRow : OpenClaim := { program := "ytjnllbmknblecaa", sum := "13582695d668c4137f1f9bb46724ef2c0e991611e75fdd46d02cd134928b1ec4", func := "loop.example/g01131/laws.FnExactCountWins", spec := "fnExactCountWins", recurses := true, apart := false }
def FnExactCountWinsSaid : Prop := fnExactCountWinsRow.holds Try.pinned (OpenSpec.ofChange fnExactCountWinsSpec)

/-- ITS FALSE NEIGHBOUR: 'it returns false'. Refute it at one input. -/
def fnExactCountWinsWrong : ChangeSpec := { name := "fnExactCountWins", fn := fun _ => fun
  | [d1, d2] => { results := [.lit (.bool false)], args := [d1, d2] }
  | _ => none }
def FnExactCountWinsWrongFalsely : Prop := fnExactCountWinsRow.holds Try.pinned (OpenSpec.ofChange fnExactCountWinsWrong)

/-- 'laws.FnExactIsBox': WHATEVER THE INPUT: true; the input reads as it did. -/
def fnExactIsBoxSpec : ChangeSpec := { name := "fnExactIsBox", fn := fun _ => fun
  | [d] => { results := [.lit (.bool true)], args := [d] }
  | _ => none }
def fnExactIsBoxRow : OpenClaim := { program := "ytjnllbmknblecaa", sum := "13582695d668c4137f1f9bb46724ef2c0e991611e75fdd46d02cd134928b1ec4", func := "loop.example/g01131/laws.FnExactIsBox", spec := "fnExactIsBox", apart := false }
def FnExactIsBoxSaid : Prop := fnExactIsBoxRow.holds Try.pinned (OpenSpec.ofChange fnExactIsBoxSpec)

/-- ITS FALSE NEIGHBOUR: 'it returns false'. Refute it at one input. -/
def fnExactIsBoxWrong : ChangeSpec := { name := "fnExactIsBox", fn := fun _ => fun
  | [d] => { results := [.lit (.bool false)], args := [d] }
  | _ => none }
def FnExactIsBoxWrongFalsely : Prop := fnExactIsBoxRow.holds Try.pinned (OpenSpec.ofChange fnExactIsBoxWrong)

/-- 'laws.FnExactBoxesBest': WHATEVER THE INPUT: true; the input reads as it did. -/
def fnExactBoxesBestSpec : ChangeSpec := { name := "fnExactBoxesBest", fn := fun _ => fun
  | [d] => { results := [.lit (.bool true)], args := [d] }
  | _ => none }
def fnExactBoxesBestRow : OpenClaim := { program := "ytjnllbmknblecaa", sum := "13582695d668c4137f1f9bb46724ef2c0e991611e75fdd46d02cd134928b1ec4", func := "loop.example/g01131/laws.FnExactBoxesBest", spec := "fnExactBoxesBest", recurses := true, apart := false }
def FnExactBoxesBestSaid : Prop := fnExactBoxesBestRow.holds Try.pinned (OpenSpec.ofChange fnExactBoxesBestSpec)

/-- ITS FALSE NEIGHBOUR: 'it returns false'. Refute it at one input. -/
def fnExactBoxesBestWrong : ChangeSpec := { name := "fnExactBoxesBest", fn := fun _ => fun
  | [d] => { results := [.lit (.bool false)], args := [d] }
  | _ => none }
def FnExactBoxesBestWrongFalsely : Prop := fnExactBoxesBestRow.holds Try.pinned (OpenSpec.ofChange fnExactBoxesBestWrong)

/-- 'laws.FnProphets': WHATEVER THE INPUT: true; the input reads as it did. -/
def fnProphetsSpec : ChangeSpec := { name := "fnProphets", fn := fun _ => fun
  | [d] => { results := [.lit (.bool true)], args := [d] }
  | _ => none }
def fnProphetsRow : OpenClaim := { program := "ytjnllbmknblecaa", sum := "13582695d668c4137f1f9bb46724ef2c0e991611e75fdd46d02cd134928b1ec4", func := "loop.example/g01131/laws.FnProphets", spec := "fnProphets", apart := false }
def FnProphetsSaid : Prop := fnProphetsRow.holds Try.pinned (OpenSpec.ofChange fnProphetsSpec)

/-- ITS FALSE NEIGHBOUR: 'it returns false'. Refute it at one input. -/
def fnProphetsWrong : ChangeSpec := { name := "fnProphets", fn := fun _ => fun
  | [d] => { results := [.lit (.bool false)], args := [d] }
  | _ => none }
def FnProphetsWrongFalsely : Prop := fnProphetsRow.holds Try.pinned (OpenSpec.ofChange fnProphetsWrong)

/- THE SECOND FORM. 'bulk': how many values and letters a reading holds, each counted each time it is reached (what is shared counts as often as it is met; a slice's spare places count too). A statement '..UptoSaid' is the law's where the arguments, and the package variables that the reading takes, are together of bulk at most 1048576: NARROWER than '..Said'. Prove '..Said' where nothing that the law and all that it calls make is longer than what came in: it says more and counts as full. Else prove '..UptoSaid'. A law counts once. -/
mutual
def uptoBulk {H : Type} : DataW H → Nat
  | .lit (.string bytes) => bytes.length + 1
  | .lit _ => 1
  | .nil => 1
  | .ptr d => uptoBulk d + 1
  | .slice elems spare => uptoBulkAll elems + uptoBulkAll spare + 1
  | .agg parts => uptoBulkAll parts + 1
  | .iface _ d => uptoBulk d + 1
  | .map entries => uptoBulkEntries entries + 1
  | .held _ => 1
def uptoBulkAll {H : Type} : List (DataW H) → Nat
  | [] => 0
  | d :: r => uptoBulk d + uptoBulkAll r
def uptoBulkEntries {H : Type} : List (Lit × DataW H) → Nat
  | [] => 0
  | x :: r => uptoBulkEntry x + uptoBulkEntries r
def uptoBulkEntry {H : Type} : Lit × DataW H → Nat
  | (.string bytes, d) => bytes.length + uptoBulk d + 1
  | (_, d) => uptoBulk d + 1
 end
def uptoSmall : (H : Type) → List (DataW H) → Bool := fun _ ds => decide (uptoBulkAll ds ≤ 1048576)
def OpenSpec.upto (s : _root_.Go.ChangeSpec) : _root_.Go.OpenSpec := { _root_.Go.OpenSpec.ofChange s with cond := some uptoSmall }

/-- 'laws.FnExactIsLaw', WHERE WHAT IT READS IS OF BULK AT MOST 1048576: true; the input reads as it did. -/
def fnExactIsLawUptoRow : OpenClaim := { program := "ytjnllbmknblecaa", sum := "13582695d668c4137f1f9bb46724ef2c0e991611e75fdd46d02cd134928b1ec4", func := "loop.example/g01131/laws.FnExactIsLaw", spec := "fnExactIsLaw", apart := false, narrowed := true }
def FnExactIsLawUptoSaid : Prop := fnExactIsLawUptoRow.holds Try.pinned (OpenSpec.upto fnExactIsLawSpec)

/-- 'laws.FnExactLawMean', WHERE WHAT IT READS IS OF BULK AT MOST 1048576: true; the input reads as it did. -/
def fnExactLawMeanUptoRow : OpenClaim := { program := "ytjnllbmknblecaa", sum := "13582695d668c4137f1f9bb46724ef2c0e991611e75fdd46d02cd134928b1ec4", func := "loop.example/g01131/laws.FnExactLawMean", spec := "fnExactLawMean", apart := false, narrowed := true }
def FnExactLawMeanUptoSaid : Prop := fnExactLawMeanUptoRow.holds Try.pinned (OpenSpec.upto fnExactLawMeanSpec)

/-- 'laws.FnExactBestOfLaws', WHERE WHAT IT READS IS OF BULK AT MOST 1048576: true; the input reads as it did. -/
def fnExactBestOfLawsUptoRow : OpenClaim := { program := "ytjnllbmknblecaa", sum := "13582695d668c4137f1f9bb46724ef2c0e991611e75fdd46d02cd134928b1ec4", func := "loop.example/g01131/laws.FnExactBestOfLaws", spec := "fnExactBestOfLaws", apart := false, narrowed := true }
def FnExactBestOfLawsUptoSaid : Prop := fnExactBestOfLawsUptoRow.holds Try.pinned (OpenSpec.upto fnExactBestOfLawsSpec)

/-- 'laws.FnExactProphetMean', WHERE WHAT IT READS IS OF BULK AT MOST 1048576: true; the input reads as it did. -/
def fnExactProphetMeanUptoRow : OpenClaim := { program := "ytjnllbmknblecaa", sum := "13582695d668c4137f1f9bb46724ef2c0e991611e75fdd46d02cd134928b1ec4", func := "loop.example/g01131/laws.FnExactProphetMean", spec := "fnExactProphetMean", apart := false, narrowed := true }
def FnExactProphetMeanUptoSaid : Prop := fnExactProphetMeanUptoRow.holds Try.pinned (OpenSpec.upto fnExactProphetMeanSpec)

/-- 'laws.FnExactThresholdMean', WHERE WHAT IT READS IS OF BULK AT MOST 1048576: true; the input reads as it did. -/
def fnExactThresholdMeanUptoRow : OpenClaim := { program := "ytjnllbmknblecaa", sum := "13582695d668c4137f1f9bb46724ef2c0e991611e75fdd46d02cd134928b1ec4", func := "loop.example/g01131/laws.FnExactThresholdMean", spec := "fnExactThresholdMean", apart := false, narrowed := true }
def FnExactThresholdMeanUptoSaid : Prop := fnExactThresholdMeanUptoRow.holds Try.pinned (OpenSpec.upto fnExactThresholdMeanSpec)

/-- 'laws.FnExactGamblerTable', WHERE WHAT IT READS IS OF BULK AT MOST 1048576: true; the input reads as it did. -/
def fnExactGamblerTableUptoRow : OpenClaim := { program := "ytjnllbmknblecaa", sum := "13582695d668c4137f1f9bb46724ef2c0e991611e75fdd46d02cd134928b1ec4", func := "loop.example/g01131/laws.FnExactGamblerTable", spec := "fnExactGamblerTable", apart := false, narrowed := true }
def FnExactGamblerTableUptoSaid : Prop := fnExactGamblerTableUptoRow.holds Try.pinned (OpenSpec.upto fnExactGamblerTableSpec)

/-- 'laws.FnExactGamblerMean', WHERE WHAT IT READS IS OF BULK AT MOST 1048576: true; the input reads as it did. -/
def fnExactGamblerMeanUptoRow : OpenClaim := { program := "ytjnllbmknblecaa", sum := "13582695d668c4137f1f9bb46724ef2c0e991611e75fdd46d02cd134928b1ec4", func := "loop.example/g01131/laws.FnExactGamblerMean", spec := "fnExactGamblerMean", apart := false, narrowed := true }
def FnExactGamblerMeanUptoSaid : Prop := fnExactGamblerMeanUptoRow.holds Try.pinned (OpenSpec.upto fnExactGamblerMeanSpec)

/-- 'laws.FnExactHalfThreshold', WHERE WHAT IT READS IS OF BULK AT MOST 1048576: true; the input reads as it did. -/
def fnExactHalfThresholdUptoRow : OpenClaim := { program := "ytjnllbmknblecaa", sum := "13582695d668c4137f1f9bb46724ef2c0e991611e75fdd46d02cd134928b1ec4", func := "loop.example/g01131/laws.FnExactHalfThreshold", spec := "fnExactHalfThreshold", apart := false, narrowed := true }
def FnExactHalfThresholdUptoSaid : Prop := fnExactHalfThresholdUptoRow.holds Try.pinned (OpenSpec.upto fnExactHalfThresholdSpec)

/-- 'laws.FnExactCountWins', WHERE WHAT IT READS IS OF BULK AT MOST 1048576: true; the input reads as it did. -/
def fnExactCountWinsUptoRow : OpenClaim := { program := "ytjnllbmknblecaa", sum := "13582695d668c4137f1f9bb46724ef2c0e991611e75fdd46d02cd134928b1ec4", func := "loop.example/g01131/laws.FnExactCountWins", spec := "fnExactCountWins", recurses := true, apart := false, narrowed := true }
def FnExactCountWinsUptoSaid : Prop := fnExactCountWinsUptoRow.holds Try.pinned (OpenSpec.upto fnExactCountWinsSpec)

/-- 'laws.FnExactIsBox', WHERE WHAT IT READS IS OF BULK AT MOST 1048576: true; the input reads as it did. -/
def fnExactIsBoxUptoRow : OpenClaim := { program := "ytjnllbmknblecaa", sum := "13582695d668c4137f1f9bb46724ef2c0e991611e75fdd46d02cd134928b1ec4", func := "loop.example/g01131/laws.FnExactIsBox", spec := "fnExactIsBox", apart := false, narrowed := true }
def FnExactIsBoxUptoSaid : Prop := fnExactIsBoxUptoRow.holds Try.pinned (OpenSpec.upto fnExactIsBoxSpec)

/-- 'laws.FnExactBoxesBest', WHERE WHAT IT READS IS OF BULK AT MOST 1048576: true; the input reads as it did. -/
def fnExactBoxesBestUptoRow : OpenClaim := { program := "ytjnllbmknblecaa", sum := "13582695d668c4137f1f9bb46724ef2c0e991611e75fdd46d02cd134928b1ec4", func := "loop.example/g01131/laws.FnExactBoxesBest", spec := "fnExactBoxesBest", recurses := true, apart := false, narrowed := true }
def FnExactBoxesBestUptoSaid : Prop := fnExactBoxesBestUptoRow.holds Try.pinned (OpenSpec.upto fnExactBoxesBestSpec)

/-- 'laws.FnProphets', WHERE WHAT IT READS IS OF BULK AT MOST 1048576: true; the input reads as it did. -/
def fnProphetsUptoRow : OpenClaim := { program := "ytjnllbmknblecaa", sum := "13582695d668c4137f1f9bb46724ef2c0e991611e75fdd46d02cd134928b1ec4", func := "loop.example/g01131/laws.FnProphets", spec := "fnProphets", apart := false, narrowed := true }
def FnProphetsUptoSaid : Prop := fnProphetsUptoRow.holds Try.pinned (OpenSpec.upto fnProphetsSpec)

end Rows
end Go.Proofs.Ytjnllbmknblecaa
