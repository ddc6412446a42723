/-
  No cell of these rows narrows 'for every input' (looked for: loops, veiled, ifaces, maps, wideKeys, modest, calm, conditions, laid).
  DERIVED. THE GIVEN ROWS OF THIS SEAT. 11 by the template 'for every input the law returns true; each argument reads behind the call as it read before'; 0 by the template 'total and deterministic' (their statements: YtchkflpdnmhboaaTotals.lean).
  GIVEN WITH THE SEED: the statements are not yours to turn. If you find one false, say at which input.
  Laid BY PROGRAM, IN A SANDBOX (cutbox-rows.mjs): the forced cells as the released guide's own fill.sh prints them over the translation 0dabb961bb3d2ac5… (all of the seat's roots in one cut). By AI agents, Wed Nov 11 2026. No macro, syntax, notation, axiom, sorry.
-/
import Derived.Test.YtchkflpdnmhboaaChecked
import GoSem.Claim
import GoSem.ClaimJoined
import GoSem.ClaimMapViews
import Derived.JoinedTies
import Derived.KernelRfl
namespace Go.Proofs.Ytchkflpdnmhboaa
/- THE CELL 'sum', in the pinned program and in every row, IS THE sha256 OF THE DUMP (.gsa) THAT YtchkflpdnmhboaaProg.lean LOADS. Nothing in Lean hashes anything: it is a label: what it is worth is what the hold of that sum in a sandbox is worth. -/
noncomputable def Try.pinned : Pinned := { name := "ytchkflpdnmhboaa", sum := "0dabb961bb3d2ac55dbd25c5b5fbc79d5af9326284b0e66a8786239f1d6e540d", checked := Try.checked }
namespace Rows
def none {H : Type} : Left H := { results := [], args := [] }

/-- 'laws.FnExactDerangedCount': WHATEVER THE INPUT: true; the input reads as it did. -/
def fnExactDerangedCountSpec : ChangeSpec := { name := "fnExactDerangedCount", fn := fun _ => fun
  | [d] => { results := [.lit (.bool true)], args := [d] }
  | _ => none }
def fnExactDerangedCountRow : OpenClaim := { program := "ytchkflpdnmhboaa", sum := "0dabb961bb3d2ac55dbd25c5b5fbc79d5af9326284b0e66a8786239f1d6e540d", func := "loop.example/g01131/laws.FnExactDerangedCount", spec := "fnExactDerangedCount", apart := false }
def FnExactDerangedCountSaid : Prop := fnExactDerangedCountRow.holds Try.pinned (OpenSpec.ofChange fnExactDerangedCountSpec)

/-- ITS FALSE NEIGHBOUR: 'it returns false'. Refute it at one input. -/
def fnExactDerangedCountWrong : ChangeSpec := { name := "fnExactDerangedCount", fn := fun _ => fun
  | [d] => { results := [.lit (.bool false)], args := [d] }
  | _ => none }
def FnExactDerangedCountWrongFalsely : Prop := fnExactDerangedCountRow.holds Try.pinned (OpenSpec.ofChange fnExactDerangedCountWrong)

/-- 'laws.FnExactCouponCounts': WHATEVER THE INPUT: true; the input reads as it did. -/
def fnExactCouponCountsSpec : ChangeSpec := { name := "fnExactCouponCounts", fn := fun _ => fun
  | [d1, d2] => { results := [.lit (.bool true)], args := [d1, d2] }
  | _ => none }
def fnExactCouponCountsRow : OpenClaim := { program := "ytchkflpdnmhboaa", sum := "0dabb961bb3d2ac55dbd25c5b5fbc79d5af9326284b0e66a8786239f1d6e540d", func := "loop.example/g01131/laws.FnExactCouponCounts", spec := "fnExactCouponCounts", apart := false }
def FnExactCouponCountsSaid : Prop := fnExactCouponCountsRow.holds Try.pinned (OpenSpec.ofChange fnExactCouponCountsSpec)

/-- ITS FALSE NEIGHBOUR: 'it returns false'. Refute it at one input. -/
def fnExactCouponCountsWrong : ChangeSpec := { name := "fnExactCouponCounts", fn := fun _ => fun
  | [d1, d2] => { results := [.lit (.bool false)], args := [d1, d2] }
  | _ => none }
def FnExactCouponCountsWrongFalsely : Prop := fnExactCouponCountsRow.holds Try.pinned (OpenSpec.ofChange fnExactCouponCountsWrong)

/-- 'laws.FnExactRecordCounts': WHATEVER THE INPUT: true; the input reads as it did. -/
def fnExactRecordCountsSpec : ChangeSpec := { name := "fnExactRecordCounts", fn := fun _ => fun
  | [d] => { results := [.lit (.bool true)], args := [d] }
  | _ => none }
def fnExactRecordCountsRow : OpenClaim := { program := "ytchkflpdnmhboaa", sum := "0dabb961bb3d2ac55dbd25c5b5fbc79d5af9326284b0e66a8786239f1d6e540d", func := "loop.example/g01131/laws.FnExactRecordCounts", spec := "fnExactRecordCounts", apart := false }
def FnExactRecordCountsSaid : Prop := fnExactRecordCountsRow.holds Try.pinned (OpenSpec.ofChange fnExactRecordCountsSpec)

/-- ITS FALSE NEIGHBOUR: 'it returns false'. Refute it at one input. -/
def fnExactRecordCountsWrong : ChangeSpec := { name := "fnExactRecordCounts", fn := fun _ => fun
  | [d] => { results := [.lit (.bool false)], args := [d] }
  | _ => none }
def FnExactRecordCountsWrongFalsely : Prop := fnExactRecordCountsRow.holds Try.pinned (OpenSpec.ofChange fnExactRecordCountsWrong)

/-- 'laws.FnExactUrnMean': WHATEVER THE INPUT: true; the input reads as it did. -/
def fnExactUrnMeanSpec : ChangeSpec := { name := "fnExactUrnMean", fn := fun _ => fun
  | [d1, d2, d3, d4] => { results := [.lit (.bool true)], args := [d1, d2, d3, d4] }
  | _ => none }
def fnExactUrnMeanRow : OpenClaim := { program := "ytchkflpdnmhboaa", sum := "0dabb961bb3d2ac55dbd25c5b5fbc79d5af9326284b0e66a8786239f1d6e540d", func := "loop.example/g01131/laws.FnExactUrnMean", spec := "fnExactUrnMean", apart := false }
def FnExactUrnMeanSaid : Prop := fnExactUrnMeanRow.holds Try.pinned (OpenSpec.ofChange fnExactUrnMeanSpec)

/-- ITS FALSE NEIGHBOUR: 'it returns false'. Refute it at one input. -/
def fnExactUrnMeanWrong : ChangeSpec := { name := "fnExactUrnMean", fn := fun _ => fun
  | [d1, d2, d3, d4] => { results := [.lit (.bool false)], args := [d1, d2, d3, d4] }
  | _ => none }
def FnExactUrnMeanWrongFalsely : Prop := fnExactUrnMeanRow.holds Try.pinned (OpenSpec.ofChange fnExactUrnMeanWrong)

/-- 'laws.FnExactMatchCounts': WHATEVER THE INPUT: true; the input reads as it did. -/
def fnExactMatchCountsSpec : ChangeSpec := { name := "fnExactMatchCounts", fn := fun _ => fun
  | [d] => { results := [.lit (.bool true)], args := [d] }
  | _ => none }
def fnExactMatchCountsRow : OpenClaim := { program := "ytchkflpdnmhboaa", sum := "0dabb961bb3d2ac55dbd25c5b5fbc79d5af9326284b0e66a8786239f1d6e540d", func := "loop.example/g01131/laws.FnExactMatchCounts", spec := "fnExactMatchCounts", apart := false }
def FnExactMatchCountsSaid : Prop := fnExactMatchCountsRow.holds Try.pinned (OpenSpec.ofChange fnExactMatchCountsSpec)

/-- ITS FALSE NEIGHBOUR: 'it returns false'. Refute it at one input. -/
def fnExactMatchCountsWrong : ChangeSpec := { name := "fnExactMatchCounts", fn := fun _ => fun
  | [d] => { results := [.lit (.bool false)], args := [d] }
  | _ => none }
def FnExactMatchCountsWrongFalsely : Prop := fnExactMatchCountsRow.holds Try.pinned (OpenSpec.ofChange fnExactMatchCountsWrong)

/-- 'laws.FnExactOverlapsOf': WHATEVER THE INPUT: true; the input reads as it did. -/
def fnExactOverlapsOfSpec : ChangeSpec := { name := "fnExactOverlapsOf", fn := fun _ => fun
  | [d1, d2, d3] => { results := [.lit (.bool true)], args := [d1, d2, d3] }
  | _ => none }
def fnExactOverlapsOfRow : OpenClaim := { program := "ytchkflpdnmhboaa", sum := "0dabb961bb3d2ac55dbd25c5b5fbc79d5af9326284b0e66a8786239f1d6e540d", func := "loop.example/g01131/laws.FnExactOverlapsOf", spec := "fnExactOverlapsOf", apart := false }
def FnExactOverlapsOfSaid : Prop := fnExactOverlapsOfRow.holds Try.pinned (OpenSpec.ofChange fnExactOverlapsOfSpec)

/-- ITS FALSE NEIGHBOUR: 'it returns false'. Refute it at one input. -/
def fnExactOverlapsOfWrong : ChangeSpec := { name := "fnExactOverlapsOf", fn := fun _ => fun
  | [d1, d2, d3] => { results := [.lit (.bool false)], args := [d1, d2, d3] }
  | _ => none }
def FnExactOverlapsOfWrongFalsely : Prop := fnExactOverlapsOfRow.holds Try.pinned (OpenSpec.ofChange fnExactOverlapsOfWrong)

/-- 'laws.FnExactWordWait': WHATEVER THE INPUT: true; the input reads as it did. -/
def fnExactWordWaitSpec : ChangeSpec := { name := "fnExactWordWait", fn := fun _ => fun
  | [d1, d2] => { results := [.lit (.bool true)], args := [d1, d2] }
  | _ => none }
def fnExactWordWaitRow : OpenClaim := { program := "ytchkflpdnmhboaa", sum := "0dabb961bb3d2ac55dbd25c5b5fbc79d5af9326284b0e66a8786239f1d6e540d", func := "loop.example/g01131/laws.FnExactWordWait", spec := "fnExactWordWait", apart := false }
def FnExactWordWaitSaid : Prop := fnExactWordWaitRow.holds Try.pinned (OpenSpec.ofChange fnExactWordWaitSpec)

/-- ITS FALSE NEIGHBOUR: 'it returns false'. Refute it at one input. -/
def fnExactWordWaitWrong : ChangeSpec := { name := "fnExactWordWait", fn := fun _ => fun
  | [d1, d2] => { results := [.lit (.bool false)], args := [d1, d2] }
  | _ => none }
def FnExactWordWaitWrongFalsely : Prop := fnExactWordWaitRow.holds Try.pinned (OpenSpec.ofChange fnExactWordWaitWrong)

/-- 'laws.FnExactFirstFound': WHATEVER THE INPUT: true; the input reads as it did. -/
def fnExactFirstFoundSpec : ChangeSpec := { name := "fnExactFirstFound", fn := fun _ => fun
  | [d1, d2, d3] => { results := [.lit (.bool true)], args := [d1, d2, d3] }
  | _ => none }
def fnExactFirstFoundRow : OpenClaim := { program := "ytchkflpdnmhboaa", sum := "0dabb961bb3d2ac55dbd25c5b5fbc79d5af9326284b0e66a8786239f1d6e540d", func := "loop.example/g01131/laws.FnExactFirstFound", spec := "fnExactFirstFound", apart := false }
def FnExactFirstFoundSaid : Prop := fnExactFirstFoundRow.holds Try.pinned (OpenSpec.ofChange fnExactFirstFoundSpec)

/-- ITS FALSE NEIGHBOUR: 'it returns false'. Refute it at one input. -/
def fnExactFirstFoundWrong : ChangeSpec := { name := "fnExactFirstFound", fn := fun _ => fun
  | [d1, d2, d3] => { results := [.lit (.bool false)], args := [d1, d2, d3] }
  | _ => none }
def FnExactFirstFoundWrongFalsely : Prop := fnExactFirstFoundRow.holds Try.pinned (OpenSpec.ofChange fnExactFirstFoundWrong)

/-- 'laws.FnExactTeamWins': WHATEVER THE INPUT: true; the input reads as it did. -/
def fnExactTeamWinsSpec : ChangeSpec := { name := "fnExactTeamWins", fn := fun _ => fun
  | [d1, d2, d3] => { results := [.lit (.bool true)], args := [d1, d2, d3] }
  | _ => none }
def fnExactTeamWinsRow : OpenClaim := { program := "ytchkflpdnmhboaa", sum := "0dabb961bb3d2ac55dbd25c5b5fbc79d5af9326284b0e66a8786239f1d6e540d", func := "loop.example/g01131/laws.FnExactTeamWins", spec := "fnExactTeamWins", apart := false }
def FnExactTeamWinsSaid : Prop := fnExactTeamWinsRow.holds Try.pinned (OpenSpec.ofChange fnExactTeamWinsSpec)

/-- ITS FALSE NEIGHBOUR: 'it returns false'. Refute it at one input. -/
def fnExactTeamWinsWrong : ChangeSpec := { name := "fnExactTeamWins", fn := fun _ => fun
  | [d1, d2, d3] => { results := [.lit (.bool false)], args := [d1, d2, d3] }
  | _ => none }
def FnExactTeamWinsWrongFalsely : Prop := fnExactTeamWinsRow.holds Try.pinned (OpenSpec.ofChange fnExactTeamWinsWrong)

/-- 'laws.FnExactWordOdds': WHATEVER THE INPUT: true; the input reads as it did. -/
def fnExactWordOddsSpec : ChangeSpec := { name := "fnExactWordOdds", fn := fun _ => fun
  | [d1, d2, d3] => { results := [.lit (.bool true)], args := [d1, d2, d3] }
  | _ => none }
def fnExactWordOddsRow : OpenClaim := { program := "ytchkflpdnmhboaa", sum := "0dabb961bb3d2ac55dbd25c5b5fbc79d5af9326284b0e66a8786239f1d6e540d", func := "loop.example/g01131/laws.FnExactWordOdds", spec := "fnExactWordOdds", apart := false }
def FnExactWordOddsSaid : Prop := fnExactWordOddsRow.holds Try.pinned (OpenSpec.ofChange fnExactWordOddsSpec)

/-- ITS FALSE NEIGHBOUR: 'it returns false'. Refute it at one input. -/
def fnExactWordOddsWrong : ChangeSpec := { name := "fnExactWordOdds", fn := fun _ => fun
  | [d1, d2, d3] => { results := [.lit (.bool false)], args := [d1, d2, d3] }
  | _ => none }
def FnExactWordOddsWrongFalsely : Prop := fnExactWordOddsRow.holds Try.pinned (OpenSpec.ofChange fnExactWordOddsWrong)

/-- 'laws.FnWords': WHATEVER THE INPUT: true; the input reads as it did. -/
def fnWordsSpec : ChangeSpec := { name := "fnWords", fn := fun _ => fun
  | [d] => { results := [.lit (.bool true)], args := [d] }
  | _ => none }
def fnWordsRow : OpenClaim := { program := "ytchkflpdnmhboaa", sum := "0dabb961bb3d2ac55dbd25c5b5fbc79d5af9326284b0e66a8786239f1d6e540d", func := "loop.example/g01131/laws.FnWords", spec := "fnWords", apart := false }
def FnWordsSaid : Prop := fnWordsRow.holds Try.pinned (OpenSpec.ofChange fnWordsSpec)

/-- ITS FALSE NEIGHBOUR: 'it returns false'. Refute it at one input. -/
def fnWordsWrong : ChangeSpec := { name := "fnWords", fn := fun _ => fun
  | [d] => { results := [.lit (.bool false)], args := [d] }
  | _ => none }
def FnWordsWrongFalsely : Prop := fnWordsRow.holds Try.pinned (OpenSpec.ofChange fnWordsWrong)

/- THE SECOND FORM. 'bulk': how many values and letters a reading holds, each counted each time it is reached (what is shared counts as often as it is met; a slice's spare places count too). A statement '..UptoSaid' is the law's where the arguments, and the package variables that the reading takes, are together of bulk at most 1048576: NARROWER than '..Said'. Prove '..Said' where nothing that the law and all that it calls make is longer than what came in: it says more and counts as full. Else prove '..UptoSaid'. A law counts once. -/
mutual
def uptoBulk {H : Type} : DataW H → Nat
  | .lit (.string bytes) => bytes.length + 1
  | .lit _ => 1
  | .nil => 1
  | .ptr d => uptoBulk d + 1
  | .slice elems spare => uptoBulkAll elems + uptoBulkAll spare + 1
  | .agg parts => uptoBulkAll parts + 1
  | .iface _ d => uptoBulk d + 1
  | .map entries => uptoBulkEntries entries + 1
  | .held _ => 1
def uptoBulkAll {H : Type} : List (DataW H) → Nat
  | [] => 0
  | d :: r => uptoBulk d + uptoBulkAll r
def uptoBulkEntries {H : Type} : List (Lit × DataW H) → Nat
  | [] => 0
  | x :: r => uptoBulkEntry x + uptoBulkEntries r
def uptoBulkEntry {H : Type} : Lit × DataW H → Nat
  | (.string bytes, d) => bytes.length + uptoBulk d + 1
  | (_, d) => uptoBulk d + 1
 end
def uptoSmall : (H : Type) → List (DataW H) → Bool := fun _ ds => decide (uptoBulkAll ds ≤ 1048576)
def OpenSpec.upto (s : _root_.Go.ChangeSpec) : _root_.Go.OpenSpec := { _root_.Go.OpenSpec.ofChange s with cond := some uptoSmall }

/-- 'laws.FnExactDerangedCount', WHERE WHAT IT READS IS OF BULK AT MOST 1048576: true; the input reads as it did. -/
def fnExactDerangedCountUptoRow : OpenClaim := { program := "ytchkflpdnmhboaa", sum := "0dabb961bb3d2ac55dbd25c5b5fbc79d5af9326284b0e66a8786239f1d6e540d", func := "loop.example/g01131/laws.FnExactDerangedCount", spec := "fnExactDerangedCount", apart := false, narrowed := true }
def FnExactDerangedCountUptoSaid : Prop := fnExactDerangedCountUptoRow.holds Try.pinned (OpenSpec.upto fnExactDerangedCountSpec)

/-- 'laws.FnExactCouponCounts', WHERE WHAT IT READS IS OF BULK AT MOST 1048576: true; the input reads as it did. -/
def fnExactCouponCountsUptoRow : OpenClaim := { program := "ytchkflpdnmhboaa", sum := "0dabb961bb3d2ac55dbd25c5b5fbc79d5af9326284b0e66a8786239f1d6e540d", func := "loop.example/g01131/laws.FnExactCouponCounts", spec := "fnExactCouponCounts", apart := false, narrowed := true }
def FnExactCouponCountsUptoSaid : Prop := fnExactCouponCountsUptoRow.holds Try.pinned (OpenSpec.upto fnExactCouponCountsSpec)

/-- 'laws.FnExactRecordCounts', WHERE WHAT IT READS IS OF BULK AT MOST 1048576: true; the input reads as it did. -/
def fnExactRecordCountsUptoRow : OpenClaim := { program := "ytchkflpdnmhboaa", sum := "0dabb961bb3d2ac55dbd25c5b5fbc79d5af9326284b0e66a8786239f1d6e540d", func := "loop.example/g01131/laws.FnExactRecordCounts", spec := "fnExactRecordCounts", apart := false, narrowed := true }
def FnExactRecordCountsUptoSaid : Prop := fnExactRecordCountsUptoRow.holds Try.pinned (OpenSpec.upto fnExactRecordCountsSpec)

/-- 'laws.FnExactUrnMean', WHERE WHAT IT READS IS OF BULK AT MOST 1048576: true; the input reads as it did. -/
def fnExactUrnMeanUptoRow : OpenClaim := { program := "ytchkflpdnmhboaa", sum := "0dabb961bb3d2ac55dbd25c5b5fbc79d5af9326284b0e66a8786239f1d6e540d", func := "loop.example/g01131/laws.FnExactUrnMean", spec := "fnExactUrnMean", apart := false, narrowed := true }
def FnExactUrnMeanUptoSaid : Prop := fnExactUrnMeanUptoRow.holds Try.pinned (OpenSpec.upto fnExactUrnMeanSpec)

/-- 'laws.FnExactMatchCounts', WHERE WHAT IT READS IS OF BULK AT MOST 1048576: true; the input reads as it did. -/
def fnExactMatchCountsUptoRow : OpenClaim := { program := "ytchkflpdnmhboaa", sum := "0dabb961bb3d2ac55dbd25c5b5fbc79d5af9326284b0e66a8786239f1d6e540d", func := "loop.example/g01131/laws.FnExactMatchCounts", spec := "fnExactMatchCounts", apart := false, narrowed := true }
def FnExactMatchCountsUptoSaid : Prop := fnExactMatchCountsUptoRow.holds Try.pinned (OpenSpec.upto fnExactMatchCountsSpec)

/-- 'laws.FnExactOverlapsOf', WHERE WHAT IT READS IS OF BULK AT MOST 1048576: true; the input reads as it did. -/
def fnExactOverlapsOfUptoRow : OpenClaim := { program := "ytchkflpdnmhboaa", sum := "0dabb961bb3d2ac55dbd25c5b5fbc79d5af9326284b0e66a8786239f1d6e540d", func := "loop.example/g01131/laws.FnExactOverlapsOf", spec := "fnExactOverlapsOf", apart := false, narrowed := true }
def FnExactOverlapsOfUptoSaid : Prop := fnExactOverlapsOfUptoRow.holds Try.pinned (OpenSpec.upto fnExactOverlapsOfSpec)

/-- 'laws.FnExactWordWait', WHERE WHAT IT READS IS OF BULK AT MOST 1048576: true; the input reads as it did. -/
def fnExactWordWaitUptoRow : OpenClaim := { program := "ytchkflpdnmhboaa", sum := "0dabb961bb3d2ac55dbd25c5b5fbc79d5af9326284b0e66a8786239f1d6e540d", func := "loop.example/g01131/laws.FnExactWordWait", spec := "fnExactWordWait", apart := false, narrowed := true }
def FnExactWordWaitUptoSaid : Prop := fnExactWordWaitUptoRow.holds Try.pinned (OpenSpec.upto fnExactWordWaitSpec)

/-- 'laws.FnExactFirstFound', WHERE WHAT IT READS IS OF BULK AT MOST 1048576: true; the input reads as it did. -/
def fnExactFirstFoundUptoRow : OpenClaim := { program := "ytchkflpdnmhboaa", sum := "0dabb961bb3d2ac55dbd25c5b5fbc79d5af9326284b0e66a8786239f1d6e540d", func := "loop.example/g01131/laws.FnExactFirstFound", spec := "fnExactFirstFound", apart := false, narrowed := true }
def FnExactFirstFoundUptoSaid : Prop := fnExactFirstFoundUptoRow.holds Try.pinned (OpenSpec.upto fnExactFirstFoundSpec)

/-- 'laws.FnExactTeamWins', WHERE WHAT IT READS IS OF BULK AT MOST 1048576: true; the input reads as it did. -/
def fnExactTeamWinsUptoRow : OpenClaim := { program := "ytchkflpdnmhboaa", sum := "0dabb961bb3d2ac55dbd25c5b5fbc79d5af9326284b0e66a8786239f1d6e540d", func := "loop.example/g01131/laws.FnExactTeamWins", spec := "fnExactTeamWins", apart := false, narrowed := true }
def FnExactTeamWinsUptoSaid : Prop := fnExactTeamWinsUptoRow.holds Try.pinned (OpenSpec.upto fnExactTeamWinsSpec)

/-- 'laws.FnExactWordOdds', WHERE WHAT IT READS IS OF BULK AT MOST 1048576: true; the input reads as it did. -/
def fnExactWordOddsUptoRow : OpenClaim := { program := "ytchkflpdnmhboaa", sum := "0dabb961bb3d2ac55dbd25c5b5fbc79d5af9326284b0e66a8786239f1d6e540d", func := "loop.example/g01131/laws.FnExactWordOdds", spec := "fnExactWordOdds", apart := false, narrowed := true }
def FnExactWordOddsUptoSaid : Prop := fnExactWordOddsUptoRow.holds Try.pinned (OpenSpec.upto fnExactWordOddsSpec)

/-- 'laws.FnWords', WHERE WHAT IT READS IS OF BULK AT MOST 1048576: true; the input reads as it did. -/
def fnWordsUptoRow : OpenClaim := { program := "ytchkflpdnmhboaa", sum := "0dabb961bb3d2ac55dbd25c5b5fbc79d5af9326284b0e66a8786239f1d6e540d", func := "loop.example/g01131/laws.FnWords", spec := "fnWords", apart := false, narrowed := true }
def FnWordsUptoSaid : Prop := fnWordsUptoRow.holds Try.pinned (OpenSpec.upto fnWordsSpec)

end Rows
end Go.Proofs.Ytchkflpdnmhboaa
