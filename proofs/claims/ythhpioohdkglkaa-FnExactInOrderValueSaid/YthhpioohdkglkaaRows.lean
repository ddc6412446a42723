/-
  No cell of these rows narrows 'for every input' (looked for: loops, veiled, ifaces, maps, wideKeys, modest, calm, conditions, laid).
  DERIVED. THE GIVEN ROWS OF THIS SEAT. 5 by the template 'for every input the law returns true; each argument reads behind the call as it read before'; 0 by the template 'total and deterministic' (their statements: YthhpioohdkglkaaTotals.lean).
  GIVEN WITH THE SEED: the statements are not yours to turn. If you find one false, say at which input.
  Laid BY PROGRAM, IN A SANDBOX (cutbox-rows.mjs): the forced cells as the released guide's own fill.sh prints them over the translation 413ec7fad9213d29… (all of the seat's roots in one cut). By AI agents, Wed Nov 11 2026. No macro, syntax, notation, axiom, sorry.
-/
import Derived.Test.YthhpioohdkglkaaChecked
import GoSem.Claim
import GoSem.ClaimJoined
import GoSem.ClaimMapViews
import Derived.JoinedTies
import Derived.KernelRfl
namespace Go.Proofs.Ythhpioohdkglkaa
/- THE CELL 'sum', in the pinned program and in every row, IS THE sha256 OF THE DUMP (.gsa) THAT YthhpioohdkglkaaProg.lean LOADS. Nothing in Lean hashes anything: it is a label: what it is worth is what the hold of that sum in a sandbox is worth. -/
noncomputable def Try.pinned : Pinned := { name := "ythhpioohdkglkaa", sum := "413ec7fad9213d299954b480c6c9cd9158906093c9da27d5e9d3469342d6f300", checked := Try.checked }
namespace Rows
def none {H : Type} : Left H := { results := [], args := [] }

/-- 'laws.FnExactBestValue': WHATEVER THE INPUT: true; the input reads as it did. -/
def fnExactBestValueSpec : ChangeSpec := { name := "fnExactBestValue", fn := fun _ => fun
  | [d1, d2, d3] => { results := [.lit (.bool true)], args := [d1, d2, d3] }
  | _ => none }
def fnExactBestValueRow : OpenClaim := { program := "ythhpioohdkglkaa", sum := "413ec7fad9213d299954b480c6c9cd9158906093c9da27d5e9d3469342d6f300", func := "loop.example/g01131/laws.FnExactBestValue", spec := "fnExactBestValue", unfollowed := true, recurses := true, plainKeys := false, apart := false }
def FnExactBestValueSaid : Prop := fnExactBestValueRow.holds Try.pinned (OpenSpec.ofChange fnExactBestValueSpec)

/-- ITS FALSE NEIGHBOUR: 'it returns false'. Refute it at one input. -/
def fnExactBestValueWrong : ChangeSpec := { name := "fnExactBestValue", fn := fun _ => fun
  | [d1, d2, d3] => { results := [.lit (.bool false)], args := [d1, d2, d3] }
  | _ => none }
def FnExactBestValueWrongFalsely : Prop := fnExactBestValueRow.holds Try.pinned (OpenSpec.ofChange fnExactBestValueWrong)

/-- 'laws.FnExactFirstPlay': WHATEVER THE INPUT: true; the input reads as it did. -/
def fnExactFirstPlaySpec : ChangeSpec := { name := "fnExactFirstPlay", fn := fun _ => fun
  | [d1, d2, d3] => { results := [.lit (.bool true)], args := [d1, d2, d3] }
  | _ => none }
def fnExactFirstPlayRow : OpenClaim := { program := "ythhpioohdkglkaa", sum := "413ec7fad9213d299954b480c6c9cd9158906093c9da27d5e9d3469342d6f300", func := "loop.example/g01131/laws.FnExactFirstPlay", spec := "fnExactFirstPlay", unfollowed := true, recurses := true, plainKeys := false, apart := false }
def FnExactFirstPlaySaid : Prop := fnExactFirstPlayRow.holds Try.pinned (OpenSpec.ofChange fnExactFirstPlaySpec)

/-- ITS FALSE NEIGHBOUR: 'it returns false'. Refute it at one input. -/
def fnExactFirstPlayWrong : ChangeSpec := { name := "fnExactFirstPlay", fn := fun _ => fun
  | [d1, d2, d3] => { results := [.lit (.bool false)], args := [d1, d2, d3] }
  | _ => none }
def FnExactFirstPlayWrongFalsely : Prop := fnExactFirstPlayRow.holds Try.pinned (OpenSpec.ofChange fnExactFirstPlayWrong)

/-- 'laws.FnExactFeeValue': WHATEVER THE INPUT: true; the input reads as it did. -/
def fnExactFeeValueSpec : ChangeSpec := { name := "fnExactFeeValue", fn := fun _ => fun
  | [d1, d2, d3] => { results := [.lit (.bool true)], args := [d1, d2, d3] }
  | _ => none }
def fnExactFeeValueRow : OpenClaim := { program := "ythhpioohdkglkaa", sum := "413ec7fad9213d299954b480c6c9cd9158906093c9da27d5e9d3469342d6f300", func := "loop.example/g01131/laws.FnExactFeeValue", spec := "fnExactFeeValue", unfollowed := true, recurses := true, plainKeys := false, apart := false }
def FnExactFeeValueSaid : Prop := fnExactFeeValueRow.holds Try.pinned (OpenSpec.ofChange fnExactFeeValueSpec)

/-- ITS FALSE NEIGHBOUR: 'it returns false'. Refute it at one input. -/
def fnExactFeeValueWrong : ChangeSpec := { name := "fnExactFeeValue", fn := fun _ => fun
  | [d1, d2, d3] => { results := [.lit (.bool false)], args := [d1, d2, d3] }
  | _ => none }
def FnExactFeeValueWrongFalsely : Prop := fnExactFeeValueRow.holds Try.pinned (OpenSpec.ofChange fnExactFeeValueWrong)

/-- 'laws.FnExactInOrderValue': WHATEVER THE INPUT: true; the input reads as it did. -/
def fnExactInOrderValueSpec : ChangeSpec := { name := "fnExactInOrderValue", fn := fun _ => fun
  | [d1, d2, d3] => { results := [.lit (.bool true)], args := [d1, d2, d3] }
  | _ => none }
def fnExactInOrderValueRow : OpenClaim := { program := "ythhpioohdkglkaa", sum := "413ec7fad9213d299954b480c6c9cd9158906093c9da27d5e9d3469342d6f300", func := "loop.example/g01131/laws.FnExactInOrderValue", spec := "fnExactInOrderValue", unfollowed := true, recurses := true, plainKeys := false, apart := false }
def FnExactInOrderValueSaid : Prop := fnExactInOrderValueRow.holds Try.pinned (OpenSpec.ofChange fnExactInOrderValueSpec)

/-- ITS FALSE NEIGHBOUR: 'it returns false'. Refute it at one input. -/
def fnExactInOrderValueWrong : ChangeSpec := { name := "fnExactInOrderValue", fn := fun _ => fun
  | [d1, d2, d3] => { results := [.lit (.bool false)], args := [d1, d2, d3] }
  | _ => none }
def FnExactInOrderValueWrongFalsely : Prop := fnExactInOrderValueRow.holds Try.pinned (OpenSpec.ofChange fnExactInOrderValueWrong)

/-- 'laws.FnExactIndexValue': WHATEVER THE INPUT: true; the input reads as it did. -/
def fnExactIndexValueSpec : ChangeSpec := { name := "fnExactIndexValue", fn := fun _ => fun
  | [d1, d2, d3] => { results := [.lit (.bool true)], args := [d1, d2, d3] }
  | _ => none }
def fnExactIndexValueRow : OpenClaim := { program := "ythhpioohdkglkaa", sum := "413ec7fad9213d299954b480c6c9cd9158906093c9da27d5e9d3469342d6f300", func := "loop.example/g01131/laws.FnExactIndexValue", spec := "fnExactIndexValue", unfollowed := true, recurses := true, plainKeys := false, apart := false }
def FnExactIndexValueSaid : Prop := fnExactIndexValueRow.holds Try.pinned (OpenSpec.ofChange fnExactIndexValueSpec)

/-- ITS FALSE NEIGHBOUR: 'it returns false'. Refute it at one input. -/
def fnExactIndexValueWrong : ChangeSpec := { name := "fnExactIndexValue", fn := fun _ => fun
  | [d1, d2, d3] => { results := [.lit (.bool false)], args := [d1, d2, d3] }
  | _ => none }
def FnExactIndexValueWrongFalsely : Prop := fnExactIndexValueRow.holds Try.pinned (OpenSpec.ofChange fnExactIndexValueWrong)

/- THE SECOND FORM. 'bulk': how many values and letters a reading holds, each counted each time it is reached (what is shared counts as often as it is met; a slice's spare places count too). A statement '..UptoSaid' is the law's where the arguments, and the package variables that the reading takes, are together of bulk at most 1048576: NARROWER than '..Said'. Prove '..Said' where nothing that the law and all that it calls make is longer than what came in: it says more and counts as full. Else prove '..UptoSaid'. A law counts once. -/
mutual
def uptoBulk {H : Type} : DataW H → Nat
  | .lit (.string bytes) => bytes.length + 1
  | .lit _ => 1
  | .nil => 1
  | .ptr d => uptoBulk d + 1
  | .slice elems spare => uptoBulkAll elems + uptoBulkAll spare + 1
  | .agg parts => uptoBulkAll parts + 1
  | .iface _ d => uptoBulk d + 1
  | .map entries => uptoBulkEntries entries + 1
  | .held _ => 1
def uptoBulkAll {H : Type} : List (DataW H) → Nat
  | [] => 0
  | d :: r => uptoBulk d + uptoBulkAll r
def uptoBulkEntries {H : Type} : List (Lit × DataW H) → Nat
  | [] => 0
  | x :: r => uptoBulkEntry x + uptoBulkEntries r
def uptoBulkEntry {H : Type} : Lit × DataW H → Nat
  | (.string bytes, d) => bytes.length + uptoBulk d + 1
  | (_, d) => uptoBulk d + 1
 end
def uptoSmall : (H : Type) → List (DataW H) → Bool := fun _ ds => decide (uptoBulkAll ds ≤ 1048576)
def OpenSpec.upto (s : _root_.Go.ChangeSpec) : _root_.Go.OpenSpec := { _root_.Go.OpenSpec.ofChange s with cond := some uptoSmall }

/-- 'laws.FnExactBestValue', WHERE WHAT IT READS IS OF BULK AT MOST 1048576: true; the input reads as it did. -/
def fnExactBestValueUptoRow : OpenClaim := { program := "ythhpioohdkglkaa", sum := "413ec7fad9213d299954b480c6c9cd9158906093c9da27d5e9d3469342d6f300", func := "loop.example/g01131/laws.FnExactBestValue", spec := "fnExactBestValue", unfollowed := true, recurses := true, plainKeys := false, apart := false, narrowed := true }
def FnExactBestValueUptoSaid : Prop := fnExactBestValueUptoRow.holds Try.pinned (OpenSpec.upto fnExactBestValueSpec)

/-- 'laws.FnExactFirstPlay', WHERE WHAT IT READS IS OF BULK AT MOST 1048576: true; the input reads as it did. -/
def fnExactFirstPlayUptoRow : OpenClaim := { program := "ythhpioohdkglkaa", sum := "413ec7fad9213d299954b480c6c9cd9158906093c9da27d5e9d3469342d6f300", func := "loop.example/g01131/laws.FnExactFirstPlay", spec := "fnExactFirstPlay", unfollowed := true, recurses := true, plainKeys := false, apart := false, narrowed := true }
def FnExactFirstPlayUptoSaid : Prop := fnExactFirstPlayUptoRow.holds Try.pinned (OpenSpec.upto fnExactFirstPlaySpec)

/-- 'laws.FnExactFeeValue', WHERE WHAT IT READS IS OF BULK AT MOST 1048576: true; the input reads as it did. -/
def fnExactFeeValueUptoRow : OpenClaim := { program := "ythhpioohdkglkaa", sum := "413ec7fad9213d299954b480c6c9cd9158906093c9da27d5e9d3469342d6f300", func := "loop.example/g01131/laws.FnExactFeeValue", spec := "fnExactFeeValue", unfollowed := true, recurses := true, plainKeys := false, apart := false, narrowed := true }
def FnExactFeeValueUptoSaid : Prop := fnExactFeeValueUptoRow.holds Try.pinned (OpenSpec.upto fnExactFeeValueSpec)

/-- 'laws.FnExactInOrderValue', WHERE WHAT IT READS IS OF BULK AT MOST 1048576: true; the input reads as it did. -/
def fnExactInOrderValueUptoRow : OpenClaim := { program := "ythhpioohdkglkaa", sum := "413ec7fad9213d299954b480c6c9cd9158906093c9da27d5e9d3469342d6f300", func := "loop.example/g01131/laws.FnExactInOrderValue", spec := "fnExactInOrderValue", unfollowed := true, recurses := true, plainKeys := false, apart := false, narrowed := true }
def FnExactInOrderValueUptoSaid : Prop := fnExactInOrderValueUptoRow.holds Try.pinned (OpenSpec.upto fnExactInOrderValueSpec)

/-- 'laws.FnExactIndexValue', WHERE WHAT IT READS IS OF BULK AT MOST 1048576: true; the input reads as it did. -/
def fnExactIndexValueUptoRow : OpenClaim := { program := "ythhpioohdkglkaa", sum := "413ec7fad9213d299954b480c6c9cd9158906093c9da27d5e9d3469342d6f300", func := "loop.example/g01131/laws.FnExactIndexValue", spec := "fnExactIndexValue", unfollowed := true, recurses := true, plainKeys := false, apart := false, narrowed := true }
def FnExactIndexValueUptoSaid : Prop := fnExactIndexValueUptoRow.holds Try.pinned (OpenSpec.upto fnExactIndexValueSpec)

end Rows
end Go.Proofs.Ythhpioohdkglkaa
