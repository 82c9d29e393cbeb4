/-
  No cell of these rows narrows 'for every input' (looked for: loops, veiled, ifaces, maps, wideKeys, modest, calm, conditions, laid).
  DERIVED. THE GIVEN ROWS OF THIS SEAT. 6 by the template 'for every input the law returns true; each argument reads behind the call as it read before'; 0 by the template 'total and deterministic' (their statements: YtkmfdkilimkbpaaTotals.lean).
  GIVEN WITH THE SEED: the statements are not yours to turn. If you find one false, say at which input.
  Laid BY PROGRAM, IN A SANDBOX (cutbox-rows.mjs): the forced cells as the released guide's own fill.sh prints them over the translation c23bbe72a1018ca7… (all of the seat's roots in one cut). By AI agents, Wed Nov 11 2026. No macro, syntax, notation, axiom, sorry.
-/
import Derived.Test.YtkmfdkilimkbpaaChecked
import GoSem.Claim
import GoSem.ClaimJoined
import GoSem.ClaimMapViews
import Derived.JoinedTies
import Derived.KernelRfl
namespace Go.Proofs.Ytkmfdkilimkbpaa
/- THE CELL 'sum', in the pinned program and in every row, IS THE sha256 OF THE DUMP (.gsa) THAT YtkmfdkilimkbpaaProg.lean LOADS. Nothing in Lean hashes anything: it is a label: what it is worth is what the hold of that sum in a sandbox is worth. -/
noncomputable def Try.pinned : Pinned := { name := "ytkmfdkilimkbpaa", sum := "c23bbe72a1018ca79e123543a1d045762730c9ce9ad02e9d449668b12ff7052c", checked := Try.checked }
namespace Rows
def none {H : Type} : Left H := { results := [], args := [] }

/-- 'observatorylaw26.BalanceMatchesReference': WHATEVER THE INPUT: true; the input reads as it did. -/
def balanceMatchesReferenceSpec : ChangeSpec := { name := "balanceMatchesReference", fn := fun _ => fun
  | [d1, d2, d3, d4] => { results := [.lit (.bool true)], args := [d1, d2, d3, d4] }
  | _ => none }
def balanceMatchesReferenceRow : OpenClaim := { program := "ytkmfdkilimkbpaa", sum := "c23bbe72a1018ca79e123543a1d045762730c9ce9ad02e9d449668b12ff7052c", func := "observatory/observatorylaw26.BalanceMatchesReference", spec := "balanceMatchesReference", unfollowed := true, recurses := true, apart := false }
def BalanceMatchesReferenceSaid : Prop := balanceMatchesReferenceRow.holds Try.pinned (OpenSpec.ofChange balanceMatchesReferenceSpec)

/-- ITS FALSE NEIGHBOUR: 'it returns false'. Refute it at one input. -/
def balanceMatchesReferenceWrong : ChangeSpec := { name := "balanceMatchesReference", fn := fun _ => fun
  | [d1, d2, d3, d4] => { results := [.lit (.bool false)], args := [d1, d2, d3, d4] }
  | _ => none }
def BalanceMatchesReferenceWrongFalsely : Prop := balanceMatchesReferenceRow.holds Try.pinned (OpenSpec.ofChange balanceMatchesReferenceWrong)

/-- 'observatorylaw26.BalanceZeroSum': WHATEVER THE INPUT: true; the input reads as it did. -/
def balanceZeroSumSpec : ChangeSpec := { name := "balanceZeroSum", fn := fun _ => fun
  | [d1, d2] => { results := [.lit (.bool true)], args := [d1, d2] }
  | _ => none }
def balanceZeroSumRow : OpenClaim := { program := "ytkmfdkilimkbpaa", sum := "c23bbe72a1018ca79e123543a1d045762730c9ce9ad02e9d449668b12ff7052c", func := "observatory/observatorylaw26.BalanceZeroSum", spec := "balanceZeroSum", unfollowed := true, recurses := true, apart := false }
def BalanceZeroSumSaid : Prop := balanceZeroSumRow.holds Try.pinned (OpenSpec.ofChange balanceZeroSumSpec)

/-- ITS FALSE NEIGHBOUR: 'it returns false'. Refute it at one input. -/
def balanceZeroSumWrong : ChangeSpec := { name := "balanceZeroSum", fn := fun _ => fun
  | [d1, d2] => { results := [.lit (.bool false)], args := [d1, d2] }
  | _ => none }
def BalanceZeroSumWrongFalsely : Prop := balanceZeroSumRow.holds Try.pinned (OpenSpec.ofChange balanceZeroSumWrong)

/-- 'observatorylaw26.BalanceCharges': WHATEVER THE INPUT: true; the input reads as it did. -/
def balanceChargesSpec : ChangeSpec := { name := "balanceCharges", fn := fun _ => fun
  | [d1, d2, d3, d4, d5] => { results := [.lit (.bool true)], args := [d1, d2, d3, d4, d5] }
  | _ => none }
def balanceChargesRow : OpenClaim := { program := "ytkmfdkilimkbpaa", sum := "c23bbe72a1018ca79e123543a1d045762730c9ce9ad02e9d449668b12ff7052c", func := "observatory/observatorylaw26.BalanceCharges", spec := "balanceCharges", unfollowed := true, recurses := true, apart := false }
def BalanceChargesSaid : Prop := balanceChargesRow.holds Try.pinned (OpenSpec.ofChange balanceChargesSpec)

/-- ITS FALSE NEIGHBOUR: 'it returns false'. Refute it at one input. -/
def balanceChargesWrong : ChangeSpec := { name := "balanceCharges", fn := fun _ => fun
  | [d1, d2, d3, d4, d5] => { results := [.lit (.bool false)], args := [d1, d2, d3, d4, d5] }
  | _ => none }
def BalanceChargesWrongFalsely : Prop := balanceChargesRow.holds Try.pinned (OpenSpec.ofChange balanceChargesWrong)

/-- 'observatorylaw26.BalanceSteps': WHATEVER THE INPUT: true; the input reads as it did. -/
def balanceStepsSpec : ChangeSpec := { name := "balanceSteps", fn := fun _ => fun
  | [d1, d2, d3, d4, d5, d6] => { results := [.lit (.bool true)], args := [d1, d2, d3, d4, d5, d6] }
  | _ => none }
def balanceStepsRow : OpenClaim := { program := "ytkmfdkilimkbpaa", sum := "c23bbe72a1018ca79e123543a1d045762730c9ce9ad02e9d449668b12ff7052c", func := "observatory/observatorylaw26.BalanceSteps", spec := "balanceSteps", unfollowed := true, recurses := true, apart := false }
def BalanceStepsSaid : Prop := balanceStepsRow.holds Try.pinned (OpenSpec.ofChange balanceStepsSpec)

/-- ITS FALSE NEIGHBOUR: 'it returns false'. Refute it at one input. -/
def balanceStepsWrong : ChangeSpec := { name := "balanceSteps", fn := fun _ => fun
  | [d1, d2, d3, d4, d5, d6] => { results := [.lit (.bool false)], args := [d1, d2, d3, d4, d5, d6] }
  | _ => none }
def BalanceStepsWrongFalsely : Prop := balanceStepsRow.holds Try.pinned (OpenSpec.ofChange balanceStepsWrong)

/-- 'observatorylaw26.BalanceScales': WHATEVER THE INPUT: true; the input reads as it did. -/
def balanceScalesSpec : ChangeSpec := { name := "balanceScales", fn := fun _ => fun
  | [d1, d2, d3, d4] => { results := [.lit (.bool true)], args := [d1, d2, d3, d4] }
  | _ => none }
def balanceScalesRow : OpenClaim := { program := "ytkmfdkilimkbpaa", sum := "c23bbe72a1018ca79e123543a1d045762730c9ce9ad02e9d449668b12ff7052c", func := "observatory/observatorylaw26.BalanceScales", spec := "balanceScales", unfollowed := true, recurses := true, apart := false }
def BalanceScalesSaid : Prop := balanceScalesRow.holds Try.pinned (OpenSpec.ofChange balanceScalesSpec)

/-- ITS FALSE NEIGHBOUR: 'it returns false'. Refute it at one input. -/
def balanceScalesWrong : ChangeSpec := { name := "balanceScales", fn := fun _ => fun
  | [d1, d2, d3, d4] => { results := [.lit (.bool false)], args := [d1, d2, d3, d4] }
  | _ => none }
def BalanceScalesWrongFalsely : Prop := balanceScalesRow.holds Try.pinned (OpenSpec.ofChange balanceScalesWrong)

/-- 'observatorylaw26.BalanceFair': WHATEVER THE INPUT: true; the input reads as it did. -/
def balanceFairSpec : ChangeSpec := { name := "balanceFair", fn := fun _ => fun
  | [d1, d2] => { results := [.lit (.bool true)], args := [d1, d2] }
  | _ => none }
def balanceFairRow : OpenClaim := { program := "ytkmfdkilimkbpaa", sum := "c23bbe72a1018ca79e123543a1d045762730c9ce9ad02e9d449668b12ff7052c", func := "observatory/observatorylaw26.BalanceFair", spec := "balanceFair", unfollowed := true, recurses := true, apart := false }
def BalanceFairSaid : Prop := balanceFairRow.holds Try.pinned (OpenSpec.ofChange balanceFairSpec)

/-- ITS FALSE NEIGHBOUR: 'it returns false'. Refute it at one input. -/
def balanceFairWrong : ChangeSpec := { name := "balanceFair", fn := fun _ => fun
  | [d1, d2] => { results := [.lit (.bool false)], args := [d1, d2] }
  | _ => none }
def BalanceFairWrongFalsely : Prop := balanceFairRow.holds Try.pinned (OpenSpec.ofChange balanceFairWrong)

/- THE SECOND FORM. 'bulk': how many values and letters a reading holds, each counted each time it is reached (what is shared counts as often as it is met; a slice's spare places count too). A statement '..UptoSaid' is the law's where the arguments, and the package variables that the reading takes, are together of bulk at most 1048576: NARROWER than '..Said'. Prove '..Said' where nothing that the law and all that it calls make is longer than what came in: it says more and counts as full. Else prove '..UptoSaid'. A law counts once. -/
mutual
def uptoBulk {H : Type} : DataW H → Nat
  | .lit (.string bytes) => bytes.length + 1
  | .lit _ => 1
  | .nil => 1
  | .ptr d => uptoBulk d + 1
  | .slice elems spare => uptoBulkAll elems + uptoBulkAll spare + 1
  | .agg parts => uptoBulkAll parts + 1
  | .iface _ d => uptoBulk d + 1
  | .map entries => uptoBulkEntries entries + 1
  | .held _ => 1
def uptoBulkAll {H : Type} : List (DataW H) → Nat
  | [] => 0
  | d :: r => uptoBulk d + uptoBulkAll r
def uptoBulkEntries {H : Type} : List (Lit × DataW H) → Nat
  | [] => 0
  | x :: r => uptoBulkEntry x + uptoBulkEntries r
def uptoBulkEntry {H : Type} : Lit × DataW H → Nat
  | (.string bytes, d) => bytes.length + uptoBulk d + 1
  | (_, d) => uptoBulk d + 1
 end
def uptoSmall : (H : Type) → List (DataW H) → Bool := fun _ ds => decide (uptoBulkAll ds ≤ 1048576)
def OpenSpec.upto (s : _root_.Go.ChangeSpec) : _root_.Go.OpenSpec := { _root_.Go.OpenSpec.ofChange s with cond := some uptoSmall }

/-- 'observatorylaw26.BalanceMatchesReference', WHERE WHAT IT READS IS OF BULK AT MOST 1048576: true; the input reads as it did. -/
def balanceMatchesReferenceUptoRow : OpenClaim := { program := "ytkmfdkilimkbpaa", sum := "c23bbe72a1018ca79e123543a1d045762730c9ce9ad02e9d449668b12ff7052c", func := "observatory/observatorylaw26.BalanceMatchesReference", spec := "balanceMatchesReference", unfollowed := true, recurses := true, apart := false, narrowed := true }
def BalanceMatchesReferenceUptoSaid : Prop := balanceMatchesReferenceUptoRow.holds Try.pinned (OpenSpec.upto balanceMatchesReferenceSpec)

/-- 'observatorylaw26.BalanceZeroSum', WHERE WHAT IT READS IS OF BULK AT MOST 1048576: true; the input reads as it did. -/
def balanceZeroSumUptoRow : OpenClaim := { program := "ytkmfdkilimkbpaa", sum := "c23bbe72a1018ca79e123543a1d045762730c9ce9ad02e9d449668b12ff7052c", func := "observatory/observatorylaw26.BalanceZeroSum", spec := "balanceZeroSum", unfollowed := true, recurses := true, apart := false, narrowed := true }
def BalanceZeroSumUptoSaid : Prop := balanceZeroSumUptoRow.holds Try.pinned (OpenSpec.upto balanceZeroSumSpec)

/-- 'observatorylaw26.BalanceCharges', WHERE WHAT IT READS IS OF BULK AT MOST 1048576: true; the input reads as it did. -/
def balanceChargesUptoRow : OpenClaim := { program := "ytkmfdkilimkbpaa", sum := "c23bbe72a1018ca79e123543a1d045762730c9ce9ad02e9d449668b12ff7052c", func := "observatory/observatorylaw26.BalanceCharges", spec := "balanceCharges", unfollowed := true, recurses := true, apart := false, narrowed := true }
def BalanceChargesUptoSaid : Prop := balanceChargesUptoRow.holds Try.pinned (OpenSpec.upto balanceChargesSpec)

/-- 'observatorylaw26.BalanceSteps', WHERE WHAT IT READS IS OF BULK AT MOST 1048576: true; the input reads as it did. -/
def balanceStepsUptoRow : OpenClaim := { program := "ytkmfdkilimkbpaa", sum := "c23bbe72a1018ca79e123543a1d045762730c9ce9ad02e9d449668b12ff7052c", func := "observatory/observatorylaw26.BalanceSteps", spec := "balanceSteps", unfollowed := true, recurses := true, apart := false, narrowed := true }
def BalanceStepsUptoSaid : Prop := balanceStepsUptoRow.holds Try.pinned (OpenSpec.upto balanceStepsSpec)

/-- 'observatorylaw26.BalanceScales', WHERE WHAT IT READS IS OF BULK AT MOST 1048576: true; the input reads as it did. -/
def balanceScalesUptoRow : OpenClaim := { program := "ytkmfdkilimkbpaa", sum := "c23bbe72a1018ca79e123543a1d045762730c9ce9ad02e9d449668b12ff7052c", func := "observatory/observatorylaw26.BalanceScales", spec := "balanceScales", unfollowed := true, recurses := true, apart := false, narrowed := true }
def BalanceScalesUptoSaid : Prop := balanceScalesUptoRow.holds Try.pinned (OpenSpec.upto balanceScalesSpec)

/-- 'observatorylaw26.BalanceFair', WHERE WHAT IT READS IS OF BULK AT MOST 1048576: true; the input reads as it did. -/
def balanceFairUptoRow : OpenClaim := { program := "ytkmfdkilimkbpaa", sum := "c23bbe72a1018ca79e123543a1d045762730c9ce9ad02e9d449668b12ff7052c", func := "observatory/observatorylaw26.BalanceFair", spec := "balanceFair", unfollowed := true, recurses := true, apart := false, narrowed := true }
def BalanceFairUptoSaid : Prop := balanceFairUptoRow.holds Try.pinned (OpenSpec.upto balanceFairSpec)

end Rows
end Go.Proofs.Ytkmfdkilimkbpaa
