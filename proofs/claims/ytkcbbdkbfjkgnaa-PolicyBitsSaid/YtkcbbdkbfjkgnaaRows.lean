/-
  No cell of these rows narrows 'for every input' (looked for: loops, veiled, ifaces, maps, wideKeys, modest, calm, conditions, laid).
  DERIVED. THE GIVEN ROWS OF THIS SEAT. 3 by the template 'for every input the law returns true; each argument reads behind the call as it read before'; 0 by the template 'total and deterministic' (their statements: YtkcbbdkbfjkgnaaTotals.lean).
  GIVEN WITH THE SEED: the statements are not yours to turn. If you find one false, say at which input.
  Laid BY PROGRAM, IN A SANDBOX (cutbox-rows.mjs): the forced cells as the released guide's own fill.sh prints them over the translation c9f94ab632c2cd7a… (all of the seat's roots in one cut). By AI agents, Wed Nov 11 2026. No macro, syntax, notation, axiom, sorry.
-/
import Derived.Test.YtkcbbdkbfjkgnaaChecked
import GoSem.Claim
import GoSem.ClaimJoined
import GoSem.ClaimMapViews
import Derived.JoinedTies
import Derived.KernelRfl
namespace Go.Proofs.Ytkcbbdkbfjkgnaa
/- THE CELL 'sum', in the pinned program and in every row, IS THE sha256 OF THE DUMP (.gsa) THAT YtkcbbdkbfjkgnaaProg.lean LOADS. Nothing in Lean hashes anything: it is a label: what it is worth is what the hold of that sum in a sandbox is worth. -/
noncomputable def Try.pinned : Pinned := { name := "ytkcbbdkbfjkgnaa", sum := "c9f94ab632c2cd7abd2f947a59a2cc1c23b5ee003f769c98ed4eb42eb9f60cf4", checked := Try.checked }
namespace Rows
def none {H : Type} : Left H := { results := [], args := [] }

/-- 'pedigreelaw18.PolicyBits': WHATEVER THE INPUT: true; the input reads as it did. -/
def policyBitsSpec : ChangeSpec := { name := "policyBits", fn := fun _ => fun
  | [d1, d2] => { results := [.lit (.bool true)], args := [d1, d2] }
  | _ => none }
def policyBitsRow : OpenClaim := { program := "ytkcbbdkbfjkgnaa", sum := "c9f94ab632c2cd7abd2f947a59a2cc1c23b5ee003f769c98ed4eb42eb9f60cf4", func := "pedigree/pedigreelaw18.PolicyBits", spec := "policyBits", apart := false }
def PolicyBitsSaid : Prop := policyBitsRow.holds Try.pinned (OpenSpec.ofChange policyBitsSpec)

/-- ITS FALSE NEIGHBOUR: 'it returns false'. Refute it at one input. -/
def policyBitsWrong : ChangeSpec := { name := "policyBits", fn := fun _ => fun
  | [d1, d2] => { results := [.lit (.bool false)], args := [d1, d2] }
  | _ => none }
def PolicyBitsWrongFalsely : Prop := policyBitsRow.holds Try.pinned (OpenSpec.ofChange policyBitsWrong)

/-- 'pedigreelaw18.PolicyMay': WHATEVER THE INPUT: true; the input reads as it did. -/
def policyMaySpec : ChangeSpec := { name := "policyMay", fn := fun _ => fun
  | [d1, d2, d3] => { results := [.lit (.bool true)], args := [d1, d2, d3] }
  | _ => none }
def policyMayRow : OpenClaim := { program := "ytkcbbdkbfjkgnaa", sum := "c9f94ab632c2cd7abd2f947a59a2cc1c23b5ee003f769c98ed4eb42eb9f60cf4", func := "pedigree/pedigreelaw18.PolicyMay", spec := "policyMay", apart := false }
def PolicyMaySaid : Prop := policyMayRow.holds Try.pinned (OpenSpec.ofChange policyMaySpec)

/-- ITS FALSE NEIGHBOUR: 'it returns false'. Refute it at one input. -/
def policyMayWrong : ChangeSpec := { name := "policyMay", fn := fun _ => fun
  | [d1, d2, d3] => { results := [.lit (.bool false)], args := [d1, d2, d3] }
  | _ => none }
def PolicyMayWrongFalsely : Prop := policyMayRow.holds Try.pinned (OpenSpec.ofChange policyMayWrong)

/-- 'pedigreelaw18.PolicyParts': WHATEVER THE INPUT: true; the input reads as it did. -/
def policyPartsSpec : ChangeSpec := { name := "policyParts", fn := fun _ => fun
  | [d1, d2, d3, d4] => { results := [.lit (.bool true)], args := [d1, d2, d3, d4] }
  | _ => none }
def policyPartsRow : OpenClaim := { program := "ytkcbbdkbfjkgnaa", sum := "c9f94ab632c2cd7abd2f947a59a2cc1c23b5ee003f769c98ed4eb42eb9f60cf4", func := "pedigree/pedigreelaw18.PolicyParts", spec := "policyParts", apart := false }
def PolicyPartsSaid : Prop := policyPartsRow.holds Try.pinned (OpenSpec.ofChange policyPartsSpec)

/-- ITS FALSE NEIGHBOUR: 'it returns false'. Refute it at one input. -/
def policyPartsWrong : ChangeSpec := { name := "policyParts", fn := fun _ => fun
  | [d1, d2, d3, d4] => { results := [.lit (.bool false)], args := [d1, d2, d3, d4] }
  | _ => none }
def PolicyPartsWrongFalsely : Prop := policyPartsRow.holds Try.pinned (OpenSpec.ofChange policyPartsWrong)

/- THE SECOND FORM. 'bulk': how many values and letters a reading holds, each counted each time it is reached (what is shared counts as often as it is met; a slice's spare places count too). A statement '..UptoSaid' is the law's where the arguments, and the package variables that the reading takes, are together of bulk at most 1048576: NARROWER than '..Said'. Prove '..Said' where nothing that the law and all that it calls make is longer than what came in: it says more and counts as full. Else prove '..UptoSaid'. A law counts once. -/
mutual
def uptoBulk {H : Type} : DataW H → Nat
  | .lit (.string bytes) => bytes.length + 1
  | .lit _ => 1
  | .nil => 1
  | .ptr d => uptoBulk d + 1
  | .slice elems spare => uptoBulkAll elems + uptoBulkAll spare + 1
  | .agg parts => uptoBulkAll parts + 1
  | .iface _ d => uptoBulk d + 1
  | .map entries => uptoBulkEntries entries + 1
  | .held _ => 1
def uptoBulkAll {H : Type} : List (DataW H) → Nat
  | [] => 0
  | d :: r => uptoBulk d + uptoBulkAll r
def uptoBulkEntries {H : Type} : List (Lit × DataW H) → Nat
  | [] => 0
  | x :: r => uptoBulkEntry x + uptoBulkEntries r
def uptoBulkEntry {H : Type} : Lit × DataW H → Nat
  | (.string bytes, d) => bytes.length + uptoBulk d + 1
  | (_, d) => uptoBulk d + 1
 end
def uptoSmall : (H : Type) → List (DataW H) → Bool := fun _ ds => decide (uptoBulkAll ds ≤ 1048576)
def OpenSpec.upto (s : _root_.Go.ChangeSpec) : _root_.Go.OpenSpec := { _root_.Go.OpenSpec.ofChange s with cond := some uptoSmall }

/-- 'pedigreelaw18.PolicyBits', WHERE WHAT IT READS IS OF BULK AT MOST 1048576: true; the input reads as it did. -/
def policyBitsUptoRow : OpenClaim := { program := "ytkcbbdkbfjkgnaa", sum := "c9f94ab632c2cd7abd2f947a59a2cc1c23b5ee003f769c98ed4eb42eb9f60cf4", func := "pedigree/pedigreelaw18.PolicyBits", spec := "policyBits", apart := false, narrowed := true }
def PolicyBitsUptoSaid : Prop := policyBitsUptoRow.holds Try.pinned (OpenSpec.upto policyBitsSpec)

/-- 'pedigreelaw18.PolicyMay', WHERE WHAT IT READS IS OF BULK AT MOST 1048576: true; the input reads as it did. -/
def policyMayUptoRow : OpenClaim := { program := "ytkcbbdkbfjkgnaa", sum := "c9f94ab632c2cd7abd2f947a59a2cc1c23b5ee003f769c98ed4eb42eb9f60cf4", func := "pedigree/pedigreelaw18.PolicyMay", spec := "policyMay", apart := false, narrowed := true }
def PolicyMayUptoSaid : Prop := policyMayUptoRow.holds Try.pinned (OpenSpec.upto policyMaySpec)

/-- 'pedigreelaw18.PolicyParts', WHERE WHAT IT READS IS OF BULK AT MOST 1048576: true; the input reads as it did. -/
def policyPartsUptoRow : OpenClaim := { program := "ytkcbbdkbfjkgnaa", sum := "c9f94ab632c2cd7abd2f947a59a2cc1c23b5ee003f769c98ed4eb42eb9f60cf4", func := "pedigree/pedigreelaw18.PolicyParts", spec := "policyParts", apart := false, narrowed := true }
def PolicyPartsUptoSaid : Prop := policyPartsUptoRow.holds Try.pinned (OpenSpec.upto policyPartsSpec)

end Rows
end Go.Proofs.Ytkcbbdkbfjkgnaa
