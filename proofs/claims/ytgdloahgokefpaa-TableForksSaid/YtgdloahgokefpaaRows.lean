/-
  No cell of these rows narrows 'for every input' (looked for: loops, veiled, ifaces, maps, wideKeys, modest, calm, conditions, laid).
  DERIVED. THE GIVEN ROWS OF THIS SEAT. 5 by the template 'for every input the law returns true; each argument reads behind the call as it read before'; 0 by the template 'total and deterministic' (their statements: YtgdloahgokefpaaTotals.lean).
  GIVEN WITH THE SEED: the statements are not yours to turn. If you find one false, say at which input.
  Laid BY PROGRAM, IN A SANDBOX (cutbox-rows.mjs): the forced cells as the released guide's own fill.sh prints them over the translation 0f4c9e849e6715a3… (all of the seat's roots in one cut). By AI agents, Wed Nov 11 2026. No macro, syntax, notation, axiom, sorry.
-/
import Derived.Test.YtgdloahgokefpaaChecked
import GoSem.Claim
import GoSem.ClaimJoined
import GoSem.ClaimMapViews
import Derived.JoinedTies
import Derived.KernelRfl
namespace Go.Proofs.Ytgdloahgokefpaa
/- THE CELL 'sum', in the pinned program and in every row, IS THE sha256 OF THE DUMP (.gsa) THAT YtgdloahgokefpaaProg.lean LOADS. Nothing in Lean hashes anything: it is a label: what it is worth is what the hold of that sum in a sandbox is worth. -/
noncomputable def Try.pinned : Pinned := { name := "ytgdloahgokefpaa", sum := "0f4c9e849e6715a31c98fe312d42785a4c1527bb52c2c93bcd5d104311ffe38f", checked := Try.checked }
namespace Rows
def none {H : Type} : Left H := { results := [], args := [] }

/-- 'pedigreelaw14.TableUses': WHATEVER THE INPUT: true; the input reads as it did. -/
def tableUsesSpec : ChangeSpec := { name := "tableUses", fn := fun _ => fun
  | [d1, d2] => { results := [.lit (.bool true)], args := [d1, d2] }
  | _ => none }
def tableUsesRow : OpenClaim := { program := "ytgdloahgokefpaa", sum := "0f4c9e849e6715a31c98fe312d42785a4c1527bb52c2c93bcd5d104311ffe38f", func := "pedigree/pedigreelaw14.TableUses", spec := "tableUses", apart := false }
def TableUsesSaid : Prop := tableUsesRow.holds Try.pinned (OpenSpec.ofChange tableUsesSpec)

/-- ITS FALSE NEIGHBOUR: 'it returns false'. Refute it at one input. -/
def tableUsesWrong : ChangeSpec := { name := "tableUses", fn := fun _ => fun
  | [d1, d2] => { results := [.lit (.bool false)], args := [d1, d2] }
  | _ => none }
def TableUsesWrongFalsely : Prop := tableUsesRow.holds Try.pinned (OpenSpec.ofChange tableUsesWrong)

/-- 'pedigreelaw14.TableNumbers': WHATEVER THE INPUT: true; the input reads as it did. -/
def tableNumbersSpec : ChangeSpec := { name := "tableNumbers", fn := fun _ => fun
  | [d] => { results := [.lit (.bool true)], args := [d] }
  | _ => none }
def tableNumbersRow : OpenClaim := { program := "ytgdloahgokefpaa", sum := "0f4c9e849e6715a31c98fe312d42785a4c1527bb52c2c93bcd5d104311ffe38f", func := "pedigree/pedigreelaw14.TableNumbers", spec := "tableNumbers", apart := false }
def TableNumbersSaid : Prop := tableNumbersRow.holds Try.pinned (OpenSpec.ofChange tableNumbersSpec)

/-- ITS FALSE NEIGHBOUR: 'it returns false'. Refute it at one input. -/
def tableNumbersWrong : ChangeSpec := { name := "tableNumbers", fn := fun _ => fun
  | [d] => { results := [.lit (.bool false)], args := [d] }
  | _ => none }
def TableNumbersWrongFalsely : Prop := tableNumbersRow.holds Try.pinned (OpenSpec.ofChange tableNumbersWrong)

/-- 'pedigreelaw14.TableFds': WHATEVER THE INPUT: true; the input reads as it did. -/
def tableFdsSpec : ChangeSpec := { name := "tableFds", fn := fun _ => fun
  | [d] => { results := [.lit (.bool true)], args := [d] }
  | _ => none }
def tableFdsRow : OpenClaim := { program := "ytgdloahgokefpaa", sum := "0f4c9e849e6715a31c98fe312d42785a4c1527bb52c2c93bcd5d104311ffe38f", func := "pedigree/pedigreelaw14.TableFds", spec := "tableFds", apart := false }
def TableFdsSaid : Prop := tableFdsRow.holds Try.pinned (OpenSpec.ofChange tableFdsSpec)

/-- ITS FALSE NEIGHBOUR: 'it returns false'. Refute it at one input. -/
def tableFdsWrong : ChangeSpec := { name := "tableFds", fn := fun _ => fun
  | [d] => { results := [.lit (.bool false)], args := [d] }
  | _ => none }
def TableFdsWrongFalsely : Prop := tableFdsRow.holds Try.pinned (OpenSpec.ofChange tableFdsWrong)

/-- 'pedigreelaw14.TableForks': WHATEVER THE INPUT: true; the input reads as it did. -/
def tableForksSpec : ChangeSpec := { name := "tableForks", fn := fun _ => fun
  | [d1, d2, d3] => { results := [.lit (.bool true)], args := [d1, d2, d3] }
  | _ => none }
def tableForksRow : OpenClaim := { program := "ytgdloahgokefpaa", sum := "0f4c9e849e6715a31c98fe312d42785a4c1527bb52c2c93bcd5d104311ffe38f", func := "pedigree/pedigreelaw14.TableForks", spec := "tableForks", apart := false }
def TableForksSaid : Prop := tableForksRow.holds Try.pinned (OpenSpec.ofChange tableForksSpec)

/-- ITS FALSE NEIGHBOUR: 'it returns false'. Refute it at one input. -/
def tableForksWrong : ChangeSpec := { name := "tableForks", fn := fun _ => fun
  | [d1, d2, d3] => { results := [.lit (.bool false)], args := [d1, d2, d3] }
  | _ => none }
def TableForksWrongFalsely : Prop := tableForksRow.holds Try.pinned (OpenSpec.ofChange tableForksWrong)

/-- 'pedigreelaw14.TablePlays': WHATEVER THE INPUT: true; the input reads as it did. -/
def tablePlaysSpec : ChangeSpec := { name := "tablePlays", fn := fun _ => fun
  | [d] => { results := [.lit (.bool true)], args := [d] }
  | _ => none }
def tablePlaysRow : OpenClaim := { program := "ytgdloahgokefpaa", sum := "0f4c9e849e6715a31c98fe312d42785a4c1527bb52c2c93bcd5d104311ffe38f", func := "pedigree/pedigreelaw14.TablePlays", spec := "tablePlays", apart := false }
def TablePlaysSaid : Prop := tablePlaysRow.holds Try.pinned (OpenSpec.ofChange tablePlaysSpec)

/-- ITS FALSE NEIGHBOUR: 'it returns false'. Refute it at one input. -/
def tablePlaysWrong : ChangeSpec := { name := "tablePlays", fn := fun _ => fun
  | [d] => { results := [.lit (.bool false)], args := [d] }
  | _ => none }
def TablePlaysWrongFalsely : Prop := tablePlaysRow.holds Try.pinned (OpenSpec.ofChange tablePlaysWrong)

/- THE SECOND FORM. 'bulk': how many values and letters a reading holds, each counted each time it is reached (what is shared counts as often as it is met; a slice's spare places count too). A statement '..UptoSaid' is the law's where the arguments, and the package variables that the reading takes, are together of bulk at most 1048576: NARROWER than '..Said'. Prove '..Said' where nothing that the law and all that it calls make is longer than what came in: it says more and counts as full. Else prove '..UptoSaid'. A law counts once. -/
mutual
def uptoBulk {H : Type} : DataW H → Nat
  | .lit (.string bytes) => bytes.length + 1
  | .lit _ => 1
  | .nil => 1
  | .ptr d => uptoBulk d + 1
  | .slice elems spare => uptoBulkAll elems + uptoBulkAll spare + 1
  | .agg parts => uptoBulkAll parts + 1
  | .iface _ d => uptoBulk d + 1
  | .map entries => uptoBulkEntries entries + 1
  | .held _ => 1
def uptoBulkAll {H : Type} : List (DataW H) → Nat
  | [] => 0
  | d :: r => uptoBulk d + uptoBulkAll r
def uptoBulkEntries {H : Type} : List (Lit × DataW H) → Nat
  | [] => 0
  | x :: r => uptoBulkEntry x + uptoBulkEntries r
def uptoBulkEntry {H : Type} : Lit × DataW H → Nat
  | (.string bytes, d) => bytes.length + uptoBulk d + 1
  | (_, d) => uptoBulk d + 1
 end
def uptoSmall : (H : Type) → List (DataW H) → Bool := fun _ ds => decide (uptoBulkAll ds ≤ 1048576)
def OpenSpec.upto (s : _root_.Go.ChangeSpec) : _root_.Go.OpenSpec := { _root_.Go.OpenSpec.ofChange s with cond := some uptoSmall }

/-- 'pedigreelaw14.TableUses', WHERE WHAT IT READS IS OF BULK AT MOST 1048576: true; the input reads as it did. -/
def tableUsesUptoRow : OpenClaim := { program := "ytgdloahgokefpaa", sum := "0f4c9e849e6715a31c98fe312d42785a4c1527bb52c2c93bcd5d104311ffe38f", func := "pedigree/pedigreelaw14.TableUses", spec := "tableUses", apart := false, narrowed := true }
def TableUsesUptoSaid : Prop := tableUsesUptoRow.holds Try.pinned (OpenSpec.upto tableUsesSpec)

/-- 'pedigreelaw14.TableNumbers', WHERE WHAT IT READS IS OF BULK AT MOST 1048576: true; the input reads as it did. -/
def tableNumbersUptoRow : OpenClaim := { program := "ytgdloahgokefpaa", sum := "0f4c9e849e6715a31c98fe312d42785a4c1527bb52c2c93bcd5d104311ffe38f", func := "pedigree/pedigreelaw14.TableNumbers", spec := "tableNumbers", apart := false, narrowed := true }
def TableNumbersUptoSaid : Prop := tableNumbersUptoRow.holds Try.pinned (OpenSpec.upto tableNumbersSpec)

/-- 'pedigreelaw14.TableFds', WHERE WHAT IT READS IS OF BULK AT MOST 1048576: true; the input reads as it did. -/
def tableFdsUptoRow : OpenClaim := { program := "ytgdloahgokefpaa", sum := "0f4c9e849e6715a31c98fe312d42785a4c1527bb52c2c93bcd5d104311ffe38f", func := "pedigree/pedigreelaw14.TableFds", spec := "tableFds", apart := false, narrowed := true }
def TableFdsUptoSaid : Prop := tableFdsUptoRow.holds Try.pinned (OpenSpec.upto tableFdsSpec)

/-- 'pedigreelaw14.TableForks', WHERE WHAT IT READS IS OF BULK AT MOST 1048576: true; the input reads as it did. -/
def tableForksUptoRow : OpenClaim := { program := "ytgdloahgokefpaa", sum := "0f4c9e849e6715a31c98fe312d42785a4c1527bb52c2c93bcd5d104311ffe38f", func := "pedigree/pedigreelaw14.TableForks", spec := "tableForks", apart := false, narrowed := true }
def TableForksUptoSaid : Prop := tableForksUptoRow.holds Try.pinned (OpenSpec.upto tableForksSpec)

/-- 'pedigreelaw14.TablePlays', WHERE WHAT IT READS IS OF BULK AT MOST 1048576: true; the input reads as it did. -/
def tablePlaysUptoRow : OpenClaim := { program := "ytgdloahgokefpaa", sum := "0f4c9e849e6715a31c98fe312d42785a4c1527bb52c2c93bcd5d104311ffe38f", func := "pedigree/pedigreelaw14.TablePlays", spec := "tablePlays", apart := false, narrowed := true }
def TablePlaysUptoSaid : Prop := tablePlaysUptoRow.holds Try.pinned (OpenSpec.upto tablePlaysSpec)

end Rows
end Go.Proofs.Ytgdloahgokefpaa
