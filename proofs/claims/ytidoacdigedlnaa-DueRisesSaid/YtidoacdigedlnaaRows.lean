/-
  NARROWER THAN 'FOR EVERY INPUT', by the rows' own cells (each row's printed sentence says how): DueComes: loops · DueRises: loops · DueNext: loops.
  DERIVED. THE GIVEN ROWS OF THIS SEAT. 3 by the template 'for every input the law returns true; each argument reads behind the call as it read before'; 0 by the template 'total and deterministic' (their statements: YtidoacdigedlnaaTotals.lean).
  GIVEN WITH THE SEED: the statements are not yours to turn. If you find one false, say at which input.
  Laid BY PROGRAM, IN A SANDBOX (cutbox-rows.mjs): the forced cells as the released guide's own fill.sh prints them over the translation f7b1b460b2bdad29… (all of the seat's roots in one cut). By AI agents, Wed Nov 11 2026. No macro, syntax, notation, axiom, sorry.
-/
import Derived.Test.YtidoacdigedlnaaChecked
import GoSem.Claim
import GoSem.ClaimJoined
import GoSem.ClaimMapViews
import Derived.JoinedTies
import Derived.KernelRfl
namespace Go.Proofs.Ytidoacdigedlnaa
/- THE CELL 'sum', in the pinned program and in every row, IS THE sha256 OF THE DUMP (.gsa) THAT YtidoacdigedlnaaProg.lean LOADS. Nothing in Lean hashes anything: it is a label: what it is worth is what the hold of that sum in a sandbox is worth. -/
noncomputable def Try.pinned : Pinned := { name := "ytidoacdigedlnaa", sum := "f7b1b460b2bdad2963695038657a4689065783c54eaccfb93381d60c76e16f23", checked := Try.checked }
namespace Rows
def none {H : Type} : Left H := { results := [], args := [] }

/-- 'usherlaw18.DueComes': WHATEVER THE INPUT: true; the input reads as it did. -/
def dueComesSpec : ChangeSpec := { name := "dueComes", fn := fun _ => fun
  | [d1, d2] => { results := [.lit (.bool true)], args := [d1, d2] }
  | _ => none }
def dueComesRow : OpenClaim := { program := "ytidoacdigedlnaa", sum := "f7b1b460b2bdad2963695038657a4689065783c54eaccfb93381d60c76e16f23", func := "usher/usherlaw18.DueComes", spec := "dueComes", inPlace := ["math.Float64frombits", "math.Float64bits"], unfollowed := true, recurses := true, loops := true, apart := false }
def DueComesSaid : Prop := dueComesRow.holds Try.pinned (OpenSpec.ofChange dueComesSpec)

/-- ITS FALSE NEIGHBOUR: 'it returns false'. Refute it at one input. -/
def dueComesWrong : ChangeSpec := { name := "dueComes", fn := fun _ => fun
  | [d1, d2] => { results := [.lit (.bool false)], args := [d1, d2] }
  | _ => none }
def DueComesWrongFalsely : Prop := dueComesRow.holds Try.pinned (OpenSpec.ofChange dueComesWrong)

/-- 'usherlaw18.DueRises': WHATEVER THE INPUT: true; the input reads as it did. -/
def dueRisesSpec : ChangeSpec := { name := "dueRises", fn := fun _ => fun
  | [d1, d2, d3] => { results := [.lit (.bool true)], args := [d1, d2, d3] }
  | _ => none }
def dueRisesRow : OpenClaim := { program := "ytidoacdigedlnaa", sum := "f7b1b460b2bdad2963695038657a4689065783c54eaccfb93381d60c76e16f23", func := "usher/usherlaw18.DueRises", spec := "dueRises", inPlace := ["math.Float64frombits", "math.Float64bits"], unfollowed := true, recurses := true, loops := true, apart := false }
def DueRisesSaid : Prop := dueRisesRow.holds Try.pinned (OpenSpec.ofChange dueRisesSpec)

/-- ITS FALSE NEIGHBOUR: 'it returns false'. Refute it at one input. -/
def dueRisesWrong : ChangeSpec := { name := "dueRises", fn := fun _ => fun
  | [d1, d2, d3] => { results := [.lit (.bool false)], args := [d1, d2, d3] }
  | _ => none }
def DueRisesWrongFalsely : Prop := dueRisesRow.holds Try.pinned (OpenSpec.ofChange dueRisesWrong)

/-- 'usherlaw18.DueNext': WHATEVER THE INPUT: true; the input reads as it did. -/
def dueNextSpec : ChangeSpec := { name := "dueNext", fn := fun _ => fun
  | [d1, d2] => { results := [.lit (.bool true)], args := [d1, d2] }
  | _ => none }
def dueNextRow : OpenClaim := { program := "ytidoacdigedlnaa", sum := "f7b1b460b2bdad2963695038657a4689065783c54eaccfb93381d60c76e16f23", func := "usher/usherlaw18.DueNext", spec := "dueNext", inPlace := ["math.Float64frombits", "math.Float64bits"], unfollowed := true, recurses := true, loops := true, apart := false }
def DueNextSaid : Prop := dueNextRow.holds Try.pinned (OpenSpec.ofChange dueNextSpec)

/-- ITS FALSE NEIGHBOUR: 'it returns false'. Refute it at one input. -/
def dueNextWrong : ChangeSpec := { name := "dueNext", fn := fun _ => fun
  | [d1, d2] => { results := [.lit (.bool false)], args := [d1, d2] }
  | _ => none }
def DueNextWrongFalsely : Prop := dueNextRow.holds Try.pinned (OpenSpec.ofChange dueNextWrong)

/- THE SECOND FORM. 'bulk': how many values and letters a reading holds, each counted each time it is reached (what is shared counts as often as it is met; a slice's spare places count too). A statement '..UptoSaid' is the law's where the arguments, and the package variables that the reading takes, are together of bulk at most 1048576: NARROWER than '..Said'. Prove '..Said' where nothing that the law and all that it calls make is longer than what came in: it says more and counts as full. Else prove '..UptoSaid'. A law counts once. -/
mutual
def uptoBulk {H : Type} : DataW H → Nat
  | .lit (.string bytes) => bytes.length + 1
  | .lit _ => 1
  | .nil => 1
  | .ptr d => uptoBulk d + 1
  | .slice elems spare => uptoBulkAll elems + uptoBulkAll spare + 1
  | .agg parts => uptoBulkAll parts + 1
  | .iface _ d => uptoBulk d + 1
  | .map entries => uptoBulkEntries entries + 1
  | .held _ => 1
def uptoBulkAll {H : Type} : List (DataW H) → Nat
  | [] => 0
  | d :: r => uptoBulk d + uptoBulkAll r
def uptoBulkEntries {H : Type} : List (Lit × DataW H) → Nat
  | [] => 0
  | x :: r => uptoBulkEntry x + uptoBulkEntries r
def uptoBulkEntry {H : Type} : Lit × DataW H → Nat
  | (.string bytes, d) => bytes.length + uptoBulk d + 1
  | (_, d) => uptoBulk d + 1
 end
def uptoSmall : (H : Type) → List (DataW H) → Bool := fun _ ds => decide (uptoBulkAll ds ≤ 1048576)
def OpenSpec.upto (s : _root_.Go.ChangeSpec) : _root_.Go.OpenSpec := { _root_.Go.OpenSpec.ofChange s with cond := some uptoSmall }

/-- 'usherlaw18.DueComes', WHERE WHAT IT READS IS OF BULK AT MOST 1048576: true; the input reads as it did. -/
def dueComesUptoRow : OpenClaim := { program := "ytidoacdigedlnaa", sum := "f7b1b460b2bdad2963695038657a4689065783c54eaccfb93381d60c76e16f23", func := "usher/usherlaw18.DueComes", spec := "dueComes", inPlace := ["math.Float64frombits", "math.Float64bits"], unfollowed := true, recurses := true, loops := true, apart := false, narrowed := true }
def DueComesUptoSaid : Prop := dueComesUptoRow.holds Try.pinned (OpenSpec.upto dueComesSpec)

/-- 'usherlaw18.DueRises', WHERE WHAT IT READS IS OF BULK AT MOST 1048576: true; the input reads as it did. -/
def dueRisesUptoRow : OpenClaim := { program := "ytidoacdigedlnaa", sum := "f7b1b460b2bdad2963695038657a4689065783c54eaccfb93381d60c76e16f23", func := "usher/usherlaw18.DueRises", spec := "dueRises", inPlace := ["math.Float64frombits", "math.Float64bits"], unfollowed := true, recurses := true, loops := true, apart := false, narrowed := true }
def DueRisesUptoSaid : Prop := dueRisesUptoRow.holds Try.pinned (OpenSpec.upto dueRisesSpec)

/-- 'usherlaw18.DueNext', WHERE WHAT IT READS IS OF BULK AT MOST 1048576: true; the input reads as it did. -/
def dueNextUptoRow : OpenClaim := { program := "ytidoacdigedlnaa", sum := "f7b1b460b2bdad2963695038657a4689065783c54eaccfb93381d60c76e16f23", func := "usher/usherlaw18.DueNext", spec := "dueNext", inPlace := ["math.Float64frombits", "math.Float64bits"], unfollowed := true, recurses := true, loops := true, apart := false, narrowed := true }
def DueNextUptoSaid : Prop := dueNextUptoRow.holds Try.pinned (OpenSpec.upto dueNextSpec)

end Rows
end Go.Proofs.Ytidoacdigedlnaa
