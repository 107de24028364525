/-
  No cell of these rows narrows 'for every input' (looked for: loops, veiled, ifaces, maps, wideKeys, modest, calm, conditions, laid).
  DERIVED. THE GIVEN ROWS OF THIS SEAT. 8 by the template 'for every input the law returns true; each argument reads behind the call as it read before'; 0 by the template 'total and deterministic' (their statements: YtepbcifknbjkoaaTotals.lean).
  GIVEN WITH THE SEED: the statements are not yours to turn. If you find one false, say at which input.
  Laid BY PROGRAM, IN A SANDBOX (cutbox-rows.mjs): the forced cells as the released guide's own fill.sh prints them over the translation 15c0b9f2504d23d8… (all of the seat's roots in one cut). By AI agents, Wed Nov 11 2026. No macro, syntax, notation, axiom, sorry.
-/
import Derived.Test.YtepbcifknbjkoaaChecked
import GoSem.Claim
import GoSem.ClaimJoined
import GoSem.ClaimMapViews
import Derived.JoinedTies
import Derived.KernelRfl
namespace Go.Proofs.Ytepbcifknbjkoaa
/- THE CELL 'sum', in the pinned program and in every row, IS THE sha256 OF THE DUMP (.gsa) THAT YtepbcifknbjkoaaProg.lean LOADS. Nothing in Lean hashes anything: it is a label: what it is worth is what the hold of that sum in a sandbox is worth. -/
noncomputable def Try.pinned : Pinned := { name := "ytepbcifknbjkoaa", sum := "15c0b9f2504d23d8c40823484fa756f65256ef489a549f9d0c9a08a63cbc6625", checked := Try.checked }
namespace Rows
def none {H : Type} : Left H := { results := [], args := [] }

/-- 'usherlaw01.FloatsCanon': WHATEVER THE INPUT: true; the input reads as it did. -/
def floatsCanonSpec : ChangeSpec := { name := "floatsCanon", fn := fun _ => fun
  | [d1, d2] => { results := [.lit (.bool true)], args := [d1, d2] }
  | _ => none }
def floatsCanonRow : OpenClaim := { program := "ytepbcifknbjkoaa", sum := "15c0b9f2504d23d8c40823484fa756f65256ef489a549f9d0c9a08a63cbc6625", func := "usher/usherlaw01.FloatsCanon", spec := "floatsCanon", inPlace := ["math.Float64frombits", "math.Float64bits"], apart := false }
def FloatsCanonSaid : Prop := floatsCanonRow.holds Try.pinned (OpenSpec.ofChange floatsCanonSpec)

/-- ITS FALSE NEIGHBOUR: 'it returns false'. Refute it at one input. -/
def floatsCanonWrong : ChangeSpec := { name := "floatsCanon", fn := fun _ => fun
  | [d1, d2] => { results := [.lit (.bool false)], args := [d1, d2] }
  | _ => none }
def FloatsCanonWrongFalsely : Prop := floatsCanonRow.holds Try.pinned (OpenSpec.ofChange floatsCanonWrong)

/-- 'usherlaw01.FloatsReckons': WHATEVER THE INPUT: true; the input reads as it did. -/
def floatsReckonsSpec : ChangeSpec := { name := "floatsReckons", fn := fun _ => fun
  | [d1, d2] => { results := [.lit (.bool true)], args := [d1, d2] }
  | _ => none }
def floatsReckonsRow : OpenClaim := { program := "ytepbcifknbjkoaa", sum := "15c0b9f2504d23d8c40823484fa756f65256ef489a549f9d0c9a08a63cbc6625", func := "usher/usherlaw01.FloatsReckons", spec := "floatsReckons", inPlace := ["math.Float64frombits", "math.Float64bits"], apart := false }
def FloatsReckonsSaid : Prop := floatsReckonsRow.holds Try.pinned (OpenSpec.ofChange floatsReckonsSpec)

/-- ITS FALSE NEIGHBOUR: 'it returns false'. Refute it at one input. -/
def floatsReckonsWrong : ChangeSpec := { name := "floatsReckons", fn := fun _ => fun
  | [d1, d2] => { results := [.lit (.bool false)], args := [d1, d2] }
  | _ => none }
def FloatsReckonsWrongFalsely : Prop := floatsReckonsRow.holds Try.pinned (OpenSpec.ofChange floatsReckonsWrong)

/-- 'usherlaw01.FloatsTurned': WHATEVER THE INPUT: true; the input reads as it did. -/
def floatsTurnedSpec : ChangeSpec := { name := "floatsTurned", fn := fun _ => fun
  | [d1, d2] => { results := [.lit (.bool true)], args := [d1, d2] }
  | _ => none }
def floatsTurnedRow : OpenClaim := { program := "ytepbcifknbjkoaa", sum := "15c0b9f2504d23d8c40823484fa756f65256ef489a549f9d0c9a08a63cbc6625", func := "usher/usherlaw01.FloatsTurned", spec := "floatsTurned", inPlace := ["math.Float64frombits", "math.Float64bits"], apart := false }
def FloatsTurnedSaid : Prop := floatsTurnedRow.holds Try.pinned (OpenSpec.ofChange floatsTurnedSpec)

/-- ITS FALSE NEIGHBOUR: 'it returns false'. Refute it at one input. -/
def floatsTurnedWrong : ChangeSpec := { name := "floatsTurned", fn := fun _ => fun
  | [d1, d2] => { results := [.lit (.bool false)], args := [d1, d2] }
  | _ => none }
def FloatsTurnedWrongFalsely : Prop := floatsTurnedRow.holds Try.pinned (OpenSpec.ofChange floatsTurnedWrong)

/-- 'usherlaw01.FloatsTotal': WHATEVER THE INPUT: true; the input reads as it did. -/
def floatsTotalSpec : ChangeSpec := { name := "floatsTotal", fn := fun _ => fun
  | [d1, d2, d3] => { results := [.lit (.bool true)], args := [d1, d2, d3] }
  | _ => none }
def floatsTotalRow : OpenClaim := { program := "ytepbcifknbjkoaa", sum := "15c0b9f2504d23d8c40823484fa756f65256ef489a549f9d0c9a08a63cbc6625", func := "usher/usherlaw01.FloatsTotal", spec := "floatsTotal", inPlace := ["math.Float64frombits", "math.Float64bits"], apart := false }
def FloatsTotalSaid : Prop := floatsTotalRow.holds Try.pinned (OpenSpec.ofChange floatsTotalSpec)

/-- ITS FALSE NEIGHBOUR: 'it returns false'. Refute it at one input. -/
def floatsTotalWrong : ChangeSpec := { name := "floatsTotal", fn := fun _ => fun
  | [d1, d2, d3] => { results := [.lit (.bool false)], args := [d1, d2, d3] }
  | _ => none }
def FloatsTotalWrongFalsely : Prop := floatsTotalRow.holds Try.pinned (OpenSpec.ofChange floatsTotalWrong)

/-- 'usherlaw01.FloatsWhole': WHATEVER THE INPUT: true; the input reads as it did. -/
def floatsWholeSpec : ChangeSpec := { name := "floatsWhole", fn := fun _ => fun
  | [d1, d2] => { results := [.lit (.bool true)], args := [d1, d2] }
  | _ => none }
def floatsWholeRow : OpenClaim := { program := "ytepbcifknbjkoaa", sum := "15c0b9f2504d23d8c40823484fa756f65256ef489a549f9d0c9a08a63cbc6625", func := "usher/usherlaw01.FloatsWhole", spec := "floatsWhole", inPlace := ["math.Float64frombits", "math.Float64bits"], apart := false }
def FloatsWholeSaid : Prop := floatsWholeRow.holds Try.pinned (OpenSpec.ofChange floatsWholeSpec)

/-- ITS FALSE NEIGHBOUR: 'it returns false'. Refute it at one input. -/
def floatsWholeWrong : ChangeSpec := { name := "floatsWhole", fn := fun _ => fun
  | [d1, d2] => { results := [.lit (.bool false)], args := [d1, d2] }
  | _ => none }
def FloatsWholeWrongFalsely : Prop := floatsWholeRow.holds Try.pinned (OpenSpec.ofChange floatsWholeWrong)

/-- 'usherlaw01.FloatsBack': WHATEVER THE INPUT: true; the input reads as it did. -/
def floatsBackSpec : ChangeSpec := { name := "floatsBack", fn := fun _ => fun
  | [d] => { results := [.lit (.bool true)], args := [d] }
  | _ => none }
def floatsBackRow : OpenClaim := { program := "ytepbcifknbjkoaa", sum := "15c0b9f2504d23d8c40823484fa756f65256ef489a549f9d0c9a08a63cbc6625", func := "usher/usherlaw01.FloatsBack", spec := "floatsBack", inPlace := ["math.Float64bits", "math.Float64frombits"], apart := false }
def FloatsBackSaid : Prop := floatsBackRow.holds Try.pinned (OpenSpec.ofChange floatsBackSpec)

/-- ITS FALSE NEIGHBOUR: 'it returns false'. Refute it at one input. -/
def floatsBackWrong : ChangeSpec := { name := "floatsBack", fn := fun _ => fun
  | [d] => { results := [.lit (.bool false)], args := [d] }
  | _ => none }
def FloatsBackWrongFalsely : Prop := floatsBackRow.holds Try.pinned (OpenSpec.ofChange floatsBackWrong)

/-- 'usherlaw01.FloatsOrder': WHATEVER THE INPUT: true; the input reads as it did. -/
def floatsOrderSpec : ChangeSpec := { name := "floatsOrder", fn := fun _ => fun
  | [d1, d2] => { results := [.lit (.bool true)], args := [d1, d2] }
  | _ => none }
def floatsOrderRow : OpenClaim := { program := "ytepbcifknbjkoaa", sum := "15c0b9f2504d23d8c40823484fa756f65256ef489a549f9d0c9a08a63cbc6625", func := "usher/usherlaw01.FloatsOrder", spec := "floatsOrder", inPlace := ["math.Float64frombits", "math.Float64bits"], apart := false }
def FloatsOrderSaid : Prop := floatsOrderRow.holds Try.pinned (OpenSpec.ofChange floatsOrderSpec)

/-- ITS FALSE NEIGHBOUR: 'it returns false'. Refute it at one input. -/
def floatsOrderWrong : ChangeSpec := { name := "floatsOrder", fn := fun _ => fun
  | [d1, d2] => { results := [.lit (.bool false)], args := [d1, d2] }
  | _ => none }
def FloatsOrderWrongFalsely : Prop := floatsOrderRow.holds Try.pinned (OpenSpec.ofChange floatsOrderWrong)

/-- 'usherlaw01.FloatsLess': WHATEVER THE INPUT: true; the input reads as it did. -/
def floatsLessSpec : ChangeSpec := { name := "floatsLess", fn := fun _ => fun
  | [d1, d2] => { results := [.lit (.bool true)], args := [d1, d2] }
  | _ => none }
def floatsLessRow : OpenClaim := { program := "ytepbcifknbjkoaa", sum := "15c0b9f2504d23d8c40823484fa756f65256ef489a549f9d0c9a08a63cbc6625", func := "usher/usherlaw01.FloatsLess", spec := "floatsLess", inPlace := ["math.Float64frombits", "math.Float64bits"], apart := false }
def FloatsLessSaid : Prop := floatsLessRow.holds Try.pinned (OpenSpec.ofChange floatsLessSpec)

/-- ITS FALSE NEIGHBOUR: 'it returns false'. Refute it at one input. -/
def floatsLessWrong : ChangeSpec := { name := "floatsLess", fn := fun _ => fun
  | [d1, d2] => { results := [.lit (.bool false)], args := [d1, d2] }
  | _ => none }
def FloatsLessWrongFalsely : Prop := floatsLessRow.holds Try.pinned (OpenSpec.ofChange floatsLessWrong)

/- THE SECOND FORM. 'bulk': how many values and letters a reading holds, each counted each time it is reached (what is shared counts as often as it is met; a slice's spare places count too). A statement '..UptoSaid' is the law's where the arguments, and the package variables that the reading takes, are together of bulk at most 1048576: NARROWER than '..Said'. Prove '..Said' where nothing that the law and all that it calls make is longer than what came in: it says more and counts as full. Else prove '..UptoSaid'. A law counts once. -/
mutual
def uptoBulk {H : Type} : DataW H → Nat
  | .lit (.string bytes) => bytes.length + 1
  | .lit _ => 1
  | .nil => 1
  | .ptr d => uptoBulk d + 1
  | .slice elems spare => uptoBulkAll elems + uptoBulkAll spare + 1
  | .agg parts => uptoBulkAll parts + 1
  | .iface _ d => uptoBulk d + 1
  | .map entries => uptoBulkEntries entries + 1
  | .held _ => 1
def uptoBulkAll {H : Type} : List (DataW H) → Nat
  | [] => 0
  | d :: r => uptoBulk d + uptoBulkAll r
def uptoBulkEntries {H : Type} : List (Lit × DataW H) → Nat
  | [] => 0
  | x :: r => uptoBulkEntry x + uptoBulkEntries r
def uptoBulkEntry {H : Type} : Lit × DataW H → Nat
  | (.string bytes, d) => bytes.length + uptoBulk d + 1
  | (_, d) => uptoBulk d + 1
 end
def uptoSmall : (H : Type) → List (DataW H) → Bool := fun _ ds => decide (uptoBulkAll ds ≤ 1048576)
def OpenSpec.upto (s : _root_.Go.ChangeSpec) : _root_.Go.OpenSpec := { _root_.Go.OpenSpec.ofChange s with cond := some uptoSmall }

/-- 'usherlaw01.FloatsCanon', WHERE WHAT IT READS IS OF BULK AT MOST 1048576: true; the input reads as it did. -/
def floatsCanonUptoRow : OpenClaim := { program := "ytepbcifknbjkoaa", sum := "15c0b9f2504d23d8c40823484fa756f65256ef489a549f9d0c9a08a63cbc6625", func := "usher/usherlaw01.FloatsCanon", spec := "floatsCanon", inPlace := ["math.Float64frombits", "math.Float64bits"], apart := false, narrowed := true }
def FloatsCanonUptoSaid : Prop := floatsCanonUptoRow.holds Try.pinned (OpenSpec.upto floatsCanonSpec)

/-- 'usherlaw01.FloatsReckons', WHERE WHAT IT READS IS OF BULK AT MOST 1048576: true; the input reads as it did. -/
def floatsReckonsUptoRow : OpenClaim := { program := "ytepbcifknbjkoaa", sum := "15c0b9f2504d23d8c40823484fa756f65256ef489a549f9d0c9a08a63cbc6625", func := "usher/usherlaw01.FloatsReckons", spec := "floatsReckons", inPlace := ["math.Float64frombits", "math.Float64bits"], apart := false, narrowed := true }
def FloatsReckonsUptoSaid : Prop := floatsReckonsUptoRow.holds Try.pinned (OpenSpec.upto floatsReckonsSpec)

/-- 'usherlaw01.FloatsTurned', WHERE WHAT IT READS IS OF BULK AT MOST 1048576: true; the input reads as it did. -/
def floatsTurnedUptoRow : OpenClaim := { program := "ytepbcifknbjkoaa", sum := "15c0b9f2504d23d8c40823484fa756f65256ef489a549f9d0c9a08a63cbc6625", func := "usher/usherlaw01.FloatsTurned", spec := "floatsTurned", inPlace := ["math.Float64frombits", "math.Float64bits"], apart := false, narrowed := true }
def FloatsTurnedUptoSaid : Prop := floatsTurnedUptoRow.holds Try.pinned (OpenSpec.upto floatsTurnedSpec)

/-- 'usherlaw01.FloatsTotal', WHERE WHAT IT READS IS OF BULK AT MOST 1048576: true; the input reads as it did. -/
def floatsTotalUptoRow : OpenClaim := { program := "ytepbcifknbjkoaa", sum := "15c0b9f2504d23d8c40823484fa756f65256ef489a549f9d0c9a08a63cbc6625", func := "usher/usherlaw01.FloatsTotal", spec := "floatsTotal", inPlace := ["math.Float64frombits", "math.Float64bits"], apart := false, narrowed := true }
def FloatsTotalUptoSaid : Prop := floatsTotalUptoRow.holds Try.pinned (OpenSpec.upto floatsTotalSpec)

/-- 'usherlaw01.FloatsWhole', WHERE WHAT IT READS IS OF BULK AT MOST 1048576: true; the input reads as it did. -/
def floatsWholeUptoRow : OpenClaim := { program := "ytepbcifknbjkoaa", sum := "15c0b9f2504d23d8c40823484fa756f65256ef489a549f9d0c9a08a63cbc6625", func := "usher/usherlaw01.FloatsWhole", spec := "floatsWhole", inPlace := ["math.Float64frombits", "math.Float64bits"], apart := false, narrowed := true }
def FloatsWholeUptoSaid : Prop := floatsWholeUptoRow.holds Try.pinned (OpenSpec.upto floatsWholeSpec)

/-- 'usherlaw01.FloatsBack', WHERE WHAT IT READS IS OF BULK AT MOST 1048576: true; the input reads as it did. -/
def floatsBackUptoRow : OpenClaim := { program := "ytepbcifknbjkoaa", sum := "15c0b9f2504d23d8c40823484fa756f65256ef489a549f9d0c9a08a63cbc6625", func := "usher/usherlaw01.FloatsBack", spec := "floatsBack", inPlace := ["math.Float64bits", "math.Float64frombits"], apart := false, narrowed := true }
def FloatsBackUptoSaid : Prop := floatsBackUptoRow.holds Try.pinned (OpenSpec.upto floatsBackSpec)

/-- 'usherlaw01.FloatsOrder', WHERE WHAT IT READS IS OF BULK AT MOST 1048576: true; the input reads as it did. -/
def floatsOrderUptoRow : OpenClaim := { program := "ytepbcifknbjkoaa", sum := "15c0b9f2504d23d8c40823484fa756f65256ef489a549f9d0c9a08a63cbc6625", func := "usher/usherlaw01.FloatsOrder", spec := "floatsOrder", inPlace := ["math.Float64frombits", "math.Float64bits"], apart := false, narrowed := true }
def FloatsOrderUptoSaid : Prop := floatsOrderUptoRow.holds Try.pinned (OpenSpec.upto floatsOrderSpec)

/-- 'usherlaw01.FloatsLess', WHERE WHAT IT READS IS OF BULK AT MOST 1048576: true; the input reads as it did. -/
def floatsLessUptoRow : OpenClaim := { program := "ytepbcifknbjkoaa", sum := "15c0b9f2504d23d8c40823484fa756f65256ef489a549f9d0c9a08a63cbc6625", func := "usher/usherlaw01.FloatsLess", spec := "floatsLess", inPlace := ["math.Float64frombits", "math.Float64bits"], apart := false, narrowed := true }
def FloatsLessUptoSaid : Prop := floatsLessUptoRow.holds Try.pinned (OpenSpec.upto floatsLessSpec)

end Rows
end Go.Proofs.Ytepbcifknbjkoaa
