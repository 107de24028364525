/-
  NARROWER THAN 'FOR EVERY INPUT', by the rows' own cells (each row's printed sentence says how): WaitsHanded: loops · WaitsFound: loops · WaitsOver: loops · WaitsLives: loops.
  DERIVED. THE GIVEN ROWS OF THIS SEAT. 4 by the template 'for every input the law returns true; each argument reads behind the call as it read before'; 0 by the template 'total and deterministic' (their statements: YtncmjkaclfcbmaaTotals.lean).
  GIVEN WITH THE SEED: the statements are not yours to turn. If you find one false, say at which input.
  Laid BY PROGRAM, IN A SANDBOX (cutbox-rows.mjs): the forced cells as the released guide's own fill.sh prints them over the translation 052104edf8865237… (all of the seat's roots in one cut). By AI agents, Wed Nov 11 2026. No macro, syntax, notation, axiom, sorry.
-/
import Derived.Test.YtncmjkaclfcbmaaChecked
import GoSem.Claim
import GoSem.ClaimJoined
import GoSem.ClaimMapViews
import Derived.JoinedTies
import Derived.KernelRfl
namespace Go.Proofs.Ytncmjkaclfcbmaa
/- THE CELL 'sum', in the pinned program and in every row, IS THE sha256 OF THE DUMP (.gsa) THAT YtncmjkaclfcbmaaProg.lean LOADS. Nothing in Lean hashes anything: it is a label: what it is worth is what the hold of that sum in a sandbox is worth. -/
noncomputable def Try.pinned : Pinned := { name := "ytncmjkaclfcbmaa", sum := "052104edf88652377199efa1c1fd6cc46e81d610bf84eb275a3849736985664a", checked := Try.checked }
namespace Rows
def none {H : Type} : Left H := { results := [], args := [] }

/-- 'usherlaw30.WaitsHanded': WHATEVER THE INPUT: true; the input reads as it did. -/
def waitsHandedSpec : ChangeSpec := { name := "waitsHanded", fn := fun _ => fun
  | [d1, d2, d3] => { results := [.lit (.bool true)], args := [d1, d2, d3] }
  | _ => none }
def waitsHandedRow : OpenClaim := { program := "ytncmjkaclfcbmaa", sum := "052104edf88652377199efa1c1fd6cc46e81d610bf84eb275a3849736985664a", func := "usher/usherlaw30.WaitsHanded", spec := "waitsHanded", unfollowed := true, recurses := true, loops := true, apart := false }
def WaitsHandedSaid : Prop := waitsHandedRow.holds Try.pinned (OpenSpec.ofChange waitsHandedSpec)

/-- ITS FALSE NEIGHBOUR: 'it returns false'. Refute it at one input. -/
def waitsHandedWrong : ChangeSpec := { name := "waitsHanded", fn := fun _ => fun
  | [d1, d2, d3] => { results := [.lit (.bool false)], args := [d1, d2, d3] }
  | _ => none }
def WaitsHandedWrongFalsely : Prop := waitsHandedRow.holds Try.pinned (OpenSpec.ofChange waitsHandedWrong)

/-- 'usherlaw30.WaitsFound': WHATEVER THE INPUT: true; the input reads as it did. -/
def waitsFoundSpec : ChangeSpec := { name := "waitsFound", fn := fun _ => fun
  | [d1, d2, d3] => { results := [.lit (.bool true)], args := [d1, d2, d3] }
  | _ => none }
def waitsFoundRow : OpenClaim := { program := "ytncmjkaclfcbmaa", sum := "052104edf88652377199efa1c1fd6cc46e81d610bf84eb275a3849736985664a", func := "usher/usherlaw30.WaitsFound", spec := "waitsFound", unfollowed := true, recurses := true, loops := true, apart := false }
def WaitsFoundSaid : Prop := waitsFoundRow.holds Try.pinned (OpenSpec.ofChange waitsFoundSpec)

/-- ITS FALSE NEIGHBOUR: 'it returns false'. Refute it at one input. -/
def waitsFoundWrong : ChangeSpec := { name := "waitsFound", fn := fun _ => fun
  | [d1, d2, d3] => { results := [.lit (.bool false)], args := [d1, d2, d3] }
  | _ => none }
def WaitsFoundWrongFalsely : Prop := waitsFoundRow.holds Try.pinned (OpenSpec.ofChange waitsFoundWrong)

/-- 'usherlaw30.WaitsOver': WHATEVER THE INPUT: true; the input reads as it did. -/
def waitsOverSpec : ChangeSpec := { name := "waitsOver", fn := fun _ => fun
  | [d1, d2] => { results := [.lit (.bool true)], args := [d1, d2] }
  | _ => none }
def waitsOverRow : OpenClaim := { program := "ytncmjkaclfcbmaa", sum := "052104edf88652377199efa1c1fd6cc46e81d610bf84eb275a3849736985664a", func := "usher/usherlaw30.WaitsOver", spec := "waitsOver", unfollowed := true, recurses := true, loops := true, apart := false }
def WaitsOverSaid : Prop := waitsOverRow.holds Try.pinned (OpenSpec.ofChange waitsOverSpec)

/-- ITS FALSE NEIGHBOUR: 'it returns false'. Refute it at one input. -/
def waitsOverWrong : ChangeSpec := { name := "waitsOver", fn := fun _ => fun
  | [d1, d2] => { results := [.lit (.bool false)], args := [d1, d2] }
  | _ => none }
def WaitsOverWrongFalsely : Prop := waitsOverRow.holds Try.pinned (OpenSpec.ofChange waitsOverWrong)

/-- 'usherlaw30.WaitsLives': WHATEVER THE INPUT: true; the input reads as it did. -/
def waitsLivesSpec : ChangeSpec := { name := "waitsLives", fn := fun _ => fun
  | [d1, d2, d3, d4, d5] => { results := [.lit (.bool true)], args := [d1, d2, d3, d4, d5] }
  | _ => none }
def waitsLivesRow : OpenClaim := { program := "ytncmjkaclfcbmaa", sum := "052104edf88652377199efa1c1fd6cc46e81d610bf84eb275a3849736985664a", func := "usher/usherlaw30.WaitsLives", spec := "waitsLives", unfollowed := true, recurses := true, loops := true, apart := false }
def WaitsLivesSaid : Prop := waitsLivesRow.holds Try.pinned (OpenSpec.ofChange waitsLivesSpec)

/-- ITS FALSE NEIGHBOUR: 'it returns false'. Refute it at one input. -/
def waitsLivesWrong : ChangeSpec := { name := "waitsLives", fn := fun _ => fun
  | [d1, d2, d3, d4, d5] => { results := [.lit (.bool false)], args := [d1, d2, d3, d4, d5] }
  | _ => none }
def WaitsLivesWrongFalsely : Prop := waitsLivesRow.holds Try.pinned (OpenSpec.ofChange waitsLivesWrong)

/- THE SECOND FORM. 'bulk': how many values and letters a reading holds, each counted each time it is reached (what is shared counts as often as it is met; a slice's spare places count too). A statement '..UptoSaid' is the law's where the arguments, and the package variables that the reading takes, are together of bulk at most 1048576: NARROWER than '..Said'. Prove '..Said' where nothing that the law and all that it calls make is longer than what came in: it says more and counts as full. Else prove '..UptoSaid'. A law counts once. -/
mutual
def uptoBulk {H : Type} : DataW H → Nat
  | .lit (.string bytes) => bytes.length + 1
  | .lit _ => 1
  | .nil => 1
  | .ptr d => uptoBulk d + 1
  | .slice elems spare => uptoBulkAll elems + uptoBulkAll spare + 1
  | .agg parts => uptoBulkAll parts + 1
  | .iface _ d => uptoBulk d + 1
  | .map entries => uptoBulkEntries entries + 1
  | .held _ => 1
def uptoBulkAll {H : Type} : List (DataW H) → Nat
  | [] => 0
  | d :: r => uptoBulk d + uptoBulkAll r
def uptoBulkEntries {H : Type} : List (Lit × DataW H) → Nat
  | [] => 0
  | x :: r => uptoBulkEntry x + uptoBulkEntries r
def uptoBulkEntry {H : Type} : Lit × DataW H → Nat
  | (.string bytes, d) => bytes.length + uptoBulk d + 1
  | (_, d) => uptoBulk d + 1
 end
def uptoSmall : (H : Type) → List (DataW H) → Bool := fun _ ds => decide (uptoBulkAll ds ≤ 1048576)
def OpenSpec.upto (s : _root_.Go.ChangeSpec) : _root_.Go.OpenSpec := { _root_.Go.OpenSpec.ofChange s with cond := some uptoSmall }

/-- 'usherlaw30.WaitsHanded', WHERE WHAT IT READS IS OF BULK AT MOST 1048576: true; the input reads as it did. -/
def waitsHandedUptoRow : OpenClaim := { program := "ytncmjkaclfcbmaa", sum := "052104edf88652377199efa1c1fd6cc46e81d610bf84eb275a3849736985664a", func := "usher/usherlaw30.WaitsHanded", spec := "waitsHanded", unfollowed := true, recurses := true, loops := true, apart := false, narrowed := true }
def WaitsHandedUptoSaid : Prop := waitsHandedUptoRow.holds Try.pinned (OpenSpec.upto waitsHandedSpec)

/-- 'usherlaw30.WaitsFound', WHERE WHAT IT READS IS OF BULK AT MOST 1048576: true; the input reads as it did. -/
def waitsFoundUptoRow : OpenClaim := { program := "ytncmjkaclfcbmaa", sum := "052104edf88652377199efa1c1fd6cc46e81d610bf84eb275a3849736985664a", func := "usher/usherlaw30.WaitsFound", spec := "waitsFound", unfollowed := true, recurses := true, loops := true, apart := false, narrowed := true }
def WaitsFoundUptoSaid : Prop := waitsFoundUptoRow.holds Try.pinned (OpenSpec.upto waitsFoundSpec)

/-- 'usherlaw30.WaitsOver', WHERE WHAT IT READS IS OF BULK AT MOST 1048576: true; the input reads as it did. -/
def waitsOverUptoRow : OpenClaim := { program := "ytncmjkaclfcbmaa", sum := "052104edf88652377199efa1c1fd6cc46e81d610bf84eb275a3849736985664a", func := "usher/usherlaw30.WaitsOver", spec := "waitsOver", unfollowed := true, recurses := true, loops := true, apart := false, narrowed := true }
def WaitsOverUptoSaid : Prop := waitsOverUptoRow.holds Try.pinned (OpenSpec.upto waitsOverSpec)

/-- 'usherlaw30.WaitsLives', WHERE WHAT IT READS IS OF BULK AT MOST 1048576: true; the input reads as it did. -/
def waitsLivesUptoRow : OpenClaim := { program := "ytncmjkaclfcbmaa", sum := "052104edf88652377199efa1c1fd6cc46e81d610bf84eb275a3849736985664a", func := "usher/usherlaw30.WaitsLives", spec := "waitsLives", unfollowed := true, recurses := true, loops := true, apart := false, narrowed := true }
def WaitsLivesUptoSaid : Prop := waitsLivesUptoRow.holds Try.pinned (OpenSpec.upto waitsLivesSpec)

end Rows
end Go.Proofs.Ytncmjkaclfcbmaa
