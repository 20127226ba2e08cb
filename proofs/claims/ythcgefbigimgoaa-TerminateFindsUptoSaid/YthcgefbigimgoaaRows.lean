/-
  NARROWER THAN 'FOR EVERY INPUT', by the rows' own cells (each row's printed sentence says how): TerminateFinds: loops · TerminateFirst: loops.
  DERIVED. THE GIVEN ROWS OF THIS SEAT. 4 by the template 'for every input the law returns true; each argument reads behind the call as it read before'; 0 by the template 'total and deterministic' (their statements: YthcgefbigimgoaaTotals.lean).
  GIVEN WITH THE SEED: the statements are not yours to turn. If you find one false, say at which input.
  Laid BY PROGRAM, IN A SANDBOX (cutbox-rows.mjs): the forced cells as the released guide's own fill.sh prints them over the translation 2734022b294f555b… (all of the seat's roots in one cut). By AI agents, Wed Nov 11 2026. No macro, syntax, notation, axiom, sorry.
-/
import Derived.Test.YthcgefbigimgoaaChecked
import GoSem.Claim
import GoSem.ClaimJoined
import GoSem.ClaimMapViews
import Derived.JoinedTies
import Derived.KernelRfl
namespace Go.Proofs.Ythcgefbigimgoaa
/- THE CELL 'sum', in the pinned program and in every row, IS THE sha256 OF THE DUMP (.gsa) THAT YthcgefbigimgoaaProg.lean LOADS. Nothing in Lean hashes anything: it is a label: what it is worth is what the hold of that sum in a sandbox is worth. -/
noncomputable def Try.pinned : Pinned := { name := "ythcgefbigimgoaa", sum := "2734022b294f555b96d7f7791d65723454accdaf2e35049023d123438d6546a2", checked := Try.checked }
namespace Rows
def none {H : Type} : Left H := { results := [], args := [] }

/-- 'constraintlaw42.TerminateFinds': WHATEVER THE INPUT: true; the input reads as it did. -/
def terminateFindsSpec : ChangeSpec := { name := "terminateFinds", fn := fun _ => fun
  | [d1, d2] => { results := [.lit (.bool true)], args := [d1, d2] }
  | _ => none }
def terminateFindsRow : OpenClaim := { program := "ythcgefbigimgoaa", sum := "2734022b294f555b96d7f7791d65723454accdaf2e35049023d123438d6546a2", func := "constraint/constraintlaw42.TerminateFinds", spec := "terminateFinds", inPlace := ["internal/bytealg.IndexByteString", "internal/bytealg.IndexString"], unfollowed := true, recurses := true, named := ["internal/bytealg.MaxLen"], loops := true, apart := false }
def TerminateFindsSaid : Prop := terminateFindsRow.holds Try.pinned (OpenSpec.ofChange terminateFindsSpec)

/-- ITS FALSE NEIGHBOUR: 'it returns false'. Refute it at one input. -/
def terminateFindsWrong : ChangeSpec := { name := "terminateFinds", fn := fun _ => fun
  | [d1, d2] => { results := [.lit (.bool false)], args := [d1, d2] }
  | _ => none }
def TerminateFindsWrongFalsely : Prop := terminateFindsRow.holds Try.pinned (OpenSpec.ofChange terminateFindsWrong)

/-- 'constraintlaw42.TerminateDigits': WHATEVER THE INPUT: true; the input reads as it did. -/
def terminateDigitsSpec : ChangeSpec := { name := "terminateDigits", fn := fun _ => fun
  | [d1, d2, d3] => { results := [.lit (.bool true)], args := [d1, d2, d3] }
  | _ => none }
def terminateDigitsRow : OpenClaim := { program := "ythcgefbigimgoaa", sum := "2734022b294f555b96d7f7791d65723454accdaf2e35049023d123438d6546a2", func := "constraint/constraintlaw42.TerminateDigits", spec := "terminateDigits", inPlace := ["internal/bytealg.IndexByteString", "internal/bytealg.IndexString"], unfollowed := true, recurses := true, named := ["internal/bytealg.MaxLen"], apart := false }
def TerminateDigitsSaid : Prop := terminateDigitsRow.holds Try.pinned (OpenSpec.ofChange terminateDigitsSpec)

/-- ITS FALSE NEIGHBOUR: 'it returns false'. Refute it at one input. -/
def terminateDigitsWrong : ChangeSpec := { name := "terminateDigits", fn := fun _ => fun
  | [d1, d2, d3] => { results := [.lit (.bool false)], args := [d1, d2, d3] }
  | _ => none }
def TerminateDigitsWrongFalsely : Prop := terminateDigitsRow.holds Try.pinned (OpenSpec.ofChange terminateDigitsWrong)

/-- 'constraintlaw42.TerminateVisits': WHATEVER THE INPUT: true; the input reads as it did. -/
def terminateVisitsSpec : ChangeSpec := { name := "terminateVisits", fn := fun _ => fun
  | [d1, d2] => { results := [.lit (.bool true)], args := [d1, d2] }
  | _ => none }
def terminateVisitsRow : OpenClaim := { program := "ythcgefbigimgoaa", sum := "2734022b294f555b96d7f7791d65723454accdaf2e35049023d123438d6546a2", func := "constraint/constraintlaw42.TerminateVisits", spec := "terminateVisits", inPlace := ["internal/bytealg.IndexByteString", "internal/bytealg.IndexString"], unfollowed := true, recurses := true, named := ["internal/bytealg.MaxLen"], apart := false }
def TerminateVisitsSaid : Prop := terminateVisitsRow.holds Try.pinned (OpenSpec.ofChange terminateVisitsSpec)

/-- ITS FALSE NEIGHBOUR: 'it returns false'. Refute it at one input. -/
def terminateVisitsWrong : ChangeSpec := { name := "terminateVisits", fn := fun _ => fun
  | [d1, d2] => { results := [.lit (.bool false)], args := [d1, d2] }
  | _ => none }
def TerminateVisitsWrongFalsely : Prop := terminateVisitsRow.holds Try.pinned (OpenSpec.ofChange terminateVisitsWrong)

/-- 'constraintlaw42.TerminateFirst': WHATEVER THE INPUT: true; the input reads as it did. -/
def terminateFirstSpec : ChangeSpec := { name := "terminateFirst", fn := fun _ => fun
  | [d1, d2] => { results := [.lit (.bool true)], args := [d1, d2] }
  | _ => none }
def terminateFirstRow : OpenClaim := { program := "ythcgefbigimgoaa", sum := "2734022b294f555b96d7f7791d65723454accdaf2e35049023d123438d6546a2", func := "constraint/constraintlaw42.TerminateFirst", spec := "terminateFirst", inPlace := ["internal/bytealg.IndexByteString", "internal/bytealg.IndexString"], unfollowed := true, recurses := true, named := ["internal/bytealg.MaxLen"], loops := true, apart := false }
def TerminateFirstSaid : Prop := terminateFirstRow.holds Try.pinned (OpenSpec.ofChange terminateFirstSpec)

/-- ITS FALSE NEIGHBOUR: 'it returns false'. Refute it at one input. -/
def terminateFirstWrong : ChangeSpec := { name := "terminateFirst", fn := fun _ => fun
  | [d1, d2] => { results := [.lit (.bool false)], args := [d1, d2] }
  | _ => none }
def TerminateFirstWrongFalsely : Prop := terminateFirstRow.holds Try.pinned (OpenSpec.ofChange terminateFirstWrong)

/- THE SECOND FORM. 'bulk': how many values and letters a reading holds, each counted each time it is reached (what is shared counts as often as it is met; a slice's spare places count too). A statement '..UptoSaid' is the law's where the arguments, and the package variables that the reading takes, are together of bulk at most 1048576: NARROWER than '..Said'. Prove '..Said' where nothing that the law and all that it calls make is longer than what came in: it says more and counts as full. Else prove '..UptoSaid'. A law counts once. -/
mutual
def uptoBulk {H : Type} : DataW H → Nat
  | .lit (.string bytes) => bytes.length + 1
  | .lit _ => 1
  | .nil => 1
  | .ptr d => uptoBulk d + 1
  | .slice elems spare => uptoBulkAll elems + uptoBulkAll spare + 1
  | .agg parts => uptoBulkAll parts + 1
  | .iface _ d => uptoBulk d + 1
  | .map entries => uptoBulkEntries entries + 1
  | .held _ => 1
def uptoBulkAll {H : Type} : List (DataW H) → Nat
  | [] => 0
  | d :: r => uptoBulk d + uptoBulkAll r
def uptoBulkEntries {H : Type} : List (Lit × DataW H) → Nat
  | [] => 0
  | x :: r => uptoBulkEntry x + uptoBulkEntries r
def uptoBulkEntry {H : Type} : Lit × DataW H → Nat
  | (.string bytes, d) => bytes.length + uptoBulk d + 1
  | (_, d) => uptoBulk d + 1
 end
def uptoSmall : (H : Type) → List (DataW H) → Bool := fun _ ds => decide (uptoBulkAll ds ≤ 1048576)
def OpenSpec.upto (s : _root_.Go.ChangeSpec) : _root_.Go.OpenSpec := { _root_.Go.OpenSpec.ofChange s with cond := some uptoSmall }

/-- 'constraintlaw42.TerminateFinds', WHERE WHAT IT READS IS OF BULK AT MOST 1048576: true; the input reads as it did. -/
def terminateFindsUptoRow : OpenClaim := { program := "ythcgefbigimgoaa", sum := "2734022b294f555b96d7f7791d65723454accdaf2e35049023d123438d6546a2", func := "constraint/constraintlaw42.TerminateFinds", spec := "terminateFinds", inPlace := ["internal/bytealg.IndexByteString", "internal/bytealg.IndexString"], unfollowed := true, recurses := true, named := ["internal/bytealg.MaxLen"], loops := true, apart := false, narrowed := true }
def TerminateFindsUptoSaid : Prop := terminateFindsUptoRow.holds Try.pinned (OpenSpec.upto terminateFindsSpec)

/-- 'constraintlaw42.TerminateDigits', WHERE WHAT IT READS IS OF BULK AT MOST 1048576: true; the input reads as it did. -/
def terminateDigitsUptoRow : OpenClaim := { program := "ythcgefbigimgoaa", sum := "2734022b294f555b96d7f7791d65723454accdaf2e35049023d123438d6546a2", func := "constraint/constraintlaw42.TerminateDigits", spec := "terminateDigits", inPlace := ["internal/bytealg.IndexByteString", "internal/bytealg.IndexString"], unfollowed := true, recurses := true, named := ["internal/bytealg.MaxLen"], apart := false, narrowed := true }
def TerminateDigitsUptoSaid : Prop := terminateDigitsUptoRow.holds Try.pinned (OpenSpec.upto terminateDigitsSpec)

/-- 'constraintlaw42.TerminateVisits', WHERE WHAT IT READS IS OF BULK AT MOST 1048576: true; the input reads as it did. -/
def terminateVisitsUptoRow : OpenClaim := { program := "ythcgefbigimgoaa", sum := "2734022b294f555b96d7f7791d65723454accdaf2e35049023d123438d6546a2", func := "constraint/constraintlaw42.TerminateVisits", spec := "terminateVisits", inPlace := ["internal/bytealg.IndexByteString", "internal/bytealg.IndexString"], unfollowed := true, recurses := true, named := ["internal/bytealg.MaxLen"], apart := false, narrowed := true }
def TerminateVisitsUptoSaid : Prop := terminateVisitsUptoRow.holds Try.pinned (OpenSpec.upto terminateVisitsSpec)

/-- 'constraintlaw42.TerminateFirst', WHERE WHAT IT READS IS OF BULK AT MOST 1048576: true; the input reads as it did. -/
def terminateFirstUptoRow : OpenClaim := { program := "ythcgefbigimgoaa", sum := "2734022b294f555b96d7f7791d65723454accdaf2e35049023d123438d6546a2", func := "constraint/constraintlaw42.TerminateFirst", spec := "terminateFirst", inPlace := ["internal/bytealg.IndexByteString", "internal/bytealg.IndexString"], unfollowed := true, recurses := true, named := ["internal/bytealg.MaxLen"], loops := true, apart := false, narrowed := true }
def TerminateFirstUptoSaid : Prop := terminateFirstUptoRow.holds Try.pinned (OpenSpec.upto terminateFirstSpec)

end Rows
end Go.Proofs.Ythcgefbigimgoaa
