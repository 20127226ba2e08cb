/-
  NARROWER THAN 'FOR EVERY INPUT', by the rows' own cells (each row's printed sentence says how): TermRight: loops · TermCompares: loops · TermOrder: loops · TermBuilds: loops · TermGoals: loops · TermAtoms: loops · TermMeasures: loops.
  DERIVED. THE GIVEN ROWS OF THIS SEAT. 7 by the template 'for every input the law returns true; each argument reads behind the call as it read before'; 0 by the template 'total and deterministic' (their statements: YtcjbageaiafbmaaTotals.lean).
  GIVEN WITH THE SEED: the statements are not yours to turn. If you find one false, say at which input.
  Laid BY PROGRAM, IN A SANDBOX (cutbox-rows.mjs): the forced cells as the released guide's own fill.sh prints them over the translation 9f16f86f3281f1ae… (all of the seat's roots in one cut). By AI agents, Wed Nov 11 2026. No macro, syntax, notation, axiom, sorry.
-/
import Derived.Test.YtcjbageaiafbmaaChecked
import GoSem.Claim
import GoSem.ClaimJoined
import GoSem.ClaimMapViews
import Derived.JoinedTies
import Derived.KernelRfl
namespace Go.Proofs.Ytcjbageaiafbmaa
/- THE CELL 'sum', in the pinned program and in every row, IS THE sha256 OF THE DUMP (.gsa) THAT YtcjbageaiafbmaaProg.lean LOADS. Nothing in Lean hashes anything: it is a label: what it is worth is what the hold of that sum in a sandbox is worth. -/
noncomputable def Try.pinned : Pinned := { name := "ytcjbageaiafbmaa", sum := "9f16f86f3281f1ae03f27433614b329ff4eb0ce19b3424d017af9b61e00cd580", checked := Try.checked }
namespace Rows
def none {H : Type} : Left H := { results := [], args := [] }

/-- 'constraintlaw03.TermRight': WHATEVER THE INPUT: true; the input reads as it did. -/
def termRightSpec : ChangeSpec := { name := "termRight", fn := fun _ => fun
  | [d] => { results := [.lit (.bool true)], args := [d] }
  | _ => none }
def termRightRow : OpenClaim := { program := "ytcjbageaiafbmaa", sum := "9f16f86f3281f1ae03f27433614b329ff4eb0ce19b3424d017af9b61e00cd580", func := "constraint/constraintlaw03.TermRight", spec := "termRight", inPlace := ["internal/bytealg.IndexByteString", "internal/bytealg.IndexString"], unfollowed := true, recurses := true, named := ["internal/bytealg.MaxLen"], loops := true, apart := false }
def TermRightSaid : Prop := termRightRow.holds Try.pinned (OpenSpec.ofChange termRightSpec)

/-- ITS FALSE NEIGHBOUR: 'it returns false'. Refute it at one input. -/
def termRightWrong : ChangeSpec := { name := "termRight", fn := fun _ => fun
  | [d] => { results := [.lit (.bool false)], args := [d] }
  | _ => none }
def TermRightWrongFalsely : Prop := termRightRow.holds Try.pinned (OpenSpec.ofChange termRightWrong)

/-- 'constraintlaw03.TermCompares': WHATEVER THE INPUT: true; the input reads as it did. -/
def termComparesSpec : ChangeSpec := { name := "termCompares", fn := fun _ => fun
  | [d1, d2] => { results := [.lit (.bool true)], args := [d1, d2] }
  | _ => none }
def termComparesRow : OpenClaim := { program := "ytcjbageaiafbmaa", sum := "9f16f86f3281f1ae03f27433614b329ff4eb0ce19b3424d017af9b61e00cd580", func := "constraint/constraintlaw03.TermCompares", spec := "termCompares", inPlace := ["internal/bytealg.IndexByteString", "internal/bytealg.IndexString"], unfollowed := true, recurses := true, named := ["internal/bytealg.MaxLen"], loops := true, apart := false }
def TermComparesSaid : Prop := termComparesRow.holds Try.pinned (OpenSpec.ofChange termComparesSpec)

/-- ITS FALSE NEIGHBOUR: 'it returns false'. Refute it at one input. -/
def termComparesWrong : ChangeSpec := { name := "termCompares", fn := fun _ => fun
  | [d1, d2] => { results := [.lit (.bool false)], args := [d1, d2] }
  | _ => none }
def TermComparesWrongFalsely : Prop := termComparesRow.holds Try.pinned (OpenSpec.ofChange termComparesWrong)

/-- 'constraintlaw03.TermOrder': WHATEVER THE INPUT: true; the input reads as it did. -/
def termOrderSpec : ChangeSpec := { name := "termOrder", fn := fun _ => fun
  | [d1, d2, d3] => { results := [.lit (.bool true)], args := [d1, d2, d3] }
  | _ => none }
def termOrderRow : OpenClaim := { program := "ytcjbageaiafbmaa", sum := "9f16f86f3281f1ae03f27433614b329ff4eb0ce19b3424d017af9b61e00cd580", func := "constraint/constraintlaw03.TermOrder", spec := "termOrder", inPlace := ["internal/bytealg.IndexByteString", "internal/bytealg.IndexString"], unfollowed := true, recurses := true, named := ["internal/bytealg.MaxLen"], loops := true, apart := false }
def TermOrderSaid : Prop := termOrderRow.holds Try.pinned (OpenSpec.ofChange termOrderSpec)

/-- ITS FALSE NEIGHBOUR: 'it returns false'. Refute it at one input. -/
def termOrderWrong : ChangeSpec := { name := "termOrder", fn := fun _ => fun
  | [d1, d2, d3] => { results := [.lit (.bool false)], args := [d1, d2, d3] }
  | _ => none }
def TermOrderWrongFalsely : Prop := termOrderRow.holds Try.pinned (OpenSpec.ofChange termOrderWrong)

/-- 'constraintlaw03.TermBuilds': WHATEVER THE INPUT: true; the input reads as it did. -/
def termBuildsSpec : ChangeSpec := { name := "termBuilds", fn := fun _ => fun
  | [d1, d2, d3] => { results := [.lit (.bool true)], args := [d1, d2, d3] }
  | _ => none }
def termBuildsRow : OpenClaim := { program := "ytcjbageaiafbmaa", sum := "9f16f86f3281f1ae03f27433614b329ff4eb0ce19b3424d017af9b61e00cd580", func := "constraint/constraintlaw03.TermBuilds", spec := "termBuilds", inPlace := ["internal/bytealg.IndexByteString", "internal/bytealg.IndexString"], unfollowed := true, recurses := true, named := ["internal/bytealg.MaxLen"], loops := true, apart := false }
def TermBuildsSaid : Prop := termBuildsRow.holds Try.pinned (OpenSpec.ofChange termBuildsSpec)

/-- ITS FALSE NEIGHBOUR: 'it returns false'. Refute it at one input. -/
def termBuildsWrong : ChangeSpec := { name := "termBuilds", fn := fun _ => fun
  | [d1, d2, d3] => { results := [.lit (.bool false)], args := [d1, d2, d3] }
  | _ => none }
def TermBuildsWrongFalsely : Prop := termBuildsRow.holds Try.pinned (OpenSpec.ofChange termBuildsWrong)

/-- 'constraintlaw03.TermGoals': WHATEVER THE INPUT: true; the input reads as it did. -/
def termGoalsSpec : ChangeSpec := { name := "termGoals", fn := fun _ => fun
  | [d1, d2] => { results := [.lit (.bool true)], args := [d1, d2] }
  | _ => none }
def termGoalsRow : OpenClaim := { program := "ytcjbageaiafbmaa", sum := "9f16f86f3281f1ae03f27433614b329ff4eb0ce19b3424d017af9b61e00cd580", func := "constraint/constraintlaw03.TermGoals", spec := "termGoals", inPlace := ["internal/bytealg.IndexByteString", "internal/bytealg.IndexString"], unfollowed := true, recurses := true, named := ["internal/bytealg.MaxLen"], loops := true, apart := false }
def TermGoalsSaid : Prop := termGoalsRow.holds Try.pinned (OpenSpec.ofChange termGoalsSpec)

/-- ITS FALSE NEIGHBOUR: 'it returns false'. Refute it at one input. -/
def termGoalsWrong : ChangeSpec := { name := "termGoals", fn := fun _ => fun
  | [d1, d2] => { results := [.lit (.bool false)], args := [d1, d2] }
  | _ => none }
def TermGoalsWrongFalsely : Prop := termGoalsRow.holds Try.pinned (OpenSpec.ofChange termGoalsWrong)

/-- 'constraintlaw03.TermAtoms': WHATEVER THE INPUT: true; the input reads as it did. -/
def termAtomsSpec : ChangeSpec := { name := "termAtoms", fn := fun _ => fun
  | [d1, d2] => { results := [.lit (.bool true)], args := [d1, d2] }
  | _ => none }
def termAtomsRow : OpenClaim := { program := "ytcjbageaiafbmaa", sum := "9f16f86f3281f1ae03f27433614b329ff4eb0ce19b3424d017af9b61e00cd580", func := "constraint/constraintlaw03.TermAtoms", spec := "termAtoms", inPlace := ["internal/bytealg.IndexByteString", "internal/bytealg.IndexString"], unfollowed := true, recurses := true, named := ["internal/bytealg.MaxLen"], loops := true, apart := false }
def TermAtomsSaid : Prop := termAtomsRow.holds Try.pinned (OpenSpec.ofChange termAtomsSpec)

/-- ITS FALSE NEIGHBOUR: 'it returns false'. Refute it at one input. -/
def termAtomsWrong : ChangeSpec := { name := "termAtoms", fn := fun _ => fun
  | [d1, d2] => { results := [.lit (.bool false)], args := [d1, d2] }
  | _ => none }
def TermAtomsWrongFalsely : Prop := termAtomsRow.holds Try.pinned (OpenSpec.ofChange termAtomsWrong)

/-- 'constraintlaw03.TermMeasures': WHATEVER THE INPUT: true; the input reads as it did. -/
def termMeasuresSpec : ChangeSpec := { name := "termMeasures", fn := fun _ => fun
  | [d1, d2] => { results := [.lit (.bool true)], args := [d1, d2] }
  | _ => none }
def termMeasuresRow : OpenClaim := { program := "ytcjbageaiafbmaa", sum := "9f16f86f3281f1ae03f27433614b329ff4eb0ce19b3424d017af9b61e00cd580", func := "constraint/constraintlaw03.TermMeasures", spec := "termMeasures", inPlace := ["internal/bytealg.IndexByteString", "internal/bytealg.IndexString"], unfollowed := true, recurses := true, named := ["internal/bytealg.MaxLen"], loops := true, apart := false }
def TermMeasuresSaid : Prop := termMeasuresRow.holds Try.pinned (OpenSpec.ofChange termMeasuresSpec)

/-- ITS FALSE NEIGHBOUR: 'it returns false'. Refute it at one input. -/
def termMeasuresWrong : ChangeSpec := { name := "termMeasures", fn := fun _ => fun
  | [d1, d2] => { results := [.lit (.bool false)], args := [d1, d2] }
  | _ => none }
def TermMeasuresWrongFalsely : Prop := termMeasuresRow.holds Try.pinned (OpenSpec.ofChange termMeasuresWrong)

/- THE SECOND FORM. 'bulk': how many values and letters a reading holds, each counted each time it is reached (what is shared counts as often as it is met; a slice's spare places count too). A statement '..UptoSaid' is the law's where the arguments, and the package variables that the reading takes, are together of bulk at most 1048576: NARROWER than '..Said'. Prove '..Said' where nothing that the law and all that it calls make is longer than what came in: it says more and counts as full. Else prove '..UptoSaid'. A law counts once. -/
mutual
def uptoBulk {H : Type} : DataW H → Nat
  | .lit (.string bytes) => bytes.length + 1
  | .lit _ => 1
  | .nil => 1
  | .ptr d => uptoBulk d + 1
  | .slice elems spare => uptoBulkAll elems + uptoBulkAll spare + 1
  | .agg parts => uptoBulkAll parts + 1
  | .iface _ d => uptoBulk d + 1
  | .map entries => uptoBulkEntries entries + 1
  | .held _ => 1
def uptoBulkAll {H : Type} : List (DataW H) → Nat
  | [] => 0
  | d :: r => uptoBulk d + uptoBulkAll r
def uptoBulkEntries {H : Type} : List (Lit × DataW H) → Nat
  | [] => 0
  | x :: r => uptoBulkEntry x + uptoBulkEntries r
def uptoBulkEntry {H : Type} : Lit × DataW H → Nat
  | (.string bytes, d) => bytes.length + uptoBulk d + 1
  | (_, d) => uptoBulk d + 1
 end
def uptoSmall : (H : Type) → List (DataW H) → Bool := fun _ ds => decide (uptoBulkAll ds ≤ 1048576)
def OpenSpec.upto (s : _root_.Go.ChangeSpec) : _root_.Go.OpenSpec := { _root_.Go.OpenSpec.ofChange s with cond := some uptoSmall }

/-- 'constraintlaw03.TermRight', WHERE WHAT IT READS IS OF BULK AT MOST 1048576: true; the input reads as it did. -/
def termRightUptoRow : OpenClaim := { program := "ytcjbageaiafbmaa", sum := "9f16f86f3281f1ae03f27433614b329ff4eb0ce19b3424d017af9b61e00cd580", func := "constraint/constraintlaw03.TermRight", spec := "termRight", inPlace := ["internal/bytealg.IndexByteString", "internal/bytealg.IndexString"], unfollowed := true, recurses := true, named := ["internal/bytealg.MaxLen"], loops := true, apart := false, narrowed := true }
def TermRightUptoSaid : Prop := termRightUptoRow.holds Try.pinned (OpenSpec.upto termRightSpec)

/-- 'constraintlaw03.TermCompares', WHERE WHAT IT READS IS OF BULK AT MOST 1048576: true; the input reads as it did. -/
def termComparesUptoRow : OpenClaim := { program := "ytcjbageaiafbmaa", sum := "9f16f86f3281f1ae03f27433614b329ff4eb0ce19b3424d017af9b61e00cd580", func := "constraint/constraintlaw03.TermCompares", spec := "termCompares", inPlace := ["internal/bytealg.IndexByteString", "internal/bytealg.IndexString"], unfollowed := true, recurses := true, named := ["internal/bytealg.MaxLen"], loops := true, apart := false, narrowed := true }
def TermComparesUptoSaid : Prop := termComparesUptoRow.holds Try.pinned (OpenSpec.upto termComparesSpec)

/-- 'constraintlaw03.TermOrder', WHERE WHAT IT READS IS OF BULK AT MOST 1048576: true; the input reads as it did. -/
def termOrderUptoRow : OpenClaim := { program := "ytcjbageaiafbmaa", sum := "9f16f86f3281f1ae03f27433614b329ff4eb0ce19b3424d017af9b61e00cd580", func := "constraint/constraintlaw03.TermOrder", spec := "termOrder", inPlace := ["internal/bytealg.IndexByteString", "internal/bytealg.IndexString"], unfollowed := true, recurses := true, named := ["internal/bytealg.MaxLen"], loops := true, apart := false, narrowed := true }
def TermOrderUptoSaid : Prop := termOrderUptoRow.holds Try.pinned (OpenSpec.upto termOrderSpec)

/-- 'constraintlaw03.TermBuilds', WHERE WHAT IT READS IS OF BULK AT MOST 1048576: true; the input reads as it did. -/
def termBuildsUptoRow : OpenClaim := { program := "ytcjbageaiafbmaa", sum := "9f16f86f3281f1ae03f27433614b329ff4eb0ce19b3424d017af9b61e00cd580", func := "constraint/constraintlaw03.TermBuilds", spec := "termBuilds", inPlace := ["internal/bytealg.IndexByteString", "internal/bytealg.IndexString"], unfollowed := true, recurses := true, named := ["internal/bytealg.MaxLen"], loops := true, apart := false, narrowed := true }
def TermBuildsUptoSaid : Prop := termBuildsUptoRow.holds Try.pinned (OpenSpec.upto termBuildsSpec)

/-- 'constraintlaw03.TermGoals', WHERE WHAT IT READS IS OF BULK AT MOST 1048576: true; the input reads as it did. -/
def termGoalsUptoRow : OpenClaim := { program := "ytcjbageaiafbmaa", sum := "9f16f86f3281f1ae03f27433614b329ff4eb0ce19b3424d017af9b61e00cd580", func := "constraint/constraintlaw03.TermGoals", spec := "termGoals", inPlace := ["internal/bytealg.IndexByteString", "internal/bytealg.IndexString"], unfollowed := true, recurses := true, named := ["internal/bytealg.MaxLen"], loops := true, apart := false, narrowed := true }
def TermGoalsUptoSaid : Prop := termGoalsUptoRow.holds Try.pinned (OpenSpec.upto termGoalsSpec)

/-- 'constraintlaw03.TermAtoms', WHERE WHAT IT READS IS OF BULK AT MOST 1048576: true; the input reads as it did. -/
def termAtomsUptoRow : OpenClaim := { program := "ytcjbageaiafbmaa", sum := "9f16f86f3281f1ae03f27433614b329ff4eb0ce19b3424d017af9b61e00cd580", func := "constraint/constraintlaw03.TermAtoms", spec := "termAtoms", inPlace := ["internal/bytealg.IndexByteString", "internal/bytealg.IndexString"], unfollowed := true, recurses := true, named := ["internal/bytealg.MaxLen"], loops := true, apart := false, narrowed := true }
def TermAtomsUptoSaid : Prop := termAtomsUptoRow.holds Try.pinned (OpenSpec.upto termAtomsSpec)

/-- 'constraintlaw03.TermMeasures', WHERE WHAT IT READS IS OF BULK AT MOST 1048576: true; the input reads as it did. -/
def termMeasuresUptoRow : OpenClaim := { program := "ytcjbageaiafbmaa", sum := "9f16f86f3281f1ae03f27433614b329ff4eb0ce19b3424d017af9b61e00cd580", func := "constraint/constraintlaw03.TermMeasures", spec := "termMeasures", inPlace := ["internal/bytealg.IndexByteString", "internal/bytealg.IndexString"], unfollowed := true, recurses := true, named := ["internal/bytealg.MaxLen"], loops := true, apart := false, narrowed := true }
def TermMeasuresUptoSaid : Prop := termMeasuresUptoRow.holds Try.pinned (OpenSpec.upto termMeasuresSpec)

end Rows
end Go.Proofs.Ytcjbageaiafbmaa
