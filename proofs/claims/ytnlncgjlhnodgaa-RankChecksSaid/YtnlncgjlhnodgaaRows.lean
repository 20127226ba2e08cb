/-
  NARROWER THAN 'FOR EVERY INPUT', by the rows' own cells (each row's printed sentence says how): RankTotals: loops · RankDecreases: loops · RankChecks: loops.
  DERIVED. THE GIVEN ROWS OF THIS SEAT. 3 by the template 'for every input the law returns true; each argument reads behind the call as it read before'; 0 by the template 'total and deterministic' (their statements: YtnlncgjlhnodgaaTotals.lean).
  GIVEN WITH THE SEED: the statements are not yours to turn. If you find one false, say at which input.
  Laid BY PROGRAM, IN A SANDBOX (cutbox-rows.mjs): the forced cells as the released guide's own fill.sh prints them over the translation 8d79ac7e4f72de94… (all of the seat's roots in one cut). By AI agents, Wed Nov 11 2026. No macro, syntax, notation, axiom, sorry.
-/
import Derived.Test.YtnlncgjlhnodgaaChecked
import GoSem.Claim
import GoSem.ClaimJoined
import GoSem.ClaimMapViews
import Derived.JoinedTies
import Derived.KernelRfl
namespace Go.Proofs.Ytnlncgjlhnodgaa
/- THE CELL 'sum', in the pinned program and in every row, IS THE sha256 OF THE DUMP (.gsa) THAT YtnlncgjlhnodgaaProg.lean LOADS. Nothing in Lean hashes anything: it is a label: what it is worth is what the hold of that sum in a sandbox is worth. -/
noncomputable def Try.pinned : Pinned := { name := "ytnlncgjlhnodgaa", sum := "8d79ac7e4f72de944f25c6f295ab9be0c02e6db0f02a4dfcfd1b1a69aabc0e4b", checked := Try.checked }
namespace Rows
def none {H : Type} : Left H := { results := [], args := [] }

/-- 'constraintlaw41.RankTotals': WHATEVER THE INPUT: true; the input reads as it did. -/
def rankTotalsSpec : ChangeSpec := { name := "rankTotals", fn := fun _ => fun
  | [d1, d2, d3] => { results := [.lit (.bool true)], args := [d1, d2, d3] }
  | _ => none }
def rankTotalsRow : OpenClaim := { program := "ytnlncgjlhnodgaa", sum := "8d79ac7e4f72de944f25c6f295ab9be0c02e6db0f02a4dfcfd1b1a69aabc0e4b", func := "constraint/constraintlaw41.RankTotals", spec := "rankTotals", inPlace := ["internal/bytealg.IndexByteString", "internal/bytealg.IndexString"], unfollowed := true, recurses := true, named := ["internal/bytealg.MaxLen"], loops := true, apart := false }
def RankTotalsSaid : Prop := rankTotalsRow.holds Try.pinned (OpenSpec.ofChange rankTotalsSpec)

/-- ITS FALSE NEIGHBOUR: 'it returns false'. Refute it at one input. -/
def rankTotalsWrong : ChangeSpec := { name := "rankTotals", fn := fun _ => fun
  | [d1, d2, d3] => { results := [.lit (.bool false)], args := [d1, d2, d3] }
  | _ => none }
def RankTotalsWrongFalsely : Prop := rankTotalsRow.holds Try.pinned (OpenSpec.ofChange rankTotalsWrong)

/-- 'constraintlaw41.RankDecreases': WHATEVER THE INPUT: true; the input reads as it did. -/
def rankDecreasesSpec : ChangeSpec := { name := "rankDecreases", fn := fun _ => fun
  | [d1, d2] => { results := [.lit (.bool true)], args := [d1, d2] }
  | _ => none }
def rankDecreasesRow : OpenClaim := { program := "ytnlncgjlhnodgaa", sum := "8d79ac7e4f72de944f25c6f295ab9be0c02e6db0f02a4dfcfd1b1a69aabc0e4b", func := "constraint/constraintlaw41.RankDecreases", spec := "rankDecreases", inPlace := ["internal/bytealg.IndexByteString", "internal/bytealg.IndexString"], unfollowed := true, recurses := true, named := ["internal/bytealg.MaxLen"], loops := true, apart := false }
def RankDecreasesSaid : Prop := rankDecreasesRow.holds Try.pinned (OpenSpec.ofChange rankDecreasesSpec)

/-- ITS FALSE NEIGHBOUR: 'it returns false'. Refute it at one input. -/
def rankDecreasesWrong : ChangeSpec := { name := "rankDecreases", fn := fun _ => fun
  | [d1, d2] => { results := [.lit (.bool false)], args := [d1, d2] }
  | _ => none }
def RankDecreasesWrongFalsely : Prop := rankDecreasesRow.holds Try.pinned (OpenSpec.ofChange rankDecreasesWrong)

/-- 'constraintlaw41.RankChecks': WHATEVER THE INPUT: true; the input reads as it did. -/
def rankChecksSpec : ChangeSpec := { name := "rankChecks", fn := fun _ => fun
  | [d1, d2] => { results := [.lit (.bool true)], args := [d1, d2] }
  | _ => none }
def rankChecksRow : OpenClaim := { program := "ytnlncgjlhnodgaa", sum := "8d79ac7e4f72de944f25c6f295ab9be0c02e6db0f02a4dfcfd1b1a69aabc0e4b", func := "constraint/constraintlaw41.RankChecks", spec := "rankChecks", inPlace := ["internal/bytealg.IndexByteString", "internal/bytealg.IndexString"], unfollowed := true, recurses := true, named := ["internal/bytealg.MaxLen"], loops := true, apart := false }
def RankChecksSaid : Prop := rankChecksRow.holds Try.pinned (OpenSpec.ofChange rankChecksSpec)

/-- ITS FALSE NEIGHBOUR: 'it returns false'. Refute it at one input. -/
def rankChecksWrong : ChangeSpec := { name := "rankChecks", fn := fun _ => fun
  | [d1, d2] => { results := [.lit (.bool false)], args := [d1, d2] }
  | _ => none }
def RankChecksWrongFalsely : Prop := rankChecksRow.holds Try.pinned (OpenSpec.ofChange rankChecksWrong)

/- THE SECOND FORM. 'bulk': how many values and letters a reading holds, each counted each time it is reached (what is shared counts as often as it is met; a slice's spare places count too). A statement '..UptoSaid' is the law's where the arguments, and the package variables that the reading takes, are together of bulk at most 1048576: NARROWER than '..Said'. Prove '..Said' where nothing that the law and all that it calls make is longer than what came in: it says more and counts as full. Else prove '..UptoSaid'. A law counts once. -/
mutual
def uptoBulk {H : Type} : DataW H → Nat
  | .lit (.string bytes) => bytes.length + 1
  | .lit _ => 1
  | .nil => 1
  | .ptr d => uptoBulk d + 1
  | .slice elems spare => uptoBulkAll elems + uptoBulkAll spare + 1
  | .agg parts => uptoBulkAll parts + 1
  | .iface _ d => uptoBulk d + 1
  | .map entries => uptoBulkEntries entries + 1
  | .held _ => 1
def uptoBulkAll {H : Type} : List (DataW H) → Nat
  | [] => 0
  | d :: r => uptoBulk d + uptoBulkAll r
def uptoBulkEntries {H : Type} : List (Lit × DataW H) → Nat
  | [] => 0
  | x :: r => uptoBulkEntry x + uptoBulkEntries r
def uptoBulkEntry {H : Type} : Lit × DataW H → Nat
  | (.string bytes, d) => bytes.length + uptoBulk d + 1
  | (_, d) => uptoBulk d + 1
 end
def uptoSmall : (H : Type) → List (DataW H) → Bool := fun _ ds => decide (uptoBulkAll ds ≤ 1048576)
def OpenSpec.upto (s : _root_.Go.ChangeSpec) : _root_.Go.OpenSpec := { _root_.Go.OpenSpec.ofChange s with cond := some uptoSmall }

/-- 'constraintlaw41.RankTotals', WHERE WHAT IT READS IS OF BULK AT MOST 1048576: true; the input reads as it did. -/
def rankTotalsUptoRow : OpenClaim := { program := "ytnlncgjlhnodgaa", sum := "8d79ac7e4f72de944f25c6f295ab9be0c02e6db0f02a4dfcfd1b1a69aabc0e4b", func := "constraint/constraintlaw41.RankTotals", spec := "rankTotals", inPlace := ["internal/bytealg.IndexByteString", "internal/bytealg.IndexString"], unfollowed := true, recurses := true, named := ["internal/bytealg.MaxLen"], loops := true, apart := false, narrowed := true }
def RankTotalsUptoSaid : Prop := rankTotalsUptoRow.holds Try.pinned (OpenSpec.upto rankTotalsSpec)

/-- 'constraintlaw41.RankDecreases', WHERE WHAT IT READS IS OF BULK AT MOST 1048576: true; the input reads as it did. -/
def rankDecreasesUptoRow : OpenClaim := { program := "ytnlncgjlhnodgaa", sum := "8d79ac7e4f72de944f25c6f295ab9be0c02e6db0f02a4dfcfd1b1a69aabc0e4b", func := "constraint/constraintlaw41.RankDecreases", spec := "rankDecreases", inPlace := ["internal/bytealg.IndexByteString", "internal/bytealg.IndexString"], unfollowed := true, recurses := true, named := ["internal/bytealg.MaxLen"], loops := true, apart := false, narrowed := true }
def RankDecreasesUptoSaid : Prop := rankDecreasesUptoRow.holds Try.pinned (OpenSpec.upto rankDecreasesSpec)

/-- 'constraintlaw41.RankChecks', WHERE WHAT IT READS IS OF BULK AT MOST 1048576: true; the input reads as it did. -/
def rankChecksUptoRow : OpenClaim := { program := "ytnlncgjlhnodgaa", sum := "8d79ac7e4f72de944f25c6f295ab9be0c02e6db0f02a4dfcfd1b1a69aabc0e4b", func := "constraint/constraintlaw41.RankChecks", spec := "rankChecks", inPlace := ["internal/bytealg.IndexByteString", "internal/bytealg.IndexString"], unfollowed := true, recurses := true, named := ["internal/bytealg.MaxLen"], loops := true, apart := false, narrowed := true }
def RankChecksUptoSaid : Prop := rankChecksUptoRow.holds Try.pinned (OpenSpec.upto rankChecksSpec)

end Rows
end Go.Proofs.Ytnlncgjlhnodgaa
