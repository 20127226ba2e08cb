/-
  NARROWER THAN 'FOR EVERY INPUT', by the rows' own cells (each row's printed sentence says how): StoredFacts: loops · StoredOrder: loops · StoredMore: loops.
  DERIVED. THE GIVEN ROWS OF THIS SEAT. 3 by the template 'for every input the law returns true; each argument reads behind the call as it read before'; 0 by the template 'total and deterministic' (their statements: YtnldggbcfcibaaaTotals.lean).
  GIVEN WITH THE SEED: the statements are not yours to turn. If you find one false, say at which input.
  Laid BY PROGRAM, IN A SANDBOX (cutbox-rows.mjs): the forced cells as the released guide's own fill.sh prints them over the translation d0b792ca85eb11e7… (all of the seat's roots in one cut). By AI agents, Wed Nov 11 2026. No macro, syntax, notation, axiom, sorry.
-/
import Derived.Test.YtnldggbcfcibaaaChecked
import GoSem.Claim
import GoSem.ClaimJoined
import GoSem.ClaimMapViews
import Derived.JoinedTies
import Derived.KernelRfl
namespace Go.Proofs.Ytnldggbcfcibaaa
/- THE CELL 'sum', in the pinned program and in every row, IS THE sha256 OF THE DUMP (.gsa) THAT YtnldggbcfcibaaaProg.lean LOADS. Nothing in Lean hashes anything: it is a label: what it is worth is what the hold of that sum in a sandbox is worth. -/
noncomputable def Try.pinned : Pinned := { name := "ytnldggbcfcibaaa", sum := "d0b792ca85eb11e7cd2f2fd201b000cd833a0f895b546aa9d9e1e00445c214a4", checked := Try.checked }
namespace Rows
def none {H : Type} : Left H := { results := [], args := [] }

/-- 'constraintlaw31.StoredFacts': WHATEVER THE INPUT: true; the input reads as it did. -/
def storedFactsSpec : ChangeSpec := { name := "storedFacts", fn := fun _ => fun
  | [d1, d2, d3] => { results := [.lit (.bool true)], args := [d1, d2, d3] }
  | _ => none }
def storedFactsRow : OpenClaim := { program := "ytnldggbcfcibaaa", sum := "d0b792ca85eb11e7cd2f2fd201b000cd833a0f895b546aa9d9e1e00445c214a4", func := "constraint/constraintlaw31.StoredFacts", spec := "storedFacts", inPlace := ["internal/bytealg.IndexByteString", "internal/bytealg.IndexString"], unfollowed := true, recurses := true, named := ["internal/bytealg.MaxLen"], loops := true, apart := false }
def StoredFactsSaid : Prop := storedFactsRow.holds Try.pinned (OpenSpec.ofChange storedFactsSpec)

/-- ITS FALSE NEIGHBOUR: 'it returns false'. Refute it at one input. -/
def storedFactsWrong : ChangeSpec := { name := "storedFacts", fn := fun _ => fun
  | [d1, d2, d3] => { results := [.lit (.bool false)], args := [d1, d2, d3] }
  | _ => none }
def StoredFactsWrongFalsely : Prop := storedFactsRow.holds Try.pinned (OpenSpec.ofChange storedFactsWrong)

/-- 'constraintlaw31.StoredOrder': WHATEVER THE INPUT: true; the input reads as it did. -/
def storedOrderSpec : ChangeSpec := { name := "storedOrder", fn := fun _ => fun
  | [d] => { results := [.lit (.bool true)], args := [d] }
  | _ => none }
def storedOrderRow : OpenClaim := { program := "ytnldggbcfcibaaa", sum := "d0b792ca85eb11e7cd2f2fd201b000cd833a0f895b546aa9d9e1e00445c214a4", func := "constraint/constraintlaw31.StoredOrder", spec := "storedOrder", inPlace := ["internal/bytealg.IndexByteString", "internal/bytealg.IndexString"], unfollowed := true, recurses := true, named := ["internal/bytealg.MaxLen"], loops := true, apart := false }
def StoredOrderSaid : Prop := storedOrderRow.holds Try.pinned (OpenSpec.ofChange storedOrderSpec)

/-- ITS FALSE NEIGHBOUR: 'it returns false'. Refute it at one input. -/
def storedOrderWrong : ChangeSpec := { name := "storedOrder", fn := fun _ => fun
  | [d] => { results := [.lit (.bool false)], args := [d] }
  | _ => none }
def StoredOrderWrongFalsely : Prop := storedOrderRow.holds Try.pinned (OpenSpec.ofChange storedOrderWrong)

/-- 'constraintlaw31.StoredMore': WHATEVER THE INPUT: true; the input reads as it did. -/
def storedMoreSpec : ChangeSpec := { name := "storedMore", fn := fun _ => fun
  | [d1, d2] => { results := [.lit (.bool true)], args := [d1, d2] }
  | _ => none }
def storedMoreRow : OpenClaim := { program := "ytnldggbcfcibaaa", sum := "d0b792ca85eb11e7cd2f2fd201b000cd833a0f895b546aa9d9e1e00445c214a4", func := "constraint/constraintlaw31.StoredMore", spec := "storedMore", inPlace := ["internal/bytealg.IndexByteString", "internal/bytealg.IndexString"], unfollowed := true, recurses := true, named := ["internal/bytealg.MaxLen"], loops := true, apart := false }
def StoredMoreSaid : Prop := storedMoreRow.holds Try.pinned (OpenSpec.ofChange storedMoreSpec)

/-- ITS FALSE NEIGHBOUR: 'it returns false'. Refute it at one input. -/
def storedMoreWrong : ChangeSpec := { name := "storedMore", fn := fun _ => fun
  | [d1, d2] => { results := [.lit (.bool false)], args := [d1, d2] }
  | _ => none }
def StoredMoreWrongFalsely : Prop := storedMoreRow.holds Try.pinned (OpenSpec.ofChange storedMoreWrong)

/- THE SECOND FORM. 'bulk': how many values and letters a reading holds, each counted each time it is reached (what is shared counts as often as it is met; a slice's spare places count too). A statement '..UptoSaid' is the law's where the arguments, and the package variables that the reading takes, are together of bulk at most 1048576: NARROWER than '..Said'. Prove '..Said' where nothing that the law and all that it calls make is longer than what came in: it says more and counts as full. Else prove '..UptoSaid'. A law counts once. -/
mutual
def uptoBulk {H : Type} : DataW H → Nat
  | .lit (.string bytes) => bytes.length + 1
  | .lit _ => 1
  | .nil => 1
  | .ptr d => uptoBulk d + 1
  | .slice elems spare => uptoBulkAll elems + uptoBulkAll spare + 1
  | .agg parts => uptoBulkAll parts + 1
  | .iface _ d => uptoBulk d + 1
  | .map entries => uptoBulkEntries entries + 1
  | .held _ => 1
def uptoBulkAll {H : Type} : List (DataW H) → Nat
  | [] => 0
  | d :: r => uptoBulk d + uptoBulkAll r
def uptoBulkEntries {H : Type} : List (Lit × DataW H) → Nat
  | [] => 0
  | x :: r => uptoBulkEntry x + uptoBulkEntries r
def uptoBulkEntry {H : Type} : Lit × DataW H → Nat
  | (.string bytes, d) => bytes.length + uptoBulk d + 1
  | (_, d) => uptoBulk d + 1
 end
def uptoSmall : (H : Type) → List (DataW H) → Bool := fun _ ds => decide (uptoBulkAll ds ≤ 1048576)
def OpenSpec.upto (s : _root_.Go.ChangeSpec) : _root_.Go.OpenSpec := { _root_.Go.OpenSpec.ofChange s with cond := some uptoSmall }

/-- 'constraintlaw31.StoredFacts', WHERE WHAT IT READS IS OF BULK AT MOST 1048576: true; the input reads as it did. -/
def storedFactsUptoRow : OpenClaim := { program := "ytnldggbcfcibaaa", sum := "d0b792ca85eb11e7cd2f2fd201b000cd833a0f895b546aa9d9e1e00445c214a4", func := "constraint/constraintlaw31.StoredFacts", spec := "storedFacts", inPlace := ["internal/bytealg.IndexByteString", "internal/bytealg.IndexString"], unfollowed := true, recurses := true, named := ["internal/bytealg.MaxLen"], loops := true, apart := false, narrowed := true }
def StoredFactsUptoSaid : Prop := storedFactsUptoRow.holds Try.pinned (OpenSpec.upto storedFactsSpec)

/-- 'constraintlaw31.StoredOrder', WHERE WHAT IT READS IS OF BULK AT MOST 1048576: true; the input reads as it did. -/
def storedOrderUptoRow : OpenClaim := { program := "ytnldggbcfcibaaa", sum := "d0b792ca85eb11e7cd2f2fd201b000cd833a0f895b546aa9d9e1e00445c214a4", func := "constraint/constraintlaw31.StoredOrder", spec := "storedOrder", inPlace := ["internal/bytealg.IndexByteString", "internal/bytealg.IndexString"], unfollowed := true, recurses := true, named := ["internal/bytealg.MaxLen"], loops := true, apart := false, narrowed := true }
def StoredOrderUptoSaid : Prop := storedOrderUptoRow.holds Try.pinned (OpenSpec.upto storedOrderSpec)

/-- 'constraintlaw31.StoredMore', WHERE WHAT IT READS IS OF BULK AT MOST 1048576: true; the input reads as it did. -/
def storedMoreUptoRow : OpenClaim := { program := "ytnldggbcfcibaaa", sum := "d0b792ca85eb11e7cd2f2fd201b000cd833a0f895b546aa9d9e1e00445c214a4", func := "constraint/constraintlaw31.StoredMore", spec := "storedMore", inPlace := ["internal/bytealg.IndexByteString", "internal/bytealg.IndexString"], unfollowed := true, recurses := true, named := ["internal/bytealg.MaxLen"], loops := true, apart := false, narrowed := true }
def StoredMoreUptoSaid : Prop := storedMoreUptoRow.holds Try.pinned (OpenSpec.upto storedMoreSpec)

end Rows
end Go.Proofs.Ytnldggbcfcibaaa
