/-
  NARROWER THAN 'FOR EVERY INPUT', by the rows' own cells (each row's printed sentence says how): StoreAdds: loops · StoreReads: loops · StoreApplies: loops · StoreReturns: loops · SubstRight: loops · SubstComposes: loops · SubstThen: loops · SubstAssociates: loops · SubstApplies: loops · SubstIdempotent: loops · SubstRestricts: loops.
  DERIVED. THE GIVEN ROWS OF THIS SEAT. 11 by the template 'for every input the law returns true; each argument reads behind the call as it read before'; 0 by the template 'total and deterministic' (their statements: YtmponbfmbigjpaaTotals.lean).
  GIVEN WITH THE SEED: the statements are not yours to turn. If you find one false, say at which input.
  Laid BY PROGRAM, IN A SANDBOX (cutbox-rows.mjs): the forced cells as the released guide's own fill.sh prints them over the translation a7ca7e260cf2a4f7… (all of the seat's roots in one cut). By AI agents, Wed Nov 11 2026. No macro, syntax, notation, axiom, sorry.
-/
import Derived.Test.YtmponbfmbigjpaaChecked
import GoSem.Claim
import GoSem.ClaimJoined
import GoSem.ClaimMapViews
import Derived.JoinedTies
import Derived.KernelRfl
namespace Go.Proofs.Ytmponbfmbigjpaa
/- THE CELL 'sum', in the pinned program and in every row, IS THE sha256 OF THE DUMP (.gsa) THAT YtmponbfmbigjpaaProg.lean LOADS. Nothing in Lean hashes anything: it is a label: what it is worth is what the hold of that sum in a sandbox is worth. -/
noncomputable def Try.pinned : Pinned := { name := "ytmponbfmbigjpaa", sum := "a7ca7e260cf2a4f7117f501817308c817aeb2827ca037c689b42ec553d59178f", checked := Try.checked }
namespace Rows
def none {H : Type} : Left H := { results := [], args := [] }

/-- 'constraintlaw19.StoreAdds': WHATEVER THE INPUT: true; the input reads as it did. -/
def storeAddsSpec : ChangeSpec := { name := "storeAdds", fn := fun _ => fun
  | [d1, d2] => { results := [.lit (.bool true)], args := [d1, d2] }
  | _ => none }
def storeAddsRow : OpenClaim := { program := "ytmponbfmbigjpaa", sum := "a7ca7e260cf2a4f7117f501817308c817aeb2827ca037c689b42ec553d59178f", func := "constraint/constraintlaw19.StoreAdds", spec := "storeAdds", inPlace := ["internal/bytealg.IndexByteString", "internal/bytealg.IndexString"], unfollowed := true, recurses := true, named := ["internal/bytealg.MaxLen"], loops := true, apart := false }
def StoreAddsSaid : Prop := storeAddsRow.holds Try.pinned (OpenSpec.ofChange storeAddsSpec)

/-- ITS FALSE NEIGHBOUR: 'it returns false'. Refute it at one input. -/
def storeAddsWrong : ChangeSpec := { name := "storeAdds", fn := fun _ => fun
  | [d1, d2] => { results := [.lit (.bool false)], args := [d1, d2] }
  | _ => none }
def StoreAddsWrongFalsely : Prop := storeAddsRow.holds Try.pinned (OpenSpec.ofChange storeAddsWrong)

/-- 'constraintlaw19.StoreReads': WHATEVER THE INPUT: true; the input reads as it did. -/
def storeReadsSpec : ChangeSpec := { name := "storeReads", fn := fun _ => fun
  | [d1, d2, d3] => { results := [.lit (.bool true)], args := [d1, d2, d3] }
  | _ => none }
def storeReadsRow : OpenClaim := { program := "ytmponbfmbigjpaa", sum := "a7ca7e260cf2a4f7117f501817308c817aeb2827ca037c689b42ec553d59178f", func := "constraint/constraintlaw19.StoreReads", spec := "storeReads", inPlace := ["internal/bytealg.IndexByteString", "internal/bytealg.IndexString"], unfollowed := true, recurses := true, named := ["internal/bytealg.MaxLen"], loops := true, apart := false }
def StoreReadsSaid : Prop := storeReadsRow.holds Try.pinned (OpenSpec.ofChange storeReadsSpec)

/-- ITS FALSE NEIGHBOUR: 'it returns false'. Refute it at one input. -/
def storeReadsWrong : ChangeSpec := { name := "storeReads", fn := fun _ => fun
  | [d1, d2, d3] => { results := [.lit (.bool false)], args := [d1, d2, d3] }
  | _ => none }
def StoreReadsWrongFalsely : Prop := storeReadsRow.holds Try.pinned (OpenSpec.ofChange storeReadsWrong)

/-- 'constraintlaw19.StoreApplies': WHATEVER THE INPUT: true; the input reads as it did. -/
def storeAppliesSpec : ChangeSpec := { name := "storeApplies", fn := fun _ => fun
  | [d1, d2, d3] => { results := [.lit (.bool true)], args := [d1, d2, d3] }
  | _ => none }
def storeAppliesRow : OpenClaim := { program := "ytmponbfmbigjpaa", sum := "a7ca7e260cf2a4f7117f501817308c817aeb2827ca037c689b42ec553d59178f", func := "constraint/constraintlaw19.StoreApplies", spec := "storeApplies", inPlace := ["internal/bytealg.IndexByteString", "internal/bytealg.IndexString"], unfollowed := true, recurses := true, named := ["internal/bytealg.MaxLen"], loops := true, apart := false }
def StoreAppliesSaid : Prop := storeAppliesRow.holds Try.pinned (OpenSpec.ofChange storeAppliesSpec)

/-- ITS FALSE NEIGHBOUR: 'it returns false'. Refute it at one input. -/
def storeAppliesWrong : ChangeSpec := { name := "storeApplies", fn := fun _ => fun
  | [d1, d2, d3] => { results := [.lit (.bool false)], args := [d1, d2, d3] }
  | _ => none }
def StoreAppliesWrongFalsely : Prop := storeAppliesRow.holds Try.pinned (OpenSpec.ofChange storeAppliesWrong)

/-- 'constraintlaw19.StoreReturns': WHATEVER THE INPUT: true; the input reads as it did. -/
def storeReturnsSpec : ChangeSpec := { name := "storeReturns", fn := fun _ => fun
  | [d1, d2, d3] => { results := [.lit (.bool true)], args := [d1, d2, d3] }
  | _ => none }
def storeReturnsRow : OpenClaim := { program := "ytmponbfmbigjpaa", sum := "a7ca7e260cf2a4f7117f501817308c817aeb2827ca037c689b42ec553d59178f", func := "constraint/constraintlaw19.StoreReturns", spec := "storeReturns", inPlace := ["internal/bytealg.IndexByteString", "internal/bytealg.IndexString"], unfollowed := true, recurses := true, named := ["internal/bytealg.MaxLen"], loops := true, apart := false }
def StoreReturnsSaid : Prop := storeReturnsRow.holds Try.pinned (OpenSpec.ofChange storeReturnsSpec)

/-- ITS FALSE NEIGHBOUR: 'it returns false'. Refute it at one input. -/
def storeReturnsWrong : ChangeSpec := { name := "storeReturns", fn := fun _ => fun
  | [d1, d2, d3] => { results := [.lit (.bool false)], args := [d1, d2, d3] }
  | _ => none }
def StoreReturnsWrongFalsely : Prop := storeReturnsRow.holds Try.pinned (OpenSpec.ofChange storeReturnsWrong)

/-- 'constraintlaw06.SubstRight': WHATEVER THE INPUT: true; the input reads as it did. -/
def substRightSpec : ChangeSpec := { name := "substRight", fn := fun _ => fun
  | [d] => { results := [.lit (.bool true)], args := [d] }
  | _ => none }
def substRightRow : OpenClaim := { program := "ytmponbfmbigjpaa", sum := "a7ca7e260cf2a4f7117f501817308c817aeb2827ca037c689b42ec553d59178f", func := "constraint/constraintlaw06.SubstRight", spec := "substRight", inPlace := ["internal/bytealg.IndexByteString", "internal/bytealg.IndexString"], unfollowed := true, recurses := true, named := ["internal/bytealg.MaxLen"], loops := true, apart := false }
def SubstRightSaid : Prop := substRightRow.holds Try.pinned (OpenSpec.ofChange substRightSpec)

/-- ITS FALSE NEIGHBOUR: 'it returns false'. Refute it at one input. -/
def substRightWrong : ChangeSpec := { name := "substRight", fn := fun _ => fun
  | [d] => { results := [.lit (.bool false)], args := [d] }
  | _ => none }
def SubstRightWrongFalsely : Prop := substRightRow.holds Try.pinned (OpenSpec.ofChange substRightWrong)

/-- 'constraintlaw06.SubstComposes': WHATEVER THE INPUT: true; the input reads as it did. -/
def substComposesSpec : ChangeSpec := { name := "substComposes", fn := fun _ => fun
  | [d1, d2] => { results := [.lit (.bool true)], args := [d1, d2] }
  | _ => none }
def substComposesRow : OpenClaim := { program := "ytmponbfmbigjpaa", sum := "a7ca7e260cf2a4f7117f501817308c817aeb2827ca037c689b42ec553d59178f", func := "constraint/constraintlaw06.SubstComposes", spec := "substComposes", inPlace := ["internal/bytealg.IndexByteString", "internal/bytealg.IndexString"], unfollowed := true, recurses := true, named := ["internal/bytealg.MaxLen"], loops := true, apart := false }
def SubstComposesSaid : Prop := substComposesRow.holds Try.pinned (OpenSpec.ofChange substComposesSpec)

/-- ITS FALSE NEIGHBOUR: 'it returns false'. Refute it at one input. -/
def substComposesWrong : ChangeSpec := { name := "substComposes", fn := fun _ => fun
  | [d1, d2] => { results := [.lit (.bool false)], args := [d1, d2] }
  | _ => none }
def SubstComposesWrongFalsely : Prop := substComposesRow.holds Try.pinned (OpenSpec.ofChange substComposesWrong)

/-- 'constraintlaw06.SubstThen': WHATEVER THE INPUT: true; the input reads as it did. -/
def substThenSpec : ChangeSpec := { name := "substThen", fn := fun _ => fun
  | [d1, d2, d3] => { results := [.lit (.bool true)], args := [d1, d2, d3] }
  | _ => none }
def substThenRow : OpenClaim := { program := "ytmponbfmbigjpaa", sum := "a7ca7e260cf2a4f7117f501817308c817aeb2827ca037c689b42ec553d59178f", func := "constraint/constraintlaw06.SubstThen", spec := "substThen", inPlace := ["internal/bytealg.IndexByteString", "internal/bytealg.IndexString"], unfollowed := true, recurses := true, named := ["internal/bytealg.MaxLen"], loops := true, apart := false }
def SubstThenSaid : Prop := substThenRow.holds Try.pinned (OpenSpec.ofChange substThenSpec)

/-- ITS FALSE NEIGHBOUR: 'it returns false'. Refute it at one input. -/
def substThenWrong : ChangeSpec := { name := "substThen", fn := fun _ => fun
  | [d1, d2, d3] => { results := [.lit (.bool false)], args := [d1, d2, d3] }
  | _ => none }
def SubstThenWrongFalsely : Prop := substThenRow.holds Try.pinned (OpenSpec.ofChange substThenWrong)

/-- 'constraintlaw06.SubstAssociates': WHATEVER THE INPUT: true; the input reads as it did. -/
def substAssociatesSpec : ChangeSpec := { name := "substAssociates", fn := fun _ => fun
  | [d1, d2, d3] => { results := [.lit (.bool true)], args := [d1, d2, d3] }
  | _ => none }
def substAssociatesRow : OpenClaim := { program := "ytmponbfmbigjpaa", sum := "a7ca7e260cf2a4f7117f501817308c817aeb2827ca037c689b42ec553d59178f", func := "constraint/constraintlaw06.SubstAssociates", spec := "substAssociates", inPlace := ["internal/bytealg.IndexByteString", "internal/bytealg.IndexString"], unfollowed := true, recurses := true, named := ["internal/bytealg.MaxLen"], loops := true, apart := false }
def SubstAssociatesSaid : Prop := substAssociatesRow.holds Try.pinned (OpenSpec.ofChange substAssociatesSpec)

/-- ITS FALSE NEIGHBOUR: 'it returns false'. Refute it at one input. -/
def substAssociatesWrong : ChangeSpec := { name := "substAssociates", fn := fun _ => fun
  | [d1, d2, d3] => { results := [.lit (.bool false)], args := [d1, d2, d3] }
  | _ => none }
def SubstAssociatesWrongFalsely : Prop := substAssociatesRow.holds Try.pinned (OpenSpec.ofChange substAssociatesWrong)

/-- 'constraintlaw06.SubstApplies': WHATEVER THE INPUT: true; the input reads as it did. -/
def substAppliesSpec : ChangeSpec := { name := "substApplies", fn := fun _ => fun
  | [d1, d2, d3] => { results := [.lit (.bool true)], args := [d1, d2, d3] }
  | _ => none }
def substAppliesRow : OpenClaim := { program := "ytmponbfmbigjpaa", sum := "a7ca7e260cf2a4f7117f501817308c817aeb2827ca037c689b42ec553d59178f", func := "constraint/constraintlaw06.SubstApplies", spec := "substApplies", inPlace := ["internal/bytealg.IndexByteString", "internal/bytealg.IndexString"], unfollowed := true, recurses := true, named := ["internal/bytealg.MaxLen"], loops := true, apart := false }
def SubstAppliesSaid : Prop := substAppliesRow.holds Try.pinned (OpenSpec.ofChange substAppliesSpec)

/-- ITS FALSE NEIGHBOUR: 'it returns false'. Refute it at one input. -/
def substAppliesWrong : ChangeSpec := { name := "substApplies", fn := fun _ => fun
  | [d1, d2, d3] => { results := [.lit (.bool false)], args := [d1, d2, d3] }
  | _ => none }
def SubstAppliesWrongFalsely : Prop := substAppliesRow.holds Try.pinned (OpenSpec.ofChange substAppliesWrong)

/-- 'constraintlaw06.SubstIdempotent': WHATEVER THE INPUT: true; the input reads as it did. -/
def substIdempotentSpec : ChangeSpec := { name := "substIdempotent", fn := fun _ => fun
  | [d1, d2] => { results := [.lit (.bool true)], args := [d1, d2] }
  | _ => none }
def substIdempotentRow : OpenClaim := { program := "ytmponbfmbigjpaa", sum := "a7ca7e260cf2a4f7117f501817308c817aeb2827ca037c689b42ec553d59178f", func := "constraint/constraintlaw06.SubstIdempotent", spec := "substIdempotent", inPlace := ["internal/bytealg.IndexByteString", "internal/bytealg.IndexString"], unfollowed := true, recurses := true, named := ["internal/bytealg.MaxLen"], loops := true, apart := false }
def SubstIdempotentSaid : Prop := substIdempotentRow.holds Try.pinned (OpenSpec.ofChange substIdempotentSpec)

/-- ITS FALSE NEIGHBOUR: 'it returns false'. Refute it at one input. -/
def substIdempotentWrong : ChangeSpec := { name := "substIdempotent", fn := fun _ => fun
  | [d1, d2] => { results := [.lit (.bool false)], args := [d1, d2] }
  | _ => none }
def SubstIdempotentWrongFalsely : Prop := substIdempotentRow.holds Try.pinned (OpenSpec.ofChange substIdempotentWrong)

/-- 'constraintlaw06.SubstRestricts': WHATEVER THE INPUT: true; the input reads as it did. -/
def substRestrictsSpec : ChangeSpec := { name := "substRestricts", fn := fun _ => fun
  | [d1, d2, d3] => { results := [.lit (.bool true)], args := [d1, d2, d3] }
  | _ => none }
def substRestrictsRow : OpenClaim := { program := "ytmponbfmbigjpaa", sum := "a7ca7e260cf2a4f7117f501817308c817aeb2827ca037c689b42ec553d59178f", func := "constraint/constraintlaw06.SubstRestricts", spec := "substRestricts", inPlace := ["internal/bytealg.IndexByteString", "internal/bytealg.IndexString"], unfollowed := true, recurses := true, named := ["internal/bytealg.MaxLen"], loops := true, apart := false }
def SubstRestrictsSaid : Prop := substRestrictsRow.holds Try.pinned (OpenSpec.ofChange substRestrictsSpec)

/-- ITS FALSE NEIGHBOUR: 'it returns false'. Refute it at one input. -/
def substRestrictsWrong : ChangeSpec := { name := "substRestricts", fn := fun _ => fun
  | [d1, d2, d3] => { results := [.lit (.bool false)], args := [d1, d2, d3] }
  | _ => none }
def SubstRestrictsWrongFalsely : Prop := substRestrictsRow.holds Try.pinned (OpenSpec.ofChange substRestrictsWrong)

/- THE SECOND FORM. 'bulk': how many values and letters a reading holds, each counted each time it is reached (what is shared counts as often as it is met; a slice's spare places count too). A statement '..UptoSaid' is the law's where the arguments, and the package variables that the reading takes, are together of bulk at most 1048576: NARROWER than '..Said'. Prove '..Said' where nothing that the law and all that it calls make is longer than what came in: it says more and counts as full. Else prove '..UptoSaid'. A law counts once. -/
mutual
def uptoBulk {H : Type} : DataW H → Nat
  | .lit (.string bytes) => bytes.length + 1
  | .lit _ => 1
  | .nil => 1
  | .ptr d => uptoBulk d + 1
  | .slice elems spare => uptoBulkAll elems + uptoBulkAll spare + 1
  | .agg parts => uptoBulkAll parts + 1
  | .iface _ d => uptoBulk d + 1
  | .map entries => uptoBulkEntries entries + 1
  | .held _ => 1
def uptoBulkAll {H : Type} : List (DataW H) → Nat
  | [] => 0
  | d :: r => uptoBulk d + uptoBulkAll r
def uptoBulkEntries {H : Type} : List (Lit × DataW H) → Nat
  | [] => 0
  | x :: r => uptoBulkEntry x + uptoBulkEntries r
def uptoBulkEntry {H : Type} : Lit × DataW H → Nat
  | (.string bytes, d) => bytes.length + uptoBulk d + 1
  | (_, d) => uptoBulk d + 1
 end
def uptoSmall : (H : Type) → List (DataW H) → Bool := fun _ ds => decide (uptoBulkAll ds ≤ 1048576)
def OpenSpec.upto (s : _root_.Go.ChangeSpec) : _root_.Go.OpenSpec := { _root_.Go.OpenSpec.ofChange s with cond := some uptoSmall }

/-- 'constraintlaw19.StoreAdds', WHERE WHAT IT READS IS OF BULK AT MOST 1048576: true; the input reads as it did. -/
def storeAddsUptoRow : OpenClaim := { program := "ytmponbfmbigjpaa", sum := "a7ca7e260cf2a4f7117f501817308c817aeb2827ca037c689b42ec553d59178f", func := "constraint/constraintlaw19.StoreAdds", spec := "storeAdds", inPlace := ["internal/bytealg.IndexByteString", "internal/bytealg.IndexString"], unfollowed := true, recurses := true, named := ["internal/bytealg.MaxLen"], loops := true, apart := false, narrowed := true }
def StoreAddsUptoSaid : Prop := storeAddsUptoRow.holds Try.pinned (OpenSpec.upto storeAddsSpec)

/-- 'constraintlaw19.StoreReads', WHERE WHAT IT READS IS OF BULK AT MOST 1048576: true; the input reads as it did. -/
def storeReadsUptoRow : OpenClaim := { program := "ytmponbfmbigjpaa", sum := "a7ca7e260cf2a4f7117f501817308c817aeb2827ca037c689b42ec553d59178f", func := "constraint/constraintlaw19.StoreReads", spec := "storeReads", inPlace := ["internal/bytealg.IndexByteString", "internal/bytealg.IndexString"], unfollowed := true, recurses := true, named := ["internal/bytealg.MaxLen"], loops := true, apart := false, narrowed := true }
def StoreReadsUptoSaid : Prop := storeReadsUptoRow.holds Try.pinned (OpenSpec.upto storeReadsSpec)

/-- 'constraintlaw19.StoreApplies', WHERE WHAT IT READS IS OF BULK AT MOST 1048576: true; the input reads as it did. -/
def storeAppliesUptoRow : OpenClaim := { program := "ytmponbfmbigjpaa", sum := "a7ca7e260cf2a4f7117f501817308c817aeb2827ca037c689b42ec553d59178f", func := "constraint/constraintlaw19.StoreApplies", spec := "storeApplies", inPlace := ["internal/bytealg.IndexByteString", "internal/bytealg.IndexString"], unfollowed := true, recurses := true, named := ["internal/bytealg.MaxLen"], loops := true, apart := false, narrowed := true }
def StoreAppliesUptoSaid : Prop := storeAppliesUptoRow.holds Try.pinned (OpenSpec.upto storeAppliesSpec)

/-- 'constraintlaw19.StoreReturns', WHERE WHAT IT READS IS OF BULK AT MOST 1048576: true; the input reads as it did. -/
def storeReturnsUptoRow : OpenClaim := { program := "ytmponbfmbigjpaa", sum := "a7ca7e260cf2a4f7117f501817308c817aeb2827ca037c689b42ec553d59178f", func := "constraint/constraintlaw19.StoreReturns", spec := "storeReturns", inPlace := ["internal/bytealg.IndexByteString", "internal/bytealg.IndexString"], unfollowed := true, recurses := true, named := ["internal/bytealg.MaxLen"], loops := true, apart := false, narrowed := true }
def StoreReturnsUptoSaid : Prop := storeReturnsUptoRow.holds Try.pinned (OpenSpec.upto storeReturnsSpec)

/-- 'constraintlaw06.SubstRight', WHERE WHAT IT READS IS OF BULK AT MOST 1048576: true; the input reads as it did. -/
def substRightUptoRow : OpenClaim := { program := "ytmponbfmbigjpaa", sum := "a7ca7e260cf2a4f7117f501817308c817aeb2827ca037c689b42ec553d59178f", func := "constraint/constraintlaw06.SubstRight", spec := "substRight", inPlace := ["internal/bytealg.IndexByteString", "internal/bytealg.IndexString"], unfollowed := true, recurses := true, named := ["internal/bytealg.MaxLen"], loops := true, apart := false, narrowed := true }
def SubstRightUptoSaid : Prop := substRightUptoRow.holds Try.pinned (OpenSpec.upto substRightSpec)

/-- 'constraintlaw06.SubstComposes', WHERE WHAT IT READS IS OF BULK AT MOST 1048576: true; the input reads as it did. -/
def substComposesUptoRow : OpenClaim := { program := "ytmponbfmbigjpaa", sum := "a7ca7e260cf2a4f7117f501817308c817aeb2827ca037c689b42ec553d59178f", func := "constraint/constraintlaw06.SubstComposes", spec := "substComposes", inPlace := ["internal/bytealg.IndexByteString", "internal/bytealg.IndexString"], unfollowed := true, recurses := true, named := ["internal/bytealg.MaxLen"], loops := true, apart := false, narrowed := true }
def SubstComposesUptoSaid : Prop := substComposesUptoRow.holds Try.pinned (OpenSpec.upto substComposesSpec)

/-- 'constraintlaw06.SubstThen', WHERE WHAT IT READS IS OF BULK AT MOST 1048576: true; the input reads as it did. -/
def substThenUptoRow : OpenClaim := { program := "ytmponbfmbigjpaa", sum := "a7ca7e260cf2a4f7117f501817308c817aeb2827ca037c689b42ec553d59178f", func := "constraint/constraintlaw06.SubstThen", spec := "substThen", inPlace := ["internal/bytealg.IndexByteString", "internal/bytealg.IndexString"], unfollowed := true, recurses := true, named := ["internal/bytealg.MaxLen"], loops := true, apart := false, narrowed := true }
def SubstThenUptoSaid : Prop := substThenUptoRow.holds Try.pinned (OpenSpec.upto substThenSpec)

/-- 'constraintlaw06.SubstAssociates', WHERE WHAT IT READS IS OF BULK AT MOST 1048576: true; the input reads as it did. -/
def substAssociatesUptoRow : OpenClaim := { program := "ytmponbfmbigjpaa", sum := "a7ca7e260cf2a4f7117f501817308c817aeb2827ca037c689b42ec553d59178f", func := "constraint/constraintlaw06.SubstAssociates", spec := "substAssociates", inPlace := ["internal/bytealg.IndexByteString", "internal/bytealg.IndexString"], unfollowed := true, recurses := true, named := ["internal/bytealg.MaxLen"], loops := true, apart := false, narrowed := true }
def SubstAssociatesUptoSaid : Prop := substAssociatesUptoRow.holds Try.pinned (OpenSpec.upto substAssociatesSpec)

/-- 'constraintlaw06.SubstApplies', WHERE WHAT IT READS IS OF BULK AT MOST 1048576: true; the input reads as it did. -/
def substAppliesUptoRow : OpenClaim := { program := "ytmponbfmbigjpaa", sum := "a7ca7e260cf2a4f7117f501817308c817aeb2827ca037c689b42ec553d59178f", func := "constraint/constraintlaw06.SubstApplies", spec := "substApplies", inPlace := ["internal/bytealg.IndexByteString", "internal/bytealg.IndexString"], unfollowed := true, recurses := true, named := ["internal/bytealg.MaxLen"], loops := true, apart := false, narrowed := true }
def SubstAppliesUptoSaid : Prop := substAppliesUptoRow.holds Try.pinned (OpenSpec.upto substAppliesSpec)

/-- 'constraintlaw06.SubstIdempotent', WHERE WHAT IT READS IS OF BULK AT MOST 1048576: true; the input reads as it did. -/
def substIdempotentUptoRow : OpenClaim := { program := "ytmponbfmbigjpaa", sum := "a7ca7e260cf2a4f7117f501817308c817aeb2827ca037c689b42ec553d59178f", func := "constraint/constraintlaw06.SubstIdempotent", spec := "substIdempotent", inPlace := ["internal/bytealg.IndexByteString", "internal/bytealg.IndexString"], unfollowed := true, recurses := true, named := ["internal/bytealg.MaxLen"], loops := true, apart := false, narrowed := true }
def SubstIdempotentUptoSaid : Prop := substIdempotentUptoRow.holds Try.pinned (OpenSpec.upto substIdempotentSpec)

/-- 'constraintlaw06.SubstRestricts', WHERE WHAT IT READS IS OF BULK AT MOST 1048576: true; the input reads as it did. -/
def substRestrictsUptoRow : OpenClaim := { program := "ytmponbfmbigjpaa", sum := "a7ca7e260cf2a4f7117f501817308c817aeb2827ca037c689b42ec553d59178f", func := "constraint/constraintlaw06.SubstRestricts", spec := "substRestricts", inPlace := ["internal/bytealg.IndexByteString", "internal/bytealg.IndexString"], unfollowed := true, recurses := true, named := ["internal/bytealg.MaxLen"], loops := true, apart := false, narrowed := true }
def SubstRestrictsUptoSaid : Prop := substRestrictsUptoRow.holds Try.pinned (OpenSpec.upto substRestrictsSpec)

end Rows
end Go.Proofs.Ytmponbfmbigjpaa
