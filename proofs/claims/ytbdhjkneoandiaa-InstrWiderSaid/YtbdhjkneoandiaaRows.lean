/-
  NARROWER THAN 'FOR EVERY INPUT', by the rows' own cells (each row's printed sentence says how): InstrRight: loops · InstrSame: loops · InstrBound: loops · InstrLess: loops · InstrWider: loops.
  DERIVED. THE GIVEN ROWS OF THIS SEAT. 5 by the template 'for every input the law returns true; each argument reads behind the call as it read before'; 0 by the template 'total and deterministic' (their statements: YtbdhjkneoandiaaTotals.lean).
  GIVEN WITH THE SEED: the statements are not yours to turn. If you find one false, say at which input.
  Laid BY PROGRAM, IN A SANDBOX (cutbox-rows.mjs): the forced cells as the released guide's own fill.sh prints them over the translation f1766388dcfe8248… (all of the seat's roots in one cut). By AI agents, Wed Nov 11 2026. No macro, syntax, notation, axiom, sorry.
-/
import Derived.Test.YtbdhjkneoandiaaChecked
import GoSem.Claim
import GoSem.ClaimJoined
import GoSem.ClaimMapViews
import Derived.JoinedTies
import Derived.KernelRfl
namespace Go.Proofs.Ytbdhjkneoandiaa
/- THE CELL 'sum', in the pinned program and in every row, IS THE sha256 OF THE DUMP (.gsa) THAT YtbdhjkneoandiaaProg.lean LOADS. Nothing in Lean hashes anything: it is a label: what it is worth is what the hold of that sum in a sandbox is worth. -/
noncomputable def Try.pinned : Pinned := { name := "ytbdhjkneoandiaa", sum := "f1766388dcfe8248692d5eaa008177d17474c8e9bad1645cd90ee3a836be1969", checked := Try.checked }
namespace Rows
def none {H : Type} : Left H := { results := [], args := [] }

/-- 'constraintlaw32.InstrRight': WHATEVER THE INPUT: true; the input reads as it did. -/
def instrRightSpec : ChangeSpec := { name := "instrRight", fn := fun _ => fun
  | [d] => { results := [.lit (.bool true)], args := [d] }
  | _ => none }
def instrRightRow : OpenClaim := { program := "ytbdhjkneoandiaa", sum := "f1766388dcfe8248692d5eaa008177d17474c8e9bad1645cd90ee3a836be1969", func := "constraint/constraintlaw32.InstrRight", spec := "instrRight", inPlace := ["internal/bytealg.IndexByteString", "internal/bytealg.IndexString"], unfollowed := true, recurses := true, named := ["internal/bytealg.MaxLen"], loops := true, plainKeys := false, apart := false }
def InstrRightSaid : Prop := instrRightRow.holds Try.pinned (OpenSpec.ofChange instrRightSpec)

/-- ITS FALSE NEIGHBOUR: 'it returns false'. Refute it at one input. -/
def instrRightWrong : ChangeSpec := { name := "instrRight", fn := fun _ => fun
  | [d] => { results := [.lit (.bool false)], args := [d] }
  | _ => none }
def InstrRightWrongFalsely : Prop := instrRightRow.holds Try.pinned (OpenSpec.ofChange instrRightWrong)

/-- 'constraintlaw32.InstrSame': WHATEVER THE INPUT: true; the input reads as it did. -/
def instrSameSpec : ChangeSpec := { name := "instrSame", fn := fun _ => fun
  | [d1, d2] => { results := [.lit (.bool true)], args := [d1, d2] }
  | _ => none }
def instrSameRow : OpenClaim := { program := "ytbdhjkneoandiaa", sum := "f1766388dcfe8248692d5eaa008177d17474c8e9bad1645cd90ee3a836be1969", func := "constraint/constraintlaw32.InstrSame", spec := "instrSame", inPlace := ["internal/bytealg.IndexByteString", "internal/bytealg.IndexString"], unfollowed := true, recurses := true, named := ["internal/bytealg.MaxLen"], loops := true, plainKeys := false, apart := false }
def InstrSameSaid : Prop := instrSameRow.holds Try.pinned (OpenSpec.ofChange instrSameSpec)

/-- ITS FALSE NEIGHBOUR: 'it returns false'. Refute it at one input. -/
def instrSameWrong : ChangeSpec := { name := "instrSame", fn := fun _ => fun
  | [d1, d2] => { results := [.lit (.bool false)], args := [d1, d2] }
  | _ => none }
def InstrSameWrongFalsely : Prop := instrSameRow.holds Try.pinned (OpenSpec.ofChange instrSameWrong)

/-- 'constraintlaw32.InstrBound': WHATEVER THE INPUT: true; the input reads as it did. -/
def instrBoundSpec : ChangeSpec := { name := "instrBound", fn := fun _ => fun
  | [d] => { results := [.lit (.bool true)], args := [d] }
  | _ => none }
def instrBoundRow : OpenClaim := { program := "ytbdhjkneoandiaa", sum := "f1766388dcfe8248692d5eaa008177d17474c8e9bad1645cd90ee3a836be1969", func := "constraint/constraintlaw32.InstrBound", spec := "instrBound", inPlace := ["internal/bytealg.IndexByteString", "internal/bytealg.IndexString"], unfollowed := true, recurses := true, named := ["internal/bytealg.MaxLen"], loops := true, plainKeys := false, apart := false }
def InstrBoundSaid : Prop := instrBoundRow.holds Try.pinned (OpenSpec.ofChange instrBoundSpec)

/-- ITS FALSE NEIGHBOUR: 'it returns false'. Refute it at one input. -/
def instrBoundWrong : ChangeSpec := { name := "instrBound", fn := fun _ => fun
  | [d] => { results := [.lit (.bool false)], args := [d] }
  | _ => none }
def InstrBoundWrongFalsely : Prop := instrBoundRow.holds Try.pinned (OpenSpec.ofChange instrBoundWrong)

/-- 'constraintlaw32.InstrLess': WHATEVER THE INPUT: true; the input reads as it did. -/
def instrLessSpec : ChangeSpec := { name := "instrLess", fn := fun _ => fun
  | [d1, d2] => { results := [.lit (.bool true)], args := [d1, d2] }
  | _ => none }
def instrLessRow : OpenClaim := { program := "ytbdhjkneoandiaa", sum := "f1766388dcfe8248692d5eaa008177d17474c8e9bad1645cd90ee3a836be1969", func := "constraint/constraintlaw32.InstrLess", spec := "instrLess", inPlace := ["internal/bytealg.IndexByteString", "internal/bytealg.IndexString"], unfollowed := true, recurses := true, named := ["internal/bytealg.MaxLen"], loops := true, plainKeys := false, apart := false }
def InstrLessSaid : Prop := instrLessRow.holds Try.pinned (OpenSpec.ofChange instrLessSpec)

/-- ITS FALSE NEIGHBOUR: 'it returns false'. Refute it at one input. -/
def instrLessWrong : ChangeSpec := { name := "instrLess", fn := fun _ => fun
  | [d1, d2] => { results := [.lit (.bool false)], args := [d1, d2] }
  | _ => none }
def InstrLessWrongFalsely : Prop := instrLessRow.holds Try.pinned (OpenSpec.ofChange instrLessWrong)

/-- 'constraintlaw32.InstrWider': WHATEVER THE INPUT: true; the input reads as it did. -/
def instrWiderSpec : ChangeSpec := { name := "instrWider", fn := fun _ => fun
  | [d1, d2] => { results := [.lit (.bool true)], args := [d1, d2] }
  | _ => none }
def instrWiderRow : OpenClaim := { program := "ytbdhjkneoandiaa", sum := "f1766388dcfe8248692d5eaa008177d17474c8e9bad1645cd90ee3a836be1969", func := "constraint/constraintlaw32.InstrWider", spec := "instrWider", inPlace := ["internal/bytealg.IndexByteString", "internal/bytealg.IndexString"], unfollowed := true, recurses := true, named := ["internal/bytealg.MaxLen"], loops := true, plainKeys := false, apart := false }
def InstrWiderSaid : Prop := instrWiderRow.holds Try.pinned (OpenSpec.ofChange instrWiderSpec)

/-- ITS FALSE NEIGHBOUR: 'it returns false'. Refute it at one input. -/
def instrWiderWrong : ChangeSpec := { name := "instrWider", fn := fun _ => fun
  | [d1, d2] => { results := [.lit (.bool false)], args := [d1, d2] }
  | _ => none }
def InstrWiderWrongFalsely : Prop := instrWiderRow.holds Try.pinned (OpenSpec.ofChange instrWiderWrong)

/- THE SECOND FORM. 'bulk': how many values and letters a reading holds, each counted each time it is reached (what is shared counts as often as it is met; a slice's spare places count too). A statement '..UptoSaid' is the law's where the arguments, and the package variables that the reading takes, are together of bulk at most 1048576: NARROWER than '..Said'. Prove '..Said' where nothing that the law and all that it calls make is longer than what came in: it says more and counts as full. Else prove '..UptoSaid'. A law counts once. -/
mutual
def uptoBulk {H : Type} : DataW H → Nat
  | .lit (.string bytes) => bytes.length + 1
  | .lit _ => 1
  | .nil => 1
  | .ptr d => uptoBulk d + 1
  | .slice elems spare => uptoBulkAll elems + uptoBulkAll spare + 1
  | .agg parts => uptoBulkAll parts + 1
  | .iface _ d => uptoBulk d + 1
  | .map entries => uptoBulkEntries entries + 1
  | .held _ => 1
def uptoBulkAll {H : Type} : List (DataW H) → Nat
  | [] => 0
  | d :: r => uptoBulk d + uptoBulkAll r
def uptoBulkEntries {H : Type} : List (Lit × DataW H) → Nat
  | [] => 0
  | x :: r => uptoBulkEntry x + uptoBulkEntries r
def uptoBulkEntry {H : Type} : Lit × DataW H → Nat
  | (.string bytes, d) => bytes.length + uptoBulk d + 1
  | (_, d) => uptoBulk d + 1
 end
def uptoSmall : (H : Type) → List (DataW H) → Bool := fun _ ds => decide (uptoBulkAll ds ≤ 1048576)
def OpenSpec.upto (s : _root_.Go.ChangeSpec) : _root_.Go.OpenSpec := { _root_.Go.OpenSpec.ofChange s with cond := some uptoSmall }

/-- 'constraintlaw32.InstrRight', WHERE WHAT IT READS IS OF BULK AT MOST 1048576: true; the input reads as it did. -/
def instrRightUptoRow : OpenClaim := { program := "ytbdhjkneoandiaa", sum := "f1766388dcfe8248692d5eaa008177d17474c8e9bad1645cd90ee3a836be1969", func := "constraint/constraintlaw32.InstrRight", spec := "instrRight", inPlace := ["internal/bytealg.IndexByteString", "internal/bytealg.IndexString"], unfollowed := true, recurses := true, named := ["internal/bytealg.MaxLen"], loops := true, plainKeys := false, apart := false, narrowed := true }
def InstrRightUptoSaid : Prop := instrRightUptoRow.holds Try.pinned (OpenSpec.upto instrRightSpec)

/-- 'constraintlaw32.InstrSame', WHERE WHAT IT READS IS OF BULK AT MOST 1048576: true; the input reads as it did. -/
def instrSameUptoRow : OpenClaim := { program := "ytbdhjkneoandiaa", sum := "f1766388dcfe8248692d5eaa008177d17474c8e9bad1645cd90ee3a836be1969", func := "constraint/constraintlaw32.InstrSame", spec := "instrSame", inPlace := ["internal/bytealg.IndexByteString", "internal/bytealg.IndexString"], unfollowed := true, recurses := true, named := ["internal/bytealg.MaxLen"], loops := true, plainKeys := false, apart := false, narrowed := true }
def InstrSameUptoSaid : Prop := instrSameUptoRow.holds Try.pinned (OpenSpec.upto instrSameSpec)

/-- 'constraintlaw32.InstrBound', WHERE WHAT IT READS IS OF BULK AT MOST 1048576: true; the input reads as it did. -/
def instrBoundUptoRow : OpenClaim := { program := "ytbdhjkneoandiaa", sum := "f1766388dcfe8248692d5eaa008177d17474c8e9bad1645cd90ee3a836be1969", func := "constraint/constraintlaw32.InstrBound", spec := "instrBound", inPlace := ["internal/bytealg.IndexByteString", "internal/bytealg.IndexString"], unfollowed := true, recurses := true, named := ["internal/bytealg.MaxLen"], loops := true, plainKeys := false, apart := false, narrowed := true }
def InstrBoundUptoSaid : Prop := instrBoundUptoRow.holds Try.pinned (OpenSpec.upto instrBoundSpec)

/-- 'constraintlaw32.InstrLess', WHERE WHAT IT READS IS OF BULK AT MOST 1048576: true; the input reads as it did. -/
def instrLessUptoRow : OpenClaim := { program := "ytbdhjkneoandiaa", sum := "f1766388dcfe8248692d5eaa008177d17474c8e9bad1645cd90ee3a836be1969", func := "constraint/constraintlaw32.InstrLess", spec := "instrLess", inPlace := ["internal/bytealg.IndexByteString", "internal/bytealg.IndexString"], unfollowed := true, recurses := true, named := ["internal/bytealg.MaxLen"], loops := true, plainKeys := false, apart := false, narrowed := true }
def InstrLessUptoSaid : Prop := instrLessUptoRow.holds Try.pinned (OpenSpec.upto instrLessSpec)

/-- 'constraintlaw32.InstrWider', WHERE WHAT IT READS IS OF BULK AT MOST 1048576: true; the input reads as it did. -/
def instrWiderUptoRow : OpenClaim := { program := "ytbdhjkneoandiaa", sum := "f1766388dcfe8248692d5eaa008177d17474c8e9bad1645cd90ee3a836be1969", func := "constraint/constraintlaw32.InstrWider", spec := "instrWider", inPlace := ["internal/bytealg.IndexByteString", "internal/bytealg.IndexString"], unfollowed := true, recurses := true, named := ["internal/bytealg.MaxLen"], loops := true, plainKeys := false, apart := false, narrowed := true }
def InstrWiderUptoSaid : Prop := instrWiderUptoRow.holds Try.pinned (OpenSpec.upto instrWiderSpec)

end Rows
end Go.Proofs.Ytbdhjkneoandiaa
