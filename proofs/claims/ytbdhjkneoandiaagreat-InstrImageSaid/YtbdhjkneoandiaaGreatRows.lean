/-
  NARROWER THAN 'FOR EVERY INPUT', by the rows' own cells (each row's printed sentence says how): InstrCheck: loops · InstrImage: loops.
  DERIVED. THE GIVEN ROWS OF THIS SEAT. 2 by the template 'for every input the law returns true; each argument reads behind the call as it read before'; 0 by the template 'total and deterministic' (their statements: YtbdhjkneoandiaaGreatTotals.lean).
  GIVEN WITH THE SEED: the statements are not yours to turn. If you find one false, say at which input.
  Laid BY PROGRAM, IN A SANDBOX (cutbox-rows.mjs): the forced cells as the released guide's own fill.sh prints them over the translation 445bbac3e5c0d92c… (all of the seat's roots in one cut). By AI agents, Wed Nov 11 2026. No macro, syntax, notation, axiom, sorry.
-/
import Derived.Test.YtbdhjkneoandiaaGreatChecked
import GoSem.Claim
import GoSem.ClaimJoined
import GoSem.ClaimMapViews
import Derived.JoinedTies
import Derived.KernelRfl
namespace Go.Proofs.YtbdhjkneoandiaaGreat
/- THE CELL 'sum', in the pinned program and in every row, IS THE sha256 OF THE DUMP (.gsa) THAT YtbdhjkneoandiaaGreatProg.lean LOADS. Nothing in Lean hashes anything: it is a label: what it is worth is what the hold of that sum in a sandbox is worth. -/
noncomputable def Tryz.pinned : Pinned := { name := "ytbdhjkneoandiaagreat", sum := "445bbac3e5c0d92ca23303512de399611f1fab0e514b7ed3e655a43bc09c2a4b", checked := Tryz.checked }
namespace Rows
def none {H : Type} : Left H := { results := [], args := [] }

/-- 'constraintlaw32.InstrCheck': WHATEVER THE INPUT: true; the input reads as it did. -/
def instrCheckSpec : ChangeSpec := { name := "instrCheck", fn := fun _ => fun
  | [d] => { results := [.lit (.bool true)], args := [d] }
  | _ => none }
def instrCheckRow : OpenClaim := { program := "ytbdhjkneoandiaagreat", sum := "445bbac3e5c0d92ca23303512de399611f1fab0e514b7ed3e655a43bc09c2a4b", func := "constraint/constraintlaw32.InstrCheck", spec := "instrCheck", inPlace := ["internal/bytealg.IndexByteString", "internal/bytealg.IndexString"], unfollowed := true, recurses := true, named := ["internal/bytealg.MaxLen"], loops := true, plainKeys := false, apart := false }
def InstrCheckSaid : Prop := instrCheckRow.holds Tryz.pinned (OpenSpec.ofChange instrCheckSpec)

/-- ITS FALSE NEIGHBOUR: 'it returns false'. Refute it at one input. -/
def instrCheckWrong : ChangeSpec := { name := "instrCheck", fn := fun _ => fun
  | [d] => { results := [.lit (.bool false)], args := [d] }
  | _ => none }
def InstrCheckWrongFalsely : Prop := instrCheckRow.holds Tryz.pinned (OpenSpec.ofChange instrCheckWrong)

/-- 'constraintlaw32.InstrImage': WHATEVER THE INPUT: true; the input reads as it did. -/
def instrImageSpec : ChangeSpec := { name := "instrImage", fn := fun _ => fun
  | [d] => { results := [.lit (.bool true)], args := [d] }
  | _ => none }
def instrImageRow : OpenClaim := { program := "ytbdhjkneoandiaagreat", sum := "445bbac3e5c0d92ca23303512de399611f1fab0e514b7ed3e655a43bc09c2a4b", func := "constraint/constraintlaw32.InstrImage", spec := "instrImage", inPlace := ["internal/bytealg.IndexByteString", "internal/bytealg.IndexString"], unfollowed := true, recurses := true, named := ["internal/bytealg.MaxLen"], loops := true, plainKeys := false, apart := false }
def InstrImageSaid : Prop := instrImageRow.holds Tryz.pinned (OpenSpec.ofChange instrImageSpec)

/-- ITS FALSE NEIGHBOUR: 'it returns false'. Refute it at one input. -/
def instrImageWrong : ChangeSpec := { name := "instrImage", fn := fun _ => fun
  | [d] => { results := [.lit (.bool false)], args := [d] }
  | _ => none }
def InstrImageWrongFalsely : Prop := instrImageRow.holds Tryz.pinned (OpenSpec.ofChange instrImageWrong)

/- THE SECOND FORM. 'bulk': how many values and letters a reading holds, each counted each time it is reached (what is shared counts as often as it is met; a slice's spare places count too). A statement '..UptoSaid' is the law's where the arguments, and the package variables that the reading takes, are together of bulk at most 1048576: NARROWER than '..Said'. Prove '..Said' where nothing that the law and all that it calls make is longer than what came in: it says more and counts as full. Else prove '..UptoSaid'. A law counts once. -/
mutual
def uptoBulk {H : Type} : DataW H → Nat
  | .lit (.string bytes) => bytes.length + 1
  | .lit _ => 1
  | .nil => 1
  | .ptr d => uptoBulk d + 1
  | .slice elems spare => uptoBulkAll elems + uptoBulkAll spare + 1
  | .agg parts => uptoBulkAll parts + 1
  | .iface _ d => uptoBulk d + 1
  | .map entries => uptoBulkEntries entries + 1
  | .held _ => 1
def uptoBulkAll {H : Type} : List (DataW H) → Nat
  | [] => 0
  | d :: r => uptoBulk d + uptoBulkAll r
def uptoBulkEntries {H : Type} : List (Lit × DataW H) → Nat
  | [] => 0
  | x :: r => uptoBulkEntry x + uptoBulkEntries r
def uptoBulkEntry {H : Type} : Lit × DataW H → Nat
  | (.string bytes, d) => bytes.length + uptoBulk d + 1
  | (_, d) => uptoBulk d + 1
 end
def uptoSmall : (H : Type) → List (DataW H) → Bool := fun _ ds => decide (uptoBulkAll ds ≤ 1048576)
def OpenSpec.upto (s : _root_.Go.ChangeSpec) : _root_.Go.OpenSpec := { _root_.Go.OpenSpec.ofChange s with cond := some uptoSmall }

/-- 'constraintlaw32.InstrCheck', WHERE WHAT IT READS IS OF BULK AT MOST 1048576: true; the input reads as it did. -/
def instrCheckUptoRow : OpenClaim := { program := "ytbdhjkneoandiaagreat", sum := "445bbac3e5c0d92ca23303512de399611f1fab0e514b7ed3e655a43bc09c2a4b", func := "constraint/constraintlaw32.InstrCheck", spec := "instrCheck", inPlace := ["internal/bytealg.IndexByteString", "internal/bytealg.IndexString"], unfollowed := true, recurses := true, named := ["internal/bytealg.MaxLen"], loops := true, plainKeys := false, apart := false, narrowed := true }
def InstrCheckUptoSaid : Prop := instrCheckUptoRow.holds Tryz.pinned (OpenSpec.upto instrCheckSpec)

/-- 'constraintlaw32.InstrImage', WHERE WHAT IT READS IS OF BULK AT MOST 1048576: true; the input reads as it did. -/
def instrImageUptoRow : OpenClaim := { program := "ytbdhjkneoandiaagreat", sum := "445bbac3e5c0d92ca23303512de399611f1fab0e514b7ed3e655a43bc09c2a4b", func := "constraint/constraintlaw32.InstrImage", spec := "instrImage", inPlace := ["internal/bytealg.IndexByteString", "internal/bytealg.IndexString"], unfollowed := true, recurses := true, named := ["internal/bytealg.MaxLen"], loops := true, plainKeys := false, apart := false, narrowed := true }
def InstrImageUptoSaid : Prop := instrImageUptoRow.holds Tryz.pinned (OpenSpec.upto instrImageSpec)

end Rows
end Go.Proofs.YtbdhjkneoandiaaGreat
