/-
  NARROWER THAN 'FOR EVERY INPUT', by the rows' own cells (each row's printed sentence says how): NormalLinear: loops · NormalBack: loops.
  DERIVED. THE GIVEN ROWS OF THIS SEAT. 2 by the template 'for every input the law returns true; each argument reads behind the call as it read before'; 0 by the template 'total and deterministic' (their statements: YtlannippingfdaaTotals.lean).
  GIVEN WITH THE SEED: the statements are not yours to turn. If you find one false, say at which input.
  Laid BY PROGRAM, IN A SANDBOX (cutbox-rows.mjs): the forced cells as the released guide's own fill.sh prints them over the translation 4012a7236210c05a… (all of the seat's roots in one cut). By AI agents, Wed Nov 11 2026. No macro, syntax, notation, axiom, sorry.
-/
import Derived.Test.YtlannippingfdaaChecked
import GoSem.Claim
import GoSem.ClaimJoined
import GoSem.ClaimMapViews
import Derived.JoinedTies
import Derived.KernelRfl
namespace Go.Proofs.Ytlannippingfdaa
/- THE CELL 'sum', in the pinned program and in every row, IS THE sha256 OF THE DUMP (.gsa) THAT YtlannippingfdaaProg.lean LOADS. Nothing in Lean hashes anything: it is a label: what it is worth is what the hold of that sum in a sandbox is worth. -/
noncomputable def Try.pinned : Pinned := { name := "ytlannippingfdaa", sum := "4012a7236210c05ad9ccbb4d5e90dc3c1f38973d2dde2ad97ae5332e67142f1b", checked := Try.checked }
namespace Rows
def none {H : Type} : Left H := { results := [], args := [] }

/-- 'constraintlaw17.NormalLinear': WHATEVER THE INPUT: true; the input reads as it did. -/
def normalLinearSpec : ChangeSpec := { name := "normalLinear", fn := fun _ => fun
  | [d] => { results := [.lit (.bool true)], args := [d] }
  | _ => none }
def normalLinearRow : OpenClaim := { program := "ytlannippingfdaa", sum := "4012a7236210c05ad9ccbb4d5e90dc3c1f38973d2dde2ad97ae5332e67142f1b", func := "constraint/constraintlaw17.NormalLinear", spec := "normalLinear", inPlace := ["internal/bytealg.IndexByteString", "internal/bytealg.IndexString"], unfollowed := true, recurses := true, named := ["internal/bytealg.MaxLen"], loops := true, apart := false }
def NormalLinearSaid : Prop := normalLinearRow.holds Try.pinned (OpenSpec.ofChange normalLinearSpec)

/-- ITS FALSE NEIGHBOUR: 'it returns false'. Refute it at one input. -/
def normalLinearWrong : ChangeSpec := { name := "normalLinear", fn := fun _ => fun
  | [d] => { results := [.lit (.bool false)], args := [d] }
  | _ => none }
def NormalLinearWrongFalsely : Prop := normalLinearRow.holds Try.pinned (OpenSpec.ofChange normalLinearWrong)

/-- 'constraintlaw17.NormalBack': WHATEVER THE INPUT: true; the input reads as it did. -/
def normalBackSpec : ChangeSpec := { name := "normalBack", fn := fun _ => fun
  | [d] => { results := [.lit (.bool true)], args := [d] }
  | _ => none }
def normalBackRow : OpenClaim := { program := "ytlannippingfdaa", sum := "4012a7236210c05ad9ccbb4d5e90dc3c1f38973d2dde2ad97ae5332e67142f1b", func := "constraint/constraintlaw17.NormalBack", spec := "normalBack", inPlace := ["internal/bytealg.IndexByteString", "internal/bytealg.IndexString"], unfollowed := true, recurses := true, named := ["internal/bytealg.MaxLen"], loops := true, apart := false }
def NormalBackSaid : Prop := normalBackRow.holds Try.pinned (OpenSpec.ofChange normalBackSpec)

/-- ITS FALSE NEIGHBOUR: 'it returns false'. Refute it at one input. -/
def normalBackWrong : ChangeSpec := { name := "normalBack", fn := fun _ => fun
  | [d] => { results := [.lit (.bool false)], args := [d] }
  | _ => none }
def NormalBackWrongFalsely : Prop := normalBackRow.holds Try.pinned (OpenSpec.ofChange normalBackWrong)

/- THE SECOND FORM. 'bulk': how many values and letters a reading holds, each counted each time it is reached (what is shared counts as often as it is met; a slice's spare places count too). A statement '..UptoSaid' is the law's where the arguments, and the package variables that the reading takes, are together of bulk at most 1048576: NARROWER than '..Said'. Prove '..Said' where nothing that the law and all that it calls make is longer than what came in: it says more and counts as full. Else prove '..UptoSaid'. A law counts once. -/
mutual
def uptoBulk {H : Type} : DataW H → Nat
  | .lit (.string bytes) => bytes.length + 1
  | .lit _ => 1
  | .nil => 1
  | .ptr d => uptoBulk d + 1
  | .slice elems spare => uptoBulkAll elems + uptoBulkAll spare + 1
  | .agg parts => uptoBulkAll parts + 1
  | .iface _ d => uptoBulk d + 1
  | .map entries => uptoBulkEntries entries + 1
  | .held _ => 1
def uptoBulkAll {H : Type} : List (DataW H) → Nat
  | [] => 0
  | d :: r => uptoBulk d + uptoBulkAll r
def uptoBulkEntries {H : Type} : List (Lit × DataW H) → Nat
  | [] => 0
  | x :: r => uptoBulkEntry x + uptoBulkEntries r
def uptoBulkEntry {H : Type} : Lit × DataW H → Nat
  | (.string bytes, d) => bytes.length + uptoBulk d + 1
  | (_, d) => uptoBulk d + 1
 end
def uptoSmall : (H : Type) → List (DataW H) → Bool := fun _ ds => decide (uptoBulkAll ds ≤ 1048576)
def OpenSpec.upto (s : _root_.Go.ChangeSpec) : _root_.Go.OpenSpec := { _root_.Go.OpenSpec.ofChange s with cond := some uptoSmall }

/-- 'constraintlaw17.NormalLinear', WHERE WHAT IT READS IS OF BULK AT MOST 1048576: true; the input reads as it did. -/
def normalLinearUptoRow : OpenClaim := { program := "ytlannippingfdaa", sum := "4012a7236210c05ad9ccbb4d5e90dc3c1f38973d2dde2ad97ae5332e67142f1b", func := "constraint/constraintlaw17.NormalLinear", spec := "normalLinear", inPlace := ["internal/bytealg.IndexByteString", "internal/bytealg.IndexString"], unfollowed := true, recurses := true, named := ["internal/bytealg.MaxLen"], loops := true, apart := false, narrowed := true }
def NormalLinearUptoSaid : Prop := normalLinearUptoRow.holds Try.pinned (OpenSpec.upto normalLinearSpec)

/-- 'constraintlaw17.NormalBack', WHERE WHAT IT READS IS OF BULK AT MOST 1048576: true; the input reads as it did. -/
def normalBackUptoRow : OpenClaim := { program := "ytlannippingfdaa", sum := "4012a7236210c05ad9ccbb4d5e90dc3c1f38973d2dde2ad97ae5332e67142f1b", func := "constraint/constraintlaw17.NormalBack", spec := "normalBack", inPlace := ["internal/bytealg.IndexByteString", "internal/bytealg.IndexString"], unfollowed := true, recurses := true, named := ["internal/bytealg.MaxLen"], loops := true, apart := false, narrowed := true }
def NormalBackUptoSaid : Prop := normalBackUptoRow.holds Try.pinned (OpenSpec.upto normalBackSpec)

end Rows
end Go.Proofs.Ytlannippingfdaa
