/-
  NARROWER THAN 'FOR EVERY INPUT', by the rows' own cells (each row's printed sentence says how): SnapshotPrograms: loops · SnapshotConfigs: loops · SnapshotCuts: loops · SnapshotStates: loops · SnapshotMemories: loops.
  DERIVED. THE GIVEN ROWS OF THIS SEAT. 6 by the template 'for every input the law returns true; each argument reads behind the call as it read before'; 0 by the template 'total and deterministic' (their statements: YtdoljfkjdfaakaaGreatTotals.lean).
  GIVEN WITH THE SEED: the statements are not yours to turn. If you find one false, say at which input.
  Laid BY PROGRAM, IN A SANDBOX (cutbox-rows.mjs): the forced cells as the released guide's own fill.sh prints them over the translation efa28b3d229aaa6f… (all of the seat's roots in one cut). By AI agents, Wed Nov 11 2026. No macro, syntax, notation, axiom, sorry.
-/
import Derived.Test.YtdoljfkjdfaakaaGreatChecked
import GoSem.Claim
import GoSem.ClaimJoined
import GoSem.ClaimMapViews
import Derived.JoinedTies
import Derived.KernelRfl
namespace Go.Proofs.YtdoljfkjdfaakaaGreat
/- THE CELL 'sum', in the pinned program and in every row, IS THE sha256 OF THE DUMP (.gsa) THAT YtdoljfkjdfaakaaGreatProg.lean LOADS. Nothing in Lean hashes anything: it is a label: what it is worth is what the hold of that sum in a sandbox is worth. -/
noncomputable def Tryz.pinned : Pinned := { name := "ytdoljfkjdfaakaagreat", sum := "efa28b3d229aaa6f4e78014730162688ce949324ee4dd1e67af37a2774411dd8", checked := Tryz.checked }
namespace Rows
def none {H : Type} : Left H := { results := [], args := [] }

/-- 'constraintlaw52.SnapshotPrograms': WHATEVER THE INPUT: true; the input reads as it did. -/
def snapshotProgramsSpec : ChangeSpec := { name := "snapshotPrograms", fn := fun _ => fun
  | [d] => { results := [.lit (.bool true)], args := [d] }
  | _ => none }
def snapshotProgramsRow : OpenClaim := { program := "ytdoljfkjdfaakaagreat", sum := "efa28b3d229aaa6f4e78014730162688ce949324ee4dd1e67af37a2774411dd8", func := "constraint/constraintlaw52.SnapshotPrograms", spec := "snapshotPrograms", inPlace := ["internal/bytealg.IndexByteString", "internal/bytealg.IndexString"], unfollowed := true, recurses := true, named := ["internal/bytealg.MaxLen"], loops := true, apart := false }
def SnapshotProgramsSaid : Prop := snapshotProgramsRow.holds Tryz.pinned (OpenSpec.ofChange snapshotProgramsSpec)

/-- ITS FALSE NEIGHBOUR: 'it returns false'. Refute it at one input. -/
def snapshotProgramsWrong : ChangeSpec := { name := "snapshotPrograms", fn := fun _ => fun
  | [d] => { results := [.lit (.bool false)], args := [d] }
  | _ => none }
def SnapshotProgramsWrongFalsely : Prop := snapshotProgramsRow.holds Tryz.pinned (OpenSpec.ofChange snapshotProgramsWrong)

/-- 'constraintlaw52.SnapshotConfigs': WHATEVER THE INPUT: true; the input reads as it did. -/
def snapshotConfigsSpec : ChangeSpec := { name := "snapshotConfigs", fn := fun _ => fun
  | [d] => { results := [.lit (.bool true)], args := [d] }
  | _ => none }
def snapshotConfigsRow : OpenClaim := { program := "ytdoljfkjdfaakaagreat", sum := "efa28b3d229aaa6f4e78014730162688ce949324ee4dd1e67af37a2774411dd8", func := "constraint/constraintlaw52.SnapshotConfigs", spec := "snapshotConfigs", inPlace := ["internal/bytealg.IndexByteString", "internal/bytealg.IndexString"], unfollowed := true, recurses := true, named := ["internal/bytealg.MaxLen"], loops := true, apart := false }
def SnapshotConfigsSaid : Prop := snapshotConfigsRow.holds Tryz.pinned (OpenSpec.ofChange snapshotConfigsSpec)

/-- ITS FALSE NEIGHBOUR: 'it returns false'. Refute it at one input. -/
def snapshotConfigsWrong : ChangeSpec := { name := "snapshotConfigs", fn := fun _ => fun
  | [d] => { results := [.lit (.bool false)], args := [d] }
  | _ => none }
def SnapshotConfigsWrongFalsely : Prop := snapshotConfigsRow.holds Tryz.pinned (OpenSpec.ofChange snapshotConfigsWrong)

/-- 'constraintlaw52.SnapshotCuts': WHATEVER THE INPUT: true; the input reads as it did. -/
def snapshotCutsSpec : ChangeSpec := { name := "snapshotCuts", fn := fun _ => fun
  | [d1, d2, d3] => { results := [.lit (.bool true)], args := [d1, d2, d3] }
  | _ => none }
def snapshotCutsRow : OpenClaim := { program := "ytdoljfkjdfaakaagreat", sum := "efa28b3d229aaa6f4e78014730162688ce949324ee4dd1e67af37a2774411dd8", func := "constraint/constraintlaw52.SnapshotCuts", spec := "snapshotCuts", inPlace := ["internal/bytealg.IndexByteString", "internal/bytealg.IndexString"], unfollowed := true, recurses := true, named := ["internal/bytealg.MaxLen"], loops := true, apart := false }
def SnapshotCutsSaid : Prop := snapshotCutsRow.holds Tryz.pinned (OpenSpec.ofChange snapshotCutsSpec)

/-- ITS FALSE NEIGHBOUR: 'it returns false'. Refute it at one input. -/
def snapshotCutsWrong : ChangeSpec := { name := "snapshotCuts", fn := fun _ => fun
  | [d1, d2, d3] => { results := [.lit (.bool false)], args := [d1, d2, d3] }
  | _ => none }
def SnapshotCutsWrongFalsely : Prop := snapshotCutsRow.holds Tryz.pinned (OpenSpec.ofChange snapshotCutsWrong)

/-- 'constraintlaw52.SnapshotStates': WHATEVER THE INPUT: true; the input reads as it did. -/
def snapshotStatesSpec : ChangeSpec := { name := "snapshotStates", fn := fun _ => fun
  | [d1, d2, d3] => { results := [.lit (.bool true)], args := [d1, d2, d3] }
  | _ => none }
def snapshotStatesRow : OpenClaim := { program := "ytdoljfkjdfaakaagreat", sum := "efa28b3d229aaa6f4e78014730162688ce949324ee4dd1e67af37a2774411dd8", func := "constraint/constraintlaw52.SnapshotStates", spec := "snapshotStates", inPlace := ["internal/bytealg.IndexByteString", "internal/bytealg.IndexString"], unfollowed := true, recurses := true, named := ["internal/bytealg.MaxLen"], loops := true, apart := false }
def SnapshotStatesSaid : Prop := snapshotStatesRow.holds Tryz.pinned (OpenSpec.ofChange snapshotStatesSpec)

/-- ITS FALSE NEIGHBOUR: 'it returns false'. Refute it at one input. -/
def snapshotStatesWrong : ChangeSpec := { name := "snapshotStates", fn := fun _ => fun
  | [d1, d2, d3] => { results := [.lit (.bool false)], args := [d1, d2, d3] }
  | _ => none }
def SnapshotStatesWrongFalsely : Prop := snapshotStatesRow.holds Tryz.pinned (OpenSpec.ofChange snapshotStatesWrong)

/-- 'constraintlaw52.SnapshotMemories': WHATEVER THE INPUT: true; the input reads as it did. -/
def snapshotMemoriesSpec : ChangeSpec := { name := "snapshotMemories", fn := fun _ => fun
  | [d] => { results := [.lit (.bool true)], args := [d] }
  | _ => none }
def snapshotMemoriesRow : OpenClaim := { program := "ytdoljfkjdfaakaagreat", sum := "efa28b3d229aaa6f4e78014730162688ce949324ee4dd1e67af37a2774411dd8", func := "constraint/constraintlaw52.SnapshotMemories", spec := "snapshotMemories", inPlace := ["internal/bytealg.IndexByteString", "internal/bytealg.IndexString"], unfollowed := true, recurses := true, named := ["internal/bytealg.MaxLen"], loops := true, apart := false }
def SnapshotMemoriesSaid : Prop := snapshotMemoriesRow.holds Tryz.pinned (OpenSpec.ofChange snapshotMemoriesSpec)

/-- ITS FALSE NEIGHBOUR: 'it returns false'. Refute it at one input. -/
def snapshotMemoriesWrong : ChangeSpec := { name := "snapshotMemories", fn := fun _ => fun
  | [d] => { results := [.lit (.bool false)], args := [d] }
  | _ => none }
def SnapshotMemoriesWrongFalsely : Prop := snapshotMemoriesRow.holds Tryz.pinned (OpenSpec.ofChange snapshotMemoriesWrong)

/-- 'constraintlaw52.SnapshotTakes': WHATEVER THE INPUT: true; the input reads as it did. -/
def snapshotTakesSpec : ChangeSpec := { name := "snapshotTakes", fn := fun _ => fun
  | [d] => { results := [.lit (.bool true)], args := [d] }
  | _ => none }
def snapshotTakesRow : OpenClaim := { program := "ytdoljfkjdfaakaagreat", sum := "efa28b3d229aaa6f4e78014730162688ce949324ee4dd1e67af37a2774411dd8", func := "constraint/constraintlaw52.SnapshotTakes", spec := "snapshotTakes", inPlace := ["internal/bytealg.IndexByteString", "internal/bytealg.IndexString"], unfollowed := true, recurses := true, named := ["internal/bytealg.MaxLen"], apart := false }
def SnapshotTakesSaid : Prop := snapshotTakesRow.holds Tryz.pinned (OpenSpec.ofChange snapshotTakesSpec)

/-- ITS FALSE NEIGHBOUR: 'it returns false'. Refute it at one input. -/
def snapshotTakesWrong : ChangeSpec := { name := "snapshotTakes", fn := fun _ => fun
  | [d] => { results := [.lit (.bool false)], args := [d] }
  | _ => none }
def SnapshotTakesWrongFalsely : Prop := snapshotTakesRow.holds Tryz.pinned (OpenSpec.ofChange snapshotTakesWrong)

/- THE SECOND FORM. 'bulk': how many values and letters a reading holds, each counted each time it is reached (what is shared counts as often as it is met; a slice's spare places count too). A statement '..UptoSaid' is the law's where the arguments, and the package variables that the reading takes, are together of bulk at most 1048576: NARROWER than '..Said'. Prove '..Said' where nothing that the law and all that it calls make is longer than what came in: it says more and counts as full. Else prove '..UptoSaid'. A law counts once. -/
mutual
def uptoBulk {H : Type} : DataW H → Nat
  | .lit (.string bytes) => bytes.length + 1
  | .lit _ => 1
  | .nil => 1
  | .ptr d => uptoBulk d + 1
  | .slice elems spare => uptoBulkAll elems + uptoBulkAll spare + 1
  | .agg parts => uptoBulkAll parts + 1
  | .iface _ d => uptoBulk d + 1
  | .map entries => uptoBulkEntries entries + 1
  | .held _ => 1
def uptoBulkAll {H : Type} : List (DataW H) → Nat
  | [] => 0
  | d :: r => uptoBulk d + uptoBulkAll r
def uptoBulkEntries {H : Type} : List (Lit × DataW H) → Nat
  | [] => 0
  | x :: r => uptoBulkEntry x + uptoBulkEntries r
def uptoBulkEntry {H : Type} : Lit × DataW H → Nat
  | (.string bytes, d) => bytes.length + uptoBulk d + 1
  | (_, d) => uptoBulk d + 1
 end
def uptoSmall : (H : Type) → List (DataW H) → Bool := fun _ ds => decide (uptoBulkAll ds ≤ 1048576)
def OpenSpec.upto (s : _root_.Go.ChangeSpec) : _root_.Go.OpenSpec := { _root_.Go.OpenSpec.ofChange s with cond := some uptoSmall }

/-- 'constraintlaw52.SnapshotPrograms', WHERE WHAT IT READS IS OF BULK AT MOST 1048576: true; the input reads as it did. -/
def snapshotProgramsUptoRow : OpenClaim := { program := "ytdoljfkjdfaakaagreat", sum := "efa28b3d229aaa6f4e78014730162688ce949324ee4dd1e67af37a2774411dd8", func := "constraint/constraintlaw52.SnapshotPrograms", spec := "snapshotPrograms", inPlace := ["internal/bytealg.IndexByteString", "internal/bytealg.IndexString"], unfollowed := true, recurses := true, named := ["internal/bytealg.MaxLen"], loops := true, apart := false, narrowed := true }
def SnapshotProgramsUptoSaid : Prop := snapshotProgramsUptoRow.holds Tryz.pinned (OpenSpec.upto snapshotProgramsSpec)

/-- 'constraintlaw52.SnapshotConfigs', WHERE WHAT IT READS IS OF BULK AT MOST 1048576: true; the input reads as it did. -/
def snapshotConfigsUptoRow : OpenClaim := { program := "ytdoljfkjdfaakaagreat", sum := "efa28b3d229aaa6f4e78014730162688ce949324ee4dd1e67af37a2774411dd8", func := "constraint/constraintlaw52.SnapshotConfigs", spec := "snapshotConfigs", inPlace := ["internal/bytealg.IndexByteString", "internal/bytealg.IndexString"], unfollowed := true, recurses := true, named := ["internal/bytealg.MaxLen"], loops := true, apart := false, narrowed := true }
def SnapshotConfigsUptoSaid : Prop := snapshotConfigsUptoRow.holds Tryz.pinned (OpenSpec.upto snapshotConfigsSpec)

/-- 'constraintlaw52.SnapshotCuts', WHERE WHAT IT READS IS OF BULK AT MOST 1048576: true; the input reads as it did. -/
def snapshotCutsUptoRow : OpenClaim := { program := "ytdoljfkjdfaakaagreat", sum := "efa28b3d229aaa6f4e78014730162688ce949324ee4dd1e67af37a2774411dd8", func := "constraint/constraintlaw52.SnapshotCuts", spec := "snapshotCuts", inPlace := ["internal/bytealg.IndexByteString", "internal/bytealg.IndexString"], unfollowed := true, recurses := true, named := ["internal/bytealg.MaxLen"], loops := true, apart := false, narrowed := true }
def SnapshotCutsUptoSaid : Prop := snapshotCutsUptoRow.holds Tryz.pinned (OpenSpec.upto snapshotCutsSpec)

/-- 'constraintlaw52.SnapshotStates', WHERE WHAT IT READS IS OF BULK AT MOST 1048576: true; the input reads as it did. -/
def snapshotStatesUptoRow : OpenClaim := { program := "ytdoljfkjdfaakaagreat", sum := "efa28b3d229aaa6f4e78014730162688ce949324ee4dd1e67af37a2774411dd8", func := "constraint/constraintlaw52.SnapshotStates", spec := "snapshotStates", inPlace := ["internal/bytealg.IndexByteString", "internal/bytealg.IndexString"], unfollowed := true, recurses := true, named := ["internal/bytealg.MaxLen"], loops := true, apart := false, narrowed := true }
def SnapshotStatesUptoSaid : Prop := snapshotStatesUptoRow.holds Tryz.pinned (OpenSpec.upto snapshotStatesSpec)

/-- 'constraintlaw52.SnapshotMemories', WHERE WHAT IT READS IS OF BULK AT MOST 1048576: true; the input reads as it did. -/
def snapshotMemoriesUptoRow : OpenClaim := { program := "ytdoljfkjdfaakaagreat", sum := "efa28b3d229aaa6f4e78014730162688ce949324ee4dd1e67af37a2774411dd8", func := "constraint/constraintlaw52.SnapshotMemories", spec := "snapshotMemories", inPlace := ["internal/bytealg.IndexByteString", "internal/bytealg.IndexString"], unfollowed := true, recurses := true, named := ["internal/bytealg.MaxLen"], loops := true, apart := false, narrowed := true }
def SnapshotMemoriesUptoSaid : Prop := snapshotMemoriesUptoRow.holds Tryz.pinned (OpenSpec.upto snapshotMemoriesSpec)

/-- 'constraintlaw52.SnapshotTakes', WHERE WHAT IT READS IS OF BULK AT MOST 1048576: true; the input reads as it did. -/
def snapshotTakesUptoRow : OpenClaim := { program := "ytdoljfkjdfaakaagreat", sum := "efa28b3d229aaa6f4e78014730162688ce949324ee4dd1e67af37a2774411dd8", func := "constraint/constraintlaw52.SnapshotTakes", spec := "snapshotTakes", inPlace := ["internal/bytealg.IndexByteString", "internal/bytealg.IndexString"], unfollowed := true, recurses := true, named := ["internal/bytealg.MaxLen"], apart := false, narrowed := true }
def SnapshotTakesUptoSaid : Prop := snapshotTakesUptoRow.holds Tryz.pinned (OpenSpec.upto snapshotTakesSpec)

end Rows
end Go.Proofs.YtdoljfkjdfaakaaGreat
