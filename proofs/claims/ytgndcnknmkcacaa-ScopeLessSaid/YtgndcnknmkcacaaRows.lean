/-
  NARROWER THAN 'FOR EVERY INPUT', by the rows' own cells (each row's printed sentence says how): ScopePrograms: loops · ScopeRules: loops · ScopeQueries: loops · ScopeLocals: loops · ScopeLess: loops · ScopeFirst: loops.
  DERIVED. THE GIVEN ROWS OF THIS SEAT. 6 by the template 'for every input the law returns true; each argument reads behind the call as it read before'; 0 by the template 'total and deterministic' (their statements: YtgndcnknmkcacaaTotals.lean).
  GIVEN WITH THE SEED: the statements are not yours to turn. If you find one false, say at which input.
  Laid BY PROGRAM, IN A SANDBOX (cutbox-rows.mjs): the forced cells as the released guide's own fill.sh prints them over the translation 7703364483f8c848… (all of the seat's roots in one cut). By AI agents, Wed Nov 11 2026. No macro, syntax, notation, axiom, sorry.
-/
import Derived.Test.YtgndcnknmkcacaaChecked
import GoSem.Claim
import GoSem.ClaimJoined
import GoSem.ClaimMapViews
import Derived.JoinedTies
import Derived.KernelRfl
namespace Go.Proofs.Ytgndcnknmkcacaa
/- THE CELL 'sum', in the pinned program and in every row, IS THE sha256 OF THE DUMP (.gsa) THAT YtgndcnknmkcacaaProg.lean LOADS. Nothing in Lean hashes anything: it is a label: what it is worth is what the hold of that sum in a sandbox is worth. -/
noncomputable def Try.pinned : Pinned := { name := "ytgndcnknmkcacaa", sum := "7703364483f8c848846d59a35f6125940cad2f41e0c96ec1b38079d92305b9ed", checked := Try.checked }
namespace Rows
def none {H : Type} : Left H := { results := [], args := [] }

/-- 'constraintlaw15.ScopePrograms': WHATEVER THE INPUT: true; the input reads as it did. -/
def scopeProgramsSpec : ChangeSpec := { name := "scopePrograms", fn := fun _ => fun
  | [d] => { results := [.lit (.bool true)], args := [d] }
  | _ => none }
def scopeProgramsRow : OpenClaim := { program := "ytgndcnknmkcacaa", sum := "7703364483f8c848846d59a35f6125940cad2f41e0c96ec1b38079d92305b9ed", func := "constraint/constraintlaw15.ScopePrograms", spec := "scopePrograms", inPlace := ["internal/bytealg.IndexByteString", "internal/bytealg.IndexString"], unfollowed := true, recurses := true, named := ["internal/bytealg.MaxLen"], loops := true, plainKeys := false, apart := false }
def ScopeProgramsSaid : Prop := scopeProgramsRow.holds Try.pinned (OpenSpec.ofChange scopeProgramsSpec)

/-- ITS FALSE NEIGHBOUR: 'it returns false'. Refute it at one input. -/
def scopeProgramsWrong : ChangeSpec := { name := "scopePrograms", fn := fun _ => fun
  | [d] => { results := [.lit (.bool false)], args := [d] }
  | _ => none }
def ScopeProgramsWrongFalsely : Prop := scopeProgramsRow.holds Try.pinned (OpenSpec.ofChange scopeProgramsWrong)

/-- 'constraintlaw15.ScopeRules': WHATEVER THE INPUT: true; the input reads as it did. -/
def scopeRulesSpec : ChangeSpec := { name := "scopeRules", fn := fun _ => fun
  | [d1, d2] => { results := [.lit (.bool true)], args := [d1, d2] }
  | _ => none }
def scopeRulesRow : OpenClaim := { program := "ytgndcnknmkcacaa", sum := "7703364483f8c848846d59a35f6125940cad2f41e0c96ec1b38079d92305b9ed", func := "constraint/constraintlaw15.ScopeRules", spec := "scopeRules", inPlace := ["internal/bytealg.IndexByteString", "internal/bytealg.IndexString"], unfollowed := true, recurses := true, named := ["internal/bytealg.MaxLen"], loops := true, plainKeys := false, apart := false }
def ScopeRulesSaid : Prop := scopeRulesRow.holds Try.pinned (OpenSpec.ofChange scopeRulesSpec)

/-- ITS FALSE NEIGHBOUR: 'it returns false'. Refute it at one input. -/
def scopeRulesWrong : ChangeSpec := { name := "scopeRules", fn := fun _ => fun
  | [d1, d2] => { results := [.lit (.bool false)], args := [d1, d2] }
  | _ => none }
def ScopeRulesWrongFalsely : Prop := scopeRulesRow.holds Try.pinned (OpenSpec.ofChange scopeRulesWrong)

/-- 'constraintlaw15.ScopeQueries': WHATEVER THE INPUT: true; the input reads as it did. -/
def scopeQueriesSpec : ChangeSpec := { name := "scopeQueries", fn := fun _ => fun
  | [d1, d2, d3] => { results := [.lit (.bool true)], args := [d1, d2, d3] }
  | _ => none }
def scopeQueriesRow : OpenClaim := { program := "ytgndcnknmkcacaa", sum := "7703364483f8c848846d59a35f6125940cad2f41e0c96ec1b38079d92305b9ed", func := "constraint/constraintlaw15.ScopeQueries", spec := "scopeQueries", inPlace := ["internal/bytealg.IndexByteString", "internal/bytealg.IndexString"], unfollowed := true, recurses := true, named := ["internal/bytealg.MaxLen"], loops := true, plainKeys := false, apart := false }
def ScopeQueriesSaid : Prop := scopeQueriesRow.holds Try.pinned (OpenSpec.ofChange scopeQueriesSpec)

/-- ITS FALSE NEIGHBOUR: 'it returns false'. Refute it at one input. -/
def scopeQueriesWrong : ChangeSpec := { name := "scopeQueries", fn := fun _ => fun
  | [d1, d2, d3] => { results := [.lit (.bool false)], args := [d1, d2, d3] }
  | _ => none }
def ScopeQueriesWrongFalsely : Prop := scopeQueriesRow.holds Try.pinned (OpenSpec.ofChange scopeQueriesWrong)

/-- 'constraintlaw15.ScopeLocals': WHATEVER THE INPUT: true; the input reads as it did. -/
def scopeLocalsSpec : ChangeSpec := { name := "scopeLocals", fn := fun _ => fun
  | [d1, d2, d3] => { results := [.lit (.bool true)], args := [d1, d2, d3] }
  | _ => none }
def scopeLocalsRow : OpenClaim := { program := "ytgndcnknmkcacaa", sum := "7703364483f8c848846d59a35f6125940cad2f41e0c96ec1b38079d92305b9ed", func := "constraint/constraintlaw15.ScopeLocals", spec := "scopeLocals", inPlace := ["internal/bytealg.IndexByteString", "internal/bytealg.IndexString"], unfollowed := true, recurses := true, named := ["internal/bytealg.MaxLen"], loops := true, plainKeys := false, apart := false }
def ScopeLocalsSaid : Prop := scopeLocalsRow.holds Try.pinned (OpenSpec.ofChange scopeLocalsSpec)

/-- ITS FALSE NEIGHBOUR: 'it returns false'. Refute it at one input. -/
def scopeLocalsWrong : ChangeSpec := { name := "scopeLocals", fn := fun _ => fun
  | [d1, d2, d3] => { results := [.lit (.bool false)], args := [d1, d2, d3] }
  | _ => none }
def ScopeLocalsWrongFalsely : Prop := scopeLocalsRow.holds Try.pinned (OpenSpec.ofChange scopeLocalsWrong)

/-- 'constraintlaw15.ScopeLess': WHATEVER THE INPUT: true; the input reads as it did. -/
def scopeLessSpec : ChangeSpec := { name := "scopeLess", fn := fun _ => fun
  | [d1, d2, d3] => { results := [.lit (.bool true)], args := [d1, d2, d3] }
  | _ => none }
def scopeLessRow : OpenClaim := { program := "ytgndcnknmkcacaa", sum := "7703364483f8c848846d59a35f6125940cad2f41e0c96ec1b38079d92305b9ed", func := "constraint/constraintlaw15.ScopeLess", spec := "scopeLess", inPlace := ["internal/bytealg.IndexByteString", "internal/bytealg.IndexString"], unfollowed := true, recurses := true, named := ["internal/bytealg.MaxLen"], loops := true, plainKeys := false, apart := false }
def ScopeLessSaid : Prop := scopeLessRow.holds Try.pinned (OpenSpec.ofChange scopeLessSpec)

/-- ITS FALSE NEIGHBOUR: 'it returns false'. Refute it at one input. -/
def scopeLessWrong : ChangeSpec := { name := "scopeLess", fn := fun _ => fun
  | [d1, d2, d3] => { results := [.lit (.bool false)], args := [d1, d2, d3] }
  | _ => none }
def ScopeLessWrongFalsely : Prop := scopeLessRow.holds Try.pinned (OpenSpec.ofChange scopeLessWrong)

/-- 'constraintlaw15.ScopeFirst': WHATEVER THE INPUT: true; the input reads as it did. -/
def scopeFirstSpec : ChangeSpec := { name := "scopeFirst", fn := fun _ => fun
  | [d] => { results := [.lit (.bool true)], args := [d] }
  | _ => none }
def scopeFirstRow : OpenClaim := { program := "ytgndcnknmkcacaa", sum := "7703364483f8c848846d59a35f6125940cad2f41e0c96ec1b38079d92305b9ed", func := "constraint/constraintlaw15.ScopeFirst", spec := "scopeFirst", inPlace := ["internal/bytealg.IndexByteString", "internal/bytealg.IndexString"], unfollowed := true, recurses := true, named := ["internal/bytealg.MaxLen"], loops := true, plainKeys := false, apart := false }
def ScopeFirstSaid : Prop := scopeFirstRow.holds Try.pinned (OpenSpec.ofChange scopeFirstSpec)

/-- ITS FALSE NEIGHBOUR: 'it returns false'. Refute it at one input. -/
def scopeFirstWrong : ChangeSpec := { name := "scopeFirst", fn := fun _ => fun
  | [d] => { results := [.lit (.bool false)], args := [d] }
  | _ => none }
def ScopeFirstWrongFalsely : Prop := scopeFirstRow.holds Try.pinned (OpenSpec.ofChange scopeFirstWrong)

/- THE SECOND FORM. 'bulk': how many values and letters a reading holds, each counted each time it is reached (what is shared counts as often as it is met; a slice's spare places count too). A statement '..UptoSaid' is the law's where the arguments, and the package variables that the reading takes, are together of bulk at most 1048576: NARROWER than '..Said'. Prove '..Said' where nothing that the law and all that it calls make is longer than what came in: it says more and counts as full. Else prove '..UptoSaid'. A law counts once. -/
mutual
def uptoBulk {H : Type} : DataW H → Nat
  | .lit (.string bytes) => bytes.length + 1
  | .lit _ => 1
  | .nil => 1
  | .ptr d => uptoBulk d + 1
  | .slice elems spare => uptoBulkAll elems + uptoBulkAll spare + 1
  | .agg parts => uptoBulkAll parts + 1
  | .iface _ d => uptoBulk d + 1
  | .map entries => uptoBulkEntries entries + 1
  | .held _ => 1
def uptoBulkAll {H : Type} : List (DataW H) → Nat
  | [] => 0
  | d :: r => uptoBulk d + uptoBulkAll r
def uptoBulkEntries {H : Type} : List (Lit × DataW H) → Nat
  | [] => 0
  | x :: r => uptoBulkEntry x + uptoBulkEntries r
def uptoBulkEntry {H : Type} : Lit × DataW H → Nat
  | (.string bytes, d) => bytes.length + uptoBulk d + 1
  | (_, d) => uptoBulk d + 1
 end
def uptoSmall : (H : Type) → List (DataW H) → Bool := fun _ ds => decide (uptoBulkAll ds ≤ 1048576)
def OpenSpec.upto (s : _root_.Go.ChangeSpec) : _root_.Go.OpenSpec := { _root_.Go.OpenSpec.ofChange s with cond := some uptoSmall }

/-- 'constraintlaw15.ScopePrograms', WHERE WHAT IT READS IS OF BULK AT MOST 1048576: true; the input reads as it did. -/
def scopeProgramsUptoRow : OpenClaim := { program := "ytgndcnknmkcacaa", sum := "7703364483f8c848846d59a35f6125940cad2f41e0c96ec1b38079d92305b9ed", func := "constraint/constraintlaw15.ScopePrograms", spec := "scopePrograms", inPlace := ["internal/bytealg.IndexByteString", "internal/bytealg.IndexString"], unfollowed := true, recurses := true, named := ["internal/bytealg.MaxLen"], loops := true, plainKeys := false, apart := false, narrowed := true }
def ScopeProgramsUptoSaid : Prop := scopeProgramsUptoRow.holds Try.pinned (OpenSpec.upto scopeProgramsSpec)

/-- 'constraintlaw15.ScopeRules', WHERE WHAT IT READS IS OF BULK AT MOST 1048576: true; the input reads as it did. -/
def scopeRulesUptoRow : OpenClaim := { program := "ytgndcnknmkcacaa", sum := "7703364483f8c848846d59a35f6125940cad2f41e0c96ec1b38079d92305b9ed", func := "constraint/constraintlaw15.ScopeRules", spec := "scopeRules", inPlace := ["internal/bytealg.IndexByteString", "internal/bytealg.IndexString"], unfollowed := true, recurses := true, named := ["internal/bytealg.MaxLen"], loops := true, plainKeys := false, apart := false, narrowed := true }
def ScopeRulesUptoSaid : Prop := scopeRulesUptoRow.holds Try.pinned (OpenSpec.upto scopeRulesSpec)

/-- 'constraintlaw15.ScopeQueries', WHERE WHAT IT READS IS OF BULK AT MOST 1048576: true; the input reads as it did. -/
def scopeQueriesUptoRow : OpenClaim := { program := "ytgndcnknmkcacaa", sum := "7703364483f8c848846d59a35f6125940cad2f41e0c96ec1b38079d92305b9ed", func := "constraint/constraintlaw15.ScopeQueries", spec := "scopeQueries", inPlace := ["internal/bytealg.IndexByteString", "internal/bytealg.IndexString"], unfollowed := true, recurses := true, named := ["internal/bytealg.MaxLen"], loops := true, plainKeys := false, apart := false, narrowed := true }
def ScopeQueriesUptoSaid : Prop := scopeQueriesUptoRow.holds Try.pinned (OpenSpec.upto scopeQueriesSpec)

/-- 'constraintlaw15.ScopeLocals', WHERE WHAT IT READS IS OF BULK AT MOST 1048576: true; the input reads as it did. -/
def scopeLocalsUptoRow : OpenClaim := { program := "ytgndcnknmkcacaa", sum := "7703364483f8c848846d59a35f6125940cad2f41e0c96ec1b38079d92305b9ed", func := "constraint/constraintlaw15.ScopeLocals", spec := "scopeLocals", inPlace := ["internal/bytealg.IndexByteString", "internal/bytealg.IndexString"], unfollowed := true, recurses := true, named := ["internal/bytealg.MaxLen"], loops := true, plainKeys := false, apart := false, narrowed := true }
def ScopeLocalsUptoSaid : Prop := scopeLocalsUptoRow.holds Try.pinned (OpenSpec.upto scopeLocalsSpec)

/-- 'constraintlaw15.ScopeLess', WHERE WHAT IT READS IS OF BULK AT MOST 1048576: true; the input reads as it did. -/
def scopeLessUptoRow : OpenClaim := { program := "ytgndcnknmkcacaa", sum := "7703364483f8c848846d59a35f6125940cad2f41e0c96ec1b38079d92305b9ed", func := "constraint/constraintlaw15.ScopeLess", spec := "scopeLess", inPlace := ["internal/bytealg.IndexByteString", "internal/bytealg.IndexString"], unfollowed := true, recurses := true, named := ["internal/bytealg.MaxLen"], loops := true, plainKeys := false, apart := false, narrowed := true }
def ScopeLessUptoSaid : Prop := scopeLessUptoRow.holds Try.pinned (OpenSpec.upto scopeLessSpec)

/-- 'constraintlaw15.ScopeFirst', WHERE WHAT IT READS IS OF BULK AT MOST 1048576: true; the input reads as it did. -/
def scopeFirstUptoRow : OpenClaim := { program := "ytgndcnknmkcacaa", sum := "7703364483f8c848846d59a35f6125940cad2f41e0c96ec1b38079d92305b9ed", func := "constraint/constraintlaw15.ScopeFirst", spec := "scopeFirst", inPlace := ["internal/bytealg.IndexByteString", "internal/bytealg.IndexString"], unfollowed := true, recurses := true, named := ["internal/bytealg.MaxLen"], loops := true, plainKeys := false, apart := false, narrowed := true }
def ScopeFirstUptoSaid : Prop := scopeFirstUptoRow.holds Try.pinned (OpenSpec.upto scopeFirstSpec)

end Rows
end Go.Proofs.Ytgndcnknmkcacaa
