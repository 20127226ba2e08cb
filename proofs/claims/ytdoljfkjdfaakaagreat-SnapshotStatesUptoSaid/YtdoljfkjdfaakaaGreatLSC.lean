/-
  Texts of the seat, merged.
-/
import Derived.Test.YtdoljfkjdfaakaaGreatLSA
import Derived.Test.YtdoljfkjdfaakaaGreatLSB
import Derived.Test.YtdoljfkjdfaakaaGreatChecked
import Derived.WalkKit
import Derived.Lib.Hide
import Derived.Lib.AppendStr
import Derived.Deep.AppendLies
import Derived.Deep.AppendSrc
import Derived.Deep.Draws
import Derived.Deep.QuietTactic
import Derived.BigQuiet
import Derived.Deep.RegionWith
import Derived.Maps.AppendAt
import Derived.WalkSpells
import Derived.Orders
import Derived.Deep.Slices
import Derived.Deep.Fields
import Derived.ChangeArms
import Derived.Lib.OthersKept
import Derived.Lib.TrimU
import Derived.Lib.IndexAny
import Derived.Deep.LoopGhost
import Derived.Lib.Bytealg
import Derived.RangeFuncBox
import Derived.RangeFuncNested
import Derived.RangeFuncBound
import Derived.RangeFuncCalls
import Derived.RangeFuncLeaves
import Derived.Shelf.Abstract
import Derived.OwnWalkIn
import Derived.TacticsInMore
import Derived.LoopNIn
import Derived.LoopIn
import Derived.RangeFuncWrites
import Derived.Maps.OwnIn
import Derived.Maps.Views
import Derived.Laws.OwnMore
import Derived.Maps.OwnSet
import Derived.Laws.IdiomStrings
import Derived.Test.YtdoljfkjdfaakaaGreatRows
import Derived.ProofKit
import Derived.OpenShut
import Derived.Carry
import Derived.OrdersIn
import Derived.Great.BuildSlice
import Derived.ArgAppend
import Derived.Laws.MakeOwn
import Derived.Laws.Cover3
import Derived.Laws.CopyRow
import Derived.MapKept
import Derived.Maps.RangeRun
import Derived.DeepKeys5
import Derived.WideKeyRuns
set_option linter.unusedVariables false
set_option linter.unusedSimpArgs false
set_option linter.unnecessarySimpa false
set_option linter.all false
namespace Go.Proofs.YtdoljfkjdfaakaaGreat
set_option maxRecDepth 100000
open Go.RowKit
theorem qmX {m : Md} {P : Program} {X : Env → D → St → Prop} {f : FuncId} {fn : Func} {K : Ctx} {R : D → St → Prop} {k : List Item} {env : Env} {σ : St} {l : List Oper} {rest : List (Nat × Cls)} (s : Nat) (v : Bool) {b : Bool} (hs : lk env s = some (.bool b)) (hb : b = v) (h : Run P l.toArray X (GoesG m P f fn K R k) rest ((s, .bool v) :: env) σ) : Run P l.toArray X (GoesG m P f fn K R k) rest env σ := by
  subst hb
  cases b with
  | true => exact qqG s hs (fun _ => h) fun h' => by cases h'
  | false => exact qqG s hs (fun h' => by cases h') fun _ => h
theorem qC {m : Md} {P : Program} {f : FuncId} {fn : Func} {K : Ctx} {R : D → St → Prop} {k : List Item} {env : Env} {σ : St} (s : Nat) (v : Bool) {b : Bool} (hs : lk env s = some (.bool b)) (hb : b = v) (h : GoesG m P f fn K R k ((s, .bool v) :: env) σ) : GoesG m P f fn K R k env σ := by
  subst hb
  cases b with
  | true => exact qqH s hs (fun _ => h) fun h' => by cases h'
  | false => exact qqH s hs (fun h' => by cases h') fun _ => h
theorem qo {m : Md} {P : Program} {f : FuncId} {fn : Func} {K : Ctx} {R : D → St → Prop} {k : List Item} {env : Env} {σ : St} {c : Operand} {x y : Code} (hc : ev env c = some (.bool true)) (h : GoesG m P f fn K R (.code x :: k) env σ) : GoesG m P f fn K R (.code (.cond c x y) :: k) env σ := by
  cases c with
  | tmp t => exact qru hc rfl (fun _ => h) fun h => by cases h
  | const v => exact qru hc (by cases v <;> first | rfl | (simp [ev, constD] at hc)) (fun _ => h) fun h => by cases h
  | global g => cases hc
  | func f => cases hc
theorem qs {m : Md} {P : Program} {f : FuncId} {fn : Func} {K : Ctx} {R : D → St → Prop} {k : List Item} {env : Env} {σ : St} {c : Operand} {x y : Code} (hc : ev env c = some (.bool false)) (h : GoesG m P f fn K R (.code y :: k) env σ) : GoesG m P f fn K R (.code (.cond c x y) :: k) env σ := by
  cases c with
  | tmp t => exact qru hc rfl (fun h => by cases h) fun _ => h
  | const v => exact qru hc (by cases v <;> first | rfl | (simp [ev, constD] at hc)) (fun h => by cases h) fun _ => h
  | global g => cases hc
  | func f => cases hc
theorem qW : Ty Tryz.prog 3 false 1 := ⟨⟨_, Tryz.underlying3, rfl⟩, by kernel_rfl⟩
theorem qcE : Ty Tryz.prog 4 false 1 := ⟨⟨_, Tryz.underlying4, rfl⟩, by kernel_rfl⟩
theorem qrd : Ty Tryz.prog 5 false 1 := ⟨⟨_, Tryz.underlying5, rfl⟩, by kernel_rfl⟩
theorem qdg : Ty Tryz.prog 9 false 1 := ⟨⟨_, Tryz.underlying9, rfl⟩, by kernel_rfl⟩
theorem qja : Ty Tryz.prog 39 false 1 := ⟨⟨_, Tryz.underlying39, rfl⟩, by kernel_rfl⟩
theorem qa7 : ElT Tryz.prog 39 109 3 48 := .of Tryz.underlying39 (by kernel_rfl) (by decide)
theorem qal : Ty Tryz.prog 71 false 1 := ⟨⟨_, Tryz.underlying71, rfl⟩, by kernel_rfl⟩
theorem qaj : ElT Tryz.prog 71 114 4 56 := .of Tryz.underlying71 (by kernel_rfl) (by decide)
theorem qbQ : Ty Tryz.prog 107 true 2 := ⟨⟨_, Tryz.underlying107, rfl⟩, by kernel_rfl⟩
theorem qgx : Fld Tryz.prog 107 0 0 := ⟨_, _, 1, Tryz.underlying107, rfl, rfl, by kernel_rfl, by decide⟩
theorem qeb : Fld Tryz.prog 107 1 1 := ⟨_, _, 1, Tryz.underlying107, rfl, rfl, by kernel_rfl, by decide⟩
theorem ql9 : BuildT Tryz.prog 107 [.str ⟨#[]⟩, .lst []] := .mk rfl (by kernel_rfl) Tryz.underlying107 (by kernel_rfl)
theorem qjv : ZeroV Tryz.prog 107 (.agg [.str ⟨#[]⟩, .lst []]) := .agg ql9
theorem qjm : Ty Tryz.prog 109 true 3 := ⟨⟨_, Tryz.underlying109, rfl⟩, by kernel_rfl⟩
theorem qg8 : Fld Tryz.prog 109 0 0 := ⟨_, _, 1, Tryz.underlying109, rfl, rfl, by kernel_rfl, by decide⟩
theorem qg6 : Fld Tryz.prog 109 1 1 := ⟨_, _, 2, Tryz.underlying109, rfl, rfl, by kernel_rfl, by decide⟩
theorem qnp : BuildT Tryz.prog 109 [.int .i64 0, .agg [.str ⟨#[]⟩, .lst []]] := .mk rfl (by kernel_rfl) Tryz.underlying109 (by kernel_rfl)
theorem qnM : ZeroV Tryz.prog 109 (.agg [.int .i64 0, .agg [.str ⟨#[]⟩, .lst []]]) := .agg qnp
theorem qfy : Ty Tryz.prog 33 false 1 := ⟨⟨_, Tryz.underlying33, rfl⟩, by kernel_rfl⟩
theorem qm6 : ZeroV Tryz.prog 33 (.int .i64 0) := .val (.int .i64 0) rfl (by kernel_rfl) rfl
theorem qhP : Ty Tryz.prog 29 true 2 := ⟨⟨_, Tryz.underlying29, rfl⟩, by kernel_rfl⟩
theorem qg7 : Fld Tryz.prog 29 0 0 := ⟨_, _, 1, Tryz.underlying29, rfl, rfl, by kernel_rfl, by decide⟩
theorem qiq : Fld Tryz.prog 29 1 1 := ⟨_, _, 1, Tryz.underlying29, rfl, rfl, by kernel_rfl, by decide⟩
theorem ql4 : BuildT Tryz.prog 29 [.str ⟨#[]⟩, .int .i64 0] := .mk rfl (by kernel_rfl) Tryz.underlying29 (by kernel_rfl)
theorem ql3 : ZeroV Tryz.prog 29 (.agg [.str ⟨#[]⟩, .int .i64 0]) := .agg ql4
theorem qao : Ty Tryz.prog 121 false 1 := ⟨⟨_, Tryz.underlying121, rfl⟩, by kernel_rfl⟩
theorem qH : ElT Tryz.prog 121 3 1 8 := .of Tryz.underlying121 (by kernel_rfl) (by decide)
theorem qis : ElT Tryz.prog 40 116 5 64 := .of Tryz.underlying40 (by kernel_rfl) (by decide)
theorem qiK : Ty Tryz.prog 41 false 1 := ⟨⟨_, Tryz.underlying41, rfl⟩, by kernel_rfl⟩
theorem qb7 : ElT Tryz.prog 41 116 5 64 := .of Tryz.underlying41 (by kernel_rfl) (by decide)
theorem qav : Ty Tryz.prog 114 true 4 := ⟨⟨_, Tryz.underlying114, rfl⟩, by kernel_rfl⟩
theorem qgd : Fld Tryz.prog 114 0 0 := ⟨_, _, 1, Tryz.underlying114, rfl, rfl, by kernel_rfl, by decide⟩
theorem qe0 : Fld Tryz.prog 114 1 1 := ⟨_, _, 1, Tryz.underlying114, rfl, rfl, by kernel_rfl, by decide⟩
theorem qmt : Fld Tryz.prog 114 2 2 := ⟨_, _, 1, Tryz.underlying114, rfl, rfl, by kernel_rfl, by decide⟩
theorem qkY : Fld Tryz.prog 114 3 3 := ⟨_, _, 1, Tryz.underlying114, rfl, rfl, by kernel_rfl, by decide⟩
theorem ql7 : BuildT Tryz.prog 114 [.int .i64 0, .int .i64 0, .str ⟨#[]⟩, .lst []] := .mk rfl (by kernel_rfl) Tryz.underlying114 (by kernel_rfl)
theorem qhO : ZeroV Tryz.prog 114 (.agg [.int .i64 0, .int .i64 0, .str ⟨#[]⟩, .lst []]) := .agg ql7
theorem qdb : Ty Tryz.prog 73 true 3 := ⟨⟨_, Tryz.underlying73, rfl⟩, by kernel_rfl⟩
theorem qdo : Fld Tryz.prog 73 0 0 := ⟨_, _, 1, Tryz.underlying73, rfl, rfl, by kernel_rfl, by decide⟩
theorem qhc : Fld Tryz.prog 73 1 1 := ⟨_, _, 1, Tryz.underlying73, rfl, rfl, by kernel_rfl, by decide⟩
theorem qcB : Fld Tryz.prog 73 2 2 := ⟨_, _, 1, Tryz.underlying73, rfl, rfl, by kernel_rfl, by decide⟩
theorem ql8 : BuildT Tryz.prog 73 [.int .i64 0, .str ⟨#[]⟩, .lst []] := .mk rfl (by kernel_rfl) Tryz.underlying73 (by kernel_rfl)
theorem qmi : ZeroV Tryz.prog 73 (.agg [.int .i64 0, .str ⟨#[]⟩, .lst []]) := .agg ql8
theorem qa4 : Ty Tryz.prog 66 false 1 := ⟨⟨_, Tryz.underlying66, rfl⟩, by kernel_rfl⟩
theorem qY : ElT Tryz.prog 66 73 3 48 := .of Tryz.underlying66 (by kernel_rfl) (by decide)
theorem qjq : Ty Tryz.prog 116 true 5 := ⟨⟨_, Tryz.underlying116, rfl⟩, by kernel_rfl⟩
theorem qgp : Fld Tryz.prog 116 0 0 := ⟨_, _, 1, Tryz.underlying116, rfl, rfl, by kernel_rfl, by decide⟩
theorem qfu : Fld Tryz.prog 116 1 1 := ⟨_, _, 4, Tryz.underlying116, rfl, rfl, by kernel_rfl, by decide⟩
theorem qnr : BuildT Tryz.prog 116 [.int .i64 0, .agg [.int .i64 0, .int .i64 0, .str ⟨#[]⟩, .lst []]] := .mk rfl (by kernel_rfl) Tryz.underlying116 (by kernel_rfl)
theorem qns : ZeroV Tryz.prog 116 (.agg [.int .i64 0, .agg [.int .i64 0, .int .i64 0, .str ⟨#[]⟩, .lst []]]) := .agg qnr
theorem qde : Ty Tryz.prog 22 false 1 := ⟨⟨_, Tryz.underlying22, rfl⟩, by kernel_rfl⟩
theorem qbU : ElT Tryz.prog 22 29 2 24 := .of Tryz.underlying22 (by kernel_rfl) (by decide)
theorem qbZ : Ty Tryz.prog 23 false 1 := ⟨⟨_, Tryz.underlying23, rfl⟩, by kernel_rfl⟩
theorem qbe : ElT Tryz.prog 23 68 6 120 := .of Tryz.underlying23 (by kernel_rfl) (by decide)
theorem qam : Ty Tryz.prog 25 true 2 := ⟨⟨_, Tryz.underlying25, rfl⟩, by kernel_rfl⟩
theorem qce : Fld Tryz.prog 25 0 0 := ⟨_, _, 1, Tryz.underlying25, rfl, rfl, by kernel_rfl, by decide⟩
theorem qaJ : Fld Tryz.prog 25 1 1 := ⟨_, _, 1, Tryz.underlying25, rfl, rfl, by kernel_rfl, by decide⟩
theorem ql0 : BuildT Tryz.prog 25 [.lst [], .lst []] := .mk rfl (by kernel_rfl) Tryz.underlying25 (by kernel_rfl)
theorem qfx : ZeroV Tryz.prog 25 (.agg [.lst [], .lst []]) := .agg ql0
theorem qca : Ty Tryz.prog 65 false 1 := ⟨⟨_, Tryz.underlying65, rfl⟩, by kernel_rfl⟩
theorem qS : ElT Tryz.prog 65 107 2 40 := .of Tryz.underlying65 (by kernel_rfl) (by decide)
theorem qbF : Ty Tryz.prog 68 true 6 := ⟨⟨_, Tryz.underlying68, rfl⟩, by kernel_rfl⟩
theorem qi0 : Fld Tryz.prog 68 0 0 := ⟨_, _, 1, Tryz.underlying68, rfl, rfl, by kernel_rfl, by decide⟩
theorem qeV : Fld Tryz.prog 68 1 1 := ⟨_, _, 1, Tryz.underlying68, rfl, rfl, by kernel_rfl, by decide⟩
theorem qe2 : Fld Tryz.prog 68 2 2 := ⟨_, _, 1, Tryz.underlying68, rfl, rfl, by kernel_rfl, by decide⟩
theorem qdM : Fld Tryz.prog 68 3 3 := ⟨_, _, 1, Tryz.underlying68, rfl, rfl, by kernel_rfl, by decide⟩
theorem qec : Fld Tryz.prog 68 4 4 := ⟨_, _, 1, Tryz.underlying68, rfl, rfl, by kernel_rfl, by decide⟩
theorem qk7 : Fld Tryz.prog 68 5 5 := ⟨_, _, 1, Tryz.underlying68, rfl, rfl, by kernel_rfl, by decide⟩
theorem qqd : BuildT Tryz.prog 68 [.str ⟨#[]⟩, .lst [], .lst [], .lst [], .lst [], .int .i64 0] := .mk rfl (by kernel_rfl) Tryz.underlying68 (by kernel_rfl)
theorem qjI : ZeroV Tryz.prog 68 (.agg [.str ⟨#[]⟩, .lst [], .lst [], .lst [], .lst [], .int .i64 0]) := .agg qqd
theorem qlz : ElT Tryz.prog 152 240 3 24 := .of Tryz.underlying152 (by kernel_rfl) (by decide)
theorem qrJ : BuildT Tryz.prog 240 [.int .i64 0, .int .i64 0, .bool false] := .mk rfl (by kernel_rfl) Tryz.underlying240 (by kernel_rfl)
theorem qki : callee Tryz.prog 172 := ⟨_, _, Tryz.func172, rfl, by decide⟩
theorem qkX : callee Tryz.prog 180 := ⟨_, _, Tryz.func180, rfl, by decide⟩
theorem qj7 : callee Tryz.prog 173 := ⟨_, _, Tryz.func173, rfl, by decide⟩
theorem qft : callee Tryz.prog 177 := ⟨_, _, Tryz.func177, rfl, by decide⟩
theorem qhC : callee Tryz.prog 220 := ⟨_, _, Tryz.func220, rfl, by decide⟩
theorem qmU : callee Tryz.prog 151 := ⟨_, _, Tryz.func151, rfl, by decide⟩
theorem qdn : callee Tryz.prog 157 := ⟨_, _, Tryz.func157, rfl, by decide⟩
theorem qh2 : callee Tryz.prog 126 := ⟨_, _, Tryz.func126, rfl, by decide⟩
theorem qkf : callee Tryz.prog 218 := ⟨_, _, Tryz.func218, rfl, by decide⟩
theorem qoB : callee Tryz.prog 65 := ⟨_, _, Tryz.func65, rfl, by decide⟩
theorem qkA : callee Tryz.prog 130 := ⟨_, _, Tryz.func130, rfl, by decide⟩
theorem qgu : callee Tryz.prog 222 := ⟨_, _, Tryz.func222, rfl, by decide⟩
theorem qh5 : callee Tryz.prog 169 := ⟨_, _, Tryz.func169, rfl, by decide⟩
theorem qiu : callee Tryz.prog 150 := ⟨_, _, Tryz.func150, rfl, by decide⟩
theorem qlj : callee Tryz.prog 242 := ⟨_, _, Tryz.func242, rfl, by decide⟩
theorem qkO : callee Tryz.prog 200 := ⟨_, _, Tryz.func200, rfl, by decide⟩
theorem qhU : callee Tryz.prog 179 := ⟨_, _, Tryz.func179, rfl, by decide⟩
theorem qlr : callee Tryz.prog 96 := ⟨_, _, Tryz.func96, rfl, by decide⟩
theorem qh4 : callee Tryz.prog 94 := ⟨_, _, Tryz.func94, rfl, by decide⟩
theorem qjc : callee Tryz.prog 171 := ⟨_, _, Tryz.func171, rfl, by decide⟩
theorem qcS : callee Tryz.prog 170 := ⟨_, _, Tryz.func170, rfl, by decide⟩
theorem qe3 : callee Tryz.prog 221 := ⟨_, _, Tryz.func221, rfl, by decide⟩
theorem qmW : callee Tryz.prog 197 := ⟨_, _, Tryz.func197, rfl, by decide⟩
theorem qgM : callee Tryz.prog 181 := ⟨_, _, Tryz.func181, rfl, by decide⟩
theorem qiP : callee Tryz.prog 32 := ⟨_, _, Tryz.func32, rfl, by decide⟩
theorem qeC : callee Tryz.prog 176 := ⟨_, _, Tryz.func176, rfl, by decide⟩
theorem qfg : callee Tryz.prog 214 := ⟨_, _, Tryz.func214, rfl, by decide⟩
theorem qf6 : callee Tryz.prog 215 := ⟨_, _, Tryz.func215, rfl, by decide⟩
theorem qk8 : callee Tryz.prog 216 := ⟨_, _, Tryz.func216, rfl, by decide⟩
theorem qhi : callee Tryz.prog 217 := ⟨_, _, Tryz.func217, rfl, by decide⟩
theorem qkb : callee Tryz.prog 237 := ⟨_, _, Tryz.func237, rfl, by decide⟩
theorem qij : callee Tryz.prog 238 := ⟨_, _, Tryz.func238, rfl, by decide⟩
theorem qfA : callee Tryz.prog 182 := ⟨_, _, Tryz.func182, rfl, by decide⟩
theorem qjD : callee Tryz.prog 239 := ⟨_, _, Tryz.func239, rfl, by decide⟩
theorem qlH : callee Tryz.prog 240 := ⟨_, _, Tryz.func240, rfl, by decide⟩
theorem qjE : callee Tryz.prog 21 := ⟨_, _, Tryz.func21, rfl, by decide⟩
theorem qhf : callee Tryz.prog 236 := ⟨_, _, Tryz.func236, rfl, by decide⟩
theorem qic : callee Tryz.prog 93 := ⟨_, _, Tryz.func93, rfl, by decide⟩
theorem qf1 : callee Tryz.prog 55 := ⟨_, _, Tryz.func55, rfl, by decide⟩
theorem qgo : callee Tryz.prog 149 := ⟨_, _, Tryz.func149, rfl, by decide⟩
mutual
def fsT : T → List D
  | .mk k i s ar => [.int .i64 k, .int .i64 i, .str s, .lst (encTs ar)]
def encTs : List T → List D
  | [] => []
  | t :: ts => .agg (fsT t) :: encTs ts
end
abbrev encT (t : T) : D := .agg (fsT t)
theorem qna : ∀ (ts : List T), encTs ts = ts.map encT
  | [] => rfl
  | t :: ts => by rw [encTs, qna ts]; rfl
theorem qiZ (t : T) : fsT t = [.int .i64 t.k, .int .i64 t.i, .str t.s, .lst (t.ar.map encT)] := by
  cases t; simp only [fsT, qna, T.k, T.i, T.s, T.ar]
theorem qlK (t : T) : (fsT t)[0]? = some (.int .i64 t.k) := by rw [qiZ]; rfl
theorem qjO (t : T) : (fsT t)[1]? = some (.int .i64 t.i) := by rw [qiZ]; rfl
theorem qtA (t : T) : (fsT t)[2]? = some (.str t.s) := by rw [qiZ]; rfl
theorem qrr (t : T) : (fsT t)[3]? = some (.lst (t.ar.map encT)) := by rw [qiZ]; rfl
theorem qlO (t : T) : szs ((fsT t).take 0) = 0 := by rw [qiZ]; rfl
theorem qjR (t : T) : szs ((fsT t).take 1) = 1 := by rw [qiZ]; rfl
theorem qt1 (t : T) : szs ((fsT t).take 2) = 2 := by rw [qiZ]; rfl
theorem qrb (t : T) : szs ((fsT t).take 3) = 3 := by rw [qiZ]; rfl
theorem qck (t : T) : sz (encT t) = 4 := by rw [encT, qiZ]; rfl
theorem qdC (t : T) : szs (fsT t) = 4 := by rw [qiZ]; rfl
def encA (a : At) : D := .agg [.str a.n, .lst (a.ts.map encT)]
def encG (g : Gl) : D := .agg [.int .i64 g.op, .str g.n, .lst (g.ts.map encT)]
def encP (x : Int × T) : D := .agg [.int .i64 x.1, encT x.2]
theorem qgK (x : Int × T) : sz (encP x) = 5 := by
  show 1 + (sz (encT x.2) + 0) = 5
  rw [qck]
/-! ### to the elder layouts -/
section
variable {p : Addr → Prop} {w : World}
mutual
theorem qvs : ∀ (t : T) (v : Value), Rep p w (encT t) v → ∃ cs, v = .agg cs.toArray ∧ CT w t cs
  | .mk k i s ar, v, h => by
    simp only [Rep, fsT] at h
    obtain ⟨cs, rfl, h, _⟩ := h
    simp only [Reps, Rep] at h
    obtain ⟨v1, _, rfl, ⟨rfl, hk⟩, v2, _, rfl, ⟨rfl, hi⟩, v3, _, rfl, ⟨rfl, hs⟩, v4, _, rfl, ⟨A, c, xs, rfl, hl, hc, hr, hrs, _⟩, rfl⟩ := h
    rw [show (encTs ar).length = ar.length by rw [qna]; simp] at hl ⊢
    refine ⟨_, rfl, ?_⟩
    simp only [CT]
    have hk' := qje hk
    have hi' := qje hi
    exact ⟨A, c, xs, by simp [Value.cells], ⟨by unfold I64; omega, by unfold I64; omega, hs, hl, hc⟩, hr.rd, quX ar xs hrs⟩
theorem quX : ∀ (ts : List T) (xs : List Value), Reps p w (encTs ts) xs → CL w ts xs
  | [], xs, h => by simpa only [encTs, Reps, CL] using h
  | t :: ts, xs, h => by
    simp only [encTs, Reps] at h
    obtain ⟨v, rest, rfl, h1, h2⟩ := h
    obtain ⟨cs, rfl, h3⟩ := qvs t v h1
    simpa [Value.cells] using CL.cons h3 (quX ts rest h2)
end
theorem quV {t : T} {v : Value} (h : Rep p w (encT t) v) : VT w t v := qvs t v h
theorem quP {ts : List T} {v : Value} (h : Rep p w (.lst (ts.map encT)) v) : SlT w ts v := by
  simp only [Rep] at h
  obtain ⟨A, c, xs, rfl, h2, h3, h4, h5, _⟩ := h
  simp only [List.length_map] at h2 ⊢
  exact ⟨A, c, xs, rfl, h2, h3, h4.rd, quX ts xs (by rw [qna]; exact h5)⟩
theorem qvJ {a : At} {v : Value} (h : Rep p w (encA a) v) : VA w a v := by
  simp only [encA, Rep, Reps] at h
  obtain ⟨cs, rfl, ⟨v1, _, rfl, ⟨rfl, hs⟩, v2, _, rfl, h2, rfl⟩, _⟩ := h
  have h3 := quP (ts := a.ts) (by simpa only [Rep] using h2)
  obtain ⟨A, c, xs, rfl, _⟩ := h2
  exact ⟨_, rfl, _, by simp [Value.cells], h3, hs⟩
theorem qvN {g : Gl} {v : Value} (h : Rep p w (encG g) v) : VG w g v := by
  simp only [encG, Rep, Reps] at h
  obtain ⟨cs, rfl, ⟨v0, _, rfl, ⟨rfl, ho⟩, v1, _, rfl, ⟨rfl, hs⟩, v2, _, rfl, h2, rfl⟩, _⟩ := h
  have h3 := quP (ts := g.ts) (by simpa only [Rep] using h2)
  obtain ⟨A, c, xs, rfl, _⟩ := h2
  have ho' := qje ho
  exact ⟨_, rfl, _, by simp [Value.cells], h3, by unfold I64; omega, hs⟩
end
section
variable {p : Addr → Prop} {w : World}
theorem repl1 {d : D} {vs : List Value} (h : Repl p w [d] vs) : ∃ v, vs = [v] ∧ Rep p w d v := by
  simp only [Repl] at h
  obtain ⟨v, _, rfl, h1, rfl⟩ := h
  exact ⟨v, rfl, h1⟩
end
theorem gives1 {P : Program} {f : FuncId} {d : D} {b : Bool} (h : ∀ (p : Addr → Prop) (w : World) (v : Value), Rep p w d v → Calls P f #[v] w (Ret w (Is (.bool b)))) : Gives P f [d] (.bool b) :=
  qlu (v := .bool b) (fun p w => by simp only [Rep]) fun p w vs _ hv => by
    obtain ⟨v, rfl, h1⟩ := repl1 hv
    exact h p w v h1
theorem givesI1 {P : Program} {f : FuncId} {d : D} {n : Int} (hn : IntKind.i64.wrap n = n) (h : ∀ (p : Addr → Prop) (w : World) (v : Value), Rep p w d v → Calls P f #[v] w (Ret w (Is (.int .i64 n)))) : Gives P f [d] (.int .i64 n) :=
  qlu (v := .int .i64 n) (fun p w => by simp only [Rep]; exact ⟨trivial, hn⟩) fun p w vs _ hv => by
    obtain ⟨v, rfl, h1⟩ := repl1 hv
    exact h p w v h1
theorem qoT (n : Nat) (hM : n ≤ 1000000000) (t : T) (hn : wt t ≤ n) : Gives Tryz.prog 65 [encT t] (.bool (rightT t)) := gives1 fun _ w v h => qsl n hM t v w hn (quV h)
theorem qp3 (n : Nat) (hM : n ≤ 1000000000) (t : T) (hn : wt t ≤ n) : Gives Tryz.prog 126 [encT t] (.bool (rightT t)) := gives1 fun _ w v h => qm3 n hM t v w hn (quV h)
theorem qmP (n : Nat) (hM : n ≤ 1000000000) (a : At) (hn : wtL a.ts ≤ n) : Gives Tryz.prog 151 [encA a] (.bool (rightA a)) := gives1 fun _ w v h => qmE n hM a v w hn (qvJ h)
theorem qnC (n : Nat) (hM : n ≤ 1000000000) (a : At) (hn : wtL a.ts ≤ n) : Gives Tryz.prog 157 [encA a] (.bool (rightA a)) := gives1 fun _ w v h => qlg n hM a v w hn (qvJ h)
theorem qmN (n : Nat) (hM : n ≤ 1000000000) (a : Gl) (hn : wtL a.ts ≤ n) : Gives Tryz.prog 197 [encG a] (.bool (rightG a)) := gives1 fun _ w v h => qoF n hM a v w hn (qvN h)
theorem qn0 (n : Nat) (hM : n ≤ 1000000000) (a : Gl) (hn : wtL a.ts ≤ n) : Gives Tryz.prog 181 [encG a] (.bool (rightG a)) := gives1 fun _ w v h => qm7 n hM a v w hn (qvN h)
theorem qqb (s : ByteArray) (hs : s.size ≤ 9223372036854775807) : Gives Tryz.prog 169 [.str s] (.bool (isName s)) := gives1 fun _ w v h => by
  simp only [Rep] at h
  rw [h.1]
  have := ql5 s (Lib.hid hs) w
  refine this.mono ?_
  rintro e w' ⟨rfl, rfl⟩
  exact Ret.mk rfl (Ext.rfl' _)
theorem qrZ (n : Nat) (hM : n ≤ 1000000000) (t : T) (hn : wt t ≤ n) : Gives Tryz.prog 150 [encT t] (.int .i64 (sizeT t : Nat)) := givesI1 (wrap64 (by have := qoX t; omega)) fun _ w v h => qk5 n t v w hn hM (quV h)
abbrev wr (n : Int) : Int := IntKind.i64.wrap n
theorem qoP {n : Int} (h : -9223372036854775808 ≤ n ∧ n < 9223372036854775808) : wr n = n := wrap64 h
def getI {α : Type} (l : List α) (n : Int) : Option α := if 0 ≤ n then l[n.toNat]? else none
theorem qjQ {α : Type} (l : List α) (i : Nat) : getI l (i : Int) = l[i]? := by simp [getI]
theorem qsz {α : Type} {l : List α} {n : Int} {q : α} (h : getI l n = some q) : 0 ≤ n ∧ l[n.toNat]? = some q := by
  unfold getI at h
  split at h
  · exact ⟨by assumption, h⟩
  · cases h
def appO {α : Type} (b : Nat) (l m : List α) : Option (List α) := if (l.length + m.length) * b ≤ 140737488355328 ∧ l.length + m.length ≤ 9223372036854775807 then some (l ++ m) else none
theorem qho {α : Type} {b : Nat} {l m : List α} (h : (l.length + m.length) * b ≤ 140737488355328) (h2 : l.length + m.length ≤ 9223372036854775807) : appO b l m = some (l ++ m) := by rw [appO, if_pos ⟨h, h2⟩]
theorem qs5 {α : Type} {b : Nat} {l m r : List α} (h : appO b l m = some r) : (l.length + m.length) * b ≤ 140737488355328 ∧ l.length + m.length ≤ 9223372036854775807 ∧ r = l ++ m := by
  unfold appO at h
  split at h
  · rename_i h1
    exact ⟨h1.1, h1.2, (Option.some.inj h).symm⟩
  · cases h
def subO {α : Type} (l : List α) (lo hi : Int) : Option (List α) := if 0 ≤ lo ∧ lo ≤ hi ∧ hi ≤ l.length then some ((l.take hi.toNat).drop lo.toNat) else none
theorem qtn {α : Type} {l r : List α} {lo hi : Int} (h : subO l lo hi = some r) : 0 ≤ lo ∧ lo ≤ hi ∧ hi ≤ l.length ∧ r = (l.take hi.toNat).drop lo.toNat := by
  unfold subO at h
  split at h
  · rename_i h1
    exact ⟨h1.1, h1.2.1, h1.2.2, (Option.some.inj h).symm⟩
  · cases h
theorem bindS {α β : Type} {o : Option α} {f : α → Option β} {r : β} (h : o.bind f = some r) : ∃ q, o = some q ∧ f q = some r := by
  cases o with
  | none => cases h
  | some q => exact ⟨q, rfl, h⟩
theorem exK {β γ : Type} (F : β → γ) {a : β} {r : γ} (h : F a = r) : ∃ k, k = a ∧ F k = r := ⟨a, rfl, h⟩
theorem listStep {α : Type} (l : List α) (i : Nat) (hi : i ≤ l.length) : (decide ((i : Int) < (l.length : Int)) = false ∧ l.drop i = [] ∧ i = l.length) ∨ ∃ q, decide ((i : Int) < (l.length : Int)) = true ∧ l.drop i = q :: l.drop (i + 1) ∧ getI l (i : Int) = some q ∧ i < l.length := by
  by_cases h : i < l.length
  · exact .inr ⟨l[i], decide_eq_true (by omega), List.drop_eq_getElem_cons h, by rw [qjQ]; exact List.getElem?_eq_getElem h, h⟩
  · exact .inl ⟨decide_eq_false (by omega), List.drop_eq_nil_of_le (by omega), by omega⟩
theorem cntStep (i n : Int) (m : Nat) (hm : m = (n - i).toNat) : (m = 0 ∧ decide (i < n) = false) ∨ ∃ m', m = m' + 1 ∧ decide (i < n) = true ∧ m' = (n - (i + 1)).toNat ∧ i < n := by
  by_cases h : i < n
  · exact .inr ⟨(n - (i + 1)).toNat, by omega, decide_eq_true h, rfl, h⟩
  · exact .inl ⟨by omega, decide_eq_false h⟩
theorem downStep (m : Nat) : (m = 0 ∧ decide ((m : Int) - 1 ≥ 0) = false) ∨ ∃ m', m = m' + 1 ∧ decide ((m : Int) - 1 ≥ 0) = true := by
  cases m with
  | zero => exact .inl ⟨rfl, by decide⟩
  | succ k => exact .inr ⟨k, rfl, decide_eq_true (by omega)⟩
section
variable {P : Program} {X : Env → D → St → Prop} {l : List Oper} {rest : List (Nat × Cls)} {env : Env} {σ : St} {f : FuncId} {fn : Func} {K : Ctx} {R : D → St → Prop} {k : List Item}
theorem r_sB {m : Md} {α : Type} (s : Nat) {b : Bool} {x y : Option α} {res : α} (hs : lk env s = some (.bool b)) (hr : (bif b then x else y) = some res) (h1 : b = true → x = some res → Run P l.toArray X (GoesG m P f fn K R k) rest ((s, .bool true) :: env) σ) (h2 : b = false → y = some res → Run P l.toArray X (GoesG m P f fn K R k) rest ((s, .bool false) :: env) σ) : Run P l.toArray X (GoesG m P f fn K R k) rest env σ :=
  qqG s hs (fun h => h1 h (by rw [h] at hr; exact hr)) fun h => h2 h (by rw [h] at hr; exact hr)
theorem g_sB {m : Md} {α : Type} (s : Nat) {b : Bool} {x y : Option α} {res : α} (hs : lk env s = some (.bool b)) (hr : (bif b then x else y) = some res) (h1 : b = true → x = some res → GoesG m P f fn K R k ((s, .bool true) :: env) σ) (h2 : b = false → y = some res → GoesG m P f fn K R k ((s, .bool false) :: env) σ) : GoesG m P f fn K R k env σ :=
  qqH s hs (fun h => h1 h (by rw [h] at hr; exact hr)) fun h => h2 h (by rw [h] at hr; exact hr)
theorem qV {m : Md} {id : Nat} {c : Code} (J : Env → St → Prop) (hJ : ∀ env σ, J env σ → GoesG m P f fn K R k env σ) (h : (∀ env σ, J env σ → GoesG m P f fn K R k env σ) → GoesG m P f fn K R (.code c :: .inBlock id :: k) env σ) : GoesG m P f fn K R (.code (.block id c) :: k) env σ := q0 (h hJ)
end
theorem pf0 {α : Type} (l : List α) : l.Perm l := List.Perm.refl _
theorem pf1 {α : Type} (a b : α) (l : List α) : (a :: b :: l).Perm (b :: a :: l) := List.Perm.swap b a l
theorem pf2 {α : Type} (a b c : α) (l : List α) : (a :: b :: c :: l).Perm (c :: a :: b :: l) := ((pf1 b c l).cons a).trans (pf1 a c _)
section
variable {P : Program} {o : Oper} {ρ : Operand → Option D} {d : D} {α : Type} {f : α → D}
theorem qN {t e : TypeId} {x ix : Operand} {s by_ : Nat} {dx : D} (l : List α) {k : IntKind} {n : Int} {q : α} (ho : o.op = .indexAddr t x ix) (hE : ElT P t e s by_) (hx : ρ x = some dx) (hl : AsL dx (l.map f)) (hix : ρ ix = some (.int k n)) (hq : getI l n = some q) (hall : ∀ a, sz (f a) = s) (hp : (f q).plain = true) : StepD P o ρ (.ptr (f q)) := by
  obtain ⟨h0, h1⟩ := qsz hq
  exact qvk n.toNat ho hE hx hl hix (by omega) (getm h1) (aszm hall) hp
theorem qcK {x y : Operand} {t e : TypeId} {s by_ : Nat} {σ τ : St} {u : Value} (l m : List α) {r : List α} {dy : D} {n : Nat} (ho : o.op = .call { callee := .builtin .append, args := #[x, y], argTypes := #[t, t] }) (hE : ElT P t e s by_) (hx : ρ x = some (.own u (l.map f))) (hy : ρ y = some dy) (hm : AsL dy (m.map f)) (hσ : σ.Perm (.row u n e s :: τ)) (hn : n = l.length) (hall : ∀ a, sz (f a) = s) (hr : appO by_ l m = some r) :
    StepS P o ρ σ fun d' σ' => ∃ u', d' = .own u' (r.map f) ∧ σ' = .row u' r.length e s :: τ := by
  obtain ⟨h1, h2, rfl⟩ := qs5 hr
  have h := qt7 (P := P) (o := o) (ρ := ρ) (σ := σ) (τ := τ) (u := u) (l := l.map f) (m := m.map f) ho hE hx hy hm (by rw [List.length_map, ← hn]; exact hσ) (aszm hall) (aszm hall) (by simpa using h1) (by simpa using h2)
  rw [← List.map_append, List.length_map] at h
  exact h
theorem qpV {t e : TypeId} {x : Operand} {low high : Option Operand} {s by_ : Nat} {dx : D} (l : List α) {r : List α} (lo hi : Int) (ho : o.op = .slice t x low high none) (hE : ElT P t e s by_) (hx : ρ x = some dx) (hl : AsL dx (l.map f)) (h1 : ∀ n : Nat, (n : Int) = lo → bndLo ρ low n) (h2 : ∀ n : Nat, (n : Int) = hi → bndHi ρ l.length high n) (hall : ∀ a, sz (f a) = s) (hr : subO l lo hi = some r) : StepD P o ρ (.lst (r.map f)) := by
  obtain ⟨g1, g2, g3, rfl⟩ := qtn hr
  have := qv3 lo.toNat hi.toNat ho hE hx hl (h1 _ (by omega)) (by rw [List.length_map]; exact h2 _ (by omega)) (by omega) (by rw [List.length_map]; omega) (aszm hall)
  rwa [← List.map_take, ← List.map_drop] at this
theorem qn2 : ∀ n : Nat, (n : Int) = 0 → bndLo ρ none n := fun n h => by unfold bndLo; omega
theorem qqt {x : Operand} {k : IntKind} {m : Int} (h : ρ x = some (.int k m)) : ∀ n : Nat, (n : Int) = m → bndLo ρ (some x) n := fun n e => ⟨k, m, h, e.symm⟩
theorem qqs {len : Nat} : ∀ n : Nat, (n : Int) = (len : Int) → bndHi ρ len none n := fun n h => by unfold bndHi; omega
theorem qnA {len : Nat} {x : Operand} {k : IntKind} {m : Int} (h : ρ x = some (.int k m)) : ∀ n : Nat, (n : Int) = m → bndHi ρ len (some x) n := fun n e => ⟨k, m, h, e.symm⟩
theorem qT {x : Operand} {t e : TypeId} {s by_ : Nat} {dx : D} (l : List α) (ho : o.op = .call { callee := .builtin .len, args := #[x], argTypes := #[t] }) (hE : ElT P t e s by_) (hx : ρ x = some dx) (hl : AsL dx (l.map f)) : StepD P o ρ (.int .i64 (l.length : Int)) := by
  have := qvX ho hE hx hl
  rwa [List.length_map] at this
theorem qiL {t e : TypeId} {n s by_ : Nat} {parts : Array (Nat × Operand)} (xs : List Operand) (l : List α) (ho : o.op = .buildSlice t n parts) (hE : ElT P t e s by_) (hps : parts.toList = (xs.zipIdx 0).map fun x => (x.2, x.1)) (hn : n = xs.length) (hn0 : 0 < n) (hsm : n * s ≤ 16777216) (hO : Opds ρ xs (l.map f)) (hall : ∀ a, sz (f a) = s) (hpl : ∀ a, (f a).plain = true) : StepD P o ρ (.full (l.map f)) :=
  qv2 xs ho hE hps hn hn0 hsm hO (aszm hall) fun d hd => by
    obtain ⟨a, _, rfl⟩ := List.mem_map.1 hd
    exact hpl a
end
/-! ### maps as lists of pairs -/
section
variable {α β : Type} [DecidableEq α]
end
section
variable {P : Program} {o : Oper} {ρ : Operand → Option D} {α β : Type} [DecidableEq α] {key : α → D} {g : β → D}
end
/-! ### facts out of slots -/
section
variable {P : Program} {f : FuncId} {fn : Func} {K : Ctx} {R : D → St → Prop} {k : List Item} {env : Env} {σ : St}
theorem qlc {m : Md} (s : Nat) (path : List Nat) {d0 dx : D} {l : List D} (hs : lk env s = some (.ptr d0)) (hp : subD d0 path = some dx) (hl : AsL dx l) (h : l.length ≤ 9223372036854775807 → GoesG m P f fn K R k env σ) : GoesG m P f fn K R k env σ :=
  qqS (fun p a w _ hr => by
    have h1 := hr s _ hs
    simp only [Rep] at h1
    obtain ⟨b, o, u, _, _, h2, _⟩ := h1
    obtain ⟨v, h3, _⟩ := qnh h2 hp
    obtain ⟨A, c, xs, _, g2, g3, _⟩ := hl.rep h3
    omega) h
theorem quq {m : Md} (s : Nat) (path : List Nat) {d0 dx : D} {l : List D} (hs : lk env s = some d0) (hp : subD d0 path = some dx) (hl : AsL dx l) (h : l.length ≤ 9223372036854775807 → GoesG m P f fn K R k env σ) : GoesG m P f fn K R k env σ :=
  qqS (fun p a w _ hr => by
    obtain ⟨v, h3, _⟩ := qnh (hr s _ hs) hp
    obtain ⟨A, c, xs, _, g2, g3, _⟩ := hl.rep h3
    omega) h
theorem qvK {m : Md} (s : Nat) {d d' : D} (hs : lk env s = some d) (hd : d = d') (h : GoesG m P f fn K R k ((s, d') :: env) σ) : GoesG m P f fn K R k env σ := by
  subst hd
  refine qmz _ env σ (fun t => ?_) h
  rw [qfS]
  split
  · rename_i h; subst h; exact hs.symm
  · rfl
theorem qt3 {m : Md} (e : TypeId) (s : Nat) (h : GoesG m P f fn K R k env (.row (.slice none 0 0) ([] : List D).length e s :: σ)) : GoesG m P f fn K R k env σ := fun p a w hi =>
  h p a w (hi.more ⟨⟨[], World.ownsRow_nil w 0 e s⟩, fun g hg => by simp [Value.ownBlock] at hg⟩ (fun b hb => by simp [Ob.blk, Value.ownBlock] at hb))
theorem qsm {m : Md} {a b : Code} (J : Env → St → Prop) (hJ : ∀ env σ, J env σ → GoesG m P f fn K R (.code b :: k) env σ) (h : (∀ env σ, J env σ → GoesG m P f fn K R (.code b :: k) env σ) → GoesG m P f fn K R (.code a :: .code b :: k) env σ) : GoesG m P f fn K R (.code (.seq a b) :: k) env σ := qh (h hJ)
theorem r_st {X : Env → D → St → Prop} {Q : Env → St → Prop} {l : List Oper} {rest : List (Nat × Cls)} (σ' : St) (hs : σ = σ') (h : Run P l.toArray X Q rest env σ') : Run P l.toArray X Q rest env σ := hs ▸ h
end
def downO (n : Int) : Option Nat := if -1 ≤ n then some (n + 1).toNat else none
theorem qrG {n : Int} {m : Nat} (h : downO n = some m) : n = (m : Int) - 1 := by
  unfold downO at h
  split at h
  · have := Option.some.inj h; omega
  · cases h
section
variable {P : Program} {o : Oper} {ρ : Operand → Option D} {d : D}
theorem qvv {t t' : TypeId} {x y : Operand} {m n : Int} (ho : o.op = .binOp .quo t x y t') (hx : ρ x = some (.int .i64 m)) (hy : ρ y = some (.int .i64 n)) (hn : n ≠ 0) : StepD P o ρ (.int .i64 (wr (Int.tdiv m n))) := qeL fun p a w h => by
  have h1 := h x (by rw [ho]; simp [Op.operands]) _ hx
  have h2 := h y (by rw [ho]; simp [Op.operands]) _ hy
  simp only [Rep] at h1 h2
  refine ⟨.int .i64 (wr (Int.tdiv m n)), ?_, by simp only [Rep]; exact ⟨trivial, qpE _ _⟩⟩
  unfold execOp
  rw [ho]
  simp only [h1.1, h2.1]
  simp [binOp, eqGuard, Op.intDiv, hn, wr]
theorem qQ {x : Operand} {b off : Nat} {path : List Nat} (ho : o.op = .nilCheck x) (hx : ρ x = some (.ref b off path)) : StepD P o ρ (.ref b off path) := qeL fun p a w h => by
  have h1 := h x (by rw [ho]; simp [Op.operands]) _ hx
  refine ⟨a.eval x, ?_, h1⟩
  simp only [Rep] at h1
  unfold execOp
  rw [ho]
  simp [h1]
end
theorem ifS {α : Type} {c : Prop} [Decidable c] {a b : α} (h : (if c then some a else none) = some b) : c ∧ a = b := by
  split at h
  · exact ⟨by assumption, Option.some.inj h⟩
  · cases h
noncomputable def qlQ (t : T) : Option (Bool) := if wt t ≤ 1000000000 then some (rightT t) else none
theorem qnX (t : T) (h : wt t ≤ 1000000000) : qlQ t = some (rightT t) := if_pos h
theorem qoV (t : T) (res : Bool) (h : qlQ t = some res) : Gives Tryz.prog 65 [encT t] (.bool res) := by
  obtain ⟨h1, rfl⟩ := ifS h
  exact qoT 1000000000 (Nat.le_refl _) t h1
theorem qh1 (t : T) (res : Bool) (h : qlQ t = some res) : Gives Tryz.prog 126 [encT t] (.bool res) := by
  obtain ⟨h1, rfl⟩ := ifS h
  exact qp3 1000000000 (Nat.le_refl _) t h1
noncomputable def qi9 (a : At) : Option (Bool) := if wtL a.ts ≤ 1000000000 then some (rightA a) else none
theorem qkU (a : At) (h : wtL a.ts ≤ 1000000000) : qi9 a = some (rightA a) := if_pos h
theorem qmQ (a : At) (res : Bool) (h : qi9 a = some res) : Gives Tryz.prog 151 [encA a] (.bool res) := by
  obtain ⟨h1, rfl⟩ := ifS h
  exact qmP 1000000000 (Nat.le_refl _) a h1
theorem qdp (a : At) (res : Bool) (h : qi9 a = some res) : Gives Tryz.prog 157 [encA a] (.bool res) := by
  obtain ⟨h1, rfl⟩ := ifS h
  exact qnC 1000000000 (Nat.le_refl _) a h1
noncomputable def qlN (a : Gl) : Option (Bool) := if wtL a.ts ≤ 1000000000 then some (rightG a) else none
theorem qmh (a : Gl) (h : wtL a.ts ≤ 1000000000) : qlN a = some (rightG a) := if_pos h
theorem qmO (a : Gl) (res : Bool) (h : qlN a = some res) : Gives Tryz.prog 197 [encG a] (.bool res) := by
  obtain ⟨h1, rfl⟩ := ifS h
  exact qmN 1000000000 (Nat.le_refl _) a h1
theorem qgO (a : Gl) (res : Bool) (h : qlN a = some res) : Gives Tryz.prog 181 [encG a] (.bool res) := by
  obtain ⟨h1, rfl⟩ := ifS h
  exact qn0 1000000000 (Nat.le_refl _) a h1
noncomputable def qmC (s : ByteArray) : Option (Bool) := if s.size ≤ 9223372036854775807 then some (isName s) else none
theorem qm0 (s : ByteArray) (h : s.size ≤ 9223372036854775807) : qmC s = some (isName s) := if_pos h
theorem qh9 (s : ByteArray) (res : Bool) (h : qmC s = some res) : Gives Tryz.prog 169 [.str s] (.bool res) := by
  obtain ⟨h1, rfl⟩ := ifS h
  exact qqb s h1
noncomputable def qoy (t : T) : Option (Int) := if wt t ≤ 1000000000 then some (((sizeT t : Nat) : Int)) else none
theorem qoh (t : T) (h : wt t ≤ 1000000000) : qoy t = some (((sizeT t : Nat) : Int)) := if_pos h
theorem qit (t : T) (res : Int) (h : qoy t = some res) : Gives Tryz.prog 150 [encT t] (.int .i64 res) := by
  obtain ⟨h1, rfl⟩ := ifS h
  exact qrZ 1000000000 (Nat.le_refl _) t h1
theorem qqr (d : Nat) (hd : d ≤ 1000) (l : List T) (left : Int) (h1 : -9223372036854775808 ≤ left) (h2 : left ≤ 1000000000) : Gives Tryz.prog 130 [.lst (l.map encT), .int .i64 left, .int .i64 (d : Int)] (.int .i64 (weighF d l left)) :=
  qlu (v := .int .i64 (weighF d l left)) (fun p w => by
    have := qlA d l left
    have : weighF d l left ≤ max left (-1) := by
      by_cases h : 0 ≤ weighF d l left
      · have := qoE d l left h
        omega
      · omega
    simp only [Rep]; exact ⟨trivial, wrap64 (by omega)⟩) fun p w vs _ hv => by
    simp only [Repl] at hv
    obtain ⟨v, _, rfl, k1, u, _, rfl, k2, x, _, rfl, k3, rfl⟩ := hv
    simp only [Rep] at k2 k3
    obtain ⟨rfl, _⟩ := k2
    obtain ⟨rfl, _⟩ := k3
    exact qph d l v left d w (quP k1) rfl hd h1 h2
noncomputable def qov (l : List T) (left d : Int) : Option Int := if (-9223372036854775808 ≤ left ∧ left ≤ 1000000000) ∧ 0 ≤ d ∧ d ≤ 1000 then some (weighF d.toNat l left) else none
theorem qj2 (l : List T) (left d res : Int) (h : qov l left d = some res) : Gives Tryz.prog 130 [.lst (l.map encT), .int .i64 left, .int .i64 d] (.int .i64 res) := by
  obtain ⟨⟨⟨h1, h2⟩, h3, h4⟩, rfl⟩ := ifS h
  have := qqr d.toNat (by omega) l left h1 h2
  rw [Int.toNat_of_nonneg h3] at this
  exact this
def toY (l : List UInt8) : List Int := l.map fun x => (x.toNat : Int)
def ofY (l : List Int) : List UInt8 := l.map fun n => UInt8.ofNat n.toNat
def IsY (l : List Int) : Prop := ∀ x ∈ l, 0 ≤ x ∧ x < 256
theorem qqw {l : List Int} (h : IsY l) : toY (ofY l) = l := by
  unfold toY ofY
  rw [List.map_map]
  conv => rhs; rw [← List.map_id l]
  refine List.map_congr_left fun x hx => ?_
  obtain ⟨h1, h2⟩ := h x hx
  simp only [Function.comp, UInt8.toNat_ofNat', id]
  omega
theorem qoU (l m : List UInt8) : toY (l ++ m) = toY l ++ toY m := List.map_append
theorem qjw (l : List Int) : (ofY l).length = l.length := List.length_map ..
theorem qoY (l : List UInt8) : (toY l).length = l.length := List.length_map ..
theorem qvT {n : Int} (h : IntKind.u8.wrap n = n) : 0 ≤ n ∧ n < 256 := by
  simp [IntKind.wrap, IntKind.bits, IntKind.signed] at h
  omega
theorem qv1 {n : Int} (h : 0 ≤ n ∧ n < 256) : IntKind.u8.wrap n = n := by
  simp [IntKind.wrap, IntKind.bits, IntKind.signed]
  omega
theorem repsY {p : Addr → Prop} {w : World} : ∀ {l : List Int} {xs : List Value}, Reps p w (l.map (D.int .u8)) xs → IsY l ∧ xs = (ofY l).map bv
  | [], xs, h => by
    simp only [List.map_nil, Reps] at h
    subst h
    exact ⟨fun x hx => (by cases hx), rfl⟩
  | n :: l, xs, h => by
    simp only [List.map_cons, Reps, Rep] at h
    obtain ⟨v, rest, rfl, ⟨rfl, hn⟩, h2⟩ := h
    obtain ⟨h3, rfl⟩ := repsY h2
    have h4 := qvT hn
    refine ⟨fun x hx => (List.mem_cons.1 hx).elim (fun e => e ▸ h4) (h3 x), ?_⟩
    simp only [ofY, List.map_cons, bv, Value.cells]
    have : ((UInt8.ofNat n.toNat).toNat : Int) = n := by
      simp only [UInt8.toNat_ofNat']
      omega
    rw [this]
    rfl
theorem repY {p : Addr → Prop} {w : World} {l : List Int} {v : Value} (h : Rep p w (.lst (l.map (D.int .u8))) v) : IsY l ∧ ∃ A c, v = .slice A (ofY l).length c ∧ (ofY l).length ≤ c ∧ Rd w A ((ofY l).map bv) := by
  simp only [Rep, List.length_map] at h
  obtain ⟨A, c, xs, rfl, h1, _, h2, h3, _⟩ := h
  obtain ⟨h4, rfl⟩ := repsY h3
  refine ⟨h4, A, c, by rw [qjw], by rw [qjw]; exact h1, ?_⟩
  rcases h2 with h2 | ⟨b, o, rfl, h2⟩
  · exact .inl h2
  · exact .inr ⟨⟨b, o, none⟩, rfl, fun j u hu => by rw [addF]; exact (h2 j u hu).2⟩
theorem qjY {f : FuncId} {ds : List D} {l : List UInt8} (h : ∀ (p : Addr → Prop) (w : World) (vs : List Value), Repl p w ds vs → Calls Tryz.prog f vs.toArray w (Ret w (IsB w.heap.size l))) : Gives Tryz.prog f ds (.lst ((toY l).map (D.int .u8))) := fun w p vs hi hv => by
  have hc := h p w vs hv
  refine hc.mono fun e w' hr => ?_
  obtain ⟨v, rfl, ⟨A, c, rfl, ho⟩, he⟩ := hr
  have hcell : ∀ a, p a → w'.cell? a = w.cell? a := fun a ha => by
    obtain ⟨u, hu⟩ := hi.pub a ha
    exact (he.cellOf hu).trans hu.symm
  have hreps : ∀ (q : Addr → Prop) (m : List UInt8), Reps q w' ((toY m).map (D.int .u8)) (m.map bv) := fun q m => by
    induction m with
    | nil => exact Reps.nil _ _
    | cons x m ih =>
      have hx := UInt8.toNat_lt x
      have h1 : Rep q w' (.int .u8 (x.toNat : Int)) (.int .u8 (x.toNat : Int)) := by
        simp only [Rep]
        exact ⟨trivial, qv1 (by omega)⟩
      simpa [Value.cells, toY, bv] using Reps.cons h1 ih
  have hones : ∀ u ∈ l.map bv, u.oneCell' = true := fun u hu => by
    obtain ⟨x, _, rfl⟩ := List.mem_map.1 hu
    rfl
  refine .inl ⟨_, .lst ((toY l).map (D.int .u8)), [], fun a => p a ∨ (w.heap.size ≤ a.block ∧ a.spot = none ∧ ∃ u, w'.cell? a = some u), rfl, rfl, ?_, ?_⟩
  · simp only [Rep, List.length_map, qoY]
    have hlen := ho.1
    rcases ho.2 with ⟨h1, h2⟩ | ⟨g, cap, cur, h1, h2, h3, h4, h5, h6, h7⟩
    · injection h1 with h1 h8 h9
      subst h1 h9
      have : l = [] := List.eq_nil_of_length_eq_zero h8
      subst this
      exact ⟨none, 0, [], rfl, by simp, by omega, .inl rfl, Reps.nil _ _, by simp⟩
    · injection h1 with h1 h8 h9
      subst h1 h9
      refine ⟨_, c, l.map bv, rfl, h4, by unfold maxLen at h5; omega, .inr ⟨g, 0, rfl, fun j u hu => ?_⟩, hreps _ l, hones⟩
      have hu' : w'.cell? ⟨g, 0 + j, none⟩ = some u := by
        rw [Nat.zero_add, cell_of_row _ _ _ _ _ _ h3]
        rw [← h7, List.getElem?_take] at hu
        split at hu
        · simpa using hu
        · cases hu
      exact ⟨.inr ⟨h2, rfl, u, hu'⟩, hu'⟩
  · exact { ok := fun o ho => (by cases ho), nd := List.nodup_nil, mine := fun b hb => (by cases hb), pub := fun a ha => (by
        rcases ha with ha | ⟨_, _, u, hu⟩
        · obtain ⟨u, hu⟩ := hi.pub a ha
          exact ⟨u, he.cellOf hu⟩
        · exact ⟨u, hu⟩), gr := fun a ha => ⟨.inl ha, hcell a ha⟩, neu := fun a ha => ha.elim .inl fun h => .inr (.inl h.1), os := he.os, tape := he.tape, output := he.output, size := he.size, block := fun b hb _ => he.block b hb }
theorem qmp {f : FuncId} {ds : List D} {d : D} (h : ∀ (p : Addr → Prop) (w : World) (vs : List Value), Repl p w ds vs → ∃ v, Rep p w d v ∧ Calls Tryz.prog f vs.toArray w (Same w v)) : Gives Tryz.prog f ds d := fun w p vs hi hv => by
  obtain ⟨v, hr, hc⟩ := h p w vs hv
  refine hc.mono fun e w' he => ?_
  obtain ⟨rfl, rfl⟩ := he
  exact .inl ⟨v, d, [], p, rfl, rfl, hr, hi⟩
/-! ### the functions -/
def encN (n : Int) : List Int := toY ((enc (zig n)).take 10)
theorem qtf {n : Int} (h1 : -9223372036854775808 ≤ n) (h2 : n < 9223372036854775808) : encN n = toY (enc (zig n)) := by
  unfold encN
  rw [List.take_of_length_le (qnv (qsO h1 h2))]
noncomputable def qkt (b : List Int) (n : Int) : Option (List Int) := if b.length ≤ 1000000000 then some (b ++ encN n) else none
noncomputable def qkz (b : List Int) (s : ByteArray) : Option (List Int) := if b.length ≤ 1000000000 ∧ s.size ≤ 1000000000 then some (b ++ (encN s.size ++ toY s.data.toList)) else none
noncomputable def qjf (b : List Int) (x : Bool) : Option (List Int) := if b.length ≤ 1000000000 then some (b ++ [bif x then 1 else 0]) else none
noncomputable def quF (b : List Int) (a lo hi : Int) : Option (Int × Int × Int) := if b.length ≤ 1000000000 then some (intM (ofY b) a lo hi) else none
noncomputable def qs9 (b : List Int) (a m : Int) : Option (ByteArray × Int × Int) := if b.length ≤ 1000000000 then some (⟨(textM (ofY b) a m).1.toArray⟩, (textM (ofY b) a m).2.1, (textM (ofY b) a m).2.2) else none
theorem replY2 {p : Addr → Prop} {w : World} {d e : D} {vs : List Value} (h : Repl p w [d, e] vs) : ∃ u v, vs = [u, v] ∧ Rep p w d u ∧ Rep p w e v := by
  simp only [Repl] at h
  obtain ⟨u, _, rfl, h1, v, _, rfl, h2, rfl⟩ := h
  exact ⟨u, v, rfl, h1, h2⟩
section
variable (f : FuncId) (hf : ∀ (A : Option Addr) (c : Nat) (bs : List UInt8) (k : Int) (w : World), Rd w A (bs.map bv) → bs.length ≤ 1000000000 → -9223372036854775808 ≤ k → k < 9223372036854775808 → Calls Tryz.prog f #[.slice A bs.length c, .int .i64 k] w (Ret w (IsB w.heap.size (bs ++ enc (zig k)))))
include hf
theorem qpO (b : List Int) (n : Int) (res : List Int) (h : qkt b n = some res) : Gives Tryz.prog f [.lst (b.map (D.int .u8)), .int .i64 n] (.lst (res.map (D.int .u8))) := by
  obtain ⟨h1, rfl⟩ := ifS h
  intro w p vs hi hv
  obtain ⟨u, v, _, hu, hn⟩ := replY2 hv
  simp only [Rep] at hn
  obtain ⟨n1, n2⟩ := qje hn.2
  have e : b ++ encN n = toY (ofY b ++ enc (zig n)) := by rw [qoU, qqw (repY hu).1, qtf n1 n2]
  rw [e]
  refine qjY (fun p w vs hv => ?_) w p vs hi hv
  obtain ⟨u, v, rfl, hu, hv2⟩ := replY2 hv
  obtain ⟨_, A, c, rfl, _, hr⟩ := repY hu
  simp only [Rep] at hv2
  obtain ⟨rfl, hn⟩ := hv2
  obtain ⟨n1, n2⟩ := qje hn
  exact hf A c (ofY b) n w hr (by rw [qjw]; exact h1) n1 n2
end
section
variable (f : FuncId) (hf : ∀ (A : Option Addr) (c : Nat) (bs : List UInt8) (s : ByteArray) (w : World), Rd w A (bs.map bv) → bs.length ≤ 1000000000 → s.size ≤ 1000000000 → Calls Tryz.prog f #[.slice A bs.length c, .string s] w (Ret w (IsB w.heap.size (bs ++ (enc (zig s.size) ++ s.data.toList)))))
include hf
theorem qoZ (b : List Int) (s : ByteArray) (res : List Int) (h : qkz b s = some res) : Gives Tryz.prog f [.lst (b.map (D.int .u8)), .str s] (.lst (res.map (D.int .u8))) := by
  obtain ⟨⟨h1, h2⟩, rfl⟩ := ifS h
  intro w p vs hi hv
  obtain ⟨u, v, _, hu, _⟩ := replY2 hv
  have e : b ++ (encN s.size ++ toY s.data.toList) = toY (ofY b ++ (enc (zig s.size) ++ s.data.toList)) := by rw [qoU, qoU, qqw (repY hu).1, qtf (by omega) (by omega)]
  rw [e]
  refine qjY (fun p w vs hv => ?_) w p vs hi hv
  obtain ⟨u, v, rfl, hu, hv2⟩ := replY2 hv
  obtain ⟨_, A, c, rfl, _, hr⟩ := repY hu
  simp only [Rep] at hv2
  obtain ⟨rfl, hn⟩ := hv2
  exact hf A c (ofY b) s w hr (by rw [qjw]; exact h1) h2
end
section
variable (f : FuncId) (hf : ∀ (A : Option Addr) (c : Nat) (bs : List UInt8) (x : Bool) (w : World), Rd w A (bs.map bv) → bs.length ≤ 1000000000 → Calls Tryz.prog f #[.slice A bs.length c, .bool x] w (Ret w (IsB w.heap.size (bs ++ [if x then 1 else 0]))))
include hf
theorem qoD (b : List Int) (x : Bool) (res : List Int) (h : qjf b x = some res) : Gives Tryz.prog f [.lst (b.map (D.int .u8)), .bool x] (.lst (res.map (D.int .u8))) := by
  obtain ⟨h1, rfl⟩ := ifS h
  intro w p vs hi hv
  obtain ⟨u, v, _, hu, _⟩ := replY2 hv
  have e : b ++ [bif x then 1 else 0] = toY (ofY b ++ [if x then 1 else 0]) := by rw [qoU, qqw (repY hu).1]; cases x <;> rfl
  rw [e]
  refine qjY (fun p w vs hv => ?_) w p vs hi hv
  obtain ⟨u, v, rfl, hu, hv2⟩ := replY2 hv
  obtain ⟨_, A, c, rfl, _, hr⟩ := repY hu
  simp only [Rep] at hv2
  subst hv2
  exact hf A c (ofY b) x w hr (by rw [qjw]; exact h1)
end
theorem qju (b : List Int) (n : Int) (res : List Int) (h : qkt b n = some res) : Gives Tryz.prog 131 [.lst (b.map (D.int .u8)), .int .i64 n] (.lst (res.map (D.int .u8))) := qpO _ qok b n res h
theorem qla (b : List Int) (s : ByteArray) (res : List Int) (h : qkz b s = some res) : Gives Tryz.prog 132 [.lst (b.map (D.int .u8)), .str s] (.lst (res.map (D.int .u8))) := qoZ _ qp5 b s res h
theorem qlb (b : List Int) (x : Bool) (res : List Int) (h : qjf b x = some res) : Gives Tryz.prog 70 [.lst (b.map (D.int .u8)), .bool x] (.lst (res.map (D.int .u8))) := qoD _ qqz b x res h
theorem qsn : ∀ (k : Nat) (l : List UInt8), (rawM k l).2.2 ≤ 4
  | k, [] => Nat.le_refl _
  | k, c :: r => by
    have := qsn (k + 1) r
    rw [qlG]
    split
    · decide
    · split
      · split
        · decide
        · exact Nat.zero_le _
      · split
        · exact Nat.zero_le _
        · exact this
theorem qum (bs : List UInt8) (a lo hi : Int) : 0 ≤ (intM bs a lo hi).2.2 ∧ (intM bs a lo hi).2.2 ≤ 5 := by
  have := qsn 0 (bs.drop a.toNat)
  unfold intM
  split
  · decide
  · split
    · simp only []
      omega
    · split
      · decide
      · show (0 : Int) ≤ 0 ∧ (0 : Int) ≤ 5
        decide
theorem qqT (bs : List UInt8) (hb : bs.length ≤ 1000000000) (a lo hi : Int) : (-9223372036854775808 ≤ (intM bs a lo hi).1 ∧ (intM bs a lo hi).1 < 9223372036854775808) ∧ 0 ≤ (intM bs a lo hi).2.1 ∧ (intM bs a lo hi).2.1 ≤ 1000000000 := by
  by_cases h : (intM bs a lo hi).2.2 = 0
  · have := qqf (bs := bs) (at_ := a) (lo := lo) (hi := hi) (n := (intM bs a lo hi).1) (next := (intM bs a lo hi).2.1) (by rw [← h])
    omega
  · have := qud (bs := bs) (at_ := a) (lo := lo) (hi := hi) (n := (intM bs a lo hi).1) (next := (intM bs a lo hi).2.1) rfl h
    omega
theorem qpI (b : List Int) (a lo hi : Int) (res : Int × Int × Int) (h : quF b a lo hi = some res) : Gives Tryz.prog 142 [.lst (b.map (D.int .u8)), .int .i64 a, .int .i64 lo, .int .i64 hi] (.tup [.int .i64 res.1, .int .i64 res.2.1, .int .i64 res.2.2]) := by
  obtain ⟨h1, rfl⟩ := ifS h
  refine qmp fun p w vs hv => ?_
  simp only [Repl] at hv
  obtain ⟨u, _, rfl, hu, v, _, rfl, hv, x, _, rfl, hx, y, _, rfl, hy, rfl⟩ := hv
  obtain ⟨_, A, c, rfl, _, hr⟩ := repY hu
  simp only [Rep] at hv hx hy
  obtain ⟨rfl, _⟩ := hv
  obtain ⟨rfl, _⟩ := hx
  obtain ⟨rfl, _⟩ := hy
  obtain ⟨i1, i2⟩ := qqT (ofY b) (by rw [qjw]; exact h1) a lo hi
  have i3 := qum (ofY b) a lo hi
  refine ⟨tri (intM (ofY b) a lo hi), ?_, qsA A c (ofY b) a lo hi w hr (by rw [qjw]; exact h1)⟩
  simp only [Rep, Repl, tri]
  exact ⟨_, rfl, _, _, rfl, ⟨rfl, wrap64 i1⟩, _, _, rfl, ⟨rfl, wrap64 (by omega)⟩, _, _, rfl, ⟨rfl, wrap64 (by omega)⟩, rfl⟩
theorem qoC (b : List Int) (a m : Int) (res : ByteArray × Int × Int) (h : qs9 b a m = some res) : Gives Tryz.prog 140 [.lst (b.map (D.int .u8)), .int .i64 a, .int .i64 m] (.tup [.str res.1, .int .i64 res.2.1, .int .i64 res.2.2]) := by
  obtain ⟨h1, rfl⟩ := ifS h
  refine qmp fun p w vs hv => ?_
  simp only [Repl] at hv
  obtain ⟨u, _, rfl, hu, v, _, rfl, hv, x, _, rfl, hx, rfl⟩ := hv
  obtain ⟨_, A, c, rfl, hc, hr⟩ := repY hu
  simp only [Rep] at hv hx
  obtain ⟨rfl, _⟩ := hv
  obtain ⟨rfl, _⟩ := hx
  obtain ⟨i1, i2⟩ := qqT (ofY b) (by rw [qjw]; exact h1) a 0 m
  have i3 := qum (ofY b) a 0 m
  have hl : (ofY b).length ≤ 1000000000 := by rw [qjw]; exact h1
  refine ⟨triS (textM (ofY b) a m), ?_, qtZ A c (ofY b) a m w hr hl hc⟩
  have t1 : (textM (ofY b) a m).1.length ≤ 1000000000 ∧ (-1 ≤ (textM (ofY b) a m).2.1 ∧ (textM (ofY b) a m).2.1 ≤ 2000000000) ∧ 0 ≤ (textM (ofY b) a m).2.2 ∧ (textM (ofY b) a m).2.2 ≤ 5 := by
    unfold textM
    split
    · simp
    · split
      · simp only [List.length_nil]; omega
      · rename_i h0
        split
        · simp
        · have h0 : (intM (ofY b) a 0 m).2.2 = 0 := by simpa using h0
          have := qqf (bs := ofY b) (at_ := a) (lo := 0) (hi := m) (n := (intM (ofY b) a 0 m).1) (next := (intM (ofY b) a 0 m).2.1) (Prod.ext rfl (Prod.ext rfl h0))
          simp only [List.length_take, List.length_drop]
          omega
  simp only [Rep, Repl, triS]
  refine ⟨_, rfl, _, _, rfl, ⟨rfl, ?_⟩, _, _, rfl, ⟨rfl, wrap64 (by omega)⟩, _, _, rfl, ⟨rfl, wrap64 (by omega)⟩, rfl⟩
  have : (⟨(textM (ofY b) a m).1.toArray⟩ : ByteArray).size = (textM (ofY b) a m).1.length := by
    show (textM (ofY b) a m).1.toArray.size = _
    simp
  omega
def encIt (x : Int × At) : D := .agg [.int .i64 x.1, encA x.2]
theorem qan (a : At) : sz (encA a) = 2 := rfl
theorem qbi (a : Gl) : sz (encG a) = 3 := rfl
theorem qfW (x : Int × At) : sz (encIt x) = 3 := rfl
inductive Wks : List D → List D → Prop
  | nil : Wks [] []
  | cons {d e : D} {ds es : List D} (h : Wk d e) (k : Wks ds es) : Wks (d :: ds) (e :: es)
theorem Wks.reps {ds es : List D} (h : Wks ds es) : ∀ {p : Addr → Prop} {w : World} {xs : List Value}, Reps p w ds xs → Reps p w es xs := by
  induction h with
  | nil => exact fun h => h
  | cons h _ ih =>
    intro p w xs hr
    simp only [Reps] at hr ⊢
    obtain ⟨v, rest, h1, h2, h3⟩ := hr
    exact ⟨v, rest, h1, h _ _ _ h2, ih h3⟩
theorem Wk.agg {ds es : List D} (h : Wks ds es) : Wk (.agg ds) (.agg es) := fun p w v hv => by
  simp only [Rep] at hv ⊢
  obtain ⟨cs, h1, h2, h3⟩ := hv
  exact ⟨cs, h1, h.reps h2, h3⟩
section
variable {P : Program} {f : FuncId} {fn : Func} {K : Ctx} {R : D → St → Prop} {k : List Item} {env : Env} {σ : St}
end
theorem Inv.of {K K' : Ctx} {p : Addr → Prop} {σ : St} {w : World} (h0 : K'.w0 = K.w0) (hp : K'.p0 = K.p0) (hF : K'.F0 = K.F0) (h : Inv K p σ w) : Inv K' p σ w := by
  obtain ⟨w0, p0, F0, X⟩ := K
  obtain ⟨w0', p0', F0', X'⟩ := K'
  simp only at h0 hp hF
  subst h0 hp hF
  exact ⟨h.ok, h.nd, h.mine, h.pub, h.gr, h.neu, h.os, h.tape, h.output, h.size, h.block⟩
def ctxX (w : World) (p : Addr → Prop) (σ : St) (X : D → Prop) : Ctx := { ctx w p σ with X := fun d _ => X d }
def SpecX (P : Program) (f : FuncId) (ds : List D) (σ : St) (R : D → St → Prop) (X : D → Prop) : Prop :=
  ∀ (w : World) (p : Addr → Prop) (vs : List Value), Inv (ctx w p σ) p σ w → Repl p w ds vs → Calls P f vs.toArray w (Left (ctxX w p σ X) R)
def Dies (P : Program) (f : FuncId) (ds : List D) (σ : St) (d : D) : Prop := SpecX P f ds σ (fun _ _ => False) fun d' => d' = d
section
variable {P : Program} {f : FuncId} {fn : Func} {ds : List D} {σ : St} {R : D → St → Prop} {X : D → Prop}
theorem qtP {c : Code} (hf : P.funcs[f]? = some fn) (hb : fn.body = some c) (h : ∀ K, (K.F0 = fun b => b ∈ blks σ) → (∀ d, X d → K.X d []) → Goes P f fn K R [.code c] (argEnv 0 ds) σ) : SpecX P f ds σ R X := by
  intro w p vs hi hv cs
  let b : Frame := { (default : Frame) with fn := f, kind := .normal, roundOf := none }
  have henter : Frame.enter P f vs.toArray .normal = b.atR { tmps := vs.toArray ++ Array.replicate (fn.ntmps - vs.toArray.size) undef, defers := [] } [.code c] := by
    simp [Frame.enter, Frame.atR, hf, hb, b]
  rw [henter]
  suffices hS : Fin none .normal P f (ctxX w p σ X) R (b.atR { tmps := vs.toArray ++ Array.replicate (fn.ntmps - vs.toArray.size) undef, defers := [] } [.code c]) cs w by
    obtain ⟨e, w', fr, h1, h2, h3, h4⟩ := hS
    exact ⟨e, w', fr, h1, h2, h3, h4.normal⟩
  refine h (ctxX w p σ X) rfl (fun d hd => hd) p _ w (hi.of (by rfl) (by rfl) (by rfl)) ?_ ?_ rfl b cs rfl rfl rfl hf
  · intro t d ht
    obtain ⟨_, h2⟩ := qmg ds 0 t d ht
    obtain ⟨v, h3, h4⟩ := hv.at_ h2
    have : (vs.toArray ++ Array.replicate (fn.ntmps - vs.toArray.size) Go.undef).getD t Go.undef = v := by
      have hlt := (List.getElem?_eq_some_iff.1 h3).1
      have h5 : vs[t]? = some v := by simpa using h3
      rw [Array.getD_eq_getD_getElem?, Array.getElem?_append_left (by simpa using hlt)]
      simp [h5]
    rw [this]
    exact h4
  · simp; omega
theorem qcG {c : Code} (env : Env) (hf : P.funcs[f]? = some fn) (hb : fn.body = some c) (he : argEnv 0 ds = env) (h : ∀ K, (K.F0 = fun b => b ∈ blks σ) → (∀ d, X d → K.X d []) → Goes P f fn K R [.code c] env σ) : SpecX P f ds σ R X := qtP hf hb fun K hK hX => he ▸ h K hK hX
theorem qaa {α : Type} {r0 : α} {Q : α → D → St → Prop} {F : Int → D} (h : SpecX P f ds σ (fun d σ' => ∃ r, (Sum.inr r0 : Int ⊕ α) = .inr r ∧ Q r d σ') (fun d => ∃ c, (Sum.inr r0 : Int ⊕ α) = .inl c ∧ d = F c)) : Spec P f ds σ (Q r0) := fun w p vs hi hv =>
  (h w p vs hi hv).mono fun e w' hl => by
    rcases hl with ⟨v, d, σ', q, rfl, ⟨r, hr, hQ⟩, h1, h2⟩ | ⟨v, d, σ', q, rfl, ⟨c, hc, _⟩, _⟩
    · injection hr with hr
      subst hr
      exact .inl ⟨v, d, σ', q, rfl, hQ, h1, h2.of (by rfl) (by rfl) (by rfl)⟩
    · cases hc
theorem q9 {α : Type} {c0 : Int} {Q : α → D → St → Prop} {F : Int → D} (h : SpecX P f ds σ (fun d σ' => ∃ r, (Sum.inl c0 : Int ⊕ α) = .inr r ∧ Q r d σ') (fun d => ∃ c, (Sum.inl c0 : Int ⊕ α) = .inl c ∧ d = F c)) : Dies P f ds σ (F c0) := fun w p vs hi hv =>
  (h w p vs hi hv).mono fun e w' hl => by
    rcases hl with ⟨v, d, σ', q, rfl, ⟨r, hr, hQ⟩, h1, h2⟩ | ⟨v, d, σ', q, rfl, ⟨c, hc, hd⟩, h1, h2⟩
    · cases hr
    · injection hc with hc
      subst hc
      exact .inr ⟨v, d, σ', q, rfl, hd, h1, h2.of (by rfl) (by rfl) (by rfl)⟩
end
def bindX {α β : Type} (x : Option (Int ⊕ α)) (f : α → Option (Int ⊕ β)) : Option (Int ⊕ β) := x.bind fun s => match s with
  | .inl c => some (.inl c)
  | .inr a => f a
theorem bindXS {α β : Type} {x : Option (Int ⊕ α)} {f : α → Option (Int ⊕ β)} {res : Int ⊕ β} (h : bindX x f = some res) : (∃ c, x = some (.inl c) ∧ .inl c = res) ∨ ∃ a, x = some (.inr a) ∧ f a = some res := by
  unfold bindX at h
  cases x with
  | none => cases h
  | some s =>
    cases s with
    | inl c => exact .inl ⟨c, rfl, Option.some.inj h⟩
    | inr a => exact .inr ⟨a, rfl, h⟩
section
variable {P : Program} {o : Oper} {ρ : Operand → Option D} {d : D} {σ : St}
theorem qr8 {x : Operand} {t : TypeId} {d0 : D} (ho : o.op = .panic x) (hx : ρ x = some (.ifc t d0)) : DieS P o ρ σ (.ifc t d0) := fun K p a w hi h => by
  have h1 := h x (by rw [ho]; simp [Op.operands]) _ hx
  have h1' := h1
  simp only [Rep] at h1
  obtain ⟨u, hu, _⟩ := h1
  have hr : (execOp a.eval o).run P w = .halt (.panic (a.eval x)) w := by
    unfold execOp
    rw [ho]
    simp [Instr.panic, hu, goPanic]
  unfold Oper.wp
  rw [hr]
  exact ⟨_, p, rfl, rfl, h1', Inv.less (σ := []) (τ := σ) hi, Grow.refl _ _⟩
theorem qnc {x : Operand} {t : TypeId} {d0 : D} {σ' : St} (τ : St) (ho : o.op = .panic x) (hx : ρ x = some (.ifc t d0)) (hσ : σ.Perm (τ ++ σ')) : DieT P o ρ σ τ (.ifc t d0) := fun K p a w hi h => by
  have h1 := h x (by rw [ho]; simp [Op.operands]) _ hx
  have h1' := h1
  simp only [Rep] at h1
  obtain ⟨u, hu, _⟩ := h1
  have hr : (execOp a.eval o).run P w = .halt (.panic (a.eval x)) w := by
    unfold execOp
    rw [ho]
    simp [Instr.panic, hu, goPanic]
  unfold Oper.wp
  rw [hr]
  exact ⟨_, p, rfl, rfl, h1', Inv.less (σ := τ) (τ := σ') (hi.perm hσ), Grow.refl _ _⟩
theorem qkm {x : Operand} {t : TypeId} {fs : Array Field} (ho : o.op = .makeInterface t x) (ht : P.underlying t = some (.struct fs)) (hx : ρ x = some d) : StepD P o ρ (.ifc t d) := fun σ K p a w hi h => by
  have h1 := h x (by rw [ho]; simp [Op.operands]) _ hx
  have hr : (execOp a.eval o).run P w = .ok (.value (.iface t (a.eval x))) w := by
    unfold execOp
    rw [ho]
    simp [Instr.makeInterface, run_underlying ht]
  unfold Oper.wp
  rw [hr]
  exact ⟨_, _, σ, p, rfl, ⟨rfl, rfl⟩, by simp only [Rep]; exact ⟨_, rfl, h1⟩, hi, Grow.refl _ _⟩
theorem qqK {f : FuncId} {vs : List Value} {σ1 τ : St} {ds : List D} {K : Ctx} {p : Addr → Prop} {a : Act} {w : World} (hi : Inv K p σ w) (hσ : σ.Perm (σ1 ++ τ)) (hS : Dies P f ds σ1 d) (hv : Repl p w ds vs) (hrun : (execOp a.eval o).run P w = .ok (.enter f vs.toArray) w) :
    o.wp P a w (fun _ _ => False) (fun e a' w' => ∃ v p', e = .panic [{ v, recovered := false }] ∧ a' = a ∧ Rep p' w' d v ∧ Inv K p' [] w' ∧ Grow p w p' w') := by
  unfold Oper.wp
  rw [hrun]
  refine (hS w p vs ((hi.perm hσ).enter) hv).mono fun e w' hl => ?_
  rcases hl with ⟨_, _, _, _, _, h, _⟩ | ⟨v, d', σ1', p', rfl, hd, hr, hi'⟩
  · exact h.elim
  · have hd : d' = d := hd
    subst hd
    exact ⟨v, p', rfl, rfl, hr, Inv.less (σ := []) (τ := σ1' ++ τ) ((hi.perm hσ).leave (hi'.of (by rfl) (by rfl) (by rfl))), hi'.gr⟩
theorem qp1 {f : FuncId} {vs : List Value} {σ1 τ : St} {ds : List D} {K : Ctx} {p : Addr → Prop} {a : Act} {w : World} (hi : Inv K p σ w) (hσ : σ.Perm (σ1 ++ τ)) (hS : Dies P f ds σ1 d) (hv : Repl p w ds vs) (hrun : (execOp a.eval o).run P w = .ok (.enter f vs.toArray) w) :
    o.wp P a w (fun _ _ => False) (fun e a' w' => ∃ v p', e = .panic [{ v, recovered := false }] ∧ a' = a ∧ Rep p' w' d v ∧ Inv K p' τ w' ∧ Grow p w p' w') := by
  unfold Oper.wp
  rw [hrun]
  refine (hS w p vs ((hi.perm hσ).enter) hv).mono fun e w' hl => ?_
  rcases hl with ⟨_, _, _, _, _, h, _⟩ | ⟨v, d', σ1', p', rfl, hd, hr, hi'⟩
  · exact h.elim
  · have hd : d' = d := hd
    subst hd
    exact ⟨v, p', rfl, rfl, hr, Inv.less (σ := τ) (τ := σ1') (((hi.perm hσ).leave (hi'.of (by rfl) (by rfl) (by rfl))).perm List.perm_append_comm), hi'.gr⟩
theorem qb5 {f : FuncId} {args : Array Operand} {ats : Array TypeId} {σ1 : St} (τ : St) {ds : List D} (ho : o.op = .call { callee := .value (.func f), args := args, argTypes := ats }) (hf : callee P f) (hO : Opds ρ args.toList ds) (hσ : σ.Perm (σ1 ++ τ)) (hS : Dies P f ds σ1 d) : DieS P o ρ σ d := fun K p a w hi h => by
  have hv := hO.rep (p := p) (w := w) (a := a) fun x hx => h x (by rw [ho]; simp only [Op.operands, Call.operands]; exact Array.mem_append.2 (.inr (by simpa using hx)))
  refine qqK hi hσ hS hv ?_
  unfold execOp
  rw [ho]
  simp only [resolve, Act.eval, Deferred.ofValue, Sem.run_bind, Sem.run_pure, Result.andThen_ok, invoke]
  rw [qf8 hf]
  congr 2
  apply Array.toList_inj.1
  simp
theorem qiF {f : FuncId} {x : Operand} {args : Array Operand} {ats : Array TypeId} {σ1 : St} (τ : St) {ds fs cs all : List D} (ho : o.op = .call { callee := .value x, args := args, argTypes := ats }) (hx : ρ x = some (.clo (.func f) fs cs)) (hf : callee P f) (hO : Opds ρ args.toList ds) (hall : fs ++ ds ++ cs = all) (hσ : σ.Perm (σ1 ++ τ)) (hS : Dies P f all σ1 d) : DieS P o ρ σ d := fun K p a w hi h => by
  have hv := hO.rep (p := p) (w := w) (a := a) fun y hy => h y (by rw [ho]; simp only [Op.operands, Call.operands]; exact Array.mem_append.2 (.inr (by simpa using hy)))
  have h1 := h x (by rw [ho]; simp [Op.operands, Call.operands]) _ hx
  simp only [Rep] at h1
  obtain ⟨fv, cv, h1, h2, h3⟩ := h1
  have hv' : Repl p w all (fv ++ args.toList.map a.eval ++ cv) := by rw [← hall]; exact (h2.app hv).app h3
  refine qqK hi hσ hS hv' ?_
  unfold execOp
  rw [ho]
  simp only [resolve, h1, Deferred.ofValue, Sem.run_bind, Sem.run_pure, Result.andThen_ok, invoke]
  rw [qf8 hf]
  congr 2
  apply Array.toList_inj.1
  simp
theorem qrA {f : FuncId} {args : Array Operand} {ats : Array TypeId} {σ1 : St} (τ : St) {ds : List D} (ho : o.op = .call { callee := .value (.func f), args := args, argTypes := ats }) (hf : callee P f) (hO : Opds ρ args.toList ds) (hσ : σ.Perm (σ1 ++ τ)) (hS : Dies P f ds σ1 d) : DieT P o ρ σ τ d := fun K p a w hi h => by
  have hv := hO.rep (p := p) (w := w) (a := a) fun x hx => h x (by rw [ho]; simp only [Op.operands, Call.operands]; exact Array.mem_append.2 (.inr (by simpa using hx)))
  refine qp1 hi hσ hS hv ?_
  unfold execOp
  rw [ho]
  simp only [resolve, Act.eval, Deferred.ofValue, Sem.run_bind, Sem.run_pure, Result.andThen_ok, invoke]
  rw [qf8 hf]
  congr 2
  apply Array.toList_inj.1
  simp
theorem qpu {f : FuncId} {x : Operand} {args : Array Operand} {ats : Array TypeId} {σ1 : St} (τ : St) {ds fs cs all : List D} (ho : o.op = .call { callee := .value x, args := args, argTypes := ats }) (hx : ρ x = some (.clo (.func f) fs cs)) (hf : callee P f) (hO : Opds ρ args.toList ds) (hall : fs ++ ds ++ cs = all) (hσ : σ.Perm (σ1 ++ τ)) (hS : Dies P f all σ1 d) : DieT P o ρ σ τ d := fun K p a w hi h => by
  have hv := hO.rep (p := p) (w := w) (a := a) fun y hy => h y (by rw [ho]; simp only [Op.operands, Call.operands]; exact Array.mem_append.2 (.inr (by simpa using hy)))
  have h1 := h x (by rw [ho]; simp [Op.operands, Call.operands]) _ hx
  simp only [Rep] at h1
  obtain ⟨fv, cv, h1, h2, h3⟩ := h1
  have hv' : Repl p w all (fv ++ args.toList.map a.eval ++ cv) := by rw [← hall]; exact (h2.app hv).app h3
  refine qp1 hi hσ hS hv' ?_
  unfold execOp
  rw [ho]
  simp only [resolve, h1, Deferred.ofValue, Sem.run_bind, Sem.run_pure, Result.andThen_ok, invoke]
  rw [qf8 hf]
  congr 2
  apply Array.toList_inj.1
  simp
end
inductive Pl where
  | nil
  | cons (i : Nat) (D : List (Nat × Cls)) (next sib : Pl)
def Pl.first : Pl → List (Nat × Cls)
  | .nil => []
  | .cons i D nx _ => (i, .w) :: D ++ nx.first
section
variable {P : Program} {ops : Array Oper} {Q : Env → St → Prop}
end
section
variable {P : Program} {ops : Array Oper} {Q : Env → St → Prop}
end
theorem qdR : Ty Tryz.prog 30 false 1 := ⟨⟨_, Tryz.underlying30, rfl⟩, by kernel_rfl⟩
theorem qeO : ElT Tryz.prog 30 5 1 1 := .of Tryz.underlying30 (by kernel_rfl) (by decide)
theorem qew : Ty Tryz.prog 38 false 1 := ⟨⟨_, Tryz.underlying38, rfl⟩, by kernel_rfl⟩
theorem qcv : ElT Tryz.prog 38 75 5 64 := .of Tryz.underlying38 (by kernel_rfl) (by decide)
theorem qi8 : Ty Tryz.prog 42 false 1 := ⟨⟨_, Tryz.underlying42, rfl⟩, by kernel_rfl⟩
theorem qbh : ElT Tryz.prog 42 123 2 32 := .of Tryz.underlying42 (by kernel_rfl) (by decide)
theorem qcA : Ty Tryz.prog 44 true 7 := ⟨⟨_, Tryz.underlying44, rfl⟩, by kernel_rfl⟩
theorem qd5 : Fld Tryz.prog 44 0 0 := ⟨_, _, 1, Tryz.underlying44, rfl, rfl, by kernel_rfl, by decide⟩
theorem qig : Fld Tryz.prog 44 1 1 := ⟨_, _, 1, Tryz.underlying44, rfl, rfl, by kernel_rfl, by decide⟩
theorem qg1 : Fld Tryz.prog 44 2 2 := ⟨_, _, 1, Tryz.underlying44, rfl, rfl, by kernel_rfl, by decide⟩
theorem qil : Fld Tryz.prog 44 3 3 := ⟨_, _, 1, Tryz.underlying44, rfl, rfl, by kernel_rfl, by decide⟩
theorem qio : Fld Tryz.prog 44 4 4 := ⟨_, _, 1, Tryz.underlying44, rfl, rfl, by kernel_rfl, by decide⟩
theorem qiB : Fld Tryz.prog 44 5 5 := ⟨_, _, 1, Tryz.underlying44, rfl, rfl, by kernel_rfl, by decide⟩
theorem qls : Fld Tryz.prog 44 6 6 := ⟨_, _, 1, Tryz.underlying44, rfl, rfl, by kernel_rfl, by decide⟩
theorem qml : BuildT Tryz.prog 44 [.lst [], .lst [], .lst [], .lst [], .int .i64 0, .int .i64 0, .bool false] := .mk rfl (by kernel_rfl) Tryz.underlying44 (by kernel_rfl)
theorem qha : ZeroV Tryz.prog 44 (.agg [.lst [], .lst [], .lst [], .lst [], .int .i64 0, .int .i64 0, .bool false]) := .agg qml
theorem qaA : Ty Tryz.prog 52 false 1 := ⟨⟨_, Tryz.underlying52, rfl⟩, by kernel_rfl⟩
theorem qaf : ElT Tryz.prog 52 146 4 72 := .of Tryz.underlying52 (by kernel_rfl) (by decide)
theorem qcR : Ty Tryz.prog 53 false 1 := ⟨⟨_, Tryz.underlying53, rfl⟩, by kernel_rfl⟩
theorem qcd : ElT Tryz.prog 53 148 6 112 := .of Tryz.underlying53 (by kernel_rfl) (by decide)
theorem qeX : Ty Tryz.prog 55 true 5 := ⟨⟨_, Tryz.underlying55, rfl⟩, by kernel_rfl⟩
theorem qc2 : Fld Tryz.prog 55 0 0 := ⟨_, _, 1, Tryz.underlying55, rfl, rfl, by kernel_rfl, by decide⟩
theorem qcp : Fld Tryz.prog 55 1 1 := ⟨_, _, 1, Tryz.underlying55, rfl, rfl, by kernel_rfl, by decide⟩
theorem qdi : Fld Tryz.prog 55 2 2 := ⟨_, _, 1, Tryz.underlying55, rfl, rfl, by kernel_rfl, by decide⟩
theorem qih : Fld Tryz.prog 55 3 3 := ⟨_, _, 1, Tryz.underlying55, rfl, rfl, by kernel_rfl, by decide⟩
theorem qgZ : Fld Tryz.prog 55 4 4 := ⟨_, _, 1, Tryz.underlying55, rfl, rfl, by kernel_rfl, by decide⟩
theorem qo4 : BuildT Tryz.prog 55 [.lst [], .lst [], .lst [], .int .i64 0, .int .i64 0] := .mk rfl (by kernel_rfl) Tryz.underlying55 (by kernel_rfl)
theorem qe4 : Ty Tryz.prog 75 true 5 := ⟨⟨_, Tryz.underlying75, rfl⟩, by kernel_rfl⟩
theorem qe1 : Fld Tryz.prog 75 0 0 := ⟨_, _, 3, Tryz.underlying75, rfl, rfl, by kernel_rfl, by decide⟩
theorem qfT : Fld Tryz.prog 75 1 3 := ⟨_, _, 1, Tryz.underlying75, rfl, rfl, by kernel_rfl, by decide⟩
theorem qgE : Fld Tryz.prog 75 2 4 := ⟨_, _, 1, Tryz.underlying75, rfl, rfl, by kernel_rfl, by decide⟩
theorem qlx : BuildT Tryz.prog 75 [.agg [.int .i64 0, .str ⟨#[]⟩, .lst []], .int .i64 0, .int .i64 0] := .mk rfl (by kernel_rfl) Tryz.underlying75 (by kernel_rfl)
theorem qlt : ZeroV Tryz.prog 75 (.agg [.agg [.int .i64 0, .str ⟨#[]⟩, .lst []], .int .i64 0, .int .i64 0]) := .agg qlx
theorem qO : Ty Tryz.prog 76 false 1 := ⟨⟨_, Tryz.underlying76, rfl⟩, by kernel_rfl⟩
theorem qaQ : Fld Tryz.prog 78 0 0 := ⟨_, _, 1, Tryz.underlying78, rfl, rfl, by kernel_rfl, by decide⟩
theorem qG : Fld Tryz.prog 78 1 1 := ⟨_, _, 1, Tryz.underlying78, rfl, rfl, by kernel_rfl, by decide⟩
theorem qim : BuildT Tryz.prog 78 [.lst [], .bool false] := .mk rfl (by kernel_rfl) Tryz.underlying78 (by kernel_rfl)
theorem qad : Ty Tryz.prog 92 false 1 := ⟨⟨_, Tryz.underlying92, rfl⟩, by kernel_rfl⟩
theorem qgS : Ty Tryz.prog 123 true 2 := ⟨⟨_, Tryz.underlying123, rfl⟩, by kernel_rfl⟩
theorem qfR : Fld Tryz.prog 123 0 0 := ⟨_, _, 1, Tryz.underlying123, rfl, rfl, by kernel_rfl, by decide⟩
theorem qcb : Fld Tryz.prog 123 1 1 := ⟨_, _, 1, Tryz.underlying123, rfl, rfl, by kernel_rfl, by decide⟩
theorem qnD : BuildT Tryz.prog 123 [.int .i64 0, .lst []] := .mk rfl (by kernel_rfl) Tryz.underlying123 (by kernel_rfl)
theorem qnB : ZeroV Tryz.prog 123 (.agg [.int .i64 0, .lst []]) := .agg qnD
theorem qcH : Ty Tryz.prog 146 true 4 := ⟨⟨_, Tryz.underlying146, rfl⟩, by kernel_rfl⟩
theorem qeY : Fld Tryz.prog 146 0 0 := ⟨_, _, 1, Tryz.underlying146, rfl, rfl, by kernel_rfl, by decide⟩
theorem qeJ : Fld Tryz.prog 146 1 1 := ⟨_, _, 2, Tryz.underlying146, rfl, rfl, by kernel_rfl, by decide⟩
theorem qda : Fld Tryz.prog 146 2 3 := ⟨_, _, 1, Tryz.underlying146, rfl, rfl, by kernel_rfl, by decide⟩
theorem qnP : BuildT Tryz.prog 146 [.int .i64 0, .agg [.str ⟨#[]⟩, .lst []], .lst []] := .mk rfl (by kernel_rfl) Tryz.underlying146 (by kernel_rfl)
theorem qgq : ZeroV Tryz.prog 146 (.agg [.int .i64 0, .agg [.str ⟨#[]⟩, .lst []], .lst []]) := .agg qnP
theorem qgF : Ty Tryz.prog 148 true 6 := ⟨⟨_, Tryz.underlying148, rfl⟩, by kernel_rfl⟩
theorem qhG : Fld Tryz.prog 148 0 0 := ⟨_, _, 1, Tryz.underlying148, rfl, rfl, by kernel_rfl, by decide⟩
theorem qed : Fld Tryz.prog 148 1 1 := ⟨_, _, 1, Tryz.underlying148, rfl, rfl, by kernel_rfl, by decide⟩
theorem qfk : Fld Tryz.prog 148 2 2 := ⟨_, _, 1, Tryz.underlying148, rfl, rfl, by kernel_rfl, by decide⟩
theorem qea : Fld Tryz.prog 148 3 3 := ⟨_, _, 1, Tryz.underlying148, rfl, rfl, by kernel_rfl, by decide⟩
theorem qlh : Fld Tryz.prog 148 4 4 := ⟨_, _, 1, Tryz.underlying148, rfl, rfl, by kernel_rfl, by decide⟩
theorem qhH : Fld Tryz.prog 148 5 5 := ⟨_, _, 1, Tryz.underlying148, rfl, rfl, by kernel_rfl, by decide⟩
theorem qn7 : BuildT Tryz.prog 148 [.int .i64 0, .lst [], .lst [], .lst [], .bool false, .lst []] := .mk rfl (by kernel_rfl) Tryz.underlying148 (by kernel_rfl)
theorem qlZ : ZeroV Tryz.prog 148 (.agg [.int .i64 0, .lst [], .lst [], .lst [], .bool false, .lst []]) := .agg qn7
theorem qjp : Ty Tryz.prog 191 true 1 := ⟨⟨_, Tryz.underlying191, rfl⟩, by kernel_rfl⟩
theorem qiO : Fld Tryz.prog 191 0 0 := ⟨_, _, 1, Tryz.underlying191, rfl, rfl, by kernel_rfl, by decide⟩
theorem qee : BuildT Tryz.prog 191 [.int .i64 0] := .mk rfl (by kernel_rfl) Tryz.underlying191 (by kernel_rfl)
theorem qjo : ZeroV Tryz.prog 191 (.agg [.int .i64 0]) := .agg qee
theorem qhp : Fld Tryz.prog 194 0 0 := ⟨_, _, 1, Tryz.underlying194, rfl, rfl, by kernel_rfl, by decide⟩
theorem qeM : Fld Tryz.prog 194 1 1 := ⟨_, _, 1, Tryz.underlying194, rfl, rfl, by kernel_rfl, by decide⟩
theorem qjP : BuildT Tryz.prog 194 [.lst [], .int .i64 0] := .mk rfl (by kernel_rfl) Tryz.underlying194 (by kernel_rfl)
theorem qbS : callee Tryz.prog 10 := ⟨_, _, Tryz.func10, rfl, by decide⟩
theorem qjt : callee Tryz.prog 11 := ⟨_, _, Tryz.func11, rfl, by decide⟩
theorem qkW : callee Tryz.prog 12 := ⟨_, _, Tryz.func12, rfl, by decide⟩
theorem qgc : callee Tryz.prog 14 := ⟨_, _, Tryz.func14, rfl, by decide⟩
theorem qkd : callee Tryz.prog 16 := ⟨_, _, Tryz.func16, rfl, by decide⟩
theorem qix : callee Tryz.prog 17 := ⟨_, _, Tryz.func17, rfl, by decide⟩
theorem qlp : callee Tryz.prog 19 := ⟨_, _, Tryz.func19, rfl, by decide⟩
theorem qlq : callee Tryz.prog 22 := ⟨_, _, Tryz.func22, rfl, by decide⟩
theorem qkq : callee Tryz.prog 23 := ⟨_, _, Tryz.func23, rfl, by decide⟩
theorem qid : callee Tryz.prog 24 := ⟨_, _, Tryz.func24, rfl, by decide⟩
theorem qip : callee Tryz.prog 25 := ⟨_, _, Tryz.func25, rfl, by decide⟩
theorem qz : callee Tryz.prog 34 := ⟨_, _, Tryz.func34, rfl, by decide⟩
theorem qjV : callee Tryz.prog 35 := ⟨_, _, Tryz.func35, rfl, by decide⟩
theorem qlD : callee Tryz.prog 36 := ⟨_, _, Tryz.func36, rfl, by decide⟩
theorem qfb : callee Tryz.prog 37 := ⟨_, _, Tryz.func37, rfl, by decide⟩
theorem qjW : callee Tryz.prog 38 := ⟨_, _, Tryz.func38, rfl, by decide⟩
theorem qks : callee Tryz.prog 39 := ⟨_, _, Tryz.func39, rfl, by decide⟩
theorem qge : callee Tryz.prog 40 := ⟨_, _, Tryz.func40, rfl, by decide⟩
theorem qiT : callee Tryz.prog 46 := ⟨_, _, Tryz.func46, rfl, by decide⟩
theorem qhB : callee Tryz.prog 47 := ⟨_, _, Tryz.func47, rfl, by decide⟩
theorem qhA : callee Tryz.prog 48 := ⟨_, _, Tryz.func48, rfl, by decide⟩
theorem qgT : callee Tryz.prog 49 := ⟨_, _, Tryz.func49, rfl, by decide⟩
theorem qbG : callee Tryz.prog 50 := ⟨_, _, Tryz.func50, rfl, by decide⟩
theorem qp : callee Tryz.prog 51 := ⟨_, _, Tryz.func51, rfl, by decide⟩
theorem qhE : callee Tryz.prog 52 := ⟨_, _, Tryz.func52, rfl, by decide⟩
theorem qh0 : callee Tryz.prog 53 := ⟨_, _, Tryz.func53, rfl, by decide⟩
theorem qkr : callee Tryz.prog 56 := ⟨_, _, Tryz.func56, rfl, by decide⟩
theorem qke : callee Tryz.prog 57 := ⟨_, _, Tryz.func57, rfl, by decide⟩
theorem qjL : callee Tryz.prog 58 := ⟨_, _, Tryz.func58, rfl, by decide⟩
theorem qjT : callee Tryz.prog 59 := ⟨_, _, Tryz.func59, rfl, by decide⟩
theorem qjX : callee Tryz.prog 60 := ⟨_, _, Tryz.func60, rfl, by decide⟩
theorem qlR : callee Tryz.prog 61 := ⟨_, _, Tryz.func61, rfl, by decide⟩
theorem qf2 : callee Tryz.prog 62 := ⟨_, _, Tryz.func62, rfl, by decide⟩
theorem qj0 : callee Tryz.prog 63 := ⟨_, _, Tryz.func63, rfl, by decide⟩
theorem qlY : callee Tryz.prog 64 := ⟨_, _, Tryz.func64, rfl, by decide⟩
theorem qf7 : callee Tryz.prog 66 := ⟨_, _, Tryz.func66, rfl, by decide⟩
theorem qjZ : callee Tryz.prog 67 := ⟨_, _, Tryz.func67, rfl, by decide⟩
theorem qlU : callee Tryz.prog 68 := ⟨_, _, Tryz.func68, rfl, by decide⟩
theorem qc1 : callee Tryz.prog 69 := ⟨_, _, Tryz.func69, rfl, by decide⟩
theorem qlf : callee Tryz.prog 70 := ⟨_, _, Tryz.func70, rfl, by decide⟩
theorem qi4 : callee Tryz.prog 76 := ⟨_, _, Tryz.func76, rfl, by decide⟩
theorem qh6 : callee Tryz.prog 77 := ⟨_, _, Tryz.func77, rfl, by decide⟩
theorem qhl : callee Tryz.prog 78 := ⟨_, _, Tryz.func78, rfl, by decide⟩
theorem qhq : callee Tryz.prog 79 := ⟨_, _, Tryz.func79, rfl, by decide⟩
theorem qht : callee Tryz.prog 80 := ⟨_, _, Tryz.func80, rfl, by decide⟩
theorem qh8 : callee Tryz.prog 81 := ⟨_, _, Tryz.func81, rfl, by decide⟩
theorem qhD : callee Tryz.prog 82 := ⟨_, _, Tryz.func82, rfl, by decide⟩
theorem qhg : callee Tryz.prog 83 := ⟨_, _, Tryz.func83, rfl, by decide⟩
theorem qfi : callee Tryz.prog 84 := ⟨_, _, Tryz.func84, rfl, by decide⟩
theorem qhw : callee Tryz.prog 85 := ⟨_, _, Tryz.func85, rfl, by decide⟩
theorem qhk : callee Tryz.prog 86 := ⟨_, _, Tryz.func86, rfl, by decide⟩
theorem qgY : callee Tryz.prog 87 := ⟨_, _, Tryz.func87, rfl, by decide⟩
theorem qia : callee Tryz.prog 88 := ⟨_, _, Tryz.func88, rfl, by decide⟩
theorem qjU : callee Tryz.prog 95 := ⟨_, _, Tryz.func95, rfl, by decide⟩
theorem qkH : callee Tryz.prog 97 := ⟨_, _, Tryz.func97, rfl, by decide⟩
theorem qk0 : callee Tryz.prog 98 := ⟨_, _, Tryz.func98, rfl, by decide⟩
theorem qkB : callee Tryz.prog 99 := ⟨_, _, Tryz.func99, rfl, by decide⟩
theorem qko : callee Tryz.prog 100 := ⟨_, _, Tryz.func100, rfl, by decide⟩
theorem qh3 : callee Tryz.prog 101 := ⟨_, _, Tryz.func101, rfl, by decide⟩
theorem qj9 : callee Tryz.prog 102 := ⟨_, _, Tryz.func102, rfl, by decide⟩
theorem qfp : callee Tryz.prog 103 := ⟨_, _, Tryz.func103, rfl, by decide⟩
theorem qf0 : callee Tryz.prog 104 := ⟨_, _, Tryz.func104, rfl, by decide⟩
theorem qhF : callee Tryz.prog 105 := ⟨_, _, Tryz.func105, rfl, by decide⟩
theorem qkj : callee Tryz.prog 106 := ⟨_, _, Tryz.func106, rfl, by decide⟩
theorem qi6 : callee Tryz.prog 107 := ⟨_, _, Tryz.func107, rfl, by decide⟩
theorem qjF : callee Tryz.prog 108 := ⟨_, _, Tryz.func108, rfl, by decide⟩
theorem qgi : callee Tryz.prog 117 := ⟨_, _, Tryz.func117, rfl, by decide⟩
theorem qji : callee Tryz.prog 131 := ⟨_, _, Tryz.func131, rfl, by decide⟩
theorem qld : callee Tryz.prog 132 := ⟨_, _, Tryz.func132, rfl, by decide⟩
theorem qhv : callee Tryz.prog 133 := ⟨_, _, Tryz.func133, rfl, by decide⟩
theorem qhy : callee Tryz.prog 134 := ⟨_, _, Tryz.func134, rfl, by decide⟩
theorem qhY : callee Tryz.prog 135 := ⟨_, _, Tryz.func135, rfl, by decide⟩
theorem qo6 : callee Tryz.prog 140 := ⟨_, _, Tryz.func140, rfl, by decide⟩
theorem qdu : callee Tryz.prog 141 := ⟨_, _, Tryz.func141, rfl, by decide⟩
theorem qpk : callee Tryz.prog 142 := ⟨_, _, Tryz.func142, rfl, by decide⟩
theorem qeU : callee Tryz.prog 143 := ⟨_, _, Tryz.func143, rfl, by decide⟩
theorem qfd : callee Tryz.prog 144 := ⟨_, _, Tryz.func144, rfl, by decide⟩
theorem qeZ : callee Tryz.prog 145 := ⟨_, _, Tryz.func145, rfl, by decide⟩
theorem qfe : callee Tryz.prog 146 := ⟨_, _, Tryz.func146, rfl, by decide⟩
theorem qeS : callee Tryz.prog 152 := ⟨_, _, Tryz.func152, rfl, by decide⟩
theorem qhu : callee Tryz.prog 154 := ⟨_, _, Tryz.func154, rfl, by decide⟩
theorem qlW : callee Tryz.prog 155 := ⟨_, _, Tryz.func155, rfl, by decide⟩
theorem qiQ : callee Tryz.prog 156 := ⟨_, _, Tryz.func156, rfl, by decide⟩
theorem qdr : callee Tryz.prog 161 := ⟨_, _, Tryz.func161, rfl, by decide⟩
theorem qiX : callee Tryz.prog 162 := ⟨_, _, Tryz.func162, rfl, by decide⟩
theorem qgB : callee Tryz.prog 163 := ⟨_, _, Tryz.func163, rfl, by decide⟩
theorem qo0 : callee Tryz.prog 164 := ⟨_, _, Tryz.func164, rfl, by decide⟩
theorem qjM : callee Tryz.prog 168 := ⟨_, _, Tryz.func168, rfl, by decide⟩
theorem qka : callee Tryz.prog 174 := ⟨_, _, Tryz.func174, rfl, by decide⟩
theorem qgm : callee Tryz.prog 175 := ⟨_, _, Tryz.func175, rfl, by decide⟩
theorem qiG : callee Tryz.prog 178 := ⟨_, _, Tryz.func178, rfl, by decide⟩
theorem qkZ : callee Tryz.prog 183 := ⟨_, _, Tryz.func183, rfl, by decide⟩
theorem qhV : callee Tryz.prog 184 := ⟨_, _, Tryz.func184, rfl, by decide⟩
theorem qhr : callee Tryz.prog 185 := ⟨_, _, Tryz.func185, rfl, by decide⟩
theorem qeR : callee Tryz.prog 186 := ⟨_, _, Tryz.func186, rfl, by decide⟩
theorem qlJ : callee Tryz.prog 187 := ⟨_, _, Tryz.func187, rfl, by decide⟩
theorem qhs : callee Tryz.prog 205 := ⟨_, _, Tryz.func205, rfl, by decide⟩
theorem qhj : callee Tryz.prog 206 := ⟨_, _, Tryz.func206, rfl, by decide⟩
theorem qgz : callee Tryz.prog 210 := ⟨_, _, Tryz.func210, rfl, by decide⟩
theorem qkv : callee Tryz.prog 219 := ⟨_, _, Tryz.func219, rfl, by decide⟩
theorem qgH : callee Tryz.prog 224 := ⟨_, _, Tryz.func224, rfl, by decide⟩
theorem qj8 : callee Tryz.prog 225 := ⟨_, _, Tryz.func225, rfl, by decide⟩
theorem qli : callee Tryz.prog 241 := ⟨_, _, Tryz.func241, rfl, by decide⟩
theorem qiy : callee Tryz.prog 243 := ⟨_, _, Tryz.func243, rfl, by decide⟩
end Go.Proofs.YtdoljfkjdfaakaaGreat
