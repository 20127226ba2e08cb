/-
  Texts of the seat, merged.
-/
import Derived.Test.YtdoljfkjdfaakaaGreatLTA
import Derived.Test.YtdoljfkjdfaakaaGreatLTB
import Derived.Test.YtdoljfkjdfaakaaGreatLTC
import Derived.Test.YtdoljfkjdfaakaaGreatLTD
import Derived.Test.YtdoljfkjdfaakaaGreatLTE
import Derived.Test.YtdoljfkjdfaakaaGreatLTF
import Derived.Test.YtdoljfkjdfaakaaGreatChecked
import Derived.WalkKit
import Derived.Lib.Hide
import Derived.Lib.AppendStr
import Derived.Deep.AppendLies
import Derived.Deep.AppendSrc
import Derived.Deep.Draws
import Derived.Deep.QuietTactic
import Derived.BigQuiet
import Derived.Deep.RegionWith
import Derived.Maps.AppendAt
import Derived.WalkSpells
import Derived.Orders
import Derived.Deep.Slices
import Derived.Deep.Fields
import Derived.ChangeArms
import Derived.Lib.OthersKept
import Derived.Lib.TrimU
import Derived.Lib.IndexAny
import Derived.Deep.LoopGhost
import Derived.Lib.Bytealg
import Derived.RangeFuncBox
import Derived.RangeFuncNested
import Derived.RangeFuncBound
import Derived.RangeFuncCalls
import Derived.RangeFuncLeaves
import Derived.Shelf.Abstract
import Derived.OwnWalkIn
import Derived.TacticsInMore
import Derived.LoopNIn
import Derived.LoopIn
import Derived.RangeFuncWrites
import Derived.Maps.OwnIn
import Derived.Maps.Views
import Derived.Laws.OwnMore
import Derived.Maps.OwnSet
import Derived.Laws.IdiomStrings
import Derived.Test.YtdoljfkjdfaakaaGreatRows
import Derived.ProofKit
import Derived.OpenShut
import Derived.Carry
import Derived.OrdersIn
import Derived.Great.BuildSlice
import Derived.ArgAppend
import Derived.Laws.MakeOwn
import Derived.Laws.Cover3
import Derived.Laws.CopyRow
import Derived.MapKept
import Derived.Maps.RangeRun
import Derived.DeepKeys5
import Derived.WideKeyRuns
import Derived.RangeFuncOwn
import Derived.Defers
import Derived.Recover
import Derived.Tactics
import Derived.Tactics2
set_option linter.unusedVariables false
set_option linter.unusedSimpArgs false
set_option linter.unnecessarySimpa false
set_option linter.all false
namespace Go.Proofs.YtdoljfkjdfaakaaGreat
set_option maxRecDepth 100000
open Go.RowKit
section
variable {m : Md} {P : Program} {f : FuncId} {fn : Func} {K : Ctx} {R : D → St → Prop} {k : List Item} {env : Env} {σ : St}
theorem qmp {P : Program} {fr : Frame} {w : World} {e : Ending} (h : fr.leaving P w e) : LeavesAs .normal P fr w e := by
  cases e with
  | returned v => exact h
  | panicked c => exact h
  | outgrown => trivial
def OutD (m : Md) (P : Program) (fn : Func) (K : Ctx) (R : D → St → Prop) (env : Env) (d : D) (τ : St) : Prop := ∀ (p : Addr → Prop) (a : Act) (w : World) (v : Value), Inv K p τ w → RelEnv p w env a → Rep p w d v → Leaves P fn a.tmps (Left K R) m.marks (.panicking [{ v, recovered := false }]) w
theorem qqL {id : Nat} {ops : Array Oper} {dr : Bool} {Q : Env → St → Prop} {X : Env → D → St → Prop} (hrd : m.rd = none) (hkd : m.kd = .normal) (h : ∀ (p : Addr → Prop) (a : Act) (w : World), Inv K p σ w → RelEnv p w env a → fn.ntmps ≤ a.tmps.size → a.defers = m.marks → (Code.region id ops dr).wpIn (fw m.rd) 0 P (EndsR P K fn.ntmps m X Q) a w)
    (hX : ∀ e d τ, X e d τ → OutD m P fn K R e d τ) (hq : ∀ env' σ', Q env' σ' → GoesG m P f fn K R k env' σ') : GoesG m P f fn K R (.code (.region id ops dr) :: k) env σ := fun p a w hi hr hn hd b cs hb hk hro hf => by
  obtain ⟨e, a', w', hE, harr⟩ := h p a w hi hr hn hd b k cs (hro.trans (qnn _).symm) (qnI _ _) (qoQ _ _)
  rcases hE with ⟨rfl, env', σ', p', q, i1, i2, i3, i4⟩ | ⟨v, d, τ, p', env', rfl, hx, hv, hi', hr', hd'⟩
  · exact .of_steps (qlk harr) (hq env' σ' q p' a' w' i1 i2 i3 i4 b cs hb hk hro hf)
  · obtain ⟨todo, hs⟩ := harr
    obtain ⟨e, w'', fr', h1, h2, h3, h4⟩ := leaves_steps (P := P) (fn := fn) m.marks (.panicking [{ v, recovered := false }]) w' { b.atR a' todo with mode := .panicking [{ v, recovered := false }] } cs rfl hd' rfl (by rw [← hb] at hf; exact hf) (hk.trans hkd) (hX env' d τ hx p' a' w' v hi' hr' hv)
    refine .of_steps (qlk hs) ?_
    rw [hrd, hkd]
    exact ⟨e, w'', fr', h1, h2, h3.trans hb, qmp h4⟩
theorem qf4 (hrd : m.rd = none) (hkd : m.kd = .normal) {id : Nat} {l : List Oper} (hok : okOps l.toArray fn.ntmps = true) (ord : List (Nat × Cls)) (ho : ord.map (·.1) = List.range l.length)
    (h : Run P l.toArray (OutD m P fn K R) (GoesG m P f fn K R k) ord env σ) : GoesG m P f fn K R (.code (.region id l.toArray false) :: k) env σ :=
  qqL hrd hkd (Q := GoesG m P f fn K R k) (X := OutD m P fn K R) (fun p a w hi hr hn hd => by
    refine wpIn_region ?_
    have := qmf (K := K) (m := m) (X := OutD m P fn K R) (fun _ _ _ _ => hrd) hok ord env σ a w h ⟨p, hi, hr, hn, hd⟩
    rw [ho] at this
    simpa using this) (fun _ _ _ h => h) (fun _ _ h => h)
theorem qqJ (hrd : m.rd = none) (hkd : m.kd = .normal) (h : ∀ (p : Addr → Prop) (a : Act) (w : World), Inv K p σ w → RelEnv p w env a → Leaves P fn a.tmps (Left K R) m.marks .returning w) : GoesG m P f fn K R (.code .ret :: k) env σ := fun p a w hi hr hn hd b cs hb hk hro hf => by
  obtain ⟨e, w'', fr', h1, h2, h3, h4⟩ := leaves_steps (P := P) (fn := fn) m.marks .returning w { b.atR a (.code .ret :: k) with mode := .returning } cs rfl hd rfl (by rw [← hb] at hf; exact hf) (hk.trans hkd) (h p a w hi hr)
  refine .of_steps (.one (stepR_ret (hro.trans hrd))) ?_
  rw [hrd, hkd]
  exact ⟨e, w'', fr', h1, h2, h3.trans hb, qmp h4⟩
theorem qnD {id t s1 s2 : Nat} {g : FuncId} {b1 b2 : Nat} {o1 o2 : Oper} (hrd : m.rd = none) (ho1 : o1.op = .makeFunc (.func g) #[] #[.tmp s1, .tmp s2]) (hd1 : o1.dst = some t) (hg1 : o1.guard = none) (ho2 : o2.op = .defer { callee := .value (.tmp t), args := #[], argTypes := #[] }) (hd2 : o2.dst = none) (hg2 : o2.guard = none)
    (h1 : lk env s1 = some (.ref b1 0 [])) (h2 : lk env s2 = some (.ref b2 0 [])) (ht : t < fn.ntmps)
    (h : GoesG { m with ds := { target := .fn (.func g) #[.pointer (some ⟨b1, 0, none⟩), .pointer (some ⟨b2, 0, none⟩)], args := #[] } :: m.ds } P f fn K R k ((t, .clo (.func g) [] [.ref b1 0 [], .ref b2 0 []]) :: env) σ) :
    GoesG m P f fn K R (.code (.region id #[o1, o2] false) :: k) env σ := fun p a w hi hr hn hd b cs hb hk hro hf => by
  have v1 := hr s1 _ h1
  have v2 := hr s2 _ h2
  simp only [Rep] at v1 v2
  have hs : t < a.tmps.size := Nat.lt_of_lt_of_le ht hn
  have arr : (Code.region id #[o1, o2] false).wpIn (fw m.rd) 0 P (fun e a' w' => e = .normal ∧ w' = w ∧ a' = { tmps := a.tmps.setIfInBounds t (.func (.func g) #[] #[.pointer (some ⟨b1, 0, none⟩), .pointer (some ⟨b2, 0, none⟩)]), defers := { target := .fn (.func g) #[.pointer (some ⟨b1, 0, none⟩), .pointer (some ⟨b2, 0, none⟩)], args := #[] } :: a.defers }) a w := by
    rw [hrd]
    refine wpIn_region ?_
    simp only [List.size_toArray, List.length_cons, List.length_nil, List.range_succ, List.range_zero, List.nil_append, List.cons_append]
    simp only [wpOpsIn, List.getElem?_toArray, List.getElem?_cons_zero, List.getElem?_cons_succ, Region.wanted, hg1, hg2, if_true]
    refine qkm ?_
    unfold Oper.wp
    have r1 : (execOp a.eval o1).run P w = .ok (.value (.func (.func g) #[] #[.pointer (some ⟨b1, 0, none⟩), .pointer (some ⟨b2, 0, none⟩)])) w := by
      unfold execOp
      rw [ho1]
      simp [Instr.makeFunc, Act.eval, v1, v2]
    rw [r1, Oper.upon_value, hd1]
    refine qkm ?_
    unfold Oper.wp
    have r2 : (execOp (a.put (some t) (.func (.func g) #[] #[.pointer (some ⟨b1, 0, none⟩), .pointer (some ⟨b2, 0, none⟩)])).eval o2).run P w = .ok (.defer { target := .fn (.func g) #[.pointer (some ⟨b1, 0, none⟩), .pointer (some ⟨b2, 0, none⟩)], args := #[] }) w := by
      unfold execOp
      rw [ho2]
      simp [resolve, Deferred.ofValue, Act.eval, Act.put, hs]
    rw [r2, Oper.upon_defer, hd2]
    exact ⟨trivial, rfl, rfl⟩
  obtain ⟨e, a', w', ⟨rfl, rfl, rfl⟩, harr⟩ := arr b k cs (hro.trans (qnn _).symm) (qnI _ _) (qoQ _ _)
  refine .of_steps (qlk harr) (h p _ w' hi (fun s d hsd => ?_) (by simpa using hn) (by simp [Md.marks, hd]) b cs hb hk hro hf)
  rw [qfA] at hsd
  by_cases hst : t = s
  · subst hst
    rw [if_pos rfl] at hsd
    injection hsd with hsd
    subst hsd
    simp only [Rep, Repl]
    exact ⟨[], [.pointer (some ⟨b1, 0, none⟩), .pointer (some ⟨b2, 0, none⟩)], by simp [hs], rfl, _, _, rfl, rfl, _, _, rfl, rfl, rfl⟩
  · rw [if_neg hst] at hsd
    have := hr s d hsd
    simpa [Array.getElem?_setIfInBounds_ne hst] using this
end
section
variable {P : Program}
theorem qm5 (u u1 : FrameMode) {v : Value} (hrec : ∀ (c₀ : Frame) (cs : List Frame), c₀.mode = u → recoverD (c₀ :: cs) = some (v, { c₀ with mode := u1 } :: cs) ∨ (recoverD (c₀ :: cs) = none ∧ v = .nilIface ∧ ({ c₀ with mode := u1 } : Frame) = c₀)) {g : FuncId} {fn : Func} {id : Nat} {o1 o2 : Oper} {c1 : Code} {b1 b2 tr td : Nat} {d : D} {K : Ctx} {R : D → St → Prop} {σ : St} {p : Addr → Prop} {w : World}
    (hf : P.funcs[g]? = some fn) (hb : fn.body = some (.seq (.region id #[o1, o2] false) c1)) (h1 : o1.op = .call { callee := .builtin .recover, args := #[], argTypes := #[] }) (hd1 : o1.dst = some tr) (hg1 : o1.guard = none) (h2 : o2.op = .assign (.tmp tr)) (hd2 : o2.dst = some td) (hg2 : o2.guard = none)
    (ht : tr < fn.ntmps) (ht2 : td < fn.ntmps) (hne : 2 ≤ tr) (hne2 : 2 ≤ td) (hi : Inv K p σ w) (hv : Rep p w d v)
    (h : ∀ K', GoesG ⟨none, [], [], .deferred⟩ P g fn K' R [.code c1] [(td, d), (tr, d), (0, .ref b1 0 []), (1, .ref b2 0 [])] σ) :
    CallsD P g #[.pointer (some ⟨b1, 0, none⟩), .pointer (some ⟨b2, 0, none⟩)] u w fun e u' w' => u' = u1 ∧ Left { K with X := fun _ _ => False } R e w' := by
  intro c₀ cs hu
  let b : Frame := { (default : Frame) with fn := g, kind := .deferred, roundOf := none }
  let a0 : Act := { tmps := #[.pointer (some ⟨b1, 0, none⟩), .pointer (some ⟨b2, 0, none⟩)] ++ Array.replicate (fn.ntmps - 2) undef, defers := [] }
  let a1 : Act := { tmps := (a0.tmps.setIfInBounds tr v).setIfInBounds td v, defers := [] }
  have hsz : a0.tmps.size = fn.ntmps := by
    simp only [a0, Array.size_append, Array.size_replicate]
    show 2 + (fn.ntmps - 2) = _
    omega
  have henter : Frame.enter P g #[.pointer (some ⟨b1, 0, none⟩), .pointer (some ⟨b2, 0, none⟩)] .deferred = b.at a0 [.code (.seq (.region id #[o1, o2] false) c1)] := by
    simp [Frame.enter, Frame.at, hf, hb, b, a0]
  have hreg : (Code.region id #[o1, o2] false).wpS P (fun e a' cs' w' => e = .normal ∧ a' = a1 ∧ cs' = { c₀ with mode := u1 } :: cs ∧ w' = w) a0 (c₀ :: cs) w := by
    apply wpS_region
    have r1 : (execOp a0.eval o1).run P w = .ok .recover w := by
      unfold execOp
      rw [h1]
      simp [resolve, invoke, go_sem]
    have r2 : (execOp (a0.put (some tr) v).eval o2).run P w = .ok (.value v) w := by
      unfold execOp
      rw [h2]
      simp [Act.eval, Act.put, hsz, ht]
    simp only [List.size_toArray, List.length_cons, List.length_nil, List.range_succ, List.range_zero, List.nil_append, List.cons_append]
    rcases hrec c₀ cs hu with hr | ⟨hr, rfl, he⟩
    · simp only [wpOpsS, List.getElem?_toArray, List.getElem?_cons_zero, List.getElem?_cons_succ, Region.wanted, hg1, hg2, if_true, r1, hr, hd1, r2, hd2, Oper.upon_value]
      exact ⟨trivial, rfl, trivial, trivial⟩
    · rw [he]
      simp only [wpOpsS, List.getElem?_toArray, List.getElem?_cons_zero, List.getElem?_cons_succ, Region.wanted, hg1, hg2, if_true, r1, hr, hd1, r2, hd2, Oper.upon_value]
      exact ⟨trivial, rfl, trivial, trivial⟩
  obtain ⟨e, a', cs', w', ⟨rfl, rfl, rfl, rfl⟩, harr⟩ := hreg b [.code c1] rfl rfl
  have hrel : RelEnv p w' [(td, d), (tr, d), (0, .ref b1 0 []), (1, .ref b2 0 [])] a1 := by
    have hset : ∀ (l : Array Value) (i : Nat) (x : Value) (j : Nat), (l.setIfInBounds i x).getD j undef = if i = j ∧ i < l.size then x else l.getD j undef := fun l i x j => by
      simp only [Array.getD_eq_getD_getElem?, Array.getElem?_setIfInBounds]
      by_cases hij : i = j
      · subst hij
        by_cases hl : i < l.size
        · simp [hl]
        · simp [hl]
      · simp [hij]
    intro t d' hd'
    simp only [qfA] at hd'
    show Rep p w' d' (((a0.tmps.setIfInBounds tr v).setIfInBounds td v).getD t undef)
    rw [hset, hset, Array.size_setIfInBounds, hsz]
    by_cases e1 : td = t
    · rw [if_pos e1] at hd'
      injection hd' with hd'
      subst hd'
      rw [if_pos ⟨e1, ht2⟩]
      exact hv
    · rw [if_neg e1] at hd'
      rw [if_neg fun h => e1 h.1]
      by_cases e2 : tr = t
      · rw [if_pos e2] at hd'
        injection hd' with hd'
        subst hd'
        rw [if_pos ⟨e2, ht⟩]
        exact hv
      · rw [if_neg e2] at hd'
        rw [if_neg fun h => e2 h.1]
        have h01 : t = 0 ∨ t = 1 := by
          by_cases e3 : 0 = t
          · exact .inl e3.symm
          · rw [if_neg e3] at hd'
            by_cases e4 : 1 = t
            · exact .inr e4.symm
            · rw [if_neg e4] at hd'
              cases hd'
        rcases h01 with rfl | rfl
        · rw [if_pos rfl] at hd'
          injection hd' with hd'
          subst hd'
          simp only [Rep]
          show (#[Value.pointer (some ⟨b1, 0, none⟩), Value.pointer (some ⟨b2, 0, none⟩)] ++ Array.replicate (fn.ntmps - 2) undef).getD _ undef = _
          rw [Array.getD_eq_getD_getElem?, Array.getElem?_append_left (by simp)]
          rfl
        · rw [if_neg (by decide), if_pos rfl] at hd'
          injection hd' with hd'
          subst hd'
          simp only [Rep]
          show (#[Value.pointer (some ⟨b1, 0, none⟩), Value.pointer (some ⟨b2, 0, none⟩)] ++ Array.replicate (fn.ntmps - 2) undef).getD _ undef = _
          rw [Array.getD_eq_getD_getElem?, Array.getElem?_append_left (by simp)]
          rfl
  obtain ⟨e, w2, fr, q1, q2, q3, q4⟩ := h { K with X := fun _ _ => False } p a1 w' (hi.of (by rfl) (by rfl) (by rfl)) hrel (by simp [a1, hsz]) (by simp [a1, Md.marks]) b ({ c₀ with mode := u1 } :: cs) rfl rfl rfl hf
  rw [Frame.atR_of_none rfl] at q2
  refine ⟨e, _, w2, fr, ⟨rfl, q1⟩, ?_, ?_⟩
  · rw [henter]
    exact Comes.of_steps (.head step_seq harr) q2
  · rcases q1 with ⟨v', d', σ', q, rfl, _⟩ | ⟨_, _, _, _, _, hx, _⟩
    · obtain ⟨q5, q6, q7, q8⟩ := q4
      exact ⟨q7, q5, q6, q8⟩
    · exact hx.elim
variable {o : Oper} {ρ : Operand → Option D} {d : D}
theorem qlz {v : Value} {g : FuncId} {fn : Func} {id : Nat} {o1 o2 : Oper} {c1 : Code} {b1 b2 tr td : Nat} {d : D} {K : Ctx} {R : D → St → Prop} {σ : St} {p : Addr → Prop} {w : World}
    (hf : P.funcs[g]? = some fn) (hb : fn.body = some (.seq (.region id #[o1, o2] false) c1)) (h1 : o1.op = .call { callee := .builtin .recover, args := #[], argTypes := #[] }) (hd1 : o1.dst = some tr) (hg1 : o1.guard = none) (h2 : o2.op = .assign (.tmp tr)) (hd2 : o2.dst = some td) (hg2 : o2.guard = none)
    (ht : tr < fn.ntmps) (ht2 : td < fn.ntmps) (hne : 2 ≤ tr) (hne2 : 2 ≤ td) (hi : Inv K p σ w) (hv : Rep p w d v)
    (h : ∀ K', GoesG ⟨none, [], [], .deferred⟩ P g fn K' R [.code c1] [(td, d), (tr, d), (0, .ref b1 0 []), (1, .ref b2 0 [])] σ) :
    CallsD P g #[.pointer (some ⟨b1, 0, none⟩), .pointer (some ⟨b2, 0, none⟩)] (.panicking [{ v, recovered := false }]) w fun e u' w' => u' = .panicking [{ v, recovered := true }] ∧ Left { K with X := fun _ _ => False } R e w' :=
  qm5 _ _ (fun c₀ cs hu => .inl (by simp [recoverD, hu])) hf hb h1 hd1 hg1 h2 hd2 hg2 ht ht2 hne hne2 hi hv h
theorem qk1 {g : FuncId} {fn : Func} {id : Nat} {o1 o2 : Oper} {c1 : Code} {b1 b2 tr td : Nat} {K : Ctx} {R : D → St → Prop} {σ : St} {p : Addr → Prop} {w : World}
    (hf : P.funcs[g]? = some fn) (hb : fn.body = some (.seq (.region id #[o1, o2] false) c1)) (h1 : o1.op = .call { callee := .builtin .recover, args := #[], argTypes := #[] }) (hd1 : o1.dst = some tr) (hg1 : o1.guard = none) (h2 : o2.op = .assign (.tmp tr)) (hd2 : o2.dst = some td) (hg2 : o2.guard = none)
    (ht : tr < fn.ntmps) (ht2 : td < fn.ntmps) (hne : 2 ≤ tr) (hne2 : 2 ≤ td) (hi : Inv K p σ w)
    (h : ∀ K', GoesG ⟨none, [], [], .deferred⟩ P g fn K' R [.code c1] [(td, .nili), (tr, .nili), (0, .ref b1 0 []), (1, .ref b2 0 [])] σ) :
    CallsD P g #[.pointer (some ⟨b1, 0, none⟩), .pointer (some ⟨b2, 0, none⟩)] .returning w fun e u' w' => u' = .returning ∧ Left { K with X := fun _ _ => False } R e w' :=
  qm5 .returning .returning (v := .nilIface) (fun c₀ cs hu => .inr ⟨by simp [recoverD, hu], rfl, by cases c₀; simp_all⟩) hf hb h1 hd1 hg1 h2 hd2 hg2 ht ht2 hne hne2 hi (by simp only [Rep]) h
theorem qmk {x : Operand} {ty t' : TypeId} (ho : o.op = .binOp .neq ty x (.const .nilIface) t') (hx : ρ x = some .nili) (hr : ∀ (w : World), (Op.equal ty .nilIface .nilIface).run P w = .ok true w) : StepD P o ρ (.bool false) := qdd fun p a w h => by
  have h1 := h x (by rw [ho]; simp [Op.operands]) _ hx
  simp only [Rep] at h1
  refine ⟨.bool false, ?_, by simp only [Rep]⟩
  unfold execOp
  rw [ho]
  have e1 : eqGuard .neq ty x (.const .nilIface) .nilIface .nilIface = pure () := by
    unfold eqGuard
    simp
  have e2 : binOp .neq ty .nilIface .nilIface = (do pure (.bool (!(← Op.equal ty .nilIface .nilIface)))) := rfl
  have e3 : a.eval (.const .nilIface) = .nilIface := rfl
  simp [h1, e3, e1, e2, hr]
theorem qmC {x y : Operand} {t ty : TypeId} {t' : TypeId} (ho : o.op = .binOp .neq ty x y t') (hx : ρ x = some (.ifc t d)) (hy : ρ y = some .nili) (hr : ∀ (v : Value) (w : World), (Op.equal ty (.iface t v) .nilIface).run P w = .ok false w) : StepD P o ρ (.bool true) := qdd fun p a w h => by
  have h1 := h x (by rw [ho]; simp [Op.operands]) _ hx
  have h2 := h y (by rw [ho]; simp [Op.operands]) _ hy
  simp only [Rep] at h1 h2
  obtain ⟨v, h1, _⟩ := h1
  refine ⟨.bool true, ?_, by simp only [Rep]⟩
  unfold execOp
  rw [ho]
  have e1 : eqGuard .neq ty x y (.iface t v) .nilIface = pure () := rfl
  have e2 : binOp .neq ty (.iface t v) .nilIface = (do pure (.bool (!(← Op.equal ty (.iface t v) .nilIface)))) := rfl
  simp [h1, h2, e1, e2, hr]
theorem qmB {x : Operand} {tx t : TypeId} (ho : o.op = .typeAssert x tx t true) (hr : ∀ (v : Value) (w : World), (Instr.typeAssert (.iface t v) tx t true).run P w = .ok (.tuple #[v, .bool true]) w) (hx : ρ x = some (.ifc t d)) : StepD P o ρ (.tup [d, .bool true]) := qdd fun p a w h => by
  have h1 := h x (by rw [ho]; simp [Op.operands]) _ hx
  simp only [Rep] at h1
  obtain ⟨v, h1, h2⟩ := h1
  refine ⟨.tuple #[v, .bool true], ?_, ?_⟩
  · unfold execOp
    rw [ho]
    simp [h1, hr]
  · simp only [Rep, Repl]
    exact ⟨[v, .bool true], rfl, _, _, rfl, h2, _, _, rfl, rfl, rfl⟩
end
section
variable {m : Md} {P : Program} {f : FuncId} {fn : Func} {K : Ctx} {R : D → St → Prop} {k : List Item} {env : Env} {σ : St}
theorem qm4 (_ : P.funcs[f]? = some fn) (ds : List D) (hds : ResDs P env σ fn.results.toList ds) (hR : R (packD ds) σ) : GoesG ⟨none, [], [], .deferred⟩ P f fn K R [] env σ := fun p a w hi hr hn hd b cs hb hk hro hf => by
  obtain ⟨e, h1, h2, h3⟩ := qoJ (R := R) hi hr hd hf hds hR b hb hk []
  refine ⟨e, w, { b.atR a [] with mode := .returning }, h1, ?_, hb, h2⟩
  cases e with
  | returned v => exact Steps.one (stepR_end hro)
  | panicked c => exact Steps.one (stepR_end hro)
  | outgrown => exact absurd rfl h3
theorem qov {g : FuncId} {b1 b2 s1 s2 : Nat} {d : D} {σ' : St} {ds : List D} (hm : m.marks = [{ target := .fn (.func g) #[.pointer (some ⟨b1, 0, none⟩), .pointer (some ⟨b2, 0, none⟩)], args := #[] }]) (hg : callee P g)
    (hrec : ∀ (p : Addr → Prop) (w : World) (v : Value), Inv K p σ w → Rep p w d v → CallsD P g #[.pointer (some ⟨b1, 0, none⟩), .pointer (some ⟨b2, 0, none⟩)] (.panicking [{ v, recovered := false }]) w fun e u' w' => u' = .panicking [{ v, recovered := true }] ∧ Left { K with X := fun _ _ => False } (fun d σ'' => d = .tup [] ∧ σ'' = σ') e w')
    (hres : ResDs P [(s1, .ref b1 0 []), (s2, .ref b2 0 [])] σ' fn.results.toList ds) (hR : R (packD ds) σ') (h1 : lk env s1 = some (.ref b1 0 [])) (h2 : lk env s2 = some (.ref b2 0 [])) : OutD m P fn K R env d σ := fun p a w v hi hr hv => by
  rw [hm]
  refine leaves_cons (f := g) (args := #[.pointer (some ⟨b1, 0, none⟩), .pointer (some ⟨b2, 0, none⟩)]) (by simp) ?_ ?_
  · simp only [invoke]
    rw [qfD hg]
    congr 2
  · refine (hrec p w v hi hv).mono ?_
    rintro e u' w' ⟨rfl, hl⟩
    rcases hl with ⟨v', d', σ'', q, rfl, ⟨rfl, rfl⟩, hv', hi'⟩ | ⟨_, _, _, _, rfl, hx, _⟩
    · have hrel : RelEnv q w' [(s1, .ref b1 0 []), (s2, .ref b2 0 [])] a := fun t d ht => by
        rw [qfA] at ht
        split at ht
        · rename_i e
          subst e
          injection ht with ht
          subst ht
          have := hr _ _ h1
          simp only [Rep] at this ⊢
          exact this
        · rw [qfA] at ht
          split at ht
          · rename_i e
            subst e
            injection ht with ht
            subst ht
            have := hr _ _ h2
            simp only [Rep] at this ⊢
            exact this
          · cases ht
      have hi'' : Inv K q σ'' w' := hi'.of (by rfl) (by rfl) (by rfl)
      obtain ⟨v2, h3, h4⟩ := qkG hi'' hrel hres
      exact ⟨v2, h3, .inl ⟨v2, _, _, q, rfl, hR, h4, hi''⟩⟩
    · exact hx.elim
theorem qlv {g : FuncId} {b1 b2 s1 s2 : Nat} {ds : List D} (hm : m.marks = [{ target := .fn (.func g) #[.pointer (some ⟨b1, 0, none⟩), .pointer (some ⟨b2, 0, none⟩)], args := #[] }]) (hg : callee P g)
    (hidle : ∀ (p : Addr → Prop) (w : World), Inv K p σ w → CallsD P g #[.pointer (some ⟨b1, 0, none⟩), .pointer (some ⟨b2, 0, none⟩)] .returning w fun e u' w' => u' = .returning ∧ Left { K with X := fun _ _ => False } (fun d σ' => d = .tup [] ∧ σ' = σ) e w')
    (h1 : lk env s1 = some (.ref b1 0 [])) (h2 : lk env s2 = some (.ref b2 0 []))
    (hres : ResDs P [(s1, .ref b1 0 []), (s2, .ref b2 0 [])] σ fn.results.toList ds) (hR : R (packD ds) σ) (p : Addr → Prop) (a : Act) (w : World) (hi : Inv K p σ w) (hr : RelEnv p w env a) : Leaves P fn a.tmps (Left K R) m.marks .returning w := by
  rw [hm]
  refine leaves_cons (f := g) (args := #[.pointer (some ⟨b1, 0, none⟩), .pointer (some ⟨b2, 0, none⟩)]) (by simp) ?_ ?_
  · simp only [invoke]
    rw [qfD hg]
    congr 2
  · refine (hidle p w hi).mono ?_
    rintro e u' w' ⟨rfl, hl⟩
    rcases hl with ⟨v', d', σ'', q, rfl, ⟨rfl, rfl⟩, hv', hi'⟩ | ⟨_, _, _, _, rfl, hx, _⟩
    · have hrel : RelEnv q w' [(s1, .ref b1 0 []), (s2, .ref b2 0 [])] a := fun t d ht => by
        rw [qfA] at ht
        split at ht
        · rename_i e
          subst e
          injection ht with ht
          subst ht
          have := hr _ _ h1
          simp only [Rep] at this ⊢
          exact this
        · rw [qfA] at ht
          split at ht
          · rename_i e
            subst e
            injection ht with ht
            subst ht
            have := hr _ _ h2
            simp only [Rep] at this ⊢
            exact this
          · cases ht
      have hi'' : Inv K q _ w' := hi'.of (by rfl) (by rfl) (by rfl)
      obtain ⟨v2, h3, h4⟩ := qkG hi'' hrel hres
      exact ⟨v2, h3, .inl ⟨v2, _, _, q, rfl, hR, h4, hi''⟩⟩
    · exact hx.elim
end
theorem qlu (v : Value) (w : World) : (Instr.typeAssert (.iface 191 v) 20 191 true).run Tryz.prog w = .ok (.tuple #[v, .bool true]) w := by
  kernel_rfl
def wholeR {α : Type} (z : α) (r : Int ⊕ (α × Int)) : α × Int := match r with
  | .inl c => (z, c)
  | .inr x => x
/-! ### Program -/
def qgX : qad := ⟨[], []⟩
theorem qol (v : Value) (w : World) : (Op.equal 20 (.iface 191 v) .nilIface).run Tryz.prog w = .ok false w := rfl
set_option maxHeartbeats 1000000 in
theorem qoT {K : Ctx} (b8 b9 : Nat) (c c_0 : Int) (c_1 : qad) (p : Addr → Prop) (w : World) (v : Value) (hi : Inv K p [.cell b9 (.int .i64 c_0), .cell b8 (qS c_1)] w) (hv : Rep p w (.ifc 191 (.agg [.int .i64 c])) v) :
    CallsD Tryz.prog 139 #[.pointer (some ⟨b8, 0, none⟩), .pointer (some ⟨b9, 0, none⟩)] (.panicking [{ v, recovered := false }]) w fun e u' w' => u' = .panicking [{ v, recovered := true }] ∧ Left { K with X := fun _ _ => False } (fun d σ => d = .tup [] ∧ σ = [.cell b9 (.int .i64 c), .cell b8 (qS qgX)]) e w' := by
  refine qlz Tryz.func139 rfl rfl rfl rfl rfl rfl rfl (by decide) (by decide) (by decide) (by decide) hi hv fun K' => ?_
  refine qk (qkH (by kernel_rfl) [(0, .d), (1, .d)] rfl (r_d rfl rfl rfl (qe rfl rfl) (r_d rfl rfl rfl (qmC rfl rfl rfl qol) (ql (qC rfl (qk (qkH (by kernel_rfl) [(0, .d), (1, .d), (2, .d), (3, .d), (4, .d), (5, .w), (6, .w), (7, .d)] rfl (r_d rfl rfl rfl (qe rfl rfl) (r_d rfl rfl rfl (qmB rfl qlu rfl) (r_d rfl rfl rfl (qe rfl rfl) (r_d rfl rfl rfl (qaz rfl rfl rfl) ?_)))))))))))
  refine r_d rfl rfl rfl (qaz rfl rfl rfl) (r_w rfl rfl rfl (qau rfl qhd) ?_)
  rintro _ _ ⟨b3_0, rfl, rfl⟩
  refine qaa rfl rfl rfl (qK _ rfl rfl rfl (Wk.refl _) (pf0 _) (by exact qha) rfl rfl rfl) (r_d rfl rfl rfl (qj rfl rfl) (ql (qap 3 b3_0 rfl (pf0 _) (qk (qk (qkH (by kernel_rfl) [(0, .d), (1, .d)] rfl (r_d rfl rfl rfl (qe rfl rfl) (r_d rfl rfl rfl (qfZ rfl rfl) (ql (qB rfl (qab ?_)))))))))))
  refine qk (qkH (by kernel_rfl) [(0, .w)] rfl (r_w rfl rfl rfl (qau rfl qdI) ?_))
  rintro _ _ ⟨b5_2, rfl, rfl⟩
  refine ql (ga [(0, .r), (1, .d), (2, .d), (3, .w), (4, .w)] (r_r rfl rfl rfl (qx rfl rfl (.head _) rfl rfl (by exact qaK) rfl) (r_d rfl rfl rfl (qp rfl qgk rfl rfl rfl rfl) (r_d rfl rfl rfl (qw rfl rfl (by exact qaj) rfl) (qaa rfl rfl rfl (qK _ rfl rfl rfl (Wk.refl _) (pf2 _ _ _ _) (by exact qaK) rfl (qbq _) rfl) (qaa rfl rfl rfl (qK _ rfl rfl rfl (Wk.refl _) (pf2 _ _ _ _) (by exact qaj) rfl rfl rfl) (ql (qar [_, _] _ ((pf1 _ _ _).trans (pf1 _ _ _)) (qm4 Tryz.func139 _ .nil ?_)))))))))
  exact ⟨rfl, rfl⟩
theorem qog {K : Ctx} {σ : St} (b8 b9 : Nat) (p : Addr → Prop) (w : World) (hi : Inv K p σ w) :
    CallsD Tryz.prog 139 #[.pointer (some ⟨b8, 0, none⟩), .pointer (some ⟨b9, 0, none⟩)] .returning w fun e u' w' => u' = .returning ∧ Left { K with X := fun _ _ => False } (fun d σ' => d = .tup [] ∧ σ' = σ) e w' := by
  refine qk1 Tryz.func139 rfl rfl rfl rfl rfl rfl rfl (by decide) (by decide) (by decide) (by decide) hi fun K' => ?_
  refine qk (qkH (by kernel_rfl) [(0, .d), (1, .d)] rfl (r_d rfl rfl rfl (qe rfl rfl) (r_d rfl rfl rfl (qmk rfl rfl fun _ => rfl) (ql (qB rfl (qab (qm4 Tryz.func139 _ .nil ?_)))))))
  exact ⟨rfl, rfl⟩
theorem qjq : callee Tryz.prog 139 := ⟨_, _, Tryz.func139, rfl, by decide⟩
noncomputable def qg7 (fuel : Nat) (b_a0 : (List Int)) (first_a1 : Int) : Option (Int ⊕ (qad × Int)) :=
  (bindX (qq first_a1 first_a1 (⟨b_a0, 0⟩ : qb)) fun r_4 =>
  (bindX (qcu fuel r_4.2) fun r_5 =>
  (bif (decide (r_5.2.f1_at < (b_a0.length : Int))) then
  some (.inl 3)
  else
  ((qbX fuel r_5.1).bind fun r_8 =>
  (bif ((r_8.length : Int) == (0 : Int)) then
  some (.inl 2)
  else
  some (.inr (r_5.1, 0)))))))
set_option maxHeartbeats 2000000 in
theorem qlR (fuel : Nat) (b_a0 : (List Int)) (first_a1 : Int) (res : Int ⊕ (qad × Int)) (hr : qg7 fuel b_a0 first_a1 = some res) : Gives Tryz.prog 46 [.lst (b_a0.map (D.int .u8)), .int .i64 first_a1, .clo (.func 47) [] [], .clo (.func 11) [] []] (.tup [qS (wholeR qgX res).1, .int .i64 (wholeR qgX res).2]) := by
  unfold qg7 at hr
  refine qag [(0, .lst (b_a0.map (D.int .u8))), (1, .int .i64 first_a1), (2, .clo (.func 47) [] []), (3, .clo (.func 11) [] [])] Tryz.func46 rfl rfl fun K hK => (qk (gr [.w, .w] (r_w rfl rfl rfl (qau rfl qdI) ?_)))
  rintro _ _ ⟨b8_0, rfl, rfl⟩
  refine r_w rfl rfl rfl (qau rfl qks) ?_
  rintro _ _ ⟨b9_1, rfl, rfl⟩
  refine ql (qk (qnD rfl rfl rfl rfl rfl rfl rfl rfl rfl (by decide) ?_))
  have hX : ∀ (e : Env) (c : Int), res = .inl c → lk e 8 = some (.ref b8_0 0 []) → lk e 9 = some (.ref b9_1 0 []) → OutD { Md.top with ds := { target := .fn (.func 139) #[.pointer (some ⟨b8_0, 0, none⟩), .pointer (some ⟨b9_1, 0, none⟩)], args := #[] } :: Md.top.ds } Tryz.prog Tryz.f46 K (fun d' _ => d' = .tup [qS (wholeR qgX res).1, .int .i64 (wholeR qgX res).2]) e (.ifc 191 (.agg [.int .i64 c])) [.cell b9_1 (.int .i64 0), .cell b8_0 (qS qgX)] := fun e c hc h8 h9 => by
    refine qov (s1 := 8) (s2 := 9) (ds := [qS qgX, .int .i64 c]) rfl qjq (fun p w v hi hv => qoT b8_0 b9_1 c 0 qgX p w v hi hv) (.cons (resRef rfl (.tail _ (.head _)) (by exact qaK) (qbq _) (Wk.refl _)) (.cons (resRef rfl (.head _) (by exact qaj) rfl (Wk.refl _)) .nil)) ?_ h8 h9
    rw [hc]
    rfl
  refine qk (qf4 rfl rfl (by kernel_rfl) [(0, .d), (1, .d), (2, .w), (3, .d)] rfl (r_d rfl rfl rfl (qe rfl rfl) (r_d rfl rfl rfl (qbT rfl qhy (.oc rfl .nil) (.cons rfl rfl rfl (.nil _))) (r_w rfl rfl rfl (qid rfl rfl rfl) ?_))))
  rintro _ _ ⟨b15_2, rfl, rfl⟩
  refine r_d rfl rfl rfl (qj rfl rfl) (ql (qk (qf4 rfl rfl (by kernel_rfl) [(0, .d), (1, .d), (2, .d), (3, .w)] rfl (r_d rfl rfl rfl (qe rfl rfl) (r_d rfl rfl rfl (qe rfl rfl) (r_d rfl rfl rfl (qe rfl rfl) ?_))))))
  rcases bindXS hr with ⟨c_r_4, hr_4, rfl⟩ | ⟨r_4, hr_4, hr⟩
  ·
   refine qb1 rfl rfl (qnt _ rfl qn (.oc rfl (.oc rfl (.oc rfl .nil))) (by exact (pf0 _)) (qN (qm _ _ _ _ _ hr_4))) (hX _ _ rfl rfl rfl)
  ·
   refine r_w rfl rfl rfl (qF _ rfl qn (.oc rfl (.oc rfl (.oc rfl .nil))) (by exact (pf0 _)) (qO (qm _ _ _ _ _ hr_4))) ?_
   rintro _ _ ⟨_, ⟨rfl, rfl⟩, rfl⟩
   refine r_st ((.cell b15_2 (qc r_4.2)) :: _) rfl (ql (qk (qf4 rfl rfl (by kernel_rfl) [(0, .d), (1, .d), (2, .w), (3, .w), (4, .w)] rfl (r_d rfl rfl rfl (qe rfl rfl) (r_d rfl rfl rfl (qe rfl rfl) ?_)))))
   rcases bindXS hr with ⟨c_r_5, hr_5, rfl⟩ | ⟨r_5, hr_5, hr⟩
   ·
    refine qb1 rfl rfl (qmw _ rfl rfl qgT (.oc rfl .nil) rfl (by exact (pf0 _)) (qN (qga fuel _ _ _ hr_5))) (hX _ _ rfl rfl rfl)
   ·
    refine r_w rfl rfl rfl (qd9 _ rfl rfl qgT (.oc rfl .nil) rfl (by exact (pf0 _)) (qO (qga fuel _ _ _ hr_5))) ?_
    rintro _ _ ⟨_, ⟨rfl, rfl⟩, rfl⟩
    refine r_st ((.cell b15_2 (qc r_5.2)) :: _) rfl (r_w rfl rfl rfl (qau rfl qdI) ?_)
    rintro _ _ ⟨b11_5, rfl, rfl⟩
    refine qaa rfl rfl rfl (qK _ rfl rfl rfl (Wk.refl _) (pf0 _) (by exact qaK) (qbq _) rfl rfl) (ql (qap 11 b11_5 rfl (pf0 _) (qk (qbi (qk (qf4 rfl rfl (by kernel_rfl) [(0, .d), (1, .d), (2, .d), (3, .r), (4, .d), (5, .d), (6, .d), (7, .d)] rfl (r_d rfl rfl rfl (qe rfl rfl) (r_d rfl rfl rfl (qv rfl rfl) (r_d rfl rfl rfl (qo rfl qdE rfl) (r_r rfl rfl rfl (qx rfl rfl (.head _) rfl rfl (by exact qaF) rfl) (r_d rfl rfl rfl (qe rfl rfl) ?_)))))))))))
    refine r_d rfl rfl rfl (qbP (f := (D.int .u8)) b_a0 rfl qb9 rfl (asl rfl)) (r_d rfl rfl rfl (qX rfl rfl rfl rfl) (r_d rfl rfl rfl (qj rfl rfl) (ql ?_)))
    refine g_sB 23 rfl hr (fun h23_6 hr => ?_) (fun h23_6 hr => ?_)
    ·
     refine qC rfl (qf4 rfl rfl (by kernel_rfl) [(0, .d), (1, .d), (2, .w)] rfl (r_d rfl rfl rfl (qbT rfl qc8 (.oc rfl .nil) (.cons rfl rfl rfl (.nil _))) (r_d rfl rfl rfl (qhS rfl Tryz.underlying191 rfl) ?_)))
     obtain rfl := Option.some.inj hr
     refine qb1 rfl rfl (qku _ rfl rfl (List.perm_append_comm (l₁ := [_]) (l₂ := [_, _]))) (hX _ _ rfl rfl rfl)
    ·
     refine qB rfl (qk (qf4 rfl rfl (by kernel_rfl) [(0, .d), (1, .d), (2, .d), (3, .d), (4, .d), (5, .d)] rfl (r_d rfl rfl rfl (qe rfl rfl) (r_d rfl rfl rfl (qw rfl rfl (by exact qaK) (qbq _)) ?_))))
     obtain ⟨r_8, hr_8, hr⟩ := bindS hr
     refine r_d rfl rfl rfl (qno rfl rfl qg9 (.oc rfl .nil) rfl (qhc fuel _ _ hr_8)) (r_d rfl rfl rfl (qbP (f := (D.int .u8)) r_8 rfl qb9 rfl (asl rfl)) (r_d rfl rfl rfl (qX rfl rfl rfl rfl) (r_d rfl rfl rfl (qj rfl rfl) (ql ?_))))
     refine g_sB 33 rfl hr (fun h33_8 hr => ?_) (fun h33_8 hr => ?_)
     ·
      refine qC rfl (qf4 rfl rfl (by kernel_rfl) [(0, .d), (1, .d), (2, .w)] rfl (r_d rfl rfl rfl (qbT rfl qc8 (.oc rfl .nil) (.cons rfl rfl rfl (.nil _))) (r_d rfl rfl rfl (qhS rfl Tryz.underlying191 rfl) ?_)))
      obtain rfl := Option.some.inj hr
      refine qb1 rfl rfl (qku _ rfl rfl (List.perm_append_comm (l₁ := [_]) (l₂ := [_, _]))) (hX _ _ rfl rfl rfl)
     ·
      refine qB rfl (qab (qac (qk (qf4 rfl rfl (by kernel_rfl) [(0, .d), (1, .w), (2, .w)] rfl (r_d rfl rfl rfl (qw rfl rfl (by exact qaK) (qbq _)) (qaa rfl rfl rfl (qK _ rfl rfl rfl (Wk.refl _) (pf2 _ _ _ _) (by exact qaK) (qbq _) rfl rfl) (qaa rfl rfl rfl (qK _ rfl rfl rfl (Wk.refl _) (pf2 _ _ _ _) (by exact qaj) rfl rfl rfl) (ql ?_))))))))
      obtain rfl := Option.some.inj hr
      exact qqJ rfl rfl fun p a w hi hr => qlv (ds := [_, _]) rfl qjq (fun p w hi => qog _ _ p w hi) (s1 := 8) (s2 := 9) rfl rfl (.cons (resRef rfl (.tail _ (.head _)) (by exact qaK) (qbq _) (Wk.refl _)) (.cons (resRef rfl (.head _) (by exact qaj) rfl (Wk.refl _)) .nil)) rfl p a w hi hr
noncomputable def qfv (fuel : Nat) (b : List Int) (n : Int) : Option (qad × Int) := (qg7 fuel b n).bind fun r => some (wholeR qgX r)
theorem qlH (fuel : Nat) (b : List Int) (n : Int) (res : qad × Int) (hr : qfv fuel b n = some res) : Gives Tryz.prog 46 [.lst (b.map (D.int .u8)), .int .i64 n, .clo (.func 47) [] [], .clo (.func 11) [] []] (.tup [qS res.1, .int .i64 res.2]) := by
  obtain ⟨r, h1, h2⟩ := bindS hr
  rw [← Option.some.inj h2]
  exact qlR fuel b n r h1
/-! ### Config -/
def qhM : qai := ⟨[], [], [], [], 0, 0, false⟩
theorem qoz (v : Value) (w : World) : (Op.equal 20 (.iface 191 v) .nilIface).run Tryz.prog w = .ok false w := rfl
set_option maxHeartbeats 1000000 in
theorem qqb {K : Ctx} (b8 b9 : Nat) (c c_0 : Int) (c_1 : qai) (p : Addr → Prop) (w : World) (v : Value) (hi : Inv K p [.cell b9 (.int .i64 c_0), .cell b8 (qbl c_1)] w) (hv : Rep p w (.ifc 191 (.agg [.int .i64 c])) v) :
    CallsD Tryz.prog 160 #[.pointer (some ⟨b8, 0, none⟩), .pointer (some ⟨b9, 0, none⟩)] (.panicking [{ v, recovered := false }]) w fun e u' w' => u' = .panicking [{ v, recovered := true }] ∧ Left { K with X := fun _ _ => False } (fun d σ => d = .tup [] ∧ σ = [.cell b9 (.int .i64 c), .cell b8 (qbl qhM)]) e w' := by
  refine qlz Tryz.func160 rfl rfl rfl rfl rfl rfl rfl (by decide) (by decide) (by decide) (by decide) hi hv fun K' => ?_
  refine qk (qkH (by kernel_rfl) [(0, .d), (1, .d)] rfl (r_d rfl rfl rfl (qe rfl rfl) (r_d rfl rfl rfl (qmC rfl rfl rfl qoz) (ql (qC rfl (qk (qkH (by kernel_rfl) [(0, .d), (1, .d), (2, .d), (3, .d), (4, .d), (5, .w), (6, .w), (7, .d)] rfl (r_d rfl rfl rfl (qe rfl rfl) (r_d rfl rfl rfl (qmB rfl qlu rfl) (r_d rfl rfl rfl (qe rfl rfl) (r_d rfl rfl rfl (qaz rfl rfl rfl) ?_)))))))))))
  refine r_d rfl rfl rfl (qaz rfl rfl rfl) (r_w rfl rfl rfl (qau rfl qhd) ?_)
  rintro _ _ ⟨b3_0, rfl, rfl⟩
  refine qaa rfl rfl rfl (qK _ rfl rfl rfl (Wk.refl _) (pf0 _) (by exact qha) rfl rfl rfl) (r_d rfl rfl rfl (qj rfl rfl) (ql (qap 3 b3_0 rfl (pf0 _) (qk (qk (qkH (by kernel_rfl) [(0, .d), (1, .d)] rfl (r_d rfl rfl rfl (qe rfl rfl) (r_d rfl rfl rfl (qfZ rfl rfl) (ql (qB rfl (qab ?_)))))))))))
  refine qk (qkH (by kernel_rfl) [(0, .w)] rfl (r_w rfl rfl rfl (qau rfl qeP) ?_))
  rintro _ _ ⟨b5_2, rfl, rfl⟩
  refine ql (ga [(0, .r), (1, .d), (2, .d), (3, .w), (4, .w)] (r_r rfl rfl rfl (qx rfl rfl (.head _) rfl rfl (by exact qbc) rfl) (r_d rfl rfl rfl (qp rfl qgk rfl rfl rfl rfl) (r_d rfl rfl rfl (qw rfl rfl (by exact qaj) rfl) (qaa rfl rfl rfl (qK _ rfl rfl rfl (Wk.refl _) (pf2 _ _ _ _) (by exact qbc) rfl (qbO _) rfl) (qaa rfl rfl rfl (qK _ rfl rfl rfl (Wk.refl _) (pf2 _ _ _ _) (by exact qaj) rfl rfl rfl) (ql (qar [_, _] _ ((pf1 _ _ _).trans (pf1 _ _ _)) (qm4 Tryz.func160 _ .nil ?_)))))))))
  exact ⟨rfl, rfl⟩
theorem qpb {K : Ctx} {σ : St} (b8 b9 : Nat) (p : Addr → Prop) (w : World) (hi : Inv K p σ w) :
    CallsD Tryz.prog 160 #[.pointer (some ⟨b8, 0, none⟩), .pointer (some ⟨b9, 0, none⟩)] .returning w fun e u' w' => u' = .returning ∧ Left { K with X := fun _ _ => False } (fun d σ' => d = .tup [] ∧ σ' = σ) e w' := by
  refine qk1 Tryz.func160 rfl rfl rfl rfl rfl rfl rfl (by decide) (by decide) (by decide) (by decide) hi fun K' => ?_
  refine qk (qkH (by kernel_rfl) [(0, .d), (1, .d)] rfl (r_d rfl rfl rfl (qe rfl rfl) (r_d rfl rfl rfl (qmk rfl rfl fun _ => rfl) (ql (qB rfl (qab (qm4 Tryz.func160 _ .nil ?_)))))))
  exact ⟨rfl, rfl⟩
theorem qke : callee Tryz.prog 160 := ⟨_, _, Tryz.func160, rfl, by decide⟩
noncomputable def qhm (fuel : Nat) (b_a0 : (List Int)) (first_a1 : Int) : Option (Int ⊕ (qai × Int)) :=
  (bindX (qq first_a1 first_a1 (⟨b_a0, 0⟩ : qb)) fun r_4 =>
  (bindX (qc3 fuel r_4.2) fun r_5 =>
  (bif (decide (r_5.2.f1_at < (b_a0.length : Int))) then
  some (.inl 3)
  else
  ((qbW fuel r_5.1).bind fun r_8 =>
  (bif ((r_8.length : Int) == (0 : Int)) then
  some (.inl 2)
  else
  some (.inr (r_5.1, 0)))))))
set_option maxHeartbeats 2000000 in
theorem qms (fuel : Nat) (b_a0 : (List Int)) (first_a1 : Int) (res : Int ⊕ (qai × Int)) (hr : qhm fuel b_a0 first_a1 = some res) : Gives Tryz.prog 76 [.lst (b_a0.map (D.int .u8)), .int .i64 first_a1, .clo (.func 77) [] [], .clo (.func 17) [] []] (.tup [qbl (wholeR qhM res).1, .int .i64 (wholeR qhM res).2]) := by
  unfold qhm at hr
  refine qag [(0, .lst (b_a0.map (D.int .u8))), (1, .int .i64 first_a1), (2, .clo (.func 77) [] []), (3, .clo (.func 17) [] [])] Tryz.func76 rfl rfl fun K hK => (qk (gr [.w, .w] (r_w rfl rfl rfl (qau rfl qeP) ?_)))
  rintro _ _ ⟨b8_0, rfl, rfl⟩
  refine r_w rfl rfl rfl (qau rfl qks) ?_
  rintro _ _ ⟨b9_1, rfl, rfl⟩
  refine ql (qk (qnD rfl rfl rfl rfl rfl rfl rfl rfl rfl (by decide) ?_))
  have hX : ∀ (e : Env) (c : Int), res = .inl c → lk e 8 = some (.ref b8_0 0 []) → lk e 9 = some (.ref b9_1 0 []) → OutD { Md.top with ds := { target := .fn (.func 160) #[.pointer (some ⟨b8_0, 0, none⟩), .pointer (some ⟨b9_1, 0, none⟩)], args := #[] } :: Md.top.ds } Tryz.prog Tryz.f76 K (fun d' _ => d' = .tup [qbl (wholeR qhM res).1, .int .i64 (wholeR qhM res).2]) e (.ifc 191 (.agg [.int .i64 c])) [.cell b9_1 (.int .i64 0), .cell b8_0 (qbl qhM)] := fun e c hc h8 h9 => by
    refine qov (s1 := 8) (s2 := 9) (ds := [qbl qhM, .int .i64 c]) rfl qke (fun p w v hi hv => qqb b8_0 b9_1 c 0 qhM p w v hi hv) (.cons (resRef rfl (.tail _ (.head _)) (by exact qbc) (qbO _) (Wk.refl _)) (.cons (resRef rfl (.head _) (by exact qaj) rfl (Wk.refl _)) .nil)) ?_ h8 h9
    rw [hc]
    rfl
  refine qk (qf4 rfl rfl (by kernel_rfl) [(0, .d), (1, .d), (2, .w), (3, .d)] rfl (r_d rfl rfl rfl (qe rfl rfl) (r_d rfl rfl rfl (qbT rfl qhy (.oc rfl .nil) (.cons rfl rfl rfl (.nil _))) (r_w rfl rfl rfl (qid rfl rfl rfl) ?_))))
  rintro _ _ ⟨b15_2, rfl, rfl⟩
  refine r_d rfl rfl rfl (qj rfl rfl) (ql (qk (qf4 rfl rfl (by kernel_rfl) [(0, .d), (1, .d), (2, .d), (3, .w)] rfl (r_d rfl rfl rfl (qe rfl rfl) (r_d rfl rfl rfl (qe rfl rfl) (r_d rfl rfl rfl (qe rfl rfl) ?_))))))
  rcases bindXS hr with ⟨c_r_4, hr_4, rfl⟩ | ⟨r_4, hr_4, hr⟩
  ·
   refine qb1 rfl rfl (qnt _ rfl qn (.oc rfl (.oc rfl (.oc rfl .nil))) (by exact (pf0 _)) (qN (qm _ _ _ _ _ hr_4))) (hX _ _ rfl rfl rfl)
  ·
   refine r_w rfl rfl rfl (qF _ rfl qn (.oc rfl (.oc rfl (.oc rfl .nil))) (by exact (pf0 _)) (qO (qm _ _ _ _ _ hr_4))) ?_
   rintro _ _ ⟨_, ⟨rfl, rfl⟩, rfl⟩
   refine r_st ((.cell b15_2 (qc r_4.2)) :: _) rfl (ql (qk (qf4 rfl rfl (by kernel_rfl) [(0, .d), (1, .d), (2, .w), (3, .w), (4, .w)] rfl (r_d rfl rfl rfl (qe rfl rfl) (r_d rfl rfl rfl (qe rfl rfl) ?_)))))
   rcases bindXS hr with ⟨c_r_5, hr_5, rfl⟩ | ⟨r_5, hr_5, hr⟩
   ·
    refine qb1 rfl rfl (qmw _ rfl rfl qhe (.oc rfl .nil) rfl (by exact (pf0 _)) (qN (qgt fuel _ _ _ hr_5))) (hX _ _ rfl rfl rfl)
   ·
    refine r_w rfl rfl rfl (qd9 _ rfl rfl qhe (.oc rfl .nil) rfl (by exact (pf0 _)) (qO (qgt fuel _ _ _ hr_5))) ?_
    rintro _ _ ⟨_, ⟨rfl, rfl⟩, rfl⟩
    refine r_st ((.cell b15_2 (qc r_5.2)) :: _) rfl (r_w rfl rfl rfl (qau rfl qeP) ?_)
    rintro _ _ ⟨b11_5, rfl, rfl⟩
    refine qaa rfl rfl rfl (qK _ rfl rfl rfl (Wk.refl _) (pf0 _) (by exact qbc) (qbO _) rfl rfl) (ql (qap 11 b11_5 rfl (pf0 _) (qk (qbi (qk (qf4 rfl rfl (by kernel_rfl) [(0, .d), (1, .d), (2, .d), (3, .r), (4, .d), (5, .d), (6, .d), (7, .d)] rfl (r_d rfl rfl rfl (qe rfl rfl) (r_d rfl rfl rfl (qv rfl rfl) (r_d rfl rfl rfl (qo rfl qdE rfl) (r_r rfl rfl rfl (qx rfl rfl (.head _) rfl rfl (by exact qaF) rfl) (r_d rfl rfl rfl (qe rfl rfl) ?_)))))))))))
    refine r_d rfl rfl rfl (qbP (f := (D.int .u8)) b_a0 rfl qb9 rfl (asl rfl)) (r_d rfl rfl rfl (qX rfl rfl rfl rfl) (r_d rfl rfl rfl (qj rfl rfl) (ql ?_)))
    refine g_sB 23 rfl hr (fun h23_6 hr => ?_) (fun h23_6 hr => ?_)
    ·
     refine qC rfl (qf4 rfl rfl (by kernel_rfl) [(0, .d), (1, .d), (2, .w)] rfl (r_d rfl rfl rfl (qbT rfl qc8 (.oc rfl .nil) (.cons rfl rfl rfl (.nil _))) (r_d rfl rfl rfl (qhS rfl Tryz.underlying191 rfl) ?_)))
     obtain rfl := Option.some.inj hr
     refine qb1 rfl rfl (qku _ rfl rfl (List.perm_append_comm (l₁ := [_]) (l₂ := [_, _]))) (hX _ _ rfl rfl rfl)
    ·
     refine qB rfl (qk (qf4 rfl rfl (by kernel_rfl) [(0, .d), (1, .d), (2, .d), (3, .d), (4, .d), (5, .d)] rfl (r_d rfl rfl rfl (qe rfl rfl) (r_d rfl rfl rfl (qw rfl rfl (by exact qbc) (qbO _)) ?_))))
     obtain ⟨r_8, hr_8, hr⟩ := bindS hr
     refine r_d rfl rfl rfl (qno rfl rfl qgb (.oc rfl .nil) rfl (qge fuel _ _ hr_8)) (r_d rfl rfl rfl (qbP (f := (D.int .u8)) r_8 rfl qb9 rfl (asl rfl)) (r_d rfl rfl rfl (qX rfl rfl rfl rfl) (r_d rfl rfl rfl (qj rfl rfl) (ql ?_))))
     refine g_sB 33 rfl hr (fun h33_8 hr => ?_) (fun h33_8 hr => ?_)
     ·
      refine qC rfl (qf4 rfl rfl (by kernel_rfl) [(0, .d), (1, .d), (2, .w)] rfl (r_d rfl rfl rfl (qbT rfl qc8 (.oc rfl .nil) (.cons rfl rfl rfl (.nil _))) (r_d rfl rfl rfl (qhS rfl Tryz.underlying191 rfl) ?_)))
      obtain rfl := Option.some.inj hr
      refine qb1 rfl rfl (qku _ rfl rfl (List.perm_append_comm (l₁ := [_]) (l₂ := [_, _]))) (hX _ _ rfl rfl rfl)
     ·
      refine qB rfl (qab (qac (qk (qf4 rfl rfl (by kernel_rfl) [(0, .d), (1, .w), (2, .w)] rfl (r_d rfl rfl rfl (qw rfl rfl (by exact qbc) (qbO _)) (qaa rfl rfl rfl (qK _ rfl rfl rfl (Wk.refl _) (pf2 _ _ _ _) (by exact qbc) (qbO _) rfl rfl) (qaa rfl rfl rfl (qK _ rfl rfl rfl (Wk.refl _) (pf2 _ _ _ _) (by exact qaj) rfl rfl rfl) (ql ?_))))))))
      obtain rfl := Option.some.inj hr
      exact qqJ rfl rfl fun p a w hi hr => qlv (ds := [_, _]) rfl qke (fun p w hi => qpb _ _ p w hi) (s1 := 8) (s2 := 9) rfl rfl (.cons (resRef rfl (.tail _ (.head _)) (by exact qbc) (qbO _) (Wk.refl _)) (.cons (resRef rfl (.head _) (by exact qaj) rfl (Wk.refl _)) .nil)) rfl p a w hi hr
noncomputable def qfV (fuel : Nat) (b : List Int) (n : Int) : Option (qai × Int) := (qhm fuel b n).bind fun r => some (wholeR qhM r)
theorem qlP (fuel : Nat) (b : List Int) (n : Int) (res : qai × Int) (hr : qfV fuel b n = some res) : Gives Tryz.prog 76 [.lst (b.map (D.int .u8)), .int .i64 n, .clo (.func 77) [] [], .clo (.func 17) [] []] (.tup [qbl res.1, .int .i64 res.2]) := by
  obtain ⟨r, h1, h2⟩ := bindS hr
  rw [← Option.some.inj h2]
  exact qms fuel b n r h1
/-! ### Memory -/
def qhN : qas := ⟨[], [], [], 0, 0⟩
theorem qoV (v : Value) (w : World) : (Op.equal 20 (.iface 191 v) .nilIface).run Tryz.prog w = .ok false w := rfl
set_option maxHeartbeats 1000000 in
theorem qqh {K : Ctx} (b8 b9 : Nat) (c c_0 : Int) (c_1 : qas) (p : Addr → Prop) (w : World) (v : Value) (hi : Inv K p [.cell b9 (.int .i64 c_0), .cell b8 (qax c_1)] w) (hv : Rep p w (.ifc 191 (.agg [.int .i64 c])) v) :
    CallsD Tryz.prog 188 #[.pointer (some ⟨b8, 0, none⟩), .pointer (some ⟨b9, 0, none⟩)] (.panicking [{ v, recovered := false }]) w fun e u' w' => u' = .panicking [{ v, recovered := true }] ∧ Left { K with X := fun _ _ => False } (fun d σ => d = .tup [] ∧ σ = [.cell b9 (.int .i64 c), .cell b8 (qax qhN)]) e w' := by
  refine qlz Tryz.func188 rfl rfl rfl rfl rfl rfl rfl (by decide) (by decide) (by decide) (by decide) hi hv fun K' => ?_
  refine qk (qkH (by kernel_rfl) [(0, .d), (1, .d)] rfl (r_d rfl rfl rfl (qe rfl rfl) (r_d rfl rfl rfl (qmC rfl rfl rfl qoV) (ql (qC rfl (qk (qkH (by kernel_rfl) [(0, .d), (1, .d), (2, .d), (3, .d), (4, .d), (5, .w), (6, .w), (7, .d)] rfl (r_d rfl rfl rfl (qe rfl rfl) (r_d rfl rfl rfl (qmB rfl qlu rfl) (r_d rfl rfl rfl (qe rfl rfl) (r_d rfl rfl rfl (qaz rfl rfl rfl) ?_)))))))))))
  refine r_d rfl rfl rfl (qaz rfl rfl rfl) (r_w rfl rfl rfl (qau rfl qhd) ?_)
  rintro _ _ ⟨b3_0, rfl, rfl⟩
  refine qaa rfl rfl rfl (qK _ rfl rfl rfl (Wk.refl _) (pf0 _) (by exact qha) rfl rfl rfl) (r_d rfl rfl rfl (qj rfl rfl) (ql (qap 3 b3_0 rfl (pf0 _) (qk (qk (qkH (by kernel_rfl) [(0, .d), (1, .d)] rfl (r_d rfl rfl rfl (qe rfl rfl) (r_d rfl rfl rfl (qfZ rfl rfl) (ql (qB rfl (qab ?_)))))))))))
  refine qk (qkH (by kernel_rfl) [(0, .w)] rfl (r_w rfl rfl rfl (qau rfl qeI) ?_))
  rintro _ _ ⟨b5_2, rfl, rfl⟩
  refine ql (ga [(0, .r), (1, .d), (2, .d), (3, .w), (4, .w)] (r_r rfl rfl rfl (qx rfl rfl (.head _) rfl rfl (by exact qaY) rfl) (r_d rfl rfl rfl (qp rfl qgk rfl rfl rfl rfl) (r_d rfl rfl rfl (qw rfl rfl (by exact qaj) rfl) (qaa rfl rfl rfl (qK _ rfl rfl rfl (Wk.refl _) (pf2 _ _ _ _) (by exact qaY) rfl (qbI _) rfl) (qaa rfl rfl rfl (qK _ rfl rfl rfl (Wk.refl _) (pf2 _ _ _ _) (by exact qaj) rfl rfl rfl) (ql (qar [_, _] _ ((pf1 _ _ _).trans (pf1 _ _ _)) (qm4 Tryz.func188 _ .nil ?_)))))))))
  exact ⟨rfl, rfl⟩
theorem qoC {K : Ctx} {σ : St} (b8 b9 : Nat) (p : Addr → Prop) (w : World) (hi : Inv K p σ w) :
    CallsD Tryz.prog 188 #[.pointer (some ⟨b8, 0, none⟩), .pointer (some ⟨b9, 0, none⟩)] .returning w fun e u' w' => u' = .returning ∧ Left { K with X := fun _ _ => False } (fun d σ' => d = .tup [] ∧ σ' = σ) e w' := by
  refine qk1 Tryz.func188 rfl rfl rfl rfl rfl rfl rfl (by decide) (by decide) (by decide) (by decide) hi fun K' => ?_
  refine qk (qkH (by kernel_rfl) [(0, .d), (1, .d)] rfl (r_d rfl rfl rfl (qe rfl rfl) (r_d rfl rfl rfl (qmk rfl rfl fun _ => rfl) (ql (qB rfl (qab (qm4 Tryz.func188 _ .nil ?_)))))))
  exact ⟨rfl, rfl⟩
theorem qka : callee Tryz.prog 188 := ⟨_, _, Tryz.func188, rfl, by decide⟩
noncomputable def qhl (fuel : Nat) (b_a0 : (List Int)) (first_a1 : Int) : Option (Int ⊕ (qas × Int)) :=
  (bindX (qq first_a1 first_a1 (⟨b_a0, 0⟩ : qb)) fun r_4 =>
  (bindX (qcU fuel r_4.2) fun r_5 =>
  (bif (decide (r_5.2.f1_at < (b_a0.length : Int))) then
  some (.inl 3)
  else
  ((qbo fuel r_5.1).bind fun r_8 =>
  (bif ((r_8.length : Int) == (0 : Int)) then
  some (.inl 2)
  else
  some (.inr (r_5.1, 0)))))))
set_option maxHeartbeats 2000000 in
theorem qmE (fuel : Nat) (b_a0 : (List Int)) (first_a1 : Int) (res : Int ⊕ (qas × Int)) (hr : qhl fuel b_a0 first_a1 = some res) : Gives Tryz.prog 110 [.lst (b_a0.map (D.int .u8)), .int .i64 first_a1, .clo (.func 111) [] [], .clo (.func 25) [] []] (.tup [qax (wholeR qhN res).1, .int .i64 (wholeR qhN res).2]) := by
  unfold qhl at hr
  refine qag [(0, .lst (b_a0.map (D.int .u8))), (1, .int .i64 first_a1), (2, .clo (.func 111) [] []), (3, .clo (.func 25) [] [])] Tryz.func110 rfl rfl fun K hK => (qk (gr [.w, .w] (r_w rfl rfl rfl (qau rfl qeI) ?_)))
  rintro _ _ ⟨b8_0, rfl, rfl⟩
  refine r_w rfl rfl rfl (qau rfl qks) ?_
  rintro _ _ ⟨b9_1, rfl, rfl⟩
  refine ql (qk (qnD rfl rfl rfl rfl rfl rfl rfl rfl rfl (by decide) ?_))
  have hX : ∀ (e : Env) (c : Int), res = .inl c → lk e 8 = some (.ref b8_0 0 []) → lk e 9 = some (.ref b9_1 0 []) → OutD { Md.top with ds := { target := .fn (.func 188) #[.pointer (some ⟨b8_0, 0, none⟩), .pointer (some ⟨b9_1, 0, none⟩)], args := #[] } :: Md.top.ds } Tryz.prog Tryz.f110 K (fun d' _ => d' = .tup [qax (wholeR qhN res).1, .int .i64 (wholeR qhN res).2]) e (.ifc 191 (.agg [.int .i64 c])) [.cell b9_1 (.int .i64 0), .cell b8_0 (qax qhN)] := fun e c hc h8 h9 => by
    refine qov (s1 := 8) (s2 := 9) (ds := [qax qhN, .int .i64 c]) rfl qka (fun p w v hi hv => qqh b8_0 b9_1 c 0 qhN p w v hi hv) (.cons (resRef rfl (.tail _ (.head _)) (by exact qaY) (qbI _) (Wk.refl _)) (.cons (resRef rfl (.head _) (by exact qaj) rfl (Wk.refl _)) .nil)) ?_ h8 h9
    rw [hc]
    rfl
  refine qk (qf4 rfl rfl (by kernel_rfl) [(0, .d), (1, .d), (2, .w), (3, .d)] rfl (r_d rfl rfl rfl (qe rfl rfl) (r_d rfl rfl rfl (qbT rfl qhy (.oc rfl .nil) (.cons rfl rfl rfl (.nil _))) (r_w rfl rfl rfl (qid rfl rfl rfl) ?_))))
  rintro _ _ ⟨b15_2, rfl, rfl⟩
  refine r_d rfl rfl rfl (qj rfl rfl) (ql (qk (qf4 rfl rfl (by kernel_rfl) [(0, .d), (1, .d), (2, .d), (3, .w)] rfl (r_d rfl rfl rfl (qe rfl rfl) (r_d rfl rfl rfl (qe rfl rfl) (r_d rfl rfl rfl (qe rfl rfl) ?_))))))
  rcases bindXS hr with ⟨c_r_4, hr_4, rfl⟩ | ⟨r_4, hr_4, hr⟩
  ·
   refine qb1 rfl rfl (qnt _ rfl qn (.oc rfl (.oc rfl (.oc rfl .nil))) (by exact (pf0 _)) (qN (qm _ _ _ _ _ hr_4))) (hX _ _ rfl rfl rfl)
  ·
   refine r_w rfl rfl rfl (qF _ rfl qn (.oc rfl (.oc rfl (.oc rfl .nil))) (by exact (pf0 _)) (qO (qm _ _ _ _ _ hr_4))) ?_
   rintro _ _ ⟨_, ⟨rfl, rfl⟩, rfl⟩
   refine r_st ((.cell b15_2 (qc r_4.2)) :: _) rfl (ql (qk (qf4 rfl rfl (by kernel_rfl) [(0, .d), (1, .d), (2, .w), (3, .w), (4, .w)] rfl (r_d rfl rfl rfl (qe rfl rfl) (r_d rfl rfl rfl (qe rfl rfl) ?_)))))
   rcases bindXS hr with ⟨c_r_5, hr_5, rfl⟩ | ⟨r_5, hr_5, hr⟩
   ·
    refine qb1 rfl rfl (qmw _ rfl rfl qhi (.oc rfl .nil) rfl (by exact (pf0 _)) (qN (qgw fuel _ _ _ hr_5))) (hX _ _ rfl rfl rfl)
   ·
    refine r_w rfl rfl rfl (qd9 _ rfl rfl qhi (.oc rfl .nil) rfl (by exact (pf0 _)) (qO (qgw fuel _ _ _ hr_5))) ?_
    rintro _ _ ⟨_, ⟨rfl, rfl⟩, rfl⟩
    refine r_st ((.cell b15_2 (qc r_5.2)) :: _) rfl (r_w rfl rfl rfl (qau rfl qeI) ?_)
    rintro _ _ ⟨b11_5, rfl, rfl⟩
    refine qaa rfl rfl rfl (qK _ rfl rfl rfl (Wk.refl _) (pf0 _) (by exact qaY) (qbI _) rfl rfl) (ql (qap 11 b11_5 rfl (pf0 _) (qk (qbi (qk (qf4 rfl rfl (by kernel_rfl) [(0, .d), (1, .d), (2, .d), (3, .r), (4, .d), (5, .d), (6, .d), (7, .d)] rfl (r_d rfl rfl rfl (qe rfl rfl) (r_d rfl rfl rfl (qv rfl rfl) (r_d rfl rfl rfl (qo rfl qdE rfl) (r_r rfl rfl rfl (qx rfl rfl (.head _) rfl rfl (by exact qaF) rfl) (r_d rfl rfl rfl (qe rfl rfl) ?_)))))))))))
    refine r_d rfl rfl rfl (qbP (f := (D.int .u8)) b_a0 rfl qb9 rfl (asl rfl)) (r_d rfl rfl rfl (qX rfl rfl rfl rfl) (r_d rfl rfl rfl (qj rfl rfl) (ql ?_)))
    refine g_sB 23 rfl hr (fun h23_6 hr => ?_) (fun h23_6 hr => ?_)
    ·
     refine qC rfl (qf4 rfl rfl (by kernel_rfl) [(0, .d), (1, .d), (2, .w)] rfl (r_d rfl rfl rfl (qbT rfl qc8 (.oc rfl .nil) (.cons rfl rfl rfl (.nil _))) (r_d rfl rfl rfl (qhS rfl Tryz.underlying191 rfl) ?_)))
     obtain rfl := Option.some.inj hr
     refine qb1 rfl rfl (qku _ rfl rfl (List.perm_append_comm (l₁ := [_]) (l₂ := [_, _]))) (hX _ _ rfl rfl rfl)
    ·
     refine qB rfl (qk (qf4 rfl rfl (by kernel_rfl) [(0, .d), (1, .d), (2, .d), (3, .d), (4, .d), (5, .d)] rfl (r_d rfl rfl rfl (qe rfl rfl) (r_d rfl rfl rfl (qw rfl rfl (by exact qaY) (qbI _)) ?_))))
     obtain ⟨r_8, hr_8, hr⟩ := bindS hr
     refine r_d rfl rfl rfl (qno rfl rfl qex (.oc rfl .nil) rfl (qes fuel _ _ hr_8)) (r_d rfl rfl rfl (qbP (f := (D.int .u8)) r_8 rfl qb9 rfl (asl rfl)) (r_d rfl rfl rfl (qX rfl rfl rfl rfl) (r_d rfl rfl rfl (qj rfl rfl) (ql ?_))))
     refine g_sB 33 rfl hr (fun h33_8 hr => ?_) (fun h33_8 hr => ?_)
     ·
      refine qC rfl (qf4 rfl rfl (by kernel_rfl) [(0, .d), (1, .d), (2, .w)] rfl (r_d rfl rfl rfl (qbT rfl qc8 (.oc rfl .nil) (.cons rfl rfl rfl (.nil _))) (r_d rfl rfl rfl (qhS rfl Tryz.underlying191 rfl) ?_)))
      obtain rfl := Option.some.inj hr
      refine qb1 rfl rfl (qku _ rfl rfl (List.perm_append_comm (l₁ := [_]) (l₂ := [_, _]))) (hX _ _ rfl rfl rfl)
     ·
      refine qB rfl (qab (qac (qk (qf4 rfl rfl (by kernel_rfl) [(0, .d), (1, .w), (2, .w)] rfl (r_d rfl rfl rfl (qw rfl rfl (by exact qaY) (qbI _)) (qaa rfl rfl rfl (qK _ rfl rfl rfl (Wk.refl _) (pf2 _ _ _ _) (by exact qaY) (qbI _) rfl rfl) (qaa rfl rfl rfl (qK _ rfl rfl rfl (Wk.refl _) (pf2 _ _ _ _) (by exact qaj) rfl rfl rfl) (ql ?_))))))))
      obtain rfl := Option.some.inj hr
      exact qqJ rfl rfl fun p a w hi hr => qlv (ds := [_, _]) rfl qka (fun p w hi => qoC _ _ p w hi) (s1 := 8) (s2 := 9) rfl rfl (.cons (resRef rfl (.tail _ (.head _)) (by exact qaY) (qbI _) (Wk.refl _)) (.cons (resRef rfl (.head _) (by exact qaj) rfl (Wk.refl _)) .nil)) rfl p a w hi hr
noncomputable def qfR (fuel : Nat) (b : List Int) (n : Int) : Option (qas × Int) := (qhl fuel b n).bind fun r => some (wholeR qhN r)
theorem qlQ (fuel : Nat) (b : List Int) (n : Int) (res : qas × Int) (hr : qfR fuel b n = some res) : Gives Tryz.prog 110 [.lst (b.map (D.int .u8)), .int .i64 n, .clo (.func 111) [] [], .clo (.func 25) [] []] (.tup [qax res.1, .int .i64 res.2]) := by
  obtain ⟨r, h1, h2⟩ := bindS hr
  rw [← Option.some.inj h2]
  exact qmE fuel b n r h1
def strY (l : List Int) : ByteArray := ⟨(ofY l).toArray⟩
theorem qo6 {P : Program} {o : Oper} {ρ : Operand → Option D} {x : Operand} {src dst e : TypeId} {dx : D} (l : List Int) (ho : o.op = .convert src dst x) (hs : P.underlying src = some (.slice e)) (he : P.underlying e = some (.int .u8)) (hd : P.underlying dst = some .string) (hx : ρ x = some dx) (hl : AsL dx (l.map (D.int .u8))) : StepD P o ρ (.str (strY l)) := qdd fun p a w h => by
  obtain ⟨A, c, xs, h1, h2, h3, h4, h5, _⟩ := hl.rep (h x (by rw [ho]; simp [Op.operands]) _ hx)
  rw [List.length_map] at h1 h2
  obtain ⟨_, rfl⟩ := repsY h5
  have hr : Rd w A ((ofY l).map bv) := by
    rcases h4 with h4 | ⟨b, o, rfl, h4⟩
    · exact .inl h4
    · exact .inr ⟨⟨b, o, none⟩, rfl, fun j u hu => by rw [addF]; exact (h4 j u hu).2⟩
  refine ⟨.string (strY l), ?_, ?_⟩
  · unfold execOp
    rw [ho]
    simp only [h1, Sem.run_bind, qn1 w src dst e hs he hd A l.length c (ofY l) hr (qiG l), Result.andThen_ok, Sem.run_pure]
    rfl
  · simp only [Rep]
    refine ⟨trivial, ?_⟩
    have : (strY l).size = l.length := by
      show (ofY l).toArray.size = _
      rw [List.size_toArray, qiG]
    omega
theorem qrU {P : Program} {o : Oper} {ρ : Operand → Option D} {t t' : TypeId} {x y : Operand} {k : IntKind} {m n : Int} (ho : o.op = .binOp .rem t x y t') (hx : ρ x = some (.int k m)) (hy : ρ y = some (.int k n)) (hn : 0 < n) (hk : k.signed = false := by rfl) : StepD P o ρ (.int k (k.wrap (Int.tmod m n))) := qdd fun p a' w h => by
  have h1 := h x (by rw [ho]; simp [Op.operands]) _ hx
  have h2 := h y (by rw [ho]; simp [Op.operands]) _ hy
  simp only [Rep] at h1 h2
  have h0 : 0 ≤ m := by
    rw [← h1.2]
    simp only [IntKind.wrap, hk]
    exact Int.emod_nonneg _ (by cases k <;> simp [IntKind.bits])
  have hr : k.wrap (Int.tmod m n) = Int.tmod m n := by
    have e : Int.tmod m n = m % n := Int.tmod_eq_emod_of_nonneg h0
    have q0 : 0 ≤ m % n := Int.emod_nonneg m (by omega)
    have q1 : m % n ≤ m := by
      clear h1 h2 hx
      obtain ⟨a, rfl⟩ := Int.eq_ofNat_of_zero_le h0
      obtain ⟨b, rfl⟩ := Int.eq_ofNat_of_zero_le (show 0 ≤ n by omega)
      exact Int.ofNat_le.2 (Nat.mod_le a b)
    have h3 := h1.2
    rw [e]
    simp only [IntKind.wrap, hk] at h3 ⊢
    have hb : (0 : Int) < 2 ^ k.bits := by cases k <;> simp [IntKind.bits]
    have h4 : m < 2 ^ k.bits := by
      have := Int.emod_lt_of_pos m hb
      have h5 : m % 2 ^ k.bits = m := h3
      omega
    exact Int.emod_eq_of_lt q0 (by omega)
  refine ⟨.int k (k.wrap (Int.tmod m n)), ?_, by simpa only [Rep, true_and] using qkr k _⟩
  unfold execOp
  rw [ho]
  simp only [h1.1, h2.1]
  simp [binOp, eqGuard, Op.intDiv, show n ≠ 0 by omega, hr]
theorem qtY {P : Program} {o : Oper} {ρ : Operand → Option D} {t t' : TypeId} {x y : Operand} {k : IntKind} {m n : Int} (ho : o.op = .binOp .quo t x y t') (hx : ρ x = some (.int k m)) (hy : ρ y = some (.int k n)) (hn : 0 < n) : StepD P o ρ (.int k (k.wrap (Int.tdiv m n))) := qdd fun p a' w h => by
  have h1 := h x (by rw [ho]; simp [Op.operands]) _ hx
  have h2 := h y (by rw [ho]; simp [Op.operands]) _ hy
  simp only [Rep] at h1 h2
  refine ⟨.int k (k.wrap (Int.tdiv m n)), ?_, by simpa only [Rep, true_and] using qkr k _⟩
  unfold execOp
  rw [ho]
  simp only [h1.1, h2.1]
  simp [binOp, eqGuard, Op.intDiv, show n ≠ 0 by omega]
end Go.Proofs.YtdoljfkjdfaakaaGreat
