/-
  Texts of the seat, merged.
-/
import Derived.Test.YtdoljfkjdfaakaaGreatLBA
import Derived.Test.YtdoljfkjdfaakaaGreatLBB
import Derived.Test.YtdoljfkjdfaakaaGreatLBC
import Derived.Test.YtdoljfkjdfaakaaGreatLBD
import Derived.Test.YtdoljfkjdfaakaaGreatChecked
import Derived.WalkKit
import Derived.Lib.Hide
import Derived.Lib.AppendStr
import Derived.Deep.AppendLies
import Derived.Deep.AppendSrc
import Derived.Deep.Draws
import Derived.Deep.QuietTactic
import Derived.BigQuiet
import Derived.Deep.RegionWith
import Derived.Maps.AppendAt
import Derived.WalkSpells
import Derived.Orders
import Derived.Deep.Slices
import Derived.Deep.Fields
import Derived.ChangeArms
import Derived.Lib.OthersKept
import Derived.Lib.TrimU
import Derived.Lib.IndexAny
import Derived.Deep.LoopGhost
import Derived.Lib.Bytealg
import Derived.RangeFuncBox
import Derived.RangeFuncNested
import Derived.RangeFuncBound
import Derived.RangeFuncCalls
import Derived.RangeFuncLeaves
import Derived.Shelf.Abstract
import Derived.OwnWalkIn
import Derived.TacticsInMore
import Derived.LoopNIn
import Derived.LoopIn
import Derived.RangeFuncWrites
import Derived.Maps.OwnIn
import Derived.Maps.Views
import Derived.Laws.OwnMore
import Derived.Maps.OwnSet
import Derived.Laws.IdiomStrings
import Derived.Test.YtdoljfkjdfaakaaGreatRows
import Derived.ProofKit
import Derived.OpenShut
import Derived.Carry
import Derived.OrdersIn
import Derived.Great.BuildSlice
import Derived.ArgAppend
import Derived.Laws.MakeOwn
import Derived.Laws.Cover3
import Derived.Laws.CopyRow
import Derived.MapKept
import Derived.Maps.RangeRun
import Derived.DeepKeys5
import Derived.WideKeyRuns
import Derived.RangeFuncOwn
import Derived.Defers
import Derived.Recover
import Derived.Tactics
import Derived.Tactics2
import Derived.KernelRfl
import Derived.ChangeSlices
import Derived.JoinedCond
set_option linter.unusedVariables false
set_option linter.unusedSimpArgs false
set_option linter.unnecessarySimpa false
set_option linter.all false

namespace Go.Proofs.YtdoljfkjdfaakaaGreat
set_option maxRecDepth 100000
open Go.RowKit
section
variable {m : Md} {P : Program} {f : FuncId} {fn : Func} {K : Ctx} {R : D → St → Prop} {k : List Item} {env : Env} {σ : St}
theorem leavesAs_of {P : Program} {fr : Frame} {w : World} {e : Ending} (h : fr.leaving P w e) : LeavesAs .normal P fr w e := by
  cases e with
  | returned v => exact h
  | panicked c => exact h
  | outgrown => trivial
/-- What a panic leaves, when the deferred calls have run. -/
def OutD (m : Md) (P : Program) (fn : Func) (K : Ctx) (R : D → St → Prop) (env : Env) (d : D) (τ : St) : Prop := ∀ (p : Addr → Prop) (a : Act) (w : World) (v : Value), Inv K p τ w → RelEnv p w env a → Rep p w d v → Leaves P fn a.tmps (Left K R) m.marks (.panicking [{ v, recovered := false }]) w
theorem g_regionD {id : Nat} {ops : Array Oper} {dr : Bool} {Q : Env → St → Prop} {X : Env → D → St → Prop} (hrd : m.rd = none) (hkd : m.kd = .normal) (h : ∀ (p : Addr → Prop) (a : Act) (w : World), Inv K p σ w → RelEnv p w env a → fn.ntmps ≤ a.tmps.size → a.defers = m.marks → (Code.region id ops dr).wpIn (fw m.rd) 0 P (EndsR P K fn.ntmps m X Q) a w)
    (hX : ∀ e d τ, X e d τ → OutD m P fn K R e d τ) (hq : ∀ env' σ', Q env' σ' → GoesG m P f fn K R k env' σ') : GoesG m P f fn K R (.code (.region id ops dr) :: k) env σ := fun p a w hi hr hn hd b cs hb hk hro hf => by
  obtain ⟨e, a', w', hE, harr⟩ := h p a w hi hr hn hd b k cs (hro.trans (fw_round _).symm) (fw_fn _ _) (fw_room _ _)
  rcases hE with ⟨rfl, env', σ', p', q, i1, i2, i3, i4⟩ | ⟨v, d, τ, p', env', rfl, hx, hv, hi', hr', hd'⟩
  · exact .of_steps (fw_steps harr) (hq env' σ' q p' a' w' i1 i2 i3 i4 b cs hb hk hro hf)
  · obtain ⟨todo, hs⟩ := harr
    obtain ⟨e, w'', fr', h1, h2, h3, h4⟩ := leaves_steps (P := P) (fn := fn) m.marks (.panicking [{ v, recovered := false }]) w' { b.atR a' todo with mode := .panicking [{ v, recovered := false }] } cs rfl hd' rfl (by rw [← hb] at hf; exact hf) (hk.trans hkd) (hX env' d τ hx p' a' w' v hi' hr' hv)
    refine .of_steps (fw_steps hs) ?_
    rw [hrd, hkd]
    exact ⟨e, w'', fr', h1, h2, h3.trans hb, leavesAs_of h4⟩
theorem g_runD (hrd : m.rd = none) (hkd : m.kd = .normal) {id : Nat} {l : List Oper} (hok : okOps l.toArray fn.ntmps = true) (ord : List (Nat × Cls)) (ho : ord.map (·.1) = List.range l.length)
    (h : Run P l.toArray (OutD m P fn K R) (GoesG m P f fn K R k) ord env σ) : GoesG m P f fn K R (.code (.region id l.toArray false) :: k) env σ :=
  g_regionD hrd hkd (Q := GoesG m P f fn K R k) (X := OutD m P fn K R) (fun p a w hi hr hn hd => by
    refine wpIn_region ?_
    have := run_seq (K := K) (m := m) (X := OutD m P fn K R) (fun _ _ _ _ => hrd) hok ord env σ a w h ⟨p, hi, hr, hn, hd⟩
    rw [ho] at this
    simpa using this) (fun _ _ _ h => h) (fun _ _ h => h)
/-- A return, when the deferred calls have run. -/
theorem g_retD (hrd : m.rd = none) (hkd : m.kd = .normal) (h : ∀ (p : Addr → Prop) (a : Act) (w : World), Inv K p σ w → RelEnv p w env a → Leaves P fn a.tmps (Left K R) m.marks .returning w) : GoesG m P f fn K R (.code .ret :: k) env σ := fun p a w hi hr hn hd b cs hb hk hro hf => by
  obtain ⟨e, w'', fr', h1, h2, h3, h4⟩ := leaves_steps (P := P) (fn := fn) m.marks .returning w { b.atR a (.code .ret :: k) with mode := .returning } cs rfl hd rfl (by rw [← hb] at hf; exact hf) (hk.trans hkd) (h p a w hi hr)
  refine .of_steps (.one (stepR_ret (hro.trans hrd))) ?_
  rw [hrd, hkd]
  exact ⟨e, w'', fr', h1, h2, h3.trans hb, leavesAs_of h4⟩
/-- A closure over two variables is made, and its call deferred. -/
theorem g_defer2 {id t s1 s2 : Nat} {g : FuncId} {b1 b2 : Nat} {o1 o2 : Oper} (hrd : m.rd = none) (ho1 : o1.op = .makeFunc (.func g) #[] #[.tmp s1, .tmp s2]) (hd1 : o1.dst = some t) (hg1 : o1.guard = none) (ho2 : o2.op = .defer { callee := .value (.tmp t), args := #[], argTypes := #[] }) (hd2 : o2.dst = none) (hg2 : o2.guard = none)
    (h1 : lk env s1 = some (.ref b1 0 [])) (h2 : lk env s2 = some (.ref b2 0 [])) (ht : t < fn.ntmps)
    (h : GoesG { m with ds := { target := .fn (.func g) #[.pointer (some ⟨b1, 0, none⟩), .pointer (some ⟨b2, 0, none⟩)], args := #[] } :: m.ds } P f fn K R k ((t, .clo (.func g) [] [.ref b1 0 [], .ref b2 0 []]) :: env) σ) :
    GoesG m P f fn K R (.code (.region id #[o1, o2] false) :: k) env σ := fun p a w hi hr hn hd b cs hb hk hro hf => by
  have v1 := hr s1 _ h1
  have v2 := hr s2 _ h2
  simp only [Rep] at v1 v2
  have hs : t < a.tmps.size := Nat.lt_of_lt_of_le ht hn
  have arr : (Code.region id #[o1, o2] false).wpIn (fw m.rd) 0 P (fun e a' w' => e = .normal ∧ w' = w ∧ a' = { tmps := a.tmps.setIfInBounds t (.func (.func g) #[] #[.pointer (some ⟨b1, 0, none⟩), .pointer (some ⟨b2, 0, none⟩)]), defers := { target := .fn (.func g) #[.pointer (some ⟨b1, 0, none⟩), .pointer (some ⟨b2, 0, none⟩)], args := #[] } :: a.defers }) a w := by
    rw [hrd]
    refine wpIn_region ?_
    simp only [List.size_toArray, List.length_cons, List.length_nil, List.range_succ, List.range_zero, List.nil_append, List.cons_append]
    simp only [wpOpsIn, List.getElem?_toArray, List.getElem?_cons_zero, List.getElem?_cons_succ, Region.wanted, hg1, hg2, if_true]
    refine wpIn_none ?_
    unfold Oper.wp
    have r1 : (execOp a.eval o1).run P w = .ok (.value (.func (.func g) #[] #[.pointer (some ⟨b1, 0, none⟩), .pointer (some ⟨b2, 0, none⟩)])) w := by
      unfold execOp
      rw [ho1]
      simp [Instr.makeFunc, Act.eval, v1, v2]
    rw [r1, Oper.upon_value, hd1]
    refine wpIn_none ?_
    unfold Oper.wp
    have r2 : (execOp (a.put (some t) (.func (.func g) #[] #[.pointer (some ⟨b1, 0, none⟩), .pointer (some ⟨b2, 0, none⟩)])).eval o2).run P w = .ok (.defer { target := .fn (.func g) #[.pointer (some ⟨b1, 0, none⟩), .pointer (some ⟨b2, 0, none⟩)], args := #[] }) w := by
      unfold execOp
      rw [ho2]
      simp [resolve, Deferred.ofValue, Act.eval, Act.put, hs]
    rw [r2, Oper.upon_defer, hd2]
    exact ⟨trivial, rfl, rfl⟩
  obtain ⟨e, a', w', ⟨rfl, rfl, rfl⟩, harr⟩ := arr b k cs (hro.trans (fw_round _).symm) (fw_fn _ _) (fw_room _ _)
  refine .of_steps (fw_steps harr) (h p _ w' hi (fun s d hsd => ?_) (by simpa using hn) (by simp [Md.marks, hd]) b cs hb hk hro hf)
  rw [look_cons] at hsd
  by_cases hst : t = s
  · subst hst
    rw [if_pos rfl] at hsd
    injection hsd with hsd
    subst hsd
    simp only [Rep, Repl]
    exact ⟨[], [.pointer (some ⟨b1, 0, none⟩), .pointer (some ⟨b2, 0, none⟩)], by simp [hs], rfl, _, _, rfl, rfl, _, _, rfl, rfl, rfl⟩
  · rw [if_neg hst] at hsd
    have := hr s d hsd
    simpa [Array.getElem?_setIfInBounds_ne hst] using this
end
section
variable {P : Program}
/-- A deferred closure that recovers first: its walk goes on with what was thrown, or with nil. -/
theorem callsD_any (u u1 : FrameMode) {v : Value} (hrec : ∀ (c₀ : Frame) (cs : List Frame), c₀.mode = u → recoverD (c₀ :: cs) = some (v, { c₀ with mode := u1 } :: cs) ∨ (recoverD (c₀ :: cs) = none ∧ v = .nilIface ∧ ({ c₀ with mode := u1 } : Frame) = c₀)) {g : FuncId} {fn : Func} {id : Nat} {o1 o2 : Oper} {c1 : Code} {b1 b2 tr td : Nat} {d : D} {K : Ctx} {R : D → St → Prop} {σ : St} {p : Addr → Prop} {w : World}
    (hf : P.funcs[g]? = some fn) (hb : fn.body = some (.seq (.region id #[o1, o2] false) c1)) (h1 : o1.op = .call { callee := .builtin .recover, args := #[], argTypes := #[] }) (hd1 : o1.dst = some tr) (hg1 : o1.guard = none) (h2 : o2.op = .assign (.tmp tr)) (hd2 : o2.dst = some td) (hg2 : o2.guard = none)
    (ht : tr < fn.ntmps) (ht2 : td < fn.ntmps) (hne : 2 ≤ tr) (hne2 : 2 ≤ td) (hi : Inv K p σ w) (hv : Rep p w d v)
    (h : ∀ K', GoesG ⟨none, [], [], .deferred⟩ P g fn K' R [.code c1] [(td, d), (tr, d), (0, .ref b1 0 []), (1, .ref b2 0 [])] σ) :
    CallsD P g #[.pointer (some ⟨b1, 0, none⟩), .pointer (some ⟨b2, 0, none⟩)] u w fun e u' w' => u' = u1 ∧ Left { K with X := fun _ _ => False } R e w' := by
  intro c₀ cs hu
  let b : Frame := { (default : Frame) with fn := g, kind := .deferred, roundOf := none }
  let a0 : Act := { tmps := #[.pointer (some ⟨b1, 0, none⟩), .pointer (some ⟨b2, 0, none⟩)] ++ Array.replicate (fn.ntmps - 2) undef, defers := [] }
  let a1 : Act := { tmps := (a0.tmps.setIfInBounds tr v).setIfInBounds td v, defers := [] }
  have hsz : a0.tmps.size = fn.ntmps := by
    simp only [a0, Array.size_append, Array.size_replicate]
    show 2 + (fn.ntmps - 2) = _
    omega
  have henter : Frame.enter P g #[.pointer (some ⟨b1, 0, none⟩), .pointer (some ⟨b2, 0, none⟩)] .deferred = b.at a0 [.code (.seq (.region id #[o1, o2] false) c1)] := by
    simp [Frame.enter, Frame.at, hf, hb, b, a0]
  have hreg : (Code.region id #[o1, o2] false).wpS P (fun e a' cs' w' => e = .normal ∧ a' = a1 ∧ cs' = { c₀ with mode := u1 } :: cs ∧ w' = w) a0 (c₀ :: cs) w := by
    apply wpS_region
    have r1 : (execOp a0.eval o1).run P w = .ok .recover w := by
      unfold execOp
      rw [h1]
      simp [resolve, invoke, go_sem]
    have r2 : (execOp (a0.put (some tr) v).eval o2).run P w = .ok (.value v) w := by
      unfold execOp
      rw [h2]
      simp [Act.eval, Act.put, hsz, ht]
    simp only [List.size_toArray, List.length_cons, List.length_nil, List.range_succ, List.range_zero, List.nil_append, List.cons_append]
    rcases hrec c₀ cs hu with hr | ⟨hr, rfl, he⟩
    · simp only [wpOpsS, List.getElem?_toArray, List.getElem?_cons_zero, List.getElem?_cons_succ, Region.wanted, hg1, hg2, if_true, r1, hr, hd1, r2, hd2, Oper.upon_value]
      exact ⟨trivial, rfl, trivial, trivial⟩
    · rw [he]
      simp only [wpOpsS, List.getElem?_toArray, List.getElem?_cons_zero, List.getElem?_cons_succ, Region.wanted, hg1, hg2, if_true, r1, hr, hd1, r2, hd2, Oper.upon_value]
      exact ⟨trivial, rfl, trivial, trivial⟩
  obtain ⟨e, a', cs', w', ⟨rfl, rfl, rfl, rfl⟩, harr⟩ := hreg b [.code c1] rfl rfl
  have hrel : RelEnv p w' [(td, d), (tr, d), (0, .ref b1 0 []), (1, .ref b2 0 [])] a1 := by
    have hset : ∀ (l : Array Value) (i : Nat) (x : Value) (j : Nat), (l.setIfInBounds i x).getD j undef = if i = j ∧ i < l.size then x else l.getD j undef := fun l i x j => by
      simp only [Array.getD_eq_getD_getElem?, Array.getElem?_setIfInBounds]
      by_cases hij : i = j
      · subst hij
        by_cases hl : i < l.size
        · simp [hl]
        · simp [hl]
      · simp [hij]
    intro t d' hd'
    simp only [look_cons] at hd'
    show Rep p w' d' (((a0.tmps.setIfInBounds tr v).setIfInBounds td v).getD t undef)
    rw [hset, hset, Array.size_setIfInBounds, hsz]
    by_cases e1 : td = t
    · rw [if_pos e1] at hd'
      injection hd' with hd'
      subst hd'
      rw [if_pos ⟨e1, ht2⟩]
      exact hv
    · rw [if_neg e1] at hd'
      rw [if_neg fun h => e1 h.1]
      by_cases e2 : tr = t
      · rw [if_pos e2] at hd'
        injection hd' with hd'
        subst hd'
        rw [if_pos ⟨e2, ht⟩]
        exact hv
      · rw [if_neg e2] at hd'
        rw [if_neg fun h => e2 h.1]
        have h01 : t = 0 ∨ t = 1 := by
          by_cases e3 : 0 = t
          · exact .inl e3.symm
          · rw [if_neg e3] at hd'
            by_cases e4 : 1 = t
            · exact .inr e4.symm
            · rw [if_neg e4] at hd'
              cases hd'
        rcases h01 with rfl | rfl
        · rw [if_pos rfl] at hd'
          injection hd' with hd'
          subst hd'
          simp only [Rep]
          show (#[Value.pointer (some ⟨b1, 0, none⟩), Value.pointer (some ⟨b2, 0, none⟩)] ++ Array.replicate (fn.ntmps - 2) undef).getD _ undef = _
          rw [Array.getD_eq_getD_getElem?, Array.getElem?_append_left (by simp)]
          rfl
        · rw [if_neg (by decide), if_pos rfl] at hd'
          injection hd' with hd'
          subst hd'
          simp only [Rep]
          show (#[Value.pointer (some ⟨b1, 0, none⟩), Value.pointer (some ⟨b2, 0, none⟩)] ++ Array.replicate (fn.ntmps - 2) undef).getD _ undef = _
          rw [Array.getD_eq_getD_getElem?, Array.getElem?_append_left (by simp)]
          rfl
  obtain ⟨e, w2, fr, q1, q2, q3, q4⟩ := h { K with X := fun _ _ => False } p a1 w' (hi.of (by rfl) (by rfl) (by rfl)) hrel (by simp [a1, hsz]) (by simp [a1, Md.marks]) b ({ c₀ with mode := u1 } :: cs) rfl rfl rfl hf
  rw [Frame.atR_of_none rfl] at q2
  refine ⟨e, _, w2, fr, ⟨rfl, q1⟩, ?_, ?_⟩
  · rw [henter]
    exact Comes.of_steps (.head step_seq harr) q2
  · rcases q1 with ⟨v', d', σ', q, rfl, _⟩ | ⟨_, _, _, _, _, hx, _⟩
    · obtain ⟨q5, q6, q7, q8⟩ := q4
      exact ⟨q7, q5, q6, q8⟩
    · exact hx.elim
variable {o : Oper} {ρ : Operand → Option D} {d : D}
theorem callsD_rec {v : Value} {g : FuncId} {fn : Func} {id : Nat} {o1 o2 : Oper} {c1 : Code} {b1 b2 tr td : Nat} {d : D} {K : Ctx} {R : D → St → Prop} {σ : St} {p : Addr → Prop} {w : World}
    (hf : P.funcs[g]? = some fn) (hb : fn.body = some (.seq (.region id #[o1, o2] false) c1)) (h1 : o1.op = .call { callee := .builtin .recover, args := #[], argTypes := #[] }) (hd1 : o1.dst = some tr) (hg1 : o1.guard = none) (h2 : o2.op = .assign (.tmp tr)) (hd2 : o2.dst = some td) (hg2 : o2.guard = none)
    (ht : tr < fn.ntmps) (ht2 : td < fn.ntmps) (hne : 2 ≤ tr) (hne2 : 2 ≤ td) (hi : Inv K p σ w) (hv : Rep p w d v)
    (h : ∀ K', GoesG ⟨none, [], [], .deferred⟩ P g fn K' R [.code c1] [(td, d), (tr, d), (0, .ref b1 0 []), (1, .ref b2 0 [])] σ) :
    CallsD P g #[.pointer (some ⟨b1, 0, none⟩), .pointer (some ⟨b2, 0, none⟩)] (.panicking [{ v, recovered := false }]) w fun e u' w' => u' = .panicking [{ v, recovered := true }] ∧ Left { K with X := fun _ _ => False } R e w' :=
  callsD_any _ _ (fun c₀ cs hu => .inl (by simp [recoverD, hu])) hf hb h1 hd1 hg1 h2 hd2 hg2 ht ht2 hne hne2 hi hv h
theorem callsD_idle {g : FuncId} {fn : Func} {id : Nat} {o1 o2 : Oper} {c1 : Code} {b1 b2 tr td : Nat} {K : Ctx} {R : D → St → Prop} {σ : St} {p : Addr → Prop} {w : World}
    (hf : P.funcs[g]? = some fn) (hb : fn.body = some (.seq (.region id #[o1, o2] false) c1)) (h1 : o1.op = .call { callee := .builtin .recover, args := #[], argTypes := #[] }) (hd1 : o1.dst = some tr) (hg1 : o1.guard = none) (h2 : o2.op = .assign (.tmp tr)) (hd2 : o2.dst = some td) (hg2 : o2.guard = none)
    (ht : tr < fn.ntmps) (ht2 : td < fn.ntmps) (hne : 2 ≤ tr) (hne2 : 2 ≤ td) (hi : Inv K p σ w)
    (h : ∀ K', GoesG ⟨none, [], [], .deferred⟩ P g fn K' R [.code c1] [(td, .nili), (tr, .nili), (0, .ref b1 0 []), (1, .ref b2 0 [])] σ) :
    CallsD P g #[.pointer (some ⟨b1, 0, none⟩), .pointer (some ⟨b2, 0, none⟩)] .returning w fun e u' w' => u' = .returning ∧ Left { K with X := fun _ _ => False } R e w' :=
  callsD_any .returning .returning (v := .nilIface) (fun c₀ cs hu => .inr ⟨by simp [recoverD, hu], rfl, by cases c₀; simp_all⟩) hf hb h1 hd1 hg1 h2 hd2 hg2 ht ht2 hne hne2 hi (by simp only [Rep]) h
theorem s_neqNilN {x : Operand} {ty t' : TypeId} (ho : o.op = .binOp .neq ty x (.const .nilIface) t') (hx : ρ x = some .nili) (hr : ∀ (w : World), (Op.equal ty .nilIface .nilIface).run P w = .ok true w) : StepD P o ρ (.bool false) := stepD_of fun p a w h => by
  have h1 := h x (by rw [ho]; simp [Op.operands]) _ hx
  simp only [Rep] at h1
  refine ⟨.bool false, ?_, by simp only [Rep]⟩
  unfold execOp
  rw [ho]
  have e1 : eqGuard .neq ty x (.const .nilIface) .nilIface .nilIface = pure () := by
    unfold eqGuard
    simp
  have e2 : binOp .neq ty .nilIface .nilIface = (do pure (.bool (!(← Op.equal ty .nilIface .nilIface)))) := rfl
  have e3 : a.eval (.const .nilIface) = .nilIface := rfl
  simp [h1, e3, e1, e2, hr]
theorem s_neqNilI {x y : Operand} {t ty : TypeId} {t' : TypeId} (ho : o.op = .binOp .neq ty x y t') (hx : ρ x = some (.ifc t d)) (hy : ρ y = some .nili) (hr : ∀ (v : Value) (w : World), (Op.equal ty (.iface t v) .nilIface).run P w = .ok false w) : StepD P o ρ (.bool true) := stepD_of fun p a w h => by
  have h1 := h x (by rw [ho]; simp [Op.operands]) _ hx
  have h2 := h y (by rw [ho]; simp [Op.operands]) _ hy
  simp only [Rep] at h1 h2
  obtain ⟨v, h1, _⟩ := h1
  refine ⟨.bool true, ?_, by simp only [Rep]⟩
  unfold execOp
  rw [ho]
  have e1 : eqGuard .neq ty x y (.iface t v) .nilIface = pure () := rfl
  have e2 : binOp .neq ty (.iface t v) .nilIface = (do pure (.bool (!(← Op.equal ty (.iface t v) .nilIface)))) := rfl
  simp [h1, h2, e1, e2, hr]
theorem s_assertT {x : Operand} {tx t : TypeId} (ho : o.op = .typeAssert x tx t true) (hr : ∀ (v : Value) (w : World), (Instr.typeAssert (.iface t v) tx t true).run P w = .ok (.tuple #[v, .bool true]) w) (hx : ρ x = some (.ifc t d)) : StepD P o ρ (.tup [d, .bool true]) := stepD_of fun p a w h => by
  have h1 := h x (by rw [ho]; simp [Op.operands]) _ hx
  simp only [Rep] at h1
  obtain ⟨v, h1, h2⟩ := h1
  refine ⟨.tuple #[v, .bool true], ?_, ?_⟩
  · unfold execOp
    rw [ho]
    simp [h1, hr]
  · simp only [Rep, Repl]
    exact ⟨[v, .bool true], rfl, _, _, rfl, h2, _, _, rfl, rfl, rfl⟩
end
section
variable {m : Md} {P : Program} {f : FuncId} {fn : Func} {K : Ctx} {R : D → St → Prop} {k : List Item} {env : Env} {σ : St}
theorem g_endD (_ : P.funcs[f]? = some fn) (ds : List D) (hds : ResDs P env σ fn.results.toList ds) (hR : R (packD ds) σ) : GoesG ⟨none, [], [], .deferred⟩ P f fn K R [] env σ := fun p a w hi hr hn hd b cs hb hk hro hf => by
  obtain ⟨e, h1, h2, h3⟩ := left_of (R := R) hi hr hd hf hds hR b hb hk []
  refine ⟨e, w, { b.atR a [] with mode := .returning }, h1, ?_, hb, h2⟩
  cases e with
  | returned v => exact Steps.one (stepR_end hro)
  | panicked c => exact Steps.one (stepR_end hro)
  | outgrown => exact absurd rfl h3
/-- A panic is recovered by the deferred closure, which writes the results. -/
theorem outD_of {g : FuncId} {b1 b2 s1 s2 : Nat} {d : D} {σ' : St} {ds : List D} (hm : m.marks = [{ target := .fn (.func g) #[.pointer (some ⟨b1, 0, none⟩), .pointer (some ⟨b2, 0, none⟩)], args := #[] }]) (hg : callee P g)
    (hrec : ∀ (p : Addr → Prop) (w : World) (v : Value), Inv K p σ w → Rep p w d v → CallsD P g #[.pointer (some ⟨b1, 0, none⟩), .pointer (some ⟨b2, 0, none⟩)] (.panicking [{ v, recovered := false }]) w fun e u' w' => u' = .panicking [{ v, recovered := true }] ∧ Left { K with X := fun _ _ => False } (fun d σ'' => d = .tup [] ∧ σ'' = σ') e w')
    (hres : ResDs P [(s1, .ref b1 0 []), (s2, .ref b2 0 [])] σ' fn.results.toList ds) (hR : R (packD ds) σ') (h1 : lk env s1 = some (.ref b1 0 [])) (h2 : lk env s2 = some (.ref b2 0 [])) : OutD m P fn K R env d σ := fun p a w v hi hr hv => by
  rw [hm]
  refine leaves_cons (f := g) (args := #[.pointer (some ⟨b1, 0, none⟩), .pointer (some ⟨b2, 0, none⟩)]) (by simp) ?_ ?_
  · simp only [invoke]
    rw [run_callFunc hg]
    congr 2
  · refine (hrec p w v hi hv).mono ?_
    rintro e u' w' ⟨rfl, hl⟩
    rcases hl with ⟨v', d', σ'', q, rfl, ⟨rfl, rfl⟩, hv', hi'⟩ | ⟨_, _, _, _, rfl, hx, _⟩
    · have hrel : RelEnv q w' [(s1, .ref b1 0 []), (s2, .ref b2 0 [])] a := fun t d ht => by
        rw [look_cons] at ht
        split at ht
        · rename_i e
          subst e
          injection ht with ht
          subst ht
          have := hr _ _ h1
          simp only [Rep] at this ⊢
          exact this
        · rw [look_cons] at ht
          split at ht
          · rename_i e
            subst e
            injection ht with ht
            subst ht
            have := hr _ _ h2
            simp only [Rep] at this ⊢
            exact this
          · cases ht
      have hi'' : Inv K q σ'' w' := hi'.of (by rfl) (by rfl) (by rfl)
      obtain ⟨v2, h3, h4⟩ := results_run hi'' hrel hres
      exact ⟨v2, h3, .inl ⟨v2, _, _, q, rfl, hR, h4, hi''⟩⟩
    · exact hx.elim
/-- A return, when the deferred closure has nothing to recover. -/
theorem leavesD_of {g : FuncId} {b1 b2 s1 s2 : Nat} {ds : List D} (hm : m.marks = [{ target := .fn (.func g) #[.pointer (some ⟨b1, 0, none⟩), .pointer (some ⟨b2, 0, none⟩)], args := #[] }]) (hg : callee P g)
    (hidle : ∀ (p : Addr → Prop) (w : World), Inv K p σ w → CallsD P g #[.pointer (some ⟨b1, 0, none⟩), .pointer (some ⟨b2, 0, none⟩)] .returning w fun e u' w' => u' = .returning ∧ Left { K with X := fun _ _ => False } (fun d σ' => d = .tup [] ∧ σ' = σ) e w')
    (h1 : lk env s1 = some (.ref b1 0 [])) (h2 : lk env s2 = some (.ref b2 0 []))
    (hres : ResDs P [(s1, .ref b1 0 []), (s2, .ref b2 0 [])] σ fn.results.toList ds) (hR : R (packD ds) σ) (p : Addr → Prop) (a : Act) (w : World) (hi : Inv K p σ w) (hr : RelEnv p w env a) : Leaves P fn a.tmps (Left K R) m.marks .returning w := by
  rw [hm]
  refine leaves_cons (f := g) (args := #[.pointer (some ⟨b1, 0, none⟩), .pointer (some ⟨b2, 0, none⟩)]) (by simp) ?_ ?_
  · simp only [invoke]
    rw [run_callFunc hg]
    congr 2
  · refine (hidle p w hi).mono ?_
    rintro e u' w' ⟨rfl, hl⟩
    rcases hl with ⟨v', d', σ'', q, rfl, ⟨rfl, rfl⟩, hv', hi'⟩ | ⟨_, _, _, _, rfl, hx, _⟩
    · have hrel : RelEnv q w' [(s1, .ref b1 0 []), (s2, .ref b2 0 [])] a := fun t d ht => by
        rw [look_cons] at ht
        split at ht
        · rename_i e
          subst e
          injection ht with ht
          subst ht
          have := hr _ _ h1
          simp only [Rep] at this ⊢
          exact this
        · rw [look_cons] at ht
          split at ht
          · rename_i e
            subst e
            injection ht with ht
            subst ht
            have := hr _ _ h2
            simp only [Rep] at this ⊢
            exact this
          · cases ht
      have hi'' : Inv K q _ w' := hi'.of (by rfl) (by rfl) (by rfl)
      obtain ⟨v2, h3, h4⟩ := results_run hi'' hrel hres
      exact ⟨v2, h3, .inl ⟨v2, _, _, q, rfl, hR, h4, hi''⟩⟩
    · exact hx.elim
end
end Go.Proofs.YtdoljfkjdfaakaaGreat


namespace Go.Proofs.YtdoljfkjdfaakaaGreat
set_option maxRecDepth 100000
open Go.RowKit

theorem ta_failure (v : Value) (w : World) : (Instr.typeAssert (.iface 191 v) 20 191 true).run Tryz.prog w = .ok (.tuple #[v, .bool true]) w := by
  kernel_rfl
/-- What a panic makes of the results. -/
def wholeR {α : Type} (z : α) (r : Int ⊕ (α × Int)) : α × Int := match r with
  | .inl c => (z, c)
  | .inr x => x

/-! ### Program -/
def z_Program : S_api_Program := ⟨[], []⟩
theorem neqI_Program (v : Value) (w : World) : (Op.equal 20 (.iface 191 v) .nilIface).run Tryz.prog w = .ok false w := rfl
set_option maxHeartbeats 1000000 in
theorem rec_Program {K : Ctx} (b8 b9 : Nat) (c c_0 : Int) (c_1 : S_api_Program) (p : Addr → Prop) (w : World) (v : Value) (hi : Inv K p [.cell b9 (.int .i64 c_0), .cell b8 (enc_S_api_Program c_1)] w) (hv : Rep p w (.ifc 191 (.agg [.int .i64 c])) v) :
    CallsD Tryz.prog 139 #[.pointer (some ⟨b8, 0, none⟩), .pointer (some ⟨b9, 0, none⟩)] (.panicking [{ v, recovered := false }]) w fun e u' w' => u' = .panicking [{ v, recovered := true }] ∧ Left { K with X := fun _ _ => False } (fun d σ => d = .tup [] ∧ σ = [.cell b9 (.int .i64 c), .cell b8 (enc_S_api_Program z_Program)]) e w' := by
  refine callsD_rec Tryz.func139 rfl rfl rfl rfl rfl rfl rfl (by decide) (by decide) (by decide) (by decide) hi hv fun K' => ?_
  refine g_seq ?_
  refine n_run (by kernel_rfl) [(0, .d), (1, .d)] rfl ?_
  refine r_d rfl rfl rfl (s_move rfl rfl) ?_
  refine r_d rfl rfl rfl (s_neqNilI rfl rfl rfl neqI_Program) ?_
  refine r_end ?_
  refine g_condT rfl ?_
  refine g_seq ?_
  refine n_run (by kernel_rfl) [(0, .d), (1, .d), (2, .d), (3, .d), (4, .d), (5, .w), (6, .w), (7, .d)] rfl ?_
  refine r_d rfl rfl rfl (s_move rfl rfl) ?_
  refine r_d rfl rfl rfl (s_assertT rfl ta_failure rfl) ?_
  refine r_d rfl rfl rfl (s_move rfl rfl) ?_
  refine r_d rfl rfl rfl (s_extract rfl rfl rfl) ?_
  refine r_d rfl rfl rfl (s_extract rfl rfl rfl) ?_
  refine r_w rfl rfl rfl (s_alloc rfl zv_snapshot_failure) ?_
  rintro _ _ ⟨b3_0, rfl, rfl⟩
  refine r_w01 rfl rfl rfl (t_store0 _ rfl rfl rfl (Wk.refl _) (pf0 _) (by exact ty_snapshot_failure) rfl rfl rfl) ?_
  refine r_d rfl rfl rfl (s_assign rfl rfl) ?_
  refine r_end ?_
  refine g_freeze 3 b3_0 rfl (pf0 _) ?_
  refine g_seq ?_
  refine g_seq ?_
  refine n_run (by kernel_rfl) [(0, .d), (1, .d)] rfl ?_
  refine r_d rfl rfl rfl (s_move rfl rfl) ?_
  refine r_d rfl rfl rfl (s_not rfl rfl) ?_
  refine r_end ?_
  refine g_condF rfl ?_
  refine g_skip ?_
  refine g_seq ?_
  refine n_run (by kernel_rfl) [(0, .w)] rfl ?_
  refine r_w rfl rfl rfl (s_alloc rfl zv_api_Program) ?_
  rintro _ _ ⟨b5_2, rfl, rfl⟩
  refine r_end ?_
  refine g_any (by kernel_rfl) (by kernel_rfl) [(0, .r), (1, .d), (2, .d), (3, .w), (4, .w)] (by kernel_rfl) ?_
  refine r_r rfl rfl rfl (t_loadRef rfl rfl (.head _) rfl rfl (by exact ty_api_Program) rfl) ?_
  refine r_d rfl rfl rfl (s_fieldAddr rfl fl_snapshot_failure_0 rfl rfl rfl rfl) ?_
  refine r_d rfl rfl rfl (s_load rfl rfl (by exact ty_api_Errno) rfl) ?_
  refine r_w01 rfl rfl rfl (t_store0 _ rfl rfl rfl (Wk.refl _) (pf2 _ _ _ _) (by exact ty_api_Program) rfl (sz_S_api_Program _) rfl) ?_
  refine r_w01 rfl rfl rfl (t_store0 _ rfl rfl rfl (Wk.refl _) (pf2 _ _ _ _) (by exact ty_api_Errno) rfl rfl rfl) ?_
  refine r_end ?_
  refine g_perm [_, _] _ ((pf1 _ _ _).trans (pf1 _ _ _)) ?_
  refine g_endD Tryz.func139 _ .nil ?_
  exact ⟨rfl, rfl⟩
theorem idle_Program {K : Ctx} {σ : St} (b8 b9 : Nat) (p : Addr → Prop) (w : World) (hi : Inv K p σ w) :
    CallsD Tryz.prog 139 #[.pointer (some ⟨b8, 0, none⟩), .pointer (some ⟨b9, 0, none⟩)] .returning w fun e u' w' => u' = .returning ∧ Left { K with X := fun _ _ => False } (fun d σ' => d = .tup [] ∧ σ' = σ) e w' := by
  refine callsD_idle Tryz.func139 rfl rfl rfl rfl rfl rfl rfl (by decide) (by decide) (by decide) (by decide) hi fun K' => ?_
  refine g_seq ?_
  refine n_run (by kernel_rfl) [(0, .d), (1, .d)] rfl ?_
  refine r_d rfl rfl rfl (s_move rfl rfl) ?_
  refine r_d rfl rfl rfl (s_neqNilN rfl rfl fun _ => rfl) ?_
  refine r_end ?_
  refine g_condF rfl ?_
  refine g_skip ?_
  refine g_endD Tryz.func139 _ .nil ?_
  exact ⟨rfl, rfl⟩
theorem cl_whole1_Program : callee Tryz.prog 139 := ⟨_, _, Tryz.func139, rfl, by decide⟩
noncomputable def lf_whole_Program (fuel : Nat) (b_a0 : (List Int)) (first_a1 : Int) : Option (Int ⊕ (S_api_Program × Int)) :=
  (bindX (lf_Psnapshot_reader_number_s1 first_a1 first_a1 (⟨b_a0, 0⟩ : S_snapshot_reader)) fun r_4 =>
  (bindX (lf_snapshot_TakeProgram_1_s1 fuel r_4.2) fun r_5 =>
  (bif (decide (r_5.2.f1_at < (b_a0.length : Int))) then
  some (.inl 3)
  else
  ((lf_snapshot_Program fuel r_5.1).bind fun r_8 =>
  (bif ((r_8.length : Int) == (0 : Int)) then
  some (.inl 2)
  else
  some (.inr (r_5.1, 0)))))))
set_option maxHeartbeats 2000000 in
theorem lg_whole_Program (fuel : Nat) (b_a0 : (List Int)) (first_a1 : Int) (res : Int ⊕ (S_api_Program × Int)) (hr : lf_whole_Program fuel b_a0 first_a1 = some res) : Gives Tryz.prog 46 [.lst (b_a0.map (D.int .u8)), .int .i64 first_a1, .clo (.func 47) [] [], .clo (.func 11) [] []] (.tup [enc_S_api_Program (wholeR z_Program res).1, .int .i64 (wholeR z_Program res).2]) := by
  unfold lf_whole_Program at hr
  refine spec_env [(0, .lst (b_a0.map (D.int .u8))), (1, .int .i64 first_a1), (2, .clo (.func 47) [] []), (3, .clo (.func 11) [] [])] Tryz.func46 rfl rfl fun K hK => ?_
  refine g_seq ?_
  refine g_run (by kernel_rfl) [(0, .w), (1, .w)] rfl ?_
  refine r_w rfl rfl rfl (s_alloc rfl zv_api_Program) ?_
  rintro _ _ ⟨b8_0, rfl, rfl⟩
  refine r_w rfl rfl rfl (s_alloc rfl zv_api_Errno) ?_
  rintro _ _ ⟨b9_1, rfl, rfl⟩
  refine r_end ?_
  refine g_seq ?_
  refine g_defer2 rfl rfl rfl rfl rfl rfl rfl rfl rfl (by decide) ?_
  have hX : ∀ (e : Env) (c : Int), res = .inl c → lk e 8 = some (.ref b8_0 0 []) → lk e 9 = some (.ref b9_1 0 []) → OutD { Md.top with ds := { target := .fn (.func 139) #[.pointer (some ⟨b8_0, 0, none⟩), .pointer (some ⟨b9_1, 0, none⟩)], args := #[] } :: Md.top.ds } Tryz.prog Tryz.f46 K (fun d' _ => d' = .tup [enc_S_api_Program (wholeR z_Program res).1, .int .i64 (wholeR z_Program res).2]) e (.ifc 191 (.agg [.int .i64 c])) [.cell b9_1 (.int .i64 0), .cell b8_0 (enc_S_api_Program z_Program)] := fun e c hc h8 h9 => by
    refine outD_of (s1 := 8) (s2 := 9) (ds := [enc_S_api_Program z_Program, .int .i64 c]) rfl cl_whole1_Program (fun p w v hi hv => rec_Program b8_0 b9_1 c 0 z_Program p w v hi hv) (.cons (resRef rfl (.tail _ (.head _)) (by exact ty_api_Program) (sz_S_api_Program _) (Wk.refl _)) (.cons (resRef rfl (.head _) (by exact ty_api_Errno) rfl (Wk.refl _)) .nil)) ?_ h8 h9
    rw [hc]
    rfl
  refine g_seq ?_
  refine g_runD rfl rfl (by kernel_rfl) [(0, .d), (1, .d), (2, .w), (3, .d)] rfl ?_
  refine r_d rfl rfl rfl (s_move rfl rfl) ?_
  refine r_d rfl rfl rfl (s_build rfl bt_snapshot_reader (.cons rfl (Wk.refl _) .nil) (.cons rfl rfl rfl (.nil _))) ?_
  refine r_w rfl rfl rfl (s_boxRef rfl rfl rfl) ?_
  rintro _ _ ⟨b15_2, rfl, rfl⟩
  refine r_d rfl rfl rfl (s_assign rfl rfl) ?_
  refine r_end ?_
  refine g_seq ?_
  refine g_runD rfl rfl (by kernel_rfl) [(0, .d), (1, .d), (2, .d), (3, .w)] rfl ?_
  refine r_d rfl rfl rfl (s_move rfl rfl) ?_
  refine r_d rfl rfl rfl (s_move rfl rfl) ?_
  refine r_d rfl rfl rfl (s_move rfl rfl) ?_
  rcases bindXS hr with ⟨c_r_4, hr_4, rfl⟩ | ⟨r_4, hr_4, hr⟩
  ·
   refine r_die rfl rfl (s_callXT _ rfl cl_Psnapshot_reader_number (.cons rfl (Wk.refl _) (.cons rfl (Wk.refl _) (.cons rfl (Wk.refl _) .nil))) (by exact (pf0 _)) (specX_inl (lg_Psnapshot_reader_number_s1 _ _ _ _ _ hr_4))) (hX _ _ rfl rfl rfl)
  ·
   refine r_w rfl rfl rfl (s_call _ rfl cl_Psnapshot_reader_number (.cons rfl (Wk.refl _) (.cons rfl (Wk.refl _) (.cons rfl (Wk.refl _) .nil))) (by exact (pf0 _)) (specX_inr (lg_Psnapshot_reader_number_s1 _ _ _ _ _ hr_4))) ?_
   rintro _ _ ⟨_, ⟨rfl, rfl⟩, rfl⟩
   refine r_st ((.cell b15_2 (enc_S_snapshot_reader r_4.2)) :: _) rfl ?_
   refine r_end ?_
   refine g_seq ?_
   refine g_runD rfl rfl (by kernel_rfl) [(0, .d), (1, .d), (2, .w), (3, .w), (4, .w)] rfl ?_
   refine r_d rfl rfl rfl (s_move rfl rfl) ?_
   refine r_d rfl rfl rfl (s_move rfl rfl) ?_
   rcases bindXS hr with ⟨c_r_5, hr_5, rfl⟩ | ⟨r_5, hr_5, hr⟩
   ·
    refine r_die rfl rfl (s_callVXT _ rfl rfl cl_snapshot_TakeProgram_1 (.cons rfl (Wk.refl _) .nil) rfl (by exact (pf0 _)) (specX_inl (lg_snapshot_TakeProgram_1_s1 fuel _ _ _ hr_5))) (hX _ _ rfl rfl rfl)
   ·
    refine r_w rfl rfl rfl (s_callV _ rfl rfl cl_snapshot_TakeProgram_1 (.cons rfl (Wk.refl _) .nil) rfl (by exact (pf0 _)) (specX_inr (lg_snapshot_TakeProgram_1_s1 fuel _ _ _ hr_5))) ?_
    rintro _ _ ⟨_, ⟨rfl, rfl⟩, rfl⟩
    refine r_st ((.cell b15_2 (enc_S_snapshot_reader r_5.2)) :: _) rfl ?_
    refine r_w rfl rfl rfl (s_alloc rfl zv_api_Program) ?_
    rintro _ _ ⟨b11_5, rfl, rfl⟩
    refine r_w01 rfl rfl rfl (t_store0 _ rfl rfl rfl (Wk.refl _) (pf0 _) (by exact ty_api_Program) (sz_S_api_Program _) rfl rfl) ?_
    refine r_end ?_
    refine g_freeze 11 b11_5 rfl (pf0 _) ?_
    refine g_seq ?_
    refine g_block ?_
    refine g_seq ?_
    refine g_runD rfl rfl (by kernel_rfl) [(0, .d), (1, .d), (2, .d), (3, .r), (4, .d), (5, .d), (6, .d), (7, .d)] rfl ?_
    refine r_d rfl rfl rfl (s_move rfl rfl) ?_
    refine r_d rfl rfl rfl (s_nilCheckR rfl rfl) ?_
    refine r_d rfl rfl rfl (s_fieldRef rfl fl_snapshot_reader_1 rfl) ?_
    refine r_r rfl rfl rfl (t_loadRef rfl rfl (.head _) rfl rfl (by exact ty_int) rfl) ?_
    refine r_d rfl rfl rfl (s_move rfl rfl) ?_
    refine r_d rfl rfl rfl (m_len (f := (D.int .u8)) b_a0 rfl el_L_uint8 rfl (asl rfl)) ?_
    refine r_d rfl rfl rfl (s_cmp rfl rfl rfl rfl) ?_
    refine r_d rfl rfl rfl (s_assign rfl rfl) ?_
    refine r_end ?_
    refine g_sB 23 rfl hr (fun h23_6 hr => ?_) (fun h23_6 hr => ?_)
    ·
     refine g_condT rfl ?_
     refine g_runD rfl rfl (by kernel_rfl) [(0, .d), (1, .d), (2, .w)] rfl ?_
     refine r_d rfl rfl rfl (s_build rfl bt_snapshot_failure (.cons rfl (Wk.refl _) .nil) (.cons rfl rfl rfl (.nil _))) ?_
     refine r_d rfl rfl rfl (s_makeIfc rfl Tryz.underlying191 rfl) ?_
     obtain rfl := Option.some.inj hr
     refine r_die rfl rfl (s_panicT _ rfl rfl (List.perm_append_comm (l₁ := [_]) (l₂ := [_, _]))) (hX _ _ rfl rfl rfl)
    ·
     refine g_condF rfl ?_
     refine g_seq ?_
     refine g_runD rfl rfl (by kernel_rfl) [(0, .d), (1, .d), (2, .d), (3, .d), (4, .d), (5, .d)] rfl ?_
     refine r_d rfl rfl rfl (s_move rfl rfl) ?_
     refine r_d rfl rfl rfl (s_load rfl rfl (by exact ty_api_Program) (sz_S_api_Program _)) ?_
     obtain ⟨r_8, hr_8, hr⟩ := bindS hr
     refine r_d rfl rfl rfl (s_callVD rfl rfl cl_snapshot_Program (.cons rfl (Wk.refl _) .nil) rfl (lg_snapshot_Program fuel _ _ hr_8)) ?_
     refine r_d rfl rfl rfl (m_len (f := (D.int .u8)) r_8 rfl el_L_uint8 rfl (asl rfl)) ?_
     refine r_d rfl rfl rfl (s_cmp rfl rfl rfl rfl) ?_
     refine r_d rfl rfl rfl (s_assign rfl rfl) ?_
     refine r_end ?_
     refine g_sB 33 rfl hr (fun h33_8 hr => ?_) (fun h33_8 hr => ?_)
     ·
      refine g_condT rfl ?_
      refine g_runD rfl rfl (by kernel_rfl) [(0, .d), (1, .d), (2, .w)] rfl ?_
      refine r_d rfl rfl rfl (s_build rfl bt_snapshot_failure (.cons rfl (Wk.refl _) .nil) (.cons rfl rfl rfl (.nil _))) ?_
      refine r_d rfl rfl rfl (s_makeIfc rfl Tryz.underlying191 rfl) ?_
      obtain rfl := Option.some.inj hr
      refine r_die rfl rfl (s_panicT _ rfl rfl (List.perm_append_comm (l₁ := [_]) (l₂ := [_, _]))) (hX _ _ rfl rfl rfl)
     ·
      refine g_condF rfl ?_
      refine g_skip ?_
      refine g_inBlock ?_
      refine g_seq ?_
      refine g_runD rfl rfl (by kernel_rfl) [(0, .d), (1, .w), (2, .w)] rfl ?_
      refine r_d rfl rfl rfl (s_load rfl rfl (by exact ty_api_Program) (sz_S_api_Program _)) ?_
      refine r_w01 rfl rfl rfl (t_store0 _ rfl rfl rfl (Wk.refl _) (pf2 _ _ _ _) (by exact ty_api_Program) (sz_S_api_Program _) rfl rfl) ?_
      refine r_w01 rfl rfl rfl (t_store0 _ rfl rfl rfl (Wk.refl _) (pf2 _ _ _ _) (by exact ty_api_Errno) rfl rfl rfl) ?_
      refine r_end ?_
      obtain rfl := Option.some.inj hr
      exact g_retD rfl rfl fun p a w hi hr => leavesD_of (ds := [_, _]) rfl cl_whole1_Program (fun p w hi => idle_Program _ _ p w hi) (s1 := 8) (s2 := 9) rfl rfl (.cons (resRef rfl (.tail _ (.head _)) (by exact ty_api_Program) (sz_S_api_Program _) (Wk.refl _)) (.cons (resRef rfl (.head _) (by exact ty_api_Errno) rfl (Wk.refl _)) .nil)) rfl p a w hi hr

noncomputable def lf_wholeR_Program (fuel : Nat) (b : List Int) (n : Int) : Option (S_api_Program × Int) := (lf_whole_Program fuel b n).bind fun r => some (wholeR z_Program r)
theorem lg_wholeR_Program (fuel : Nat) (b : List Int) (n : Int) (res : S_api_Program × Int) (hr : lf_wholeR_Program fuel b n = some res) : Gives Tryz.prog 46 [.lst (b.map (D.int .u8)), .int .i64 n, .clo (.func 47) [] [], .clo (.func 11) [] []] (.tup [enc_S_api_Program res.1, .int .i64 res.2]) := by
  obtain ⟨r, h1, h2⟩ := bindS hr
  rw [← Option.some.inj h2]
  exact lg_whole_Program fuel b n r h1
/-! ### Config -/
def z_Config : S_api_Config := ⟨[], [], [], [], 0, 0, false⟩
theorem neqI_Config (v : Value) (w : World) : (Op.equal 20 (.iface 191 v) .nilIface).run Tryz.prog w = .ok false w := rfl
set_option maxHeartbeats 1000000 in
theorem rec_Config {K : Ctx} (b8 b9 : Nat) (c c_0 : Int) (c_1 : S_api_Config) (p : Addr → Prop) (w : World) (v : Value) (hi : Inv K p [.cell b9 (.int .i64 c_0), .cell b8 (enc_S_api_Config c_1)] w) (hv : Rep p w (.ifc 191 (.agg [.int .i64 c])) v) :
    CallsD Tryz.prog 160 #[.pointer (some ⟨b8, 0, none⟩), .pointer (some ⟨b9, 0, none⟩)] (.panicking [{ v, recovered := false }]) w fun e u' w' => u' = .panicking [{ v, recovered := true }] ∧ Left { K with X := fun _ _ => False } (fun d σ => d = .tup [] ∧ σ = [.cell b9 (.int .i64 c), .cell b8 (enc_S_api_Config z_Config)]) e w' := by
  refine callsD_rec Tryz.func160 rfl rfl rfl rfl rfl rfl rfl (by decide) (by decide) (by decide) (by decide) hi hv fun K' => ?_
  refine g_seq ?_
  refine n_run (by kernel_rfl) [(0, .d), (1, .d)] rfl ?_
  refine r_d rfl rfl rfl (s_move rfl rfl) ?_
  refine r_d rfl rfl rfl (s_neqNilI rfl rfl rfl neqI_Config) ?_
  refine r_end ?_
  refine g_condT rfl ?_
  refine g_seq ?_
  refine n_run (by kernel_rfl) [(0, .d), (1, .d), (2, .d), (3, .d), (4, .d), (5, .w), (6, .w), (7, .d)] rfl ?_
  refine r_d rfl rfl rfl (s_move rfl rfl) ?_
  refine r_d rfl rfl rfl (s_assertT rfl ta_failure rfl) ?_
  refine r_d rfl rfl rfl (s_move rfl rfl) ?_
  refine r_d rfl rfl rfl (s_extract rfl rfl rfl) ?_
  refine r_d rfl rfl rfl (s_extract rfl rfl rfl) ?_
  refine r_w rfl rfl rfl (s_alloc rfl zv_snapshot_failure) ?_
  rintro _ _ ⟨b3_0, rfl, rfl⟩
  refine r_w01 rfl rfl rfl (t_store0 _ rfl rfl rfl (Wk.refl _) (pf0 _) (by exact ty_snapshot_failure) rfl rfl rfl) ?_
  refine r_d rfl rfl rfl (s_assign rfl rfl) ?_
  refine r_end ?_
  refine g_freeze 3 b3_0 rfl (pf0 _) ?_
  refine g_seq ?_
  refine g_seq ?_
  refine n_run (by kernel_rfl) [(0, .d), (1, .d)] rfl ?_
  refine r_d rfl rfl rfl (s_move rfl rfl) ?_
  refine r_d rfl rfl rfl (s_not rfl rfl) ?_
  refine r_end ?_
  refine g_condF rfl ?_
  refine g_skip ?_
  refine g_seq ?_
  refine n_run (by kernel_rfl) [(0, .w)] rfl ?_
  refine r_w rfl rfl rfl (s_alloc rfl zv_api_Config) ?_
  rintro _ _ ⟨b5_2, rfl, rfl⟩
  refine r_end ?_
  refine g_any (by kernel_rfl) (by kernel_rfl) [(0, .r), (1, .d), (2, .d), (3, .w), (4, .w)] (by kernel_rfl) ?_
  refine r_r rfl rfl rfl (t_loadRef rfl rfl (.head _) rfl rfl (by exact ty_api_Config) rfl) ?_
  refine r_d rfl rfl rfl (s_fieldAddr rfl fl_snapshot_failure_0 rfl rfl rfl rfl) ?_
  refine r_d rfl rfl rfl (s_load rfl rfl (by exact ty_api_Errno) rfl) ?_
  refine r_w01 rfl rfl rfl (t_store0 _ rfl rfl rfl (Wk.refl _) (pf2 _ _ _ _) (by exact ty_api_Config) rfl (sz_S_api_Config _) rfl) ?_
  refine r_w01 rfl rfl rfl (t_store0 _ rfl rfl rfl (Wk.refl _) (pf2 _ _ _ _) (by exact ty_api_Errno) rfl rfl rfl) ?_
  refine r_end ?_
  refine g_perm [_, _] _ ((pf1 _ _ _).trans (pf1 _ _ _)) ?_
  refine g_endD Tryz.func160 _ .nil ?_
  exact ⟨rfl, rfl⟩
theorem idle_Config {K : Ctx} {σ : St} (b8 b9 : Nat) (p : Addr → Prop) (w : World) (hi : Inv K p σ w) :
    CallsD Tryz.prog 160 #[.pointer (some ⟨b8, 0, none⟩), .pointer (some ⟨b9, 0, none⟩)] .returning w fun e u' w' => u' = .returning ∧ Left { K with X := fun _ _ => False } (fun d σ' => d = .tup [] ∧ σ' = σ) e w' := by
  refine callsD_idle Tryz.func160 rfl rfl rfl rfl rfl rfl rfl (by decide) (by decide) (by decide) (by decide) hi fun K' => ?_
  refine g_seq ?_
  refine n_run (by kernel_rfl) [(0, .d), (1, .d)] rfl ?_
  refine r_d rfl rfl rfl (s_move rfl rfl) ?_
  refine r_d rfl rfl rfl (s_neqNilN rfl rfl fun _ => rfl) ?_
  refine r_end ?_
  refine g_condF rfl ?_
  refine g_skip ?_
  refine g_endD Tryz.func160 _ .nil ?_
  exact ⟨rfl, rfl⟩
theorem cl_whole1_Config : callee Tryz.prog 160 := ⟨_, _, Tryz.func160, rfl, by decide⟩
noncomputable def lf_whole_Config (fuel : Nat) (b_a0 : (List Int)) (first_a1 : Int) : Option (Int ⊕ (S_api_Config × Int)) :=
  (bindX (lf_Psnapshot_reader_number_s1 first_a1 first_a1 (⟨b_a0, 0⟩ : S_snapshot_reader)) fun r_4 =>
  (bindX (lf_snapshot_TakeConfig_1_s1 fuel r_4.2) fun r_5 =>
  (bif (decide (r_5.2.f1_at < (b_a0.length : Int))) then
  some (.inl 3)
  else
  ((lf_snapshot_Config fuel r_5.1).bind fun r_8 =>
  (bif ((r_8.length : Int) == (0 : Int)) then
  some (.inl 2)
  else
  some (.inr (r_5.1, 0)))))))
set_option maxHeartbeats 2000000 in
theorem lg_whole_Config (fuel : Nat) (b_a0 : (List Int)) (first_a1 : Int) (res : Int ⊕ (S_api_Config × Int)) (hr : lf_whole_Config fuel b_a0 first_a1 = some res) : Gives Tryz.prog 76 [.lst (b_a0.map (D.int .u8)), .int .i64 first_a1, .clo (.func 77) [] [], .clo (.func 17) [] []] (.tup [enc_S_api_Config (wholeR z_Config res).1, .int .i64 (wholeR z_Config res).2]) := by
  unfold lf_whole_Config at hr
  refine spec_env [(0, .lst (b_a0.map (D.int .u8))), (1, .int .i64 first_a1), (2, .clo (.func 77) [] []), (3, .clo (.func 17) [] [])] Tryz.func76 rfl rfl fun K hK => ?_
  refine g_seq ?_
  refine g_run (by kernel_rfl) [(0, .w), (1, .w)] rfl ?_
  refine r_w rfl rfl rfl (s_alloc rfl zv_api_Config) ?_
  rintro _ _ ⟨b8_0, rfl, rfl⟩
  refine r_w rfl rfl rfl (s_alloc rfl zv_api_Errno) ?_
  rintro _ _ ⟨b9_1, rfl, rfl⟩
  refine r_end ?_
  refine g_seq ?_
  refine g_defer2 rfl rfl rfl rfl rfl rfl rfl rfl rfl (by decide) ?_
  have hX : ∀ (e : Env) (c : Int), res = .inl c → lk e 8 = some (.ref b8_0 0 []) → lk e 9 = some (.ref b9_1 0 []) → OutD { Md.top with ds := { target := .fn (.func 160) #[.pointer (some ⟨b8_0, 0, none⟩), .pointer (some ⟨b9_1, 0, none⟩)], args := #[] } :: Md.top.ds } Tryz.prog Tryz.f76 K (fun d' _ => d' = .tup [enc_S_api_Config (wholeR z_Config res).1, .int .i64 (wholeR z_Config res).2]) e (.ifc 191 (.agg [.int .i64 c])) [.cell b9_1 (.int .i64 0), .cell b8_0 (enc_S_api_Config z_Config)] := fun e c hc h8 h9 => by
    refine outD_of (s1 := 8) (s2 := 9) (ds := [enc_S_api_Config z_Config, .int .i64 c]) rfl cl_whole1_Config (fun p w v hi hv => rec_Config b8_0 b9_1 c 0 z_Config p w v hi hv) (.cons (resRef rfl (.tail _ (.head _)) (by exact ty_api_Config) (sz_S_api_Config _) (Wk.refl _)) (.cons (resRef rfl (.head _) (by exact ty_api_Errno) rfl (Wk.refl _)) .nil)) ?_ h8 h9
    rw [hc]
    rfl
  refine g_seq ?_
  refine g_runD rfl rfl (by kernel_rfl) [(0, .d), (1, .d), (2, .w), (3, .d)] rfl ?_
  refine r_d rfl rfl rfl (s_move rfl rfl) ?_
  refine r_d rfl rfl rfl (s_build rfl bt_snapshot_reader (.cons rfl (Wk.refl _) .nil) (.cons rfl rfl rfl (.nil _))) ?_
  refine r_w rfl rfl rfl (s_boxRef rfl rfl rfl) ?_
  rintro _ _ ⟨b15_2, rfl, rfl⟩
  refine r_d rfl rfl rfl (s_assign rfl rfl) ?_
  refine r_end ?_
  refine g_seq ?_
  refine g_runD rfl rfl (by kernel_rfl) [(0, .d), (1, .d), (2, .d), (3, .w)] rfl ?_
  refine r_d rfl rfl rfl (s_move rfl rfl) ?_
  refine r_d rfl rfl rfl (s_move rfl rfl) ?_
  refine r_d rfl rfl rfl (s_move rfl rfl) ?_
  rcases bindXS hr with ⟨c_r_4, hr_4, rfl⟩ | ⟨r_4, hr_4, hr⟩
  ·
   refine r_die rfl rfl (s_callXT _ rfl cl_Psnapshot_reader_number (.cons rfl (Wk.refl _) (.cons rfl (Wk.refl _) (.cons rfl (Wk.refl _) .nil))) (by exact (pf0 _)) (specX_inl (lg_Psnapshot_reader_number_s1 _ _ _ _ _ hr_4))) (hX _ _ rfl rfl rfl)
  ·
   refine r_w rfl rfl rfl (s_call _ rfl cl_Psnapshot_reader_number (.cons rfl (Wk.refl _) (.cons rfl (Wk.refl _) (.cons rfl (Wk.refl _) .nil))) (by exact (pf0 _)) (specX_inr (lg_Psnapshot_reader_number_s1 _ _ _ _ _ hr_4))) ?_
   rintro _ _ ⟨_, ⟨rfl, rfl⟩, rfl⟩
   refine r_st ((.cell b15_2 (enc_S_snapshot_reader r_4.2)) :: _) rfl ?_
   refine r_end ?_
   refine g_seq ?_
   refine g_runD rfl rfl (by kernel_rfl) [(0, .d), (1, .d), (2, .w), (3, .w), (4, .w)] rfl ?_
   refine r_d rfl rfl rfl (s_move rfl rfl) ?_
   refine r_d rfl rfl rfl (s_move rfl rfl) ?_
   rcases bindXS hr with ⟨c_r_5, hr_5, rfl⟩ | ⟨r_5, hr_5, hr⟩
   ·
    refine r_die rfl rfl (s_callVXT _ rfl rfl cl_snapshot_TakeConfig_1 (.cons rfl (Wk.refl _) .nil) rfl (by exact (pf0 _)) (specX_inl (lg_snapshot_TakeConfig_1_s1 fuel _ _ _ hr_5))) (hX _ _ rfl rfl rfl)
   ·
    refine r_w rfl rfl rfl (s_callV _ rfl rfl cl_snapshot_TakeConfig_1 (.cons rfl (Wk.refl _) .nil) rfl (by exact (pf0 _)) (specX_inr (lg_snapshot_TakeConfig_1_s1 fuel _ _ _ hr_5))) ?_
    rintro _ _ ⟨_, ⟨rfl, rfl⟩, rfl⟩
    refine r_st ((.cell b15_2 (enc_S_snapshot_reader r_5.2)) :: _) rfl ?_
    refine r_w rfl rfl rfl (s_alloc rfl zv_api_Config) ?_
    rintro _ _ ⟨b11_5, rfl, rfl⟩
    refine r_w01 rfl rfl rfl (t_store0 _ rfl rfl rfl (Wk.refl _) (pf0 _) (by exact ty_api_Config) (sz_S_api_Config _) rfl rfl) ?_
    refine r_end ?_
    refine g_freeze 11 b11_5 rfl (pf0 _) ?_
    refine g_seq ?_
    refine g_block ?_
    refine g_seq ?_
    refine g_runD rfl rfl (by kernel_rfl) [(0, .d), (1, .d), (2, .d), (3, .r), (4, .d), (5, .d), (6, .d), (7, .d)] rfl ?_
    refine r_d rfl rfl rfl (s_move rfl rfl) ?_
    refine r_d rfl rfl rfl (s_nilCheckR rfl rfl) ?_
    refine r_d rfl rfl rfl (s_fieldRef rfl fl_snapshot_reader_1 rfl) ?_
    refine r_r rfl rfl rfl (t_loadRef rfl rfl (.head _) rfl rfl (by exact ty_int) rfl) ?_
    refine r_d rfl rfl rfl (s_move rfl rfl) ?_
    refine r_d rfl rfl rfl (m_len (f := (D.int .u8)) b_a0 rfl el_L_uint8 rfl (asl rfl)) ?_
    refine r_d rfl rfl rfl (s_cmp rfl rfl rfl rfl) ?_
    refine r_d rfl rfl rfl (s_assign rfl rfl) ?_
    refine r_end ?_
    refine g_sB 23 rfl hr (fun h23_6 hr => ?_) (fun h23_6 hr => ?_)
    ·
     refine g_condT rfl ?_
     refine g_runD rfl rfl (by kernel_rfl) [(0, .d), (1, .d), (2, .w)] rfl ?_
     refine r_d rfl rfl rfl (s_build rfl bt_snapshot_failure (.cons rfl (Wk.refl _) .nil) (.cons rfl rfl rfl (.nil _))) ?_
     refine r_d rfl rfl rfl (s_makeIfc rfl Tryz.underlying191 rfl) ?_
     obtain rfl := Option.some.inj hr
     refine r_die rfl rfl (s_panicT _ rfl rfl (List.perm_append_comm (l₁ := [_]) (l₂ := [_, _]))) (hX _ _ rfl rfl rfl)
    ·
     refine g_condF rfl ?_
     refine g_seq ?_
     refine g_runD rfl rfl (by kernel_rfl) [(0, .d), (1, .d), (2, .d), (3, .d), (4, .d), (5, .d)] rfl ?_
     refine r_d rfl rfl rfl (s_move rfl rfl) ?_
     refine r_d rfl rfl rfl (s_load rfl rfl (by exact ty_api_Config) (sz_S_api_Config _)) ?_
     obtain ⟨r_8, hr_8, hr⟩ := bindS hr
     refine r_d rfl rfl rfl (s_callVD rfl rfl cl_snapshot_Config (.cons rfl (Wk.refl _) .nil) rfl (lg_snapshot_Config fuel _ _ hr_8)) ?_
     refine r_d rfl rfl rfl (m_len (f := (D.int .u8)) r_8 rfl el_L_uint8 rfl (asl rfl)) ?_
     refine r_d rfl rfl rfl (s_cmp rfl rfl rfl rfl) ?_
     refine r_d rfl rfl rfl (s_assign rfl rfl) ?_
     refine r_end ?_
     refine g_sB 33 rfl hr (fun h33_8 hr => ?_) (fun h33_8 hr => ?_)
     ·
      refine g_condT rfl ?_
      refine g_runD rfl rfl (by kernel_rfl) [(0, .d), (1, .d), (2, .w)] rfl ?_
      refine r_d rfl rfl rfl (s_build rfl bt_snapshot_failure (.cons rfl (Wk.refl _) .nil) (.cons rfl rfl rfl (.nil _))) ?_
      refine r_d rfl rfl rfl (s_makeIfc rfl Tryz.underlying191 rfl) ?_
      obtain rfl := Option.some.inj hr
      refine r_die rfl rfl (s_panicT _ rfl rfl (List.perm_append_comm (l₁ := [_]) (l₂ := [_, _]))) (hX _ _ rfl rfl rfl)
     ·
      refine g_condF rfl ?_
      refine g_skip ?_
      refine g_inBlock ?_
      refine g_seq ?_
      refine g_runD rfl rfl (by kernel_rfl) [(0, .d), (1, .w), (2, .w)] rfl ?_
      refine r_d rfl rfl rfl (s_load rfl rfl (by exact ty_api_Config) (sz_S_api_Config _)) ?_
      refine r_w01 rfl rfl rfl (t_store0 _ rfl rfl rfl (Wk.refl _) (pf2 _ _ _ _) (by exact ty_api_Config) (sz_S_api_Config _) rfl rfl) ?_
      refine r_w01 rfl rfl rfl (t_store0 _ rfl rfl rfl (Wk.refl _) (pf2 _ _ _ _) (by exact ty_api_Errno) rfl rfl rfl) ?_
      refine r_end ?_
      obtain rfl := Option.some.inj hr
      exact g_retD rfl rfl fun p a w hi hr => leavesD_of (ds := [_, _]) rfl cl_whole1_Config (fun p w hi => idle_Config _ _ p w hi) (s1 := 8) (s2 := 9) rfl rfl (.cons (resRef rfl (.tail _ (.head _)) (by exact ty_api_Config) (sz_S_api_Config _) (Wk.refl _)) (.cons (resRef rfl (.head _) (by exact ty_api_Errno) rfl (Wk.refl _)) .nil)) rfl p a w hi hr

noncomputable def lf_wholeR_Config (fuel : Nat) (b : List Int) (n : Int) : Option (S_api_Config × Int) := (lf_whole_Config fuel b n).bind fun r => some (wholeR z_Config r)
theorem lg_wholeR_Config (fuel : Nat) (b : List Int) (n : Int) (res : S_api_Config × Int) (hr : lf_wholeR_Config fuel b n = some res) : Gives Tryz.prog 76 [.lst (b.map (D.int .u8)), .int .i64 n, .clo (.func 77) [] [], .clo (.func 17) [] []] (.tup [enc_S_api_Config res.1, .int .i64 res.2]) := by
  obtain ⟨r, h1, h2⟩ := bindS hr
  rw [← Option.some.inj h2]
  exact lg_whole_Config fuel b n r h1
/-! ### Memory -/
end Go.Proofs.YtdoljfkjdfaakaaGreat


namespace Go.Proofs.YtdoljfkjdfaakaaGreat
set_option maxRecDepth 100000
open Go.RowKit

theorem loopT_s1 (rec : Int → RR → Option (Int ⊕ (List T × RR))) (d : Int) : ∀ (n : Nat) (out : List T) (c : RR), lf_snapshot_take_s1_L0 (fun o r => some (.inr (o, r))) rec d n out c = runT (lfo_Psnapshot_reader_args_1_s1 rec d) 56 n out c
  | 0, out, c => rfl
  | n + 1, out, c => by
    rw [lf_snapshot_take_s1_L0, runT]
    simp only [loopT_s1 rec d n]
theorem args_1 (rec : Int → RR → Option (Int ⊕ (List T × RR))) (d : Int) (c : RR) : lfo_Psnapshot_reader_args_1_s1 rec d c = lfo_Psnapshot_reader_term_s1 rec d c := by
  unfold lfo_Psnapshot_reader_args_1_s1
  cases lfo_Psnapshot_reader_term_s1 rec d c with
  | none => rfl
  | some s => cases s <;> rfl
theorem bindX_id {α : Type} (x : Option (Int ⊕ (α × RR))) : (bindX x fun r => some (.inr (r.1, r.2))) = x := by
  cases x with
  | none => rfl
  | some s => cases s <;> rfl
theorem rd_term1 {rec : Int → RR → Option (Int ⊕ (List T × RR))} (t : T) (d : Int) (hd0 : 0 ≤ d) (hd : d + depthT t ≤ 20) (hf : formT t = true) (hr : t.k = 2 → Rdr (rec (wr (d + 1))) (encN t.ar.length ++ bL t.ar) t.ar) : Rdr (lfo_Psnapshot_reader_term_s1 rec d) (bT t) t := by
  have h19 : decide (d > 19) = false := decide_eq_false (by
    have : 1 ≤ depthT t := by rw [depthT_eq]; omega
    omega)
  have hcong : ∀ (r : Option (List Int)) (x : T), r = some (bT t) → RdO (fun c => bindX (lf_Psnapshot_reader_number_s1 0 2 c) fun r_3 => bif (r_3.1 == (0 : Int)) then (bindX (lf_Psnapshot_reader_number_s1 (-2147483648) 2147483648 r_3.2) fun r_6 => some (.inr ((T.mk r_3.1 r_6.1 ⟨#[]⟩ []), r_6.2))) else (bif (r_3.1 == (1 : Int)) then (bindX (lf_Psnapshot_reader_number_s1 0 1048576 r_3.2) fun r_8 => some (.inr ((T.mk r_3.1 r_8.1 ⟨#[]⟩ []), r_8.2))) else (bindX (lf_Psnapshot_reader_text_s1 r_3.2) fun r_9 => bindX (rec (wr (d + (1 : Int))) r_9.2) fun r_10 => some (.inr ((T.mk r_3.1 0 r_9.1 r_10.1), r_10.2))))) r x → Rdr (lfo_Psnapshot_reader_term_s1 rec d) (bT t) x := fun r x hr h => (h _ hr).congr fun c => by
    unfold lfo_Psnapshot_reader_term_s1
    rw [h19]
    rfl
  rcases form_k hf with k | k | k
  · have hf' := hf
    rw [formT_0 k, decide_eq_true_eq] at hf'
    refine hcong (catO (eNum 0 2 t.k) (eNum (-2147483648) 2147483648 t.i)) t (by rw [eNum_in (by omega) (by omega), eNum_in (by omega) (by omega), bT_n (by omega)]; rfl) (.bind (rd_num (by omega) (by omega)) (RdO.congr (.last (rd_num (by omega) (by omega)) (G := fun r_6 => some (.inr ((T.mk t.k r_6.1 ⟨#[]⟩ []), r_6.2))) fun c => ?_) fun c => ?_))
    · have h1 : t.s = ⟨#[]⟩ := nil_of_list hf'.2.2.1
      have h2 : t.ar = [] := List.eq_nil_of_length_eq_zero hf'.2.2.2
      have : T.mk t.k t.i ⟨#[]⟩ [] = t := by rw [← h1, ← h2]; cases t; rfl
      simp only [this]
    · simp only [k]
      rfl
  · have hf' := hf
    rw [formT_1 k, decide_eq_true_eq] at hf'
    refine hcong (catO (eNum 0 2 t.k) (eNum 0 1048576 t.i)) t (by rw [eNum_in (by omega) (by omega), eNum_in (by omega) (by omega), bT_n (by omega)]; rfl) (.bind (rd_num (by omega) (by omega)) (RdO.congr (.last (rd_num (by omega) (by omega)) (G := fun r_6 => some (.inr ((T.mk t.k r_6.1 ⟨#[]⟩ []), r_6.2))) fun c => ?_) fun c => ?_))
    · have h1 : t.s = ⟨#[]⟩ := nil_of_list hf'.2.2.1
      have h2 : t.ar = [] := List.eq_nil_of_length_eq_zero hf'.2.2.2
      have : T.mk t.k t.i ⟨#[]⟩ [] = t := by rw [← h1, ← h2]; cases t; rfl
      simp only [this]
    · simp only [k]
      rfl
  · obtain ⟨f1, f2, f3, f4⟩ := form_2 hf k
    have hrec : RdO (rec (wr (d + 1))) (some (encN t.ar.length ++ bL t.ar)) t.ar := fun e he => by
      obtain rfl := Option.some.inj he
      exact hr k
    refine hcong (catO (eNum 0 2 t.k) (catO (eText t.s) (some (encN t.ar.length ++ bL t.ar)))) t (by rw [eNum_in (by omega) (by omega), eText_in f2, bT_2 k]; rfl) (.bind (rd_num (by omega) (by omega)) (RdO.congr (.bind (rd_text t.s) (G := fun r_9 => bindX (rec (wr (d + (1 : Int))) r_9.2) fun r_10 => some (.inr ((T.mk t.k 0 r_9.1 r_10.1), r_10.2))) (RdO.last (f := rec (wr (d + 1))) (G := fun r_10 => some (.inr ((T.mk t.k 0 t.s r_10.1), r_10.2))) hrec fun c => ?_)) fun c => ?_))
    · have : T.mk t.k 0 t.s t.ar = t := by rw [← f1]; cases t; rfl
      simp only [this]
    · simp only [k]
      rfl
theorem bL_run {one : RR → Option (Int ⊕ (T × RR))} : ∀ (l out : List T), (∀ t ∈ l, Rdr one (bT t) t) → out.length + l.length ≤ 10000000 → Rdr (runT one 56 l.length out) (bL l) (out ++ l)
  | [], out, _, _ => by
    rw [List.append_nil]
    exact Rdr.pure
  | x :: l, out, h, hl => by
    have ih := bL_run (one := one) l (out ++ [x]) (fun y hy => h y (by simp [hy])) (by simp only [List.length_append, List.length_cons, List.length_nil] at hl ⊢; omega)
    rw [List.append_assoc, List.singleton_append] at ih
    refine Rdr.bind (h x (by simp)) (G := fun q => (appO 56 out [q.1]).bind fun l_ => runT one 56 l.length l_ q.2) (ih.congr fun c => ?_)
    have : appO 56 out [x] = some (out ++ [x]) := appO_eq (by simp only [List.length_cons, List.length_nil] at hl ⊢; omega) (by simp only [List.length_cons, List.length_nil] at hl ⊢; omega)
    show _ = (appO 56 out [x]).bind _
    rw [this]
    rfl
theorem rd_args : ∀ (fuel : Nat) (l : List T) (d : Int), formL l = true → l.length ≤ 6 → 0 ≤ d → d + depthL l ≤ 20 → depthL l < fuel → Rdr (lf_Psnapshot_reader_args_s1 fuel d) (encN l.length ++ bL l) l
  | 0, l, _, _, _, _, _, h => by omega
  | fuel + 1, l, d, hf, hl, hd0, hd, hfu => by
    have hel : ∀ t ∈ l, Rdr (lfo_Psnapshot_reader_args_1_s1 (lf_Psnapshot_reader_args_s1 fuel) d) (bT t) t := fun t ht => by
      have h1 := depthL_mem ht
      refine (rd_term1 t d hd0 (by omega) (formL_mem hf ht) fun k => ?_).congr fun c => (args_1 _ d c).symm
      have h2 := depth_2 k
      have h3 := form_2 (formL_mem hf ht) k
      rw [wr_eq (by omega)]
      exact rd_args fuel t.ar (d + 1) h3.2.2.2 h3.2.2.1 (by omega) (by omega) (by omega)
    have hrun := bL_run l [] hel (by simp only [List.length_nil]; omega)
    rw [List.nil_append] at hrun
    have hn := rd_num (lo := 0) (hi := 6) (n := (l.length : Int)) (by omega) (by omega) (encN l.length) (eNum_in (by omega) (by omega))
    refine (Rdr.bind hn (G := fun r => runT (lfo_Psnapshot_reader_args_1_s1 (lf_Psnapshot_reader_args_s1 fuel) d) 56 (r.1 - 0 : Int).toNat [] r.2) (hrun.congr fun c => ?_)).congr fun c => ?_
    · show _ = runT _ 56 ((l.length : Int) - 0).toNat [] c
      rw [Int.sub_zero, Int.toNat_natCast]
    · rw [lf_Psnapshot_reader_args_s1]
      unfold lfo_snapshot_take_s1
      simp only [loopT_s1, bindX_id]
theorem rdo {α : Type} {f : RR → Option (Int ⊕ (α × RR))} {e : List Int} {x : α} (h : Rdr f e x) : RdO f (some e) x := fun e' he => by
  obtain rfl := Option.some.inj he
  exact h
theorem rd_parts {fuel : Nat} (hfu : 21 ≤ fuel) {l : List T} (hl : l.length ≤ 6) (hr : rightL l = true) : RdO (lf_Psnapshot_reader_args_s1 fuel 0) (some (encN l.length ++ bL l)) l := by
  obtain ⟨h1, h2, h3⟩ := rightL_in hr
  exact rdo (rd_args fuel l 0 h1 hl (by omega) (by omega) (by omega))
theorem rd_term {fuel : Nat} (hfu : 21 ≤ fuel) (t : T) : RdO (lf_Psnapshot_reader_term_s1 fuel 0) (eT t) t := fun e he => by
  unfold eT at he
  split at he
  · rename_i hr
    obtain rfl := Option.some.inj he
    obtain ⟨r1, r2, r3⟩ := rightT_in hr
    refine rd_term1 (rec := lf_Psnapshot_reader_args_s1 fuel) t 0 (by omega) (by omega) r1 fun k => ?_
    have h2 := depth_2 k
    have h3 := form_2 r1 k
    rw [wr_eq (by omega)]
    exact rd_args fuel t.ar (0 + 1) h3.2.2.2 h3.2.2.1 (by omega) (by omega) (by omega)
  · cases he
theorem rd_atom {fuel : Nat} (hfu : 21 ≤ fuel) (a : At) : RdO (lf_Psnapshot_reader_atom_s1 fuel) (eAtom a) a := fun e he => by
  unfold eAtom at he
  split at he
  · rename_i hr
    obtain rfl := Option.some.inj he
    obtain ⟨r1, r2, r3⟩ := rightA_in hr
    unfold lf_Psnapshot_reader_atom_s1
    have h : RdO (fun c_0 => bindX (lf_Psnapshot_reader_text_s1 c_0) fun r_2 => bindX (lf_Psnapshot_reader_args_s1 fuel 0 r_2.2) fun r_3 => some (.inr ((⟨r_2.1, r_3.1⟩ : At), r_3.2))) (catO (eText a.n) (some (encN a.ts.length ++ bL a.ts))) a := by
      refine RdO.bind (rd_text a.n) ?_
      dsimp only
      exact RdO.last (rd_parts hfu r2 r3) fun c => rfl
    exact h _ (by rw [eText_in r1]; rfl)
  · cases he
theorem rd_goal {fuel : Nat} (hfu : 21 ≤ fuel) (g : Gl) : RdO (lf_Psnapshot_reader_goal_s1 fuel) (eGoal g) g := fun e he => by
  unfold eGoal at he
  split at he
  · rename_i hr
    obtain rfl := Option.some.inj he
    obtain ⟨r0, r0', r1, r2, r3⟩ := rightG_in hr
    unfold lf_Psnapshot_reader_goal_s1
    have h : RdO (fun c_0 => bindX (lf_Psnapshot_reader_number_s1 0 12 c_0) fun r_2 => bindX (lf_Psnapshot_reader_text_s1 r_2.2) fun r_3 => bindX (lf_Psnapshot_reader_args_s1 fuel 0 r_3.2) fun r_4 => some (.inr ((⟨r_2.1, r_3.1, r_4.1⟩ : Gl), r_4.2))) (catO (eNum 0 12 g.op) (catO (eText g.n) (some (encN g.ts.length ++ bL g.ts)))) g := by
      refine RdO.bind (rd_num (n := g.op) (by omega) (by omega)) ?_
      dsimp only
      refine RdO.bind (rd_text g.n) ?_
      dsimp only
      exact RdO.last (rd_parts hfu r2 r3) fun c => rfl
    exact h _ (by rw [eNum_in r0 r0', eText_in r1]; rfl)
  · cases he
theorem loopT_s4 (fuel : Nat) : ∀ (n : Nat) (out : List At) (c : RR), lf_snapshot_take_s4_L0 (fun o r => some (.inr (o, r))) fuel n out c = runT (lf_Psnapshot_reader_atom_s1 fuel) 40 n out c
  | 0, out, c => rfl
  | n + 1, out, c => by
    rw [lf_snapshot_take_s4_L0, runT]
    simp only [loopT_s4 fuel n]
theorem rd_take4 {fuel : Nat} (hfu : 21 ≤ fuel) (l : List At) {most : Int} (hm : most ≤ 10000000) : RdO (lf_snapshot_take_s4 fuel most) (eList most eAtom l) l := by
  refine (rd_take (one := lf_Psnapshot_reader_atom_s1 fuel) (sz := 40) (by omega) hm fun x _ => rd_atom hfu x).congr fun c => ?_
  unfold lf_snapshot_take_s4
  simp only [loopT_s4]
theorem loopT_s5 (fuel : Nat) : ∀ (n : Nat) (out : List Gl) (c : RR), lf_snapshot_take_s5_L0 (fun o r => some (.inr (o, r))) fuel n out c = runT (lf_Psnapshot_reader_goal_s1 fuel) 48 n out c
  | 0, out, c => rfl
  | n + 1, out, c => by
    rw [lf_snapshot_take_s5_L0, runT]
    simp only [loopT_s5 fuel n]
theorem rd_take5 {fuel : Nat} (hfu : 21 ≤ fuel) (l : List Gl) {most : Int} (hm : most ≤ 10000000) : RdO (lf_snapshot_take_s5 fuel most) (eList most eGoal l) l := by
  refine (rd_take (one := lf_Psnapshot_reader_goal_s1 fuel) (sz := 48) (by omega) hm fun x _ => rd_goal hfu x).congr fun c => ?_
  unfold lf_snapshot_take_s5
  simp only [loopT_s5]
theorem rd_decl (d : S_api_Decl) : RdO lf_snapshot_TakeProgram_1_1_s1 (eDecl d) d := by
  unfold lf_snapshot_TakeProgram_1_1_s1
  refine RdO.bind (rd_text d.f0_Name) ?_
  dsimp only
  exact RdO.last (rd_num (n := d.f1_Arity) (by omega) (by omega)) fun c => rfl
theorem rd_rule {fuel : Nat} (hfu : 21 ≤ fuel) (x : S_api_Rule) : RdO (lf_Psnapshot_reader_rule_s1 fuel) (eRule x) x := by
  unfold lf_Psnapshot_reader_rule_s1
  refine RdO.bind (rd_text x.f0_Name) ?_
  dsimp only
  refine RdO.bind (rd_take4 hfu x.f1_Keep (by omega)) ?_
  dsimp only
  refine RdO.bind (rd_take4 hfu x.f2_Remove (by omega)) ?_
  dsimp only
  refine RdO.bind (rd_take5 hfu x.f3_Guard (by omega)) ?_
  dsimp only
  refine RdO.bind (rd_take5 hfu x.f4_Body (by omega)) ?_
  dsimp only
  exact RdO.last (rd_num (n := x.f5_Vars) (by omega) (by omega)) fun c => rfl
theorem loopT_s2 : ∀ (n : Nat) (out : List S_api_Decl) (c : RR), lf_snapshot_take_s2_L0 (fun o r => some (.inr (o, r))) n out c = runT (lf_snapshot_TakeProgram_1_1_s1) 24 n out c
  | 0, out, c => rfl
  | n + 1, out, c => by
    rw [lf_snapshot_take_s2_L0, runT]
    simp only [loopT_s2 n]
theorem rd_take2 (l : List S_api_Decl) {most : Int} (hm : most ≤ 10000000) : RdO (lf_snapshot_take_s2 most) (eList most eDecl l) l := by
  refine (rd_take (one := lf_snapshot_TakeProgram_1_1_s1) (sz := 24) (by omega) hm fun x _ => rd_decl x).congr fun c => ?_
  unfold lf_snapshot_take_s2
  simp only [loopT_s2]
theorem loopT_s3 (fuel : Nat) : ∀ (n : Nat) (out : List S_api_Rule) (c : RR), lf_snapshot_take_s3_L0 (fun o r => some (.inr (o, r))) fuel n out c = runT (lf_Psnapshot_reader_rule_s1 fuel) 120 n out c
  | 0, out, c => rfl
  | n + 1, out, c => by
    rw [lf_snapshot_take_s3_L0, runT]
    simp only [loopT_s3 fuel n]
theorem rd_take3 {fuel : Nat} (hfu : 21 ≤ fuel) (l : List S_api_Rule) {most : Int} (hm : most ≤ 10000000) : RdO (lf_snapshot_take_s3 fuel most) (eList most eRule l) l := by
  refine (rd_take (one := lf_Psnapshot_reader_rule_s1 fuel) (sz := 120) (by omega) hm fun x _ => rd_rule hfu x).congr fun c => ?_
  unfold lf_snapshot_take_s3
  simp only [loopT_s3]
theorem rd_frame {fuel : Nat} (hfu : 21 ≤ fuel) (x : S_api_Frame) : RdO (lf_Psnapshot_reader_frame_s1 fuel) (eFrame x) x := by
  unfold lf_Psnapshot_reader_frame_s1
  refine RdO.bind (rd_num (n := x.f1_ID) (by omega) (by omega)) ?_
  dsimp only
  refine RdO.bind (rd_num (n := x.f2_Occ) (by omega) (by omega)) ?_
  dsimp only
  by_cases h0 : x.f1_ID = 0
  · have h1 : (x.f1_ID == (0 : Int)) = true := by simpa using h0
    rw [if_pos h0]
    refine RdO.congr (.last (rd_goal hfu x.f0_Goal) (G := fun r_5 => some (.inr ((⟨r_5.1, x.f1_ID, x.f2_Occ⟩ : S_api_Frame), r_5.2))) fun c => rfl) fun c => ?_
    simp only [h1, cond_true]
  · have h1 : (x.f1_ID == (0 : Int)) = false := by simpa using h0
    rw [if_neg h0]
    intro e he
    split at he
    · rename_i h
      obtain rfl := Option.some.inj he
      refine Rdr.congr (Rdr.pure (x := x)) fun c => ?_
      simp only [h1, cond_false]
      obtain ⟨g, i, oc⟩ := x
      obtain ⟨op, n, ts⟩ := g
      obtain ⟨h2, h3, h4⟩ := h
      simp only at h2 h3 h4
      rw [h2, nil_of_list h3, h4]
    · cases he
theorem rd_item {fuel : Nat} (hfu : 21 ≤ fuel) (x : Int × At) : RdO (lf_Psnapshot_reader_item_s1 fuel) (eItem x) x := by
  unfold lf_Psnapshot_reader_item_s1
  refine RdO.bind (rd_num (n := x.1) (by omega) (by omega)) ?_
  dsimp only
  exact RdO.last (rd_atom hfu x.2) fun c => rfl
theorem rd_bind {fuel : Nat} (hfu : 21 ≤ fuel) (x : Int × T) : RdO (lf_snapshot_TakeConfig_1_1_s1 fuel) (eBind x) x := by
  unfold lf_snapshot_TakeConfig_1_1_s1
  refine RdO.bind (rd_num (n := x.1) (by omega) (by omega)) ?_
  dsimp only
  exact RdO.last (rd_term hfu x.2) fun c => rfl
theorem loopT_s6 (fuel : Nat) : ∀ (n : Nat) (out : List S_api_Frame) (c : RR), lf_snapshot_take_s6_L0 (fun o r => some (.inr (o, r))) fuel n out c = runT (lf_Psnapshot_reader_frame_s1 fuel) 64 n out c
  | 0, out, c => rfl
  | n + 1, out, c => by
    rw [lf_snapshot_take_s6_L0, runT]
    simp only [loopT_s6 fuel n]
theorem rd_take6 {fuel : Nat} (hfu : 21 ≤ fuel) (l : List S_api_Frame) {most : Int} (hm : most ≤ 10000000) : RdO (lf_snapshot_take_s6 fuel most) (eList most eFrame l) l := by
  refine (rd_take (one := lf_Psnapshot_reader_frame_s1 fuel) (sz := 64) (by omega) hm fun x _ => rd_frame hfu x).congr fun c => ?_
  unfold lf_snapshot_take_s6
  simp only [loopT_s6]
theorem loopT_s7 (fuel : Nat) : ∀ (n : Nat) (out : List (Int × At)) (c : RR), lf_snapshot_take_s7_L0 (fun o r => some (.inr (o, r))) fuel n out c = runT (lf_Psnapshot_reader_item_s1 fuel) 48 n out c
  | 0, out, c => rfl
  | n + 1, out, c => by
    rw [lf_snapshot_take_s7_L0, runT]
    simp only [loopT_s7 fuel n]
theorem rd_take7 {fuel : Nat} (hfu : 21 ≤ fuel) (l : List (Int × At)) {most : Int} (hm : most ≤ 10000000) : RdO (lf_snapshot_take_s7 fuel most) (eList most eItem l) l := by
  refine (rd_take (one := lf_Psnapshot_reader_item_s1 fuel) (sz := 48) (by omega) hm fun x _ => rd_item hfu x).congr fun c => ?_
  unfold lf_snapshot_take_s7
  simp only [loopT_s7]
theorem loopT_s8 (fuel : Nat) : ∀ (n : Nat) (out : List (Int × T)) (c : RR), lf_snapshot_take_s8_L0 (fun o r => some (.inr (o, r))) fuel n out c = runT (lf_snapshot_TakeConfig_1_1_s1 fuel) 64 n out c
  | 0, out, c => rfl
  | n + 1, out, c => by
    rw [lf_snapshot_take_s8_L0, runT]
    simp only [loopT_s8 fuel n]
theorem rd_take8 {fuel : Nat} (hfu : 21 ≤ fuel) (l : List (Int × T)) {most : Int} (hm : most ≤ 10000000) : RdO (lf_snapshot_take_s8 fuel most) (eList most eBind l) l := by
  refine (rd_take (one := lf_snapshot_TakeConfig_1_1_s1 fuel) (sz := 64) (by omega) hm fun x _ => rd_bind hfu x).congr fun c => ?_
  unfold lf_snapshot_take_s8
  simp only [loopT_s8]
theorem loopT_s10 (h : Int) : ∀ (n : Nat) (out : List Int) (c : RR), lf_snapshot_take_s10_L0 (fun o r => some (.inr (o, r))) h n out c = runT (lf_Psnapshot_reader_numbers_1_s1 h) 8 n out c
  | 0, out, c => rfl
  | n + 1, out, c => by
    rw [lf_snapshot_take_s10_L0, runT]
    simp only [loopT_s10 h n]
theorem rd_nums (l : List Int) {most hi : Int} (hm : most ≤ 10000000) (hh : hi < 9223372036854775808) : RdO (lf_Psnapshot_reader_numbers_s1 most hi) (eNums most hi l) l := by
  refine (rd_take (one := lf_Psnapshot_reader_numbers_1_s1 hi) (sz := 8) (by omega) hm (e := eNum 0 hi) fun x _ => (rd_num (n := x) (by omega) hh).congr fun c => ?_).congr fun c => ?_
  · unfold lf_Psnapshot_reader_numbers_1_s1
    rw [bindX_id]
  · unfold lf_Psnapshot_reader_numbers_s1 lf_snapshot_take_s10
    simp only [loopT_s10, bindX_id]
theorem rd_fire (x : S_api_Fire) : RdO lf_snapshot_TakeConfig_1_2_s1 (eFire x) x := by
  unfold lf_snapshot_TakeConfig_1_2_s1
  refine RdO.bind (rd_num (n := x.f0_Rule) (by omega) (by omega)) ?_
  dsimp only
  exact RdO.last (rd_nums x.f1_IDs (by omega) (by omega)) fun c => rfl
theorem loopT_s9 : ∀ (n : Nat) (out : List S_api_Fire) (c : RR), lf_snapshot_take_s9_L0 (fun o r => some (.inr (o, r))) n out c = runT (lf_snapshot_TakeConfig_1_2_s1) 32 n out c
  | 0, out, c => rfl
  | n + 1, out, c => by
    rw [lf_snapshot_take_s9_L0, runT]
    simp only [loopT_s9 n]
theorem rd_take9 (l : List S_api_Fire) {most : Int} (hm : most ≤ 10000000) : RdO (lf_snapshot_take_s9 most) (eList most eFire l) l := by
  refine (rd_take (one := lf_snapshot_TakeConfig_1_2_s1) (sz := 32) (by omega) hm fun x _ => rd_fire x).congr fun c => ?_
  unfold lf_snapshot_take_s9
  simp only [loopT_s9]
theorem rd_Program {fuel : Nat} (hfu : 21 ≤ fuel) (p : S_api_Program) : RdO (fun c => bindX (lf_Psnapshot_reader_number_s1 1 1 c) fun r => lf_snapshot_TakeProgram_1_s1 fuel r.2) (eProgram p) p := by
  refine RdO.bind (rd_num (n := 1) (by omega) (by omega)) (y := p) ?_
  dsimp only
  unfold lf_snapshot_TakeProgram_1_s1
  refine RdO.bind (rd_take2 p.f0_Decls (by omega)) ?_
  dsimp only
  exact RdO.last (rd_take3 hfu p.f1_Rules (by omega)) fun c => rfl
theorem rd_Config {fuel : Nat} (hfu : 21 ≤ fuel) (p : S_api_Config) : RdO (fun c => bindX (lf_Psnapshot_reader_number_s1 2 2 c) fun r => lf_snapshot_TakeConfig_1_s1 fuel r.2) (eConfig p) p := by
  refine RdO.bind (rd_num (n := 2) (by omega) (by omega)) (y := p) ?_
  dsimp only
  unfold lf_snapshot_TakeConfig_1_s1
  refine RdO.bind (rd_take6 hfu p.f0_Stack (by omega)) ?_
  dsimp only
  refine RdO.bind (rd_take7 hfu p.f1_Store (by omega)) ?_
  dsimp only
  refine RdO.bind (rd_take8 hfu p.f2_Binds (by omega)) ?_
  dsimp only
  refine RdO.bind (rd_take9 p.f3_Fired (by omega)) ?_
  dsimp only
  refine RdO.bind (rd_num (n := p.f4_Next) (by omega) (by omega)) ?_
  dsimp only
  refine RdO.bind (rd_num (n := p.f5_Fresh) (by omega) (by omega)) ?_
  dsimp only
  exact RdO.last (rd_flag p.f6_Failed) fun c => rfl
theorem catO_pos {lo hi n : Int} {s : Option (List Int)} {e : List Int} (h : catO (eNum lo hi n) s = some e) : e ≠ [] := by
  obtain ⟨a, b, h1, _, rfl⟩ := catO_some h
  unfold eNum at h1
  split at h1
  · rename_i hh
    obtain rfl := Option.some.inj h1
    intro h0
    have : encN n = [] := (List.append_eq_nil_iff.1 h0).1
    have h2 := congrArg List.length this
    unfold encN at h2
    rw [len_toY, List.length_take] at h2
    have := enc_pos (zig n)
    simp only [List.length_nil] at h2
    omega
  · cases h1
theorem whole_Program {fuel : Nat} (hfu : 21 ≤ fuel) {p : S_api_Program} {e : List Int} (he : eProgram p = some e) (hw : lf_snapshot_Program fuel p = some e) (hl : e.length ≤ 999999999) :
    lf_wholeR_Program fuel e 1 = some (p, 0) ∧ (∀ x, lf_wholeR_Program fuel (e ++ [x]) 1 = some (z_Program, 3)) ∧ ∀ t z, z ≠ [] → e = t ++ z → lf_wholeR_Program fuel t 1 = some (z_Program, 4) := by
  have hr := rd_Program hfu p e he
  have hne : e ≠ [] := catO_pos he
  have hpos : 0 < e.length := List.length_pos_iff.2 hne
  have key : ∀ b, lf_whole_Program fuel b 1 = bindX ((fun c => bindX (lf_Psnapshot_reader_number_s1 1 1 c) fun r => lf_snapshot_TakeProgram_1_s1 fuel r.2) ⟨b, 0⟩) fun r_5 => bif (decide (r_5.2.f1_at < (b.length : Int))) then some (.inl 3) else ((lf_snapshot_Program fuel r_5.1).bind fun r_8 => bif ((r_8.length : Int) == (0 : Int)) then some (.inl 2) else some (.inr (r_5.1, 0))) := fun b => by
    rw [bindX_assoc]
    rfl
  refine ⟨?_, fun x => ?_, fun t z hz ht => ?_⟩
  · have h := hr.1 [] [] (by simpa using (by omega : e.length ≤ 1000000000))
    simp only [List.nil_append, List.append_nil, List.length_nil] at h
    rw [lf_wholeR_Program, key]
    dsimp only
    rw [show ((0 : Nat) : Int) = 0 from rfl] at h
    rw [h, bindX_ok]
    have h1 : decide ((e.length : Int) < (e.length : Int)) = false := decide_eq_false (by omega)
    have h2 : ((e.length : Int) == 0) = false := by
      rw [beq_eq_false_iff_ne]
      omega
    simp only [h1, cond_false, hw, Option.bind_some, h2]
    rfl
  · have h := hr.1 [] [x] (by simp only [List.nil_append, List.length_append, List.length_singleton]; omega)
    simp only [List.nil_append, List.length_nil] at h
    rw [lf_wholeR_Program, key]
    dsimp only
    rw [show ((0 : Nat) : Int) = 0 from rfl] at h
    rw [h, bindX_ok]
    have h1 : decide ((e.length : Int) < ((e ++ [x]).length : Int)) = true := decide_eq_true (by simp only [List.length_append, List.length_singleton]; omega)
    simp only [h1, cond_true]
    rfl
  · have h := hr.2 [] t z (by
      have := congrArg List.length ht
      rw [List.length_append] at this
      simp only [List.nil_append]
      omega) hz ht
    simp only [List.nil_append, List.length_nil] at h
    rw [lf_wholeR_Program, key]
    dsimp only
    rw [show ((0 : Nat) : Int) = 0 from rfl] at h
    rw [h]
    rfl
theorem whole0_Program (fuel : Nat) : lf_wholeR_Program fuel [] 1 = some (z_Program, 4) := by
  have hx : x_cInt [] 0 1 1 = some (0, 0, 4) := by
    rw [x_cInt, if_pos (by simp)]
    rfl
  have h : lf_Psnapshot_reader_number_s1 1 1 ⟨[], 0⟩ = some (.inl 4) := by
    unfold lf_Psnapshot_reader_number_s1
    simp only [hx, Option.bind_some]
    rfl
  unfold lf_wholeR_Program lf_whole_Program
  rw [h]
  rfl
theorem whole_Config {fuel : Nat} (hfu : 21 ≤ fuel) {p : S_api_Config} {e : List Int} (he : eConfig p = some e) (hw : lf_snapshot_Config fuel p = some e) (hl : e.length ≤ 999999999) :
    lf_wholeR_Config fuel e 2 = some (p, 0) ∧ (∀ x, lf_wholeR_Config fuel (e ++ [x]) 2 = some (z_Config, 3)) ∧ ∀ t z, z ≠ [] → e = t ++ z → lf_wholeR_Config fuel t 2 = some (z_Config, 4) := by
  have hr := rd_Config hfu p e he
  have hne : e ≠ [] := catO_pos he
  have hpos : 0 < e.length := List.length_pos_iff.2 hne
  have key : ∀ b, lf_whole_Config fuel b 2 = bindX ((fun c => bindX (lf_Psnapshot_reader_number_s1 2 2 c) fun r => lf_snapshot_TakeConfig_1_s1 fuel r.2) ⟨b, 0⟩) fun r_5 => bif (decide (r_5.2.f1_at < (b.length : Int))) then some (.inl 3) else ((lf_snapshot_Config fuel r_5.1).bind fun r_8 => bif ((r_8.length : Int) == (0 : Int)) then some (.inl 2) else some (.inr (r_5.1, 0))) := fun b => by
    rw [bindX_assoc]
    rfl
  refine ⟨?_, fun x => ?_, fun t z hz ht => ?_⟩
  · have h := hr.1 [] [] (by simpa using (by omega : e.length ≤ 1000000000))
    simp only [List.nil_append, List.append_nil, List.length_nil] at h
    rw [lf_wholeR_Config, key]
    dsimp only
    rw [show ((0 : Nat) : Int) = 0 from rfl] at h
    rw [h, bindX_ok]
    have h1 : decide ((e.length : Int) < (e.length : Int)) = false := decide_eq_false (by omega)
    have h2 : ((e.length : Int) == 0) = false := by
      rw [beq_eq_false_iff_ne]
      omega
    simp only [h1, cond_false, hw, Option.bind_some, h2]
    rfl
  · have h := hr.1 [] [x] (by simp only [List.nil_append, List.length_append, List.length_singleton]; omega)
    simp only [List.nil_append, List.length_nil] at h
    rw [lf_wholeR_Config, key]
    dsimp only
    rw [show ((0 : Nat) : Int) = 0 from rfl] at h
    rw [h, bindX_ok]
    have h1 : decide ((e.length : Int) < ((e ++ [x]).length : Int)) = true := decide_eq_true (by simp only [List.length_append, List.length_singleton]; omega)
    simp only [h1, cond_true]
    rfl
  · have h := hr.2 [] t z (by
      have := congrArg List.length ht
      rw [List.length_append] at this
      simp only [List.nil_append]
      omega) hz ht
    simp only [List.nil_append, List.length_nil] at h
    rw [lf_wholeR_Config, key]
    dsimp only
    rw [show ((0 : Nat) : Int) = 0 from rfl] at h
    rw [h]
    rfl
theorem whole0_Config (fuel : Nat) : lf_wholeR_Config fuel [] 2 = some (z_Config, 4) := by
  have hx : x_cInt [] 0 2 2 = some (0, 0, 4) := by
    rw [x_cInt, if_pos (by simp)]
    rfl
  have h : lf_Psnapshot_reader_number_s1 2 2 ⟨[], 0⟩ = some (.inl 4) := by
    unfold lf_Psnapshot_reader_number_s1
    simp only [hx, Option.bind_some]
    rfl
  unfold lf_wholeR_Config lf_whole_Config
  rw [h]
  rfl
end Go.Proofs.YtdoljfkjdfaakaaGreat


namespace Go.Proofs.YtdoljfkjdfaakaaGreat
set_option maxRecDepth 100000
open Go.RowKit

/-- The string of bytes. -/
def strY (l : List Int) : ByteArray := ⟨(ofY l).toArray⟩
theorem s_toStr {P : Program} {o : Oper} {ρ : Operand → Option D} {x : Operand} {src dst e : TypeId} {dx : D} (l : List Int) (ho : o.op = .convert src dst x) (hs : P.underlying src = some (.slice e)) (he : P.underlying e = some (.int .u8)) (hd : P.underlying dst = some .string) (hx : ρ x = some dx) (hl : AsL dx (l.map (D.int .u8))) : StepD P o ρ (.str (strY l)) := stepD_of fun p a w h => by
  obtain ⟨A, c, xs, h1, h2, h3, h4, h5, _⟩ := hl.rep (h x (by rw [ho]; simp [Op.operands]) _ hx)
  rw [List.length_map] at h1 h2
  obtain ⟨_, rfl⟩ := repsY h5
  have hr : Rd w A ((ofY l).map bv) := by
    rcases h4 with h4 | ⟨b, o, rfl, h4⟩
    · exact .inl h4
    · exact .inr ⟨⟨b, o, none⟩, rfl, fun j u hu => by rw [addF]; exact (h4 j u hu).2⟩
  refine ⟨.string (strY l), ?_, ?_⟩
  · unfold execOp
    rw [ho]
    simp only [h1, Sem.run_bind, run_toStr w src dst e hs he hd A l.length c (ofY l) hr (len_ofY l), Result.andThen_ok, Sem.run_pure]
    rfl
  · simp only [Rep]
    refine ⟨trivial, ?_⟩
    have : (strY l).size = l.length := by
      show (ofY l).toArray.size = _
      rw [List.size_toArray, len_ofY]
    omega
end Go.Proofs.YtdoljfkjdfaakaaGreat


namespace Go.Proofs.YtdoljfkjdfaakaaGreat
set_option maxRecDepth 100000
open Go.RowKit

instance : DecidableEq S_api_Decl := fun a b => decidable_of_iff (a.f0_Name = b.f0_Name ∧ a.f1_Arity = b.f1_Arity) ⟨fun h => by cases a; cases b; simp at h; simp [h], fun h => by rw [h]; simp⟩
noncomputable def lf_constraintref03_GreatAtoms_L0 (k : (Int) → Option (Bool)) : List At → Int → Option (Bool)
  | [], most_1 =>
  (k most_1)
  | q_4 :: rest, most_1 =>
  (bif (decide (most_1 ≥ (0 : Int))) then
  ((x_weigh q_4.ts (wr ((wr (most_1 - (1 : Int))) - (wr (Int.tdiv (q_4.n.size : Int) 8)))) 64).bind fun r_6 =>
  (lf_constraintref03_GreatAtoms_L0 k rest r_6))
  else
  (k most_1))
noncomputable def lf_constraintref03_GreatAtoms (l_a0 : (List At)) (most_a1 : Int) : Option (Bool) :=
  (lf_constraintref03_GreatAtoms_L0 (fun most_3 =>
  some ((decide (most_3 < (0 : Int))))) l_a0 most_a1)

noncomputable def lf_constraintref03_GreatGoals_L0 (k : (Int) → Option (Bool)) : List Gl → Int → Option (Bool)
  | [], most_1 =>
  (k most_1)
  | q_4 :: rest, most_1 =>
  (bif (decide (most_1 ≥ (0 : Int))) then
  ((x_weigh q_4.ts (wr ((wr (most_1 - (1 : Int))) - (wr (Int.tdiv (q_4.n.size : Int) 8)))) 64).bind fun r_6 =>
  (lf_constraintref03_GreatGoals_L0 k rest r_6))
  else
  (k most_1))
noncomputable def lf_constraintref03_GreatGoals (l_a0 : (List Gl)) (most_a1 : Int) : Option (Bool) :=
  (lf_constraintref03_GreatGoals_L0 (fun most_3 =>
  some ((decide (most_3 < (0 : Int))))) l_a0 most_a1)

noncomputable def lf_constraintref03_GreatRules_L0 (k : Option (Bool)) (l_a0 : (List S_api_Rule)) (most_a1 : Int) : List S_api_Rule → Option (Bool)
  | [] =>
  k
  | q_2 :: rest =>
  (bif (decide ((l_a0.length : Int) > most_a1)) then
  some (true)
  else
  (bif (decide ((wr ((wr ((wr (Int.tdiv (q_2.f0_Name.size : Int) 8)) + (q_2.f1_Keep.length : Int))) + (q_2.f2_Remove.length : Int))) > most_a1)) then
  some (true)
  else
  ((lf_constraintref03_GreatAtoms q_2.f1_Keep most_a1).bind fun r_6 =>
  (bif r_6 then
  some (true)
  else
  ((lf_constraintref03_GreatAtoms q_2.f2_Remove most_a1).bind fun r_8 =>
  (bif r_8 then
  some (true)
  else
  ((lf_constraintref03_GreatGoals q_2.f3_Guard most_a1).bind fun r_10 =>
  (bif r_10 then
  some (true)
  else
  ((lf_constraintref03_GreatGoals q_2.f4_Body most_a1).bind fun r_12 =>
  (bif r_12 then
  some (true)
  else
  (lf_constraintref03_GreatRules_L0 k l_a0 most_a1 rest)))))))))))
noncomputable def lf_constraintref03_GreatRules (l_a0 : (List S_api_Rule)) (most_a1 : Int) : Option (Bool) :=
  (lf_constraintref03_GreatRules_L0 (some (false)) l_a0 most_a1 l_a0)

noncomputable def lf_snapshot_TakeProgram (fuel : Nat) (b_a0 : (List Int)) : Option (S_api_Program × Int) :=
  ((lf_wholeR_Program fuel b_a0 1).bind fun r_2 =>
  some (r_2.1, r_2.2))

set_option maxHeartbeats 1000000 in
theorem lg_snapshot_TakeProgram (fuel : Nat) (b_a0 : (List Int)) (res : S_api_Program × Int) (hr : lf_snapshot_TakeProgram fuel b_a0 = some res) : Gives Tryz.prog 14 [.lst (b_a0.map (D.int .u8))] (.tup [enc_S_api_Program res.1, .int .i64 res.2]) := by
  unfold lf_snapshot_TakeProgram at hr
  refine spec_env [(0, .lst (b_a0.map (D.int .u8)))] Tryz.func14 rfl rfl fun K hK => ?_
  refine g_seq ?_
  refine g_run (by kernel_rfl) [(0, .w), (1, .d)] rfl ?_
  refine r_w rfl rfl rfl (s_alloc rfl zv_api_Program) ?_
  rintro _ _ ⟨b2_0, rfl, rfl⟩
  refine r_d rfl rfl rfl (s_assign rfl rfl) ?_
  refine r_end ?_
  refine g_seq ?_
  refine g_run (by kernel_rfl) [(0, .d), (1, .d), (2, .d), (3, .d), (4, .w), (5, .d)] rfl ?_
  refine r_d rfl rfl rfl (s_move rfl rfl) ?_
  obtain ⟨r_2, hr_2, hr⟩ := bindS hr
  refine r_d rfl rfl rfl (s_callD rfl cl_snapshot_whole_api_Program (.cons rfl (Wk.refl _) (.cons rfl (Wk.refl _) (.cons rfl (Wk.refl _) (.cons rfl (Wk.refl _) .nil)))) (lg_wholeR_Program fuel _ _ _ hr_2)) ?_
  refine r_d rfl rfl rfl (s_extract rfl rfl rfl) ?_
  refine r_d rfl rfl rfl (s_extract rfl rfl rfl) ?_
  refine r_w01 rfl rfl rfl (t_store0 _ rfl rfl rfl (Wk.refl _) (pf0 _) (by exact ty_api_Program) (sz_S_api_Program _) rfl rfl) ?_
  refine r_d rfl rfl rfl (s_assign rfl rfl) ?_
  refine r_end ?_
  obtain rfl := Option.some.inj hr
  refine g_ret Tryz.func14 _ (.cons (resRef rfl (.head _) (by exact ty_api_Program) (sz_S_api_Program _) (Wk.refl _)) (.cons (resTmp rfl (Wk.refl _)) .nil)) ?_
  rfl

noncomputable def lf_snapshot_TakeConfig (fuel : Nat) (b_a0 : (List Int)) : Option (S_api_Config × Int) :=
  ((lf_wholeR_Config fuel b_a0 2).bind fun r_2 =>
  some (r_2.1, r_2.2))

set_option maxHeartbeats 1000000 in
theorem lg_snapshot_TakeConfig (fuel : Nat) (b_a0 : (List Int)) (res : S_api_Config × Int) (hr : lf_snapshot_TakeConfig fuel b_a0 = some res) : Gives Tryz.prog 19 [.lst (b_a0.map (D.int .u8))] (.tup [enc_S_api_Config res.1, .int .i64 res.2]) := by
  unfold lf_snapshot_TakeConfig at hr
  refine spec_env [(0, .lst (b_a0.map (D.int .u8)))] Tryz.func19 rfl rfl fun K hK => ?_
  refine g_seq ?_
  refine g_run (by kernel_rfl) [(0, .w), (1, .d)] rfl ?_
  refine r_w rfl rfl rfl (s_alloc rfl zv_api_Config) ?_
  rintro _ _ ⟨b2_0, rfl, rfl⟩
  refine r_d rfl rfl rfl (s_assign rfl rfl) ?_
  refine r_end ?_
  refine g_seq ?_
  refine g_run (by kernel_rfl) [(0, .d), (1, .d), (2, .d), (3, .d), (4, .w), (5, .d)] rfl ?_
  refine r_d rfl rfl rfl (s_move rfl rfl) ?_
  obtain ⟨r_2, hr_2, hr⟩ := bindS hr
  refine r_d rfl rfl rfl (s_callD rfl cl_snapshot_whole_api_Config (.cons rfl (Wk.refl _) (.cons rfl (Wk.refl _) (.cons rfl (Wk.refl _) (.cons rfl (Wk.refl _) .nil)))) (lg_wholeR_Config fuel _ _ _ hr_2)) ?_
  refine r_d rfl rfl rfl (s_extract rfl rfl rfl) ?_
  refine r_d rfl rfl rfl (s_extract rfl rfl rfl) ?_
  refine r_w01 rfl rfl rfl (t_store0 _ rfl rfl rfl (Wk.refl _) (pf0 _) (by exact ty_api_Config) (sz_S_api_Config _) rfl rfl) ?_
  refine r_d rfl rfl rfl (s_assign rfl rfl) ?_
  refine r_end ?_
  obtain rfl := Option.some.inj hr
  refine g_ret Tryz.func19 _ (.cons (resRef rfl (.head _) (by exact ty_api_Config) (sz_S_api_Config _) (Wk.refl _)) (.cons (resTmp rfl (Wk.refl _)) .nil)) ?_
  rfl

noncomputable def lf_constraintlaw52_same (a_a0 : (List Int)) (b_a1 : (List Int)) : Option (Bool) :=
  some (((strY a_a0).toList == (strY b_a1).toList))

set_option maxHeartbeats 1000000 in
theorem lg_constraintlaw52_same (a_a0 : (List Int)) (b_a1 : (List Int)) (res : Bool) (hr : lf_constraintlaw52_same a_a0 b_a1 = some res) : Gives Tryz.prog 12 [.lst (a_a0.map (D.int .u8)), .lst (b_a1.map (D.int .u8))] (.bool res) := by
  unfold lf_constraintlaw52_same at hr
  refine spec_env [(0, .lst (a_a0.map (D.int .u8))), (1, .lst (b_a1.map (D.int .u8)))] Tryz.func12 rfl rfl fun K hK => ?_
  refine g_seq ?_
  refine g_run (by kernel_rfl) [(0, .d)] rfl ?_
  refine r_d rfl rfl rfl (s_assign rfl rfl) ?_
  refine r_end ?_
  refine g_seq ?_
  refine g_run (by kernel_rfl) [(0, .d), (1, .d), (2, .d), (3, .d), (4, .d), (5, .d)] rfl ?_
  refine r_d rfl rfl rfl (s_move rfl rfl) ?_
  refine r_d rfl rfl rfl (s_toStr a_a0 rfl Tryz.underlying30 Tryz.underlying5 Tryz.underlying9 rfl (asl rfl)) ?_
  refine r_d rfl rfl rfl (s_move rfl rfl) ?_
  refine r_d rfl rfl rfl (s_toStr b_a1 rfl Tryz.underlying30 Tryz.underlying5 Tryz.underlying9 rfl (asl rfl)) ?_
  refine r_d rfl rfl rfl (s_cmpS rfl rfl rfl rfl) ?_
  refine r_d rfl rfl rfl (s_assign rfl rfl) ?_
  refine r_end ?_
  obtain rfl := Option.some.inj hr
  refine g_ret Tryz.func12 _ (.cons (resTmp rfl (Wk.refl _)) .nil) ?_
  rfl

noncomputable def lf_constraintlaw52_exampleHolds (fuel : Nat) : Option (Bool) :=
  ((lf_snapshot_TakeProgram fuel [2, 2, 2, 112, 0, 0]).bind fun r_1 =>
  ((lf_snapshot_TakeProgram fuel [2, 0]).bind fun r_3 =>
  ((lf_snapshot_TakeProgram fuel [4, 0, 0]).bind fun r_5 =>
  ((lf_snapshot_Config fuel (⟨[(⟨(⟨2, ⟨#[]⟩, []⟩ : Gl), 0, 0⟩ : S_api_Frame), (⟨(⟨0, ⟨#[]⟩, []⟩ : Gl), 4, (-1)⟩ : S_api_Frame)], [], [], [], 1, 0, false⟩ : S_api_Config)).bind fun r_7 =>
  ((lf_snapshot_TakeConfig fuel r_7).bind fun r_8 =>
  (bif (r_1.2 == (0 : Int)) then
  (bif ((r_1.1.f0_Decls.length : Int) == (1 : Int)) then
  ((getI r_1.1.f0_Decls 0).bind fun q_12 =>
  (bif (q_12.f0_Name.toList == (⟨#[112]⟩ : ByteArray).toList) then
  (bif (r_3.2 == (4 : Int)) then
  (bif (r_5.2 == (5 : Int)) then
  ((lf_snapshot_Memory fuel (⟨[], [], [], 1, 0⟩ : S_api_Memory)).bind fun r_16 =>
  ((lf_constraintlaw52_same r_16 [6, 0, 0, 0, 2, 0]).bind fun r_17 =>
  (bif r_17 then
  (bif (r_8.2 == (0 : Int)) then
  (bif ((r_8.1.f0_Stack.length : Int) == (2 : Int)) then
  ((getI r_8.1.f0_Stack 1).bind fun q_21 =>
  (bif (q_21.f2_Occ == ((-1) : Int)) then
  ((lf_snapshot_Program fuel (⟨[(⟨⟨#[]⟩, 7⟩ : S_api_Decl)], []⟩ : S_api_Program)).bind fun r_23 =>
  some (((r_23.length : Int) == (0 : Int))))
  else
  some (false)))
  else
  some (false))
  else
  some (false))
  else
  some (false))))
  else
  some (false))
  else
  some (false))
  else
  some (false)))
  else
  some (false))
  else
  some (false)))))))

set_option maxHeartbeats 1000000 in
theorem lg_constraintlaw52_exampleHolds (fuel : Nat) (res : Bool) (hr : lf_constraintlaw52_exampleHolds fuel = some res) : Gives Tryz.prog 10 [] (.bool res) := by
  unfold lf_constraintlaw52_exampleHolds at hr
  refine spec_env [] Tryz.func10 rfl rfl fun K hK => ?_
  refine g_seq ?_
  refine g_run (by kernel_rfl) [(0, .d)] rfl ?_
  refine r_d rfl rfl rfl (s_assign rfl rfl) ?_
  refine r_end ?_
  refine g_seq ?_
  refine g_run (by kernel_rfl) [(0, .d), (1, .d), (2, .d), (3, .d), (4, .d), (5, .w), (6, .w), (7, .d)] rfl ?_
  refine r_d rfl rfl rfl (m_lit (f := (D.int .u8)) [.const (.int .u8 (2)), .const (.int .u8 (2)), .const (.int .u8 (2)), .const (.int .u8 (112)), .const (.int .u8 (0)), .const (.int .u8 (0))] [2, 2, 2, 112, 0, 0] rfl el_L_uint8 rfl rfl (by decide) (by decide) (.cons rfl (Wk.refl _) (.cons rfl (Wk.refl _) (.cons rfl (Wk.refl _) (.cons rfl (Wk.refl _) (.cons rfl (Wk.refl _) (.cons rfl (Wk.refl _) .nil)))))) (fun _ => rfl) (fun _ => rfl)) ?_
  obtain ⟨r_1, hr_1, hr⟩ := bindS hr
  refine r_d rfl rfl rfl (by exact s_callD rfl cl_snapshot_TakeProgram (.cons rfl (Wk.full _) .nil) (lg_snapshot_TakeProgram fuel _ _ hr_1)) ?_
  refine r_d rfl rfl rfl (s_move rfl rfl) ?_
  refine r_d rfl rfl rfl (s_extract rfl rfl rfl) ?_
  refine r_d rfl rfl rfl (s_extract rfl rfl rfl) ?_
  refine r_w rfl rfl rfl (s_alloc rfl zv_api_Program) ?_
  rintro _ _ ⟨b1_1, rfl, rfl⟩
  refine r_w01 rfl rfl rfl (t_store0 _ rfl rfl rfl (Wk.refl _) (pf0 _) (by exact ty_api_Program) (sz_S_api_Program _) rfl rfl) ?_
  refine r_d rfl rfl rfl (s_assign rfl rfl) ?_
  refine r_end ?_
  refine g_freeze 1 b1_1 rfl (pf0 _) ?_
  refine g_seq ?_
  refine g_run (by kernel_rfl) [(0, .d), (1, .d), (2, .d), (3, .d), (4, .d), (5, .w), (6, .w), (7, .d)] rfl ?_
  refine r_d rfl rfl rfl (m_lit (f := (D.int .u8)) [.const (.int .u8 (2)), .const (.int .u8 (0))] [2, 0] rfl el_L_uint8 rfl rfl (by decide) (by decide) (.cons rfl (Wk.refl _) (.cons rfl (Wk.refl _) .nil)) (fun _ => rfl) (fun _ => rfl)) ?_
  obtain ⟨r_3, hr_3, hr⟩ := bindS hr
  refine r_d rfl rfl rfl (by exact s_callD rfl cl_snapshot_TakeProgram (.cons rfl (Wk.full _) .nil) (lg_snapshot_TakeProgram fuel _ _ hr_3)) ?_
  refine r_d rfl rfl rfl (s_move rfl rfl) ?_
  refine r_d rfl rfl rfl (s_extract rfl rfl rfl) ?_
  refine r_d rfl rfl rfl (s_extract rfl rfl rfl) ?_
  refine r_w rfl rfl rfl (s_alloc rfl zv_api_Program) ?_
  rintro _ _ ⟨b3_3, rfl, rfl⟩
  refine r_w01 rfl rfl rfl (t_store0 _ rfl rfl rfl (Wk.refl _) (pf0 _) (by exact ty_api_Program) (sz_S_api_Program _) rfl rfl) ?_
  refine r_d rfl rfl rfl (s_assign rfl rfl) ?_
  refine r_end ?_
  refine g_freeze 3 b3_3 rfl (pf0 _) ?_
  refine g_seq ?_
  refine g_run (by kernel_rfl) [(0, .d), (1, .d), (2, .d), (3, .d), (4, .d), (5, .w), (6, .w), (7, .d)] rfl ?_
  refine r_d rfl rfl rfl (m_lit (f := (D.int .u8)) [.const (.int .u8 (4)), .const (.int .u8 (0)), .const (.int .u8 (0))] [4, 0, 0] rfl el_L_uint8 rfl rfl (by decide) (by decide) (.cons rfl (Wk.refl _) (.cons rfl (Wk.refl _) (.cons rfl (Wk.refl _) .nil))) (fun _ => rfl) (fun _ => rfl)) ?_
  obtain ⟨r_5, hr_5, hr⟩ := bindS hr
  refine r_d rfl rfl rfl (by exact s_callD rfl cl_snapshot_TakeProgram (.cons rfl (Wk.full _) .nil) (lg_snapshot_TakeProgram fuel _ _ hr_5)) ?_
  refine r_d rfl rfl rfl (s_move rfl rfl) ?_
  refine r_d rfl rfl rfl (s_extract rfl rfl rfl) ?_
  refine r_d rfl rfl rfl (s_extract rfl rfl rfl) ?_
  refine r_w rfl rfl rfl (s_alloc rfl zv_api_Program) ?_
  rintro _ _ ⟨b5_5, rfl, rfl⟩
  refine r_w01 rfl rfl rfl (t_store0 _ rfl rfl rfl (Wk.refl _) (pf0 _) (by exact ty_api_Program) (sz_S_api_Program _) rfl rfl) ?_
  refine r_d rfl rfl rfl (s_assign rfl rfl) ?_
  refine r_end ?_
  refine g_freeze 5 b5_5 rfl (pf0 _) ?_
  refine g_seq ?_
  refine g_run (by kernel_rfl) [(0, .d), (1, .d), (2, .d), (3, .d), (4, .d), (5, .d), (6, .d), (7, .d), (8, .d), (9, .d), (10, .w), (11, .w), (12, .d)] rfl ?_
  refine r_d rfl rfl rfl (s_build rfl bt_api_Goal (.cons rfl (Wk.refl _) .nil) (.cons rfl rfl rfl (.nil _))) ?_
  refine r_d rfl rfl rfl (s_build rfl bt_api_Frame (.cons rfl (Wk.refl _) .nil) (.cons rfl rfl rfl (.nil _))) ?_
  refine r_d rfl rfl rfl (s_build rfl bt_api_Frame (.cons rfl (Wk.refl _) (.cons rfl (Wk.refl _) .nil)) (.cons rfl rfl rfl (.cons rfl rfl rfl (.nil _)))) ?_
  refine r_d rfl rfl rfl (m_lit (f := enc_S_api_Frame) [.tmp 26, .tmp 27] [(⟨(⟨2, ⟨#[]⟩, []⟩ : Gl), 0, 0⟩ : S_api_Frame), (⟨(⟨0, ⟨#[]⟩, []⟩ : Gl), 4, (-1)⟩ : S_api_Frame)] rfl el_L_api_Frame rfl rfl (by decide) (by decide) (.cons rfl (Wk.refl _) (.cons rfl (Wk.refl _) .nil)) sz_S_api_Frame (fun _ => rfl)) ?_
  refine r_d rfl rfl rfl (s_build rfl bt_api_Config (.cons rfl (Wk.refl _) (.cons rfl (Wk.full _) .nil)) (.cons rfl rfl rfl (.cons rfl rfl rfl (.nil _)))) ?_
  obtain ⟨r_7, hr_7, hr⟩ := bindS hr
  refine r_d rfl rfl rfl (s_callD rfl cl_snapshot_Config (.cons rfl (Wk.refl _) .nil) (lg_snapshot_Config fuel _ _ hr_7)) ?_
  obtain ⟨r_8, hr_8, hr⟩ := bindS hr
  refine r_d rfl rfl rfl (s_callD rfl cl_snapshot_TakeConfig (.cons rfl (Wk.refl _) .nil) (lg_snapshot_TakeConfig fuel _ _ hr_8)) ?_
  refine r_d rfl rfl rfl (s_move rfl rfl) ?_
  refine r_d rfl rfl rfl (s_extract rfl rfl rfl) ?_
  refine r_d rfl rfl rfl (s_extract rfl rfl rfl) ?_
  refine r_w rfl rfl rfl (s_alloc rfl zv_api_Config) ?_
  rintro _ _ ⟨b7_8, rfl, rfl⟩
  refine r_w01 rfl rfl rfl (t_store0 _ rfl rfl rfl (Wk.refl _) (pf0 _) (by exact ty_api_Config) (sz_S_api_Config _) rfl rfl) ?_
  refine r_d rfl rfl rfl (s_assign rfl rfl) ?_
  refine r_end ?_
  refine g_freeze 7 b7_8 rfl (pf0 _) ?_
  refine g_seq ?_
  refine g_run (by kernel_rfl) [(0, .d), (1, .d), (2, .d), (3, .d), (4, .d), (5, .d), (6, .d), (7, .d), (8, .d), (9, .d), (10, .d), (11, .d), (12, .d), (13, .d), (14, .d), (15, .d), (16, .d), (17, .d), (18, .d), (19, .d), (20, .d), (21, .d), (22, .d), (23, .d), (24, .d), (25, .d), (26, .d), (27, .d), (28, .d), (29, .d), (30, .d), (31, .d), (32, .d), (33, .d), (34, .d), (35, .d), (36, .d), (37, .d), (38, .d), (39, .d), (40, .d), (41, .d), (42, .d), (43, .d), (44, .d), (45, .d), (46, .d), (47, .d), (48, .d), (49, .d), (50, .d), (51, .d), (52, .d), (53, .d), (54, .d), (55, .d), (56, .d)] rfl ?_
  refine r_d rfl rfl rfl (s_move rfl rfl) ?_
  refine r_d rfl rfl rfl (s_cmp rfl rfl rfl rfl) ?_
  refine r_d rfl rfl rfl (s_move rfl rfl) ?_
  refine r_sB 36 rfl hr (fun h36_9 hr => ?_) (fun h36_9 hr => ?_)
  ·
   refine r_d rfl rfl rfl (s_fieldAddr rfl fl_api_Program_0 rfl rfl rfl rfl) ?_
   refine r_d rfl rfl rfl (s_load rfl rfl (by exact ty_L_api_Decl) rfl) ?_
   refine r_d rfl rfl rfl (m_len (f := enc_S_api_Decl) r_1.1.f0_Decls rfl el_L_api_Decl rfl (asl rfl)) ?_
   refine r_d rfl rfl rfl (s_cmp rfl rfl rfl rfl) ?_
   refine r_d rfl rfl rfl (s_pickT rfl rfl rfl) ?_
   refine r_d rfl rfl rfl (s_move rfl rfl) ?_
   refine r_sB 42 rfl hr (fun h42_10 hr => ?_) (fun h42_10 hr => ?_)
   ·
    refine r_d rfl rfl rfl (s_fieldAddr rfl fl_api_Program_0 rfl rfl rfl rfl) ?_
    refine r_d rfl rfl rfl (s_load rfl rfl (by exact ty_L_api_Decl) rfl) ?_
    obtain ⟨q_12, hq_12, hr⟩ := bindS hr
    refine r_d rfl rfl rfl (m_index (f := enc_S_api_Decl) r_1.1.f0_Decls rfl el_L_api_Decl rfl (asl rfl) rfl hq_12 sz_S_api_Decl rfl) ?_
    refine r_d rfl rfl rfl (s_fieldAddr rfl fl_api_Decl_0 rfl rfl rfl rfl) ?_
    refine r_d rfl rfl rfl (s_load rfl rfl (by exact ty_string) rfl) ?_
    refine r_d rfl rfl rfl (s_cmpS rfl rfl rfl rfl) ?_
    refine r_d rfl rfl rfl (s_pickT rfl rfl rfl) ?_
    refine r_d rfl rfl rfl (s_move rfl rfl) ?_
    refine r_sB 50 rfl hr (fun h50_12 hr => ?_) (fun h50_12 hr => ?_)
    ·
     refine r_d rfl rfl rfl (s_move rfl rfl) ?_
     refine r_d rfl rfl rfl (s_cmp rfl rfl rfl rfl) ?_
     refine r_d rfl rfl rfl (s_pickT rfl rfl rfl) ?_
     refine r_d rfl rfl rfl (s_move rfl rfl) ?_
     refine r_sB 54 rfl hr (fun h54_13 hr => ?_) (fun h54_13 hr => ?_)
     ·
      refine r_d rfl rfl rfl (s_move rfl rfl) ?_
      refine r_d rfl rfl rfl (s_cmp rfl rfl rfl rfl) ?_
      refine r_d rfl rfl rfl (s_pickT rfl rfl rfl) ?_
      refine r_d rfl rfl rfl (s_move rfl rfl) ?_
      refine r_sB 58 rfl hr (fun h58_14 hr => ?_) (fun h58_14 hr => ?_)
      ·
       refine r_d rfl rfl rfl (s_build rfl bt_api_Memory (.cons rfl (Wk.refl _) .nil) (.cons rfl rfl rfl (.nil _))) ?_
       obtain ⟨r_16, hr_16, hr⟩ := bindS hr
       refine r_d rfl rfl rfl (s_callD rfl cl_snapshot_Memory (.cons rfl (Wk.refl _) .nil) (lg_snapshot_Memory fuel _ _ hr_16)) ?_
       refine r_d rfl rfl rfl (m_lit (f := (D.int .u8)) [.const (.int .u8 (6)), .const (.int .u8 (0)), .const (.int .u8 (0)), .const (.int .u8 (0)), .const (.int .u8 (2)), .const (.int .u8 (0))] [6, 0, 0, 0, 2, 0] rfl el_L_uint8 rfl rfl (by decide) (by decide) (.cons rfl (Wk.refl _) (.cons rfl (Wk.refl _) (.cons rfl (Wk.refl _) (.cons rfl (Wk.refl _) (.cons rfl (Wk.refl _) (.cons rfl (Wk.refl _) .nil)))))) (fun _ => rfl) (fun _ => rfl)) ?_
       obtain ⟨r_17, hr_17, hr⟩ := bindS hr
       refine r_d rfl rfl rfl (by exact s_callD rfl cl_constraintlaw52_same (.cons rfl (Wk.refl _) (.cons rfl (Wk.full _) .nil)) (lg_constraintlaw52_same _ _ _ hr_17)) ?_
       refine r_d rfl rfl rfl (s_pickT rfl rfl rfl) ?_
       refine r_d rfl rfl rfl (s_move rfl rfl) ?_
       refine r_sB 64 rfl hr (fun h64_17 hr => ?_) (fun h64_17 hr => ?_)
       ·
        refine r_d rfl rfl rfl (s_move rfl rfl) ?_
        refine r_d rfl rfl rfl (s_cmp rfl rfl rfl rfl) ?_
        refine r_d rfl rfl rfl (s_pickT rfl rfl rfl) ?_
        refine r_d rfl rfl rfl (s_move rfl rfl) ?_
        refine r_sB 68 rfl hr (fun h68_18 hr => ?_) (fun h68_18 hr => ?_)
        ·
         refine r_d rfl rfl rfl (s_fieldAddr rfl fl_api_Config_0 rfl rfl rfl rfl) ?_
         refine r_d rfl rfl rfl (s_load rfl rfl (by exact ty_L_api_Frame) rfl) ?_
         refine r_d rfl rfl rfl (m_len (f := enc_S_api_Frame) r_8.1.f0_Stack rfl el_L_api_Frame rfl (asl rfl)) ?_
         refine r_d rfl rfl rfl (s_cmp rfl rfl rfl rfl) ?_
         refine r_d rfl rfl rfl (s_pickT rfl rfl rfl) ?_
         refine r_d rfl rfl rfl (s_move rfl rfl) ?_
         refine r_sB 74 rfl hr (fun h74_19 hr => ?_) (fun h74_19 hr => ?_)
         ·
          refine r_d rfl rfl rfl (s_fieldAddr rfl fl_api_Config_0 rfl rfl rfl rfl) ?_
          refine r_d rfl rfl rfl (s_load rfl rfl (by exact ty_L_api_Frame) rfl) ?_
          obtain ⟨q_21, hq_21, hr⟩ := bindS hr
          refine r_d rfl rfl rfl (m_index (f := enc_S_api_Frame) r_8.1.f0_Stack rfl el_L_api_Frame rfl (asl rfl) rfl hq_21 sz_S_api_Frame rfl) ?_
          refine r_d rfl rfl rfl (s_fieldAddr rfl fl_api_Frame_2 rfl rfl (by simp [szs, sz, sz_encG]) rfl) ?_
          refine r_d rfl rfl rfl (s_load rfl rfl (by exact ty_int) rfl) ?_
          refine r_d rfl rfl rfl (s_cmp rfl rfl rfl rfl) ?_
          refine r_d rfl rfl rfl (s_pickT rfl rfl rfl) ?_
          refine r_d rfl rfl rfl (s_move rfl rfl) ?_
          refine r_sB 82 rfl hr (fun h82_21 hr => ?_) (fun h82_21 hr => ?_)
          ·
           refine r_d rfl rfl rfl (s_build rfl bt_api_Decl (.cons rfl (Wk.refl _) .nil) (.cons rfl rfl rfl (.nil _))) ?_
           refine r_d rfl rfl rfl (m_lit (f := enc_S_api_Decl) [.tmp 83] [(⟨⟨#[]⟩, 7⟩ : S_api_Decl)] rfl el_L_api_Decl rfl rfl (by decide) (by decide) (.cons rfl (Wk.refl _) .nil) sz_S_api_Decl (fun _ => rfl)) ?_
           refine r_d rfl rfl rfl (s_build rfl bt_api_Program (.cons rfl (Wk.full _) .nil) (.cons rfl rfl rfl (.nil _))) ?_
           obtain ⟨r_23, hr_23, hr⟩ := bindS hr
           refine r_d rfl rfl rfl (s_callD rfl cl_snapshot_Program (.cons rfl (Wk.refl _) .nil) (lg_snapshot_Program fuel _ _ hr_23)) ?_
           refine r_d rfl rfl rfl (m_len (f := (D.int .u8)) r_23 rfl el_L_uint8 rfl (asl rfl)) ?_
           refine r_d rfl rfl rfl (s_cmp rfl rfl rfl rfl) ?_
           refine r_d rfl rfl rfl (s_pickT rfl rfl rfl) ?_
           refine r_d rfl rfl rfl (s_assign rfl rfl) ?_
           refine r_end ?_
           obtain rfl := Option.some.inj hr
           refine g_ret Tryz.func10 _ (.cons (resTmp rfl (Wk.refl _)) .nil) ?_
           rfl
          ·
           refine r_skip rfl rfl rfl ?_
           refine r_skip rfl rfl rfl ?_
           refine r_skip rfl rfl rfl ?_
           refine r_skip rfl rfl rfl ?_
           refine r_skip rfl rfl rfl ?_
           refine r_skip rfl rfl rfl ?_
           refine r_d rfl rfl rfl (s_pickF rfl rfl rfl) ?_
           refine r_d rfl rfl rfl (s_assign rfl rfl) ?_
           refine r_end ?_
           obtain rfl := Option.some.inj hr
           refine g_ret Tryz.func10 _ (.cons (resTmp rfl (Wk.refl _)) .nil) ?_
           rfl
         ·
          refine r_skip rfl rfl rfl ?_
          refine r_skip rfl rfl rfl ?_
          refine r_skip rfl rfl rfl ?_
          refine r_skip rfl rfl rfl ?_
          refine r_skip rfl rfl rfl ?_
          refine r_skip rfl rfl rfl ?_
          refine r_d rfl rfl rfl (s_pickF rfl rfl rfl) ?_
          refine r_d rfl rfl rfl (s_move rfl rfl) ?_
          refine r_skip rfl rfl rfl ?_
          refine r_skip rfl rfl rfl ?_
          refine r_skip rfl rfl rfl ?_
          refine r_skip rfl rfl rfl ?_
          refine r_skip rfl rfl rfl ?_
          refine r_skip rfl rfl rfl ?_
          refine r_d rfl rfl rfl (s_pickF rfl rfl rfl) ?_
          refine r_d rfl rfl rfl (s_assign rfl rfl) ?_
          refine r_end ?_
          obtain rfl := Option.some.inj hr
          refine g_ret Tryz.func10 _ (.cons (resTmp rfl (Wk.refl _)) .nil) ?_
          rfl
        ·
         refine r_skip rfl rfl rfl ?_
         refine r_skip rfl rfl rfl ?_
         refine r_skip rfl rfl rfl ?_
         refine r_skip rfl rfl rfl ?_
         refine r_d rfl rfl rfl (s_pickF rfl rfl rfl) ?_
         refine r_d rfl rfl rfl (s_move rfl rfl) ?_
         refine r_skip rfl rfl rfl ?_
         refine r_skip rfl rfl rfl ?_
         refine r_skip rfl rfl rfl ?_
         refine r_skip rfl rfl rfl ?_
         refine r_skip rfl rfl rfl ?_
         refine r_skip rfl rfl rfl ?_
         refine r_d rfl rfl rfl (s_pickF rfl rfl rfl) ?_
         refine r_d rfl rfl rfl (s_move rfl rfl) ?_
         refine r_skip rfl rfl rfl ?_
         refine r_skip rfl rfl rfl ?_
         refine r_skip rfl rfl rfl ?_
         refine r_skip rfl rfl rfl ?_
         refine r_skip rfl rfl rfl ?_
         refine r_skip rfl rfl rfl ?_
         refine r_d rfl rfl rfl (s_pickF rfl rfl rfl) ?_
         refine r_d rfl rfl rfl (s_assign rfl rfl) ?_
         refine r_end ?_
         obtain rfl := Option.some.inj hr
         refine g_ret Tryz.func10 _ (.cons (resTmp rfl (Wk.refl _)) .nil) ?_
         rfl
       ·
        refine r_skip rfl rfl rfl ?_
        refine r_skip rfl rfl rfl ?_
        refine r_d rfl rfl rfl (s_pickF rfl rfl rfl) ?_
        refine r_d rfl rfl rfl (s_move rfl rfl) ?_
        refine r_skip rfl rfl rfl ?_
        refine r_skip rfl rfl rfl ?_
        refine r_skip rfl rfl rfl ?_
        refine r_skip rfl rfl rfl ?_
        refine r_d rfl rfl rfl (s_pickF rfl rfl rfl) ?_
        refine r_d rfl rfl rfl (s_move rfl rfl) ?_
        refine r_skip rfl rfl rfl ?_
        refine r_skip rfl rfl rfl ?_
        refine r_skip rfl rfl rfl ?_
        refine r_skip rfl rfl rfl ?_
        refine r_skip rfl rfl rfl ?_
        refine r_skip rfl rfl rfl ?_
        refine r_d rfl rfl rfl (s_pickF rfl rfl rfl) ?_
        refine r_d rfl rfl rfl (s_move rfl rfl) ?_
        refine r_skip rfl rfl rfl ?_
        refine r_skip rfl rfl rfl ?_
        refine r_skip rfl rfl rfl ?_
        refine r_skip rfl rfl rfl ?_
        refine r_skip rfl rfl rfl ?_
        refine r_skip rfl rfl rfl ?_
        refine r_d rfl rfl rfl (s_pickF rfl rfl rfl) ?_
        refine r_d rfl rfl rfl (s_assign rfl rfl) ?_
        refine r_end ?_
        obtain rfl := Option.some.inj hr
        refine g_ret Tryz.func10 _ (.cons (resTmp rfl (Wk.refl _)) .nil) ?_
        rfl
      ·
       refine r_skip rfl rfl rfl ?_
       refine r_skip rfl rfl rfl ?_
       refine r_skip rfl rfl rfl ?_
       refine r_skip rfl rfl rfl ?_
       refine r_d rfl rfl rfl (s_pickF rfl rfl rfl) ?_
       refine r_d rfl rfl rfl (s_move rfl rfl) ?_
       refine r_skip rfl rfl rfl ?_
       refine r_skip rfl rfl rfl ?_
       refine r_d rfl rfl rfl (s_pickF rfl rfl rfl) ?_
       refine r_d rfl rfl rfl (s_move rfl rfl) ?_
       refine r_skip rfl rfl rfl ?_
       refine r_skip rfl rfl rfl ?_
       refine r_skip rfl rfl rfl ?_
       refine r_skip rfl rfl rfl ?_
       refine r_d rfl rfl rfl (s_pickF rfl rfl rfl) ?_
       refine r_d rfl rfl rfl (s_move rfl rfl) ?_
       refine r_skip rfl rfl rfl ?_
       refine r_skip rfl rfl rfl ?_
       refine r_skip rfl rfl rfl ?_
       refine r_skip rfl rfl rfl ?_
       refine r_skip rfl rfl rfl ?_
       refine r_skip rfl rfl rfl ?_
       refine r_d rfl rfl rfl (s_pickF rfl rfl rfl) ?_
       refine r_d rfl rfl rfl (s_move rfl rfl) ?_
       refine r_skip rfl rfl rfl ?_
       refine r_skip rfl rfl rfl ?_
       refine r_skip rfl rfl rfl ?_
       refine r_skip rfl rfl rfl ?_
       refine r_skip rfl rfl rfl ?_
       refine r_skip rfl rfl rfl ?_
       refine r_d rfl rfl rfl (s_pickF rfl rfl rfl) ?_
       refine r_d rfl rfl rfl (s_assign rfl rfl) ?_
       refine r_end ?_
       obtain rfl := Option.some.inj hr
       refine g_ret Tryz.func10 _ (.cons (resTmp rfl (Wk.refl _)) .nil) ?_
       rfl
     ·
      refine r_skip rfl rfl rfl ?_
      refine r_skip rfl rfl rfl ?_
      refine r_d rfl rfl rfl (s_pickF rfl rfl rfl) ?_
      refine r_d rfl rfl rfl (s_move rfl rfl) ?_
      refine r_skip rfl rfl rfl ?_
      refine r_skip rfl rfl rfl ?_
      refine r_skip rfl rfl rfl ?_
      refine r_skip rfl rfl rfl ?_
      refine r_d rfl rfl rfl (s_pickF rfl rfl rfl) ?_
      refine r_d rfl rfl rfl (s_move rfl rfl) ?_
      refine r_skip rfl rfl rfl ?_
      refine r_skip rfl rfl rfl ?_
      refine r_d rfl rfl rfl (s_pickF rfl rfl rfl) ?_
      refine r_d rfl rfl rfl (s_move rfl rfl) ?_
      refine r_skip rfl rfl rfl ?_
      refine r_skip rfl rfl rfl ?_
      refine r_skip rfl rfl rfl ?_
      refine r_skip rfl rfl rfl ?_
      refine r_d rfl rfl rfl (s_pickF rfl rfl rfl) ?_
      refine r_d rfl rfl rfl (s_move rfl rfl) ?_
      refine r_skip rfl rfl rfl ?_
      refine r_skip rfl rfl rfl ?_
      refine r_skip rfl rfl rfl ?_
      refine r_skip rfl rfl rfl ?_
      refine r_skip rfl rfl rfl ?_
      refine r_skip rfl rfl rfl ?_
      refine r_d rfl rfl rfl (s_pickF rfl rfl rfl) ?_
      refine r_d rfl rfl rfl (s_move rfl rfl) ?_
      refine r_skip rfl rfl rfl ?_
      refine r_skip rfl rfl rfl ?_
      refine r_skip rfl rfl rfl ?_
      refine r_skip rfl rfl rfl ?_
      refine r_skip rfl rfl rfl ?_
      refine r_skip rfl rfl rfl ?_
      refine r_d rfl rfl rfl (s_pickF rfl rfl rfl) ?_
      refine r_d rfl rfl rfl (s_assign rfl rfl) ?_
      refine r_end ?_
      obtain rfl := Option.some.inj hr
      refine g_ret Tryz.func10 _ (.cons (resTmp rfl (Wk.refl _)) .nil) ?_
      rfl
    ·
     refine r_skip rfl rfl rfl ?_
     refine r_skip rfl rfl rfl ?_
     refine r_d rfl rfl rfl (s_pickF rfl rfl rfl) ?_
     refine r_d rfl rfl rfl (s_move rfl rfl) ?_
     refine r_skip rfl rfl rfl ?_
     refine r_skip rfl rfl rfl ?_
     refine r_d rfl rfl rfl (s_pickF rfl rfl rfl) ?_
     refine r_d rfl rfl rfl (s_move rfl rfl) ?_
     refine r_skip rfl rfl rfl ?_
     refine r_skip rfl rfl rfl ?_
     refine r_skip rfl rfl rfl ?_
     refine r_skip rfl rfl rfl ?_
     refine r_d rfl rfl rfl (s_pickF rfl rfl rfl) ?_
     refine r_d rfl rfl rfl (s_move rfl rfl) ?_
     refine r_skip rfl rfl rfl ?_
     refine r_skip rfl rfl rfl ?_
     refine r_d rfl rfl rfl (s_pickF rfl rfl rfl) ?_
     refine r_d rfl rfl rfl (s_move rfl rfl) ?_
     refine r_skip rfl rfl rfl ?_
     refine r_skip rfl rfl rfl ?_
     refine r_skip rfl rfl rfl ?_
     refine r_skip rfl rfl rfl ?_
     refine r_d rfl rfl rfl (s_pickF rfl rfl rfl) ?_
     refine r_d rfl rfl rfl (s_move rfl rfl) ?_
     refine r_skip rfl rfl rfl ?_
     refine r_skip rfl rfl rfl ?_
     refine r_skip rfl rfl rfl ?_
     refine r_skip rfl rfl rfl ?_
     refine r_skip rfl rfl rfl ?_
     refine r_skip rfl rfl rfl ?_
     refine r_d rfl rfl rfl (s_pickF rfl rfl rfl) ?_
     refine r_d rfl rfl rfl (s_move rfl rfl) ?_
     refine r_skip rfl rfl rfl ?_
     refine r_skip rfl rfl rfl ?_
     refine r_skip rfl rfl rfl ?_
     refine r_skip rfl rfl rfl ?_
     refine r_skip rfl rfl rfl ?_
     refine r_skip rfl rfl rfl ?_
     refine r_d rfl rfl rfl (s_pickF rfl rfl rfl) ?_
     refine r_d rfl rfl rfl (s_assign rfl rfl) ?_
     refine r_end ?_
     obtain rfl := Option.some.inj hr
     refine g_ret Tryz.func10 _ (.cons (resTmp rfl (Wk.refl _)) .nil) ?_
     rfl
   ·
    refine r_skip rfl rfl rfl ?_
    refine r_skip rfl rfl rfl ?_
    refine r_skip rfl rfl rfl ?_
    refine r_skip rfl rfl rfl ?_
    refine r_skip rfl rfl rfl ?_
    refine r_skip rfl rfl rfl ?_
    refine r_d rfl rfl rfl (s_pickF rfl rfl rfl) ?_
    refine r_d rfl rfl rfl (s_move rfl rfl) ?_
    refine r_skip rfl rfl rfl ?_
    refine r_skip rfl rfl rfl ?_
    refine r_d rfl rfl rfl (s_pickF rfl rfl rfl) ?_
    refine r_d rfl rfl rfl (s_move rfl rfl) ?_
    refine r_skip rfl rfl rfl ?_
    refine r_skip rfl rfl rfl ?_
    refine r_d rfl rfl rfl (s_pickF rfl rfl rfl) ?_
    refine r_d rfl rfl rfl (s_move rfl rfl) ?_
    refine r_skip rfl rfl rfl ?_
    refine r_skip rfl rfl rfl ?_
    refine r_skip rfl rfl rfl ?_
    refine r_skip rfl rfl rfl ?_
    refine r_d rfl rfl rfl (s_pickF rfl rfl rfl) ?_
    refine r_d rfl rfl rfl (s_move rfl rfl) ?_
    refine r_skip rfl rfl rfl ?_
    refine r_skip rfl rfl rfl ?_
    refine r_d rfl rfl rfl (s_pickF rfl rfl rfl) ?_
    refine r_d rfl rfl rfl (s_move rfl rfl) ?_
    refine r_skip rfl rfl rfl ?_
    refine r_skip rfl rfl rfl ?_
    refine r_skip rfl rfl rfl ?_
    refine r_skip rfl rfl rfl ?_
    refine r_d rfl rfl rfl (s_pickF rfl rfl rfl) ?_
    refine r_d rfl rfl rfl (s_move rfl rfl) ?_
    refine r_skip rfl rfl rfl ?_
    refine r_skip rfl rfl rfl ?_
    refine r_skip rfl rfl rfl ?_
    refine r_skip rfl rfl rfl ?_
    refine r_skip rfl rfl rfl ?_
    refine r_skip rfl rfl rfl ?_
    refine r_d rfl rfl rfl (s_pickF rfl rfl rfl) ?_
    refine r_d rfl rfl rfl (s_move rfl rfl) ?_
    refine r_skip rfl rfl rfl ?_
    refine r_skip rfl rfl rfl ?_
    refine r_skip rfl rfl rfl ?_
    refine r_skip rfl rfl rfl ?_
    refine r_skip rfl rfl rfl ?_
    refine r_skip rfl rfl rfl ?_
    refine r_d rfl rfl rfl (s_pickF rfl rfl rfl) ?_
    refine r_d rfl rfl rfl (s_assign rfl rfl) ?_
    refine r_end ?_
    obtain rfl := Option.some.inj hr
    refine g_ret Tryz.func10 _ (.cons (resTmp rfl (Wk.refl _)) .nil) ?_
    rfl
  ·
   refine r_skip rfl rfl rfl ?_
   refine r_skip rfl rfl rfl ?_
   refine r_skip rfl rfl rfl ?_
   refine r_skip rfl rfl rfl ?_
   refine r_d rfl rfl rfl (s_pickF rfl rfl rfl) ?_
   refine r_d rfl rfl rfl (s_move rfl rfl) ?_
   refine r_skip rfl rfl rfl ?_
   refine r_skip rfl rfl rfl ?_
   refine r_skip rfl rfl rfl ?_
   refine r_skip rfl rfl rfl ?_
   refine r_skip rfl rfl rfl ?_
   refine r_skip rfl rfl rfl ?_
   refine r_d rfl rfl rfl (s_pickF rfl rfl rfl) ?_
   refine r_d rfl rfl rfl (s_move rfl rfl) ?_
   refine r_skip rfl rfl rfl ?_
   refine r_skip rfl rfl rfl ?_
   refine r_d rfl rfl rfl (s_pickF rfl rfl rfl) ?_
   refine r_d rfl rfl rfl (s_move rfl rfl) ?_
   refine r_skip rfl rfl rfl ?_
   refine r_skip rfl rfl rfl ?_
   refine r_d rfl rfl rfl (s_pickF rfl rfl rfl) ?_
   refine r_d rfl rfl rfl (s_move rfl rfl) ?_
   refine r_skip rfl rfl rfl ?_
   refine r_skip rfl rfl rfl ?_
   refine r_skip rfl rfl rfl ?_
   refine r_skip rfl rfl rfl ?_
   refine r_d rfl rfl rfl (s_pickF rfl rfl rfl) ?_
   refine r_d rfl rfl rfl (s_move rfl rfl) ?_
   refine r_skip rfl rfl rfl ?_
   refine r_skip rfl rfl rfl ?_
   refine r_d rfl rfl rfl (s_pickF rfl rfl rfl) ?_
   refine r_d rfl rfl rfl (s_move rfl rfl) ?_
   refine r_skip rfl rfl rfl ?_
   refine r_skip rfl rfl rfl ?_
   refine r_skip rfl rfl rfl ?_
   refine r_skip rfl rfl rfl ?_
   refine r_d rfl rfl rfl (s_pickF rfl rfl rfl) ?_
   refine r_d rfl rfl rfl (s_move rfl rfl) ?_
   refine r_skip rfl rfl rfl ?_
   refine r_skip rfl rfl rfl ?_
   refine r_skip rfl rfl rfl ?_
   refine r_skip rfl rfl rfl ?_
   refine r_skip rfl rfl rfl ?_
   refine r_skip rfl rfl rfl ?_
   refine r_d rfl rfl rfl (s_pickF rfl rfl rfl) ?_
   refine r_d rfl rfl rfl (s_move rfl rfl) ?_
   refine r_skip rfl rfl rfl ?_
   refine r_skip rfl rfl rfl ?_
   refine r_skip rfl rfl rfl ?_
   refine r_skip rfl rfl rfl ?_
   refine r_skip rfl rfl rfl ?_
   refine r_skip rfl rfl rfl ?_
   refine r_d rfl rfl rfl (s_pickF rfl rfl rfl) ?_
   refine r_d rfl rfl rfl (s_assign rfl rfl) ?_
   refine r_end ?_
   obtain rfl := Option.some.inj hr
   refine g_ret Tryz.func10 _ (.cons (resTmp rfl (Wk.refl _)) .nil) ?_
   rfl

noncomputable def lf_constraintlaw52_goals_L0 (k : ((List Gl)) → Option ((List Gl))) : List S_api_Frame → (List Gl) → Option ((List Gl))
  | [], out_4 =>
  (k out_4)
  | q_8 :: rest, out_4 =>
  ((appO 48 out_4 [q_8.f0_Goal]).bind fun l_9 =>
  (lf_constraintlaw52_goals_L0 k rest l_9))
noncomputable def lf_constraintlaw52_goals (l_a0 : (List S_api_Frame)) : Option ((List Gl)) :=
  (lf_constraintlaw52_goals_L0 (fun out_7 =>
  some (out_7)) l_a0 [])

noncomputable def lf_constraintlaw23_tiny_L0 (k : Option (Bool)) : List T → Int → Option (Bool)
  | [], n_2 =>
  k
  | q_4 :: rest, n_2 =>
  ((x_sizeT q_4).bind fun r_5 =>
  (bif (decide ((wr (n_2 + r_5)) > (60 : Int))) then
  some (false)
  else
  (lf_constraintlaw23_tiny_L0 k rest (wr (n_2 + r_5)))))
noncomputable def lf_constraintlaw23_tiny (l_a0 : (List T)) : Option (Bool) :=
  (bif (decide ((l_a0.length : Int) > (8 : Int))) then
  some (false)
  else
  (lf_constraintlaw23_tiny_L0 (some (true)) l_a0 0))

noncomputable def lf_constraintlaw23_Goals_L0 (k : Option (Bool)) : List Gl → Option (Bool)
  | [] =>
  k
  | q_3 :: rest =>
  ((lf_constraintlaw23_tiny q_3.ts).bind fun r_4 =>
  (bif (!r_4) then
  some (false)
  else
  (lf_constraintlaw23_Goals_L0 k rest)))
noncomputable def lf_constraintlaw23_Goals (l_a0 : (List Gl)) (most_a1 : Int) : Option (Bool) :=
  (bif (decide ((l_a0.length : Int) > most_a1)) then
  some (false)
  else
  (lf_constraintlaw23_Goals_L0 (some (true)) l_a0))

noncomputable def lf_constraintlaw23_Parts_L2 (k : Option (Bool)) : List S_api_Fire → Option (Bool)
  | [] =>
  k
  | q_7 :: rest =>
  (bif (decide ((q_7.f1_IDs.length : Int) > (8 : Int))) then
  some (false)
  else
  (lf_constraintlaw23_Parts_L2 k rest))

noncomputable def lf_constraintlaw23_Parts_L1 (k : Option (Bool)) : List (Int × T) → Option (Bool)
  | [] =>
  k
  | q_9 :: rest =>
  ((x_sizeT q_9.2).bind fun r_10 =>
  (bif (decide (r_10 > (60 : Int))) then
  some (false)
  else
  (lf_constraintlaw23_Parts_L1 k rest)))

noncomputable def lf_constraintlaw23_Parts_L0 (k : Option (Bool)) : List (Int × At) → Option (Bool)
  | [] =>
  k
  | q_12 :: rest =>
  ((lf_constraintlaw23_tiny q_12.2.ts).bind fun r_13 =>
  (bif (!r_13) then
  some (false)
  else
  (lf_constraintlaw23_Parts_L0 k rest)))
noncomputable def lf_constraintlaw23_Parts (l_a0 : (List (Int × At))) (b_a1 : (List (Int × T))) (h_a2 : (List S_api_Fire)) : Option (Bool) :=
  (bif (decide ((l_a0.length : Int) > (9 : Int))) then
  some (false)
  else
  (bif (decide ((b_a1.length : Int) > (20 : Int))) then
  some (false)
  else
  (bif (decide ((h_a2.length : Int) > (30 : Int))) then
  some (false)
  else
  (lf_constraintlaw23_Parts_L0 ((lf_constraintlaw23_Parts_L1 ((lf_constraintlaw23_Parts_L2 (some (true)) h_a2)) b_a1)) l_a0))))

noncomputable def lf_constraintlaw52_small (c_a0 : S_api_Config) : Option (Bool) :=
  (bif (decide ((c_a0.f0_Stack.length : Int) ≤ (30 : Int))) then
  ((lf_constraintlaw52_goals c_a0.f0_Stack).bind fun r_2 =>
  ((lf_constraintlaw23_Goals r_2 30).bind fun r_3 =>
  (bif r_3 then
  ((lf_constraintlaw23_Parts c_a0.f1_Store c_a0.f2_Binds c_a0.f3_Fired).bind fun r_5 =>
  some (r_5))
  else
  some (false))))
  else
  some (false))

end Go.Proofs.YtdoljfkjdfaakaaGreat


namespace Go.Proofs.YtdoljfkjdfaakaaGreat
set_option maxRecDepth 100000
open Go.RowKit

def TotP {α : Type} (x : Option α) (Q : α → Prop) : Prop := ∃ a, x = some a ∧ Q a
theorem TotP.pure {α : Type} {a : α} {Q : α → Prop} (h : Q a) : TotP (some a) Q := ⟨a, rfl, h⟩
theorem TotP.bind {α β : Type} {x : Option α} {R : α → Prop} {f : α → Option β} {Q : β → Prop} (h : TotP x R) (hf : ∀ a, R a → TotP (f a) Q) : TotP (x.bind f) Q := by
  obtain ⟨a, rfl, ha⟩ := h
  exact hf a ha
theorem TotP.cond {α : Type} {b : Bool} {x y : Option α} {Q : α → Prop} (h1 : b = true → TotP x Q) (h2 : b = false → TotP y Q) : TotP (bif b then x else y) Q := by
  cases b with
  | true => exact h1 rfl
  | false => exact h2 rfl
theorem TotP.mono {α : Type} {x : Option α} {Q R : α → Prop} (h : TotP x Q) (hq : ∀ a, Q a → R a) : TotP x R := by
  obtain ⟨a, h1, h2⟩ := h
  exact ⟨a, h1, hq a h2⟩
def wA : List At → Nat
  | [] => 0
  | a :: l => 1 + wtL a.ts + wA l
def wG : List Gl → Nat
  | [] => 0
  | a :: l => 1 + wtL a.ts + wG l
theorem wA_mem {a : At} : ∀ {l : List At}, a ∈ l → wtL a.ts ≤ wA l
  | x :: l, h => by
    simp only [wA]
    rcases List.mem_cons.1 h with rfl | h
    · omega
    · have := wA_mem h
      omega
theorem wG_mem {a : Gl} : ∀ {l : List Gl}, a ∈ l → wtL a.ts ≤ wG l
  | x :: l, h => by
    simp only [wG]
    rcases List.mem_cons.1 h with rfl | h
    · omega
    · have := wG_mem h
      omega
theorem wA_len : ∀ (l : List At), l.length ≤ wA l
  | [] => Nat.le_refl _
  | x :: l => by
    have := wA_len l
    simp only [wA, List.length_cons]
    omega
def NmA (l : List At) : Prop := ∀ a ∈ l, a.n.size ≤ 9223372036854775807
def NmG (l : List Gl) : Prop := ∀ a ∈ l, a.n.size ≤ 9223372036854775807
theorem tdiv8 (s : Nat) : Int.tdiv (s : Int) 8 = ((s / 8 : Nat) : Int) := by
  rw [Int.tdiv_eq_ediv_of_nonneg (by omega)]
  rfl
theorem wr_step (m : Int) (s : Nat) (h1 : 0 ≤ m) (h2 : m ≤ 1000) (hs : s ≤ 9223372036854775807) : wr ((wr (m - 1)) - (wr (Int.tdiv (s : Int) 8))) = m - 1 - ((s / 8 : Nat) : Int) := by
  rw [tdiv8, wr_eq (n := m - 1) (by omega), wr_eq (n := ((s / 8 : Nat) : Int)) (by omega), wr_eq (by omega)]
theorem x_weigh_eq (ts : List T) (m : Int) (h1 : -9223372036854775808 ≤ m) (h2 : m ≤ 1000) : x_weigh ts m 64 = some (weighF 64 ts m) := by
  rw [x_weigh, if_pos ⟨⟨h1, by omega⟩, by omega, by omega⟩]
  rfl
theorem gAtoms_lf (k : Int → Option Bool) : ∀ (l : List At) (m : Int), m ≤ 1000 → (∀ a ∈ l, a.n.size ≤ 9223372036854775807) → ∃ r, lf_constraintref03_GreatAtoms_L0 k l m = k r ∧ (0 ≤ r → (wA l : Int) + r ≤ m)
  | [], m, _, _ => ⟨m, by rw [lf_constraintref03_GreatAtoms_L0], fun _ => by simp [wA]⟩
  | a :: l, m, hm, hn => by
    rw [lf_constraintref03_GreatAtoms_L0]
    by_cases h : m ≥ 0
    · have hs := hn a (List.mem_cons_self ..)
      rw [decide_eq_true h, cond_true, wr_step m _ h hm hs, x_weigh_eq _ _ (by omega) (by omega), Option.bind_some]
      have h1 := weighF_ge 64 a.ts (m - 1 - ((a.n.size / 8 : Nat) : Int))
      have h2 := weigh_wt 64 a.ts (m - 1 - ((a.n.size / 8 : Nat) : Int))
      obtain ⟨r, e1, e2⟩ := gAtoms_lf k l (weighF 64 a.ts (m - 1 - ((a.n.size / 8 : Nat) : Int))) (by omega) fun x hx => hn x (List.mem_cons_of_mem _ hx)
      refine ⟨r, e1, fun hr => ?_⟩
      have := e2 hr
      simp only [wA]
      omega
    · rw [decide_eq_false h, cond_false]
      exact ⟨m, rfl, fun hr => absurd hr h⟩
theorem greatAtoms_lf (l : List At) (m : Int) (hm : m ≤ 1000) (hn : ∀ a ∈ l, a.n.size ≤ 9223372036854775807) : TotP (lf_constraintref03_GreatAtoms l m) fun b => b = false → (wA l : Int) ≤ m := by
  unfold lf_constraintref03_GreatAtoms
  obtain ⟨r, e1, e2⟩ := gAtoms_lf (fun m => some (decide (m < 0))) l m hm hn
  rw [e1]
  refine ⟨_, rfl, fun h => ?_⟩
  have := of_decide_eq_false h
  have := e2 (by omega)
  omega
theorem gGoals_lf (k : Int → Option Bool) : ∀ (l : List Gl) (m : Int), m ≤ 1000 → (∀ a ∈ l, a.n.size ≤ 9223372036854775807) → ∃ r, lf_constraintref03_GreatGoals_L0 k l m = k r ∧ (0 ≤ r → (wG l : Int) + r ≤ m)
  | [], m, _, _ => ⟨m, by rw [lf_constraintref03_GreatGoals_L0], fun _ => by simp [wG]⟩
  | a :: l, m, hm, hn => by
    rw [lf_constraintref03_GreatGoals_L0]
    by_cases h : m ≥ 0
    · have hs := hn a (List.mem_cons_self ..)
      rw [decide_eq_true h, cond_true, wr_step m _ h hm hs, x_weigh_eq _ _ (by omega) (by omega), Option.bind_some]
      have h1 := weighF_ge 64 a.ts (m - 1 - ((a.n.size / 8 : Nat) : Int))
      have h2 := weigh_wt 64 a.ts (m - 1 - ((a.n.size / 8 : Nat) : Int))
      obtain ⟨r, e1, e2⟩ := gGoals_lf k l (weighF 64 a.ts (m - 1 - ((a.n.size / 8 : Nat) : Int))) (by omega) fun x hx => hn x (List.mem_cons_of_mem _ hx)
      refine ⟨r, e1, fun hr => ?_⟩
      have := e2 hr
      simp only [wG]
      omega
    · rw [decide_eq_false h, cond_false]
      exact ⟨m, rfl, fun hr => absurd hr h⟩
theorem greatGoals_lf (l : List Gl) (m : Int) (hm : m ≤ 1000) (hn : ∀ a ∈ l, a.n.size ≤ 9223372036854775807) : TotP (lf_constraintref03_GreatGoals l m) fun b => b = false → (wG l : Int) ≤ m := by
  unfold lf_constraintref03_GreatGoals
  obtain ⟨r, e1, e2⟩ := gGoals_lf (fun m => some (decide (m < 0))) l m hm hn
  rw [e1]
  refine ⟨_, rfl, fun h => ?_⟩
  have := of_decide_eq_false h
  have := e2 (by omega)
  omega
/-- Names are strings of the machine. -/
structure Nm (r : S_api_Rule) : Prop where
  n : r.f0_Name.size ≤ 9223372036854775807
  a : NmA r.f1_Keep
  b : NmA r.f2_Remove
  c : NmG r.f3_Guard
  d : NmG r.f4_Body
theorem greatR_L0 (k : Option Bool) (l0 : List S_api_Rule) (m : Int) (hm : m ≤ 200) (kb : Bool) (hk : k = some kb) : ∀ l : List S_api_Rule, (∀ r ∈ l, Nm r) → TotP (lf_constraintref03_GreatRules_L0 k l0 m l) fun b => b = false → ∀ r ∈ l, RuleS r
  | [], _ => by rw [lf_constraintref03_GreatRules_L0, hk]; exact ⟨_, rfl, fun _ r h => by cases h⟩
  | r :: l, hn => by
    have h := hn r (List.mem_cons_self ..)
    rw [lf_constraintref03_GreatRules_L0]
    refine .cond (fun _ => .pure fun h => by cases h) fun _ => ?_
    refine .cond (fun _ => .pure fun h => by cases h) fun hsum => ?_
    refine .bind (greatAtoms_lf _ m (by omega) h.a) fun x hx => .cond (fun _ => .pure fun h => by cases h) fun h1 => ?_
    refine .bind (greatAtoms_lf _ m (by omega) h.b) fun y hy => .cond (fun _ => .pure fun h => by cases h) fun h2 => ?_
    refine .bind (greatGoals_lf _ m (by omega) h.c) fun z hz => .cond (fun _ => .pure fun h => by cases h) fun h3 => ?_
    refine .bind (greatGoals_lf _ m (by omega) h.d) fun u hu => .cond (fun _ => .pure fun h => by cases h) fun h4 => ?_
    obtain ⟨b, e1, e2⟩ := greatR_L0 k l0 m hm kb hk l fun x hx => hn x (List.mem_cons_of_mem _ hx)
    have q1 := hx h1; have q2 := hy h2; have q3 := hz h3; have q4 := hu h4
    have l1 := wA_len r.f1_Keep
    have l2 := wA_len r.f2_Remove
    have hn' := h.n
    have hs := of_decide_eq_false hsum
    rw [tdiv8, wr_eq (n := ((r.f0_Name.size / 8 : Nat) : Int)) (by omega), wr_eq (n := ((r.f0_Name.size / 8 : Nat) : Int) + (r.f1_Keep.length : Int)) (by omega), wr_eq (by omega)] at hs
    refine ⟨b, e1, fun hb x hx => (List.mem_cons.1 hx).elim (fun e => e ▸ ⟨by omega, fun y hy => ?_, fun y hy => ?_, fun y hy => ?_, fun y hy => ?_⟩) (e2 hb x)⟩
    · have := wA_mem hy; omega
    · have := wA_mem hy; omega
    · have := wG_mem hy; omega
    · have := wG_mem hy; omega
theorem greatRules_lf (l : List S_api_Rule) (m : Int) (hm : m ≤ 200) (hn : ∀ r ∈ l, Nm r) : TotP (lf_constraintref03_GreatRules l m) fun b => b = false → ∀ r ∈ l, RuleS r := greatR_L0 _ _ m hm false rfl l hn

/-! ### names are strings of the machine -/
theorem reps_in {p : Addr → Prop} {w : World} : ∀ {ds : List D} {cs : List Value}, Reps p w ds cs → ∀ d ∈ ds, ∃ v, Rep p w d v
  | [], _, _, _, h => by cases h
  | x :: ds, cs, h, d, hd => by
    simp only [Reps] at h
    obtain ⟨v, rest, _, h1, h2⟩ := h
    exact (List.mem_cons.1 hd).elim (fun e => e ▸ ⟨v, h1⟩) (reps_in h2 d)
theorem agg_mem {p : Addr → Prop} {w : World} {fs : List D} {v : Value} (h : Rep p w (.agg fs) v) (d : D) (hd : d ∈ fs) : ∃ v, Rep p w d v := by
  simp only [Rep] at h
  obtain ⟨cs, _, h, _⟩ := h
  exact reps_in h d hd
theorem lst_mem {α : Type} {f : α → D} {p : Addr → Prop} {w : World} {l : List α} {v : Value} (h : Rep p w (.lst (l.map f)) v) (a : α) (ha : a ∈ l) : ∃ v, Rep p w (f a) v := by
  simp only [Rep] at h
  obtain ⟨A, c, xs, _, _, _, _, h, _⟩ := h
  exact reps_in h _ (List.mem_map.2 ⟨a, ha, rfl⟩)
theorem str_le {p : Addr → Prop} {w : World} {s : ByteArray} {v : Value} (h : Rep p w (.str s) v) : s.size ≤ 9223372036854775807 := by
  simp only [Rep] at h
  exact h.2
theorem nmA1 {p : Addr → Prop} {w : World} {a : At} {v : Value} (h : Rep p w (encA a) v) : a.n.size ≤ 9223372036854775807 := by
  obtain ⟨v, h⟩ := agg_mem h (.str a.n) (by simp)
  exact str_le h
theorem nmA_of {p : Addr → Prop} {w : World} {l : List At} {v : Value} (h : Rep p w (.lst (l.map encA)) v) : NmA l := fun a ha => by
  obtain ⟨v, h⟩ := lst_mem h a ha
  exact nmA1 h
theorem nmG_of {p : Addr → Prop} {w : World} {l : List Gl} {v : Value} (h : Rep p w (.lst (l.map encG)) v) : NmG l := fun a ha => by
  obtain ⟨v, h⟩ := lst_mem h a ha
  obtain ⟨v, h⟩ := agg_mem h (.str a.n) (by simp)
  exact str_le h
theorem nm_of {p : Addr → Prop} {w : World} {r : S_api_Rule} {v : Value} (h : Rep p w (enc_S_api_Rule r) v) : Nm r := by
  obtain ⟨_, h0⟩ := agg_mem h (.str r.f0_Name) (by simp)
  obtain ⟨_, h1⟩ := agg_mem h (.lst (r.f1_Keep.map encA)) (by simp)
  obtain ⟨_, h2⟩ := agg_mem h (.lst (r.f2_Remove.map encA)) (by simp)
  obtain ⟨_, h3⟩ := agg_mem h (.lst (r.f3_Guard.map encG)) (by simp)
  obtain ⟨_, h4⟩ := agg_mem h (.lst (r.f4_Body.map encG)) (by simp)
  exact ⟨str_le h0, nmA_of h1, nmA_of h2, nmG_of h3, nmG_of h4⟩
theorem nmP_of {p : Addr → Prop} {w : World} {q : S_api_Program} {v : Value} (h : Rep p w (enc_S_api_Program q) v) : ∀ r ∈ q.f1_Rules, Nm r := fun r hr => by
  obtain ⟨_, h1⟩ := agg_mem h (.lst (q.f1_Rules.map enc_S_api_Rule)) (by simp)
  obtain ⟨_, h2⟩ := lst_mem h1 r hr
  exact nm_of h2
/-! ### memories that are few -/
/-! ### states that are small, of bulk at most 1048576 -/
theorem goals52_L0 (k : List Gl → Option (List Gl)) : ∀ (l : List S_api_Frame) (acc : List Gl), acc.length + l.length ≤ 1000 → lf_constraintlaw52_goals_L0 k l acc = k (acc ++ l.map S_api_Frame.f0_Goal)
  | [], acc, _ => by
    rw [lf_constraintlaw52_goals_L0]
    simp
  | x :: l, acc, hl => by
    rw [lf_constraintlaw52_goals_L0, appO_eq (by simp only [List.length_cons, List.length_nil] at hl ⊢; omega) (by simp only [List.length_cons, List.length_nil] at hl ⊢; omega), Option.bind_some, goals52_L0 k l _ (by simp only [List.length_append, List.length_cons, List.length_nil] at hl ⊢; omega)]
    simp
def AnyB : Bool → Prop := fun _ => True
theorem tiny_L0 (k : Option Bool) (hk : TotP k AnyB) : ∀ (l : List T) (n : Int), (∀ t ∈ l, wt t ≤ 1000000000) → TotP (lf_constraintlaw23_tiny_L0 k l n) AnyB
  | [], n, _ => by rw [lf_constraintlaw23_tiny_L0]; exact hk
  | t :: l, n, h => by
    rw [lf_constraintlaw23_tiny_L0, x_sizeT_eq _ (h t (by simp)), Option.bind_some]
    exact .cond (fun _ => .pure trivial) fun _ => tiny_L0 k hk l _ fun x hx => h x (by simp [hx])
theorem wt_memL {t : T} : ∀ {l : List T}, t ∈ l → wt t ≤ wtL l
  | x :: l, h => by
    simp only [wtL]
    rcases List.mem_cons.1 h with rfl | h
    · omega
    · have := wt_memL h
      omega
theorem tiny_lf (l : List T) (h : wtL l ≤ 1000000000) : TotP (lf_constraintlaw23_tiny l) AnyB := by
  unfold lf_constraintlaw23_tiny
  exact .cond (fun _ => .pure trivial) fun _ => tiny_L0 _ ⟨_, rfl, trivial⟩ l 0 fun t ht => Nat.le_trans (wt_memL ht) h
theorem goals23_L0 (k : Option Bool) (hk : TotP k AnyB) : ∀ (l : List Gl), (∀ g ∈ l, wtL g.ts ≤ 1000000000) → TotP (lf_constraintlaw23_Goals_L0 k l) AnyB
  | [], _ => by rw [lf_constraintlaw23_Goals_L0]; exact hk
  | g :: l, h => by
    rw [lf_constraintlaw23_Goals_L0]
    exact .bind (tiny_lf g.ts (h g (by simp))) fun _ _ => .cond (fun _ => .pure trivial) fun _ => goals23_L0 k hk l fun x hx => h x (by simp [hx])
theorem goals23_lf (l : List Gl) (m : Int) (h : ∀ g ∈ l, wtL g.ts ≤ 1000000000) : TotP (lf_constraintlaw23_Goals l m) AnyB := by
  unfold lf_constraintlaw23_Goals
  exact .cond (fun _ => .pure trivial) fun _ => goals23_L0 _ ⟨_, rfl, trivial⟩ l h
theorem parts_L2 (k : Option Bool) (hk : TotP k AnyB) : ∀ (l : List S_api_Fire), TotP (lf_constraintlaw23_Parts_L2 k l) AnyB
  | [] => by rw [lf_constraintlaw23_Parts_L2]; exact hk
  | g :: l => by
    rw [lf_constraintlaw23_Parts_L2]
    exact .cond (fun _ => .pure trivial) fun _ => parts_L2 k hk l
theorem parts_L1 (k : Option Bool) (hk : TotP k AnyB) : ∀ (l : List (Int × T)), (∀ x ∈ l, wt x.2 ≤ 1000000000) → TotP (lf_constraintlaw23_Parts_L1 k l) AnyB
  | [], _ => by rw [lf_constraintlaw23_Parts_L1]; exact hk
  | g :: l, h => by
    rw [lf_constraintlaw23_Parts_L1, x_sizeT_eq _ (h g (by simp)), Option.bind_some]
    exact .cond (fun _ => .pure trivial) fun _ => parts_L1 k hk l fun x hx => h x (by simp [hx])
theorem parts_L0 (k : Option Bool) (hk : TotP k AnyB) : ∀ (l : List (Int × At)), (∀ x ∈ l, wtL x.2.ts ≤ 1000000000) → TotP (lf_constraintlaw23_Parts_L0 k l) AnyB
  | [], _ => by rw [lf_constraintlaw23_Parts_L0]; exact hk
  | g :: l, h => by
    rw [lf_constraintlaw23_Parts_L0]
    exact .bind (tiny_lf _ (h g (by simp))) fun _ _ => .cond (fun _ => .pure trivial) fun _ => parts_L0 k hk l fun x hx => h x (by simp [hx])
/-- Few nodes in each part. -/
structure ConfigB (c : S_api_Config) : Prop where
  k : ∀ x ∈ c.f0_Stack, wtL x.f0_Goal.ts ≤ 1000000000
  s : ∀ x ∈ c.f1_Store, wtL x.2.ts ≤ 1000000000
  b : ∀ x ∈ c.f2_Binds, wt x.2 ≤ 1000000000
theorem parts_lf (l : List (Int × At)) (b : List (Int × T)) (f : List S_api_Fire) (h1 : ∀ x ∈ l, wtL x.2.ts ≤ 1000000000) (h2 : ∀ x ∈ b, wt x.2 ≤ 1000000000) : TotP (lf_constraintlaw23_Parts l b f) fun r => r = true → b.length ≤ 20 := by
  unfold lf_constraintlaw23_Parts
  refine .cond (fun _ => .pure fun h => by cases h) fun _ => .cond (fun _ => .pure fun h => by cases h) fun hb => .cond (fun _ => .pure fun h => by cases h) fun _ => ?_
  have hb := of_decide_eq_false hb
  exact (parts_L0 _ (parts_L1 _ (parts_L2 _ ⟨_, rfl, trivial⟩ f) b h2) l h1).mono fun _ _ _ => by omega
theorem small_lf (c : S_api_Config) (h : ConfigB c) : TotP (lf_constraintlaw52_small c) fun r => r = true → ConfigS c := by
  unfold lf_constraintlaw52_small
  refine .cond (fun h30 => ?_) fun _ => .pure fun h => by cases h
  have h30 := of_decide_eq_true h30
  unfold lf_constraintlaw52_goals
  rw [goals52_L0 _ _ _ (by simp only [List.length_nil]; omega), Option.bind_some, List.nil_append]
  refine .bind (goals23_lf _ 30 fun g hg => ?_) fun r _ => .cond (fun _ => ?_) fun _ => .pure fun h => by cases h
  · obtain ⟨x, hx, rfl⟩ := List.mem_map.1 hg
    exact h.k x hx
  · exact .bind (parts_lf _ _ _ h.s h.b) fun r hr => .pure fun h1 => ⟨h.k, h.s, h.b, by have := hr h1; omega⟩
end Go.Proofs.YtdoljfkjdfaakaaGreat


namespace Go.Proofs.YtdoljfkjdfaakaaGreat
set_option maxRecDepth 100000
open Go.RowKit

structure RuleW (x : S_api_Rule) : Prop where
  k : ∀ y ∈ x.f1_Keep, wtL y.ts ≤ 1000000000
  r : ∀ y ∈ x.f2_Remove, wtL y.ts ≤ 1000000000
  g : ∀ y ∈ x.f3_Guard, wtL y.ts ≤ 1000000000
  b : ∀ y ∈ x.f4_Body, wtL y.ts ≤ 1000000000
end Go.Proofs.YtdoljfkjdfaakaaGreat


namespace Go.Proofs.YtdoljfkjdfaakaaGreat
set_option maxRecDepth 100000
open Go.RowKit

theorem ex52 : lf_constraintlaw52_exampleHolds 30 = some true := by
  kernel_rfl
theorem cT {b : Bool} {x y : Option Bool} (h1 : b = true → x = some true) (h2 : b = false → y = some true) : (bif b then x else y) = some true := by
  cases b with
  | true => exact h1 rfl
  | false => exact h2 rfl
theorem same52_self (l : List Int) : lf_constraintlaw52_same l l = some true := by
  unfold lf_constraintlaw52_same
  simp
theorem take_Program (fuel : Nat) (b : List Int) : lf_snapshot_TakeProgram fuel b = lf_wholeR_Program fuel b 1 := by
  unfold lf_snapshot_TakeProgram
  cases lf_wholeR_Program fuel b 1 <;> rfl
theorem take_Config (fuel : Nat) (b : List Int) : lf_snapshot_TakeConfig fuel b = lf_wholeR_Config fuel b 2 := by
  unfold lf_snapshot_TakeConfig
  cases lf_wholeR_Config fuel b 2 <;> rfl
theorem RuleS.w {x : S_api_Rule} (h : RuleS x) : RuleW x := ⟨h.k, h.r, h.g, h.b⟩
/-! ### cuts -/
/-- A cut of an encoding. -/
theorem cut_of {k : Int} (hk : 0 ≤ k) (hk2 : k ≤ 65535) {e : List Int} (he : e ≠ []) : ∃ m t z, remU (IntKind.i64.wrap k) (e.length : Int) = some m ∧ subO e 0 m = some t ∧ z ≠ [] ∧ e = t ++ z := by
  have hpos := List.length_pos_iff.2 he
  have hw : IntKind.i64.wrap k = k := wrap64 (by omega)
  have h0 : (e.length : Int) ≠ 0 := by omega
  have e1 : k.tmod (e.length : Int) = k % (e.length : Int) := Int.tmod_eq_emod_of_nonneg hk
  have q0 : 0 ≤ k % (e.length : Int) := Int.emod_nonneg k h0
  have q1 : k % (e.length : Int) < (e.length : Int) := Int.emod_lt_of_pos k (by omega)
  refine ⟨k % (e.length : Int), e.take (k % (e.length : Int)).toNat, e.drop (k % (e.length : Int)).toNat, ?_, ?_, ?_, (List.take_append_drop _ e).symm⟩
  · rw [hw, remU, if_neg h0, e1]
  · rw [subO, if_pos ⟨Int.le_refl _, q0, by omega⟩]
    simp
  · intro h
    have := congrArg List.length h
    rw [List.length_drop, List.length_nil] at this
    omega
theorem app1 {l m : List Int} (hl : l.length + m.length ≤ 1000000000) : appO 1 l m = some (l ++ m) := appO_eq (by omega) (by omega)
end Go.Proofs.YtdoljfkjdfaakaaGreat


namespace Go.Proofs.YtdoljfkjdfaakaaGreat
set_option maxRecDepth 100000
open Go.ChangeShapes Go.WideShapes Go.ChangeAt Go.RowKit

/-- Every cell that there is. -/
def live (w : World) (a : Addr) : Prop := ∃ v, w.cell? a = some v
theorem live_grow {w w' : World} (e : Ext w w') : Grow (live w) w (live w') w' := fun _ ⟨v, hv⟩ => ⟨⟨v, e.cellOf hv⟩, by rw [hv]; exact e.cellOf hv⟩
/-- A datum of a type, opened. -/
def Op (t : TypeId) (n : Nat) (S : D → Prop) : Prop := ∀ (H : Type) (enc : TypeId × Value → H) (W : World) (base : Nat) (sp : Nat → Bool) (hd : Bool) (fuel : Nat) (cs : List Value) (x : DataW H × List MemPlace),
  DataW.trod enc Tryz.prog W base sp hd fuel t cs = some x → ∃ d v, S d ∧ d.plain = true ∧ sz d = n ∧ Rep (live W) W d v ∧ cs = v.cells.toList
theorem Op.to {t : TypeId} {n : Nat} {S S' : D → Prop} (h : Op t n S) (k : ∀ d, S d → S' d) : Op t n S' := fun H enc W base sp hd fuel cs x hx => by
  obtain ⟨d, v, h1, h2⟩ := h H enc W base sp hd fuel cs x hx
  exact ⟨d, v, k d h1, h2⟩
theorem op_i64 {t : TypeId} (ht : (Tryz.prog).underlying t = some (.int .i64)) : Op t 1 fun d => ∃ n, d = .int .i64 n := fun H enc W base sp hd fuel cs x hx => by
  obtain ⟨k, rfl, _, w0⟩ := DataW.trod_int ht hx
  have := i64_of w0
  refine ⟨.int .i64 k, .int .i64 k, ⟨k, rfl⟩, rfl, rfl, ?_, by simp [Value.cells]⟩
  simp only [Rep]
  exact ⟨trivial, wrap64 (by unfold I64 at this; omega)⟩
theorem op_str {t : TypeId} (ht : (Tryz.prog).underlying t = some .string) : Op t 1 fun d => ∃ s, d = .str s := fun H enc W base sp hd fuel cs x hx => by
  obtain ⟨s, rfl, _, w0⟩ := DataW.trod_string ht hx
  refine ⟨.str s, .string s, ⟨s, rfl⟩, rfl, rfl, ?_, by simp [Value.cells]⟩
  simp only [Rep]
  exact ⟨trivial, by unfold maxLen at w0; omega⟩
theorem op_bool {t : TypeId} (ht : (Tryz.prog).underlying t = some .bool) : Op t 1 fun d => ∃ b, d = .bool b := fun H enc W base sp hd fuel cs x hx => by
  obtain ⟨b, rfl, _⟩ := DataW.trod_bool ht hx
  refine ⟨.bool b, .bool b, ⟨b, rfl⟩, rfl, rfl, ?_, by simp [Value.cells]⟩
  simp only [Rep]

/-- One predicate a field. -/
def Fits : List (D → Prop) → List D → Prop
  | [], [] => True
  | S :: ss, d :: ds => S d ∧ Fits ss ds
  | _, _ => False
/-- Fields, one behind the other, from an offset to the end. -/
def tight (P : Program) : Nat → List Field → Bool
  | _, [] => true
  | o, f :: fs => f.offset == o && tight P (o + P.cellsOf f.type) fs
theorem reps_ones {p : Addr → Prop} {w : World} : ∀ {ds : List D} {cs : List Value}, Reps p w ds cs → (∀ d ∈ ds, d.plain = true) → ∀ u ∈ cs, u.oneCell' = true
  | [], cs, h, _, u, hu => by simp only [Reps] at h; subst h; simp at hu
  | d :: ds, cs, h, hp, u, hu => by
    simp only [Reps] at h
    obtain ⟨v, rest, rfl, h1, h2⟩ := h
    rcases List.mem_append.1 hu with hu | hu
    · exact h1.one (hp d (List.mem_cons_self ..)) u hu
    · exact reps_ones h2 (fun e he => hp e (List.mem_cons_of_mem _ he)) u hu
def total (P : Program) : List Field → Nat
  | [] => 0
  | f :: fs => P.cellsOf f.type + total P fs
def Ops : List Field → List (D → Prop) → Prop
  | [], [] => True
  | f :: fs, S :: ss => Op f.type ((Tryz.prog).cellsOf f.type) S ∧ Ops fs ss
  | _, _ => False
theorem fields_open {H : Type} {enc : TypeId × Value → H} {W : World} {base : Nat} {sp : Nat → Bool} {hd : Bool} {n : Nat} {cs : List Value} :
    ∀ (fs : List Field) (ss : List (D → Prop)) (o : Nat), Ops fs ss → tight Tryz.prog o fs = true → o + total Tryz.prog fs = cs.length →
      (∀ (i : Nat) (f : Field), fs[i]? = some f → ∃ x, DataW.trod enc Tryz.prog W base sp hd n f.type ((cs.drop f.offset).take ((Tryz.prog).cellsOf f.type)) = some x) →
      ∃ ds, Fits ss ds ∧ (∀ d ∈ ds, d.plain = true) ∧ szs ds = total Tryz.prog fs ∧ Reps (live W) W ds (cs.drop o)
  | [], [], o, _, _, hl, _ => ⟨[], trivial, by simp, rfl, by simp only [total] at hl; rw [List.drop_eq_nil_of_le (by omega)]; exact Reps.nil _ _⟩
  | f :: fs, S :: ss, o, hop, ht, hl, hx => by
    simp only [tight, Bool.and_eq_true, beq_iff_eq] at ht
    simp only [total] at hl
    obtain ⟨ds, h1, h2, h3, h4⟩ := fields_open fs ss (o + (Tryz.prog).cellsOf f.type) hop.2 ht.2 (by omega) fun i g hg => hx (i + 1) g hg
    obtain ⟨x, h5⟩ := hx 0 f rfl
    rw [ht.1] at h5
    obtain ⟨d, v, g1, g2, g3, g4, g5⟩ := hop.1 H enc W base sp hd n _ x h5
    refine ⟨d :: ds, ⟨g1, h1⟩, ?_, by simp only [szs, total, g3, h3], ?_⟩
    · intro e he
      rcases List.mem_cons.1 he with rfl | he
      · exact g2
      · exact h2 e he
    · have := Reps.cons g4 h4
      rw [← g5, ← List.drop_drop, List.take_append_drop] at this
      exact this
  | [], _ :: _, _, h, _, _, _ => h.elim
  | _ :: _, [], _, h, _, _, _ => h.elim
theorem op_struct {t : TypeId} {fs : Array Field} {n : Nat} (ht : (Tryz.prog).underlying t = some (.struct fs)) (ss : List (D → Prop)) (hs : Ops fs.toList ss) (h1 : tight Tryz.prog 0 fs.toList = true) (h2 : total Tryz.prog fs.toList = n) (h3 : (Tryz.prog).cellsOf t = n) :
    Op t n fun d => ∃ ds, d = .agg ds ∧ Fits ss ds := fun H enc W base sp hd fuel cs x hx => by
  obtain ⟨xs, m, _, _, hl, hlen, hf⟩ := DataW.trod_struct ht hx
  obtain ⟨ds, g1, g2, g3, g4⟩ := fields_open (enc := enc) (W := W) (base := base) (sp := sp) (hd := hd) (n := m) (cs := cs) fs.toList ss 0 hs h1 (by omega) fun i f hi => by
    have hi' : fs[i]? = some f := by simpa using hi
    have hlt : i < xs.length := by
      have := (Array.getElem?_eq_some_iff.1 hi').1
      omega
    exact ⟨xs[i], by rw [hf i f hi', List.getElem?_eq_getElem hlt]⟩
  refine ⟨.agg ds, .agg cs.toArray, ⟨ds, rfl, g1⟩, rfl, by simp only [sz]; omega, ?_, by simp [Value.cells]⟩
  simp only [Rep]
  rw [List.drop_zero] at g4
  exact ⟨cs, rfl, g4, reps_ones g4 g2⟩
/-- Data of one size as a layout. -/
def layD (n : Nat) (hn : 0 < n) (S : D → Prop) : Lay D where
  C := fun w d cs => S d ∧ d.plain = true ∧ sz d = n ∧ ∃ v, Rep (live w) w d v ∧ cs = v.cells.toList
  n := n
  pos := hn
  ext := fun ⟨h1, h2, h3, v, h4, h5⟩ e => ⟨h1, h2, h3, v, h4.grow (live_grow e), h5⟩
  len := fun ⟨_, _, h3, v, h4, h5⟩ => by rw [h5, ← h3, ← h4.sz]; simp
  one := fun ⟨_, h2, _, v, h4, h5⟩ u hu => by subst h5; exact h4.one h2 u hu
theorem layD_ls {n : Nat} {hn : 0 < n} {S : D → Prop} {w : World} : ∀ {l : List D} {xs : List Value}, (layD n hn S).Ls w l xs → (∀ d ∈ l, S d ∧ d.plain = true) ∧ Reps (live w) w l xs
  | [], xs, h => by
    have h : xs = [] := h
    subst h
    exact ⟨by simp, Reps.nil _ _⟩
  | d :: l, xs, ⟨cs, ys, h1, ⟨g1, g2, _, v, g4, g5⟩, h3⟩ => by
    obtain ⟨k1, k2⟩ := layD_ls h3
    subst h1 g5
    refine ⟨?_, Reps.cons g4 k2⟩
    intro e he
    rcases List.mem_cons.1 he with rfl | he
    · exact ⟨g1, g2⟩
    · exact k1 e he
theorem rd_live {w : World} {A : Option Addr} {xs : List Value} (h : Rd w A xs) : RdP (live w) w A xs := by
  rcases h with h | ⟨ad, rfl, hc⟩
  · exact .inl h
  · by_cases he : xs = []
    · exact .inl he
    · have hlen : 0 < xs.length := List.length_pos_iff.2 he
      have hsp : ad.spot = none := by
        have := cell_spot (hc 0 _ (List.getElem?_eq_getElem hlen))
        simpa [Addr.add] using this
      obtain ⟨b, o, sp⟩ := ad
      simp only at hsp
      subst hsp
      refine .inr ⟨b, o, rfl, fun j u hu => ?_⟩
      have h1 : w.cell? ⟨b, o + j, none⟩ = some u := by have := hc j u hu; rwa [add_flat] at this
      exact ⟨⟨u, h1⟩, h1⟩
theorem op_slice {t e : TypeId} {n : Nat} {S : D → Prop} (ht : (Tryz.prog).underlying t = some (.slice e)) (hn : (Tryz.prog).cellsOf e = n) (hp : 0 < n) (he : Op e n S) : Op t 1 fun d => ∃ l, d = .lst l ∧ ∀ x ∈ l, S x := fun H enc W base sp hd fuel cs x hx => by
  obtain ⟨l, v, rfl, h1⟩ := Lay.open_sl (L := layD n hp S) ht hn (fun m cs x _ h => by
    obtain ⟨d, v, g1, g2, g3, g4, g5⟩ := he H enc W base sp hd m cs x h
    exact ⟨d, g1, g2, g3, v, g4, g5⟩) hx
  obtain ⟨A, c, xs, rfl, h2, h3, h4, h5⟩ := h1
  obtain ⟨h6, h7⟩ := layD_ls h5
  refine ⟨.lst l, .slice A l.length c, ⟨l, rfl, fun d hd => (h6 d hd).1⟩, rfl, rfl, ?_, by simp [Value.cells]⟩
  simp only [Rep]
  exact ⟨A, c, xs, rfl, h2, h3, rd_live h4, h7, reps_ones h7 fun d hd => (h6 d hd).2⟩
/-- A list of data that all show something is the list of what they show. -/
theorem list_img {α : Type} {f : α → D} : ∀ {l : List D}, (∀ x ∈ l, ∃ a, x = f a) → ∃ av : List α, l = av.map f
  | [], _ => ⟨[], rfl⟩
  | d :: l, h => by
    obtain ⟨a, rfl⟩ := h d (List.mem_cons_self ..)
    obtain ⟨av, rfl⟩ := list_img fun x hx => h x (List.mem_cons_of_mem _ hx)
    exact ⟨a :: av, rfl⟩
theorem op_list {α : Type} {f : α → D} {t e : TypeId} {n : Nat} (ht : (Tryz.prog).underlying t = some (.slice e)) (hn : (Tryz.prog).cellsOf e = n) (hp : 0 < n) (he : Op e n fun d => ∃ a, d = f a) : Op t 1 fun d => ∃ av : List α, d = .lst (av.map f) :=
  (op_slice ht hn hp he).to fun d ⟨l, hl, h⟩ => by
    obtain ⟨av, rfl⟩ := list_img h
    exact ⟨av, hl⟩

/-! ### terms -/
mutual
theorem rep_ct {w : World} : ∀ {t : T} {cs : List Value}, CT w t cs → Reps (live w) w (fsT t) cs
  | .mk k i s ar, cs, h => by
    simp only [CT] at h
    obtain ⟨A, c, xs, rfl, ⟨h1, h2, h3, h4, h5⟩, h6, h7⟩ := h
    have g := rep_cl h7
    simp only [fsT, Reps, Rep]
    refine ⟨.int .i64 k, _, by simp [Value.cells]; rfl, ⟨rfl, wrap64 (by unfold I64 at h1; omega)⟩, .int .i64 i, _, by simp [Value.cells]; rfl, ⟨rfl, wrap64 (by unfold I64 at h2; omega)⟩, .string s, _, by simp [Value.cells]; rfl, ⟨rfl, h3⟩, .slice A ar.length c, _, by simp [Value.cells], ⟨A, c, xs, ?_, ?_, h5, rd_live h6, g, reps_ones g ?_⟩, rfl⟩
    · rw [encTs_eq]; simp
    · rw [encTs_eq]; simpa using h4
    · rw [encTs_eq]
      intro d hd
      obtain ⟨t, _, rfl⟩ := List.mem_map.1 hd
      rfl
theorem rep_cl {w : World} : ∀ {ts : List T} {xs : List Value}, CL w ts xs → Reps (live w) w (encTs ts) xs
  | [], xs, h => by
    simp only [CL] at h
    subst h
    simp only [encTs, Reps]
  | t :: ts, xs, h => by
    simp only [CL] at h
    obtain ⟨cs, ys, rfl, h1, h2⟩ := h
    have g := rep_ct h1
    simp only [encTs, Reps]
    refine ⟨.agg cs.toArray, ys, by simp [Value.cells], ?_, rep_cl h2⟩
    simp only [Rep]
    exact ⟨cs, rfl, g, reps_ones g fun d hd => by
      rw [fsT_eq] at hd
      simp only [List.mem_cons, List.not_mem_nil, or_false] at hd
      rcases hd with rfl | rfl | rfl | rfl <;> rfl⟩
end
theorem op_term : Op 114 4 fun d => ∃ t, d = encT t := fun H enc W base sp hd fuel cs x hx => by
  obtain ⟨t, ht⟩ := open_termF fuel cs x hx
  have g := rep_ct ht
  refine ⟨encT t, .agg cs.toArray, ⟨t, rfl⟩, rfl, sz_encT t, ?_, by simp [Value.cells]⟩
  simp only [Rep]
  exact ⟨cs, rfl, g, reps_ones g fun d hd => by
    rw [fsT_eq] at hd
    simp only [List.mem_cons, List.not_mem_nil, or_false] at hd
    rcases hd with rfl | rfl | rfl | rfl <;> rfl⟩
theorem op_terms : Op 71 1 fun d => ∃ l : List T, d = .lst (l.map encT) := op_list Tryz.underlying71 cells_term (by omega) op_term
theorem op_goal : Op 73 3 fun d => ∃ g, d = encG g :=
  (op_struct Tryz.underlying73 [fun d => ∃ n, d = .int .i64 n, fun d => ∃ s, d = .str s, fun d => ∃ l : List T, d = .lst (l.map encT)] ⟨op_i64 Tryz.underlying3, op_str Tryz.underlying9, op_terms, trivial⟩ (by kernel_rfl) (by kernel_rfl) cells_goal).to fun d ⟨ds, hd, h⟩ => by
    match ds, h with
    | [_, _, _], ⟨⟨n, rfl⟩, ⟨s, rfl⟩, ⟨l, rfl⟩, _⟩ => exact ⟨⟨n, s, l⟩, hd⟩
/-! ### a law's arguments -/
/-- The value has the shape of its data. -/
def Cl (t : TypeId) (S : D → Prop) : Prop := ∀ (W : World) (b : Nat) (v : Value), Value.okWide Tryz.prog W .any b t v → ∀ d, S d → v = reval d v.cells.toList
theorem Cl.to {t : TypeId} {S S' : D → Prop} (h : Cl t S') (k : ∀ d, S d → S' d) : Cl t S := fun W b v hv d hd => h W b v hv d (k d hd)
theorem cl_struct {t : TypeId} {fs : Array Field} (ht : (Tryz.prog).underlying t = some (.struct fs)) : Cl t fun d => ∃ ds, d = .agg ds := fun W b v hv d ⟨ds, hd⟩ => by
  obtain ⟨cs, rfl, _⟩ := okWide_struct ht hv
  subst hd
  simp [Value.cells, reval]
structure Arg where
  t : TypeId
  n : Nat
  S : D → Prop
  op : Op t n S
  cl : Cl t S
theorem args_open {H : Type} {enc : TypeId × Value → H} {W : World} {base b : Nat} {sp : Nat → Bool} {hd : Bool} : ∀ (av : List Arg) (vs : List Value) (ds : List (DataW H)) (ps : List MemPlace),
    DataW.TrodAll enc Tryz.prog W base sp hd (av.map Arg.t) vs ds ps → (∀ (j : Nat) t v, (av.map Arg.t)[j]? = some t → vs[j]? = some v → Value.okWide Tryz.prog W .any b t v) → ∃ es, Fits (av.map Arg.S) es ∧ Repl (live W) W es vs
  | [], vs, ds, ps, h, _ => by
    obtain ⟨rfl, _, _⟩ := trodAll_nil h
    exact ⟨[], trivial, Repl.nil _ _⟩
  | a :: av, vs, ds, ps, h, hv => by
    obtain ⟨v, vs', d, ds', p, q, rfl, rfl, rfl, ⟨fuel, h1⟩, h2⟩ := trodAll_cons h
    obtain ⟨es, g1, g2⟩ := args_open av vs' ds' q h2 fun j t u ht hu => hv (j + 1) t u ht hu
    obtain ⟨e, u, k1, k2, k3, k4, k5⟩ := a.op H enc W base sp hd fuel _ _ h1
    have e1 := a.cl W b v (hv 0 a.t v rfl rfl) e k1
    have e2 := k4.back
    rw [← k5] at e2
    rw [← e2] at e1
    subst e1
    exact ⟨e :: es, ⟨k1, g1⟩, Repl.cons k4 g2⟩
theorem holds_of {k : FuncId} {F : Func} (av : List Arg) (hp : F.params.toList = av.map Arg.t) (hg : ∀ es, Fits (av.map Arg.S) es → Gives Tryz.prog k es (.bool true)) : Holds k F := by
  intro H enc W base args ds p hval hA
  rw [hp] at hA
  obtain ⟨es, h1, h2⟩ := args_open (b := base) av args.toList ds p hA fun j t v ht hv => hval j t v (by rw [← Array.getElem?_toList, hp]; exact ht) (by simpa using hv)
  have hI : Inv (ctx W (live W) []) (live W) [] W := ⟨by simp, by simp [blks], by simp [blks], fun a ha => ha, Grow.refl _ _, fun a ha => .inl ha, rfl, rfl, rfl, Nat.le_refl _, fun b _ _ => rfl⟩
  refine (hg es h1 W (live W) args.toList hI h2).mono ?_
  rintro e w' (⟨v, d, σ, q, rfl, rfl, hr, hi⟩ | ⟨_, _, _, _, _, hx, _⟩)
  rotate_left
  · exact hx.elim
  simp only [Rep] at hr
  subst hr
  exact Ret.mk rfl ⟨hi.os, hi.tape, hi.output, hi.size, fun b hb => hi.block b hb (by simp [ctx, blks])⟩
end Go.Proofs.YtdoljfkjdfaakaaGreat


namespace Go.Proofs.YtdoljfkjdfaakaaGreat
set_option maxRecDepth 100000
open Go.ChangeShapes Go.WideShapes Go.ChangeAt Go.RowKit

theorem op_atom : Op 107 2 fun d => ∃ a, d = encA a :=
  (op_struct Tryz.underlying107 [fun d => ∃ s, d = .str s, fun d => ∃ l : List T, d = .lst (l.map encT)] ⟨op_str Tryz.underlying9, op_terms, trivial⟩ (by kernel_rfl) (by kernel_rfl) (by kernel_rfl)).to fun d ⟨ds, hd, h⟩ => by
    match ds, h with
    | [_, _], ⟨⟨s, rfl⟩, ⟨l, rfl⟩, _⟩ => exact ⟨⟨s, l⟩, hd⟩
theorem op_atoms : Op 65 1 fun d => ∃ l : List At, d = .lst (l.map encA) := op_list Tryz.underlying65 (by kernel_rfl) (by omega) op_atom
theorem op_goals : Op 66 1 fun d => ∃ l : List Gl, d = .lst (l.map encG) := op_list Tryz.underlying66 cells_goal (by omega) op_goal
theorem op_rule : Op 68 6 fun d => ∃ r, d = enc_S_api_Rule r :=
  (op_struct Tryz.underlying68 [fun d => ∃ s, d = .str s, fun d => ∃ l : List At, d = .lst (l.map encA), fun d => ∃ l : List At, d = .lst (l.map encA), fun d => ∃ l : List Gl, d = .lst (l.map encG), fun d => ∃ l : List Gl, d = .lst (l.map encG), fun d => ∃ n, d = .int .i64 n] ⟨op_str Tryz.underlying9, op_atoms, op_atoms, op_goals, op_goals, op_i64 Tryz.underlying3, trivial⟩ (by kernel_rfl) (by kernel_rfl) (by kernel_rfl)).to fun d ⟨ds, hd, h⟩ => by
    match ds, h with
    | [_, _, _, _, _, _], ⟨⟨s, rfl⟩, ⟨a, rfl⟩, ⟨b, rfl⟩, ⟨c, rfl⟩, ⟨e, rfl⟩, ⟨n, rfl⟩, _⟩ => exact ⟨⟨s, a, b, c, e, n⟩, hd⟩
theorem op_rules : Op 23 1 fun d => ∃ l : List S_api_Rule, d = .lst (l.map enc_S_api_Rule) := op_list Tryz.underlying23 (by kernel_rfl) (by omega) op_rule
theorem op_decl : Op 29 2 fun d => ∃ q, d = enc_S_api_Decl q :=
  (op_struct Tryz.underlying29 [fun d => ∃ s, d = .str s, fun d => ∃ n, d = .int .i64 n] ⟨op_str Tryz.underlying9, op_i64 Tryz.underlying3, trivial⟩ (by kernel_rfl) (by kernel_rfl) (by kernel_rfl)).to fun d ⟨ds, hd, h⟩ => by
    match ds, h with
    | [_, _], ⟨⟨s, rfl⟩, ⟨n, rfl⟩, _⟩ => exact ⟨⟨s, n⟩, hd⟩
theorem op_decls : Op 22 1 fun d => ∃ l : List S_api_Decl, d = .lst (l.map enc_S_api_Decl) := op_list Tryz.underlying22 (by kernel_rfl) (by omega) op_decl
theorem op_program : Op 25 2 fun d => ∃ q, d = enc_S_api_Program q :=
  (op_struct Tryz.underlying25 [fun d => ∃ l : List S_api_Decl, d = .lst (l.map enc_S_api_Decl), fun d => ∃ l : List S_api_Rule, d = .lst (l.map enc_S_api_Rule)] ⟨op_decls, op_rules, trivial⟩ (by kernel_rfl) (by kernel_rfl) (by kernel_rfl)).to fun d ⟨ds, hd, h⟩ => by
    match ds, h with
    | [_, _], ⟨⟨s, rfl⟩, ⟨n, rfl⟩, _⟩ => exact ⟨⟨s, n⟩, hd⟩
def aProgram : Arg := ⟨_, _, _, op_program, (cl_struct Tryz.underlying25).to fun _ ⟨_, h⟩ => ⟨_, h⟩⟩
end Go.Proofs.YtdoljfkjdfaakaaGreat


namespace Go.Proofs.YtdoljfkjdfaakaaGreat
set_option maxRecDepth 100000
open Go.ChangeShapes Go.WideShapes Go.ChangeAt Go.RowKit

mutual
/-- How many values and letters data hold. -/
def bulkD : D → Nat
  | .str s => s.size + 1
  | .agg l => bulkDs l + 1
  | .lst l => bulkDs l + 1
  | _ => 1
def bulkDs : List D → Nat
  | [] => 0
  | d :: l => bulkD d + bulkDs l
end
/-- A datum of a type, opened, with its bulk; fuel below N. -/
def OpB (N : Nat) (t : TypeId) (n : Nat) (S : D → Prop) : Prop := ∀ (H : Type) (enc : TypeId × Value → H) (W : World) (base : Nat) (sp : Nat → Bool) (hd : Bool) (fuel : Nat) (cs : List Value) (x : DataW H × List MemPlace), fuel < N →
  DataW.trod enc Tryz.prog W base sp hd fuel t cs = some x → ∃ d v, S d ∧ d.plain = true ∧ sz d = n ∧ Rep (live W) W d v ∧ cs = v.cells.toList ∧ bulkD d ≤ Rows.uptoBulk x.1
theorem OpB.to {N : Nat} {t : TypeId} {n : Nat} {S S' : D → Prop} (h : OpB N t n S) (k : ∀ d, S d → S' d) : OpB N t n S' := fun H enc W base sp hd fuel cs x hN hx => by
  obtain ⟨d, v, h1, h2⟩ := h H enc W base sp hd fuel cs x hN hx
  exact ⟨d, v, k d h1, h2⟩
theorem OpB.less {N M : Nat} {t : TypeId} {n : Nat} {S : D → Prop} (h : OpB N t n S) (hM : M ≤ N) : OpB M t n S := fun H enc W base sp hd fuel cs x hN hx => h H enc W base sp hd fuel cs x (by omega) hx
theorem ub_pos {H : Type} (d : DataW H) : 1 ≤ Rows.uptoBulk d := by
  cases d with
  | lit l => cases l <;> simp [Rows.uptoBulk]
  | nil => simp [Rows.uptoBulk]
  | ptr d => simp [Rows.uptoBulk]
  | slice elems spare => simp [Rows.uptoBulk]
  | agg parts => simp [Rows.uptoBulk]
  | iface t d => simp [Rows.uptoBulk]
  | map entries => simp [Rows.uptoBulk]
  | held h => simp [Rows.uptoBulk]
theorem opb_i64 {N : Nat} {t : TypeId} (ht : (Tryz.prog).underlying t = some (.int .i64)) : OpB N t 1 fun d => ∃ n, d = .int .i64 n := fun H enc W base sp hd fuel cs x _ hx => by
  obtain ⟨d, v, ⟨n, rfl⟩, h2, h3, h4, h5⟩ := op_i64 ht H enc W base sp hd fuel cs x hx
  exact ⟨_, v, ⟨n, rfl⟩, h2, h3, h4, h5, by simp only [bulkD]; exact ub_pos _⟩
theorem opb_str {N : Nat} {t : TypeId} (ht : (Tryz.prog).underlying t = some .string) : OpB N t 1 fun d => ∃ s, d = .str s := fun H enc W base sp hd fuel cs x _ hx => by
  obtain ⟨s, rfl, hxe, w0⟩ := DataW.trod_string ht hx
  refine ⟨.str s, .string s, ⟨s, rfl⟩, rfl, rfl, ?_, by simp [Value.cells], ?_⟩
  · simp only [Rep]
    exact ⟨trivial, by unfold maxLen at w0; omega⟩
  · rw [hxe]
    simp only [bulkD, Rows.uptoBulk]
    exact Nat.le_refl _
def OpsB (N : Nat) : List Field → List (D → Prop) → Prop
  | [], [] => True
  | f :: fs, S :: ss => OpB N f.type ((Tryz.prog).cellsOf f.type) S ∧ OpsB N fs ss
  | _, _ => False
theorem fields_openB {H : Type} {enc : TypeId × Value → H} {W : World} {base : Nat} {sp : Nat → Bool} {hd : Bool} {N n : Nat} (hn : n < N) {cs : List Value} :
    ∀ (fs : List Field) (ss : List (D → Prop)) (o : Nat) (xs : List (DataW H × List MemPlace)), OpsB N fs ss → tight Tryz.prog o fs = true → o + total Tryz.prog fs = cs.length → xs.length = fs.length →
      (∀ (i : Nat) (f : Field), fs[i]? = some f → DataW.trod enc Tryz.prog W base sp hd n f.type ((cs.drop f.offset).take ((Tryz.prog).cellsOf f.type)) = xs[i]?) →
      ∃ ds, Fits ss ds ∧ (∀ d ∈ ds, d.plain = true) ∧ szs ds = total Tryz.prog fs ∧ Reps (live W) W ds (cs.drop o) ∧ bulkDs ds ≤ Rows.uptoBulkAll (xs.map (·.1))
  | [], [], o, xs, _, _, hl, _, _ => ⟨[], trivial, by simp, rfl, by simp only [total] at hl; rw [List.drop_eq_nil_of_le (by omega)]; exact Reps.nil _ _, by simp [bulkDs]⟩
  | f :: fs, S :: ss, o, x :: xs, hop, ht, hl, hlen, hx => by
    simp only [tight, Bool.and_eq_true, beq_iff_eq] at ht
    simp only [total] at hl
    obtain ⟨ds, h1, h2, h3, h4, h5⟩ := fields_openB hn fs ss (o + (Tryz.prog).cellsOf f.type) xs hop.2 ht.2 (by omega) (by simpa using hlen) fun i g hg => hx (i + 1) g hg
    have h6 := hx 0 f rfl
    rw [ht.1] at h6
    obtain ⟨d, v, g1, g2, g3, g4, g5, g6⟩ := hop.1 H enc W base sp hd n _ x hn h6
    refine ⟨d :: ds, ⟨g1, h1⟩, ?_, by simp only [szs, total, g3, h3], ?_, ?_⟩
    · intro e he
      rcases List.mem_cons.1 he with rfl | he
      · exact g2
      · exact h2 e he
    · have := Reps.cons g4 h4
      rw [← g5, ← List.drop_drop, List.take_append_drop] at this
      exact this
    · simp only [bulkDs, List.map_cons, Rows.uptoBulkAll]
      omega
  | _ :: _, _ :: _, _, [], _, _, _, h, _ => by simp at h
  | [], _ :: _, _, _, h, _, _, _, _ => h.elim
  | _ :: _, [], _, _, h, _, _, _, _ => h.elim
theorem opb_struct {N : Nat} {t : TypeId} {fs : Array Field} {n : Nat} (ht : (Tryz.prog).underlying t = some (.struct fs)) (ss : List (D → Prop)) (hs : OpsB N fs.toList ss) (h1 : tight Tryz.prog 0 fs.toList = true) (h2 : total Tryz.prog fs.toList = n) (h3 : (Tryz.prog).cellsOf t = n) :
    OpB (N + 1) t n fun d => ∃ ds, d = .agg ds ∧ Fits ss ds := fun H enc W base sp hd fuel cs x hN hx => by
  obtain ⟨xs, m, hm, hxe, hl, hlen, hf⟩ := DataW.trod_struct ht hx
  obtain ⟨ds, g1, g2, g3, g4, g5⟩ := fields_openB (enc := enc) (W := W) (base := base) (sp := sp) (hd := hd) (N := N) (n := m) (by omega) (cs := cs) fs.toList ss 0 xs hs h1 (by omega) (by simpa using hlen) fun i f hi => hf i f (by simpa using hi)
  refine ⟨.agg ds, .agg cs.toArray, ⟨ds, rfl, g1⟩, rfl, by simp only [sz]; omega, ?_, by simp [Value.cells], ?_⟩
  · simp only [Rep]
    rw [List.drop_zero] at g4
    exact ⟨cs, rfl, g4, reps_ones g4 g2⟩
  · rw [hxe]
    simp only [bulkD, Rows.uptoBulk]
    omega
theorem collectB {n : Nat} {hn : 0 < n} {S : D → Prop} {w : World} {ad : Addr} (Q : Nat → D → Prop) : ∀ (len : Nat), (∀ i, i < len → ∃ a cs, Q i a ∧ (layD n hn S).C w a cs ∧ ∀ j, j < n → w.cell? (ad.add (i * n + j)) = cs[j]?) → ∃ l xs, l.length = len ∧ (∀ i d, l[i]? = some d → Q i d) ∧ (layD n hn S).Ls w l xs ∧ ∀ j u, xs[j]? = some u → w.cell? (ad.add j) = some u
  | 0, _ => ⟨[], [], rfl, by simp, Lay.Ls.nil w, by simp⟩
  | len + 1, h => by
    obtain ⟨l, xs, h1, h0, h2, h3⟩ := collectB (hn := hn) (S := S) (w := w) (ad := ad) Q len fun i hi => h i (by omega)
    obtain ⟨a, cs, h7, h4, h5⟩ := h len (by omega)
    refine ⟨l ++ [a], xs ++ cs, by simp [h1], fun i d hd => ?_, Lay.Ls.app h2 (Lay.Ls.single h4), fun j u hu => ?_⟩
    · by_cases hi : i < l.length
      · rw [List.getElem?_append_left hi] at hd
        exact h0 i d hd
      · rw [List.getElem?_append_right (by omega)] at hd
        have hlt := (List.getElem?_eq_some_iff.1 hd).1
        simp at hlt
        have hi' : i = len := by omega
        subst hi'
        rw [h1, Nat.sub_self] at hd
        injection hd with hd
        subst hd
        exact h7
    · have hx := Lay.Ls.len h2
      have hx : xs.length = l.length * n := hx
      by_cases hj : j < xs.length
      · rw [List.getElem?_append_left hj] at hu
        exact h3 j u hu
      · rw [List.getElem?_append_right (by omega)] at hu
        have hlt := (List.getElem?_eq_some_iff.1 hu).1
        rw [(layD n hn S).len h4] at hlt
        have h6 := h5 (j - xs.length) hlt
        rw [hu] at h6
        rw [← h6, hx, h1]
        rw [hx, h1] at hj
        congr 2
        omega
theorem bulk_sum {H : Type} : ∀ (l : List D) (es : List (DataW H)), l.length = es.length → (∀ (i : Nat) (d : D), l[i]? = some d → ∃ e : DataW H, es[i]? = some e ∧ bulkD d ≤ Rows.uptoBulk e) → bulkDs l ≤ Rows.uptoBulkAll es
  | [], es, _, _ => by simp [bulkDs]
  | d :: l, [], h, _ => by simp at h
  | d :: l, e :: es, h, hp => by
    obtain ⟨e', h1, h2⟩ := hp 0 d rfl
    have h1 : e = e' := by simpa using h1
    subst h1
    have := bulk_sum l es (by simpa using h) fun i x hx => by simpa using hp (i + 1) x (by simpa using hx)
    simp only [bulkDs, Rows.uptoBulkAll]
    omega
theorem opb_slice {N : Nat} {t e : TypeId} {n : Nat} {S : D → Prop} (ht : (Tryz.prog).underlying t = some (.slice e)) (hn : (Tryz.prog).cellsOf e = n) (hp : 0 < n) (he : OpB N e n S) : OpB (N + 1) t 1 fun d => ∃ l, d = .lst l ∧ ∀ x ∈ l, S x := fun H enc W base sp hd fuel cs x hN hx => by
  rcases DataW.trod_slice ht hx with ⟨rfl, hxe⟩ | ⟨a, len, cap, elems, rest, m, hf, rfl, hxe, _, hl, hm, hlen, hel, _, _⟩
  · refine ⟨.lst [], .slice none 0 0, ⟨[], rfl, by simp⟩, rfl, rfl, ?_, by simp [Value.cells], by rw [hxe]; simp [bulkD, bulkDs, Rows.uptoBulk]⟩
    simp only [Rep]
    exact ⟨none, 0, [], rfl, by simp, by omega, .inl rfl, Reps.nil _ _, by simp⟩
  · obtain ⟨l, xs, h1, h0, h2, h3⟩ := collectB (hn := hp) (S := S) (w := W) (ad := a) (fun i d => ∃ y, elems[i]? = some y ∧ bulkD d ≤ Rows.uptoBulk y.1) len fun i hi => by
      have g1 := hel i hi
      rw [List.getElem?_eq_getElem (by omega), hn] at g1
      obtain ⟨cs', g2, g3⟩ := Option.bind_eq_some_iff.1 g1
      obtain ⟨d, v, k1, k2, k3, k4, k5, k6⟩ := he H enc W base sp hd m cs' _ (by omega) g3
      obtain ⟨_, g5, g6⟩ := World.cells?_some g2
      refine ⟨d, cs', ⟨_, List.getElem?_eq_getElem (by omega), k6⟩, ⟨k1, k2, k3, v, k4, k5⟩, fun j hj => ?_⟩
      rw [← add_addE]
      exact g6 j hj
    obtain ⟨h6, h7⟩ := layD_ls h2
    refine ⟨.lst l, .slice (some a) l.length cap, ⟨l, rfl, fun d hd => (h6 d hd).1⟩, rfl, rfl, ?_, by rw [h1]; simp [Value.cells], ?_⟩
    · simp only [Rep]
      exact ⟨some a, cap, xs, rfl, by omega, by unfold maxLen at hm; omega, rd_live (.inr ⟨a, rfl, h3⟩), h7, reps_ones h7 fun d hd => (h6 d hd).2⟩
    · rw [hxe]
      simp only [bulkD, Rows.uptoBulk]
      have := bulk_sum l (elems.map (·.1)) (by simp [h1, hlen]) fun i d hd => by
        obtain ⟨y, y1, y2⟩ := h0 i d hd
        exact ⟨y.1, by simp [y1], y2⟩
      omega
theorem opb_list {α : Type} {f : α → D} {N : Nat} {t e : TypeId} {n : Nat} (ht : (Tryz.prog).underlying t = some (.slice e)) (hn : (Tryz.prog).cellsOf e = n) (hp : 0 < n) (he : OpB N e n fun d => ∃ a, d = f a) : OpB (N + 1) t 1 fun d => ∃ av : List α, d = .lst (av.map f) :=
  (opb_slice ht hn hp he).to fun d ⟨l, hl, h⟩ => by
    obtain ⟨av, rfl⟩ := list_img h
    exact ⟨av, hl⟩
theorem opb_term : ∀ N, OpB N 114 4 fun d => ∃ t, d = encT t
  | 0 => fun H enc W base sp hd fuel cs x hN => by omega
  | N + 1 => (opb_struct (N := N) Tryz.underlying114 [fun d => ∃ n, d = .int .i64 n, fun d => ∃ n, d = .int .i64 n, fun d => ∃ s, d = .str s, fun d => ∃ l : List T, d = .lst (l.map encT)] ⟨opb_i64 Tryz.underlying3, opb_i64 Tryz.underlying3, opb_str Tryz.underlying9, (opb_list Tryz.underlying71 cells_term (by omega) (opb_term N)).less (by omega), trivial⟩ (by kernel_rfl) (by kernel_rfl) (by kernel_rfl)).to fun d ⟨ds, hd, h⟩ => by
    match ds, h with
    | [_, _, _, _], ⟨⟨k, rfl⟩, ⟨i, rfl⟩, ⟨s, rfl⟩, ⟨l, rfl⟩, _⟩ => exact ⟨.mk k i s l, by rw [hd, encT, fsT_eq]; rfl⟩
theorem opb_terms (N : Nat) : OpB N 71 1 fun d => ∃ l : List T, d = .lst (l.map encT) := (opb_list Tryz.underlying71 cells_term (by omega) (opb_term N)).less (by omega)
theorem opb_atom (N : Nat) : OpB N 107 2 fun d => ∃ a, d = encA a :=
  ((opb_struct (N := N) Tryz.underlying107 [fun d => ∃ s, d = .str s, fun d => ∃ l : List T, d = .lst (l.map encT)] ⟨opb_str Tryz.underlying9, opb_terms N, trivial⟩ (by kernel_rfl) (by kernel_rfl) (by kernel_rfl)).less (by omega)).to fun d ⟨ds, hd, h⟩ => by
    match ds, h with
    | [_, _], ⟨⟨s, rfl⟩, ⟨l, rfl⟩, _⟩ => exact ⟨⟨s, l⟩, hd⟩
theorem opb_atoms (N : Nat) : OpB N 65 1 fun d => ∃ l : List At, d = .lst (l.map encA) := (opb_list Tryz.underlying65 (by kernel_rfl) (by omega) (opb_atom N)).less (by omega)
theorem opb_goal (N : Nat) : OpB N 73 3 fun d => ∃ g, d = encG g :=
  ((opb_struct (N := N) Tryz.underlying73 [fun d => ∃ n, d = .int .i64 n, fun d => ∃ s, d = .str s, fun d => ∃ l : List T, d = .lst (l.map encT)] ⟨opb_i64 Tryz.underlying3, opb_str Tryz.underlying9, opb_terms N, trivial⟩ (by kernel_rfl) (by kernel_rfl) cells_goal).less (by omega)).to fun d ⟨ds, hd, h⟩ => by
    match ds, h with
    | [_, _, _], ⟨⟨n, rfl⟩, ⟨s, rfl⟩, ⟨l, rfl⟩, _⟩ => exact ⟨⟨n, s, l⟩, hd⟩
theorem opb_goals (N : Nat) : OpB N 66 1 fun d => ∃ l : List Gl, d = .lst (l.map encG) := (opb_list Tryz.underlying66 cells_goal (by omega) (opb_goal N)).less (by omega)
theorem opb_rule (N : Nat) : OpB N 68 6 fun d => ∃ r, d = enc_S_api_Rule r :=
  ((opb_struct (N := N) Tryz.underlying68 [fun d => ∃ s, d = .str s, fun d => ∃ l : List At, d = .lst (l.map encA), fun d => ∃ l : List At, d = .lst (l.map encA), fun d => ∃ l : List Gl, d = .lst (l.map encG), fun d => ∃ l : List Gl, d = .lst (l.map encG), fun d => ∃ n, d = .int .i64 n] ⟨opb_str Tryz.underlying9, opb_atoms N, opb_atoms N, opb_goals N, opb_goals N, opb_i64 Tryz.underlying3, trivial⟩ (by kernel_rfl) (by kernel_rfl) (by kernel_rfl)).less (by omega)).to fun d ⟨ds, hd, h⟩ => by
    match ds, h with
    | [_, _, _, _, _, _], ⟨⟨s, rfl⟩, ⟨a, rfl⟩, ⟨b, rfl⟩, ⟨c, rfl⟩, ⟨e, rfl⟩, ⟨n, rfl⟩, _⟩ => exact ⟨⟨s, a, b, c, e, n⟩, hd⟩
theorem opb_rules (N : Nat) : OpB N 23 1 fun d => ∃ l : List S_api_Rule, d = .lst (l.map enc_S_api_Rule) := (opb_list Tryz.underlying23 (by kernel_rfl) (by omega) (opb_rule N)).less (by omega)
theorem opb_decl (N : Nat) : OpB N 29 2 fun d => ∃ q, d = enc_S_api_Decl q :=
  ((opb_struct (N := N) Tryz.underlying29 [fun d => ∃ s, d = .str s, fun d => ∃ n, d = .int .i64 n] ⟨opb_str Tryz.underlying9, opb_i64 Tryz.underlying3, trivial⟩ (by kernel_rfl) (by kernel_rfl) (by kernel_rfl)).less (by omega)).to fun d ⟨ds, hd, h⟩ => by
    match ds, h with
    | [_, _], ⟨⟨s, rfl⟩, ⟨n, rfl⟩, _⟩ => exact ⟨⟨s, n⟩, hd⟩
theorem opb_decls (N : Nat) : OpB N 22 1 fun d => ∃ l : List S_api_Decl, d = .lst (l.map enc_S_api_Decl) := (opb_list Tryz.underlying22 (by kernel_rfl) (by omega) (opb_decl N)).less (by omega)
theorem opb_program (N : Nat) : OpB N 25 2 fun d => ∃ q, d = enc_S_api_Program q :=
  ((opb_struct (N := N) Tryz.underlying25 [fun d => ∃ l : List S_api_Decl, d = .lst (l.map enc_S_api_Decl), fun d => ∃ l : List S_api_Rule, d = .lst (l.map enc_S_api_Rule)] ⟨opb_decls N, opb_rules N, trivial⟩ (by kernel_rfl) (by kernel_rfl) (by kernel_rfl)).less (by omega)).to fun d ⟨ds, hd, h⟩ => by
    match ds, h with
    | [_, _], ⟨⟨s, rfl⟩, ⟨n, rfl⟩, _⟩ => exact ⟨⟨s, n⟩, hd⟩

/-! ### what the bulk bounds -/
mutual
theorem wt_bulk : ∀ t : T, wt t ≤ bulkD (encT t)
  | .mk k i s ar => by
    have := wtL_bulk ar
    rw [encT, fsT_eq]
    simp only [bulkD, bulkDs, wt, T.ar]
    omega
theorem wtL_bulk : ∀ l : List T, wtL l ≤ bulkDs (l.map encT)
  | [] => by simp [wtL]
  | t :: l => by
    have h1 := wt_bulk t
    have h2 := wtL_bulk l
    simp only [wtL, List.map_cons, bulkDs]
    omega
end
theorem bulk_mem {α : Type} {f : α → D} {a : α} : ∀ {l : List α}, a ∈ l → bulkD (f a) ≤ bulkDs (l.map f)
  | b :: l, h => by
    simp only [List.map_cons, bulkDs]
    rcases List.mem_cons.1 h with rfl | h
    · omega
    · have := bulk_mem (f := f) h; omega
theorem bf_bulk {a : At} (h : bulkD (encA a) ≤ 1048576) : wtL a.ts ≤ 1048576 := by
  have := wtL_bulk a.ts
  simp only [encA, bulkD, bulkDs] at h
  omega
theorem bg_bulk {g : Gl} (h : bulkD (encG g) ≤ 1048576) : wtL g.ts ≤ 1048576 := by
  have := wtL_bulk g.ts
  simp only [encG, bulkD, bulkDs] at h
  omega
/-! ### a law's arguments -/
structure ArgB where
  t : TypeId
  n : Nat
  S : D → Prop
  op : ∀ N, OpB N t n S
  cl : Cl t S
def bProgram : ArgB := ⟨_, _, _, opb_program, (cl_struct Tryz.underlying25).to fun _ ⟨_, h⟩ => ⟨_, h⟩⟩
theorem args_openB {H : Type} {enc : TypeId × Value → H} {W : World} {base b : Nat} {sp : Nat → Bool} {hd : Bool} : ∀ (av : List ArgB) (vs : List Value) (ds : List (DataW H)) (ps : List MemPlace),
    DataW.TrodAll enc Tryz.prog W base sp hd (av.map ArgB.t) vs ds ps → (∀ (j : Nat) t v, (av.map ArgB.t)[j]? = some t → vs[j]? = some v → Value.okWide Tryz.prog W .any b t v) → ∃ es, Fits (av.map ArgB.S) es ∧ Repl (live W) W es vs ∧ bulkDs es ≤ Rows.uptoBulkAll ds
  | [], vs, ds, ps, h, _ => by
    obtain ⟨rfl, rfl, _⟩ := trodAll_nil h
    exact ⟨[], trivial, Repl.nil _ _, by simp [bulkDs]⟩
  | a :: av, vs, ds, ps, h, hv => by
    obtain ⟨v, vs', d, ds', p, q, rfl, rfl, rfl, ⟨fuel, h1⟩, h2⟩ := trodAll_cons h
    obtain ⟨es, g1, g2, g3⟩ := args_openB av vs' ds' q h2 fun j t u ht hu => hv (j + 1) t u ht hu
    obtain ⟨e, u, k1, k2, k3, k4, k5, k6⟩ := a.op (fuel + 1) H enc W base sp hd fuel _ _ (by omega) h1
    have e1 := a.cl W b v (hv 0 a.t v rfl rfl) e k1
    have e2 := k4.back
    rw [← k5] at e2
    rw [← e2] at e1
    subst e1
    refine ⟨e :: es, ⟨k1, g1⟩, Repl.cons k4 g2, ?_⟩
    simp only [bulkDs, Rows.uptoBulkAll]
    have k6 : bulkD e ≤ Rows.uptoBulk d := k6
    omega
/-- What a law's function gives for each list of arguments of such a bulk. -/
def HoldsU (k : FuncId) (F : Func) : Prop := ∀ (H : Type) (enc : TypeId × Value → H) (W : World) (base : Nat) (args : Array Value) (ds : List (DataW H)) (p : List MemPlace),
  (∀ (j : Nat) t v, F.params[j]? = some t → args[j]? = some v → Value.okWide Tryz.prog W .any base t v) → DataW.TrodAll enc Tryz.prog W 0 (fun _ => true) true F.params.toList args.toList ds p → Rows.uptoSmall H ds = true →
  Calls Tryz.prog k args W (Ret W (Is (.bool true)))
theorem holdsU_of {k : FuncId} {F : Func} (av : List ArgB) (hp : F.params.toList = av.map ArgB.t) (hg : ∀ es, Fits (av.map ArgB.S) es → bulkDs es ≤ 1048576 → Gives Tryz.prog k es (.bool true)) : HoldsU k F := by
  intro H enc W base args ds p hval hA hk
  rw [hp] at hA
  obtain ⟨es, h1, h2, h3⟩ := args_openB (b := base) av args.toList ds p hA fun j t v ht hv => hval j t v (by rw [← Array.getElem?_toList, hp]; exact ht) (by simpa using hv)
  have hk' : Rows.uptoBulkAll ds ≤ 1048576 := of_decide_eq_true hk
  have hI : Inv (ctx W (live W) []) (live W) [] W := ⟨by simp, by simp [blks], by simp [blks], fun a ha => ha, Grow.refl _ _, fun a ha => .inl ha, rfl, rfl, rfl, Nat.le_refl _, fun b _ _ => rfl⟩
  refine (hg es h1 (Nat.le_trans h3 hk') W (live W) args.toList hI h2).mono ?_
  rintro e w' (⟨v, d, σ, q, rfl, rfl, hr, hi⟩ | ⟨_, _, _, _, _, hx, _⟩)
  rotate_left
  · exact hx.elim
  simp only [Rep] at hr
  subst hr
  exact Ret.mk rfl ⟨hi.os, hi.tape, hi.output, hi.size, fun b hb => hi.block b hb (by simp [ctx, blks])⟩
theorem law_contractU {k : FuncId} {F : Func} (h : HoldsU k F) {s : ChangeSpec} (hv : s.vars = [])
    (hts0 : (F.params.toList.all fun t => (Tryz.prog).readableRec t && decide (t < (Tryz.prog).types.size)) = true) (hres : F.resultTypes.toList = [4]) (hrs : F.resultTypes.size = 1)
    (hsp : ∀ (H : Type) (ds : List (DataW H)), ds.length = F.params.toList.length → s.fn H ds = { results := [.lit (.bool true)], args := ds })
    {H : Type} {enc : TypeId × Value → H} (W : World) (base : Nat) (args : Array Value) (ds gs : List (DataW H)) (before : List MemPlace)
    (hval : ∀ (j : Nat) t v, F.params[j]? = some t → args[j]? = some v → Value.okWide Tryz.prog W .any base t v)
    (hW : DataW.Whole enc Tryz.prog F.params.toList s.vars false W args.toList ds gs before) (hk : Rows.uptoSmall H (ds ++ gs) = true) :
    Calls Tryz.prog k args W fun e W' => ∃ v, e = .returned v ∧ s.post enc Tryz.prog F false true false false W args v W' := by
  have hts : ∀ t ∈ F.params.toList, (Tryz.prog).readableRec t = true ∧ t < (Tryz.prog).types.size := fun t ht => by
    have := List.all_eq_true.1 hts0 t ht
    simpa using this
  have hW' := hW
  obtain ⟨p, q, hA, hV, rfl, hfz, hnd⟩ := hW
  rw [hv] at hV
  obtain ⟨rfl, rfl⟩ := trodVars_none hV
  rw [List.append_nil] at hk
  refine (h H enc W base args ds p hval hA hk).mono ?_
  rintro e W' ⟨v, rfl, hvv, hb⟩
  have hvv : v = .bool true := hvv
  subst hvv
  have hlen := trodAll_len hA
  have hspec := hsp H ds hlen
  refine ⟨_, rfl, ds, [], p ++ [], [], p, [], hW', ?_, ?_, ?_, ?_, fun h => by cases h⟩
  · rw [List.append_nil, hspec, hres, hrs]
    exact trodAll_cons_mk (shut_bool Tryz.underlying4 _) trodAll_mk0
  · rw [List.append_nil, hspec]
    exact trodAll_grown laid_ hb hts (fun x hx => hW'.lt x (by simpa using hx)) hA
  · rw [List.append_nil, hspec, hv]; rfl
  · exact World.keptBut_mono (fun x hx => ⟨by simpa using hx, .inr (.inl (by simpa using hx))⟩) (Below.frame hb (fun x => x ∈ p))
end Go.Proofs.YtdoljfkjdfaakaaGreat


namespace Go.Proofs.YtdoljfkjdfaakaaGreat
set_option maxRecDepth 100000
open Go.ChangeShapes Go.WideShapes Go.ChangeAt Go.RowKit

theorem opb_bool {N : Nat} {t : TypeId} (ht : (Tryz.prog).underlying t = some .bool) : OpB N t 1 fun d => ∃ n, d = .bool n := fun H enc W base sp hd fuel cs x _ hx => by
  obtain ⟨d, v, ⟨n, rfl⟩, h2, h3, h4, h5⟩ := op_bool ht H enc W base sp hd fuel cs x hx
  exact ⟨_, v, ⟨n, rfl⟩, h2, h3, h4, h5, by simp only [bulkD]; exact ub_pos _⟩
theorem opb_ints52 (N : Nat) : OpB N 121 1 fun d => ∃ l : List Int, d = .lst (l.map (D.int .i64)) := (opb_list (f := D.int .i64) Tryz.underlying121 cells_int (by omega) (opb_i64 (N := N) Tryz.underlying3)).less (by omega)
theorem opb_frame (N : Nat) : OpB N 75 5 fun d => ∃ x, d = enc_S_api_Frame x :=
  ((opb_struct (N := N) Tryz.underlying75 [fun d => ∃ g, d = encG g, fun d => ∃ n, d = .int .i64 n, fun d => ∃ n, d = .int .i64 n] ⟨opb_goal N, opb_i64 Tryz.underlying3, opb_i64 Tryz.underlying3, trivial⟩ (by kernel_rfl) (by kernel_rfl) (by kernel_rfl)).less (by omega)).to fun d ⟨ds, hd, h⟩ => by
    match ds, h with
    | [_, _, _], ⟨⟨x0, rfl⟩, ⟨x1, rfl⟩, ⟨x2, rfl⟩, _⟩ => exact ⟨⟨x0, x1, x2⟩, hd⟩
theorem opb_stack (N : Nat) : OpB N 38 1 fun d => ∃ l : List S_api_Frame, d = .lst (l.map enc_S_api_Frame) := (opb_list Tryz.underlying38 (by kernel_rfl) (by omega) (opb_frame N)).less (by omega)
theorem opb_item (N : Nat) : OpB N 109 3 fun d => ∃ x : Int × At, d = encIt x :=
  ((opb_struct (N := N) Tryz.underlying109 [fun d => ∃ n, d = .int .i64 n, fun d => ∃ a, d = encA a] ⟨opb_i64 Tryz.underlying3, opb_atom N, trivial⟩ (by kernel_rfl) (by kernel_rfl) (by kernel_rfl)).less (by omega)).to fun d ⟨ds, hd, h⟩ => by
    match ds, h with
    | [_, _], ⟨⟨x0, rfl⟩, ⟨x1, rfl⟩, _⟩ => exact ⟨(x0, x1), hd⟩
theorem opb_items (N : Nat) : OpB N 39 1 fun d => ∃ l : List (Int × At), d = .lst (l.map encIt) := (opb_list Tryz.underlying39 (by kernel_rfl) (by omega) (opb_item N)).less (by omega)
theorem opb_bind (N : Nat) : OpB N 116 5 fun d => ∃ x : Int × T, d = encP x :=
  ((opb_struct (N := N) Tryz.underlying116 [fun d => ∃ n, d = .int .i64 n, fun d => ∃ t, d = encT t] ⟨opb_i64 Tryz.underlying3, opb_term N, trivial⟩ (by kernel_rfl) (by kernel_rfl) (by kernel_rfl)).less (by omega)).to fun d ⟨ds, hd, h⟩ => by
    match ds, h with
    | [_, _], ⟨⟨x0, rfl⟩, ⟨x1, rfl⟩, _⟩ => exact ⟨(x0, x1), hd⟩
theorem opb_binds52 (N : Nat) : OpB N 41 1 fun d => ∃ l : List (Int × T), d = .lst (l.map encP) := (opb_list Tryz.underlying41 (by kernel_rfl) (by omega) (opb_bind N)).less (by omega)
theorem opb_fire (N : Nat) : OpB N 123 2 fun d => ∃ x, d = enc_S_api_Fire x :=
  ((opb_struct (N := N) Tryz.underlying123 [fun d => ∃ n, d = .int .i64 n, fun d => ∃ l : List Int, d = .lst (l.map (D.int .i64))] ⟨opb_i64 Tryz.underlying3, opb_ints52 N, trivial⟩ (by kernel_rfl) (by kernel_rfl) (by kernel_rfl)).less (by omega)).to fun d ⟨ds, hd, h⟩ => by
    match ds, h with
    | [_, _], ⟨⟨x0, rfl⟩, ⟨x1, rfl⟩, _⟩ => exact ⟨⟨x0, x1⟩, hd⟩
theorem opb_fired (N : Nat) : OpB N 42 1 fun d => ∃ l : List S_api_Fire, d = .lst (l.map enc_S_api_Fire) := (opb_list Tryz.underlying42 (by kernel_rfl) (by omega) (opb_fire N)).less (by omega)
theorem opb_config (N : Nat) : OpB N 44 7 fun d => ∃ x, d = enc_S_api_Config x :=
  ((opb_struct (N := N) Tryz.underlying44 [fun d => ∃ l : List S_api_Frame, d = .lst (l.map enc_S_api_Frame), fun d => ∃ l : List (Int × At), d = .lst (l.map encIt), fun d => ∃ l : List (Int × T), d = .lst (l.map encP), fun d => ∃ l : List S_api_Fire, d = .lst (l.map enc_S_api_Fire), fun d => ∃ n, d = .int .i64 n, fun d => ∃ n, d = .int .i64 n, fun d => ∃ b, d = .bool b] ⟨opb_stack N, opb_items N, opb_binds52 N, opb_fired N, opb_i64 Tryz.underlying3, opb_i64 Tryz.underlying3, opb_bool Tryz.underlying4, trivial⟩ (by kernel_rfl) (by kernel_rfl) (by kernel_rfl)).less (by omega)).to fun d ⟨ds, hd, h⟩ => by
    match ds, h with
    | [_, _, _, _, _, _, _], ⟨⟨x0, rfl⟩, ⟨x1, rfl⟩, ⟨x2, rfl⟩, ⟨x3, rfl⟩, ⟨x4, rfl⟩, ⟨x5, rfl⟩, ⟨x6, rfl⟩, _⟩ => exact ⟨⟨x0, x1, x2, x3, x4, x5, x6⟩, hd⟩
def bConfig : ArgB := ⟨_, _, _, opb_config, (cl_struct Tryz.underlying44).to fun _ ⟨_, h⟩ => ⟨_, h⟩⟩
theorem config_bulk {c : S_api_Config} (h : bulkD (enc_S_api_Config c) ≤ 1048576) : ConfigB c := by
  simp only [enc_S_api_Config, bulkD, bulkDs] at h
  refine ⟨fun x hx => ?_, fun x hx => ?_, fun x hx => ?_⟩
  · have h1 := bulk_mem (f := enc_S_api_Frame) hx
    simp only [enc_S_api_Frame, bulkD, bulkDs] at h1
    have := bg_bulk (g := x.f0_Goal) (by omega)
    omega
  · have h1 := bulk_mem (f := encIt) hx
    simp only [encIt, bulkD, bulkDs] at h1
    have := bf_bulk (a := x.2) (by omega)
    omega
  · have h1 := bulk_mem (f := encP) hx
    have h2 : bulkD (encT x.2) + 2 ≤ bulkD (encP x) := by
      simp only [encP, bulkD, bulkDs]
      omega
    have h3 := wt_bulk x.2
    omega
end Go.Proofs.YtdoljfkjdfaakaaGreat

