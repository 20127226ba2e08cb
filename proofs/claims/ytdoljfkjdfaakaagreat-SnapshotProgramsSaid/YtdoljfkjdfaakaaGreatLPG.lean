/-
  Texts of the seat, merged.
-/
import Derived.Test.YtdoljfkjdfaakaaGreatLPA
import Derived.Test.YtdoljfkjdfaakaaGreatLPB
import Derived.Test.YtdoljfkjdfaakaaGreatLPC
import Derived.Test.YtdoljfkjdfaakaaGreatLPD
import Derived.Test.YtdoljfkjdfaakaaGreatLPE
import Derived.Test.YtdoljfkjdfaakaaGreatLPF
import Derived.Test.YtdoljfkjdfaakaaGreatChecked
import Derived.WalkKit
import Derived.Lib.Hide
import Derived.Lib.AppendStr
import Derived.Deep.AppendLies
import Derived.Deep.AppendSrc
import Derived.Deep.Draws
import Derived.Deep.QuietTactic
import Derived.BigQuiet
import Derived.Deep.RegionWith
import Derived.Maps.AppendAt
import Derived.WalkSpells
import Derived.Orders
import Derived.Deep.Slices
import Derived.Deep.Fields
import Derived.ChangeArms
import Derived.Lib.OthersKept
import Derived.Lib.TrimU
import Derived.Lib.IndexAny
import Derived.Deep.LoopGhost
import Derived.Lib.Bytealg
import Derived.RangeFuncBox
import Derived.RangeFuncNested
import Derived.RangeFuncBound
import Derived.RangeFuncCalls
import Derived.RangeFuncLeaves
import Derived.Shelf.Abstract
import Derived.OwnWalkIn
import Derived.TacticsInMore
import Derived.LoopNIn
import Derived.LoopIn
import Derived.RangeFuncWrites
import Derived.Maps.OwnIn
import Derived.Maps.Views
import Derived.Laws.OwnMore
import Derived.Maps.OwnSet
import Derived.Laws.IdiomStrings
import Derived.Test.YtdoljfkjdfaakaaGreatRows
import Derived.ProofKit
import Derived.OpenShut
import Derived.Carry
import Derived.OrdersIn
import Derived.Great.BuildSlice
import Derived.ArgAppend
import Derived.Laws.MakeOwn
import Derived.Laws.Cover3
import Derived.Laws.CopyRow
import Derived.MapKept
import Derived.Maps.RangeRun
import Derived.DeepKeys5
import Derived.WideKeyRuns
import Derived.RangeFuncOwn
import Derived.Defers
import Derived.Recover
import Derived.Tactics
import Derived.Tactics2
import Derived.KernelRfl
import Derived.ChangeSlices
set_option linter.unusedVariables false
set_option linter.unusedSimpArgs false
set_option linter.unnecessarySimpa false
set_option linter.all false

namespace Go.Proofs.YtdoljfkjdfaakaaGreat
set_option maxRecDepth 100000
open Go.RowKit
section
variable {m : Md} {P : Program} {f : FuncId} {fn : Func} {K : Ctx} {R : D → St → Prop} {k : List Item} {env : Env} {σ : St}
theorem leavesAs_of {P : Program} {fr : Frame} {w : World} {e : Ending} (h : fr.leaving P w e) : LeavesAs .normal P fr w e := by
  cases e with
  | returned v => exact h
  | panicked c => exact h
  | outgrown => trivial
/-- What a panic leaves, when the deferred calls have run. -/
def OutD (m : Md) (P : Program) (fn : Func) (K : Ctx) (R : D → St → Prop) (env : Env) (d : D) (τ : St) : Prop := ∀ (p : Addr → Prop) (a : Act) (w : World) (v : Value), Inv K p τ w → RelEnv p w env a → Rep p w d v → Leaves P fn a.tmps (Left K R) m.marks (.panicking [{ v, recovered := false }]) w
theorem g_regionD {id : Nat} {ops : Array Oper} {dr : Bool} {Q : Env → St → Prop} {X : Env → D → St → Prop} (hrd : m.rd = none) (hkd : m.kd = .normal) (h : ∀ (p : Addr → Prop) (a : Act) (w : World), Inv K p σ w → RelEnv p w env a → fn.ntmps ≤ a.tmps.size → a.defers = m.marks → (Code.region id ops dr).wpIn (fw m.rd) 0 P (EndsR P K fn.ntmps m X Q) a w)
    (hX : ∀ e d τ, X e d τ → OutD m P fn K R e d τ) (hq : ∀ env' σ', Q env' σ' → GoesG m P f fn K R k env' σ') : GoesG m P f fn K R (.code (.region id ops dr) :: k) env σ := fun p a w hi hr hn hd b cs hb hk hro hf => by
  obtain ⟨e, a', w', hE, harr⟩ := h p a w hi hr hn hd b k cs (hro.trans (fw_round _).symm) (fw_fn _ _) (fw_room _ _)
  rcases hE with ⟨rfl, env', σ', p', q, i1, i2, i3, i4⟩ | ⟨v, d, τ, p', env', rfl, hx, hv, hi', hr', hd'⟩
  · exact .of_steps (fw_steps harr) (hq env' σ' q p' a' w' i1 i2 i3 i4 b cs hb hk hro hf)
  · obtain ⟨todo, hs⟩ := harr
    obtain ⟨e, w'', fr', h1, h2, h3, h4⟩ := leaves_steps (P := P) (fn := fn) m.marks (.panicking [{ v, recovered := false }]) w' { b.atR a' todo with mode := .panicking [{ v, recovered := false }] } cs rfl hd' rfl (by rw [← hb] at hf; exact hf) (hk.trans hkd) (hX env' d τ hx p' a' w' v hi' hr' hv)
    refine .of_steps (fw_steps hs) ?_
    rw [hrd, hkd]
    exact ⟨e, w'', fr', h1, h2, h3.trans hb, leavesAs_of h4⟩
theorem g_runD (hrd : m.rd = none) (hkd : m.kd = .normal) {id : Nat} {l : List Oper} (hok : okOps l.toArray fn.ntmps = true) (ord : List (Nat × Cls)) (ho : ord.map (·.1) = List.range l.length)
    (h : Run P l.toArray (OutD m P fn K R) (GoesG m P f fn K R k) ord env σ) : GoesG m P f fn K R (.code (.region id l.toArray false) :: k) env σ :=
  g_regionD hrd hkd (Q := GoesG m P f fn K R k) (X := OutD m P fn K R) (fun p a w hi hr hn hd => by
    refine wpIn_region ?_
    have := run_seq (K := K) (m := m) (X := OutD m P fn K R) (fun _ _ _ _ => hrd) hok ord env σ a w h ⟨p, hi, hr, hn, hd⟩
    rw [ho] at this
    simpa using this) (fun _ _ _ h => h) (fun _ _ h => h)
/-- A return, when the deferred calls have run. -/
theorem g_retD (hrd : m.rd = none) (hkd : m.kd = .normal) (h : ∀ (p : Addr → Prop) (a : Act) (w : World), Inv K p σ w → RelEnv p w env a → Leaves P fn a.tmps (Left K R) m.marks .returning w) : GoesG m P f fn K R (.code .ret :: k) env σ := fun p a w hi hr hn hd b cs hb hk hro hf => by
  obtain ⟨e, w'', fr', h1, h2, h3, h4⟩ := leaves_steps (P := P) (fn := fn) m.marks .returning w { b.atR a (.code .ret :: k) with mode := .returning } cs rfl hd rfl (by rw [← hb] at hf; exact hf) (hk.trans hkd) (h p a w hi hr)
  refine .of_steps (.one (stepR_ret (hro.trans hrd))) ?_
  rw [hrd, hkd]
  exact ⟨e, w'', fr', h1, h2, h3.trans hb, leavesAs_of h4⟩
/-- A closure over two variables is made, and its call deferred. -/
theorem g_defer2 {id t s1 s2 : Nat} {g : FuncId} {b1 b2 : Nat} {o1 o2 : Oper} (hrd : m.rd = none) (ho1 : o1.op = .makeFunc (.func g) #[] #[.tmp s1, .tmp s2]) (hd1 : o1.dst = some t) (hg1 : o1.guard = none) (ho2 : o2.op = .defer { callee := .value (.tmp t), args := #[], argTypes := #[] }) (hd2 : o2.dst = none) (hg2 : o2.guard = none)
    (h1 : lk env s1 = some (.ref b1 0 [])) (h2 : lk env s2 = some (.ref b2 0 [])) (ht : t < fn.ntmps)
    (h : GoesG { m with ds := { target := .fn (.func g) #[.pointer (some ⟨b1, 0, none⟩), .pointer (some ⟨b2, 0, none⟩)], args := #[] } :: m.ds } P f fn K R k ((t, .clo (.func g) [] [.ref b1 0 [], .ref b2 0 []]) :: env) σ) :
    GoesG m P f fn K R (.code (.region id #[o1, o2] false) :: k) env σ := fun p a w hi hr hn hd b cs hb hk hro hf => by
  have v1 := hr s1 _ h1
  have v2 := hr s2 _ h2
  simp only [Rep] at v1 v2
  have hs : t < a.tmps.size := Nat.lt_of_lt_of_le ht hn
  have arr : (Code.region id #[o1, o2] false).wpIn (fw m.rd) 0 P (fun e a' w' => e = .normal ∧ w' = w ∧ a' = { tmps := a.tmps.setIfInBounds t (.func (.func g) #[] #[.pointer (some ⟨b1, 0, none⟩), .pointer (some ⟨b2, 0, none⟩)]), defers := { target := .fn (.func g) #[.pointer (some ⟨b1, 0, none⟩), .pointer (some ⟨b2, 0, none⟩)], args := #[] } :: a.defers }) a w := by
    rw [hrd]
    refine wpIn_region ?_
    simp only [List.size_toArray, List.length_cons, List.length_nil, List.range_succ, List.range_zero, List.nil_append, List.cons_append]
    simp only [wpOpsIn, List.getElem?_toArray, List.getElem?_cons_zero, List.getElem?_cons_succ, Region.wanted, hg1, hg2, if_true]
    refine wpIn_none ?_
    unfold Oper.wp
    have r1 : (execOp a.eval o1).run P w = .ok (.value (.func (.func g) #[] #[.pointer (some ⟨b1, 0, none⟩), .pointer (some ⟨b2, 0, none⟩)])) w := by
      unfold execOp
      rw [ho1]
      simp [Instr.makeFunc, Act.eval, v1, v2]
    rw [r1, Oper.upon_value, hd1]
    refine wpIn_none ?_
    unfold Oper.wp
    have r2 : (execOp (a.put (some t) (.func (.func g) #[] #[.pointer (some ⟨b1, 0, none⟩), .pointer (some ⟨b2, 0, none⟩)])).eval o2).run P w = .ok (.defer { target := .fn (.func g) #[.pointer (some ⟨b1, 0, none⟩), .pointer (some ⟨b2, 0, none⟩)], args := #[] }) w := by
      unfold execOp
      rw [ho2]
      simp [resolve, Deferred.ofValue, Act.eval, Act.put, hs]
    rw [r2, Oper.upon_defer, hd2]
    exact ⟨trivial, rfl, rfl⟩
  obtain ⟨e, a', w', ⟨rfl, rfl, rfl⟩, harr⟩ := arr b k cs (hro.trans (fw_round _).symm) (fw_fn _ _) (fw_room _ _)
  refine .of_steps (fw_steps harr) (h p _ w' hi (fun s d hsd => ?_) (by simpa using hn) (by simp [Md.marks, hd]) b cs hb hk hro hf)
  rw [look_cons] at hsd
  by_cases hst : t = s
  · subst hst
    rw [if_pos rfl] at hsd
    injection hsd with hsd
    subst hsd
    simp only [Rep, Repl]
    exact ⟨[], [.pointer (some ⟨b1, 0, none⟩), .pointer (some ⟨b2, 0, none⟩)], by simp [hs], rfl, _, _, rfl, rfl, _, _, rfl, rfl, rfl⟩
  · rw [if_neg hst] at hsd
    have := hr s d hsd
    simpa [Array.getElem?_setIfInBounds_ne hst] using this
end
section
variable {P : Program}
/-- A deferred closure that recovers first: its walk goes on with what was thrown, or with nil. -/
theorem callsD_any (u u1 : FrameMode) {v : Value} (hrec : ∀ (c₀ : Frame) (cs : List Frame), c₀.mode = u → recoverD (c₀ :: cs) = some (v, { c₀ with mode := u1 } :: cs) ∨ (recoverD (c₀ :: cs) = none ∧ v = .nilIface ∧ ({ c₀ with mode := u1 } : Frame) = c₀)) {g : FuncId} {fn : Func} {id : Nat} {o1 o2 : Oper} {c1 : Code} {b1 b2 tr td : Nat} {d : D} {K : Ctx} {R : D → St → Prop} {σ : St} {p : Addr → Prop} {w : World}
    (hf : P.funcs[g]? = some fn) (hb : fn.body = some (.seq (.region id #[o1, o2] false) c1)) (h1 : o1.op = .call { callee := .builtin .recover, args := #[], argTypes := #[] }) (hd1 : o1.dst = some tr) (hg1 : o1.guard = none) (h2 : o2.op = .assign (.tmp tr)) (hd2 : o2.dst = some td) (hg2 : o2.guard = none)
    (ht : tr < fn.ntmps) (ht2 : td < fn.ntmps) (hne : 2 ≤ tr) (hne2 : 2 ≤ td) (hi : Inv K p σ w) (hv : Rep p w d v)
    (h : ∀ K', GoesG ⟨none, [], [], .deferred⟩ P g fn K' R [.code c1] [(td, d), (tr, d), (0, .ref b1 0 []), (1, .ref b2 0 [])] σ) :
    CallsD P g #[.pointer (some ⟨b1, 0, none⟩), .pointer (some ⟨b2, 0, none⟩)] u w fun e u' w' => u' = u1 ∧ Left { K with X := fun _ _ => False } R e w' := by
  intro c₀ cs hu
  let b : Frame := { (default : Frame) with fn := g, kind := .deferred, roundOf := none }
  let a0 : Act := { tmps := #[.pointer (some ⟨b1, 0, none⟩), .pointer (some ⟨b2, 0, none⟩)] ++ Array.replicate (fn.ntmps - 2) undef, defers := [] }
  let a1 : Act := { tmps := (a0.tmps.setIfInBounds tr v).setIfInBounds td v, defers := [] }
  have hsz : a0.tmps.size = fn.ntmps := by
    simp only [a0, Array.size_append, Array.size_replicate]
    show 2 + (fn.ntmps - 2) = _
    omega
  have henter : Frame.enter P g #[.pointer (some ⟨b1, 0, none⟩), .pointer (some ⟨b2, 0, none⟩)] .deferred = b.at a0 [.code (.seq (.region id #[o1, o2] false) c1)] := by
    simp [Frame.enter, Frame.at, hf, hb, b, a0]
  have hreg : (Code.region id #[o1, o2] false).wpS P (fun e a' cs' w' => e = .normal ∧ a' = a1 ∧ cs' = { c₀ with mode := u1 } :: cs ∧ w' = w) a0 (c₀ :: cs) w := by
    apply wpS_region
    have r1 : (execOp a0.eval o1).run P w = .ok .recover w := by
      unfold execOp
      rw [h1]
      simp [resolve, invoke, go_sem]
    have r2 : (execOp (a0.put (some tr) v).eval o2).run P w = .ok (.value v) w := by
      unfold execOp
      rw [h2]
      simp [Act.eval, Act.put, hsz, ht]
    simp only [List.size_toArray, List.length_cons, List.length_nil, List.range_succ, List.range_zero, List.nil_append, List.cons_append]
    rcases hrec c₀ cs hu with hr | ⟨hr, rfl, he⟩
    · simp only [wpOpsS, List.getElem?_toArray, List.getElem?_cons_zero, List.getElem?_cons_succ, Region.wanted, hg1, hg2, if_true, r1, hr, hd1, r2, hd2, Oper.upon_value]
      exact ⟨trivial, rfl, trivial, trivial⟩
    · rw [he]
      simp only [wpOpsS, List.getElem?_toArray, List.getElem?_cons_zero, List.getElem?_cons_succ, Region.wanted, hg1, hg2, if_true, r1, hr, hd1, r2, hd2, Oper.upon_value]
      exact ⟨trivial, rfl, trivial, trivial⟩
  obtain ⟨e, a', cs', w', ⟨rfl, rfl, rfl, rfl⟩, harr⟩ := hreg b [.code c1] rfl rfl
  have hrel : RelEnv p w' [(td, d), (tr, d), (0, .ref b1 0 []), (1, .ref b2 0 [])] a1 := by
    have hset : ∀ (l : Array Value) (i : Nat) (x : Value) (j : Nat), (l.setIfInBounds i x).getD j undef = if i = j ∧ i < l.size then x else l.getD j undef := fun l i x j => by
      simp only [Array.getD_eq_getD_getElem?, Array.getElem?_setIfInBounds]
      by_cases hij : i = j
      · subst hij
        by_cases hl : i < l.size
        · simp [hl]
        · simp [hl]
      · simp [hij]
    intro t d' hd'
    simp only [look_cons] at hd'
    show Rep p w' d' (((a0.tmps.setIfInBounds tr v).setIfInBounds td v).getD t undef)
    rw [hset, hset, Array.size_setIfInBounds, hsz]
    by_cases e1 : td = t
    · rw [if_pos e1] at hd'
      injection hd' with hd'
      subst hd'
      rw [if_pos ⟨e1, ht2⟩]
      exact hv
    · rw [if_neg e1] at hd'
      rw [if_neg fun h => e1 h.1]
      by_cases e2 : tr = t
      · rw [if_pos e2] at hd'
        injection hd' with hd'
        subst hd'
        rw [if_pos ⟨e2, ht⟩]
        exact hv
      · rw [if_neg e2] at hd'
        rw [if_neg fun h => e2 h.1]
        have h01 : t = 0 ∨ t = 1 := by
          by_cases e3 : 0 = t
          · exact .inl e3.symm
          · rw [if_neg e3] at hd'
            by_cases e4 : 1 = t
            · exact .inr e4.symm
            · rw [if_neg e4] at hd'
              cases hd'
        rcases h01 with rfl | rfl
        · rw [if_pos rfl] at hd'
          injection hd' with hd'
          subst hd'
          simp only [Rep]
          show (#[Value.pointer (some ⟨b1, 0, none⟩), Value.pointer (some ⟨b2, 0, none⟩)] ++ Array.replicate (fn.ntmps - 2) undef).getD _ undef = _
          rw [Array.getD_eq_getD_getElem?, Array.getElem?_append_left (by simp)]
          rfl
        · rw [if_neg (by decide), if_pos rfl] at hd'
          injection hd' with hd'
          subst hd'
          simp only [Rep]
          show (#[Value.pointer (some ⟨b1, 0, none⟩), Value.pointer (some ⟨b2, 0, none⟩)] ++ Array.replicate (fn.ntmps - 2) undef).getD _ undef = _
          rw [Array.getD_eq_getD_getElem?, Array.getElem?_append_left (by simp)]
          rfl
  obtain ⟨e, w2, fr, q1, q2, q3, q4⟩ := h { K with X := fun _ _ => False } p a1 w' (hi.of (by rfl) (by rfl) (by rfl)) hrel (by simp [a1, hsz]) (by simp [a1, Md.marks]) b ({ c₀ with mode := u1 } :: cs) rfl rfl rfl hf
  rw [Frame.atR_of_none rfl] at q2
  refine ⟨e, _, w2, fr, ⟨rfl, q1⟩, ?_, ?_⟩
  · rw [henter]
    exact Comes.of_steps (.head step_seq harr) q2
  · rcases q1 with ⟨v', d', σ', q, rfl, _⟩ | ⟨_, _, _, _, _, hx, _⟩
    · obtain ⟨q5, q6, q7, q8⟩ := q4
      exact ⟨q7, q5, q6, q8⟩
    · exact hx.elim
variable {o : Oper} {ρ : Operand → Option D} {d : D}
theorem callsD_rec {v : Value} {g : FuncId} {fn : Func} {id : Nat} {o1 o2 : Oper} {c1 : Code} {b1 b2 tr td : Nat} {d : D} {K : Ctx} {R : D → St → Prop} {σ : St} {p : Addr → Prop} {w : World}
    (hf : P.funcs[g]? = some fn) (hb : fn.body = some (.seq (.region id #[o1, o2] false) c1)) (h1 : o1.op = .call { callee := .builtin .recover, args := #[], argTypes := #[] }) (hd1 : o1.dst = some tr) (hg1 : o1.guard = none) (h2 : o2.op = .assign (.tmp tr)) (hd2 : o2.dst = some td) (hg2 : o2.guard = none)
    (ht : tr < fn.ntmps) (ht2 : td < fn.ntmps) (hne : 2 ≤ tr) (hne2 : 2 ≤ td) (hi : Inv K p σ w) (hv : Rep p w d v)
    (h : ∀ K', GoesG ⟨none, [], [], .deferred⟩ P g fn K' R [.code c1] [(td, d), (tr, d), (0, .ref b1 0 []), (1, .ref b2 0 [])] σ) :
    CallsD P g #[.pointer (some ⟨b1, 0, none⟩), .pointer (some ⟨b2, 0, none⟩)] (.panicking [{ v, recovered := false }]) w fun e u' w' => u' = .panicking [{ v, recovered := true }] ∧ Left { K with X := fun _ _ => False } R e w' :=
  callsD_any _ _ (fun c₀ cs hu => .inl (by simp [recoverD, hu])) hf hb h1 hd1 hg1 h2 hd2 hg2 ht ht2 hne hne2 hi hv h
theorem callsD_idle {g : FuncId} {fn : Func} {id : Nat} {o1 o2 : Oper} {c1 : Code} {b1 b2 tr td : Nat} {K : Ctx} {R : D → St → Prop} {σ : St} {p : Addr → Prop} {w : World}
    (hf : P.funcs[g]? = some fn) (hb : fn.body = some (.seq (.region id #[o1, o2] false) c1)) (h1 : o1.op = .call { callee := .builtin .recover, args := #[], argTypes := #[] }) (hd1 : o1.dst = some tr) (hg1 : o1.guard = none) (h2 : o2.op = .assign (.tmp tr)) (hd2 : o2.dst = some td) (hg2 : o2.guard = none)
    (ht : tr < fn.ntmps) (ht2 : td < fn.ntmps) (hne : 2 ≤ tr) (hne2 : 2 ≤ td) (hi : Inv K p σ w)
    (h : ∀ K', GoesG ⟨none, [], [], .deferred⟩ P g fn K' R [.code c1] [(td, .nili), (tr, .nili), (0, .ref b1 0 []), (1, .ref b2 0 [])] σ) :
    CallsD P g #[.pointer (some ⟨b1, 0, none⟩), .pointer (some ⟨b2, 0, none⟩)] .returning w fun e u' w' => u' = .returning ∧ Left { K with X := fun _ _ => False } R e w' :=
  callsD_any .returning .returning (v := .nilIface) (fun c₀ cs hu => .inr ⟨by simp [recoverD, hu], rfl, by cases c₀; simp_all⟩) hf hb h1 hd1 hg1 h2 hd2 hg2 ht ht2 hne hne2 hi (by simp only [Rep]) h
theorem s_neqNilN {x : Operand} {ty t' : TypeId} (ho : o.op = .binOp .neq ty x (.const .nilIface) t') (hx : ρ x = some .nili) (hr : ∀ (w : World), (Op.equal ty .nilIface .nilIface).run P w = .ok true w) : StepD P o ρ (.bool false) := stepD_of fun p a w h => by
  have h1 := h x (by rw [ho]; simp [Op.operands]) _ hx
  simp only [Rep] at h1
  refine ⟨.bool false, ?_, by simp only [Rep]⟩
  unfold execOp
  rw [ho]
  have e1 : eqGuard .neq ty x (.const .nilIface) .nilIface .nilIface = pure () := by
    unfold eqGuard
    simp
  have e2 : binOp .neq ty .nilIface .nilIface = (do pure (.bool (!(← Op.equal ty .nilIface .nilIface)))) := rfl
  have e3 : a.eval (.const .nilIface) = .nilIface := rfl
  simp [h1, e3, e1, e2, hr]
theorem s_neqNilI {x y : Operand} {t ty : TypeId} {t' : TypeId} (ho : o.op = .binOp .neq ty x y t') (hx : ρ x = some (.ifc t d)) (hy : ρ y = some .nili) (hr : ∀ (v : Value) (w : World), (Op.equal ty (.iface t v) .nilIface).run P w = .ok false w) : StepD P o ρ (.bool true) := stepD_of fun p a w h => by
  have h1 := h x (by rw [ho]; simp [Op.operands]) _ hx
  have h2 := h y (by rw [ho]; simp [Op.operands]) _ hy
  simp only [Rep] at h1 h2
  obtain ⟨v, h1, _⟩ := h1
  refine ⟨.bool true, ?_, by simp only [Rep]⟩
  unfold execOp
  rw [ho]
  have e1 : eqGuard .neq ty x y (.iface t v) .nilIface = pure () := rfl
  have e2 : binOp .neq ty (.iface t v) .nilIface = (do pure (.bool (!(← Op.equal ty (.iface t v) .nilIface)))) := rfl
  simp [h1, h2, e1, e2, hr]
theorem s_assertT {x : Operand} {tx t : TypeId} (ho : o.op = .typeAssert x tx t true) (hr : ∀ (v : Value) (w : World), (Instr.typeAssert (.iface t v) tx t true).run P w = .ok (.tuple #[v, .bool true]) w) (hx : ρ x = some (.ifc t d)) : StepD P o ρ (.tup [d, .bool true]) := stepD_of fun p a w h => by
  have h1 := h x (by rw [ho]; simp [Op.operands]) _ hx
  simp only [Rep] at h1
  obtain ⟨v, h1, h2⟩ := h1
  refine ⟨.tuple #[v, .bool true], ?_, ?_⟩
  · unfold execOp
    rw [ho]
    simp [h1, hr]
  · simp only [Rep, Repl]
    exact ⟨[v, .bool true], rfl, _, _, rfl, h2, _, _, rfl, rfl, rfl⟩
end
section
variable {m : Md} {P : Program} {f : FuncId} {fn : Func} {K : Ctx} {R : D → St → Prop} {k : List Item} {env : Env} {σ : St}
theorem g_endD (_ : P.funcs[f]? = some fn) (ds : List D) (hds : ResDs P env σ fn.results.toList ds) (hR : R (packD ds) σ) : GoesG ⟨none, [], [], .deferred⟩ P f fn K R [] env σ := fun p a w hi hr hn hd b cs hb hk hro hf => by
  obtain ⟨e, h1, h2, h3⟩ := left_of (R := R) hi hr hd hf hds hR b hb hk []
  refine ⟨e, w, { b.atR a [] with mode := .returning }, h1, ?_, hb, h2⟩
  cases e with
  | returned v => exact Steps.one (stepR_end hro)
  | panicked c => exact Steps.one (stepR_end hro)
  | outgrown => exact absurd rfl h3
/-- A panic is recovered by the deferred closure, which writes the results. -/
theorem outD_of {g : FuncId} {b1 b2 s1 s2 : Nat} {d : D} {σ' : St} {ds : List D} (hm : m.marks = [{ target := .fn (.func g) #[.pointer (some ⟨b1, 0, none⟩), .pointer (some ⟨b2, 0, none⟩)], args := #[] }]) (hg : callee P g)
    (hrec : ∀ (p : Addr → Prop) (w : World) (v : Value), Inv K p σ w → Rep p w d v → CallsD P g #[.pointer (some ⟨b1, 0, none⟩), .pointer (some ⟨b2, 0, none⟩)] (.panicking [{ v, recovered := false }]) w fun e u' w' => u' = .panicking [{ v, recovered := true }] ∧ Left { K with X := fun _ _ => False } (fun d σ'' => d = .tup [] ∧ σ'' = σ') e w')
    (hres : ResDs P [(s1, .ref b1 0 []), (s2, .ref b2 0 [])] σ' fn.results.toList ds) (hR : R (packD ds) σ') (h1 : lk env s1 = some (.ref b1 0 [])) (h2 : lk env s2 = some (.ref b2 0 [])) : OutD m P fn K R env d σ := fun p a w v hi hr hv => by
  rw [hm]
  refine leaves_cons (f := g) (args := #[.pointer (some ⟨b1, 0, none⟩), .pointer (some ⟨b2, 0, none⟩)]) (by simp) ?_ ?_
  · simp only [invoke]
    rw [run_callFunc hg]
    congr 2
  · refine (hrec p w v hi hv).mono ?_
    rintro e u' w' ⟨rfl, hl⟩
    rcases hl with ⟨v', d', σ'', q, rfl, ⟨rfl, rfl⟩, hv', hi'⟩ | ⟨_, _, _, _, rfl, hx, _⟩
    · have hrel : RelEnv q w' [(s1, .ref b1 0 []), (s2, .ref b2 0 [])] a := fun t d ht => by
        rw [look_cons] at ht
        split at ht
        · rename_i e
          subst e
          injection ht with ht
          subst ht
          have := hr _ _ h1
          simp only [Rep] at this ⊢
          exact this
        · rw [look_cons] at ht
          split at ht
          · rename_i e
            subst e
            injection ht with ht
            subst ht
            have := hr _ _ h2
            simp only [Rep] at this ⊢
            exact this
          · cases ht
      have hi'' : Inv K q σ'' w' := hi'.of (by rfl) (by rfl) (by rfl)
      obtain ⟨v2, h3, h4⟩ := results_run hi'' hrel hres
      exact ⟨v2, h3, .inl ⟨v2, _, _, q, rfl, hR, h4, hi''⟩⟩
    · exact hx.elim
/-- A return, when the deferred closure has nothing to recover. -/
theorem leavesD_of {g : FuncId} {b1 b2 s1 s2 : Nat} {ds : List D} (hm : m.marks = [{ target := .fn (.func g) #[.pointer (some ⟨b1, 0, none⟩), .pointer (some ⟨b2, 0, none⟩)], args := #[] }]) (hg : callee P g)
    (hidle : ∀ (p : Addr → Prop) (w : World), Inv K p σ w → CallsD P g #[.pointer (some ⟨b1, 0, none⟩), .pointer (some ⟨b2, 0, none⟩)] .returning w fun e u' w' => u' = .returning ∧ Left { K with X := fun _ _ => False } (fun d σ' => d = .tup [] ∧ σ' = σ) e w')
    (h1 : lk env s1 = some (.ref b1 0 [])) (h2 : lk env s2 = some (.ref b2 0 []))
    (hres : ResDs P [(s1, .ref b1 0 []), (s2, .ref b2 0 [])] σ fn.results.toList ds) (hR : R (packD ds) σ) (p : Addr → Prop) (a : Act) (w : World) (hi : Inv K p σ w) (hr : RelEnv p w env a) : Leaves P fn a.tmps (Left K R) m.marks .returning w := by
  rw [hm]
  refine leaves_cons (f := g) (args := #[.pointer (some ⟨b1, 0, none⟩), .pointer (some ⟨b2, 0, none⟩)]) (by simp) ?_ ?_
  · simp only [invoke]
    rw [run_callFunc hg]
    congr 2
  · refine (hidle p w hi).mono ?_
    rintro e u' w' ⟨rfl, hl⟩
    rcases hl with ⟨v', d', σ'', q, rfl, ⟨rfl, rfl⟩, hv', hi'⟩ | ⟨_, _, _, _, rfl, hx, _⟩
    · have hrel : RelEnv q w' [(s1, .ref b1 0 []), (s2, .ref b2 0 [])] a := fun t d ht => by
        rw [look_cons] at ht
        split at ht
        · rename_i e
          subst e
          injection ht with ht
          subst ht
          have := hr _ _ h1
          simp only [Rep] at this ⊢
          exact this
        · rw [look_cons] at ht
          split at ht
          · rename_i e
            subst e
            injection ht with ht
            subst ht
            have := hr _ _ h2
            simp only [Rep] at this ⊢
            exact this
          · cases ht
      have hi'' : Inv K q _ w' := hi'.of (by rfl) (by rfl) (by rfl)
      obtain ⟨v2, h3, h4⟩ := results_run hi'' hrel hres
      exact ⟨v2, h3, .inl ⟨v2, _, _, q, rfl, hR, h4, hi''⟩⟩
    · exact hx.elim
end
end Go.Proofs.YtdoljfkjdfaakaaGreat


namespace Go.Proofs.YtdoljfkjdfaakaaGreat
set_option maxRecDepth 100000
open Go.RowKit

theorem ta_failure (v : Value) (w : World) : (Instr.typeAssert (.iface 191 v) 20 191 true).run Tryz.prog w = .ok (.tuple #[v, .bool true]) w := by
  kernel_rfl
/-- What a panic makes of the results. -/
def wholeR {α : Type} (z : α) (r : Int ⊕ (α × Int)) : α × Int := match r with
  | .inl c => (z, c)
  | .inr x => x

/-! ### Program -/
def z_Program : S_api_Program := ⟨[], []⟩
theorem neqI_Program (v : Value) (w : World) : (Op.equal 20 (.iface 191 v) .nilIface).run Tryz.prog w = .ok false w := rfl
set_option maxHeartbeats 1000000 in
theorem rec_Program {K : Ctx} (b8 b9 : Nat) (c c_0 : Int) (c_1 : S_api_Program) (p : Addr → Prop) (w : World) (v : Value) (hi : Inv K p [.cell b9 (.int .i64 c_0), .cell b8 (enc_S_api_Program c_1)] w) (hv : Rep p w (.ifc 191 (.agg [.int .i64 c])) v) :
    CallsD Tryz.prog 139 #[.pointer (some ⟨b8, 0, none⟩), .pointer (some ⟨b9, 0, none⟩)] (.panicking [{ v, recovered := false }]) w fun e u' w' => u' = .panicking [{ v, recovered := true }] ∧ Left { K with X := fun _ _ => False } (fun d σ => d = .tup [] ∧ σ = [.cell b9 (.int .i64 c), .cell b8 (enc_S_api_Program z_Program)]) e w' := by
  refine callsD_rec Tryz.func139 rfl rfl rfl rfl rfl rfl rfl (by decide) (by decide) (by decide) (by decide) hi hv fun K' => ?_
  refine g_seq ?_
  refine n_run (by kernel_rfl) [(0, .d), (1, .d)] rfl ?_
  refine r_d rfl rfl rfl (s_move rfl rfl) ?_
  refine r_d rfl rfl rfl (s_neqNilI rfl rfl rfl neqI_Program) ?_
  refine r_end ?_
  refine g_condT rfl ?_
  refine g_seq ?_
  refine n_run (by kernel_rfl) [(0, .d), (1, .d), (2, .d), (3, .d), (4, .d), (5, .w), (6, .w), (7, .d)] rfl ?_
  refine r_d rfl rfl rfl (s_move rfl rfl) ?_
  refine r_d rfl rfl rfl (s_assertT rfl ta_failure rfl) ?_
  refine r_d rfl rfl rfl (s_move rfl rfl) ?_
  refine r_d rfl rfl rfl (s_extract rfl rfl rfl) ?_
  refine r_d rfl rfl rfl (s_extract rfl rfl rfl) ?_
  refine r_w rfl rfl rfl (s_alloc rfl zv_snapshot_failure) ?_
  rintro _ _ ⟨b3_0, rfl, rfl⟩
  refine r_w01 rfl rfl rfl (t_store0 _ rfl rfl rfl (Wk.refl _) (pf0 _) (by exact ty_snapshot_failure) rfl rfl rfl) ?_
  refine r_d rfl rfl rfl (s_assign rfl rfl) ?_
  refine r_end ?_
  refine g_freeze 3 b3_0 rfl (pf0 _) ?_
  refine g_seq ?_
  refine g_seq ?_
  refine n_run (by kernel_rfl) [(0, .d), (1, .d)] rfl ?_
  refine r_d rfl rfl rfl (s_move rfl rfl) ?_
  refine r_d rfl rfl rfl (s_not rfl rfl) ?_
  refine r_end ?_
  refine g_condF rfl ?_
  refine g_skip ?_
  refine g_seq ?_
  refine n_run (by kernel_rfl) [(0, .w)] rfl ?_
  refine r_w rfl rfl rfl (s_alloc rfl zv_api_Program) ?_
  rintro _ _ ⟨b5_2, rfl, rfl⟩
  refine r_end ?_
  refine g_any (by kernel_rfl) (by kernel_rfl) [(0, .r), (1, .d), (2, .d), (3, .w), (4, .w)] (by kernel_rfl) ?_
  refine r_r rfl rfl rfl (t_loadRef rfl rfl (.head _) rfl rfl (by exact ty_api_Program) rfl) ?_
  refine r_d rfl rfl rfl (s_fieldAddr rfl fl_snapshot_failure_0 rfl rfl rfl rfl) ?_
  refine r_d rfl rfl rfl (s_load rfl rfl (by exact ty_api_Errno) rfl) ?_
  refine r_w01 rfl rfl rfl (t_store0 _ rfl rfl rfl (Wk.refl _) (pf2 _ _ _ _) (by exact ty_api_Program) rfl (sz_S_api_Program _) rfl) ?_
  refine r_w01 rfl rfl rfl (t_store0 _ rfl rfl rfl (Wk.refl _) (pf2 _ _ _ _) (by exact ty_api_Errno) rfl rfl rfl) ?_
  refine r_end ?_
  refine g_perm [_, _] _ ((pf1 _ _ _).trans (pf1 _ _ _)) ?_
  refine g_endD Tryz.func139 _ .nil ?_
  exact ⟨rfl, rfl⟩
theorem idle_Program {K : Ctx} {σ : St} (b8 b9 : Nat) (p : Addr → Prop) (w : World) (hi : Inv K p σ w) :
    CallsD Tryz.prog 139 #[.pointer (some ⟨b8, 0, none⟩), .pointer (some ⟨b9, 0, none⟩)] .returning w fun e u' w' => u' = .returning ∧ Left { K with X := fun _ _ => False } (fun d σ' => d = .tup [] ∧ σ' = σ) e w' := by
  refine callsD_idle Tryz.func139 rfl rfl rfl rfl rfl rfl rfl (by decide) (by decide) (by decide) (by decide) hi fun K' => ?_
  refine g_seq ?_
  refine n_run (by kernel_rfl) [(0, .d), (1, .d)] rfl ?_
  refine r_d rfl rfl rfl (s_move rfl rfl) ?_
  refine r_d rfl rfl rfl (s_neqNilN rfl rfl fun _ => rfl) ?_
  refine r_end ?_
  refine g_condF rfl ?_
  refine g_skip ?_
  refine g_endD Tryz.func139 _ .nil ?_
  exact ⟨rfl, rfl⟩
theorem cl_whole1_Program : callee Tryz.prog 139 := ⟨_, _, Tryz.func139, rfl, by decide⟩
noncomputable def lf_whole_Program (fuel : Nat) (b_a0 : (List Int)) (first_a1 : Int) : Option (Int ⊕ (S_api_Program × Int)) :=
  (bindX (lf_Psnapshot_reader_number_s1 first_a1 first_a1 (⟨b_a0, 0⟩ : S_snapshot_reader)) fun r_4 =>
  (bindX (lf_snapshot_TakeProgram_1_s1 fuel r_4.2) fun r_5 =>
  (bif (decide (r_5.2.f1_at < (b_a0.length : Int))) then
  some (.inl 3)
  else
  ((lf_snapshot_Program fuel r_5.1).bind fun r_8 =>
  (bif ((r_8.length : Int) == (0 : Int)) then
  some (.inl 2)
  else
  some (.inr (r_5.1, 0)))))))
set_option maxHeartbeats 2000000 in
theorem lg_whole_Program (fuel : Nat) (b_a0 : (List Int)) (first_a1 : Int) (res : Int ⊕ (S_api_Program × Int)) (hr : lf_whole_Program fuel b_a0 first_a1 = some res) : Gives Tryz.prog 46 [.lst (b_a0.map (D.int .u8)), .int .i64 first_a1, .clo (.func 47) [] [], .clo (.func 11) [] []] (.tup [enc_S_api_Program (wholeR z_Program res).1, .int .i64 (wholeR z_Program res).2]) := by
  unfold lf_whole_Program at hr
  refine spec_env [(0, .lst (b_a0.map (D.int .u8))), (1, .int .i64 first_a1), (2, .clo (.func 47) [] []), (3, .clo (.func 11) [] [])] Tryz.func46 rfl rfl fun K hK => ?_
  refine g_seq ?_
  refine g_run (by kernel_rfl) [(0, .w), (1, .w)] rfl ?_
  refine r_w rfl rfl rfl (s_alloc rfl zv_api_Program) ?_
  rintro _ _ ⟨b8_0, rfl, rfl⟩
  refine r_w rfl rfl rfl (s_alloc rfl zv_api_Errno) ?_
  rintro _ _ ⟨b9_1, rfl, rfl⟩
  refine r_end ?_
  refine g_seq ?_
  refine g_defer2 rfl rfl rfl rfl rfl rfl rfl rfl rfl (by decide) ?_
  have hX : ∀ (e : Env) (c : Int), res = .inl c → lk e 8 = some (.ref b8_0 0 []) → lk e 9 = some (.ref b9_1 0 []) → OutD { Md.top with ds := { target := .fn (.func 139) #[.pointer (some ⟨b8_0, 0, none⟩), .pointer (some ⟨b9_1, 0, none⟩)], args := #[] } :: Md.top.ds } Tryz.prog Tryz.f46 K (fun d' _ => d' = .tup [enc_S_api_Program (wholeR z_Program res).1, .int .i64 (wholeR z_Program res).2]) e (.ifc 191 (.agg [.int .i64 c])) [.cell b9_1 (.int .i64 0), .cell b8_0 (enc_S_api_Program z_Program)] := fun e c hc h8 h9 => by
    refine outD_of (s1 := 8) (s2 := 9) (ds := [enc_S_api_Program z_Program, .int .i64 c]) rfl cl_whole1_Program (fun p w v hi hv => rec_Program b8_0 b9_1 c 0 z_Program p w v hi hv) (.cons (resRef rfl (.tail _ (.head _)) (by exact ty_api_Program) (sz_S_api_Program _) (Wk.refl _)) (.cons (resRef rfl (.head _) (by exact ty_api_Errno) rfl (Wk.refl _)) .nil)) ?_ h8 h9
    rw [hc]
    rfl
  refine g_seq ?_
  refine g_runD rfl rfl (by kernel_rfl) [(0, .d), (1, .d), (2, .w), (3, .d)] rfl ?_
  refine r_d rfl rfl rfl (s_move rfl rfl) ?_
  refine r_d rfl rfl rfl (s_build rfl bt_snapshot_reader (.cons rfl (Wk.refl _) .nil) (.cons rfl rfl rfl (.nil _))) ?_
  refine r_w rfl rfl rfl (s_boxRef rfl rfl rfl) ?_
  rintro _ _ ⟨b15_2, rfl, rfl⟩
  refine r_d rfl rfl rfl (s_assign rfl rfl) ?_
  refine r_end ?_
  refine g_seq ?_
  refine g_runD rfl rfl (by kernel_rfl) [(0, .d), (1, .d), (2, .d), (3, .w)] rfl ?_
  refine r_d rfl rfl rfl (s_move rfl rfl) ?_
  refine r_d rfl rfl rfl (s_move rfl rfl) ?_
  refine r_d rfl rfl rfl (s_move rfl rfl) ?_
  rcases bindXS hr with ⟨c_r_4, hr_4, rfl⟩ | ⟨r_4, hr_4, hr⟩
  ·
   refine r_die rfl rfl (s_callXT _ rfl cl_Psnapshot_reader_number (.cons rfl (Wk.refl _) (.cons rfl (Wk.refl _) (.cons rfl (Wk.refl _) .nil))) (by exact (pf0 _)) (specX_inl (lg_Psnapshot_reader_number_s1 _ _ _ _ _ hr_4))) (hX _ _ rfl rfl rfl)
  ·
   refine r_w rfl rfl rfl (s_call _ rfl cl_Psnapshot_reader_number (.cons rfl (Wk.refl _) (.cons rfl (Wk.refl _) (.cons rfl (Wk.refl _) .nil))) (by exact (pf0 _)) (specX_inr (lg_Psnapshot_reader_number_s1 _ _ _ _ _ hr_4))) ?_
   rintro _ _ ⟨_, ⟨rfl, rfl⟩, rfl⟩
   refine r_st ((.cell b15_2 (enc_S_snapshot_reader r_4.2)) :: _) rfl ?_
   refine r_end ?_
   refine g_seq ?_
   refine g_runD rfl rfl (by kernel_rfl) [(0, .d), (1, .d), (2, .w), (3, .w), (4, .w)] rfl ?_
   refine r_d rfl rfl rfl (s_move rfl rfl) ?_
   refine r_d rfl rfl rfl (s_move rfl rfl) ?_
   rcases bindXS hr with ⟨c_r_5, hr_5, rfl⟩ | ⟨r_5, hr_5, hr⟩
   ·
    refine r_die rfl rfl (s_callVXT _ rfl rfl cl_snapshot_TakeProgram_1 (.cons rfl (Wk.refl _) .nil) rfl (by exact (pf0 _)) (specX_inl (lg_snapshot_TakeProgram_1_s1 fuel _ _ _ hr_5))) (hX _ _ rfl rfl rfl)
   ·
    refine r_w rfl rfl rfl (s_callV _ rfl rfl cl_snapshot_TakeProgram_1 (.cons rfl (Wk.refl _) .nil) rfl (by exact (pf0 _)) (specX_inr (lg_snapshot_TakeProgram_1_s1 fuel _ _ _ hr_5))) ?_
    rintro _ _ ⟨_, ⟨rfl, rfl⟩, rfl⟩
    refine r_st ((.cell b15_2 (enc_S_snapshot_reader r_5.2)) :: _) rfl ?_
    refine r_w rfl rfl rfl (s_alloc rfl zv_api_Program) ?_
    rintro _ _ ⟨b11_5, rfl, rfl⟩
    refine r_w01 rfl rfl rfl (t_store0 _ rfl rfl rfl (Wk.refl _) (pf0 _) (by exact ty_api_Program) (sz_S_api_Program _) rfl rfl) ?_
    refine r_end ?_
    refine g_freeze 11 b11_5 rfl (pf0 _) ?_
    refine g_seq ?_
    refine g_block ?_
    refine g_seq ?_
    refine g_runD rfl rfl (by kernel_rfl) [(0, .d), (1, .d), (2, .d), (3, .r), (4, .d), (5, .d), (6, .d), (7, .d)] rfl ?_
    refine r_d rfl rfl rfl (s_move rfl rfl) ?_
    refine r_d rfl rfl rfl (s_nilCheckR rfl rfl) ?_
    refine r_d rfl rfl rfl (s_fieldRef rfl fl_snapshot_reader_1 rfl) ?_
    refine r_r rfl rfl rfl (t_loadRef rfl rfl (.head _) rfl rfl (by exact ty_int) rfl) ?_
    refine r_d rfl rfl rfl (s_move rfl rfl) ?_
    refine r_d rfl rfl rfl (m_len (f := (D.int .u8)) b_a0 rfl el_L_uint8 rfl (asl rfl)) ?_
    refine r_d rfl rfl rfl (s_cmp rfl rfl rfl rfl) ?_
    refine r_d rfl rfl rfl (s_assign rfl rfl) ?_
    refine r_end ?_
    refine g_sB 23 rfl hr (fun h23_6 hr => ?_) (fun h23_6 hr => ?_)
    ·
     refine g_condT rfl ?_
     refine g_runD rfl rfl (by kernel_rfl) [(0, .d), (1, .d), (2, .w)] rfl ?_
     refine r_d rfl rfl rfl (s_build rfl bt_snapshot_failure (.cons rfl (Wk.refl _) .nil) (.cons rfl rfl rfl (.nil _))) ?_
     refine r_d rfl rfl rfl (s_makeIfc rfl Tryz.underlying191 rfl) ?_
     obtain rfl := Option.some.inj hr
     refine r_die rfl rfl (s_panicT _ rfl rfl (List.perm_append_comm (l₁ := [_]) (l₂ := [_, _]))) (hX _ _ rfl rfl rfl)
    ·
     refine g_condF rfl ?_
     refine g_seq ?_
     refine g_runD rfl rfl (by kernel_rfl) [(0, .d), (1, .d), (2, .d), (3, .d), (4, .d), (5, .d)] rfl ?_
     refine r_d rfl rfl rfl (s_move rfl rfl) ?_
     refine r_d rfl rfl rfl (s_load rfl rfl (by exact ty_api_Program) (sz_S_api_Program _)) ?_
     obtain ⟨r_8, hr_8, hr⟩ := bindS hr
     refine r_d rfl rfl rfl (s_callVD rfl rfl cl_snapshot_Program (.cons rfl (Wk.refl _) .nil) rfl (lg_snapshot_Program fuel _ _ hr_8)) ?_
     refine r_d rfl rfl rfl (m_len (f := (D.int .u8)) r_8 rfl el_L_uint8 rfl (asl rfl)) ?_
     refine r_d rfl rfl rfl (s_cmp rfl rfl rfl rfl) ?_
     refine r_d rfl rfl rfl (s_assign rfl rfl) ?_
     refine r_end ?_
     refine g_sB 33 rfl hr (fun h33_8 hr => ?_) (fun h33_8 hr => ?_)
     ·
      refine g_condT rfl ?_
      refine g_runD rfl rfl (by kernel_rfl) [(0, .d), (1, .d), (2, .w)] rfl ?_
      refine r_d rfl rfl rfl (s_build rfl bt_snapshot_failure (.cons rfl (Wk.refl _) .nil) (.cons rfl rfl rfl (.nil _))) ?_
      refine r_d rfl rfl rfl (s_makeIfc rfl Tryz.underlying191 rfl) ?_
      obtain rfl := Option.some.inj hr
      refine r_die rfl rfl (s_panicT _ rfl rfl (List.perm_append_comm (l₁ := [_]) (l₂ := [_, _]))) (hX _ _ rfl rfl rfl)
     ·
      refine g_condF rfl ?_
      refine g_skip ?_
      refine g_inBlock ?_
      refine g_seq ?_
      refine g_runD rfl rfl (by kernel_rfl) [(0, .d), (1, .w), (2, .w)] rfl ?_
      refine r_d rfl rfl rfl (s_load rfl rfl (by exact ty_api_Program) (sz_S_api_Program _)) ?_
      refine r_w01 rfl rfl rfl (t_store0 _ rfl rfl rfl (Wk.refl _) (pf2 _ _ _ _) (by exact ty_api_Program) (sz_S_api_Program _) rfl rfl) ?_
      refine r_w01 rfl rfl rfl (t_store0 _ rfl rfl rfl (Wk.refl _) (pf2 _ _ _ _) (by exact ty_api_Errno) rfl rfl rfl) ?_
      refine r_end ?_
      obtain rfl := Option.some.inj hr
      exact g_retD rfl rfl fun p a w hi hr => leavesD_of (ds := [_, _]) rfl cl_whole1_Program (fun p w hi => idle_Program _ _ p w hi) (s1 := 8) (s2 := 9) rfl rfl (.cons (resRef rfl (.tail _ (.head _)) (by exact ty_api_Program) (sz_S_api_Program _) (Wk.refl _)) (.cons (resRef rfl (.head _) (by exact ty_api_Errno) rfl (Wk.refl _)) .nil)) rfl p a w hi hr

noncomputable def lf_wholeR_Program (fuel : Nat) (b : List Int) (n : Int) : Option (S_api_Program × Int) := (lf_whole_Program fuel b n).bind fun r => some (wholeR z_Program r)
theorem lg_wholeR_Program (fuel : Nat) (b : List Int) (n : Int) (res : S_api_Program × Int) (hr : lf_wholeR_Program fuel b n = some res) : Gives Tryz.prog 46 [.lst (b.map (D.int .u8)), .int .i64 n, .clo (.func 47) [] [], .clo (.func 11) [] []] (.tup [enc_S_api_Program res.1, .int .i64 res.2]) := by
  obtain ⟨r, h1, h2⟩ := bindS hr
  rw [← Option.some.inj h2]
  exact lg_whole_Program fuel b n r h1
/-! ### Config -/
def z_Config : S_api_Config := ⟨[], [], [], [], 0, 0, false⟩
theorem neqI_Config (v : Value) (w : World) : (Op.equal 20 (.iface 191 v) .nilIface).run Tryz.prog w = .ok false w := rfl
set_option maxHeartbeats 1000000 in
theorem rec_Config {K : Ctx} (b8 b9 : Nat) (c c_0 : Int) (c_1 : S_api_Config) (p : Addr → Prop) (w : World) (v : Value) (hi : Inv K p [.cell b9 (.int .i64 c_0), .cell b8 (enc_S_api_Config c_1)] w) (hv : Rep p w (.ifc 191 (.agg [.int .i64 c])) v) :
    CallsD Tryz.prog 160 #[.pointer (some ⟨b8, 0, none⟩), .pointer (some ⟨b9, 0, none⟩)] (.panicking [{ v, recovered := false }]) w fun e u' w' => u' = .panicking [{ v, recovered := true }] ∧ Left { K with X := fun _ _ => False } (fun d σ => d = .tup [] ∧ σ = [.cell b9 (.int .i64 c), .cell b8 (enc_S_api_Config z_Config)]) e w' := by
  refine callsD_rec Tryz.func160 rfl rfl rfl rfl rfl rfl rfl (by decide) (by decide) (by decide) (by decide) hi hv fun K' => ?_
  refine g_seq ?_
  refine n_run (by kernel_rfl) [(0, .d), (1, .d)] rfl ?_
  refine r_d rfl rfl rfl (s_move rfl rfl) ?_
  refine r_d rfl rfl rfl (s_neqNilI rfl rfl rfl neqI_Config) ?_
  refine r_end ?_
  refine g_condT rfl ?_
  refine g_seq ?_
  refine n_run (by kernel_rfl) [(0, .d), (1, .d), (2, .d), (3, .d), (4, .d), (5, .w), (6, .w), (7, .d)] rfl ?_
  refine r_d rfl rfl rfl (s_move rfl rfl) ?_
  refine r_d rfl rfl rfl (s_assertT rfl ta_failure rfl) ?_
  refine r_d rfl rfl rfl (s_move rfl rfl) ?_
  refine r_d rfl rfl rfl (s_extract rfl rfl rfl) ?_
  refine r_d rfl rfl rfl (s_extract rfl rfl rfl) ?_
  refine r_w rfl rfl rfl (s_alloc rfl zv_snapshot_failure) ?_
  rintro _ _ ⟨b3_0, rfl, rfl⟩
  refine r_w01 rfl rfl rfl (t_store0 _ rfl rfl rfl (Wk.refl _) (pf0 _) (by exact ty_snapshot_failure) rfl rfl rfl) ?_
  refine r_d rfl rfl rfl (s_assign rfl rfl) ?_
  refine r_end ?_
  refine g_freeze 3 b3_0 rfl (pf0 _) ?_
  refine g_seq ?_
  refine g_seq ?_
  refine n_run (by kernel_rfl) [(0, .d), (1, .d)] rfl ?_
  refine r_d rfl rfl rfl (s_move rfl rfl) ?_
  refine r_d rfl rfl rfl (s_not rfl rfl) ?_
  refine r_end ?_
  refine g_condF rfl ?_
  refine g_skip ?_
  refine g_seq ?_
  refine n_run (by kernel_rfl) [(0, .w)] rfl ?_
  refine r_w rfl rfl rfl (s_alloc rfl zv_api_Config) ?_
  rintro _ _ ⟨b5_2, rfl, rfl⟩
  refine r_end ?_
  refine g_any (by kernel_rfl) (by kernel_rfl) [(0, .r), (1, .d), (2, .d), (3, .w), (4, .w)] (by kernel_rfl) ?_
  refine r_r rfl rfl rfl (t_loadRef rfl rfl (.head _) rfl rfl (by exact ty_api_Config) rfl) ?_
  refine r_d rfl rfl rfl (s_fieldAddr rfl fl_snapshot_failure_0 rfl rfl rfl rfl) ?_
  refine r_d rfl rfl rfl (s_load rfl rfl (by exact ty_api_Errno) rfl) ?_
  refine r_w01 rfl rfl rfl (t_store0 _ rfl rfl rfl (Wk.refl _) (pf2 _ _ _ _) (by exact ty_api_Config) rfl (sz_S_api_Config _) rfl) ?_
  refine r_w01 rfl rfl rfl (t_store0 _ rfl rfl rfl (Wk.refl _) (pf2 _ _ _ _) (by exact ty_api_Errno) rfl rfl rfl) ?_
  refine r_end ?_
  refine g_perm [_, _] _ ((pf1 _ _ _).trans (pf1 _ _ _)) ?_
  refine g_endD Tryz.func160 _ .nil ?_
  exact ⟨rfl, rfl⟩
theorem idle_Config {K : Ctx} {σ : St} (b8 b9 : Nat) (p : Addr → Prop) (w : World) (hi : Inv K p σ w) :
    CallsD Tryz.prog 160 #[.pointer (some ⟨b8, 0, none⟩), .pointer (some ⟨b9, 0, none⟩)] .returning w fun e u' w' => u' = .returning ∧ Left { K with X := fun _ _ => False } (fun d σ' => d = .tup [] ∧ σ' = σ) e w' := by
  refine callsD_idle Tryz.func160 rfl rfl rfl rfl rfl rfl rfl (by decide) (by decide) (by decide) (by decide) hi fun K' => ?_
  refine g_seq ?_
  refine n_run (by kernel_rfl) [(0, .d), (1, .d)] rfl ?_
  refine r_d rfl rfl rfl (s_move rfl rfl) ?_
  refine r_d rfl rfl rfl (s_neqNilN rfl rfl fun _ => rfl) ?_
  refine r_end ?_
  refine g_condF rfl ?_
  refine g_skip ?_
  refine g_endD Tryz.func160 _ .nil ?_
  exact ⟨rfl, rfl⟩
theorem cl_whole1_Config : callee Tryz.prog 160 := ⟨_, _, Tryz.func160, rfl, by decide⟩
noncomputable def lf_whole_Config (fuel : Nat) (b_a0 : (List Int)) (first_a1 : Int) : Option (Int ⊕ (S_api_Config × Int)) :=
  (bindX (lf_Psnapshot_reader_number_s1 first_a1 first_a1 (⟨b_a0, 0⟩ : S_snapshot_reader)) fun r_4 =>
  (bindX (lf_snapshot_TakeConfig_1_s1 fuel r_4.2) fun r_5 =>
  (bif (decide (r_5.2.f1_at < (b_a0.length : Int))) then
  some (.inl 3)
  else
  ((lf_snapshot_Config fuel r_5.1).bind fun r_8 =>
  (bif ((r_8.length : Int) == (0 : Int)) then
  some (.inl 2)
  else
  some (.inr (r_5.1, 0)))))))
set_option maxHeartbeats 2000000 in
theorem lg_whole_Config (fuel : Nat) (b_a0 : (List Int)) (first_a1 : Int) (res : Int ⊕ (S_api_Config × Int)) (hr : lf_whole_Config fuel b_a0 first_a1 = some res) : Gives Tryz.prog 76 [.lst (b_a0.map (D.int .u8)), .int .i64 first_a1, .clo (.func 77) [] [], .clo (.func 17) [] []] (.tup [enc_S_api_Config (wholeR z_Config res).1, .int .i64 (wholeR z_Config res).2]) := by
  unfold lf_whole_Config at hr
  refine spec_env [(0, .lst (b_a0.map (D.int .u8))), (1, .int .i64 first_a1), (2, .clo (.func 77) [] []), (3, .clo (.func 17) [] [])] Tryz.func76 rfl rfl fun K hK => ?_
  refine g_seq ?_
  refine g_run (by kernel_rfl) [(0, .w), (1, .w)] rfl ?_
  refine r_w rfl rfl rfl (s_alloc rfl zv_api_Config) ?_
  rintro _ _ ⟨b8_0, rfl, rfl⟩
  refine r_w rfl rfl rfl (s_alloc rfl zv_api_Errno) ?_
  rintro _ _ ⟨b9_1, rfl, rfl⟩
  refine r_end ?_
  refine g_seq ?_
  refine g_defer2 rfl rfl rfl rfl rfl rfl rfl rfl rfl (by decide) ?_
  have hX : ∀ (e : Env) (c : Int), res = .inl c → lk e 8 = some (.ref b8_0 0 []) → lk e 9 = some (.ref b9_1 0 []) → OutD { Md.top with ds := { target := .fn (.func 160) #[.pointer (some ⟨b8_0, 0, none⟩), .pointer (some ⟨b9_1, 0, none⟩)], args := #[] } :: Md.top.ds } Tryz.prog Tryz.f76 K (fun d' _ => d' = .tup [enc_S_api_Config (wholeR z_Config res).1, .int .i64 (wholeR z_Config res).2]) e (.ifc 191 (.agg [.int .i64 c])) [.cell b9_1 (.int .i64 0), .cell b8_0 (enc_S_api_Config z_Config)] := fun e c hc h8 h9 => by
    refine outD_of (s1 := 8) (s2 := 9) (ds := [enc_S_api_Config z_Config, .int .i64 c]) rfl cl_whole1_Config (fun p w v hi hv => rec_Config b8_0 b9_1 c 0 z_Config p w v hi hv) (.cons (resRef rfl (.tail _ (.head _)) (by exact ty_api_Config) (sz_S_api_Config _) (Wk.refl _)) (.cons (resRef rfl (.head _) (by exact ty_api_Errno) rfl (Wk.refl _)) .nil)) ?_ h8 h9
    rw [hc]
    rfl
  refine g_seq ?_
  refine g_runD rfl rfl (by kernel_rfl) [(0, .d), (1, .d), (2, .w), (3, .d)] rfl ?_
  refine r_d rfl rfl rfl (s_move rfl rfl) ?_
  refine r_d rfl rfl rfl (s_build rfl bt_snapshot_reader (.cons rfl (Wk.refl _) .nil) (.cons rfl rfl rfl (.nil _))) ?_
  refine r_w rfl rfl rfl (s_boxRef rfl rfl rfl) ?_
  rintro _ _ ⟨b15_2, rfl, rfl⟩
  refine r_d rfl rfl rfl (s_assign rfl rfl) ?_
  refine r_end ?_
  refine g_seq ?_
  refine g_runD rfl rfl (by kernel_rfl) [(0, .d), (1, .d), (2, .d), (3, .w)] rfl ?_
  refine r_d rfl rfl rfl (s_move rfl rfl) ?_
  refine r_d rfl rfl rfl (s_move rfl rfl) ?_
  refine r_d rfl rfl rfl (s_move rfl rfl) ?_
  rcases bindXS hr with ⟨c_r_4, hr_4, rfl⟩ | ⟨r_4, hr_4, hr⟩
  ·
   refine r_die rfl rfl (s_callXT _ rfl cl_Psnapshot_reader_number (.cons rfl (Wk.refl _) (.cons rfl (Wk.refl _) (.cons rfl (Wk.refl _) .nil))) (by exact (pf0 _)) (specX_inl (lg_Psnapshot_reader_number_s1 _ _ _ _ _ hr_4))) (hX _ _ rfl rfl rfl)
  ·
   refine r_w rfl rfl rfl (s_call _ rfl cl_Psnapshot_reader_number (.cons rfl (Wk.refl _) (.cons rfl (Wk.refl _) (.cons rfl (Wk.refl _) .nil))) (by exact (pf0 _)) (specX_inr (lg_Psnapshot_reader_number_s1 _ _ _ _ _ hr_4))) ?_
   rintro _ _ ⟨_, ⟨rfl, rfl⟩, rfl⟩
   refine r_st ((.cell b15_2 (enc_S_snapshot_reader r_4.2)) :: _) rfl ?_
   refine r_end ?_
   refine g_seq ?_
   refine g_runD rfl rfl (by kernel_rfl) [(0, .d), (1, .d), (2, .w), (3, .w), (4, .w)] rfl ?_
   refine r_d rfl rfl rfl (s_move rfl rfl) ?_
   refine r_d rfl rfl rfl (s_move rfl rfl) ?_
   rcases bindXS hr with ⟨c_r_5, hr_5, rfl⟩ | ⟨r_5, hr_5, hr⟩
   ·
    refine r_die rfl rfl (s_callVXT _ rfl rfl cl_snapshot_TakeConfig_1 (.cons rfl (Wk.refl _) .nil) rfl (by exact (pf0 _)) (specX_inl (lg_snapshot_TakeConfig_1_s1 fuel _ _ _ hr_5))) (hX _ _ rfl rfl rfl)
   ·
    refine r_w rfl rfl rfl (s_callV _ rfl rfl cl_snapshot_TakeConfig_1 (.cons rfl (Wk.refl _) .nil) rfl (by exact (pf0 _)) (specX_inr (lg_snapshot_TakeConfig_1_s1 fuel _ _ _ hr_5))) ?_
    rintro _ _ ⟨_, ⟨rfl, rfl⟩, rfl⟩
    refine r_st ((.cell b15_2 (enc_S_snapshot_reader r_5.2)) :: _) rfl ?_
    refine r_w rfl rfl rfl (s_alloc rfl zv_api_Config) ?_
    rintro _ _ ⟨b11_5, rfl, rfl⟩
    refine r_w01 rfl rfl rfl (t_store0 _ rfl rfl rfl (Wk.refl _) (pf0 _) (by exact ty_api_Config) (sz_S_api_Config _) rfl rfl) ?_
    refine r_end ?_
    refine g_freeze 11 b11_5 rfl (pf0 _) ?_
    refine g_seq ?_
    refine g_block ?_
    refine g_seq ?_
    refine g_runD rfl rfl (by kernel_rfl) [(0, .d), (1, .d), (2, .d), (3, .r), (4, .d), (5, .d), (6, .d), (7, .d)] rfl ?_
    refine r_d rfl rfl rfl (s_move rfl rfl) ?_
    refine r_d rfl rfl rfl (s_nilCheckR rfl rfl) ?_
    refine r_d rfl rfl rfl (s_fieldRef rfl fl_snapshot_reader_1 rfl) ?_
    refine r_r rfl rfl rfl (t_loadRef rfl rfl (.head _) rfl rfl (by exact ty_int) rfl) ?_
    refine r_d rfl rfl rfl (s_move rfl rfl) ?_
    refine r_d rfl rfl rfl (m_len (f := (D.int .u8)) b_a0 rfl el_L_uint8 rfl (asl rfl)) ?_
    refine r_d rfl rfl rfl (s_cmp rfl rfl rfl rfl) ?_
    refine r_d rfl rfl rfl (s_assign rfl rfl) ?_
    refine r_end ?_
    refine g_sB 23 rfl hr (fun h23_6 hr => ?_) (fun h23_6 hr => ?_)
    ·
     refine g_condT rfl ?_
     refine g_runD rfl rfl (by kernel_rfl) [(0, .d), (1, .d), (2, .w)] rfl ?_
     refine r_d rfl rfl rfl (s_build rfl bt_snapshot_failure (.cons rfl (Wk.refl _) .nil) (.cons rfl rfl rfl (.nil _))) ?_
     refine r_d rfl rfl rfl (s_makeIfc rfl Tryz.underlying191 rfl) ?_
     obtain rfl := Option.some.inj hr
     refine r_die rfl rfl (s_panicT _ rfl rfl (List.perm_append_comm (l₁ := [_]) (l₂ := [_, _]))) (hX _ _ rfl rfl rfl)
    ·
     refine g_condF rfl ?_
     refine g_seq ?_
     refine g_runD rfl rfl (by kernel_rfl) [(0, .d), (1, .d), (2, .d), (3, .d), (4, .d), (5, .d)] rfl ?_
     refine r_d rfl rfl rfl (s_move rfl rfl) ?_
     refine r_d rfl rfl rfl (s_load rfl rfl (by exact ty_api_Config) (sz_S_api_Config _)) ?_
     obtain ⟨r_8, hr_8, hr⟩ := bindS hr
     refine r_d rfl rfl rfl (s_callVD rfl rfl cl_snapshot_Config (.cons rfl (Wk.refl _) .nil) rfl (lg_snapshot_Config fuel _ _ hr_8)) ?_
     refine r_d rfl rfl rfl (m_len (f := (D.int .u8)) r_8 rfl el_L_uint8 rfl (asl rfl)) ?_
     refine r_d rfl rfl rfl (s_cmp rfl rfl rfl rfl) ?_
     refine r_d rfl rfl rfl (s_assign rfl rfl) ?_
     refine r_end ?_
     refine g_sB 33 rfl hr (fun h33_8 hr => ?_) (fun h33_8 hr => ?_)
     ·
      refine g_condT rfl ?_
      refine g_runD rfl rfl (by kernel_rfl) [(0, .d), (1, .d), (2, .w)] rfl ?_
      refine r_d rfl rfl rfl (s_build rfl bt_snapshot_failure (.cons rfl (Wk.refl _) .nil) (.cons rfl rfl rfl (.nil _))) ?_
      refine r_d rfl rfl rfl (s_makeIfc rfl Tryz.underlying191 rfl) ?_
      obtain rfl := Option.some.inj hr
      refine r_die rfl rfl (s_panicT _ rfl rfl (List.perm_append_comm (l₁ := [_]) (l₂ := [_, _]))) (hX _ _ rfl rfl rfl)
     ·
      refine g_condF rfl ?_
      refine g_skip ?_
      refine g_inBlock ?_
      refine g_seq ?_
      refine g_runD rfl rfl (by kernel_rfl) [(0, .d), (1, .w), (2, .w)] rfl ?_
      refine r_d rfl rfl rfl (s_load rfl rfl (by exact ty_api_Config) (sz_S_api_Config _)) ?_
      refine r_w01 rfl rfl rfl (t_store0 _ rfl rfl rfl (Wk.refl _) (pf2 _ _ _ _) (by exact ty_api_Config) (sz_S_api_Config _) rfl rfl) ?_
      refine r_w01 rfl rfl rfl (t_store0 _ rfl rfl rfl (Wk.refl _) (pf2 _ _ _ _) (by exact ty_api_Errno) rfl rfl rfl) ?_
      refine r_end ?_
      obtain rfl := Option.some.inj hr
      exact g_retD rfl rfl fun p a w hi hr => leavesD_of (ds := [_, _]) rfl cl_whole1_Config (fun p w hi => idle_Config _ _ p w hi) (s1 := 8) (s2 := 9) rfl rfl (.cons (resRef rfl (.tail _ (.head _)) (by exact ty_api_Config) (sz_S_api_Config _) (Wk.refl _)) (.cons (resRef rfl (.head _) (by exact ty_api_Errno) rfl (Wk.refl _)) .nil)) rfl p a w hi hr

noncomputable def lf_wholeR_Config (fuel : Nat) (b : List Int) (n : Int) : Option (S_api_Config × Int) := (lf_whole_Config fuel b n).bind fun r => some (wholeR z_Config r)
theorem lg_wholeR_Config (fuel : Nat) (b : List Int) (n : Int) (res : S_api_Config × Int) (hr : lf_wholeR_Config fuel b n = some res) : Gives Tryz.prog 76 [.lst (b.map (D.int .u8)), .int .i64 n, .clo (.func 77) [] [], .clo (.func 17) [] []] (.tup [enc_S_api_Config res.1, .int .i64 res.2]) := by
  obtain ⟨r, h1, h2⟩ := bindS hr
  rw [← Option.some.inj h2]
  exact lg_whole_Config fuel b n r h1
/-! ### Memory -/
end Go.Proofs.YtdoljfkjdfaakaaGreat


namespace Go.Proofs.YtdoljfkjdfaakaaGreat
set_option maxRecDepth 100000
open Go.RowKit

theorem loopT_s1 (rec : Int → RR → Option (Int ⊕ (List T × RR))) (d : Int) : ∀ (n : Nat) (out : List T) (c : RR), lf_snapshot_take_s1_L0 (fun o r => some (.inr (o, r))) rec d n out c = runT (lfo_Psnapshot_reader_args_1_s1 rec d) 56 n out c
  | 0, out, c => rfl
  | n + 1, out, c => by
    rw [lf_snapshot_take_s1_L0, runT]
    simp only [loopT_s1 rec d n]
theorem args_1 (rec : Int → RR → Option (Int ⊕ (List T × RR))) (d : Int) (c : RR) : lfo_Psnapshot_reader_args_1_s1 rec d c = lfo_Psnapshot_reader_term_s1 rec d c := by
  unfold lfo_Psnapshot_reader_args_1_s1
  cases lfo_Psnapshot_reader_term_s1 rec d c with
  | none => rfl
  | some s => cases s <;> rfl
theorem bindX_id {α : Type} (x : Option (Int ⊕ (α × RR))) : (bindX x fun r => some (.inr (r.1, r.2))) = x := by
  cases x with
  | none => rfl
  | some s => cases s <;> rfl
theorem rd_term1 {rec : Int → RR → Option (Int ⊕ (List T × RR))} (t : T) (d : Int) (hd0 : 0 ≤ d) (hd : d + depthT t ≤ 20) (hf : formT t = true) (hr : t.k = 2 → Rdr (rec (wr (d + 1))) (encN t.ar.length ++ bL t.ar) t.ar) : Rdr (lfo_Psnapshot_reader_term_s1 rec d) (bT t) t := by
  have h19 : decide (d > 19) = false := decide_eq_false (by
    have : 1 ≤ depthT t := by rw [depthT_eq]; omega
    omega)
  have hcong : ∀ (r : Option (List Int)) (x : T), r = some (bT t) → RdO (fun c => bindX (lf_Psnapshot_reader_number_s1 0 2 c) fun r_3 => bif (r_3.1 == (0 : Int)) then (bindX (lf_Psnapshot_reader_number_s1 (-2147483648) 2147483648 r_3.2) fun r_6 => some (.inr ((T.mk r_3.1 r_6.1 ⟨#[]⟩ []), r_6.2))) else (bif (r_3.1 == (1 : Int)) then (bindX (lf_Psnapshot_reader_number_s1 0 1048576 r_3.2) fun r_8 => some (.inr ((T.mk r_3.1 r_8.1 ⟨#[]⟩ []), r_8.2))) else (bindX (lf_Psnapshot_reader_text_s1 r_3.2) fun r_9 => bindX (rec (wr (d + (1 : Int))) r_9.2) fun r_10 => some (.inr ((T.mk r_3.1 0 r_9.1 r_10.1), r_10.2))))) r x → Rdr (lfo_Psnapshot_reader_term_s1 rec d) (bT t) x := fun r x hr h => (h _ hr).congr fun c => by
    unfold lfo_Psnapshot_reader_term_s1
    rw [h19]
    rfl
  rcases form_k hf with k | k | k
  · have hf' := hf
    rw [formT_0 k, decide_eq_true_eq] at hf'
    refine hcong (catO (eNum 0 2 t.k) (eNum (-2147483648) 2147483648 t.i)) t (by rw [eNum_in (by omega) (by omega), eNum_in (by omega) (by omega), bT_n (by omega)]; rfl) (.bind (rd_num (by omega) (by omega)) (RdO.congr (.last (rd_num (by omega) (by omega)) (G := fun r_6 => some (.inr ((T.mk t.k r_6.1 ⟨#[]⟩ []), r_6.2))) fun c => ?_) fun c => ?_))
    · have h1 : t.s = ⟨#[]⟩ := nil_of_list hf'.2.2.1
      have h2 : t.ar = [] := List.eq_nil_of_length_eq_zero hf'.2.2.2
      have : T.mk t.k t.i ⟨#[]⟩ [] = t := by rw [← h1, ← h2]; cases t; rfl
      simp only [this]
    · simp only [k]
      rfl
  · have hf' := hf
    rw [formT_1 k, decide_eq_true_eq] at hf'
    refine hcong (catO (eNum 0 2 t.k) (eNum 0 1048576 t.i)) t (by rw [eNum_in (by omega) (by omega), eNum_in (by omega) (by omega), bT_n (by omega)]; rfl) (.bind (rd_num (by omega) (by omega)) (RdO.congr (.last (rd_num (by omega) (by omega)) (G := fun r_6 => some (.inr ((T.mk t.k r_6.1 ⟨#[]⟩ []), r_6.2))) fun c => ?_) fun c => ?_))
    · have h1 : t.s = ⟨#[]⟩ := nil_of_list hf'.2.2.1
      have h2 : t.ar = [] := List.eq_nil_of_length_eq_zero hf'.2.2.2
      have : T.mk t.k t.i ⟨#[]⟩ [] = t := by rw [← h1, ← h2]; cases t; rfl
      simp only [this]
    · simp only [k]
      rfl
  · obtain ⟨f1, f2, f3, f4⟩ := form_2 hf k
    have hrec : RdO (rec (wr (d + 1))) (some (encN t.ar.length ++ bL t.ar)) t.ar := fun e he => by
      obtain rfl := Option.some.inj he
      exact hr k
    refine hcong (catO (eNum 0 2 t.k) (catO (eText t.s) (some (encN t.ar.length ++ bL t.ar)))) t (by rw [eNum_in (by omega) (by omega), eText_in f2, bT_2 k]; rfl) (.bind (rd_num (by omega) (by omega)) (RdO.congr (.bind (rd_text t.s) (G := fun r_9 => bindX (rec (wr (d + (1 : Int))) r_9.2) fun r_10 => some (.inr ((T.mk t.k 0 r_9.1 r_10.1), r_10.2))) (RdO.last (f := rec (wr (d + 1))) (G := fun r_10 => some (.inr ((T.mk t.k 0 t.s r_10.1), r_10.2))) hrec fun c => ?_)) fun c => ?_))
    · have : T.mk t.k 0 t.s t.ar = t := by rw [← f1]; cases t; rfl
      simp only [this]
    · simp only [k]
      rfl
theorem bL_run {one : RR → Option (Int ⊕ (T × RR))} : ∀ (l out : List T), (∀ t ∈ l, Rdr one (bT t) t) → out.length + l.length ≤ 10000000 → Rdr (runT one 56 l.length out) (bL l) (out ++ l)
  | [], out, _, _ => by
    rw [List.append_nil]
    exact Rdr.pure
  | x :: l, out, h, hl => by
    have ih := bL_run (one := one) l (out ++ [x]) (fun y hy => h y (by simp [hy])) (by simp only [List.length_append, List.length_cons, List.length_nil] at hl ⊢; omega)
    rw [List.append_assoc, List.singleton_append] at ih
    refine Rdr.bind (h x (by simp)) (G := fun q => (appO 56 out [q.1]).bind fun l_ => runT one 56 l.length l_ q.2) (ih.congr fun c => ?_)
    have : appO 56 out [x] = some (out ++ [x]) := appO_eq (by simp only [List.length_cons, List.length_nil] at hl ⊢; omega) (by simp only [List.length_cons, List.length_nil] at hl ⊢; omega)
    show _ = (appO 56 out [x]).bind _
    rw [this]
    rfl
theorem rd_args : ∀ (fuel : Nat) (l : List T) (d : Int), formL l = true → l.length ≤ 6 → 0 ≤ d → d + depthL l ≤ 20 → depthL l < fuel → Rdr (lf_Psnapshot_reader_args_s1 fuel d) (encN l.length ++ bL l) l
  | 0, l, _, _, _, _, _, h => by omega
  | fuel + 1, l, d, hf, hl, hd0, hd, hfu => by
    have hel : ∀ t ∈ l, Rdr (lfo_Psnapshot_reader_args_1_s1 (lf_Psnapshot_reader_args_s1 fuel) d) (bT t) t := fun t ht => by
      have h1 := depthL_mem ht
      refine (rd_term1 t d hd0 (by omega) (formL_mem hf ht) fun k => ?_).congr fun c => (args_1 _ d c).symm
      have h2 := depth_2 k
      have h3 := form_2 (formL_mem hf ht) k
      rw [wr_eq (by omega)]
      exact rd_args fuel t.ar (d + 1) h3.2.2.2 h3.2.2.1 (by omega) (by omega) (by omega)
    have hrun := bL_run l [] hel (by simp only [List.length_nil]; omega)
    rw [List.nil_append] at hrun
    have hn := rd_num (lo := 0) (hi := 6) (n := (l.length : Int)) (by omega) (by omega) (encN l.length) (eNum_in (by omega) (by omega))
    refine (Rdr.bind hn (G := fun r => runT (lfo_Psnapshot_reader_args_1_s1 (lf_Psnapshot_reader_args_s1 fuel) d) 56 (r.1 - 0 : Int).toNat [] r.2) (hrun.congr fun c => ?_)).congr fun c => ?_
    · show _ = runT _ 56 ((l.length : Int) - 0).toNat [] c
      rw [Int.sub_zero, Int.toNat_natCast]
    · rw [lf_Psnapshot_reader_args_s1]
      unfold lfo_snapshot_take_s1
      simp only [loopT_s1, bindX_id]
theorem rdo {α : Type} {f : RR → Option (Int ⊕ (α × RR))} {e : List Int} {x : α} (h : Rdr f e x) : RdO f (some e) x := fun e' he => by
  obtain rfl := Option.some.inj he
  exact h
theorem rd_parts {fuel : Nat} (hfu : 21 ≤ fuel) {l : List T} (hl : l.length ≤ 6) (hr : rightL l = true) : RdO (lf_Psnapshot_reader_args_s1 fuel 0) (some (encN l.length ++ bL l)) l := by
  obtain ⟨h1, h2, h3⟩ := rightL_in hr
  exact rdo (rd_args fuel l 0 h1 hl (by omega) (by omega) (by omega))
theorem rd_atom {fuel : Nat} (hfu : 21 ≤ fuel) (a : At) : RdO (lf_Psnapshot_reader_atom_s1 fuel) (eAtom a) a := fun e he => by
  unfold eAtom at he
  split at he
  · rename_i hr
    obtain rfl := Option.some.inj he
    obtain ⟨r1, r2, r3⟩ := rightA_in hr
    unfold lf_Psnapshot_reader_atom_s1
    have h : RdO (fun c_0 => bindX (lf_Psnapshot_reader_text_s1 c_0) fun r_2 => bindX (lf_Psnapshot_reader_args_s1 fuel 0 r_2.2) fun r_3 => some (.inr ((⟨r_2.1, r_3.1⟩ : At), r_3.2))) (catO (eText a.n) (some (encN a.ts.length ++ bL a.ts))) a := by
      refine RdO.bind (rd_text a.n) ?_
      dsimp only
      exact RdO.last (rd_parts hfu r2 r3) fun c => rfl
    exact h _ (by rw [eText_in r1]; rfl)
  · cases he
theorem rd_goal {fuel : Nat} (hfu : 21 ≤ fuel) (g : Gl) : RdO (lf_Psnapshot_reader_goal_s1 fuel) (eGoal g) g := fun e he => by
  unfold eGoal at he
  split at he
  · rename_i hr
    obtain rfl := Option.some.inj he
    obtain ⟨r0, r0', r1, r2, r3⟩ := rightG_in hr
    unfold lf_Psnapshot_reader_goal_s1
    have h : RdO (fun c_0 => bindX (lf_Psnapshot_reader_number_s1 0 12 c_0) fun r_2 => bindX (lf_Psnapshot_reader_text_s1 r_2.2) fun r_3 => bindX (lf_Psnapshot_reader_args_s1 fuel 0 r_3.2) fun r_4 => some (.inr ((⟨r_2.1, r_3.1, r_4.1⟩ : Gl), r_4.2))) (catO (eNum 0 12 g.op) (catO (eText g.n) (some (encN g.ts.length ++ bL g.ts)))) g := by
      refine RdO.bind (rd_num (n := g.op) (by omega) (by omega)) ?_
      dsimp only
      refine RdO.bind (rd_text g.n) ?_
      dsimp only
      exact RdO.last (rd_parts hfu r2 r3) fun c => rfl
    exact h _ (by rw [eNum_in r0 r0', eText_in r1]; rfl)
  · cases he
theorem loopT_s4 (fuel : Nat) : ∀ (n : Nat) (out : List At) (c : RR), lf_snapshot_take_s4_L0 (fun o r => some (.inr (o, r))) fuel n out c = runT (lf_Psnapshot_reader_atom_s1 fuel) 40 n out c
  | 0, out, c => rfl
  | n + 1, out, c => by
    rw [lf_snapshot_take_s4_L0, runT]
    simp only [loopT_s4 fuel n]
theorem rd_take4 {fuel : Nat} (hfu : 21 ≤ fuel) (l : List At) {most : Int} (hm : most ≤ 10000000) : RdO (lf_snapshot_take_s4 fuel most) (eList most eAtom l) l := by
  refine (rd_take (one := lf_Psnapshot_reader_atom_s1 fuel) (sz := 40) (by omega) hm fun x _ => rd_atom hfu x).congr fun c => ?_
  unfold lf_snapshot_take_s4
  simp only [loopT_s4]
theorem loopT_s5 (fuel : Nat) : ∀ (n : Nat) (out : List Gl) (c : RR), lf_snapshot_take_s5_L0 (fun o r => some (.inr (o, r))) fuel n out c = runT (lf_Psnapshot_reader_goal_s1 fuel) 48 n out c
  | 0, out, c => rfl
  | n + 1, out, c => by
    rw [lf_snapshot_take_s5_L0, runT]
    simp only [loopT_s5 fuel n]
theorem rd_take5 {fuel : Nat} (hfu : 21 ≤ fuel) (l : List Gl) {most : Int} (hm : most ≤ 10000000) : RdO (lf_snapshot_take_s5 fuel most) (eList most eGoal l) l := by
  refine (rd_take (one := lf_Psnapshot_reader_goal_s1 fuel) (sz := 48) (by omega) hm fun x _ => rd_goal hfu x).congr fun c => ?_
  unfold lf_snapshot_take_s5
  simp only [loopT_s5]
theorem rd_decl (d : S_api_Decl) : RdO lf_snapshot_TakeProgram_1_1_s1 (eDecl d) d := by
  unfold lf_snapshot_TakeProgram_1_1_s1
  refine RdO.bind (rd_text d.f0_Name) ?_
  dsimp only
  exact RdO.last (rd_num (n := d.f1_Arity) (by omega) (by omega)) fun c => rfl
theorem rd_rule {fuel : Nat} (hfu : 21 ≤ fuel) (x : S_api_Rule) : RdO (lf_Psnapshot_reader_rule_s1 fuel) (eRule x) x := by
  unfold lf_Psnapshot_reader_rule_s1
  refine RdO.bind (rd_text x.f0_Name) ?_
  dsimp only
  refine RdO.bind (rd_take4 hfu x.f1_Keep (by omega)) ?_
  dsimp only
  refine RdO.bind (rd_take4 hfu x.f2_Remove (by omega)) ?_
  dsimp only
  refine RdO.bind (rd_take5 hfu x.f3_Guard (by omega)) ?_
  dsimp only
  refine RdO.bind (rd_take5 hfu x.f4_Body (by omega)) ?_
  dsimp only
  exact RdO.last (rd_num (n := x.f5_Vars) (by omega) (by omega)) fun c => rfl
theorem loopT_s2 : ∀ (n : Nat) (out : List S_api_Decl) (c : RR), lf_snapshot_take_s2_L0 (fun o r => some (.inr (o, r))) n out c = runT (lf_snapshot_TakeProgram_1_1_s1) 24 n out c
  | 0, out, c => rfl
  | n + 1, out, c => by
    rw [lf_snapshot_take_s2_L0, runT]
    simp only [loopT_s2 n]
theorem rd_take2 (l : List S_api_Decl) {most : Int} (hm : most ≤ 10000000) : RdO (lf_snapshot_take_s2 most) (eList most eDecl l) l := by
  refine (rd_take (one := lf_snapshot_TakeProgram_1_1_s1) (sz := 24) (by omega) hm fun x _ => rd_decl x).congr fun c => ?_
  unfold lf_snapshot_take_s2
  simp only [loopT_s2]
theorem loopT_s3 (fuel : Nat) : ∀ (n : Nat) (out : List S_api_Rule) (c : RR), lf_snapshot_take_s3_L0 (fun o r => some (.inr (o, r))) fuel n out c = runT (lf_Psnapshot_reader_rule_s1 fuel) 120 n out c
  | 0, out, c => rfl
  | n + 1, out, c => by
    rw [lf_snapshot_take_s3_L0, runT]
    simp only [loopT_s3 fuel n]
theorem rd_take3 {fuel : Nat} (hfu : 21 ≤ fuel) (l : List S_api_Rule) {most : Int} (hm : most ≤ 10000000) : RdO (lf_snapshot_take_s3 fuel most) (eList most eRule l) l := by
  refine (rd_take (one := lf_Psnapshot_reader_rule_s1 fuel) (sz := 120) (by omega) hm fun x _ => rd_rule hfu x).congr fun c => ?_
  unfold lf_snapshot_take_s3
  simp only [loopT_s3]
theorem rd_Program {fuel : Nat} (hfu : 21 ≤ fuel) (p : S_api_Program) : RdO (fun c => bindX (lf_Psnapshot_reader_number_s1 1 1 c) fun r => lf_snapshot_TakeProgram_1_s1 fuel r.2) (eProgram p) p := by
  refine RdO.bind (rd_num (n := 1) (by omega) (by omega)) (y := p) ?_
  dsimp only
  unfold lf_snapshot_TakeProgram_1_s1
  refine RdO.bind (rd_take2 p.f0_Decls (by omega)) ?_
  dsimp only
  exact RdO.last (rd_take3 hfu p.f1_Rules (by omega)) fun c => rfl
theorem catO_pos {lo hi n : Int} {s : Option (List Int)} {e : List Int} (h : catO (eNum lo hi n) s = some e) : e ≠ [] := by
  obtain ⟨a, b, h1, _, rfl⟩ := catO_some h
  unfold eNum at h1
  split at h1
  · rename_i hh
    obtain rfl := Option.some.inj h1
    intro h0
    have : encN n = [] := (List.append_eq_nil_iff.1 h0).1
    have h2 := congrArg List.length this
    unfold encN at h2
    rw [len_toY, List.length_take] at h2
    have := enc_pos (zig n)
    simp only [List.length_nil] at h2
    omega
  · cases h1
theorem whole_Program {fuel : Nat} (hfu : 21 ≤ fuel) {p : S_api_Program} {e : List Int} (he : eProgram p = some e) (hw : lf_snapshot_Program fuel p = some e) (hl : e.length ≤ 999999999) :
    lf_wholeR_Program fuel e 1 = some (p, 0) ∧ (∀ x, lf_wholeR_Program fuel (e ++ [x]) 1 = some (z_Program, 3)) ∧ ∀ t z, z ≠ [] → e = t ++ z → lf_wholeR_Program fuel t 1 = some (z_Program, 4) := by
  have hr := rd_Program hfu p e he
  have hne : e ≠ [] := catO_pos he
  have hpos : 0 < e.length := List.length_pos_iff.2 hne
  have key : ∀ b, lf_whole_Program fuel b 1 = bindX ((fun c => bindX (lf_Psnapshot_reader_number_s1 1 1 c) fun r => lf_snapshot_TakeProgram_1_s1 fuel r.2) ⟨b, 0⟩) fun r_5 => bif (decide (r_5.2.f1_at < (b.length : Int))) then some (.inl 3) else ((lf_snapshot_Program fuel r_5.1).bind fun r_8 => bif ((r_8.length : Int) == (0 : Int)) then some (.inl 2) else some (.inr (r_5.1, 0))) := fun b => by
    rw [bindX_assoc]
    rfl
  refine ⟨?_, fun x => ?_, fun t z hz ht => ?_⟩
  · have h := hr.1 [] [] (by simpa using (by omega : e.length ≤ 1000000000))
    simp only [List.nil_append, List.append_nil, List.length_nil] at h
    rw [lf_wholeR_Program, key]
    dsimp only
    rw [show ((0 : Nat) : Int) = 0 from rfl] at h
    rw [h, bindX_ok]
    have h1 : decide ((e.length : Int) < (e.length : Int)) = false := decide_eq_false (by omega)
    have h2 : ((e.length : Int) == 0) = false := by
      rw [beq_eq_false_iff_ne]
      omega
    simp only [h1, cond_false, hw, Option.bind_some, h2]
    rfl
  · have h := hr.1 [] [x] (by simp only [List.nil_append, List.length_append, List.length_singleton]; omega)
    simp only [List.nil_append, List.length_nil] at h
    rw [lf_wholeR_Program, key]
    dsimp only
    rw [show ((0 : Nat) : Int) = 0 from rfl] at h
    rw [h, bindX_ok]
    have h1 : decide ((e.length : Int) < ((e ++ [x]).length : Int)) = true := decide_eq_true (by simp only [List.length_append, List.length_singleton]; omega)
    simp only [h1, cond_true]
    rfl
  · have h := hr.2 [] t z (by
      have := congrArg List.length ht
      rw [List.length_append] at this
      simp only [List.nil_append]
      omega) hz ht
    simp only [List.nil_append, List.length_nil] at h
    rw [lf_wholeR_Program, key]
    dsimp only
    rw [show ((0 : Nat) : Int) = 0 from rfl] at h
    rw [h]
    rfl
theorem whole0_Program (fuel : Nat) : lf_wholeR_Program fuel [] 1 = some (z_Program, 4) := by
  have hx : x_cInt [] 0 1 1 = some (0, 0, 4) := by
    rw [x_cInt, if_pos (by simp)]
    rfl
  have h : lf_Psnapshot_reader_number_s1 1 1 ⟨[], 0⟩ = some (.inl 4) := by
    unfold lf_Psnapshot_reader_number_s1
    simp only [hx, Option.bind_some]
    rfl
  unfold lf_wholeR_Program lf_whole_Program
  rw [h]
  rfl
end Go.Proofs.YtdoljfkjdfaakaaGreat


namespace Go.Proofs.YtdoljfkjdfaakaaGreat
set_option maxRecDepth 100000
open Go.RowKit

/-- The string of bytes. -/
def strY (l : List Int) : ByteArray := ⟨(ofY l).toArray⟩
theorem s_toStr {P : Program} {o : Oper} {ρ : Operand → Option D} {x : Operand} {src dst e : TypeId} {dx : D} (l : List Int) (ho : o.op = .convert src dst x) (hs : P.underlying src = some (.slice e)) (he : P.underlying e = some (.int .u8)) (hd : P.underlying dst = some .string) (hx : ρ x = some dx) (hl : AsL dx (l.map (D.int .u8))) : StepD P o ρ (.str (strY l)) := stepD_of fun p a w h => by
  obtain ⟨A, c, xs, h1, h2, h3, h4, h5, _⟩ := hl.rep (h x (by rw [ho]; simp [Op.operands]) _ hx)
  rw [List.length_map] at h1 h2
  obtain ⟨_, rfl⟩ := repsY h5
  have hr : Rd w A ((ofY l).map bv) := by
    rcases h4 with h4 | ⟨b, o, rfl, h4⟩
    · exact .inl h4
    · exact .inr ⟨⟨b, o, none⟩, rfl, fun j u hu => by rw [addF]; exact (h4 j u hu).2⟩
  refine ⟨.string (strY l), ?_, ?_⟩
  · unfold execOp
    rw [ho]
    simp only [h1, Sem.run_bind, run_toStr w src dst e hs he hd A l.length c (ofY l) hr (len_ofY l), Result.andThen_ok, Sem.run_pure]
    rfl
  · simp only [Rep]
    refine ⟨trivial, ?_⟩
    have : (strY l).size = l.length := by
      show (ofY l).toArray.size = _
      rw [List.size_toArray, len_ofY]
    omega
end Go.Proofs.YtdoljfkjdfaakaaGreat


namespace Go.Proofs.YtdoljfkjdfaakaaGreat
set_option maxRecDepth 100000
open Go.RowKit

instance : DecidableEq S_api_Decl := fun a b => decidable_of_iff (a.f0_Name = b.f0_Name ∧ a.f1_Arity = b.f1_Arity) ⟨fun h => by cases a; cases b; simp at h; simp [h], fun h => by rw [h]; simp⟩
theorem wt_api_Decl : WideT Tryz.prog 29 enc_S_api_Decl (fun a => .agg #[.string a.f0_Name, .int .i64 a.f1_Arity]) := .mk' (fun a => [.str a.f0_Name, .int .i64 a.f1_Arity]) (by kernel_rfl) Tryz.underlying29 (by kernel_rfl) (by kernel_rfl) (by kernel_rfl) (by kernel_rfl) (by kernel_rfl) (fun _ => rfl) (fun _ => rfl) (fun _ => rfl) (fun a b h => by cases a; cases b; simp at h; simp [h])

noncomputable def lf_constraintref03_GreatAtoms_L0 (k : (Int) → Option (Bool)) : List At → Int → Option (Bool)
  | [], most_1 =>
  (k most_1)
  | q_4 :: rest, most_1 =>
  (bif (decide (most_1 ≥ (0 : Int))) then
  ((x_weigh q_4.ts (wr ((wr (most_1 - (1 : Int))) - (wr (Int.tdiv (q_4.n.size : Int) 8)))) 64).bind fun r_6 =>
  (lf_constraintref03_GreatAtoms_L0 k rest r_6))
  else
  (k most_1))
noncomputable def lf_constraintref03_GreatAtoms (l_a0 : (List At)) (most_a1 : Int) : Option (Bool) :=
  (lf_constraintref03_GreatAtoms_L0 (fun most_3 =>
  some ((decide (most_3 < (0 : Int))))) l_a0 most_a1)

set_option maxHeartbeats 1000000 in
theorem lg_constraintref03_GreatAtoms (l_a0 : (List At)) (most_a1 : Int) (res : Bool) (hr : lf_constraintref03_GreatAtoms l_a0 most_a1 = some res) : Gives Tryz.prog 32 [.lst (l_a0.map encA), .int .i64 most_a1] (.bool res) := by
  unfold lf_constraintref03_GreatAtoms at hr
  refine spec_env [(0, .lst (l_a0.map encA)), (1, .int .i64 most_a1)] Tryz.func32 rfl rfl fun K hK => ?_
  refine g_seq ?_
  refine g_run (by kernel_rfl) [(0, .d)] rfl ?_
  refine r_d rfl rfl rfl (s_assign rfl rfl) ?_
  refine r_end ?_
  refine g_seq ?_
  refine g_seq ?_
  refine g_run (by kernel_rfl) [(0, .d)] rfl ?_
  refine r_d rfl rfl rfl (s_assign rfl rfl) ?_
  refine r_end ?_
  obtain ⟨kk0, hkk0, hr⟩ := exK (fun k => lf_constraintref03_GreatAtoms_L0 k l_a0 most_a1) hr
  refine g_len 0 rfl (asl rfl) fun hla0 => ?_
  simp only [List.length_map] at hla0
  refine g_blockJ (fun env σ => ∃ (most_3 : Int), env = [(1, .int .i64 most_3)] ∧ σ = [] ∧ kk0 most_3 = some res) ?_ (fun HK0 => ?_)
  ·
   rintro _ _ ⟨most_3, rfl, rfl, hr⟩
   rw [hkk0] at hr
   refine g_seq ?_
   refine g_run (by kernel_rfl) [(0, .d), (1, .d), (2, .d)] rfl ?_
   refine r_d rfl rfl rfl (s_move rfl rfl) ?_
   refine r_d rfl rfl rfl (s_cmp rfl rfl rfl rfl) ?_
   refine r_d rfl rfl rfl (s_assign rfl rfl) ?_
   refine r_end ?_
   obtain rfl := Option.some.inj hr
   refine g_ret Tryz.func32 _ (.cons (resTmp rfl (Wk.refl _)) .nil) ?_
   rfl
  ·
   refine g_sub [(0, .lst (l_a0.map encA)), (1, .int .i64 most_a1), (5, .int .i64 ((0 : Nat) : Int))] (Sub.cons' rfl (Sub.cons' rfl (Sub.cons' rfl (Sub.nil _)))) ?_
   refine g_loop (fun n env σ => ∃ (most_1 : Int) (i_2 : Nat), (n = l_a0.length - i_2) ∧ (env = [(0, .lst (l_a0.map encA)), (1, .int .i64 most_1), (5, .int .i64 (i_2 : Int))]) ∧ (σ = []) ∧ (i_2 ≤ l_a0.length) ∧ (lf_constraintref03_GreatAtoms_L0 kk0 (l_a0.drop i_2) most_1 = some res)) _ ⟨most_a1, 0, rfl, rfl, rfl, Nat.zero_le _, hr⟩ ?_
   rintro n _ _ ⟨most_1, i_2, rfl, rfl, rfl, hi0, hr⟩ IH0
   rcases listStep l_a0 i_2 hi0 with ⟨ht0, hd0, he0⟩ | ⟨q_4, ht0, hd0, hq0, hlt0⟩
   ·
    rw [hd0, lf_constraintref03_GreatAtoms_L0] at hr
    refine g_seq ?_
    refine g_seq ?_
    refine g_run (by kernel_rfl) [(0, .d), (1, .d), (2, .d), (3, .d), (4, .d), (5, .d), (6, .d), (7, .d)] rfl ?_
    refine r_d rfl rfl rfl (s_move rfl rfl) ?_
    refine r_d rfl rfl rfl (s_move rfl rfl) ?_
    refine r_d rfl rfl rfl (m_len (f := encA) l_a0 rfl el_L_api_Atom rfl (asl rfl)) ?_
    refine r_d rfl rfl rfl (s_cmp rfl rfl rfl rfl) ?_
    refine r_d rfl rfl rfl (s_move rfl rfl) ?_
    refine r_known 10 false rfl ht0 ?_
    refine r_skip rfl rfl rfl ?_
    refine r_skip rfl rfl rfl ?_
    refine r_d rfl rfl rfl (s_pickF rfl rfl rfl) ?_
    refine r_end ?_
    refine g_condF rfl ?_
    refine g_exit rfl ?_
    refine g_sub [(1, .int .i64 most_1)] (Sub.cons' rfl (Sub.nil _)) ?_
    exact HK0 _ _ ⟨most_1, rfl, rfl, hr⟩
   ·
    rw [hd0, lf_constraintref03_GreatAtoms_L0] at hr
    refine g_seq ?_
    refine g_seq ?_
    refine g_run (by kernel_rfl) [(0, .d), (1, .d), (2, .d), (3, .d), (4, .d), (5, .d), (6, .d), (7, .d)] rfl ?_
    refine r_d rfl rfl rfl (s_move rfl rfl) ?_
    refine r_d rfl rfl rfl (s_move rfl rfl) ?_
    refine r_d rfl rfl rfl (m_len (f := encA) l_a0 rfl el_L_api_Atom rfl (asl rfl)) ?_
    refine r_d rfl rfl rfl (s_cmp rfl rfl rfl rfl) ?_
    refine r_d rfl rfl rfl (s_move rfl rfl) ?_
    refine r_known 10 true rfl ht0 ?_
    refine r_d rfl rfl rfl (s_move rfl rfl) ?_
    refine r_d rfl rfl rfl (s_cmp rfl rfl rfl rfl) ?_
    refine r_d rfl rfl rfl (s_pickT rfl rfl rfl) ?_
    refine r_end ?_
    refine g_sB 13 rfl hr (fun h13_4 hr => ?_) (fun h13_4 hr => ?_)
    ·
     refine g_condT rfl ?_
     refine g_skip ?_
     refine g_seq ?_
     refine g_block ?_
     refine g_any (by kernel_rfl) (by kernel_rfl) [(0, .d), (1, .d), (2, .d), (3, .d), (4, .d), (5, .d), (6, .d), (7, .d), (8, .d), (9, .d), (10, .d), (11, .d), (12, .d), (13, .d), (14, .d), (15, .d), (16, .d)] (by kernel_rfl) ?_
     refine r_d rfl rfl rfl (s_move rfl rfl) ?_
     refine r_d rfl rfl rfl (s_move rfl rfl) ?_
     refine r_d rfl rfl rfl (m_index (f := encA) l_a0 rfl el_L_api_Atom rfl (asl rfl) rfl hq0 sz_encA rfl) ?_
     refine r_d rfl rfl rfl (s_fieldAddr rfl fl_api_Atom_1 rfl rfl rfl rfl) ?_
     refine r_d rfl rfl rfl (s_load rfl rfl (by exact ty_L_api_Term) rfl) ?_
     refine r_d rfl rfl rfl (s_move rfl rfl) ?_
     refine r_d rfl rfl rfl (s_arW rfl rfl rfl rfl) ?_
     refine r_d rfl rfl rfl (s_move rfl rfl) ?_
     refine r_d rfl rfl rfl (s_move rfl rfl) ?_
     refine r_d rfl rfl rfl (m_index (f := encA) l_a0 rfl el_L_api_Atom rfl (asl rfl) rfl hq0 sz_encA rfl) ?_
     refine r_d rfl rfl rfl (s_fieldAddr rfl fl_api_Atom_0 rfl rfl rfl rfl) ?_
     refine r_d rfl rfl rfl (s_load rfl rfl (by exact ty_string) rfl) ?_
     refine r_d rfl rfl rfl (s_lenS rfl Tryz.underlying9 rfl) ?_
     refine r_d rfl rfl rfl (s_quoC rfl rfl rfl (by decide)) ?_
     refine r_d rfl rfl rfl (s_arW rfl rfl rfl rfl) ?_
     obtain ⟨r_6, hr_6, hr⟩ := bindS hr
     refine r_d rfl rfl rfl (s_callD rfl cl_constraintref03_weigh (.cons rfl (Wk.refl _) (.cons rfl (Wk.refl _) (.cons rfl (Wk.refl _) .nil))) (lx_constraintref03_weigh _ _ _ _ hr_6)) ?_
     refine r_d rfl rfl rfl (s_assign rfl rfl) ?_
     refine r_end ?_
     refine g_inBlock ?_
     refine g_run (by kernel_rfl) [(0, .d), (1, .d), (2, .d)] rfl ?_
     refine r_d rfl rfl rfl (s_move rfl rfl) ?_
     refine r_d rfl rfl rfl (s_ar (r := ((i_2 + 1 : Nat) : Int)) rfl rfl rfl (by simp [iar]) (by omega)) ?_
     refine r_d rfl rfl rfl (s_assign rfl rfl) ?_
     refine r_end ?_
     refine g_sub [(0, .lst (l_a0.map encA)), (1, .int .i64 r_6), (5, .int .i64 ((i_2 + 1 : Nat) : Int))] (Sub.cons' rfl (Sub.cons' rfl (Sub.cons' rfl (Sub.nil _)))) ?_
     exact IH0 _ _ _ (by omega) ⟨r_6, (i_2 + 1), rfl, rfl, rfl, (by omega), hr⟩
    ·
     refine g_condF rfl ?_
     refine g_exit rfl ?_
     refine g_sub [(1, .int .i64 most_1)] (Sub.cons' rfl (Sub.nil _)) ?_
     exact HK0 _ _ ⟨most_1, rfl, rfl, hr⟩

noncomputable def lf_constraintref03_GreatGoals_L0 (k : (Int) → Option (Bool)) : List Gl → Int → Option (Bool)
  | [], most_1 =>
  (k most_1)
  | q_4 :: rest, most_1 =>
  (bif (decide (most_1 ≥ (0 : Int))) then
  ((x_weigh q_4.ts (wr ((wr (most_1 - (1 : Int))) - (wr (Int.tdiv (q_4.n.size : Int) 8)))) 64).bind fun r_6 =>
  (lf_constraintref03_GreatGoals_L0 k rest r_6))
  else
  (k most_1))
noncomputable def lf_constraintref03_GreatGoals (l_a0 : (List Gl)) (most_a1 : Int) : Option (Bool) :=
  (lf_constraintref03_GreatGoals_L0 (fun most_3 =>
  some ((decide (most_3 < (0 : Int))))) l_a0 most_a1)

set_option maxHeartbeats 1000000 in
theorem lg_constraintref03_GreatGoals (l_a0 : (List Gl)) (most_a1 : Int) (res : Bool) (hr : lf_constraintref03_GreatGoals l_a0 most_a1 = some res) : Gives Tryz.prog 33 [.lst (l_a0.map encG), .int .i64 most_a1] (.bool res) := by
  unfold lf_constraintref03_GreatGoals at hr
  refine spec_env [(0, .lst (l_a0.map encG)), (1, .int .i64 most_a1)] Tryz.func33 rfl rfl fun K hK => ?_
  refine g_seq ?_
  refine g_run (by kernel_rfl) [(0, .d)] rfl ?_
  refine r_d rfl rfl rfl (s_assign rfl rfl) ?_
  refine r_end ?_
  refine g_seq ?_
  refine g_seq ?_
  refine g_run (by kernel_rfl) [(0, .d)] rfl ?_
  refine r_d rfl rfl rfl (s_assign rfl rfl) ?_
  refine r_end ?_
  obtain ⟨kk0, hkk0, hr⟩ := exK (fun k => lf_constraintref03_GreatGoals_L0 k l_a0 most_a1) hr
  refine g_len 0 rfl (asl rfl) fun hla0 => ?_
  simp only [List.length_map] at hla0
  refine g_blockJ (fun env σ => ∃ (most_3 : Int), env = [(1, .int .i64 most_3)] ∧ σ = [] ∧ kk0 most_3 = some res) ?_ (fun HK0 => ?_)
  ·
   rintro _ _ ⟨most_3, rfl, rfl, hr⟩
   rw [hkk0] at hr
   refine g_seq ?_
   refine g_run (by kernel_rfl) [(0, .d), (1, .d), (2, .d)] rfl ?_
   refine r_d rfl rfl rfl (s_move rfl rfl) ?_
   refine r_d rfl rfl rfl (s_cmp rfl rfl rfl rfl) ?_
   refine r_d rfl rfl rfl (s_assign rfl rfl) ?_
   refine r_end ?_
   obtain rfl := Option.some.inj hr
   refine g_ret Tryz.func33 _ (.cons (resTmp rfl (Wk.refl _)) .nil) ?_
   rfl
  ·
   refine g_sub [(0, .lst (l_a0.map encG)), (1, .int .i64 most_a1), (5, .int .i64 ((0 : Nat) : Int))] (Sub.cons' rfl (Sub.cons' rfl (Sub.cons' rfl (Sub.nil _)))) ?_
   refine g_loop (fun n env σ => ∃ (most_1 : Int) (i_2 : Nat), (n = l_a0.length - i_2) ∧ (env = [(0, .lst (l_a0.map encG)), (1, .int .i64 most_1), (5, .int .i64 (i_2 : Int))]) ∧ (σ = []) ∧ (i_2 ≤ l_a0.length) ∧ (lf_constraintref03_GreatGoals_L0 kk0 (l_a0.drop i_2) most_1 = some res)) _ ⟨most_a1, 0, rfl, rfl, rfl, Nat.zero_le _, hr⟩ ?_
   rintro n _ _ ⟨most_1, i_2, rfl, rfl, rfl, hi0, hr⟩ IH0
   rcases listStep l_a0 i_2 hi0 with ⟨ht0, hd0, he0⟩ | ⟨q_4, ht0, hd0, hq0, hlt0⟩
   ·
    rw [hd0, lf_constraintref03_GreatGoals_L0] at hr
    refine g_seq ?_
    refine g_seq ?_
    refine g_run (by kernel_rfl) [(0, .d), (1, .d), (2, .d), (3, .d), (4, .d), (5, .d), (6, .d), (7, .d)] rfl ?_
    refine r_d rfl rfl rfl (s_move rfl rfl) ?_
    refine r_d rfl rfl rfl (s_move rfl rfl) ?_
    refine r_d rfl rfl rfl (m_len (f := encG) l_a0 rfl el_L_api_Goal rfl (asl rfl)) ?_
    refine r_d rfl rfl rfl (s_cmp rfl rfl rfl rfl) ?_
    refine r_d rfl rfl rfl (s_move rfl rfl) ?_
    refine r_known 10 false rfl ht0 ?_
    refine r_skip rfl rfl rfl ?_
    refine r_skip rfl rfl rfl ?_
    refine r_d rfl rfl rfl (s_pickF rfl rfl rfl) ?_
    refine r_end ?_
    refine g_condF rfl ?_
    refine g_exit rfl ?_
    refine g_sub [(1, .int .i64 most_1)] (Sub.cons' rfl (Sub.nil _)) ?_
    exact HK0 _ _ ⟨most_1, rfl, rfl, hr⟩
   ·
    rw [hd0, lf_constraintref03_GreatGoals_L0] at hr
    refine g_seq ?_
    refine g_seq ?_
    refine g_run (by kernel_rfl) [(0, .d), (1, .d), (2, .d), (3, .d), (4, .d), (5, .d), (6, .d), (7, .d)] rfl ?_
    refine r_d rfl rfl rfl (s_move rfl rfl) ?_
    refine r_d rfl rfl rfl (s_move rfl rfl) ?_
    refine r_d rfl rfl rfl (m_len (f := encG) l_a0 rfl el_L_api_Goal rfl (asl rfl)) ?_
    refine r_d rfl rfl rfl (s_cmp rfl rfl rfl rfl) ?_
    refine r_d rfl rfl rfl (s_move rfl rfl) ?_
    refine r_known 10 true rfl ht0 ?_
    refine r_d rfl rfl rfl (s_move rfl rfl) ?_
    refine r_d rfl rfl rfl (s_cmp rfl rfl rfl rfl) ?_
    refine r_d rfl rfl rfl (s_pickT rfl rfl rfl) ?_
    refine r_end ?_
    refine g_sB 13 rfl hr (fun h13_4 hr => ?_) (fun h13_4 hr => ?_)
    ·
     refine g_condT rfl ?_
     refine g_skip ?_
     refine g_seq ?_
     refine g_block ?_
     refine g_any (by kernel_rfl) (by kernel_rfl) [(0, .d), (1, .d), (2, .d), (3, .d), (4, .d), (5, .d), (6, .d), (7, .d), (8, .d), (9, .d), (10, .d), (11, .d), (12, .d), (13, .d), (14, .d), (15, .d), (16, .d)] (by kernel_rfl) ?_
     refine r_d rfl rfl rfl (s_move rfl rfl) ?_
     refine r_d rfl rfl rfl (s_move rfl rfl) ?_
     refine r_d rfl rfl rfl (m_index (f := encG) l_a0 rfl el_L_api_Goal rfl (asl rfl) rfl hq0 sz_encG rfl) ?_
     refine r_d rfl rfl rfl (s_fieldAddr rfl fl_api_Goal_2 rfl rfl rfl rfl) ?_
     refine r_d rfl rfl rfl (s_load rfl rfl (by exact ty_L_api_Term) rfl) ?_
     refine r_d rfl rfl rfl (s_move rfl rfl) ?_
     refine r_d rfl rfl rfl (s_arW rfl rfl rfl rfl) ?_
     refine r_d rfl rfl rfl (s_move rfl rfl) ?_
     refine r_d rfl rfl rfl (s_move rfl rfl) ?_
     refine r_d rfl rfl rfl (m_index (f := encG) l_a0 rfl el_L_api_Goal rfl (asl rfl) rfl hq0 sz_encG rfl) ?_
     refine r_d rfl rfl rfl (s_fieldAddr rfl fl_api_Goal_1 rfl rfl rfl rfl) ?_
     refine r_d rfl rfl rfl (s_load rfl rfl (by exact ty_string) rfl) ?_
     refine r_d rfl rfl rfl (s_lenS rfl Tryz.underlying9 rfl) ?_
     refine r_d rfl rfl rfl (s_quoC rfl rfl rfl (by decide)) ?_
     refine r_d rfl rfl rfl (s_arW rfl rfl rfl rfl) ?_
     obtain ⟨r_6, hr_6, hr⟩ := bindS hr
     refine r_d rfl rfl rfl (s_callD rfl cl_constraintref03_weigh (.cons rfl (Wk.refl _) (.cons rfl (Wk.refl _) (.cons rfl (Wk.refl _) .nil))) (lx_constraintref03_weigh _ _ _ _ hr_6)) ?_
     refine r_d rfl rfl rfl (s_assign rfl rfl) ?_
     refine r_end ?_
     refine g_inBlock ?_
     refine g_run (by kernel_rfl) [(0, .d), (1, .d), (2, .d)] rfl ?_
     refine r_d rfl rfl rfl (s_move rfl rfl) ?_
     refine r_d rfl rfl rfl (s_ar (r := ((i_2 + 1 : Nat) : Int)) rfl rfl rfl (by simp [iar]) (by omega)) ?_
     refine r_d rfl rfl rfl (s_assign rfl rfl) ?_
     refine r_end ?_
     refine g_sub [(0, .lst (l_a0.map encG)), (1, .int .i64 r_6), (5, .int .i64 ((i_2 + 1 : Nat) : Int))] (Sub.cons' rfl (Sub.cons' rfl (Sub.cons' rfl (Sub.nil _)))) ?_
     exact IH0 _ _ _ (by omega) ⟨r_6, (i_2 + 1), rfl, rfl, rfl, (by omega), hr⟩
    ·
     refine g_condF rfl ?_
     refine g_exit rfl ?_
     refine g_sub [(1, .int .i64 most_1)] (Sub.cons' rfl (Sub.nil _)) ?_
     exact HK0 _ _ ⟨most_1, rfl, rfl, hr⟩

noncomputable def lf_constraintref03_GreatRules_L0 (k : Option (Bool)) (l_a0 : (List S_api_Rule)) (most_a1 : Int) : List S_api_Rule → Option (Bool)
  | [] =>
  k
  | q_2 :: rest =>
  (bif (decide ((l_a0.length : Int) > most_a1)) then
  some (true)
  else
  (bif (decide ((wr ((wr ((wr (Int.tdiv (q_2.f0_Name.size : Int) 8)) + (q_2.f1_Keep.length : Int))) + (q_2.f2_Remove.length : Int))) > most_a1)) then
  some (true)
  else
  ((lf_constraintref03_GreatAtoms q_2.f1_Keep most_a1).bind fun r_6 =>
  (bif r_6 then
  some (true)
  else
  ((lf_constraintref03_GreatAtoms q_2.f2_Remove most_a1).bind fun r_8 =>
  (bif r_8 then
  some (true)
  else
  ((lf_constraintref03_GreatGoals q_2.f3_Guard most_a1).bind fun r_10 =>
  (bif r_10 then
  some (true)
  else
  ((lf_constraintref03_GreatGoals q_2.f4_Body most_a1).bind fun r_12 =>
  (bif r_12 then
  some (true)
  else
  (lf_constraintref03_GreatRules_L0 k l_a0 most_a1 rest)))))))))))
noncomputable def lf_constraintref03_GreatRules (l_a0 : (List S_api_Rule)) (most_a1 : Int) : Option (Bool) :=
  (lf_constraintref03_GreatRules_L0 (some (false)) l_a0 most_a1 l_a0)

set_option maxHeartbeats 1000000 in
theorem lg_constraintref03_GreatRules (l_a0 : (List S_api_Rule)) (most_a1 : Int) (res : Bool) (hr : lf_constraintref03_GreatRules l_a0 most_a1 = some res) : Gives Tryz.prog 9 [.lst (l_a0.map enc_S_api_Rule), .int .i64 most_a1] (.bool res) := by
  unfold lf_constraintref03_GreatRules at hr
  refine spec_env [(0, .lst (l_a0.map enc_S_api_Rule)), (1, .int .i64 most_a1)] Tryz.func9 rfl rfl fun K hK => ?_
  refine g_seq ?_
  refine g_run (by kernel_rfl) [(0, .d)] rfl ?_
  refine r_d rfl rfl rfl (s_assign rfl rfl) ?_
  refine r_end ?_
  refine g_seq ?_
  refine g_seq ?_
  refine g_run (by kernel_rfl) [(0, .d)] rfl ?_
  refine r_d rfl rfl rfl (s_assign rfl rfl) ?_
  refine r_end ?_
  obtain ⟨kk0, hkk0, hr⟩ := exK (fun k => lf_constraintref03_GreatRules_L0 k l_a0 most_a1 l_a0) hr
  refine g_len 0 rfl (asl rfl) fun hla0 => ?_
  simp only [List.length_map] at hla0
  refine g_blockJ (fun env σ => env = [] ∧ σ = [] ∧ kk0 = some res) ?_ (fun HK0 => ?_)
  ·
   rintro _ _ ⟨rfl, rfl, hr⟩
   rw [hkk0] at hr
   refine g_seq ?_
   refine g_run (by kernel_rfl) [(0, .d)] rfl ?_
   refine r_d rfl rfl rfl (s_assign rfl rfl) ?_
   refine r_end ?_
   obtain rfl := Option.some.inj hr
   refine g_ret Tryz.func9 _ (.cons (resTmp rfl (Wk.refl _)) .nil) ?_
   rfl
  ·
   refine g_sub [(0, .lst (l_a0.map enc_S_api_Rule)), (1, .int .i64 most_a1), (5, .int .i64 ((0 : Nat) : Int))] (Sub.cons' rfl (Sub.cons' rfl (Sub.cons' rfl (Sub.nil _)))) ?_
   refine g_loop (fun n env σ => ∃ (i_1 : Nat), (n = l_a0.length - i_1) ∧ (env = [(0, .lst (l_a0.map enc_S_api_Rule)), (1, .int .i64 most_a1), (5, .int .i64 (i_1 : Int))]) ∧ (σ = []) ∧ (i_1 ≤ l_a0.length) ∧ (lf_constraintref03_GreatRules_L0 kk0 l_a0 most_a1 (l_a0.drop i_1) = some res)) _ ⟨0, rfl, rfl, rfl, Nat.zero_le _, hr⟩ ?_
   rintro n _ _ ⟨i_1, rfl, rfl, rfl, hi0, hr⟩ IH0
   rcases listStep l_a0 i_1 hi0 with ⟨ht0, hd0, he0⟩ | ⟨q_2, ht0, hd0, hq0, hlt0⟩
   ·
    rw [hd0, lf_constraintref03_GreatRules_L0] at hr
    refine g_seq ?_
    refine g_seq ?_
    refine g_run (by kernel_rfl) [(0, .d), (1, .d), (2, .d), (3, .d)] rfl ?_
    refine r_d rfl rfl rfl (s_move rfl rfl) ?_
    refine r_d rfl rfl rfl (s_move rfl rfl) ?_
    refine r_d rfl rfl rfl (m_len (f := enc_S_api_Rule) l_a0 rfl el_L_api_Rule rfl (asl rfl)) ?_
    refine r_d rfl rfl rfl (s_cmp rfl rfl rfl rfl) ?_
    refine r_end ?_
    refine g_known 10 false rfl ht0 ?_
    refine g_condF rfl ?_
    refine g_exit rfl ?_
    refine g_sub [] (Sub.nil _) ?_
    exact HK0 _ _ ⟨rfl, rfl, hr⟩
   ·
    rw [hd0, lf_constraintref03_GreatRules_L0] at hr
    refine g_seq ?_
    refine g_seq ?_
    refine g_run (by kernel_rfl) [(0, .d), (1, .d), (2, .d), (3, .d)] rfl ?_
    refine r_d rfl rfl rfl (s_move rfl rfl) ?_
    refine r_d rfl rfl rfl (s_move rfl rfl) ?_
    refine r_d rfl rfl rfl (m_len (f := enc_S_api_Rule) l_a0 rfl el_L_api_Rule rfl (asl rfl)) ?_
    refine r_d rfl rfl rfl (s_cmp rfl rfl rfl rfl) ?_
    refine r_end ?_
    refine g_known 10 true rfl ht0 ?_
    refine g_condT rfl ?_
    refine g_skip ?_
    refine g_seq ?_
    refine g_block ?_
    refine g_seq ?_
    refine g_run (by kernel_rfl) [(0, .d), (1, .d), (2, .d), (3, .d), (4, .w), (5, .w)] rfl ?_
    refine r_d rfl rfl rfl (s_move rfl rfl) ?_
    refine r_d rfl rfl rfl (s_move rfl rfl) ?_
    refine r_d rfl rfl rfl (m_index (f := enc_S_api_Rule) l_a0 rfl el_L_api_Rule rfl (asl rfl) rfl hq0 sz_S_api_Rule rfl) ?_
    refine r_d rfl rfl rfl (s_load rfl rfl (by exact ty_api_Rule) (sz_S_api_Rule _)) ?_
    refine r_w rfl rfl rfl (s_alloc rfl zv_api_Rule) ?_
    rintro _ _ ⟨b6_2, rfl, rfl⟩
    refine r_w01 rfl rfl rfl (t_store0 _ rfl rfl rfl (Wk.refl _) (pf0 _) (by exact ty_api_Rule) (sz_S_api_Rule _) rfl rfl) ?_
    refine r_end ?_
    refine g_freeze 6 b6_2 rfl (pf0 _) ?_
    refine g_seq ?_
    refine g_run (by kernel_rfl) [(0, .d), (1, .d), (2, .d), (3, .d), (4, .d), (5, .d), (6, .d), (7, .d), (8, .d), (9, .d), (10, .d), (11, .d), (12, .d), (13, .d), (14, .d), (15, .d), (16, .d), (17, .d), (18, .d), (19, .d), (20, .d), (21, .d), (22, .d), (23, .d), (24, .d), (25, .d), (26, .d), (27, .d), (28, .d), (29, .d), (30, .d), (31, .d), (32, .d), (33, .d), (34, .d), (35, .d), (36, .d), (37, .d), (38, .d), (39, .d), (40, .d), (41, .d), (42, .d), (43, .d)] rfl ?_
    refine r_d rfl rfl rfl (s_move rfl rfl) ?_
    refine r_d rfl rfl rfl (m_len (f := enc_S_api_Rule) l_a0 rfl el_L_api_Rule rfl (asl rfl)) ?_
    refine r_d rfl rfl rfl (s_move rfl rfl) ?_
    refine r_d rfl rfl rfl (s_cmp rfl rfl rfl rfl) ?_
    refine r_d rfl rfl rfl (s_move rfl rfl) ?_
    refine r_sB 21 rfl hr (fun h21_3 hr => ?_) (fun h21_3 hr => ?_)
    ·
     refine r_skip rfl rfl rfl ?_
     refine r_skip rfl rfl rfl ?_
     refine r_skip rfl rfl rfl ?_
     refine r_skip rfl rfl rfl ?_
     refine r_skip rfl rfl rfl ?_
     refine r_skip rfl rfl rfl ?_
     refine r_skip rfl rfl rfl ?_
     refine r_skip rfl rfl rfl ?_
     refine r_skip rfl rfl rfl ?_
     refine r_skip rfl rfl rfl ?_
     refine r_skip rfl rfl rfl ?_
     refine r_skip rfl rfl rfl ?_
     refine r_skip rfl rfl rfl ?_
     refine r_skip rfl rfl rfl ?_
     refine r_d rfl rfl rfl (s_pickT rfl rfl rfl) ?_
     refine r_d rfl rfl rfl (s_move rfl rfl) ?_
     refine r_skip rfl rfl rfl ?_
     refine r_skip rfl rfl rfl ?_
     refine r_skip rfl rfl rfl ?_
     refine r_skip rfl rfl rfl ?_
     refine r_d rfl rfl rfl (s_pickT rfl rfl rfl) ?_
     refine r_d rfl rfl rfl (s_move rfl rfl) ?_
     refine r_skip rfl rfl rfl ?_
     refine r_skip rfl rfl rfl ?_
     refine r_skip rfl rfl rfl ?_
     refine r_skip rfl rfl rfl ?_
     refine r_d rfl rfl rfl (s_pickT rfl rfl rfl) ?_
     refine r_d rfl rfl rfl (s_move rfl rfl) ?_
     refine r_skip rfl rfl rfl ?_
     refine r_skip rfl rfl rfl ?_
     refine r_skip rfl rfl rfl ?_
     refine r_skip rfl rfl rfl ?_
     refine r_d rfl rfl rfl (s_pickT rfl rfl rfl) ?_
     refine r_d rfl rfl rfl (s_move rfl rfl) ?_
     refine r_skip rfl rfl rfl ?_
     refine r_skip rfl rfl rfl ?_
     refine r_skip rfl rfl rfl ?_
     refine r_skip rfl rfl rfl ?_
     refine r_d rfl rfl rfl (s_pickT rfl rfl rfl) ?_
     refine r_end ?_
     refine g_condT rfl ?_
     refine g_seq ?_
     refine g_run (by kernel_rfl) [(0, .d)] rfl ?_
     refine r_d rfl rfl rfl (s_assign rfl rfl) ?_
     refine r_end ?_
     obtain rfl := Option.some.inj hr
     refine g_ret Tryz.func9 _ (.cons (resTmp rfl (Wk.refl _)) .nil) ?_
     rfl
    ·
     refine r_d rfl rfl rfl (s_fieldAddr rfl fl_api_Rule_0 rfl rfl rfl rfl) ?_
     refine r_d rfl rfl rfl (s_load rfl rfl (by exact ty_string) rfl) ?_
     refine r_d rfl rfl rfl (s_lenS rfl Tryz.underlying9 rfl) ?_
     refine r_d rfl rfl rfl (s_quoC rfl rfl rfl (by decide)) ?_
     refine r_d rfl rfl rfl (s_fieldAddr rfl fl_api_Rule_1 rfl rfl rfl rfl) ?_
     refine r_d rfl rfl rfl (s_load rfl rfl (by exact ty_L_api_Atom) rfl) ?_
     refine r_d rfl rfl rfl (m_len (f := encA) q_2.f1_Keep rfl el_L_api_Atom rfl (asl rfl)) ?_
     refine r_d rfl rfl rfl (s_arW rfl rfl rfl rfl) ?_
     refine r_d rfl rfl rfl (s_fieldAddr rfl fl_api_Rule_2 rfl rfl rfl rfl) ?_
     refine r_d rfl rfl rfl (s_load rfl rfl (by exact ty_L_api_Atom) rfl) ?_
     refine r_d rfl rfl rfl (m_len (f := encA) q_2.f2_Remove rfl el_L_api_Atom rfl (asl rfl)) ?_
     refine r_d rfl rfl rfl (s_arW rfl rfl rfl rfl) ?_
     refine r_d rfl rfl rfl (s_move rfl rfl) ?_
     refine r_d rfl rfl rfl (s_cmp rfl rfl rfl rfl) ?_
     refine r_d rfl rfl rfl (s_pickF rfl rfl rfl) ?_
     refine r_d rfl rfl rfl (s_move rfl rfl) ?_
     refine r_sB 37 rfl hr (fun h37_4 hr => ?_) (fun h37_4 hr => ?_)
     ·
      refine r_skip rfl rfl rfl ?_
      refine r_skip rfl rfl rfl ?_
      refine r_skip rfl rfl rfl ?_
      refine r_skip rfl rfl rfl ?_
      refine r_d rfl rfl rfl (s_pickT rfl rfl rfl) ?_
      refine r_d rfl rfl rfl (s_move rfl rfl) ?_
      refine r_skip rfl rfl rfl ?_
      refine r_skip rfl rfl rfl ?_
      refine r_skip rfl rfl rfl ?_
      refine r_skip rfl rfl rfl ?_
      refine r_d rfl rfl rfl (s_pickT rfl rfl rfl) ?_
      refine r_d rfl rfl rfl (s_move rfl rfl) ?_
      refine r_skip rfl rfl rfl ?_
      refine r_skip rfl rfl rfl ?_
      refine r_skip rfl rfl rfl ?_
      refine r_skip rfl rfl rfl ?_
      refine r_d rfl rfl rfl (s_pickT rfl rfl rfl) ?_
      refine r_d rfl rfl rfl (s_move rfl rfl) ?_
      refine r_skip rfl rfl rfl ?_
      refine r_skip rfl rfl rfl ?_
      refine r_skip rfl rfl rfl ?_
      refine r_skip rfl rfl rfl ?_
      refine r_d rfl rfl rfl (s_pickT rfl rfl rfl) ?_
      refine r_end ?_
      refine g_condT rfl ?_
      refine g_seq ?_
      refine g_run (by kernel_rfl) [(0, .d)] rfl ?_
      refine r_d rfl rfl rfl (s_assign rfl rfl) ?_
      refine r_end ?_
      obtain rfl := Option.some.inj hr
      refine g_ret Tryz.func9 _ (.cons (resTmp rfl (Wk.refl _)) .nil) ?_
      rfl
     ·
      refine r_d rfl rfl rfl (s_fieldAddr rfl fl_api_Rule_1 rfl rfl rfl rfl) ?_
      refine r_d rfl rfl rfl (s_load rfl rfl (by exact ty_L_api_Atom) rfl) ?_
      refine r_d rfl rfl rfl (s_move rfl rfl) ?_
      obtain ⟨r_6, hr_6, hr⟩ := bindS hr
      refine r_d rfl rfl rfl (s_callD rfl cl_constraintref03_GreatAtoms (.cons rfl (Wk.refl _) (.cons rfl (Wk.refl _) .nil)) (lg_constraintref03_GreatAtoms _ _ _ hr_6)) ?_
      refine r_d rfl rfl rfl (s_pickF rfl rfl rfl) ?_
      refine r_d rfl rfl rfl (s_move rfl rfl) ?_
      refine r_sB 43 rfl hr (fun h43_6 hr => ?_) (fun h43_6 hr => ?_)
      ·
       refine r_skip rfl rfl rfl ?_
       refine r_skip rfl rfl rfl ?_
       refine r_skip rfl rfl rfl ?_
       refine r_skip rfl rfl rfl ?_
       refine r_d rfl rfl rfl (s_pickT rfl rfl rfl) ?_
       refine r_d rfl rfl rfl (s_move rfl rfl) ?_
       refine r_skip rfl rfl rfl ?_
       refine r_skip rfl rfl rfl ?_
       refine r_skip rfl rfl rfl ?_
       refine r_skip rfl rfl rfl ?_
       refine r_d rfl rfl rfl (s_pickT rfl rfl rfl) ?_
       refine r_d rfl rfl rfl (s_move rfl rfl) ?_
       refine r_skip rfl rfl rfl ?_
       refine r_skip rfl rfl rfl ?_
       refine r_skip rfl rfl rfl ?_
       refine r_skip rfl rfl rfl ?_
       refine r_d rfl rfl rfl (s_pickT rfl rfl rfl) ?_
       refine r_end ?_
       refine g_condT rfl ?_
       refine g_seq ?_
       refine g_run (by kernel_rfl) [(0, .d)] rfl ?_
       refine r_d rfl rfl rfl (s_assign rfl rfl) ?_
       refine r_end ?_
       obtain rfl := Option.some.inj hr
       refine g_ret Tryz.func9 _ (.cons (resTmp rfl (Wk.refl _)) .nil) ?_
       rfl
      ·
       refine r_d rfl rfl rfl (s_fieldAddr rfl fl_api_Rule_2 rfl rfl rfl rfl) ?_
       refine r_d rfl rfl rfl (s_load rfl rfl (by exact ty_L_api_Atom) rfl) ?_
       refine r_d rfl rfl rfl (s_move rfl rfl) ?_
       obtain ⟨r_8, hr_8, hr⟩ := bindS hr
       refine r_d rfl rfl rfl (s_callD rfl cl_constraintref03_GreatAtoms (.cons rfl (Wk.refl _) (.cons rfl (Wk.refl _) .nil)) (lg_constraintref03_GreatAtoms _ _ _ hr_8)) ?_
       refine r_d rfl rfl rfl (s_pickF rfl rfl rfl) ?_
       refine r_d rfl rfl rfl (s_move rfl rfl) ?_
       refine r_sB 49 rfl hr (fun h49_8 hr => ?_) (fun h49_8 hr => ?_)
       ·
        refine r_skip rfl rfl rfl ?_
        refine r_skip rfl rfl rfl ?_
        refine r_skip rfl rfl rfl ?_
        refine r_skip rfl rfl rfl ?_
        refine r_d rfl rfl rfl (s_pickT rfl rfl rfl) ?_
        refine r_d rfl rfl rfl (s_move rfl rfl) ?_
        refine r_skip rfl rfl rfl ?_
        refine r_skip rfl rfl rfl ?_
        refine r_skip rfl rfl rfl ?_
        refine r_skip rfl rfl rfl ?_
        refine r_d rfl rfl rfl (s_pickT rfl rfl rfl) ?_
        refine r_end ?_
        refine g_condT rfl ?_
        refine g_seq ?_
        refine g_run (by kernel_rfl) [(0, .d)] rfl ?_
        refine r_d rfl rfl rfl (s_assign rfl rfl) ?_
        refine r_end ?_
        obtain rfl := Option.some.inj hr
        refine g_ret Tryz.func9 _ (.cons (resTmp rfl (Wk.refl _)) .nil) ?_
        rfl
       ·
        refine r_d rfl rfl rfl (s_fieldAddr rfl fl_api_Rule_3 rfl rfl rfl rfl) ?_
        refine r_d rfl rfl rfl (s_load rfl rfl (by exact ty_L_api_Goal) rfl) ?_
        refine r_d rfl rfl rfl (s_move rfl rfl) ?_
        obtain ⟨r_10, hr_10, hr⟩ := bindS hr
        refine r_d rfl rfl rfl (s_callD rfl cl_constraintref03_GreatGoals (.cons rfl (Wk.refl _) (.cons rfl (Wk.refl _) .nil)) (lg_constraintref03_GreatGoals _ _ _ hr_10)) ?_
        refine r_d rfl rfl rfl (s_pickF rfl rfl rfl) ?_
        refine r_d rfl rfl rfl (s_move rfl rfl) ?_
        refine r_sB 55 rfl hr (fun h55_10 hr => ?_) (fun h55_10 hr => ?_)
        ·
         refine r_skip rfl rfl rfl ?_
         refine r_skip rfl rfl rfl ?_
         refine r_skip rfl rfl rfl ?_
         refine r_skip rfl rfl rfl ?_
         refine r_d rfl rfl rfl (s_pickT rfl rfl rfl) ?_
         refine r_end ?_
         refine g_condT rfl ?_
         refine g_seq ?_
         refine g_run (by kernel_rfl) [(0, .d)] rfl ?_
         refine r_d rfl rfl rfl (s_assign rfl rfl) ?_
         refine r_end ?_
         obtain rfl := Option.some.inj hr
         refine g_ret Tryz.func9 _ (.cons (resTmp rfl (Wk.refl _)) .nil) ?_
         rfl
        ·
         refine r_d rfl rfl rfl (s_fieldAddr rfl fl_api_Rule_4 rfl rfl rfl rfl) ?_
         refine r_d rfl rfl rfl (s_load rfl rfl (by exact ty_L_api_Goal) rfl) ?_
         refine r_d rfl rfl rfl (s_move rfl rfl) ?_
         obtain ⟨r_12, hr_12, hr⟩ := bindS hr
         refine r_d rfl rfl rfl (s_callD rfl cl_constraintref03_GreatGoals (.cons rfl (Wk.refl _) (.cons rfl (Wk.refl _) .nil)) (lg_constraintref03_GreatGoals _ _ _ hr_12)) ?_
         refine r_d rfl rfl rfl (s_pickF rfl rfl rfl) ?_
         refine r_end ?_
         refine g_sB 60 rfl hr (fun h60_12 hr => ?_) (fun h60_12 hr => ?_)
         ·
          refine g_condT rfl ?_
          refine g_seq ?_
          refine g_run (by kernel_rfl) [(0, .d)] rfl ?_
          refine r_d rfl rfl rfl (s_assign rfl rfl) ?_
          refine r_end ?_
          obtain rfl := Option.some.inj hr
          refine g_ret Tryz.func9 _ (.cons (resTmp rfl (Wk.refl _)) .nil) ?_
          rfl
         ·
          refine g_condF rfl ?_
          refine g_skip ?_
          refine g_inBlock ?_
          refine g_run (by kernel_rfl) [(0, .d), (1, .d), (2, .d)] rfl ?_
          refine r_d rfl rfl rfl (s_move rfl rfl) ?_
          refine r_d rfl rfl rfl (s_ar (r := ((i_1 + 1 : Nat) : Int)) rfl rfl rfl (by simp [iar]) (by omega)) ?_
          refine r_d rfl rfl rfl (s_assign rfl rfl) ?_
          refine r_end ?_
          refine g_sub [(0, .lst (l_a0.map enc_S_api_Rule)), (1, .int .i64 most_a1), (5, .int .i64 ((i_1 + 1 : Nat) : Int))] (Sub.cons' rfl (Sub.cons' rfl (Sub.cons' rfl (Sub.nil _)))) ?_
          exact IH0 _ _ _ (by omega) ⟨(i_1 + 1), rfl, rfl, rfl, (by omega), hr⟩

noncomputable def lf_snapshot_TakeProgram (fuel : Nat) (b_a0 : (List Int)) : Option (S_api_Program × Int) :=
  ((lf_wholeR_Program fuel b_a0 1).bind fun r_2 =>
  some (r_2.1, r_2.2))

set_option maxHeartbeats 1000000 in
theorem lg_snapshot_TakeProgram (fuel : Nat) (b_a0 : (List Int)) (res : S_api_Program × Int) (hr : lf_snapshot_TakeProgram fuel b_a0 = some res) : Gives Tryz.prog 14 [.lst (b_a0.map (D.int .u8))] (.tup [enc_S_api_Program res.1, .int .i64 res.2]) := by
  unfold lf_snapshot_TakeProgram at hr
  refine spec_env [(0, .lst (b_a0.map (D.int .u8)))] Tryz.func14 rfl rfl fun K hK => ?_
  refine g_seq ?_
  refine g_run (by kernel_rfl) [(0, .w), (1, .d)] rfl ?_
  refine r_w rfl rfl rfl (s_alloc rfl zv_api_Program) ?_
  rintro _ _ ⟨b2_0, rfl, rfl⟩
  refine r_d rfl rfl rfl (s_assign rfl rfl) ?_
  refine r_end ?_
  refine g_seq ?_
  refine g_run (by kernel_rfl) [(0, .d), (1, .d), (2, .d), (3, .d), (4, .w), (5, .d)] rfl ?_
  refine r_d rfl rfl rfl (s_move rfl rfl) ?_
  obtain ⟨r_2, hr_2, hr⟩ := bindS hr
  refine r_d rfl rfl rfl (s_callD rfl cl_snapshot_whole_api_Program (.cons rfl (Wk.refl _) (.cons rfl (Wk.refl _) (.cons rfl (Wk.refl _) (.cons rfl (Wk.refl _) .nil)))) (lg_wholeR_Program fuel _ _ _ hr_2)) ?_
  refine r_d rfl rfl rfl (s_extract rfl rfl rfl) ?_
  refine r_d rfl rfl rfl (s_extract rfl rfl rfl) ?_
  refine r_w01 rfl rfl rfl (t_store0 _ rfl rfl rfl (Wk.refl _) (pf0 _) (by exact ty_api_Program) (sz_S_api_Program _) rfl rfl) ?_
  refine r_d rfl rfl rfl (s_assign rfl rfl) ?_
  refine r_end ?_
  obtain rfl := Option.some.inj hr
  refine g_ret Tryz.func14 _ (.cons (resRef rfl (.head _) (by exact ty_api_Program) (sz_S_api_Program _) (Wk.refl _)) (.cons (resTmp rfl (Wk.refl _)) .nil)) ?_
  rfl

noncomputable def lf_snapshot_TakeConfig (fuel : Nat) (b_a0 : (List Int)) : Option (S_api_Config × Int) :=
  ((lf_wholeR_Config fuel b_a0 2).bind fun r_2 =>
  some (r_2.1, r_2.2))

set_option maxHeartbeats 1000000 in
theorem lg_snapshot_TakeConfig (fuel : Nat) (b_a0 : (List Int)) (res : S_api_Config × Int) (hr : lf_snapshot_TakeConfig fuel b_a0 = some res) : Gives Tryz.prog 19 [.lst (b_a0.map (D.int .u8))] (.tup [enc_S_api_Config res.1, .int .i64 res.2]) := by
  unfold lf_snapshot_TakeConfig at hr
  refine spec_env [(0, .lst (b_a0.map (D.int .u8)))] Tryz.func19 rfl rfl fun K hK => ?_
  refine g_seq ?_
  refine g_run (by kernel_rfl) [(0, .w), (1, .d)] rfl ?_
  refine r_w rfl rfl rfl (s_alloc rfl zv_api_Config) ?_
  rintro _ _ ⟨b2_0, rfl, rfl⟩
  refine r_d rfl rfl rfl (s_assign rfl rfl) ?_
  refine r_end ?_
  refine g_seq ?_
  refine g_run (by kernel_rfl) [(0, .d), (1, .d), (2, .d), (3, .d), (4, .w), (5, .d)] rfl ?_
  refine r_d rfl rfl rfl (s_move rfl rfl) ?_
  obtain ⟨r_2, hr_2, hr⟩ := bindS hr
  refine r_d rfl rfl rfl (s_callD rfl cl_snapshot_whole_api_Config (.cons rfl (Wk.refl _) (.cons rfl (Wk.refl _) (.cons rfl (Wk.refl _) (.cons rfl (Wk.refl _) .nil)))) (lg_wholeR_Config fuel _ _ _ hr_2)) ?_
  refine r_d rfl rfl rfl (s_extract rfl rfl rfl) ?_
  refine r_d rfl rfl rfl (s_extract rfl rfl rfl) ?_
  refine r_w01 rfl rfl rfl (t_store0 _ rfl rfl rfl (Wk.refl _) (pf0 _) (by exact ty_api_Config) (sz_S_api_Config _) rfl rfl) ?_
  refine r_d rfl rfl rfl (s_assign rfl rfl) ?_
  refine r_end ?_
  obtain rfl := Option.some.inj hr
  refine g_ret Tryz.func19 _ (.cons (resRef rfl (.head _) (by exact ty_api_Config) (sz_S_api_Config _) (Wk.refl _)) (.cons (resTmp rfl (Wk.refl _)) .nil)) ?_
  rfl

noncomputable def lf_constraintlaw52_same (a_a0 : (List Int)) (b_a1 : (List Int)) : Option (Bool) :=
  some (((strY a_a0).toList == (strY b_a1).toList))

set_option maxHeartbeats 1000000 in
theorem lg_constraintlaw52_same (a_a0 : (List Int)) (b_a1 : (List Int)) (res : Bool) (hr : lf_constraintlaw52_same a_a0 b_a1 = some res) : Gives Tryz.prog 12 [.lst (a_a0.map (D.int .u8)), .lst (b_a1.map (D.int .u8))] (.bool res) := by
  unfold lf_constraintlaw52_same at hr
  refine spec_env [(0, .lst (a_a0.map (D.int .u8))), (1, .lst (b_a1.map (D.int .u8)))] Tryz.func12 rfl rfl fun K hK => ?_
  refine g_seq ?_
  refine g_run (by kernel_rfl) [(0, .d)] rfl ?_
  refine r_d rfl rfl rfl (s_assign rfl rfl) ?_
  refine r_end ?_
  refine g_seq ?_
  refine g_run (by kernel_rfl) [(0, .d), (1, .d), (2, .d), (3, .d), (4, .d), (5, .d)] rfl ?_
  refine r_d rfl rfl rfl (s_move rfl rfl) ?_
  refine r_d rfl rfl rfl (s_toStr a_a0 rfl Tryz.underlying30 Tryz.underlying5 Tryz.underlying9 rfl (asl rfl)) ?_
  refine r_d rfl rfl rfl (s_move rfl rfl) ?_
  refine r_d rfl rfl rfl (s_toStr b_a1 rfl Tryz.underlying30 Tryz.underlying5 Tryz.underlying9 rfl (asl rfl)) ?_
  refine r_d rfl rfl rfl (s_cmpS rfl rfl rfl rfl) ?_
  refine r_d rfl rfl rfl (s_assign rfl rfl) ?_
  refine r_end ?_
  obtain rfl := Option.some.inj hr
  refine g_ret Tryz.func12 _ (.cons (resTmp rfl (Wk.refl _)) .nil) ?_
  rfl

noncomputable def lf_constraintlaw52_exampleHolds (fuel : Nat) : Option (Bool) :=
  ((lf_snapshot_TakeProgram fuel [2, 2, 2, 112, 0, 0]).bind fun r_1 =>
  ((lf_snapshot_TakeProgram fuel [2, 0]).bind fun r_3 =>
  ((lf_snapshot_TakeProgram fuel [4, 0, 0]).bind fun r_5 =>
  ((lf_snapshot_Config fuel (⟨[(⟨(⟨2, ⟨#[]⟩, []⟩ : Gl), 0, 0⟩ : S_api_Frame), (⟨(⟨0, ⟨#[]⟩, []⟩ : Gl), 4, (-1)⟩ : S_api_Frame)], [], [], [], 1, 0, false⟩ : S_api_Config)).bind fun r_7 =>
  ((lf_snapshot_TakeConfig fuel r_7).bind fun r_8 =>
  (bif (r_1.2 == (0 : Int)) then
  (bif ((r_1.1.f0_Decls.length : Int) == (1 : Int)) then
  ((getI r_1.1.f0_Decls 0).bind fun q_12 =>
  (bif (q_12.f0_Name.toList == (⟨#[112]⟩ : ByteArray).toList) then
  (bif (r_3.2 == (4 : Int)) then
  (bif (r_5.2 == (5 : Int)) then
  ((lf_snapshot_Memory fuel (⟨[], [], [], 1, 0⟩ : S_api_Memory)).bind fun r_16 =>
  ((lf_constraintlaw52_same r_16 [6, 0, 0, 0, 2, 0]).bind fun r_17 =>
  (bif r_17 then
  (bif (r_8.2 == (0 : Int)) then
  (bif ((r_8.1.f0_Stack.length : Int) == (2 : Int)) then
  ((getI r_8.1.f0_Stack 1).bind fun q_21 =>
  (bif (q_21.f2_Occ == ((-1) : Int)) then
  ((lf_snapshot_Program fuel (⟨[(⟨⟨#[]⟩, 7⟩ : S_api_Decl)], []⟩ : S_api_Program)).bind fun r_23 =>
  some (((r_23.length : Int) == (0 : Int))))
  else
  some (false)))
  else
  some (false))
  else
  some (false))
  else
  some (false))))
  else
  some (false))
  else
  some (false))
  else
  some (false)))
  else
  some (false))
  else
  some (false)))))))

set_option maxHeartbeats 1000000 in
theorem lg_constraintlaw52_exampleHolds (fuel : Nat) (res : Bool) (hr : lf_constraintlaw52_exampleHolds fuel = some res) : Gives Tryz.prog 10 [] (.bool res) := by
  unfold lf_constraintlaw52_exampleHolds at hr
  refine spec_env [] Tryz.func10 rfl rfl fun K hK => ?_
  refine g_seq ?_
  refine g_run (by kernel_rfl) [(0, .d)] rfl ?_
  refine r_d rfl rfl rfl (s_assign rfl rfl) ?_
  refine r_end ?_
  refine g_seq ?_
  refine g_run (by kernel_rfl) [(0, .d), (1, .d), (2, .d), (3, .d), (4, .d), (5, .w), (6, .w), (7, .d)] rfl ?_
  refine r_d rfl rfl rfl (m_lit (f := (D.int .u8)) [.const (.int .u8 (2)), .const (.int .u8 (2)), .const (.int .u8 (2)), .const (.int .u8 (112)), .const (.int .u8 (0)), .const (.int .u8 (0))] [2, 2, 2, 112, 0, 0] rfl el_L_uint8 rfl rfl (by decide) (by decide) (.cons rfl (Wk.refl _) (.cons rfl (Wk.refl _) (.cons rfl (Wk.refl _) (.cons rfl (Wk.refl _) (.cons rfl (Wk.refl _) (.cons rfl (Wk.refl _) .nil)))))) (fun _ => rfl) (fun _ => rfl)) ?_
  obtain ⟨r_1, hr_1, hr⟩ := bindS hr
  refine r_d rfl rfl rfl (by exact s_callD rfl cl_snapshot_TakeProgram (.cons rfl (Wk.full _) .nil) (lg_snapshot_TakeProgram fuel _ _ hr_1)) ?_
  refine r_d rfl rfl rfl (s_move rfl rfl) ?_
  refine r_d rfl rfl rfl (s_extract rfl rfl rfl) ?_
  refine r_d rfl rfl rfl (s_extract rfl rfl rfl) ?_
  refine r_w rfl rfl rfl (s_alloc rfl zv_api_Program) ?_
  rintro _ _ ⟨b1_1, rfl, rfl⟩
  refine r_w01 rfl rfl rfl (t_store0 _ rfl rfl rfl (Wk.refl _) (pf0 _) (by exact ty_api_Program) (sz_S_api_Program _) rfl rfl) ?_
  refine r_d rfl rfl rfl (s_assign rfl rfl) ?_
  refine r_end ?_
  refine g_freeze 1 b1_1 rfl (pf0 _) ?_
  refine g_seq ?_
  refine g_run (by kernel_rfl) [(0, .d), (1, .d), (2, .d), (3, .d), (4, .d), (5, .w), (6, .w), (7, .d)] rfl ?_
  refine r_d rfl rfl rfl (m_lit (f := (D.int .u8)) [.const (.int .u8 (2)), .const (.int .u8 (0))] [2, 0] rfl el_L_uint8 rfl rfl (by decide) (by decide) (.cons rfl (Wk.refl _) (.cons rfl (Wk.refl _) .nil)) (fun _ => rfl) (fun _ => rfl)) ?_
  obtain ⟨r_3, hr_3, hr⟩ := bindS hr
  refine r_d rfl rfl rfl (by exact s_callD rfl cl_snapshot_TakeProgram (.cons rfl (Wk.full _) .nil) (lg_snapshot_TakeProgram fuel _ _ hr_3)) ?_
  refine r_d rfl rfl rfl (s_move rfl rfl) ?_
  refine r_d rfl rfl rfl (s_extract rfl rfl rfl) ?_
  refine r_d rfl rfl rfl (s_extract rfl rfl rfl) ?_
  refine r_w rfl rfl rfl (s_alloc rfl zv_api_Program) ?_
  rintro _ _ ⟨b3_3, rfl, rfl⟩
  refine r_w01 rfl rfl rfl (t_store0 _ rfl rfl rfl (Wk.refl _) (pf0 _) (by exact ty_api_Program) (sz_S_api_Program _) rfl rfl) ?_
  refine r_d rfl rfl rfl (s_assign rfl rfl) ?_
  refine r_end ?_
  refine g_freeze 3 b3_3 rfl (pf0 _) ?_
  refine g_seq ?_
  refine g_run (by kernel_rfl) [(0, .d), (1, .d), (2, .d), (3, .d), (4, .d), (5, .w), (6, .w), (7, .d)] rfl ?_
  refine r_d rfl rfl rfl (m_lit (f := (D.int .u8)) [.const (.int .u8 (4)), .const (.int .u8 (0)), .const (.int .u8 (0))] [4, 0, 0] rfl el_L_uint8 rfl rfl (by decide) (by decide) (.cons rfl (Wk.refl _) (.cons rfl (Wk.refl _) (.cons rfl (Wk.refl _) .nil))) (fun _ => rfl) (fun _ => rfl)) ?_
  obtain ⟨r_5, hr_5, hr⟩ := bindS hr
  refine r_d rfl rfl rfl (by exact s_callD rfl cl_snapshot_TakeProgram (.cons rfl (Wk.full _) .nil) (lg_snapshot_TakeProgram fuel _ _ hr_5)) ?_
  refine r_d rfl rfl rfl (s_move rfl rfl) ?_
  refine r_d rfl rfl rfl (s_extract rfl rfl rfl) ?_
  refine r_d rfl rfl rfl (s_extract rfl rfl rfl) ?_
  refine r_w rfl rfl rfl (s_alloc rfl zv_api_Program) ?_
  rintro _ _ ⟨b5_5, rfl, rfl⟩
  refine r_w01 rfl rfl rfl (t_store0 _ rfl rfl rfl (Wk.refl _) (pf0 _) (by exact ty_api_Program) (sz_S_api_Program _) rfl rfl) ?_
  refine r_d rfl rfl rfl (s_assign rfl rfl) ?_
  refine r_end ?_
  refine g_freeze 5 b5_5 rfl (pf0 _) ?_
  refine g_seq ?_
  refine g_run (by kernel_rfl) [(0, .d), (1, .d), (2, .d), (3, .d), (4, .d), (5, .d), (6, .d), (7, .d), (8, .d), (9, .d), (10, .w), (11, .w), (12, .d)] rfl ?_
  refine r_d rfl rfl rfl (s_build rfl bt_api_Goal (.cons rfl (Wk.refl _) .nil) (.cons rfl rfl rfl (.nil _))) ?_
  refine r_d rfl rfl rfl (s_build rfl bt_api_Frame (.cons rfl (Wk.refl _) .nil) (.cons rfl rfl rfl (.nil _))) ?_
  refine r_d rfl rfl rfl (s_build rfl bt_api_Frame (.cons rfl (Wk.refl _) (.cons rfl (Wk.refl _) .nil)) (.cons rfl rfl rfl (.cons rfl rfl rfl (.nil _)))) ?_
  refine r_d rfl rfl rfl (m_lit (f := enc_S_api_Frame) [.tmp 26, .tmp 27] [(⟨(⟨2, ⟨#[]⟩, []⟩ : Gl), 0, 0⟩ : S_api_Frame), (⟨(⟨0, ⟨#[]⟩, []⟩ : Gl), 4, (-1)⟩ : S_api_Frame)] rfl el_L_api_Frame rfl rfl (by decide) (by decide) (.cons rfl (Wk.refl _) (.cons rfl (Wk.refl _) .nil)) sz_S_api_Frame (fun _ => rfl)) ?_
  refine r_d rfl rfl rfl (s_build rfl bt_api_Config (.cons rfl (Wk.refl _) (.cons rfl (Wk.full _) .nil)) (.cons rfl rfl rfl (.cons rfl rfl rfl (.nil _)))) ?_
  obtain ⟨r_7, hr_7, hr⟩ := bindS hr
  refine r_d rfl rfl rfl (s_callD rfl cl_snapshot_Config (.cons rfl (Wk.refl _) .nil) (lg_snapshot_Config fuel _ _ hr_7)) ?_
  obtain ⟨r_8, hr_8, hr⟩ := bindS hr
  refine r_d rfl rfl rfl (s_callD rfl cl_snapshot_TakeConfig (.cons rfl (Wk.refl _) .nil) (lg_snapshot_TakeConfig fuel _ _ hr_8)) ?_
  refine r_d rfl rfl rfl (s_move rfl rfl) ?_
  refine r_d rfl rfl rfl (s_extract rfl rfl rfl) ?_
  refine r_d rfl rfl rfl (s_extract rfl rfl rfl) ?_
  refine r_w rfl rfl rfl (s_alloc rfl zv_api_Config) ?_
  rintro _ _ ⟨b7_8, rfl, rfl⟩
  refine r_w01 rfl rfl rfl (t_store0 _ rfl rfl rfl (Wk.refl _) (pf0 _) (by exact ty_api_Config) (sz_S_api_Config _) rfl rfl) ?_
  refine r_d rfl rfl rfl (s_assign rfl rfl) ?_
  refine r_end ?_
  refine g_freeze 7 b7_8 rfl (pf0 _) ?_
  refine g_seq ?_
  refine g_run (by kernel_rfl) [(0, .d), (1, .d), (2, .d), (3, .d), (4, .d), (5, .d), (6, .d), (7, .d), (8, .d), (9, .d), (10, .d), (11, .d), (12, .d), (13, .d), (14, .d), (15, .d), (16, .d), (17, .d), (18, .d), (19, .d), (20, .d), (21, .d), (22, .d), (23, .d), (24, .d), (25, .d), (26, .d), (27, .d), (28, .d), (29, .d), (30, .d), (31, .d), (32, .d), (33, .d), (34, .d), (35, .d), (36, .d), (37, .d), (38, .d), (39, .d), (40, .d), (41, .d), (42, .d), (43, .d), (44, .d), (45, .d), (46, .d), (47, .d), (48, .d), (49, .d), (50, .d), (51, .d), (52, .d), (53, .d), (54, .d), (55, .d), (56, .d)] rfl ?_
  refine r_d rfl rfl rfl (s_move rfl rfl) ?_
  refine r_d rfl rfl rfl (s_cmp rfl rfl rfl rfl) ?_
  refine r_d rfl rfl rfl (s_move rfl rfl) ?_
  refine r_sB 36 rfl hr (fun h36_9 hr => ?_) (fun h36_9 hr => ?_)
  ·
   refine r_d rfl rfl rfl (s_fieldAddr rfl fl_api_Program_0 rfl rfl rfl rfl) ?_
   refine r_d rfl rfl rfl (s_load rfl rfl (by exact ty_L_api_Decl) rfl) ?_
   refine r_d rfl rfl rfl (m_len (f := enc_S_api_Decl) r_1.1.f0_Decls rfl el_L_api_Decl rfl (asl rfl)) ?_
   refine r_d rfl rfl rfl (s_cmp rfl rfl rfl rfl) ?_
   refine r_d rfl rfl rfl (s_pickT rfl rfl rfl) ?_
   refine r_d rfl rfl rfl (s_move rfl rfl) ?_
   refine r_sB 42 rfl hr (fun h42_10 hr => ?_) (fun h42_10 hr => ?_)
   ·
    refine r_d rfl rfl rfl (s_fieldAddr rfl fl_api_Program_0 rfl rfl rfl rfl) ?_
    refine r_d rfl rfl rfl (s_load rfl rfl (by exact ty_L_api_Decl) rfl) ?_
    obtain ⟨q_12, hq_12, hr⟩ := bindS hr
    refine r_d rfl rfl rfl (m_index (f := enc_S_api_Decl) r_1.1.f0_Decls rfl el_L_api_Decl rfl (asl rfl) rfl hq_12 sz_S_api_Decl rfl) ?_
    refine r_d rfl rfl rfl (s_fieldAddr rfl fl_api_Decl_0 rfl rfl rfl rfl) ?_
    refine r_d rfl rfl rfl (s_load rfl rfl (by exact ty_string) rfl) ?_
    refine r_d rfl rfl rfl (s_cmpS rfl rfl rfl rfl) ?_
    refine r_d rfl rfl rfl (s_pickT rfl rfl rfl) ?_
    refine r_d rfl rfl rfl (s_move rfl rfl) ?_
    refine r_sB 50 rfl hr (fun h50_12 hr => ?_) (fun h50_12 hr => ?_)
    ·
     refine r_d rfl rfl rfl (s_move rfl rfl) ?_
     refine r_d rfl rfl rfl (s_cmp rfl rfl rfl rfl) ?_
     refine r_d rfl rfl rfl (s_pickT rfl rfl rfl) ?_
     refine r_d rfl rfl rfl (s_move rfl rfl) ?_
     refine r_sB 54 rfl hr (fun h54_13 hr => ?_) (fun h54_13 hr => ?_)
     ·
      refine r_d rfl rfl rfl (s_move rfl rfl) ?_
      refine r_d rfl rfl rfl (s_cmp rfl rfl rfl rfl) ?_
      refine r_d rfl rfl rfl (s_pickT rfl rfl rfl) ?_
      refine r_d rfl rfl rfl (s_move rfl rfl) ?_
      refine r_sB 58 rfl hr (fun h58_14 hr => ?_) (fun h58_14 hr => ?_)
      ·
       refine r_d rfl rfl rfl (s_build rfl bt_api_Memory (.cons rfl (Wk.refl _) .nil) (.cons rfl rfl rfl (.nil _))) ?_
       obtain ⟨r_16, hr_16, hr⟩ := bindS hr
       refine r_d rfl rfl rfl (s_callD rfl cl_snapshot_Memory (.cons rfl (Wk.refl _) .nil) (lg_snapshot_Memory fuel _ _ hr_16)) ?_
       refine r_d rfl rfl rfl (m_lit (f := (D.int .u8)) [.const (.int .u8 (6)), .const (.int .u8 (0)), .const (.int .u8 (0)), .const (.int .u8 (0)), .const (.int .u8 (2)), .const (.int .u8 (0))] [6, 0, 0, 0, 2, 0] rfl el_L_uint8 rfl rfl (by decide) (by decide) (.cons rfl (Wk.refl _) (.cons rfl (Wk.refl _) (.cons rfl (Wk.refl _) (.cons rfl (Wk.refl _) (.cons rfl (Wk.refl _) (.cons rfl (Wk.refl _) .nil)))))) (fun _ => rfl) (fun _ => rfl)) ?_
       obtain ⟨r_17, hr_17, hr⟩ := bindS hr
       refine r_d rfl rfl rfl (by exact s_callD rfl cl_constraintlaw52_same (.cons rfl (Wk.refl _) (.cons rfl (Wk.full _) .nil)) (lg_constraintlaw52_same _ _ _ hr_17)) ?_
       refine r_d rfl rfl rfl (s_pickT rfl rfl rfl) ?_
       refine r_d rfl rfl rfl (s_move rfl rfl) ?_
       refine r_sB 64 rfl hr (fun h64_17 hr => ?_) (fun h64_17 hr => ?_)
       ·
        refine r_d rfl rfl rfl (s_move rfl rfl) ?_
        refine r_d rfl rfl rfl (s_cmp rfl rfl rfl rfl) ?_
        refine r_d rfl rfl rfl (s_pickT rfl rfl rfl) ?_
        refine r_d rfl rfl rfl (s_move rfl rfl) ?_
        refine r_sB 68 rfl hr (fun h68_18 hr => ?_) (fun h68_18 hr => ?_)
        ·
         refine r_d rfl rfl rfl (s_fieldAddr rfl fl_api_Config_0 rfl rfl rfl rfl) ?_
         refine r_d rfl rfl rfl (s_load rfl rfl (by exact ty_L_api_Frame) rfl) ?_
         refine r_d rfl rfl rfl (m_len (f := enc_S_api_Frame) r_8.1.f0_Stack rfl el_L_api_Frame rfl (asl rfl)) ?_
         refine r_d rfl rfl rfl (s_cmp rfl rfl rfl rfl) ?_
         refine r_d rfl rfl rfl (s_pickT rfl rfl rfl) ?_
         refine r_d rfl rfl rfl (s_move rfl rfl) ?_
         refine r_sB 74 rfl hr (fun h74_19 hr => ?_) (fun h74_19 hr => ?_)
         ·
          refine r_d rfl rfl rfl (s_fieldAddr rfl fl_api_Config_0 rfl rfl rfl rfl) ?_
          refine r_d rfl rfl rfl (s_load rfl rfl (by exact ty_L_api_Frame) rfl) ?_
          obtain ⟨q_21, hq_21, hr⟩ := bindS hr
          refine r_d rfl rfl rfl (m_index (f := enc_S_api_Frame) r_8.1.f0_Stack rfl el_L_api_Frame rfl (asl rfl) rfl hq_21 sz_S_api_Frame rfl) ?_
          refine r_d rfl rfl rfl (s_fieldAddr rfl fl_api_Frame_2 rfl rfl (by simp [szs, sz, sz_encG]) rfl) ?_
          refine r_d rfl rfl rfl (s_load rfl rfl (by exact ty_int) rfl) ?_
          refine r_d rfl rfl rfl (s_cmp rfl rfl rfl rfl) ?_
          refine r_d rfl rfl rfl (s_pickT rfl rfl rfl) ?_
          refine r_d rfl rfl rfl (s_move rfl rfl) ?_
          refine r_sB 82 rfl hr (fun h82_21 hr => ?_) (fun h82_21 hr => ?_)
          ·
           refine r_d rfl rfl rfl (s_build rfl bt_api_Decl (.cons rfl (Wk.refl _) .nil) (.cons rfl rfl rfl (.nil _))) ?_
           refine r_d rfl rfl rfl (m_lit (f := enc_S_api_Decl) [.tmp 83] [(⟨⟨#[]⟩, 7⟩ : S_api_Decl)] rfl el_L_api_Decl rfl rfl (by decide) (by decide) (.cons rfl (Wk.refl _) .nil) sz_S_api_Decl (fun _ => rfl)) ?_
           refine r_d rfl rfl rfl (s_build rfl bt_api_Program (.cons rfl (Wk.full _) .nil) (.cons rfl rfl rfl (.nil _))) ?_
           obtain ⟨r_23, hr_23, hr⟩ := bindS hr
           refine r_d rfl rfl rfl (s_callD rfl cl_snapshot_Program (.cons rfl (Wk.refl _) .nil) (lg_snapshot_Program fuel _ _ hr_23)) ?_
           refine r_d rfl rfl rfl (m_len (f := (D.int .u8)) r_23 rfl el_L_uint8 rfl (asl rfl)) ?_
           refine r_d rfl rfl rfl (s_cmp rfl rfl rfl rfl) ?_
           refine r_d rfl rfl rfl (s_pickT rfl rfl rfl) ?_
           refine r_d rfl rfl rfl (s_assign rfl rfl) ?_
           refine r_end ?_
           obtain rfl := Option.some.inj hr
           refine g_ret Tryz.func10 _ (.cons (resTmp rfl (Wk.refl _)) .nil) ?_
           rfl
          ·
           refine r_skip rfl rfl rfl ?_
           refine r_skip rfl rfl rfl ?_
           refine r_skip rfl rfl rfl ?_
           refine r_skip rfl rfl rfl ?_
           refine r_skip rfl rfl rfl ?_
           refine r_skip rfl rfl rfl ?_
           refine r_d rfl rfl rfl (s_pickF rfl rfl rfl) ?_
           refine r_d rfl rfl rfl (s_assign rfl rfl) ?_
           refine r_end ?_
           obtain rfl := Option.some.inj hr
           refine g_ret Tryz.func10 _ (.cons (resTmp rfl (Wk.refl _)) .nil) ?_
           rfl
         ·
          refine r_skip rfl rfl rfl ?_
          refine r_skip rfl rfl rfl ?_
          refine r_skip rfl rfl rfl ?_
          refine r_skip rfl rfl rfl ?_
          refine r_skip rfl rfl rfl ?_
          refine r_skip rfl rfl rfl ?_
          refine r_d rfl rfl rfl (s_pickF rfl rfl rfl) ?_
          refine r_d rfl rfl rfl (s_move rfl rfl) ?_
          refine r_skip rfl rfl rfl ?_
          refine r_skip rfl rfl rfl ?_
          refine r_skip rfl rfl rfl ?_
          refine r_skip rfl rfl rfl ?_
          refine r_skip rfl rfl rfl ?_
          refine r_skip rfl rfl rfl ?_
          refine r_d rfl rfl rfl (s_pickF rfl rfl rfl) ?_
          refine r_d rfl rfl rfl (s_assign rfl rfl) ?_
          refine r_end ?_
          obtain rfl := Option.some.inj hr
          refine g_ret Tryz.func10 _ (.cons (resTmp rfl (Wk.refl _)) .nil) ?_
          rfl
        ·
         refine r_skip rfl rfl rfl ?_
         refine r_skip rfl rfl rfl ?_
         refine r_skip rfl rfl rfl ?_
         refine r_skip rfl rfl rfl ?_
         refine r_d rfl rfl rfl (s_pickF rfl rfl rfl) ?_
         refine r_d rfl rfl rfl (s_move rfl rfl) ?_
         refine r_skip rfl rfl rfl ?_
         refine r_skip rfl rfl rfl ?_
         refine r_skip rfl rfl rfl ?_
         refine r_skip rfl rfl rfl ?_
         refine r_skip rfl rfl rfl ?_
         refine r_skip rfl rfl rfl ?_
         refine r_d rfl rfl rfl (s_pickF rfl rfl rfl) ?_
         refine r_d rfl rfl rfl (s_move rfl rfl) ?_
         refine r_skip rfl rfl rfl ?_
         refine r_skip rfl rfl rfl ?_
         refine r_skip rfl rfl rfl ?_
         refine r_skip rfl rfl rfl ?_
         refine r_skip rfl rfl rfl ?_
         refine r_skip rfl rfl rfl ?_
         refine r_d rfl rfl rfl (s_pickF rfl rfl rfl) ?_
         refine r_d rfl rfl rfl (s_assign rfl rfl) ?_
         refine r_end ?_
         obtain rfl := Option.some.inj hr
         refine g_ret Tryz.func10 _ (.cons (resTmp rfl (Wk.refl _)) .nil) ?_
         rfl
       ·
        refine r_skip rfl rfl rfl ?_
        refine r_skip rfl rfl rfl ?_
        refine r_d rfl rfl rfl (s_pickF rfl rfl rfl) ?_
        refine r_d rfl rfl rfl (s_move rfl rfl) ?_
        refine r_skip rfl rfl rfl ?_
        refine r_skip rfl rfl rfl ?_
        refine r_skip rfl rfl rfl ?_
        refine r_skip rfl rfl rfl ?_
        refine r_d rfl rfl rfl (s_pickF rfl rfl rfl) ?_
        refine r_d rfl rfl rfl (s_move rfl rfl) ?_
        refine r_skip rfl rfl rfl ?_
        refine r_skip rfl rfl rfl ?_
        refine r_skip rfl rfl rfl ?_
        refine r_skip rfl rfl rfl ?_
        refine r_skip rfl rfl rfl ?_
        refine r_skip rfl rfl rfl ?_
        refine r_d rfl rfl rfl (s_pickF rfl rfl rfl) ?_
        refine r_d rfl rfl rfl (s_move rfl rfl) ?_
        refine r_skip rfl rfl rfl ?_
        refine r_skip rfl rfl rfl ?_
        refine r_skip rfl rfl rfl ?_
        refine r_skip rfl rfl rfl ?_
        refine r_skip rfl rfl rfl ?_
        refine r_skip rfl rfl rfl ?_
        refine r_d rfl rfl rfl (s_pickF rfl rfl rfl) ?_
        refine r_d rfl rfl rfl (s_assign rfl rfl) ?_
        refine r_end ?_
        obtain rfl := Option.some.inj hr
        refine g_ret Tryz.func10 _ (.cons (resTmp rfl (Wk.refl _)) .nil) ?_
        rfl
      ·
       refine r_skip rfl rfl rfl ?_
       refine r_skip rfl rfl rfl ?_
       refine r_skip rfl rfl rfl ?_
       refine r_skip rfl rfl rfl ?_
       refine r_d rfl rfl rfl (s_pickF rfl rfl rfl) ?_
       refine r_d rfl rfl rfl (s_move rfl rfl) ?_
       refine r_skip rfl rfl rfl ?_
       refine r_skip rfl rfl rfl ?_
       refine r_d rfl rfl rfl (s_pickF rfl rfl rfl) ?_
       refine r_d rfl rfl rfl (s_move rfl rfl) ?_
       refine r_skip rfl rfl rfl ?_
       refine r_skip rfl rfl rfl ?_
       refine r_skip rfl rfl rfl ?_
       refine r_skip rfl rfl rfl ?_
       refine r_d rfl rfl rfl (s_pickF rfl rfl rfl) ?_
       refine r_d rfl rfl rfl (s_move rfl rfl) ?_
       refine r_skip rfl rfl rfl ?_
       refine r_skip rfl rfl rfl ?_
       refine r_skip rfl rfl rfl ?_
       refine r_skip rfl rfl rfl ?_
       refine r_skip rfl rfl rfl ?_
       refine r_skip rfl rfl rfl ?_
       refine r_d rfl rfl rfl (s_pickF rfl rfl rfl) ?_
       refine r_d rfl rfl rfl (s_move rfl rfl) ?_
       refine r_skip rfl rfl rfl ?_
       refine r_skip rfl rfl rfl ?_
       refine r_skip rfl rfl rfl ?_
       refine r_skip rfl rfl rfl ?_
       refine r_skip rfl rfl rfl ?_
       refine r_skip rfl rfl rfl ?_
       refine r_d rfl rfl rfl (s_pickF rfl rfl rfl) ?_
       refine r_d rfl rfl rfl (s_assign rfl rfl) ?_
       refine r_end ?_
       obtain rfl := Option.some.inj hr
       refine g_ret Tryz.func10 _ (.cons (resTmp rfl (Wk.refl _)) .nil) ?_
       rfl
     ·
      refine r_skip rfl rfl rfl ?_
      refine r_skip rfl rfl rfl ?_
      refine r_d rfl rfl rfl (s_pickF rfl rfl rfl) ?_
      refine r_d rfl rfl rfl (s_move rfl rfl) ?_
      refine r_skip rfl rfl rfl ?_
      refine r_skip rfl rfl rfl ?_
      refine r_skip rfl rfl rfl ?_
      refine r_skip rfl rfl rfl ?_
      refine r_d rfl rfl rfl (s_pickF rfl rfl rfl) ?_
      refine r_d rfl rfl rfl (s_move rfl rfl) ?_
      refine r_skip rfl rfl rfl ?_
      refine r_skip rfl rfl rfl ?_
      refine r_d rfl rfl rfl (s_pickF rfl rfl rfl) ?_
      refine r_d rfl rfl rfl (s_move rfl rfl) ?_
      refine r_skip rfl rfl rfl ?_
      refine r_skip rfl rfl rfl ?_
      refine r_skip rfl rfl rfl ?_
      refine r_skip rfl rfl rfl ?_
      refine r_d rfl rfl rfl (s_pickF rfl rfl rfl) ?_
      refine r_d rfl rfl rfl (s_move rfl rfl) ?_
      refine r_skip rfl rfl rfl ?_
      refine r_skip rfl rfl rfl ?_
      refine r_skip rfl rfl rfl ?_
      refine r_skip rfl rfl rfl ?_
      refine r_skip rfl rfl rfl ?_
      refine r_skip rfl rfl rfl ?_
      refine r_d rfl rfl rfl (s_pickF rfl rfl rfl) ?_
      refine r_d rfl rfl rfl (s_move rfl rfl) ?_
      refine r_skip rfl rfl rfl ?_
      refine r_skip rfl rfl rfl ?_
      refine r_skip rfl rfl rfl ?_
      refine r_skip rfl rfl rfl ?_
      refine r_skip rfl rfl rfl ?_
      refine r_skip rfl rfl rfl ?_
      refine r_d rfl rfl rfl (s_pickF rfl rfl rfl) ?_
      refine r_d rfl rfl rfl (s_assign rfl rfl) ?_
      refine r_end ?_
      obtain rfl := Option.some.inj hr
      refine g_ret Tryz.func10 _ (.cons (resTmp rfl (Wk.refl _)) .nil) ?_
      rfl
    ·
     refine r_skip rfl rfl rfl ?_
     refine r_skip rfl rfl rfl ?_
     refine r_d rfl rfl rfl (s_pickF rfl rfl rfl) ?_
     refine r_d rfl rfl rfl (s_move rfl rfl) ?_
     refine r_skip rfl rfl rfl ?_
     refine r_skip rfl rfl rfl ?_
     refine r_d rfl rfl rfl (s_pickF rfl rfl rfl) ?_
     refine r_d rfl rfl rfl (s_move rfl rfl) ?_
     refine r_skip rfl rfl rfl ?_
     refine r_skip rfl rfl rfl ?_
     refine r_skip rfl rfl rfl ?_
     refine r_skip rfl rfl rfl ?_
     refine r_d rfl rfl rfl (s_pickF rfl rfl rfl) ?_
     refine r_d rfl rfl rfl (s_move rfl rfl) ?_
     refine r_skip rfl rfl rfl ?_
     refine r_skip rfl rfl rfl ?_
     refine r_d rfl rfl rfl (s_pickF rfl rfl rfl) ?_
     refine r_d rfl rfl rfl (s_move rfl rfl) ?_
     refine r_skip rfl rfl rfl ?_
     refine r_skip rfl rfl rfl ?_
     refine r_skip rfl rfl rfl ?_
     refine r_skip rfl rfl rfl ?_
     refine r_d rfl rfl rfl (s_pickF rfl rfl rfl) ?_
     refine r_d rfl rfl rfl (s_move rfl rfl) ?_
     refine r_skip rfl rfl rfl ?_
     refine r_skip rfl rfl rfl ?_
     refine r_skip rfl rfl rfl ?_
     refine r_skip rfl rfl rfl ?_
     refine r_skip rfl rfl rfl ?_
     refine r_skip rfl rfl rfl ?_
     refine r_d rfl rfl rfl (s_pickF rfl rfl rfl) ?_
     refine r_d rfl rfl rfl (s_move rfl rfl) ?_
     refine r_skip rfl rfl rfl ?_
     refine r_skip rfl rfl rfl ?_
     refine r_skip rfl rfl rfl ?_
     refine r_skip rfl rfl rfl ?_
     refine r_skip rfl rfl rfl ?_
     refine r_skip rfl rfl rfl ?_
     refine r_d rfl rfl rfl (s_pickF rfl rfl rfl) ?_
     refine r_d rfl rfl rfl (s_assign rfl rfl) ?_
     refine r_end ?_
     obtain rfl := Option.some.inj hr
     refine g_ret Tryz.func10 _ (.cons (resTmp rfl (Wk.refl _)) .nil) ?_
     rfl
   ·
    refine r_skip rfl rfl rfl ?_
    refine r_skip rfl rfl rfl ?_
    refine r_skip rfl rfl rfl ?_
    refine r_skip rfl rfl rfl ?_
    refine r_skip rfl rfl rfl ?_
    refine r_skip rfl rfl rfl ?_
    refine r_d rfl rfl rfl (s_pickF rfl rfl rfl) ?_
    refine r_d rfl rfl rfl (s_move rfl rfl) ?_
    refine r_skip rfl rfl rfl ?_
    refine r_skip rfl rfl rfl ?_
    refine r_d rfl rfl rfl (s_pickF rfl rfl rfl) ?_
    refine r_d rfl rfl rfl (s_move rfl rfl) ?_
    refine r_skip rfl rfl rfl ?_
    refine r_skip rfl rfl rfl ?_
    refine r_d rfl rfl rfl (s_pickF rfl rfl rfl) ?_
    refine r_d rfl rfl rfl (s_move rfl rfl) ?_
    refine r_skip rfl rfl rfl ?_
    refine r_skip rfl rfl rfl ?_
    refine r_skip rfl rfl rfl ?_
    refine r_skip rfl rfl rfl ?_
    refine r_d rfl rfl rfl (s_pickF rfl rfl rfl) ?_
    refine r_d rfl rfl rfl (s_move rfl rfl) ?_
    refine r_skip rfl rfl rfl ?_
    refine r_skip rfl rfl rfl ?_
    refine r_d rfl rfl rfl (s_pickF rfl rfl rfl) ?_
    refine r_d rfl rfl rfl (s_move rfl rfl) ?_
    refine r_skip rfl rfl rfl ?_
    refine r_skip rfl rfl rfl ?_
    refine r_skip rfl rfl rfl ?_
    refine r_skip rfl rfl rfl ?_
    refine r_d rfl rfl rfl (s_pickF rfl rfl rfl) ?_
    refine r_d rfl rfl rfl (s_move rfl rfl) ?_
    refine r_skip rfl rfl rfl ?_
    refine r_skip rfl rfl rfl ?_
    refine r_skip rfl rfl rfl ?_
    refine r_skip rfl rfl rfl ?_
    refine r_skip rfl rfl rfl ?_
    refine r_skip rfl rfl rfl ?_
    refine r_d rfl rfl rfl (s_pickF rfl rfl rfl) ?_
    refine r_d rfl rfl rfl (s_move rfl rfl) ?_
    refine r_skip rfl rfl rfl ?_
    refine r_skip rfl rfl rfl ?_
    refine r_skip rfl rfl rfl ?_
    refine r_skip rfl rfl rfl ?_
    refine r_skip rfl rfl rfl ?_
    refine r_skip rfl rfl rfl ?_
    refine r_d rfl rfl rfl (s_pickF rfl rfl rfl) ?_
    refine r_d rfl rfl rfl (s_assign rfl rfl) ?_
    refine r_end ?_
    obtain rfl := Option.some.inj hr
    refine g_ret Tryz.func10 _ (.cons (resTmp rfl (Wk.refl _)) .nil) ?_
    rfl
  ·
   refine r_skip rfl rfl rfl ?_
   refine r_skip rfl rfl rfl ?_
   refine r_skip rfl rfl rfl ?_
   refine r_skip rfl rfl rfl ?_
   refine r_d rfl rfl rfl (s_pickF rfl rfl rfl) ?_
   refine r_d rfl rfl rfl (s_move rfl rfl) ?_
   refine r_skip rfl rfl rfl ?_
   refine r_skip rfl rfl rfl ?_
   refine r_skip rfl rfl rfl ?_
   refine r_skip rfl rfl rfl ?_
   refine r_skip rfl rfl rfl ?_
   refine r_skip rfl rfl rfl ?_
   refine r_d rfl rfl rfl (s_pickF rfl rfl rfl) ?_
   refine r_d rfl rfl rfl (s_move rfl rfl) ?_
   refine r_skip rfl rfl rfl ?_
   refine r_skip rfl rfl rfl ?_
   refine r_d rfl rfl rfl (s_pickF rfl rfl rfl) ?_
   refine r_d rfl rfl rfl (s_move rfl rfl) ?_
   refine r_skip rfl rfl rfl ?_
   refine r_skip rfl rfl rfl ?_
   refine r_d rfl rfl rfl (s_pickF rfl rfl rfl) ?_
   refine r_d rfl rfl rfl (s_move rfl rfl) ?_
   refine r_skip rfl rfl rfl ?_
   refine r_skip rfl rfl rfl ?_
   refine r_skip rfl rfl rfl ?_
   refine r_skip rfl rfl rfl ?_
   refine r_d rfl rfl rfl (s_pickF rfl rfl rfl) ?_
   refine r_d rfl rfl rfl (s_move rfl rfl) ?_
   refine r_skip rfl rfl rfl ?_
   refine r_skip rfl rfl rfl ?_
   refine r_d rfl rfl rfl (s_pickF rfl rfl rfl) ?_
   refine r_d rfl rfl rfl (s_move rfl rfl) ?_
   refine r_skip rfl rfl rfl ?_
   refine r_skip rfl rfl rfl ?_
   refine r_skip rfl rfl rfl ?_
   refine r_skip rfl rfl rfl ?_
   refine r_d rfl rfl rfl (s_pickF rfl rfl rfl) ?_
   refine r_d rfl rfl rfl (s_move rfl rfl) ?_
   refine r_skip rfl rfl rfl ?_
   refine r_skip rfl rfl rfl ?_
   refine r_skip rfl rfl rfl ?_
   refine r_skip rfl rfl rfl ?_
   refine r_skip rfl rfl rfl ?_
   refine r_skip rfl rfl rfl ?_
   refine r_d rfl rfl rfl (s_pickF rfl rfl rfl) ?_
   refine r_d rfl rfl rfl (s_move rfl rfl) ?_
   refine r_skip rfl rfl rfl ?_
   refine r_skip rfl rfl rfl ?_
   refine r_skip rfl rfl rfl ?_
   refine r_skip rfl rfl rfl ?_
   refine r_skip rfl rfl rfl ?_
   refine r_skip rfl rfl rfl ?_
   refine r_d rfl rfl rfl (s_pickF rfl rfl rfl) ?_
   refine r_d rfl rfl rfl (s_assign rfl rfl) ?_
   refine r_end ?_
   obtain rfl := Option.some.inj hr
   refine g_ret Tryz.func10 _ (.cons (resTmp rfl (Wk.refl _)) .nil) ?_
   rfl

noncomputable def lf_constraintref03_SameAtoms_L0 (k : Option (Bool)) (b_a1 : (List At)) : List At → Nat → Option (Bool)
  | [], i_2 =>
  k
  | q_3 :: rest, i_2 =>
  (bif (decide ((i_2 : Int) < (b_a1.length : Int))) then
  ((getI b_a1 (i_2 : Int)).bind fun q_5 =>
  ((x_sameA q_3 q_5).bind fun r_6 =>
  (bif (!r_6) then
  some (false)
  else
  (lf_constraintref03_SameAtoms_L0 k b_a1 rest (i_2 + 1)))))
  else
  k)
noncomputable def lf_constraintref03_SameAtoms (a_a0 : (List At)) (b_a1 : (List At)) : Option (Bool) :=
  (bif ((a_a0.length : Int) != (b_a1.length : Int)) then
  some (false)
  else
  (lf_constraintref03_SameAtoms_L0 (some (true)) b_a1 a_a0 0))

set_option maxHeartbeats 1000000 in
theorem lg_constraintref03_SameAtoms (a_a0 : (List At)) (b_a1 : (List At)) (res : Bool) (hr : lf_constraintref03_SameAtoms a_a0 b_a1 = some res) : Gives Tryz.prog 147 [.lst (a_a0.map encA), .lst (b_a1.map encA)] (.bool res) := by
  unfold lf_constraintref03_SameAtoms at hr
  refine spec_env [(0, .lst (a_a0.map encA)), (1, .lst (b_a1.map encA))] Tryz.func147 rfl rfl fun K hK => ?_
  refine g_seq ?_
  refine g_run (by kernel_rfl) [(0, .d)] rfl ?_
  refine r_d rfl rfl rfl (s_assign rfl rfl) ?_
  refine r_end ?_
  refine g_seq ?_
  refine g_seq ?_
  refine g_run (by kernel_rfl) [(0, .d), (1, .d), (2, .d), (3, .d), (4, .d)] rfl ?_
  refine r_d rfl rfl rfl (s_move rfl rfl) ?_
  refine r_d rfl rfl rfl (m_len (f := encA) a_a0 rfl el_L_api_Atom rfl (asl rfl)) ?_
  refine r_d rfl rfl rfl (s_move rfl rfl) ?_
  refine r_d rfl rfl rfl (m_len (f := encA) b_a1 rfl el_L_api_Atom rfl (asl rfl)) ?_
  refine r_d rfl rfl rfl (s_cmp rfl rfl rfl rfl) ?_
  refine r_end ?_
  refine g_sB 10 rfl hr (fun h10_0 hr => ?_) (fun h10_0 hr => ?_)
  ·
   refine g_condT rfl ?_
   refine g_seq ?_
   refine g_run (by kernel_rfl) [(0, .d)] rfl ?_
   refine r_d rfl rfl rfl (s_assign rfl rfl) ?_
   refine r_end ?_
   obtain rfl := Option.some.inj hr
   refine g_ret Tryz.func147 _ (.cons (resTmp rfl (Wk.refl _)) .nil) ?_
   rfl
  ·
   refine g_condF rfl ?_
   refine g_skip ?_
   refine g_seq ?_
   refine g_seq ?_
   refine g_run (by kernel_rfl) [(0, .d)] rfl ?_
   refine r_d rfl rfl rfl (s_assign rfl rfl) ?_
   refine r_end ?_
   obtain ⟨kk0, hkk0, hr⟩ := exK (fun k => lf_constraintref03_SameAtoms_L0 k b_a1 a_a0 0) hr
   refine g_len 0 rfl (asl rfl) fun hla0 => ?_
   simp only [List.length_map] at hla0
   refine g_blockJ (fun env σ => env = [] ∧ σ = [] ∧ kk0 = some res) ?_ (fun HK0 => ?_)
   ·
    rintro _ _ ⟨rfl, rfl, hr⟩
    rw [hkk0] at hr
    refine g_seq ?_
    refine g_run (by kernel_rfl) [(0, .d)] rfl ?_
    refine r_d rfl rfl rfl (s_assign rfl rfl) ?_
    refine r_end ?_
    obtain rfl := Option.some.inj hr
    refine g_ret Tryz.func147 _ (.cons (resTmp rfl (Wk.refl _)) .nil) ?_
    rfl
   ·
    refine g_sub [(0, .lst (a_a0.map encA)), (1, .lst (b_a1.map encA)), (5, .int .i64 ((0 : Nat) : Int))] (Sub.cons' rfl (Sub.cons' rfl (Sub.cons' rfl (Sub.nil _)))) ?_
    refine g_loop (fun n env σ => ∃ (i_2 : Nat), (n = a_a0.length - i_2) ∧ (env = [(0, .lst (a_a0.map encA)), (1, .lst (b_a1.map encA)), (5, .int .i64 (i_2 : Int))]) ∧ (σ = []) ∧ (i_2 ≤ a_a0.length) ∧ (lf_constraintref03_SameAtoms_L0 kk0 b_a1 (a_a0.drop i_2) i_2 = some res)) _ ⟨0, rfl, rfl, rfl, Nat.zero_le _, hr⟩ ?_
    rintro n _ _ ⟨i_2, rfl, rfl, rfl, hi0, hr⟩ IH0
    rcases listStep a_a0 i_2 hi0 with ⟨ht0, hd0, he0⟩ | ⟨q_3, ht0, hd0, hq0, hlt0⟩
    ·
     rw [hd0, lf_constraintref03_SameAtoms_L0] at hr
     refine g_seq ?_
     refine g_seq ?_
     refine g_run (by kernel_rfl) [(0, .d), (1, .d), (2, .d), (3, .d), (4, .d), (5, .d), (6, .d), (7, .d), (8, .d), (9, .d)] rfl ?_
     refine r_d rfl rfl rfl (s_move rfl rfl) ?_
     refine r_d rfl rfl rfl (s_move rfl rfl) ?_
     refine r_d rfl rfl rfl (m_len (f := encA) a_a0 rfl el_L_api_Atom rfl (asl rfl)) ?_
     refine r_d rfl rfl rfl (s_cmp rfl rfl rfl rfl) ?_
     refine r_d rfl rfl rfl (s_move rfl rfl) ?_
     refine r_known 15 false rfl ht0 ?_
     refine r_skip rfl rfl rfl ?_
     refine r_skip rfl rfl rfl ?_
     refine r_skip rfl rfl rfl ?_
     refine r_skip rfl rfl rfl ?_
     refine r_d rfl rfl rfl (s_pickF rfl rfl rfl) ?_
     refine r_end ?_
     refine g_condF rfl ?_
     refine g_exit rfl ?_
     refine g_sub [] (Sub.nil _) ?_
     exact HK0 _ _ ⟨rfl, rfl, hr⟩
    ·
     rw [hd0, lf_constraintref03_SameAtoms_L0] at hr
     refine g_seq ?_
     refine g_seq ?_
     refine g_run (by kernel_rfl) [(0, .d), (1, .d), (2, .d), (3, .d), (4, .d), (5, .d), (6, .d), (7, .d), (8, .d), (9, .d)] rfl ?_
     refine r_d rfl rfl rfl (s_move rfl rfl) ?_
     refine r_d rfl rfl rfl (s_move rfl rfl) ?_
     refine r_d rfl rfl rfl (m_len (f := encA) a_a0 rfl el_L_api_Atom rfl (asl rfl)) ?_
     refine r_d rfl rfl rfl (s_cmp rfl rfl rfl rfl) ?_
     refine r_d rfl rfl rfl (s_move rfl rfl) ?_
     refine r_known 15 true rfl ht0 ?_
     refine r_d rfl rfl rfl (s_move rfl rfl) ?_
     refine r_d rfl rfl rfl (s_move rfl rfl) ?_
     refine r_d rfl rfl rfl (m_len (f := encA) b_a1 rfl el_L_api_Atom rfl (asl rfl)) ?_
     refine r_d rfl rfl rfl (s_cmp rfl rfl rfl rfl) ?_
     refine r_d rfl rfl rfl (s_pickT rfl rfl rfl) ?_
     refine r_end ?_
     refine g_sB 20 rfl hr (fun h20_3 hr => ?_) (fun h20_3 hr => ?_)
     ·
      refine g_condT rfl ?_
      refine g_skip ?_
      refine g_seq ?_
      refine g_block ?_
      refine g_seq ?_
      refine g_any (by kernel_rfl) (by kernel_rfl) [(0, .d), (1, .d), (2, .d), (3, .d), (4, .d), (5, .d), (6, .d), (7, .d), (8, .d), (9, .d)] (by kernel_rfl) ?_
      refine r_d rfl rfl rfl (s_move rfl rfl) ?_
      refine r_d rfl rfl rfl (s_move rfl rfl) ?_
      refine r_d rfl rfl rfl (m_index (f := encA) a_a0 rfl el_L_api_Atom rfl (asl rfl) rfl hq0 sz_encA rfl) ?_
      refine r_d rfl rfl rfl (s_load rfl rfl (by exact ty_api_Atom) (sz_encA _)) ?_
      refine r_d rfl rfl rfl (s_move rfl rfl) ?_
      refine r_d rfl rfl rfl (s_move rfl rfl) ?_
      obtain ⟨q_5, hq_5, hr⟩ := bindS hr
      refine r_d rfl rfl rfl (m_index (f := encA) b_a1 rfl el_L_api_Atom rfl (asl rfl) rfl hq_5 sz_encA rfl) ?_
      refine r_d rfl rfl rfl (s_load rfl rfl (by exact ty_api_Atom) (sz_encA _)) ?_
      obtain ⟨r_6, hr_6, hr⟩ := bindS hr
      refine r_d rfl rfl rfl (s_callD rfl cl_constraintref03_SameAtom (.cons rfl (Wk.refl _) (.cons rfl (Wk.refl _) .nil)) (lx_constraintref03_SameAtom _ _ _ hr_6)) ?_
      refine r_d rfl rfl rfl (s_not rfl rfl) ?_
      refine r_end ?_
      refine g_sB 32 rfl hr (fun h32_6 hr => ?_) (fun h32_6 hr => ?_)
      ·
       refine g_condT rfl ?_
       refine g_seq ?_
       refine g_run (by kernel_rfl) [(0, .d)] rfl ?_
       refine r_d rfl rfl rfl (s_assign rfl rfl) ?_
       refine r_end ?_
       obtain rfl := Option.some.inj hr
       refine g_ret Tryz.func147 _ (.cons (resTmp rfl (Wk.refl _)) .nil) ?_
       rfl
      ·
       refine g_condF rfl ?_
       refine g_skip ?_
       refine g_inBlock ?_
       refine g_run (by kernel_rfl) [(0, .d), (1, .d), (2, .d)] rfl ?_
       refine r_d rfl rfl rfl (s_move rfl rfl) ?_
       refine r_d rfl rfl rfl (s_ar (r := ((i_2 + 1 : Nat) : Int)) rfl rfl rfl (by simp [iar]) (by omega)) ?_
       refine r_d rfl rfl rfl (s_assign rfl rfl) ?_
       refine r_end ?_
       refine g_sub [(0, .lst (a_a0.map encA)), (1, .lst (b_a1.map encA)), (5, .int .i64 ((i_2 + 1 : Nat) : Int))] (Sub.cons' rfl (Sub.cons' rfl (Sub.cons' rfl (Sub.nil _)))) ?_
       exact IH0 _ _ _ (by omega) ⟨(i_2 + 1), rfl, rfl, rfl, (by omega), hr⟩
     ·
      refine g_condF rfl ?_
      refine g_exit rfl ?_
      refine g_sub [] (Sub.nil _) ?_
      exact HK0 _ _ ⟨rfl, rfl, hr⟩

noncomputable def lf_constraintref03_SameGoals_L0 (k : Option (Bool)) (b_a1 : (List Gl)) : List Gl → Nat → Option (Bool)
  | [], i_2 =>
  k
  | q_3 :: rest, i_2 =>
  (bif (decide ((i_2 : Int) < (b_a1.length : Int))) then
  ((getI b_a1 (i_2 : Int)).bind fun q_5 =>
  ((x_sameG q_3 q_5).bind fun r_6 =>
  (bif (!r_6) then
  some (false)
  else
  (lf_constraintref03_SameGoals_L0 k b_a1 rest (i_2 + 1)))))
  else
  k)
noncomputable def lf_constraintref03_SameGoals (a_a0 : (List Gl)) (b_a1 : (List Gl)) : Option (Bool) :=
  (bif ((a_a0.length : Int) != (b_a1.length : Int)) then
  some (false)
  else
  (lf_constraintref03_SameGoals_L0 (some (true)) b_a1 a_a0 0))

set_option maxHeartbeats 1000000 in
theorem lg_constraintref03_SameGoals (a_a0 : (List Gl)) (b_a1 : (List Gl)) (res : Bool) (hr : lf_constraintref03_SameGoals a_a0 b_a1 = some res) : Gives Tryz.prog 148 [.lst (a_a0.map encG), .lst (b_a1.map encG)] (.bool res) := by
  unfold lf_constraintref03_SameGoals at hr
  refine spec_env [(0, .lst (a_a0.map encG)), (1, .lst (b_a1.map encG))] Tryz.func148 rfl rfl fun K hK => ?_
  refine g_seq ?_
  refine g_run (by kernel_rfl) [(0, .d)] rfl ?_
  refine r_d rfl rfl rfl (s_assign rfl rfl) ?_
  refine r_end ?_
  refine g_seq ?_
  refine g_seq ?_
  refine g_run (by kernel_rfl) [(0, .d), (1, .d), (2, .d), (3, .d), (4, .d)] rfl ?_
  refine r_d rfl rfl rfl (s_move rfl rfl) ?_
  refine r_d rfl rfl rfl (m_len (f := encG) a_a0 rfl el_L_api_Goal rfl (asl rfl)) ?_
  refine r_d rfl rfl rfl (s_move rfl rfl) ?_
  refine r_d rfl rfl rfl (m_len (f := encG) b_a1 rfl el_L_api_Goal rfl (asl rfl)) ?_
  refine r_d rfl rfl rfl (s_cmp rfl rfl rfl rfl) ?_
  refine r_end ?_
  refine g_sB 10 rfl hr (fun h10_0 hr => ?_) (fun h10_0 hr => ?_)
  ·
   refine g_condT rfl ?_
   refine g_seq ?_
   refine g_run (by kernel_rfl) [(0, .d)] rfl ?_
   refine r_d rfl rfl rfl (s_assign rfl rfl) ?_
   refine r_end ?_
   obtain rfl := Option.some.inj hr
   refine g_ret Tryz.func148 _ (.cons (resTmp rfl (Wk.refl _)) .nil) ?_
   rfl
  ·
   refine g_condF rfl ?_
   refine g_skip ?_
   refine g_seq ?_
   refine g_seq ?_
   refine g_run (by kernel_rfl) [(0, .d)] rfl ?_
   refine r_d rfl rfl rfl (s_assign rfl rfl) ?_
   refine r_end ?_
   obtain ⟨kk0, hkk0, hr⟩ := exK (fun k => lf_constraintref03_SameGoals_L0 k b_a1 a_a0 0) hr
   refine g_len 0 rfl (asl rfl) fun hla0 => ?_
   simp only [List.length_map] at hla0
   refine g_blockJ (fun env σ => env = [] ∧ σ = [] ∧ kk0 = some res) ?_ (fun HK0 => ?_)
   ·
    rintro _ _ ⟨rfl, rfl, hr⟩
    rw [hkk0] at hr
    refine g_seq ?_
    refine g_run (by kernel_rfl) [(0, .d)] rfl ?_
    refine r_d rfl rfl rfl (s_assign rfl rfl) ?_
    refine r_end ?_
    obtain rfl := Option.some.inj hr
    refine g_ret Tryz.func148 _ (.cons (resTmp rfl (Wk.refl _)) .nil) ?_
    rfl
   ·
    refine g_sub [(0, .lst (a_a0.map encG)), (1, .lst (b_a1.map encG)), (5, .int .i64 ((0 : Nat) : Int))] (Sub.cons' rfl (Sub.cons' rfl (Sub.cons' rfl (Sub.nil _)))) ?_
    refine g_loop (fun n env σ => ∃ (i_2 : Nat), (n = a_a0.length - i_2) ∧ (env = [(0, .lst (a_a0.map encG)), (1, .lst (b_a1.map encG)), (5, .int .i64 (i_2 : Int))]) ∧ (σ = []) ∧ (i_2 ≤ a_a0.length) ∧ (lf_constraintref03_SameGoals_L0 kk0 b_a1 (a_a0.drop i_2) i_2 = some res)) _ ⟨0, rfl, rfl, rfl, Nat.zero_le _, hr⟩ ?_
    rintro n _ _ ⟨i_2, rfl, rfl, rfl, hi0, hr⟩ IH0
    rcases listStep a_a0 i_2 hi0 with ⟨ht0, hd0, he0⟩ | ⟨q_3, ht0, hd0, hq0, hlt0⟩
    ·
     rw [hd0, lf_constraintref03_SameGoals_L0] at hr
     refine g_seq ?_
     refine g_seq ?_
     refine g_run (by kernel_rfl) [(0, .d), (1, .d), (2, .d), (3, .d), (4, .d), (5, .d), (6, .d), (7, .d), (8, .d), (9, .d)] rfl ?_
     refine r_d rfl rfl rfl (s_move rfl rfl) ?_
     refine r_d rfl rfl rfl (s_move rfl rfl) ?_
     refine r_d rfl rfl rfl (m_len (f := encG) a_a0 rfl el_L_api_Goal rfl (asl rfl)) ?_
     refine r_d rfl rfl rfl (s_cmp rfl rfl rfl rfl) ?_
     refine r_d rfl rfl rfl (s_move rfl rfl) ?_
     refine r_known 15 false rfl ht0 ?_
     refine r_skip rfl rfl rfl ?_
     refine r_skip rfl rfl rfl ?_
     refine r_skip rfl rfl rfl ?_
     refine r_skip rfl rfl rfl ?_
     refine r_d rfl rfl rfl (s_pickF rfl rfl rfl) ?_
     refine r_end ?_
     refine g_condF rfl ?_
     refine g_exit rfl ?_
     refine g_sub [] (Sub.nil _) ?_
     exact HK0 _ _ ⟨rfl, rfl, hr⟩
    ·
     rw [hd0, lf_constraintref03_SameGoals_L0] at hr
     refine g_seq ?_
     refine g_seq ?_
     refine g_run (by kernel_rfl) [(0, .d), (1, .d), (2, .d), (3, .d), (4, .d), (5, .d), (6, .d), (7, .d), (8, .d), (9, .d)] rfl ?_
     refine r_d rfl rfl rfl (s_move rfl rfl) ?_
     refine r_d rfl rfl rfl (s_move rfl rfl) ?_
     refine r_d rfl rfl rfl (m_len (f := encG) a_a0 rfl el_L_api_Goal rfl (asl rfl)) ?_
     refine r_d rfl rfl rfl (s_cmp rfl rfl rfl rfl) ?_
     refine r_d rfl rfl rfl (s_move rfl rfl) ?_
     refine r_known 15 true rfl ht0 ?_
     refine r_d rfl rfl rfl (s_move rfl rfl) ?_
     refine r_d rfl rfl rfl (s_move rfl rfl) ?_
     refine r_d rfl rfl rfl (m_len (f := encG) b_a1 rfl el_L_api_Goal rfl (asl rfl)) ?_
     refine r_d rfl rfl rfl (s_cmp rfl rfl rfl rfl) ?_
     refine r_d rfl rfl rfl (s_pickT rfl rfl rfl) ?_
     refine r_end ?_
     refine g_sB 20 rfl hr (fun h20_3 hr => ?_) (fun h20_3 hr => ?_)
     ·
      refine g_condT rfl ?_
      refine g_skip ?_
      refine g_seq ?_
      refine g_block ?_
      refine g_seq ?_
      refine g_any (by kernel_rfl) (by kernel_rfl) [(0, .d), (1, .d), (2, .d), (3, .d), (4, .d), (5, .d), (6, .d), (7, .d), (8, .d), (9, .d)] (by kernel_rfl) ?_
      refine r_d rfl rfl rfl (s_move rfl rfl) ?_
      refine r_d rfl rfl rfl (s_move rfl rfl) ?_
      refine r_d rfl rfl rfl (m_index (f := encG) a_a0 rfl el_L_api_Goal rfl (asl rfl) rfl hq0 sz_encG rfl) ?_
      refine r_d rfl rfl rfl (s_load rfl rfl (by exact ty_api_Goal) (sz_encG _)) ?_
      refine r_d rfl rfl rfl (s_move rfl rfl) ?_
      refine r_d rfl rfl rfl (s_move rfl rfl) ?_
      obtain ⟨q_5, hq_5, hr⟩ := bindS hr
      refine r_d rfl rfl rfl (m_index (f := encG) b_a1 rfl el_L_api_Goal rfl (asl rfl) rfl hq_5 sz_encG rfl) ?_
      refine r_d rfl rfl rfl (s_load rfl rfl (by exact ty_api_Goal) (sz_encG _)) ?_
      obtain ⟨r_6, hr_6, hr⟩ := bindS hr
      refine r_d rfl rfl rfl (s_callD rfl cl_constraintref03_SameGoal (.cons rfl (Wk.refl _) (.cons rfl (Wk.refl _) .nil)) (lx_constraintref03_SameGoal _ _ _ hr_6)) ?_
      refine r_d rfl rfl rfl (s_not rfl rfl) ?_
      refine r_end ?_
      refine g_sB 32 rfl hr (fun h32_6 hr => ?_) (fun h32_6 hr => ?_)
      ·
       refine g_condT rfl ?_
       refine g_seq ?_
       refine g_run (by kernel_rfl) [(0, .d)] rfl ?_
       refine r_d rfl rfl rfl (s_assign rfl rfl) ?_
       refine r_end ?_
       obtain rfl := Option.some.inj hr
       refine g_ret Tryz.func148 _ (.cons (resTmp rfl (Wk.refl _)) .nil) ?_
       rfl
      ·
       refine g_condF rfl ?_
       refine g_skip ?_
       refine g_inBlock ?_
       refine g_run (by kernel_rfl) [(0, .d), (1, .d), (2, .d)] rfl ?_
       refine r_d rfl rfl rfl (s_move rfl rfl) ?_
       refine r_d rfl rfl rfl (s_ar (r := ((i_2 + 1 : Nat) : Int)) rfl rfl rfl (by simp [iar]) (by omega)) ?_
       refine r_d rfl rfl rfl (s_assign rfl rfl) ?_
       refine r_end ?_
       refine g_sub [(0, .lst (a_a0.map encG)), (1, .lst (b_a1.map encG)), (5, .int .i64 ((i_2 + 1 : Nat) : Int))] (Sub.cons' rfl (Sub.cons' rfl (Sub.cons' rfl (Sub.nil _)))) ?_
       exact IH0 _ _ _ (by omega) ⟨(i_2 + 1), rfl, rfl, rfl, (by omega), hr⟩
     ·
      refine g_condF rfl ?_
      refine g_exit rfl ?_
      refine g_sub [] (Sub.nil _) ?_
      exact HK0 _ _ ⟨rfl, rfl, hr⟩

noncomputable def lf_constraintref14_SameRule (a_a0 : S_api_Rule) (b_a1 : S_api_Rule) : Option (Bool) :=
  (bif (a_a0.f0_Name.toList == b_a1.f0_Name.toList) then
  (bif (a_a0.f5_Vars == b_a1.f5_Vars) then
  ((lf_constraintref03_SameAtoms a_a0.f1_Keep b_a1.f1_Keep).bind fun r_3 =>
  (bif r_3 then
  ((lf_constraintref03_SameAtoms a_a0.f2_Remove b_a1.f2_Remove).bind fun r_5 =>
  (bif r_5 then
  ((lf_constraintref03_SameGoals a_a0.f3_Guard b_a1.f3_Guard).bind fun r_7 =>
  (bif r_7 then
  ((lf_constraintref03_SameGoals a_a0.f4_Body b_a1.f4_Body).bind fun r_9 =>
  some (r_9))
  else
  some (false)))
  else
  some (false)))
  else
  some (false)))
  else
  some (false))
  else
  some (false))

set_option maxHeartbeats 1000000 in
theorem lg_constraintref14_SameRule (a_a0 : S_api_Rule) (b_a1 : S_api_Rule) (res : Bool) (hr : lf_constraintref14_SameRule a_a0 b_a1 = some res) : Gives Tryz.prog 54 [enc_S_api_Rule a_a0, enc_S_api_Rule b_a1] (.bool res) := by
  unfold lf_constraintref14_SameRule at hr
  refine spec_env [(0, enc_S_api_Rule a_a0), (1, enc_S_api_Rule b_a1)] Tryz.func54 rfl rfl fun K hK => ?_
  refine g_seq ?_
  refine g_run (by kernel_rfl) [(0, .d), (1, .d), (2, .d)] rfl ?_
  refine r_d rfl rfl rfl (s_box rfl rfl rfl) ?_
  refine r_d rfl rfl rfl (s_box rfl rfl rfl) ?_
  refine r_d rfl rfl rfl (s_assign rfl rfl) ?_
  refine r_end ?_
  refine g_seq ?_
  refine g_run (by kernel_rfl) [(0, .d), (1, .d), (2, .d), (3, .d), (4, .d), (5, .d), (6, .d), (7, .d), (8, .d), (9, .d), (10, .d), (11, .d), (12, .d), (13, .d), (14, .d), (15, .d), (16, .d), (17, .d), (18, .d), (19, .d), (20, .d), (21, .d), (22, .d), (23, .d), (24, .d), (25, .d), (26, .d), (27, .d), (28, .d), (29, .d), (30, .d), (31, .d), (32, .d), (33, .d), (34, .d), (35, .d), (36, .d), (37, .d), (38, .d), (39, .d), (40, .d)] rfl ?_
  refine r_d rfl rfl rfl (s_fieldAddr rfl fl_api_Rule_0 rfl rfl rfl rfl) ?_
  refine r_d rfl rfl rfl (s_load rfl rfl (by exact ty_string) rfl) ?_
  refine r_d rfl rfl rfl (s_fieldAddr rfl fl_api_Rule_0 rfl rfl rfl rfl) ?_
  refine r_d rfl rfl rfl (s_load rfl rfl (by exact ty_string) rfl) ?_
  refine r_d rfl rfl rfl (s_cmpS rfl rfl rfl rfl) ?_
  refine r_d rfl rfl rfl (s_move rfl rfl) ?_
  refine r_sB 10 rfl hr (fun h10_0 hr => ?_) (fun h10_0 hr => ?_)
  ·
   refine r_d rfl rfl rfl (s_fieldAddr rfl fl_api_Rule_5 rfl rfl rfl rfl) ?_
   refine r_d rfl rfl rfl (s_load rfl rfl (by exact ty_int) rfl) ?_
   refine r_d rfl rfl rfl (s_fieldAddr rfl fl_api_Rule_5 rfl rfl rfl rfl) ?_
   refine r_d rfl rfl rfl (s_load rfl rfl (by exact ty_int) rfl) ?_
   refine r_d rfl rfl rfl (s_cmp rfl rfl rfl rfl) ?_
   refine r_d rfl rfl rfl (s_pickT rfl rfl rfl) ?_
   refine r_d rfl rfl rfl (s_move rfl rfl) ?_
   refine r_sB 17 rfl hr (fun h17_1 hr => ?_) (fun h17_1 hr => ?_)
   ·
    refine r_d rfl rfl rfl (s_fieldAddr rfl fl_api_Rule_1 rfl rfl rfl rfl) ?_
    refine r_d rfl rfl rfl (s_load rfl rfl (by exact ty_L_api_Atom) rfl) ?_
    refine r_d rfl rfl rfl (s_fieldAddr rfl fl_api_Rule_1 rfl rfl rfl rfl) ?_
    refine r_d rfl rfl rfl (s_load rfl rfl (by exact ty_L_api_Atom) rfl) ?_
    obtain ⟨r_3, hr_3, hr⟩ := bindS hr
    refine r_d rfl rfl rfl (s_callD rfl cl_constraintref03_SameAtoms (.cons rfl (Wk.refl _) (.cons rfl (Wk.refl _) .nil)) (lg_constraintref03_SameAtoms _ _ _ hr_3)) ?_
    refine r_d rfl rfl rfl (s_pickT rfl rfl rfl) ?_
    refine r_d rfl rfl rfl (s_move rfl rfl) ?_
    refine r_sB 24 rfl hr (fun h24_3 hr => ?_) (fun h24_3 hr => ?_)
    ·
     refine r_d rfl rfl rfl (s_fieldAddr rfl fl_api_Rule_2 rfl rfl rfl rfl) ?_
     refine r_d rfl rfl rfl (s_load rfl rfl (by exact ty_L_api_Atom) rfl) ?_
     refine r_d rfl rfl rfl (s_fieldAddr rfl fl_api_Rule_2 rfl rfl rfl rfl) ?_
     refine r_d rfl rfl rfl (s_load rfl rfl (by exact ty_L_api_Atom) rfl) ?_
     obtain ⟨r_5, hr_5, hr⟩ := bindS hr
     refine r_d rfl rfl rfl (s_callD rfl cl_constraintref03_SameAtoms (.cons rfl (Wk.refl _) (.cons rfl (Wk.refl _) .nil)) (lg_constraintref03_SameAtoms _ _ _ hr_5)) ?_
     refine r_d rfl rfl rfl (s_pickT rfl rfl rfl) ?_
     refine r_d rfl rfl rfl (s_move rfl rfl) ?_
     refine r_sB 31 rfl hr (fun h31_5 hr => ?_) (fun h31_5 hr => ?_)
     ·
      refine r_d rfl rfl rfl (s_fieldAddr rfl fl_api_Rule_3 rfl rfl rfl rfl) ?_
      refine r_d rfl rfl rfl (s_load rfl rfl (by exact ty_L_api_Goal) rfl) ?_
      refine r_d rfl rfl rfl (s_fieldAddr rfl fl_api_Rule_3 rfl rfl rfl rfl) ?_
      refine r_d rfl rfl rfl (s_load rfl rfl (by exact ty_L_api_Goal) rfl) ?_
      obtain ⟨r_7, hr_7, hr⟩ := bindS hr
      refine r_d rfl rfl rfl (s_callD rfl cl_constraintref03_SameGoals (.cons rfl (Wk.refl _) (.cons rfl (Wk.refl _) .nil)) (lg_constraintref03_SameGoals _ _ _ hr_7)) ?_
      refine r_d rfl rfl rfl (s_pickT rfl rfl rfl) ?_
      refine r_d rfl rfl rfl (s_move rfl rfl) ?_
      refine r_sB 38 rfl hr (fun h38_7 hr => ?_) (fun h38_7 hr => ?_)
      ·
       refine r_d rfl rfl rfl (s_fieldAddr rfl fl_api_Rule_4 rfl rfl rfl rfl) ?_
       refine r_d rfl rfl rfl (s_load rfl rfl (by exact ty_L_api_Goal) rfl) ?_
       refine r_d rfl rfl rfl (s_fieldAddr rfl fl_api_Rule_4 rfl rfl rfl rfl) ?_
       refine r_d rfl rfl rfl (s_load rfl rfl (by exact ty_L_api_Goal) rfl) ?_
       obtain ⟨r_9, hr_9, hr⟩ := bindS hr
       refine r_d rfl rfl rfl (s_callD rfl cl_constraintref03_SameGoals (.cons rfl (Wk.refl _) (.cons rfl (Wk.refl _) .nil)) (lg_constraintref03_SameGoals _ _ _ hr_9)) ?_
       refine r_d rfl rfl rfl (s_pickT rfl rfl rfl) ?_
       refine r_d rfl rfl rfl (s_assign rfl rfl) ?_
       refine r_end ?_
       obtain rfl := Option.some.inj hr
       refine g_ret Tryz.func54 _ (.cons (resTmp rfl (Wk.refl _)) .nil) ?_
       rfl
      ·
       refine r_skip rfl rfl rfl ?_
       refine r_skip rfl rfl rfl ?_
       refine r_skip rfl rfl rfl ?_
       refine r_skip rfl rfl rfl ?_
       refine r_skip rfl rfl rfl ?_
       refine r_d rfl rfl rfl (s_pickF rfl rfl rfl) ?_
       refine r_d rfl rfl rfl (s_assign rfl rfl) ?_
       refine r_end ?_
       obtain rfl := Option.some.inj hr
       refine g_ret Tryz.func54 _ (.cons (resTmp rfl (Wk.refl _)) .nil) ?_
       rfl
     ·
      refine r_skip rfl rfl rfl ?_
      refine r_skip rfl rfl rfl ?_
      refine r_skip rfl rfl rfl ?_
      refine r_skip rfl rfl rfl ?_
      refine r_skip rfl rfl rfl ?_
      refine r_d rfl rfl rfl (s_pickF rfl rfl rfl) ?_
      refine r_d rfl rfl rfl (s_move rfl rfl) ?_
      refine r_skip rfl rfl rfl ?_
      refine r_skip rfl rfl rfl ?_
      refine r_skip rfl rfl rfl ?_
      refine r_skip rfl rfl rfl ?_
      refine r_skip rfl rfl rfl ?_
      refine r_d rfl rfl rfl (s_pickF rfl rfl rfl) ?_
      refine r_d rfl rfl rfl (s_assign rfl rfl) ?_
      refine r_end ?_
      obtain rfl := Option.some.inj hr
      refine g_ret Tryz.func54 _ (.cons (resTmp rfl (Wk.refl _)) .nil) ?_
      rfl
    ·
     refine r_skip rfl rfl rfl ?_
     refine r_skip rfl rfl rfl ?_
     refine r_skip rfl rfl rfl ?_
     refine r_skip rfl rfl rfl ?_
     refine r_skip rfl rfl rfl ?_
     refine r_d rfl rfl rfl (s_pickF rfl rfl rfl) ?_
     refine r_d rfl rfl rfl (s_move rfl rfl) ?_
     refine r_skip rfl rfl rfl ?_
     refine r_skip rfl rfl rfl ?_
     refine r_skip rfl rfl rfl ?_
     refine r_skip rfl rfl rfl ?_
     refine r_skip rfl rfl rfl ?_
     refine r_d rfl rfl rfl (s_pickF rfl rfl rfl) ?_
     refine r_d rfl rfl rfl (s_move rfl rfl) ?_
     refine r_skip rfl rfl rfl ?_
     refine r_skip rfl rfl rfl ?_
     refine r_skip rfl rfl rfl ?_
     refine r_skip rfl rfl rfl ?_
     refine r_skip rfl rfl rfl ?_
     refine r_d rfl rfl rfl (s_pickF rfl rfl rfl) ?_
     refine r_d rfl rfl rfl (s_assign rfl rfl) ?_
     refine r_end ?_
     obtain rfl := Option.some.inj hr
     refine g_ret Tryz.func54 _ (.cons (resTmp rfl (Wk.refl _)) .nil) ?_
     rfl
   ·
    refine r_skip rfl rfl rfl ?_
    refine r_skip rfl rfl rfl ?_
    refine r_skip rfl rfl rfl ?_
    refine r_skip rfl rfl rfl ?_
    refine r_skip rfl rfl rfl ?_
    refine r_d rfl rfl rfl (s_pickF rfl rfl rfl) ?_
    refine r_d rfl rfl rfl (s_move rfl rfl) ?_
    refine r_skip rfl rfl rfl ?_
    refine r_skip rfl rfl rfl ?_
    refine r_skip rfl rfl rfl ?_
    refine r_skip rfl rfl rfl ?_
    refine r_skip rfl rfl rfl ?_
    refine r_d rfl rfl rfl (s_pickF rfl rfl rfl) ?_
    refine r_d rfl rfl rfl (s_move rfl rfl) ?_
    refine r_skip rfl rfl rfl ?_
    refine r_skip rfl rfl rfl ?_
    refine r_skip rfl rfl rfl ?_
    refine r_skip rfl rfl rfl ?_
    refine r_skip rfl rfl rfl ?_
    refine r_d rfl rfl rfl (s_pickF rfl rfl rfl) ?_
    refine r_d rfl rfl rfl (s_move rfl rfl) ?_
    refine r_skip rfl rfl rfl ?_
    refine r_skip rfl rfl rfl ?_
    refine r_skip rfl rfl rfl ?_
    refine r_skip rfl rfl rfl ?_
    refine r_skip rfl rfl rfl ?_
    refine r_d rfl rfl rfl (s_pickF rfl rfl rfl) ?_
    refine r_d rfl rfl rfl (s_assign rfl rfl) ?_
    refine r_end ?_
    obtain rfl := Option.some.inj hr
    refine g_ret Tryz.func54 _ (.cons (resTmp rfl (Wk.refl _)) .nil) ?_
    rfl
  ·
   refine r_skip rfl rfl rfl ?_
   refine r_skip rfl rfl rfl ?_
   refine r_skip rfl rfl rfl ?_
   refine r_skip rfl rfl rfl ?_
   refine r_skip rfl rfl rfl ?_
   refine r_d rfl rfl rfl (s_pickF rfl rfl rfl) ?_
   refine r_d rfl rfl rfl (s_move rfl rfl) ?_
   refine r_skip rfl rfl rfl ?_
   refine r_skip rfl rfl rfl ?_
   refine r_skip rfl rfl rfl ?_
   refine r_skip rfl rfl rfl ?_
   refine r_skip rfl rfl rfl ?_
   refine r_d rfl rfl rfl (s_pickF rfl rfl rfl) ?_
   refine r_d rfl rfl rfl (s_move rfl rfl) ?_
   refine r_skip rfl rfl rfl ?_
   refine r_skip rfl rfl rfl ?_
   refine r_skip rfl rfl rfl ?_
   refine r_skip rfl rfl rfl ?_
   refine r_skip rfl rfl rfl ?_
   refine r_d rfl rfl rfl (s_pickF rfl rfl rfl) ?_
   refine r_d rfl rfl rfl (s_move rfl rfl) ?_
   refine r_skip rfl rfl rfl ?_
   refine r_skip rfl rfl rfl ?_
   refine r_skip rfl rfl rfl ?_
   refine r_skip rfl rfl rfl ?_
   refine r_skip rfl rfl rfl ?_
   refine r_d rfl rfl rfl (s_pickF rfl rfl rfl) ?_
   refine r_d rfl rfl rfl (s_move rfl rfl) ?_
   refine r_skip rfl rfl rfl ?_
   refine r_skip rfl rfl rfl ?_
   refine r_skip rfl rfl rfl ?_
   refine r_skip rfl rfl rfl ?_
   refine r_skip rfl rfl rfl ?_
   refine r_d rfl rfl rfl (s_pickF rfl rfl rfl) ?_
   refine r_d rfl rfl rfl (s_assign rfl rfl) ?_
   refine r_end ?_
   obtain rfl := Option.some.inj hr
   refine g_ret Tryz.func54 _ (.cons (resTmp rfl (Wk.refl _)) .nil) ?_
   rfl

noncomputable def lf_constraintref14_SameProgram_L1 (k : Option (Bool)) (b_a1 : S_api_Program) : List S_api_Rule → Nat → Option (Bool)
  | [], i_4 =>
  k
  | q_5 :: rest, i_4 =>
  ((getI b_a1.f1_Rules (i_4 : Int)).bind fun q_6 =>
  ((lf_constraintref14_SameRule q_5 q_6).bind fun r_7 =>
  (bif (!r_7) then
  some (false)
  else
  (lf_constraintref14_SameProgram_L1 k b_a1 rest (i_4 + 1)))))

noncomputable def lf_constraintref14_SameProgram_L0 (k : Option (Bool)) (b_a1 : S_api_Program) : List S_api_Decl → Nat → Option (Bool)
  | [], i_3 =>
  k
  | q_9 :: rest, i_3 =>
  ((getI b_a1.f0_Decls (i_3 : Int)).bind fun q_10 =>
  (bif (!(decide (q_9 = q_10))) then
  some (false)
  else
  (lf_constraintref14_SameProgram_L0 k b_a1 rest (i_3 + 1))))
noncomputable def lf_constraintref14_SameProgram (a_a0 : S_api_Program) (b_a1 : S_api_Program) : Option (Bool) :=
  (bif ((a_a0.f0_Decls.length : Int) != (b_a1.f0_Decls.length : Int)) then
  some (false)
  else
  (bif ((a_a0.f1_Rules.length : Int) != (b_a1.f1_Rules.length : Int)) then
  some (false)
  else
  (lf_constraintref14_SameProgram_L0 ((lf_constraintref14_SameProgram_L1 (some (true)) b_a1 a_a0.f1_Rules 0)) b_a1 a_a0.f0_Decls 0)))

set_option maxHeartbeats 1000000 in
theorem lg_constraintref14_SameProgram (a_a0 : S_api_Program) (b_a1 : S_api_Program) (res : Bool) (hr : lf_constraintref14_SameProgram a_a0 b_a1 = some res) : Gives Tryz.prog 15 [enc_S_api_Program a_a0, enc_S_api_Program b_a1] (.bool res) := by
  unfold lf_constraintref14_SameProgram at hr
  refine spec_env [(0, enc_S_api_Program a_a0), (1, enc_S_api_Program b_a1)] Tryz.func15 rfl rfl fun K hK => ?_
  refine g_seq ?_
  refine g_run (by kernel_rfl) [(0, .d), (1, .d), (2, .d)] rfl ?_
  refine r_d rfl rfl rfl (s_box rfl rfl rfl) ?_
  refine r_d rfl rfl rfl (s_box rfl rfl rfl) ?_
  refine r_d rfl rfl rfl (s_assign rfl rfl) ?_
  refine r_end ?_
  refine g_seq ?_
  refine g_seq ?_
  refine g_run (by kernel_rfl) [(0, .d), (1, .d), (2, .d), (3, .d), (4, .d), (5, .d), (6, .d), (7, .d), (8, .d), (9, .d), (10, .d), (11, .d), (12, .d), (13, .d), (14, .d), (15, .d)] rfl ?_
  refine r_d rfl rfl rfl (s_fieldAddr rfl fl_api_Program_0 rfl rfl rfl rfl) ?_
  refine r_d rfl rfl rfl (s_load rfl rfl (by exact ty_L_api_Decl) rfl) ?_
  refine r_d rfl rfl rfl (m_len (f := enc_S_api_Decl) a_a0.f0_Decls rfl el_L_api_Decl rfl (asl rfl)) ?_
  refine r_d rfl rfl rfl (s_fieldAddr rfl fl_api_Program_0 rfl rfl rfl rfl) ?_
  refine r_d rfl rfl rfl (s_load rfl rfl (by exact ty_L_api_Decl) rfl) ?_
  refine r_d rfl rfl rfl (m_len (f := enc_S_api_Decl) b_a1.f0_Decls rfl el_L_api_Decl rfl (asl rfl)) ?_
  refine r_d rfl rfl rfl (s_cmp rfl rfl rfl rfl) ?_
  refine r_d rfl rfl rfl (s_move rfl rfl) ?_
  refine r_sB 14 rfl hr (fun h14_0 hr => ?_) (fun h14_0 hr => ?_)
  ·
   refine r_skip rfl rfl rfl ?_
   refine r_skip rfl rfl rfl ?_
   refine r_skip rfl rfl rfl ?_
   refine r_skip rfl rfl rfl ?_
   refine r_skip rfl rfl rfl ?_
   refine r_skip rfl rfl rfl ?_
   refine r_skip rfl rfl rfl ?_
   refine r_d rfl rfl rfl (s_pickT rfl rfl rfl) ?_
   refine r_end ?_
   refine g_condT rfl ?_
   refine g_seq ?_
   refine g_run (by kernel_rfl) [(0, .d)] rfl ?_
   refine r_d rfl rfl rfl (s_assign rfl rfl) ?_
   refine r_end ?_
   obtain rfl := Option.some.inj hr
   refine g_ret Tryz.func15 _ (.cons (resTmp rfl (Wk.refl _)) .nil) ?_
   rfl
  ·
   refine r_d rfl rfl rfl (s_fieldAddr rfl fl_api_Program_1 rfl rfl rfl rfl) ?_
   refine r_d rfl rfl rfl (s_load rfl rfl (by exact ty_L_api_Rule) rfl) ?_
   refine r_d rfl rfl rfl (m_len (f := enc_S_api_Rule) a_a0.f1_Rules rfl el_L_api_Rule rfl (asl rfl)) ?_
   refine r_d rfl rfl rfl (s_fieldAddr rfl fl_api_Program_1 rfl rfl rfl rfl) ?_
   refine r_d rfl rfl rfl (s_load rfl rfl (by exact ty_L_api_Rule) rfl) ?_
   refine r_d rfl rfl rfl (m_len (f := enc_S_api_Rule) b_a1.f1_Rules rfl el_L_api_Rule rfl (asl rfl)) ?_
   refine r_d rfl rfl rfl (s_cmp rfl rfl rfl rfl) ?_
   refine r_d rfl rfl rfl (s_pickF rfl rfl rfl) ?_
   refine r_end ?_
   refine g_sB 22 rfl hr (fun h22_1 hr => ?_) (fun h22_1 hr => ?_)
   ·
    refine g_condT rfl ?_
    refine g_seq ?_
    refine g_run (by kernel_rfl) [(0, .d)] rfl ?_
    refine r_d rfl rfl rfl (s_assign rfl rfl) ?_
    refine r_end ?_
    obtain rfl := Option.some.inj hr
    refine g_ret Tryz.func15 _ (.cons (resTmp rfl (Wk.refl _)) .nil) ?_
    rfl
   ·
    refine g_condF rfl ?_
    refine g_skip ?_
    refine g_seq ?_
    refine g_seq ?_
    refine g_run (by kernel_rfl) [(0, .d)] rfl ?_
    refine r_d rfl rfl rfl (s_assign rfl rfl) ?_
    refine r_end ?_
    obtain ⟨kk0, hkk0, hr⟩ := exK (fun k => lf_constraintref14_SameProgram_L0 k b_a1 a_a0.f0_Decls 0) hr
    refine g_len 8 rfl (asl rfl) fun hla0 => ?_
    simp only [List.length_map] at hla0
    refine g_blockJ (fun env σ => env = [(2, .ptr (enc_S_api_Program a_a0)), (3, .ptr (enc_S_api_Program b_a1))] ∧ σ = [] ∧ kk0 = some res) ?_ (fun HK0 => ?_)
    ·
     rintro _ _ ⟨rfl, rfl, hr⟩
     rw [hkk0] at hr
     refine g_seq ?_
     refine g_seq ?_
     refine g_run (by kernel_rfl) [(0, .d)] rfl ?_
     refine r_d rfl rfl rfl (s_assign rfl rfl) ?_
     refine r_end ?_
     obtain ⟨kk1, hkk1, hr⟩ := exK (fun k => lf_constraintref14_SameProgram_L1 k b_a1 a_a0.f1_Rules 0) hr
     refine g_lenP 2 [1] (l := a_a0.f1_Rules.map enc_S_api_Rule) rfl rfl (asl rfl) fun hla1 => ?_
     simp only [List.length_map] at hla1
     refine g_blockJ (fun env σ => env = [] ∧ σ = [] ∧ kk1 = some res) ?_ (fun HK1 => ?_)
     ·
      rintro _ _ ⟨rfl, rfl, hr⟩
      rw [hkk1] at hr
      refine g_seq ?_
      refine g_run (by kernel_rfl) [(0, .d)] rfl ?_
      refine r_d rfl rfl rfl (s_assign rfl rfl) ?_
      refine r_end ?_
      obtain rfl := Option.some.inj hr
      refine g_ret Tryz.func15 _ (.cons (resTmp rfl (Wk.refl _)) .nil) ?_
      rfl
     ·
      refine g_sub [(2, .ptr (enc_S_api_Program a_a0)), (3, .ptr (enc_S_api_Program b_a1)), (6, .int .i64 ((0 : Nat) : Int))] (Sub.cons' rfl (Sub.cons' rfl (Sub.cons' rfl (Sub.nil _)))) ?_
      refine g_loop (fun n env σ => ∃ (i_4 : Nat), (n = a_a0.f1_Rules.length - i_4) ∧ (env = [(2, .ptr (enc_S_api_Program a_a0)), (3, .ptr (enc_S_api_Program b_a1)), (6, .int .i64 (i_4 : Int))]) ∧ (σ = []) ∧ (i_4 ≤ a_a0.f1_Rules.length) ∧ (lf_constraintref14_SameProgram_L1 kk1 b_a1 (a_a0.f1_Rules.drop i_4) i_4 = some res)) _ ⟨0, rfl, rfl, rfl, Nat.zero_le _, hr⟩ ?_
      rintro n _ _ ⟨i_4, rfl, rfl, rfl, hi1, hr⟩ IH1
      rcases listStep a_a0.f1_Rules i_4 hi1 with ⟨ht1, hd1, he1⟩ | ⟨q_5, ht1, hd1, hq1, hlt1⟩
      ·
       rw [hd1, lf_constraintref14_SameProgram_L1] at hr
       refine g_seq ?_
       refine g_seq ?_
       refine g_run (by kernel_rfl) [(0, .d), (1, .d), (2, .d), (3, .d), (4, .d)] rfl ?_
       refine r_d rfl rfl rfl (s_move rfl rfl) ?_
       refine r_d rfl rfl rfl (s_fieldAddr rfl fl_api_Program_1 rfl rfl rfl rfl) ?_
       refine r_d rfl rfl rfl (s_load rfl rfl (by exact ty_L_api_Rule) rfl) ?_
       refine r_d rfl rfl rfl (m_len (f := enc_S_api_Rule) a_a0.f1_Rules rfl el_L_api_Rule rfl (asl rfl)) ?_
       refine r_d rfl rfl rfl (s_cmp rfl rfl rfl rfl) ?_
       refine r_end ?_
       refine g_known 45 false rfl ht1 ?_
       refine g_condF rfl ?_
       refine g_exit rfl ?_
       refine g_sub [] (Sub.nil _) ?_
       exact HK1 _ _ ⟨rfl, rfl, hr⟩
      ·
       rw [hd1, lf_constraintref14_SameProgram_L1] at hr
       refine g_seq ?_
       refine g_seq ?_
       refine g_run (by kernel_rfl) [(0, .d), (1, .d), (2, .d), (3, .d), (4, .d)] rfl ?_
       refine r_d rfl rfl rfl (s_move rfl rfl) ?_
       refine r_d rfl rfl rfl (s_fieldAddr rfl fl_api_Program_1 rfl rfl rfl rfl) ?_
       refine r_d rfl rfl rfl (s_load rfl rfl (by exact ty_L_api_Rule) rfl) ?_
       refine r_d rfl rfl rfl (m_len (f := enc_S_api_Rule) a_a0.f1_Rules rfl el_L_api_Rule rfl (asl rfl)) ?_
       refine r_d rfl rfl rfl (s_cmp rfl rfl rfl rfl) ?_
       refine r_end ?_
       refine g_known 45 true rfl ht1 ?_
       refine g_condT rfl ?_
       refine g_skip ?_
       refine g_seq ?_
       refine g_block ?_
       refine g_seq ?_
       refine g_any (by kernel_rfl) (by kernel_rfl) [(0, .d), (1, .d), (2, .d), (3, .d), (4, .d), (5, .d), (6, .d), (7, .d), (8, .d), (9, .d), (10, .d), (11, .d)] (by kernel_rfl) ?_
       refine r_d rfl rfl rfl (s_fieldAddr rfl fl_api_Program_1 rfl rfl rfl rfl) ?_
       refine r_d rfl rfl rfl (s_load rfl rfl (by exact ty_L_api_Rule) rfl) ?_
       refine r_d rfl rfl rfl (s_move rfl rfl) ?_
       refine r_d rfl rfl rfl (m_index (f := enc_S_api_Rule) a_a0.f1_Rules rfl el_L_api_Rule rfl (asl rfl) rfl hq1 sz_S_api_Rule rfl) ?_
       refine r_d rfl rfl rfl (s_load rfl rfl (by exact ty_api_Rule) (sz_S_api_Rule _)) ?_
       refine r_d rfl rfl rfl (s_fieldAddr rfl fl_api_Program_1 rfl rfl rfl rfl) ?_
       refine r_d rfl rfl rfl (s_load rfl rfl (by exact ty_L_api_Rule) rfl) ?_
       refine r_d rfl rfl rfl (s_move rfl rfl) ?_
       obtain ⟨q_6, hq_6, hr⟩ := bindS hr
       refine r_d rfl rfl rfl (m_index (f := enc_S_api_Rule) b_a1.f1_Rules rfl el_L_api_Rule rfl (asl rfl) rfl hq_6 sz_S_api_Rule rfl) ?_
       refine r_d rfl rfl rfl (s_load rfl rfl (by exact ty_api_Rule) (sz_S_api_Rule _)) ?_
       obtain ⟨r_7, hr_7, hr⟩ := bindS hr
       refine r_d rfl rfl rfl (s_callD rfl cl_constraintref14_SameRule (.cons rfl (Wk.refl _) (.cons rfl (Wk.refl _) .nil)) (lg_constraintref14_SameRule _ _ _ hr_7)) ?_
       refine r_d rfl rfl rfl (s_not rfl rfl) ?_
       refine r_end ?_
       refine g_sB 59 rfl hr (fun h59_7 hr => ?_) (fun h59_7 hr => ?_)
       ·
        refine g_condT rfl ?_
        refine g_seq ?_
        refine g_run (by kernel_rfl) [(0, .d)] rfl ?_
        refine r_d rfl rfl rfl (s_assign rfl rfl) ?_
        refine r_end ?_
        obtain rfl := Option.some.inj hr
        refine g_ret Tryz.func15 _ (.cons (resTmp rfl (Wk.refl _)) .nil) ?_
        rfl
       ·
        refine g_condF rfl ?_
        refine g_skip ?_
        refine g_inBlock ?_
        refine g_run (by kernel_rfl) [(0, .d), (1, .d), (2, .d)] rfl ?_
        refine r_d rfl rfl rfl (s_move rfl rfl) ?_
        refine r_d rfl rfl rfl (s_ar (r := ((i_4 + 1 : Nat) : Int)) rfl rfl rfl (by simp [iar]) (by omega)) ?_
        refine r_d rfl rfl rfl (s_assign rfl rfl) ?_
        refine r_end ?_
        refine g_sub [(2, .ptr (enc_S_api_Program a_a0)), (3, .ptr (enc_S_api_Program b_a1)), (6, .int .i64 ((i_4 + 1 : Nat) : Int))] (Sub.cons' rfl (Sub.cons' rfl (Sub.cons' rfl (Sub.nil _)))) ?_
        exact IH1 _ _ _ (by omega) ⟨(i_4 + 1), rfl, rfl, rfl, (by omega), hr⟩
    ·
     refine g_sub [(2, .ptr (enc_S_api_Program a_a0)), (3, .ptr (enc_S_api_Program b_a1)), (5, .int .i64 ((0 : Nat) : Int))] (Sub.cons' rfl (Sub.cons' rfl (Sub.cons' rfl (Sub.nil _)))) ?_
     refine g_loop (fun n env σ => ∃ (i_3 : Nat), (n = a_a0.f0_Decls.length - i_3) ∧ (env = [(2, .ptr (enc_S_api_Program a_a0)), (3, .ptr (enc_S_api_Program b_a1)), (5, .int .i64 (i_3 : Int))]) ∧ (σ = []) ∧ (i_3 ≤ a_a0.f0_Decls.length) ∧ (lf_constraintref14_SameProgram_L0 kk0 b_a1 (a_a0.f0_Decls.drop i_3) i_3 = some res)) _ ⟨0, rfl, rfl, rfl, Nat.zero_le _, hr⟩ ?_
     rintro n _ _ ⟨i_3, rfl, rfl, rfl, hi0, hr⟩ IH0
     rcases listStep a_a0.f0_Decls i_3 hi0 with ⟨ht0, hd0, he0⟩ | ⟨q_9, ht0, hd0, hq0, hlt0⟩
     ·
      rw [hd0, lf_constraintref14_SameProgram_L0] at hr
      refine g_seq ?_
      refine g_seq ?_
      refine g_run (by kernel_rfl) [(0, .d), (1, .d), (2, .d), (3, .d), (4, .d)] rfl ?_
      refine r_d rfl rfl rfl (s_move rfl rfl) ?_
      refine r_d rfl rfl rfl (s_fieldAddr rfl fl_api_Program_0 rfl rfl rfl rfl) ?_
      refine r_d rfl rfl rfl (s_load rfl rfl (by exact ty_L_api_Decl) rfl) ?_
      refine r_d rfl rfl rfl (m_len (f := enc_S_api_Decl) a_a0.f0_Decls rfl el_L_api_Decl rfl (asl rfl)) ?_
      refine r_d rfl rfl rfl (s_cmp rfl rfl rfl rfl) ?_
      refine r_end ?_
      refine g_known 27 false rfl ht0 ?_
      refine g_condF rfl ?_
      refine g_exit rfl ?_
      refine g_sub [(2, .ptr (enc_S_api_Program a_a0)), (3, .ptr (enc_S_api_Program b_a1))] (Sub.cons' rfl (Sub.cons' rfl (Sub.nil _))) ?_
      exact HK0 _ _ ⟨rfl, rfl, hr⟩
     ·
      rw [hd0, lf_constraintref14_SameProgram_L0] at hr
      refine g_seq ?_
      refine g_seq ?_
      refine g_run (by kernel_rfl) [(0, .d), (1, .d), (2, .d), (3, .d), (4, .d)] rfl ?_
      refine r_d rfl rfl rfl (s_move rfl rfl) ?_
      refine r_d rfl rfl rfl (s_fieldAddr rfl fl_api_Program_0 rfl rfl rfl rfl) ?_
      refine r_d rfl rfl rfl (s_load rfl rfl (by exact ty_L_api_Decl) rfl) ?_
      refine r_d rfl rfl rfl (m_len (f := enc_S_api_Decl) a_a0.f0_Decls rfl el_L_api_Decl rfl (asl rfl)) ?_
      refine r_d rfl rfl rfl (s_cmp rfl rfl rfl rfl) ?_
      refine r_end ?_
      refine g_known 27 true rfl ht0 ?_
      refine g_condT rfl ?_
      refine g_skip ?_
      refine g_seq ?_
      refine g_block ?_
      refine g_seq ?_
      refine g_any (by kernel_rfl) (by kernel_rfl) [(0, .d), (1, .d), (2, .d), (3, .d), (4, .d), (5, .d), (6, .d), (7, .d), (8, .d), (9, .d), (10, .d)] (by kernel_rfl) ?_
      refine r_d rfl rfl rfl (s_fieldAddr rfl fl_api_Program_0 rfl rfl rfl rfl) ?_
      refine r_d rfl rfl rfl (s_load rfl rfl (by exact ty_L_api_Decl) rfl) ?_
      refine r_d rfl rfl rfl (s_move rfl rfl) ?_
      refine r_d rfl rfl rfl (m_index (f := enc_S_api_Decl) a_a0.f0_Decls rfl el_L_api_Decl rfl (asl rfl) rfl hq0 sz_S_api_Decl rfl) ?_
      refine r_d rfl rfl rfl (s_load rfl rfl (by exact ty_api_Decl) (sz_S_api_Decl _)) ?_
      refine r_d rfl rfl rfl (s_fieldAddr rfl fl_api_Program_0 rfl rfl rfl rfl) ?_
      refine r_d rfl rfl rfl (s_load rfl rfl (by exact ty_L_api_Decl) rfl) ?_
      refine r_d rfl rfl rfl (s_move rfl rfl) ?_
      obtain ⟨q_10, hq_10, hr⟩ := bindS hr
      refine r_d rfl rfl rfl (m_index (f := enc_S_api_Decl) b_a1.f0_Decls rfl el_L_api_Decl rfl (asl rfl) rfl hq_10 sz_S_api_Decl rfl) ?_
      refine r_d rfl rfl rfl (s_load rfl rfl (by exact ty_api_Decl) (sz_S_api_Decl _)) ?_
      refine r_d rfl rfl rfl (s_neT rfl wt_api_Decl rfl rfl) ?_
      refine r_end ?_
      refine g_sB 40 rfl hr (fun h40_10 hr => ?_) (fun h40_10 hr => ?_)
      ·
       refine g_condT rfl ?_
       refine g_seq ?_
       refine g_run (by kernel_rfl) [(0, .d)] rfl ?_
       refine r_d rfl rfl rfl (s_assign rfl rfl) ?_
       refine r_end ?_
       obtain rfl := Option.some.inj hr
       refine g_ret Tryz.func15 _ (.cons (resTmp rfl (Wk.refl _)) .nil) ?_
       rfl
      ·
       refine g_condF rfl ?_
       refine g_skip ?_
       refine g_inBlock ?_
       refine g_run (by kernel_rfl) [(0, .d), (1, .d), (2, .d)] rfl ?_
       refine r_d rfl rfl rfl (s_move rfl rfl) ?_
       refine r_d rfl rfl rfl (s_ar (r := ((i_3 + 1 : Nat) : Int)) rfl rfl rfl (by simp [iar]) (by omega)) ?_
       refine r_d rfl rfl rfl (s_assign rfl rfl) ?_
       refine r_end ?_
       refine g_sub [(2, .ptr (enc_S_api_Program a_a0)), (3, .ptr (enc_S_api_Program b_a1)), (5, .int .i64 ((i_3 + 1 : Nat) : Int))] (Sub.cons' rfl (Sub.cons' rfl (Sub.cons' rfl (Sub.nil _)))) ?_
       exact IH0 _ _ _ (by omega) ⟨(i_3 + 1), rfl, rfl, rfl, (by omega), hr⟩

noncomputable def lf_constraintlaw52_SnapshotPrograms_L0 (k : Option (Bool)) (fuel : Nat) : List S_api_Decl → Option (Bool)
  | [] =>
  k
  | q_22 :: rest =>
  (bif (decide ((q_22.f0_Name.size : Int) > (200 : Int))) then
  ((lf_constraintlaw52_exampleHolds fuel).bind fun r_24 =>
  some (r_24))
  else
  (lf_constraintlaw52_SnapshotPrograms_L0 k fuel rest))
noncomputable def lf_constraintlaw52_SnapshotPrograms (fuel : Nat) (p_a0 : S_api_Program) : Option (Bool) :=
  (bif (decide ((p_a0.f1_Rules.length : Int) > (50 : Int))) then
  ((lf_constraintlaw52_exampleHolds fuel).bind fun r_2 =>
  some (r_2))
  else
  (bif (decide ((p_a0.f0_Decls.length : Int) > (50 : Int))) then
  ((lf_constraintlaw52_exampleHolds fuel).bind fun r_4 =>
  some (r_4))
  else
  ((lf_constraintref03_GreatRules p_a0.f1_Rules 200).bind fun r_5 =>
  (bif r_5 then
  ((lf_constraintlaw52_exampleHolds fuel).bind fun r_7 =>
  some (r_7))
  else
  (lf_constraintlaw52_SnapshotPrograms_L0 (((lf_snapshot_Program fuel p_a0).bind fun r_9 =>
  ((lf_constraintref52_Program fuel p_a0).bind fun r_10 =>
  ((lf_constraintlaw52_same r_9 r_10).bind fun r_11 =>
  (bif (!r_11) then
  some (false)
  else
  ((lf_snapshot_TakeProgram fuel r_9).bind fun r_13 =>
  (bif ((r_9.length : Int) == (0 : Int)) then
  (bif (r_13.2 == (4 : Int)) then
  ((lf_constraintlaw52_exampleHolds fuel).bind fun r_17 =>
  some (r_17))
  else
  some (false))
  else
  (bif (r_13.2 == (0 : Int)) then
  ((lf_constraintref14_SameProgram p_a0 r_13.1).bind fun r_19 =>
  (bif r_19 then
  ((lf_constraintlaw52_exampleHolds fuel).bind fun r_21 =>
  some (r_21))
  else
  some (false)))
  else
  some (false))))))))) fuel p_a0.f0_Decls)))))

set_option maxHeartbeats 1000000 in
theorem lg_constraintlaw52_SnapshotPrograms (fuel : Nat) (p_a0 : S_api_Program) (res : Bool) (hr : lf_constraintlaw52_SnapshotPrograms fuel p_a0 = some res) : Gives Tryz.prog 3 [enc_S_api_Program p_a0] (.bool res) := by
  unfold lf_constraintlaw52_SnapshotPrograms at hr
  refine spec_env [(0, enc_S_api_Program p_a0)] Tryz.func3 rfl rfl fun K hK => ?_
  refine g_seq ?_
  refine g_run (by kernel_rfl) [(0, .d), (1, .d)] rfl ?_
  refine r_d rfl rfl rfl (s_box rfl rfl rfl) ?_
  refine r_d rfl rfl rfl (s_assign rfl rfl) ?_
  refine r_end ?_
  refine g_seq ?_
  refine g_seq ?_
  refine g_run (by kernel_rfl) [(0, .d), (1, .d), (2, .d), (3, .d), (4, .d), (5, .d), (6, .d), (7, .d), (8, .d), (9, .d), (10, .d), (11, .d), (12, .d), (13, .d), (14, .d)] rfl ?_
  refine r_d rfl rfl rfl (s_fieldAddr rfl fl_api_Program_1 rfl rfl rfl rfl) ?_
  refine r_d rfl rfl rfl (s_load rfl rfl (by exact ty_L_api_Rule) rfl) ?_
  refine r_d rfl rfl rfl (m_len (f := enc_S_api_Rule) p_a0.f1_Rules rfl el_L_api_Rule rfl (asl rfl)) ?_
  refine r_d rfl rfl rfl (s_cmp rfl rfl rfl rfl) ?_
  refine r_d rfl rfl rfl (s_move rfl rfl) ?_
  refine r_sB 11 rfl hr (fun h11_0 hr => ?_) (fun h11_0 hr => ?_)
  ·
   refine r_skip rfl rfl rfl ?_
   refine r_skip rfl rfl rfl ?_
   refine r_skip rfl rfl rfl ?_
   refine r_skip rfl rfl rfl ?_
   refine r_d rfl rfl rfl (s_pickT rfl rfl rfl) ?_
   refine r_d rfl rfl rfl (s_move rfl rfl) ?_
   refine r_skip rfl rfl rfl ?_
   refine r_skip rfl rfl rfl ?_
   refine r_skip rfl rfl rfl ?_
   refine r_d rfl rfl rfl (s_pickT rfl rfl rfl) ?_
   refine r_end ?_
   refine g_condT rfl ?_
   refine g_seq ?_
   refine g_run (by kernel_rfl) [(0, .d), (1, .d)] rfl ?_
   obtain ⟨r_2, hr_2, hr⟩ := bindS hr
   refine r_d rfl rfl rfl (s_callD rfl cl_constraintlaw52_exampleHolds .nil (lg_constraintlaw52_exampleHolds fuel _ hr_2)) ?_
   refine r_d rfl rfl rfl (s_assign rfl rfl) ?_
   refine r_end ?_
   obtain rfl := Option.some.inj hr
   refine g_ret Tryz.func3 _ (.cons (resTmp rfl (Wk.refl _)) .nil) ?_
   rfl
  ·
   refine r_d rfl rfl rfl (s_fieldAddr rfl fl_api_Program_0 rfl rfl rfl rfl) ?_
   refine r_d rfl rfl rfl (s_load rfl rfl (by exact ty_L_api_Decl) rfl) ?_
   refine r_d rfl rfl rfl (m_len (f := enc_S_api_Decl) p_a0.f0_Decls rfl el_L_api_Decl rfl (asl rfl)) ?_
   refine r_d rfl rfl rfl (s_cmp rfl rfl rfl rfl) ?_
   refine r_d rfl rfl rfl (s_pickF rfl rfl rfl) ?_
   refine r_d rfl rfl rfl (s_move rfl rfl) ?_
   refine r_sB 17 rfl hr (fun h17_2 hr => ?_) (fun h17_2 hr => ?_)
   ·
    refine r_skip rfl rfl rfl ?_
    refine r_skip rfl rfl rfl ?_
    refine r_skip rfl rfl rfl ?_
    refine r_d rfl rfl rfl (s_pickT rfl rfl rfl) ?_
    refine r_end ?_
    refine g_condT rfl ?_
    refine g_seq ?_
    refine g_run (by kernel_rfl) [(0, .d), (1, .d)] rfl ?_
    obtain ⟨r_4, hr_4, hr⟩ := bindS hr
    refine r_d rfl rfl rfl (s_callD rfl cl_constraintlaw52_exampleHolds .nil (lg_constraintlaw52_exampleHolds fuel _ hr_4)) ?_
    refine r_d rfl rfl rfl (s_assign rfl rfl) ?_
    refine r_end ?_
    obtain rfl := Option.some.inj hr
    refine g_ret Tryz.func3 _ (.cons (resTmp rfl (Wk.refl _)) .nil) ?_
    rfl
   ·
    refine r_d rfl rfl rfl (s_fieldAddr rfl fl_api_Program_1 rfl rfl rfl rfl) ?_
    refine r_d rfl rfl rfl (s_load rfl rfl (by exact ty_L_api_Rule) rfl) ?_
    obtain ⟨r_5, hr_5, hr⟩ := bindS hr
    refine r_d rfl rfl rfl (s_callD rfl cl_constraintref03_GreatRules (.cons rfl (Wk.refl _) (.cons rfl (Wk.refl _) .nil)) (lg_constraintref03_GreatRules _ _ _ hr_5)) ?_
    refine r_d rfl rfl rfl (s_pickF rfl rfl rfl) ?_
    refine r_end ?_
    refine g_sB 21 rfl hr (fun h21_5 hr => ?_) (fun h21_5 hr => ?_)
    ·
     refine g_condT rfl ?_
     refine g_seq ?_
     refine g_run (by kernel_rfl) [(0, .d), (1, .d)] rfl ?_
     obtain ⟨r_7, hr_7, hr⟩ := bindS hr
     refine r_d rfl rfl rfl (s_callD rfl cl_constraintlaw52_exampleHolds .nil (lg_constraintlaw52_exampleHolds fuel _ hr_7)) ?_
     refine r_d rfl rfl rfl (s_assign rfl rfl) ?_
     refine r_end ?_
     obtain rfl := Option.some.inj hr
     refine g_ret Tryz.func3 _ (.cons (resTmp rfl (Wk.refl _)) .nil) ?_
     rfl
    ·
     refine g_condF rfl ?_
     refine g_skip ?_
     refine g_seq ?_
     refine g_seq ?_
     refine g_run (by kernel_rfl) [(0, .d)] rfl ?_
     refine r_d rfl rfl rfl (s_assign rfl rfl) ?_
     refine r_end ?_
     obtain ⟨kk0, hkk0, hr⟩ := exK (fun k => lf_constraintlaw52_SnapshotPrograms_L0 k fuel p_a0.f0_Decls) hr
     refine g_len 13 rfl (asl rfl) fun hla0 => ?_
     simp only [List.length_map] at hla0
     refine g_blockJ (fun env σ => env = [(1, .ptr (enc_S_api_Program p_a0))] ∧ σ = [] ∧ kk0 = some res) ?_ (fun HK0 => ?_)
     ·
      rintro _ _ ⟨rfl, rfl, hr⟩
      rw [hkk0] at hr
      refine g_seq ?_
      refine g_run (by kernel_rfl) [(0, .d), (1, .d), (2, .d)] rfl ?_
      refine r_d rfl rfl rfl (s_load rfl rfl (by exact ty_api_Program) (sz_S_api_Program _)) ?_
      obtain ⟨r_9, hr_9, hr⟩ := bindS hr
      refine r_d rfl rfl rfl (s_callD rfl cl_snapshot_Program (.cons rfl (Wk.refl _) .nil) (lg_snapshot_Program fuel _ _ hr_9)) ?_
      refine r_d rfl rfl rfl (s_assign rfl rfl) ?_
      refine r_end ?_
      refine g_seq ?_
      refine g_seq ?_
      refine g_run (by kernel_rfl) [(0, .d), (1, .d), (2, .d), (3, .d), (4, .d)] rfl ?_
      refine r_d rfl rfl rfl (s_move rfl rfl) ?_
      refine r_d rfl rfl rfl (s_load rfl rfl (by exact ty_api_Program) (sz_S_api_Program _)) ?_
      obtain ⟨r_10, hr_10, hr⟩ := bindS hr
      refine r_d rfl rfl rfl (s_callD rfl cl_constraintref52_Program (.cons rfl (Wk.refl _) .nil) (lg_constraintref52_Program fuel _ _ hr_10)) ?_
      obtain ⟨r_11, hr_11, hr⟩ := bindS hr
      refine r_d rfl rfl rfl (s_callD rfl cl_constraintlaw52_same (.cons rfl (Wk.refl _) (.cons rfl (Wk.refl _) .nil)) (lg_constraintlaw52_same _ _ _ hr_11)) ?_
      refine r_d rfl rfl rfl (s_not rfl rfl) ?_
      refine r_end ?_
      refine g_sB 45 rfl hr (fun h45_11 hr => ?_) (fun h45_11 hr => ?_)
      ·
       refine g_condT rfl ?_
       refine g_seq ?_
       refine g_run (by kernel_rfl) [(0, .d)] rfl ?_
       refine r_d rfl rfl rfl (s_assign rfl rfl) ?_
       refine r_end ?_
       obtain rfl := Option.some.inj hr
       refine g_ret Tryz.func3 _ (.cons (resTmp rfl (Wk.refl _)) .nil) ?_
       rfl
      ·
       refine g_condF rfl ?_
       refine g_skip ?_
       refine g_seq ?_
       refine g_run (by kernel_rfl) [(0, .d), (1, .d), (2, .d), (3, .d), (4, .d), (5, .w), (6, .w), (7, .d)] rfl ?_
       refine r_d rfl rfl rfl (s_move rfl rfl) ?_
       obtain ⟨r_13, hr_13, hr⟩ := bindS hr
       refine r_d rfl rfl rfl (s_callD rfl cl_snapshot_TakeProgram (.cons rfl (Wk.refl _) .nil) (lg_snapshot_TakeProgram fuel _ _ hr_13)) ?_
       refine r_d rfl rfl rfl (s_move rfl rfl) ?_
       refine r_d rfl rfl rfl (s_extract rfl rfl rfl) ?_
       refine r_d rfl rfl rfl (s_extract rfl rfl rfl) ?_
       refine r_w rfl rfl rfl (s_alloc rfl zv_api_Program) ?_
       rintro _ _ ⟨b5_13, rfl, rfl⟩
       refine r_w01 rfl rfl rfl (t_store0 _ rfl rfl rfl (Wk.refl _) (pf0 _) (by exact ty_api_Program) (sz_S_api_Program _) rfl rfl) ?_
       refine r_d rfl rfl rfl (s_assign rfl rfl) ?_
       refine r_end ?_
       refine g_freeze 5 b5_13 rfl (pf0 _) ?_
       refine g_seq ?_
       refine g_seq ?_
       refine g_run (by kernel_rfl) [(0, .d), (1, .d), (2, .d)] rfl ?_
       refine r_d rfl rfl rfl (s_move rfl rfl) ?_
       refine r_d rfl rfl rfl (m_len (f := (D.int .u8)) r_9 rfl el_L_uint8 rfl (asl rfl)) ?_
       refine r_d rfl rfl rfl (s_cmp rfl rfl rfl rfl) ?_
       refine r_end ?_
       refine g_sB 53 rfl hr (fun h53_14 hr => ?_) (fun h53_14 hr => ?_)
       ·
        refine g_condT rfl ?_
        refine g_seq ?_
        refine g_run (by kernel_rfl) [(0, .d), (1, .d), (2, .d), (3, .d), (4, .d), (5, .d)] rfl ?_
        refine r_d rfl rfl rfl (s_move rfl rfl) ?_
        refine r_d rfl rfl rfl (s_cmp rfl rfl rfl rfl) ?_
        refine r_d rfl rfl rfl (s_move rfl rfl) ?_
        refine r_sB 56 rfl hr (fun h56_15 hr => ?_) (fun h56_15 hr => ?_)
        ·
         obtain ⟨r_17, hr_17, hr⟩ := bindS hr
         refine r_d rfl rfl rfl (s_callD rfl cl_constraintlaw52_exampleHolds .nil (lg_constraintlaw52_exampleHolds fuel _ hr_17)) ?_
         refine r_d rfl rfl rfl (s_pickT rfl rfl rfl) ?_
         refine r_d rfl rfl rfl (s_assign rfl rfl) ?_
         refine r_end ?_
         obtain rfl := Option.some.inj hr
         refine g_ret Tryz.func3 _ (.cons (resTmp rfl (Wk.refl _)) .nil) ?_
         rfl
        ·
         refine r_skip rfl rfl rfl ?_
         refine r_d rfl rfl rfl (s_pickF rfl rfl rfl) ?_
         refine r_d rfl rfl rfl (s_assign rfl rfl) ?_
         refine r_end ?_
         obtain rfl := Option.some.inj hr
         refine g_ret Tryz.func3 _ (.cons (resTmp rfl (Wk.refl _)) .nil) ?_
         rfl
       ·
        refine g_condF rfl ?_
        refine g_skip ?_
        refine g_seq ?_
        refine g_run (by kernel_rfl) [(0, .d), (1, .d), (2, .d), (3, .d), (4, .d), (5, .d), (6, .d), (7, .d), (8, .d), (9, .d), (10, .d)] rfl ?_
        refine r_d rfl rfl rfl (s_move rfl rfl) ?_
        refine r_d rfl rfl rfl (s_cmp rfl rfl rfl rfl) ?_
        refine r_d rfl rfl rfl (s_move rfl rfl) ?_
        refine r_sB 61 rfl hr (fun h61_17 hr => ?_) (fun h61_17 hr => ?_)
        ·
         refine r_d rfl rfl rfl (s_load rfl rfl (by exact ty_api_Program) (sz_S_api_Program _)) ?_
         refine r_d rfl rfl rfl (s_load rfl rfl (by exact ty_api_Program) (sz_S_api_Program _)) ?_
         obtain ⟨r_19, hr_19, hr⟩ := bindS hr
         refine r_d rfl rfl rfl (s_callD rfl cl_constraintref14_SameProgram (.cons rfl (Wk.refl _) (.cons rfl (Wk.refl _) .nil)) (lg_constraintref14_SameProgram _ _ _ hr_19)) ?_
         refine r_d rfl rfl rfl (s_pickT rfl rfl rfl) ?_
         refine r_d rfl rfl rfl (s_move rfl rfl) ?_
         refine r_sB 66 rfl hr (fun h66_19 hr => ?_) (fun h66_19 hr => ?_)
         ·
          obtain ⟨r_21, hr_21, hr⟩ := bindS hr
          refine r_d rfl rfl rfl (s_callD rfl cl_constraintlaw52_exampleHolds .nil (lg_constraintlaw52_exampleHolds fuel _ hr_21)) ?_
          refine r_d rfl rfl rfl (s_pickT rfl rfl rfl) ?_
          refine r_d rfl rfl rfl (s_assign rfl rfl) ?_
          refine r_end ?_
          obtain rfl := Option.some.inj hr
          refine g_ret Tryz.func3 _ (.cons (resTmp rfl (Wk.refl _)) .nil) ?_
          rfl
         ·
          refine r_skip rfl rfl rfl ?_
          refine r_d rfl rfl rfl (s_pickF rfl rfl rfl) ?_
          refine r_d rfl rfl rfl (s_assign rfl rfl) ?_
          refine r_end ?_
          obtain rfl := Option.some.inj hr
          refine g_ret Tryz.func3 _ (.cons (resTmp rfl (Wk.refl _)) .nil) ?_
          rfl
        ·
         refine r_skip rfl rfl rfl ?_
         refine r_skip rfl rfl rfl ?_
         refine r_skip rfl rfl rfl ?_
         refine r_d rfl rfl rfl (s_pickF rfl rfl rfl) ?_
         refine r_d rfl rfl rfl (s_move rfl rfl) ?_
         refine r_skip rfl rfl rfl ?_
         refine r_d rfl rfl rfl (s_pickF rfl rfl rfl) ?_
         refine r_d rfl rfl rfl (s_assign rfl rfl) ?_
         refine r_end ?_
         obtain rfl := Option.some.inj hr
         refine g_ret Tryz.func3 _ (.cons (resTmp rfl (Wk.refl _)) .nil) ?_
         rfl
     ·
      refine g_sub [(1, .ptr (enc_S_api_Program p_a0)), (3, .int .i64 ((0 : Nat) : Int))] (Sub.cons' rfl (Sub.cons' rfl (Sub.nil _))) ?_
      refine g_loop (fun n env σ => ∃ (i_8 : Nat), (n = p_a0.f0_Decls.length - i_8) ∧ (env = [(1, .ptr (enc_S_api_Program p_a0)), (3, .int .i64 (i_8 : Int))]) ∧ (σ = []) ∧ (i_8 ≤ p_a0.f0_Decls.length) ∧ (lf_constraintlaw52_SnapshotPrograms_L0 kk0 fuel (p_a0.f0_Decls.drop i_8) = some res)) _ ⟨0, rfl, rfl, rfl, Nat.zero_le _, hr⟩ ?_
      rintro n _ _ ⟨i_8, rfl, rfl, rfl, hi0, hr⟩ IH0
      rcases listStep p_a0.f0_Decls i_8 hi0 with ⟨ht0, hd0, he0⟩ | ⟨q_22, ht0, hd0, hq0, hlt0⟩
      ·
       rw [hd0, lf_constraintlaw52_SnapshotPrograms_L0] at hr
       refine g_seq ?_
       refine g_seq ?_
       refine g_run (by kernel_rfl) [(0, .d), (1, .d), (2, .d), (3, .d), (4, .d)] rfl ?_
       refine r_d rfl rfl rfl (s_move rfl rfl) ?_
       refine r_d rfl rfl rfl (s_fieldAddr rfl fl_api_Program_0 rfl rfl rfl rfl) ?_
       refine r_d rfl rfl rfl (s_load rfl rfl (by exact ty_L_api_Decl) rfl) ?_
       refine r_d rfl rfl rfl (m_len (f := enc_S_api_Decl) p_a0.f0_Decls rfl el_L_api_Decl rfl (asl rfl)) ?_
       refine r_d rfl rfl rfl (s_cmp rfl rfl rfl rfl) ?_
       refine r_end ?_
       refine g_known 27 false rfl ht0 ?_
       refine g_condF rfl ?_
       refine g_exit rfl ?_
       refine g_sub [(1, .ptr (enc_S_api_Program p_a0))] (Sub.cons' rfl (Sub.nil _)) ?_
       exact HK0 _ _ ⟨rfl, rfl, hr⟩
      ·
       rw [hd0, lf_constraintlaw52_SnapshotPrograms_L0] at hr
       refine g_seq ?_
       refine g_seq ?_
       refine g_run (by kernel_rfl) [(0, .d), (1, .d), (2, .d), (3, .d), (4, .d)] rfl ?_
       refine r_d rfl rfl rfl (s_move rfl rfl) ?_
       refine r_d rfl rfl rfl (s_fieldAddr rfl fl_api_Program_0 rfl rfl rfl rfl) ?_
       refine r_d rfl rfl rfl (s_load rfl rfl (by exact ty_L_api_Decl) rfl) ?_
       refine r_d rfl rfl rfl (m_len (f := enc_S_api_Decl) p_a0.f0_Decls rfl el_L_api_Decl rfl (asl rfl)) ?_
       refine r_d rfl rfl rfl (s_cmp rfl rfl rfl rfl) ?_
       refine r_end ?_
       refine g_known 27 true rfl ht0 ?_
       refine g_condT rfl ?_
       refine g_skip ?_
       refine g_seq ?_
       refine g_block ?_
       refine g_seq ?_
       refine g_run (by kernel_rfl) [(0, .d), (1, .d), (2, .d), (3, .d), (4, .d), (5, .d), (6, .d), (7, .d)] rfl ?_
       refine r_d rfl rfl rfl (s_fieldAddr rfl fl_api_Program_0 rfl rfl rfl rfl) ?_
       refine r_d rfl rfl rfl (s_load rfl rfl (by exact ty_L_api_Decl) rfl) ?_
       refine r_d rfl rfl rfl (s_move rfl rfl) ?_
       refine r_d rfl rfl rfl (m_index (f := enc_S_api_Decl) p_a0.f0_Decls rfl el_L_api_Decl rfl (asl rfl) rfl hq0 sz_S_api_Decl rfl) ?_
       refine r_d rfl rfl rfl (s_fieldAddr rfl fl_api_Decl_0 rfl rfl rfl rfl) ?_
       refine r_d rfl rfl rfl (s_load rfl rfl (by exact ty_string) rfl) ?_
       refine r_d rfl rfl rfl (s_lenS rfl Tryz.underlying9 rfl) ?_
       refine r_d rfl rfl rfl (s_cmp rfl rfl rfl rfl) ?_
       refine r_end ?_
       refine g_sB 37 rfl hr (fun h37_22 hr => ?_) (fun h37_22 hr => ?_)
       ·
        refine g_condT rfl ?_
        refine g_seq ?_
        refine g_run (by kernel_rfl) [(0, .d), (1, .d)] rfl ?_
        obtain ⟨r_24, hr_24, hr⟩ := bindS hr
        refine r_d rfl rfl rfl (s_callD rfl cl_constraintlaw52_exampleHolds .nil (lg_constraintlaw52_exampleHolds fuel _ hr_24)) ?_
        refine r_d rfl rfl rfl (s_assign rfl rfl) ?_
        refine r_end ?_
        obtain rfl := Option.some.inj hr
        refine g_ret Tryz.func3 _ (.cons (resTmp rfl (Wk.refl _)) .nil) ?_
        rfl
       ·
        refine g_condF rfl ?_
        refine g_skip ?_
        refine g_inBlock ?_
        refine g_run (by kernel_rfl) [(0, .d), (1, .d), (2, .d)] rfl ?_
        refine r_d rfl rfl rfl (s_move rfl rfl) ?_
        refine r_d rfl rfl rfl (s_ar (r := ((i_8 + 1 : Nat) : Int)) rfl rfl rfl (by simp [iar]) (by omega)) ?_
        refine r_d rfl rfl rfl (s_assign rfl rfl) ?_
        refine r_end ?_
        refine g_sub [(1, .ptr (enc_S_api_Program p_a0)), (3, .int .i64 ((i_8 + 1 : Nat) : Int))] (Sub.cons' rfl (Sub.cons' rfl (Sub.nil _))) ?_
        exact IH0 _ _ _ (by omega) ⟨(i_8 + 1), rfl, rfl, rfl, (by omega), hr⟩

end Go.Proofs.YtdoljfkjdfaakaaGreat


namespace Go.Proofs.YtdoljfkjdfaakaaGreat
set_option maxRecDepth 100000
open Go.RowKit

def TotP {α : Type} (x : Option α) (Q : α → Prop) : Prop := ∃ a, x = some a ∧ Q a
theorem TotP.pure {α : Type} {a : α} {Q : α → Prop} (h : Q a) : TotP (some a) Q := ⟨a, rfl, h⟩
theorem TotP.bind {α β : Type} {x : Option α} {R : α → Prop} {f : α → Option β} {Q : β → Prop} (h : TotP x R) (hf : ∀ a, R a → TotP (f a) Q) : TotP (x.bind f) Q := by
  obtain ⟨a, rfl, ha⟩ := h
  exact hf a ha
theorem TotP.cond {α : Type} {b : Bool} {x y : Option α} {Q : α → Prop} (h1 : b = true → TotP x Q) (h2 : b = false → TotP y Q) : TotP (bif b then x else y) Q := by
  cases b with
  | true => exact h1 rfl
  | false => exact h2 rfl
theorem TotP.mono {α : Type} {x : Option α} {Q R : α → Prop} (h : TotP x Q) (hq : ∀ a, Q a → R a) : TotP x R := by
  obtain ⟨a, h1, h2⟩ := h
  exact ⟨a, h1, hq a h2⟩
def wA : List At → Nat
  | [] => 0
  | a :: l => 1 + wtL a.ts + wA l
def wG : List Gl → Nat
  | [] => 0
  | a :: l => 1 + wtL a.ts + wG l
theorem wA_mem {a : At} : ∀ {l : List At}, a ∈ l → wtL a.ts ≤ wA l
  | x :: l, h => by
    simp only [wA]
    rcases List.mem_cons.1 h with rfl | h
    · omega
    · have := wA_mem h
      omega
theorem wG_mem {a : Gl} : ∀ {l : List Gl}, a ∈ l → wtL a.ts ≤ wG l
  | x :: l, h => by
    simp only [wG]
    rcases List.mem_cons.1 h with rfl | h
    · omega
    · have := wG_mem h
      omega
theorem wA_len : ∀ (l : List At), l.length ≤ wA l
  | [] => Nat.le_refl _
  | x :: l => by
    have := wA_len l
    simp only [wA, List.length_cons]
    omega
def NmA (l : List At) : Prop := ∀ a ∈ l, a.n.size ≤ 9223372036854775807
def NmG (l : List Gl) : Prop := ∀ a ∈ l, a.n.size ≤ 9223372036854775807
theorem tdiv8 (s : Nat) : Int.tdiv (s : Int) 8 = ((s / 8 : Nat) : Int) := by
  rw [Int.tdiv_eq_ediv_of_nonneg (by omega)]
  rfl
theorem wr_step (m : Int) (s : Nat) (h1 : 0 ≤ m) (h2 : m ≤ 1000) (hs : s ≤ 9223372036854775807) : wr ((wr (m - 1)) - (wr (Int.tdiv (s : Int) 8))) = m - 1 - ((s / 8 : Nat) : Int) := by
  rw [tdiv8, wr_eq (n := m - 1) (by omega), wr_eq (n := ((s / 8 : Nat) : Int)) (by omega), wr_eq (by omega)]
theorem x_weigh_eq (ts : List T) (m : Int) (h1 : -9223372036854775808 ≤ m) (h2 : m ≤ 1000) : x_weigh ts m 64 = some (weighF 64 ts m) := by
  rw [x_weigh, if_pos ⟨⟨h1, by omega⟩, by omega, by omega⟩]
  rfl
theorem gAtoms_lf (k : Int → Option Bool) : ∀ (l : List At) (m : Int), m ≤ 1000 → (∀ a ∈ l, a.n.size ≤ 9223372036854775807) → ∃ r, lf_constraintref03_GreatAtoms_L0 k l m = k r ∧ (0 ≤ r → (wA l : Int) + r ≤ m)
  | [], m, _, _ => ⟨m, by rw [lf_constraintref03_GreatAtoms_L0], fun _ => by simp [wA]⟩
  | a :: l, m, hm, hn => by
    rw [lf_constraintref03_GreatAtoms_L0]
    by_cases h : m ≥ 0
    · have hs := hn a (List.mem_cons_self ..)
      rw [decide_eq_true h, cond_true, wr_step m _ h hm hs, x_weigh_eq _ _ (by omega) (by omega), Option.bind_some]
      have h1 := weighF_ge 64 a.ts (m - 1 - ((a.n.size / 8 : Nat) : Int))
      have h2 := weigh_wt 64 a.ts (m - 1 - ((a.n.size / 8 : Nat) : Int))
      obtain ⟨r, e1, e2⟩ := gAtoms_lf k l (weighF 64 a.ts (m - 1 - ((a.n.size / 8 : Nat) : Int))) (by omega) fun x hx => hn x (List.mem_cons_of_mem _ hx)
      refine ⟨r, e1, fun hr => ?_⟩
      have := e2 hr
      simp only [wA]
      omega
    · rw [decide_eq_false h, cond_false]
      exact ⟨m, rfl, fun hr => absurd hr h⟩
theorem greatAtoms_lf (l : List At) (m : Int) (hm : m ≤ 1000) (hn : ∀ a ∈ l, a.n.size ≤ 9223372036854775807) : TotP (lf_constraintref03_GreatAtoms l m) fun b => b = false → (wA l : Int) ≤ m := by
  unfold lf_constraintref03_GreatAtoms
  obtain ⟨r, e1, e2⟩ := gAtoms_lf (fun m => some (decide (m < 0))) l m hm hn
  rw [e1]
  refine ⟨_, rfl, fun h => ?_⟩
  have := of_decide_eq_false h
  have := e2 (by omega)
  omega
theorem gGoals_lf (k : Int → Option Bool) : ∀ (l : List Gl) (m : Int), m ≤ 1000 → (∀ a ∈ l, a.n.size ≤ 9223372036854775807) → ∃ r, lf_constraintref03_GreatGoals_L0 k l m = k r ∧ (0 ≤ r → (wG l : Int) + r ≤ m)
  | [], m, _, _ => ⟨m, by rw [lf_constraintref03_GreatGoals_L0], fun _ => by simp [wG]⟩
  | a :: l, m, hm, hn => by
    rw [lf_constraintref03_GreatGoals_L0]
    by_cases h : m ≥ 0
    · have hs := hn a (List.mem_cons_self ..)
      rw [decide_eq_true h, cond_true, wr_step m _ h hm hs, x_weigh_eq _ _ (by omega) (by omega), Option.bind_some]
      have h1 := weighF_ge 64 a.ts (m - 1 - ((a.n.size / 8 : Nat) : Int))
      have h2 := weigh_wt 64 a.ts (m - 1 - ((a.n.size / 8 : Nat) : Int))
      obtain ⟨r, e1, e2⟩ := gGoals_lf k l (weighF 64 a.ts (m - 1 - ((a.n.size / 8 : Nat) : Int))) (by omega) fun x hx => hn x (List.mem_cons_of_mem _ hx)
      refine ⟨r, e1, fun hr => ?_⟩
      have := e2 hr
      simp only [wG]
      omega
    · rw [decide_eq_false h, cond_false]
      exact ⟨m, rfl, fun hr => absurd hr h⟩
theorem greatGoals_lf (l : List Gl) (m : Int) (hm : m ≤ 1000) (hn : ∀ a ∈ l, a.n.size ≤ 9223372036854775807) : TotP (lf_constraintref03_GreatGoals l m) fun b => b = false → (wG l : Int) ≤ m := by
  unfold lf_constraintref03_GreatGoals
  obtain ⟨r, e1, e2⟩ := gGoals_lf (fun m => some (decide (m < 0))) l m hm hn
  rw [e1]
  refine ⟨_, rfl, fun h => ?_⟩
  have := of_decide_eq_false h
  have := e2 (by omega)
  omega
/-- Names are strings of the machine. -/
structure Nm (r : S_api_Rule) : Prop where
  n : r.f0_Name.size ≤ 9223372036854775807
  a : NmA r.f1_Keep
  b : NmA r.f2_Remove
  c : NmG r.f3_Guard
  d : NmG r.f4_Body
theorem greatR_L0 (k : Option Bool) (l0 : List S_api_Rule) (m : Int) (hm : m ≤ 200) (kb : Bool) (hk : k = some kb) : ∀ l : List S_api_Rule, (∀ r ∈ l, Nm r) → TotP (lf_constraintref03_GreatRules_L0 k l0 m l) fun b => b = false → ∀ r ∈ l, RuleS r
  | [], _ => by rw [lf_constraintref03_GreatRules_L0, hk]; exact ⟨_, rfl, fun _ r h => by cases h⟩
  | r :: l, hn => by
    have h := hn r (List.mem_cons_self ..)
    rw [lf_constraintref03_GreatRules_L0]
    refine .cond (fun _ => .pure fun h => by cases h) fun _ => ?_
    refine .cond (fun _ => .pure fun h => by cases h) fun hsum => ?_
    refine .bind (greatAtoms_lf _ m (by omega) h.a) fun x hx => .cond (fun _ => .pure fun h => by cases h) fun h1 => ?_
    refine .bind (greatAtoms_lf _ m (by omega) h.b) fun y hy => .cond (fun _ => .pure fun h => by cases h) fun h2 => ?_
    refine .bind (greatGoals_lf _ m (by omega) h.c) fun z hz => .cond (fun _ => .pure fun h => by cases h) fun h3 => ?_
    refine .bind (greatGoals_lf _ m (by omega) h.d) fun u hu => .cond (fun _ => .pure fun h => by cases h) fun h4 => ?_
    obtain ⟨b, e1, e2⟩ := greatR_L0 k l0 m hm kb hk l fun x hx => hn x (List.mem_cons_of_mem _ hx)
    have q1 := hx h1; have q2 := hy h2; have q3 := hz h3; have q4 := hu h4
    have l1 := wA_len r.f1_Keep
    have l2 := wA_len r.f2_Remove
    have hn' := h.n
    have hs := of_decide_eq_false hsum
    rw [tdiv8, wr_eq (n := ((r.f0_Name.size / 8 : Nat) : Int)) (by omega), wr_eq (n := ((r.f0_Name.size / 8 : Nat) : Int) + (r.f1_Keep.length : Int)) (by omega), wr_eq (by omega)] at hs
    refine ⟨b, e1, fun hb x hx => (List.mem_cons.1 hx).elim (fun e => e ▸ ⟨by omega, fun y hy => ?_, fun y hy => ?_, fun y hy => ?_, fun y hy => ?_⟩) (e2 hb x)⟩
    · have := wA_mem hy; omega
    · have := wA_mem hy; omega
    · have := wG_mem hy; omega
    · have := wG_mem hy; omega
theorem greatRules_lf (l : List S_api_Rule) (m : Int) (hm : m ≤ 200) (hn : ∀ r ∈ l, Nm r) : TotP (lf_constraintref03_GreatRules l m) fun b => b = false → ∀ r ∈ l, RuleS r := greatR_L0 _ _ m hm false rfl l hn

/-! ### names are strings of the machine -/
theorem reps_in {p : Addr → Prop} {w : World} : ∀ {ds : List D} {cs : List Value}, Reps p w ds cs → ∀ d ∈ ds, ∃ v, Rep p w d v
  | [], _, _, _, h => by cases h
  | x :: ds, cs, h, d, hd => by
    simp only [Reps] at h
    obtain ⟨v, rest, _, h1, h2⟩ := h
    exact (List.mem_cons.1 hd).elim (fun e => e ▸ ⟨v, h1⟩) (reps_in h2 d)
theorem agg_mem {p : Addr → Prop} {w : World} {fs : List D} {v : Value} (h : Rep p w (.agg fs) v) (d : D) (hd : d ∈ fs) : ∃ v, Rep p w d v := by
  simp only [Rep] at h
  obtain ⟨cs, _, h, _⟩ := h
  exact reps_in h d hd
theorem lst_mem {α : Type} {f : α → D} {p : Addr → Prop} {w : World} {l : List α} {v : Value} (h : Rep p w (.lst (l.map f)) v) (a : α) (ha : a ∈ l) : ∃ v, Rep p w (f a) v := by
  simp only [Rep] at h
  obtain ⟨A, c, xs, _, _, _, _, h, _⟩ := h
  exact reps_in h _ (List.mem_map.2 ⟨a, ha, rfl⟩)
theorem str_le {p : Addr → Prop} {w : World} {s : ByteArray} {v : Value} (h : Rep p w (.str s) v) : s.size ≤ 9223372036854775807 := by
  simp only [Rep] at h
  exact h.2
theorem nmA1 {p : Addr → Prop} {w : World} {a : At} {v : Value} (h : Rep p w (encA a) v) : a.n.size ≤ 9223372036854775807 := by
  obtain ⟨v, h⟩ := agg_mem h (.str a.n) (by simp)
  exact str_le h
theorem nmA_of {p : Addr → Prop} {w : World} {l : List At} {v : Value} (h : Rep p w (.lst (l.map encA)) v) : NmA l := fun a ha => by
  obtain ⟨v, h⟩ := lst_mem h a ha
  exact nmA1 h
theorem nmG_of {p : Addr → Prop} {w : World} {l : List Gl} {v : Value} (h : Rep p w (.lst (l.map encG)) v) : NmG l := fun a ha => by
  obtain ⟨v, h⟩ := lst_mem h a ha
  obtain ⟨v, h⟩ := agg_mem h (.str a.n) (by simp)
  exact str_le h
theorem nm_of {p : Addr → Prop} {w : World} {r : S_api_Rule} {v : Value} (h : Rep p w (enc_S_api_Rule r) v) : Nm r := by
  obtain ⟨_, h0⟩ := agg_mem h (.str r.f0_Name) (by simp)
  obtain ⟨_, h1⟩ := agg_mem h (.lst (r.f1_Keep.map encA)) (by simp)
  obtain ⟨_, h2⟩ := agg_mem h (.lst (r.f2_Remove.map encA)) (by simp)
  obtain ⟨_, h3⟩ := agg_mem h (.lst (r.f3_Guard.map encG)) (by simp)
  obtain ⟨_, h4⟩ := agg_mem h (.lst (r.f4_Body.map encG)) (by simp)
  exact ⟨str_le h0, nmA_of h1, nmA_of h2, nmG_of h3, nmG_of h4⟩
theorem nmP_of {p : Addr → Prop} {w : World} {q : S_api_Program} {v : Value} (h : Rep p w (enc_S_api_Program q) v) : ∀ r ∈ q.f1_Rules, Nm r := fun r hr => by
  obtain ⟨_, h1⟩ := agg_mem h (.lst (q.f1_Rules.map enc_S_api_Rule)) (by simp)
  obtain ⟨_, h2⟩ := lst_mem h1 r hr
  exact nm_of h2
/-! ### memories that are few -/
/-! ### states that are small, of bulk at most 1048576 -/
end Go.Proofs.YtdoljfkjdfaakaaGreat


namespace Go.Proofs.YtdoljfkjdfaakaaGreat
set_option maxRecDepth 100000
open Go.RowKit

theorem at_pre {α : Type} (pre : List α) (q : α) (l : List α) : getI (pre ++ q :: l) (pre.length : Int) = some q := by
  rw [getI_nat]
  simp
theorem lt_pre {α : Type} (pre : List α) (q : α) (l : List α) : decide ((pre.length : Int) < ((pre ++ q :: l).length : Int)) = true := decide_eq_true (by simp only [List.length_append, List.length_cons]; omega)
theorem pre_snoc {α : Type} (pre : List α) (q : α) (l : List α) : pre ++ q :: l = (pre ++ [q]) ++ l := by simp
theorem len_snoc {α : Type} (pre : List α) (q : α) : pre.length + 1 = (pre ++ [q]).length := by simp
theorem cmpA_self (a : At) : (cmpA a a == 0) = true := by
  unfold cmpA
  rw [cmpS_eq, show cmpB a.n.toList a.n.toList = 0 by have := neg_B a.n.toList a.n.toList; omega, cmpI_self, cmpL_self]
  rfl
theorem sameG_self (g : Gl) : sameG g g = true := by unfold sameG; rw [cmpL_self]; simp
theorem xA_self (a : At) (h : wtL a.ts ≤ 1000000000) : x_sameA a a = some true := by rw [x_sameA_eq _ _ h, cmpA_self]
theorem xG_self (a : Gl) (h : wtL a.ts ≤ 1000000000) : x_sameG a a = some true := by rw [x_sameG_eq _ _ h, sameG_self]
theorem sA_L (k : Option Bool) : ∀ (l pre : List At), (∀ q ∈ l, wtL q.ts ≤ 1000000000) → lf_constraintref03_SameAtoms_L0 k (pre ++ l) l pre.length = k
  | [], pre, _ => by rw [lf_constraintref03_SameAtoms_L0]
  | q :: l, pre, h => by
    rw [lf_constraintref03_SameAtoms_L0]
    have hq := h q (by simp)
    simp only [lt_pre, at_pre, Option.bind_some, xA_self q hq, Bool.not_true, cond_true, cond_false]
    have := sA_L k l (pre ++ [q]) fun x hx => h x (by simp [hx])
    rw [← pre_snoc, ← len_snoc] at this
    exact this
theorem sG_L (k : Option Bool) : ∀ (l pre : List Gl), (∀ q ∈ l, wtL q.ts ≤ 1000000000) → lf_constraintref03_SameGoals_L0 k (pre ++ l) l pre.length = k
  | [], pre, _ => by rw [lf_constraintref03_SameGoals_L0]
  | q :: l, pre, h => by
    rw [lf_constraintref03_SameGoals_L0]
    have hq := h q (by simp)
    simp only [lt_pre, at_pre, Option.bind_some, xG_self q hq, Bool.not_true, cond_true, cond_false]
    have := sG_L k l (pre ++ [q]) fun x hx => h x (by simp [hx])
    rw [← pre_snoc, ← len_snoc] at this
    exact this
theorem len_self (n : Nat) : ((n : Int) != (n : Int)) = false := by simp
theorem sA_self (l : List At) (h : ∀ q ∈ l, wtL q.ts ≤ 1000000000) : lf_constraintref03_SameAtoms l l = some true := by
  unfold lf_constraintref03_SameAtoms
  rw [len_self, cond_false]
  exact sA_L (some true) l [] h
theorem sG_self (l : List Gl) (h : ∀ q ∈ l, wtL q.ts ≤ 1000000000) : lf_constraintref03_SameGoals l l = some true := by
  unfold lf_constraintref03_SameGoals
  rw [len_self, cond_false]
  exact sG_L (some true) l [] h
structure RuleW (x : S_api_Rule) : Prop where
  k : ∀ y ∈ x.f1_Keep, wtL y.ts ≤ 1000000000
  r : ∀ y ∈ x.f2_Remove, wtL y.ts ≤ 1000000000
  g : ∀ y ∈ x.f3_Guard, wtL y.ts ≤ 1000000000
  b : ∀ y ∈ x.f4_Body, wtL y.ts ≤ 1000000000
theorem rule_self (x : S_api_Rule) (h : RuleW x) : lf_constraintref14_SameRule x x = some true := by
  unfold lf_constraintref14_SameRule
  simp only [beq_self_eq_true, cond_true, sA_self _ h.k, sA_self _ h.r, sG_self _ h.g, sG_self _ h.b, Option.bind_some]
theorem prog_L1 (k : Option Bool) (ds : List S_api_Decl) : ∀ (l pre : List S_api_Rule), (∀ q ∈ l, RuleW q) → lf_constraintref14_SameProgram_L1 k ⟨ds, (pre ++ l)⟩ l pre.length = k
  | [], pre, _ => by rw [lf_constraintref14_SameProgram_L1]
  | q :: l, pre, h => by
    rw [lf_constraintref14_SameProgram_L1]
    have hq := h q (by simp)
    simp only [lt_pre, at_pre, Option.bind_some, rule_self q hq, Bool.not_true, cond_true, cond_false]
    have := prog_L1 k ds l (pre ++ [q]) fun x hx => h x (by simp [hx])
    rw [← pre_snoc, ← len_snoc] at this
    exact this
theorem prog_L0 (k : Option Bool) (rs : List S_api_Rule) : ∀ (l pre : List S_api_Decl), lf_constraintref14_SameProgram_L0 k ⟨pre ++ l, rs⟩ l pre.length = k
  | [], pre => by rw [lf_constraintref14_SameProgram_L0]
  | q :: l, pre => by
    rw [lf_constraintref14_SameProgram_L0]
    simp only [at_pre, Option.bind_some, decide_true, Bool.not_true, cond_false]
    have := prog_L0 k rs l (pre ++ [q])
    rw [← pre_snoc, ← len_snoc] at this
    exact this
theorem prog_self (p : S_api_Program) (h : ∀ x ∈ p.f1_Rules, RuleW x) : lf_constraintref14_SameProgram p p = some true := by
  obtain ⟨ds, rs⟩ := p
  unfold lf_constraintref14_SameProgram
  simp only [len_self, cond_false]
  have h1 := prog_L1 (some true) ds rs [] h
  have h0 := prog_L0 (lf_constraintref14_SameProgram_L1 (some true) ⟨ds, rs⟩ rs 0) rs ds []
  simp only [List.nil_append, List.length_nil] at h0 h1
  rw [h0]
  exact h1
end Go.Proofs.YtdoljfkjdfaakaaGreat


namespace Go.Proofs.YtdoljfkjdfaakaaGreat
set_option maxRecDepth 100000
open Go.RowKit

theorem ex52 : lf_constraintlaw52_exampleHolds 30 = some true := by
  kernel_rfl
theorem cT {b : Bool} {x y : Option Bool} (h1 : b = true → x = some true) (h2 : b = false → y = some true) : (bif b then x else y) = some true := by
  cases b with
  | true => exact h1 rfl
  | false => exact h2 rfl
theorem same52_self (l : List Int) : lf_constraintlaw52_same l l = some true := by
  unfold lf_constraintlaw52_same
  simp
theorem take_Program (fuel : Nat) (b : List Int) : lf_snapshot_TakeProgram fuel b = lf_wholeR_Program fuel b 1 := by
  unfold lf_snapshot_TakeProgram
  cases lf_wholeR_Program fuel b 1 <;> rfl
theorem len_ne {e : List Int} (h : e ≠ []) : ((e.length : Int) == 0) = false := by
  rw [beq_eq_false_iff_ne]
  have := List.length_pos_iff.2 h
  omega
theorem RuleS.w {x : S_api_Rule} (h : RuleS x) : RuleW x := ⟨h.k, h.r, h.g, h.b⟩
theorem decls_L0 (k : Option Bool) (fuel : Nat) (hx : lf_constraintlaw52_exampleHolds fuel = some true) : ∀ l : List S_api_Decl, ((∀ x ∈ l, x.f0_Name.size ≤ 200) → k = some true) → lf_constraintlaw52_SnapshotPrograms_L0 k fuel l = some true
  | [], h => by
    rw [lf_constraintlaw52_SnapshotPrograms_L0]
    exact h (by simp)
  | x :: l, h => by
    rw [lf_constraintlaw52_SnapshotPrograms_L0, hx]
    refine cT (fun _ => rfl) fun hb => decls_L0 k fuel hx l fun hl => h fun y hy => ?_
    have hb := of_decide_eq_false hb
    rcases List.mem_cons.1 hy with rfl | hy
    · omega
    · exact hl y hy
theorem programs_lf (p : S_api_Program) (hn : ∀ r ∈ p.f1_Rules, Nm r) : lf_constraintlaw52_SnapshotPrograms 30 p = some true := by
  unfold lf_constraintlaw52_SnapshotPrograms
  simp only [ex52, Option.bind_some]
  refine cT (fun _ => rfl) fun _ => cT (fun _ => rfl) fun _ => ?_
  obtain ⟨b, e1, e2⟩ := greatRules_lf p.f1_Rules 200 (by omega) hn
  rw [e1, Option.bind_some]
  refine cT (fun _ => rfl) fun hb => decls_L0 _ 30 ex52 _ fun hd => ?_
  have hr := e2 hb
  have hd : ∀ x ∈ p.f0_Decls, x.f0_Name.size ≤ 2000 := fun x hx => Nat.le_trans (hd x hx) (by omega)
  have hw := wr_Program (fuel := 30) (by omega) p hd hr
  simp only [hw, wrR_Program (fuel := 30) (by omega) p hr, same52_self, take_Program, Option.bind_some, Bool.not_true, cond_false]
  cases he : eProgram p with
  | none =>
    simp only [Option.getD_none, whole0_Program, Option.bind_some]
    rfl
  | some e =>
    rw [he] at hw
    have h := (whole_Program (fuel := 30) (by omega) he hw (len_Program (fuel := 30) (by omega) p hd hr e he)).1
    simp only [Option.getD_some, h, Option.bind_some, len_ne (catO_pos he), cond_false, prog_self p fun x hx => (hr x hx).w]
    rfl
theorem gives_SnapshotPrograms (p : S_api_Program) : Gives Tryz.prog 3 [enc_S_api_Program p] (.bool true) := fun w q vs hi hv => by
  have hv' := hv
  simp only [Repl] at hv'
  obtain ⟨v, _, _, h, _⟩ := hv'
  exact lg_constraintlaw52_SnapshotPrograms 30 p true (programs_lf p (nmP_of h)) w q vs hi hv
/-! ### cuts -/
end Go.Proofs.YtdoljfkjdfaakaaGreat


namespace Go.Proofs.YtdoljfkjdfaakaaGreat
set_option maxRecDepth 100000
open Go.ChangeShapes Go.WideShapes Go.ChangeAt Go.RowKit

/-- Every cell that there is. -/
def live (w : World) (a : Addr) : Prop := ∃ v, w.cell? a = some v
theorem live_grow {w w' : World} (e : Ext w w') : Grow (live w) w (live w') w' := fun _ ⟨v, hv⟩ => ⟨⟨v, e.cellOf hv⟩, by rw [hv]; exact e.cellOf hv⟩
/-- A datum of a type, opened. -/
def Op (t : TypeId) (n : Nat) (S : D → Prop) : Prop := ∀ (H : Type) (enc : TypeId × Value → H) (W : World) (base : Nat) (sp : Nat → Bool) (hd : Bool) (fuel : Nat) (cs : List Value) (x : DataW H × List MemPlace),
  DataW.trod enc Tryz.prog W base sp hd fuel t cs = some x → ∃ d v, S d ∧ d.plain = true ∧ sz d = n ∧ Rep (live W) W d v ∧ cs = v.cells.toList
theorem Op.to {t : TypeId} {n : Nat} {S S' : D → Prop} (h : Op t n S) (k : ∀ d, S d → S' d) : Op t n S' := fun H enc W base sp hd fuel cs x hx => by
  obtain ⟨d, v, h1, h2⟩ := h H enc W base sp hd fuel cs x hx
  exact ⟨d, v, k d h1, h2⟩
theorem op_i64 {t : TypeId} (ht : (Tryz.prog).underlying t = some (.int .i64)) : Op t 1 fun d => ∃ n, d = .int .i64 n := fun H enc W base sp hd fuel cs x hx => by
  obtain ⟨k, rfl, _, w0⟩ := DataW.trod_int ht hx
  have := i64_of w0
  refine ⟨.int .i64 k, .int .i64 k, ⟨k, rfl⟩, rfl, rfl, ?_, by simp [Value.cells]⟩
  simp only [Rep]
  exact ⟨trivial, wrap64 (by unfold I64 at this; omega)⟩
theorem op_str {t : TypeId} (ht : (Tryz.prog).underlying t = some .string) : Op t 1 fun d => ∃ s, d = .str s := fun H enc W base sp hd fuel cs x hx => by
  obtain ⟨s, rfl, _, w0⟩ := DataW.trod_string ht hx
  refine ⟨.str s, .string s, ⟨s, rfl⟩, rfl, rfl, ?_, by simp [Value.cells]⟩
  simp only [Rep]
  exact ⟨trivial, by unfold maxLen at w0; omega⟩
/-- One predicate a field. -/
def Fits : List (D → Prop) → List D → Prop
  | [], [] => True
  | S :: ss, d :: ds => S d ∧ Fits ss ds
  | _, _ => False
/-- Fields, one behind the other, from an offset to the end. -/
def tight (P : Program) : Nat → List Field → Bool
  | _, [] => true
  | o, f :: fs => f.offset == o && tight P (o + P.cellsOf f.type) fs
theorem reps_ones {p : Addr → Prop} {w : World} : ∀ {ds : List D} {cs : List Value}, Reps p w ds cs → (∀ d ∈ ds, d.plain = true) → ∀ u ∈ cs, u.oneCell' = true
  | [], cs, h, _, u, hu => by simp only [Reps] at h; subst h; simp at hu
  | d :: ds, cs, h, hp, u, hu => by
    simp only [Reps] at h
    obtain ⟨v, rest, rfl, h1, h2⟩ := h
    rcases List.mem_append.1 hu with hu | hu
    · exact h1.one (hp d (List.mem_cons_self ..)) u hu
    · exact reps_ones h2 (fun e he => hp e (List.mem_cons_of_mem _ he)) u hu
def total (P : Program) : List Field → Nat
  | [] => 0
  | f :: fs => P.cellsOf f.type + total P fs
def Ops : List Field → List (D → Prop) → Prop
  | [], [] => True
  | f :: fs, S :: ss => Op f.type ((Tryz.prog).cellsOf f.type) S ∧ Ops fs ss
  | _, _ => False
theorem fields_open {H : Type} {enc : TypeId × Value → H} {W : World} {base : Nat} {sp : Nat → Bool} {hd : Bool} {n : Nat} {cs : List Value} :
    ∀ (fs : List Field) (ss : List (D → Prop)) (o : Nat), Ops fs ss → tight Tryz.prog o fs = true → o + total Tryz.prog fs = cs.length →
      (∀ (i : Nat) (f : Field), fs[i]? = some f → ∃ x, DataW.trod enc Tryz.prog W base sp hd n f.type ((cs.drop f.offset).take ((Tryz.prog).cellsOf f.type)) = some x) →
      ∃ ds, Fits ss ds ∧ (∀ d ∈ ds, d.plain = true) ∧ szs ds = total Tryz.prog fs ∧ Reps (live W) W ds (cs.drop o)
  | [], [], o, _, _, hl, _ => ⟨[], trivial, by simp, rfl, by simp only [total] at hl; rw [List.drop_eq_nil_of_le (by omega)]; exact Reps.nil _ _⟩
  | f :: fs, S :: ss, o, hop, ht, hl, hx => by
    simp only [tight, Bool.and_eq_true, beq_iff_eq] at ht
    simp only [total] at hl
    obtain ⟨ds, h1, h2, h3, h4⟩ := fields_open fs ss (o + (Tryz.prog).cellsOf f.type) hop.2 ht.2 (by omega) fun i g hg => hx (i + 1) g hg
    obtain ⟨x, h5⟩ := hx 0 f rfl
    rw [ht.1] at h5
    obtain ⟨d, v, g1, g2, g3, g4, g5⟩ := hop.1 H enc W base sp hd n _ x h5
    refine ⟨d :: ds, ⟨g1, h1⟩, ?_, by simp only [szs, total, g3, h3], ?_⟩
    · intro e he
      rcases List.mem_cons.1 he with rfl | he
      · exact g2
      · exact h2 e he
    · have := Reps.cons g4 h4
      rw [← g5, ← List.drop_drop, List.take_append_drop] at this
      exact this
  | [], _ :: _, _, h, _, _, _ => h.elim
  | _ :: _, [], _, h, _, _, _ => h.elim
theorem op_struct {t : TypeId} {fs : Array Field} {n : Nat} (ht : (Tryz.prog).underlying t = some (.struct fs)) (ss : List (D → Prop)) (hs : Ops fs.toList ss) (h1 : tight Tryz.prog 0 fs.toList = true) (h2 : total Tryz.prog fs.toList = n) (h3 : (Tryz.prog).cellsOf t = n) :
    Op t n fun d => ∃ ds, d = .agg ds ∧ Fits ss ds := fun H enc W base sp hd fuel cs x hx => by
  obtain ⟨xs, m, _, _, hl, hlen, hf⟩ := DataW.trod_struct ht hx
  obtain ⟨ds, g1, g2, g3, g4⟩ := fields_open (enc := enc) (W := W) (base := base) (sp := sp) (hd := hd) (n := m) (cs := cs) fs.toList ss 0 hs h1 (by omega) fun i f hi => by
    have hi' : fs[i]? = some f := by simpa using hi
    have hlt : i < xs.length := by
      have := (Array.getElem?_eq_some_iff.1 hi').1
      omega
    exact ⟨xs[i], by rw [hf i f hi', List.getElem?_eq_getElem hlt]⟩
  refine ⟨.agg ds, .agg cs.toArray, ⟨ds, rfl, g1⟩, rfl, by simp only [sz]; omega, ?_, by simp [Value.cells]⟩
  simp only [Rep]
  rw [List.drop_zero] at g4
  exact ⟨cs, rfl, g4, reps_ones g4 g2⟩
/-- Data of one size as a layout. -/
def layD (n : Nat) (hn : 0 < n) (S : D → Prop) : Lay D where
  C := fun w d cs => S d ∧ d.plain = true ∧ sz d = n ∧ ∃ v, Rep (live w) w d v ∧ cs = v.cells.toList
  n := n
  pos := hn
  ext := fun ⟨h1, h2, h3, v, h4, h5⟩ e => ⟨h1, h2, h3, v, h4.grow (live_grow e), h5⟩
  len := fun ⟨_, _, h3, v, h4, h5⟩ => by rw [h5, ← h3, ← h4.sz]; simp
  one := fun ⟨_, h2, _, v, h4, h5⟩ u hu => by subst h5; exact h4.one h2 u hu
theorem layD_ls {n : Nat} {hn : 0 < n} {S : D → Prop} {w : World} : ∀ {l : List D} {xs : List Value}, (layD n hn S).Ls w l xs → (∀ d ∈ l, S d ∧ d.plain = true) ∧ Reps (live w) w l xs
  | [], xs, h => by
    have h : xs = [] := h
    subst h
    exact ⟨by simp, Reps.nil _ _⟩
  | d :: l, xs, ⟨cs, ys, h1, ⟨g1, g2, _, v, g4, g5⟩, h3⟩ => by
    obtain ⟨k1, k2⟩ := layD_ls h3
    subst h1 g5
    refine ⟨?_, Reps.cons g4 k2⟩
    intro e he
    rcases List.mem_cons.1 he with rfl | he
    · exact ⟨g1, g2⟩
    · exact k1 e he
theorem rd_live {w : World} {A : Option Addr} {xs : List Value} (h : Rd w A xs) : RdP (live w) w A xs := by
  rcases h with h | ⟨ad, rfl, hc⟩
  · exact .inl h
  · by_cases he : xs = []
    · exact .inl he
    · have hlen : 0 < xs.length := List.length_pos_iff.2 he
      have hsp : ad.spot = none := by
        have := cell_spot (hc 0 _ (List.getElem?_eq_getElem hlen))
        simpa [Addr.add] using this
      obtain ⟨b, o, sp⟩ := ad
      simp only at hsp
      subst hsp
      refine .inr ⟨b, o, rfl, fun j u hu => ?_⟩
      have h1 : w.cell? ⟨b, o + j, none⟩ = some u := by have := hc j u hu; rwa [add_flat] at this
      exact ⟨⟨u, h1⟩, h1⟩
theorem op_slice {t e : TypeId} {n : Nat} {S : D → Prop} (ht : (Tryz.prog).underlying t = some (.slice e)) (hn : (Tryz.prog).cellsOf e = n) (hp : 0 < n) (he : Op e n S) : Op t 1 fun d => ∃ l, d = .lst l ∧ ∀ x ∈ l, S x := fun H enc W base sp hd fuel cs x hx => by
  obtain ⟨l, v, rfl, h1⟩ := Lay.open_sl (L := layD n hp S) ht hn (fun m cs x _ h => by
    obtain ⟨d, v, g1, g2, g3, g4, g5⟩ := he H enc W base sp hd m cs x h
    exact ⟨d, g1, g2, g3, v, g4, g5⟩) hx
  obtain ⟨A, c, xs, rfl, h2, h3, h4, h5⟩ := h1
  obtain ⟨h6, h7⟩ := layD_ls h5
  refine ⟨.lst l, .slice A l.length c, ⟨l, rfl, fun d hd => (h6 d hd).1⟩, rfl, rfl, ?_, by simp [Value.cells]⟩
  simp only [Rep]
  exact ⟨A, c, xs, rfl, h2, h3, rd_live h4, h7, reps_ones h7 fun d hd => (h6 d hd).2⟩
/-- A list of data that all show something is the list of what they show. -/
theorem list_img {α : Type} {f : α → D} : ∀ {l : List D}, (∀ x ∈ l, ∃ a, x = f a) → ∃ av : List α, l = av.map f
  | [], _ => ⟨[], rfl⟩
  | d :: l, h => by
    obtain ⟨a, rfl⟩ := h d (List.mem_cons_self ..)
    obtain ⟨av, rfl⟩ := list_img fun x hx => h x (List.mem_cons_of_mem _ hx)
    exact ⟨a :: av, rfl⟩
theorem op_list {α : Type} {f : α → D} {t e : TypeId} {n : Nat} (ht : (Tryz.prog).underlying t = some (.slice e)) (hn : (Tryz.prog).cellsOf e = n) (hp : 0 < n) (he : Op e n fun d => ∃ a, d = f a) : Op t 1 fun d => ∃ av : List α, d = .lst (av.map f) :=
  (op_slice ht hn hp he).to fun d ⟨l, hl, h⟩ => by
    obtain ⟨av, rfl⟩ := list_img h
    exact ⟨av, hl⟩

/-! ### terms -/
mutual
theorem rep_ct {w : World} : ∀ {t : T} {cs : List Value}, CT w t cs → Reps (live w) w (fsT t) cs
  | .mk k i s ar, cs, h => by
    simp only [CT] at h
    obtain ⟨A, c, xs, rfl, ⟨h1, h2, h3, h4, h5⟩, h6, h7⟩ := h
    have g := rep_cl h7
    simp only [fsT, Reps, Rep]
    refine ⟨.int .i64 k, _, by simp [Value.cells]; rfl, ⟨rfl, wrap64 (by unfold I64 at h1; omega)⟩, .int .i64 i, _, by simp [Value.cells]; rfl, ⟨rfl, wrap64 (by unfold I64 at h2; omega)⟩, .string s, _, by simp [Value.cells]; rfl, ⟨rfl, h3⟩, .slice A ar.length c, _, by simp [Value.cells], ⟨A, c, xs, ?_, ?_, h5, rd_live h6, g, reps_ones g ?_⟩, rfl⟩
    · rw [encTs_eq]; simp
    · rw [encTs_eq]; simpa using h4
    · rw [encTs_eq]
      intro d hd
      obtain ⟨t, _, rfl⟩ := List.mem_map.1 hd
      rfl
theorem rep_cl {w : World} : ∀ {ts : List T} {xs : List Value}, CL w ts xs → Reps (live w) w (encTs ts) xs
  | [], xs, h => by
    simp only [CL] at h
    subst h
    simp only [encTs, Reps]
  | t :: ts, xs, h => by
    simp only [CL] at h
    obtain ⟨cs, ys, rfl, h1, h2⟩ := h
    have g := rep_ct h1
    simp only [encTs, Reps]
    refine ⟨.agg cs.toArray, ys, by simp [Value.cells], ?_, rep_cl h2⟩
    simp only [Rep]
    exact ⟨cs, rfl, g, reps_ones g fun d hd => by
      rw [fsT_eq] at hd
      simp only [List.mem_cons, List.not_mem_nil, or_false] at hd
      rcases hd with rfl | rfl | rfl | rfl <;> rfl⟩
end
theorem op_term : Op 114 4 fun d => ∃ t, d = encT t := fun H enc W base sp hd fuel cs x hx => by
  obtain ⟨t, ht⟩ := open_termF fuel cs x hx
  have g := rep_ct ht
  refine ⟨encT t, .agg cs.toArray, ⟨t, rfl⟩, rfl, sz_encT t, ?_, by simp [Value.cells]⟩
  simp only [Rep]
  exact ⟨cs, rfl, g, reps_ones g fun d hd => by
    rw [fsT_eq] at hd
    simp only [List.mem_cons, List.not_mem_nil, or_false] at hd
    rcases hd with rfl | rfl | rfl | rfl <;> rfl⟩
theorem op_terms : Op 71 1 fun d => ∃ l : List T, d = .lst (l.map encT) := op_list Tryz.underlying71 cells_term (by omega) op_term
theorem op_goal : Op 73 3 fun d => ∃ g, d = encG g :=
  (op_struct Tryz.underlying73 [fun d => ∃ n, d = .int .i64 n, fun d => ∃ s, d = .str s, fun d => ∃ l : List T, d = .lst (l.map encT)] ⟨op_i64 Tryz.underlying3, op_str Tryz.underlying9, op_terms, trivial⟩ (by kernel_rfl) (by kernel_rfl) cells_goal).to fun d ⟨ds, hd, h⟩ => by
    match ds, h with
    | [_, _, _], ⟨⟨n, rfl⟩, ⟨s, rfl⟩, ⟨l, rfl⟩, _⟩ => exact ⟨⟨n, s, l⟩, hd⟩
/-! ### a law's arguments -/
/-- The value has the shape of its data. -/
def Cl (t : TypeId) (S : D → Prop) : Prop := ∀ (W : World) (b : Nat) (v : Value), Value.okWide Tryz.prog W .any b t v → ∀ d, S d → v = reval d v.cells.toList
theorem Cl.to {t : TypeId} {S S' : D → Prop} (h : Cl t S') (k : ∀ d, S d → S' d) : Cl t S := fun W b v hv d hd => h W b v hv d (k d hd)
theorem cl_struct {t : TypeId} {fs : Array Field} (ht : (Tryz.prog).underlying t = some (.struct fs)) : Cl t fun d => ∃ ds, d = .agg ds := fun W b v hv d ⟨ds, hd⟩ => by
  obtain ⟨cs, rfl, _⟩ := okWide_struct ht hv
  subst hd
  simp [Value.cells, reval]
structure Arg where
  t : TypeId
  n : Nat
  S : D → Prop
  op : Op t n S
  cl : Cl t S
theorem args_open {H : Type} {enc : TypeId × Value → H} {W : World} {base b : Nat} {sp : Nat → Bool} {hd : Bool} : ∀ (av : List Arg) (vs : List Value) (ds : List (DataW H)) (ps : List MemPlace),
    DataW.TrodAll enc Tryz.prog W base sp hd (av.map Arg.t) vs ds ps → (∀ (j : Nat) t v, (av.map Arg.t)[j]? = some t → vs[j]? = some v → Value.okWide Tryz.prog W .any b t v) → ∃ es, Fits (av.map Arg.S) es ∧ Repl (live W) W es vs
  | [], vs, ds, ps, h, _ => by
    obtain ⟨rfl, _, _⟩ := trodAll_nil h
    exact ⟨[], trivial, Repl.nil _ _⟩
  | a :: av, vs, ds, ps, h, hv => by
    obtain ⟨v, vs', d, ds', p, q, rfl, rfl, rfl, ⟨fuel, h1⟩, h2⟩ := trodAll_cons h
    obtain ⟨es, g1, g2⟩ := args_open av vs' ds' q h2 fun j t u ht hu => hv (j + 1) t u ht hu
    obtain ⟨e, u, k1, k2, k3, k4, k5⟩ := a.op H enc W base sp hd fuel _ _ h1
    have e1 := a.cl W b v (hv 0 a.t v rfl rfl) e k1
    have e2 := k4.back
    rw [← k5] at e2
    rw [← e2] at e1
    subst e1
    exact ⟨e :: es, ⟨k1, g1⟩, Repl.cons k4 g2⟩
theorem holds_of {k : FuncId} {F : Func} (av : List Arg) (hp : F.params.toList = av.map Arg.t) (hg : ∀ es, Fits (av.map Arg.S) es → Gives Tryz.prog k es (.bool true)) : Holds k F := by
  intro H enc W base args ds p hval hA
  rw [hp] at hA
  obtain ⟨es, h1, h2⟩ := args_open (b := base) av args.toList ds p hA fun j t v ht hv => hval j t v (by rw [← Array.getElem?_toList, hp]; exact ht) (by simpa using hv)
  have hI : Inv (ctx W (live W) []) (live W) [] W := ⟨by simp, by simp [blks], by simp [blks], fun a ha => ha, Grow.refl _ _, fun a ha => .inl ha, rfl, rfl, rfl, Nat.le_refl _, fun b _ _ => rfl⟩
  refine (hg es h1 W (live W) args.toList hI h2).mono ?_
  rintro e w' (⟨v, d, σ, q, rfl, rfl, hr, hi⟩ | ⟨_, _, _, _, _, hx, _⟩)
  rotate_left
  · exact hx.elim
  simp only [Rep] at hr
  subst hr
  exact Ret.mk rfl ⟨hi.os, hi.tape, hi.output, hi.size, fun b hb => hi.block b hb (by simp [ctx, blks])⟩
end Go.Proofs.YtdoljfkjdfaakaaGreat


namespace Go.Proofs.YtdoljfkjdfaakaaGreat
set_option maxRecDepth 100000
open Go.ChangeShapes Go.WideShapes Go.ChangeAt Go.RowKit

theorem op_atom : Op 107 2 fun d => ∃ a, d = encA a :=
  (op_struct Tryz.underlying107 [fun d => ∃ s, d = .str s, fun d => ∃ l : List T, d = .lst (l.map encT)] ⟨op_str Tryz.underlying9, op_terms, trivial⟩ (by kernel_rfl) (by kernel_rfl) (by kernel_rfl)).to fun d ⟨ds, hd, h⟩ => by
    match ds, h with
    | [_, _], ⟨⟨s, rfl⟩, ⟨l, rfl⟩, _⟩ => exact ⟨⟨s, l⟩, hd⟩
theorem op_atoms : Op 65 1 fun d => ∃ l : List At, d = .lst (l.map encA) := op_list Tryz.underlying65 (by kernel_rfl) (by omega) op_atom
theorem op_goals : Op 66 1 fun d => ∃ l : List Gl, d = .lst (l.map encG) := op_list Tryz.underlying66 cells_goal (by omega) op_goal
theorem op_rule : Op 68 6 fun d => ∃ r, d = enc_S_api_Rule r :=
  (op_struct Tryz.underlying68 [fun d => ∃ s, d = .str s, fun d => ∃ l : List At, d = .lst (l.map encA), fun d => ∃ l : List At, d = .lst (l.map encA), fun d => ∃ l : List Gl, d = .lst (l.map encG), fun d => ∃ l : List Gl, d = .lst (l.map encG), fun d => ∃ n, d = .int .i64 n] ⟨op_str Tryz.underlying9, op_atoms, op_atoms, op_goals, op_goals, op_i64 Tryz.underlying3, trivial⟩ (by kernel_rfl) (by kernel_rfl) (by kernel_rfl)).to fun d ⟨ds, hd, h⟩ => by
    match ds, h with
    | [_, _, _, _, _, _], ⟨⟨s, rfl⟩, ⟨a, rfl⟩, ⟨b, rfl⟩, ⟨c, rfl⟩, ⟨e, rfl⟩, ⟨n, rfl⟩, _⟩ => exact ⟨⟨s, a, b, c, e, n⟩, hd⟩
theorem op_rules : Op 23 1 fun d => ∃ l : List S_api_Rule, d = .lst (l.map enc_S_api_Rule) := op_list Tryz.underlying23 (by kernel_rfl) (by omega) op_rule
theorem op_decl : Op 29 2 fun d => ∃ q, d = enc_S_api_Decl q :=
  (op_struct Tryz.underlying29 [fun d => ∃ s, d = .str s, fun d => ∃ n, d = .int .i64 n] ⟨op_str Tryz.underlying9, op_i64 Tryz.underlying3, trivial⟩ (by kernel_rfl) (by kernel_rfl) (by kernel_rfl)).to fun d ⟨ds, hd, h⟩ => by
    match ds, h with
    | [_, _], ⟨⟨s, rfl⟩, ⟨n, rfl⟩, _⟩ => exact ⟨⟨s, n⟩, hd⟩
theorem op_decls : Op 22 1 fun d => ∃ l : List S_api_Decl, d = .lst (l.map enc_S_api_Decl) := op_list Tryz.underlying22 (by kernel_rfl) (by omega) op_decl
theorem op_program : Op 25 2 fun d => ∃ q, d = enc_S_api_Program q :=
  (op_struct Tryz.underlying25 [fun d => ∃ l : List S_api_Decl, d = .lst (l.map enc_S_api_Decl), fun d => ∃ l : List S_api_Rule, d = .lst (l.map enc_S_api_Rule)] ⟨op_decls, op_rules, trivial⟩ (by kernel_rfl) (by kernel_rfl) (by kernel_rfl)).to fun d ⟨ds, hd, h⟩ => by
    match ds, h with
    | [_, _], ⟨⟨s, rfl⟩, ⟨n, rfl⟩, _⟩ => exact ⟨⟨s, n⟩, hd⟩
def aProgram : Arg := ⟨_, _, _, op_program, (cl_struct Tryz.underlying25).to fun _ ⟨_, h⟩ => ⟨_, h⟩⟩
end Go.Proofs.YtdoljfkjdfaakaaGreat

