/-
  Texts of the seat, merged.
-/
import Derived.Test.YtlannippingfdaaLBA
import Derived.Test.YtlannippingfdaaLBB
import Derived.Test.YtlannippingfdaaLBC
import Derived.Test.YtlannippingfdaaLBD
import Derived.Test.YtlannippingfdaaLBE
import Derived.Test.YtlannippingfdaaChecked
import Derived.WalkKit
import Derived.Lib.Hide
import Derived.Lib.AppendStr
import Derived.Deep.AppendLies
import Derived.Deep.AppendSrc
import Derived.Deep.Draws
import Derived.Deep.QuietTactic
import Derived.BigQuiet
import Derived.Deep.RegionWith
import Derived.Maps.AppendAt
import Derived.WalkSpells
import Derived.Deep.Slices
import Derived.Deep.Fields
import Derived.ChangeArms
import Derived.Orders
import Derived.RangeFuncNested
import Derived.RangeFuncBound
import Derived.RangeFuncCalls
import Derived.RangeFuncLeaves
import Derived.Shelf.Abstract
import Derived.OwnWalkIn
import Derived.TacticsInMore
import Derived.LoopNIn
import Derived.LoopIn
import Derived.Lib.OthersKept
import Derived.Lib.TrimU
import Derived.Lib.IndexAny
import Derived.Deep.LoopGhost
import Derived.Lib.Bytealg
import Derived.RangeFuncBox
import Derived.RangeFuncWrites
import Derived.Maps.OwnIn
import Derived.Maps.Views
import Derived.Laws.OwnMore
import Derived.Maps.OwnSet
import Derived.Test.YtlannippingfdaaRows
import Derived.ProofKit
import Derived.OpenShut
import Derived.Carry
import Derived.OrdersIn
import Derived.Great.BuildSlice
import Derived.ArgAppend
import Derived.Laws.MakeOwn
import Derived.Laws.Cover3
import Derived.Laws.CopyRow
import Derived.MapKept
import Derived.Maps.RangeRun
import Derived.DeepKeys5
import Derived.WideKeyRuns
import Derived.RangeFuncOwn
import Derived.Lib.AppendZeros
set_option linter.unusedVariables false
set_option linter.unusedSimpArgs false
set_option linter.unnecessarySimpa false
set_option linter.all false

namespace Go.Proofs.Ytlannippingfdaa
set_option maxRecDepth 100000
open Go.RowKit

section
variable {P : Program} {f : FuncId} {fn : Func} {K : Ctx} {R : D → St → Prop} {k : List Item} {env : Env} {σ τ : St} {p : Addr → Prop} {w : World}

/-- A block that holds no cells is written. -/
theorem inv_put {o o' : Ob} {b : Nat} {x : Obj} (x' : Obj) (h : Inv K p (o :: σ) w) (hb : o.blk = some b) (hb' : o'.blk = some b) (hx : w.heap[b]? = some x) (hc : x.isCells = false)
    (ho : (w.putObj b x').heap[b]? = some x' → Grow p w p (w.putObj b x') → ObOk p (w.putObj b x') o') : Inv K p (o' :: σ) (w.putObj b x') ∧ Grow p w p (w.putObj b x') := by
  have hne : ∀ a, p a → a.block ≠ b := fun a ha e => by
    obtain ⟨v, hv⟩ := h.pub a ha
    obtain ⟨y, hy, hyc⟩ := cells_of_cell hv
    rw [e, hx] at hy
    injection hy with hy
    rw [hy, hyc] at hc
    cases hc
  have hg : Grow p w p (w.putObj b x') := fun a ha => ⟨ha, cell_same (World.putObj_heap_other (hne a ha))⟩
  have hat : (w.putObj b x').heap[b]? = some x' := World.putObj_heap_same (Array.getElem?_eq_some_iff.1 hx).1
  refine ⟨h.write hb hb' hg (fun a ha => .inl ha) (ho hat hg) (fun a ha => ?_) rfl rfl rfl (by simp) (fun j hj => World.putObj_heap_other hj), hg⟩
  obtain ⟨v, hv⟩ := h.pub a ha
  exact ⟨v, (hg a ha).2.trans hv⟩

/-- The contract of a round. -/
def YSpec (P : Program) (l : Nat) (ds : List D) (σ : St) (R : D → St → Prop) : Prop :=
  ∀ (w : World) (p : Addr → Prop) (vs : List Value), Inv (ctx w p σ) p σ w → Repl p w ds vs →
    ∃ g tmps assign body, (Instr.yield l vs.toArray).run P w = .ok (.round l g tmps assign body) w ∧
      ∀ (c : Frame) (cs : List Frame), ∃ v w', Left (ctx w p σ) R (.returned v) w' ∧ Steps P (lone (Frame.round l g tmps assign body .normal) (c :: cs) w) (lone (c.finish v) cs w')

theorem specMono {f : FuncId} {ds : List D} {R R' : D → St → Prop} (h : Spec P f ds σ R) (hR : ∀ d σ', R d σ' → R' d σ') : Spec P f ds σ R' := fun w p vs hi hv => (h w p vs hi hv).mono fun e w' hl => by
  rcases hl with ⟨v, d, σ', q, rfl, h1, h2, h3⟩ | ⟨v, d, σ', q, rfl, h1, h2⟩
  · exact .inl ⟨v, d, σ', q, rfl, hR d σ' h1, h2, h3⟩
  · exact .inr ⟨v, d, σ', q, rfl, h1, h2⟩
theorem permLast3 {α : Type} (a b c : α) : [a, b, c].Perm [c, a, b] := List.perm_append_comm (l₁ := [a, b]) (l₂ := [c])
/-- yield is called. -/
theorem s_yield {o : Oper} {ρ : Operand → Option D} {l : Nat} {x : Operand} {args : Array Operand} {ats : Array TypeId} {σ1 : St} (τ : St) {ds : List D} (ho : o.op = .call { callee := .value x, args := args, argTypes := ats }) (hx : ρ x = some (.clo (.yield l) [] [])) (hO : Opds ρ args.toList ds) (hσ : σ.Perm (σ1 ++ τ)) (hS : YSpec P l ds σ1 R) : StepY P o ρ σ fun d σ' => ∃ σ1', R d σ1' ∧ σ' = σ1' ++ τ := fun rd K p a w hi h => by
  have hv := hO.rep (p := p) (w := w) (a := a) fun y hy => h y (by rw [ho]; simp only [Op.operands, Call.operands]; exact Array.mem_append.2 (.inr (by simpa using hy)))
  have h1 := h x (by rw [ho]; simp [Op.operands, Call.operands]) _ hx
  simp only [Rep] at h1
  obtain ⟨fv, cv, h1, h2, h3⟩ := h1
  simp only [Repl] at h2 h3
  subst h2 h3
  obtain ⟨g, tmps, assign, body, hy, hR⟩ := hS w p _ ((hi.perm hσ).enter) hv
  refine ⟨fun f _ => fw_fn _ f, ?_⟩
  have hrun : (o.semAt (fw rd).round a.eval).run P w = .ok (.round l g tmps assign body) w := by
    rw [Oper.semAt_eq _ _ _ fun c hc => by rw [ho] at hc; cases hc]
    unfold execOp
    rw [ho]
    simp only [resolve, h1, Deferred.ofValue, Sem.run_bind, Sem.run_pure, Result.andThen_ok, invoke]
    rw [show (#[] ++ args.map a.eval : Array Value) = (args.toList.map a.eval).toArray by apply Array.toList_inj.1; simp]
    exact hy
  rw [hrun]
  refine ⟨fun h => ?_, fw_fn _ _, fun c cs _ => ?_⟩
  · cases rd <;> cases h
  · obtain ⟨v, w', hL, hs⟩ := hR c cs
    refine ⟨.returned v, w', ?_, fw_stepsIn hs⟩
    obtain ⟨v1, hv1, v', d, σ', p', q1, q2, q3, q4, q5⟩ := left_step (a := a) (dst := o.dst) hi hσ hL
    injection hv1 with hv1
    subst hv1
    exact ⟨v', d, σ', p', q1, q2, q3, q4, q5⟩

/-- The slots of a round. -/
def putAll : Env → List Tmp → List D → Env
  | env, t :: ts, d :: ds => putAll ((t, d) :: env) ts ds
  | env, _, _ => env
theorem putAll_rel : ∀ (ts : List Tmp) (ds : List D) (vs : List Value) (env : Env) (tm : Array Value), Repl p w ds vs → ts.length = ds.length → (∀ t ∈ ts, t < tm.size) → RelEnv p w env { tmps := tm, defers := [] } →
    RelEnv p w (putAll env ts ds) { tmps := (ts.zip vs).foldl (fun tmps (t, a) => tmps.setIfInBounds t a) tm, defers := [] } ∧ ((ts.zip vs).foldl (fun tmps (t, a) => tmps.setIfInBounds t a) tm).size = tm.size
  | [], [], _, env, tm, _, _, _, h => ⟨by simpa [putAll] using h, by simp⟩
  | t :: ts, d :: ds, vs, env, tm, hv, hl, ht, h => by
    simp only [Repl] at hv
    obtain ⟨v, rest, rfl, h1, h2⟩ := hv
    simp only [putAll, List.zip_cons_cons, List.foldl_cons]
    have h3 : RelEnv p w ((t, d) :: env) { tmps := tm.setIfInBounds t v, defers := [] } := h.put (dst := some t) h1 (fun t' e => by injection e with e; subst e; exact ht t (List.mem_cons_self ..))
    obtain ⟨h4, h5⟩ := putAll_rel ts ds rest _ _ h2 (by simpa using hl) (fun t' ht' => by simpa using ht t' (List.mem_cons_of_mem _ ht')) h3
    exact ⟨h4, by rw [h5]; simp⟩
  | [], _ :: _, _, _, _, _, hl, _, _ => by cases hl
  | _ :: _, [], _, _, _, _, hl, _, _ => by cases hl

/-- A round, from the walk of the loop's body. -/
theorem y_round {l : Nat} {e0 : Env} {L : Loop} {ds : List D} {fnL : Func} (hps : L.params.toList.length = ds.length) (hfn : P.funcs[L.fn]? = some fnL) (hsz : fnL.ntmps ≤ L.tmps.size) (hlt : L.params.toList.all (fun t => decide (t < fnL.ntmps)) = true)
    (h : ∀ K, (K.F0 = fun b => b ∈ blks (.loop l e0 L :: σ)) → GoesG ⟨some l, [], [], .normal⟩ P L.fn fnL K R [.code L.assign, .beginRound, .code L.body] (putAll e0 L.params.toList ds) (.loop l e0 L :: σ)) : YSpec P l ds (.loop l e0 L :: σ) R := fun w p vs hi hv => by
  obtain ⟨hL, hE⟩ := hi.ok _ (List.mem_cons_self ..)
  have hlen : vs.length = ds.length := by
    clear h hps hi hL hE
    induction ds generalizing vs with
    | nil => simp only [Repl] at hv; subst hv; rfl
    | cons d ds ih =>
      simp only [Repl] at hv
      obtain ⟨v, rest, rfl, _, h2⟩ := hv
      simp [ih rest h2]
  refine ⟨L.fn, _, L.assign, L.body, run_yield hL (by simpa [hlen] using hps.symm), fun c cs => ?_⟩
  obtain ⟨h1, h2⟩ := putAll_rel (p := p) (w := w) L.params.toList ds vs e0 L.tmps hv hps (fun t ht => Nat.lt_of_lt_of_le (by simpa using List.all_eq_true.1 hlt t ht) hsz) hE
  let b : Frame := { (default : Frame) with fn := L.fn, kind := .normal, roundOf := some l }
  have hz : (L.params.zip vs.toArray).foldl (fun tmps (t, a) => tmps.setIfInBounds t a) L.tmps = (L.params.toList.zip vs).foldl (fun tmps (t, a) => tmps.setIfInBounds t a) L.tmps := by
    rw [← Array.foldl_toList]; simp
  rw [hz]
  have hb0 : Frame.round l L.fn ((L.params.toList.zip vs).foldl (fun tmps (t, a) => tmps.setIfInBounds t a) L.tmps) L.assign L.body .normal = b.atR { tmps := (L.params.toList.zip vs).foldl (fun tmps (t, a) => tmps.setIfInBounds t a) L.tmps, defers := [] } [.code L.assign, .beginRound, .code L.body] := by
    simp [Frame.round, Frame.atR, b]
  rw [hb0]
  exact h (ctx w p _) rfl p _ w hi h1 (by rw [h2]; exact hsz) rfl b (c :: cs) rfl rfl rfl hfn c cs rfl

theorem n_begin {l : Nat} {ms : List Nat} {e0 : Env} {L : Loop} (hr : L.state = .ready) (hσ : σ.Perm (.loop l e0 L :: τ)) (h : GoesG ⟨some l, ms, [], .normal⟩ P f fn K R k env (.loop l e0 { L with state := .busy } :: τ)) : GoesG ⟨some l, ms, [], .normal⟩ P f fn K R (.beginRound :: k) env σ := fun p a w hi hre hn hd b cs hb hk hro hf => by
  have hi := hi.perm hσ
  obtain ⟨hL, hE⟩ := hi.ok _ (List.mem_cons_self ..)
  obtain ⟨h1, hg⟩ := inv_put (o' := .loop l e0 { L with state := .busy }) (.loop { L with state := .busy }) hi rfl rfl hL rfl fun h hg => ⟨h, fun t d ht => (hE t d ht).grow hg⟩
  exact .of_steps (.one (stepR_beginRound hro (run_beginRound hL hr))) (h p a _ h1 (hre.grow hg) hn hd b cs hb hk hro hf)

/-- A round comes to its end. -/
theorem n_rend {l : Nat} {ms : List Nat} {e0 : Env} {L : Loop} (hσ : σ.Perm (.loop l e0 L :: τ)) (h : R (.bool true) (.loop l e0 { L with state := .ready, pending := none } :: τ)) : GoesG ⟨some l, ms, [], .normal⟩ P f fn K R [] env σ := fun p a w hi hre hn hd b cs hb hk hro hf c cs' hc => by
  subst hc
  have hi := hi.perm hσ
  obtain ⟨hL, hE⟩ := hi.ok _ (List.mem_cons_self ..)
  obtain ⟨h1, hg⟩ := inv_put (o' := .loop l e0 { L with state := .ready, pending := none }) (.loop { L with state := .ready, pending := none }) hi rfl rfl hL rfl fun h hg => ⟨h, fun t d ht => (hE t d ht).grow hg⟩
  exact ⟨.bool true, _, .inl ⟨_, _, _, p, rfl, h, by simp only [Rep], h1⟩, .one (stepR_round_end hro hk (run_endRound none hL))⟩
/-- .. by a return. -/
theorem n_rret {l : Nat} {ms : List Nat} {e0 : Env} {L : Loop} (hσ : σ.Perm (.loop l e0 L :: τ)) (h : R (.bool false) (.loop l e0 { L with state := .done, pending := some .ret } :: τ)) : GoesG ⟨some l, ms, [], .normal⟩ P f fn K R (.code .ret :: k) env σ := fun p a w hi hre hn hd b cs hb hk hro hf c cs' hc => by
  subst hc
  have hi := hi.perm hσ
  obtain ⟨hL, hE⟩ := hi.ok _ (List.mem_cons_self ..)
  obtain ⟨h1, hg⟩ := inv_put (o' := .loop l e0 { L with state := .done, pending := some .ret }) (.loop { L with state := .done, pending := some .ret }) hi rfl rfl hL rfl fun h hg => ⟨h, fun t d ht => (hE t d ht).grow hg⟩
  exact ⟨.bool false, _, .inl ⟨_, _, _, p, rfl, h, by simp only [Rep], h1⟩, .one (stepR_round_ret hro hk (run_endRound (some .ret) hL))⟩
/-- The loop's record as the statement lays it. -/
def rec0 (f : FuncId) (tmps : Array Value) (ps : Array Tmp) (assign body : Code) (D : Nat) : Loop := { state := .ready, pending := none, fn := f, tmps, params := ps, assign, body, defers := D }
def mark (D : Nat) : Ob := .aux D (.deferred (some []))
/-- The statement; J: what it leaves, and the jump that is pending. -/
theorem g_rangeFunc {g : Operand} {ps : Array Tmp} {assign body : Code} {gf : FuncId} {cap : List D} {ms : List Nat} (J : Option Code → St → Prop) {σ1 : St} (τ : St) (hg : ev env g = some (.clo (.func gf) [] cap)) (ho : okOpnd g = true) (hc : callee P gf) (hσ : σ.Perm (σ1 ++ τ))
    (hS : ∀ (l D : Nat) (tmps : Array Value), fn.ntmps ≤ tmps.size → Spec P gf (.clo (.yield l) [] [] :: cap) (.loop l env (rec0 f tmps ps assign body D) :: σ1) fun _ σ' => ∃ st jump σ1', st ≠ .busy ∧ σ' = .loop l env { rec0 f tmps ps assign body D with state := st, pending := jump } :: σ1' ∧ J jump σ1')
    (hk : ∀ D jump σ1', J jump σ1' → GoesG ⟨none, D :: ms, [], .normal⟩ P f fn K R ((jump.map Item.code).toList ++ k) env (mark D :: (σ1' ++ τ))) : GoesG ⟨none, ms, [], .normal⟩ P f fn K R (.code (.rangeFunc g ps assign body) :: k) env σ := fun p a w hi hre hn hd b cs hb hkd hro hf => by
  have hgv := ev_rep hre hg ho
  simp only [Rep] at hgv
  obtain ⟨fs, lb, hgv, hfs, hlb⟩ := hgv
  simp only [Repl] at hfs
  subst hfs
  obtain ⟨W1, hW1⟩ : ∃ W1, (w.alloc (.deferred (some []))).alloc (.loop (rec0 f a.tmps ps assign body w.heap.size)) = W1 := ⟨_, rfl⟩
  have hL1 : W1.heap[w.heap.size + 1]? = some (.loop (rec0 f a.tmps ps assign body w.heap.size)) := by
    rw [← hW1]; have := World.alloc_heap_new (w.alloc (.deferred (some []))) (.loop (rec0 f a.tmps ps assign body w.heap.size)); rwa [World.size_alloc] at this
  have hK1 : W1.heap[w.heap.size]? = some (.deferred (some [])) := by
    rw [← hW1]; exact (Below.heap_alloc _ _ _ (by simp)).trans (World.alloc_heap_new w _)
  have hgr : Grow p w p W1 := by
    rw [← hW1]; exact (grow_alloc hi.pub _).tr (grow_alloc (hi.alloc _).pub _)
  have hi1 : Inv K p σ W1 := by rw [← hW1]; exact (hi.alloc _).alloc _
  have hnew : ∀ x, x ∈ blks σ → x < w.heap.size := fun x hx => hi.lt hx
  have hi2 : Inv K p (mark w.heap.size :: σ) W1 := hi1.more (o := mark w.heap.size) hK1 fun x hx => by
    simp only [mark, Ob.blk, Option.some.injEq] at hx
    subst hx
    exact ⟨.inl hi.size, fun h => absurd (hnew _ h) (Nat.lt_irrefl _)⟩
  have hi3 : Inv K p (.loop (w.heap.size + 1) env (rec0 f a.tmps ps assign body w.heap.size) :: mark w.heap.size :: σ) W1 := hi2.more ⟨hL1, fun t d ht => (hre t d ht).grow hgr⟩ fun x hx => by
    simp only [Ob.blk, Option.some.injEq] at hx
    subst hx
    refine ⟨.inl (Nat.le_succ_of_le hi.size), fun h => ?_⟩
    simp only [blks, List.filterMap_cons, mark, Ob.blk] at h
    rcases List.mem_cons.1 h with h | h
    · omega
    · exact absurd (hnew _ h) (by omega)
  have hp3 : (.loop (w.heap.size + 1) env (rec0 f a.tmps ps assign body w.heap.size) :: mark w.heap.size :: σ : St).Perm ((.loop (w.heap.size + 1) env (rec0 f a.tmps ps assign body w.heap.size) :: σ1) ++ (mark w.heap.size :: τ)) := by
    refine List.Perm.cons _ ?_
    refine (List.Perm.cons _ hσ).trans ?_
    exact (List.perm_middle (l₁ := σ1) (l₂ := τ) (a := mark w.heap.size)).symm
  have hcall := hS (w.heap.size + 1) w.heap.size a.tmps hn W1 p (.func (.yield (w.heap.size + 1)) #[] #[] :: lb) ((hi3.perm hp3).enter) (by
    simp only [Repl]
    exact ⟨_, _, rfl, by simp only [Rep]; exact ⟨[], [], rfl, Repl.nil _ _, Repl.nil _ _⟩, hlb.grow hgr⟩)
  obtain ⟨e, w', fr, hL, hcomes, hfn, hleave⟩ := hcall (b.atR { a with defers := { target := .collected w.heap.size, args := #[] } :: a.defers } (.inRangeFunc (w.heap.size + 1) :: k) :: cs)
  obtain ⟨v, d, σ', p', rfl, ⟨st, jump, σ1', hst, rfl, hJ⟩, hv, hi'⟩ := hL.resolve_right fun ⟨_, _, _, _, _, h, _⟩ => h
  have hstep := stepR_rangeFunc (P := P) (b := b) (a := a) (k := k) (cs := cs) (w := w) (g := g) (ps := ps) (assign := assign) (body := body) (l := w.heap.size + 1) (mark := [{ target := .collected w.heap.size, args := #[] }]) (w₁ := W1) (w₁' := W1) (w₂ := W1) (d := { target := .fn (.func gf) lb.toArray, args := #[.func (.yield (w.heap.size + 1)) #[] #[]] }) (f := gf) (args := (.func (.yield (w.heap.size + 1)) #[] #[] :: lb).toArray)
    (by rw [← hW1, hro, hb]; exact run_enterLoop_outer _ _ _ _ _)
    (by simp only [resolve, hgv]; simp [go_sem])
    (by
      simp only [invoke]
      rw [run_callFunc hc]
      congr 2
      apply Array.toList_inj.1
      simp)
  have hi4 := (hi3.perm hp3).leave hi'
  obtain ⟨hL4, hE4⟩ := hi4.ok _ (List.mem_cons_self ..)
  obtain ⟨h5, hg5⟩ := inv_put (o' := .aux (w.heap.size + 1) (.loop { rec0 f a.tmps ps assign body w.heap.size with state := .exhausted, pending := jump })) (.loop { rec0 f a.tmps ps assign body w.heap.size with state := .exhausted, pending := jump }) hi4 rfl rfl hL4 rfl fun h _ => h
  have hend := stepR_endRangeFunc (P := P) (b := b) (a := { a with defers := { target := .collected w.heap.size, args := #[] } :: a.defers }) (k := k) (cs := cs) (w := w') (run_endLoop hL4 hst)
  refine .of_steps (w1 := w'.putObj (w.heap.size + 1) (.loop { rec0 f a.tmps ps assign body w.heap.size with state := .exhausted, pending := jump })) (fr1 := b.atR { a with defers := { target := .collected w.heap.size, args := #[] } :: a.defers } ((jump.map Item.code).toList ++ k)) ?_ (hk w.heap.size jump σ1' hJ p' { a with defers := { target := .collected w.heap.size, args := #[] } :: a.defers } _ ?_ ?_ hn ?_ b cs hb hkd hro hf)
  · refine (Steps.one hstep).trans (Steps.trans hcomes ((Steps.one (step_leave_returned hleave)).trans ?_))
    rw [finish_atR_inRangeFunc]
    exact Steps.one hend
  · have := h5.tail
    refine this.perm ?_
    exact List.perm_middle (l₁ := σ1') (l₂ := τ) (a := mark w.heap.size)
  · exact (((hre.grow hgr).grow hi'.gr).grow hg5 : RelEnv p' _ env a)
  · show _ :: a.defers = _
    rw [hd]; rfl

/-- The marks are come to. -/
theorem fin_marks : ∀ (ms : List Nat) (w : World) (fr : Frame) (cs : List Frame), Inv K p (ms.map mark ++ τ) w → fr.mode ≠ .run → fr.defers = ms.map (fun D => { target := .collected D, args := #[] }) →
    ∃ w', Steps P (lone fr cs w) (lone { fr with defers := [] } cs w') ∧ Inv K p τ w' ∧ Grow p w p w'
  | [], w, fr, cs, hi, hm, hd => ⟨w, by rw [show ({ fr with defers := [] } : Frame) = fr by rw [← (show fr.defers = [] from hd)]]; exact .refl _ _, hi, Grow.refl p w⟩
  | D :: ms, w, fr, cs, hi, hm, hd => by
    have hD : w.heap[D]? = some (.deferred (some [])) := hi.ok (mark D) (by simp)
    obtain ⟨h1, hg⟩ := inv_put (o := mark D) (o' := .aux D (.deferred none)) (.deferred none) hi rfl rfl hD rfl fun h _ => h
    have hs := step_collected (P := P) (cs := cs) (fr := fr) (d := { target := .collected D, args := #[] }) hm hd rfl (run_takeDeferred hD)
    obtain ⟨w', h2, h3, h4⟩ := fin_marks ms _ { fr with defers := [] ++ ms.map (fun D => { target := .collected D, args := #[] }) } cs h1.tail hm rfl
    exact ⟨w', (Steps.one hs).trans h2, h3, hg.tr h4⟩
theorem n_ret {ms : List Nat} (ds : List D) (hσ : σ.Perm (ms.map mark ++ τ)) (hds : ResDs P env τ fn.results.toList ds) (hR : R (packD ds) τ) : GoesG ⟨none, ms, [], .normal⟩ P f fn K R (.code .ret :: k) env σ := fun p a w hi hr hn hd b cs hb hk hro hf => by
  obtain ⟨w', h1, h2, h3⟩ := fin_marks (P := P) ms w { b.atR a (.code .ret :: k) with mode := .returning } cs (hi.perm hσ) (by simp) hd
  refine .of_steps ((Steps.one (stepR_ret hro)).trans h1) ?_
  have hr' : RelEnv p w' env { tmps := a.tmps, defers := [] } := hr.grow h3
  obtain ⟨e, q1, q2, q3⟩ := left_of (R := R) (a := { tmps := a.tmps, defers := [] }) h2 hr' rfl hf hds hR b hb hk (.code .ret :: k)
  refine ⟨e, w', { b.atR { tmps := a.tmps, defers := [] } (.code .ret :: k) with mode := .returning }, q1, ?_, hb, q2⟩
  cases e with
  | returned v => exact Steps.refl _ _
  | panicked c => exact Steps.refl _ _
  | outgrown => exact absurd rfl q3
end
end Go.Proofs.Ytlannippingfdaa


namespace Go.Proofs.Ytlannippingfdaa
set_option maxRecDepth 100000
open Go.RowKit

theorem ty_F_int_bool : Ty Try.prog 80 false 1 := ⟨⟨_, Try.underlying80, rfl⟩, by kernel_rfl⟩
theorem ty_F_L_bool : Ty Try.prog 81 false 1 := ⟨⟨_, Try.underlying81, rfl⟩, by kernel_rfl⟩
theorem zv_F_L_bool : ZeroV Try.prog 81 .nilf := .val .nilFunc rfl (by kernel_rfl) rfl
theorem cl_normal_variables1 : callee Try.prog 51 := ⟨_, _, Try.func51, rfl, by decide⟩
theorem cl_normal_variables11 : callee Try.prog 52 := ⟨_, _, Try.func52, rfl, by decide⟩
theorem occ_k1 {t : T} (h : t.k = 1) : occT t = [t.i] := occT_var h
theorem occ_k2 {t : T} (h : t.k = 2) : occT t = occL t.ar := by cases t; simp only [T.k] at h; subst h; simp [occT, T.ar]
theorem occ_k0 {t : T} (h1 : t.k ≠ 1) (h2 : t.k ≠ 2) : occT t = [] := by cases t; simp only [T.k] at h1 h2; simp [occT, h1, h2]

/-- The closure that calls itself. -/
def vW (l b3 : Nat) : D := .clo (.func 52) [] [.ptr (.clo (.yield l) [] []), .ref b3 0 []]
/-- What the walk leaves behind. -/
def VR (C : St) (Y : List Int → St → Prop) (Z : St → Prop) (rest : List Int) (d : D) (σ' : St) : Prop := (d = .bool true ∧ ∃ σ1, σ' = σ1 ++ C ∧ Y rest σ1) ∨ (d = .bool false ∧ ∃ σ1, σ' = σ1 ++ C ∧ Z σ1)

set_option maxHeartbeats 1000000 in
theorem lg_vwalk (l b3 : Nat) (Y : List Int → St → Prop) (Z : St → Prop)
    (hY : ∀ x rest σ, Y (x :: rest) σ → YSpec Try.prog l [.int .i64 x] σ fun d σ' => (d = .bool true ∧ Y rest σ') ∨ (d = .bool false ∧ Z σ')) :
    ∀ (n : Nat) (ts : List T), wtL ts < n → ∀ (rs : List Int) (σ : St), Y (occL ts ++ rs) σ →
      Spec Try.prog 52 [.lst (ts.map encT), .ptr (.clo (.yield l) [] []), .ref b3 0 []] (σ ++ [.cell b3 (vW l b3)]) (VR [.cell b3 (vW l b3)] Y Z rs) := fun n => by
  induction n with
  | zero => intro ts hn; omega
  | succ n IH =>
  intro ts hn rs σ hσ
  refine spec_env [(0, .lst (ts.map encT)), (1, .ptr (.clo (.yield l) [] [])), (2, .ref b3 0 [])] Try.func52 rfl rfl fun K hK => ?_
  refine g_seq ?_
  refine g_run (by kernel_rfl) [(0, .d)] rfl ?_
  refine r_d rfl rfl rfl (s_assign rfl rfl) ?_
  refine r_end ?_
  refine g_seq ?_
  refine g_seq ?_
  refine g_run (by kernel_rfl) [(0, .d), (1, .d), (2, .d)] rfl ?_
  refine r_d rfl rfl rfl (s_move rfl rfl) ?_
  refine r_d rfl rfl rfl (m_len (f := encT) ts rfl el_L_api_Term rfl (asl rfl)) ?_
  refine r_d rfl rfl rfl (s_move rfl rfl) ?_
  refine r_end ?_
  refine g_lenS 7 [] (l := ts.map encT) rfl rfl (asl rfl) fun hla0 => ?_
  simp only [List.length_map] at hla0
  refine g_blockJ (fun env σ' => env = [] ∧ ∃ σ, σ' = σ ++ [.cell b3 (vW l b3)] ∧ Y rs σ) ?_ (fun HK0 => ?_)
  ·
   rintro _ _ ⟨rfl, σ, rfl, hσ⟩
   refine g_seq ?_
   refine g_run (by kernel_rfl) [(0, .d)] rfl ?_
   refine r_d rfl rfl rfl (s_assign rfl rfl) ?_
   refine r_end ?_
   refine g_ret Try.func52 _ (.cons (resTmp rfl (Wk.refl _)) .nil) ?_
   exact .inl ⟨rfl, σ, rfl, hσ⟩
  ·
   refine g_sub [(1, .ptr (.clo (.yield l) [] [])), (2, .ref b3 0 []), (7, .lst (ts.map encT)), (8, .int .i64 (ts.length : Int)), (9, .int .i64 ((0 : Nat) : Int))] (Sub.cons' rfl (Sub.cons' rfl (Sub.cons' rfl (Sub.cons' rfl (Sub.cons' rfl (Sub.nil _)))))) ?_
   refine g_loop (fun n env σ' => ∃ (i : Nat) (σ : St), (n = ts.length - i) ∧ (env = [(1, .ptr (.clo (.yield l) [] [])), (2, .ref b3 0 []), (7, .lst (ts.map encT)), (8, .int .i64 (ts.length : Int)), (9, .int .i64 (i : Int))]) ∧ (σ' = σ ++ [.cell b3 (vW l b3)]) ∧ (i ≤ ts.length) ∧ Y (occL (ts.drop i) ++ rs) σ) _ ⟨0, σ, rfl, rfl, rfl, Nat.zero_le _, hσ⟩ ?_
   clear hσ
   rintro n1 _ _ ⟨i, σ, rfl, rfl, rfl, hi0, hσ⟩ IH0
   rcases listStep ts i hi0 with ⟨ht0, hd0, he0⟩ | ⟨q, ht0, hd0, hq0, hlt0⟩
   ·
    rw [hd0, occL, List.nil_append] at hσ
    refine g_seq ?_
    refine g_run (by kernel_rfl) [(0, .d)] rfl ?_
    refine r_d rfl rfl rfl (s_cmp rfl rfl rfl rfl) ?_
    refine r_end ?_
    refine g_seq ?_
    refine g_known 10 false rfl ht0 ?_
    refine g_condF rfl ?_
    refine g_exit rfl ?_
    refine g_sub [] (Sub.nil _) ?_
    exact HK0 _ _ ⟨rfl, σ, rfl, hσ⟩
   ·
    rw [hd0, occL, List.append_assoc] at hσ
    have hqw : wt q ≤ wtL ts := wt_mem (List.mem_of_getElem? hq0)
    refine g_seq ?_
    refine g_run (by kernel_rfl) [(0, .d)] rfl ?_
    refine r_d rfl rfl rfl (s_cmp rfl rfl rfl rfl) ?_
    refine r_end ?_
    refine g_seq ?_
    refine g_known 10 true rfl ht0 ?_
    refine g_condT rfl ?_
    refine g_skip ?_
    refine g_seq ?_
    refine g_block ?_
    refine g_seq ?_
    refine g_run (by kernel_rfl) [(0, .d), (1, .d), (2, .w), (3, .w)] rfl ?_
    refine r_d rfl rfl rfl (m_index (f := encT) ts rfl el_L_api_Term rfl (asl rfl) rfl hq0 sz_encT rfl) ?_
    refine r_d rfl rfl rfl (s_load rfl rfl (by exact ty_api_Term) (sz_encT _)) ?_
    refine r_w rfl rfl rfl (s_alloc rfl zv_api_Term) ?_
    rintro _ _ ⟨b6, rfl, rfl⟩
    refine r_w01 rfl rfl rfl (t_store0 _ rfl rfl rfl (Wk.refl _) (pf0 _) (by exact ty_api_Term) (sz_encT _) rfl rfl) ?_
    refine r_end ?_
    refine g_freeze 6 b6 rfl (pf0 _) ?_
    have hback : ∀ (σ' : St), Y (occL (ts.drop (i + 1)) ++ rs) σ' → _ := fun σ' h2 => IH0 _ [(1, .ptr (.clo (.yield l) [] [])), (2, .ref b3 0 []), (7, .lst (ts.map encT)), (8, .int .i64 (ts.length : Int)), (9, .int .i64 ((i + 1 : Nat) : Int))] (σ' ++ [.cell b3 (vW l b3)]) (by omega) ⟨i + 1, σ', rfl, rfl, rfl, by omega, h2⟩
    refine g_seq ?_
    refine g_run (by kernel_rfl) [(0, .d), (1, .d)] rfl ?_
    refine r_d rfl rfl rfl (s_fieldAddr rfl fl_api_Term_0 rfl (fsT_get0 _) (fsT_off0 _) rfl) ?_
    refine r_d rfl rfl rfl (s_load rfl rfl (by exact ty_int) rfl) ?_
    refine r_end ?_
    refine g_block ?_
    refine g_seq ?_
    refine g_run (by kernel_rfl) [(0, .d), (1, .d)] rfl ?_
    refine r_d rfl rfl rfl (s_cmp rfl rfl rfl rfl) ?_
    refine r_d rfl rfl rfl (s_assign rfl rfl) ?_
    refine r_end ?_
    refine g_split 15 rfl (fun h15 => ?_) (fun h15 => ?_)
    · have hk : q.k = 1 := of_decide_eq_true h15
      rw [occ_k1 hk] at hσ
      refine g_condT rfl ?_
      refine g_seq ?_
      refine g_run (by kernel_rfl) [(0, .d), (1, .d), (2, .d), (3, .w), (4, .d)] rfl ?_
      refine r_d rfl rfl rfl (s_load rfl rfl (by exact ty_F_int_bool) rfl) ?_
      refine r_d rfl rfl rfl (s_fieldAddr rfl fl_api_Term_1 rfl (fsT_get1 _) (fsT_off1 _) rfl) ?_
      refine r_d rfl rfl rfl (s_load rfl rfl (by exact ty_int) rfl) ?_
      refine r_y rfl rfl rfl (s_yield (σ1 := σ) [.cell b3 (vW l b3)] rfl rfl (.cons rfl (Wk.refl _) .nil) (List.Perm.refl _) (hY q.i _ σ hσ)) ?_
      rintro _ _ ⟨σ2, (⟨rfl, hσ2⟩ | ⟨rfl, hσ2⟩), rfl⟩
      · refine r_d rfl rfl rfl (s_not rfl rfl) ?_
        refine r_end ?_
        refine g_condF rfl ?_
        refine g_skip ?_
        refine g_inBlock ?_
        refine g_inBlock ?_
        refine g_run (by kernel_rfl) [(0, .d), (1, .d)] rfl ?_
        refine r_d rfl rfl rfl (s_ar (r := ((i + 1 : Nat) : Int)) rfl rfl rfl (by simp [iar]) (by omega)) ?_
        refine r_d rfl rfl rfl (s_move rfl rfl) ?_
        refine r_end ?_
        refine g_sub [(1, .ptr (.clo (.yield l) [] [])), (2, .ref b3 0 []), (7, .lst (ts.map encT)), (8, .int .i64 (ts.length : Int)), (9, .int .i64 ((i + 1 : Nat) : Int))] (Sub.cons' rfl (Sub.cons' rfl (Sub.cons' rfl (Sub.cons' rfl (Sub.cons' rfl (Sub.nil _)))))) ?_
        exact hback σ2 hσ2
      · refine r_d rfl rfl rfl (s_not rfl rfl) ?_
        refine r_end ?_
        refine g_condT rfl ?_
        refine g_seq ?_
        refine g_run (by kernel_rfl) [(0, .d)] rfl ?_
        refine r_d rfl rfl rfl (s_assign rfl rfl) ?_
        refine r_end ?_
        refine g_ret Try.func52 _ (.cons (resTmp rfl (Wk.refl _)) .nil) ?_
        exact .inr ⟨rfl, σ2, rfl, hσ2⟩
    · have hk : q.k ≠ 1 := of_decide_eq_false h15
      refine g_condF rfl ?_
      refine g_seq ?_
      refine g_run (by kernel_rfl) [(0, .d), (1, .d)] rfl ?_
      refine r_d rfl rfl rfl (s_cmp rfl rfl rfl rfl) ?_
      refine r_d rfl rfl rfl (s_assign rfl rfl) ?_
      refine r_end ?_
      refine g_split 22 rfl (fun h22 => ?_) (fun h22 => ?_)
      · have hk2 : q.k = 2 := of_decide_eq_true h22
        rw [occ_k2 hk2] at hσ
        have hwq := wt_eq q
        refine g_condT rfl ?_
        refine g_seq ?_
        refine g_run (by kernel_rfl) [(0, .r), (1, .d), (2, .d), (3, .w), (4, .d)] rfl ?_
        refine r_r rfl rfl rfl (t_loadRef rfl rfl (List.mem_append_right _ (.head _)) rfl rfl (by exact ty_F_L_bool) rfl) ?_
        refine r_d rfl rfl rfl (s_fieldAddr rfl fl_api_Term_3 rfl (fsT_get3 _) (fsT_off3 _) rfl) ?_
        refine r_d rfl rfl rfl (s_load rfl rfl (by exact ty_L_api_Term) rfl) ?_
        refine r_w rfl rfl rfl (s_callV (all := [.lst (q.ar.map encT), .ptr (.clo (.yield l) [] []), .ref b3 0 []]) (σ1 := σ ++ [.cell b3 (vW l b3)]) [] rfl rfl cl_normal_variables11 (.cons rfl (Wk.refl _) .nil) rfl (by simp) (IH q.ar (by omega) _ σ hσ)) ?_
        rintro _ _ ⟨_, (⟨rfl, σ2, rfl, hσ2⟩ | ⟨rfl, σ2, rfl, hσ2⟩), rfl⟩
        · rw [List.append_nil]
          refine r_d rfl rfl rfl (s_not rfl rfl) ?_
          refine r_end ?_
          refine g_condF rfl ?_
          refine g_skip ?_
          refine g_inBlock ?_
          refine g_inBlock ?_
          refine g_run (by kernel_rfl) [(0, .d), (1, .d)] rfl ?_
          refine r_d rfl rfl rfl (s_ar (r := ((i + 1 : Nat) : Int)) rfl rfl rfl (by simp [iar]) (by omega)) ?_
          refine r_d rfl rfl rfl (s_move rfl rfl) ?_
          refine r_end ?_
          refine g_sub [(1, .ptr (.clo (.yield l) [] [])), (2, .ref b3 0 []), (7, .lst (ts.map encT)), (8, .int .i64 (ts.length : Int)), (9, .int .i64 ((i + 1 : Nat) : Int))] (Sub.cons' rfl (Sub.cons' rfl (Sub.cons' rfl (Sub.cons' rfl (Sub.cons' rfl (Sub.nil _)))))) ?_
          exact hback σ2 hσ2
        · rw [List.append_nil]
          refine r_d rfl rfl rfl (s_not rfl rfl) ?_
          refine r_end ?_
          refine g_condT rfl ?_
          refine g_seq ?_
          refine g_run (by kernel_rfl) [(0, .d)] rfl ?_
          refine r_d rfl rfl rfl (s_assign rfl rfl) ?_
          refine r_end ?_
          refine g_ret Try.func52 _ (.cons (resTmp rfl (Wk.refl _)) .nil) ?_
          exact .inr ⟨rfl, σ2, rfl, hσ2⟩
      · have hk2 : q.k ≠ 2 := of_decide_eq_false h22
        rw [occ_k0 hk hk2, List.nil_append] at hσ
        refine g_condF rfl ?_
        refine g_skip ?_
        refine g_inBlock ?_
        refine g_inBlock ?_
        refine g_run (by kernel_rfl) [(0, .d), (1, .d)] rfl ?_
        refine r_d rfl rfl rfl (s_ar (r := ((i + 1 : Nat) : Int)) rfl rfl rfl (by simp [iar]) (by omega)) ?_
        refine r_d rfl rfl rfl (s_move rfl rfl) ?_
        refine r_end ?_
        refine g_sub [(1, .ptr (.clo (.yield l) [] [])), (2, .ref b3 0 []), (7, .lst (ts.map encT)), (8, .int .i64 (ts.length : Int)), (9, .int .i64 ((i + 1 : Nat) : Int))] (Sub.cons' rfl (Sub.cons' rfl (Sub.cons' rfl (Sub.cons' rfl (Sub.cons' rfl (Sub.nil _)))))) ?_
        exact hback σ hσ

set_option maxHeartbeats 1000000 in
/-- The iterator over the occurrences. -/
theorem lg_variables1 (l : Nat) (ts : List T) (Y : List Int → St → Prop) (Z : St → Prop)
    (hY : ∀ x rest σ, Y (x :: rest) σ → YSpec Try.prog l [.int .i64 x] σ fun d σ' => (d = .bool true ∧ Y rest σ') ∨ (d = .bool false ∧ Z σ'))
    (σ : St) (h0 : Y (occL ts) σ) : Spec Try.prog 51 [.clo (.yield l) [] [], .ptr (.lst (ts.map encT))] σ fun _ σ' => Y [] σ' ∨ Z σ' := by
  refine spec_env [(0, .clo (.yield l) [] []), (1, .ptr (.lst (ts.map encT)))] Try.func51 rfl rfl fun K hK => ?_
  refine g_seq ?_
  refine g_run (by kernel_rfl) [(0, .d)] rfl ?_
  refine r_d rfl rfl rfl (s_box rfl rfl rfl) ?_
  refine r_end ?_
  refine g_seq ?_
  refine g_run (by kernel_rfl) [(0, .w)] rfl ?_
  refine r_w rfl rfl rfl (s_alloc rfl zv_F_L_bool) ?_
  rintro _ _ ⟨b3, rfl, rfl⟩
  refine r_end ?_
  refine g_seq ?_
  refine g_run (by kernel_rfl) [(0, .d), (1, .w)] rfl ?_
  refine r_d rfl rfl rfl (s_makeFunc rfl rfl rfl) ?_
  refine r_w01 rfl rfl rfl (t_store0 σ rfl rfl rfl (Wk.refl (vW l b3)) (pf0 _) (by exact ty_F_L_bool) rfl rfl rfl) ?_
  refine r_end ?_
  refine g_perm (σ ++ [.cell b3 (vW l b3)]) [] (by rw [List.append_nil]; exact List.perm_append_comm (l₁ := [_])) ?_
  refine g_run (by kernel_rfl) [(0, .r), (1, .d), (2, .w)] rfl ?_
  refine r_r rfl rfl rfl (t_loadRef rfl rfl (List.mem_append_right _ (.head _)) rfl rfl (by exact ty_F_L_bool) rfl) ?_
  refine r_d rfl rfl rfl (s_load rfl rfl (by exact ty_L_api_Term) rfl) ?_
  refine r_w rfl rfl rfl (s_callV (all := [.lst (ts.map encT), .ptr (.clo (.yield l) [] []), .ref b3 0 []]) (σ1 := σ ++ [.cell b3 (vW l b3)]) [] rfl rfl cl_normal_variables11 (.cons rfl (Wk.refl _) .nil) rfl (by simp) (lg_vwalk l b3 Y Z hY (wtL ts + 1) ts (by omega) [] σ (by rw [List.append_nil]; exact h0))) ?_
  rintro _ _ ⟨_, (⟨rfl, σ2, rfl, hσ2⟩ | ⟨rfl, σ2, rfl, hσ2⟩), rfl⟩
  · rw [List.append_nil]
    refine r_end ?_
    refine g_perm σ2 [.cell b3 (vW l b3)] (List.Perm.refl _) ?_
    refine g_end Try.func51 _ .nil ?_
    exact .inl hσ2
  · rw [List.append_nil]
    refine r_end ?_
    refine g_perm σ2 [.cell b3 (vW l b3)] (List.Perm.refl _) ?_
    refine g_end Try.func51 _ .nil ?_
    exact .inr hσ2

theorem lg_variables (ts : List T) : Gives Try.prog 32 [.lst (ts.map encT)] (.clo (.func 51) [] [.ptr (.lst (ts.map encT))]) := by
  refine spec_env [(0, .lst (ts.map encT))] Try.func32 rfl rfl fun K hK => ?_
  refine g_seq ?_
  refine g_run (by kernel_rfl) [(0, .d), (1, .d)] rfl ?_
  refine r_d rfl rfl rfl (s_box rfl rfl rfl) ?_
  refine r_d rfl rfl rfl (s_assign rfl rfl) ?_
  refine r_end ?_
  refine g_seq ?_
  refine g_run (by kernel_rfl) [(0, .d), (1, .d)] rfl ?_
  refine r_d rfl rfl rfl (s_makeFunc rfl rfl rfl) ?_
  refine r_d rfl rfl rfl (s_assign rfl rfl) ?_
  refine r_end ?_
  refine g_ret Try.func32 _ (.cons (resTmp rfl (Wk.refl _)) .nil) ?_
  rfl
end Go.Proofs.Ytlannippingfdaa


namespace Go.Proofs.Ytlannippingfdaa
set_option maxRecDepth 100000
open Go.RowKit

noncomputable def x_occs (l : List T) : Option (List Int) := some (occL l)
theorem x_occs_some {l : List T} {r : List Int} (h : x_occs l = some r) : occL l = r := Option.some.inj h
section
variable {P : Program} {f : FuncId} {fn : Func} {K : Ctx} {R : D → St → Prop} {k : List Item} {env : Env} {σ : St} {m : Md}
theorem g_blockM {id : Nat} {c : Code} (J : Md → Env → St → Prop) (hJ : ∀ m env σ, J m env σ → GoesG m P f fn K R k env σ) (h : (∀ m env σ, J m env σ → GoesG m P f fn K R k env σ) → GoesG m P f fn K R (.code c :: .inBlock id :: k) env σ) : GoesG m P f fn K R (.code (.block id c) :: k) env σ := g_block (h hJ)
theorem g_loopM {c : Code} (I : Nat → Md → Env → St → Prop) (n : Nat) (h0 : I n m env σ) (round : ∀ n m env σ, I n m env σ → (∀ m' md env' σ', m' < n → I m' md env' σ' → GoesG md P f fn K R (.inLoop c :: k) env' σ') → GoesG m P f fn K R (.code c :: .inLoop c :: k) env σ) : GoesG m P f fn K R (.code (.loop c) :: k) env σ := by
  refine g_step (fun _ _ _ _ => stepR_loop) ?_
  have key : ∀ n m env σ, I n m env σ → GoesG m P f fn K R (.code c :: .inLoop c :: k) env σ := by
    intro n
    induction n using Nat.strongRecOn with
    | _ n ih => exact fun m env σ hI => round n m env σ hI fun m' md env' σ' hm hI' => g_inLoop (ih m' hm md env' σ' hI')
  exact key n m env σ h0
end
/-- The iterator in a loop that may return. -/
theorem iterRet {V : Type} (l : Nat) (ts : List T) (E : Env) {L : Loop} (S : V → St) (A : List Int → V → Prop) (B : V → Prop) (v0 : V) (h0 : A (occL ts) v0) {R : D → St → Prop}
    (hY : ∀ x rest v, A (x :: rest) v → YSpec Try.prog l [.int .i64 x] (.loop l E L :: S v) fun d σ' => (d = .bool true ∧ ∃ v', σ' = .loop l E L :: S v' ∧ A rest v') ∨ (d = .bool false ∧ ∃ v', σ' = .loop l E { L with state := .done, pending := some .ret } :: S v' ∧ B v'))
    (hR : ∀ d σ', (∃ v, σ' = .loop l E L :: S v ∧ A [] v) ∨ (∃ v, σ' = .loop l E { L with state := .done, pending := some .ret } :: S v ∧ B v) → R d σ') : Spec Try.prog 51 [.clo (.yield l) [] [], .ptr (.lst (ts.map encT))] (.loop l E L :: S v0) R :=
  specMono (lg_variables1 l ts (fun rest σ => ∃ v, σ = .loop l E L :: S v ∧ A rest v) (fun σ => ∃ v, σ = .loop l E { L with state := .done, pending := some .ret } :: S v ∧ B v) (fun x rest σ hσ => by
    obtain ⟨v, rfl, h⟩ := hσ
    exact hY x rest v h) _ ⟨v0, rfl, h0⟩) hR
theorem ty_map_int_Unit : Ty Try.prog 56 false 1 := ⟨⟨_, Try.underlying56, rfl⟩, by kernel_rfl⟩

theorem zvx_map_int_Unit : ZeroV Try.prog 56 (.nilm) := .val (.map none) rfl (by kernel_rfl) rfl

theorem zm_Unit : ZeroM Try.prog 59 (.agg []) := ⟨.agg #[], by kernel_rfl, fun _ _ => by simp only [Rep]; exact ⟨[], rfl, Reps.nil _ _, by simp⟩⟩

theorem zvx_map_int_int : ZeroV Try.prog 70 (.nilm) := .val (.map none) rfl (by kernel_rfl) rfl

noncomputable def lf_occur_count (r_a0 : S_api_Rule) : Option (Int) :=
  some ((wr ((r_a0.f1_Keep.length : Int) + (r_a0.f2_Remove.length : Int))))

set_option maxHeartbeats 1000000 in
theorem lg_occur_count (r_a0 : S_api_Rule) (res : Int) (hr : lf_occur_count r_a0 = some res) : Gives Try.prog 65 [enc_S_api_Rule r_a0] (.int .i64 res) := by
  unfold lf_occur_count at hr
  refine spec_env [(0, enc_S_api_Rule r_a0)] Try.func65 rfl rfl fun K hK => ?_
  refine g_seq ?_
  refine g_run (by kernel_rfl) [(0, .d), (1, .d)] rfl ?_
  refine r_d rfl rfl rfl (s_box rfl rfl rfl) ?_
  refine r_d rfl rfl rfl (s_assign rfl rfl) ?_
  refine r_end ?_
  refine g_seq ?_
  refine g_run (by kernel_rfl) [(0, .d), (1, .d), (2, .d), (3, .d), (4, .d), (5, .d), (6, .d), (7, .d)] rfl ?_
  refine r_d rfl rfl rfl (s_fieldAddr rfl fl_api_Rule_1 rfl rfl rfl rfl) ?_
  refine r_d rfl rfl rfl (s_load rfl rfl (by exact ty_L_api_Atom) rfl) ?_
  refine r_d rfl rfl rfl (m_len (f := encA) r_a0.f1_Keep rfl el_L_api_Atom rfl (asl rfl)) ?_
  refine r_d rfl rfl rfl (s_fieldAddr rfl fl_api_Rule_2 rfl rfl rfl rfl) ?_
  refine r_d rfl rfl rfl (s_load rfl rfl (by exact ty_L_api_Atom) rfl) ?_
  refine r_d rfl rfl rfl (m_len (f := encA) r_a0.f2_Remove rfl el_L_api_Atom rfl (asl rfl)) ?_
  refine r_d rfl rfl rfl (s_arW rfl rfl rfl rfl) ?_
  refine r_d rfl rfl rfl (s_assign rfl rfl) ?_
  refine r_end ?_
  obtain rfl := Option.some.inj hr
  refine g_ret Try.func65 _ (.cons (resTmp rfl (Wk.refl _)) .nil) ?_
  rfl

noncomputable def lf_occur_Heads (r_a0 : S_api_Rule) : Option ((List At)) :=
  ((lf_occur_count r_a0).bind fun r_2 =>
  ((makeO 40 r_2).bind fun c_3 =>
  ((appO 40 [] r_a0.f1_Keep).bind fun l_5 =>
  ((appO 40 l_5 r_a0.f2_Remove).bind fun l_7 =>
  some (l_7)))))

set_option maxHeartbeats 1000000 in
theorem lg_occur_Heads (r_a0 : S_api_Rule) (res : (List At)) (hr : lf_occur_Heads r_a0 = some res) : Gives Try.prog 53 [enc_S_api_Rule r_a0] (.lst (res.map encA)) := by
  unfold lf_occur_Heads at hr
  refine spec_env [(0, enc_S_api_Rule r_a0)] Try.func53 rfl rfl fun K hK => ?_
  refine g_seq ?_
  refine g_run (by kernel_rfl) [(0, .d), (1, .w)] rfl ?_
  refine r_d rfl rfl rfl (s_box rfl rfl rfl) ?_
  refine r_w rfl rfl rfl (s_nilOwn 33 2 (.inl rfl)) ?_
  rintro _ _ ⟨u2_0, rfl, rfl⟩
  refine r_end ?_
  refine g_seq ?_
  refine g_run (by kernel_rfl) [(0, .d), (1, .d), (2, .w), (3, .d)] rfl ?_
  refine r_d rfl rfl rfl (s_load rfl rfl (by exact ty_api_Rule) (sz_S_api_Rule _)) ?_
  obtain ⟨r_2, hr_2, hr⟩ := bindS hr
  refine r_d rfl rfl rfl (s_callD rfl cl_occur_count (.cons rfl (Wk.refl _) .nil) (lg_occur_count _ _ hr_2)) ?_
  obtain ⟨c_3, hc_3, hr⟩ := bindS hr
  refine r_w rfl rfl rfl (m_make0 (f := encA) rfl el_L_api_Atom rfl rfl hc_3) ?_
  rintro _ _ ⟨u6_3, rfl, rfl⟩
  refine r_d rfl rfl rfl (s_assign rfl rfl) ?_
  refine r_end ?_
  refine g_seq ?_
  refine g_run (by kernel_rfl) [(0, .d), (1, .d), (2, .d), (3, .w), (4, .d)] rfl ?_
  refine r_d rfl rfl rfl (s_move rfl rfl) ?_
  refine r_d rfl rfl rfl (s_fieldAddr rfl fl_api_Rule_1 rfl rfl rfl rfl) ?_
  refine r_d rfl rfl rfl (s_load rfl rfl (by exact ty_L_api_Atom) rfl) ?_
  obtain ⟨l_5, hl_5, hr⟩ := bindS hr
  refine r_w rfl rfl rfl (m_appOwn (f := encA) [] r_a0.f1_Keep rfl el_L_api_Atom rfl rfl (asl rfl) (pf0 _) rfl sz_encA hl_5) ?_
  rintro _ _ ⟨u10_5, rfl, rfl⟩
  refine r_d rfl rfl rfl (s_assign rfl rfl) ?_
  refine r_end ?_
  refine g_seq ?_
  refine g_run (by kernel_rfl) [(0, .d), (1, .d), (2, .d), (3, .w), (4, .d)] rfl ?_
  refine r_d rfl rfl rfl (s_move rfl rfl) ?_
  refine r_d rfl rfl rfl (s_fieldAddr rfl fl_api_Rule_2 rfl rfl rfl rfl) ?_
  refine r_d rfl rfl rfl (s_load rfl rfl (by exact ty_L_api_Atom) rfl) ?_
  obtain ⟨l_7, hl_7, hr⟩ := bindS hr
  refine r_w rfl rfl rfl (m_appOwn (f := encA) l_5 r_a0.f2_Remove rfl el_L_api_Atom rfl rfl (asl rfl) (pf0 _) rfl sz_encA hl_7) ?_
  rintro _ _ ⟨u14_7, rfl, rfl⟩
  refine r_d rfl rfl rfl (s_assign rfl rfl) ?_
  refine r_end ?_
  obtain rfl := Option.some.inj hr
  refine g_ret Try.func53 _ (.cons (resTmp rfl (Wk.own _ _)) .nil) ?_
  rfl

noncomputable def lf_normal_arguments_L0 (k : ((List T)) → Option ((List T))) : List At → (List T) → Option ((List T))
  | [], l_5 =>
  (k l_5)
  | q_9 :: rest, l_5 =>
  ((appO 56 l_5 q_9.ts).bind fun l_11 =>
  (lf_normal_arguments_L0 k rest l_11))
noncomputable def lf_normal_arguments (r_a0 : S_api_Rule) : Option ((List T)) :=
  ((lf_occur_Heads r_a0).bind fun r_3 =>
  (lf_normal_arguments_L0 (fun l_8 =>
  some (l_8)) r_3 []))

set_option maxHeartbeats 1000000 in
theorem lg_normal_arguments (r_a0 : S_api_Rule) (res : (List T)) (hr : lf_normal_arguments r_a0 = some res) : Gives Try.prog 33 [enc_S_api_Rule r_a0] (.lst (res.map encT)) := by
  unfold lf_normal_arguments at hr
  refine spec_env [(0, enc_S_api_Rule r_a0)] Try.func33 rfl rfl fun K hK => ?_
  refine g_seq ?_
  refine g_run (by kernel_rfl) [(0, .d), (1, .w)] rfl ?_
  refine r_d rfl rfl rfl (s_box rfl rfl rfl) ?_
  refine r_w rfl rfl rfl (s_nilOwn 36 4 (.inl rfl)) ?_
  rintro _ _ ⟨u2_0, rfl, rfl⟩
  refine r_end ?_
  refine g_seq ?_
  refine g_run (by kernel_rfl) [(0, .w)] rfl ?_
  refine r_w rfl rfl rfl (s_nilOwn 36 4 (.inl rfl)) ?_
  rintro _ _ ⟨u3_1, rfl, rfl⟩
  refine r_end ?_
  refine g_seq ?_
  refine g_seq ?_
  refine g_run (by kernel_rfl) [(0, .d), (1, .d), (2, .d), (3, .d)] rfl ?_
  refine r_d rfl rfl rfl (s_load rfl rfl (by exact ty_api_Rule) (sz_S_api_Rule _)) ?_
  obtain ⟨r_3, hr_3, hr⟩ := bindS hr
  refine r_d rfl rfl rfl (s_callD rfl cl_occur_Heads (.cons rfl (Wk.refl _) .nil) (lg_occur_Heads _ _ hr_3)) ?_
  refine r_d rfl rfl rfl (m_len (f := encA) r_3 rfl el_L_api_Atom rfl (asl rfl)) ?_
  refine r_d rfl rfl rfl (s_move rfl rfl) ?_
  refine r_end ?_
  obtain ⟨kk0, hkk0, hr⟩ := exK (fun k => lf_normal_arguments_L0 k r_3 []) hr
  refine g_len 7 rfl (asl rfl) fun hla0 => ?_
  simp only [List.length_map] at hla0
  refine g_blockJ (fun env σ => ∃ (l_8 : (List T)) (u_7 : Value), env = [(3, .own u_7 (l_8.map encT))] ∧ σ = [.row u_7 l_8.length 36 4] ∧ kk0 l_8 = some res) ?_ (fun HK0 => ?_)
  ·
   rintro _ _ ⟨l_8, u_7, rfl, rfl, hr⟩
   rw [hkk0] at hr
   refine g_seq ?_
   refine g_run (by kernel_rfl) [(0, .d), (1, .d)] rfl ?_
   refine r_d rfl rfl rfl (s_move rfl rfl) ?_
   refine r_d rfl rfl rfl (s_assign rfl rfl) ?_
   refine r_end ?_
   obtain rfl := Option.some.inj hr
   refine g_ret Try.func33 _ (.cons (resTmp rfl (Wk.own _ _)) .nil) ?_
   rfl
  ·
   refine g_sub [(7, .lst (r_3.map encA)), (8, .int .i64 (r_3.length : Int)), (3, .own u3_1 ([].map encT)), (9, .int .i64 ((0 : Nat) : Int))] (Sub.cons' rfl (Sub.cons' rfl (Sub.cons' rfl (Sub.cons' rfl (Sub.nil _))))) ?_
   refine g_perm [_] _ (pf0 _) ?_
   refine g_loop (fun n env σ => ∃ (l_5 : (List T)) (i_6 : Nat) (u_4 : Value), (n = r_3.length - i_6) ∧ (env = [(7, .lst (r_3.map encA)), (8, .int .i64 (r_3.length : Int)), (3, .own u_4 (l_5.map encT)), (9, .int .i64 (i_6 : Int))]) ∧ (σ = [.row u_4 l_5.length 36 4]) ∧ (i_6 ≤ r_3.length) ∧ (lf_normal_arguments_L0 kk0 (r_3.drop i_6) l_5 = some res)) _ ⟨[], 0, u3_1, rfl, rfl, rfl, Nat.zero_le _, hr⟩ ?_
   rintro n _ _ ⟨l_5, i_6, u_4, rfl, rfl, rfl, hi0, hr⟩ IH0
   rcases listStep r_3 i_6 hi0 with ⟨ht0, hd0, he0⟩ | ⟨q_9, ht0, hd0, hq0, hlt0⟩
   ·
    rw [hd0, lf_normal_arguments_L0] at hr
    refine g_seq ?_
    refine g_run (by kernel_rfl) [(0, .d)] rfl ?_
    refine r_d rfl rfl rfl (s_cmp rfl rfl rfl rfl) ?_
    refine r_end ?_
    refine g_seq ?_
    refine g_known 10 false rfl ht0 ?_
    refine g_condF rfl ?_
    refine g_exit rfl ?_
    refine g_sub [(3, .own u_4 (l_5.map encT))] (Sub.cons' rfl (Sub.nil _)) ?_
    exact HK0 _ _ ⟨l_5, u_4, rfl, rfl, hr⟩
   ·
    rw [hd0, lf_normal_arguments_L0] at hr
    refine g_seq ?_
    refine g_run (by kernel_rfl) [(0, .d)] rfl ?_
    refine r_d rfl rfl rfl (s_cmp rfl rfl rfl rfl) ?_
    refine r_end ?_
    refine g_seq ?_
    refine g_known 10 true rfl ht0 ?_
    refine g_condT rfl ?_
    refine g_skip ?_
    refine g_seq ?_
    refine g_block ?_
    refine g_seq ?_
    refine g_run (by kernel_rfl) [(0, .d), (1, .d), (2, .w), (3, .w)] rfl ?_
    refine r_d rfl rfl rfl (m_index (f := encA) r_3 rfl el_L_api_Atom rfl (asl rfl) rfl hq0 sz_encA rfl) ?_
    refine r_d rfl rfl rfl (s_load rfl rfl (by exact ty_api_Atom) (sz_encA _)) ?_
    refine r_w rfl rfl rfl (s_alloc rfl zv_api_Atom) ?_
    rintro _ _ ⟨b5_9, rfl, rfl⟩
    refine r_w01 rfl rfl rfl (t_store0 _ rfl rfl rfl (Wk.refl _) (pf0 _) (by exact ty_api_Atom) (sz_encA _) rfl rfl) ?_
    refine r_end ?_
    refine g_freeze 5 b5_9 rfl (pf0 _) ?_
    refine g_run (by kernel_rfl) [(0, .d), (1, .d), (2, .d), (3, .w), (4, .d)] rfl ?_
    refine r_d rfl rfl rfl (s_move rfl rfl) ?_
    refine r_d rfl rfl rfl (s_fieldAddr rfl fl_api_Atom_1 rfl rfl rfl rfl) ?_
    refine r_d rfl rfl rfl (s_load rfl rfl (by exact ty_L_api_Term) rfl) ?_
    obtain ⟨l_11, hl_11, hr⟩ := bindS hr
    refine r_w rfl rfl rfl (m_appOwn (f := encT) l_5 q_9.ts rfl el_L_api_Term rfl rfl (asl rfl) (pf0 _) rfl sz_encT hl_11) ?_
    rintro _ _ ⟨u16_11, rfl, rfl⟩
    refine r_d rfl rfl rfl (s_assign rfl rfl) ?_
    refine r_end ?_
    refine g_inBlock ?_
    refine g_run (by kernel_rfl) [(0, .d), (1, .d)] rfl ?_
    refine r_d rfl rfl rfl (s_ar (r := ((i_6 + 1 : Nat) : Int)) rfl rfl rfl (by simp [iar]) (by omega)) ?_
    refine r_d rfl rfl rfl (s_move rfl rfl) ?_
    refine r_end ?_
    refine g_sub [(7, .lst (r_3.map encA)), (8, .int .i64 (r_3.length : Int)), (3, .own u16_11 (l_11.map encT)), (9, .int .i64 ((i_6 + 1 : Nat) : Int))] (Sub.cons' rfl (Sub.cons' rfl (Sub.cons' rfl (Sub.cons' rfl (Sub.nil _))))) ?_
    exact IH0 _ _ _ (by omega) ⟨l_11, (i_6 + 1), u16_11, rfl, rfl, rfl, (by omega), hr⟩

noncomputable def lf_normal_IsLinear_L0 (k : Option (Bool)) : List Int → (List (Int × Unit)) → Option (Bool)
  | [], mm_7 =>
  k
  | q_8 :: rest, mm_7 =>
  (bif ((mget mm_7 q_8).isSome) then
  some (false)
  else
  ((mputO mm_7 q_8 ()).bind fun mm_11 =>
  (lf_normal_IsLinear_L0 k rest mm_11)))
noncomputable def lf_normal_IsLinear (r_a0 : S_api_Rule) : Option (Bool) :=
  ((lf_normal_arguments r_a0).bind fun r_4 =>
  ((x_occs r_4).bind fun r_5 =>
  (lf_normal_IsLinear_L0 (some (true)) r_5 [])))

set_option maxHeartbeats 1000000 in
theorem lg_normal_IsLinear (r_a0 : S_api_Rule) (res : Bool) (hr : lf_normal_IsLinear r_a0 = some res) : Gives Try.prog 14 [enc_S_api_Rule r_a0] (.bool res) := by
  unfold lf_normal_IsLinear at hr
  refine spec_env [(0, enc_S_api_Rule r_a0)] Try.func14 rfl rfl fun K hK => ?_
  refine g_seq ?_
  refine g_run (by kernel_rfl) [(0, .d), (1, .w)] rfl ?_
  refine r_d rfl rfl rfl (s_box rfl rfl rfl) ?_
  refine r_w rfl rfl rfl (s_alloc rfl zv_bool) ?_
  rintro _ _ ⟨b2_0, rfl, rfl⟩
  refine r_end ?_
  refine g_seq ?_
  refine g_run (by kernel_rfl) [(0, .w), (1, .w), (2, .w)] rfl ?_
  refine r_w rfl rfl rfl (m_makeMap (α := Int) (β := Unit) (key := (D.int .i64)) (g := encU) rfl) ?_
  rintro _ _ ⟨m7_1, rfl, rfl⟩
  refine r_w rfl rfl rfl (s_alloc rfl zvx_map_int_Unit) ?_
  rintro _ _ ⟨b3_2, rfl, rfl⟩
  refine r_w01 rfl rfl rfl (t_store0 _ rfl rfl rfl (Wk.refl _) (pf0 _) (by exact ty_map_int_Unit) rfl rfl rfl) ?_
  refine r_end ?_
  refine g_freeze 3 b3_2 rfl (pf0 _) ?_
  refine g_seq ?_
  refine g_seq ?_
  refine g_run (by kernel_rfl) [(0, .d), (1, .d), (2, .d)] rfl ?_
  refine r_d rfl rfl rfl (s_load rfl rfl (by exact ty_api_Rule) (sz_S_api_Rule _)) ?_
  obtain ⟨r_4, hr_4, hr⟩ := bindS hr
  refine r_d rfl rfl rfl (s_callD rfl cl_normal_arguments (.cons rfl (Wk.refl _) .nil) (lg_normal_arguments _ _ hr_4)) ?_
  obtain ⟨r_5, hr_5, hr⟩ := bindS hr
  obtain rfl := x_occs_some hr_5
  refine r_d rfl rfl rfl (s_callD rfl cl_normal_variables (.cons rfl (Wk.refl _) .nil) (lg_variables _)) ?_
  refine r_end ?_
  refine g_block ?_
  obtain ⟨kk0, hkk0, hr⟩ := exK (fun k => lf_normal_IsLinear_L0 k (occL r_4) []) hr
  refine g_sub [(2, .ref b2_0 0 []), (3, .ptr (.map m7_1)), (10, .clo (.func 51) [] [.ptr (.lst (r_4.map encT))])] (Sub.cons' rfl (Sub.cons' rfl (Sub.cons' rfl (Sub.nil _)))) ?_
  refine g_perm [.cell b2_0 (.bool false), .map m7_1 (mapM' (D.int .i64) encU ([] : List (Int × Unit)))] _ ((pf0 _).trans (pf1 _ _ _)) ?_
  refine g_rangeFunc (σ1 := [.cell b2_0 (.bool false), .map m7_1 (mapM' (D.int .i64) encU ([] : List (Int × Unit)))]) (fun j σ => (j = none ∧ ∃ mm, σ = [.cell b2_0 (.bool false), .map m7_1 (mapM' (D.int .i64) encU mm)] ∧ kk0 = some res) ∨ (j = some .ret ∧ ∃ mm, σ = [.cell b2_0 (.bool false), .map m7_1 (mapM' (D.int .i64) encU mm)] ∧ res = false)) [] rfl rfl cl_normal_variables1 (by simp) (fun l Dk tmps hsz => ?_) ?_
  · -- the iterator
    refine iterRet l r_4 [(2, .ref b2_0 0 []), (3, .ptr (.map m7_1)), (10, .clo (.func 51) [] [.ptr (.lst (r_4.map encT))])] (fun mm => [.cell b2_0 (.bool false), .map m7_1 (mapM' (D.int .i64) encU mm)]) (fun rest mm => lf_normal_IsLinear_L0 kk0 rest mm = some res) (fun _ => res = false) [] hr (fun x rest mm_7 hr => ?_) ?_
    · rw [lf_normal_IsLinear_L0] at hr
      refine y_round rfl Try.func14 hsz (by kernel_rfl) fun K hK => ?_
      refine g_sub [(11, .int .i64 x), (2, .ref b2_0 0 []), (3, .ptr (.map m7_1))] (Sub.cons' rfl (Sub.cons' rfl (Sub.cons' rfl (Sub.nil _)))) ?_
      refine n_run (by kernel_rfl) [(0, .d)] rfl ?_
      refine r_d rfl rfl rfl (s_assign rfl rfl) ?_
      refine r_end ?_
      refine n_begin rfl (pf0 _) ?_
      refine g_block ?_
      refine g_seq ?_
      refine g_seq ?_
      refine n_run (by kernel_rfl) [(0, .d), (1, .d), (2, .r), (3, .d), (4, .d), (5, .d), (6, .w), (7, .w), (8, .d)] rfl ?_
      refine r_d rfl rfl rfl (s_load rfl rfl (by exact ty_map_int_Unit) rfl) ?_
      refine r_d rfl rfl rfl (s_move rfl rfl) ?_
      refine r_r rfl rfl rfl (m_lookup2 (key := (D.int .i64)) (g := encU) mm_7 x () rfl Try.underlying56 (keyInt Try.underlying3) zm_Unit rfl rfl (.tail _ (.tail _ (.head _)))) ?_
      refine r_d rfl rfl rfl (s_move rfl rfl) ?_
      refine r_d rfl rfl rfl (s_extract rfl rfl rfl) ?_
      refine r_d rfl rfl rfl (s_extract rfl rfl rfl) ?_
      refine r_w rfl rfl rfl (s_alloc rfl zv_Unit) ?_
      rintro _ _ ⟨b5_8, rfl, rfl⟩
      refine r_w01 rfl rfl rfl (t_store0 _ rfl rfl rfl (Wk.refl _) (pf0 _) (by exact ty_Unit) (sz_encU _) rfl rfl) ?_
      refine r_d rfl rfl rfl (s_assign rfl rfl) ?_
      refine r_end ?_
      refine g_freeze 5 b5_8 rfl (pf0 _) ?_
      refine g_seq ?_
      refine n_run (by kernel_rfl) [(0, .d)] rfl ?_
      refine r_d rfl rfl rfl (s_move rfl rfl) ?_
      refine r_end ?_
      refine g_sB 18 rfl hr (fun h18_9 hr => ?_) (fun h18_9 hr => ?_)
      · refine g_condT rfl ?_
        refine g_seq ?_
        refine n_run (by kernel_rfl) [(0, .w)] rfl ?_
        refine r_w01 rfl rfl rfl (t_store0 _ rfl rfl rfl (Wk.refl _) (pf1 _ _ _) (by exact ty_bool) rfl rfl rfl) ?_
        refine r_end ?_
        refine n_rret (pf1 _ _ _) (.inr ⟨rfl, mm_7, rfl, (Option.some.inj hr).symm⟩)
      · refine g_condF rfl ?_
        refine g_skip ?_
        refine n_run (by kernel_rfl) [(0, .d), (1, .d), (2, .d), (3, .w)] rfl ?_
        refine r_d rfl rfl rfl (s_load rfl rfl (by exact ty_map_int_Unit) rfl) ?_
        refine r_d rfl rfl rfl (s_move rfl rfl) ?_
        refine r_d rfl rfl rfl (s_build rfl bt_Unit .nil (.nil _)) ?_
        obtain ⟨mm_11, hmm_11, hr⟩ := bindS hr
        refine r_w01 rfl rfl rfl (m_mapUpdate (key := (D.int .i64)) (g := encU) mm_7 x () rfl Try.underlying56 (keyInt Try.underlying3) rfl rfl rfl (Wk.refl _) (pf2 _ _ _ _) hmm_11) ?_
        refine r_end ?_
        refine g_inBlock ?_
        refine n_rend (permLast3 _ _ _).symm (.inl ⟨rfl, mm_11, rfl, hr⟩)
    · rintro _ σ (⟨mm, rfl, hr⟩ | ⟨mm, rfl, hres⟩)
      · rw [lf_normal_IsLinear_L0] at hr
        exact ⟨.ready, none, _, by simp, rfl, .inl ⟨rfl, mm, rfl, hr⟩⟩
      · exact ⟨.done, some .ret, _, by simp, rfl, .inr ⟨rfl, mm, rfl, hres⟩⟩
  · rintro Dk jump σ1 (⟨rfl, mm, rfl, hr⟩ | ⟨rfl, mm, rfl, hres⟩)
    · rw [hkk0] at hr
      refine g_inBlock ?_
      refine g_seq ?_
      refine n_run (by kernel_rfl) [(0, .w)] rfl ?_
      refine r_w01 rfl rfl rfl (t_store0 _ rfl rfl rfl (Wk.refl _) (pf1 _ _ _) (by exact ty_bool) rfl rfl rfl) ?_
      refine r_end ?_
      obtain rfl := Option.some.inj hr
      refine n_ret (ms := [Dk]) _ (pf1 _ _ _) (.cons (resRef rfl (.head _) (by exact ty_bool) rfl (Wk.refl _)) .nil) ?_
      rfl
    · subst hres
      refine n_ret (ms := [Dk]) (k := _) _ (pf0 _) (.cons (resRef rfl (.head _) (by exact ty_bool) rfl (Wk.refl _)) .nil) ?_
      rfl

noncomputable def lf_normal_uses_L1 (k : (Int) → Option (Int)) (v_a1 : Int) : List Int → Int → Option (Int)
  | [], n_9 =>
  (k n_9)
  | q_11 :: rest, n_9 =>
  (bif (q_11 == v_a1) then
  (lf_normal_uses_L1 k v_a1 rest (wr (n_9 + (1 : Int))))
  else
  (lf_normal_uses_L1 k v_a1 rest n_9))

noncomputable def lf_normal_uses_L0 (k : (Int) → Option (Int)) (v_a1 : Int) : List Gl → Int → Option (Int)
  | [], n_3 =>
  (k n_3)
  | q_5 :: rest, n_3 =>
  ((x_occs q_5.ts).bind fun r_7 =>
  (lf_normal_uses_L1 (fun n_10 =>
  (lf_normal_uses_L0 k v_a1 rest n_10)) v_a1 r_7 n_3))
noncomputable def lf_normal_uses (l_a0 : (List Gl)) (v_a1 : Int) : Option (Int) :=
  (lf_normal_uses_L0 (fun n_4 =>
  some (n_4)) v_a1 l_a0 0)

set_option maxHeartbeats 1000000 in
theorem lg_normal_uses (l_a0 : (List Gl)) (v_a1 : Int) (res : Int) (hr : lf_normal_uses l_a0 v_a1 = some res) : Gives Try.prog 55 [.lst (l_a0.map encG), .int .i64 v_a1] (.int .i64 res) := by
  unfold lf_normal_uses at hr
  refine spec_env [(0, .lst (l_a0.map encG)), (1, .int .i64 v_a1)] Try.func55 rfl rfl fun K hK => ?_
  refine g_seq ?_
  refine g_run (by kernel_rfl) [(0, .d), (1, .d)] rfl ?_
  refine r_d rfl rfl rfl (s_box rfl rfl rfl) ?_
  refine r_d rfl rfl rfl (s_assign rfl rfl) ?_
  refine r_end ?_
  refine g_seq ?_
  refine g_run (by kernel_rfl) [(0, .w), (1, .w)] rfl ?_
  refine r_w rfl rfl rfl (s_alloc rfl zv_int) ?_
  rintro _ _ ⟨b5_0, rfl, rfl⟩
  refine r_w01 rfl rfl rfl (t_store0 _ rfl rfl rfl (Wk.refl _) (pf0 _) (by exact ty_int) rfl rfl rfl) ?_
  refine r_end ?_
  refine g_seq ?_
  refine g_seq ?_
  refine g_run (by kernel_rfl) [(0, .d), (1, .d), (2, .d)] rfl ?_
  refine r_d rfl rfl rfl (s_move rfl rfl) ?_
  refine r_d rfl rfl rfl (m_len (f := encG) l_a0 rfl el_L_api_Goal rfl (asl rfl)) ?_
  refine r_d rfl rfl rfl (s_move rfl rfl) ?_
  refine r_end ?_
  obtain ⟨kk0, hkk0, hr⟩ := exK (fun k => lf_normal_uses_L0 k v_a1 l_a0 0) hr
  refine g_len 0 rfl (asl rfl) fun hla0 => ?_
  simp only [List.length_map] at hla0
  refine g_blockM (fun m env σ => ∃ (n_4 : Int) (ms : List Nat), m = ⟨none, ms, [], .normal⟩ ∧ env = [(5, .ref b5_0 0 [])] ∧ σ = .cell b5_0 (.int .i64 n_4) :: ms.map mark ∧ kk0 n_4 = some res) ?_ (fun HK0 => ?_)
  ·
   rintro _ _ _ ⟨n_4, ms, rfl, rfl, rfl, hr⟩
   rw [hkk0] at hr
   refine g_seq ?_
   refine n_run (by kernel_rfl) [(0, .r), (1, .d)] rfl ?_
   refine r_r rfl rfl rfl (t_loadRef rfl rfl (.head _) rfl rfl (by exact ty_int) rfl) ?_
   refine r_d rfl rfl rfl (s_assign rfl rfl) ?_
   refine r_end ?_
   obtain rfl := Option.some.inj hr
   refine n_ret (ms := ms) (τ := [.cell b5_0 (.int .i64 n_4)]) _ (List.perm_append_comm (l₁ := [_])) (.cons (resTmp rfl (Wk.refl _)) .nil) ?_
   rfl
  ·
   refine g_sub [(3, .ptr (.int .i64 v_a1)), (5, .ref b5_0 0 []), (9, .lst (l_a0.map encG)), (10, .int .i64 (l_a0.length : Int)), (11, .int .i64 ((0 : Nat) : Int))] (Sub.cons' rfl (Sub.cons' rfl (Sub.cons' rfl (Sub.cons' rfl (Sub.cons' rfl (Sub.nil _)))))) ?_
   refine g_loopM (fun n m env σ => ∃ (i_2 : Nat) (n_3 : Int) (ms : List Nat), (n = l_a0.length - i_2) ∧ m = ⟨none, ms, [], .normal⟩ ∧ (env = [(3, .ptr (.int .i64 v_a1)), (5, .ref b5_0 0 []), (9, .lst (l_a0.map encG)), (10, .int .i64 (l_a0.length : Int)), (11, .int .i64 (i_2 : Int))]) ∧ (σ = .cell b5_0 (.int .i64 n_3) :: ms.map mark) ∧ (i_2 ≤ l_a0.length) ∧ (lf_normal_uses_L0 kk0 v_a1 (l_a0.drop i_2) n_3 = some res)) _ ⟨0, 0, [], rfl, rfl, rfl, rfl, Nat.zero_le _, hr⟩ ?_
   rintro n _ _ _ ⟨i_2, n_3, ms, rfl, rfl, rfl, rfl, hi0, hr⟩ IH0
   rcases listStep l_a0 i_2 hi0 with ⟨ht0, hd0, he0⟩ | ⟨q_5, ht0, hd0, hq0, hlt0⟩
   ·
    rw [hd0, lf_normal_uses_L0] at hr
    refine g_seq ?_
    refine n_run (by kernel_rfl) [(0, .d)] rfl ?_
    refine r_d rfl rfl rfl (s_cmp rfl rfl rfl rfl) ?_
    refine r_end ?_
    refine g_seq ?_
    refine g_known 12 false rfl ht0 ?_
    refine g_condF rfl ?_
    refine g_exit rfl ?_
    refine g_sub [(5, .ref b5_0 0 [])] (Sub.cons' rfl (Sub.nil _)) ?_
    exact HK0 _ _ _ ⟨n_3, ms, rfl, rfl, rfl, hr⟩
   ·
    rw [hd0, lf_normal_uses_L0] at hr
    refine g_seq ?_
    refine n_run (by kernel_rfl) [(0, .d)] rfl ?_
    refine r_d rfl rfl rfl (s_cmp rfl rfl rfl rfl) ?_
    refine r_end ?_
    refine g_seq ?_
    refine g_known 12 true rfl ht0 ?_
    refine g_condT rfl ?_
    refine g_skip ?_
    refine g_seq ?_
    refine g_block ?_
    refine g_seq ?_
    refine n_run (by kernel_rfl) [(0, .d), (1, .d), (2, .w), (3, .w)] rfl ?_
    refine r_d rfl rfl rfl (m_index (f := encG) l_a0 rfl el_L_api_Goal rfl (asl rfl) rfl hq0 sz_encG rfl) ?_
    refine r_d rfl rfl rfl (s_load rfl rfl (by exact ty_api_Goal) (sz_encG _)) ?_
    refine r_w rfl rfl rfl (s_alloc rfl zv_api_Goal) ?_
    rintro _ _ ⟨b7_5, rfl, rfl⟩
    refine r_w01 rfl rfl rfl (t_store0 _ rfl rfl rfl (Wk.refl _) (pf0 _) (by exact ty_api_Goal) (sz_encG _) rfl rfl) ?_
    refine r_end ?_
    refine g_freeze 7 b7_5 rfl (pf0 _) ?_
    refine g_seq ?_
    refine n_run (by kernel_rfl) [(0, .d), (1, .d), (2, .d)] rfl ?_
    refine r_d rfl rfl rfl (s_fieldAddr rfl fl_api_Goal_2 rfl rfl rfl rfl) ?_
    refine r_d rfl rfl rfl (s_load rfl rfl (by exact ty_L_api_Term) rfl) ?_
    obtain ⟨r_7, hr_7, hr⟩ := bindS hr
    obtain rfl := x_occs_some hr_7
    refine r_d rfl rfl rfl (s_callD rfl cl_normal_variables (.cons rfl (Wk.refl _) .nil) (lg_variables _)) ?_
    refine r_end ?_
    refine g_block ?_
    obtain ⟨kk1, hkk1, hr⟩ := exK (fun k => lf_normal_uses_L1 k v_a1 (occL q_5.ts) n_3) hr
    refine g_sub [(3, .ptr (.int .i64 v_a1)), (5, .ref b5_0 0 []), (9, .lst (l_a0.map encG)), (10, .int .i64 (l_a0.length : Int)), (11, .int .i64 (i_2 : Int)), (17, .clo (.func 51) [] [.ptr (.lst (q_5.ts.map encT))])] (Sub.cons' rfl (Sub.cons' rfl (Sub.cons' rfl (Sub.cons' rfl (Sub.cons' rfl (Sub.cons' rfl (Sub.nil _))))))) ?_
    refine g_rangeFunc (σ1 := [.cell b5_0 (.int .i64 n_3)]) (fun j σ => j = none ∧ ∃ n, σ = [.cell b5_0 (.int .i64 n)] ∧ kk1 n = some res) (ms.map mark) rfl rfl cl_normal_variables1 (List.Perm.refl _) (fun l Dk tmps hsz => ?_) ?_
    · refine specMono (lg_variables1 l q_5.ts (fun rest σ => ∃ n, σ = .loop l [(3, .ptr (.int .i64 v_a1)), (5, .ref b5_0 0 []), (9, .lst (l_a0.map encG)), (10, .int .i64 (l_a0.length : Int)), (11, .int .i64 (i_2 : Int)), (17, .clo (.func 51) [] [.ptr (.lst (q_5.ts.map encT))])] (rec0 55 tmps _ _ _ Dk) :: [.cell b5_0 (.int .i64 n)] ∧ lf_normal_uses_L1 kk1 v_a1 rest n = some res) (fun σ => False) (fun x rest σ hσ => ?_) _ ⟨n_3, rfl, hr⟩) ?_
      · obtain ⟨n_9, rfl, hr⟩ := hσ
        rw [lf_normal_uses_L1] at hr
        refine y_round rfl Try.func55 hsz (by kernel_rfl) fun K hK => ?_
        refine g_sub [(18, .int .i64 x), (3, .ptr (.int .i64 v_a1)), (5, .ref b5_0 0 [])] (Sub.cons' rfl (Sub.cons' rfl (Sub.cons' rfl (Sub.nil _)))) ?_
        refine n_run (by kernel_rfl) [(0, .d)] rfl ?_
        refine r_d rfl rfl rfl (s_assign rfl rfl) ?_
        refine r_end ?_
        refine n_begin rfl (pf0 _) ?_
        refine g_block ?_
        refine g_seq ?_
        refine n_run (by kernel_rfl) [(0, .d), (1, .d), (2, .d)] rfl ?_
        refine r_d rfl rfl rfl (s_move rfl rfl) ?_
        refine r_d rfl rfl rfl (s_load rfl rfl (by exact ty_int) rfl) ?_
        refine r_d rfl rfl rfl (s_cmp rfl rfl rfl rfl) ?_
        refine r_end ?_
        refine g_sB 21 rfl hr (fun h21 hr => ?_) (fun h21 hr => ?_)
        · refine g_condT rfl ?_
          refine n_run (by kernel_rfl) [(0, .r), (1, .d), (2, .w)] rfl ?_
          refine r_r rfl rfl rfl (t_loadRef rfl rfl (.tail _ (.head _)) rfl rfl (by exact ty_int) rfl) ?_
          refine r_d rfl rfl rfl (s_arW rfl rfl rfl rfl) ?_
          refine r_w01 rfl rfl rfl (t_store0 _ rfl rfl rfl (Wk.refl _) (pf1 _ _ _) (by exact ty_int) rfl rfl rfl) ?_
          refine r_end ?_
          refine g_inBlock ?_
          refine n_rend (pf1 _ _ _) (.inl ⟨rfl, _, rfl, hr⟩)
        · refine g_condF rfl ?_
          refine g_skip ?_
          refine g_inBlock ?_
          refine n_rend (pf0 _) (.inl ⟨rfl, _, rfl, hr⟩)
      · rintro _ σ (⟨n, rfl, hr⟩ | hf)
        · rw [lf_normal_uses_L1] at hr
          exact ⟨.ready, none, _, by simp, rfl, rfl, n, rfl, hr⟩
        · exact hf.elim
    · rintro Dk jump σ1 ⟨rfl, n_10, rfl, hr⟩
      rw [hkk1] at hr
      refine g_inBlock ?_
      refine g_inBlock ?_
      refine n_run (by kernel_rfl) [(0, .d), (1, .d)] rfl ?_
      refine r_d rfl rfl rfl (s_ar (r := ((i_2 + 1 : Nat) : Int)) rfl rfl rfl (by simp [iar]) (by omega)) ?_
      refine r_d rfl rfl rfl (s_move rfl rfl) ?_
      refine r_end ?_
      refine g_sub [(3, .ptr (.int .i64 v_a1)), (5, .ref b5_0 0 []), (9, .lst (l_a0.map encG)), (10, .int .i64 (l_a0.length : Int)), (11, .int .i64 ((i_2 + 1 : Nat) : Int))] (Sub.cons' rfl (Sub.cons' rfl (Sub.cons' rfl (Sub.cons' rfl (Sub.cons' rfl (Sub.nil _)))))) ?_
      refine g_perm (.cell b5_0 (.int .i64 n_10) :: (Dk :: ms).map mark) [] (by rw [List.append_nil]; exact pf1 _ _ _) ?_
      exact IH0 _ _ _ _ (by omega) ⟨(i_2 + 1), n_10, Dk :: ms, rfl, rfl, rfl, rfl, (by omega), hr⟩

noncomputable def lf_normal_joining_L0 (k : ((List (Int × Int))) → Option (Int × Int × Bool)) : List Int → (List (Int × Int)) → Option (Int × Int × Bool)
  | [], mm_16 =>
  (k mm_16)
  | q_25 :: rest, mm_16 =>
  ((mputO mm_16 q_25 (wr (((mget mm_16 q_25).getD 0) + (1 : Int)))).bind fun mm_26 =>
  (lf_normal_joining_L0 k rest mm_26))
noncomputable def lf_normal_joining (r_a0 : S_api_Rule) : Option (Int × Int × Bool) :=
  (bif ((r_a0.f3_Guard.length : Int) == (0 : Int)) then
  some (0, 0, false)
  else
  ((getI r_a0.f3_Guard 0).bind fun q_2 =>
  (bif (q_2.op != (5 : Int)) then
  some (0, 0, false)
  else
  ((x_rightG q_2).bind fun r_5 =>
  (bif (!r_5) then
  some (0, 0, false)
  else
  ((getI q_2.ts 0).bind fun q_7 =>
  (bif (q_7.k != (1 : Int)) then
  some (0, 0, false)
  else
  ((getI q_2.ts 1).bind fun q_9 =>
  (bif (q_9.k != (1 : Int)) then
  some (0, 0, false)
  else
  ((lf_normal_arguments r_a0).bind fun r_13 =>
  ((x_occs r_13).bind fun r_14 =>
  (lf_normal_joining_L0 (fun mm_17 =>
  (bif (q_7.i != q_9.i) then
  (bif (((mget mm_17 q_7.i).getD 0) == (1 : Int)) then
  (bif (decide (((mget mm_17 q_9.i).getD 0) > (0 : Int))) then
  ((subO r_a0.f3_Guard 1 (r_a0.f3_Guard.length : Int)).bind fun l_21 =>
  ((lf_normal_uses l_21 q_7.i).bind fun r_22 =>
  (bif (r_22 == (0 : Int)) then
  ((lf_normal_uses r_a0.f4_Body q_7.i).bind fun r_24 =>
  some (q_7.i, q_9.i, (r_24 == (0 : Int))))
  else
  some (q_7.i, q_9.i, false))))
  else
  some (q_7.i, q_9.i, false))
  else
  some (q_7.i, q_9.i, false))
  else
  some (q_7.i, q_9.i, false))) r_14 []))))))))))))

set_option maxHeartbeats 1000000 in
theorem lg_normal_joining (r_a0 : S_api_Rule) (res : Int × Int × Bool) (hr : lf_normal_joining r_a0 = some res) : Gives Try.prog 34 [enc_S_api_Rule r_a0] (.tup [.int .i64 res.1, .int .i64 res.2.1, .bool res.2.2]) := by
  unfold lf_normal_joining at hr
  refine spec_env [(0, enc_S_api_Rule r_a0)] Try.func34 rfl rfl fun K hK => ?_
  refine g_seq ?_
  refine g_run (by kernel_rfl) [(0, .d), (1, .d), (2, .d), (3, .d)] rfl ?_
  refine r_d rfl rfl rfl (s_box rfl rfl rfl) ?_
  refine r_d rfl rfl rfl (s_assign rfl rfl) ?_
  refine r_d rfl rfl rfl (s_assign rfl rfl) ?_
  refine r_d rfl rfl rfl (s_assign rfl rfl) ?_
  refine r_end ?_
  refine g_seq ?_
  refine g_seq ?_
  refine g_run (by kernel_rfl) [(0, .d), (1, .d), (2, .d), (3, .d)] rfl ?_
  refine r_d rfl rfl rfl (s_fieldAddr rfl fl_api_Rule_3 rfl rfl rfl rfl) ?_
  refine r_d rfl rfl rfl (s_load rfl rfl (by exact ty_L_api_Goal) rfl) ?_
  refine r_d rfl rfl rfl (m_len (f := encG) r_a0.f3_Guard rfl el_L_api_Goal rfl (asl rfl)) ?_
  refine r_d rfl rfl rfl (s_cmp rfl rfl rfl rfl) ?_
  refine r_end ?_
  refine g_sB 11 rfl hr (fun h11_0 hr => ?_) (fun h11_0 hr => ?_)
  ·
   refine g_condT rfl ?_
   refine g_seq ?_
   refine g_run (by kernel_rfl) [(0, .d), (1, .d), (2, .d)] rfl ?_
   refine r_d rfl rfl rfl (s_assign rfl rfl) ?_
   refine r_d rfl rfl rfl (s_assign rfl rfl) ?_
   refine r_d rfl rfl rfl (s_assign rfl rfl) ?_
   refine r_end ?_
   obtain rfl := Option.some.inj hr
   refine g_ret Try.func34 _ (.cons (resTmp rfl (Wk.refl _)) (.cons (resTmp rfl (Wk.refl _)) (.cons (resTmp rfl (Wk.refl _)) .nil))) ?_
   rfl
  ·
   refine g_condF rfl ?_
   refine g_skip ?_
   refine g_seq ?_
   refine g_run (by kernel_rfl) [(0, .d), (1, .d), (2, .d), (3, .d), (4, .w), (5, .w)] rfl ?_
   refine r_d rfl rfl rfl (s_fieldAddr rfl fl_api_Rule_3 rfl rfl rfl rfl) ?_
   refine r_d rfl rfl rfl (s_load rfl rfl (by exact ty_L_api_Goal) rfl) ?_
   obtain ⟨q_2, hq_2, hr⟩ := bindS hr
   refine r_d rfl rfl rfl (m_index (f := encG) r_a0.f3_Guard rfl el_L_api_Goal rfl (asl rfl) rfl hq_2 sz_encG rfl) ?_
   refine r_d rfl rfl rfl (s_load rfl rfl (by exact ty_api_Goal) (sz_encG _)) ?_
   refine r_w rfl rfl rfl (s_alloc rfl zv_api_Goal) ?_
   rintro _ _ ⟨b5_2, rfl, rfl⟩
   refine r_w01 rfl rfl rfl (t_store0 _ rfl rfl rfl (Wk.refl _) (pf0 _) (by exact ty_api_Goal) (sz_encG _) rfl rfl) ?_
   refine r_end ?_
   refine g_freeze 5 b5_2 rfl (pf0 _) ?_
   refine g_seq ?_
   refine g_seq ?_
   refine g_run (by kernel_rfl) [(0, .d), (1, .d), (2, .d), (3, .d), (4, .d), (5, .d), (6, .d), (7, .d), (8, .d), (9, .d), (10, .d), (11, .d), (12, .d), (13, .d), (14, .d), (15, .d), (16, .d), (17, .d), (18, .d), (19, .d), (20, .d), (21, .d), (22, .d), (23, .d)] rfl ?_
   refine r_d rfl rfl rfl (s_fieldAddr rfl fl_api_Goal_0 rfl rfl rfl rfl) ?_
   refine r_d rfl rfl rfl (s_load rfl rfl (by exact ty_int) rfl) ?_
   refine r_d rfl rfl rfl (s_cmp rfl rfl rfl rfl) ?_
   refine r_d rfl rfl rfl (s_move rfl rfl) ?_
   refine r_sB 19 rfl hr (fun h19_3 hr => ?_) (fun h19_3 hr => ?_)
   ·
    refine r_skip rfl rfl rfl ?_
    refine r_skip rfl rfl rfl ?_
    refine r_skip rfl rfl rfl ?_
    refine r_d rfl rfl rfl (s_pickT rfl rfl rfl) ?_
    refine r_d rfl rfl rfl (s_move rfl rfl) ?_
    refine r_skip rfl rfl rfl ?_
    refine r_skip rfl rfl rfl ?_
    refine r_skip rfl rfl rfl ?_
    refine r_skip rfl rfl rfl ?_
    refine r_skip rfl rfl rfl ?_
    refine r_skip rfl rfl rfl ?_
    refine r_d rfl rfl rfl (s_pickT rfl rfl rfl) ?_
    refine r_d rfl rfl rfl (s_move rfl rfl) ?_
    refine r_skip rfl rfl rfl ?_
    refine r_skip rfl rfl rfl ?_
    refine r_skip rfl rfl rfl ?_
    refine r_skip rfl rfl rfl ?_
    refine r_skip rfl rfl rfl ?_
    refine r_skip rfl rfl rfl ?_
    refine r_d rfl rfl rfl (s_pickT rfl rfl rfl) ?_
    refine r_end ?_
    refine g_condT rfl ?_
    refine g_seq ?_
    refine g_run (by kernel_rfl) [(0, .d), (1, .d), (2, .d)] rfl ?_
    refine r_d rfl rfl rfl (s_assign rfl rfl) ?_
    refine r_d rfl rfl rfl (s_assign rfl rfl) ?_
    refine r_d rfl rfl rfl (s_assign rfl rfl) ?_
    refine r_end ?_
    obtain rfl := Option.some.inj hr
    refine g_ret Try.func34 _ (.cons (resTmp rfl (Wk.refl _)) (.cons (resTmp rfl (Wk.refl _)) (.cons (resTmp rfl (Wk.refl _)) .nil))) ?_
    rfl
   ·
    refine r_d rfl rfl rfl (s_load rfl rfl (by exact ty_api_Goal) (sz_encG _)) ?_
    obtain ⟨r_5, hr_5, hr⟩ := bindS hr
    refine r_d rfl rfl rfl (s_callD rfl cl_term_RightGoal (.cons rfl (Wk.refl _) .nil) (lx_term_RightGoal _ _ hr_5)) ?_
    refine r_d rfl rfl rfl (s_not rfl rfl) ?_
    refine r_d rfl rfl rfl (s_pickF rfl rfl rfl) ?_
    refine r_d rfl rfl rfl (s_move rfl rfl) ?_
    refine r_sB 24 rfl hr (fun h24_5 hr => ?_) (fun h24_5 hr => ?_)
    ·
     refine r_skip rfl rfl rfl ?_
     refine r_skip rfl rfl rfl ?_
     refine r_skip rfl rfl rfl ?_
     refine r_skip rfl rfl rfl ?_
     refine r_skip rfl rfl rfl ?_
     refine r_skip rfl rfl rfl ?_
     refine r_d rfl rfl rfl (s_pickT rfl rfl rfl) ?_
     refine r_d rfl rfl rfl (s_move rfl rfl) ?_
     refine r_skip rfl rfl rfl ?_
     refine r_skip rfl rfl rfl ?_
     refine r_skip rfl rfl rfl ?_
     refine r_skip rfl rfl rfl ?_
     refine r_skip rfl rfl rfl ?_
     refine r_skip rfl rfl rfl ?_
     refine r_d rfl rfl rfl (s_pickT rfl rfl rfl) ?_
     refine r_end ?_
     refine g_condT rfl ?_
     refine g_seq ?_
     refine g_run (by kernel_rfl) [(0, .d), (1, .d), (2, .d)] rfl ?_
     refine r_d rfl rfl rfl (s_assign rfl rfl) ?_
     refine r_d rfl rfl rfl (s_assign rfl rfl) ?_
     refine r_d rfl rfl rfl (s_assign rfl rfl) ?_
     refine r_end ?_
     obtain rfl := Option.some.inj hr
     refine g_ret Try.func34 _ (.cons (resTmp rfl (Wk.refl _)) (.cons (resTmp rfl (Wk.refl _)) (.cons (resTmp rfl (Wk.refl _)) .nil))) ?_
     rfl
    ·
     refine r_d rfl rfl rfl (s_fieldAddr rfl fl_api_Goal_2 rfl rfl rfl rfl) ?_
     refine r_d rfl rfl rfl (s_load rfl rfl (by exact ty_L_api_Term) rfl) ?_
     obtain ⟨q_7, hq_7, hr⟩ := bindS hr
     refine r_d rfl rfl rfl (m_index (f := encT) q_2.ts rfl el_L_api_Term rfl (asl rfl) rfl hq_7 sz_encT rfl) ?_
     refine r_d rfl rfl rfl (s_fieldAddr rfl fl_api_Term_0 rfl (fsT_get0 _) (fsT_off0 _) rfl) ?_
     refine r_d rfl rfl rfl (s_load rfl rfl (by exact ty_int) rfl) ?_
     refine r_d rfl rfl rfl (s_cmp rfl rfl rfl rfl) ?_
     refine r_d rfl rfl rfl (s_pickF rfl rfl rfl) ?_
     refine r_d rfl rfl rfl (s_move rfl rfl) ?_
     refine r_sB 32 rfl hr (fun h32_7 hr => ?_) (fun h32_7 hr => ?_)
     ·
      refine r_skip rfl rfl rfl ?_
      refine r_skip rfl rfl rfl ?_
      refine r_skip rfl rfl rfl ?_
      refine r_skip rfl rfl rfl ?_
      refine r_skip rfl rfl rfl ?_
      refine r_skip rfl rfl rfl ?_
      refine r_d rfl rfl rfl (s_pickT rfl rfl rfl) ?_
      refine r_end ?_
      refine g_condT rfl ?_
      refine g_seq ?_
      refine g_run (by kernel_rfl) [(0, .d), (1, .d), (2, .d)] rfl ?_
      refine r_d rfl rfl rfl (s_assign rfl rfl) ?_
      refine r_d rfl rfl rfl (s_assign rfl rfl) ?_
      refine r_d rfl rfl rfl (s_assign rfl rfl) ?_
      refine r_end ?_
      obtain rfl := Option.some.inj hr
      refine g_ret Try.func34 _ (.cons (resTmp rfl (Wk.refl _)) (.cons (resTmp rfl (Wk.refl _)) (.cons (resTmp rfl (Wk.refl _)) .nil))) ?_
      rfl
     ·
      refine r_d rfl rfl rfl (s_fieldAddr rfl fl_api_Goal_2 rfl rfl rfl rfl) ?_
      refine r_d rfl rfl rfl (s_load rfl rfl (by exact ty_L_api_Term) rfl) ?_
      obtain ⟨q_9, hq_9, hr⟩ := bindS hr
      refine r_d rfl rfl rfl (m_index (f := encT) q_2.ts rfl el_L_api_Term rfl (asl rfl) rfl hq_9 sz_encT rfl) ?_
      refine r_d rfl rfl rfl (s_fieldAddr rfl fl_api_Term_0 rfl (fsT_get0 _) (fsT_off0 _) rfl) ?_
      refine r_d rfl rfl rfl (s_load rfl rfl (by exact ty_int) rfl) ?_
      refine r_d rfl rfl rfl (s_cmp rfl rfl rfl rfl) ?_
      refine r_d rfl rfl rfl (s_pickF rfl rfl rfl) ?_
      refine r_end ?_
      refine g_sB 39 rfl hr (fun h39_9 hr => ?_) (fun h39_9 hr => ?_)
      ·
       refine g_condT rfl ?_
       refine g_seq ?_
       refine g_run (by kernel_rfl) [(0, .d), (1, .d), (2, .d)] rfl ?_
       refine r_d rfl rfl rfl (s_assign rfl rfl) ?_
       refine r_d rfl rfl rfl (s_assign rfl rfl) ?_
       refine r_d rfl rfl rfl (s_assign rfl rfl) ?_
       refine r_end ?_
       obtain rfl := Option.some.inj hr
       refine g_ret Try.func34 _ (.cons (resTmp rfl (Wk.refl _)) (.cons (resTmp rfl (Wk.refl _)) (.cons (resTmp rfl (Wk.refl _)) .nil))) ?_
       rfl
      ·
       refine g_condF rfl ?_
       refine g_skip ?_
       refine g_seq ?_
       refine g_any (by kernel_rfl) (by kernel_rfl) [(0, .d), (1, .d), (2, .d), (3, .d), (4, .d), (5, .d), (6, .d), (7, .d), (8, .d), (9, .d), (10, .d), (11, .d)] (by kernel_rfl) ?_
       refine r_d rfl rfl rfl (s_fieldAddr rfl fl_api_Goal_2 rfl rfl rfl rfl) ?_
       refine r_d rfl rfl rfl (s_load rfl rfl (by exact ty_L_api_Term) rfl) ?_
       refine r_d rfl rfl rfl (m_index (f := encT) q_2.ts rfl el_L_api_Term rfl (asl rfl) rfl hq_7 sz_encT rfl) ?_
       refine r_d rfl rfl rfl (s_fieldAddr rfl fl_api_Term_1 rfl (fsT_get1 _) (fsT_off1 _) rfl) ?_
       refine r_d rfl rfl rfl (s_load rfl rfl (by exact ty_int) rfl) ?_
       refine r_d rfl rfl rfl (s_fieldAddr rfl fl_api_Goal_2 rfl rfl rfl rfl) ?_
       refine r_d rfl rfl rfl (s_load rfl rfl (by exact ty_L_api_Term) rfl) ?_
       refine r_d rfl rfl rfl (m_index (f := encT) q_2.ts rfl el_L_api_Term rfl (asl rfl) rfl hq_9 sz_encT rfl) ?_
       refine r_d rfl rfl rfl (s_fieldAddr rfl fl_api_Term_1 rfl (fsT_get1 _) (fsT_off1 _) rfl) ?_
       refine r_d rfl rfl rfl (s_load rfl rfl (by exact ty_int) rfl) ?_
       refine r_d rfl rfl rfl (s_assign rfl rfl) ?_
       refine r_d rfl rfl rfl (s_assign rfl rfl) ?_
       refine r_end ?_
       refine g_seq ?_
       refine g_run (by kernel_rfl) [(0, .w), (1, .w), (2, .w)] rfl ?_
       refine r_w rfl rfl rfl (m_makeMap (α := Int) (β := Int) (key := (D.int .i64)) (g := (D.int .i64)) rfl) ?_
       rintro _ _ ⟨m50_10, rfl, rfl⟩
       refine r_w rfl rfl rfl (s_alloc rfl zvx_map_int_int) ?_
       rintro _ _ ⟨b6_11, rfl, rfl⟩
       refine r_w01 rfl rfl rfl (t_store0 _ rfl rfl rfl (Wk.refl _) (pf0 _) (by exact ty_map_int_int) rfl rfl rfl) ?_
       refine r_end ?_
       refine g_freeze 6 b6_11 rfl (pf0 _) ?_
       refine g_seq ?_
       refine g_seq ?_
       refine g_run (by kernel_rfl) [(0, .d), (1, .d), (2, .d)] rfl ?_
       refine r_d rfl rfl rfl (s_load rfl rfl (by exact ty_api_Rule) (sz_S_api_Rule _)) ?_
       obtain ⟨r_13, hr_13, hr⟩ := bindS hr
       refine r_d rfl rfl rfl (s_callD rfl cl_normal_arguments (.cons rfl (Wk.refl _) .nil) (lg_normal_arguments _ _ hr_13)) ?_
       obtain ⟨r_14, hr_14, hr⟩ := bindS hr
       obtain rfl := x_occs_some hr_14
       refine r_d rfl rfl rfl (s_callD rfl cl_normal_variables (.cons rfl (Wk.refl _) .nil) (lg_variables _)) ?_
       refine r_end ?_
       refine g_block ?_
       obtain ⟨kk0, hkk0, hr⟩ := exK (fun k => lf_normal_joining_L0 k (occL r_13) []) hr
       refine g_sub [(1, .ptr (enc_S_api_Rule r_a0)), (2, .int .i64 q_7.i), (3, .int .i64 q_9.i), (6, .ptr (.map m50_10)), (53, .clo (.func 51) [] [.ptr (.lst (r_13.map encT))])] (Sub.cons' rfl (Sub.cons' rfl (Sub.cons' rfl (Sub.cons' rfl (Sub.cons' rfl (Sub.nil _)))))) ?_
       refine g_rangeFunc (σ1 := [.map m50_10 (mapM' (D.int .i64) (D.int .i64) [])]) (fun j σ => j = none ∧ ∃ mm, σ = [.map m50_10 (mapM' (D.int .i64) (D.int .i64) mm)] ∧ kk0 mm = some res) [] rfl rfl cl_normal_variables1 (by simp) (fun l Dk tmps hsz => ?_) ?_
       · refine specMono (lg_variables1 l r_13 (fun rest σ => ∃ mm, σ = .loop l [(1, .ptr (enc_S_api_Rule r_a0)), (2, .int .i64 q_7.i), (3, .int .i64 q_9.i), (6, .ptr (.map m50_10)), (53, .clo (.func 51) [] [.ptr (.lst (r_13.map encT))])] (rec0 34 tmps _ _ _ Dk) :: [.map m50_10 (mapM' (D.int .i64) (D.int .i64) mm)] ∧ lf_normal_joining_L0 kk0 rest mm = some res) (fun σ => False) (fun x rest σ hσ => ?_) _ ⟨[], rfl, hr⟩) ?_
         · obtain ⟨mm_16, rfl, hr⟩ := hσ
           rw [lf_normal_joining_L0] at hr
           refine y_round rfl Try.func34 hsz (by kernel_rfl) fun K hK => ?_
           refine g_sub [(54, .int .i64 x), (6, .ptr (.map m50_10))] (Sub.cons' rfl (Sub.cons' rfl (Sub.nil _))) ?_
           refine n_run (by kernel_rfl) [(0, .d)] rfl ?_
           refine r_d rfl rfl rfl (s_assign rfl rfl) ?_
           refine r_end ?_
           refine n_begin rfl (pf0 _) ?_
           refine g_block ?_
           refine n_run (by kernel_rfl) [(0, .d), (1, .d), (2, .r), (3, .d), (4, .w)] rfl ?_
           refine r_d rfl rfl rfl (s_load rfl rfl (by exact ty_map_int_int) rfl) ?_
           refine r_d rfl rfl rfl (s_move rfl rfl) ?_
           refine r_r rfl rfl rfl (m_lookup1 (key := (D.int .i64)) (g := (D.int .i64)) mm_16 x 0 rfl Try.underlying70 (keyInt Try.underlying3) zm_int rfl rfl (.tail _ (.head _))) ?_
           refine r_d rfl rfl rfl (s_arW rfl rfl rfl rfl) ?_
           obtain ⟨mm_26, hmm_26, hr⟩ := bindS hr
           refine r_w01 rfl rfl rfl (m_mapUpdate (key := (D.int .i64)) (g := (D.int .i64)) mm_16 x (wr (((mget mm_16 x).getD 0) + (1 : Int))) rfl Try.underlying70 (keyInt Try.underlying3) rfl rfl rfl (Wk.refl _) (pf1 _ _ _) hmm_26) ?_
           refine r_end ?_
           refine g_inBlock ?_
           refine n_rend (pf1 _ _ _) (.inl ⟨rfl, _, rfl, hr⟩)
         · rintro _ σ (⟨mm, rfl, hr⟩ | hf)
           · rw [lf_normal_joining_L0] at hr
             exact ⟨.ready, none, _, by simp, rfl, rfl, mm, rfl, hr⟩
           · exact hf.elim
       ·
        rintro Dk jump σ1 ⟨rfl, mm_17, rfl, hr⟩
        rw [hkk0] at hr
        refine g_inBlock ?_
        refine g_seq ?_
        refine n_run (by kernel_rfl) [(0, .d), (1, .d), (2, .d), (3, .d), (4, .d), (5, .d), (6, .d), (7, .d), (8, .r), (9, .d), (10, .d), (11, .d), (12, .d), (13, .d), (14, .r), (15, .d), (16, .d), (17, .d), (18, .d), (19, .d), (20, .d), (21, .d), (22, .d), (23, .d), (24, .d), (25, .d), (26, .d), (27, .d), (28, .d), (29, .d), (30, .d), (31, .d), (32, .d), (33, .d), (34, .d)] rfl ?_
        refine r_d rfl rfl rfl (s_move rfl rfl) ?_
        refine r_d rfl rfl rfl (s_move rfl rfl) ?_
        refine r_d rfl rfl rfl (s_move rfl rfl) ?_
        refine r_d rfl rfl rfl (s_move rfl rfl) ?_
        refine r_d rfl rfl rfl (s_cmp rfl rfl rfl rfl) ?_
        refine r_d rfl rfl rfl (s_move rfl rfl) ?_
        refine r_sB 64 rfl hr (fun h64_17 hr => ?_) (fun h64_17 hr => ?_)
        ·
         refine r_d rfl rfl rfl (s_load rfl rfl (by exact ty_map_int_int) rfl) ?_
         refine r_d rfl rfl rfl (s_move rfl rfl) ?_
         refine r_r rfl rfl rfl (m_lookup1 (key := (D.int .i64)) (g := (D.int .i64)) mm_17 q_7.i 0 rfl Try.underlying70 (keyInt Try.underlying3) zm_int rfl rfl (.tail _ (.head _))) ?_
         refine r_d rfl rfl rfl (s_cmp rfl rfl rfl rfl) ?_
         refine r_d rfl rfl rfl (s_pickT rfl rfl rfl) ?_
         refine r_d rfl rfl rfl (s_move rfl rfl) ?_
         refine r_sB 70 rfl hr (fun h70_18 hr => ?_) (fun h70_18 hr => ?_)
         ·
          refine r_d rfl rfl rfl (s_load rfl rfl (by exact ty_map_int_int) rfl) ?_
          refine r_d rfl rfl rfl (s_move rfl rfl) ?_
          refine r_r rfl rfl rfl (m_lookup1 (key := (D.int .i64)) (g := (D.int .i64)) mm_17 q_9.i 0 rfl Try.underlying70 (keyInt Try.underlying3) zm_int rfl rfl (.tail _ (.head _))) ?_
          refine r_d rfl rfl rfl (s_cmp rfl rfl rfl rfl) ?_
          refine r_d rfl rfl rfl (s_pickT rfl rfl rfl) ?_
          refine r_d rfl rfl rfl (s_move rfl rfl) ?_
          refine r_sB 76 rfl hr (fun h76_19 hr => ?_) (fun h76_19 hr => ?_)
          ·
           refine r_d rfl rfl rfl (s_fieldAddr rfl fl_api_Rule_3 rfl rfl rfl rfl) ?_
           refine r_d rfl rfl rfl (s_load rfl rfl (by exact ty_L_api_Goal) rfl) ?_
           obtain ⟨l_21, hl_21, hr⟩ := bindS hr
           refine r_d rfl rfl rfl (m_sub (f := encG) r_a0.f3_Guard 1 (r_a0.f3_Guard.length : Int) rfl el_L_api_Goal rfl (asl rfl) (bl_some rfl) bh_none sz_encG hl_21) ?_
           refine r_d rfl rfl rfl (s_move rfl rfl) ?_
           obtain ⟨r_22, hr_22, hr⟩ := bindS hr
           refine r_d rfl rfl rfl (s_callD rfl cl_normal_uses (.cons rfl (Wk.refl _) (.cons rfl (Wk.refl _) .nil)) (lg_normal_uses _ _ _ hr_22)) ?_
           refine r_d rfl rfl rfl (s_cmp rfl rfl rfl rfl) ?_
           refine r_d rfl rfl rfl (s_pickT rfl rfl rfl) ?_
           refine r_d rfl rfl rfl (s_move rfl rfl) ?_
           refine r_sB 84 rfl hr (fun h84_22 hr => ?_) (fun h84_22 hr => ?_)
           ·
            refine r_d rfl rfl rfl (s_fieldAddr rfl fl_api_Rule_4 rfl rfl rfl rfl) ?_
            refine r_d rfl rfl rfl (s_load rfl rfl (by exact ty_L_api_Goal) rfl) ?_
            refine r_d rfl rfl rfl (s_move rfl rfl) ?_
            obtain ⟨r_24, hr_24, hr⟩ := bindS hr
            refine r_d rfl rfl rfl (s_callD rfl cl_normal_uses (.cons rfl (Wk.refl _) (.cons rfl (Wk.refl _) .nil)) (lg_normal_uses _ _ _ hr_24)) ?_
            refine r_d rfl rfl rfl (s_cmp rfl rfl rfl rfl) ?_
            refine r_d rfl rfl rfl (s_pickT rfl rfl rfl) ?_
            refine r_d rfl rfl rfl (s_assign rfl rfl) ?_
            refine r_d rfl rfl rfl (s_assign rfl rfl) ?_
            refine r_d rfl rfl rfl (s_assign rfl rfl) ?_
            refine r_end ?_
            obtain rfl := Option.some.inj hr
            refine n_ret (ms := [Dk]) _ (pf0 _) (.cons (resTmp rfl (Wk.refl _)) (.cons (resTmp rfl (Wk.refl _)) (.cons (resTmp rfl (Wk.refl _)) .nil))) ?_
            rfl
           ·
            refine r_skip rfl rfl rfl ?_
            refine r_skip rfl rfl rfl ?_
            refine r_skip rfl rfl rfl ?_
            refine r_skip rfl rfl rfl ?_
            refine r_skip rfl rfl rfl ?_
            refine r_d rfl rfl rfl (s_pickF rfl rfl rfl) ?_
            refine r_d rfl rfl rfl (s_assign rfl rfl) ?_
            refine r_d rfl rfl rfl (s_assign rfl rfl) ?_
            refine r_d rfl rfl rfl (s_assign rfl rfl) ?_
            refine r_end ?_
            obtain rfl := Option.some.inj hr
            refine n_ret (ms := [Dk]) _ (pf0 _) (.cons (resTmp rfl (Wk.refl _)) (.cons (resTmp rfl (Wk.refl _)) (.cons (resTmp rfl (Wk.refl _)) .nil))) ?_
            rfl
          ·
           refine r_skip rfl rfl rfl ?_
           refine r_skip rfl rfl rfl ?_
           refine r_skip rfl rfl rfl ?_
           refine r_skip rfl rfl rfl ?_
           refine r_skip rfl rfl rfl ?_
           refine r_skip rfl rfl rfl ?_
           refine r_d rfl rfl rfl (s_pickF rfl rfl rfl) ?_
           refine r_d rfl rfl rfl (s_move rfl rfl) ?_
           refine r_skip rfl rfl rfl ?_
           refine r_skip rfl rfl rfl ?_
           refine r_skip rfl rfl rfl ?_
           refine r_skip rfl rfl rfl ?_
           refine r_skip rfl rfl rfl ?_
           refine r_d rfl rfl rfl (s_pickF rfl rfl rfl) ?_
           refine r_d rfl rfl rfl (s_assign rfl rfl) ?_
           refine r_d rfl rfl rfl (s_assign rfl rfl) ?_
           refine r_d rfl rfl rfl (s_assign rfl rfl) ?_
           refine r_end ?_
           obtain rfl := Option.some.inj hr
           refine n_ret (ms := [Dk]) _ (pf0 _) (.cons (resTmp rfl (Wk.refl _)) (.cons (resTmp rfl (Wk.refl _)) (.cons (resTmp rfl (Wk.refl _)) .nil))) ?_
           rfl
         ·
          refine r_skip rfl rfl rfl ?_
          refine r_skip rfl rfl rfl ?_
          refine r_skip rfl rfl rfl ?_
          refine r_skip rfl rfl rfl ?_
          refine r_d rfl rfl rfl (s_pickF rfl rfl rfl) ?_
          refine r_d rfl rfl rfl (s_move rfl rfl) ?_
          refine r_skip rfl rfl rfl ?_
          refine r_skip rfl rfl rfl ?_
          refine r_skip rfl rfl rfl ?_
          refine r_skip rfl rfl rfl ?_
          refine r_skip rfl rfl rfl ?_
          refine r_skip rfl rfl rfl ?_
          refine r_d rfl rfl rfl (s_pickF rfl rfl rfl) ?_
          refine r_d rfl rfl rfl (s_move rfl rfl) ?_
          refine r_skip rfl rfl rfl ?_
          refine r_skip rfl rfl rfl ?_
          refine r_skip rfl rfl rfl ?_
          refine r_skip rfl rfl rfl ?_
          refine r_skip rfl rfl rfl ?_
          refine r_d rfl rfl rfl (s_pickF rfl rfl rfl) ?_
          refine r_d rfl rfl rfl (s_assign rfl rfl) ?_
          refine r_d rfl rfl rfl (s_assign rfl rfl) ?_
          refine r_d rfl rfl rfl (s_assign rfl rfl) ?_
          refine r_end ?_
          obtain rfl := Option.some.inj hr
          refine n_ret (ms := [Dk]) _ (pf0 _) (.cons (resTmp rfl (Wk.refl _)) (.cons (resTmp rfl (Wk.refl _)) (.cons (resTmp rfl (Wk.refl _)) .nil))) ?_
          rfl
        ·
         refine r_skip rfl rfl rfl ?_
         refine r_skip rfl rfl rfl ?_
         refine r_skip rfl rfl rfl ?_
         refine r_skip rfl rfl rfl ?_
         refine r_d rfl rfl rfl (s_pickF rfl rfl rfl) ?_
         refine r_d rfl rfl rfl (s_move rfl rfl) ?_
         refine r_skip rfl rfl rfl ?_
         refine r_skip rfl rfl rfl ?_
         refine r_skip rfl rfl rfl ?_
         refine r_skip rfl rfl rfl ?_
         refine r_d rfl rfl rfl (s_pickF rfl rfl rfl) ?_
         refine r_d rfl rfl rfl (s_move rfl rfl) ?_
         refine r_skip rfl rfl rfl ?_
         refine r_skip rfl rfl rfl ?_
         refine r_skip rfl rfl rfl ?_
         refine r_skip rfl rfl rfl ?_
         refine r_skip rfl rfl rfl ?_
         refine r_skip rfl rfl rfl ?_
         refine r_d rfl rfl rfl (s_pickF rfl rfl rfl) ?_
         refine r_d rfl rfl rfl (s_move rfl rfl) ?_
         refine r_skip rfl rfl rfl ?_
         refine r_skip rfl rfl rfl ?_
         refine r_skip rfl rfl rfl ?_
         refine r_skip rfl rfl rfl ?_
         refine r_skip rfl rfl rfl ?_
         refine r_d rfl rfl rfl (s_pickF rfl rfl rfl) ?_
         refine r_d rfl rfl rfl (s_assign rfl rfl) ?_
         refine r_d rfl rfl rfl (s_assign rfl rfl) ?_
         refine r_d rfl rfl rfl (s_assign rfl rfl) ?_
         refine r_end ?_
         obtain rfl := Option.some.inj hr
         refine n_ret (ms := [Dk]) _ (pf0 _) (.cons (resTmp rfl (Wk.refl _)) (.cons (resTmp rfl (Wk.refl _)) (.cons (resTmp rfl (Wk.refl _)) .nil))) ?_
         rfl
end Go.Proofs.Ytlannippingfdaa


namespace Go.Proofs.Ytlannippingfdaa
set_option maxRecDepth 100000
open Go.RowKit
theorem subT1 (t : T) : subD (encT t) [1] = some (.int .i64 t.i) := by
  simp only [encT, fsT_eq]; rfl
theorem offT1 (t : T) : offD (encT t) [1] = 1 := by
  simp only [encT, fsT_eq]; rfl
theorem offT3 (t : T) : offD (encT t) [3] = 3 := by
  simp only [encT, fsT_eq]; rfl
theorem setT1 (t : T) (n : Int) : setD (encT t) [1] (.int .i64 n) = encT (.mk t.k n t.s t.ar) := by
  simp only [encT, fsT_eq]; rfl
theorem setT3 (t : T) (l : List T) : setD (encT t) [3] (.lst (l.map encT)) = encT (.mk t.k t.i t.s l) := by
  simp only [encT, fsT_eq]; rfl
section
variable {P : Program} {o : Oper} {ρ : Operand → Option D}
theorem s_capN {x : Operand} {t e : TypeId} (ho : o.op = .call { callee := .builtin .cap, args := #[x], argTypes := #[t] }) (ht : P.underlying t = some (.slice e)) (hx : ρ x = some (.own (.slice none 0 0) [])) : StepD P o ρ (.int .i64 0) := stepD_of fun p a w h => by
  have h1 := h x (by rw [ho]; simp [Op.operands, Call.operands]) _ hx
  simp only [Rep] at h1
  refine ⟨.int .i64 0, ?_, by simp only [Rep]; exact ⟨trivial, rfl⟩⟩
  unfold execOp
  rw [ho]
  simp [resolve, invoke, builtin, h1.1, Builtin.cap_, run_underlying ht, goInt]
/-- Nothing of nothing. -/
theorem s_cutN {t e : TypeId} {x y : Operand} {s : Nat} {k : IntKind} (ho : o.op = .slice t x none (some y) none) (hu : P.underlying t = some (.slice e)) (hs : (P.info? e).map (·.size) = some s) (hx : ρ x = some (.own (.slice none 0 0) [])) (hy : ρ y = some (.int k 0)) : StepD P o ρ (.own (.slice none 0 0) []) := stepD_of fun p a w h => by
  have h1 := h x (by rw [ho]; simp [Op.operands]) _ hx
  have h2 := h y (by rw [ho]; simp [Op.operands]) _ hy
  obtain ⟨i, hi', hin⟩ := Option.map_eq_some_iff.1 hs
  refine ⟨.slice none 0 0, ?_, by simp only [Rep] at h1 ⊢; exact ⟨trivial, h1.2⟩⟩
  simp only [Rep] at h1 h2
  unfold execOp
  rw [ho]
  have hb : (Instr.sliceBounds true 0 0 none (some (a.eval y)) none).run P w = .ok (0, 0, 0) w := by
    simp [Instr.sliceBounds, h2.1, Instr.sliceBound, asIntOf]
  simp [h1.1, Instr.sliceAt, Instr.slice, run_underlying hu, hb, sizeOf, typeInfo, hi', hin]
/-- Zeros behind nothing: a row of which nothing is given out. -/
theorem s_growZ {x y : Operand} {t tn e : TypeId} {s by_ : Nat} {n : Int} {σ τ : St} (ho : o.op = .call { callee := .builtin .append, args := #[x, y], argTypes := #[t, tn] }) (hE : ElT P t e s by_) (htn : P.underlying tn = some (.int .i64)) (hx : ρ x = some (.own (.slice none 0 0) [])) (hy : ρ y = some (.int .i64 n)) (hn : 0 < n) (hb : n * by_ ≤ 140737488355328) (h63 : n ≤ 4611686018427387904) (hσ : σ.Perm (.row (.slice none 0 0) 0 e s :: τ)) :
    StepS P o ρ σ fun d' σ' => ∃ A c, d' = .vec (.slice A n.toNat c) n.toNat ∧ c ≤ 9223372036854775807 ∧ σ' = .row (.slice A 0 c) 0 e s :: τ := fun K p a w hi h => by
  obtain ⟨hu, ⟨z, hz, hzs⟩, hs0⟩ := hE
  obtain ⟨i, hii, hz', hsize, hby⟩ := info_parts hz
  have hi := (hi.perm hσ).tail
  have h1 := h x (by rw [ho]; simp [Op.operands, Call.operands]) _ hx
  have h2 := h y (by rw [ho]; simp [Op.operands, Call.operands]) _ hy
  simp only [Rep] at h1 h2
  obtain ⟨m, rfl⟩ : ∃ m : Nat, n = (m : Int) := ⟨n.toNat, by omega⟩
  simp only [Int.toNat_natCast]
  have hb' : m * i.bytes ≤ 140737488355328 := by
    rw [hby]
    have : ((m * by_ : Nat) : Int) ≤ 140737488355328 := by rw [Int.natCast_mul]; exact hb
    omega
  have hr := Lib.run_append_nil_zeros (P := P) w t tn o.type e i z .i64 .i64 hu htn hii hz' m (by omega) (by rw [hsize]; exact hs0) (by omega) (by omega)
  have hge := grownCap_ge w m 0 e
  have hle := grownCap_le_maxLen w m 0 e (by unfold maxLen; omega)
  have hmx : maxLen = 9223372036854775807 := rfl
  generalize grownCap w m 0 e = cap at hr hge hle
  have hrun : (execOp a.eval o).run P w = .ok (.value (.slice (some ⟨w.heap.size, 0, none⟩) m cap)) (w.drew.alloc (.cells (Builtin.zeroCells z.cells m ++ Builtin.zeroCells z.cells (cap - m)) e)) := by
    unfold execOp
    simp only [ho, resolve, invoke, builtin, Sem.run_bind, Sem.run_pure, Result.andThen_ok, List.map_toArray, List.map_cons, List.map_nil, h1.1, h2.1]
    rw [hr]
    rfl
  unfold Oper.wp
  rw [hrun]
  obtain ⟨p', q1, q2, q3⟩ := new_row (K := K) (p := p) (σ := τ) (w := w.drew) (cur := Builtin.zeroCells z.cells m ++ Builtin.zeroCells z.cells (cap - m)) (e := e) (s := s) (n := 0) (cap := cap) (l := []) (xs := []) hi.drew (by
    rw [Array.size_append, size_zeroCells, size_zeroCells, hzs, ← Nat.add_mul]
    congr 1
    omega) (by simp) (Reps.nil _ _) (by simp) rfl (Nat.zero_le _) hle
  refine ⟨_, .vec (.slice (some ⟨w.heap.size, 0, none⟩) m cap) m, _, p', rfl, ⟨_, _, rfl, by omega, rfl⟩, ?_, q2, fun a ha => ?_⟩
  · simp only [Rep]
    exact ⟨trivial, _, _, rfl, hge, by omega⟩
  · exact q3 a ha
/-- .. cut to nothing. -/
theorem s_cut0 {t e : TypeId} {x y : Operand} {s n c : Nat} {A : Option Addr} {k : IntKind} (ho : o.op = .slice t x none (some y) none) (hu : P.underlying t = some (.slice e)) (hs : (P.info? e).map (·.size) = some s) (hx : ρ x = some (.vec (.slice A n c) n)) (hy : ρ y = some (.int k 0)) (hn : 0 < n) (hc : c ≤ 9223372036854775807) : StepD P o ρ (.own (.slice A 0 c) []) := stepD_of fun p a w h => by
  have h1 := h x (by rw [ho]; simp [Op.operands]) _ hx
  have h2 := h y (by rw [ho]; simp [Op.operands]) _ hy
  obtain ⟨i, hi', hin⟩ := Option.map_eq_some_iff.1 hs
  simp only [Rep] at h1 h2
  obtain ⟨h1, A', c', h3, h4, h5⟩ := h1
  injection h3 with h3 h6 h7
  subst h3 h7
  refine ⟨.slice A 0 c, ?_, by simp only [Rep]; exact ⟨trivial, A, c, [], rfl, Nat.zero_le _, hc, .inl rfl, Reps.nil _ _, by simp⟩⟩
  unfold execOp
  rw [ho]
  have hb : (Instr.sliceBounds true n c none (some (a.eval y)) none).run P w = .ok (0, 0, c) w := by
    simp [Instr.sliceBounds, h2.1, Instr.sliceBound, asIntOf]
  have hc0 : c ≠ 0 := by omega
  have hA : A.map (fun x => x.add 0) = A := by
    cases A with
    | none => rfl
    | some b => obtain ⟨b1, b2, b3⟩ := b; cases b3 <;> rfl
  simp [h1, Instr.sliceAt, Instr.slice, run_underlying hu, hb, sizeOf, typeInfo, hi', hin, hc0, hA]
end

/-- How much may be asked for. -/
def x_grow (n : Int) : Option Unit := if 0 ≤ n ∧ n ≤ 1000000000000 then some () else none
theorem x_grow_some {n : Int} {u : Unit} (h : x_grow n = some u) : 0 ≤ n ∧ n ≤ 1000000000000 := by
  unfold x_grow at h
  split at h
  · assumption
  · cases h
set_option maxHeartbeats 1000000 in
theorem lg_grow (n : Int) {u : Unit} (hr : x_grow n = some u) : Spec Try.prog 42 [.own (.slice none 0 0) [], .int .i64 n] [.row (.slice none 0 0) 0 45 3] fun d σ' => ∃ u, d = .own u [] ∧ σ' = [.row u 0 45 3] := by
  obtain ⟨h0, h9⟩ := x_grow_some hr
  have w0 : wr (0 - 0) = 0 := by decide
  have wn : wr (n - 0) = n := by rw [wr_eq (by omega)]; omega
  refine spec_env [(0, .own (.slice none 0 0) []), (1, .int .i64 n)] Try.func42 rfl rfl fun K hK => ?_
  refine g_seq ?_
  refine g_run (by kernel_rfl) [(0, .d)] rfl ?_
  refine r_d rfl rfl rfl (s_assign rfl rfl) ?_
  refine r_end ?_
  refine g_seq ?_
  refine g_seq ?_
  refine g_run (by kernel_rfl) [(0, .d), (1, .d)] rfl ?_
  refine r_d rfl rfl rfl (s_move rfl rfl) ?_
  refine r_d rfl rfl rfl (s_cmp rfl rfl rfl rfl) ?_
  refine r_end ?_
  refine g_known 6 false rfl (decide_eq_false (by omega)) ?_
  refine g_condF rfl ?_
  refine g_skip ?_
  refine g_seq ?_
  refine g_seq ?_
  refine g_run (by kernel_rfl) [(0, .d), (1, .d), (2, .d), (3, .d), (4, .d), (5, .d), (6, .d), (7, .d)] rfl ?_
  refine r_d rfl rfl rfl (s_move rfl rfl) ?_
  refine r_d rfl rfl rfl (s_move rfl rfl) ?_
  refine r_d rfl rfl rfl (s_capN rfl el_L_api_Goal.1 rfl) ?_
  refine r_d rfl rfl rfl (s_move rfl rfl) ?_
  refine r_d rfl rfl rfl (m_len (f := encG) ([] : List Gl) rfl el_L_api_Goal rfl (asl rfl)) ?_
  refine r_d rfl rfl rfl (s_arW rfl rfl rfl rfl) ?_
  refine r_d rfl rfl rfl (s_arW rfl rfl rfl rfl) ?_
  refine r_d rfl rfl rfl (s_assign rfl rfl) ?_
  refine r_end ?_
  refine g_seq ?_
  refine g_eqD 1 (d' := .int .i64 n) rfl (by exact congrArg (D.int .i64) wn) ?_
  refine g_run (by kernel_rfl) [(0, .d), (1, .d)] rfl ?_
  refine r_d rfl rfl rfl (s_move rfl rfl) ?_
  refine r_d rfl rfl rfl (s_cmp rfl rfl rfl rfl) ?_
  refine r_end ?_
  refine g_split 16 rfl (fun h16 => ?_) (fun h16 => ?_)
  · have hp : 0 < n := of_decide_eq_true h16
    refine g_condT rfl ?_
    refine g_run (by kernel_rfl) [(0, .d), (1, .d), (2, .d), (3, .d), (4, .d), (5, .w), (6, .d), (7, .d), (8, .d), (9, .d)] rfl ?_
    refine r_d rfl rfl rfl (s_move rfl rfl) ?_
    refine r_d rfl rfl rfl (s_move rfl rfl) ?_
    refine r_d rfl rfl rfl (s_capN rfl el_L_api_Goal.1 rfl) ?_
    refine r_d rfl rfl rfl (s_cutN rfl el_L_api_Goal.1 (s := 3) (by kernel_rfl) rfl rfl) ?_
    refine r_d rfl rfl rfl (s_move rfl rfl) ?_
    refine r_w rfl rfl rfl (s_growZ (τ := []) (n := n) rfl el_L_api_Goal Try.underlying3 rfl rfl hp (by omega) (by omega) (pf0 _)) ?_
    rintro _ _ ⟨A, c, rfl, hc, rfl⟩
    refine r_d rfl rfl rfl (s_move rfl rfl) ?_
    refine r_d rfl rfl rfl (m_len (f := encG) ([] : List Gl) rfl el_L_api_Goal rfl (asl rfl)) ?_
    refine r_d rfl rfl rfl (s_cut0 rfl el_L_api_Goal.1 (s := 3) (by kernel_rfl) rfl rfl (by omega) hc) ?_
    refine r_d rfl rfl rfl (s_assign rfl rfl) ?_
    refine r_end ?_
    refine g_seq ?_
    refine g_run (by kernel_rfl) [(0, .d), (1, .d)] rfl ?_
    refine r_d rfl rfl rfl (s_move rfl rfl) ?_
    refine r_d rfl rfl rfl (s_assign rfl rfl) ?_
    refine r_end ?_
    refine g_ret Try.func42 _ (.cons (resTmp rfl (Wk.refl _)) .nil) ?_
    exact ⟨_, rfl, rfl⟩
  · refine g_condF rfl ?_
    refine g_skip ?_
    refine g_seq ?_
    refine g_run (by kernel_rfl) [(0, .d), (1, .d)] rfl ?_
    refine r_d rfl rfl rfl (s_move rfl rfl) ?_
    refine r_d rfl rfl rfl (s_assign rfl rfl) ?_
    refine r_end ?_
    refine g_ret Try.func42 _ (.cons (resTmp rfl (Wk.refl _)) .nil) ?_
    exact ⟨_, rfl, rfl⟩

noncomputable def lf_slices_Concat_api_Goal_api_Goal_L1 (k : ((List Gl)) → Option ((List Gl))) : List (List Gl) → (List Gl) → Option ((List Gl))
  | [], newslice_7 =>
  (k newslice_7)
  | q_11 :: rest, newslice_7 =>
  ((appO 48 newslice_7 q_11).bind fun l_12 =>
  (lf_slices_Concat_api_Goal_api_Goal_L1 k rest l_12))

noncomputable def lf_slices_Concat_api_Goal_api_Goal_L0 (k : (Int) → Option ((List Gl))) : List (List Gl) → Int → Option ((List Gl))
  | [], size_2 =>
  (k size_2)
  | q_14 :: rest, size_2 =>
  (bif (decide ((wr (size_2 + (q_14.length : Int))) < (0 : Int))) then
  ((getI q_14 (-1)).bind fun q_16 =>
  (lf_slices_Concat_api_Goal_api_Goal_L0 k rest (wr (size_2 + (q_14.length : Int)))))
  else
  (lf_slices_Concat_api_Goal_api_Goal_L0 k rest (wr (size_2 + (q_14.length : Int)))))
noncomputable def lf_slices_Concat_api_Goal_api_Goal (slices_a0 : (List (List Gl))) : Option ((List Gl)) :=
  (lf_slices_Concat_api_Goal_api_Goal_L0 (fun size_4 =>
  ((x_grow size_4).bind fun _ =>
  (lf_slices_Concat_api_Goal_api_Goal_L1 (fun newslice_10 =>
  some (newslice_10)) slices_a0 []))) slices_a0 0)

set_option maxHeartbeats 1000000 in
theorem lg_slices_Concat_api_Goal_api_Goal (slices_a0 : (List (List Gl))) (res : (List Gl)) (hr : lf_slices_Concat_api_Goal_api_Goal slices_a0 = some res) : Gives Try.prog 25 [.lst (slices_a0.map (fun l => D.lst (l.map encG)))] (.lst (res.map encG)) := by
  unfold lf_slices_Concat_api_Goal_api_Goal at hr
  refine spec_env [(0, .lst (slices_a0.map (fun l => D.lst (l.map encG))))] Try.func25 rfl rfl fun K hK => ?_
  refine g_seq ?_
  refine g_run (by kernel_rfl) [(0, .w)] rfl ?_
  refine r_w rfl rfl rfl (s_nilOwn 45 3 (.inl rfl)) ?_
  rintro _ _ ⟨u2_0, rfl, rfl⟩
  refine r_end ?_
  refine g_seq ?_
  refine g_run (by kernel_rfl) [(0, .d)] rfl ?_
  refine r_d rfl rfl rfl (s_assign rfl rfl) ?_
  refine r_end ?_
  refine g_seq ?_
  refine g_seq ?_
  refine g_run (by kernel_rfl) [(0, .d), (1, .d), (2, .d)] rfl ?_
  refine r_d rfl rfl rfl (s_move rfl rfl) ?_
  refine r_d rfl rfl rfl (m_len (f := (fun l => D.lst (l.map encG))) slices_a0 rfl el_L_L_api_Goal rfl (asl rfl)) ?_
  refine r_d rfl rfl rfl (s_move rfl rfl) ?_
  refine r_end ?_
  obtain ⟨kk0, hkk0, hr⟩ := exK (fun k => lf_slices_Concat_api_Goal_api_Goal_L0 k slices_a0 0) hr
  refine g_len 0 rfl (asl rfl) fun hla0 => ?_
  simp only [List.length_map] at hla0
  refine g_blockJ (fun env σ => ∃ (size_4 : Int), env = [(0, .lst (slices_a0.map (fun l => D.lst (l.map encG)))), (3, .int .i64 size_4)] ∧ σ = [] ∧ kk0 size_4 = some res) ?_ (fun HK0 => ?_)
  ·
   rintro _ _ ⟨size_4, rfl, rfl, hr⟩
   rw [hkk0] at hr
   refine g_seq ?_
   obtain ⟨_, hgrow, hr⟩ := bindS hr
   refine g_nilRow 45 3 ?_
   refine g_run (by kernel_rfl) [(0, .d), (1, .w), (2, .d)] rfl ?_
   refine r_d rfl rfl rfl (s_move rfl rfl) ?_
   refine r_w rfl rfl rfl (s_call _ rfl cl_slices_Grow_api_Goal_api_Goal (.consN (.cons rfl (Wk.refl _) .nil)) (by exact (pf0 _)) (lg_grow _ hgrow)) ?_
   rintro _ _ ⟨_, ⟨u6_4, rfl, rfl⟩, rfl⟩
   refine r_d rfl rfl rfl (s_assign rfl rfl) ?_
   refine r_end ?_
   refine g_seq ?_
   refine g_seq ?_
   refine g_run (by kernel_rfl) [(0, .d), (1, .d), (2, .d)] rfl ?_
   refine r_d rfl rfl rfl (s_move rfl rfl) ?_
   refine r_d rfl rfl rfl (m_len (f := (fun l => D.lst (l.map encG))) slices_a0 rfl el_L_L_api_Goal rfl (asl rfl)) ?_
   refine r_d rfl rfl rfl (s_move rfl rfl) ?_
   refine r_end ?_
   obtain ⟨kk1, hkk1, hr⟩ := exK (fun k => lf_slices_Concat_api_Goal_api_Goal_L1 k slices_a0 []) hr
   refine g_len 0 rfl (asl rfl) fun hla1 => ?_
   simp only [List.length_map] at hla1
   refine g_blockJ (fun env σ => ∃ (newslice_10 : (List Gl)) (u_9 : Value), env = [(6, .own u_9 (newslice_10.map encG))] ∧ σ = [.row u_9 newslice_10.length 45 3] ∧ kk1 newslice_10 = some res) ?_ (fun HK1 => ?_)
   ·
    rintro _ _ ⟨newslice_10, u_9, rfl, rfl, hr⟩
    rw [hkk1] at hr
    refine g_seq ?_
    refine g_run (by kernel_rfl) [(0, .d), (1, .d)] rfl ?_
    refine r_d rfl rfl rfl (s_move rfl rfl) ?_
    refine r_d rfl rfl rfl (s_assign rfl rfl) ?_
    refine r_end ?_
    obtain rfl := Option.some.inj hr
    refine g_ret Try.func25 _ (.cons (resTmp rfl (Wk.own _ _)) .nil) ?_
    rfl
   ·
    refine g_sub [(25, .lst (slices_a0.map (fun l => D.lst (l.map encG)))), (26, .int .i64 (slices_a0.length : Int)), (6, .own u6_4 ([].map encG)), (27, .int .i64 ((0 : Nat) : Int))] (Sub.cons' rfl (Sub.cons' rfl (Sub.cons' rfl (Sub.cons' rfl (Sub.nil _))))) ?_
    refine g_loop (fun n env σ => ∃ (newslice_7 : (List Gl)) (i_8 : Nat) (u_6 : Value), (n = slices_a0.length - i_8) ∧ (env = [(25, .lst (slices_a0.map (fun l => D.lst (l.map encG)))), (26, .int .i64 (slices_a0.length : Int)), (6, .own u_6 (newslice_7.map encG)), (27, .int .i64 (i_8 : Int))]) ∧ (σ = [.row u_6 newslice_7.length 45 3]) ∧ (i_8 ≤ slices_a0.length) ∧ (lf_slices_Concat_api_Goal_api_Goal_L1 kk1 (slices_a0.drop i_8) newslice_7 = some res)) _ ⟨[], 0, u6_4, rfl, rfl, rfl, Nat.zero_le _, hr⟩ ?_
    rintro n _ _ ⟨newslice_7, i_8, u_6, rfl, rfl, rfl, hi1, hr⟩ IH1
    rcases listStep slices_a0 i_8 hi1 with ⟨ht1, hd1, he1⟩ | ⟨q_11, ht1, hd1, hq1, hlt1⟩
    ·
     rw [hd1, lf_slices_Concat_api_Goal_api_Goal_L1] at hr
     refine g_seq ?_
     refine g_run (by kernel_rfl) [(0, .d)] rfl ?_
     refine r_d rfl rfl rfl (s_cmp rfl rfl rfl rfl) ?_
     refine r_end ?_
     refine g_seq ?_
     refine g_known 28 false rfl ht1 ?_
     refine g_condF rfl ?_
     refine g_exit rfl ?_
     refine g_sub [(6, .own u_6 (newslice_7.map encG))] (Sub.cons' rfl (Sub.nil _)) ?_
     exact HK1 _ _ ⟨newslice_7, u_6, rfl, rfl, hr⟩
    ·
     rw [hd1, lf_slices_Concat_api_Goal_api_Goal_L1] at hr
     refine g_seq ?_
     refine g_run (by kernel_rfl) [(0, .d)] rfl ?_
     refine r_d rfl rfl rfl (s_cmp rfl rfl rfl rfl) ?_
     refine r_end ?_
     refine g_seq ?_
     refine g_known 28 true rfl ht1 ?_
     refine g_condT rfl ?_
     refine g_skip ?_
     refine g_seq ?_
     refine g_block ?_
     refine g_seq ?_
     refine g_run (by kernel_rfl) [(0, .d), (1, .d), (2, .d)] rfl ?_
     refine r_d rfl rfl rfl (m_index (f := (fun l => D.lst (l.map encG))) slices_a0 rfl el_L_L_api_Goal rfl (asl rfl) rfl hq1 (fun _ => rfl) rfl) ?_
     refine r_d rfl rfl rfl (s_load rfl rfl (by exact ty_L_api_Goal) rfl) ?_
     refine r_d rfl rfl rfl (s_assign rfl rfl) ?_
     refine r_end ?_
     refine g_run (by kernel_rfl) [(0, .d), (1, .d), (2, .w), (3, .d)] rfl ?_
     refine r_d rfl rfl rfl (s_move rfl rfl) ?_
     refine r_d rfl rfl rfl (s_move rfl rfl) ?_
     obtain ⟨l_12, hl_12, hr⟩ := bindS hr
     refine r_w rfl rfl rfl (m_appOwn (f := encG) newslice_7 q_11 rfl el_L_api_Goal rfl rfl (asl rfl) (pf0 _) rfl sz_encG hl_12) ?_
     rintro _ _ ⟨u33_12, rfl, rfl⟩
     refine r_d rfl rfl rfl (s_assign rfl rfl) ?_
     refine r_end ?_
     refine g_inBlock ?_
     refine g_run (by kernel_rfl) [(0, .d), (1, .d)] rfl ?_
     refine r_d rfl rfl rfl (s_ar (r := ((i_8 + 1 : Nat) : Int)) rfl rfl rfl (by simp [iar]) (by omega)) ?_
     refine r_d rfl rfl rfl (s_move rfl rfl) ?_
     refine r_end ?_
     refine g_sub [(25, .lst (slices_a0.map (fun l => D.lst (l.map encG)))), (26, .int .i64 (slices_a0.length : Int)), (6, .own u33_12 (l_12.map encG)), (27, .int .i64 ((i_8 + 1 : Nat) : Int))] (Sub.cons' rfl (Sub.cons' rfl (Sub.cons' rfl (Sub.cons' rfl (Sub.nil _))))) ?_
     exact IH1 _ _ _ (by omega) ⟨l_12, (i_8 + 1), u33_12, rfl, rfl, rfl, (by omega), hr⟩
  ·
   refine g_sub [(0, .lst (slices_a0.map (fun l => D.lst (l.map encG)))), (9, .lst (slices_a0.map (fun l => D.lst (l.map encG)))), (10, .int .i64 (slices_a0.length : Int)), (3, .int .i64 0), (11, .int .i64 ((0 : Nat) : Int))] (Sub.cons' rfl (Sub.cons' rfl (Sub.cons' rfl (Sub.cons' rfl (Sub.cons' rfl (Sub.nil _)))))) ?_
   refine g_perm [] _ (pf0 _) ?_
   refine g_loop (fun n env σ => ∃ (size_2 : Int) (i_3 : Nat), (n = slices_a0.length - i_3) ∧ (env = [(0, .lst (slices_a0.map (fun l => D.lst (l.map encG)))), (9, .lst (slices_a0.map (fun l => D.lst (l.map encG)))), (10, .int .i64 (slices_a0.length : Int)), (3, .int .i64 size_2), (11, .int .i64 (i_3 : Int))]) ∧ (σ = []) ∧ (i_3 ≤ slices_a0.length) ∧ (lf_slices_Concat_api_Goal_api_Goal_L0 kk0 (slices_a0.drop i_3) size_2 = some res)) _ ⟨0, 0, rfl, rfl, rfl, Nat.zero_le _, hr⟩ ?_
   rintro n _ _ ⟨size_2, i_3, rfl, rfl, rfl, hi0, hr⟩ IH0
   rcases listStep slices_a0 i_3 hi0 with ⟨ht0, hd0, he0⟩ | ⟨q_14, ht0, hd0, hq0, hlt0⟩
   ·
    rw [hd0, lf_slices_Concat_api_Goal_api_Goal_L0] at hr
    refine g_seq ?_
    refine g_run (by kernel_rfl) [(0, .d)] rfl ?_
    refine r_d rfl rfl rfl (s_cmp rfl rfl rfl rfl) ?_
    refine r_end ?_
    refine g_seq ?_
    refine g_known 12 false rfl ht0 ?_
    refine g_condF rfl ?_
    refine g_exit rfl ?_
    refine g_sub [(0, .lst (slices_a0.map (fun l => D.lst (l.map encG)))), (3, .int .i64 size_2)] (Sub.cons' rfl (Sub.cons' rfl (Sub.nil _))) ?_
    exact HK0 _ _ ⟨size_2, rfl, rfl, hr⟩
   ·
    rw [hd0, lf_slices_Concat_api_Goal_api_Goal_L0] at hr
    refine g_seq ?_
    refine g_run (by kernel_rfl) [(0, .d)] rfl ?_
    refine r_d rfl rfl rfl (s_cmp rfl rfl rfl rfl) ?_
    refine r_end ?_
    refine g_seq ?_
    refine g_known 12 true rfl ht0 ?_
    refine g_condT rfl ?_
    refine g_skip ?_
    refine g_seq ?_
    refine g_block ?_
    refine g_seq ?_
    refine g_run (by kernel_rfl) [(0, .d), (1, .d), (2, .d)] rfl ?_
    refine r_d rfl rfl rfl (m_index (f := (fun l => D.lst (l.map encG))) slices_a0 rfl el_L_L_api_Goal rfl (asl rfl) rfl hq0 (fun _ => rfl) rfl) ?_
    refine r_d rfl rfl rfl (s_load rfl rfl (by exact ty_L_api_Goal) rfl) ?_
    refine r_d rfl rfl rfl (s_assign rfl rfl) ?_
    refine r_end ?_
    refine g_seq ?_
    refine g_run (by kernel_rfl) [(0, .d), (1, .d), (2, .d), (3, .d), (4, .d)] rfl ?_
    refine r_d rfl rfl rfl (s_move rfl rfl) ?_
    refine r_d rfl rfl rfl (s_move rfl rfl) ?_
    refine r_d rfl rfl rfl (m_len (f := encG) q_14 rfl el_L_api_Goal rfl (asl rfl)) ?_
    refine r_d rfl rfl rfl (s_arW rfl rfl rfl rfl) ?_
    refine r_d rfl rfl rfl (s_assign rfl rfl) ?_
    refine r_end ?_
    refine g_seq ?_
    refine g_run (by kernel_rfl) [(0, .d), (1, .d)] rfl ?_
    refine r_d rfl rfl rfl (s_move rfl rfl) ?_
    refine r_d rfl rfl rfl (s_cmp rfl rfl rfl rfl) ?_
    refine r_end ?_
    refine g_sB 20 rfl hr (fun h20_14 hr => ?_) (fun h20_14 hr => ?_)
    ·
     obtain ⟨q_16, hq_16, hr⟩ := bindS hr
     exact absurd (getI_some hq_16).1 (by decide)
    ·
     refine g_condF rfl ?_
     refine g_skip ?_
     refine g_inBlock ?_
     refine g_run (by kernel_rfl) [(0, .d), (1, .d)] rfl ?_
     refine r_d rfl rfl rfl (s_ar (r := ((i_3 + 1 : Nat) : Int)) rfl rfl rfl (by simp [iar]) (by omega)) ?_
     refine r_d rfl rfl rfl (s_move rfl rfl) ?_
     refine r_end ?_
     refine g_sub [(0, .lst (slices_a0.map (fun l => D.lst (l.map encG)))), (9, .lst (slices_a0.map (fun l => D.lst (l.map encG)))), (10, .int .i64 (slices_a0.length : Int)), (3, .int .i64 (wr (size_2 + (q_14.length : Int)))), (11, .int .i64 ((i_3 + 1 : Nat) : Int))] (Sub.cons' rfl (Sub.cons' rfl (Sub.cons' rfl (Sub.cons' rfl (Sub.cons' rfl (Sub.nil _)))))) ?_
     exact IH0 _ _ _ (by omega) ⟨(wr (size_2 + (q_14.length : Int))), (i_3 + 1), rfl, rfl, rfl, (by omega), hr⟩
end Go.Proofs.Ytlannippingfdaa

