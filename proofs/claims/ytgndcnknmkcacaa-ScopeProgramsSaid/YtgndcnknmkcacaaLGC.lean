/-
  Texts of the seat, merged.
-/
import Derived.Test.YtgndcnknmkcacaaLGA
import Derived.Test.YtgndcnknmkcacaaLGB
import Derived.Test.YtgndcnknmkcacaaChecked
import Derived.WalkKit
import Derived.Lib.Hide
import Derived.Lib.AppendStr
import Derived.Deep.AppendLies
import Derived.Deep.AppendSrc
import Derived.Deep.Draws
import Derived.Deep.QuietTactic
import Derived.BigQuiet
import Derived.Deep.RegionWith
import Derived.Maps.AppendAt
import Derived.WalkSpells
import Derived.Orders
import Derived.Deep.Slices
import Derived.Deep.Fields
import Derived.ChangeArms
import Derived.Lib.OthersKept
import Derived.Lib.TrimU
import Derived.Lib.IndexAny
import Derived.Deep.LoopGhost
import Derived.Lib.Bytealg
import Derived.RangeFuncBox
import Derived.RangeFuncNested
import Derived.RangeFuncBound
import Derived.RangeFuncCalls
import Derived.RangeFuncLeaves
import Derived.Shelf.Abstract
import Derived.OwnWalkIn
import Derived.TacticsInMore
import Derived.LoopNIn
import Derived.LoopIn
import Derived.RangeFuncWrites
import Derived.Maps.OwnIn
import Derived.Maps.Views
import Derived.Laws.OwnMore
import Derived.Maps.OwnSet
import Derived.Test.YtgndcnknmkcacaaRows
import Derived.ProofKit
import Derived.OpenShut
import Derived.Carry
import Derived.Great.BuildSlice
import Derived.ArgAppend
import Derived.Laws.MakeOwn
import Derived.Laws.Cover3
import Derived.Laws.CopyRow
import Derived.MapKept
import Derived.Maps.RangeRun
import Derived.DeepKeys5
import Derived.WideKeyRuns
import Derived.Tactics
import Derived.Tactics2
import Derived.Defers
import Derived.Recover
import Derived.Laws.Pointers
set_option linter.unusedVariables false
set_option linter.unusedSimpArgs false
set_option linter.unnecessarySimpa false
set_option linter.all false

namespace Go.Proofs.Ytgndcnknmkcacaa
set_option maxRecDepth 100000
open Go.RowKit

open Classical in
/-- The first entry with a key. -/
noncomputable def firstAt (v : Value) : List MapEntry → Nat → Option (Nat × Value)
  | [], _ => none
  | e :: es, i => if e.key = v then some (i, e.val) else firstAt v es (i + 1)
/-- How keys show. -/
structure KeyOk (P : Program) (kt : TypeId) {α : Type} (key : α → D) (vk : α → Value) (d : Value → Prop) : Prop where
  rep : ∀ (p : Addr → Prop) (w : World) (a : α) (v : Value), Rep p w (key a) v → v = vk a
  good : ∀ (p : Addr → Prop) (w : World) (a : α) (v : Value), Rep p w (key a) v → d v
  inj : ∀ a b, vk a = vk b → a = b
  check : ∀ (w : World) (em : Bool) (v : Value), d v → (Instr.checkKey em 10000 kt v).run P w = .ok () w
  find : ∀ (w : World) (v : Value) (es : List MapEntry), d v → (∀ e ∈ es, d e.key) → (Instr.findKey kt v es).run P w = .ok (firstAt v es 0) w
  stays : ∀ (w : World) (v : Value), d v → (Instr.keyThatStays v v).run P w = .ok v w
theorem findNow_first {d : TypeDesc} {k : Value} (hk : MapKept.IsKey d k) : ∀ (es : List MapEntry) (i : Nat), (∀ e ∈ es, MapKept.IsKey d e.key) → Instr.findNow d k es i = some (firstAt k es i)
  | [], i, _ => rfl
  | e :: es, i, h => by
    obtain ⟨b, hb, hiff⟩ := MapKept.sameNow_of_keys hk (h e (List.mem_cons_self ..))
    simp only [Instr.findNow, hb, firstAt]
    cases b with
    | true => rw [if_pos (hiff.1 rfl).symm]
    | false =>
      rw [if_neg fun e => by have := hiff.2 e.symm; cases this]
      exact findNow_first hk es (i + 1) fun x hx => h x (List.mem_cons_of_mem _ hx)
theorem keyOf_desc {P : Program} {kt : TypeId} {d : TypeDesc} {α : Type} {key : α → D} {vk : α → Value} (h : P.underlying kt = some d) (h1 : ∀ (p : Addr → Prop) (w : World) (a : α) (v : Value), Rep p w (key a) v → v = vk a) (h2 : ∀ a, MapKept.IsKey d (vk a)) (h3 : ∀ a b, vk a = vk b → a = b) : KeyOk P kt key vk (MapKept.IsKey d) :=
  ⟨h1, fun p w a v hv => by rw [h1 p w a v hv]; exact h2 a, h3, fun w em v hv => MapKept.run_checkKey h hv em 9999, fun w v es hv he => MapKept.run_findKey h (findNow_first hv es 0 he), fun w v hv => MapKept.run_keyThatStays hv⟩
theorem keyInt {P : Program} {kt : TypeId} {k : IntKind} (h : P.underlying kt = some (.int k)) : KeyOk P kt (fun n : Int => D.int k n) (fun n => .int k n) (MapKept.IsKey (.int k)) :=
  keyOf_desc h (fun p w a v hv => by simp only [Rep] at hv; exact hv.1) (fun a => rfl) fun a b e => by injection e
theorem keys_good {α : Type} {P : Program} {kt : TypeId} {key : α → D} {vk : α → Value} {d : Value → Prop} (hK : KeyOk P kt key vk d) {p : Addr → Prop} {w : World} : ∀ {l : List (α × D)} {es : List MapEntry}, RepKV p w (l.map fun q => (key q.1, q.2)) es → ∀ e ∈ es, d e.key
  | [], es, h, e, he => by
    simp only [List.map_nil, RepKV] at h
    subst h
    cases he
  | r :: l, es, h, e, he => by
    simp only [List.map_cons, RepKV] at h
    obtain ⟨e0, rest, rfl, h1, h2, h3⟩ := h
    rcases List.mem_cons.1 he with rfl | he
    · exact hK.good _ _ _ _ h1
    · exact keys_good hK h3 e he
section
variable {α : Type} [DecidableEq α]
abbrev MapD (key : α → D) (l : List (α × D)) : List (D × D) := l.map fun q => (key q.1, q.2)
def findA : List (α × D) → α → Option D
  | [], _ => none
  | q :: l, x => if q.1 = x then some q.2 else findA l x
def putA : List (α × D) → α → D → List (α × D)
  | [], x, d => [(x, d)]
  | q :: l, x, d => if q.1 = x then (x, d) :: l else q :: putA l x d
theorem putA_len : ∀ (l : List (α × D)) (x : α) (d : D), (putA l x d).length ≤ l.length + 1
  | [], x, d => by simp [putA]
  | q :: l, x, d => by
    unfold putA
    split
    · simp
    · have := putA_len l x d
      simp only [List.length_cons]
      omega
theorem find_spec {P : Program} {kt : TypeId} {key : α → D} {vk : α → Value} {d : Value → Prop} (hK : KeyOk P kt key vk d) (p : Addr → Prop) (w : World) (x : α) (dd : D) : ∀ (l : List (α × D)) (es : List MapEntry) (i : Nat), RepKV p w (MapD key l) es →
    (firstAt (vk x) es i = none ∧ findA l x = none ∧ putA l x dd = l ++ [(x, dd)]) ∨
    ∃ j e dv, firstAt (vk x) es i = some (i + j, e.val) ∧ es[j]? = some e ∧ e.key = vk x ∧ findA l x = some dv ∧ Rep p w dv e.val ∧ ∀ (q : Addr → Prop) (u : World) (e' : MapEntry), Grow p w q u → Rep q u (key x) e'.key → Rep q u dd e'.val → RepKV q u (MapD key (putA l x dd)) (es.set j e')
  | [], es, i, h => by
    simp only [MapD, List.map_nil, RepKV] at h
    subst h
    exact .inl ⟨rfl, rfl, rfl⟩
  | r :: l, es, i, h => by
    simp only [MapD, List.map_cons, RepKV] at h
    obtain ⟨e, rest, rfl, h1, h2, h3⟩ := h
    have hk := hK.rep _ _ _ _ h1
    by_cases hx : r.1 = x
    · refine .inr ⟨0, e, r.2, by simp [firstAt, hk, hx], rfl, by rw [hk, hx], by simp [findA, hx], h2, fun q u e' g q1 q2 => ?_⟩
      simp only [putA, if_pos hx, MapD, List.map_cons, RepKV, List.set_cons_zero]
      exact ⟨e', rest, rfl, q1, q2, h3.grow g⟩
    · have hne : e.key ≠ vk x := fun e' => hx (hK.inj _ _ (by rw [← hk]; exact e'))
      rcases find_spec hK p w x dd l rest (i + 1) h3 with ⟨q1, q2, q3⟩ | ⟨j, e2, dv, q1, q2, q3, q4, q5, q6⟩
      · exact .inl ⟨by simp [firstAt, hne, q1], by simp [findA, hx, q2], by simp [putA, hx, q3]⟩
      · refine .inr ⟨j + 1, e2, dv, by simp [firstAt, hne, q1]; omega, by simpa using q2, q3, by simp [findA, hx, q4], q5, fun q u e' g r1 r2 => ?_⟩
        simp only [putA, if_neg hx, MapD, List.map_cons, RepKV, List.set_cons_succ]
        exact ⟨e, _, rfl, h1.grow g, h2.grow g, q6 q u e' g r1 r2⟩
theorem repKV_app {p : Addr → Prop} {w : World} : ∀ {l m : List (D × D)} {es fs : List MapEntry}, RepKV p w l es → RepKV p w m fs → RepKV p w (l ++ m) (es ++ fs)
  | [], m, es, fs, h, k => by simp only [RepKV] at h; subst h; simpa using k
  | r :: l, m, es, fs, h, k => by
    obtain ⟨a, b⟩ := r
    simp only [RepKV] at h
    obtain ⟨e, rest, rfl, h1, h2, h3⟩ := h
    simp only [List.cons_append, RepKV]
    exact ⟨e, _, rfl, h1, h2, repKV_app h3 k⟩

variable {P : Program} {o : Oper} {ρ : Operand → Option D}
theorem s_makeMap {t : TypeId} {σ : St} (ho : o.op = .makeMap t none) : StepS P o ρ σ fun d' σ' => ∃ r, d' = .map r ∧ σ' = .map r [] :: σ := fun K p a w hi h => by
  have hr : (execOp a.eval o).run P w = .ok (.value (.map (some w.heap.size))) (w.alloc (.map #[] 0)) := by
    unfold execOp
    rw [ho]
    simp [Instr.makeMap]
  unfold Oper.wp
  rw [hr]
  refine ⟨_, .map w.heap.size, _, p, rfl, ⟨w.heap.size, rfl, rfl⟩, by simp only [Rep], ?_, grow_alloc hi.pub _⟩
  refine (hi.alloc _).more ⟨#[], 0, heap_alloc_new w _, by simp only [RepKV], by simp, by simp, by simp⟩ fun b hb => ?_
  simp only [Ob.blk, Option.some.injEq] at hb
  subst hb
  exact ⟨.inl hi.size, fun hm => by have := hi.lt hm; omega⟩
theorem s_lookup2 {t kt e : TypeId} {x y : Operand} {key : α → D} {vk : α → Value} {d : Value → Prop} {r : Nat} {l : List (α × D)} {a0 : α} {z : D} {zv : Value} {σ : St} (ho : o.op = .lookup t x y true) (ht : P.underlying t = some (.map kt e)) (hK : KeyOk P kt key vk d) (hz : (P.info? e).map (·.zero) = some (some zv)) (hzr : ∀ p w, Rep p w z zv) (hx : ρ x = some (.map r)) (hy : ρ y = some (key a0)) (hσ : .map r (MapD key l) ∈ σ) :
    StepS P o ρ σ fun d' σ' => d' = .tup [(findA l a0).getD z, .bool (findA l a0).isSome] ∧ σ' = σ := fun K p a w hi h => by
  have h1 := h x (by rw [ho]; simp [Op.operands]) _ hx
  have h2 := hK.rep _ _ _ _ (h y (by rw [ho]; simp [Op.operands]) _ hy)
  have hgood : d (vk a0) := h2 ▸ hK.good _ _ _ _ (h y (by rw [ho]; simp [Op.operands]) _ hy)
  simp only [Rep] at h1
  obtain ⟨es, clock, g1, g2, _⟩ := hi.ok _ hσ
  obtain ⟨i, hi1, hi2⟩ := Option.map_eq_some_iff.1 hz
  have hc := hK.check w es.isEmpty (vk a0) hgood
  rcases find_spec hK p w a0 z l es.toList 0 g2 with ⟨q1, q2, _⟩ | ⟨j, e', dv, q1, q2, q3, q4, q5, _⟩
  · have hf := (hK.find w (vk a0) es.toList hgood (keys_good hK g2)).trans (by rw [q1])
    have hr : (execOp a.eval o).run P w = .ok (.value (.tuple #[zv, .bool false])) w := by
      unfold execOp
      rw [ho]
      simp [h1, h2, Instr.lookup, run_underlying ht, MapKept.run_getObj_map g1, hc, hf, zeroValue, typeInfo, hi1, hi2]
    unfold Oper.wp
    rw [hr]
    refine ⟨_, _, _, p, rfl, ⟨rfl, rfl⟩, ?_, hi, Grow.refl _ _⟩
    rw [q2]
    simp only [Rep, Repl, Option.getD_none, Option.isSome_none]
    exact ⟨[zv, .bool false], rfl, zv, _, rfl, hzr p w, .bool false, [], rfl, rfl, rfl⟩
  · have hf := (hK.find w (vk a0) es.toList hgood (keys_good hK g2)).trans (by rw [q1])
    have hr : (execOp a.eval o).run P w = .ok (.value (.tuple #[e'.val, .bool true])) w := by
      unfold execOp
      rw [ho]
      simp [h1, h2, Instr.lookup, run_underlying ht, MapKept.run_getObj_map g1, hc, hf]
    unfold Oper.wp
    rw [hr]
    refine ⟨_, _, _, p, rfl, ⟨rfl, rfl⟩, ?_, hi, Grow.refl _ _⟩
    rw [q4]
    simp only [Rep, Repl, Option.getD_some, Option.isSome_some]
    exact ⟨[e'.val, .bool true], rfl, e'.val, _, rfl, q5, .bool true, [], rfl, rfl, rfl⟩
theorem s_mapUpdate {t kt e : TypeId} {x y v : Operand} {key : α → D} {vk : α → Value} {d : Value → Prop} {r : Nat} {l : List (α × D)} {a0 : α} {dn dd : D} {σ : St} (τ : St) (ho : o.op = .mapUpdate t x y v) (ht : P.underlying t = some (.map kt e)) (hK : KeyOk P kt key vk d) (hx : ρ x = some (.map r)) (hy : ρ y = some (key a0)) (hv : ρ v = some dn) (hw : Wk dn dd) (hσ : σ.Perm (.map r (MapD key l) :: τ)) (hlen : l.length < 9223372036854775807) :
    StepS P o ρ σ fun _ σ' => σ' = .map r (MapD key (putA l a0 dd)) :: τ := fun K p a w hi h => by
  have h1 := h x (by rw [ho]; simp [Op.operands]) _ hx
  have hyr := h y (by rw [ho]; simp [Op.operands]) _ hy
  have h2 := hK.rep _ _ _ _ hyr
  have hgood : d (vk a0) := h2 ▸ hK.good _ _ _ _ hyr
  have h3 := hw _ _ _ (h v (by rw [ho]; simp [Op.operands]) _ hv)
  simp only [Rep] at h1
  have hi' := hi.perm hσ
  obtain ⟨es, clock, g1, g2, g3, gn, gl⟩ := hi'.ok _ (List.mem_cons_self ..)
  have hc := hK.check w false (vk a0) hgood
  have hlt : r < w.heap.size := (Array.getElem?_eq_some_iff.1 g1).1
  have fin : ∀ (es' : Array MapEntry) (clock' : Nat), (es'.toList.map (·.born)).Nodup → (∀ e ∈ es'.toList, e.born < clock') → (∀ (q : Addr → Prop) (u : World), Grow p w q u → RepKV q u (MapD key (putA l a0 dd)) es'.toList) →
      ∃ p', Inv K p' (.map r (MapD key (putA l a0 dd)) :: τ) { w with heap := w.heap.setIfInBounds r (.map es' clock') } ∧ Grow p w p' { w with heap := w.heap.setIfInBounds r (.map es' clock') } ∧ p' = p := fun es' clock' hn' hl' hr => by
    have hset := MapKept.heap_set (o' := .map es' clock') g1
    have hcell : ∀ a', p a' → ({ w with heap := w.heap.setIfInBounds r (.map es' clock') } : World).cell? a' = w.cell? a' := fun a' ha => cell_same (hset.2 _ (by
      intro e
      obtain ⟨u, hu⟩ := hi.pub a' ha
      unfold World.cell? at hu
      rw [e, g1] at hu
      cases hu))
    have gr : Grow p w p { w with heap := w.heap.setIfInBounds r (.map es' clock') } := fun a' ha => ⟨ha, hcell a' ha⟩
    refine ⟨p, hi'.write (b := r) rfl rfl gr (fun a' ha => .inl ha) ⟨es', clock', hset.1, hr _ _ gr, ?_, hn', hl'⟩ (fun a' ha => ?_) rfl rfl rfl (by simp) fun k hk => hset.2 k hk, gr, rfl⟩
    · have := putA_len l a0 dd
      simp only [List.length_map]
      omega
    · obtain ⟨u, hu⟩ := hi.pub a' ha
      exact ⟨u, by rw [hcell a' ha]; exact hu⟩
  rcases find_spec hK p w a0 dd l es.toList 0 g2 with ⟨q1, q2, q3⟩ | ⟨j, e', dv, q1, q2, q3, q4, q5, q6⟩
  · have hf := (hK.find w (vk a0) es.toList hgood (keys_good hK g2)).trans (by rw [q1])
    have hr : (execOp a.eval o).run P w = .ok .skip { w with heap := w.heap.setIfInBounds r (.map (es.push { key := vk a0, val := a.eval v, born := clock }) (clock + 1)) } := by
      unfold execOp
      rw [ho]
      simp [h1, h2, Instr.mapUpdate, run_underlying ht, MapKept.run_getObj_map g1, hc, hf, MapKept.run_setObj_map _ g1]
    unfold Oper.wp
    rw [hr]
    obtain ⟨p', f1, f2, rfl⟩ := fin (es.push { key := vk a0, val := a.eval v, born := clock }) (clock + 1) (by
      rw [Array.toList_push, List.map_append]
      refine List.nodup_append.2 ⟨gn, by simp, fun x hx y hy hxy => ?_⟩
      obtain ⟨e, he, rfl⟩ := List.mem_map.1 hx
      simp only [List.map_cons, List.map_nil, List.mem_singleton] at hy
      have := gl e he
      omega) (by
      intro e he
      rw [Array.toList_push] at he
      rcases List.mem_append.1 he with he | he
      · have := gl e he; omega
      · rw [List.mem_singleton.1 he]; exact Nat.lt_succ_self _) fun q u g => by
      rw [q3, Array.toList_push, MapD, List.map_append]
      refine repKV_app (g2.grow g) ?_
      simp only [List.map_cons, List.map_nil, RepKV]
      exact ⟨_, [], rfl, h2 ▸ hyr.grow g, h3.grow g, rfl⟩
    exact ⟨Go.undef, .undef, _, p', rfl, rfl, by simp only [Rep], f1, f2⟩
  · have hf := (hK.find w (vk a0) es.toList hgood (keys_good hK g2)).trans (by rw [q1])
    rw [Nat.zero_add] at hf
    have hks : (Instr.keyThatStays (((es[j]?).map (·.key)).getD (vk a0)) (vk a0)).run P w = .ok (vk a0) w := by
      have : es[j]? = some e' := by simpa using q2
      rw [this]
      simp only [Option.map_some, Option.getD_some, q3]
      exact hK.stays w _ hgood
    have hr : (execOp a.eval o).run P w = .ok .skip { w with heap := w.heap.setIfInBounds r (.map (es.modify j fun e => { e with key := vk a0, val := a.eval v }) clock) } := by
      unfold execOp
      rw [ho]
      simp [h1, h2, Instr.mapUpdate, run_underlying ht, MapKept.run_getObj_map g1, hc, hf, hks, MapKept.run_setObj_map _ g1]
    unfold Oper.wp
    rw [hr]
    have hm : (es.modify j fun e => { e with key := vk a0, val := a.eval v }).toList = es.toList.set j { e' with key := vk a0, val := a.eval v } := by
      apply List.ext_getElem?
      intro k
      rw [Array.getElem?_toList, Array.getElem?_modify, List.getElem?_set, Array.getElem?_toList]
      have hj := (List.getElem?_eq_some_iff.1 q2).1
      by_cases hjk : j = k
      · subst hjk
        rw [if_pos rfl, if_pos rfl, if_pos hj]
        have : es[j]? = some e' := by simpa using q2
        rw [this]; rfl
      · rw [if_neg hjk, if_neg hjk]
    have hb : (es.toList.set j { e' with key := vk a0, val := a.eval v }).map (·.born) = es.toList.map (·.born) := by
      apply List.ext_getElem?
      intro k
      rw [List.getElem?_map, List.getElem?_set, List.getElem?_map]
      have hj := (List.getElem?_eq_some_iff.1 q2).1
      by_cases hjk : j = k
      · subst hjk
        rw [if_pos rfl, if_pos hj, q2]
        rfl
      · rw [if_neg hjk]
    obtain ⟨p', f1, f2, rfl⟩ := fin (es.modify j fun e => { e with key := vk a0, val := a.eval v }) clock (by rw [hm, hb]; exact gn) (by
      intro e he
      have h5 : e.born ∈ es.toList.map (·.born) := by rw [← hb, ← hm]; exact List.mem_map_of_mem he
      obtain ⟨e2, h6, h7⟩ := List.mem_map.1 h5
      rw [← h7]
      exact gl e2 h6) fun q u g => by
      rw [hm]
      exact q6 q u _ g (h2 ▸ hyr.grow g) (h3.grow g)
    exact ⟨Go.undef, .undef, _, p', rfl, rfl, by simp only [Rep], f1, f2⟩
end
end Go.Proofs.Ytgndcnknmkcacaa


namespace Go.Proofs.Ytgndcnknmkcacaa
set_option maxRecDepth 100000
open Go.RowKit

abbrev wr (n : Int) : Int := IntKind.i64.wrap n
theorem wr_eq {n : Int} (h : -9223372036854775808 ≤ n ∧ n < 9223372036854775808) : wr n = n := wrap64 h
/-- An element, if there is one. -/
def getI {α : Type} (l : List α) (n : Int) : Option α := if 0 ≤ n then l[n.toNat]? else none
theorem getI_nat {α : Type} (l : List α) (i : Nat) : getI l (i : Int) = l[i]? := by simp [getI]
theorem getI_some {α : Type} {l : List α} {n : Int} {q : α} (h : getI l n = some q) : 0 ≤ n ∧ l[n.toNat]? = some q := by
  unfold getI at h
  split at h
  · exact ⟨by assumption, h⟩
  · cases h
/-- Two lists one behind the other, if that fits (b: the bytes of an element). -/
def appO {α : Type} (b : Nat) (l m : List α) : Option (List α) := if (l.length + m.length) * b ≤ 140737488355328 ∧ l.length + m.length ≤ 9223372036854775807 then some (l ++ m) else none
theorem appO_eq {α : Type} {b : Nat} {l m : List α} (h : (l.length + m.length) * b ≤ 140737488355328) (h2 : l.length + m.length ≤ 9223372036854775807) : appO b l m = some (l ++ m) := by rw [appO, if_pos ⟨h, h2⟩]
theorem appO_some {α : Type} {b : Nat} {l m r : List α} (h : appO b l m = some r) : (l.length + m.length) * b ≤ 140737488355328 ∧ l.length + m.length ≤ 9223372036854775807 ∧ r = l ++ m := by
  unfold appO at h
  split at h
  · rename_i h1
    exact ⟨h1.1, h1.2, (Option.some.inj h).symm⟩
  · cases h
/-- A part of a list, if the bounds are right. -/
def subO {α : Type} (l : List α) (lo hi : Int) : Option (List α) := if 0 ≤ lo ∧ lo ≤ hi ∧ hi ≤ l.length then some ((l.take hi.toNat).drop lo.toNat) else none
theorem subO_some {α : Type} {l r : List α} {lo hi : Int} (h : subO l lo hi = some r) : 0 ≤ lo ∧ lo ≤ hi ∧ hi ≤ l.length ∧ r = (l.take hi.toNat).drop lo.toNat := by
  unfold subO at h
  split at h
  · rename_i h1
    exact ⟨h1.1, h1.2.1, h1.2.2, (Option.some.inj h).symm⟩
  · cases h
theorem bindS {α β : Type} {o : Option α} {f : α → Option β} {r : β} (h : o.bind f = some r) : ∃ q, o = some q ∧ f q = some r := by
  cases o with
  | none => cases h
  | some q => exact ⟨q, rfl, h⟩
theorem exK {β γ : Type} (F : β → γ) {a : β} {r : γ} (h : F a = r) : ∃ k, k = a ∧ F k = r := ⟨a, rfl, h⟩
theorem listStep {α : Type} (l : List α) (i : Nat) (hi : i ≤ l.length) : (decide ((i : Int) < (l.length : Int)) = false ∧ l.drop i = [] ∧ i = l.length) ∨ ∃ q, decide ((i : Int) < (l.length : Int)) = true ∧ l.drop i = q :: l.drop (i + 1) ∧ getI l (i : Int) = some q ∧ i < l.length := by
  by_cases h : i < l.length
  · exact .inr ⟨l[i], decide_eq_true (by omega), List.drop_eq_getElem_cons h, by rw [getI_nat]; exact List.getElem?_eq_getElem h, h⟩
  · exact .inl ⟨decide_eq_false (by omega), List.drop_eq_nil_of_le (by omega), by omega⟩
theorem cntStep (i n : Int) (m : Nat) (hm : m = (n - i).toNat) : (m = 0 ∧ decide (i < n) = false) ∨ ∃ m', m = m' + 1 ∧ decide (i < n) = true ∧ m' = (n - (i + 1)).toNat ∧ i < n := by
  by_cases h : i < n
  · exact .inr ⟨(n - (i + 1)).toNat, by omega, decide_eq_true h, rfl, h⟩
  · exact .inl ⟨by omega, decide_eq_false h⟩
section
variable {P : Program} {X : D → Prop} {l : List Oper} {rest : List (Nat × Cls)} {env : Env} {σ : St} {f : FuncId} {fn : Func} {K : Ctx} {R : D → St → Prop} {k : List Item}
theorem r_sB {α : Type} (s : Nat) {b : Bool} {x y : Option α} {res : α} (hs : lk env s = some (.bool b)) (hr : (bif b then x else y) = some res) (h1 : b = true → x = some res → Run P l.toArray X (Goes P f fn K R k) rest ((s, .bool true) :: env) σ) (h2 : b = false → y = some res → Run P l.toArray X (Goes P f fn K R k) rest ((s, .bool false) :: env) σ) : Run P l.toArray X (Goes P f fn K R k) rest env σ :=
  r_split s hs (fun h => h1 h (by rw [h] at hr; exact hr)) fun h => h2 h (by rw [h] at hr; exact hr)
theorem g_sB {α : Type} (s : Nat) {b : Bool} {x y : Option α} {res : α} (hs : lk env s = some (.bool b)) (hr : (bif b then x else y) = some res) (h1 : b = true → x = some res → Goes P f fn K R k ((s, .bool true) :: env) σ) (h2 : b = false → y = some res → Goes P f fn K R k ((s, .bool false) :: env) σ) : Goes P f fn K R k env σ :=
  g_split s hs (fun h => h1 h (by rw [h] at hr; exact hr)) fun h => h2 h (by rw [h] at hr; exact hr)
theorem g_blockJ {id : Nat} {c : Code} (J : Env → St → Prop) (hJ : ∀ env σ, J env σ → Goes P f fn K R k env σ) (h : (∀ env σ, J env σ → Goes P f fn K R k env σ) → Goes P f fn K R (.code c :: .inBlock id :: k) env σ) : Goes P f fn K R (.code (.block id c) :: k) env σ := g_block (h hJ)
end

theorem pf0 {α : Type} (l : List α) : l.Perm l := List.Perm.refl _
theorem pf1 {α : Type} (a b : α) (l : List α) : (a :: b :: l).Perm (b :: a :: l) := List.Perm.swap b a l
section
variable {P : Program} {o : Oper} {ρ : Operand → Option D} {d : D} {α : Type} {f : α → D}
theorem m_index {t e : TypeId} {x ix : Operand} {s by_ : Nat} {dx : D} (l : List α) {k : IntKind} {n : Int} {q : α} (ho : o.op = .indexAddr t x ix) (hE : ElT P t e s by_) (hx : ρ x = some dx) (hl : AsL dx (l.map f)) (hix : ρ ix = some (.int k n)) (hq : getI l n = some q) (hall : ∀ a, sz (f a) = s) (hp : (f q).plain = true) : StepD P o ρ (.ptr (f q)) := by
  obtain ⟨h0, h1⟩ := getI_some hq
  exact t_index n.toNat ho hE hx hl hix (by omega) (getm h1) (aszm hall) hp
theorem m_appOwn {x y : Operand} {t e : TypeId} {s by_ : Nat} {σ τ : St} {u : Value} (l m : List α) {r : List α} {dy : D} {n : Nat} (ho : o.op = .call { callee := .builtin .append, args := #[x, y], argTypes := #[t, t] }) (hE : ElT P t e s by_) (hx : ρ x = some (.own u (l.map f))) (hy : ρ y = some dy) (hm : AsL dy (m.map f)) (hσ : σ.Perm (.row u n e s :: τ)) (hn : n = l.length) (hall : ∀ a, sz (f a) = s) (hr : appO by_ l m = some r) :
    StepS P o ρ σ fun d' σ' => ∃ u', d' = .own u' (r.map f) ∧ σ' = .row u' r.length e s :: τ := by
  obtain ⟨h1, h2, rfl⟩ := appO_some hr
  have h := s_appOwn (P := P) (o := o) (ρ := ρ) (σ := σ) (τ := τ) (u := u) (l := l.map f) (m := m.map f) ho hE hx hy hm (by rw [List.length_map, ← hn]; exact hσ) (aszm hall) (aszm hall) (by simpa using h1) (by simpa using h2)
  rw [← List.map_append, List.length_map] at h
  exact h
theorem m_sub {t e : TypeId} {x : Operand} {low high : Option Operand} {s by_ : Nat} {dx : D} (l : List α) {r : List α} (lo hi : Int) (ho : o.op = .slice t x low high none) (hE : ElT P t e s by_) (hx : ρ x = some dx) (hl : AsL dx (l.map f)) (h1 : ∀ n : Nat, (n : Int) = lo → bndLo ρ low n) (h2 : ∀ n : Nat, (n : Int) = hi → bndHi ρ l.length high n) (hall : ∀ a, sz (f a) = s) (hr : subO l lo hi = some r) : StepD P o ρ (.lst (r.map f)) := by
  obtain ⟨g1, g2, g3, rfl⟩ := subO_some hr
  have := t_sub lo.toNat hi.toNat ho hE hx hl (h1 _ (by omega)) (by rw [List.length_map]; exact h2 _ (by omega)) (by omega) (by rw [List.length_map]; omega) (aszm hall)
  rwa [← List.map_take, ← List.map_drop] at this
theorem bl_none : ∀ n : Nat, (n : Int) = 0 → bndLo ρ none n := fun n h => by unfold bndLo; omega
theorem bl_some {x : Operand} {k : IntKind} {m : Int} (h : ρ x = some (.int k m)) : ∀ n : Nat, (n : Int) = m → bndLo ρ (some x) n := fun n e => ⟨k, m, h, e.symm⟩
theorem bh_some {len : Nat} {x : Operand} {k : IntKind} {m : Int} (h : ρ x = some (.int k m)) : ∀ n : Nat, (n : Int) = m → bndHi ρ len (some x) n := fun n e => ⟨k, m, h, e.symm⟩
theorem m_len {x : Operand} {t e : TypeId} {s by_ : Nat} {dx : D} (l : List α) (ho : o.op = .call { callee := .builtin .len, args := #[x], argTypes := #[t] }) (hE : ElT P t e s by_) (hx : ρ x = some dx) (hl : AsL dx (l.map f)) : StepD P o ρ (.int .i64 (l.length : Int)) := by
  have := t_len ho hE hx hl
  rwa [List.length_map] at this
theorem m_lit {t e : TypeId} {n s by_ : Nat} {parts : Array (Nat × Operand)} (xs : List Operand) (l : List α) (ho : o.op = .buildSlice t n parts) (hE : ElT P t e s by_) (hps : parts.toList = (xs.zipIdx 0).map fun x => (x.2, x.1)) (hn : n = xs.length) (hn0 : 0 < n) (hsm : n * s ≤ 16777216) (hO : Opds ρ xs (l.map f)) (hall : ∀ a, sz (f a) = s) (hpl : ∀ a, (f a).plain = true) : StepD P o ρ (.full (l.map f)) :=
  t_lit xs ho hE hps hn hn0 hsm hO (aszm hall) fun d hd => by
    obtain ⟨a, _, rfl⟩ := List.mem_map.1 hd
    exact hpl a
end
end Go.Proofs.Ytgndcnknmkcacaa


namespace Go.Proofs.Ytgndcnknmkcacaa
set_option maxRecDepth 100000
open Go.RowKit

/-! ### maps as lists of pairs -/
section
variable {α β : Type} [DecidableEq α]
def mget : List (α × β) → α → Option β
  | [], _ => none
  | q :: l, x => if q.1 = x then some q.2 else mget l x
def mput : List (α × β) → α → β → List (α × β)
  | [], x, d => [(x, d)]
  | q :: l, x, d => if q.1 = x then (x, d) :: l else q :: mput l x d
theorem findA_map (g : β → D) : ∀ (l : List (α × β)) (x : α), findA (l.map fun q => (q.1, g q.2)) x = (mget l x).map g
  | [], _ => rfl
  | q :: l, x => by
    simp only [List.map_cons, findA, mget]
    split
    · rfl
    · exact findA_map g l x
theorem putA_map (g : β → D) : ∀ (l : List (α × β)) (x : α) (d : β), putA (l.map fun q => (q.1, g q.2)) x (g d) = (mput l x d).map fun q => (q.1, g q.2)
  | [], _, _ => rfl
  | q :: l, x, d => by
    simp only [List.map_cons, putA, mput]
    split
    · rfl
    · rw [putA_map g l x d]; rfl
theorem mget_mput : ∀ (l : List (α × β)) (x y : α) (d : β), mget (mput l x d) y = if x = y then some d else mget l y
  | [], x, y, d => by simp [mput, mget]
  | q :: l, x, y, d => by
    simp only [mput]
    split
    · rename_i h
      simp only [mget]
      split
      · rfl
      · rename_i h2; rw [if_neg (by rw [h]; exact h2)]
    · rename_i h
      simp only [mget, mget_mput l x y d]
      by_cases h1 : q.1 = y
      · rw [if_pos h1, if_neg (fun h2 => h (h1.trans h2.symm)), if_pos h1]
      · rw [if_neg h1, if_neg h1]
theorem mput_len : ∀ (l : List (α × β)) (x : α) (d : β), (mput l x d).length ≤ l.length + 1
  | [], _, _ => by simp [mput]
  | q :: l, x, d => by
    unfold mput
    split
    · simp
    · have := mput_len l x d
      simp only [List.length_cons]
      omega
end
abbrev mapM' {α β : Type} (key : α → D) (g : β → D) (l : List (α × β)) : List (D × D) := l.map fun q => (key q.1, g q.2)
theorem mapM_eq {α β : Type} (key : α → D) (g : β → D) (l : List (α × β)) : mapM' key g l = MapD key (l.map fun q => (q.1, g q.2)) := by simp [List.map_map, Function.comp_def]
/-- A map with one entry more or changed, if there is room. -/
def mputO {α β : Type} [DecidableEq α] (l : List (α × β)) (x : α) (d : β) : Option (List (α × β)) := if l.length < 9223372036854775807 then some (mput l x d) else none
theorem mputO_some {α β : Type} [DecidableEq α] {l r : List (α × β)} {x : α} {d : β} (h : mputO l x d = some r) : l.length < 9223372036854775807 ∧ r = mput l x d := by
  unfold mputO at h
  split at h
  · exact ⟨by assumption, (Option.some.inj h).symm⟩
  · cases h

def ZeroM (P : Program) (e : TypeId) (z : D) : Prop := ∃ zv, (P.info? e).map (·.zero) = some (some zv) ∧ ∀ p w, Rep p w z zv
section
variable {P : Program} {o : Oper} {ρ : Operand → Option D} {α β : Type} [DecidableEq α] {key : α → D} {g : β → D}
theorem m_lookup2 {t kt e : TypeId} {x y : Operand} {vk : α → Value} {d : Value → Prop} {r : Nat} (l : List (α × β)) (a0 : α) (z : β) {σ : St} (ho : o.op = .lookup t x y true) (ht : P.underlying t = some (.map kt e)) (hK : KeyOk P kt key vk d) (hz : ZeroM P e (g z)) (hx : ρ x = some (.map r)) (hy : ρ y = some (key a0)) (hσ : .map r (mapM' key g l) ∈ σ) :
    StepS P o ρ σ fun d' σ' => d' = .tup [g ((mget l a0).getD z), .bool (mget l a0).isSome] ∧ σ' = σ := by
  obtain ⟨zv, h1, h2⟩ := hz
  rw [mapM_eq] at hσ
  have := s_lookup2 ho ht hK h1 h2 hx hy hσ
  rw [findA_map, Option.isSome_map] at this
  have e1 : ((mget l a0).map g).getD (g z) = g ((mget l a0).getD z) := by cases mget l a0 <;> rfl
  rwa [e1] at this
theorem s_lookup1 {t kt e : TypeId} {x y : Operand} {vk : α → Value} {d : Value → Prop} {r : Nat} {l : List (α × D)} {a0 : α} {z : D} {zv : Value} {σ : St} (ho : o.op = .lookup t x y false) (ht : P.underlying t = some (.map kt e)) (hK : KeyOk P kt key vk d) (hz : (P.info? e).map (·.zero) = some (some zv)) (hzr : ∀ p w, Rep p w z zv) (hx : ρ x = some (.map r)) (hy : ρ y = some (key a0)) (hσ : .map r (MapD key l) ∈ σ) :
    StepS P o ρ σ fun d' σ' => d' = (findA l a0).getD z ∧ σ' = σ := fun K p a w hi h => by
  have h1 := h x (by rw [ho]; simp [Op.operands]) _ hx
  have h2 := hK.rep _ _ _ _ (h y (by rw [ho]; simp [Op.operands]) _ hy)
  have hgood : d (vk a0) := h2 ▸ hK.good _ _ _ _ (h y (by rw [ho]; simp [Op.operands]) _ hy)
  simp only [Rep] at h1
  obtain ⟨es, clock, g1, g2, _⟩ := hi.ok _ hσ
  obtain ⟨i, hi1, hi2⟩ := Option.map_eq_some_iff.1 hz
  have hc := hK.check w es.isEmpty (vk a0) hgood
  rcases find_spec hK p w a0 z l es.toList 0 g2 with ⟨q1, q2, _⟩ | ⟨j, e', dv, q1, q2, q3, q4, q5, _⟩
  · have hf := (hK.find w (vk a0) es.toList hgood (keys_good hK g2)).trans (by rw [q1])
    have hr : (execOp a.eval o).run P w = .ok (.value zv) w := by
      unfold execOp
      rw [ho]
      simp [h1, h2, Instr.lookup, run_underlying ht, MapKept.run_getObj_map g1, hc, hf, zeroValue, typeInfo, hi1, hi2]
    unfold Oper.wp
    rw [hr]
    refine ⟨_, _, _, p, rfl, ⟨rfl, rfl⟩, ?_, hi, Grow.refl _ _⟩
    rw [q2]
    exact hzr p w
  · have hf := (hK.find w (vk a0) es.toList hgood (keys_good hK g2)).trans (by rw [q1])
    have hr : (execOp a.eval o).run P w = .ok (.value e'.val) w := by
      unfold execOp
      rw [ho]
      simp [h1, h2, Instr.lookup, run_underlying ht, MapKept.run_getObj_map g1, hc, hf]
    unfold Oper.wp
    rw [hr]
    refine ⟨_, _, _, p, rfl, ⟨rfl, rfl⟩, ?_, hi, Grow.refl _ _⟩
    rw [q4]
    exact q5
theorem m_lookup1 {t kt e : TypeId} {x y : Operand} {vk : α → Value} {d : Value → Prop} {r : Nat} (l : List (α × β)) (a0 : α) (z : β) {σ : St} (ho : o.op = .lookup t x y false) (ht : P.underlying t = some (.map kt e)) (hK : KeyOk P kt key vk d) (hz : ZeroM P e (g z)) (hx : ρ x = some (.map r)) (hy : ρ y = some (key a0)) (hσ : .map r (mapM' key g l) ∈ σ) :
    StepS P o ρ σ fun d' σ' => d' = g ((mget l a0).getD z) ∧ σ' = σ := by
  obtain ⟨zv, h1, h2⟩ := hz
  rw [mapM_eq] at hσ
  have := s_lookup1 ho ht hK h1 h2 hx hy hσ
  rw [findA_map] at this
  have e1 : ((mget l a0).map g).getD (g z) = g ((mget l a0).getD z) := by cases mget l a0 <;> rfl
  rwa [e1] at this
theorem m_mapUpdate {t kt e : TypeId} {x y v : Operand} {vk : α → Value} {d : Value → Prop} {r : Nat} (l : List (α × β)) (a0 : α) (b0 : β) {l' : List (α × β)} {dn : D} {σ τ : St} (ho : o.op = .mapUpdate t x y v) (ht : P.underlying t = some (.map kt e)) (hK : KeyOk P kt key vk d) (hx : ρ x = some (.map r)) (hy : ρ y = some (key a0)) (hv : ρ v = some dn) (hw : Wk dn (g b0)) (hσ : σ.Perm (.map r (mapM' key g l) :: τ)) (hl : mputO l a0 b0 = some l') :
    StepS P o ρ σ fun _ σ' => σ' = .map r (mapM' key g l') :: τ := by
  obtain ⟨h1, rfl⟩ := mputO_some hl
  rw [mapM_eq] at hσ
  have := s_mapUpdate τ ho ht hK hx hy hv hw hσ (by rw [List.length_map]; exact h1)
  rwa [putA_map, ← mapM_eq] at this
end
theorem m_makeMap {P : Program} {o : Oper} {ρ : Operand → Option D} {α β : Type} {key : α → D} {g : β → D} {t : TypeId} {σ : St} (ho : o.op = .makeMap t none) : StepS P o ρ σ fun d' σ' => ∃ r, d' = .map r ∧ σ' = .map r (mapM' key g ([] : List (α × β))) :: σ := s_makeMap ho
/-! ### facts out of slots -/
section
variable {P : Program} {f : FuncId} {fn : Func} {K : Ctx} {R : D → St → Prop} {k : List Item} {env : Env} {σ : St}
theorem g_lenP (s : Nat) (path : List Nat) {d0 dx : D} {l : List D} (hs : lk env s = some (.ptr d0)) (hp : subD d0 path = some dx) (hl : AsL dx l) (h : l.length ≤ 9223372036854775807 → Goes P f fn K R k env σ) : Goes P f fn K R k env σ :=
  g_fact (fun p a w _ hr => by
    have h1 := hr s _ hs
    simp only [Rep] at h1
    obtain ⟨b, o, u, _, _, h2, _⟩ := h1
    obtain ⟨v, h3, _⟩ := subD_rep h2 hp
    obtain ⟨A, c, xs, _, g2, g3, _⟩ := hl.rep h3
    omega) h
theorem g_seqJ {a b : Code} (J : Env → St → Prop) (hJ : ∀ env σ, J env σ → Goes P f fn K R (.code b :: k) env σ) (h : (∀ env σ, J env σ → Goes P f fn K R (.code b :: k) env σ) → Goes P f fn K R (.code a :: .code b :: k) env σ) : Goes P f fn K R (.code (.seq a b) :: k) env σ := g_seq (h hJ)
theorem r_st {X : D → Prop} {Q : Env → St → Prop} {l : List Oper} {rest : List (Nat × Cls)} (σ' : St) (hs : σ = σ') (h : Run P l.toArray X Q rest env σ') : Run P l.toArray X Q rest env σ := hs ▸ h
end
end Go.Proofs.Ytgndcnknmkcacaa


namespace Go.Proofs.Ytgndcnknmkcacaa
set_option maxRecDepth 100000
open Go.RowKit

section
variable {P : Program} {o : Oper} {ρ : Operand → Option D} {d : D}
theorem s_quoC {t t' : TypeId} {x y : Operand} {m n : Int} (ho : o.op = .binOp .quo t x y t') (hx : ρ x = some (.int .i64 m)) (hy : ρ y = some (.int .i64 n)) (hn : n ≠ 0) : StepD P o ρ (.int .i64 (wr (Int.tdiv m n))) := stepD_of fun p a w h => by
  have h1 := h x (by rw [ho]; simp [Op.operands]) _ hx
  have h2 := h y (by rw [ho]; simp [Op.operands]) _ hy
  simp only [Rep] at h1 h2
  refine ⟨.int .i64 (wr (Int.tdiv m n)), ?_, by simp only [Rep]; exact ⟨trivial, wrap_idem _ _⟩⟩
  unfold execOp
  rw [ho]
  simp only [h1.1, h2.1]
  simp [binOp, eqGuard, Op.intDiv, hn, wr]
end
end Go.Proofs.Ytgndcnknmkcacaa


namespace Go.Proofs.Ytgndcnknmkcacaa
set_option maxRecDepth 100000
open Go.RowKit

theorem ifS {α : Type} {c : Prop} [Decidable c] {a b : α} (h : (if c then some a else none) = some b) : c ∧ a = b := by
  split at h
  · exact ⟨by assumption, Option.some.inj h⟩
  · cases h
noncomputable def x_rightA (a : At) : Option (Bool) := if wtL a.ts ≤ 1000000000 then some (rightA a) else none

theorem x_rightA_eq (a : At) (h : wtL a.ts ≤ 1000000000) : x_rightA a = some (rightA a) := if_pos h

theorem lx_term_RightAtom (a : At) (res : Bool) (h : x_rightA a = some res) : Gives Try.prog 31 [encA a] (.bool res) := by
  obtain ⟨h1, rfl⟩ := ifS h
  exact sp_term_RightAtom 1000000000 (Nat.le_refl _) a h1

theorem lx_constraintref03_RightAtom (a : At) (res : Bool) (h : x_rightA a = some res) : Gives Try.prog 41 [encA a] (.bool res) := by
  obtain ⟨h1, rfl⟩ := ifS h
  exact sp_R3_RightAtom 1000000000 (Nat.le_refl _) a h1

noncomputable def x_rightG (a : Gl) : Option (Bool) := if wtL a.ts ≤ 1000000000 then some (rightG a) else none

theorem x_rightG_eq (a : Gl) (h : wtL a.ts ≤ 1000000000) : x_rightG a = some (rightG a) := if_pos h

theorem lx_term_RightGoal (a : Gl) (res : Bool) (h : x_rightG a = some res) : Gives Try.prog 32 [encG a] (.bool res) := by
  obtain ⟨h1, rfl⟩ := ifS h
  exact sp_term_RightGoal 1000000000 (Nat.le_refl _) a h1

theorem lx_constraintref03_RightGoal (a : Gl) (res : Bool) (h : x_rightG a = some res) : Gives Try.prog 42 [encG a] (.bool res) := by
  obtain ⟨h1, rfl⟩ := ifS h
  exact sp_R3_RightGoal 1000000000 (Nat.le_refl _) a h1

noncomputable def x_isName (s : ByteArray) : Option (Bool) := if True then some (isName s) else none

theorem x_isName_eq (s : ByteArray) (h : True) : x_isName s = some (isName s) := if_pos h

theorem lx_name_Right (s : ByteArray) (res : Bool) (h : x_isName s = some res) : Gives Try.prog 27 [.str s] (.bool res) := by
  obtain ⟨h1, rfl⟩ := ifS h
  exact sp_name_Right s

noncomputable def x_isNameR (s : ByteArray) : Option (Bool) := if s.size ≤ 9223372036854775807 then some (isName s) else none

theorem lx_constraintref02_Right (s : ByteArray) (res : Bool) (h : x_isNameR s = some res) : Gives Try.prog 28 [.str s] (.bool res) := by
  obtain ⟨h1, rfl⟩ := ifS h
  exact sp_R2_Right s h1

noncomputable def x_varsA (a : At) : Option (List Int) := if wtL a.ts ≤ 1000000000 then some (uniq [] (occL a.ts)) else none

theorem x_varsA_eq (a : At) (h : wtL a.ts ≤ 1000000000) : x_varsA a = some (uniq [] (occL a.ts)) := if_pos h

theorem lx_term_AtomVars (a : At) (res : List Int) (h : x_varsA a = some res) : Gives Try.prog 63 [encA a] (encI res) := by
  obtain ⟨h1, rfl⟩ := ifS h
  exact sp_term_AtomVars 1000000000 (Nat.le_refl _) a h1

noncomputable def x_varsG (g : Gl) : Option (List Int) := if wtL g.ts ≤ 1000000000 then some (uniq [] (occL g.ts)) else none

theorem x_varsG_eq (g : Gl) (h : wtL g.ts ≤ 1000000000) : x_varsG g = some (uniq [] (occL g.ts)) := if_pos h

theorem lx_term_GoalVars (g : Gl) (res : List Int) (h : x_varsG g = some res) : Gives Try.prog 64 [encG g] (encI res) := by
  obtain ⟨h1, rfl⟩ := ifS h
  exact sp_term_GoalVars 1000000000 (Nat.le_refl _) g h1

end Go.Proofs.Ytgndcnknmkcacaa


namespace Go.Proofs.Ytgndcnknmkcacaa
set_option maxRecDepth 100000
open Go.RowKit

theorem gives_weigh (d : Nat) (hd : d ≤ 1000) (l : List T) (left : Int) (h1 : -9223372036854775808 ≤ left) (h2 : left ≤ 1000000000) : Gives Try.prog 45 [.lst (l.map encT), .int .i64 left, .int .i64 (d : Int)] (.int .i64 (weighF d l left)) :=
  gives_of_ret (v := .int .i64 (weighF d l left)) (fun p w => by
    have := weighF_ge d l left
    have : weighF d l left ≤ max left (-1) := by
      by_cases h : 0 ≤ weighF d l left
      · have := weigh_wt d l left h
        omega
      · omega
    simp only [Rep]; exact ⟨trivial, wrap64 (by omega)⟩) fun p w vs _ hv => by
    simp only [Repl] at hv
    obtain ⟨v, _, rfl, k1, u, _, rfl, k2, x, _, rfl, k3, rfl⟩ := hv
    simp only [Rep] at k2 k3
    obtain ⟨rfl, _⟩ := k2
    obtain ⟨rfl, _⟩ := k3
    exact weigh_any d l v left d w (sl_of k1) rfl hd h1 h2
noncomputable def x_weigh (l : List T) (left d : Int) : Option Int := if (-9223372036854775808 ≤ left ∧ left ≤ 1000000000) ∧ 0 ≤ d ∧ d ≤ 1000 then some (weighF d.toNat l left) else none
theorem lx_constraintref03_weigh (l : List T) (left d res : Int) (h : x_weigh l left d = some res) : Gives Try.prog 45 [.lst (l.map encT), .int .i64 left, .int .i64 d] (.int .i64 res) := by
  obtain ⟨⟨⟨h1, h2⟩, h3, h4⟩, rfl⟩ := ifS h
  have := gives_weigh d.toNat (by omega) l left h1 h2
  rw [Int.toNat_of_nonneg h3] at this
  exact this
end Go.Proofs.Ytgndcnknmkcacaa


namespace Go.Proofs.Ytgndcnknmkcacaa
set_option maxRecDepth 100000
open Go.RowKit

/-- A value with no fields. -/
def encU (_ : Unit) : D := .agg []
theorem sz_encU (a : Unit) : sz (encU a) = 0 := rfl
theorem sz_encA (a : At) : sz (encA a) = 2 := rfl
theorem sz_encG (a : Gl) : sz (encG a) = 3 := rfl
end Go.Proofs.Ytgndcnknmkcacaa


namespace Go.Proofs.Ytgndcnknmkcacaa
set_option maxRecDepth 100000
open Go.RowKit

/-- Weakened field by field. -/
inductive Wks : List D → List D → Prop
  | nil : Wks [] []
  | cons {d e : D} {ds es : List D} (h : Wk d e) (k : Wks ds es) : Wks (d :: ds) (e :: es)
theorem Wks.reps {ds es : List D} (h : Wks ds es) : ∀ {p : Addr → Prop} {w : World} {xs : List Value}, Reps p w ds xs → Reps p w es xs := by
  induction h with
  | nil => exact fun h => h
  | cons h _ ih =>
    intro p w xs hr
    simp only [Reps] at hr ⊢
    obtain ⟨v, rest, h1, h2, h3⟩ := hr
    exact ⟨v, rest, h1, h _ _ _ h2, ih h3⟩
theorem Wk.agg {ds es : List D} (h : Wks ds es) : Wk (.agg ds) (.agg es) := fun p w v hv => by
  simp only [Rep] at hv ⊢
  obtain ⟨cs, h1, h2, h3⟩ := hv
  exact ⟨cs, h1, h.reps h2, h3⟩
section
variable {P : Program} {f : FuncId} {fn : Func} {K : Ctx} {R : D → St → Prop} {k : List Item} {env : Env} {σ : St}
end
end Go.Proofs.Ytgndcnknmkcacaa


namespace Go.Proofs.Ytgndcnknmkcacaa
set_option maxRecDepth 100000
open Go.RowKit

theorem Inv.of {K K' : Ctx} {p : Addr → Prop} {σ : St} {w : World} (h0 : K'.w0 = K.w0) (hp : K'.p0 = K.p0) (hF : K'.F0 = K.F0) (h : Inv K p σ w) : Inv K' p σ w := by
  obtain ⟨w0, p0, F0, X⟩ := K
  obtain ⟨w0', p0', F0', X'⟩ := K'
  simp only at h0 hp hF
  subst h0 hp hF
  exact ⟨h.ok, h.nd, h.mine, h.pub, h.gr, h.neu, h.os, h.tape, h.output, h.size, h.block⟩
/-- What a callee begins with that may panic. -/
def ctxX (w : World) (p : Addr → Prop) (σ : St) (X : D → Prop) : Ctx := { ctx w p σ with X := fun d _ => X d }
/-- The contract of a function that hands back R, or panics with X. -/
def SpecX (P : Program) (f : FuncId) (ds : List D) (σ : St) (R : D → St → Prop) (X : D → Prop) : Prop :=
  ∀ (w : World) (p : Addr → Prop) (vs : List Value), Inv (ctx w p σ) p σ w → Repl p w ds vs → Calls P f vs.toArray w (Left (ctxX w p σ X) R)
/-- It panics with d. -/
def Dies (P : Program) (f : FuncId) (ds : List D) (σ : St) (d : D) : Prop := SpecX P f ds σ (fun _ _ => False) fun d' => d' = d
section
variable {P : Program} {f : FuncId} {fn : Func} {ds : List D} {σ : St} {R : D → St → Prop} {X : D → Prop}
theorem spec_ofX {c : Code} (hf : P.funcs[f]? = some fn) (hb : fn.body = some c) (h : ∀ K, (K.F0 = fun b => b ∈ blks σ) → (∀ d, X d → K.X d []) → Goes P f fn K R [.code c] (argEnv 0 ds) σ) : SpecX P f ds σ R X := by
  intro w p vs hi hv cs
  let b : Frame := { (default : Frame) with fn := f, kind := .normal }
  have henter : Frame.enter P f vs.toArray .normal = b.at { tmps := vs.toArray ++ Array.replicate (fn.ntmps - vs.toArray.size) undef, defers := [] } [.code c] := by
    simp [Frame.enter, Frame.at, hf, hb, b]
  rw [henter]
  refine h (ctxX w p σ X) rfl (fun d hd => hd) p _ w (hi.of (by rfl) (by rfl) (by rfl)) ?_ ?_ rfl b cs rfl rfl hf
  · intro t d ht
    obtain ⟨_, h2⟩ := look_argEnv ds 0 t d ht
    obtain ⟨v, h3, h4⟩ := hv.at_ h2
    have : (vs.toArray ++ Array.replicate (fn.ntmps - vs.toArray.size) Go.undef).getD t Go.undef = v := by
      have hlt := (List.getElem?_eq_some_iff.1 h3).1
      have h5 : vs[t]? = some v := by simpa using h3
      rw [Array.getD_eq_getD_getElem?, Array.getElem?_append_left (by simpa using hlt)]
      simp [h5]
    rw [this]
    exact h4
  · simp; omega
theorem spec_envX {c : Code} (env : Env) (hf : P.funcs[f]? = some fn) (hb : fn.body = some c) (he : argEnv 0 ds = env) (h : ∀ K, (K.F0 = fun b => b ∈ blks σ) → (∀ d, X d → K.X d []) → Goes P f fn K R [.code c] env σ) : SpecX P f ds σ R X := spec_ofX hf hb fun K hK hX => he ▸ h K hK hX
theorem specX_inr {α : Type} {r0 : α} {Q : α → D → St → Prop} {F : Int → D} (h : SpecX P f ds σ (fun d σ' => ∃ r, (Sum.inr r0 : Int ⊕ α) = .inr r ∧ Q r d σ') (fun d => ∃ c, (Sum.inr r0 : Int ⊕ α) = .inl c ∧ d = F c)) : Spec P f ds σ (Q r0) := fun w p vs hi hv =>
  (h w p vs hi hv).mono fun e w' hl => by
    rcases hl with ⟨v, d, σ', q, rfl, ⟨r, hr, hQ⟩, h1, h2⟩ | ⟨v, d, σ', q, rfl, ⟨c, hc, _⟩, _⟩
    · injection hr with hr
      subst hr
      exact .inl ⟨v, d, σ', q, rfl, hQ, h1, h2.of (by rfl) (by rfl) (by rfl)⟩
    · cases hc
theorem specX_inl {α : Type} {c0 : Int} {Q : α → D → St → Prop} {F : Int → D} (h : SpecX P f ds σ (fun d σ' => ∃ r, (Sum.inl c0 : Int ⊕ α) = .inr r ∧ Q r d σ') (fun d => ∃ c, (Sum.inl c0 : Int ⊕ α) = .inl c ∧ d = F c)) : Dies P f ds σ (F c0) := fun w p vs hi hv =>
  (h w p vs hi hv).mono fun e w' hl => by
    rcases hl with ⟨v, d, σ', q, rfl, ⟨r, hr, hQ⟩, h1, h2⟩ | ⟨v, d, σ', q, rfl, ⟨c, hc, hd⟩, h1, h2⟩
    · cases hr
    · injection hc with hc
      subst hc
      exact .inr ⟨v, d, σ', q, rfl, hd, h1, h2.of (by rfl) (by rfl) (by rfl)⟩
end
/-- On with what a call hands back; a panic passes. -/
def bindX {α β : Type} (x : Option (Int ⊕ α)) (f : α → Option (Int ⊕ β)) : Option (Int ⊕ β) := x.bind fun s => match s with
  | .inl c => some (.inl c)
  | .inr a => f a
theorem bindXS {α β : Type} {x : Option (Int ⊕ α)} {f : α → Option (Int ⊕ β)} {res : Int ⊕ β} (h : bindX x f = some res) : (∃ c, x = some (.inl c) ∧ .inl c = res) ∨ ∃ a, x = some (.inr a) ∧ f a = some res := by
  unfold bindX at h
  cases x with
  | none => cases h
  | some s =>
    cases s with
    | inl c => exact .inl ⟨c, rfl, Option.some.inj h⟩
    | inr a => exact .inr ⟨a, rfl, h⟩
section
variable {P : Program} {o : Oper} {ρ : Operand → Option D} {d : D} {σ : St}
theorem s_panic {x : Operand} {t : TypeId} {d0 : D} (ho : o.op = .panic x) (hx : ρ x = some (.ifc t d0)) : DieS P o ρ σ (.ifc t d0) := fun K p a w hi h => by
  have h1 := h x (by rw [ho]; simp [Op.operands]) _ hx
  have h1' := h1
  simp only [Rep] at h1
  obtain ⟨u, hu, _⟩ := h1
  have hr : (execOp a.eval o).run P w = .halt (.panic (a.eval x)) w := by
    unfold execOp
    rw [ho]
    simp [Instr.panic, hu, goPanic]
  unfold Oper.wp
  rw [hr]
  exact ⟨_, p, rfl, rfl, h1', Inv.less (σ := []) (τ := σ) hi⟩
theorem s_makeIfc {x : Operand} {t : TypeId} {fs : Array Field} (ho : o.op = .makeInterface t x) (ht : P.underlying t = some (.struct fs)) (hx : ρ x = some d) : StepD P o ρ (.ifc t d) := fun σ K p a w hi h => by
  have h1 := h x (by rw [ho]; simp [Op.operands]) _ hx
  have hr : (execOp a.eval o).run P w = .ok (.value (.iface t (a.eval x))) w := by
    unfold execOp
    rw [ho]
    simp [Instr.makeInterface, run_underlying ht]
  unfold Oper.wp
  rw [hr]
  exact ⟨_, _, σ, p, rfl, ⟨rfl, rfl⟩, by simp only [Rep]; exact ⟨_, rfl, h1⟩, hi, Grow.refl _ _⟩
theorem die_call {f : FuncId} {vs : List Value} {σ1 τ : St} {ds : List D} {K : Ctx} {p : Addr → Prop} {a : Act} {w : World} (hi : Inv K p σ w) (hσ : σ.Perm (σ1 ++ τ)) (hS : Dies P f ds σ1 d) (hv : Repl p w ds vs) (hrun : (execOp a.eval o).run P w = .ok (.enter f vs.toArray) w) :
    o.wp P a w (fun _ _ => False) (fun e a' w' => ∃ v p', e = .panic [{ v, recovered := false }] ∧ a' = a ∧ Rep p' w' d v ∧ Inv K p' [] w') := by
  unfold Oper.wp
  rw [hrun]
  refine (hS w p vs ((hi.perm hσ).enter) hv).mono fun e w' hl => ?_
  rcases hl with ⟨_, _, _, _, _, h, _⟩ | ⟨v, d', σ1', p', rfl, hd, hr, hi'⟩
  · exact h.elim
  · have hd : d' = d := hd
    subst hd
    exact ⟨v, p', rfl, rfl, hr, Inv.less (σ := []) (τ := σ1' ++ τ) ((hi.perm hσ).leave (hi'.of (by rfl) (by rfl) (by rfl)))⟩
theorem s_callX {f : FuncId} {args : Array Operand} {ats : Array TypeId} {σ1 : St} (τ : St) {ds : List D} (ho : o.op = .call { callee := .value (.func f), args := args, argTypes := ats }) (hf : callee P f) (hO : Opds ρ args.toList ds) (hσ : σ.Perm (σ1 ++ τ)) (hS : Dies P f ds σ1 d) : DieS P o ρ σ d := fun K p a w hi h => by
  have hv := hO.rep (p := p) (w := w) (a := a) fun x hx => h x (by rw [ho]; simp only [Op.operands, Call.operands]; exact Array.mem_append.2 (.inr (by simpa using hx)))
  refine die_call hi hσ hS hv ?_
  unfold execOp
  rw [ho]
  simp only [resolve, Act.eval, Deferred.ofValue, Sem.run_bind, Sem.run_pure, Result.andThen_ok, invoke]
  rw [run_callFunc hf]
  congr 2
  apply Array.toList_inj.1
  simp
end
end Go.Proofs.Ytgndcnknmkcacaa


namespace Go.Proofs.Ytgndcnknmkcacaa
set_option maxRecDepth 100000
open Go.RowKit

theorem ask_first {P : Program} {kt : TypeId} (L : WideMaps.KeyLaw P kt) (hwide : (match P.underlying kt with | some (.array _ _) | some (.struct _) => true | _ => false) = true) (hm : P.types.size + 1 ≤ 10000) (hk : P.keyType kt = true) (w : World) {v : Value} (hv : ∃ l, keyOf P kt v = some l) : ∀ (es : List MapEntry) (i : Nat), (∀ e ∈ es, ∃ l, keyOf P kt e.key = some l) → (Instr.findAsking kt v es i).run P w = .ok (firstAt v es i) w
  | [], i, _ => by simp [Instr.findAsking, firstAt]
  | e :: es, i, h => by
    obtain ⟨lx, hx⟩ := hv
    obtain ⟨ly, hy⟩ := h e (List.mem_cons_self ..)
    obtain ⟨r, hr, hiff⟩ := run_equal_deep w hm hk hwide hx hy
    have ih := ask_first L hwide hm hk w ⟨lx, hx⟩ es (i + 1) fun x hx => h x (List.mem_cons_of_mem _ hx)
    simp only [Instr.findAsking, firstAt, Sem.run_bind, hr, Result.andThen_ok]
    cases r with
    | true =>
      have he : e.key = v := L.inj (l := lx) (by rw [hy, (hiff.1 rfl)]) hx
      simp [he]
    | false =>
      have he : e.key ≠ v := fun he => by
        rw [he, hx] at hy
        have := hiff.2 (Option.some.inj hy)
        cases this
      rw [if_neg he]
      simpa using ih
/-- Keys that are structs or arrays of flat parts. -/
theorem keyWide {P : Program} {kt : TypeId} {α : Type} {key : α → D} {vk : α → Value} (hl : laidOutB P = true) (hm : P.types.size + 2 ≤ 10000) (hrow : kt < P.types.size) (hk : P.keyType kt = true) (hwide : (match P.underlying kt with | some (.array _ _) | some (.struct _) => true | _ => false) = true)
    (h1 : ∀ (p : Addr → Prop) (w : World) (a : α) (v : Value), Rep p w (key a) v → v = vk a) (h2 : ∀ (p : Addr → Prop) (w : World) (a : α) (v : Value), Rep p w (key a) v → ∃ l, keyOf P kt v = some l) (h3 : ∀ a b, vk a = vk b → a = b) : KeyOk P kt key vk (fun v => ∃ l, keyOf P kt v = some l) :=
  have L := deep_law_gate hl hm hrow hk hwide
  ⟨h1, h2, h3, fun w em v ⟨l, h⟩ => L.check w em h, fun w v es hv he => by rw [run_findKey_eq w hwide]; exact ask_first L hwide (by omega) hk w hv es 0 he, fun w v ⟨l, h⟩ => L.stays w h⟩

/-! ### flat structs -/
def flatV : D → Value
  | .int k n => .int k n
  | .str s => .string s
  | .bool b => .bool b
  | _ => Go.undef
def flatK : Option TypeDesc → D → Bool
  | some (.int k), .int k' _ => k == k'
  | some .string, .str _ => true
  | some .bool, .bool _ => true
  | _, _ => false
/-- Fields of one cell each, one behind the other, of the kinds of the data. -/
def flatF (P : Program) : Nat → List Field → List D → Bool
  | _, [], [] => true
  | o, f :: fs, d :: ds => (f.name != "_") && (f.offset == o && (P.cellsOf f.type == 1 && (flatK (P.underlying f.type) d && flatF P (o + 1) fs ds)))
  | _, _, _ => false
theorem wf_of_wrap {k : IntKind} {n : Int} (h : k.wrap n = n) : (Lit.int k n).wf = true := by
  cases k <;> simp [IntKind.wrap, IntKind.bits, IntKind.signed] at h <;> simp [Lit.wf, IntKind.min, IntKind.max, IntKind.signed, IntKind.bits] <;> first | (split at h <;> omega) | omega
theorem flat_reps {P : Program} {p : Addr → Prop} {w : World} {D' : Nat} {cs0 : List Value} : ∀ (fs : List Field) (ds : List D) (cs : List Value) (o : Nat), flatF P o fs ds = true → Reps p w ds cs → cs0.drop o = cs →
    cs = ds.map flatV ∧ ∃ L, fs.mapM (fun f => P.keyLits (D' + 1) f.type ((cs0.drop f.offset).take (P.cellsOf f.type))) = some L
  | [], [], cs, o, _, h, _ => by
    simp only [Reps] at h
    exact ⟨h, [], rfl⟩
  | f :: fs, d :: ds, cs, o, hf, h, hd => by
    simp only [flatF, Bool.and_eq_true, beq_iff_eq] at hf
    obtain ⟨_, h1, h2, h3, h4⟩ := hf
    simp only [Reps] at h
    obtain ⟨v, rest, rfl, h5, h6⟩ := h
    have one : v.cells.toList = [flatV d] ∧ ∃ l, P.keyLits (D' + 1) f.type [flatV d] = some l := by
      unfold flatK at h3
      split at h3
      · rename_i k k' n hu
        have h3 : k = k' := by simpa using h3
        subst h3
        simp only [Rep] at h5
        refine ⟨by rw [h5.1]; simp [Value.cells, flatV], ?_⟩
        simp [Program.keyLits, hu, flatV, wf_of_wrap h5.2]
      · rename_i s hu
        simp only [Rep] at h5
        refine ⟨by rw [h5.1]; simp [Value.cells, flatV], ?_⟩
        have : s.size ≤ maxLen := by unfold maxLen; omega
        simp [Program.keyLits, hu, flatV, this]
      · rename_i b hu
        simp only [Rep] at h5
        refine ⟨by rw [h5]; simp [Value.cells, flatV], ?_⟩
        simp [Program.keyLits, hu, flatV]
      · cases h3
    obtain ⟨e1, l, e2⟩ := one
    rw [e1] at hd ⊢
    obtain ⟨g1, L, g2⟩ := flat_reps (P := P) (D' := D') (cs0 := cs0) fs ds rest (o + 1) h4 h6 (by rw [← List.drop_drop, hd]; rfl)
    refine ⟨by rw [g1]; rfl, l :: L, ?_⟩
    rw [List.mapM_cons, h1, h2, hd]
    simp only [List.cons_append, List.nil_append, List.take_succ_cons, List.take_zero, e2]
    simp [g2]
  | [], _ :: _, _, _, h, _, _ => by cases h
  | _ :: _, [], _, _, h, _, _ => by cases h
theorem flat_names {P : Program} : ∀ (fs : List Field) (ds : List D) (o : Nat), flatF P o fs ds = true → (∀ f ∈ fs, (f.name != "_") = true) ∧ ds.length = fs.length
  | [], [], _, _ => ⟨by simp, rfl⟩
  | f :: fs, d :: ds, o, h => by
    simp only [flatF, Bool.and_eq_true] at h
    obtain ⟨g1, g2⟩ := flat_names fs ds (o + 1) h.2.2.2.2
    refine ⟨fun x hx => ?_, by simp [g2]⟩
    rcases List.mem_cons.1 hx with rfl | hx
    · exact h.1
    · exact g1 x hx
  | [], _ :: _, _, h => by cases h
  | _ :: _, [], _, h => by cases h
theorem flat_key {P : Program} {kt : TypeId} {fs : Array Field} {ds : List D} {p : Addr → Prop} {w : World} {v : Value} (hu : P.underlying kt = some (.struct fs)) (hk : P.keyType kt = true) (hc : P.cellsOf kt = fs.size) (hpos : 0 < P.types.size) (hf : flatF P 0 fs.toList ds = true) (h : Rep p w (.agg ds) v) :
    v = .agg (ds.map flatV).toArray ∧ ∃ l, keyOf P kt v = some l := by
  simp only [Rep] at h
  obtain ⟨cs, rfl, h1, _⟩ := h
  obtain ⟨g1, L, g2⟩ := flat_reps (P := P) (D' := P.types.size - 1) (cs0 := cs) fs.toList ds cs 0 hf h1 rfl
  obtain ⟨g3, g4⟩ := flat_names fs.toList ds 0 hf
  have hlen : cs.length = fs.size := by rw [g1, List.length_map, g4]; simp
  refine ⟨by rw [g1], ?_⟩
  have hd : P.types.size - 1 + 1 = P.types.size := by omega
  rw [hd] at g2
  have hall : (fs.all fun f => f.name != "_") = true := by
    rw [← Array.all_toList, List.all_eq_true]
    exact g3
  have hlits : P.keyLits (P.types.size + 1) kt cs = some L.flatten := by
    unfold Program.keyLits
    simp only [hu]
    rw [if_pos ⟨by rw [hlen, hc], hall⟩, g2]
    rfl
  unfold keyOf
  rw [hu]
  simp only [hk, Value.formed, hu, Bool.true_and]
  have hs : (cs.toArray.size == P.cellsOf kt) = true := by rw [hc]; simp [hlen]
  simp only [hs, if_true, Value.cells]
  rw [hlits]
  exact ⟨_, rfl⟩
section
variable {P : Program} {o : Oper} {ρ : Operand → Option D} {α : Type} [DecidableEq α] {key : α → D}
/-- Two such structs compared. -/
theorem s_eqW {t t' : TypeId} {x y : Operand} {ne : Bool} {vk : α → Value} {a b : α} (ho : o.op = .binOp (if ne then .neq else .eql) t x y t') (hK : KeyOk P t key vk (fun v => ∃ l, keyOf P t v = some l)) (hm : P.types.size + 1 ≤ 10000) (hk : P.keyType t = true) (hg : P.eqGuardType P.depth t = false)
    (hwide : (match P.underlying t with | some (.array _ _) | some (.struct _) => true | _ => false) = true) (hagg : ∀ c, ∃ cs, vk c = .agg cs) (hx : ρ x = some (key a)) (hy : ρ y = some (key b)) (L : WideMaps.KeyLaw P t) : StepD P o ρ (.bool (if ne then !decide (a = b) else decide (a = b))) := stepD_of fun p act w h => by
  have h1 := h x (by rw [ho]; simp [Op.operands]) _ hx
  have h2 := h y (by rw [ho]; simp [Op.operands]) _ hy
  obtain ⟨lx, e1⟩ := hK.good _ _ _ _ h1
  obtain ⟨ly, e2⟩ := hK.good _ _ _ _ h2
  have v1 := hK.rep _ _ _ _ h1
  have v2 := hK.rep _ _ _ _ h2
  obtain ⟨r, hr, hiff⟩ := run_equal_deep w hm hk hwide e1 e2
  have hab : r = decide (a = b) := by
    rw [Bool.eq_iff_iff, hiff, decide_eq_true_eq]
    constructor
    · intro e
      exact hK.inj _ _ (by rw [← v1, ← v2]; exact L.inj (l := lx) e1 (by rw [e2, e]))
    · intro e
      subst e
      rw [v1] at e1
      rw [v2, e1] at e2
      exact Option.some.inj e2
  obtain ⟨c1, k1⟩ := hagg a
  obtain ⟨c2, k2⟩ := hagg b
  refine ⟨.bool (if ne then !decide (a = b) else decide (a = b)), ?_, by simp only [Rep]⟩
  unfold execOp
  rw [ho]
  rw [v1, v2, k1, k2] at hr
  subst hab
  cases ne with
  | true => simp [v1, v2, k1, k2, binOp, eqGuard, hg, hr]
  | false => simp [v1, v2, k1, k2, binOp, eqGuard, hg, hr]
end
/-- All that is wanted of a struct of flat parts. -/
structure WideT (P : Program) (t : TypeId) {α : Type} (key : α → D) (vk : α → Value) : Prop where
  ok : KeyOk P t key vk (fun v => ∃ l, keyOf P t v = some l)
  small : P.types.size + 1 ≤ 10000
  kt : P.keyType t = true
  guard : P.eqGuardType P.depth t = false
  wide : (match P.underlying t with | some (.array _ _) | some (.struct _) => true | _ => false) = true
  agg : ∀ c, ∃ cs, vk c = .agg cs
  law : WideMaps.KeyLaw P t
theorem WideT.mk' {P : Program} {t : TypeId} {α : Type} {key : α → D} {vk : α → Value} {fs : Array Field} (ds : α → List D) (hl : laidOutB P = true) (hu : P.underlying t = some (.struct fs)) (hk : P.keyType t = true) (hc : P.cellsOf t = fs.size) (hm : decide (P.types.size + 2 ≤ 10000) = true) (hrow : decide (t < P.types.size) = true) (hg : P.eqGuardType P.depth t = false)
    (hkey : ∀ a, key a = .agg (ds a)) (hf : ∀ a, flatF P 0 fs.toList (ds a) = true) (hv : ∀ a, vk a = .agg ((ds a).map flatV).toArray) (hi : ∀ a b, vk a = vk b → a = b) : WideT P t key vk := by
  have hw : (match P.underlying t with | some (.array _ _) | some (.struct _) => true | _ => false) = true := by rw [hu]
  have hm' := of_decide_eq_true hm
  have hr' := of_decide_eq_true hrow
  refine ⟨keyWide hl hm' hr' hk hw (fun p w a v h => ?_) (fun p w a v h => ?_) hi, by omega, hk, hg, hw, fun c => ⟨_, hv c⟩, deep_law_gate hl hm' hr' hk hw⟩
  · rw [hkey] at h
    rw [hv]
    exact (flat_key hu hk hc (Nat.lt_of_le_of_lt (Nat.zero_le _) hr') (hf a) h).1
  · rw [hkey] at h
    exact (flat_key hu hk hc (Nat.lt_of_le_of_lt (Nat.zero_le _) hr') (hf a) h).2
theorem s_eqT {P : Program} {o : Oper} {ρ : Operand → Option D} {α : Type} [DecidableEq α] {key : α → D} {t t' : TypeId} {x y : Operand} {vk : α → Value} {a b : α} (ho : o.op = .binOp .eql t x y t') (hW : WideT P t key vk) (hx : ρ x = some (key a)) (hy : ρ y = some (key b)) : StepD P o ρ (.bool (decide (a = b))) :=
  s_eqW (ne := false) ho hW.ok hW.small hW.kt hW.guard hW.wide hW.agg hx hy hW.law
end Go.Proofs.Ytgndcnknmkcacaa


namespace Go.Proofs.Ytgndcnknmkcacaa
set_option maxRecDepth 100000
open Go.RowKit

theorem fill_congr {place place' : Nat → Option (Nat × Nat)} : ∀ (parts : List (Nat × Value)) (cs : Array Value), (∀ x ∈ parts, place x.1 = place' x.1) → Instr.fill place cs parts = Instr.fill place' cs parts
  | [], cs, _ => rfl
  | (i, v) :: rest, cs, h => by
    have h1 := h (i, v) (List.mem_cons_self ..)
    simp only at h1
    simp only [Instr.fill, h1]
    cases place' i with
    | none => rfl
    | some q =>
      obtain ⟨off, size⟩ := q
      simp only
      split
      · rfl
      · exact fill_congr rest _ fun x hx => h x (List.mem_cons_of_mem _ hx)
/-- An array's zero value: n empty lists. -/
structure ArrT (P : Program) (t e : TypeId) (n : Nat) : Prop where
  und : P.underlying t = some (.array n e)
  zero : (P.info? t).map (·.zero) = some (some (.agg (List.replicate n (.slice none 0 0)).toArray))
  size : (P.info? e).map (·.size) = some 1
theorem szs_rep : ∀ (n : Nat), szs (List.replicate n (D.lst [])) = n
  | 0 => rfl
  | n + 1 => by rw [List.replicate_succ, szs, szs_rep n]; simp [sz]; omega
theorem zcs_rep1 : ∀ (n : Nat), zcs (List.replicate n (D.lst [])) = List.replicate n (.slice none 0 0)
  | 0 => rfl
  | n + 1 => by rw [List.replicate_succ, zcs, zcs_rep1 n]; rfl
theorem zoks_rep1 : ∀ (n : Nat), zoks (List.replicate n (D.lst [])) = true
  | 0 => rfl
  | n + 1 => by rw [List.replicate_succ, zoks, zoks_rep1 n]; rfl
section
variable {P : Program} {o : Oper} {ρ : Operand → Option D}
theorem s_buildA {t e : TypeId} {n : Nat} {parts : Array (Nat × Operand)} {zs' : List D} {pd : List (Nat × D)} (ho : o.op = .build t parts) (hT : ArrT P t e n) (hidx : (parts.toList.all fun q => decide (q.1 < n)) = true) (hp : Pts ρ parts.toList pd) (hF : Fill (List.replicate n (.lst [])) pd zs') : StepD P o ρ (.agg zs') := stepD_of fun p a w h => by
  obtain ⟨hu, hz, hs⟩ := hT
  obtain ⟨it, h1, h2⟩ := Option.map_eq_some_iff.1 hz
  obtain ⟨ie, h3, h4⟩ := Option.map_eq_some_iff.1 hs
  obtain ⟨g1, g2⟩ := zcs_rep p w (List.replicate n (D.lst [])) (zoks_rep1 n)
  obtain ⟨q1, q2⟩ := parts_rep (p := p) (w := w) (a := a) hp fun x hx => h x (by rw [ho]; simpa [Op.operands] using hx)
  have hpl : ∀ i z, (List.replicate n (D.lst []))[i]? = some z → (fun i => if i < n then some (i * 1, 1) else none) i = some (szs ((List.replicate n (D.lst [])).take i), sz z) := fun i z hz => by
    obtain ⟨hi, rfl⟩ := List.getElem?_eq_some_iff.1 hz
    simp only [List.length_replicate] at hi
    simp only [if_pos hi, List.take_replicate, szs_rep, List.getElem_replicate, sz]
    congr 2
    omega
  obtain ⟨cs', r1, r2, r3⟩ := fill_rep (p := p) (w := w) (fun i => if i < n then some (i * 1, 1) else none) hF g1 g2 hpl (fun i off m hh => by
    by_cases hi : i < n
    · have hh : (if i < n then some (i * 1, 1) else none) = some (off, m) := hh
      rw [if_pos hi] at hh
      injection hh with hh
      injection hh with e1 e2
      have := lay_at (List.replicate n (D.lst [])) 0 i (.lst []) (by rw [List.getElem?_replicate, if_pos hi])
      rw [this, List.take_replicate, szs_rep, ← e1, ← e2]
      simp only [sz]
      congr 2
      omega
    · have hh : (if i < n then some (i * 1, 1) else none) = some (off, m) := hh
      rw [if_neg hi] at hh
      cases hh) q1 q2
  refine ⟨.agg cs'.toArray, ?_, by simp only [Rep]; exact ⟨cs', rfl, r2, r3⟩⟩
  unfold execOp
  rw [ho]
  have hb : P.built t (parts.map fun (i, x) => (i, a.eval x)).toList = some cs'.toArray := by
    unfold Program.built
    simp only [h1, hu, h2, Value.cells, h3, h4]
    rw [← r1, zcs_rep1]
    refine Eq.trans (fill_congr (place' := fun i => if i < n then some (i * 1, 1) else none) _ _ fun x hx => ?_) ?_
    · obtain ⟨q, hq, rfl⟩ := List.mem_map.1 (by simpa using hx : x ∈ parts.toList.map fun q => (q.1, a.eval q.2))
      have := List.all_eq_true.1 hidx q hq
      rw [if_pos (of_decide_eq_true this)]
    · congr 1
      simp
  simp [run_build w t _ _ hb]
theorem reps_list1 {p : Addr → Prop} {w : World} : ∀ {ds : List D} {cs : List Value} {i : Nat} {l : List D}, Reps p w ds cs → (∀ d ∈ ds, ∃ l, d = .lst l) → ds[i]? = some (.lst l) → ∃ v, cs[i]? = some v ∧ Rep p w (.lst l) v
  | [], _, _, _, _, _, h => by simp at h
  | d :: ds, cs, i, l, h, ha, hi => by
    simp only [Reps] at h
    obtain ⟨v, rest, rfl, h1, h2⟩ := h
    obtain ⟨l0, rfl⟩ := ha d (List.mem_cons_self ..)
    have hv := h1
    simp only [Rep] at h1
    obtain ⟨A, c, xs, rfl, _⟩ := h1
    cases i with
    | zero =>
      simp at hi
      subst hi
      exact ⟨_, by simp [Value.cells], hv⟩
    | succ i =>
      obtain ⟨v, g1, g2⟩ := reps_list1 (i := i) h2 (fun d hd => ha d (List.mem_cons_of_mem _ hd)) (by simpa using hi)
      exact ⟨v, by simpa [Value.cells] using g1, g2⟩
theorem m_indexA {α : Type} {f : α → List D} {t e : TypeId} {x ix : Operand} {n : Nat} {k : IntKind} {m : Int} {q : α} (l : List α) (ho : o.op = .index t x ix) (hT : ArrT P t e n) (hE : Ty P e false 1) (hx : ρ x = some (.agg (l.map fun a => .lst (f a)))) (hl : l.length = n) (hix : ρ ix = some (.int k m)) (hq : getI l m = some q) : StepD P o ρ (.lst (f q)) := stepD_of fun p a w h => by
  have h1 := h x (by rw [ho]; simp [Op.operands]) _ hx
  have h2 := h ix (by rw [ho]; simp [Op.operands]) _ hix
  simp only [Rep] at h1 h2
  obtain ⟨cs, hv, hr, _⟩ := h1
  obtain ⟨hm0, hm1⟩ := getI_some hq
  obtain ⟨v, g1, g2⟩ := reps_list1 (i := m.toNat) (l := f q) hr (fun d hd => by obtain ⟨b, _, rfl⟩ := List.mem_map.1 hd; exact ⟨_, rfl⟩) (by rw [List.getElem?_map, hm1]; rfl)
  have hlt : m.toNat < l.length := (List.getElem?_eq_some_iff.1 hm1).1
  refine ⟨v, ?_, g2⟩
  unfold execOp
  rw [ho]
  have hb : 0 ≤ m ∧ m < (n : Int) := by omega
  simp [hv, h2.1, Instr.index, asIntOf, run_underlying hT.und, hb, run_sizeOf hE, part, run_isAgg hE, g1]
end
end Go.Proofs.Ytgndcnknmkcacaa


namespace Go.Proofs.Ytgndcnknmkcacaa
set_option maxRecDepth 100000
open Go.RowKit

def caughtV (r : Int ⊕ Unit) : Int := match r with
  | .inl c => c
  | .inr _ => 0
theorem cell_laid {w : World} {B : Nat} {cs : Array Value} {t : TypeId} (h : w.heap[B]? = some (.cells cs t (0, 0))) (j : Nat) : w.cell? ⟨B, j, none⟩ = cs[j]? := by
  simp [World.cell?, h]
theorem frozen_laid {w : World} {B : Nat} {cs : Array Value} {t : TypeId} (h : w.heap[B]? = some (.cells cs t (0, 0))) (j : Nat) : w.frozen? ⟨B, j, none⟩ = false := by
  simp [World.frozen?, h]
theorem inv_set {K : Ctx} {p : Addr → Prop} {w : World} (h : Inv K p [] w) {b : Nat} (hb : K.w0.heap.size ≤ b) (hp : ∀ a, p a → a.block ≠ b) (u : Value) : Inv K p [] (w.setCell ⟨b, 0, none⟩ u) := by
  have hc : ∀ a, p a → (w.setCell ⟨b, 0, none⟩ u).cell? a = w.cell? a := fun a ha => World.cell?_of_block (heap_setCell_other w _ _ _ (hp a ha))
  refine ⟨fun o ho => (by cases ho), h.nd, h.mine, fun a ha => ?_, h.gr.tr fun a ha => ⟨ha, hc a ha⟩, h.neu, h.os, h.tape, h.output, by simpa using h.size, fun k hk hF => (heap_setCell_other w ⟨b, 0, none⟩ k u (by simp only [ne_eq]; omega)).trans (h.block k hk hF)⟩
  obtain ⟨v, hv⟩ := h.pub a ha
  exact ⟨v, (hc a ha).trans hv⟩
set_option maxHeartbeats 2000000 in
theorem caught_in (b : Nat) (x c : Int) (ty : TypeId) (w : World) (hh : w.heap[b]? = some (.cells #[.int .i64 x] ty (0, 0))) :
    CallsD Try.prog 55 #[.pointer (some ⟨b, 0, none⟩)] (.panicking [{ v := .iface 83 (.agg #[.int .i64 c]), recovered := false }]) w fun e u' w' =>
      e = .returned (.tuple #[]) ∧ u' = .panicking [{ v := .iface 83 (.agg #[.int .i64 c]), recovered := true }] ∧ w' = (w.alloc (.cells #[.int .i64 c] 83)).setCell ⟨b, 0, none⟩ (.int .i64 c) := by
  refine callsD_of_wpS Try.func55 rfl fun c₀ cs hu => ?_
  apply wpS_seq
  apply wpS_region
  simp [wpOpsS, go_sem, recoverD, hu, Try.ntmps55, Exit.thenS]
  refine wpS_of_wp ?_
  have hmi : ∀ (w : World), (Op.equal 20 (.iface 83 (.agg #[.int .i64 c])) .nilIface).run Try.prog w = .ok false w := fun _ => rfl
  have hta : ∀ (w : World), (Instr.typeAssert (.iface 83 (.agg #[.int .i64 c])) 20 83 true).run Try.prog w = .ok (.tuple #[.agg #[.int .i64 c], .bool true]) w := fun w => by
    kernel_rfl
  have h2 := (Below.heap_alloc w (.cells #[.int .i64 c] 83) b (Array.getElem?_eq_some_iff.1 hh).1).trans hh
  have hc2 := cell_laid h2 0
  have hz2 := frozen_laid h2 0
  clear hh h2
  go_wp2
  simp [bodyPostS, results, Try.results55]
theorem caught_idle (b : Nat) (w : World) :
    CallsD Try.prog 55 #[.pointer (some ⟨b, 0, none⟩)] .returning w fun e u' w' => e = .returned (.tuple #[]) ∧ u' = .returning ∧ w' = w := by
  refine callsD_of_wpS Try.func55 rfl fun c₀ cs hu => ?_
  apply wpS_seq
  apply wpS_region
  simp [wpOpsS, go_sem, recoverD, hu, Try.ntmps55, Exit.thenS]
  refine wpS_of_wp ?_
  go_wp2
  cases c₀
  simp_all [bodyPostS, results, Try.results55]
theorem caught_gives {g : FuncId} {fs cs all : List D} {res : Int ⊕ Unit} (hall : fs ++ cs = all) (hg : callee Try.prog g) (h : SpecX Try.prog g all [] (fun d _ => ∃ r : Unit, res = .inr r ∧ d = .tup []) (fun d => ∃ c, res = .inl c ∧ d = .ifc 83 (.agg [.int .i64 c]))) :
    Gives Try.prog 24 [.clo (.func g) fs cs] (.int .i64 (caughtV res)) := fun w p vs hi hv => by
  simp only [Repl, Rep] at hv
  obtain ⟨v, rest, rfl, ⟨fv, cv, rfl, h2, h3⟩, rfl⟩ := hv
  have hmf : ∀ (fn : Fn) (first cap : Array Value) (w : World), (Instr.makeFunc fn first cap).run Try.prog w = .ok (.func fn first cap) w := fun _ _ _ _ => rfl
  go_enter_defers Try.func24, Try.ntmps24
  go_wp2
  rw [run_callFunc hg, Oper.upon_enter]
  have hi1 := hi.alloc (.cells #[.int .i64 0] 27)
  have g1 := grow_alloc hi.pub (.cells #[.int .i64 0] 27)
  have hall' : Repl p (w.alloc (.cells #[.int .i64 0] 27)) all (fv ++ cv) := by
    rw [← hall]
    exact (h2.app h3).grow g1
  refine (h _ p (fv ++ cv) (Inv.enter (σ := []) (τ := []) hi1) hall').mono fun e w2 hl => ?_
  rcases hl with ⟨v, d, σ2, q, rfl, ⟨r, rfl, rfl⟩, hv, hi2⟩ | ⟨v, d, σ2, q, rfl, ⟨c, rfl, rfl⟩, hv, hi2⟩
  · have hb := (hi2.block w.heap.size (by simp [ctxX, ctx]) (by simp [ctxX, ctx, blks])).trans (heap_alloc_new w _)
    have hc := cell_laid hb 0
    have hz := frozen_laid hb 0
    have hi3 := (hi.alloc (.cells #[.int .i64 0] 27)).leave (σ := []) (hi2.of (by rfl) (by rfl) (by rfl))
    have hq : ∀ a, q a → a.block ≠ w.heap.size := fun a ha e => by
      rcases hi2.neu a ha with h' | h' | h'
      · obtain ⟨u, hu⟩ := hi.pub a h'
        have := cell_lt hu
        omega
      · simp [ctxX, ctx, e] at h'
        omega
      · simp [ctxX, ctx, blks] at h'
    have hi4 := inv_set (Inv.less (σ := []) hi3) (b := w.heap.size) (by simp [ctx]) hq (.int .i64 0)
    dsimp only
    go_wp2
    refine leaves_cons (f := 55) (args := #[.pointer (some ⟨w.heap.size, 0, none⟩)]) (by simp) (by simp [go_sem]) ?_
    refine (caught_idle _ _).mono ?_
    rintro e u' w3 ⟨rfl, rfl, rfl⟩
    have hb5 := heap_setCell_same w2 w.heap.size 0 _ _ (.int .i64 0) hb
    have hc5 := cell_laid hb5 0
    have hz5 := frozen_laid hb5 0
    refine ⟨.int .i64 0, ?_, ?_⟩
    · simp at hc5
      simp [results, Try.results24, go_sem, hc5, hz5]
      trace_state
    · exact .inl ⟨_, _, _, _, rfl, rfl, by simp [Rep, caughtV]; rfl, hi4⟩
  · have hb := (hi2.block w.heap.size (by simp [ctxX, ctx]) (by simp [ctxX, ctx, blks])).trans (heap_alloc_new w _)
    have hc := cell_laid hb 0
    have hz := frozen_laid hb 0
    have hi3 := (hi.alloc (.cells #[.int .i64 0] 27)).leave (σ := []) (hi2.of (by rfl) (by rfl) (by rfl))
    have hq : ∀ a, q a → a.block ≠ w.heap.size := fun a ha e => by
      rcases hi2.neu a ha with h' | h' | h'
      · obtain ⟨u, hu⟩ := hi.pub a h'
        have := cell_lt hu
        omega
      · simp [ctxX, ctx, e] at h'
        omega
      · simp [ctxX, ctx, blks] at h'
    obtain ⟨v', rfl, xs, rfl, ⟨x, r, rfl, ⟨rfl, hwr⟩, rfl⟩, _⟩ := hv
    dsimp only
    go_wp2
    refine leaves_cons (f := 55) (args := #[.pointer (some ⟨w.heap.size, 0, none⟩)]) (by simp) (by simp [go_sem]) ?_
    refine (caught_in w.heap.size 0 c _ w2 hb).mono ?_
    rintro e u' w3 ⟨rfl, rfl, rfl⟩
    have hi4 := inv_set ((Inv.less (σ := []) hi3).alloc (.cells #[.int .i64 c] 83)) (b := w.heap.size) (by simp [ctx]) hq (.int .i64 c)
    have hb4 := (Below.heap_alloc w2 (.cells #[.int .i64 c] 83) w.heap.size (Array.getElem?_eq_some_iff.1 hb).1).trans hb
    have hb5 := heap_setCell_same _ w.heap.size 0 _ _ (.int .i64 c) hb4
    have hc5 := cell_laid hb5 0
    have hz5 := frozen_laid hb5 0
    refine ⟨.int .i64 c, ?_, ?_⟩
    · simp at hc5
      simp [results, Try.results24, go_sem, hc5, hz5]
      trace_state
    · exact .inl ⟨_, _, _, _, rfl, rfl, by simp [Rep, caughtV, hwr], hi4⟩
end Go.Proofs.Ytgndcnknmkcacaa

