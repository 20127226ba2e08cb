/-
  Texts of the seat, merged.
-/
import Derived.Test.YtnldggbcfcibaaaLGA
import Derived.Test.YtnldggbcfcibaaaLGB
import Derived.Test.YtnldggbcfcibaaaChecked
import Derived.WalkKit
import Derived.Lib.Hide
import Derived.Lib.AppendStr
import Derived.Deep.AppendLies
import Derived.Deep.AppendSrc
import Derived.Deep.Draws
import Derived.Deep.QuietTactic
import Derived.BigQuiet
import Derived.Deep.RegionWith
import Derived.Maps.AppendAt
import Derived.WalkSpells
import Derived.Orders
import Derived.Deep.Slices
import Derived.Deep.Fields
import Derived.ChangeArms
import Derived.Lib.OthersKept
import Derived.Lib.TrimU
import Derived.Lib.IndexAny
import Derived.Deep.LoopGhost
import Derived.Lib.Bytealg
import Derived.RangeFuncBox
import Derived.RangeFuncNested
import Derived.RangeFuncBound
import Derived.RangeFuncCalls
import Derived.RangeFuncLeaves
import Derived.Shelf.Abstract
import Derived.OwnWalkIn
import Derived.TacticsInMore
import Derived.LoopNIn
import Derived.LoopIn
import Derived.RangeFuncWrites
import Derived.Maps.OwnIn
import Derived.Maps.Views
import Derived.Laws.OwnMore
import Derived.Maps.OwnSet
import Derived.Test.YtnldggbcfcibaaaRows
import Derived.ProofKit
import Derived.OpenShut
import Derived.Carry
import Derived.OrdersIn
import Derived.Great.BuildSlice
import Derived.ArgAppend
import Derived.Laws.MakeOwn
import Derived.Laws.Cover3
import Derived.Laws.CopyRow
import Derived.MapKept
import Derived.Maps.RangeRun
import Derived.DeepKeys5
import Derived.WideKeyRuns
import Derived.RangeFuncOwn
set_option linter.unusedVariables false
set_option linter.unusedSimpArgs false
set_option linter.unnecessarySimpa false
set_option linter.all false

namespace Go.Proofs.Ytnldggbcfcibaaa
set_option maxRecDepth 100000
open Go.RowKit

open Classical in
/-- The first entry with a key. -/
noncomputable def firstAt (v : Value) : List MapEntry → Nat → Option (Nat × Value)
  | [], _ => none
  | e :: es, i => if e.key = v then some (i, e.val) else firstAt v es (i + 1)
/-- How keys show. -/
structure KeyOk (P : Program) (kt : TypeId) {α : Type} (key : α → D) (vk : α → Value) (d : Value → Prop) : Prop where
  rep : ∀ (p : Addr → Prop) (w : World) (a : α) (v : Value), Rep p w (key a) v → v = vk a
  good : ∀ (p : Addr → Prop) (w : World) (a : α) (v : Value), Rep p w (key a) v → d v
  inj : ∀ a b, vk a = vk b → a = b
  check : ∀ (w : World) (em : Bool) (v : Value), d v → (Instr.checkKey em 10000 kt v).run P w = .ok () w
  find : ∀ (w : World) (v : Value) (es : List MapEntry), d v → (∀ e ∈ es, d e.key) → (Instr.findKey kt v es).run P w = .ok (firstAt v es 0) w
  stays : ∀ (w : World) (v : Value), d v → (Instr.keyThatStays v v).run P w = .ok v w
theorem findNow_first {d : TypeDesc} {k : Value} (hk : MapKept.IsKey d k) : ∀ (es : List MapEntry) (i : Nat), (∀ e ∈ es, MapKept.IsKey d e.key) → Instr.findNow d k es i = some (firstAt k es i)
  | [], i, _ => rfl
  | e :: es, i, h => by
    obtain ⟨b, hb, hiff⟩ := MapKept.sameNow_of_keys hk (h e (List.mem_cons_self ..))
    simp only [Instr.findNow, hb, firstAt]
    cases b with
    | true => rw [if_pos (hiff.1 rfl).symm]
    | false =>
      rw [if_neg fun e => by have := hiff.2 e.symm; cases this]
      exact findNow_first hk es (i + 1) fun x hx => h x (List.mem_cons_of_mem _ hx)
theorem keyOf_desc {P : Program} {kt : TypeId} {d : TypeDesc} {α : Type} {key : α → D} {vk : α → Value} (h : P.underlying kt = some d) (h1 : ∀ (p : Addr → Prop) (w : World) (a : α) (v : Value), Rep p w (key a) v → v = vk a) (h2 : ∀ a, MapKept.IsKey d (vk a)) (h3 : ∀ a b, vk a = vk b → a = b) : KeyOk P kt key vk (MapKept.IsKey d) :=
  ⟨h1, fun p w a v hv => by rw [h1 p w a v hv]; exact h2 a, h3, fun w em v hv => MapKept.run_checkKey h hv em 9999, fun w v es hv he => MapKept.run_findKey h (findNow_first hv es 0 he), fun w v hv => MapKept.run_keyThatStays hv⟩
theorem keyInt {P : Program} {kt : TypeId} {k : IntKind} (h : P.underlying kt = some (.int k)) : KeyOk P kt (fun n : Int => D.int k n) (fun n => .int k n) (MapKept.IsKey (.int k)) :=
  keyOf_desc h (fun p w a v hv => by simp only [Rep] at hv; exact hv.1) (fun a => rfl) fun a b e => by injection e
theorem keys_good {α : Type} {P : Program} {kt : TypeId} {key : α → D} {vk : α → Value} {d : Value → Prop} (hK : KeyOk P kt key vk d) {p : Addr → Prop} {w : World} : ∀ {l : List (α × D)} {es : List MapEntry}, RepKV p w (l.map fun q => (key q.1, q.2)) es → ∀ e ∈ es, d e.key
  | [], es, h, e, he => by
    simp only [List.map_nil, RepKV] at h
    subst h
    cases he
  | r :: l, es, h, e, he => by
    simp only [List.map_cons, RepKV] at h
    obtain ⟨e0, rest, rfl, h1, h2, h3⟩ := h
    rcases List.mem_cons.1 he with rfl | he
    · exact hK.good _ _ _ _ h1
    · exact keys_good hK h3 e he
section
variable {α : Type} [DecidableEq α]
abbrev MapD (key : α → D) (l : List (α × D)) : List (D × D) := l.map fun q => (key q.1, q.2)
def findA : List (α × D) → α → Option D
  | [], _ => none
  | q :: l, x => if q.1 = x then some q.2 else findA l x
def putA : List (α × D) → α → D → List (α × D)
  | [], x, d => [(x, d)]
  | q :: l, x, d => if q.1 = x then (x, d) :: l else q :: putA l x d
theorem putA_len : ∀ (l : List (α × D)) (x : α) (d : D), (putA l x d).length ≤ l.length + 1
  | [], x, d => by simp [putA]
  | q :: l, x, d => by
    unfold putA
    split
    · simp
    · have := putA_len l x d
      simp only [List.length_cons]
      omega
theorem find_spec {P : Program} {kt : TypeId} {key : α → D} {vk : α → Value} {d : Value → Prop} (hK : KeyOk P kt key vk d) (p : Addr → Prop) (w : World) (x : α) (dd : D) : ∀ (l : List (α × D)) (es : List MapEntry) (i : Nat), RepKV p w (MapD key l) es →
    (firstAt (vk x) es i = none ∧ findA l x = none ∧ putA l x dd = l ++ [(x, dd)]) ∨
    ∃ j e dv, firstAt (vk x) es i = some (i + j, e.val) ∧ es[j]? = some e ∧ e.key = vk x ∧ findA l x = some dv ∧ Rep p w dv e.val ∧ ∀ (q : Addr → Prop) (u : World) (e' : MapEntry), Grow p w q u → Rep q u (key x) e'.key → Rep q u dd e'.val → RepKV q u (MapD key (putA l x dd)) (es.set j e')
  | [], es, i, h => by
    simp only [MapD, List.map_nil, RepKV] at h
    subst h
    exact .inl ⟨rfl, rfl, rfl⟩
  | r :: l, es, i, h => by
    simp only [MapD, List.map_cons, RepKV] at h
    obtain ⟨e, rest, rfl, h1, h2, h3⟩ := h
    have hk := hK.rep _ _ _ _ h1
    by_cases hx : r.1 = x
    · refine .inr ⟨0, e, r.2, by simp [firstAt, hk, hx], rfl, by rw [hk, hx], by simp [findA, hx], h2, fun q u e' g q1 q2 => ?_⟩
      simp only [putA, if_pos hx, MapD, List.map_cons, RepKV, List.set_cons_zero]
      exact ⟨e', rest, rfl, q1, q2, h3.grow g⟩
    · have hne : e.key ≠ vk x := fun e' => hx (hK.inj _ _ (by rw [← hk]; exact e'))
      rcases find_spec hK p w x dd l rest (i + 1) h3 with ⟨q1, q2, q3⟩ | ⟨j, e2, dv, q1, q2, q3, q4, q5, q6⟩
      · exact .inl ⟨by simp [firstAt, hne, q1], by simp [findA, hx, q2], by simp [putA, hx, q3]⟩
      · refine .inr ⟨j + 1, e2, dv, by simp [firstAt, hne, q1]; omega, by simpa using q2, q3, by simp [findA, hx, q4], q5, fun q u e' g r1 r2 => ?_⟩
        simp only [putA, if_neg hx, MapD, List.map_cons, RepKV, List.set_cons_succ]
        exact ⟨e, _, rfl, h1.grow g, h2.grow g, q6 q u e' g r1 r2⟩
theorem repKV_app {p : Addr → Prop} {w : World} : ∀ {l m : List (D × D)} {es fs : List MapEntry}, RepKV p w l es → RepKV p w m fs → RepKV p w (l ++ m) (es ++ fs)
  | [], m, es, fs, h, k => by simp only [RepKV] at h; subst h; simpa using k
  | r :: l, m, es, fs, h, k => by
    obtain ⟨a, b⟩ := r
    simp only [RepKV] at h
    obtain ⟨e, rest, rfl, h1, h2, h3⟩ := h
    simp only [List.cons_append, RepKV]
    exact ⟨e, _, rfl, h1, h2, repKV_app h3 k⟩

variable {P : Program} {o : Oper} {ρ : Operand → Option D}
theorem s_makeMap {t : TypeId} {σ : St} (ho : o.op = .makeMap t none) : StepS P o ρ σ fun d' σ' => ∃ r, d' = .map r ∧ σ' = .map r [] :: σ := fun K p a w hi h => by
  have hr : (execOp a.eval o).run P w = .ok (.value (.map (some w.heap.size))) (w.alloc (.map #[] 0)) := by
    unfold execOp
    rw [ho]
    simp [Instr.makeMap]
  unfold Oper.wp
  rw [hr]
  refine ⟨_, .map w.heap.size, _, p, rfl, ⟨w.heap.size, rfl, rfl⟩, by simp only [Rep], ?_, grow_alloc hi.pub _⟩
  refine (hi.alloc _).more ⟨#[], 0, heap_alloc_new w _, by simp only [RepKV], by simp, by simp, by simp⟩ fun b hb => ?_
  simp only [Ob.blk, Option.some.injEq] at hb
  subst hb
  exact ⟨.inl hi.size, fun hm => by have := hi.lt hm; omega⟩
theorem s_lookup2 {t kt e : TypeId} {x y : Operand} {key : α → D} {vk : α → Value} {d : Value → Prop} {r : Nat} {l : List (α × D)} {a0 : α} {z : D} {zv : Value} {σ : St} (ho : o.op = .lookup t x y true) (ht : P.underlying t = some (.map kt e)) (hK : KeyOk P kt key vk d) (hz : (P.info? e).map (·.zero) = some (some zv)) (hzr : ∀ p w, Rep p w z zv) (hx : ρ x = some (.map r)) (hy : ρ y = some (key a0)) (hσ : .map r (MapD key l) ∈ σ) :
    StepS P o ρ σ fun d' σ' => d' = .tup [(findA l a0).getD z, .bool (findA l a0).isSome] ∧ σ' = σ := fun K p a w hi h => by
  have h1 := h x (by rw [ho]; simp [Op.operands]) _ hx
  have h2 := hK.rep _ _ _ _ (h y (by rw [ho]; simp [Op.operands]) _ hy)
  have hgood : d (vk a0) := h2 ▸ hK.good _ _ _ _ (h y (by rw [ho]; simp [Op.operands]) _ hy)
  simp only [Rep] at h1
  obtain ⟨es, clock, g1, g2, _⟩ := hi.ok _ hσ
  obtain ⟨i, hi1, hi2⟩ := Option.map_eq_some_iff.1 hz
  have hc := hK.check w es.isEmpty (vk a0) hgood
  rcases find_spec hK p w a0 z l es.toList 0 g2 with ⟨q1, q2, _⟩ | ⟨j, e', dv, q1, q2, q3, q4, q5, _⟩
  · have hf := (hK.find w (vk a0) es.toList hgood (keys_good hK g2)).trans (by rw [q1])
    have hr : (execOp a.eval o).run P w = .ok (.value (.tuple #[zv, .bool false])) w := by
      unfold execOp
      rw [ho]
      simp [h1, h2, Instr.lookup, run_underlying ht, MapKept.run_getObj_map g1, hc, hf, zeroValue, typeInfo, hi1, hi2]
    unfold Oper.wp
    rw [hr]
    refine ⟨_, _, _, p, rfl, ⟨rfl, rfl⟩, ?_, hi, Grow.refl _ _⟩
    rw [q2]
    simp only [Rep, Repl, Option.getD_none, Option.isSome_none]
    exact ⟨[zv, .bool false], rfl, zv, _, rfl, hzr p w, .bool false, [], rfl, rfl, rfl⟩
  · have hf := (hK.find w (vk a0) es.toList hgood (keys_good hK g2)).trans (by rw [q1])
    have hr : (execOp a.eval o).run P w = .ok (.value (.tuple #[e'.val, .bool true])) w := by
      unfold execOp
      rw [ho]
      simp [h1, h2, Instr.lookup, run_underlying ht, MapKept.run_getObj_map g1, hc, hf]
    unfold Oper.wp
    rw [hr]
    refine ⟨_, _, _, p, rfl, ⟨rfl, rfl⟩, ?_, hi, Grow.refl _ _⟩
    rw [q4]
    simp only [Rep, Repl, Option.getD_some, Option.isSome_some]
    exact ⟨[e'.val, .bool true], rfl, e'.val, _, rfl, q5, .bool true, [], rfl, rfl, rfl⟩
theorem s_mapUpdate {t kt e : TypeId} {x y v : Operand} {key : α → D} {vk : α → Value} {d : Value → Prop} {r : Nat} {l : List (α × D)} {a0 : α} {dn dd : D} {σ : St} (τ : St) (ho : o.op = .mapUpdate t x y v) (ht : P.underlying t = some (.map kt e)) (hK : KeyOk P kt key vk d) (hx : ρ x = some (.map r)) (hy : ρ y = some (key a0)) (hv : ρ v = some dn) (hw : Wk dn dd) (hσ : σ.Perm (.map r (MapD key l) :: τ)) (hlen : l.length < 9223372036854775807) :
    StepS P o ρ σ fun _ σ' => σ' = .map r (MapD key (putA l a0 dd)) :: τ := fun K p a w hi h => by
  have h1 := h x (by rw [ho]; simp [Op.operands]) _ hx
  have hyr := h y (by rw [ho]; simp [Op.operands]) _ hy
  have h2 := hK.rep _ _ _ _ hyr
  have hgood : d (vk a0) := h2 ▸ hK.good _ _ _ _ hyr
  have h3 := hw _ _ _ (h v (by rw [ho]; simp [Op.operands]) _ hv)
  simp only [Rep] at h1
  have hi' := hi.perm hσ
  obtain ⟨es, clock, g1, g2, g3, gn, gl⟩ := hi'.ok _ (List.mem_cons_self ..)
  have hc := hK.check w false (vk a0) hgood
  have hlt : r < w.heap.size := (Array.getElem?_eq_some_iff.1 g1).1
  have fin : ∀ (es' : Array MapEntry) (clock' : Nat), (es'.toList.map (·.born)).Nodup → (∀ e ∈ es'.toList, e.born < clock') → (∀ (q : Addr → Prop) (u : World), Grow p w q u → RepKV q u (MapD key (putA l a0 dd)) es'.toList) →
      ∃ p', Inv K p' (.map r (MapD key (putA l a0 dd)) :: τ) { w with heap := w.heap.setIfInBounds r (.map es' clock') } ∧ Grow p w p' { w with heap := w.heap.setIfInBounds r (.map es' clock') } ∧ p' = p := fun es' clock' hn' hl' hr => by
    have hset := MapKept.heap_set (o' := .map es' clock') g1
    have hcell : ∀ a', p a' → ({ w with heap := w.heap.setIfInBounds r (.map es' clock') } : World).cell? a' = w.cell? a' := fun a' ha => cell_same (hset.2 _ (by
      intro e
      obtain ⟨u, hu⟩ := hi.pub a' ha
      unfold World.cell? at hu
      rw [e, g1] at hu
      cases hu))
    have gr : Grow p w p { w with heap := w.heap.setIfInBounds r (.map es' clock') } := fun a' ha => ⟨ha, hcell a' ha⟩
    refine ⟨p, hi'.write (b := r) rfl rfl gr (fun a' ha => .inl ha) ⟨es', clock', hset.1, hr _ _ gr, ?_, hn', hl'⟩ (fun a' ha => ?_) rfl rfl rfl (by simp) fun k hk => hset.2 k hk, gr, rfl⟩
    · have := putA_len l a0 dd
      simp only [List.length_map]
      omega
    · obtain ⟨u, hu⟩ := hi.pub a' ha
      exact ⟨u, by rw [hcell a' ha]; exact hu⟩
  rcases find_spec hK p w a0 dd l es.toList 0 g2 with ⟨q1, q2, q3⟩ | ⟨j, e', dv, q1, q2, q3, q4, q5, q6⟩
  · have hf := (hK.find w (vk a0) es.toList hgood (keys_good hK g2)).trans (by rw [q1])
    have hr : (execOp a.eval o).run P w = .ok .skip { w with heap := w.heap.setIfInBounds r (.map (es.push { key := vk a0, val := a.eval v, born := clock }) (clock + 1)) } := by
      unfold execOp
      rw [ho]
      simp [h1, h2, Instr.mapUpdate, run_underlying ht, MapKept.run_getObj_map g1, hc, hf, MapKept.run_setObj_map _ g1]
    unfold Oper.wp
    rw [hr]
    obtain ⟨p', f1, f2, rfl⟩ := fin (es.push { key := vk a0, val := a.eval v, born := clock }) (clock + 1) (by
      rw [Array.toList_push, List.map_append]
      refine List.nodup_append.2 ⟨gn, by simp, fun x hx y hy hxy => ?_⟩
      obtain ⟨e, he, rfl⟩ := List.mem_map.1 hx
      simp only [List.map_cons, List.map_nil, List.mem_singleton] at hy
      have := gl e he
      omega) (by
      intro e he
      rw [Array.toList_push] at he
      rcases List.mem_append.1 he with he | he
      · have := gl e he; omega
      · rw [List.mem_singleton.1 he]; exact Nat.lt_succ_self _) fun q u g => by
      rw [q3, Array.toList_push, MapD, List.map_append]
      refine repKV_app (g2.grow g) ?_
      simp only [List.map_cons, List.map_nil, RepKV]
      exact ⟨_, [], rfl, h2 ▸ hyr.grow g, h3.grow g, rfl⟩
    exact ⟨Go.undef, .undef, _, p', rfl, rfl, by simp only [Rep], f1, f2⟩
  · have hf := (hK.find w (vk a0) es.toList hgood (keys_good hK g2)).trans (by rw [q1])
    rw [Nat.zero_add] at hf
    have hks : (Instr.keyThatStays (((es[j]?).map (·.key)).getD (vk a0)) (vk a0)).run P w = .ok (vk a0) w := by
      have : es[j]? = some e' := by simpa using q2
      rw [this]
      simp only [Option.map_some, Option.getD_some, q3]
      exact hK.stays w _ hgood
    have hr : (execOp a.eval o).run P w = .ok .skip { w with heap := w.heap.setIfInBounds r (.map (es.modify j fun e => { e with key := vk a0, val := a.eval v }) clock) } := by
      unfold execOp
      rw [ho]
      simp [h1, h2, Instr.mapUpdate, run_underlying ht, MapKept.run_getObj_map g1, hc, hf, hks, MapKept.run_setObj_map _ g1]
    unfold Oper.wp
    rw [hr]
    have hm : (es.modify j fun e => { e with key := vk a0, val := a.eval v }).toList = es.toList.set j { e' with key := vk a0, val := a.eval v } := by
      apply List.ext_getElem?
      intro k
      rw [Array.getElem?_toList, Array.getElem?_modify, List.getElem?_set, Array.getElem?_toList]
      have hj := (List.getElem?_eq_some_iff.1 q2).1
      by_cases hjk : j = k
      · subst hjk
        rw [if_pos rfl, if_pos rfl, if_pos hj]
        have : es[j]? = some e' := by simpa using q2
        rw [this]; rfl
      · rw [if_neg hjk, if_neg hjk]
    have hb : (es.toList.set j { e' with key := vk a0, val := a.eval v }).map (·.born) = es.toList.map (·.born) := by
      apply List.ext_getElem?
      intro k
      rw [List.getElem?_map, List.getElem?_set, List.getElem?_map]
      have hj := (List.getElem?_eq_some_iff.1 q2).1
      by_cases hjk : j = k
      · subst hjk
        rw [if_pos rfl, if_pos hj, q2]
        rfl
      · rw [if_neg hjk]
    obtain ⟨p', f1, f2, rfl⟩ := fin (es.modify j fun e => { e with key := vk a0, val := a.eval v }) clock (by rw [hm, hb]; exact gn) (by
      intro e he
      have h5 : e.born ∈ es.toList.map (·.born) := by rw [← hb, ← hm]; exact List.mem_map_of_mem he
      obtain ⟨e2, h6, h7⟩ := List.mem_map.1 h5
      rw [← h7]
      exact gl e2 h6) fun q u g => by
      rw [hm]
      exact q6 q u _ g (h2 ▸ hyr.grow g) (h3.grow g)
    exact ⟨Go.undef, .undef, _, p', rfl, rfl, by simp only [Rep], f1, f2⟩
end
end Go.Proofs.Ytnldggbcfcibaaa


namespace Go.Proofs.Ytnldggbcfcibaaa
set_option maxRecDepth 100000
open Go.RowKit

abbrev wr (n : Int) : Int := IntKind.i64.wrap n
theorem wr_eq {n : Int} (h : -9223372036854775808 ≤ n ∧ n < 9223372036854775808) : wr n = n := wrap64 h
/-- An element, if there is one. -/
def getI {α : Type} (l : List α) (n : Int) : Option α := if 0 ≤ n then l[n.toNat]? else none
theorem getI_nat {α : Type} (l : List α) (i : Nat) : getI l (i : Int) = l[i]? := by simp [getI]
theorem getI_some {α : Type} {l : List α} {n : Int} {q : α} (h : getI l n = some q) : 0 ≤ n ∧ l[n.toNat]? = some q := by
  unfold getI at h
  split at h
  · exact ⟨by assumption, h⟩
  · cases h
/-- Two lists one behind the other, if that fits (b: the bytes of an element). -/
def appO {α : Type} (b : Nat) (l m : List α) : Option (List α) := if (l.length + m.length) * b ≤ 140737488355328 ∧ l.length + m.length ≤ 9223372036854775807 then some (l ++ m) else none
theorem appO_eq {α : Type} {b : Nat} {l m : List α} (h : (l.length + m.length) * b ≤ 140737488355328) (h2 : l.length + m.length ≤ 9223372036854775807) : appO b l m = some (l ++ m) := by rw [appO, if_pos ⟨h, h2⟩]
theorem appO_some {α : Type} {b : Nat} {l m r : List α} (h : appO b l m = some r) : (l.length + m.length) * b ≤ 140737488355328 ∧ l.length + m.length ≤ 9223372036854775807 ∧ r = l ++ m := by
  unfold appO at h
  split at h
  · rename_i h1
    exact ⟨h1.1, h1.2, (Option.some.inj h).symm⟩
  · cases h
/-- The length of a list to be made, if that fits. -/
def makeO (b : Nat) (n : Int) : Option Nat := if 0 ≤ n ∧ b * n.toNat ≤ 281474976710656 ∧ n.toNat ≤ 9223372036854775807 then some n.toNat else none
theorem makeO_some {b : Nat} {n : Int} {r : Nat} (h : makeO b n = some r) : n = (r : Int) ∧ b * r ≤ 281474976710656 ∧ r ≤ 9223372036854775807 := by
  unfold makeO at h
  split at h
  · rename_i h1
    obtain rfl := Option.some.inj h
    exact ⟨by omega, h1.2.1, h1.2.2⟩
  · cases h
theorem bindS {α β : Type} {o : Option α} {f : α → Option β} {r : β} (h : o.bind f = some r) : ∃ q, o = some q ∧ f q = some r := by
  cases o with
  | none => cases h
  | some q => exact ⟨q, rfl, h⟩
theorem exK {β γ : Type} (F : β → γ) {a : β} {r : γ} (h : F a = r) : ∃ k, k = a ∧ F k = r := ⟨a, rfl, h⟩
theorem listStep {α : Type} (l : List α) (i : Nat) (hi : i ≤ l.length) : (decide ((i : Int) < (l.length : Int)) = false ∧ l.drop i = [] ∧ i = l.length) ∨ ∃ q, decide ((i : Int) < (l.length : Int)) = true ∧ l.drop i = q :: l.drop (i + 1) ∧ getI l (i : Int) = some q ∧ i < l.length := by
  by_cases h : i < l.length
  · exact .inr ⟨l[i], decide_eq_true (by omega), List.drop_eq_getElem_cons h, by rw [getI_nat]; exact List.getElem?_eq_getElem h, h⟩
  · exact .inl ⟨decide_eq_false (by omega), List.drop_eq_nil_of_le (by omega), by omega⟩
theorem downStep (m : Nat) : (m = 0 ∧ decide ((m : Int) - 1 ≥ 0) = false) ∨ ∃ m', m = m' + 1 ∧ decide ((m : Int) - 1 ≥ 0) = true := by
  cases m with
  | zero => exact .inl ⟨rfl, by decide⟩
  | succ k => exact .inr ⟨k, rfl, decide_eq_true (by omega)⟩

section
variable {P : Program} {X : D → Prop} {l : List Oper} {rest : List (Nat × Cls)} {env : Env} {σ : St} {f : FuncId} {fn : Func} {K : Ctx} {R : D → St → Prop} {k : List Item}
theorem r_sB {m : Md} {α : Type} (s : Nat) {b : Bool} {x y : Option α} {res : α} (hs : lk env s = some (.bool b)) (hr : (bif b then x else y) = some res) (h1 : b = true → x = some res → Run P l.toArray X (GoesG m P f fn K R k) rest ((s, .bool true) :: env) σ) (h2 : b = false → y = some res → Run P l.toArray X (GoesG m P f fn K R k) rest ((s, .bool false) :: env) σ) : Run P l.toArray X (GoesG m P f fn K R k) rest env σ :=
  r_split s hs (fun h => h1 h (by rw [h] at hr; exact hr)) fun h => h2 h (by rw [h] at hr; exact hr)
theorem g_sB {m : Md} {α : Type} (s : Nat) {b : Bool} {x y : Option α} {res : α} (hs : lk env s = some (.bool b)) (hr : (bif b then x else y) = some res) (h1 : b = true → x = some res → GoesG m P f fn K R k ((s, .bool true) :: env) σ) (h2 : b = false → y = some res → GoesG m P f fn K R k ((s, .bool false) :: env) σ) : GoesG m P f fn K R k env σ :=
  g_split s hs (fun h => h1 h (by rw [h] at hr; exact hr)) fun h => h2 h (by rw [h] at hr; exact hr)
theorem g_blockJ {m : Md} {id : Nat} {c : Code} (J : Env → St → Prop) (hJ : ∀ env σ, J env σ → GoesG m P f fn K R k env σ) (h : (∀ env σ, J env σ → GoesG m P f fn K R k env σ) → GoesG m P f fn K R (.code c :: .inBlock id :: k) env σ) : GoesG m P f fn K R (.code (.block id c) :: k) env σ := g_block (h hJ)
end

theorem pf0 {α : Type} (l : List α) : l.Perm l := List.Perm.refl _
theorem pf1 {α : Type} (a b : α) (l : List α) : (a :: b :: l).Perm (b :: a :: l) := List.Perm.swap b a l
theorem pf2 {α : Type} (a b c : α) (l : List α) : (a :: b :: c :: l).Perm (c :: a :: b :: l) := ((pf1 b c l).cons a).trans (pf1 a c _)
theorem pf3 {α : Type} (a b c d : α) (l : List α) : (a :: b :: c :: d :: l).Perm (d :: a :: b :: c :: l) := ((pf2 b c d l).cons a).trans (pf1 a d _)
section
variable {P : Program} {o : Oper} {ρ : Operand → Option D} {d : D} {α : Type} {f : α → D}
theorem m_index {t e : TypeId} {x ix : Operand} {s by_ : Nat} {dx : D} (l : List α) {k : IntKind} {n : Int} {q : α} (ho : o.op = .indexAddr t x ix) (hE : ElT P t e s by_) (hx : ρ x = some dx) (hl : AsL dx (l.map f)) (hix : ρ ix = some (.int k n)) (hq : getI l n = some q) (hall : ∀ a, sz (f a) = s) (hp : (f q).plain = true) : StepD P o ρ (.ptr (f q)) := by
  obtain ⟨h0, h1⟩ := getI_some hq
  exact t_index n.toNat ho hE hx hl hix (by omega) (getm h1) (aszm hall) hp
theorem m_appOwn {x y : Operand} {t e : TypeId} {s by_ : Nat} {σ τ : St} {u : Value} (l m : List α) {r : List α} {dy : D} {n : Nat} (ho : o.op = .call { callee := .builtin .append, args := #[x, y], argTypes := #[t, t] }) (hE : ElT P t e s by_) (hx : ρ x = some (.own u (l.map f))) (hy : ρ y = some dy) (hm : AsL dy (m.map f)) (hσ : σ.Perm (.row u n e s :: τ)) (hn : n = l.length) (hall : ∀ a, sz (f a) = s) (hr : appO by_ l m = some r) :
    StepS P o ρ σ fun d' σ' => ∃ u', d' = .own u' (r.map f) ∧ σ' = .row u' r.length e s :: τ := by
  obtain ⟨h1, h2, rfl⟩ := appO_some hr
  have h := s_appOwn (P := P) (o := o) (ρ := ρ) (σ := σ) (τ := τ) (u := u) (l := l.map f) (m := m.map f) ho hE hx hy hm (by rw [List.length_map, ← hn]; exact hσ) (aszm hall) (aszm hall) (by simpa using h1) (by simpa using h2)
  rw [← List.map_append, List.length_map] at h
  exact h
theorem m_len {x : Operand} {t e : TypeId} {s by_ : Nat} {dx : D} (l : List α) (ho : o.op = .call { callee := .builtin .len, args := #[x], argTypes := #[t] }) (hE : ElT P t e s by_) (hx : ρ x = some dx) (hl : AsL dx (l.map f)) : StepD P o ρ (.int .i64 (l.length : Int)) := by
  have := t_len ho hE hx hl
  rwa [List.length_map] at this
theorem m_make0 {t e : TypeId} {x y : Operand} {s by_ : Nat} {k k' : IntKind} {a1 : Int} {r : Nat} {σ : St} (ho : o.op = .makeSlice t x y) (hE : ElT P t e s by_) (hx : ρ x = some (.int k 0)) (hy : ρ y = some (.int k' a1)) (hr : makeO by_ a1 = some r) :
    StepS P o ρ σ fun d' σ' => ∃ u, d' = .own u (([] : List α).map f) ∧ σ' = .row u ([] : List α).length e s :: σ := by
  obtain ⟨h1, h2, h3⟩ := makeO_some hr
  exact s_make0 ho hE hx hy h1 h2 h3
theorem m_lit {t e : TypeId} {n s by_ : Nat} {parts : Array (Nat × Operand)} (xs : List Operand) (l : List α) (ho : o.op = .buildSlice t n parts) (hE : ElT P t e s by_) (hps : parts.toList = (xs.zipIdx 0).map fun x => (x.2, x.1)) (hn : n = xs.length) (hn0 : 0 < n) (hsm : n * s ≤ 16777216) (hO : Opds ρ xs (l.map f)) (hall : ∀ a, sz (f a) = s) (hpl : ∀ a, (f a).plain = true) : StepD P o ρ (.full (l.map f)) :=
  t_lit xs ho hE hps hn hn0 hsm hO (aszm hall) fun d hd => by
    obtain ⟨a, _, rfl⟩ := List.mem_map.1 hd
    exact hpl a
end
end Go.Proofs.Ytnldggbcfcibaaa


namespace Go.Proofs.Ytnldggbcfcibaaa
set_option maxRecDepth 100000
open Go.RowKit

/-! ### maps as lists of pairs -/
section
variable {α β : Type} [DecidableEq α]
def mget : List (α × β) → α → Option β
  | [], _ => none
  | q :: l, x => if q.1 = x then some q.2 else mget l x
def mput : List (α × β) → α → β → List (α × β)
  | [], x, d => [(x, d)]
  | q :: l, x, d => if q.1 = x then (x, d) :: l else q :: mput l x d
theorem findA_map (g : β → D) : ∀ (l : List (α × β)) (x : α), findA (l.map fun q => (q.1, g q.2)) x = (mget l x).map g
  | [], _ => rfl
  | q :: l, x => by
    simp only [List.map_cons, findA, mget]
    split
    · rfl
    · exact findA_map g l x
theorem putA_map (g : β → D) : ∀ (l : List (α × β)) (x : α) (d : β), putA (l.map fun q => (q.1, g q.2)) x (g d) = (mput l x d).map fun q => (q.1, g q.2)
  | [], _, _ => rfl
  | q :: l, x, d => by
    simp only [List.map_cons, putA, mput]
    split
    · rfl
    · rw [putA_map g l x d]; rfl
theorem mget_mput : ∀ (l : List (α × β)) (x y : α) (d : β), mget (mput l x d) y = if x = y then some d else mget l y
  | [], x, y, d => by simp [mput, mget]
  | q :: l, x, y, d => by
    simp only [mput]
    split
    · rename_i h
      simp only [mget]
      split
      · rfl
      · rename_i h2; rw [if_neg (by rw [h]; exact h2)]
    · rename_i h
      simp only [mget, mget_mput l x y d]
      by_cases h1 : q.1 = y
      · rw [if_pos h1, if_neg (fun h2 => h (h1.trans h2.symm)), if_pos h1]
      · rw [if_neg h1, if_neg h1]
theorem mput_len : ∀ (l : List (α × β)) (x : α) (d : β), (mput l x d).length ≤ l.length + 1
  | [], _, _ => by simp [mput]
  | q :: l, x, d => by
    unfold mput
    split
    · simp
    · have := mput_len l x d
      simp only [List.length_cons]
      omega
end
abbrev mapM' {α β : Type} (key : α → D) (g : β → D) (l : List (α × β)) : List (D × D) := l.map fun q => (key q.1, g q.2)
theorem mapM_eq {α β : Type} (key : α → D) (g : β → D) (l : List (α × β)) : mapM' key g l = MapD key (l.map fun q => (q.1, g q.2)) := by simp [List.map_map, Function.comp_def]
/-- A map with one entry more or changed, if there is room. -/
def mputO {α β : Type} [DecidableEq α] (l : List (α × β)) (x : α) (d : β) : Option (List (α × β)) := if l.length < 9223372036854775807 then some (mput l x d) else none
theorem mputO_some {α β : Type} [DecidableEq α] {l r : List (α × β)} {x : α} {d : β} (h : mputO l x d = some r) : l.length < 9223372036854775807 ∧ r = mput l x d := by
  unfold mputO at h
  split at h
  · exact ⟨by assumption, (Option.some.inj h).symm⟩
  · cases h

def ZeroM (P : Program) (e : TypeId) (z : D) : Prop := ∃ zv, (P.info? e).map (·.zero) = some (some zv) ∧ ∀ p w, Rep p w z zv
section
variable {P : Program} {o : Oper} {ρ : Operand → Option D} {α β : Type} [DecidableEq α] {key : α → D} {g : β → D}
theorem m_lookup2 {t kt e : TypeId} {x y : Operand} {vk : α → Value} {d : Value → Prop} {r : Nat} (l : List (α × β)) (a0 : α) (z : β) {σ : St} (ho : o.op = .lookup t x y true) (ht : P.underlying t = some (.map kt e)) (hK : KeyOk P kt key vk d) (hz : ZeroM P e (g z)) (hx : ρ x = some (.map r)) (hy : ρ y = some (key a0)) (hσ : .map r (mapM' key g l) ∈ σ) :
    StepS P o ρ σ fun d' σ' => d' = .tup [g ((mget l a0).getD z), .bool (mget l a0).isSome] ∧ σ' = σ := by
  obtain ⟨zv, h1, h2⟩ := hz
  rw [mapM_eq] at hσ
  have := s_lookup2 ho ht hK h1 h2 hx hy hσ
  rw [findA_map, Option.isSome_map] at this
  have e1 : ((mget l a0).map g).getD (g z) = g ((mget l a0).getD z) := by cases mget l a0 <;> rfl
  rwa [e1] at this
theorem m_mapUpdate {t kt e : TypeId} {x y v : Operand} {vk : α → Value} {d : Value → Prop} {r : Nat} (l : List (α × β)) (a0 : α) (b0 : β) {l' : List (α × β)} {dn : D} {σ τ : St} (ho : o.op = .mapUpdate t x y v) (ht : P.underlying t = some (.map kt e)) (hK : KeyOk P kt key vk d) (hx : ρ x = some (.map r)) (hy : ρ y = some (key a0)) (hv : ρ v = some dn) (hw : Wk dn (g b0)) (hσ : σ.Perm (.map r (mapM' key g l) :: τ)) (hl : mputO l a0 b0 = some l') :
    StepS P o ρ σ fun _ σ' => σ' = .map r (mapM' key g l') :: τ := by
  obtain ⟨h1, rfl⟩ := mputO_some hl
  rw [mapM_eq] at hσ
  have := s_mapUpdate τ ho ht hK hx hy hv hw hσ (by rw [List.length_map]; exact h1)
  rwa [putA_map, ← mapM_eq] at this
end
theorem m_makeMap {P : Program} {o : Oper} {ρ : Operand → Option D} {α β : Type} {key : α → D} {g : β → D} {t : TypeId} {σ : St} (ho : o.op = .makeMap t none) : StepS P o ρ σ fun d' σ' => ∃ r, d' = .map r ∧ σ' = .map r (mapM' key g ([] : List (α × β))) :: σ := s_makeMap ho
/-! ### facts out of slots -/
section
variable {P : Program} {f : FuncId} {fn : Func} {K : Ctx} {R : D → St → Prop} {k : List Item} {env : Env} {σ : St}
theorem g_lenS {m : Md} (s : Nat) (path : List Nat) {d0 dx : D} {l : List D} (hs : lk env s = some d0) (hp : subD d0 path = some dx) (hl : AsL dx l) (h : l.length ≤ 9223372036854775807 → GoesG m P f fn K R k env σ) : GoesG m P f fn K R k env σ :=
  g_fact (fun p a w _ hr => by
    obtain ⟨v, h3, _⟩ := subD_rep (hr s _ hs) hp
    obtain ⟨A, c, xs, _, g2, g3, _⟩ := hl.rep h3
    omega) h
theorem g_eqD {m : Md} (s : Nat) {d d' : D} (hs : lk env s = some d) (hd : d = d') (h : GoesG m P f fn K R k ((s, d') :: env) σ) : GoesG m P f fn K R k env σ := by
  subst hd
  refine goes_ext _ env σ (fun t => ?_) h
  rw [look_cons]
  split
  · rename_i h; subst h; exact hs.symm
  · rfl
theorem g_nilRow {m : Md} (e : TypeId) (s : Nat) (h : GoesG m P f fn K R k env (.row (.slice none 0 0) ([] : List D).length e s :: σ)) : GoesG m P f fn K R k env σ := fun p a w hi =>
  h p a w (hi.more ⟨⟨[], World.ownsRow_nil w 0 e s⟩, fun g hg => by simp [Value.ownBlock] at hg⟩ (fun b hb => by simp [Ob.blk, Value.ownBlock] at hb))
theorem g_ends {m : Md} {E : Env} {S : St} (hs : Sub E env) (hp : σ.Perm S) (h : GoesG m P f fn K R k E S) : GoesG m P f fn K R k env σ := g_sub E hs (g_perm S [] (by simpa using hp) h)
theorem g_seqJ {m : Md} {a b : Code} (J : Env → St → Prop) (hJ : ∀ env σ, J env σ → GoesG m P f fn K R (.code b :: k) env σ) (h : (∀ env σ, J env σ → GoesG m P f fn K R (.code b :: k) env σ) → GoesG m P f fn K R (.code a :: .code b :: k) env σ) : GoesG m P f fn K R (.code (.seq a b) :: k) env σ := g_seq (h hJ)
theorem r_st {X : D → Prop} {Q : Env → St → Prop} {l : List Oper} {rest : List (Nat × Cls)} (σ' : St) (hs : σ = σ') (h : Run P l.toArray X Q rest env σ') : Run P l.toArray X Q rest env σ := hs ▸ h
end
/-- The number of rounds of a loop that counts down to 0. -/
def downO (n : Int) : Option Nat := if -1 ≤ n then some (n + 1).toNat else none
theorem downO_some {n : Int} {m : Nat} (h : downO n = some m) : n = (m : Int) - 1 := by
  unfold downO at h
  split at h
  · have := Option.some.inj h; omega
  · cases h
end Go.Proofs.Ytnldggbcfcibaaa


namespace Go.Proofs.Ytnldggbcfcibaaa
set_option maxRecDepth 100000
open Go.RowKit

section
variable {P : Program} {o : Oper} {ρ : Operand → Option D} {d : D}
theorem s_quoC {t t' : TypeId} {x y : Operand} {m n : Int} (ho : o.op = .binOp .quo t x y t') (hx : ρ x = some (.int .i64 m)) (hy : ρ y = some (.int .i64 n)) (hn : n ≠ 0) : StepD P o ρ (.int .i64 (wr (Int.tdiv m n))) := stepD_of fun p a w h => by
  have h1 := h x (by rw [ho]; simp [Op.operands]) _ hx
  have h2 := h y (by rw [ho]; simp [Op.operands]) _ hy
  simp only [Rep] at h1 h2
  refine ⟨.int .i64 (wr (Int.tdiv m n)), ?_, by simp only [Rep]; exact ⟨trivial, wrap_idem _ _⟩⟩
  unfold execOp
  rw [ho]
  simp only [h1.1, h2.1]
  simp [binOp, eqGuard, Op.intDiv, hn, wr]
end
end Go.Proofs.Ytnldggbcfcibaaa


namespace Go.Proofs.Ytnldggbcfcibaaa
set_option maxRecDepth 100000
open Go.RowKit

theorem ifS {α : Type} {c : Prop} [Decidable c] {a b : α} (h : (if c then some a else none) = some b) : c ∧ a = b := by
  split at h
  · exact ⟨by assumption, Option.some.inj h⟩
  · cases h
noncomputable def x_rightG (a : Gl) : Option (Bool) := if wtL a.ts ≤ 1000000000 then some (rightG a) else none

theorem x_rightG_eq (a : Gl) (h : wtL a.ts ≤ 1000000000) : x_rightG a = some (rightG a) := if_pos h

theorem lx_term_RightGoal (a : Gl) (res : Bool) (h : x_rightG a = some res) : Gives Try.prog 25 [encG a] (.bool res) := by
  obtain ⟨h1, rfl⟩ := ifS h
  exact sp_term_RightGoal 1000000000 (Nat.le_refl _) a h1

theorem lx_constraintref03_RightGoal (a : Gl) (res : Bool) (h : x_rightG a = some res) : Gives Try.prog 27 [encG a] (.bool res) := by
  obtain ⟨h1, rfl⟩ := ifS h
  exact sp_R3_RightGoal 1000000000 (Nat.le_refl _) a h1

noncomputable def x_varsA (a : At) : Option (List Int) := if wtL a.ts ≤ 1000000000 then some (uniq [] (occL a.ts)) else none

theorem x_varsA_eq (a : At) (h : wtL a.ts ≤ 1000000000) : x_varsA a = some (uniq [] (occL a.ts)) := if_pos h

theorem lx_term_AtomVars (a : At) (res : List Int) (h : x_varsA a = some res) : Gives Try.prog 23 [encA a] (encI res) := by
  obtain ⟨h1, rfl⟩ := ifS h
  exact sp_term_AtomVars 1000000000 (Nat.le_refl _) a h1

end Go.Proofs.Ytnldggbcfcibaaa


namespace Go.Proofs.Ytnldggbcfcibaaa
set_option maxRecDepth 100000
open Go.RowKit

theorem gives_weigh (d : Nat) (hd : d ≤ 1000) (l : List T) (left : Int) (h1 : -9223372036854775808 ≤ left) (h2 : left ≤ 1000000000) : Gives Try.prog 49 [.lst (l.map encT), .int .i64 left, .int .i64 (d : Int)] (.int .i64 (weighF d l left)) :=
  gives_of_ret (v := .int .i64 (weighF d l left)) (fun p w => by
    have := weighF_ge d l left
    have : weighF d l left ≤ max left (-1) := by
      by_cases h : 0 ≤ weighF d l left
      · have := weigh_wt d l left h
        omega
      · omega
    simp only [Rep]; exact ⟨trivial, wrap64 (by omega)⟩) fun p w vs _ hv => by
    simp only [Repl] at hv
    obtain ⟨v, _, rfl, k1, u, _, rfl, k2, x, _, rfl, k3, rfl⟩ := hv
    simp only [Rep] at k2 k3
    obtain ⟨rfl, _⟩ := k2
    obtain ⟨rfl, _⟩ := k3
    exact weigh_any d l v left d w (sl_of k1) rfl hd h1 h2
noncomputable def x_weigh (l : List T) (left d : Int) : Option Int := if (-9223372036854775808 ≤ left ∧ left ≤ 1000000000) ∧ 0 ≤ d ∧ d ≤ 1000 then some (weighF d.toNat l left) else none
theorem lx_constraintref03_weigh (l : List T) (left d res : Int) (h : x_weigh l left d = some res) : Gives Try.prog 49 [.lst (l.map encT), .int .i64 left, .int .i64 d] (.int .i64 res) := by
  obtain ⟨⟨⟨h1, h2⟩, h3, h4⟩, rfl⟩ := ifS h
  have := gives_weigh d.toNat (by omega) l left h1 h2
  rw [Int.toNat_of_nonneg h3] at this
  exact this
end Go.Proofs.Ytnldggbcfcibaaa


namespace Go.Proofs.Ytnldggbcfcibaaa
set_option maxRecDepth 100000
open Go.RowKit

/-- A value with no fields. -/
def encU (_ : Unit) : D := .agg []
theorem sz_encU (a : Unit) : sz (encU a) = 0 := rfl
theorem sz_encA (a : At) : sz (encA a) = 2 := rfl
theorem sz_encG (a : Gl) : sz (encG a) = 3 := rfl
end Go.Proofs.Ytnldggbcfcibaaa


namespace Go.Proofs.Ytnldggbcfcibaaa
set_option maxRecDepth 100000
open Go.RowKit

/-- Weakened field by field. -/
inductive Wks : List D → List D → Prop
  | nil : Wks [] []
  | cons {d e : D} {ds es : List D} (h : Wk d e) (k : Wks ds es) : Wks (d :: ds) (e :: es)
theorem Wks.reps {ds es : List D} (h : Wks ds es) : ∀ {p : Addr → Prop} {w : World} {xs : List Value}, Reps p w ds xs → Reps p w es xs := by
  induction h with
  | nil => exact fun h => h
  | cons h _ ih =>
    intro p w xs hr
    simp only [Reps] at hr ⊢
    obtain ⟨v, rest, h1, h2, h3⟩ := hr
    exact ⟨v, rest, h1, h _ _ _ h2, ih h3⟩
theorem Wk.agg {ds es : List D} (h : Wks ds es) : Wk (.agg ds) (.agg es) := fun p w v hv => by
  simp only [Rep] at hv ⊢
  obtain ⟨cs, h1, h2, h3⟩ := hv
  exact ⟨cs, h1, h.reps h2, h3⟩
/-- Data within data. -/
inductive Ins (d0 : D) : D → Prop
  | refl : Ins d0 d0
  | ptr {d : D} (h : Ins d0 (.ptr d)) : Ins d0 d
  | sub {d dx : D} (h : Ins d0 d) (path : List Nat) (hp : subD d path = some dx) : Ins d0 dx
  | el {d dx : D} {l : List D} (h : Ins d0 d) (hl : AsL d l) (hm : dx ∈ l) : Ins d0 dx
theorem reps_mem {p : Addr → Prop} {w : World} : ∀ {l : List D} {xs : List Value}, Reps p w l xs → ∀ d ∈ l, ∃ v, Rep p w d v
  | [], _, _, _, h => by cases h
  | d :: l, xs, h, x, hx => by
    simp only [Reps] at h
    obtain ⟨v, rest, _, h1, h2⟩ := h
    rcases List.mem_cons.1 hx with rfl | hx
    · exact ⟨v, h1⟩
    · exact reps_mem h2 x hx
theorem ins_rep {p : Addr → Prop} {w : World} {d0 dx : D} {v0 : Value} (h0 : Rep p w d0 v0) (h : Ins d0 dx) : ∃ v, Rep p w dx v := by
  induction h with
  | refl => exact ⟨v0, h0⟩
  | ptr _ ih =>
    obtain ⟨v, hv⟩ := ih
    simp only [Rep] at hv
    obtain ⟨b, o, u, _, _, h2, _⟩ := hv
    exact ⟨u, h2⟩
  | sub _ path hp ih =>
    obtain ⟨v, hv⟩ := ih
    obtain ⟨u, h3, _⟩ := subD_rep hv hp
    exact ⟨u, h3⟩
  | el _ hl hm ih =>
    obtain ⟨v, hv⟩ := ih
    obtain ⟨A, c, xs, _, _, _, _, h4, _⟩ := hl.rep hv
    exact reps_mem h4 _ hm
theorem getI_mem {α : Type} {l : List α} {i : Int} {q : α} (h : getI l i = some q) : q ∈ l := List.mem_of_getElem? (getI_some h).2
section
variable {P : Program} {f : FuncId} {fn : Func} {K : Ctx} {R : D → St → Prop} {k : List Item} {env : Env} {σ : St}
theorem g_lenI {m : Md} (s : Nat) {d0 dx : D} {l : List D} (hs : lk env s = some d0) (hi : Ins d0 dx) (hl : AsL dx l) (h : l.length ≤ 9223372036854775807 → GoesG m P f fn K R k env σ) : GoesG m P f fn K R k env σ :=
  g_fact (fun p a w _ hr => by
    obtain ⟨v, h3⟩ := ins_rep (hr s _ hs) hi
    obtain ⟨A, c, xs, _, g2, g3, _⟩ := hl.rep h3
    omega) h
end
end Go.Proofs.Ytnldggbcfcibaaa


namespace Go.Proofs.Ytnldggbcfcibaaa
set_option maxRecDepth 100000
open Go.RowKit

theorem Inv.of {K K' : Ctx} {p : Addr → Prop} {σ : St} {w : World} (h0 : K'.w0 = K.w0) (hp : K'.p0 = K.p0) (hF : K'.F0 = K.F0) (h : Inv K p σ w) : Inv K' p σ w := by
  obtain ⟨w0, p0, F0, X⟩ := K
  obtain ⟨w0', p0', F0', X'⟩ := K'
  simp only at h0 hp hF
  subst h0 hp hF
  exact ⟨h.ok, h.nd, h.mine, h.pub, h.gr, h.neu, h.os, h.tape, h.output, h.size, h.block⟩
section
variable {P : Program} {f : FuncId} {fn : Func} {ds : List D} {σ : St} {R : D → St → Prop} {X : D → Prop}
end
section
variable {P : Program} {o : Oper} {ρ : Operand → Option D} {d : D} {σ : St}
end
end Go.Proofs.Ytnldggbcfcibaaa


namespace Go.Proofs.Ytnldggbcfcibaaa
set_option maxRecDepth 100000
open Go.RowKit

section
variable {P : Program} {f : FuncId} {fn : Func} {K : Ctx} {R : D → St → Prop} {k : List Item} {env : Env} {σ τ : St} {p : Addr → Prop} {w : World}

/-- A block that holds no cells is written. -/
theorem inv_put {o o' : Ob} {b : Nat} {x : Obj} (x' : Obj) (h : Inv K p (o :: σ) w) (hb : o.blk = some b) (hb' : o'.blk = some b) (hx : w.heap[b]? = some x) (hc : x.isCells = false)
    (ho : (w.putObj b x').heap[b]? = some x' → Grow p w p (w.putObj b x') → ObOk p (w.putObj b x') o') : Inv K p (o' :: σ) (w.putObj b x') ∧ Grow p w p (w.putObj b x') := by
  have hne : ∀ a, p a → a.block ≠ b := fun a ha e => by
    obtain ⟨v, hv⟩ := h.pub a ha
    obtain ⟨y, hy, hyc⟩ := cells_of_cell hv
    rw [e, hx] at hy
    injection hy with hy
    rw [hy, hyc] at hc
    cases hc
  have hg : Grow p w p (w.putObj b x') := fun a ha => ⟨ha, cell_same (World.putObj_heap_other (hne a ha))⟩
  have hat : (w.putObj b x').heap[b]? = some x' := World.putObj_heap_same (Array.getElem?_eq_some_iff.1 hx).1
  refine ⟨h.write hb hb' hg (fun a ha => .inl ha) (ho hat hg) (fun a ha => ?_) rfl rfl rfl (by simp) (fun j hj => World.putObj_heap_other hj), hg⟩
  obtain ⟨v, hv⟩ := h.pub a ha
  exact ⟨v, (hg a ha).2.trans hv⟩

/-- The contract of a round. -/
def YSpec (P : Program) (l : Nat) (ds : List D) (σ : St) (R : D → St → Prop) : Prop :=
  ∀ (w : World) (p : Addr → Prop) (vs : List Value), Inv (ctx w p σ) p σ w → Repl p w ds vs →
    ∃ g tmps assign body, (Instr.yield l vs.toArray).run P w = .ok (.round l g tmps assign body) w ∧
      ∀ (c : Frame) (cs : List Frame), ∃ v w', Left (ctx w p σ) R (.returned v) w' ∧ Steps P (lone (Frame.round l g tmps assign body .normal) (c :: cs) w) (lone (c.finish v) cs w')

theorem specMono {f : FuncId} {ds : List D} {R R' : D → St → Prop} (h : Spec P f ds σ R) (hR : ∀ d σ', R d σ' → R' d σ') : Spec P f ds σ R' := fun w p vs hi hv => (h w p vs hi hv).mono fun e w' hl => by
  rcases hl with ⟨v, d, σ', q, rfl, h1, h2, h3⟩ | ⟨v, d, σ', q, rfl, h1, h2⟩
  · exact .inl ⟨v, d, σ', q, rfl, hR d σ' h1, h2, h3⟩
  · exact .inr ⟨v, d, σ', q, rfl, h1, h2⟩
theorem permLast3 {α : Type} (a b c : α) : [a, b, c].Perm [c, a, b] := List.perm_append_comm (l₁ := [a, b]) (l₂ := [c])
/-- yield is called. -/
theorem s_yield {o : Oper} {ρ : Operand → Option D} {l : Nat} {x : Operand} {args : Array Operand} {ats : Array TypeId} {σ1 : St} (τ : St) {ds : List D} (ho : o.op = .call { callee := .value x, args := args, argTypes := ats }) (hx : ρ x = some (.clo (.yield l) [] [])) (hO : Opds ρ args.toList ds) (hσ : σ.Perm (σ1 ++ τ)) (hS : YSpec P l ds σ1 R) : StepY P o ρ σ fun d σ' => ∃ σ1', R d σ1' ∧ σ' = σ1' ++ τ := fun rd K p a w hi h => by
  have hv := hO.rep (p := p) (w := w) (a := a) fun y hy => h y (by rw [ho]; simp only [Op.operands, Call.operands]; exact Array.mem_append.2 (.inr (by simpa using hy)))
  have h1 := h x (by rw [ho]; simp [Op.operands, Call.operands]) _ hx
  simp only [Rep] at h1
  obtain ⟨fv, cv, h1, h2, h3⟩ := h1
  simp only [Repl] at h2 h3
  subst h2 h3
  obtain ⟨g, tmps, assign, body, hy, hR⟩ := hS w p _ ((hi.perm hσ).enter) hv
  refine ⟨fun f _ => fw_fn _ f, ?_⟩
  have hrun : (o.semAt (fw rd).round a.eval).run P w = .ok (.round l g tmps assign body) w := by
    rw [Oper.semAt_eq _ _ _ fun c hc => by rw [ho] at hc; cases hc]
    unfold execOp
    rw [ho]
    simp only [resolve, h1, Deferred.ofValue, Sem.run_bind, Sem.run_pure, Result.andThen_ok, invoke]
    rw [show (#[] ++ args.map a.eval : Array Value) = (args.toList.map a.eval).toArray by apply Array.toList_inj.1; simp]
    exact hy
  rw [hrun]
  refine ⟨fun h => ?_, fw_fn _ _, fun c cs _ => ?_⟩
  · cases rd <;> cases h
  · obtain ⟨v, w', hL, hs⟩ := hR c cs
    refine ⟨.returned v, w', ?_, fw_stepsIn hs⟩
    obtain ⟨v1, hv1, v', d, σ', p', q1, q2, q3, q4, q5⟩ := left_step (a := a) (dst := o.dst) hi hσ hL
    injection hv1 with hv1
    subst hv1
    exact ⟨v', d, σ', p', q1, q2, q3, q4, q5⟩

/-- The slots of a round. -/
def putAll : Env → List Tmp → List D → Env
  | env, t :: ts, d :: ds => putAll ((t, d) :: env) ts ds
  | env, _, _ => env
theorem putAll_rel : ∀ (ts : List Tmp) (ds : List D) (vs : List Value) (env : Env) (tm : Array Value), Repl p w ds vs → ts.length = ds.length → (∀ t ∈ ts, t < tm.size) → RelEnv p w env { tmps := tm, defers := [] } →
    RelEnv p w (putAll env ts ds) { tmps := (ts.zip vs).foldl (fun tmps (t, a) => tmps.setIfInBounds t a) tm, defers := [] } ∧ ((ts.zip vs).foldl (fun tmps (t, a) => tmps.setIfInBounds t a) tm).size = tm.size
  | [], [], _, env, tm, _, _, _, h => ⟨by simpa [putAll] using h, by simp⟩
  | t :: ts, d :: ds, vs, env, tm, hv, hl, ht, h => by
    simp only [Repl] at hv
    obtain ⟨v, rest, rfl, h1, h2⟩ := hv
    simp only [putAll, List.zip_cons_cons, List.foldl_cons]
    have h3 : RelEnv p w ((t, d) :: env) { tmps := tm.setIfInBounds t v, defers := [] } := h.put (dst := some t) h1 (fun t' e => by injection e with e; subst e; exact ht t (List.mem_cons_self ..))
    obtain ⟨h4, h5⟩ := putAll_rel ts ds rest _ _ h2 (by simpa using hl) (fun t' ht' => by simpa using ht t' (List.mem_cons_of_mem _ ht')) h3
    exact ⟨h4, by rw [h5]; simp⟩
  | [], _ :: _, _, _, _, _, hl, _, _ => by cases hl
  | _ :: _, [], _, _, _, _, hl, _, _ => by cases hl

/-- A round, from the walk of the loop's body. -/
theorem y_round {l : Nat} {e0 : Env} {L : Loop} {ds : List D} {fnL : Func} (hps : L.params.toList.length = ds.length) (hfn : P.funcs[L.fn]? = some fnL) (hsz : fnL.ntmps ≤ L.tmps.size) (hlt : L.params.toList.all (fun t => decide (t < fnL.ntmps)) = true)
    (h : ∀ K, (K.F0 = fun b => b ∈ blks (.loop l e0 L :: σ)) → GoesG ⟨some l, []⟩ P L.fn fnL K R [.code L.assign, .beginRound, .code L.body] (putAll e0 L.params.toList ds) (.loop l e0 L :: σ)) : YSpec P l ds (.loop l e0 L :: σ) R := fun w p vs hi hv => by
  obtain ⟨hL, hE⟩ := hi.ok _ (List.mem_cons_self ..)
  have hlen : vs.length = ds.length := by
    clear h hps hi hL hE
    induction ds generalizing vs with
    | nil => simp only [Repl] at hv; subst hv; rfl
    | cons d ds ih =>
      simp only [Repl] at hv
      obtain ⟨v, rest, rfl, _, h2⟩ := hv
      simp [ih rest h2]
  refine ⟨L.fn, _, L.assign, L.body, run_yield hL (by simpa [hlen] using hps.symm), fun c cs => ?_⟩
  obtain ⟨h1, h2⟩ := putAll_rel (p := p) (w := w) L.params.toList ds vs e0 L.tmps hv hps (fun t ht => Nat.lt_of_lt_of_le (by simpa using List.all_eq_true.1 hlt t ht) hsz) hE
  let b : Frame := { (default : Frame) with fn := L.fn, kind := .normal, roundOf := some l }
  have hz : (L.params.zip vs.toArray).foldl (fun tmps (t, a) => tmps.setIfInBounds t a) L.tmps = (L.params.toList.zip vs).foldl (fun tmps (t, a) => tmps.setIfInBounds t a) L.tmps := by
    rw [← Array.foldl_toList]; simp
  rw [hz]
  have hb0 : Frame.round l L.fn ((L.params.toList.zip vs).foldl (fun tmps (t, a) => tmps.setIfInBounds t a) L.tmps) L.assign L.body .normal = b.atR { tmps := (L.params.toList.zip vs).foldl (fun tmps (t, a) => tmps.setIfInBounds t a) L.tmps, defers := [] } [.code L.assign, .beginRound, .code L.body] := by
    simp [Frame.round, Frame.atR, b]
  rw [hb0]
  exact h (ctx w p _) rfl p _ w hi h1 (by rw [h2]; exact hsz) rfl b (c :: cs) rfl rfl rfl hfn c cs rfl

theorem n_begin {l : Nat} {ms : List Nat} {e0 : Env} {L : Loop} (hr : L.state = .ready) (hσ : σ.Perm (.loop l e0 L :: τ)) (h : GoesG ⟨some l, ms⟩ P f fn K R k env (.loop l e0 { L with state := .busy } :: τ)) : GoesG ⟨some l, ms⟩ P f fn K R (.beginRound :: k) env σ := fun p a w hi hre hn hd b cs hb hk hro hf => by
  have hi := hi.perm hσ
  obtain ⟨hL, hE⟩ := hi.ok _ (List.mem_cons_self ..)
  obtain ⟨h1, hg⟩ := inv_put (o' := .loop l e0 { L with state := .busy }) (.loop { L with state := .busy }) hi rfl rfl hL rfl fun h hg => ⟨h, fun t d ht => (hE t d ht).grow hg⟩
  exact .of_steps (.one (stepR_beginRound hro (run_beginRound hL hr))) (h p a _ h1 (hre.grow hg) hn hd b cs hb hk hro hf)

/-- A round comes to its end. -/
theorem n_rend {l : Nat} {ms : List Nat} {e0 : Env} {L : Loop} (hσ : σ.Perm (.loop l e0 L :: τ)) (h : R (.bool true) (.loop l e0 { L with state := .ready, pending := none } :: τ)) : GoesG ⟨some l, ms⟩ P f fn K R [] env σ := fun p a w hi hre hn hd b cs hb hk hro hf c cs' hc => by
  subst hc
  have hi := hi.perm hσ
  obtain ⟨hL, hE⟩ := hi.ok _ (List.mem_cons_self ..)
  obtain ⟨h1, hg⟩ := inv_put (o' := .loop l e0 { L with state := .ready, pending := none }) (.loop { L with state := .ready, pending := none }) hi rfl rfl hL rfl fun h hg => ⟨h, fun t d ht => (hE t d ht).grow hg⟩
  exact ⟨.bool true, _, .inl ⟨_, _, _, p, rfl, h, by simp only [Rep], h1⟩, .one (stepR_round_end hro hk (run_endRound none hL))⟩
/-- The loop's record as the statement lays it. -/
def rec0 (f : FuncId) (tmps : Array Value) (ps : Array Tmp) (assign body : Code) (D : Nat) : Loop := { state := .ready, pending := none, fn := f, tmps, params := ps, assign, body, defers := D }
def mark (D : Nat) : Ob := .aux D (.deferred (some []))
/-- The statement; J: what it leaves, and the jump that is pending. -/
theorem g_rangeFunc {g : Operand} {ps : Array Tmp} {assign body : Code} {gf : FuncId} {cap : List D} {ms : List Nat} (J : Option Code → St → Prop) {σ1 : St} (τ : St) (hg : ev env g = some (.clo (.func gf) [] cap)) (ho : okOpnd g = true) (hc : callee P gf) (hσ : σ.Perm (σ1 ++ τ))
    (hS : ∀ (l D : Nat) (tmps : Array Value), fn.ntmps ≤ tmps.size → Spec P gf (.clo (.yield l) [] [] :: cap) (.loop l env (rec0 f tmps ps assign body D) :: σ1) fun _ σ' => ∃ st jump σ1', st ≠ .busy ∧ σ' = .loop l env { rec0 f tmps ps assign body D with state := st, pending := jump } :: σ1' ∧ J jump σ1')
    (hk : ∀ D jump σ1', J jump σ1' → GoesG ⟨none, D :: ms⟩ P f fn K R ((jump.map Item.code).toList ++ k) env (mark D :: (σ1' ++ τ))) : GoesG ⟨none, ms⟩ P f fn K R (.code (.rangeFunc g ps assign body) :: k) env σ := fun p a w hi hre hn hd b cs hb hkd hro hf => by
  have hgv := ev_rep hre hg ho
  simp only [Rep] at hgv
  obtain ⟨fs, lb, hgv, hfs, hlb⟩ := hgv
  simp only [Repl] at hfs
  subst hfs
  obtain ⟨W1, hW1⟩ : ∃ W1, (w.alloc (.deferred (some []))).alloc (.loop (rec0 f a.tmps ps assign body w.heap.size)) = W1 := ⟨_, rfl⟩
  have hL1 : W1.heap[w.heap.size + 1]? = some (.loop (rec0 f a.tmps ps assign body w.heap.size)) := by
    rw [← hW1]; have := World.alloc_heap_new (w.alloc (.deferred (some []))) (.loop (rec0 f a.tmps ps assign body w.heap.size)); rwa [World.size_alloc] at this
  have hK1 : W1.heap[w.heap.size]? = some (.deferred (some [])) := by
    rw [← hW1]; exact (Below.heap_alloc _ _ _ (by simp)).trans (World.alloc_heap_new w _)
  have hgr : Grow p w p W1 := by
    rw [← hW1]; exact (grow_alloc hi.pub _).tr (grow_alloc (hi.alloc _).pub _)
  have hi1 : Inv K p σ W1 := by rw [← hW1]; exact (hi.alloc _).alloc _
  have hnew : ∀ x, x ∈ blks σ → x < w.heap.size := fun x hx => hi.lt hx
  have hi2 : Inv K p (mark w.heap.size :: σ) W1 := hi1.more (o := mark w.heap.size) hK1 fun x hx => by
    simp only [mark, Ob.blk, Option.some.injEq] at hx
    subst hx
    exact ⟨.inl hi.size, fun h => absurd (hnew _ h) (Nat.lt_irrefl _)⟩
  have hi3 : Inv K p (.loop (w.heap.size + 1) env (rec0 f a.tmps ps assign body w.heap.size) :: mark w.heap.size :: σ) W1 := hi2.more ⟨hL1, fun t d ht => (hre t d ht).grow hgr⟩ fun x hx => by
    simp only [Ob.blk, Option.some.injEq] at hx
    subst hx
    refine ⟨.inl (Nat.le_succ_of_le hi.size), fun h => ?_⟩
    simp only [blks, List.filterMap_cons, mark, Ob.blk] at h
    rcases List.mem_cons.1 h with h | h
    · omega
    · exact absurd (hnew _ h) (by omega)
  have hp3 : (.loop (w.heap.size + 1) env (rec0 f a.tmps ps assign body w.heap.size) :: mark w.heap.size :: σ : St).Perm ((.loop (w.heap.size + 1) env (rec0 f a.tmps ps assign body w.heap.size) :: σ1) ++ (mark w.heap.size :: τ)) := by
    refine List.Perm.cons _ ?_
    refine (List.Perm.cons _ hσ).trans ?_
    exact (List.perm_middle (l₁ := σ1) (l₂ := τ) (a := mark w.heap.size)).symm
  have hcall := hS (w.heap.size + 1) w.heap.size a.tmps hn W1 p (.func (.yield (w.heap.size + 1)) #[] #[] :: lb) ((hi3.perm hp3).enter) (by
    simp only [Repl]
    exact ⟨_, _, rfl, by simp only [Rep]; exact ⟨[], [], rfl, Repl.nil _ _, Repl.nil _ _⟩, hlb.grow hgr⟩)
  obtain ⟨e, w', fr, hL, hcomes, hfn, hleave⟩ := hcall (b.atR { a with defers := { target := .collected w.heap.size, args := #[] } :: a.defers } (.inRangeFunc (w.heap.size + 1) :: k) :: cs)
  obtain ⟨v, d, σ', p', rfl, ⟨st, jump, σ1', hst, rfl, hJ⟩, hv, hi'⟩ := hL.resolve_right fun ⟨_, _, _, _, _, h, _⟩ => h
  have hstep := stepR_rangeFunc (P := P) (b := b) (a := a) (k := k) (cs := cs) (w := w) (g := g) (ps := ps) (assign := assign) (body := body) (l := w.heap.size + 1) (mark := [{ target := .collected w.heap.size, args := #[] }]) (w₁ := W1) (w₁' := W1) (w₂ := W1) (d := { target := .fn (.func gf) lb.toArray, args := #[.func (.yield (w.heap.size + 1)) #[] #[]] }) (f := gf) (args := (.func (.yield (w.heap.size + 1)) #[] #[] :: lb).toArray)
    (by rw [← hW1, hro, hb]; exact run_enterLoop_outer _ _ _ _ _)
    (by simp only [resolve, hgv]; simp [go_sem])
    (by
      simp only [invoke]
      rw [run_callFunc hc]
      congr 2
      apply Array.toList_inj.1
      simp)
  have hi4 := (hi3.perm hp3).leave hi'
  obtain ⟨hL4, hE4⟩ := hi4.ok _ (List.mem_cons_self ..)
  obtain ⟨h5, hg5⟩ := inv_put (o' := .aux (w.heap.size + 1) (.loop { rec0 f a.tmps ps assign body w.heap.size with state := .exhausted, pending := jump })) (.loop { rec0 f a.tmps ps assign body w.heap.size with state := .exhausted, pending := jump }) hi4 rfl rfl hL4 rfl fun h _ => h
  have hend := stepR_endRangeFunc (P := P) (b := b) (a := { a with defers := { target := .collected w.heap.size, args := #[] } :: a.defers }) (k := k) (cs := cs) (w := w') (run_endLoop hL4 hst)
  refine .of_steps (w1 := w'.putObj (w.heap.size + 1) (.loop { rec0 f a.tmps ps assign body w.heap.size with state := .exhausted, pending := jump })) (fr1 := b.atR { a with defers := { target := .collected w.heap.size, args := #[] } :: a.defers } ((jump.map Item.code).toList ++ k)) ?_ (hk w.heap.size jump σ1' hJ p' { a with defers := { target := .collected w.heap.size, args := #[] } :: a.defers } _ ?_ ?_ hn ?_ b cs hb hkd hro hf)
  · refine (Steps.one hstep).trans (Steps.trans hcomes ((Steps.one (step_leave_returned hleave)).trans ?_))
    rw [finish_atR_inRangeFunc]
    exact Steps.one hend
  · have := h5.tail
    refine this.perm ?_
    exact List.perm_middle (l₁ := σ1') (l₂ := τ) (a := mark w.heap.size)
  · exact (((hre.grow hgr).grow hi'.gr).grow hg5 : RelEnv p' _ env a)
  · show _ :: a.defers = _
    rw [hd]; rfl

/-- The marks are come to. -/
theorem fin_marks : ∀ (ms : List Nat) (w : World) (fr : Frame) (cs : List Frame), Inv K p (ms.map mark ++ τ) w → fr.mode ≠ .run → fr.defers = ms.map (fun D => { target := .collected D, args := #[] }) →
    ∃ w', Steps P (lone fr cs w) (lone { fr with defers := [] } cs w') ∧ Inv K p τ w' ∧ Grow p w p w'
  | [], w, fr, cs, hi, hm, hd => ⟨w, by rw [show ({ fr with defers := [] } : Frame) = fr by rw [← (show fr.defers = [] from hd)]]; exact .refl _ _, hi, Grow.refl p w⟩
  | D :: ms, w, fr, cs, hi, hm, hd => by
    have hD : w.heap[D]? = some (.deferred (some [])) := hi.ok (mark D) (by simp)
    obtain ⟨h1, hg⟩ := inv_put (o := mark D) (o' := .aux D (.deferred none)) (.deferred none) hi rfl rfl hD rfl fun h _ => h
    have hs := step_collected (P := P) (cs := cs) (fr := fr) (d := { target := .collected D, args := #[] }) hm hd rfl (run_takeDeferred hD)
    obtain ⟨w', h2, h3, h4⟩ := fin_marks ms _ { fr with defers := [] ++ ms.map (fun D => { target := .collected D, args := #[] }) } cs h1.tail hm rfl
    exact ⟨w', (Steps.one hs).trans h2, h3, hg.tr h4⟩
theorem n_ret {ms : List Nat} (ds : List D) (hσ : σ.Perm (ms.map mark ++ τ)) (hds : ResDs P env τ fn.results.toList ds) (hR : R (packD ds) τ) : GoesG ⟨none, ms⟩ P f fn K R (.code .ret :: k) env σ := fun p a w hi hr hn hd b cs hb hk hro hf => by
  obtain ⟨w', h1, h2, h3⟩ := fin_marks (P := P) ms w { b.atR a (.code .ret :: k) with mode := .returning } cs (hi.perm hσ) (by simp) hd
  refine .of_steps ((Steps.one (stepR_ret hro)).trans h1) ?_
  have hr' : RelEnv p w' env { tmps := a.tmps, defers := [] } := hr.grow h3
  obtain ⟨e, q1, q2, q3⟩ := left_of (R := R) (a := { tmps := a.tmps, defers := [] }) h2 hr' rfl hf hds hR b hb hk (.code .ret :: k)
  refine ⟨e, w', { b.atR { tmps := a.tmps, defers := [] } (.code .ret :: k) with mode := .returning }, q1, ?_, hb, q2⟩
  cases e with
  | returned v => exact Steps.refl _ _
  | panicked c => exact Steps.refl _ _
  | outgrown => exact absurd rfl q3
end
end Go.Proofs.Ytnldggbcfcibaaa


namespace Go.Proofs.Ytnldggbcfcibaaa
set_option maxRecDepth 100000
open Go.RowKit

structure S_api_Rule where
  f0_Name : ByteArray
  f1_Keep : (List At)
  f2_Remove : (List At)
  f3_Guard : (List Gl)
  f4_Body : (List Gl)
  f5_Vars : Int

def enc_S_api_Rule (x : S_api_Rule) : D := .agg [.str x.f0_Name, .lst (x.f1_Keep.map encA), .lst (x.f2_Remove.map encA), .lst (x.f3_Guard.map encG), .lst (x.f4_Body.map encG), .int .i64 x.f5_Vars]

theorem sz_S_api_Rule (x : S_api_Rule) : sz (enc_S_api_Rule x) = 6 := by
  simp only [enc_S_api_Rule, sz, szs]

structure S_api_Decl where
  f0_Name : ByteArray
  f1_Arity : Int

def enc_S_api_Decl (x : S_api_Decl) : D := .agg [.str x.f0_Name, .int .i64 x.f1_Arity]

structure S_api_Program where
  f0_Decls : (List S_api_Decl)
  f1_Rules : (List S_api_Rule)

def enc_S_api_Program (x : S_api_Program) : D := .agg [.lst (x.f0_Decls.map enc_S_api_Decl), .lst (x.f1_Rules.map enc_S_api_Rule)]

theorem sz_S_api_Program (x : S_api_Program) : sz (enc_S_api_Program x) = 2 := by
  simp only [enc_S_api_Program, sz, szs]

structure S_api_Occ where
  f0_Rule : Int
  f1_Head : Int
  f2_Kept : Bool

def enc_S_api_Occ (x : S_api_Occ) : D := .agg [.int .i64 x.f0_Rule, .int .i64 x.f1_Head, .bool x.f2_Kept]

theorem sz_S_api_Occ (x : S_api_Occ) : sz (enc_S_api_Occ x) = 3 := by
  simp only [enc_S_api_Occ, sz, szs]

noncomputable def lf_occur_count (r_a0 : S_api_Rule) : Option (Int) :=
  some ((wr ((r_a0.f1_Keep.length : Int) + (r_a0.f2_Remove.length : Int))))

set_option maxHeartbeats 1000000 in
theorem lg_occur_count (r_a0 : S_api_Rule) (res : Int) (hr : lf_occur_count r_a0 = some res) : Gives Try.prog 37 [enc_S_api_Rule r_a0] (.int .i64 res) := by
  unfold lf_occur_count at hr
  refine spec_env [(0, enc_S_api_Rule r_a0)] Try.func37 rfl rfl fun K hK => ?_
  refine g_seq ?_
  refine g_run (by kernel_rfl) [(0, .d), (1, .d)] rfl ?_
  refine r_d rfl rfl rfl (s_box rfl rfl rfl) ?_
  refine r_d rfl rfl rfl (s_assign rfl rfl) ?_
  refine r_end ?_
  refine g_seq ?_
  refine g_run (by kernel_rfl) [(0, .d), (1, .d), (2, .d), (3, .d), (4, .d), (5, .d), (6, .d), (7, .d)] rfl ?_
  refine r_d rfl rfl rfl (s_fieldAddr rfl fl_api_Rule_1 rfl rfl rfl rfl) ?_
  refine r_d rfl rfl rfl (s_load rfl rfl (by exact ty_L_api_Atom) rfl) ?_
  refine r_d rfl rfl rfl (m_len (f := encA) r_a0.f1_Keep rfl el_L_api_Atom rfl (asl rfl)) ?_
  refine r_d rfl rfl rfl (s_fieldAddr rfl fl_api_Rule_2 rfl rfl rfl rfl) ?_
  refine r_d rfl rfl rfl (s_load rfl rfl (by exact ty_L_api_Atom) rfl) ?_
  refine r_d rfl rfl rfl (m_len (f := encA) r_a0.f2_Remove rfl el_L_api_Atom rfl (asl rfl)) ?_
  refine r_d rfl rfl rfl (s_arW rfl rfl rfl rfl) ?_
  refine r_d rfl rfl rfl (s_assign rfl rfl) ?_
  refine r_end ?_
  obtain rfl := Option.some.inj hr
  refine g_ret Try.func37 _ (.cons (resTmp rfl (Wk.refl _)) .nil) ?_
  rfl

noncomputable def lf_occur_Heads (r_a0 : S_api_Rule) : Option ((List At)) :=
  ((lf_occur_count r_a0).bind fun r_2 =>
  ((makeO 40 r_2).bind fun c_3 =>
  ((appO 40 [] r_a0.f1_Keep).bind fun l_5 =>
  ((appO 40 l_5 r_a0.f2_Remove).bind fun l_7 =>
  some (l_7)))))

set_option maxHeartbeats 1000000 in
theorem lg_occur_Heads (r_a0 : S_api_Rule) (res : (List At)) (hr : lf_occur_Heads r_a0 = some res) : Gives Try.prog 22 [enc_S_api_Rule r_a0] (.lst (res.map encA)) := by
  unfold lf_occur_Heads at hr
  refine spec_env [(0, enc_S_api_Rule r_a0)] Try.func22 rfl rfl fun K hK => ?_
  refine g_seq ?_
  refine g_run (by kernel_rfl) [(0, .d), (1, .w)] rfl ?_
  refine r_d rfl rfl rfl (s_box rfl rfl rfl) ?_
  refine r_w rfl rfl rfl (s_nilOwn 37 2 (.inl rfl)) ?_
  rintro _ _ ⟨u2_0, rfl, rfl⟩
  refine r_end ?_
  refine g_seq ?_
  refine g_run (by kernel_rfl) [(0, .d), (1, .d), (2, .w), (3, .d)] rfl ?_
  refine r_d rfl rfl rfl (s_load rfl rfl (by exact ty_api_Rule) (sz_S_api_Rule _)) ?_
  obtain ⟨r_2, hr_2, hr⟩ := bindS hr
  refine r_d rfl rfl rfl (s_callD rfl cl_occur_count (.cons rfl (Wk.refl _) .nil) (lg_occur_count _ _ hr_2)) ?_
  obtain ⟨c_3, hc_3, hr⟩ := bindS hr
  refine r_w rfl rfl rfl (m_make0 (f := encA) rfl el_L_api_Atom rfl rfl hc_3) ?_
  rintro _ _ ⟨u6_3, rfl, rfl⟩
  refine r_d rfl rfl rfl (s_assign rfl rfl) ?_
  refine r_end ?_
  refine g_seq ?_
  refine g_run (by kernel_rfl) [(0, .d), (1, .d), (2, .d), (3, .w), (4, .d)] rfl ?_
  refine r_d rfl rfl rfl (s_move rfl rfl) ?_
  refine r_d rfl rfl rfl (s_fieldAddr rfl fl_api_Rule_1 rfl rfl rfl rfl) ?_
  refine r_d rfl rfl rfl (s_load rfl rfl (by exact ty_L_api_Atom) rfl) ?_
  obtain ⟨l_5, hl_5, hr⟩ := bindS hr
  refine r_w rfl rfl rfl (m_appOwn (f := encA) [] r_a0.f1_Keep rfl el_L_api_Atom rfl rfl (asl rfl) (pf0 _) rfl sz_encA hl_5) ?_
  rintro _ _ ⟨u10_5, rfl, rfl⟩
  refine r_d rfl rfl rfl (s_assign rfl rfl) ?_
  refine r_end ?_
  refine g_seq ?_
  refine g_run (by kernel_rfl) [(0, .d), (1, .d), (2, .d), (3, .w), (4, .d)] rfl ?_
  refine r_d rfl rfl rfl (s_move rfl rfl) ?_
  refine r_d rfl rfl rfl (s_fieldAddr rfl fl_api_Rule_2 rfl rfl rfl rfl) ?_
  refine r_d rfl rfl rfl (s_load rfl rfl (by exact ty_L_api_Atom) rfl) ?_
  obtain ⟨l_7, hl_7, hr⟩ := bindS hr
  refine r_w rfl rfl rfl (m_appOwn (f := encA) l_5 r_a0.f2_Remove rfl el_L_api_Atom rfl rfl (asl rfl) (pf0 _) rfl sz_encA hl_7) ?_
  rintro _ _ ⟨u14_7, rfl, rfl⟩
  refine r_d rfl rfl rfl (s_assign rfl rfl) ?_
  refine r_end ?_
  obtain rfl := Option.some.inj hr
  refine g_ret Try.func22 _ (.cons (resTmp rfl (Wk.own _ _)) .nil) ?_
  rfl

noncomputable def lf_constraintref16_All_L1 (k : ((List S_api_Occ)) → Option ((List S_api_Occ))) (i_5 : Nat) (q_8 : S_api_Rule) : Nat → (List S_api_Occ) → Option ((List S_api_Occ))
  | 0, out_10 =>
  (k out_10)
  | k_14 + 1, out_10 =>
  ((appO 24 out_10 [(⟨(i_5 : Int), (k_14 : Int), (decide ((k_14 : Int) < (q_8.f1_Keep.length : Int)))⟩ : S_api_Occ)]).bind fun l_15 =>
  (lf_constraintref16_All_L1 k i_5 q_8 k_14 l_15))

noncomputable def lf_constraintref16_All_L0 (k : ((List S_api_Occ)) → Option ((List S_api_Occ))) : List S_api_Rule → (List S_api_Occ) → Nat → Option ((List S_api_Occ))
  | [], out_4, i_5 =>
  (k out_4)
  | q_8 :: rest, out_4, i_5 =>
  ((downO (wr ((wr ((q_8.f1_Keep.length : Int) + (q_8.f2_Remove.length : Int))) - (1 : Int)))).bind fun m_17 =>
  (lf_constraintref16_All_L1 (fun out_13 =>
  (lf_constraintref16_All_L0 k rest out_13 (i_5 + 1))) i_5 q_8 m_17 out_4))
noncomputable def lf_constraintref16_All (p_a0 : S_api_Program) : Option ((List S_api_Occ)) :=
  (lf_constraintref16_All_L0 (fun out_7 =>
  some (out_7)) p_a0.f1_Rules [] 0)

set_option maxHeartbeats 1000000 in
theorem lg_constraintref16_All (p_a0 : S_api_Program) (res : (List S_api_Occ)) (hr : lf_constraintref16_All p_a0 = some res) : Gives Try.prog 15 [enc_S_api_Program p_a0] (.lst (res.map enc_S_api_Occ)) := by
  unfold lf_constraintref16_All at hr
  refine spec_env [(0, enc_S_api_Program p_a0)] Try.func15 rfl rfl fun K hK => ?_
  refine g_seq ?_
  refine g_run (by kernel_rfl) [(0, .d), (1, .w)] rfl ?_
  refine r_d rfl rfl rfl (s_box rfl rfl rfl) ?_
  refine r_w rfl rfl rfl (s_nilOwn 42 3 (.inl rfl)) ?_
  rintro _ _ ⟨u2_0, rfl, rfl⟩
  refine r_end ?_
  refine g_seq ?_
  refine g_run (by kernel_rfl) [(0, .w)] rfl ?_
  refine r_w rfl rfl rfl (s_nilOwn 42 3 (.inl rfl)) ?_
  rintro _ _ ⟨u3_1, rfl, rfl⟩
  refine r_end ?_
  refine g_seq ?_
  refine g_seq ?_
  refine g_run (by kernel_rfl) [(0, .d)] rfl ?_
  refine r_d rfl rfl rfl (s_assign rfl rfl) ?_
  refine r_end ?_
  obtain ⟨kk0, hkk0, hr⟩ := exK (fun k => lf_constraintref16_All_L0 k p_a0.f1_Rules [] 0) hr
  refine g_lenS 0 [1] (l := p_a0.f1_Rules.map enc_S_api_Rule) rfl rfl (asl rfl) fun hla0 => ?_
  simp only [List.length_map] at hla0
  refine g_blockJ (fun env σ => ∃ (out_7 : (List S_api_Occ)) (u_6 : Value), env = [(3, .own u_6 (out_7.map enc_S_api_Occ))] ∧ σ = [.row u_6 out_7.length 42 3] ∧ kk0 out_7 = some res) ?_ (fun HK0 => ?_)
  ·
   rintro _ _ ⟨out_7, u_6, rfl, rfl, hr⟩
   rw [hkk0] at hr
   refine g_seq ?_
   refine g_run (by kernel_rfl) [(0, .d), (1, .d)] rfl ?_
   refine r_d rfl rfl rfl (s_move rfl rfl) ?_
   refine r_d rfl rfl rfl (s_assign rfl rfl) ?_
   refine r_end ?_
   obtain rfl := Option.some.inj hr
   refine g_ret Try.func15 _ (.cons (resTmp rfl (Wk.own _ _)) .nil) ?_
   rfl
  ·
   refine g_sub [(1, .ptr (enc_S_api_Program p_a0)), (3, .own u3_1 ([].map enc_S_api_Occ)), (4, .int .i64 ((0 : Nat) : Int))] (Sub.cons' rfl (Sub.cons' rfl (Sub.cons' rfl (Sub.nil _)))) ?_
   refine g_perm [_] _ (pf0 _) ?_
   refine g_loop (fun n env σ => ∃ (out_4 : (List S_api_Occ)) (i_5 : Nat) (u_3 : Value), (n = p_a0.f1_Rules.length - i_5) ∧ (env = [(1, .ptr (enc_S_api_Program p_a0)), (3, .own u_3 (out_4.map enc_S_api_Occ)), (4, .int .i64 (i_5 : Int))]) ∧ (σ = [.row u_3 out_4.length 42 3]) ∧ (i_5 ≤ p_a0.f1_Rules.length) ∧ (lf_constraintref16_All_L0 kk0 (p_a0.f1_Rules.drop i_5) out_4 i_5 = some res)) _ ⟨[], 0, u3_1, rfl, rfl, rfl, Nat.zero_le _, hr⟩ ?_
   rintro n _ _ ⟨out_4, i_5, u_3, rfl, rfl, rfl, hi0, hr⟩ IH0
   rcases listStep p_a0.f1_Rules i_5 hi0 with ⟨ht0, hd0, he0⟩ | ⟨q_8, ht0, hd0, hq0, hlt0⟩
   ·
    rw [hd0, lf_constraintref16_All_L0] at hr
    refine g_seq ?_
    refine g_seq ?_
    refine g_run (by kernel_rfl) [(0, .d), (1, .d), (2, .d), (3, .d), (4, .d)] rfl ?_
    refine r_d rfl rfl rfl (s_move rfl rfl) ?_
    refine r_d rfl rfl rfl (s_fieldAddr rfl fl_api_Program_1 rfl rfl rfl rfl) ?_
    refine r_d rfl rfl rfl (s_load rfl rfl (by exact ty_L_api_Rule) rfl) ?_
    refine r_d rfl rfl rfl (m_len (f := enc_S_api_Rule) p_a0.f1_Rules rfl el_L_api_Rule rfl (asl rfl)) ?_
    refine r_d rfl rfl rfl (s_cmp rfl rfl rfl rfl) ?_
    refine r_end ?_
    refine g_known 11 false rfl ht0 ?_
    refine g_condF rfl ?_
    refine g_exit rfl ?_
    refine g_sub [(3, .own u_3 (out_4.map enc_S_api_Occ))] (Sub.cons' rfl (Sub.nil _)) ?_
    exact HK0 _ _ ⟨out_4, u_3, rfl, rfl, hr⟩
   ·
    rw [hd0, lf_constraintref16_All_L0] at hr
    refine g_seq ?_
    refine g_seq ?_
    refine g_run (by kernel_rfl) [(0, .d), (1, .d), (2, .d), (3, .d), (4, .d)] rfl ?_
    refine r_d rfl rfl rfl (s_move rfl rfl) ?_
    refine r_d rfl rfl rfl (s_fieldAddr rfl fl_api_Program_1 rfl rfl rfl rfl) ?_
    refine r_d rfl rfl rfl (s_load rfl rfl (by exact ty_L_api_Rule) rfl) ?_
    refine r_d rfl rfl rfl (m_len (f := enc_S_api_Rule) p_a0.f1_Rules rfl el_L_api_Rule rfl (asl rfl)) ?_
    refine r_d rfl rfl rfl (s_cmp rfl rfl rfl rfl) ?_
    refine r_end ?_
    refine g_known 11 true rfl ht0 ?_
    refine g_condT rfl ?_
    refine g_skip ?_
    refine g_seq ?_
    refine g_block ?_
    refine g_seq ?_
    refine g_run (by kernel_rfl) [(0, .d), (1, .d), (2, .d), (3, .d), (4, .d), (5, .d), (6, .d), (7, .d)] rfl ?_
    refine r_d rfl rfl rfl (s_fieldAddr rfl fl_api_Program_1 rfl rfl rfl rfl) ?_
    refine r_d rfl rfl rfl (s_load rfl rfl (by exact ty_L_api_Rule) rfl) ?_
    refine r_d rfl rfl rfl (s_move rfl rfl) ?_
    refine r_d rfl rfl rfl (m_index (f := enc_S_api_Rule) p_a0.f1_Rules rfl el_L_api_Rule rfl (asl rfl) rfl hq0 sz_S_api_Rule rfl) ?_
    refine r_d rfl rfl rfl (s_fieldAddr rfl fl_api_Rule_1 rfl rfl rfl rfl) ?_
    refine r_d rfl rfl rfl (s_load rfl rfl (by exact ty_L_api_Atom) rfl) ?_
    refine r_d rfl rfl rfl (m_len (f := encA) q_8.f1_Keep rfl el_L_api_Atom rfl (asl rfl)) ?_
    refine r_d rfl rfl rfl (s_assign rfl rfl) ?_
    refine r_end ?_
    refine g_seq ?_
    refine g_run (by kernel_rfl) [(0, .d), (1, .d), (2, .d), (3, .d), (4, .d), (5, .d), (6, .d), (7, .d), (8, .d), (9, .d), (10, .d)] rfl ?_
    refine r_d rfl rfl rfl (s_move rfl rfl) ?_
    refine r_d rfl rfl rfl (s_fieldAddr rfl fl_api_Program_1 rfl rfl rfl rfl) ?_
    refine r_d rfl rfl rfl (s_load rfl rfl (by exact ty_L_api_Rule) rfl) ?_
    refine r_d rfl rfl rfl (s_move rfl rfl) ?_
    refine r_d rfl rfl rfl (m_index (f := enc_S_api_Rule) p_a0.f1_Rules rfl el_L_api_Rule rfl (asl rfl) rfl hq0 sz_S_api_Rule rfl) ?_
    refine r_d rfl rfl rfl (s_fieldAddr rfl fl_api_Rule_2 rfl rfl rfl rfl) ?_
    refine r_d rfl rfl rfl (s_load rfl rfl (by exact ty_L_api_Atom) rfl) ?_
    refine r_d rfl rfl rfl (m_len (f := encA) q_8.f2_Remove rfl el_L_api_Atom rfl (asl rfl)) ?_
    refine r_d rfl rfl rfl (s_arW rfl rfl rfl rfl) ?_
    refine r_d rfl rfl rfl (s_arW rfl rfl rfl rfl) ?_
    refine r_d rfl rfl rfl (s_assign rfl rfl) ?_
    refine r_end ?_
    obtain ⟨m_17, hm_17, hr⟩ := bindS hr
    have hm_17' := downO_some hm_17
    obtain ⟨kk1, hkk1, hr⟩ := exK (fun k => lf_constraintref16_All_L1 k i_5 q_8 m_17 out_4) hr
    refine g_blockJ (fun env σ => ∃ (out_13 : (List S_api_Occ)) (u_12 : Value), env = [(1, .ptr (enc_S_api_Program p_a0)), (3, .own u_12 (out_13.map enc_S_api_Occ)), (4, .int .i64 (i_5 : Int))] ∧ σ = [.row u_12 out_13.length 42 3] ∧ kk1 out_13 = some res) ?_ (fun HK1 => ?_)
    ·
     rintro _ _ ⟨out_13, u_12, rfl, rfl, hr⟩
     rw [hkk1] at hr
     refine g_inBlock ?_
     refine g_run (by kernel_rfl) [(0, .d), (1, .d), (2, .d)] rfl ?_
     refine r_d rfl rfl rfl (s_move rfl rfl) ?_
     refine r_d rfl rfl rfl (s_ar (r := ((i_5 + 1 : Nat) : Int)) rfl rfl rfl (by simp [iar]) (by omega)) ?_
     refine r_d rfl rfl rfl (s_assign rfl rfl) ?_
     refine r_end ?_
     refine g_sub [(1, .ptr (enc_S_api_Program p_a0)), (3, .own u_12 (out_13.map enc_S_api_Occ)), (4, .int .i64 ((i_5 + 1 : Nat) : Int))] (Sub.cons' rfl (Sub.cons' rfl (Sub.cons' rfl (Sub.nil _)))) ?_
     exact IH0 _ _ _ (by omega) ⟨out_13, (i_5 + 1), u_12, rfl, rfl, rfl, (by omega), hr⟩
    ·
     refine g_eqD 6 (d' := .int .i64 ((m_17 : Int) - 1)) rfl (congrArg (D.int .i64) hm_17') ?_
     refine g_sub [(1, .ptr (enc_S_api_Program p_a0)), (4, .int .i64 ((i_5 : Nat) : Int)), (5, .int .i64 (q_8.f1_Keep.length : Int)), (3, .own u_3 (out_4.map enc_S_api_Occ)), (6, .int .i64 ((m_17 : Int) - 1))] (Sub.cons' rfl (Sub.cons' rfl (Sub.cons' rfl (Sub.cons' rfl (Sub.cons' rfl (Sub.nil _)))))) ?_
     refine g_loop (fun n env σ => ∃ (out_10 : (List S_api_Occ)) (k_11 : Nat) (u_9 : Value), (k_11 = n) ∧ (env = [(1, .ptr (enc_S_api_Program p_a0)), (4, .int .i64 (i_5 : Int)), (5, .int .i64 (q_8.f1_Keep.length : Int)), (3, .own u_9 (out_10.map enc_S_api_Occ)), (6, .int .i64 ((k_11 : Int) - 1))]) ∧ (σ = [.row u_9 out_10.length 42 3]) ∧ (lf_constraintref16_All_L1 kk1 i_5 q_8 k_11 out_10 = some res)) _ ⟨out_4, m_17, u_3, rfl, rfl, rfl, hr⟩ ?_
     rintro n _ _ ⟨out_10, k_11, u_9, rfl, rfl, rfl, hr⟩ IH1
     refine g_int 6 rfl fun hb1 => ?_
     rcases downStep k_11 with ⟨hm1, ht1⟩ | ⟨k_14, hm1, ht1⟩
     ·
      rw [hm1, lf_constraintref16_All_L1] at hr
      refine g_seq ?_
      refine g_seq ?_
      refine g_run (by kernel_rfl) [(0, .d), (1, .d)] rfl ?_
      refine r_d rfl rfl rfl (s_move rfl rfl) ?_
      refine r_d rfl rfl rfl (s_cmp rfl rfl rfl rfl) ?_
      refine r_end ?_
      refine g_known 32 false rfl ht1 ?_
      refine g_condF rfl ?_
      refine g_exit rfl ?_
      refine g_sub [(1, .ptr (enc_S_api_Program p_a0)), (3, .own u_9 (out_10.map enc_S_api_Occ)), (4, .int .i64 (i_5 : Int))] (Sub.cons' rfl (Sub.cons' rfl (Sub.cons' rfl (Sub.nil _)))) ?_
      exact HK1 _ _ ⟨out_10, u_9, rfl, rfl, hr⟩
     ·
      rw [hm1, lf_constraintref16_All_L1] at hr
      have ht1 : decide ((k_14 : Int) ≥ (0 : Int)) = true := decide_eq_true (by omega)
      refine g_eqD 6 (d' := .int .i64 (k_14 : Int)) rfl (by subst hm1; congr 1; omega) ?_
      refine g_seq ?_
      refine g_seq ?_
      refine g_run (by kernel_rfl) [(0, .d), (1, .d)] rfl ?_
      refine r_d rfl rfl rfl (s_move rfl rfl) ?_
      refine r_d rfl rfl rfl (s_cmp rfl rfl rfl rfl) ?_
      refine r_end ?_
      refine g_known 32 true rfl ht1 ?_
      refine g_condT rfl ?_
      refine g_skip ?_
      refine g_seq ?_
      refine g_block ?_
      refine g_run (by kernel_rfl) [(0, .d), (1, .d), (2, .d), (3, .d), (4, .d), (5, .d), (6, .d), (7, .d), (8, .w), (9, .d)] rfl ?_
      refine r_d rfl rfl rfl (s_move rfl rfl) ?_
      refine r_d rfl rfl rfl (s_move rfl rfl) ?_
      refine r_d rfl rfl rfl (s_move rfl rfl) ?_
      refine r_d rfl rfl rfl (s_move rfl rfl) ?_
      refine r_d rfl rfl rfl (s_move rfl rfl) ?_
      refine r_d rfl rfl rfl (s_cmp rfl rfl rfl rfl) ?_
      refine r_d rfl rfl rfl (s_build rfl bt_api_Occ (.cons rfl (Wk.refl _) (.cons rfl (Wk.refl _) (.cons rfl (Wk.refl _) .nil))) (.cons rfl rfl rfl (.cons rfl rfl rfl (.cons rfl rfl rfl (.nil _))))) ?_
      refine r_d rfl rfl rfl (m_lit (f := enc_S_api_Occ) [.tmp 41] [(⟨(i_5 : Int), (k_14 : Int), (decide ((k_14 : Int) < (q_8.f1_Keep.length : Int)))⟩ : S_api_Occ)] rfl el_L_api_Occ rfl rfl (by decide) (by decide) (.cons rfl (Wk.refl _) .nil) sz_S_api_Occ (fun _ => rfl)) ?_
      obtain ⟨l_15, hl_15, hr⟩ := bindS hr
      refine r_w rfl rfl rfl (m_appOwn (f := enc_S_api_Occ) out_10 [(⟨(i_5 : Int), (k_14 : Int), (decide ((k_14 : Int) < (q_8.f1_Keep.length : Int)))⟩ : S_api_Occ)] rfl el_L_api_Occ rfl rfl (asl rfl) (pf0 _) rfl sz_S_api_Occ hl_15) ?_
      rintro _ _ ⟨u43_15, rfl, rfl⟩
      refine r_d rfl rfl rfl (s_assign rfl rfl) ?_
      refine r_end ?_
      refine g_inBlock ?_
      refine g_run (by kernel_rfl) [(0, .d), (1, .d), (2, .d)] rfl ?_
      refine r_d rfl rfl rfl (s_move rfl rfl) ?_
      refine r_d rfl rfl rfl (s_ar (r := (k_14 : Int) - 1) rfl rfl rfl rfl (by omega)) ?_
      refine r_d rfl rfl rfl (s_assign rfl rfl) ?_
      refine r_end ?_
      refine g_sub [(1, .ptr (enc_S_api_Program p_a0)), (4, .int .i64 ((i_5 : Nat) : Int)), (5, .int .i64 (q_8.f1_Keep.length : Int)), (3, .own u43_15 (l_15.map enc_S_api_Occ)), (6, .int .i64 ((k_14 : Int) - 1))] (Sub.cons' rfl (Sub.cons' rfl (Sub.cons' rfl (Sub.cons' rfl (Sub.cons' rfl (Sub.nil _)))))) ?_
      exact IH1 _ _ _ (by omega) ⟨l_15, k_14, u43_15, rfl, rfl, rfl, hr⟩

noncomputable def lf_constraintref16_Heads (r_a0 : S_api_Rule) : Option ((List At)) :=
  ((appO 40 [] r_a0.f1_Keep).bind fun l_3 =>
  ((appO 40 l_3 r_a0.f2_Remove).bind fun l_5 =>
  some (l_5)))

set_option maxHeartbeats 1000000 in
theorem lg_constraintref16_Heads (r_a0 : S_api_Rule) (res : (List At)) (hr : lf_constraintref16_Heads r_a0 = some res) : Gives Try.prog 10 [enc_S_api_Rule r_a0] (.lst (res.map encA)) := by
  unfold lf_constraintref16_Heads at hr
  refine spec_env [(0, enc_S_api_Rule r_a0)] Try.func10 rfl rfl fun K hK => ?_
  refine g_seq ?_
  refine g_run (by kernel_rfl) [(0, .d), (1, .w)] rfl ?_
  refine r_d rfl rfl rfl (s_box rfl rfl rfl) ?_
  refine r_w rfl rfl rfl (s_nilOwn 37 2 (.inl rfl)) ?_
  rintro _ _ ⟨u2_0, rfl, rfl⟩
  refine r_end ?_
  refine g_seq ?_
  refine g_run (by kernel_rfl) [(0, .w)] rfl ?_
  refine r_w rfl rfl rfl (s_nilOwn 37 2 (.inl rfl)) ?_
  rintro _ _ ⟨u3_1, rfl, rfl⟩
  refine r_end ?_
  refine g_seq ?_
  refine g_run (by kernel_rfl) [(0, .d), (1, .d), (2, .d), (3, .w), (4, .d)] rfl ?_
  refine r_d rfl rfl rfl (s_move rfl rfl) ?_
  refine r_d rfl rfl rfl (s_fieldAddr rfl fl_api_Rule_1 rfl rfl rfl rfl) ?_
  refine r_d rfl rfl rfl (s_load rfl rfl (by exact ty_L_api_Atom) rfl) ?_
  obtain ⟨l_3, hl_3, hr⟩ := bindS hr
  refine r_w rfl rfl rfl (m_appOwn (f := encA) [] r_a0.f1_Keep rfl el_L_api_Atom rfl rfl (asl rfl) (pf0 _) rfl sz_encA hl_3) ?_
  rintro _ _ ⟨u7_3, rfl, rfl⟩
  refine r_d rfl rfl rfl (s_assign rfl rfl) ?_
  refine r_end ?_
  refine g_seq ?_
  refine g_run (by kernel_rfl) [(0, .d), (1, .d), (2, .d), (3, .w), (4, .d)] rfl ?_
  refine r_d rfl rfl rfl (s_move rfl rfl) ?_
  refine r_d rfl rfl rfl (s_fieldAddr rfl fl_api_Rule_2 rfl rfl rfl rfl) ?_
  refine r_d rfl rfl rfl (s_load rfl rfl (by exact ty_L_api_Atom) rfl) ?_
  obtain ⟨l_5, hl_5, hr⟩ := bindS hr
  refine r_w rfl rfl rfl (m_appOwn (f := encA) l_3 r_a0.f2_Remove rfl el_L_api_Atom rfl rfl (asl rfl) (pf0 _) rfl sz_encA hl_5) ?_
  rintro _ _ ⟨u11_5, rfl, rfl⟩
  refine r_d rfl rfl rfl (s_assign rfl rfl) ?_
  refine r_end ?_
  obtain rfl := Option.some.inj hr
  refine g_ret Try.func10 _ (.cons (resTmp rfl (Wk.own _ _)) .nil) ?_
  rfl

noncomputable def lf_constraintref16_Of_L0 (k : ((List S_api_Occ)) → Option ((List S_api_Occ))) (arity_a2 : Int) (name_a1 : ByteArray) (p_a0 : S_api_Program) : List S_api_Occ → (List S_api_Occ) → Option ((List S_api_Occ))
  | [], out_5 =>
  (k out_5)
  | q_9 :: rest, out_5 =>
  ((getI p_a0.f1_Rules q_9.f0_Rule).bind fun q_10 =>
  ((lf_constraintref16_Heads q_10).bind fun r_11 =>
  ((getI r_11 q_9.f1_Head).bind fun q_12 =>
  (bif (q_12.n.toList == name_a1.toList) then
  (bif ((q_12.ts.length : Int) == arity_a2) then
  ((appO 24 out_5 [q_9]).bind fun l_16 =>
  (lf_constraintref16_Of_L0 k arity_a2 name_a1 p_a0 rest l_16))
  else
  (lf_constraintref16_Of_L0 k arity_a2 name_a1 p_a0 rest out_5))
  else
  (lf_constraintref16_Of_L0 k arity_a2 name_a1 p_a0 rest out_5)))))
noncomputable def lf_constraintref16_Of (p_a0 : S_api_Program) (name_a1 : ByteArray) (arity_a2 : Int) : Option ((List S_api_Occ)) :=
  ((lf_constraintref16_All p_a0).bind fun r_3 =>
  (lf_constraintref16_Of_L0 (fun out_8 =>
  some (out_8)) arity_a2 name_a1 p_a0 r_3 []))

set_option maxHeartbeats 1000000 in
theorem lg_constraintref16_Of (p_a0 : S_api_Program) (name_a1 : ByteArray) (arity_a2 : Int) (res : (List S_api_Occ)) (hr : lf_constraintref16_Of p_a0 name_a1 arity_a2 = some res) : Gives Try.prog 16 [enc_S_api_Program p_a0, .str name_a1, .int .i64 arity_a2] (.lst (res.map enc_S_api_Occ)) := by
  unfold lf_constraintref16_Of at hr
  refine spec_env [(0, enc_S_api_Program p_a0), (1, .str name_a1), (2, .int .i64 arity_a2)] Try.func16 rfl rfl fun K hK => ?_
  refine g_seq ?_
  refine g_run (by kernel_rfl) [(0, .d), (1, .w)] rfl ?_
  refine r_d rfl rfl rfl (s_box rfl rfl rfl) ?_
  refine r_w rfl rfl rfl (s_nilOwn 42 3 (.inl rfl)) ?_
  rintro _ _ ⟨u6_0, rfl, rfl⟩
  refine r_end ?_
  refine g_seq ?_
  refine g_run (by kernel_rfl) [(0, .w)] rfl ?_
  refine r_w rfl rfl rfl (s_nilOwn 42 3 (.inl rfl)) ?_
  rintro _ _ ⟨u7_1, rfl, rfl⟩
  refine r_end ?_
  refine g_seq ?_
  refine g_run (by kernel_rfl) [(0, .d), (1, .d), (2, .d)] rfl ?_
  refine r_d rfl rfl rfl (s_load rfl rfl (by exact ty_api_Program) (sz_S_api_Program _)) ?_
  obtain ⟨r_3, hr_3, hr⟩ := bindS hr
  refine r_d rfl rfl rfl (s_callD rfl cl_constraintref16_All (.cons rfl (Wk.refl _) .nil) (lg_constraintref16_All _ _ hr_3)) ?_
  refine r_d rfl rfl rfl (s_assign rfl rfl) ?_
  refine r_end ?_
  refine g_seq ?_
  refine g_seq ?_
  refine g_run (by kernel_rfl) [(0, .d)] rfl ?_
  refine r_d rfl rfl rfl (s_assign rfl rfl) ?_
  refine r_end ?_
  obtain ⟨kk0, hkk0, hr⟩ := exK (fun k => lf_constraintref16_Of_L0 k arity_a2 name_a1 p_a0 r_3 []) hr
  refine g_len 12 rfl (asl rfl) fun hla0 => ?_
  simp only [List.length_map] at hla0
  refine g_blockJ (fun env σ => ∃ (out_8 : (List S_api_Occ)) (u_7 : Value), env = [(7, .own u_7 (out_8.map enc_S_api_Occ))] ∧ σ = [.row u_7 out_8.length 42 3] ∧ kk0 out_8 = some res) ?_ (fun HK0 => ?_)
  ·
   rintro _ _ ⟨out_8, u_7, rfl, rfl, hr⟩
   rw [hkk0] at hr
   refine g_seq ?_
   refine g_run (by kernel_rfl) [(0, .d), (1, .d)] rfl ?_
   refine r_d rfl rfl rfl (s_move rfl rfl) ?_
   refine r_d rfl rfl rfl (s_assign rfl rfl) ?_
   refine r_end ?_
   obtain rfl := Option.some.inj hr
   refine g_ret Try.func16 _ (.cons (resTmp rfl (Wk.own _ _)) .nil) ?_
   rfl
  ·
   refine g_sub [(1, .str name_a1), (2, .int .i64 arity_a2), (3, .ptr (enc_S_api_Program p_a0)), (8, .lst (r_3.map enc_S_api_Occ)), (7, .own u7_1 ([].map enc_S_api_Occ)), (9, .int .i64 ((0 : Nat) : Int))] (Sub.cons' rfl (Sub.cons' rfl (Sub.cons' rfl (Sub.cons' rfl (Sub.cons' rfl (Sub.cons' rfl (Sub.nil _))))))) ?_
   refine g_perm [_] _ (pf0 _) ?_
   refine g_loop (fun n env σ => ∃ (out_5 : (List S_api_Occ)) (i_6 : Nat) (u_4 : Value), (n = r_3.length - i_6) ∧ (env = [(1, .str name_a1), (2, .int .i64 arity_a2), (3, .ptr (enc_S_api_Program p_a0)), (8, .lst (r_3.map enc_S_api_Occ)), (7, .own u_4 (out_5.map enc_S_api_Occ)), (9, .int .i64 (i_6 : Int))]) ∧ (σ = [.row u_4 out_5.length 42 3]) ∧ (i_6 ≤ r_3.length) ∧ (lf_constraintref16_Of_L0 kk0 arity_a2 name_a1 p_a0 (r_3.drop i_6) out_5 = some res)) _ ⟨[], 0, u7_1, rfl, rfl, rfl, Nat.zero_le _, hr⟩ ?_
   rintro n _ _ ⟨out_5, i_6, u_4, rfl, rfl, rfl, hi0, hr⟩ IH0
   rcases listStep r_3 i_6 hi0 with ⟨ht0, hd0, he0⟩ | ⟨q_9, ht0, hd0, hq0, hlt0⟩
   ·
    rw [hd0, lf_constraintref16_Of_L0] at hr
    refine g_seq ?_
    refine g_seq ?_
    refine g_run (by kernel_rfl) [(0, .d), (1, .d), (2, .d), (3, .d)] rfl ?_
    refine r_d rfl rfl rfl (s_move rfl rfl) ?_
    refine r_d rfl rfl rfl (s_move rfl rfl) ?_
    refine r_d rfl rfl rfl (m_len (f := enc_S_api_Occ) r_3 rfl el_L_api_Occ rfl (asl rfl)) ?_
    refine r_d rfl rfl rfl (s_cmp rfl rfl rfl rfl) ?_
    refine r_end ?_
    refine g_known 16 false rfl ht0 ?_
    refine g_condF rfl ?_
    refine g_exit rfl ?_
    refine g_sub [(7, .own u_4 (out_5.map enc_S_api_Occ))] (Sub.cons' rfl (Sub.nil _)) ?_
    exact HK0 _ _ ⟨out_5, u_4, rfl, rfl, hr⟩
   ·
    rw [hd0, lf_constraintref16_Of_L0] at hr
    refine g_seq ?_
    refine g_seq ?_
    refine g_run (by kernel_rfl) [(0, .d), (1, .d), (2, .d), (3, .d)] rfl ?_
    refine r_d rfl rfl rfl (s_move rfl rfl) ?_
    refine r_d rfl rfl rfl (s_move rfl rfl) ?_
    refine r_d rfl rfl rfl (m_len (f := enc_S_api_Occ) r_3 rfl el_L_api_Occ rfl (asl rfl)) ?_
    refine r_d rfl rfl rfl (s_cmp rfl rfl rfl rfl) ?_
    refine r_end ?_
    refine g_known 16 true rfl ht0 ?_
    refine g_condT rfl ?_
    refine g_skip ?_
    refine g_seq ?_
    refine g_block ?_
    refine g_seq ?_
    refine g_any (by kernel_rfl) (by kernel_rfl) [(0, .d), (1, .d), (2, .d), (3, .d), (4, .d), (5, .d), (6, .d), (7, .d), (8, .d), (9, .d), (10, .d), (11, .d), (12, .d), (13, .d), (14, .d), (15, .d), (16, .d), (17, .w), (18, .w)] (by kernel_rfl) ?_
    refine r_d rfl rfl rfl (s_fieldAddr rfl fl_api_Program_1 rfl rfl rfl rfl) ?_
    refine r_d rfl rfl rfl (s_load rfl rfl (by exact ty_L_api_Rule) rfl) ?_
    refine r_d rfl rfl rfl (s_move rfl rfl) ?_
    refine r_d rfl rfl rfl (s_move rfl rfl) ?_
    refine r_d rfl rfl rfl (m_index (f := enc_S_api_Occ) r_3 rfl el_L_api_Occ rfl (asl rfl) rfl hq0 sz_S_api_Occ rfl) ?_
    refine r_d rfl rfl rfl (s_fieldAddr rfl fl_api_Occ_0 rfl rfl rfl rfl) ?_
    refine r_d rfl rfl rfl (s_load rfl rfl (by exact ty_int) rfl) ?_
    obtain ⟨q_10, hq_10, hr⟩ := bindS hr
    refine r_d rfl rfl rfl (m_index (f := enc_S_api_Rule) p_a0.f1_Rules rfl el_L_api_Rule rfl (asl rfl) rfl hq_10 sz_S_api_Rule rfl) ?_
    refine r_d rfl rfl rfl (s_load rfl rfl (by exact ty_api_Rule) (sz_S_api_Rule _)) ?_
    obtain ⟨r_11, hr_11, hr⟩ := bindS hr
    refine r_d rfl rfl rfl (s_callD rfl cl_constraintref16_Heads (.cons rfl (Wk.refl _) .nil) (lg_constraintref16_Heads _ _ hr_11)) ?_
    refine r_d rfl rfl rfl (s_move rfl rfl) ?_
    refine r_d rfl rfl rfl (s_move rfl rfl) ?_
    refine r_d rfl rfl rfl (m_index (f := enc_S_api_Occ) r_3 rfl el_L_api_Occ rfl (asl rfl) rfl hq0 sz_S_api_Occ rfl) ?_
    refine r_d rfl rfl rfl (s_fieldAddr rfl fl_api_Occ_1 rfl rfl rfl rfl) ?_
    refine r_d rfl rfl rfl (s_load rfl rfl (by exact ty_int) rfl) ?_
    obtain ⟨q_12, hq_12, hr⟩ := bindS hr
    refine r_d rfl rfl rfl (m_index (f := encA) r_11 rfl el_L_api_Atom rfl (asl rfl) rfl hq_12 sz_encA rfl) ?_
    refine r_d rfl rfl rfl (s_load rfl rfl (by exact ty_api_Atom) (sz_encA _)) ?_
    refine r_w rfl rfl rfl (s_alloc rfl zv_api_Atom) ?_
    rintro _ _ ⟨b10_12, rfl, rfl⟩
    refine r_w01 rfl rfl rfl (t_store0 _ rfl rfl rfl (Wk.refl _) (pf0 _) (by exact ty_api_Atom) (sz_encA _) rfl rfl) ?_
    refine r_end ?_
    refine g_freeze 10 b10_12 rfl (pf0 _) ?_
    refine g_seq ?_
    refine g_run (by kernel_rfl) [(0, .d), (1, .d), (2, .d), (3, .d), (4, .d), (5, .d), (6, .d), (7, .d), (8, .d), (9, .d), (10, .d)] rfl ?_
    refine r_d rfl rfl rfl (s_fieldAddr rfl fl_api_Atom_0 rfl rfl rfl rfl) ?_
    refine r_d rfl rfl rfl (s_load rfl rfl (by exact ty_string) rfl) ?_
    refine r_d rfl rfl rfl (s_move rfl rfl) ?_
    refine r_d rfl rfl rfl (s_cmpS rfl rfl rfl rfl) ?_
    refine r_d rfl rfl rfl (s_move rfl rfl) ?_
    refine r_sB 40 rfl hr (fun h40_13 hr => ?_) (fun h40_13 hr => ?_)
    ·
     refine r_d rfl rfl rfl (s_fieldAddr rfl fl_api_Atom_1 rfl rfl rfl rfl) ?_
     refine r_d rfl rfl rfl (s_load rfl rfl (by exact ty_L_api_Term) rfl) ?_
     refine r_d rfl rfl rfl (m_len (f := encT) q_12.ts rfl el_L_api_Term rfl (asl rfl)) ?_
     refine r_d rfl rfl rfl (s_move rfl rfl) ?_
     refine r_d rfl rfl rfl (s_cmp rfl rfl rfl rfl) ?_
     refine r_d rfl rfl rfl (s_pickT rfl rfl rfl) ?_
     refine r_end ?_
     refine g_sB 46 rfl hr (fun h46_14 hr => ?_) (fun h46_14 hr => ?_)
     ·
      refine g_condT rfl ?_
      refine g_run (by kernel_rfl) [(0, .d), (1, .d), (2, .d), (3, .d), (4, .d), (5, .d), (6, .w), (7, .d)] rfl ?_
      refine r_d rfl rfl rfl (s_move rfl rfl) ?_
      refine r_d rfl rfl rfl (s_move rfl rfl) ?_
      refine r_d rfl rfl rfl (s_move rfl rfl) ?_
      refine r_d rfl rfl rfl (m_index (f := enc_S_api_Occ) r_3 rfl el_L_api_Occ rfl (asl rfl) rfl hq0 sz_S_api_Occ rfl) ?_
      refine r_d rfl rfl rfl (s_load rfl rfl (by exact ty_api_Occ) (sz_S_api_Occ _)) ?_
      refine r_d rfl rfl rfl (m_lit (f := enc_S_api_Occ) [.tmp 51] [q_9] rfl el_L_api_Occ rfl rfl (by decide) (by decide) (.cons rfl (Wk.refl _) .nil) sz_S_api_Occ (fun _ => rfl)) ?_
      obtain ⟨l_16, hl_16, hr⟩ := bindS hr
      refine r_w rfl rfl rfl (m_appOwn (f := enc_S_api_Occ) out_5 [q_9] rfl el_L_api_Occ rfl rfl (asl rfl) (pf0 _) rfl sz_S_api_Occ hl_16) ?_
      rintro _ _ ⟨u53_16, rfl, rfl⟩
      refine r_d rfl rfl rfl (s_assign rfl rfl) ?_
      refine r_end ?_
      refine g_inBlock ?_
      refine g_run (by kernel_rfl) [(0, .d), (1, .d), (2, .d)] rfl ?_
      refine r_d rfl rfl rfl (s_move rfl rfl) ?_
      refine r_d rfl rfl rfl (s_ar (r := ((i_6 + 1 : Nat) : Int)) rfl rfl rfl (by simp [iar]) (by omega)) ?_
      refine r_d rfl rfl rfl (s_assign rfl rfl) ?_
      refine r_end ?_
      refine g_sub [(1, .str name_a1), (2, .int .i64 arity_a2), (3, .ptr (enc_S_api_Program p_a0)), (8, .lst (r_3.map enc_S_api_Occ)), (7, .own u53_16 (l_16.map enc_S_api_Occ)), (9, .int .i64 ((i_6 + 1 : Nat) : Int))] (Sub.cons' rfl (Sub.cons' rfl (Sub.cons' rfl (Sub.cons' rfl (Sub.cons' rfl (Sub.cons' rfl (Sub.nil _))))))) ?_
      exact IH0 _ _ _ (by omega) ⟨l_16, (i_6 + 1), u53_16, rfl, rfl, rfl, (by omega), hr⟩
     ·
      refine g_condF rfl ?_
      refine g_skip ?_
      refine g_inBlock ?_
      refine g_run (by kernel_rfl) [(0, .d), (1, .d), (2, .d)] rfl ?_
      refine r_d rfl rfl rfl (s_move rfl rfl) ?_
      refine r_d rfl rfl rfl (s_ar (r := ((i_6 + 1 : Nat) : Int)) rfl rfl rfl (by simp [iar]) (by omega)) ?_
      refine r_d rfl rfl rfl (s_assign rfl rfl) ?_
      refine r_end ?_
      refine g_sub [(1, .str name_a1), (2, .int .i64 arity_a2), (3, .ptr (enc_S_api_Program p_a0)), (8, .lst (r_3.map enc_S_api_Occ)), (7, .own u_4 (out_5.map enc_S_api_Occ)), (9, .int .i64 ((i_6 + 1 : Nat) : Int))] (Sub.cons' rfl (Sub.cons' rfl (Sub.cons' rfl (Sub.cons' rfl (Sub.cons' rfl (Sub.cons' rfl (Sub.nil _))))))) ?_
      exact IH0 _ _ _ (by omega) ⟨out_5, (i_6 + 1), u_4, rfl, rfl, rfl, (by omega), hr⟩
    ·
     refine r_skip rfl rfl rfl ?_
     refine r_skip rfl rfl rfl ?_
     refine r_skip rfl rfl rfl ?_
     refine r_skip rfl rfl rfl ?_
     refine r_skip rfl rfl rfl ?_
     refine r_d rfl rfl rfl (s_pickF rfl rfl rfl) ?_
     refine r_end ?_
     refine g_condF rfl ?_
     refine g_skip ?_
     refine g_inBlock ?_
     refine g_run (by kernel_rfl) [(0, .d), (1, .d), (2, .d)] rfl ?_
     refine r_d rfl rfl rfl (s_move rfl rfl) ?_
     refine r_d rfl rfl rfl (s_ar (r := ((i_6 + 1 : Nat) : Int)) rfl rfl rfl (by simp [iar]) (by omega)) ?_
     refine r_d rfl rfl rfl (s_assign rfl rfl) ?_
     refine r_end ?_
     refine g_sub [(1, .str name_a1), (2, .int .i64 arity_a2), (3, .ptr (enc_S_api_Program p_a0)), (8, .lst (r_3.map enc_S_api_Occ)), (7, .own u_4 (out_5.map enc_S_api_Occ)), (9, .int .i64 ((i_6 + 1 : Nat) : Int))] (Sub.cons' rfl (Sub.cons' rfl (Sub.cons' rfl (Sub.cons' rfl (Sub.cons' rfl (Sub.cons' rfl (Sub.nil _))))))) ?_
     exact IH0 _ _ _ (by omega) ⟨out_5, (i_6 + 1), u_4, rfl, rfl, rfl, (by omega), hr⟩

end Go.Proofs.Ytnldggbcfcibaaa


namespace Go.Proofs.Ytnldggbcfcibaaa
set_option maxRecDepth 100000
open Go.RowKit

/-- What is handed to the rounds: the heads of a rule from the last on. -/
noncomputable def eachL1 (k : List (S_api_Occ × At) → Option (List (S_api_Occ × At))) (i : Nat) (q : S_api_Rule) (hs : List At) : Nat → List (S_api_Occ × At) → Option (List (S_api_Occ × At))
  | 0, tr => k tr
  | m + 1, tr => (getI hs (m : Int)).bind fun h => bif decide (tr.length < 1000000000) then eachL1 k i q hs m (tr ++ [(⟨(i : Int), (m : Int), decide ((m : Int) < (q.f1_Keep.length : Int))⟩, h)]) else none
noncomputable def eachL0 (k : List (S_api_Occ × At) → Option (List (S_api_Occ × At))) : List S_api_Rule → List (S_api_Occ × At) → Nat → Option (List (S_api_Occ × At))
  | [], tr, _ => k tr
  | q :: rest, tr, i => (lf_occur_Heads q).bind fun hs => (downO (wr ((hs.length : Int) - 1))).bind fun m => eachL1 (fun tr => eachL0 k rest tr (i + 1)) i q hs m tr
noncomputable def eachO (p : S_api_Program) : Option (List (S_api_Occ × At)) := eachL0 some p.f1_Rules [] 0

set_option maxHeartbeats 1000000 in
theorem lg_each (p : S_api_Program) (l : Nat) (Y : List (S_api_Occ × At) → St → Prop)
    (hY : ∀ tr x σ, tr.length < 1000000000 → Y tr σ → YSpec Try.prog l [enc_S_api_Occ x.1, encA x.2] σ fun d σ' => d = .bool true ∧ Y (tr ++ [x]) σ')
    (res : List (S_api_Occ × At)) (hr : eachO p = some res) (σ0 : St) (h0 : Y [] σ0) : Spec Try.prog 71 [.clo (.yield l) [] [], .ptr (enc_S_api_Program p)] σ0 fun _ σ => Y res σ := by
  unfold eachO at hr
  refine spec_env [(0, .clo (.yield l) [] []), (1, .ptr (enc_S_api_Program p))] Try.func71 rfl rfl fun K hK => ?_
  refine g_seq ?_
  refine g_run (by kernel_rfl) [(0, .d), (1, .d), (2, .d), (3, .d)] rfl ?_
  refine r_d rfl rfl rfl (s_fieldAddr rfl fl_api_Program_1 rfl rfl rfl rfl) ?_
  refine r_d rfl rfl rfl (s_load rfl rfl (by exact ty_L_api_Rule) rfl) ?_
  refine r_d rfl rfl rfl (m_len (f := enc_S_api_Rule) p.f1_Rules rfl el_L_api_Rule rfl (asl rfl)) ?_
  refine r_d rfl rfl rfl (s_move rfl rfl) ?_
  refine r_end ?_
  obtain ⟨kk0, hkk0, hr⟩ := exK (fun k => eachL0 k p.f1_Rules [] 0) hr
  refine g_lenS 8 [] (l := p.f1_Rules.map enc_S_api_Rule) rfl rfl (asl rfl) fun hla0 => ?_
  simp only [List.length_map] at hla0
  refine g_blockJ (fun env σ => ∃ tr, env = [] ∧ Y tr σ ∧ kk0 tr = some res) ?_ (fun HK0 => ?_)
  ·
   rintro _ σ ⟨tr, rfl, hσ, hr⟩
   rw [hkk0] at hr
   obtain rfl := Option.some.inj hr
   refine g_end Try.func71 _ .nil ?_
   exact hσ
  ·
   refine g_sub [(0, .clo (.yield l) [] []), (8, .lst (p.f1_Rules.map enc_S_api_Rule)), (9, .int .i64 (p.f1_Rules.length : Int)), (10, .int .i64 ((0 : Nat) : Int))] (Sub.cons' rfl (Sub.cons' rfl (Sub.cons' rfl (Sub.cons' rfl (Sub.nil _))))) ?_
   refine g_loop (fun n env σ => ∃ (tr : List (S_api_Occ × At)) (i : Nat), (n = p.f1_Rules.length - i) ∧ (env = [(0, .clo (.yield l) [] []), (8, .lst (p.f1_Rules.map enc_S_api_Rule)), (9, .int .i64 (p.f1_Rules.length : Int)), (10, .int .i64 (i : Int))]) ∧ Y tr σ ∧ i ≤ p.f1_Rules.length ∧ eachL0 kk0 (p.f1_Rules.drop i) tr i = some res) (p.f1_Rules.length - 0) ⟨[], 0, rfl, rfl, h0, Nat.zero_le _, hr⟩ ?_
   rintro n _ σ ⟨tr, i, rfl, rfl, hσ, hi0, hr⟩ IH0
   rcases listStep p.f1_Rules i hi0 with ⟨ht0, hd0, he0⟩ | ⟨q, ht0, hd0, hq0, hlt0⟩
   ·
    rw [hd0, eachL0] at hr
    refine g_seq ?_
    refine g_run (by kernel_rfl) [(0, .d)] rfl ?_
    refine r_d rfl rfl rfl (s_cmp rfl rfl rfl rfl) ?_
    refine r_end ?_
    refine g_seq ?_
    refine g_known 11 false rfl ht0 ?_
    refine g_condF rfl ?_
    refine g_exit rfl ?_
    refine g_sub [] (Sub.nil _) ?_
    exact HK0 _ _ ⟨tr, rfl, hσ, hr⟩
   ·
    rw [hd0, eachL0] at hr
    refine g_seq ?_
    refine g_run (by kernel_rfl) [(0, .d)] rfl ?_
    refine r_d rfl rfl rfl (s_cmp rfl rfl rfl rfl) ?_
    refine r_end ?_
    refine g_seq ?_
    refine g_known 11 true rfl ht0 ?_
    refine g_condT rfl ?_
    refine g_skip ?_
    refine g_seq ?_
    refine g_block ?_
    refine g_seq ?_
    refine g_run (by kernel_rfl) [(0, .d), (1, .d), (2, .d), (3, .w), (4, .d), (5, .w)] rfl ?_
    refine r_d rfl rfl rfl (s_move rfl rfl) ?_
    refine r_d rfl rfl rfl (m_index (f := enc_S_api_Rule) p.f1_Rules rfl el_L_api_Rule rfl (asl rfl) rfl hq0 sz_S_api_Rule rfl) ?_
    refine r_d rfl rfl rfl (s_load rfl rfl (by exact ty_api_Rule) (sz_S_api_Rule _)) ?_
    refine r_w rfl rfl rfl (s_alloc rfl zv_api_Rule) ?_
    rintro _ _ ⟨b4, rfl, rfl⟩
    refine r_d rfl rfl rfl (s_assign rfl rfl) ?_
    refine r_w01 rfl rfl rfl (t_store0 _ rfl rfl rfl (Wk.refl _) (pf0 _) (by exact ty_api_Rule) (sz_S_api_Rule _) rfl rfl) ?_
    refine r_end ?_
    refine g_freeze 4 b4 rfl (pf0 _) ?_
    obtain ⟨hs, hhs, hr⟩ := bindS hr
    obtain ⟨m0, hm0, hr⟩ := bindS hr
    have hm0' := downO_some hm0
    refine g_seq ?_
    refine g_run (by kernel_rfl) [(0, .d), (1, .d), (2, .d)] rfl ?_
    refine r_d rfl rfl rfl (s_load rfl rfl (by exact ty_api_Rule) (sz_S_api_Rule _)) ?_
    refine r_d rfl rfl rfl (s_callD rfl cl_occur_Heads (.cons rfl (Wk.refl _) .nil) (lg_occur_Heads _ _ hhs)) ?_
    refine r_d rfl rfl rfl (s_assign rfl rfl) ?_
    refine r_end ?_
    refine g_seq ?_
    refine g_run (by kernel_rfl) [(0, .d), (1, .d), (2, .d), (3, .d)] rfl ?_
    refine r_d rfl rfl rfl (s_move rfl rfl) ?_
    refine r_d rfl rfl rfl (m_len (f := encA) hs rfl el_L_api_Atom rfl (asl rfl)) ?_
    refine r_d rfl rfl rfl (s_arW rfl rfl rfl rfl) ?_
    refine r_d rfl rfl rfl (s_assign rfl rfl) ?_
    refine r_end ?_
    obtain ⟨kk1, hkk1, hr⟩ := exK (fun k => eachL1 k i q hs m0 tr) hr
    refine g_blockJ (fun env σ => ∃ tr, env = [(0, .clo (.yield l) [] []), (8, .lst (p.f1_Rules.map enc_S_api_Rule)), (9, .int .i64 (p.f1_Rules.length : Int)), (10, .int .i64 (i : Int))] ∧ Y tr σ ∧ kk1 tr = some res) ?_ (fun HK1 => ?_)
    ·
     rintro _ σ ⟨tr, rfl, hσ, hr⟩
     rw [hkk1] at hr
     refine g_inBlock ?_
     refine g_run (by kernel_rfl) [(0, .d), (1, .d)] rfl ?_
     refine r_d rfl rfl rfl (s_ar (r := ((i + 1 : Nat) : Int)) rfl rfl rfl (by simp [iar]) (by omega)) ?_
     refine r_d rfl rfl rfl (s_move rfl rfl) ?_
     refine r_end ?_
     refine g_sub [(0, .clo (.yield l) [] []), (8, .lst (p.f1_Rules.map enc_S_api_Rule)), (9, .int .i64 (p.f1_Rules.length : Int)), (10, .int .i64 ((i + 1 : Nat) : Int))] (Sub.cons' rfl (Sub.cons' rfl (Sub.cons' rfl (Sub.cons' rfl (Sub.nil _))))) ?_
     exact IH0 _ _ _ (by omega) ⟨tr, i + 1, rfl, rfl, hσ, by omega, hr⟩
    ·
     refine g_eqD 6 (d' := .int .i64 ((m0 : Int) - 1)) rfl (congrArg (D.int .i64) hm0') ?_
     refine g_sub [(0, .clo (.yield l) [] []), (3, .int .i64 (i : Int)), (4, .ptr (enc_S_api_Rule q)), (5, .lst (hs.map encA)), (8, .lst (p.f1_Rules.map enc_S_api_Rule)), (9, .int .i64 (p.f1_Rules.length : Int)), (10, .int .i64 (i : Int)), (6, .int .i64 ((m0 : Int) - 1))] (Sub.cons' rfl (Sub.cons' rfl (Sub.cons' rfl (Sub.cons' rfl (Sub.cons' rfl (Sub.cons' rfl (Sub.cons' rfl (Sub.cons' rfl (Sub.nil _))))))))) ?_
     refine g_loop (fun n env σ => ∃ (tr : List (S_api_Occ × At)) (m : Nat), (m = n) ∧ (env = [(0, .clo (.yield l) [] []), (3, .int .i64 (i : Int)), (4, .ptr (enc_S_api_Rule q)), (5, .lst (hs.map encA)), (8, .lst (p.f1_Rules.map enc_S_api_Rule)), (9, .int .i64 (p.f1_Rules.length : Int)), (10, .int .i64 (i : Int)), (6, .int .i64 ((m : Int) - 1))]) ∧ Y tr σ ∧ eachL1 kk1 i q hs m tr = some res) m0 ⟨tr, m0, rfl, rfl, hσ, hr⟩ ?_
     clear hr hσ
     rintro n _ σ ⟨tr, m, rfl, rfl, hσ, hr⟩ IH1
     refine g_int 6 rfl fun hb1 => ?_
     rcases downStep m with ⟨hm1, ht1⟩ | ⟨m', hm1, ht1⟩
     ·
      rw [hm1, eachL1] at hr
      refine g_seq ?_
      refine g_seq ?_
      refine g_run (by kernel_rfl) [(0, .d), (1, .d)] rfl ?_
      refine r_d rfl rfl rfl (s_move rfl rfl) ?_
      refine r_d rfl rfl rfl (s_cmp rfl rfl rfl rfl) ?_
      refine r_end ?_
      refine g_known 21 false rfl ht1 ?_
      refine g_condF rfl ?_
      refine g_exit rfl ?_
      refine g_sub [(0, .clo (.yield l) [] []), (8, .lst (p.f1_Rules.map enc_S_api_Rule)), (9, .int .i64 (p.f1_Rules.length : Int)), (10, .int .i64 (i : Int))] (Sub.cons' rfl (Sub.cons' rfl (Sub.cons' rfl (Sub.cons' rfl (Sub.nil _))))) ?_
      exact HK1 _ _ ⟨tr, rfl, hσ, hr⟩
     ·
      rw [hm1, eachL1] at hr
      have ht1 : decide ((m' : Int) ≥ (0 : Int)) = true := decide_eq_true (by omega)
      refine g_eqD 6 (d' := .int .i64 (m' : Int)) rfl (by subst hm1; congr 1; omega) ?_
      obtain ⟨h, hh, hr⟩ := bindS hr
      obtain ⟨hlen, hr⟩ : tr.length < 1000000000 ∧ eachL1 kk1 i q hs m' (tr ++ [(⟨(i : Int), (m' : Int), decide ((m' : Int) < (q.f1_Keep.length : Int))⟩, h)]) = some res := by
        by_cases hlt : tr.length < 1000000000
        · rw [decide_eq_true hlt] at hr; exact ⟨hlt, hr⟩
        · rw [decide_eq_false hlt] at hr; cases hr
      refine g_seq ?_
      refine g_seq ?_
      refine g_run (by kernel_rfl) [(0, .d), (1, .d)] rfl ?_
      refine r_d rfl rfl rfl (s_move rfl rfl) ?_
      refine r_d rfl rfl rfl (s_cmp rfl rfl rfl rfl) ?_
      refine r_end ?_
      refine g_known 21 true rfl ht1 ?_
      refine g_condT rfl ?_
      refine g_skip ?_
      refine g_seq ?_
      refine g_block ?_
      refine g_seq ?_
      refine g_any (by kernel_rfl) (by kernel_rfl) [(0, .d), (1, .d), (2, .d), (3, .d), (4, .d), (5, .d), (6, .d), (7, .d), (8, .d), (9, .d), (10, .d), (11, .d), (12, .d), (13, .w), (14, .d)] (by kernel_rfl) ?_
      refine r_d rfl rfl rfl (s_move rfl rfl) ?_
      refine r_d rfl rfl rfl (s_move rfl rfl) ?_
      refine r_d rfl rfl rfl (s_move rfl rfl) ?_
      refine r_d rfl rfl rfl (s_move rfl rfl) ?_
      refine r_d rfl rfl rfl (s_fieldAddr rfl fl_api_Rule_1 rfl rfl rfl rfl) ?_
      refine r_d rfl rfl rfl (s_load rfl rfl (by exact ty_L_api_Atom) rfl) ?_
      refine r_d rfl rfl rfl (m_len (f := encA) q.f1_Keep rfl el_L_api_Atom rfl (asl rfl)) ?_
      refine r_d rfl rfl rfl (s_cmp rfl rfl rfl rfl) ?_
      refine r_d rfl rfl rfl (s_build rfl bt_api_Occ (.cons rfl (Wk.refl _) (.cons rfl (Wk.refl _) (.cons rfl (Wk.refl _) .nil))) (.cons rfl rfl rfl (.cons rfl rfl rfl (.cons rfl rfl rfl (.nil _))))) ?_
      refine r_d rfl rfl rfl (s_move rfl rfl) ?_
      refine r_d rfl rfl rfl (s_move rfl rfl) ?_
      refine r_d rfl rfl rfl (m_index (f := encA) hs rfl el_L_api_Atom rfl (asl rfl) rfl hh sz_encA rfl) ?_
      refine r_d rfl rfl rfl (s_load rfl rfl (by exact ty_api_Atom) (sz_encA _)) ?_
      refine r_y rfl rfl rfl (s_yield (σ1 := σ) [] rfl rfl (.cons rfl (Wk.refl _) (.cons rfl (Wk.refl _) .nil)) (by simp) (hY tr (⟨(i : Int), (m' : Int), decide ((m' : Int) < (q.f1_Keep.length : Int))⟩, h) σ hlen hσ)) ?_
      rintro _ _ ⟨σ2, ⟨rfl, hσ2⟩, rfl⟩
      rw [List.append_nil]
      refine r_d rfl rfl rfl (s_not rfl rfl) ?_
      refine r_end ?_
      refine g_condF rfl ?_
      refine g_skip ?_
      refine g_inBlock ?_
      refine g_run (by kernel_rfl) [(0, .d), (1, .d), (2, .d)] rfl ?_
      refine r_d rfl rfl rfl (s_move rfl rfl) ?_
      refine r_d rfl rfl rfl (s_ar (r := (m' : Int) - 1) rfl rfl rfl rfl (by omega)) ?_
      refine r_d rfl rfl rfl (s_assign rfl rfl) ?_
      refine r_end ?_
      refine g_sub [(0, .clo (.yield l) [] []), (3, .int .i64 (i : Int)), (4, .ptr (enc_S_api_Rule q)), (5, .lst (hs.map encA)), (8, .lst (p.f1_Rules.map enc_S_api_Rule)), (9, .int .i64 (p.f1_Rules.length : Int)), (10, .int .i64 (i : Int)), (6, .int .i64 ((m' : Int) - 1))] (Sub.cons' rfl (Sub.cons' rfl (Sub.cons' rfl (Sub.cons' rfl (Sub.cons' rfl (Sub.cons' rfl (Sub.cons' rfl (Sub.cons' rfl (Sub.nil _))))))))) ?_
      exact IH1 _ _ _ (by omega) ⟨_, m', rfl, rfl, hσ2, hr⟩

theorem lg_occur_each (p : S_api_Program) : Gives Try.prog 58 [enc_S_api_Program p] (.clo (.func 71) [] [.ptr (enc_S_api_Program p)]) := by
  refine spec_env [(0, enc_S_api_Program p)] Try.func58 rfl rfl fun K hK => ?_
  refine g_seq ?_
  refine g_run (by kernel_rfl) [(0, .d), (1, .d)] rfl ?_
  refine r_d rfl rfl rfl (s_box rfl rfl rfl) ?_
  refine r_d rfl rfl rfl (s_assign rfl rfl) ?_
  refine r_end ?_
  refine g_seq ?_
  refine g_run (by kernel_rfl) [(0, .d), (1, .d)] rfl ?_
  refine r_d rfl rfl rfl (s_makeFunc rfl rfl rfl) ?_
  refine r_d rfl rfl rfl (s_assign rfl rfl) ?_
  refine r_end ?_
  refine g_ret Try.func58 _ (.cons (resTmp rfl (Wk.refl _)) .nil) ?_
  rfl

/-- Is it an occurrence of the constraint? -/
noncomputable def isOf (name : ByteArray) (arity : Int) (x : S_api_Occ × At) : Bool := x.2.n.toList == name.toList && ((x.2.ts.length : Int) == arity)
noncomputable def x_occOf (p : S_api_Program) (name : ByteArray) (arity : Int) : Option (List S_api_Occ) := (eachO p).bind fun tr => bif decide (tr.length < 1000000000) then some ((tr.filter (isOf name arity)).map (·.1)) else none

/-- What Of has collected. -/
def OfS (b7 : Nat) (name : ByteArray) (arity : Int) (tr : List (S_api_Occ × At)) (σ : St) : Prop :=
  ∃ u, σ = [.cell b7 (.own u (((tr.filter (isOf name arity)).map (·.1)).map enc_S_api_Occ)), .row u ((tr.filter (isOf name arity)).map (·.1)).length 42 3]

set_option maxHeartbeats 1000000 in
theorem lx_occur_Of (p : S_api_Program) (name : ByteArray) (arity : Int) (res : List S_api_Occ) (h : x_occOf p name arity = some res) : Gives Try.prog 46 [enc_S_api_Program p, .str name, .int .i64 arity] (.lst (res.map enc_S_api_Occ)) := by
  unfold x_occOf at h
  obtain ⟨tr, htr, h⟩ := bindS h
  obtain ⟨hlen, rfl⟩ : tr.length < 1000000000 ∧ (tr.filter (isOf name arity)).map (·.1) = res := by
    by_cases hlt : tr.length < 1000000000
    · rw [decide_eq_true hlt] at h; exact ⟨hlt, Option.some.inj h⟩
    · rw [decide_eq_false hlt] at h; cases h
  refine spec_env [(0, enc_S_api_Program p), (1, .str name), (2, .int .i64 arity)] Try.func46 rfl rfl fun K hK => ?_
  refine g_seq ?_
  refine g_run (by kernel_rfl) [(0, .d), (1, .d), (2, .d), (3, .d)] rfl ?_
  refine r_d rfl rfl rfl (s_box rfl rfl rfl) ?_
  refine r_d rfl rfl rfl (s_box rfl rfl rfl) ?_
  refine r_d rfl rfl rfl (s_box rfl rfl rfl) ?_
  refine r_d rfl rfl rfl (s_assign rfl rfl) ?_
  refine r_end ?_
  refine g_seq ?_
  refine g_run (by kernel_rfl) [(0, .w)] rfl ?_
  refine r_w rfl rfl rfl (s_allocOwn (el := 42) (s := 3) rfl zv_L_api_Occ) ?_
  rintro _ _ ⟨b7, u7, rfl, rfl⟩
  refine r_end ?_
  refine g_seq ?_
  refine g_seq ?_
  refine g_run (by kernel_rfl) [(0, .d), (1, .d)] rfl ?_
  refine r_d rfl rfl rfl (s_load rfl rfl (by exact ty_api_Program) (sz_S_api_Program _)) ?_
  refine r_d rfl rfl rfl (s_callD rfl cl_occur_each (.cons rfl (Wk.refl _) .nil) (lg_occur_each p)) ?_
  refine r_end ?_
  refine g_block ?_
  refine g_sub [(4, .ptr (.str name)), (5, .ptr (.int .i64 arity)), (7, .ref b7 0 []), (11, .clo (.func 71) [] [.ptr (enc_S_api_Program p)])] (Sub.cons' rfl (Sub.cons' rfl (Sub.cons' rfl (Sub.cons' rfl (Sub.nil _))))) ?_
  refine g_rangeFunc (fun j σ => j = none ∧ OfS b7 name arity tr σ) [] rfl rfl cl_occur_each_1 (by simp; exact List.Perm.refl _) (fun l D tmps hsz => ?_) ?_
  · -- the iterator
    refine specMono (lg_each p l (fun tr σ => ∃ σ1, σ = .loop l [(4, .ptr (.str name)), (5, .ptr (.int .i64 arity)), (7, .ref b7 0 []), (11, .clo (.func 71) [] [.ptr (enc_S_api_Program p)])] (rec0 46 tmps _ _ _ D) :: σ1 ∧ OfS b7 name arity tr σ1) (fun tr x σ hl hσ => ?_) tr htr _ ⟨_, rfl, u7, rfl⟩) ?_
    · obtain ⟨σ1, rfl, u, rfl⟩ := hσ
      refine y_round rfl Try.func46 hsz (by kernel_rfl) fun K hK => ?_
      refine g_sub [(13, encA x.2), (12, enc_S_api_Occ x.1), (4, .ptr (.str name)), (5, .ptr (.int .i64 arity)), (7, .ref b7 0 [])] (Sub.cons' rfl (Sub.cons' rfl (Sub.cons' rfl (Sub.cons' rfl (Sub.cons' rfl (Sub.nil _)))))) ?_
      refine g_seq ?_
      refine n_run (by kernel_rfl) [(0, .w), (1, .w)] rfl ?_
      refine r_w rfl rfl rfl (s_alloc rfl zv_api_Occ) ?_
      rintro _ _ ⟨b8, rfl, rfl⟩
      refine r_w01 rfl rfl rfl (t_store0 _ rfl rfl rfl (Wk.refl _) (pf0 _) (by exact ty_api_Occ) (sz_S_api_Occ _) rfl rfl) ?_
      refine r_end ?_
      refine g_freeze 8 b8 rfl (pf0 _) ?_
      refine n_run (by kernel_rfl) [(0, .w), (1, .w)] rfl ?_
      refine r_w rfl rfl rfl (s_alloc rfl zv_api_Atom) ?_
      rintro _ _ ⟨b9, rfl, rfl⟩
      refine r_w01 rfl rfl rfl (t_store0 _ rfl rfl rfl (Wk.refl _) (pf0 _) (by exact ty_api_Atom) (sz_encA _) rfl rfl) ?_
      refine r_end ?_
      refine g_freeze 9 b9 rfl (pf0 _) ?_
      refine n_begin rfl (pf0 _) ?_
      refine g_block ?_
      refine g_seq ?_
      refine n_run (by kernel_rfl) [(0, .d), (1, .d), (2, .d), (3, .d), (4, .d), (5, .d), (6, .d), (7, .d), (8, .d), (9, .d), (10, .d)] rfl ?_
      refine r_d rfl rfl rfl (s_fieldAddr rfl fl_api_Atom_0 rfl rfl rfl rfl) ?_
      refine r_d rfl rfl rfl (s_load rfl rfl (by exact ty_string) rfl) ?_
      refine r_d rfl rfl rfl (s_load rfl rfl (by exact ty_string) rfl) ?_
      refine r_d rfl rfl rfl (s_cmpS rfl rfl rfl rfl) ?_
      refine r_d rfl rfl rfl (s_move rfl rfl) ?_
      refine r_split 18 rfl (fun h18 => ?_) (fun h18 => ?_)
      · refine r_d rfl rfl rfl (s_fieldAddr rfl fl_api_Atom_1 rfl rfl rfl rfl) ?_
        refine r_d rfl rfl rfl (s_load rfl rfl (by exact ty_L_api_Term) rfl) ?_
        refine r_d rfl rfl rfl (m_len (f := encT) x.2.ts rfl el_L_api_Term rfl (asl rfl)) ?_
        refine r_d rfl rfl rfl (s_load rfl rfl (by exact ty_int) rfl) ?_
        refine r_d rfl rfl rfl (s_cmp rfl rfl rfl rfl) ?_
        refine r_d rfl rfl rfl (s_pickT rfl rfl rfl) ?_
        refine r_end ?_
        refine g_split 24 rfl (fun h24 => ?_) (fun h24 => ?_)
        · have hx : isOf name arity x = true := by
            unfold isOf
            rw [Bool.and_eq_true]
            exact ⟨h18, h24⟩
          refine g_condT rfl ?_
          have hsz2 : (tr.filter (isOf name arity)).length < 1000000000 := Nat.lt_of_le_of_lt (List.length_filter_le _ _) hl
          obtain ⟨l2, hl2, hl3⟩ : ∃ l2, appO 24 ((tr.filter (isOf name arity)).map (·.1)) [x.1] = some l2 ∧ l2 = ((tr ++ [x]).filter (isOf name arity)).map (·.1) := ⟨_, by unfold appO; exact if_pos ⟨by simp; omega, by simp; omega⟩, by simp [List.filter_append, hx]⟩
          refine n_run (by kernel_rfl) [(0, .r), (1, .d), (2, .d), (3, .w), (4, .w)] rfl ?_
          refine r_r rfl rfl rfl (t_loadRef rfl rfl (.tail _ (.head _)) rfl rfl (by exact ty_L_api_Occ) rfl) ?_
          refine r_d rfl rfl rfl (s_load rfl rfl (by exact ty_api_Occ) (sz_S_api_Occ _)) ?_
          refine r_d rfl rfl rfl (m_lit (f := enc_S_api_Occ) [.tmp 26] [x.1] rfl el_L_api_Occ rfl rfl (by decide) (by decide) (.cons rfl (Wk.refl _) .nil) sz_S_api_Occ (fun _ => rfl)) ?_
          refine r_w rfl rfl rfl (m_appOwn (f := enc_S_api_Occ) (by_ := 24) (r := l2) ((tr.filter (isOf name arity)).map (·.1)) [x.1] rfl el_L_api_Occ rfl rfl (asl rfl) (permLast3 _ _ _) rfl sz_S_api_Occ (by exact hl2)) ?_
          rintro _ _ ⟨u2, rfl, rfl⟩
          refine r_w01 rfl rfl rfl (t_store0 _ rfl rfl rfl (Wk.refl _) (permLast3 _ _ _) (by exact ty_L_api_Occ) rfl rfl rfl) ?_
          refine r_end ?_
          refine g_inBlock ?_
          refine n_rend (permLast3 _ _ _) ⟨rfl, _, rfl, u2, ?_⟩
          rw [← hl3]
        · have hx : isOf name arity x = false := by
            unfold isOf
            rw [show ((x.2.ts.length : Int) == arity) = false from h24]
            exact Bool.and_false _
          refine g_condF rfl ?_
          refine g_skip ?_
          refine g_inBlock ?_
          refine n_rend (pf0 _) ⟨rfl, _, rfl, u, ?_⟩
          simp [List.filter_append, hx]
      · have hx : isOf name arity x = false := by
          unfold isOf
          rw [show (x.2.n.toList == name.toList) = false from h18]
          rfl
        refine r_skip rfl rfl rfl ?_
        refine r_skip rfl rfl rfl ?_
        refine r_skip rfl rfl rfl ?_
        refine r_skip rfl rfl rfl ?_
        refine r_skip rfl rfl rfl ?_
        refine r_d rfl rfl rfl (s_pickF rfl rfl rfl) ?_
        refine r_end ?_
        refine g_condF rfl ?_
        refine g_skip ?_
        refine g_inBlock ?_
        refine n_rend (pf0 _) ⟨rfl, _, rfl, u, ?_⟩
        simp [List.filter_append, hx]
    · rintro _ σ ⟨σ1, rfl, h1⟩
      exact ⟨.ready, none, σ1, by simp, rfl, rfl, h1⟩
  · rintro D jump σ1 ⟨rfl, u, rfl⟩
    refine g_inBlock ?_
    refine g_seq ?_
    refine n_run (by kernel_rfl) [(0, .r), (1, .d)] rfl ?_
    refine r_r rfl rfl rfl (t_loadRef rfl rfl (.tail _ (.head _)) rfl rfl (by exact ty_L_api_Occ) rfl) ?_
    refine r_d rfl rfl rfl (s_assign rfl rfl) ?_
    refine r_end ?_
    refine n_ret (ms := [D]) _ (pf0 _) (.cons (resTmp rfl (Wk.own _ _)) .nil) ?_
    rfl
end Go.Proofs.Ytnldggbcfcibaaa

