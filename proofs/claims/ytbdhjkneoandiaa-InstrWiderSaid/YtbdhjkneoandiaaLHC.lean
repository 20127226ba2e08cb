/-
  Texts of the seat, merged.
-/
import Derived.Test.YtbdhjkneoandiaaLHA
import Derived.Test.YtbdhjkneoandiaaLHB
import Derived.Test.YtbdhjkneoandiaaChecked
import Derived.WalkKit
import Derived.Lib.Hide
import Derived.Lib.AppendStr
import Derived.Deep.AppendLies
import Derived.Deep.AppendSrc
import Derived.Deep.Draws
import Derived.Deep.QuietTactic
import Derived.BigQuiet
import Derived.Deep.RegionWith
import Derived.Maps.AppendAt
import Derived.WalkSpells
import Derived.Orders
import Derived.Deep.Slices
import Derived.Deep.Fields
import Derived.ChangeArms
import Derived.Lib.OthersKept
import Derived.Lib.TrimU
import Derived.Lib.IndexAny
import Derived.Deep.LoopGhost
import Derived.Lib.Bytealg
import Derived.RangeFuncBox
import Derived.RangeFuncNested
import Derived.RangeFuncBound
import Derived.RangeFuncCalls
import Derived.RangeFuncLeaves
import Derived.Shelf.Abstract
import Derived.OwnWalkIn
import Derived.TacticsInMore
import Derived.LoopNIn
import Derived.LoopIn
import Derived.RangeFuncWrites
import Derived.Maps.OwnIn
import Derived.Maps.Views
import Derived.Laws.OwnMore
import Derived.Maps.OwnSet
import Derived.Test.YtbdhjkneoandiaaRows
import Derived.ProofKit
import Derived.OpenShut
import Derived.Carry
import Derived.OrdersIn
import Derived.Great.BuildSlice
import Derived.ArgAppend
import Derived.Laws.MakeOwn
import Derived.Laws.Cover3
import Derived.Laws.CopyRow
import Derived.MapKept
import Derived.Maps.RangeRun
import Derived.DeepKeys5
import Derived.WideKeyRuns
set_option linter.unusedVariables false
set_option linter.unusedSimpArgs false
set_option linter.unnecessarySimpa false
set_option linter.all false

namespace Go.Proofs.Ytbdhjkneoandiaa
set_option maxRecDepth 100000
open Go.RowKit

open Classical in
/-- The first entry with a key. -/
noncomputable def firstAt (v : Value) : List MapEntry → Nat → Option (Nat × Value)
  | [], _ => none
  | e :: es, i => if e.key = v then some (i, e.val) else firstAt v es (i + 1)
/-- How keys show. -/
structure KeyOk (P : Program) (kt : TypeId) {α : Type} (key : α → D) (vk : α → Value) (d : Value → Prop) : Prop where
  rep : ∀ (p : Addr → Prop) (w : World) (a : α) (v : Value), Rep p w (key a) v → v = vk a
  good : ∀ (p : Addr → Prop) (w : World) (a : α) (v : Value), Rep p w (key a) v → d v
  inj : ∀ a b, vk a = vk b → a = b
  check : ∀ (w : World) (em : Bool) (v : Value), d v → (Instr.checkKey em 10000 kt v).run P w = .ok () w
  find : ∀ (w : World) (v : Value) (es : List MapEntry), d v → (∀ e ∈ es, d e.key) → (Instr.findKey kt v es).run P w = .ok (firstAt v es 0) w
  stays : ∀ (w : World) (v : Value), d v → (Instr.keyThatStays v v).run P w = .ok v w
theorem findNow_first {d : TypeDesc} {k : Value} (hk : MapKept.IsKey d k) : ∀ (es : List MapEntry) (i : Nat), (∀ e ∈ es, MapKept.IsKey d e.key) → Instr.findNow d k es i = some (firstAt k es i)
  | [], i, _ => rfl
  | e :: es, i, h => by
    obtain ⟨b, hb, hiff⟩ := MapKept.sameNow_of_keys hk (h e (List.mem_cons_self ..))
    simp only [Instr.findNow, hb, firstAt]
    cases b with
    | true => rw [if_pos (hiff.1 rfl).symm]
    | false =>
      rw [if_neg fun e => by have := hiff.2 e.symm; cases this]
      exact findNow_first hk es (i + 1) fun x hx => h x (List.mem_cons_of_mem _ hx)
theorem keyOf_desc {P : Program} {kt : TypeId} {d : TypeDesc} {α : Type} {key : α → D} {vk : α → Value} (h : P.underlying kt = some d) (h1 : ∀ (p : Addr → Prop) (w : World) (a : α) (v : Value), Rep p w (key a) v → v = vk a) (h2 : ∀ a, MapKept.IsKey d (vk a)) (h3 : ∀ a b, vk a = vk b → a = b) : KeyOk P kt key vk (MapKept.IsKey d) :=
  ⟨h1, fun p w a v hv => by rw [h1 p w a v hv]; exact h2 a, h3, fun w em v hv => MapKept.run_checkKey h hv em 9999, fun w v es hv he => MapKept.run_findKey h (findNow_first hv es 0 he), fun w v hv => MapKept.run_keyThatStays hv⟩
theorem keyInt {P : Program} {kt : TypeId} {k : IntKind} (h : P.underlying kt = some (.int k)) : KeyOk P kt (fun n : Int => D.int k n) (fun n => .int k n) (MapKept.IsKey (.int k)) :=
  keyOf_desc h (fun p w a v hv => by simp only [Rep] at hv; exact hv.1) (fun a => rfl) fun a b e => by injection e
theorem keys_good {α : Type} {P : Program} {kt : TypeId} {key : α → D} {vk : α → Value} {d : Value → Prop} (hK : KeyOk P kt key vk d) {p : Addr → Prop} {w : World} : ∀ {l : List (α × D)} {es : List MapEntry}, RepKV p w (l.map fun q => (key q.1, q.2)) es → ∀ e ∈ es, d e.key
  | [], es, h, e, he => by
    simp only [List.map_nil, RepKV] at h
    subst h
    cases he
  | r :: l, es, h, e, he => by
    simp only [List.map_cons, RepKV] at h
    obtain ⟨e0, rest, rfl, h1, h2, h3⟩ := h
    rcases List.mem_cons.1 he with rfl | he
    · exact hK.good _ _ _ _ h1
    · exact keys_good hK h3 e he
section
variable {α : Type} [DecidableEq α]
abbrev MapD (key : α → D) (l : List (α × D)) : List (D × D) := l.map fun q => (key q.1, q.2)
def findA : List (α × D) → α → Option D
  | [], _ => none
  | q :: l, x => if q.1 = x then some q.2 else findA l x
def putA : List (α × D) → α → D → List (α × D)
  | [], x, d => [(x, d)]
  | q :: l, x, d => if q.1 = x then (x, d) :: l else q :: putA l x d
theorem putA_len : ∀ (l : List (α × D)) (x : α) (d : D), (putA l x d).length ≤ l.length + 1
  | [], x, d => by simp [putA]
  | q :: l, x, d => by
    unfold putA
    split
    · simp
    · have := putA_len l x d
      simp only [List.length_cons]
      omega
theorem find_spec {P : Program} {kt : TypeId} {key : α → D} {vk : α → Value} {d : Value → Prop} (hK : KeyOk P kt key vk d) (p : Addr → Prop) (w : World) (x : α) (dd : D) : ∀ (l : List (α × D)) (es : List MapEntry) (i : Nat), RepKV p w (MapD key l) es →
    (firstAt (vk x) es i = none ∧ findA l x = none ∧ putA l x dd = l ++ [(x, dd)]) ∨
    ∃ j e dv, firstAt (vk x) es i = some (i + j, e.val) ∧ es[j]? = some e ∧ e.key = vk x ∧ findA l x = some dv ∧ Rep p w dv e.val ∧ ∀ (q : Addr → Prop) (u : World) (e' : MapEntry), Grow p w q u → Rep q u (key x) e'.key → Rep q u dd e'.val → RepKV q u (MapD key (putA l x dd)) (es.set j e')
  | [], es, i, h => by
    simp only [MapD, List.map_nil, RepKV] at h
    subst h
    exact .inl ⟨rfl, rfl, rfl⟩
  | r :: l, es, i, h => by
    simp only [MapD, List.map_cons, RepKV] at h
    obtain ⟨e, rest, rfl, h1, h2, h3⟩ := h
    have hk := hK.rep _ _ _ _ h1
    by_cases hx : r.1 = x
    · refine .inr ⟨0, e, r.2, by simp [firstAt, hk, hx], rfl, by rw [hk, hx], by simp [findA, hx], h2, fun q u e' g q1 q2 => ?_⟩
      simp only [putA, if_pos hx, MapD, List.map_cons, RepKV, List.set_cons_zero]
      exact ⟨e', rest, rfl, q1, q2, h3.grow g⟩
    · have hne : e.key ≠ vk x := fun e' => hx (hK.inj _ _ (by rw [← hk]; exact e'))
      rcases find_spec hK p w x dd l rest (i + 1) h3 with ⟨q1, q2, q3⟩ | ⟨j, e2, dv, q1, q2, q3, q4, q5, q6⟩
      · exact .inl ⟨by simp [firstAt, hne, q1], by simp [findA, hx, q2], by simp [putA, hx, q3]⟩
      · refine .inr ⟨j + 1, e2, dv, by simp [firstAt, hne, q1]; omega, by simpa using q2, q3, by simp [findA, hx, q4], q5, fun q u e' g r1 r2 => ?_⟩
        simp only [putA, if_neg hx, MapD, List.map_cons, RepKV, List.set_cons_succ]
        exact ⟨e, _, rfl, h1.grow g, h2.grow g, q6 q u e' g r1 r2⟩
theorem repKV_app {p : Addr → Prop} {w : World} : ∀ {l m : List (D × D)} {es fs : List MapEntry}, RepKV p w l es → RepKV p w m fs → RepKV p w (l ++ m) (es ++ fs)
  | [], m, es, fs, h, k => by simp only [RepKV] at h; subst h; simpa using k
  | r :: l, m, es, fs, h, k => by
    obtain ⟨a, b⟩ := r
    simp only [RepKV] at h
    obtain ⟨e, rest, rfl, h1, h2, h3⟩ := h
    simp only [List.cons_append, RepKV]
    exact ⟨e, _, rfl, h1, h2, repKV_app h3 k⟩

variable {P : Program} {o : Oper} {ρ : Operand → Option D}
theorem s_makeMap {t : TypeId} {σ : St} (ho : o.op = .makeMap t none) : StepS P o ρ σ fun d' σ' => ∃ r, d' = .map r ∧ σ' = .map r [] :: σ := fun K p a w hi h => by
  have hr : (execOp a.eval o).run P w = .ok (.value (.map (some w.heap.size))) (w.alloc (.map #[] 0)) := by
    unfold execOp
    rw [ho]
    simp [Instr.makeMap]
  unfold Oper.wp
  rw [hr]
  refine ⟨_, .map w.heap.size, _, p, rfl, ⟨w.heap.size, rfl, rfl⟩, by simp only [Rep], ?_, grow_alloc hi.pub _⟩
  refine (hi.alloc _).more ⟨#[], 0, heap_alloc_new w _, by simp only [RepKV], by simp, by simp, by simp⟩ fun b hb => ?_
  simp only [Ob.blk, Option.some.injEq] at hb
  subst hb
  exact ⟨.inl hi.size, fun hm => by have := hi.lt hm; omega⟩
theorem s_mapUpdate {t kt e : TypeId} {x y v : Operand} {key : α → D} {vk : α → Value} {d : Value → Prop} {r : Nat} {l : List (α × D)} {a0 : α} {dn dd : D} {σ : St} (τ : St) (ho : o.op = .mapUpdate t x y v) (ht : P.underlying t = some (.map kt e)) (hK : KeyOk P kt key vk d) (hx : ρ x = some (.map r)) (hy : ρ y = some (key a0)) (hv : ρ v = some dn) (hw : Wk dn dd) (hσ : σ.Perm (.map r (MapD key l) :: τ)) (hlen : l.length < 9223372036854775807) :
    StepS P o ρ σ fun _ σ' => σ' = .map r (MapD key (putA l a0 dd)) :: τ := fun K p a w hi h => by
  have h1 := h x (by rw [ho]; simp [Op.operands]) _ hx
  have hyr := h y (by rw [ho]; simp [Op.operands]) _ hy
  have h2 := hK.rep _ _ _ _ hyr
  have hgood : d (vk a0) := h2 ▸ hK.good _ _ _ _ hyr
  have h3 := hw _ _ _ (h v (by rw [ho]; simp [Op.operands]) _ hv)
  simp only [Rep] at h1
  have hi' := hi.perm hσ
  obtain ⟨es, clock, g1, g2, g3, gn, gl⟩ := hi'.ok _ (List.mem_cons_self ..)
  have hc := hK.check w false (vk a0) hgood
  have hlt : r < w.heap.size := (Array.getElem?_eq_some_iff.1 g1).1
  have fin : ∀ (es' : Array MapEntry) (clock' : Nat), (es'.toList.map (·.born)).Nodup → (∀ e ∈ es'.toList, e.born < clock') → (∀ (q : Addr → Prop) (u : World), Grow p w q u → RepKV q u (MapD key (putA l a0 dd)) es'.toList) →
      ∃ p', Inv K p' (.map r (MapD key (putA l a0 dd)) :: τ) { w with heap := w.heap.setIfInBounds r (.map es' clock') } ∧ Grow p w p' { w with heap := w.heap.setIfInBounds r (.map es' clock') } ∧ p' = p := fun es' clock' hn' hl' hr => by
    have hset := MapKept.heap_set (o' := .map es' clock') g1
    have hcell : ∀ a', p a' → ({ w with heap := w.heap.setIfInBounds r (.map es' clock') } : World).cell? a' = w.cell? a' := fun a' ha => cell_same (hset.2 _ (by
      intro e
      obtain ⟨u, hu⟩ := hi.pub a' ha
      unfold World.cell? at hu
      rw [e, g1] at hu
      cases hu))
    have gr : Grow p w p { w with heap := w.heap.setIfInBounds r (.map es' clock') } := fun a' ha => ⟨ha, hcell a' ha⟩
    refine ⟨p, hi'.write (b := r) rfl rfl gr (fun a' ha => .inl ha) ⟨es', clock', hset.1, hr _ _ gr, ?_, hn', hl'⟩ (fun a' ha => ?_) rfl rfl rfl (by simp) fun k hk => hset.2 k hk, gr, rfl⟩
    · have := putA_len l a0 dd
      simp only [List.length_map]
      omega
    · obtain ⟨u, hu⟩ := hi.pub a' ha
      exact ⟨u, by rw [hcell a' ha]; exact hu⟩
  rcases find_spec hK p w a0 dd l es.toList 0 g2 with ⟨q1, q2, q3⟩ | ⟨j, e', dv, q1, q2, q3, q4, q5, q6⟩
  · have hf := (hK.find w (vk a0) es.toList hgood (keys_good hK g2)).trans (by rw [q1])
    have hr : (execOp a.eval o).run P w = .ok .skip { w with heap := w.heap.setIfInBounds r (.map (es.push { key := vk a0, val := a.eval v, born := clock }) (clock + 1)) } := by
      unfold execOp
      rw [ho]
      simp [h1, h2, Instr.mapUpdate, run_underlying ht, MapKept.run_getObj_map g1, hc, hf, MapKept.run_setObj_map _ g1]
    unfold Oper.wp
    rw [hr]
    obtain ⟨p', f1, f2, rfl⟩ := fin (es.push { key := vk a0, val := a.eval v, born := clock }) (clock + 1) (by
      rw [Array.toList_push, List.map_append]
      refine List.nodup_append.2 ⟨gn, by simp, fun x hx y hy hxy => ?_⟩
      obtain ⟨e, he, rfl⟩ := List.mem_map.1 hx
      simp only [List.map_cons, List.map_nil, List.mem_singleton] at hy
      have := gl e he
      omega) (by
      intro e he
      rw [Array.toList_push] at he
      rcases List.mem_append.1 he with he | he
      · have := gl e he; omega
      · rw [List.mem_singleton.1 he]; exact Nat.lt_succ_self _) fun q u g => by
      rw [q3, Array.toList_push, MapD, List.map_append]
      refine repKV_app (g2.grow g) ?_
      simp only [List.map_cons, List.map_nil, RepKV]
      exact ⟨_, [], rfl, h2 ▸ hyr.grow g, h3.grow g, rfl⟩
    exact ⟨Go.undef, .undef, _, p', rfl, rfl, by simp only [Rep], f1, f2⟩
  · have hf := (hK.find w (vk a0) es.toList hgood (keys_good hK g2)).trans (by rw [q1])
    rw [Nat.zero_add] at hf
    have hks : (Instr.keyThatStays (((es[j]?).map (·.key)).getD (vk a0)) (vk a0)).run P w = .ok (vk a0) w := by
      have : es[j]? = some e' := by simpa using q2
      rw [this]
      simp only [Option.map_some, Option.getD_some, q3]
      exact hK.stays w _ hgood
    have hr : (execOp a.eval o).run P w = .ok .skip { w with heap := w.heap.setIfInBounds r (.map (es.modify j fun e => { e with key := vk a0, val := a.eval v }) clock) } := by
      unfold execOp
      rw [ho]
      simp [h1, h2, Instr.mapUpdate, run_underlying ht, MapKept.run_getObj_map g1, hc, hf, hks, MapKept.run_setObj_map _ g1]
    unfold Oper.wp
    rw [hr]
    have hm : (es.modify j fun e => { e with key := vk a0, val := a.eval v }).toList = es.toList.set j { e' with key := vk a0, val := a.eval v } := by
      apply List.ext_getElem?
      intro k
      rw [Array.getElem?_toList, Array.getElem?_modify, List.getElem?_set, Array.getElem?_toList]
      have hj := (List.getElem?_eq_some_iff.1 q2).1
      by_cases hjk : j = k
      · subst hjk
        rw [if_pos rfl, if_pos rfl, if_pos hj]
        have : es[j]? = some e' := by simpa using q2
        rw [this]; rfl
      · rw [if_neg hjk, if_neg hjk]
    have hb : (es.toList.set j { e' with key := vk a0, val := a.eval v }).map (·.born) = es.toList.map (·.born) := by
      apply List.ext_getElem?
      intro k
      rw [List.getElem?_map, List.getElem?_set, List.getElem?_map]
      have hj := (List.getElem?_eq_some_iff.1 q2).1
      by_cases hjk : j = k
      · subst hjk
        rw [if_pos rfl, if_pos hj, q2]
        rfl
      · rw [if_neg hjk]
    obtain ⟨p', f1, f2, rfl⟩ := fin (es.modify j fun e => { e with key := vk a0, val := a.eval v }) clock (by rw [hm, hb]; exact gn) (by
      intro e he
      have h5 : e.born ∈ es.toList.map (·.born) := by rw [← hb, ← hm]; exact List.mem_map_of_mem he
      obtain ⟨e2, h6, h7⟩ := List.mem_map.1 h5
      rw [← h7]
      exact gl e2 h6) fun q u g => by
      rw [hm]
      exact q6 q u _ g (h2 ▸ hyr.grow g) (h3.grow g)
    exact ⟨Go.undef, .undef, _, p', rfl, rfl, by simp only [Rep], f1, f2⟩
end
end Go.Proofs.Ytbdhjkneoandiaa


namespace Go.Proofs.Ytbdhjkneoandiaa
set_option maxRecDepth 100000
open Go.RowKit

abbrev wr (n : Int) : Int := IntKind.i64.wrap n
theorem wr_eq {n : Int} (h : -9223372036854775808 ≤ n ∧ n < 9223372036854775808) : wr n = n := wrap64 h
/-- An element, if there is one. -/
def getI {α : Type} (l : List α) (n : Int) : Option α := if 0 ≤ n then l[n.toNat]? else none
theorem getI_nat {α : Type} (l : List α) (i : Nat) : getI l (i : Int) = l[i]? := by simp [getI]
theorem getI_some {α : Type} {l : List α} {n : Int} {q : α} (h : getI l n = some q) : 0 ≤ n ∧ l[n.toNat]? = some q := by
  unfold getI at h
  split at h
  · exact ⟨by assumption, h⟩
  · cases h
/-- Two lists one behind the other, if that fits (b: the bytes of an element). -/
def appO {α : Type} (b : Nat) (l m : List α) : Option (List α) := if (l.length + m.length) * b ≤ 140737488355328 ∧ l.length + m.length ≤ 9223372036854775807 then some (l ++ m) else none
theorem appO_some {α : Type} {b : Nat} {l m r : List α} (h : appO b l m = some r) : (l.length + m.length) * b ≤ 140737488355328 ∧ l.length + m.length ≤ 9223372036854775807 ∧ r = l ++ m := by
  unfold appO at h
  split at h
  · rename_i h1
    exact ⟨h1.1, h1.2, (Option.some.inj h).symm⟩
  · cases h
/-- A part of a list, if the bounds are right. -/
def subO {α : Type} (l : List α) (lo hi : Int) : Option (List α) := if 0 ≤ lo ∧ lo ≤ hi ∧ hi ≤ l.length then some ((l.take hi.toNat).drop lo.toNat) else none
theorem subO_some {α : Type} {l r : List α} {lo hi : Int} (h : subO l lo hi = some r) : 0 ≤ lo ∧ lo ≤ hi ∧ hi ≤ l.length ∧ r = (l.take hi.toNat).drop lo.toNat := by
  unfold subO at h
  split at h
  · rename_i h1
    exact ⟨h1.1, h1.2.1, h1.2.2, (Option.some.inj h).symm⟩
  · cases h
theorem bindS {α β : Type} {o : Option α} {f : α → Option β} {r : β} (h : o.bind f = some r) : ∃ q, o = some q ∧ f q = some r := by
  cases o with
  | none => cases h
  | some q => exact ⟨q, rfl, h⟩
theorem exK {β γ : Type} (F : β → γ) {a : β} {r : γ} (h : F a = r) : ∃ k, k = a ∧ F k = r := ⟨a, rfl, h⟩
theorem listStep {α : Type} (l : List α) (i : Nat) (hi : i ≤ l.length) : (decide ((i : Int) < (l.length : Int)) = false ∧ l.drop i = [] ∧ i = l.length) ∨ ∃ q, decide ((i : Int) < (l.length : Int)) = true ∧ l.drop i = q :: l.drop (i + 1) ∧ getI l (i : Int) = some q ∧ i < l.length := by
  by_cases h : i < l.length
  · exact .inr ⟨l[i], decide_eq_true (by omega), List.drop_eq_getElem_cons h, by rw [getI_nat]; exact List.getElem?_eq_getElem h, h⟩
  · exact .inl ⟨decide_eq_false (by omega), List.drop_eq_nil_of_le (by omega), by omega⟩
theorem cntStep (i n : Int) (m : Nat) (hm : m = (n - i).toNat) : (m = 0 ∧ decide (i < n) = false) ∨ ∃ m', m = m' + 1 ∧ decide (i < n) = true ∧ m' = (n - (i + 1)).toNat ∧ i < n := by
  by_cases h : i < n
  · exact .inr ⟨(n - (i + 1)).toNat, by omega, decide_eq_true h, rfl, h⟩
  · exact .inl ⟨by omega, decide_eq_false h⟩
section
variable {P : Program} {X : D → Prop} {l : List Oper} {rest : List (Nat × Cls)} {env : Env} {σ : St} {f : FuncId} {fn : Func} {K : Ctx} {R : D → St → Prop} {k : List Item}
theorem r_sB {m : Md} {α : Type} (s : Nat) {b : Bool} {x y : Option α} {res : α} (hs : lk env s = some (.bool b)) (hr : (bif b then x else y) = some res) (h1 : b = true → x = some res → Run P l.toArray X (GoesG m P f fn K R k) rest ((s, .bool true) :: env) σ) (h2 : b = false → y = some res → Run P l.toArray X (GoesG m P f fn K R k) rest ((s, .bool false) :: env) σ) : Run P l.toArray X (GoesG m P f fn K R k) rest env σ :=
  r_split s hs (fun h => h1 h (by rw [h] at hr; exact hr)) fun h => h2 h (by rw [h] at hr; exact hr)
theorem g_sB {m : Md} {α : Type} (s : Nat) {b : Bool} {x y : Option α} {res : α} (hs : lk env s = some (.bool b)) (hr : (bif b then x else y) = some res) (h1 : b = true → x = some res → GoesG m P f fn K R k ((s, .bool true) :: env) σ) (h2 : b = false → y = some res → GoesG m P f fn K R k ((s, .bool false) :: env) σ) : GoesG m P f fn K R k env σ :=
  g_split s hs (fun h => h1 h (by rw [h] at hr; exact hr)) fun h => h2 h (by rw [h] at hr; exact hr)
theorem g_blockJ {m : Md} {id : Nat} {c : Code} (J : Env → St → Prop) (hJ : ∀ env σ, J env σ → GoesG m P f fn K R k env σ) (h : (∀ env σ, J env σ → GoesG m P f fn K R k env σ) → GoesG m P f fn K R (.code c :: .inBlock id :: k) env σ) : GoesG m P f fn K R (.code (.block id c) :: k) env σ := g_block (h hJ)
theorem r_eqD {m : Md} (s : Nat) {d d' : D} (hs : lk env s = some d) (hd : d = d') (h : Run P l.toArray X (GoesG m P f fn K R k) rest ((s, d') :: env) σ) : Run P l.toArray X (GoesG m P f fn K R k) rest env σ := by
  subst hd
  refine run_ext rest _ env σ (fun t => ?_) h goes_ext
  rw [look_cons]
  split
  · rename_i h; subst h; exact hs.symm
  · rfl
end

theorem pf0 {α : Type} (l : List α) : l.Perm l := List.Perm.refl _
theorem pf1 {α : Type} (a b : α) (l : List α) : (a :: b :: l).Perm (b :: a :: l) := List.Perm.swap b a l
theorem pf2 {α : Type} (a b c : α) (l : List α) : (a :: b :: c :: l).Perm (c :: a :: b :: l) := ((pf1 b c l).cons a).trans (pf1 a c _)
theorem pf3 {α : Type} (a b c d : α) (l : List α) : (a :: b :: c :: d :: l).Perm (d :: a :: b :: c :: l) := ((pf2 b c d l).cons a).trans (pf1 a d _)
theorem pf4 {α : Type} (a b c d e : α) (l : List α) : (a :: b :: c :: d :: e :: l).Perm (e :: a :: b :: c :: d :: l) := ((pf3 b c d e l).cons a).trans (pf1 a e _)
section
variable {P : Program} {o : Oper} {ρ : Operand → Option D} {d : D} {α : Type} {f : α → D}
theorem m_index {t e : TypeId} {x ix : Operand} {s by_ : Nat} {dx : D} (l : List α) {k : IntKind} {n : Int} {q : α} (ho : o.op = .indexAddr t x ix) (hE : ElT P t e s by_) (hx : ρ x = some dx) (hl : AsL dx (l.map f)) (hix : ρ ix = some (.int k n)) (hq : getI l n = some q) (hall : ∀ a, sz (f a) = s) (hp : (f q).plain = true) : StepD P o ρ (.ptr (f q)) := by
  obtain ⟨h0, h1⟩ := getI_some hq
  exact t_index n.toNat ho hE hx hl hix (by omega) (getm h1) (aszm hall) hp
theorem m_appOwn {x y : Operand} {t e : TypeId} {s by_ : Nat} {σ τ : St} {u : Value} (l m : List α) {r : List α} {dy : D} {n : Nat} (ho : o.op = .call { callee := .builtin .append, args := #[x, y], argTypes := #[t, t] }) (hE : ElT P t e s by_) (hx : ρ x = some (.own u (l.map f))) (hy : ρ y = some dy) (hm : AsL dy (m.map f)) (hσ : σ.Perm (.row u n e s :: τ)) (hn : n = l.length) (hall : ∀ a, sz (f a) = s) (hr : appO by_ l m = some r) :
    StepS P o ρ σ fun d' σ' => ∃ u', d' = .own u' (r.map f) ∧ σ' = .row u' r.length e s :: τ := by
  obtain ⟨h1, h2, rfl⟩ := appO_some hr
  have h := s_appOwn (P := P) (o := o) (ρ := ρ) (σ := σ) (τ := τ) (u := u) (l := l.map f) (m := m.map f) ho hE hx hy hm (by rw [List.length_map, ← hn]; exact hσ) (aszm hall) (aszm hall) (by simpa using h1) (by simpa using h2)
  rw [← List.map_append, List.length_map] at h
  exact h
theorem m_sub {t e : TypeId} {x : Operand} {low high : Option Operand} {s by_ : Nat} {dx : D} (l : List α) {r : List α} (lo hi : Int) (ho : o.op = .slice t x low high none) (hE : ElT P t e s by_) (hx : ρ x = some dx) (hl : AsL dx (l.map f)) (h1 : ∀ n : Nat, (n : Int) = lo → bndLo ρ low n) (h2 : ∀ n : Nat, (n : Int) = hi → bndHi ρ l.length high n) (hall : ∀ a, sz (f a) = s) (hr : subO l lo hi = some r) : StepD P o ρ (.lst (r.map f)) := by
  obtain ⟨g1, g2, g3, rfl⟩ := subO_some hr
  have := t_sub lo.toNat hi.toNat ho hE hx hl (h1 _ (by omega)) (by rw [List.length_map]; exact h2 _ (by omega)) (by omega) (by rw [List.length_map]; omega) (aszm hall)
  rwa [← List.map_take, ← List.map_drop] at this
theorem bl_none : ∀ n : Nat, (n : Int) = 0 → bndLo ρ none n := fun n h => by unfold bndLo; omega
theorem bl_some {x : Operand} {k : IntKind} {m : Int} (h : ρ x = some (.int k m)) : ∀ n : Nat, (n : Int) = m → bndLo ρ (some x) n := fun n e => ⟨k, m, h, e.symm⟩
theorem bh_none {len : Nat} : ∀ n : Nat, (n : Int) = (len : Int) → bndHi ρ len none n := fun n h => by unfold bndHi; omega
theorem bh_some {len : Nat} {x : Operand} {k : IntKind} {m : Int} (h : ρ x = some (.int k m)) : ∀ n : Nat, (n : Int) = m → bndHi ρ len (some x) n := fun n e => ⟨k, m, h, e.symm⟩
theorem m_len {x : Operand} {t e : TypeId} {s by_ : Nat} {dx : D} (l : List α) (ho : o.op = .call { callee := .builtin .len, args := #[x], argTypes := #[t] }) (hE : ElT P t e s by_) (hx : ρ x = some dx) (hl : AsL dx (l.map f)) : StepD P o ρ (.int .i64 (l.length : Int)) := by
  have := t_len ho hE hx hl
  rwa [List.length_map] at this
theorem m_lit {t e : TypeId} {n s by_ : Nat} {parts : Array (Nat × Operand)} (xs : List Operand) (l : List α) (ho : o.op = .buildSlice t n parts) (hE : ElT P t e s by_) (hps : parts.toList = (xs.zipIdx 0).map fun x => (x.2, x.1)) (hn : n = xs.length) (hn0 : 0 < n) (hsm : n * s ≤ 16777216) (hO : Opds ρ xs (l.map f)) (hall : ∀ a, sz (f a) = s) (hpl : ∀ a, (f a).plain = true) : StepD P o ρ (.full (l.map f)) :=
  t_lit xs ho hE hps hn hn0 hsm hO (aszm hall) fun d hd => by
    obtain ⟨a, _, rfl⟩ := List.mem_map.1 hd
    exact hpl a
end
end Go.Proofs.Ytbdhjkneoandiaa


namespace Go.Proofs.Ytbdhjkneoandiaa
set_option maxRecDepth 100000
open Go.RowKit

/-! ### maps as lists of pairs -/
section
variable {α β : Type} [DecidableEq α]
def mget : List (α × β) → α → Option β
  | [], _ => none
  | q :: l, x => if q.1 = x then some q.2 else mget l x
def mput : List (α × β) → α → β → List (α × β)
  | [], x, d => [(x, d)]
  | q :: l, x, d => if q.1 = x then (x, d) :: l else q :: mput l x d
theorem findA_map (g : β → D) : ∀ (l : List (α × β)) (x : α), findA (l.map fun q => (q.1, g q.2)) x = (mget l x).map g
  | [], _ => rfl
  | q :: l, x => by
    simp only [List.map_cons, findA, mget]
    split
    · rfl
    · exact findA_map g l x
theorem putA_map (g : β → D) : ∀ (l : List (α × β)) (x : α) (d : β), putA (l.map fun q => (q.1, g q.2)) x (g d) = (mput l x d).map fun q => (q.1, g q.2)
  | [], _, _ => rfl
  | q :: l, x, d => by
    simp only [List.map_cons, putA, mput]
    split
    · rfl
    · rw [putA_map g l x d]; rfl
theorem mget_mput : ∀ (l : List (α × β)) (x y : α) (d : β), mget (mput l x d) y = if x = y then some d else mget l y
  | [], x, y, d => by simp [mput, mget]
  | q :: l, x, y, d => by
    simp only [mput]
    split
    · rename_i h
      simp only [mget]
      split
      · rfl
      · rename_i h2; rw [if_neg (by rw [h]; exact h2)]
    · rename_i h
      simp only [mget, mget_mput l x y d]
      by_cases h1 : q.1 = y
      · rw [if_pos h1, if_neg (fun h2 => h (h1.trans h2.symm)), if_pos h1]
      · rw [if_neg h1, if_neg h1]
theorem mput_len : ∀ (l : List (α × β)) (x : α) (d : β), (mput l x d).length ≤ l.length + 1
  | [], _, _ => by simp [mput]
  | q :: l, x, d => by
    unfold mput
    split
    · simp
    · have := mput_len l x d
      simp only [List.length_cons]
      omega
end
abbrev mapM' {α β : Type} (key : α → D) (g : β → D) (l : List (α × β)) : List (D × D) := l.map fun q => (key q.1, g q.2)
theorem mapM_eq {α β : Type} (key : α → D) (g : β → D) (l : List (α × β)) : mapM' key g l = MapD key (l.map fun q => (q.1, g q.2)) := by simp [List.map_map, Function.comp_def]
/-- A map with one entry more or changed, if there is room. -/
def mputO {α β : Type} [DecidableEq α] (l : List (α × β)) (x : α) (d : β) : Option (List (α × β)) := if l.length < 9223372036854775807 then some (mput l x d) else none
theorem mputO_some {α β : Type} [DecidableEq α] {l r : List (α × β)} {x : α} {d : β} (h : mputO l x d = some r) : l.length < 9223372036854775807 ∧ r = mput l x d := by
  unfold mputO at h
  split at h
  · exact ⟨by assumption, (Option.some.inj h).symm⟩
  · cases h

def ZeroM (P : Program) (e : TypeId) (z : D) : Prop := ∃ zv, (P.info? e).map (·.zero) = some (some zv) ∧ ∀ p w, Rep p w z zv
section
variable {P : Program} {o : Oper} {ρ : Operand → Option D} {α β : Type} [DecidableEq α] {key : α → D} {g : β → D}
theorem s_lookup1 {t kt e : TypeId} {x y : Operand} {vk : α → Value} {d : Value → Prop} {r : Nat} {l : List (α × D)} {a0 : α} {z : D} {zv : Value} {σ : St} (ho : o.op = .lookup t x y false) (ht : P.underlying t = some (.map kt e)) (hK : KeyOk P kt key vk d) (hz : (P.info? e).map (·.zero) = some (some zv)) (hzr : ∀ p w, Rep p w z zv) (hx : ρ x = some (.map r)) (hy : ρ y = some (key a0)) (hσ : .map r (MapD key l) ∈ σ) :
    StepS P o ρ σ fun d' σ' => d' = (findA l a0).getD z ∧ σ' = σ := fun K p a w hi h => by
  have h1 := h x (by rw [ho]; simp [Op.operands]) _ hx
  have h2 := hK.rep _ _ _ _ (h y (by rw [ho]; simp [Op.operands]) _ hy)
  have hgood : d (vk a0) := h2 ▸ hK.good _ _ _ _ (h y (by rw [ho]; simp [Op.operands]) _ hy)
  simp only [Rep] at h1
  obtain ⟨es, clock, g1, g2, _⟩ := hi.ok _ hσ
  obtain ⟨i, hi1, hi2⟩ := Option.map_eq_some_iff.1 hz
  have hc := hK.check w es.isEmpty (vk a0) hgood
  rcases find_spec hK p w a0 z l es.toList 0 g2 with ⟨q1, q2, _⟩ | ⟨j, e', dv, q1, q2, q3, q4, q5, _⟩
  · have hf := (hK.find w (vk a0) es.toList hgood (keys_good hK g2)).trans (by rw [q1])
    have hr : (execOp a.eval o).run P w = .ok (.value zv) w := by
      unfold execOp
      rw [ho]
      simp [h1, h2, Instr.lookup, run_underlying ht, MapKept.run_getObj_map g1, hc, hf, zeroValue, typeInfo, hi1, hi2]
    unfold Oper.wp
    rw [hr]
    refine ⟨_, _, _, p, rfl, ⟨rfl, rfl⟩, ?_, hi, Grow.refl _ _⟩
    rw [q2]
    exact hzr p w
  · have hf := (hK.find w (vk a0) es.toList hgood (keys_good hK g2)).trans (by rw [q1])
    have hr : (execOp a.eval o).run P w = .ok (.value e'.val) w := by
      unfold execOp
      rw [ho]
      simp [h1, h2, Instr.lookup, run_underlying ht, MapKept.run_getObj_map g1, hc, hf]
    unfold Oper.wp
    rw [hr]
    refine ⟨_, _, _, p, rfl, ⟨rfl, rfl⟩, ?_, hi, Grow.refl _ _⟩
    rw [q4]
    exact q5
theorem m_lookup1 {t kt e : TypeId} {x y : Operand} {vk : α → Value} {d : Value → Prop} {r : Nat} (l : List (α × β)) (a0 : α) (z : β) {σ : St} (ho : o.op = .lookup t x y false) (ht : P.underlying t = some (.map kt e)) (hK : KeyOk P kt key vk d) (hz : ZeroM P e (g z)) (hx : ρ x = some (.map r)) (hy : ρ y = some (key a0)) (hσ : .map r (mapM' key g l) ∈ σ) :
    StepS P o ρ σ fun d' σ' => d' = g ((mget l a0).getD z) ∧ σ' = σ := by
  obtain ⟨zv, h1, h2⟩ := hz
  rw [mapM_eq] at hσ
  have := s_lookup1 ho ht hK h1 h2 hx hy hσ
  rw [findA_map] at this
  have e1 : ((mget l a0).map g).getD (g z) = g ((mget l a0).getD z) := by cases mget l a0 <;> rfl
  rwa [e1] at this
theorem m_mapUpdate {t kt e : TypeId} {x y v : Operand} {vk : α → Value} {d : Value → Prop} {r : Nat} (l : List (α × β)) (a0 : α) (b0 : β) {l' : List (α × β)} {dn : D} {σ τ : St} (ho : o.op = .mapUpdate t x y v) (ht : P.underlying t = some (.map kt e)) (hK : KeyOk P kt key vk d) (hx : ρ x = some (.map r)) (hy : ρ y = some (key a0)) (hv : ρ v = some dn) (hw : Wk dn (g b0)) (hσ : σ.Perm (.map r (mapM' key g l) :: τ)) (hl : mputO l a0 b0 = some l') :
    StepS P o ρ σ fun _ σ' => σ' = .map r (mapM' key g l') :: τ := by
  obtain ⟨h1, rfl⟩ := mputO_some hl
  rw [mapM_eq] at hσ
  have := s_mapUpdate τ ho ht hK hx hy hv hw hσ (by rw [List.length_map]; exact h1)
  rwa [putA_map, ← mapM_eq] at this
end
theorem m_makeMap {P : Program} {o : Oper} {ρ : Operand → Option D} {α β : Type} {key : α → D} {g : β → D} {t : TypeId} {σ : St} (ho : o.op = .makeMap t none) : StepS P o ρ σ fun d' σ' => ∃ r, d' = .map r ∧ σ' = .map r (mapM' key g ([] : List (α × β))) :: σ := s_makeMap ho
/-! ### facts out of slots -/
section
variable {P : Program} {f : FuncId} {fn : Func} {K : Ctx} {R : D → St → Prop} {k : List Item} {env : Env} {σ : St}
theorem g_lenP {m : Md} (s : Nat) (path : List Nat) {d0 dx : D} {l : List D} (hs : lk env s = some (.ptr d0)) (hp : subD d0 path = some dx) (hl : AsL dx l) (h : l.length ≤ 9223372036854775807 → GoesG m P f fn K R k env σ) : GoesG m P f fn K R k env σ :=
  g_fact (fun p a w _ hr => by
    have h1 := hr s _ hs
    simp only [Rep] at h1
    obtain ⟨b, o, u, _, _, h2, _⟩ := h1
    obtain ⟨v, h3, _⟩ := subD_rep h2 hp
    obtain ⟨A, c, xs, _, g2, g3, _⟩ := hl.rep h3
    omega) h
theorem g_ends {m : Md} {E : Env} {S : St} (hs : Sub E env) (hp : σ.Perm S) (h : GoesG m P f fn K R k E S) : GoesG m P f fn K R k env σ := g_sub E hs (g_perm S [] (by simpa using hp) h)
theorem r_st {X : D → Prop} {Q : Env → St → Prop} {l : List Oper} {rest : List (Nat × Cls)} (σ' : St) (hs : σ = σ') (h : Run P l.toArray X Q rest env σ') : Run P l.toArray X Q rest env σ := hs ▸ h
end
end Go.Proofs.Ytbdhjkneoandiaa


namespace Go.Proofs.Ytbdhjkneoandiaa
set_option maxRecDepth 100000
open Go.RowKit

section
variable {P : Program} {o : Oper} {ρ : Operand → Option D} {d : D}
theorem s_quoC {t t' : TypeId} {x y : Operand} {m n : Int} (ho : o.op = .binOp .quo t x y t') (hx : ρ x = some (.int .i64 m)) (hy : ρ y = some (.int .i64 n)) (hn : n ≠ 0) : StepD P o ρ (.int .i64 (wr (Int.tdiv m n))) := stepD_of fun p a w h => by
  have h1 := h x (by rw [ho]; simp [Op.operands]) _ hx
  have h2 := h y (by rw [ho]; simp [Op.operands]) _ hy
  simp only [Rep] at h1 h2
  refine ⟨.int .i64 (wr (Int.tdiv m n)), ?_, by simp only [Rep]; exact ⟨trivial, wrap_idem _ _⟩⟩
  unfold execOp
  rw [ho]
  simp only [h1.1, h2.1]
  simp [binOp, eqGuard, Op.intDiv, hn, wr]
theorem s_nilCheckR {x : Operand} {b off : Nat} {path : List Nat} (ho : o.op = .nilCheck x) (hx : ρ x = some (.ref b off path)) : StepD P o ρ (.ref b off path) := stepD_of fun p a w h => by
  have h1 := h x (by rw [ho]; simp [Op.operands]) _ hx
  refine ⟨a.eval x, ?_, h1⟩
  simp only [Rep] at h1
  unfold execOp
  rw [ho]
  simp [h1]
end
end Go.Proofs.Ytbdhjkneoandiaa


namespace Go.Proofs.Ytbdhjkneoandiaa
set_option maxRecDepth 100000
open Go.RowKit

/-- What a round leaves: the end (.inl), or on to the next (.inr). -/
def mapRes {V R : Type} (F : V → Option R) : R ⊕ V → Option R
  | .inl r => some r
  | .inr v => F v
/-- What a map's rounds leave: B is one round, k what comes behind. -/
def mapLoop {Q V R : Type} (B : Q → V → Option (R ⊕ V)) (k : V → Option R) : List Q → V → Option R
  | [], v => k v
  | q :: l, v => (B q v).bind (mapRes (mapLoop B k l))
open Classical in
/-- What comes out in whatever order, if it is always the same. -/
noncomputable def permO {Q R : Type} (F : List Q → Option R) (l : List Q) : Option R := if ∀ l' : List Q, l'.Perm l → F l' = F l then F l else none
theorem permO_all {Q R : Type} {F : List Q → Option R} {l : List Q} {r : R} (h : permO F l = some r) : ∀ l' : List Q, l'.Perm l → F l' = some r := by
  unfold permO at h
  split at h
  · rename_i h1
    exact fun l' hp => (h1 l' hp).trans h
  · cases h
theorem permO_of {Q R : Type} {F : List Q → Option R} {l : List Q} {r : R} (h : ∀ l' : List Q, l'.Perm l → F l' = some r) : permO F l = some r := by
  have h0 := h l (.refl _)
  unfold permO
  rw [if_pos fun l' hp => (h l' hp).trans h0.symm]
  exact h0
theorem mapStep {Q V R : Type} {B : Q → V → Option (R ⊕ V)} {k : V → Option R} {q : Q} {L l : List Q} {v : V} {r : R} (hp : L.Perm (q :: l)) (h : ∀ l' : List Q, l'.Perm L → mapLoop B k l' v = some r) : ∃ z, B q v = some z ∧ ∀ l' : List Q, l'.Perm l → mapRes (mapLoop B k l') z = some r := by
  have h1 : ∀ l' : List Q, l'.Perm l → mapLoop B k (q :: l') v = some r := fun l' hl => h (q :: l') ((hl.cons q).trans hp.symm)
  obtain ⟨z, hz, _⟩ := bindS (show (B q v).bind (mapRes (mapLoop B k l)) = some r from h1 l (.refl _))
  refine ⟨z, hz, fun l' hl => ?_⟩
  have h2 : (B q v).bind (mapRes (mapLoop B k l')) = some r := h1 l' hl
  rw [hz] at h2
  exact h2
theorem mapEnd {Q V R : Type} {B : Q → V → Option (R ⊕ V)} {k : V → Option R} {L : List Q} {v : V} {r : R} (hp : L = []) (h : ∀ l' : List Q, l'.Perm L → mapLoop B k l' v = some r) : k v = some r := by
  subst hp
  exact h [] (.refl _)
theorem mapOut {Q R V : Type} {B : Q → V → Option (R ⊕ V)} {k : V → Option R} {L : List Q} {x : Option R} {z : R ⊕ V} {r : R} (h : ∀ l' : List Q, l'.Perm L → mapRes (mapLoop B k l') z = some r) (hx : x.map Sum.inl = some z) : x = some r := by
  cases x with
  | none => cases hx
  | some y =>
    obtain rfl := Option.some.inj hx
    exact h L (.refl _)
theorem mapBack {Q R V : Type} {B : Q → V → Option (R ⊕ V)} {k : V → Option R} {L : List Q} {v : V} {z : R ⊕ V} {r : R} (h : ∀ l' : List Q, l'.Perm L → mapRes (mapLoop B k l') z = some r) (hx : some (Sum.inr v) = some z) : ∀ l' : List Q, l'.Perm L → mapLoop B k l' v = some r := by
  obtain rfl := Option.some.inj hx
  exact h

/-- The pairs that have not come out yet. -/
def remOf {Q : Type} (es : Array MapEntry) (seen : Array Nat) (l : List Q) : List Q := ((es.toList.zip l).filter fun x => !seen.contains x.1.born).map (·.2)
def CurE {Q : Type} (es : Array MapEntry) (l : List Q) (e : MapEntry) (q : Q) : Prop := ∃ i : Nat, es.toList[i]? = some e ∧ l[i]? = some q
theorem remOf_start {Q : Type} {es : Array MapEntry} {l : List Q} (h : es.size = l.length) : remOf es #[] l = l := by
  unfold remOf
  rw [List.filter_eq_self.2 (fun x _ => by simp)]
  rw [List.map_snd_zip]
  simp [← h]
theorem repKV_len {p : Addr → Prop} {w : World} : ∀ {kv : List (D × D)} {es : List MapEntry}, RepKV p w kv es → es.length = kv.length
  | [], _, h => by simp only [RepKV] at h; subst h; rfl
  | (k, d) :: kv, es, h => by
    simp only [RepKV] at h
    obtain ⟨e, rest, rfl, _, _, h3⟩ := h
    simp [repKV_len h3]
theorem repKV_at {p : Addr → Prop} {w : World} : ∀ {kv : List (D × D)} {es : List MapEntry} {i : Nat} {e : MapEntry} {k d : D}, RepKV p w kv es → es[i]? = some e → kv[i]? = some (k, d) → Rep p w k e.key ∧ Rep p w d e.val
  | [], _, i, _, _, _, _, _, h => by cases i <;> cases h
  | (k, d) :: kv, es, i, e, k', d', h, h1, h2 => by
    simp only [RepKV] at h
    obtain ⟨e0, rest, rfl, g1, g2, g3⟩ := h
    cases i with
    | zero =>
      simp only [List.getElem?_cons_zero, Option.some.injEq, Prod.mk.injEq] at h1 h2
      obtain ⟨rfl, rfl⟩ := h2
      subst h1
      exact ⟨g1, g2⟩
    | succ i =>
      simp only [List.getElem?_cons_succ] at h1 h2
      exact repKV_at g3 h1 h2
theorem cont_push {a : Array Nat} {x y : Nat} : (a.push x).contains y = (a.contains y || decide (y = x)) := by
  rw [Bool.eq_iff_iff]
  simp [Array.mem_push]
theorem remOf_step {Q : Type} : ∀ (es : List MapEntry) (l : List Q) (seen : Array Nat) (i : Nat) (e : MapEntry) (q : Q), (es.map (·.born)).Nodup → es[i]? = some e → l[i]? = some q → seen.contains e.born = false →
    (((es.zip l).filter fun x => !seen.contains x.1.born).map (·.2)).Perm (q :: ((es.zip l).filter fun x => !(seen.push e.born).contains x.1.born).map (·.2))
  | [], _, _, i, _, _, _, h, _, _ => by cases i <;> cases h
  | _ :: _, [], _, i, _, _, _, _, h, _ => by cases i <;> cases h
  | a :: es, b :: l, seen, i, e, q, hn, h1, h2, h3 => by
    simp only [List.map_cons, List.nodup_cons] at hn
    simp only [List.zip_cons_cons]
    cases i with
    | zero =>
      simp only [List.getElem?_cons_zero, Option.some.injEq] at h1 h2
      subst h1 h2
      rw [List.filter_cons_of_pos (by rw [h3]; rfl), List.filter_cons_of_neg (by simp)]
      have : (es.zip l).filter (fun x => !seen.contains x.1.born) = (es.zip l).filter (fun x => !(seen.push a.born).contains x.1.born) := List.filter_congr fun x hx => by
        have hne : x.1.born ≠ a.born := fun e => hn.1 (e ▸ List.mem_map_of_mem (f := (·.born)) (List.of_mem_zip (show (x.1, x.2) ∈ es.zip l from hx)).1)
        rw [cont_push, decide_eq_false hne, Bool.or_false]
      rw [List.map_cons, this]
    | succ i =>
      simp only [List.getElem?_cons_succ] at h1 h2
      have ih := remOf_step es l seen i e q hn.2 h1 h2 h3
      have hne : a.born ≠ e.born := fun he => hn.1 (he ▸ List.mem_map_of_mem (f := (·.born)) (List.mem_of_getElem? h1))
      cases hs : seen.contains a.born with
      | true =>
        rw [List.filter_cons_of_neg (by rw [hs]; decide), List.filter_cons_of_neg (by rw [cont_push, hs]; simp)]
        exact ih
      | false =>
        rw [List.filter_cons_of_pos (by rw [hs]; rfl), List.filter_cons_of_pos (by rw [cont_push, hs, decide_eq_false hne]; rfl)]
        exact (ih.cons b).trans (List.Perm.swap q b _)

section
variable {P : Program} {o : Oper} {ρ : Operand → Option D} {α β : Type} {key : α → D} {g : β → D}
theorem s_range {t kt e : TypeId} {x : Operand} {r : Nat} {l : List (α × β)} {σ τ : St} (ho : o.op = .range t x) (ht : P.underlying t = some (.map kt e)) (hx : ρ x = some (.map r)) (hσ : σ.Perm (.map r (mapM' key g l) :: τ)) :
    StepS P o ρ σ fun d' σ' => ∃ b es cl, d' = .ref b 0 [] ∧ σ' = .iter b r cl #[] cl :: .mapE r (mapM' key g l) es cl :: τ ∧ es.size = l.length := fun K p a w hi h => by
  have h1 := h x (by rw [ho]; simp [Op.operands]) _ hx
  simp only [Rep] at h1
  have hi' := hi.perm hσ
  obtain ⟨es, cl, g1, g2, g3, g4, g5⟩ := hi'.ok _ (List.mem_cons_self ..)
  have hr : (execOp a.eval o).run P w = .ok (.value (.pointer (some ⟨w.heap.size, 0, none⟩))) (w.alloc (.mapIter (some r) cl #[] cl)) := by
    unfold execOp
    rw [ho]
    simp [h1, run_range_map w t kt e r es cl ht g1]
  unfold Oper.wp
  rw [hr]
  have hi2 : Inv K p (.mapE r (mapM' key g l) es cl :: τ) w := ⟨fun o' ho' => by
      rcases List.mem_cons.1 ho' with rfl | ho'
      · exact ⟨g1, g2, g3, g4, g5⟩
      · exact hi'.ok _ (List.mem_cons_of_mem _ ho'), hi'.nd, hi'.mine, hi'.pub, hi'.gr, hi'.neu, hi'.os, hi'.tape, hi'.output, hi'.size, hi'.block⟩
  refine ⟨_, .ref w.heap.size 0 [], _, p, rfl, ⟨w.heap.size, es, cl, rfl, rfl, ?_⟩, by simp only [Rep], ?_, grow_alloc hi.pub _⟩
  · have := repKV_len g2
    simpa using this
  refine (hi2.alloc _).more (heap_alloc_new w _) fun b hb => ?_
  simp only [Ob.blk, Option.some.injEq] at hb
  subst hb
  exact ⟨.inl hi.size, fun hm => by have := hi2.lt hm; omega⟩
theorem inv_close {K : Ctx} {p : Addr → Prop} {w : World} {τ : St} {b r c : Nat} {seen : Array Nat} {last : Nat} {kv : List (D × D)} {es : Array MapEntry} {cl : Nat} (hi : Inv K p (.iter b r c seen last :: .mapE r kv es cl :: τ) w) : Inv K p (.map r kv :: τ) w :=
  let hi' := hi.tail
  ⟨fun o' ho' => by
      rcases List.mem_cons.1 ho' with rfl | ho'
      · obtain ⟨g1, g2, g3, g4, g5⟩ := hi'.ok _ (List.mem_cons_self ..)
        exact ⟨es, cl, g1, g2, g3, g4, g5⟩
      · exact hi'.ok _ (List.mem_cons_of_mem _ ho'), hi'.nd, hi'.mine, hi'.pub, hi'.gr, hi'.neu, hi'.os, hi'.tape, hi'.output, hi'.size, hi'.block⟩
theorem s_next {x : Operand} {b r cl last : Nat} {seen : Array Nat} {es : Array MapEntry} {l : List (α × β)} {σ τ : St} (ho : o.op = .next x false) (hx : ρ x = some (.ref b 0 [])) (hσ : σ.Perm (.iter b r cl seen last :: .mapE r (mapM' key g l) es cl :: τ)) (hl : cl ≤ last) :
    StepS P o ρ σ fun d' σ' => (remOf es seen l = [] ∧ d' = .tup [.bool false] ∧ σ' = .map r (mapM' key g l) :: τ) ∨ ∃ (q : α × β) (e : MapEntry), (remOf es seen l).Perm (q :: remOf es (seen.push e.born) l) ∧ CurE es l e q ∧ d' = .tup [.bool true, key q.1, g q.2] ∧ σ' = .iter b r cl (seen.push e.born) cl :: .mapE r (mapM' key g l) es cl :: τ := fun K p a w hi h => by
  have h1 := h x (by rw [ho]; simp [Op.operands]) _ hx
  simp only [Rep] at h1
  have hi' := hi.perm hσ
  have i1 : w.heap[b]? = some (.mapIter (some r) cl seen last) := hi'.ok _ (List.mem_cons_self ..)
  obtain ⟨g1, g2, g3, g4, g5⟩ := hi'.ok _ (List.mem_cons_of_mem _ (List.mem_cons_self ..))
  have hlen := repKV_len g2
  rcases run_next_at (P := P) w o.type b r cl last seen es cl i1 g1 g5 hl with ⟨e0, hr⟩ | ⟨e, he, w1, hw1, hr⟩
  · have hr' : (execOp a.eval o).run P w = .ok (.value (.tuple #[.bool false])) w := by
      unfold execOp
      rw [ho]
      simp [h1, hr]
    unfold Oper.wp
    rw [hr']
    refine ⟨_, .tup [.bool false], _, p, rfl, .inl ⟨?_, rfl, rfl⟩, ?_, inv_close hi', Grow.refl _ _⟩
    · unfold remOf
      unfold leftOf at e0
      have e1 : es.filter (fun e => !seen.contains e.born) = #[] := Array.eq_empty_of_size_eq_zero e0
      rw [Array.filter_eq_empty_iff] at e1
      rw [List.map_eq_nil_iff, List.filter_eq_nil_iff]
      intro x hx
      exact e1 x.1 (by simpa using (List.of_mem_zip (show (x.1, x.2) ∈ es.toList.zip l from hx)).1)
    · simp only [Rep, Repl]
      exact ⟨[.bool false], rfl, _, _, rfl, rfl, rfl⟩
  · have hr' : (execOp a.eval o).run P w = .ok (.value (.tuple #[.bool true, e.key, e.val])) (ChangeMaps.setBlock w1 b (.mapIter (some r) cl (seen.push e.born) cl)) := by
      unfold execOp
      rw [ho]
      simp [h1, hr]
    unfold Oper.wp
    rw [hr']
    have he' : e ∈ es.toList ∧ seen.contains e.born = false := by
      unfold leftOf at he
      simpa using he
    obtain ⟨i, hi1⟩ := List.getElem?_of_mem he'.1
    have hil : i < l.length := by
      have := (List.getElem?_eq_some_iff.1 hi1).1
      simp only [List.length_map] at hlen
      omega
    have hq : l[i]? = some l[i] := List.getElem?_eq_getElem hil
    obtain ⟨rk, rv⟩ := repKV_at (k := key l[i].1) (d := g l[i].2) g2 hi1 (by simp [mapM', hq])
    have hiw : Inv K p (.iter b r cl seen last :: .mapE r (mapM' key g l) es cl :: τ) w1 ∧ Grow p w p w1 := by
      rcases hw1 with rfl | rfl
      · exact ⟨hi', Grow.refl _ _⟩
      · exact ⟨hi'.drew, grow_drew p w⟩
    have j1 : w1.heap[b]? = some (.mapIter (some r) cl seen last) := hiw.1.ok _ (List.mem_cons_self ..)
    have hset := MapKept.heap_set (o' := .mapIter (some r) cl (seen.push e.born) cl) j1
    have gr : Grow p w1 p (ChangeMaps.setBlock w1 b (.mapIter (some r) cl (seen.push e.born) cl)) := fun a' ha => ⟨ha, cell_same (hset.2 _ (by
      intro e'
      obtain ⟨u, hu⟩ := hiw.1.pub a' ha
      unfold World.cell? at hu
      rw [e', j1] at hu
      cases hu))⟩
    have g' := hiw.2.tr gr
    refine ⟨_, .tup [.bool true, key l[i].1, g l[i].2], _, p, rfl, .inr ⟨l[i], e, remOf_step es.toList l seen i e l[i] g4 hi1 hq he'.2, ⟨i, hi1, hq⟩, rfl, rfl⟩, ?_, ?_, g'⟩
    · simp only [Rep, Repl]
      exact ⟨[.bool true, e.key, e.val], rfl, .bool true, _, rfl, rfl, e.key, _, rfl, rk.grow g', e.val, _, rfl, rv.grow g', rfl⟩
    · refine hiw.1.write (b := b) rfl rfl gr (fun a' ha => .inl ha) hset.1 (fun a' ha => ?_) rfl rfl rfl (by simp [ChangeMaps.setBlock]) fun k hk => hset.2 k hk
      obtain ⟨u, hu⟩ := hiw.1.pub a' ha
      exact ⟨u, by rw [(gr a' ha).2]; exact hu⟩
theorem s_entry {x : Operand} {b r cl : Nat} {seen : Array Nat} {es : Array MapEntry} {l : List (α × β)} {q : α × β} {e : MapEntry} {σ : St} (ho : o.op = .entry x) (hx : ρ x = some (.ref b 0 [])) (h1 : .iter b r cl (seen.push e.born) cl ∈ σ) (h2 : .mapE r (mapM' key g l) es cl ∈ σ) (hc : CurE es l e q) :
    StepS P o ρ σ fun d' σ' => d' = .tup [key q.1, g q.2] ∧ σ' = σ := fun K p a w hi h => by
  have h3 := h x (by rw [ho]; simp [Op.operands]) _ hx
  simp only [Rep] at h3
  have i1 : w.heap[b]? = some (.mapIter (some r) cl (seen.push e.born) cl) := hi.ok _ h1
  obtain ⟨g1, g2, g3, g4, g5⟩ := hi.ok _ h2
  obtain ⟨i, c1, c2⟩ := hc
  have hr : (execOp a.eval o).run P w = .ok (.value (.tuple #[e.key, e.val])) w := by
    unfold execOp
    rw [ho]
    simp [h3, run_entry_at (P := P) w b r cl seen es cl e i1 g1 (List.mem_of_getElem? c1) g4]
  obtain ⟨rk, rv⟩ := repKV_at (k := key q.1) (d := g q.2) g2 c1 (by simp [mapM', c2])
  unfold Oper.wp
  rw [hr]
  refine ⟨_, _, _, p, rfl, ⟨rfl, rfl⟩, ?_, hi, Grow.refl _ _⟩
  simp only [Rep, Repl]
  exact ⟨[e.key, e.val], rfl, e.key, _, rfl, rk, e.val, _, rfl, rv, rfl⟩
end
section
variable {P : Program} {f : FuncId} {fn : Func} {K : Ctx} {R : D → St → Prop} {k : List Item} {env : Env} {σ τ : St}
theorem g_mapClose {m : Md} {b r c : Nat} {seen : Array Nat} {last : Nat} {kv : List (D × D)} {es : Array MapEntry} {cl : Nat} (hσ : σ.Perm (.iter b r c seen last :: .mapE r kv es cl :: τ)) (h : GoesG m P f fn K R k env (.map r kv :: τ)) : GoesG m P f fn K R k env σ := fun p a w hi hr => h p a w (inv_close (hi.perm hσ)) hr
end
theorem s_conv {P : Program} {o : Oper} {ρ : Operand → Option D} {t t' : TypeId} {x : Operand} {d : TypeDesc} {k k' : IntKind} {n : Int} (ho : o.op = .convert t t' x) (ht : P.underlying t = some d) (ht' : P.underlying t' = some (.int k)) (hx : ρ x = some (.int k' n)) : StepD P o ρ (.int k (k.wrap n)) := stepD_of fun p a w h => by
  have h1 := h x (by rw [ho]; simp [Op.operands]) _ hx
  simp only [Rep] at h1
  refine ⟨.int k (k.wrap n), ?_, by simp only [Rep]; exact ⟨trivial, wrap_idem _ _⟩⟩
  unfold execOp
  rw [ho]
  simp [h1.1, convert, run_underlying ht, run_underlying ht', Conv.intToInt]

/-! ### lists that are appended to and written -/
section
variable {P : Program} {o : Oper} {ρ : Operand → Option D} {α : Type} {f : α → D}
end
section
variable {P : Program} {f : FuncId} {fn : Func} {K : Ctx} {R : D → St → Prop} {k : List Item} {env : Env} {σ : St}
end
end Go.Proofs.Ytbdhjkneoandiaa


namespace Go.Proofs.Ytbdhjkneoandiaa
set_option maxRecDepth 100000
open Go.RowKit

theorem ifS {α : Type} {c : Prop} [Decidable c] {a b : α} (h : (if c then some a else none) = some b) : c ∧ a = b := by
  split at h
  · exact ⟨by assumption, Option.some.inj h⟩
  · cases h
noncomputable def x_rightT (t : T) : Option (Bool) := if wt t ≤ 1000000000 then some (rightT t) else none

theorem x_rightT_eq (t : T) (h : wt t ≤ 1000000000) : x_rightT t = some (rightT t) := if_pos h

theorem lx_term_Right (t : T) (res : Bool) (h : x_rightT t = some res) : Gives Try.prog 26 [encT t] (.bool res) := by
  obtain ⟨h1, rfl⟩ := ifS h
  exact sp_term_Right 1000000000 (Nat.le_refl _) t h1

noncomputable def x_sameT (t : T) (u : T) : Option (Bool) := if wt t ≤ 1000000000 then some (sameT t u) else none

theorem lx_term_Same (t : T) (u : T) (res : Bool) (h : x_sameT t u = some res) : Gives Try.prog 45 [encT t, encT u] (.bool res) := by
  obtain ⟨h1, rfl⟩ := ifS h
  exact sp_term_Same 1000000000 (Nat.le_refl _) t u h1

noncomputable def x_rightA (a : At) : Option (Bool) := if wtL a.ts ≤ 1000000000 then some (rightA a) else none

theorem x_rightA_eq (a : At) (h : wtL a.ts ≤ 1000000000) : x_rightA a = some (rightA a) := if_pos h

theorem lx_constraintref03_RightAtom (a : At) (res : Bool) (h : x_rightA a = some res) : Gives Try.prog 20 [encA a] (.bool res) := by
  obtain ⟨h1, rfl⟩ := ifS h
  exact sp_R3_RightAtom 1000000000 (Nat.le_refl _) a h1

noncomputable def x_rightG (a : Gl) : Option (Bool) := if wtL a.ts ≤ 1000000000 then some (rightG a) else none

theorem x_rightG_eq (a : Gl) (h : wtL a.ts ≤ 1000000000) : x_rightG a = some (rightG a) := if_pos h

theorem lx_term_RightGoal (a : Gl) (res : Bool) (h : x_rightG a = some res) : Gives Try.prog 81 [encG a] (.bool res) := by
  obtain ⟨h1, rfl⟩ := ifS h
  exact sp_term_RightGoal 1000000000 (Nat.le_refl _) a h1

noncomputable def x_sameG (a : Gl) (b : Gl) : Option (Bool) := if wtL a.ts ≤ 1000000000 then some (sameG a b) else none

theorem lx_term_SameGoal (a : Gl) (b : Gl) (res : Bool) (h : x_sameG a b = some res) : Gives Try.prog 43 [encG a, encG b] (.bool res) := by
  obtain ⟨h1, rfl⟩ := ifS h
  exact sp_term_SameGoal 1000000000 (Nat.le_refl _) a b h1

noncomputable def x_isName (s : ByteArray) : Option (Bool) := if True then some (isName s) else none

theorem x_isName_eq (s : ByteArray) (h : True) : x_isName s = some (isName s) := if_pos h

theorem lx_name_Right (s : ByteArray) (res : Bool) (h : x_isName s = some res) : Gives Try.prog 82 [.str s] (.bool res) := by
  obtain ⟨h1, rfl⟩ := ifS h
  exact sp_name_Right s

end Go.Proofs.Ytbdhjkneoandiaa


namespace Go.Proofs.Ytbdhjkneoandiaa
set_option maxRecDepth 100000
open Go.RowKit

theorem gives_weigh (d : Nat) (hd : d ≤ 1000) (l : List T) (left : Int) (h1 : -9223372036854775808 ≤ left) (h2 : left ≤ 1000000000) : Gives Try.prog 58 [.lst (l.map encT), .int .i64 left, .int .i64 (d : Int)] (.int .i64 (weighF d l left)) :=
  gives_of_ret (v := .int .i64 (weighF d l left)) (fun p w => by
    have := weighF_ge d l left
    have : weighF d l left ≤ max left (-1) := by
      by_cases h : 0 ≤ weighF d l left
      · have := weigh_wt d l left h
        omega
      · omega
    simp only [Rep]; exact ⟨trivial, wrap64 (by omega)⟩) fun p w vs _ hv => by
    simp only [Repl] at hv
    obtain ⟨v, _, rfl, k1, u, _, rfl, k2, x, _, rfl, k3, rfl⟩ := hv
    simp only [Rep] at k2 k3
    obtain ⟨rfl, _⟩ := k2
    obtain ⟨rfl, _⟩ := k3
    exact weigh_any d l v left d w (sl_of k1) rfl hd h1 h2
noncomputable def x_weigh (l : List T) (left d : Int) : Option Int := if (-9223372036854775808 ≤ left ∧ left ≤ 1000000000) ∧ 0 ≤ d ∧ d ≤ 1000 then some (weighF d.toNat l left) else none
theorem lx_constraintref03_weigh (l : List T) (left d res : Int) (h : x_weigh l left d = some res) : Gives Try.prog 58 [.lst (l.map encT), .int .i64 left, .int .i64 d] (.int .i64 res) := by
  obtain ⟨⟨⟨h1, h2⟩, h3, h4⟩, rfl⟩ := ifS h
  have := gives_weigh d.toNat (by omega) l left h1 h2
  rw [Int.toNat_of_nonneg h3] at this
  exact this
end Go.Proofs.Ytbdhjkneoandiaa


namespace Go.Proofs.Ytbdhjkneoandiaa
set_option maxRecDepth 100000
open Go.RowKit

theorem sz_encG (a : Gl) : sz (encG a) = 3 := rfl
end Go.Proofs.Ytbdhjkneoandiaa


namespace Go.Proofs.Ytbdhjkneoandiaa
set_option maxRecDepth 100000
open Go.RowKit

/-- Weakened field by field. -/
inductive Wks : List D → List D → Prop
  | nil : Wks [] []
  | cons {d e : D} {ds es : List D} (h : Wk d e) (k : Wks ds es) : Wks (d :: ds) (e :: es)
theorem Wks.reps {ds es : List D} (h : Wks ds es) : ∀ {p : Addr → Prop} {w : World} {xs : List Value}, Reps p w ds xs → Reps p w es xs := by
  induction h with
  | nil => exact fun h => h
  | cons h _ ih =>
    intro p w xs hr
    simp only [Reps] at hr ⊢
    obtain ⟨v, rest, h1, h2, h3⟩ := hr
    exact ⟨v, rest, h1, h _ _ _ h2, ih h3⟩
theorem Wk.agg {ds es : List D} (h : Wks ds es) : Wk (.agg ds) (.agg es) := fun p w v hv => by
  simp only [Rep] at hv ⊢
  obtain ⟨cs, h1, h2, h3⟩ := hv
  exact ⟨cs, h1, h.reps h2, h3⟩
section
variable {P : Program} {f : FuncId} {fn : Func} {K : Ctx} {R : D → St → Prop} {k : List Item} {env : Env} {σ : St}
end
end Go.Proofs.Ytbdhjkneoandiaa


namespace Go.Proofs.Ytbdhjkneoandiaa
set_option maxRecDepth 100000
open Go.RowKit

theorem Inv.of {K K' : Ctx} {p : Addr → Prop} {σ : St} {w : World} (h0 : K'.w0 = K.w0) (hp : K'.p0 = K.p0) (hF : K'.F0 = K.F0) (h : Inv K p σ w) : Inv K' p σ w := by
  obtain ⟨w0, p0, F0, X⟩ := K
  obtain ⟨w0', p0', F0', X'⟩ := K'
  simp only at h0 hp hF
  subst h0 hp hF
  exact ⟨h.ok, h.nd, h.mine, h.pub, h.gr, h.neu, h.os, h.tape, h.output, h.size, h.block⟩
section
variable {P : Program} {f : FuncId} {fn : Func} {ds : List D} {σ : St} {R : D → St → Prop} {X : D → Prop}
end
section
variable {P : Program} {o : Oper} {ρ : Operand → Option D} {d : D} {σ : St}
end
end Go.Proofs.Ytbdhjkneoandiaa


namespace Go.Proofs.Ytbdhjkneoandiaa
set_option maxRecDepth 100000
open Go.RowKit

theorem ask_first {P : Program} {kt : TypeId} (L : WideMaps.KeyLaw P kt) (hwide : (match P.underlying kt with | some (.array _ _) | some (.struct _) => true | _ => false) = true) (hm : P.types.size + 1 ≤ 10000) (hk : P.keyType kt = true) (w : World) {v : Value} (hv : ∃ l, keyOf P kt v = some l) : ∀ (es : List MapEntry) (i : Nat), (∀ e ∈ es, ∃ l, keyOf P kt e.key = some l) → (Instr.findAsking kt v es i).run P w = .ok (firstAt v es i) w
  | [], i, _ => by simp [Instr.findAsking, firstAt]
  | e :: es, i, h => by
    obtain ⟨lx, hx⟩ := hv
    obtain ⟨ly, hy⟩ := h e (List.mem_cons_self ..)
    obtain ⟨r, hr, hiff⟩ := run_equal_deep w hm hk hwide hx hy
    have ih := ask_first L hwide hm hk w ⟨lx, hx⟩ es (i + 1) fun x hx => h x (List.mem_cons_of_mem _ hx)
    simp only [Instr.findAsking, firstAt, Sem.run_bind, hr, Result.andThen_ok]
    cases r with
    | true =>
      have he : e.key = v := L.inj (l := lx) (by rw [hy, (hiff.1 rfl)]) hx
      simp [he]
    | false =>
      have he : e.key ≠ v := fun he => by
        rw [he, hx] at hy
        have := hiff.2 (Option.some.inj hy)
        cases this
      rw [if_neg he]
      simpa using ih
/-- Keys that are structs or arrays of flat parts. -/
theorem keyWide {P : Program} {kt : TypeId} {α : Type} {key : α → D} {vk : α → Value} (hl : laidOutB P = true) (hm : P.types.size + 2 ≤ 10000) (hrow : kt < P.types.size) (hk : P.keyType kt = true) (hwide : (match P.underlying kt with | some (.array _ _) | some (.struct _) => true | _ => false) = true)
    (h1 : ∀ (p : Addr → Prop) (w : World) (a : α) (v : Value), Rep p w (key a) v → v = vk a) (h2 : ∀ (p : Addr → Prop) (w : World) (a : α) (v : Value), Rep p w (key a) v → ∃ l, keyOf P kt v = some l) (h3 : ∀ a b, vk a = vk b → a = b) : KeyOk P kt key vk (fun v => ∃ l, keyOf P kt v = some l) :=
  have L := deep_law_gate hl hm hrow hk hwide
  ⟨h1, h2, h3, fun w em v ⟨l, h⟩ => L.check w em h, fun w v es hv he => by rw [run_findKey_eq w hwide]; exact ask_first L hwide (by omega) hk w hv es 0 he, fun w v ⟨l, h⟩ => L.stays w h⟩

/-! ### flat structs -/
def flatV : D → Value
  | .int k n => .int k n
  | .str s => .string s
  | .bool b => .bool b
  | _ => Go.undef
def flatK : Option TypeDesc → D → Bool
  | some (.int k), .int k' _ => k == k'
  | some .string, .str _ => true
  | some .bool, .bool _ => true
  | _, _ => false
/-- Fields of one cell each, one behind the other, of the kinds of the data. -/
def flatF (P : Program) : Nat → List Field → List D → Bool
  | _, [], [] => true
  | o, f :: fs, d :: ds => (f.name != "_") && (f.offset == o && (P.cellsOf f.type == 1 && (flatK (P.underlying f.type) d && flatF P (o + 1) fs ds)))
  | _, _, _ => false
theorem wf_of_wrap {k : IntKind} {n : Int} (h : k.wrap n = n) : (Lit.int k n).wf = true := by
  cases k <;> simp [IntKind.wrap, IntKind.bits, IntKind.signed] at h <;> simp [Lit.wf, IntKind.min, IntKind.max, IntKind.signed, IntKind.bits] <;> first | (split at h <;> omega) | omega
theorem flat_reps {P : Program} {p : Addr → Prop} {w : World} {D' : Nat} {cs0 : List Value} : ∀ (fs : List Field) (ds : List D) (cs : List Value) (o : Nat), flatF P o fs ds = true → Reps p w ds cs → cs0.drop o = cs →
    cs = ds.map flatV ∧ ∃ L, fs.mapM (fun f => P.keyLits (D' + 1) f.type ((cs0.drop f.offset).take (P.cellsOf f.type))) = some L
  | [], [], cs, o, _, h, _ => by
    simp only [Reps] at h
    exact ⟨h, [], rfl⟩
  | f :: fs, d :: ds, cs, o, hf, h, hd => by
    simp only [flatF, Bool.and_eq_true, beq_iff_eq] at hf
    obtain ⟨_, h1, h2, h3, h4⟩ := hf
    simp only [Reps] at h
    obtain ⟨v, rest, rfl, h5, h6⟩ := h
    have one : v.cells.toList = [flatV d] ∧ ∃ l, P.keyLits (D' + 1) f.type [flatV d] = some l := by
      unfold flatK at h3
      split at h3
      · rename_i k k' n hu
        have h3 : k = k' := by simpa using h3
        subst h3
        simp only [Rep] at h5
        refine ⟨by rw [h5.1]; simp [Value.cells, flatV], ?_⟩
        simp [Program.keyLits, hu, flatV, wf_of_wrap h5.2]
      · rename_i s hu
        simp only [Rep] at h5
        refine ⟨by rw [h5.1]; simp [Value.cells, flatV], ?_⟩
        have : s.size ≤ maxLen := by unfold maxLen; omega
        simp [Program.keyLits, hu, flatV, this]
      · rename_i b hu
        simp only [Rep] at h5
        refine ⟨by rw [h5]; simp [Value.cells, flatV], ?_⟩
        simp [Program.keyLits, hu, flatV]
      · cases h3
    obtain ⟨e1, l, e2⟩ := one
    rw [e1] at hd ⊢
    obtain ⟨g1, L, g2⟩ := flat_reps (P := P) (D' := D') (cs0 := cs0) fs ds rest (o + 1) h4 h6 (by rw [← List.drop_drop, hd]; rfl)
    refine ⟨by rw [g1]; rfl, l :: L, ?_⟩
    rw [List.mapM_cons, h1, h2, hd]
    simp only [List.cons_append, List.nil_append, List.take_succ_cons, List.take_zero, e2]
    simp [g2]
  | [], _ :: _, _, _, h, _, _ => by cases h
  | _ :: _, [], _, _, h, _, _ => by cases h
theorem flat_names {P : Program} : ∀ (fs : List Field) (ds : List D) (o : Nat), flatF P o fs ds = true → (∀ f ∈ fs, (f.name != "_") = true) ∧ ds.length = fs.length
  | [], [], _, _ => ⟨by simp, rfl⟩
  | f :: fs, d :: ds, o, h => by
    simp only [flatF, Bool.and_eq_true] at h
    obtain ⟨g1, g2⟩ := flat_names fs ds (o + 1) h.2.2.2.2
    refine ⟨fun x hx => ?_, by simp [g2]⟩
    rcases List.mem_cons.1 hx with rfl | hx
    · exact h.1
    · exact g1 x hx
  | [], _ :: _, _, h => by cases h
  | _ :: _, [], _, h => by cases h
theorem flat_key {P : Program} {kt : TypeId} {fs : Array Field} {ds : List D} {p : Addr → Prop} {w : World} {v : Value} (hu : P.underlying kt = some (.struct fs)) (hk : P.keyType kt = true) (hc : P.cellsOf kt = fs.size) (hpos : 0 < P.types.size) (hf : flatF P 0 fs.toList ds = true) (h : Rep p w (.agg ds) v) :
    v = .agg (ds.map flatV).toArray ∧ ∃ l, keyOf P kt v = some l := by
  simp only [Rep] at h
  obtain ⟨cs, rfl, h1, _⟩ := h
  obtain ⟨g1, L, g2⟩ := flat_reps (P := P) (D' := P.types.size - 1) (cs0 := cs) fs.toList ds cs 0 hf h1 rfl
  obtain ⟨g3, g4⟩ := flat_names fs.toList ds 0 hf
  have hlen : cs.length = fs.size := by rw [g1, List.length_map, g4]; simp
  refine ⟨by rw [g1], ?_⟩
  have hd : P.types.size - 1 + 1 = P.types.size := by omega
  rw [hd] at g2
  have hall : (fs.all fun f => f.name != "_") = true := by
    rw [← Array.all_toList, List.all_eq_true]
    exact g3
  have hlits : P.keyLits (P.types.size + 1) kt cs = some L.flatten := by
    unfold Program.keyLits
    simp only [hu]
    rw [if_pos ⟨by rw [hlen, hc], hall⟩, g2]
    rfl
  unfold keyOf
  rw [hu]
  simp only [hk, Value.formed, hu, Bool.true_and]
  have hs : (cs.toArray.size == P.cellsOf kt) = true := by rw [hc]; simp [hlen]
  simp only [hs, if_true, Value.cells]
  rw [hlits]
  exact ⟨_, rfl⟩
section
variable {P : Program} {o : Oper} {ρ : Operand → Option D} {α : Type} [DecidableEq α] {key : α → D}
/-- Two such structs compared. -/
theorem s_eqW {t t' : TypeId} {x y : Operand} {ne : Bool} {vk : α → Value} {a b : α} (ho : o.op = .binOp (if ne then .neq else .eql) t x y t') (hK : KeyOk P t key vk (fun v => ∃ l, keyOf P t v = some l)) (hm : P.types.size + 1 ≤ 10000) (hk : P.keyType t = true) (hg : P.eqGuardType P.depth t = false)
    (hwide : (match P.underlying t with | some (.array _ _) | some (.struct _) => true | _ => false) = true) (hagg : ∀ c, ∃ cs, vk c = .agg cs) (hx : ρ x = some (key a)) (hy : ρ y = some (key b)) (L : WideMaps.KeyLaw P t) : StepD P o ρ (.bool (if ne then !decide (a = b) else decide (a = b))) := stepD_of fun p act w h => by
  have h1 := h x (by rw [ho]; simp [Op.operands]) _ hx
  have h2 := h y (by rw [ho]; simp [Op.operands]) _ hy
  obtain ⟨lx, e1⟩ := hK.good _ _ _ _ h1
  obtain ⟨ly, e2⟩ := hK.good _ _ _ _ h2
  have v1 := hK.rep _ _ _ _ h1
  have v2 := hK.rep _ _ _ _ h2
  obtain ⟨r, hr, hiff⟩ := run_equal_deep w hm hk hwide e1 e2
  have hab : r = decide (a = b) := by
    rw [Bool.eq_iff_iff, hiff, decide_eq_true_eq]
    constructor
    · intro e
      exact hK.inj _ _ (by rw [← v1, ← v2]; exact L.inj (l := lx) e1 (by rw [e2, e]))
    · intro e
      subst e
      rw [v1] at e1
      rw [v2, e1] at e2
      exact Option.some.inj e2
  obtain ⟨c1, k1⟩ := hagg a
  obtain ⟨c2, k2⟩ := hagg b
  refine ⟨.bool (if ne then !decide (a = b) else decide (a = b)), ?_, by simp only [Rep]⟩
  unfold execOp
  rw [ho]
  rw [v1, v2, k1, k2] at hr
  subst hab
  cases ne with
  | true => simp [v1, v2, k1, k2, binOp, eqGuard, hg, hr]
  | false => simp [v1, v2, k1, k2, binOp, eqGuard, hg, hr]
end
/-- All that is wanted of a struct of flat parts. -/
structure WideT (P : Program) (t : TypeId) {α : Type} (key : α → D) (vk : α → Value) : Prop where
  ok : KeyOk P t key vk (fun v => ∃ l, keyOf P t v = some l)
  small : P.types.size + 1 ≤ 10000
  kt : P.keyType t = true
  guard : P.eqGuardType P.depth t = false
  wide : (match P.underlying t with | some (.array _ _) | some (.struct _) => true | _ => false) = true
  agg : ∀ c, ∃ cs, vk c = .agg cs
  law : WideMaps.KeyLaw P t
theorem WideT.mk' {P : Program} {t : TypeId} {α : Type} {key : α → D} {vk : α → Value} {fs : Array Field} (ds : α → List D) (hl : laidOutB P = true) (hu : P.underlying t = some (.struct fs)) (hk : P.keyType t = true) (hc : P.cellsOf t = fs.size) (hm : decide (P.types.size + 2 ≤ 10000) = true) (hrow : decide (t < P.types.size) = true) (hg : P.eqGuardType P.depth t = false)
    (hkey : ∀ a, key a = .agg (ds a)) (hf : ∀ a, flatF P 0 fs.toList (ds a) = true) (hv : ∀ a, vk a = .agg ((ds a).map flatV).toArray) (hi : ∀ a b, vk a = vk b → a = b) : WideT P t key vk := by
  have hw : (match P.underlying t with | some (.array _ _) | some (.struct _) => true | _ => false) = true := by rw [hu]
  have hm' := of_decide_eq_true hm
  have hr' := of_decide_eq_true hrow
  refine ⟨keyWide hl hm' hr' hk hw (fun p w a v h => ?_) (fun p w a v h => ?_) hi, by omega, hk, hg, hw, fun c => ⟨_, hv c⟩, deep_law_gate hl hm' hr' hk hw⟩
  · rw [hkey] at h
    rw [hv]
    exact (flat_key hu hk hc (Nat.lt_of_le_of_lt (Nat.zero_le _) hr') (hf a) h).1
  · rw [hkey] at h
    exact (flat_key hu hk hc (Nat.lt_of_le_of_lt (Nat.zero_le _) hr') (hf a) h).2
theorem s_eqT {P : Program} {o : Oper} {ρ : Operand → Option D} {α : Type} [DecidableEq α] {key : α → D} {t t' : TypeId} {x y : Operand} {vk : α → Value} {a b : α} (ho : o.op = .binOp .eql t x y t') (hW : WideT P t key vk) (hx : ρ x = some (key a)) (hy : ρ y = some (key b)) : StepD P o ρ (.bool (decide (a = b))) :=
  s_eqW (ne := false) ho hW.ok hW.small hW.kt hW.guard hW.wide hW.agg hx hy hW.law
end Go.Proofs.Ytbdhjkneoandiaa


namespace Go.Proofs.Ytbdhjkneoandiaa
set_option maxRecDepth 100000
open Go.RowKit

/-- An array's type. -/
structure ArrE (P : Program) (t e : TypeId) (n s : Nat) : Prop where
  und : P.underlying t = some (.array n e)
  size : (P.info? e).map (·.size) = some s
section
variable {P : Program} {o : Oper} {ρ : Operand → Option D}
theorem s_indexB4 {t e : TypeId} {x ix : Operand} {b off : Nat} {path : List Nat} {k : IntKind} {m : Int} {x0 x1 x2 x3 q : Bool} (ho : o.op = .indexAddr t x ix) (hA : ArrE P t e 4 1) (hx : ρ x = some (.ref b off path)) (hix : ρ ix = some (.int k m)) (hq : getI [x0, x1, x2, x3] m = some q) : StepD P o ρ (.ref b (off + m.toNat) (path ++ [m.toNat])) := stepD_of fun p a w h => by
  have h1 := h x (by rw [ho]; simp [Op.operands]) _ hx
  have h2 := h ix (by rw [ho]; simp [Op.operands]) _ hix
  simp only [Rep] at h1 h2
  obtain ⟨h0, h3⟩ := getI_some hq
  have hlt : m.toNat < 4 := (List.getElem?_eq_some_iff.1 h3).1
  obtain ⟨i, hi, hin⟩ := Option.map_eq_some_iff.1 hA.size
  refine ⟨.pointer (some ⟨b, off + m.toNat, none⟩), ?_, by simp only [Rep]⟩
  unfold execOp
  rw [ho]
  have hb : 0 ≤ m ∧ m < 4 := by omega
  simp [h1, h2.1, Instr.indexAt, asIntOf, run_underlying hA.und, Instr.sureAddr, hb, sizeOf, typeInfo, hi, hin, addF]
theorem b4_case {x0 x1 x2 x3 q : Bool} {m : Int} (hq : getI [x0, x1, x2, x3] m = some q) : (m = 0 ∧ q = x0) ∨ (m = 1 ∧ q = x1) ∨ (m = 2 ∧ q = x2) ∨ (m = 3 ∧ q = x3) := by
  obtain ⟨h0, h3⟩ := getI_some hq
  have hlt : m.toNat < 4 := (List.getElem?_eq_some_iff.1 h3).1
  have : m = 0 ∨ m = 1 ∨ m = 2 ∨ m = 3 := by omega
  rcases this with rfl | rfl | rfl | rfl
  · exact .inl ⟨rfl, by simpa using h3.symm⟩
  · exact .inr (.inl ⟨rfl, by simpa using h3.symm⟩)
  · exact .inr (.inr (.inl ⟨rfl, by simpa using h3.symm⟩))
  · exact .inr (.inr (.inr ⟨rfl, by simpa using h3.symm⟩))
theorem subB4 {x0 x1 x2 x3 q : Bool} {m : Int} (hq : getI [x0, x1, x2, x3] m = some q) : subD (.agg [.bool x0, .bool x1, .bool x2, .bool x3]) ([] ++ [m.toNat]) = some (.bool q) := by
  rcases b4_case hq with ⟨rfl, rfl⟩ | ⟨rfl, rfl⟩ | ⟨rfl, rfl⟩ | ⟨rfl, rfl⟩ <;> rfl
theorem offB4 {x0 x1 x2 x3 q : Bool} {m : Int} (hq : getI [x0, x1, x2, x3] m = some q) : offD (.agg [.bool x0, .bool x1, .bool x2, .bool x3]) ([] ++ [m.toNat]) = 0 + m.toNat := by
  rcases b4_case hq with ⟨rfl, rfl⟩ | ⟨rfl, rfl⟩ | ⟨rfl, rfl⟩ | ⟨rfl, rfl⟩ <;> rfl
theorem setB4 {x0 x1 x2 x3 q : Bool} {m : Int} (hq : getI [x0, x1, x2, x3] m = some q) (v : Bool) : setD (.agg [.bool x0, .bool x1, .bool x2, .bool x3]) ([] ++ [m.toNat]) (.bool v) = .agg [.bool (bif m == 0 then v else x0), .bool (bif m == 1 then v else x1), .bool (bif m == 2 then v else x2), .bool (bif m == 3 then v else x3)] := by
  rcases b4_case hq with ⟨rfl, rfl⟩ | ⟨rfl, rfl⟩ | ⟨rfl, rfl⟩ | ⟨rfl, rfl⟩ <;> rfl

end
end Go.Proofs.Ytbdhjkneoandiaa


namespace Go.Proofs.Ytbdhjkneoandiaa
set_option maxRecDepth 100000
open Go.RowKit

/-- An entry of a map that is written out. -/
theorem s_asUpdate {P : Program} {o : Oper} {ρ : Operand → Option D} {t : TypeId} {x k y : Operand} {σ : St} {R : D → St → Prop} (ho : o.op = .insert t x k y) (h : StepS P { o with op := .mapUpdate t x k y } ρ σ R) : StepS P o ρ σ R := fun K p a w hi hv => by
  have h1 := h K p a w hi (fun z hz d hd => hv z (by rw [ho]; simpa [Op.operands] using hz) d hd)
  unfold Oper.wp at h1 ⊢
  have e : execOp a.eval { o with op := .mapUpdate t x k y } = execOp a.eval o := by
    unfold execOp
    rw [ho]
  rw [e] at h1
  exact h1

/-- The type of pairs of numbers, as arrays. -/
structure PairT (P : Program) (t e : TypeId) : Prop where
  und : P.underlying t = some (.array 2 e)
  zero : (P.info? t).map (·.zero) = some (some (.agg #[.int .i64 0, .int .i64 0]))
  size : (P.info? e).map (·.size) = some 1
section
variable {P : Program} {o : Oper} {ρ : Operand → Option D}
theorem s_buildI2 {t e : TypeId} {x y : Operand} {m n : Int} (ho : o.op = .build t #[(0, x), (1, y)]) (hT : PairT P t e) (hx : ρ x = some (.int .i64 m)) (hy : ρ y = some (.int .i64 n)) : StepD P o ρ (.agg [.int .i64 m, .int .i64 n]) := stepD_of fun p a w h => by
  have h1 := h x (by rw [ho]; simp [Op.operands]) _ hx
  have h2 := h y (by rw [ho]; simp [Op.operands]) _ hy
  obtain ⟨it, g1, g2⟩ := Option.map_eq_some_iff.1 hT.zero
  obtain ⟨ie, g3, g4⟩ := Option.map_eq_some_iff.1 hT.size
  have h1' := h1
  have h2' := h2
  simp only [Rep] at h1 h2
  refine ⟨.agg #[.int .i64 m, .int .i64 n], ?_, ?_⟩
  · unfold execOp
    rw [ho]
    have hb : P.built t (#[(0, a.eval x), (1, a.eval y)] : Array (Nat × Value)).toList = some #[.int .i64 m, .int .i64 n] := by
      unfold Program.built
      simp [g1, hT.und, g2, g3, g4, h1.1, h2.1, Value.cells, Instr.fill]
    simp [run_build w t #[(0, a.eval x), (1, a.eval y)] _ hb]
  · simp only [Rep, Reps]
    exact ⟨[.int .i64 m, .int .i64 n], rfl, ⟨.int .i64 m, [.int .i64 n], by simp [Value.cells], ⟨rfl, h1.2⟩, .int .i64 n, [], by simp [Value.cells], ⟨rfl, h2.2⟩, rfl⟩, by simp [Value.oneCell']⟩
end
/-- A field of a value. -/
structure FldV (P : Program) (s : TypeId) (f off : Nat) (ft : TypeId) : Prop where
  ex : ∃ fields fld, P.underlying s = some (.struct fields) ∧ fields[f]? = some fld ∧ fld.offset = off ∧ fld.type = ft
def scal : D → Bool
  | .int _ _ => true
  | .str _ => true
  | .bool _ => true
  | _ => false
theorem s_field1 {P : Program} {o : Oper} {ρ : Operand → Option D} {d : D} {s ft : TypeId} {x : Operand} {f off : Nat} {fs : List D} (ho : o.op = .field s x f) (hF : FldV P s f off ft) (hT : Ty P ft false 1) (hx : ρ x = some (.agg fs)) (hd : fs[f]? = some d) (hoff : szs (fs.take f) = off) (hs : scal d = true) : StepD P o ρ d := stepD_of fun p a w h => by
  have h1 := h x (by rw [ho]; simp [Op.operands]) _ hx
  simp only [Rep] at h1
  obtain ⟨cs, hv, h3, _⟩ := h1
  obtain ⟨v, hv2, hcell⟩ := h3.at_cell hd
  obtain ⟨fields, fld, g1, g2, g3, g4⟩ := hF.ex
  have hc : v.cells = #[v] := by
    cases d <;> simp [scal] at hs <;> simp only [Rep] at hv2 <;> first | (rw [hv2]; rfl) | (rw [hv2.1]; rfl)
  have h0 := hcell 0 v (by rw [hc]; rfl)
  rw [Nat.add_zero, hoff] at h0
  refine ⟨v, ?_, hv2⟩
  unfold execOp
  rw [ho]
  have ha := run_isAgg hT w
  rw [← g4] at ha
  simp [hv, Instr.field, run_underlying g1, g2, asAgg, part, ha, g3, h0]
/-- The rest of numbers without sign. -/
def remU (a b : Int) : Option Int := if b = 0 then none else some (Int.tmod a b)
theorem u64_range {n : Int} (h : IntKind.u64.wrap n = n) : 0 ≤ n ∧ n < 18446744073709551616 := by
  simp [IntKind.wrap, IntKind.bits, IntKind.signed] at h
  omega
theorem s_remU {P : Program} {o : Oper} {ρ : Operand → Option D} {t t' : TypeId} {x y : Operand} {a b r : Int} (ho : o.op = .binOp .rem t x y t') (hx : ρ x = some (.int .u64 a)) (hy : ρ y = some (.int .u64 b)) (hr : remU a b = some r) : StepD P o ρ (.int .u64 r) := stepD_of fun p ac w h => by
  have h1 := h x (by rw [ho]; simp [Op.operands]) _ hx
  have h2 := h y (by rw [ho]; simp [Op.operands]) _ hy
  simp only [Rep] at h1 h2
  unfold remU at hr
  split at hr
  · cases hr
  · rename_i hb
    obtain rfl := Option.some.inj hr
    obtain ⟨a0, a1⟩ := u64_range h1.2
    obtain ⟨b0, b1⟩ := u64_range h2.2
    have e : a.tmod b = a % b := Int.tmod_eq_emod_of_nonneg a0
    have q0 : 0 ≤ a % b := Int.emod_nonneg a hb
    have q1 : a % b < b := Int.emod_lt_of_pos a (by omega)
    have hw : IntKind.u64.wrap (a.tmod b) = a.tmod b := by
      rw [e]
      simp [IntKind.wrap, IntKind.bits, IntKind.signed]
      omega
    refine ⟨.int .u64 (a.tmod b), ?_, by simp only [Rep]; exact ⟨trivial, hw⟩⟩
    unfold execOp
    rw [ho]
    simp only [h1.1, h2.1]
    simp [binOp, eqGuard, Op.intDiv, hb, hw]
def encII (q : Int × Int) : D := .agg [.int .i64 q.1, .int .i64 q.2]
/-- Pairs of numbers as keys of maps. -/
theorem keyII {P : Program} {kt e : TypeId} (hl : laidOutB P = true) (hm : decide (P.types.size + 2 ≤ 10000) = true) (hrow : decide (kt < P.types.size) = true) (hk : P.keyType kt = true) (hu : P.underlying kt = some (.array 2 e)) (hc : P.cellsOf kt = 2) (he : P.underlying e = some (.int .i64)) (hce : P.cellsOf e = 1) :
    KeyOk P kt encII (fun q => .agg #[.int .i64 q.1, .int .i64 q.2]) (fun v => ∃ l, keyOf P kt v = some l) := by
  have hw : (match P.underlying kt with | some (.array _ _) | some (.struct _) => true | _ => false) = true := by rw [hu]
  have hr' := of_decide_eq_true hrow
  have hpos : 0 < P.types.size := Nat.lt_of_le_of_lt (Nat.zero_le _) hr'
  have rep : ∀ (p : Addr → Prop) (w : World) (a : Int × Int) (v : Value), Rep p w (encII a) v → v = .agg #[.int .i64 a.1, .int .i64 a.2] ∧ IntKind.i64.wrap a.1 = a.1 ∧ IntKind.i64.wrap a.2 = a.2 := fun p w a v h => by
    simp only [encII, Rep, Reps] at h
    obtain ⟨cs, rfl, ⟨v1, r1, rfl, ⟨rfl, e1⟩, v2, r2, rfl, ⟨rfl, e2⟩, rfl⟩, _⟩ := h
    exact ⟨by simp [Value.cells], e1, e2⟩
  refine keyWide hl (of_decide_eq_true hm) hr' hk hw (fun p w a v h => (rep p w a v h).1) (fun p w a v h => ?_) fun a b h => ?_
  · obtain ⟨rfl, e1, e2⟩ := rep p w a v h
    have w1 := wf_of_wrap e1
    have w2 := wf_of_wrap e2
    obtain ⟨d, hd⟩ : ∃ d, P.types.size = d + 1 := ⟨P.types.size - 1, by omega⟩
    have k1 : P.keyLits P.types.size e [.int .i64 a.1] = some [.int .i64 a.1] := by rw [hd]; simp [Program.keyLits, he, w1]
    have k2 : P.keyLits P.types.size e [.int .i64 a.2] = some [.int .i64 a.2] := by rw [hd]; simp [Program.keyLits, he, w2]
    have hlits : P.keyLits (P.types.size + 1) kt [.int .i64 a.1, .int .i64 a.2] = some [.int .i64 a.1, .int .i64 a.2] := by
      unfold Program.keyLits
      simp only [hu]
      rw [if_pos (by rw [hc]; rfl)]
      simp [hce, List.range_succ, k1, k2]
    unfold keyOf
    rw [hu]
    simp [hk, Value.formed, hu, hc, Value.cells, hlits]
  · simp only [Value.agg.injEq] at h
    have h := congrArg Array.toList h
    simp at h
    exact Prod.ext h.1 h.2

/-! ### a range over a map that is being ranged over -/
section
variable {P : Program} {o : Oper} {ρ : Operand → Option D} {α β : Type} {key : α → D} {g : β → D}
theorem s_range2 {t kt e : TypeId} {x : Operand} {r cl : Nat} {es : Array MapEntry} {l : List (α × β)} {σ τ : St} (ho : o.op = .range t x) (ht : P.underlying t = some (.map kt e)) (hx : ρ x = some (.map r)) (hσ : σ.Perm (.mapE r (mapM' key g l) es cl :: τ)) :
    StepS P o ρ σ fun d' σ' => ∃ b, d' = .ref b 0 [] ∧ σ' = .iter b r cl #[] cl :: .mapE r (mapM' key g l) es cl :: τ := fun K p a w hi h => by
  have h1 := h x (by rw [ho]; simp [Op.operands]) _ hx
  simp only [Rep] at h1
  have hi' := hi.perm hσ
  obtain ⟨g1, g2, g3, g4, g5⟩ := hi'.ok _ (List.mem_cons_self ..)
  have hr : (execOp a.eval o).run P w = .ok (.value (.pointer (some ⟨w.heap.size, 0, none⟩))) (w.alloc (.mapIter (some r) cl #[] cl)) := by
    unfold execOp
    rw [ho]
    simp [h1, run_range_map w t kt e r es cl ht g1]
  unfold Oper.wp
  rw [hr]
  refine ⟨_, .ref w.heap.size 0 [], _, p, rfl, ⟨w.heap.size, rfl, rfl⟩, by simp only [Rep], ?_, grow_alloc hi.pub _⟩
  refine (hi'.alloc _).more (heap_alloc_new w _) fun b hb => ?_
  simp only [Ob.blk, Option.some.injEq] at hb
  subst hb
  exact ⟨.inl hi.size, fun hm => by have := hi'.lt hm; omega⟩
theorem s_next2 {x : Operand} {b r cl last : Nat} {seen : Array Nat} {es : Array MapEntry} {l : List (α × β)} {σ τ : St} (ho : o.op = .next x false) (hx : ρ x = some (.ref b 0 [])) (hσ : σ.Perm (.iter b r cl seen last :: .mapE r (mapM' key g l) es cl :: τ)) (hl : cl ≤ last) :
    StepS P o ρ σ fun d' σ' => (remOf es seen l = [] ∧ d' = .tup [.bool false] ∧ σ' = .mapE r (mapM' key g l) es cl :: τ) ∨ ∃ (q : α × β) (e : MapEntry), (remOf es seen l).Perm (q :: remOf es (seen.push e.born) l) ∧ CurE es l e q ∧ d' = .tup [.bool true, key q.1, g q.2] ∧ σ' = .iter b r cl (seen.push e.born) cl :: .mapE r (mapM' key g l) es cl :: τ := fun K p a w hi h => by
  have h1 := h x (by rw [ho]; simp [Op.operands]) _ hx
  simp only [Rep] at h1
  have hi' := hi.perm hσ
  have i1 : w.heap[b]? = some (.mapIter (some r) cl seen last) := hi'.ok _ (List.mem_cons_self ..)
  obtain ⟨g1, g2, g3, g4, g5⟩ := hi'.ok _ (List.mem_cons_of_mem _ (List.mem_cons_self ..))
  have hlen := repKV_len g2
  rcases run_next_at (P := P) w o.type b r cl last seen es cl i1 g1 g5 hl with ⟨e0, hr⟩ | ⟨e, he, w1, hw1, hr⟩
  · have hr' : (execOp a.eval o).run P w = .ok (.value (.tuple #[.bool false])) w := by
      unfold execOp
      rw [ho]
      simp [h1, hr]
    unfold Oper.wp
    rw [hr']
    refine ⟨_, .tup [.bool false], _, p, rfl, .inl ⟨?_, rfl, rfl⟩, ?_, hi'.tail, Grow.refl _ _⟩
    · unfold remOf
      unfold leftOf at e0
      have e1 : es.filter (fun e => !seen.contains e.born) = #[] := Array.eq_empty_of_size_eq_zero e0
      rw [Array.filter_eq_empty_iff] at e1
      rw [List.map_eq_nil_iff, List.filter_eq_nil_iff]
      intro x hx
      exact e1 x.1 (by simpa using (List.of_mem_zip (show (x.1, x.2) ∈ es.toList.zip l from hx)).1)
    · simp only [Rep, Repl]
      exact ⟨[.bool false], rfl, _, _, rfl, rfl, rfl⟩
  · have hr' : (execOp a.eval o).run P w = .ok (.value (.tuple #[.bool true, e.key, e.val])) (ChangeMaps.setBlock w1 b (.mapIter (some r) cl (seen.push e.born) cl)) := by
      unfold execOp
      rw [ho]
      simp [h1, hr]
    unfold Oper.wp
    rw [hr']
    have he' : e ∈ es.toList ∧ seen.contains e.born = false := by
      unfold leftOf at he
      simpa using he
    obtain ⟨i, hi1⟩ := List.getElem?_of_mem he'.1
    have hil : i < l.length := by
      have := (List.getElem?_eq_some_iff.1 hi1).1
      simp only [List.length_map] at hlen
      omega
    have hq : l[i]? = some l[i] := List.getElem?_eq_getElem hil
    obtain ⟨rk, rv⟩ := repKV_at (k := key l[i].1) (d := g l[i].2) g2 hi1 (by simp [mapM', hq])
    have hiw : Inv K p (.iter b r cl seen last :: .mapE r (mapM' key g l) es cl :: τ) w1 ∧ Grow p w p w1 := by
      rcases hw1 with rfl | rfl
      · exact ⟨hi', Grow.refl _ _⟩
      · exact ⟨hi'.drew, grow_drew p w⟩
    have j1 : w1.heap[b]? = some (.mapIter (some r) cl seen last) := hiw.1.ok _ (List.mem_cons_self ..)
    have hset := MapKept.heap_set (o' := .mapIter (some r) cl (seen.push e.born) cl) j1
    have gr : Grow p w1 p (ChangeMaps.setBlock w1 b (.mapIter (some r) cl (seen.push e.born) cl)) := fun a' ha => ⟨ha, cell_same (hset.2 _ (by
      intro e'
      obtain ⟨u, hu⟩ := hiw.1.pub a' ha
      unfold World.cell? at hu
      rw [e', j1] at hu
      cases hu))⟩
    have g' := hiw.2.tr gr
    refine ⟨_, .tup [.bool true, key l[i].1, g l[i].2], _, p, rfl, .inr ⟨l[i], e, remOf_step es.toList l seen i e l[i] g4 hi1 hq he'.2, ⟨i, hi1, hq⟩, rfl, rfl⟩, ?_, ?_, g'⟩
    · simp only [Rep, Repl]
      exact ⟨[.bool true, e.key, e.val], rfl, .bool true, _, rfl, rfl, e.key, _, rfl, rk.grow g', e.val, _, rfl, rv.grow g', rfl⟩
    · refine hiw.1.write (b := b) rfl rfl gr (fun a' ha => .inl ha) hset.1 (fun a' ha => ?_) rfl rfl rfl (by simp [ChangeMaps.setBlock]) fun k hk => hset.2 k hk
      obtain ⟨u, hu⟩ := hiw.1.pub a' ha
      exact ⟨u, by rw [(gr a' ha).2]; exact hu⟩
end
section
variable {P : Program} {f : FuncId} {fn : Func} {K : Ctx} {R : D → St → Prop} {k : List Item} {env : Env} {σ τ : St}
theorem g_mapDrop {m : Md} {b r c : Nat} {seen : Array Nat} {last : Nat} (hσ : σ.Perm (.iter b r c seen last :: τ)) (h : GoesG m P f fn K R k env τ) : GoesG m P f fn K R k env σ := fun p a w hi hr => h p a w (hi.perm hσ).tail hr
end
end Go.Proofs.Ytbdhjkneoandiaa

