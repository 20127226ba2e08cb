/-
  Texts of the seat, merged.
-/
import Derived.Test.YtlannippingfdaaLBA
import Derived.Test.YtlannippingfdaaLBB
import Derived.Test.YtlannippingfdaaChecked
import Derived.WalkKit
import Derived.Lib.Hide
import Derived.Lib.AppendStr
import Derived.Deep.AppendLies
import Derived.Deep.AppendSrc
import Derived.Deep.Draws
import Derived.Deep.QuietTactic
import Derived.BigQuiet
import Derived.Deep.RegionWith
import Derived.Maps.AppendAt
import Derived.WalkSpells
import Derived.Deep.Slices
import Derived.Deep.Fields
import Derived.ChangeArms
import Derived.Orders
import Derived.RangeFuncNested
import Derived.RangeFuncBound
import Derived.RangeFuncCalls
import Derived.RangeFuncLeaves
import Derived.Shelf.Abstract
import Derived.OwnWalkIn
import Derived.TacticsInMore
import Derived.LoopNIn
import Derived.LoopIn
import Derived.Lib.OthersKept
import Derived.Lib.TrimU
import Derived.Lib.IndexAny
import Derived.Deep.LoopGhost
import Derived.Lib.Bytealg
import Derived.RangeFuncBox
import Derived.RangeFuncWrites
import Derived.Maps.OwnIn
import Derived.Maps.Views
import Derived.Laws.OwnMore
import Derived.Maps.OwnSet
import Derived.Test.YtlannippingfdaaRows
import Derived.ProofKit
import Derived.OpenShut
import Derived.Carry
import Derived.OrdersIn
import Derived.Great.BuildSlice
import Derived.ArgAppend
import Derived.Laws.MakeOwn
import Derived.Laws.Cover3
import Derived.Laws.CopyRow
import Derived.MapKept
import Derived.Maps.RangeRun
import Derived.DeepKeys5
import Derived.WideKeyRuns
set_option linter.unusedVariables false
set_option linter.unusedSimpArgs false
set_option linter.unnecessarySimpa false
set_option linter.all false

namespace Go.Proofs.Ytlannippingfdaa
set_option maxRecDepth 100000
open Go.RowKit

section
variable {P : Program} {o : Oper} {ρ : Operand → Option D} {d : D}

def subD : D → List Nat → Option D
  | d, [] => some d
  | .agg l, f :: fs => match l[f]? with
    | some e => subD e fs
    | none => none
  | _, _ => none
def offD : D → List Nat → Nat
  | _, [] => 0
  | .agg l, f :: fs => szs (l.take f) + (match l[f]? with | some e => offD e fs | none => 0)
  | _, _ => 0
def setD : D → List Nat → D → D
  | _, [], x => x
  | .agg l, f :: fs, x => match l[f]? with
    | some e => .agg (l.set f (setD e fs x))
    | none => .agg l
  | d, _, _ => d

theorem subD_rep {p : Addr → Prop} {w : World} : ∀ {path : List Nat} {d0 d : D} {v0 : Value}, Rep p w d0 v0 → subD d0 path = some d → ∃ v, Rep p w d v ∧ ∀ j u, v.cells.toList[j]? = some u → v0.cells.toList[offD d0 path + j]? = some u
  | [], d0, d, v0, h, hs => by
    simp only [subD, Option.some.injEq] at hs
    subst hs
    exact ⟨v0, h, fun j u hu => by simpa [offD] using hu⟩
  | f :: fs, d0, d, v0, h, hs => by
    cases d0 <;> simp only [subD, reduceCtorEq] at hs
    rename_i l
    cases hl : l[f]? with
    | none => simp [hl] at hs
    | some e =>
      simp only [hl] at hs
      simp only [Rep] at h
      obtain ⟨cs, rfl, h2, h3⟩ := h
      obtain ⟨v1, hv1, hc1⟩ := h2.at_cell hl
      obtain ⟨v, hv, hc⟩ := subD_rep hv1 hs
      refine ⟨v, hv, fun j u hu => ?_⟩
      have := hc1 _ u (hc j u hu)
      simp only [offD, hl, Value.cells, Nat.add_assoc]
      exact this
theorem szs_take_le : ∀ (l : List D) (f : Nat) (e : D), l[f]? = some e → szs (l.take f) + sz e ≤ szs l
  | [], _, _, h => by simp at h
  | x :: l, 0, e, h => by simp at h; subst h; simp [szs]
  | x :: l, f + 1, e, h => by simp at h; have := szs_take_le l f e h; simp [szs]; omega
theorem setD_rep {p : Addr → Prop} {w : World} : ∀ {path : List Nat} {d0 d d' : D} {v0 v : Value}, Rep p w d0 v0 → subD d0 path = some d → sz d' = sz d → Rep p w d' v → (d'.plain = true) → d0.plain = true →
    ∃ v', Rep p w (setD d0 path d') v' ∧ (setD d0 path d').plain = true ∧ v'.cells.toList = v0.cells.toList.take (offD d0 path) ++ v.cells.toList ++ v0.cells.toList.drop (offD d0 path + sz d') ∧ offD d0 path + sz d' ≤ sz d0 ∧ sz (setD d0 path d') = sz d0
  | [], d0, d, d', v0, v, h, hs, hz, hv, hp, hp0 => by
    simp only [subD, Option.some.injEq] at hs
    subst hs
    refine ⟨v, by simpa only [setD] using hv, by simpa only [setD] using hp, ?_, by simp [offD, hz], by simpa only [setD] using hz⟩
    have := Rep.sz h
    have hl : v0.cells.toList.length = sz d' := by rw [hz]; simpa using this
    simp only [offD, List.take_zero, List.nil_append, Nat.zero_add]
    rw [List.drop_of_length_le (by omega)]
    simp
  | f :: fs, d0, d, d', v0, v, h, hs, hz, hv, hp, hp0 => by
    cases d0 <;> simp only [subD, reduceCtorEq] at hs
    rename_i l
    cases hl : l[f]? with
    | none => simp [hl] at hs
    | some e =>
      simp only [hl] at hs
      simp only [Rep] at h
      obtain ⟨cs, rfl, h2, h3⟩ := h
      obtain ⟨v1, hv1, hsplit, hlen1⟩ := h2.at_ hl
      have hpe : e.plain = true := by
        cases e <;> first | rfl | skip
        · simp only [Rep] at hv1
          obtain ⟨vs, rfl, _⟩ := hv1
          have := h3 (.tuple vs.toArray) (by rw [hsplit]; simp [Value.cells])
          cases this
        · simp only [Rep] at hv1
          subst hv1
          have := h3 Go.undef (by rw [hsplit]; simp [Value.cells, Go.undef])
          cases this
      obtain ⟨v', q1, q2, q3, q4, q5⟩ := setD_rep hv1 hs hz hv hp hpe
      have hset := Reps.set h2 hl q5 q1
      have hv1l : v1.cells.toList.length = sz e := by simpa using Rep.sz hv1
      have key : cs.take (szs (l.take f)) ++ v'.cells.toList ++ cs.drop (szs (l.take f) + sz e) = cs.take (offD (.agg l) (f :: fs)) ++ v.cells.toList ++ cs.drop (offD (.agg l) (f :: fs) + sz d') := by
        simp only [offD, hl]
        generalize hA : cs.take (szs (l.take f)) = A at hsplit hlen1 ⊢
        generalize hB : cs.drop (szs (l.take f) + sz e) = B at hsplit ⊢
        rw [q3]
        have hAl : A.length = szs (l.take f) := hlen1
        have e1 : cs.take (szs (l.take f) + offD e fs) = A ++ v1.cells.toList.take (offD e fs) := by
          rw [hsplit, ← hAl, List.append_assoc, List.take_length_add_append, List.take_append_of_le_length (by omega)]
        have e2 : cs.drop (szs (l.take f) + offD e fs + sz d') = v1.cells.toList.drop (offD e fs + sz d') ++ B := by
          rw [hsplit, ← hAl, List.append_assoc, Nat.add_assoc, List.drop_length_add_append, List.drop_append_of_le_length (by omega)]
        rw [e1, e2]
        simp only [List.append_assoc]
      refine ⟨.agg (cs.take (szs (l.take f)) ++ v'.cells.toList ++ cs.drop (szs (l.take f) + sz e)).toArray, ?_, ?_, ?_, ?_, ?_⟩
      · simp only [setD, hl, Rep]
        refine ⟨_, rfl, ?_, fun u hu => ?_⟩
        · rw [← q5]; exact hset
        · rcases List.mem_append.1 hu with hu | hu
          · rcases List.mem_append.1 hu with hu | hu
            · exact h3 u (List.mem_of_mem_take hu)
            · exact Rep.one q1 q2 u hu
          · exact h3 u (List.mem_of_mem_drop hu)
      · simp only [setD, hl]; rfl
      · exact key
      · have := szs_take_le l f e hl
        simp only [offD, hl, sz]
        omega
      · simp only [setD, hl, sz]
        exact szs_set l f e _ hl q5

theorem s_loadRef {t : TypeId} {x : Operand} {n b off : Nat} {path : List Nat} {σ : St} {d0 : D} (ho : o.op = .load t x) (hx : ρ x = some (.ref b off path)) (hσ : .cell b d0 ∈ σ) (hs : subD d0 path = some d) (hoff : offD d0 path = off) (ht : Ty P t d.isAgg n) (hn : sz d = n) : StepS P o ρ σ fun d' σ' => d' = d ∧ σ' = σ := fun K p a w hi h => by
  have h1 := h x (by rw [ho]; simp [Op.operands]) _ hx
  simp only [Rep] at h1
  obtain ⟨v0, ty, g1, g2, g3, g4⟩ := hi.ok _ hσ
  obtain ⟨v, hv, hc⟩ := subD_rep g1 hs
  have hl := run_loadVar (P := P) (b := b) (o := off) ht hn hv (fun j y hy => by
    rw [cell_of_row _ _ _ _ _ _ g3, ← hoff]
    simpa using hc j y hy)
  have hr : (execOp a.eval o).run P w = .ok (.value v) w := by
    unfold execOp
    rw [ho]
    simp [h1, Instr.loadAt, Instr.sureAddr, hl]
  unfold Oper.wp
  rw [hr]
  exact ⟨v, d, σ, p, rfl, ⟨rfl, rfl⟩, hv, hi, Grow.refl p w⟩

theorem s_store {t : TypeId} {x y : Operand} {n b off : Nat} {path : List Nat} {σ τ : St} {d0 dOld e : D} (ho : o.op = .store t x y) (hx : ρ x = some (.ref b off path)) (hy : ρ y = some e) (hw : Wk e d) (hσ : σ.Perm (.cell b d0 :: τ)) (hs : subD d0 path = some dOld) (hoff : offD d0 path = off) (ht : (P.info? t).map (·.size) = some n) (hn : sz d = n) (hn' : sz dOld = n) (hp : d.plain = true) : StepS P o ρ σ fun _ σ' => σ' = .cell b (setD d0 path d) :: τ := fun K p a w hi h => by
  have h1 := h x (by rw [ho]; simp [Op.operands]) _ hx
  simp only [Rep] at h1
  have h2 := hw _ _ _ (h y (by rw [ho]; simp [Op.operands]) _ hy)
  have hi' := hi.perm hσ
  obtain ⟨v0, ty, g1, g2, g3, g4⟩ := hi'.ok _ (List.mem_cons_self ..)
  obtain ⟨i, hii, hin⟩ := Option.map_eq_some_iff.1 ht
  have hsz : (a.eval y).cells.size = n := by rw [Rep.sz h2, hn]
  have hbl : b < w.heap.size := (Array.getElem?_eq_some_iff.1 g3).1
  obtain ⟨v', q1, q2, q3, q4, q5⟩ := setD_rep g1 hs (by rw [hn, hn']) h2 hp g2
  have hst := run_storeCells_at (P := P) b off ty (a.eval y).cells.toList 0 v0.cells w g3 (by
    have := Rep.sz g1
    simp only [Array.length_toList, hsz, Nat.add_zero]
    omega) (Rep.one h2 hp)
  have hrow : (v0.cells.toList.take (off + 0) ++ (a.eval y).cells.toList ++ v0.cells.toList.drop (off + 0 + (a.eval y).cells.toList.length)).toArray = v'.cells := by
    apply Array.toList_inj.1
    simp only [Nat.add_zero, Array.length_toList, hsz, ← hn]
    rw [q3, hoff]
  rw [hrow] at hst
  have hr : (execOp a.eval o).run P w = .ok .skip (w.setRow b v'.cells) := by
    unfold execOp
    rw [ho]
    simp [h1, Instr.storeAt, Instr.sureAddr, storeVar, sizeOf, typeInfo, hii, hsz, hin, hst]
  have hcell : ∀ a', p a' → (w.setRow b v'.cells).cell? a' = w.cell? a' := fun a' ha => cell_same (setRow_other w b _ _ (g4 a' ha))
  have gr : Grow p w p (w.setRow b v'.cells) := fun a' ha => ⟨ha, hcell a' ha⟩
  unfold Oper.wp
  rw [hr]
  refine ⟨Go.undef, .undef, _, p, rfl, rfl, by simp only [Rep], ?_, gr⟩
  refine hi'.write (b := b) rfl rfl gr (fun a' ha => .inl ha) ⟨v', ty, q1.grow gr, q2, setRow_heap w b _ _ _ _ g3, g4⟩ (fun a' ha => ?_) rfl rfl rfl (by simp) fun k hk => setRow_other w b k _ hk
  obtain ⟨u, hu⟩ := hi.pub a' ha
  exact ⟨u, by rw [hcell a' ha]; exact hu⟩

/-- A type's zero value. -/
def ZeroV (P : Program) (e : TypeId) (z : D) : Prop := zok z = true ∧ ∃ v, (P.info? e).map (·.zero) = some (some v) ∧ v.cells.toList = zc z
theorem zok_plain {z : D} (h : zok z = true) : z.plain = true := by cases z <;> first | rfl | (simp [zok] at h)
theorem ZeroV.rep {e : TypeId} {z : D} (h : ZeroV P e z) (p : Addr → Prop) (w : World) : ∃ v v', (P.info? e).map (·.zero) = some (some v) ∧ Rep p w z v' ∧ v'.cells = v.cells ∧ z.plain = true := by
  obtain ⟨h1, v, h2, h3⟩ := h
  obtain ⟨v', h4, h5, _⟩ := zc_rep p w z h1
  exact ⟨v, v', h2, h4, Array.toList_inj.1 (by rw [h5, h3]), zok_plain h1⟩
theorem s_alloc {e : TypeId} {z : D} {σ : St} (ho : o.op = .alloc e) (hz : ZeroV P e z) : StepS P o ρ σ fun d' σ' => ∃ b, d' = .ref b 0 [] ∧ σ' = .cell b z :: σ := fun K p a w hi h => by
  obtain ⟨v, v', h1, h2, h3, h4⟩ := hz.rep p w
  obtain ⟨i, hii, hin⟩ := Option.map_eq_some_iff.1 h1
  have hr : (execOp a.eval o).run P w = .ok (.value (.pointer (some ⟨w.heap.size, 0, none⟩))) (w.alloc (.cells v.cells e)) := by
    unfold execOp
    rw [ho]
    simp [Instr.alloc, zeroValue, typeInfo, hii, hin, newVar, newRow]
  unfold Oper.wp
  rw [hr]
  refine ⟨_, .ref w.heap.size 0 [], _, p, rfl, ⟨w.heap.size, rfl, rfl⟩, by simp only [Rep], ?_, grow_alloc hi.pub _⟩
  refine (hi.alloc _).more ⟨v', e, h2.grow (grow_alloc hi.pub _), h4, by rw [h3]; exact heap_alloc_new w _, fun a' ha hb => ?_⟩ fun b hb => ?_
  · obtain ⟨u, hu⟩ := hi.pub a' ha
    have := cell_lt hu
    omega
  · simp only [Ob.blk, Option.some.injEq] at hb
    subst hb
    exact ⟨.inl hi.size, fun hm => by have := hi.lt hm; omega⟩
/-- A variable that may be written. -/
theorem s_boxRef {e : TypeId} {x : Operand} {σ : St} (ho : o.op = .box e x) (hx : ρ x = some d) (hp : d.plain = true) : StepS P o ρ σ fun d' σ' => ∃ b, d' = .ref b 0 [] ∧ σ' = .cell b d :: σ := fun K p a w hi h => by
  have hv := h x (by rw [ho]; simp [Op.operands]) d hx
  have hr : (execOp a.eval o).run P w = .ok (.value (.pointer (some ⟨w.heap.size, 0, none⟩))) (w.alloc (.cells (a.eval x).cells e)) := by
    unfold execOp
    rw [ho]
    simp [Instr.box, newVar, newRow]
  unfold Oper.wp
  rw [hr]
  refine ⟨_, .ref w.heap.size 0 [], _, p, rfl, ⟨w.heap.size, rfl, rfl⟩, by simp only [Rep], ?_, grow_alloc hi.pub _⟩
  refine (hi.alloc _).more ⟨a.eval x, e, hv.grow (grow_alloc hi.pub _), hp, heap_alloc_new w _, fun a' ha hb => ?_⟩ fun b hb => ?_
  · obtain ⟨u, hu⟩ := hi.pub a' ha
    have := cell_lt hu
    omega
  · simp only [Ob.blk, Option.some.injEq] at hb
    subst hb
    exact ⟨.inl hi.size, fun hm => by have := hi.lt hm; omega⟩

/-- A variable that is never written again. -/
theorem g_freeze {m : Md} {f : FuncId} {fn : Func} {K : Ctx} {R : D → St → Prop} {k : List Item} {env : Env} {σ τ : St} (s b : Nat) (hs : lk env s = some (.ref b 0 [])) (hσ : σ.Perm (.cell b d :: τ)) (h : GoesG m P f fn K R k ((s, .ptr d) :: env) τ) : GoesG m P f fn K R k env σ := fun p a w hi hr hn hd => by
  have hi' := hi.perm hσ
  obtain ⟨v0, ty, g1, g2, g3, g4⟩ := hi'.ok _ (List.mem_cons_self ..)
  have hbl : b < w.heap.size := (Array.getElem?_eq_some_iff.1 g3).1
  have hm := hi'.mine b (mem_blks.2 ⟨_, List.mem_cons_self .., rfl⟩)
  have hnd := hi'.nd
  have hne : b ∉ blks τ := by
    simp only [blks, List.filterMap_cons, Ob.blk, List.nodup_cons] at hnd
    exact hnd.1
  have hcell : ∀ j u, v0.cells.toList[j]? = some u → w.cell? ⟨b, 0 + j, none⟩ = some u := fun j u hu => by
    rw [Nat.zero_add, cell_of_row _ _ _ _ _ _ g3]
    simpa using hu
  have hg := hi'.tail.give (fun a' => a'.block = b ∧ a'.spot = none ∧ a'.off < v0.cells.size) fun a' ⟨e1, e2, e3⟩ => by
    obtain ⟨b', of, sp⟩ := a'
    simp only at e1 e2 e3
    subst e1 e2
    refine ⟨⟨v0.cells[of], ?_⟩, hm, fun o' ho b' hb hab => ?_⟩
    · have := hcell of v0.cells[of] (by simp)
      simpa using this
    · simp only at hab
      subst hab
      exact absurd (mem_blks.2 ⟨o', ho, hb⟩) hne
  refine h _ a w hg ?_ hn hd
  intro t e ht
  rw [look_cons] at ht
  by_cases hst : s = t
  · subst hst
    rw [if_pos rfl] at ht
    injection ht with ht
    subst ht
    have := hr s _ hs
    simp only [Rep] at this ⊢
    rw [this]
    refine ⟨b, 0, v0, rfl, .inr ⟨b, 0, rfl, fun j u hu => ⟨.inr ⟨rfl, rfl, ?_⟩, hcell j u hu⟩⟩, g1.grow (grow_give p _ w), Rep.one g1 g2⟩
    have := (List.getElem?_eq_some_iff.1 hu).1
    simp at this ⊢
    omega
  · rw [if_neg hst] at ht
    exact (hr t e ht).grow (grow_give p _ w)
end
end Go.Proofs.Ytlannippingfdaa


namespace Go.Proofs.Ytlannippingfdaa
set_option maxRecDepth 100000
open Go.RowKit

section
variable {P : Program} {o : Oper} {ρ : Operand → Option D} {d : D}

theorem RdP.rd {p : Addr → Prop} {w : World} {A : Option Addr} {xs : List Value} (h : RdP p w A xs) : Rd w A xs := by
  rcases h with h | ⟨b, o, h1, h2⟩
  · exact .inl h
  · exact .inr ⟨_, h1, fun j u hu => by rw [addF]; exact (h2 j u hu).2⟩

/-- What append is told of the element type. -/
def elB (P : Program) (e : TypeId) (s by_ : Nat) : Bool := match P.info? e with
  | some i => (match i.zero with
    | some z => z.cells.size == s && i.size == s && i.bytes == by_
    | none => false)
  | none => false
def ElT (P : Program) (t e : TypeId) (s by_ : Nat) : Prop := P.underlying t = some (.slice e) ∧ (∃ z, (P.info? e).map (fun i => (i.zero, i.size, i.bytes)) = some (some z, s, by_) ∧ z.cells.size = s) ∧ 0 < s

theorem ElT.of {t e : TypeId} {s by_ : Nat} (h1 : P.underlying t = some (.slice e)) (h2 : elB P e s by_ = true) (h3 : 0 < s) : ElT P t e s by_ := by
  refine ⟨h1, ?_, h3⟩
  unfold elB at h2
  split at h2
  · rename_i i hi
    split at h2
    · rename_i z hz
      simp only [Bool.and_eq_true, beq_iff_eq] at h2
      exact ⟨z, by simp [hi, hz, h2.1.2, h2.2], h2.1.1⟩
    · cases h2
  · cases h2
theorem ElT.size {t e : TypeId} {s by_ : Nat} (h : ElT P t e s by_) : (P.info? e).map (·.size) = some s := by
  obtain ⟨_, ⟨z, hz, _⟩, _⟩ := h
  obtain ⟨i, h1, _, h3, _⟩ := info_parts hz
  simp [h1, h3]
theorem ElT.zs {t e : TypeId} {s by_ : Nat} (h : ElT P t e s by_) : ∃ z, (P.info? e).map (fun i => (i.zero, i.size)) = some (some z, s) := by
  obtain ⟨_, ⟨z, hz, _⟩, _⟩ := h
  obtain ⟨i, h1, h2, h3, _⟩ := info_parts hz
  exact ⟨z, by simp [h1, h2, h3]⟩
/-- A new row of the call's own. -/
theorem new_row {K : Ctx} {p : Addr → Prop} {σ : St} {w : World} {cur : Array Value} {e : TypeId} {s n cap : Nat} {l : List D} {xs : List Value} (hi : Inv K p σ w) (hs : cur.size = cap * s) (ht : cur.toList.take (n * s) = xs) (hr : Reps p w l xs) (h1 : ∀ u ∈ xs, u.oneCell' = true) (hl : l.length = n) (hn : n ≤ cap) (hc : cap ≤ maxLen) :
    ∃ p', Rep p' (w.alloc (.cells cur e)) (.own (.slice (some ⟨w.heap.size, 0, none⟩) n cap) l) (.slice (some ⟨w.heap.size, 0, none⟩) n cap) ∧ Inv K p' (.row (.slice (some ⟨w.heap.size, 0, none⟩) n cap) n e s :: σ) (w.alloc (.cells cur e)) ∧ Grow p w p' (w.alloc (.cells cur e)) := by
  have hlen : n * s ≤ cap * s := Nat.mul_le_mul_right s hn
  have hcell : ∀ j, (w.alloc (.cells cur e)).cell? ⟨w.heap.size, j, none⟩ = cur[j]? := fun j => cell_of_row _ _ _ _ _ _ (heap_alloc_new w _)
  have g0 := grow_alloc hi.pub (.cells cur e)
  have hg := (hi.alloc (.cells cur e)).give (fun a => a.block = w.heap.size ∧ a.spot = none ∧ a.off < n * s) fun a ⟨e1, e2, e3⟩ => by
    obtain ⟨b, of, sp⟩ := a
    simp only at e1 e2 e3
    subst e1 e2
    have hlt : of < cur.size := by omega
    refine ⟨⟨cur[of], by rw [hcell]; simp [hlt]⟩, .inl hi.size, fun o' ho b hb hab => ?_⟩
    have := (hi.ok o' ho).lt hb
    simp only at hab
    omega
  have gr := g0.tr (grow_give p (fun a => a.block = w.heap.size ∧ a.spot = none ∧ a.off < n * s) (w.alloc (.cells cur e)))
  refine ⟨_, ?_, hg.more ⟨⟨xs, ?_, .inr ⟨w.heap.size, cap, cur, rfl, Nat.zero_le _, heap_alloc_new w _, hn, hc, hs, ht⟩⟩, ?_⟩ ?_, gr⟩
  · simp only [Rep]
    refine ⟨trivial, _, cap, xs, by rw [hl], by omega, by unfold maxLen at hc; omega, .inr ⟨w.heap.size, 0, rfl, fun j u hu => ?_⟩, hr.grow gr, h1⟩
    have hj := (List.getElem?_eq_some_iff.1 hu).1
    rw [← ht] at hu hj
    rw [List.length_take] at hj
    rw [List.getElem?_take, if_pos (by omega)] at hu
    refine ⟨.inr ⟨rfl, rfl, by simp only; omega⟩, ?_⟩
    rw [Nat.zero_add, hcell]
    simpa using hu
  · rw [← ht, List.length_take]; simp; omega
  · intro g hgb a ha hab
    simp only [Value.ownBlock, Option.some.injEq] at hgb
    rcases ha with ha | ⟨_, _, ha⟩
    · obtain ⟨v, hv⟩ := hi.pub a ha
      have := cell_lt hv
      omega
    · exact ha
  · intro b hb
    simp only [Ob.blk, Value.ownBlock, Option.some.injEq] at hb
    have hb : w.heap.size = b := hb
    subst hb
    exact ⟨.inl hi.size, fun hm => by have := hi.lt hm; omega⟩

/-- A row of the call's own, opened. -/
theorem own_open {p : Addr → Prop} {w : World} {u v : Value} {l : List D} {e : TypeId} {s n : Nat} (hv : Rep p w (.own u l) v) (ho : ObOk p w (.row u n e s)) (hn : n = l.length) (hall : AllSz s l) : v = u ∧ ((u = .slice none 0 0 ∧ l = []) ∨ ∃ g cap cur xs, u = .slice (some ⟨g, 0, none⟩) l.length cap ∧ w.heap[g]? = some (.cells cur e (0, 0)) ∧ l.length ≤ cap ∧ cap ≤ maxLen ∧ cur.size = cap * s ∧ cur.toList.take (l.length * s) = xs ∧ Reps p w l xs ∧ (∀ x ∈ xs, x.oneCell' = true) ∧ xs.length = l.length * s ∧ ∀ a, p a → a.block = g → a.off < l.length * s) := by
  subst hn
  simp only [Rep] at hv
  obtain ⟨rfl, A, c, xs, h1, h2, h3, h4, h5, h6⟩ := hv
  refine ⟨rfl, ?_⟩
  obtain ⟨⟨xs0, k1, k2⟩, k3⟩ := ho
  rcases k2 with ⟨k2, k4⟩ | ⟨g, cap, cur, k2, _, k4, k5, k6, k7, k8⟩
  · exact .inl ⟨k2, List.eq_nil_of_length_eq_zero k4⟩
  · refine .inr ⟨g, cap, cur, xs, k2, k4, k5, k6, k7, ?_, h5, h6, by rw [h5.len, hall.szs], fun a ha hb => k3 g (by rw [k2]; rfl) a ha hb⟩
    have hlen : xs.length = l.length * s := by rw [h5.len, hall.szs]
    have hle : l.length * s ≤ cap * s := Nat.mul_le_mul_right s k5
    rcases h4 with h4 | ⟨b, o', h4, h7⟩
    · subst h4
      have : l.length * s = 0 := by simpa using hlen.symm
      rw [this]; rfl
    · rw [h1, h4] at k2
      injection k2 with k2
      injection k2 with k2
      injection k2 with e1 e2
      subst e1 e2
      apply List.ext_getElem?
      intro j
      rw [List.getElem?_take]
      split
      · rename_i hj
        have hx := List.getElem?_eq_getElem (l := xs) (i := j) (by omega)
        have := (h7 j _ hx).2
        rw [Nat.zero_add, cell_of_row _ _ _ _ _ _ k4] at this
        rw [hx]
        simpa using this
      · rw [List.getElem?_eq_none (by omega)]

theorem s_appOwn {x y : Operand} {t e : TypeId} {s by_ : Nat} {σ τ : St} {u : Value} {l m : List D} {dy : D} (ho : o.op = .call { callee := .builtin .append, args := #[x, y], argTypes := #[t, t] }) (hE : ElT P t e s by_) (hx : ρ x = some (.own u l)) (hy : ρ y = some dy) (hm : AsL dy m) (hσ : σ.Perm (.row u l.length e s :: τ)) (hl : AllSz s l) (hml : AllSz s m) (hb : (l.length + m.length) * by_ ≤ 140737488355328) (h63 : l.length + m.length ≤ 9223372036854775807) :
    StepS P o ρ σ fun d' σ' => ∃ u', d' = .own u' (l ++ m) ∧ σ' = .row u' (l ++ m).length e s :: τ := fun K p a w hi h => by
  rw [List.length_append]
  obtain ⟨hu, ⟨z, hz, hzs⟩, hs0⟩ := hE
  obtain ⟨i, hii, hz', hsize, hby⟩ := info_parts hz
  have hi' := hi.perm hσ
  have hxv := h x (by rw [ho]; simp [Op.operands, Call.operands]) _ hx
  obtain ⟨A, c, ys, g1, g2, g3, g4, g5, g6⟩ := hm.rep (h y (by rw [ho]; simp [Op.operands, Call.operands]) _ hy)
  obtain ⟨hvu, hopen⟩ := own_open hxv (hi'.ok _ (List.mem_cons_self ..)) rfl hl
  have hyl : ys.length = m.length * s := by rw [g5.len, hml.szs]
  have hrun0 : ∀ r, (Builtin.append_ #[t, t] o.type #[u, .slice A m.length c]).run P w = r → (execOp a.eval o).run P w = r.andThen fun v w' => .ok (.value v) w' := fun r hr => by
    subst hr
    unfold execOp
    simp only [ho, resolve, invoke, builtin, Sem.run_bind, Sem.run_pure, Result.andThen_ok, List.map_toArray, List.map_cons, List.map_nil, hvu, g1]
  have hmx : maxLen = 9223372036854775807 := rfl
  -- where nothing is appended
  by_cases hm0 : m.length = 0
  · have hm0' : m = [] := List.eq_nil_of_length_eq_zero hm0
    subst hm0'
    have hys : ys = [] := List.eq_nil_of_length_eq_zero (by simpa using hyl)
    have hr : (Builtin.append_ #[t, t] o.type #[u, .slice A 0 c]).run P w = .ok u w := by
      rcases hopen with ⟨rfl, rfl⟩ | ⟨g, cap, cur, xs, rfl, k1, k2, _⟩
      · cases A <;> simp [Builtin.append_, run_underlying hu, sizeOf, typeInfo, hii, Builtin.lenOf, Builtin.firstCells, loadCells, loadCellsFrom]
      · cases A <;> simp [Builtin.append_, run_underlying hu, sizeOf, typeInfo, hii, Builtin.lenOf, Builtin.firstCells, loadCells, loadCellsFrom, k2, storeCells]
    unfold Oper.wp
    rw [hrun0 _ hr]
    refine ⟨u, .own u (l ++ []), _, p, rfl, ⟨u, rfl, rfl⟩, ?_, by simpa using hi', Grow.refl p w⟩
    rw [List.append_nil]
    rw [hvu] at hxv
    exact hxv
  -- the cells that are appended
  · have hys : ys ≠ [] := fun hys => by
      rw [hys] at hyl
      have := Nat.mul_pos (Nat.pos_of_ne_zero hm0) hs0
      simp at hyl
      omega
    rcases g4 with g4 | ⟨b, o', rfl, hcell⟩
    · exact absurd g4 hys
    have hnews : ∀ j v, ys[j]? = some v → w.cell? ((⟨b, o', none⟩ : Addr).add j) = some v := fun j v hv => by rw [addF]; exact (hcell j v hv).2
    subst hsize
    subst hby
    have grown : ∀ (xs : List Value) (old : Nat), Reps p w l xs → (∀ x ∈ xs, x.oneCell' = true) → xs.length = l.length * i.size → old < l.length + m.length →
        ∃ p' u', u' = .slice (some ⟨w.heap.size, 0, none⟩) (l.length + m.length) (grownCap w (l.length + m.length) old e) ∧ Rep p' (w.drew.alloc (.cells (xs.toArray ++ ys.toArray ++ Builtin.zeroCells z.cells (grownCap w (l.length + m.length) old e - (l.length + m.length))) e)) (.own u' (l ++ m)) u' ∧ Inv K p' (.row u' (l.length + m.length) e i.size :: τ) (w.drew.alloc (.cells (xs.toArray ++ ys.toArray ++ Builtin.zeroCells z.cells (grownCap w (l.length + m.length) old e - (l.length + m.length))) e)) ∧
          Grow p w p' (w.drew.alloc (.cells (xs.toArray ++ ys.toArray ++ Builtin.zeroCells z.cells (grownCap w (l.length + m.length) old e - (l.length + m.length))) e)) := fun xs old hr1 hr2 hr3 hold => by
      have hge := grownCap_ge w (l.length + m.length) old e
      have hcm : grownCap w (l.length + m.length) old e ≤ maxLen := grownCap_le_maxLen w (l.length + m.length) old e (by unfold maxLen; omega)
      have hlen : (xs ++ ys).length = (l.length + m.length) * i.size := by rw [List.length_append, hr3, hyl, Nat.add_mul]
      obtain ⟨p', q1, q2, q3⟩ := new_row (K := K) (p := p) (σ := τ) (w := w.drew) (cur := xs.toArray ++ ys.toArray ++ Builtin.zeroCells z.cells (grownCap w (l.length + m.length) old e - (l.length + m.length))) (e := e) (s := i.size) (n := l.length + m.length) (cap := grownCap w (l.length + m.length) old e) (l := l ++ m) (xs := xs ++ ys) hi'.tail.drew (by
          simp only [Array.size_append, List.size_toArray, size_zeroCells, hzs, hr3, hyl, ← Nat.add_mul]
          congr 1
          omega) (by
          simp only [Array.toList_append, List.append_assoc]
          rw [← List.append_assoc, ← hlen]
          exact List.take_left) ((hr1.app g5).grow (grow_drew p w)) (fun x hx => (List.mem_append.1 hx).elim (hr2 x) (g6 x)) (by simp) hge hcm
      exact ⟨p', _, rfl, q1, q2, q3⟩
    have hmpos : 0 < m.length := Nat.pos_of_ne_zero hm0
    rcases hopen with ⟨rfl, rfl⟩ | ⟨g, cap, cur, xs, rfl, k1, k2, k3, k4, k5, k6, k7, k8, k9⟩
    · have hr := run_append_nil (P := P) w t o.type e i z hu hii hz' ⟨b, o', none⟩ m.length c ys hyl hnews (by omega) (by omega) (by have hb := hb; simp only [List.length_nil, Nat.zero_add] at hb; omega)
      obtain ⟨p', u', hu', q1, q2, q3⟩ := grown [] 0 (Reps.nil _ _) (by simp) (by simp) (by simp; omega)
      simp only [List.length_nil, Nat.zero_add, Array.empty_append, List.nil_append] at hr q1 q2 q3 hu' ⊢
      unfold Oper.wp
      rw [hrun0 _ hr]
      subst hu'
      exact ⟨_, _, _, p', rfl, ⟨_, rfl, rfl⟩, q1, q2, q3⟩
    · by_cases hroom : l.length + m.length ≤ cap
      · have hfit : l.length * i.size + ys.length ≤ cur.size := by rw [hyl, k4, ← Nat.add_mul]; exact Nat.mul_le_mul_right _ hroom
        have hr := run_append_room (P := P) w t o.type e i hu hii g l.length cap cur k1 ⟨b, o', none⟩ m.length c ys hyl hnews g6 hroom hfit
        unfold Oper.wp
        rw [hrun0 _ hr]
        generalize hnew : (cur.toList.take (l.length * i.size) ++ ys ++ cur.toList.drop (l.length * i.size + ys.length)) = new
        have hgl : g < w.heap.size := (Array.getElem?_eq_some_iff.1 k1).1
        have hh := setRow_heap w g cur new.toArray e (0, 0) k1
        have hcellg : ∀ j, (w.setRow g new.toArray).cell? ⟨g, j, none⟩ = new[j]? := fun j => by rw [cell_of_row _ _ _ _ _ _ hh]; simp
        have htl : (cur.toList.take (l.length * i.size)).length = l.length * i.size := by rw [k5, k8]
        have hold : ∀ j, j < l.length * i.size → new[j]? = cur[j]? := fun j hj => by
          rw [← hnew, List.append_assoc, List.getElem?_append_left (by omega), List.getElem?_take, if_pos hj]
          simp
        have hnewl : new.take ((l.length + m.length) * i.size) = xs ++ ys := by
          rw [← hnew, k5]
          have : (xs ++ ys).length = (l.length + m.length) * i.size := by rw [List.length_append, k8, hyl, Nat.add_mul]
          rw [← this]
          exact List.take_left
        have hspot : ∀ a', p a' → a'.block = g → a' = ⟨g, a'.off, none⟩ := fun a' ha hab => by
          obtain ⟨v, hv⟩ := hi.pub a' ha
          obtain ⟨b', o'', s'⟩ := a'
          simp only at hab
          subst hab
          unfold World.cell? at hv
          simp only [k1] at hv
          cases s' with
          | none => rfl
          | some q => simp at hv
        have hcell' : ∀ a', p a' → (w.setRow g new.toArray).cell? a' = w.cell? a' := fun a' ha => by
          by_cases hab : a'.block = g
          · have hlt := k9 a' ha hab
            rw [hspot a' ha hab, hcellg, hold _ hlt, cell_of_row _ _ _ _ _ _ k1]
          · exact cell_same (setRow_other w g _ _ hab)
        have gr : Grow p w (fun a' => p a' ∨ (a'.block = g ∧ a'.spot = none ∧ a'.off < (l.length + m.length) * i.size)) (w.setRow g new.toArray) := fun a' ha => ⟨.inl ha, hcell' a' ha⟩
        have hle : (l.length + m.length) * i.size ≤ cap * i.size := Nat.mul_le_mul_right _ hroom
        have hnl : new.length = cap * i.size := by
          rw [← hnew]
          simp only [List.length_append, List.length_drop, htl, hyl, Array.length_toList, k4]
          rw [Nat.add_mul] at hle
          omega
        refine ⟨.slice (some ⟨g, 0, none⟩) (l.length + m.length) cap, .own (.slice (some ⟨g, 0, none⟩) (l.length + m.length) cap) (l ++ m), _, _, rfl, ⟨_, rfl, rfl⟩, ?_, ?_, gr⟩
        · simp only [Rep]
          refine ⟨trivial, _, cap, xs ++ ys, by rw [List.length_append], by rw [List.length_append]; exact hroom, by omega, .inr ⟨g, 0, rfl, fun j v hv => ?_⟩, (k6.app g5).grow gr, fun x hx => (List.mem_append.1 hx).elim (k7 x) (g6 x)⟩
          have hj := (List.getElem?_eq_some_iff.1 hv).1
          rw [List.length_append, k8, hyl, ← Nat.add_mul] at hj
          refine ⟨.inr ⟨rfl, rfl, by simp only; omega⟩, ?_⟩
          rw [Nat.zero_add, hcellg]
          rw [← hnewl, List.getElem?_take, if_pos hj] at hv
          exact hv
        · refine hi'.write (b := g) rfl rfl gr (fun a' ha => ha.elim .inl fun h => .inr h.1) ⟨⟨xs ++ ys, ?_, .inr ⟨g, cap, new.toArray, rfl, Nat.zero_le _, hh, hroom, k3, by simpa using hnl, by simpa using hnewl⟩⟩, fun g' hg' a' ha hab => ?_⟩ (fun a' ha => ?_) rfl rfl rfl (by simp) fun k hk => setRow_other w g k _ hk
          · rw [List.length_append, k8, hyl, Nat.add_mul]
          · simp only [Value.ownBlock, Option.some.injEq] at hg'
            have hg' : g = g' := hg'
            subst hg'
            rcases ha with ha | ⟨_, _, ha⟩
            · have := k9 a' ha hab
              rw [Nat.add_mul]
              omega
            · exact ha
          · rcases ha with ha | ⟨e1, e2, e3⟩
            · obtain ⟨v, hv⟩ := hi.pub a' ha
              exact ⟨v, by rw [hcell' a' ha]; exact hv⟩
            · obtain ⟨b', o'', s'⟩ := a'
              simp only at e1 e2 e3
              subst e1 e2
              refine ⟨new[o'']'(by omega), ?_⟩
              rw [hcellg]
              exact List.getElem?_eq_getElem _
      · have holds : ∀ j v, xs[j]? = some v → w.cell? ((⟨g, 0, none⟩ : Addr).add j) = some v := fun j v hv => by
          rw [addF, Nat.zero_add, cell_of_row _ _ _ _ _ _ k1]
          have hj := (List.getElem?_eq_some_iff.1 hv).1
          rw [← k5, List.getElem?_take, if_pos (by omega)] at hv
          simpa using hv
        have hr := run_append_grow (P := P) w t o.type e i z hu hii hz' ⟨g, 0, none⟩ l.length cap xs k8 holds ⟨b, o', none⟩ m.length c ys hyl hnews (by omega) (by omega) (growslice_fits (by omega) hb)
        obtain ⟨p', u', hu', q1, q2, q3⟩ := grown xs cap k6 k7 k8 (by omega)
        unfold Oper.wp
        rw [hrun0 _ hr]
        subst hu'
        exact ⟨_, _, _, p', rfl, ⟨_, rfl, rfl⟩, q1, q2, q3⟩
end
end Go.Proofs.Ytlannippingfdaa


namespace Go.Proofs.Ytlannippingfdaa
set_option maxRecDepth 100000
open Go.RowKit

section
variable {P : Program} {o : Oper} {ρ : Operand → Option D} {d : D}

/-- An empty row to append to. -/
theorem s_nilOwn (e : TypeId) (s : Nat) {σ : St} (ho : (o.op = .assign (.const (.slice none 0 0)) ∨ o.op = .move (.const (.slice none 0 0)))) : StepS P o ρ σ fun d' σ' => ∃ u, d' = .own u [] ∧ σ' = .row u 0 e s :: σ := fun K p a w hi h => by
  have hr : (execOp a.eval o).run P w = .ok (.value (.slice none 0 0)) w := by
    unfold execOp
    rcases ho with ho | ho <;> rw [ho] <;> rfl
  unfold Oper.wp
  rw [hr]
  refine ⟨_, .own (.slice none 0 0) [], _, p, rfl, ⟨_, rfl, rfl⟩, ?_, hi.more ⟨⟨[], World.ownsRow_nil w 0 e s⟩, fun g hg => by simp [Value.ownBlock] at hg⟩ (fun b hb => by simp [Ob.blk, Value.ownBlock] at hb), Grow.refl p w⟩
  simp only [Rep]
  exact ⟨trivial, none, 0, [], rfl, by simp, by omega, .inl rfl, Reps.nil _ _, by simp⟩
theorem s_make0 {t e : TypeId} {x y : Operand} {s by_ c : Nat} {k k' : IntKind} {n : Int} {σ : St} (ho : o.op = .makeSlice t x y) (hE : ElT P t e s by_) (hx : ρ x = some (.int k 0)) (hy : ρ y = some (.int k' n)) (hn : n = (c : Int)) (hb : by_ * c ≤ 281474976710656) (hc : c ≤ 9223372036854775807) :
    StepS P o ρ σ fun d' σ' => ∃ u, d' = .own u [] ∧ σ' = .row u 0 e s :: σ := fun K p a w hi h => by
  obtain ⟨hu, ⟨z, hz, hzs⟩, hs0⟩ := hE
  obtain ⟨i, hii, hz', hsize, hby⟩ := info_parts hz
  have h1 := h x (by rw [ho]; simp [Op.operands]) _ hx
  have h2 := h y (by rw [ho]; simp [Op.operands]) _ hy
  simp only [Rep] at h1 h2
  subst hn
  have hbi : (i.bytes : Int) * (c : Int) ≤ 281474976710656 := by
    have : ((i.bytes * c : Nat) : Int) ≤ 281474976710656 := by rw [hby]; omega
    rwa [Int.natCast_mul] at this
  have hr := run_make (P := P) w t e i z hu hii hz' k k' 0 (c : Int) (Int.le_refl _) (by omega) hbi (by omega)
  simp only [Int.toNat_zero, Int.toNat_natCast] at hr
  have hrun : (execOp a.eval o).run P w = .ok (.value (.slice (some ⟨w.heap.size, 0, none⟩) 0 c)) (w.alloc (.cells (madeCells z.cells (c * i.size)) e)) := by
    unfold execOp
    rw [ho]
    simp [h1.1, h2.1, hr]
  unfold Oper.wp
  rw [hrun]
  obtain ⟨p', q1, q2, q3⟩ := new_row (K := K) (p := p) (σ := σ) (w := w) (cur := madeCells z.cells (c * i.size)) (e := e) (s := s) (n := 0) (cap := c) (l := []) (xs := []) hi (by rw [size_madeCells, hsize]) (by simp) (Reps.nil _ _) (by simp) rfl (Nat.zero_le _) (by unfold maxLen; omega)
  exact ⟨_, _, _, p', rfl, ⟨_, rfl, rfl⟩, q1, q2, q3⟩

end
end Go.Proofs.Ytlannippingfdaa


namespace Go.Proofs.Ytlannippingfdaa
set_option maxRecDepth 100000
open Go.RowKit

section
variable {P : Program} {o : Oper} {ρ : Operand → Option D} {d : D}
theorem t_len {x : Operand} {t e : TypeId} {s by_ : Nat} {dx : D} {l : List D} (ho : o.op = .call { callee := .builtin .len, args := #[x], argTypes := #[t] }) (hE : ElT P t e s by_) (hx : ρ x = some dx) (hl : AsL dx l) : StepD P o ρ (.int .i64 (l.length : Int)) := s_len ho hE.1 hx hl
theorem t_index {t e : TypeId} {x ix : Operand} {s by_ : Nat} {dx : D} {l : List D} {k : IntKind} {n : Int} (j : Nat) (ho : o.op = .indexAddr t x ix) (hE : ElT P t e s by_) (hx : ρ x = some dx) (hl : AsL dx l) (hix : ρ ix = some (.int k n)) (hn : n = (j : Int)) (hd : l[j]? = some d) (hall : AllSz s l) (hp : d.plain = true) : StepD P o ρ (.ptr d) := s_index ho hE.1 hE.size hE.2.2 hx hl hix hn hd hall hp
theorem t_lit {t e : TypeId} {n s by_ : Nat} {parts : Array (Nat × Operand)} (xs : List Operand) {ds : List D} (ho : o.op = .buildSlice t n parts) (hE : ElT P t e s by_) (hps : parts.toList = (xs.zipIdx 0).map fun x => (x.2, x.1)) (hn : n = xs.length) (hn0 : 0 < n) (hsm : n * s ≤ 16777216) (hO : Opds ρ xs ds) (hsz : AllSz s ds) (hpl : ∀ d ∈ ds, d.plain = true) : StepD P o ρ (.full ds) :=
  let ⟨_, hz⟩ := hE.zs
  s_lit ho hE.1 hz hE.2.2 hps hn hn0 hsm hO hsz hpl
theorem t_lit0 {t e : TypeId} {parts : Array (Nat × Operand)} {s by_ : Nat} (ho : o.op = .buildSlice t 0 parts) (hE : ElT P t e s by_) (hps : parts.toList = []) : StepD P o ρ (.full []) := s_lit0 ho hE.1 hE.size hps
theorem t_sub {t e : TypeId} {x : Operand} {low high : Option Operand} {s by_ : Nat} {dx : D} {l : List D} (lo hi : Nat) (ho : o.op = .slice t x low high none) (hE : ElT P t e s by_) (hx : ρ x = some dx) (hl : AsL dx l) (h1 : bndLo ρ low lo) (h2 : bndHi ρ l.length high hi) (hlo : lo ≤ hi) (hhi : hi ≤ l.length) (hall : AllSz s l) : StepD P o ρ (.lst ((l.take hi).drop lo)) := s_sub ho hE.1 hE.size hx hl h1 h2 hlo hhi hall
theorem t_loadRef {t : TypeId} {x : Operand} {n b off : Nat} {path : List Nat} {σ : St} {d0 : D} (ho : o.op = .load t x) (hx : ρ x = some (.ref b off path)) (hσ : .cell b d0 ∈ σ) (hs : subD d0 path = some d) (hoff : offD d0 path = off) (ht : Ty P t d.isAgg n) (hn : sz d = n) : StepS P o ρ σ fun d' σ' => d' = d ∧ σ' = σ := s_loadRef ho hx hσ hs hoff ht hn
theorem t_store {t : TypeId} {x y : Operand} {n b off : Nat} {path : List Nat} {σ : St} (τ : St) {d0 dOld e : D} {ag : Bool} (ho : o.op = .store t x y) (hx : ρ x = some (.ref b off path)) (hy : ρ y = some e) (hw : Wk e d) (hσ : σ.Perm (.cell b d0 :: τ)) (hs : subD d0 path = some dOld) (hoff : offD d0 path = off) (ht : Ty P t ag n) (hn : sz d = n) (hn' : sz dOld = n) (hp : d.plain = true) : StepS P o ρ σ fun _ σ' => σ' = .cell b (setD d0 path d) :: τ := s_store ho hx hy hw hσ hs hoff ht.2 hn hn' hp
theorem ZeroV.agg {t : TypeId} {zs : List D} (h : BuildT P t zs) : ZeroV P t (.agg zs) := by
  obtain ⟨h1, it, fields, h2, h3, _⟩ := h
  exact ⟨by simpa [zok] using h1, .agg (zcs zs).toArray, by rw [h2]; simp [h3], by simp [Value.cells, zc]⟩
theorem ZeroV.val {t : TypeId} {z : D} (v : Value) (h1 : zok z = true) (h2 : (P.info? t).map (·.zero) = some (some v)) (h3 : v.cells.toList = zc z) : ZeroV P t z := ⟨h1, v, h2, h3⟩
/-- A variable that holds an empty row to append to. -/
theorem s_allocOwn {e el : TypeId} {s : Nat} {σ : St} (ho : o.op = .alloc e) (hz : ZeroV P e (.lst [])) : StepS P o ρ σ fun d' σ' => ∃ b u, d' = .ref b 0 [] ∧ σ' = .cell b (.own u []) :: .row u 0 el s :: σ := fun K p a w hi h => by
  obtain ⟨_, v, h1, h2⟩ := hz
  obtain ⟨i, hii, hin⟩ := Option.map_eq_some_iff.1 h1
  have hr : (execOp a.eval o).run P w = .ok (.value (.pointer (some ⟨w.heap.size, 0, none⟩))) (w.alloc (.cells v.cells e)) := by
    unfold execOp
    rw [ho]
    simp [Instr.alloc, zeroValue, typeInfo, hii, hin, newVar, newRow]
  unfold Oper.wp
  rw [hr]
  have hvc : v.cells = (Value.slice none 0 0).cells := Array.toList_inj.1 (by rw [h2]; rfl)
  refine ⟨_, .ref w.heap.size 0 [], _, p, rfl, ⟨w.heap.size, .slice none 0 0, rfl, rfl⟩, by simp only [Rep], ?_, grow_alloc hi.pub _⟩
  have h0 := (hi.alloc (.cells v.cells e)).more (o := .row (.slice none 0 0) 0 el s) ⟨⟨[], World.ownsRow_nil _ 0 el s⟩, fun g hg => by simp [Value.ownBlock] at hg⟩ (fun b hb => by simp [Ob.blk, Value.ownBlock] at hb)
  refine h0.more ⟨.slice none 0 0, e, by simp only [Rep]; exact ⟨trivial, none, 0, [], rfl, by simp, by omega, .inl rfl, Reps.nil _ _, by simp⟩, rfl, by rw [← hvc]; exact heap_alloc_new w _, fun a' ha hb => ?_⟩ fun b hb => ?_
  · obtain ⟨u, hu⟩ := hi.pub a' ha
    have := cell_lt hu
    omega
  · simp only [Ob.blk, Option.some.injEq] at hb
    subst hb
    refine ⟨.inl hi.size, fun hm => ?_⟩
    simp only [blks, List.filterMap_cons, Ob.blk, Value.ownBlock] at hm
    have := hi.lt (b := w.heap.size) hm
    omega

theorem getm {α : Type} {f : α → D} {l : List α} {i : Nat} {a : α} (h : l[i]? = some a) : (l.map f)[i]? = some (f a) := by simp [h]
theorem aszm {α : Type} {f : α → D} {l : List α} {s : Nat} (h : ∀ a, sz (f a) = s) : AllSz s (l.map f) := fun d hd => by
  obtain ⟨a, _, rfl⟩ := List.mem_map.1 hd
  exact h a
/-- How long a list that a slot shows can be. -/
theorem g_len {m : Md} {f : FuncId} {fn : Func} {K : Ctx} {R : D → St → Prop} {k : List Item} {env : Env} {σ : St} (s : Nat) {dx : D} {l : List D} (hs : lk env s = some dx) (hl : AsL dx l) (h : l.length ≤ 9223372036854775807 → GoesG m P f fn K R k env σ) : GoesG m P f fn K R k env σ :=
  g_fact (fun p a w _ hr => by
    obtain ⟨A, c, xs, _, h2, h3, _⟩ := hl.rep (hr s _ hs)
    omega) h
theorem g_int {m : Md} {f : FuncId} {fn : Func} {K : Ctx} {R : D → St → Prop} {k : List Item} {env : Env} {σ : St} (s : Nat) {n : Int} (hs : lk env s = some (.int .i64 n)) (h : (-9223372036854775808 ≤ n ∧ n < 9223372036854775808) → GoesG m P f fn K R k env σ) : GoesG m P f fn K R k env σ :=
  g_fact (fun p a w _ hr => by
    have := hr s _ hs
    simp only [Rep] at this
    exact wrap64_inv this.2) h
/-- A contract of the elder kind whose result is one plain value. -/
theorem gives_of_ret {f : FuncId} {ds : List D} {v : Value} (hd : ∀ p w, Rep p w d v) (h : ∀ (p : Addr → Prop) (w : World) (vs : List Value), (∀ a, p a → ∃ u, w.cell? a = some u) → Repl p w ds vs → Calls P f vs.toArray w (Ret w (Is v))) : Gives P f ds d := fun w p vs hi hv => by
  refine (h p w vs hi.pub hv).mono fun e w' hr => ?_
  obtain ⟨v', rfl, hv', he⟩ := hr
  obtain rfl : v' = v := hv'
  have g : Grow p w p w' := fun a ha => ⟨ha, by
    obtain ⟨u, hu⟩ := hi.pub a ha
    exact (he.cellOf hu).trans hu.symm⟩
  have hpub : ∀ a, p a → ∃ v, w'.cell? a = some v := fun a ha => by
    obtain ⟨u, hu⟩ := hi.pub a ha
    exact ⟨u, he.cellOf hu⟩
  refine .inl ⟨v', d, [], p, rfl, rfl, hd p w', ?_⟩
  exact { ok := fun o ho => (by cases ho), nd := List.nodup_nil, mine := fun b hb => (by cases hb), pub := hpub, gr := g, neu := fun a ha => .inl ha, os := he.os, tape := he.tape, output := he.output, size := he.size, block := fun b hb _ => he.block b hb }
theorem resTmp {env : Env} {σ : St} {t : Nat} {e d : D} (h : lk env t = some e) (hw : Wk e d) : ResD P env σ (.tmp t) d := ⟨e, h, hw⟩
theorem resRef {env : Env} {σ : St} {t b n : Nat} {ty : TypeId} {e d : D} (h : lk env t = some (.ref b 0 [])) (hm : .cell b e ∈ σ) (ht : Ty P ty e.isAgg n) (hn : sz e = n) (hw : Wk e d) : ResD P env σ (.cell t ty) d := ⟨e, n, hw, ht, hn, .inr ⟨b, h, hm⟩⟩
theorem resPtr {env : Env} {σ : St} {t n : Nat} {ty : TypeId} {e d : D} (h : lk env t = some (.ptr e)) (ht : Ty P ty e.isAgg n) (hn : sz e = n) (hw : Wk e d) : ResD P env σ (.cell t ty) d := ⟨e, n, hw, ht, hn, .inl h⟩
end
end Go.Proofs.Ytlannippingfdaa


namespace Go.Proofs.Ytlannippingfdaa
set_option maxRecDepth 100000
open Go.RowKit

section
variable {P : Program} {o : Oper} {ρ : Operand → Option D} {d : D}

/-- Is a slice nil? What it says of the list. -/
theorem s_isNil {x : Operand} {t e t' : TypeId} {s by_ : Nat} {dx : D} {l : List D} {σ : St} (ho : o.op = .binOp .eql t x (.const (.slice none 0 0)) t') (hE : ElT P t e s by_) (hx : ρ x = some dx) (hl : AsL dx l) (hall : AllSz s l) : StepS P o ρ σ fun d' σ' => ∃ b, d' = .bool b ∧ (b = true → l = []) ∧ σ' = σ := fun K p a w hi h => by
  obtain ⟨A, c, xs, h1, h2, h3, h4, h5, _⟩ := hl.rep (h x (by rw [ho]; simp [Op.operands]) _ hx)
  have hr : (execOp a.eval o).run P w = .ok (.value (.bool A.isNone)) w := by
    unfold execOp
    rw [ho]
    have e1 : eqGuard .eql t x (.const (.slice none 0 0)) (.slice A l.length c) (.slice none 0 0) = pure () := rfl
    have e2 : binOp .eql t (.slice A l.length c) (.slice none 0 0) = (do pure (.bool (← Op.equal t (.slice A l.length c) (.slice none 0 0)))) := rfl
    have e3 : a.eval (.const (.slice none 0 0)) = .slice none 0 0 := rfl
    simp [h1, e1, e2, e3, run_equal_slice_nil w t e A l.length c hE.1]
  unfold Oper.wp
  rw [hr]
  refine ⟨_, .bool A.isNone, σ, p, rfl, ⟨_, rfl, fun hb => ?_, rfl⟩, by simp only [Rep], hi, Grow.refl p w⟩
  cases A with
  | some ad => cases hb
  | none =>
    rcases h4 with h4 | ⟨b, o', h4, _⟩
    · subst h4
      have := h5.len
      rw [hall.szs] at this
      cases l with
      | nil => rfl
      | cons y l =>
        have h9 := Nat.mul_pos (show 0 < (y :: l).length by simp) hE.2.2
        rw [← this] at h9
        simp at h9
    · cases h4

/-- A new array of the call's own. -/
theorem new_arr {K : Ctx} {p : Addr → Prop} {σ : St} {w : World} {e : TypeId} {s cap : Nat} {l : List D} {xs junk : List Value} (hi : Inv K p σ w) (hr : Reps p w l xs) (h1 : ∀ u ∈ xs, u.oneCell' = true) (hall : AllSz s l) (hs0 : 0 < s) (hn : l.length ≤ cap) (hc : cap ≤ 9223372036854775807) :
    Rep p (w.alloc (.cells (xs ++ junk).toArray e)) (.arr w.heap.size s 0 l.length) (.slice (some ⟨w.heap.size, 0, none⟩) l.length cap) ∧ Inv K p (.arr w.heap.size l e s :: σ) (w.alloc (.cells (xs ++ junk).toArray e)) ∧ Grow p w p (w.alloc (.cells (xs ++ junk).toArray e)) := by
  have g0 := grow_alloc hi.pub (.cells (xs ++ junk).toArray e)
  refine ⟨?_, ?_, g0⟩
  · simp only [Rep]
    exact ⟨_, cap, rfl, hn, hc, .inr (by simp)⟩
  · refine (hi.alloc _).more ⟨hall, by omega, hs0, .inr ⟨xs, junk, hr.grow g0, h1, heap_alloc_new w _, fun a ha hb => ?_⟩⟩ fun b hb => ?_
    · obtain ⟨u, hu⟩ := hi.pub a ha
      have := cell_lt hu
      omega
    · cases l with
      | nil => simp [Ob.blk] at hb
      | cons y l =>
        simp only [Ob.blk, Option.some.injEq] at hb
        subst hb
        exact ⟨.inl hi.size, fun hm => by have := hi.lt hm; omega⟩

/-- An empty slice, appended to: an array of the call's own. -/
theorem s_appNew {x y : Operand} {t e : TypeId} {s by_ : Nat} {m : List D} {dy : D} {σ : St} (ho : o.op = .call { callee := .builtin .append, args := #[x, y], argTypes := #[t, t] }) (hE : ElT P t e s by_) (hx : ρ x = some (.full [])) (hy : ρ y = some dy) (hm : AsL dy m) (hml : AllSz s m) (hb : m.length * by_ ≤ 140737488355328) : StepS P o ρ σ fun d' σ' => ∃ b, d' = .arr b s 0 m.length ∧ σ' = .arr b m e s :: σ := fun K p a w hi h => by
  obtain ⟨hu, ⟨z, hz, hzs⟩, hs0⟩ := hE
  obtain ⟨i, hii, hz', hsize, hby⟩ := info_parts hz
  have hxv := h x (by rw [ho]; simp [Op.operands, Call.operands]) _ hx
  obtain ⟨A, c, ys, g1, g2, g3, g4, g5, g6⟩ := hm.rep (h y (by rw [ho]; simp [Op.operands, Call.operands]) _ hy)
  simp only [Rep, List.length_nil] at hxv
  obtain ⟨B, xs, k1, k2, k3, k4, k5⟩ := hxv
  have hyl : ys.length = m.length * s := by rw [g5.len, hml.szs]
  have hrun0 : ∀ r, (Builtin.append_ #[t, t] o.type #[.slice B 0 0, .slice A m.length c]).run P w = r → (execOp a.eval o).run P w = r.andThen fun v w' => .ok (.value v) w' := fun r hr => by
    subst hr
    unfold execOp
    simp only [ho, resolve, invoke, builtin, Sem.run_bind, Sem.run_pure, Result.andThen_ok, List.map_toArray, List.map_cons, List.map_nil, k1, g1]
  by_cases hm0 : m.length = 0
  · have hm0' : m = [] := List.eq_nil_of_length_eq_zero hm0
    subst hm0'
    have hr : (Builtin.append_ #[t, t] o.type #[.slice B 0 0, .slice A 0 c]).run P w = .ok (.slice B 0 0) w := by
      cases A <;> cases B <;> simp [Builtin.append_, run_underlying hu, sizeOf, typeInfo, hii, Builtin.lenOf, Builtin.firstCells, loadCells, loadCellsFrom, storeCells]
    unfold Oper.wp
    rw [hrun0 _ hr]
    refine ⟨_, .arr 0 s 0 0, _, p, rfl, ⟨0, rfl, rfl⟩, ?_, hi.more (o := .arr 0 [] e s) ⟨AllSz.nil s, by simp, hs0, .inl rfl⟩ (fun b hb => by simp [Ob.blk] at hb), Grow.refl p w⟩
    simp only [Rep]
    exact ⟨B, 0, rfl, Nat.le_refl _, by omega, Or.inl trivial⟩
  · have hys : ys ≠ [] := fun hys => by
      rw [hys] at hyl
      have := Nat.mul_pos (Nat.pos_of_ne_zero hm0) hs0
      simp at hyl
      omega
    rcases g4 with g4 | ⟨b, o', rfl, hcell⟩
    · exact absurd g4 hys
    have hnews : ∀ j v, ys[j]? = some v → w.cell? ((⟨b, o', none⟩ : Addr).add j) = some v := fun j v hv => by rw [addF]; exact (hcell j v hv).2
    have hmpos : 0 < m.length := Nat.pos_of_ne_zero hm0
    subst hsize
    subst hby
    have hcm : grownCap w m.length 0 e ≤ maxLen := grownCap_le_maxLen w m.length 0 e (by unfold maxLen; omega)
    have hmx : maxLen = 9223372036854775807 := rfl
    have hge := grownCap_ge w m.length 0 e
    obtain ⟨q1, q2, q3⟩ := new_arr (K := K) (p := p) (σ := σ) (w := w.drew) (e := e) (cap := grownCap w m.length 0 e) (l := m) (xs := ys) (junk := (Builtin.zeroCells z.cells (grownCap w m.length 0 e - m.length)).toList) hi.drew (g5.grow (grow_drew p w)) g6 hml hs0 hge (by omega)
    have hcells : (ys ++ (Builtin.zeroCells z.cells (grownCap w m.length 0 e - m.length)).toList).toArray = ys.toArray ++ Builtin.zeroCells z.cells (grownCap w m.length 0 e - m.length) := by
      apply Array.toList_inj.1
      simp
    rw [hcells] at q1 q2 q3
    cases B with
    | none =>
      have hr := run_append_nil (P := P) w t o.type e i z hu hii hz' ⟨b, o', none⟩ m.length c ys hyl hnews (by omega) (by omega) (by omega)
      unfold Oper.wp
      rw [hrun0 _ hr]
      exact ⟨_, _, _, p, rfl, ⟨_, rfl, rfl⟩, q1, q2, (grow_drew p w).tr q3⟩
    | some ad =>
      have hr := run_append_grow (P := P) w t o.type e i z hu hii hz' ad 0 0 [] (by simp) (by simp) ⟨b, o', none⟩ m.length c ys hyl hnews (by omega) (by omega) (growslice_fits (by omega) (by simpa using hb))
      simp only [Nat.zero_add] at hr
      have e0 : ([] : List Value).toArray ++ ys.toArray ++ Builtin.zeroCells z.cells (grownCap w m.length 0 e - m.length) = ys.toArray ++ Builtin.zeroCells z.cells (grownCap w m.length 0 e - m.length) := by simp
      rw [e0] at hr
      unfold Oper.wp
      rw [hrun0 _ hr]
      exact ⟨_, _, _, p, rfl, ⟨_, rfl, rfl⟩, q1, q2, (grow_drew p w).tr q3⟩

theorem s_indexArr {t e : TypeId} {x ix : Operand} {s by_ b lo n : Nat} {k : IntKind} {m : Int} (j : Nat) (ho : o.op = .indexAddr t x ix) (hE : ElT P t e s by_) (hx : ρ x = some (.arr b s lo n)) (hix : ρ ix = some (.int k m)) (hm : m = (j : Int)) (hj : j < n) : StepD P o ρ (.mref b (lo + j) s 0 []) := stepD_of fun p a w h => by
  have h1 := h x (by rw [ho]; simp [Op.operands]) _ hx
  have h7 := h ix (by rw [ho]; simp [Op.operands]) _ hix
  simp only [Rep] at h1 h7
  obtain ⟨A, c, h1, h2, h3, h4⟩ := h1
  have h4 := h4.resolve_left (by omega)
  subst h4 hm
  obtain ⟨i, hi, hin⟩ := Option.map_eq_some_iff.1 hE.size
  refine ⟨.pointer (some ⟨b, (lo + j) * s + 0, none⟩), ?_, by simp only [Rep]⟩
  unfold execOp
  rw [ho]
  simp [h1, h7.1, Instr.indexAt, asIntOf, run_underlying hE.1, sizeOf, typeInfo, hi, hin, hj, addF, Nat.add_mul]
theorem s_fieldM {s : TypeId} {x : Operand} {f off b i sz' ofs : Nat} {path : List Nat} (ho : o.op = .fieldAddr s x f) (hF : Fld P s f off) (hx : ρ x = some (.mref b i sz' ofs path)) : StepD P o ρ (.mref b i sz' (ofs + off) (path ++ [f])) := stepD_of fun p a w h => by
  have h1 := h x (by rw [ho]; simp [Op.operands]) _ hx
  simp only [Rep] at h1
  refine ⟨.pointer (some ⟨b, i * sz' + ofs + off, none⟩), ?_, by simp only [Rep]; rw [Nat.add_assoc]⟩
  unfold execOp
  rw [ho]
  simp [h1, run_fieldAt hF]

theorem t_loadM {t e : TypeId} {x : Operand} {n b i s off : Nat} {path : List Nat} {σ : St} {l : List D} {d0 : D} (ho : o.op = .load t x) (hx : ρ x = some (.mref b i s off path)) (hσ : .arr b l e s ∈ σ) (hl : l[i]? = some d0) (hs : subD d0 path = some d) (hoff : offD d0 path = off) (ht : Ty P t d.isAgg n) (hn : sz d = n) : StepS P o ρ σ fun d' σ' => d' = d ∧ σ' = σ := fun K p a w hi h => by
  have h1 := h x (by rw [ho]; simp [Op.operands]) _ hx
  simp only [Rep] at h1
  obtain ⟨g1, g2, g0, g3⟩ := hi.ok _ hσ
  obtain ⟨xs, junk, g3, g4, g5, g6⟩ := g3.resolve_left (fun h => by rw [h] at hl; simp at hl)
  obtain ⟨v0, hv0, hc0⟩ := g3.at_cell hl
  obtain ⟨v, hv, hc⟩ := subD_rep hv0 hs
  have hmin : (l.take i).length = i := by have := (List.getElem?_eq_some_iff.1 hl).1; simp; omega
  rw [(g1.take i).szs, hmin] at hc0
  have hlr := run_loadVar (P := P) (b := b) (o := i * s + off) ht hn hv (fun j y hy => by
    rw [cell_of_row _ _ _ _ _ _ g5, ← hoff]
    have := hc0 _ y (hc j y hy)
    have hlt := (List.getElem?_eq_some_iff.1 this).1
    simp only [List.getElem?_toArray]
    rw [Nat.add_assoc, List.getElem?_append_left hlt]
    exact this)
  have hr : (execOp a.eval o).run P w = .ok (.value v) w := by
    unfold execOp
    rw [ho]
    simp [h1, Instr.loadAt, Instr.sureAddr, hlr]
  unfold Oper.wp
  rw [hr]
  exact ⟨v, d, σ, p, rfl, ⟨rfl, rfl⟩, hv, hi, Grow.refl p w⟩

theorem t_storeM {t e : TypeId} {x y : Operand} {n b i s off : Nat} {path : List Nat} {σ : St} (τ : St) {l : List D} {d0 dOld dn : D} {ag : Bool} (ho : o.op = .store t x y) (hx : ρ x = some (.mref b i s off path)) (hy : ρ y = some dn) (hw : Wk dn d) (hσ : σ.Perm (.arr b l e s :: τ)) (hl : l[i]? = some d0) (hp0 : d0.plain = true) (hs : subD d0 path = some dOld) (hoff : offD d0 path = off) (ht : Ty P t ag n) (hn : sz d = n) (hn' : sz dOld = n) (hp : d.plain = true) : StepS P o ρ σ fun _ σ' => σ' = .arr b (l.set i (setD d0 path d)) e s :: τ := fun K p a w hi h => by
  have h1 := h x (by rw [ho]; simp [Op.operands]) _ hx
  simp only [Rep] at h1
  have h2 := hw _ _ _ (h y (by rw [ho]; simp [Op.operands]) _ hy)
  have hi' := hi.perm hσ
  obtain ⟨g1, g2, g0, g3⟩ := hi'.ok _ (List.mem_cons_self ..)
  obtain ⟨xs, junk, g3, g4, g5, g6⟩ := g3.resolve_left (fun h => by rw [h] at hl; simp at hl)
  obtain ⟨ii, hii, hin⟩ := Option.map_eq_some_iff.1 ht.2
  have hsz : (a.eval y).cells.size = n := by rw [Rep.sz h2, hn]
  have hil := (List.getElem?_eq_some_iff.1 hl).1
  have hmin : (l.take i).length = i := by simp; omega
  obtain ⟨v0, hv0, hsplit, hlen1⟩ := g3.at_ hl
  obtain ⟨v', q1, q2, q3, q4, q5⟩ := setD_rep hv0 hs (by rw [hn, hn']) h2 hp hp0
  have hset := Reps.set g3 hl q5 q1
  rw [(g1.take i).szs, hmin] at hsplit hlen1 hset
  have hd0 : sz d0 = s := g1 d0 (List.mem_of_getElem? hl)
  have hv0l : v0.cells.toList.length = s := by rw [← hd0]; simpa using Rep.sz hv0
  have hxl : xs.length = l.length * s := by rw [g3.len, g1.szs]
  have hle : (i + 1) * s ≤ l.length * s := Nat.mul_le_mul_right s (by omega)
  rw [Nat.add_mul, Nat.one_mul] at hle
  have hst := run_storeCells_at (P := P) b (i * s + off) e (a.eval y).cells.toList 0 (xs ++ junk).toArray w g5 (by
    simp only [Array.length_toList, hsz, Nat.add_zero, List.size_toArray, List.length_append]
    rw [hd0, hn, hoff] at q4
    omega) (Rep.one h2 hp)
  -- what the block holds now
  have hrow : ((xs ++ junk).toArray.toList.take (i * s + off + 0) ++ (a.eval y).cells.toList ++ (xs ++ junk).toArray.toList.drop (i * s + off + 0 + (a.eval y).cells.toList.length)).toArray = ((xs.take (i * s) ++ v'.cells.toList ++ xs.drop (i * s + s)) ++ junk).toArray := by
    congr 1
    simp only [Nat.add_zero, Array.length_toList, hsz, ← hn]
    rw [q3, hoff]
    rw [hd0, hoff] at q4
    generalize hA : xs.take (i * s) = A at hsplit hlen1 ⊢
    generalize hB : xs.drop (i * s + s) = B
    rw [hd0, hB] at hsplit
    rw [hsplit]
    have e1 : (A ++ v0.cells.toList ++ B ++ junk).take (i * s + off) = A ++ v0.cells.toList.take off := by
      rw [← hlen1, List.append_assoc, List.append_assoc, List.take_length_add_append, List.take_append_of_le_length (by omega)]
    have e2 : (A ++ v0.cells.toList ++ B ++ junk).drop (i * s + off + sz d) = v0.cells.toList.drop (off + sz d) ++ (B ++ junk) := by
      rw [← hlen1, List.append_assoc, List.append_assoc, Nat.add_assoc, List.drop_length_add_append, List.drop_append_of_le_length (by omega)]
    rw [e1, e2]
    simp only [List.append_assoc]
  rw [hrow] at hst
  have hr : (execOp a.eval o).run P w = .ok .skip (w.setRow b ((xs.take (i * s) ++ v'.cells.toList ++ xs.drop (i * s + s)) ++ junk).toArray) := by
    unfold execOp
    rw [ho]
    simp only [h1, Instr.storeAt, Instr.sureAddr, storeVar, Sem.run_bind, Sem.run_pure, Result.andThen_ok, sizeOf, typeInfo, run_program, hii, hsz, hin, ne_eq, not_true_eq_false, if_false, hst]
  have hcell : ∀ a', p a' → (w.setRow b ((xs.take (i * s) ++ v'.cells.toList ++ xs.drop (i * s + s)) ++ junk).toArray).cell? a' = w.cell? a' := fun a' ha => cell_same (setRow_other w b _ _ (g6 a' ha))
  have gr : Grow p w p (w.setRow b ((xs.take (i * s) ++ v'.cells.toList ++ xs.drop (i * s + s)) ++ junk).toArray) := fun a' ha => ⟨ha, hcell a' ha⟩
  have hblk : ∀ l' : List D, l'.length = l.length → (Ob.arr b l' e s).blk = some b := fun l' hl' => by
    cases l' with
    | nil => simp at hl'; omega
    | cons => rfl
  unfold Oper.wp
  rw [hr]
  refine ⟨Go.undef, .undef, _, p, rfl, rfl, by simp only [Rep], ?_, gr⟩
  rw [q5, hd0] at hset
  refine hi'.write (b := b) (hblk l rfl) (hblk _ (by simp)) gr (fun a' ha => .inl ha) ⟨fun e' he' => ?_, by simpa using g2, g0, .inr ⟨_, junk, hset.grow gr, fun u hu => ?_, setRow_heap w b _ _ _ _ g5, g6⟩⟩ (fun a' ha => ?_) rfl rfl rfl (by simp) fun k hk => setRow_other w b k _ hk
  · rcases List.mem_or_eq_of_mem_set he' with h | rfl
    · exact g1 e' h
    · rw [q5, hd0]
  · rcases List.mem_append.1 hu with hu | hu
    · rcases List.mem_append.1 hu with hu | hu
      · exact g4 u (List.mem_of_mem_take hu)
      · exact Rep.one q1 q2 u hu
    · exact g4 u (List.mem_of_mem_drop hu)
  · obtain ⟨u, hu⟩ := hi.pub a' ha
    exact ⟨u, by rw [hcell a' ha]; exact hu⟩

/-- An array that is never written again. -/
theorem g_freezeArr {m : Md} {f : FuncId} {fn : Func} {K : Ctx} {R : D → St → Prop} {k : List Item} {env : Env} {σ τ : St} {e : TypeId} {b s n : Nat} {l : List D} (t : Nat) (hs : lk env t = some (.arr b s 0 n)) (hσ : σ.Perm (.arr b l e s :: τ)) (hn : n = l.length) (h : GoesG m P f fn K R k ((t, .lst l) :: env) τ) : GoesG m P f fn K R k env σ := fun p a w hi hr hnt hd => by
  have hi' := hi.perm hσ
  subst hn
  obtain ⟨g1, g2, g0, g3⟩ := hi'.ok _ (List.mem_cons_self ..)
  have hv := hr t _ hs
  simp only [Rep] at hv
  obtain ⟨A, c, hv, hc1, hc2, hA⟩ := hv
  have step : ∀ p', Grow p w p' w → Inv K p' τ w → Rep p' w (.lst l) (.slice A l.length c) → Rest m P f fn K R k a w := fun p' g hi2 hrep => h p' a w hi2 (fun t' d' ht' => by
    rw [look_cons] at ht'
    by_cases htt : t = t'
    · subst htt
      rw [if_pos rfl] at ht'
      injection ht' with ht'
      subst ht'
      rw [hv]
      exact hrep
    · rw [if_neg htt] at ht'
      exact (hr t' d' ht').grow g) hnt hd
  by_cases hl0 : l = []
  · subst hl0
    refine step p (Grow.refl p w) hi'.tail ?_
    simp only [Rep]
    exact ⟨A, c, [], rfl, hc1, hc2, .inl rfl, Reps.nil _ _, by simp⟩
  · obtain ⟨xs, junk, g3, g4, g5, g6⟩ := g3.resolve_left hl0
    have hA' := hA.resolve_left (fun h => hl0 (List.eq_nil_of_length_eq_zero h))
    have hblk : (Ob.arr b l e s).blk = some b := by
      cases l with
      | nil => exact absurd rfl hl0
      | cons => rfl
    have hbl : b < w.heap.size := (Array.getElem?_eq_some_iff.1 g5).1
    have hm := hi'.mine b (mem_blks.2 ⟨_, List.mem_cons_self .., hblk⟩)
    have hnd := hi'.nd
    have hne : b ∉ blks τ := by
      simp only [blks, List.filterMap_cons, hblk, List.nodup_cons] at hnd
      exact hnd.1
    have hcell : ∀ j u, xs[j]? = some u → w.cell? ⟨b, 0 + j, none⟩ = some u := fun j u hu => by
      rw [Nat.zero_add, cell_of_row _ _ _ _ _ _ g5]
      have := (List.getElem?_eq_some_iff.1 hu).1
      simp only [List.getElem?_toArray]
      rw [List.getElem?_append_left this]
      exact hu
    have hg := hi'.tail.give (fun a' => a'.block = b ∧ a'.spot = none ∧ a'.off < xs.length) fun a' ⟨e1, e2, e3⟩ => by
      obtain ⟨b', of, sp⟩ := a'
      simp only at e1 e2 e3
      subst e1 e2
      refine ⟨⟨xs[of], ?_⟩, hm, fun o' ho b' hb hab => ?_⟩
      · have := hcell of xs[of] (by simp)
        simpa using this
      · simp only at hab
        subst hab
        exact absurd (mem_blks.2 ⟨o', ho, hb⟩) hne
    refine step _ (grow_give p _ w) hg ?_
    simp only [Rep]
    refine ⟨A, c, xs, rfl, hc1, hc2, .inr ⟨b, 0, by rw [hA']; simp, fun j u hu => ⟨.inr ⟨rfl, rfl, ?_⟩, hcell j u hu⟩⟩, g3.grow (grow_give p _ w), g4⟩
    have := (List.getElem?_eq_some_iff.1 hu).1
    simp only
    omega
/-- A nil slice as an array of nothing. -/
theorem s_nilArr {e : TypeId} {s : Nat} {σ : St} (hs0 : 0 < s) (ho : o.op = .assign (.const (.slice none 0 0)) ∨ o.op = .move (.const (.slice none 0 0))) : StepS P o ρ σ fun d' σ' => ∃ b, d' = .arr b s 0 0 ∧ σ' = .arr b [] e s :: σ := fun K p a w hi h => by
  have hr : (execOp a.eval o).run P w = .ok (.value (.slice none 0 0)) w := by
    unfold execOp
    rcases ho with ho | ho <;> rw [ho] <;> rfl
  unfold Oper.wp
  rw [hr]
  refine ⟨_, .arr 0 s 0 0, _, p, rfl, ⟨0, rfl, rfl⟩, ?_, hi.more (o := .arr 0 [] e s) ⟨AllSz.nil s, by simp, hs0, .inl rfl⟩ (fun b hb => by simp [Ob.blk] at hb), Grow.refl p w⟩
  simp only [Rep]
  exact ⟨none, 0, rfl, Nat.le_refl _, by omega, Or.inl trivial⟩
theorem setD_nil (d x : D) : setD d [] x = x := by cases d <;> rfl
/-- A variable is written whole. -/
theorem t_store0 {t : TypeId} {x y : Operand} {n b : Nat} {σ : St} (τ : St) {d0 e : D} {ag : Bool} (ho : o.op = .store t x y) (hx : ρ x = some (.ref b 0 [])) (hy : ρ y = some e) (hw : Wk e d) (hσ : σ.Perm (.cell b d0 :: τ)) (ht : Ty P t ag n) (hn : sz d = n) (hn' : sz d0 = n) (hp : d.plain = true) : StepS P o ρ σ fun _ σ' => σ' = .cell b d :: τ := by
  have h := t_store (P := P) (d := d) τ ho hx hy hw hσ (show subD d0 [] = some d0 by cases d0 <;> rfl) (by cases d0 <;> rfl) ht hn hn' hp
  rw [setD_nil] at h
  exact h
end
end Go.Proofs.Ytlannippingfdaa


namespace Go.Proofs.Ytlannippingfdaa
set_option maxRecDepth 100000
open Go.RowKit

theorem r_known {m : Md} {P : Program} {X : Env → D → St → Prop} {f : FuncId} {fn : Func} {K : Ctx} {R : D → St → Prop} {k : List Item} {env : Env} {σ : St} {l : List Oper} {rest : List (Nat × Cls)} (s : Nat) (v : Bool) {b : Bool} (hs : lk env s = some (.bool b)) (hb : b = v) (h : Run P l.toArray X (GoesG m P f fn K R k) rest ((s, .bool v) :: env) σ) : Run P l.toArray X (GoesG m P f fn K R k) rest env σ := by
  subst hb
  cases b with
  | true => exact r_split s hs (fun _ => h) fun h' => by cases h'
  | false => exact r_split s hs (fun h' => by cases h') fun _ => h
theorem g_known {m : Md} {P : Program} {f : FuncId} {fn : Func} {K : Ctx} {R : D → St → Prop} {k : List Item} {env : Env} {σ : St} (s : Nat) (v : Bool) {b : Bool} (hs : lk env s = some (.bool b)) (hb : b = v) (h : GoesG m P f fn K R k ((s, .bool v) :: env) σ) : GoesG m P f fn K R k env σ := by
  subst hb
  cases b with
  | true => exact g_split s hs (fun _ => h) fun h' => by cases h'
  | false => exact g_split s hs (fun h' => by cases h') fun _ => h
theorem g_condT {m : Md} {P : Program} {f : FuncId} {fn : Func} {K : Ctx} {R : D → St → Prop} {k : List Item} {env : Env} {σ : St} {c : Operand} {x y : Code} (hc : ev env c = some (.bool true)) (h : GoesG m P f fn K R (.code x :: k) env σ) : GoesG m P f fn K R (.code (.cond c x y) :: k) env σ := by
  cases c with
  | tmp t => exact g_cond hc rfl (fun _ => h) fun h => by cases h
  | const v => exact g_cond hc (by cases v <;> first | rfl | (simp [ev, constD] at hc)) (fun _ => h) fun h => by cases h
  | global g => cases hc
  | func f => cases hc
theorem g_condF {m : Md} {P : Program} {f : FuncId} {fn : Func} {K : Ctx} {R : D → St → Prop} {k : List Item} {env : Env} {σ : St} {c : Operand} {x y : Code} (hc : ev env c = some (.bool false)) (h : GoesG m P f fn K R (.code y :: k) env σ) : GoesG m P f fn K R (.code (.cond c x y) :: k) env σ := by
  cases c with
  | tmp t => exact g_cond hc rfl (fun h => by cases h) fun _ => h
  | const v => exact g_cond hc (by cases v <;> first | rfl | (simp [ev, constD] at hc)) (fun h => by cases h) fun _ => h
  | global g => cases hc
  | func f => cases hc

theorem ty_int : Ty Try.prog 3 false 1 := ⟨⟨_, Try.underlying3, rfl⟩, by kernel_rfl⟩
theorem zv_int : ZeroV Try.prog 3 (.int .i64 0) := .val (.int .i64 0) rfl (by kernel_rfl) rfl
theorem ty_bool : Ty Try.prog 4 false 1 := ⟨⟨_, Try.underlying4, rfl⟩, by kernel_rfl⟩
theorem zv_bool : ZeroV Try.prog 4 (.bool false) := .val (.bool false) rfl (by kernel_rfl) rfl
theorem ty_string : Ty Try.prog 9 false 1 := ⟨⟨_, Try.underlying9, rfl⟩, by kernel_rfl⟩
theorem ty_L_api_Term : Ty Try.prog 31 false 1 := ⟨⟨_, Try.underlying31, rfl⟩, by kernel_rfl⟩
theorem el_L_api_Term : ElT Try.prog 31 36 4 56 := .of Try.underlying31 (by kernel_rfl) (by decide)
theorem ty_api_Atom : Ty Try.prog 33 true 2 := ⟨⟨_, Try.underlying33, rfl⟩, by kernel_rfl⟩
theorem fl_api_Atom_0 : Fld Try.prog 33 0 0 := ⟨_, _, 1, Try.underlying33, rfl, rfl, by kernel_rfl, by decide⟩
theorem fl_api_Atom_1 : Fld Try.prog 33 1 1 := ⟨_, _, 1, Try.underlying33, rfl, rfl, by kernel_rfl, by decide⟩
theorem bt_api_Atom : BuildT Try.prog 33 [.str ⟨#[]⟩, .lst []] := .mk rfl (by kernel_rfl) Try.underlying33 (by kernel_rfl)
theorem zv_api_Atom : ZeroV Try.prog 33 (.agg [.str ⟨#[]⟩, .lst []]) := .agg bt_api_Atom
theorem el_L_int : ElT Try.prog 37 3 1 8 := .of Try.underlying37 (by kernel_rfl) (by decide)
theorem ty_api_Term : Ty Try.prog 36 true 4 := ⟨⟨_, Try.underlying36, rfl⟩, by kernel_rfl⟩
theorem fl_api_Term_0 : Fld Try.prog 36 0 0 := ⟨_, _, 1, Try.underlying36, rfl, rfl, by kernel_rfl, by decide⟩
theorem fl_api_Term_1 : Fld Try.prog 36 1 1 := ⟨_, _, 1, Try.underlying36, rfl, rfl, by kernel_rfl, by decide⟩
theorem fl_api_Term_3 : Fld Try.prog 36 3 3 := ⟨_, _, 1, Try.underlying36, rfl, rfl, by kernel_rfl, by decide⟩
theorem bt_api_Term : BuildT Try.prog 36 [.int .i64 0, .int .i64 0, .str ⟨#[]⟩, .lst []] := .mk rfl (by kernel_rfl) Try.underlying36 (by kernel_rfl)
theorem zv_api_Term : ZeroV Try.prog 36 (.agg [.int .i64 0, .int .i64 0, .str ⟨#[]⟩, .lst []]) := .agg bt_api_Term
theorem ty_api_Goal : Ty Try.prog 45 true 3 := ⟨⟨_, Try.underlying45, rfl⟩, by kernel_rfl⟩
theorem fl_api_Goal_0 : Fld Try.prog 45 0 0 := ⟨_, _, 1, Try.underlying45, rfl, rfl, by kernel_rfl, by decide⟩
theorem fl_api_Goal_1 : Fld Try.prog 45 1 1 := ⟨_, _, 1, Try.underlying45, rfl, rfl, by kernel_rfl, by decide⟩
theorem fl_api_Goal_2 : Fld Try.prog 45 2 2 := ⟨_, _, 1, Try.underlying45, rfl, rfl, by kernel_rfl, by decide⟩
theorem bt_api_Goal : BuildT Try.prog 45 [.int .i64 0, .str ⟨#[]⟩, .lst []] := .mk rfl (by kernel_rfl) Try.underlying45 (by kernel_rfl)
theorem zv_api_Goal : ZeroV Try.prog 45 (.agg [.int .i64 0, .str ⟨#[]⟩, .lst []]) := .agg bt_api_Goal
theorem ty_L_api_Goal : Ty Try.prog 23 false 1 := ⟨⟨_, Try.underlying23, rfl⟩, by kernel_rfl⟩
theorem el_L_api_Goal : ElT Try.prog 23 45 3 48 := .of Try.underlying23 (by kernel_rfl) (by decide)
theorem zv_L_api_Goal : ZeroV Try.prog 23 (.lst []) := .val (.slice none 0 0) rfl (by kernel_rfl) rfl
theorem ty_map_int_bool : Ty Try.prog 47 false 1 := ⟨⟨_, Try.underlying47, rfl⟩, by kernel_rfl⟩
theorem ty_Unit : Ty Try.prog 59 true 0 := ⟨⟨_, Try.underlying59, rfl⟩, by kernel_rfl⟩
theorem bt_Unit : BuildT Try.prog 59 [] := .mk rfl (by kernel_rfl) Try.underlying59 (by kernel_rfl)
theorem zv_Unit : ZeroV Try.prog 59 (.agg []) := .agg bt_Unit
theorem el_L_api_Rule : ElT Try.prog 41 25 6 120 := .of Try.underlying41 (by kernel_rfl) (by decide)
theorem ty_L_api_Atom : Ty Try.prog 22 false 1 := ⟨⟨_, Try.underlying22, rfl⟩, by kernel_rfl⟩
theorem el_L_api_Atom : ElT Try.prog 22 33 2 40 := .of Try.underlying22 (by kernel_rfl) (by decide)
theorem ty_api_Rule : Ty Try.prog 25 true 6 := ⟨⟨_, Try.underlying25, rfl⟩, by kernel_rfl⟩
theorem fl_api_Rule_0 : Fld Try.prog 25 0 0 := ⟨_, _, 1, Try.underlying25, rfl, rfl, by kernel_rfl, by decide⟩
theorem fl_api_Rule_1 : Fld Try.prog 25 1 1 := ⟨_, _, 1, Try.underlying25, rfl, rfl, by kernel_rfl, by decide⟩
theorem fl_api_Rule_2 : Fld Try.prog 25 2 2 := ⟨_, _, 1, Try.underlying25, rfl, rfl, by kernel_rfl, by decide⟩
theorem fl_api_Rule_3 : Fld Try.prog 25 3 3 := ⟨_, _, 1, Try.underlying25, rfl, rfl, by kernel_rfl, by decide⟩
theorem fl_api_Rule_4 : Fld Try.prog 25 4 4 := ⟨_, _, 1, Try.underlying25, rfl, rfl, by kernel_rfl, by decide⟩
theorem fl_api_Rule_5 : Fld Try.prog 25 5 5 := ⟨_, _, 1, Try.underlying25, rfl, rfl, by kernel_rfl, by decide⟩
theorem bt_api_Rule : BuildT Try.prog 25 [.str ⟨#[]⟩, .lst [], .lst [], .lst [], .lst [], .int .i64 0] := .mk rfl (by kernel_rfl) Try.underlying25 (by kernel_rfl)
theorem zv_api_Rule : ZeroV Try.prog 25 (.agg [.str ⟨#[]⟩, .lst [], .lst [], .lst [], .lst [], .int .i64 0]) := .agg bt_api_Rule
theorem ty_map_int_int : Ty Try.prog 70 false 1 := ⟨⟨_, Try.underlying70, rfl⟩, by kernel_rfl⟩
theorem el_L_L_api_Goal : ElT Try.prog 68 23 1 24 := .of Try.underlying68 (by kernel_rfl) (by decide)
end Go.Proofs.Ytlannippingfdaa


namespace Go.Proofs.Ytlannippingfdaa
set_option maxRecDepth 100000
open Go.RowKit

theorem cl_constraintref03_SameAtom : callee Try.prog 47 := ⟨_, _, Try.func47, rfl, by decide⟩
theorem cl_constraintref03_GreatGoals : callee Try.prog 37 := ⟨_, _, Try.func37, rfl, by decide⟩
theorem cl_constraintref03_SameGoal : callee Try.prog 18 := ⟨_, _, Try.func18, rfl, by decide⟩
theorem cl_term_SameAtom : callee Try.prog 71 := ⟨_, _, Try.func71, rfl, by decide⟩
theorem cl_constraintref03_Var : callee Try.prog 19 := ⟨_, _, Try.func19, rfl, by decide⟩
theorem cl_constraintref03_weigh : callee Try.prog 56 := ⟨_, _, Try.func56, rfl, by decide⟩
theorem cl_constraintref03_vars : callee Try.prog 31 := ⟨_, _, Try.func31, rfl, by decide⟩
theorem cl_slices_Clone_api_Term_api_Term : callee Try.prog 60 := ⟨_, _, Try.func60, rfl, by decide⟩
theorem cl_constraintref03_has : callee Try.prog 49 := ⟨_, _, Try.func49, rfl, by decide⟩
theorem cl_constraintref03_args : callee Try.prog 50 := ⟨_, _, Try.func50, rfl, by decide⟩
theorem cl_constraintref16_Heads : callee Try.prog 10 := ⟨_, _, Try.func10, rfl, by decide⟩
theorem cl_constraintref03_GreatRules : callee Try.prog 16 := ⟨_, _, Try.func16, rfl, by decide⟩
theorem cl_constraintlaw17_large : callee Try.prog 5 := ⟨_, _, Try.func5, rfl, by decide⟩
theorem cl_constraintlaw17_exampleHolds : callee Try.prog 6 := ⟨_, _, Try.func6, rfl, by decide⟩
theorem cl_normal_Linear : callee Try.prog 7 := ⟨_, _, Try.func7, rfl, by decide⟩
theorem cl_constraintref14_SameRule : callee Try.prog 8 := ⟨_, _, Try.func8, rfl, by decide⟩
theorem cl_constraintref14_Number : callee Try.prog 9 := ⟨_, _, Try.func9, rfl, by decide⟩
theorem cl_constraintlaw17_occurrences : callee Try.prog 11 := ⟨_, _, Try.func11, rfl, by decide⟩
theorem cl_constraintref03_VarsOf : callee Try.prog 12 := ⟨_, _, Try.func12, rfl, by decide⟩
theorem cl_constraintref14_Terms : callee Try.prog 13 := ⟨_, _, Try.func13, rfl, by decide⟩
theorem cl_normal_IsLinear : callee Try.prog 14 := ⟨_, _, Try.func14, rfl, by decide⟩
theorem cl_normal_Join : callee Try.prog 15 := ⟨_, _, Try.func15, rfl, by decide⟩
theorem cl_occur_Heads : callee Try.prog 53 := ⟨_, _, Try.func53, rfl, by decide⟩
theorem cl_term_RightGoal : callee Try.prog 54 := ⟨_, _, Try.func54, rfl, by decide⟩
theorem cl_constraintref03_GreatAtoms : callee Try.prog 36 := ⟨_, _, Try.func36, rfl, by decide⟩
theorem cl_constraintlaw17_leq : callee Try.prog 17 := ⟨_, _, Try.func17, rfl, by decide⟩
theorem cl_normal_Same : callee Try.prog 20 := ⟨_, _, Try.func20, rfl, by decide⟩
theorem cl_normal_numbered : callee Try.prog 21 := ⟨_, _, Try.func21, rfl, by decide⟩
theorem cl_normal_Linear_1 : callee Try.prog 22 := ⟨_, _, Try.func22, rfl, by decide⟩
theorem cl_term_Var : callee Try.prog 23 := ⟨_, _, Try.func23, rfl, by decide⟩
theorem cl_normal_heads : callee Try.prog 24 := ⟨_, _, Try.func24, rfl, by decide⟩
theorem cl_slices_Concat_api_Goal_api_Goal : callee Try.prog 25 := ⟨_, _, Try.func25, rfl, by decide⟩
theorem cl_source_Number : callee Try.prog 26 := ⟨_, _, Try.func26, rfl, by decide⟩
theorem cl_constraintref03_SameAtoms : callee Try.prog 27 := ⟨_, _, Try.func27, rfl, by decide⟩
theorem cl_constraintref03_SameGoals : callee Try.prog 28 := ⟨_, _, Try.func28, rfl, by decide⟩
theorem cl_constraintref14_atoms : callee Try.prog 29 := ⟨_, _, Try.func29, rfl, by decide⟩
theorem cl_constraintref14_RenameGoals : callee Try.prog 30 := ⟨_, _, Try.func30, rfl, by decide⟩
theorem cl_normal_variables : callee Try.prog 32 := ⟨_, _, Try.func32, rfl, by decide⟩
theorem cl_normal_arguments : callee Try.prog 33 := ⟨_, _, Try.func33, rfl, by decide⟩
theorem cl_normal_joining : callee Try.prog 34 := ⟨_, _, Try.func34, rfl, by decide⟩
theorem cl_normal_Join_1 : callee Try.prog 35 := ⟨_, _, Try.func35, rfl, by decide⟩
theorem cl_term_SameGoal : callee Try.prog 73 := ⟨_, _, Try.func73, rfl, by decide⟩
theorem cl_occur_count : callee Try.prog 65 := ⟨_, _, Try.func65, rfl, by decide⟩
theorem cl_normal_same : callee Try.prog 39 := ⟨_, _, Try.func39, rfl, by decide⟩
theorem cl_slices_Clone_api_Atom_api_Atom : callee Try.prog 40 := ⟨_, _, Try.func40, rfl, by decide⟩
theorem cl_normal_renamed : callee Try.prog 41 := ⟨_, _, Try.func41, rfl, by decide⟩
theorem cl_slices_Grow_api_Goal_api_Goal : callee Try.prog 42 := ⟨_, _, Try.func42, rfl, by decide⟩
theorem cl_source_mapped_api_Atom : callee Try.prog 43 := ⟨_, _, Try.func43, rfl, by decide⟩
theorem cl_source_numbering_atom : callee Try.prog 44 := ⟨_, _, Try.func44, rfl, by decide⟩
theorem cl_source_mapped_api_Goal : callee Try.prog 45 := ⟨_, _, Try.func45, rfl, by decide⟩
theorem cl_source_numbering_goal : callee Try.prog 46 := ⟨_, _, Try.func46, rfl, by decide⟩
theorem cl_constraintref14_rename : callee Try.prog 48 := ⟨_, _, Try.func48, rfl, by decide⟩
theorem cl_normal_uses : callee Try.prog 55 := ⟨_, _, Try.func55, rfl, by decide⟩
theorem cl_normal_sameAtoms : callee Try.prog 58 := ⟨_, _, Try.func58, rfl, by decide⟩
theorem cl_normal_sameGoals : callee Try.prog 59 := ⟨_, _, Try.func59, rfl, by decide⟩
theorem cl_source_mapped_api_Term : callee Try.prog 61 := ⟨_, _, Try.func61, rfl, by decide⟩
theorem cl_source_numbering_term : callee Try.prog 62 := ⟨_, _, Try.func62, rfl, by decide⟩
theorem cl_constraintref14_place : callee Try.prog 64 := ⟨_, _, Try.func64, rfl, by decide⟩
theorem cl_slices_EqualFunc_api_Atom_api_Atom_api_Atom_api_Atom : callee Try.prog 70 := ⟨_, _, Try.func70, rfl, by decide⟩
theorem cl_slices_EqualFunc_api_Goal_api_Goal_api_Goal_api_Goal : callee Try.prog 72 := ⟨_, _, Try.func72, rfl, by decide⟩
end Go.Proofs.Ytlannippingfdaa


namespace Go.Proofs.Ytlannippingfdaa
set_option maxRecDepth 100000
open Go.RowKit

mutual
def fsT : T → List D
  | .mk k i s ar => [.int .i64 k, .int .i64 i, .str s, .lst (encTs ar)]
def encTs : List T → List D
  | [] => []
  | t :: ts => .agg (fsT t) :: encTs ts
end
abbrev encT (t : T) : D := .agg (fsT t)
theorem encTs_eq : ∀ (ts : List T), encTs ts = ts.map encT
  | [] => rfl
  | t :: ts => by rw [encTs, encTs_eq ts]; rfl
theorem fsT_eq (t : T) : fsT t = [.int .i64 t.k, .int .i64 t.i, .str t.s, .lst (t.ar.map encT)] := by
  cases t; simp only [fsT, encTs_eq, T.k, T.i, T.s, T.ar]
theorem fsT_get0 (t : T) : (fsT t)[0]? = some (.int .i64 t.k) := by rw [fsT_eq]; rfl
theorem fsT_get1 (t : T) : (fsT t)[1]? = some (.int .i64 t.i) := by rw [fsT_eq]; rfl
theorem fsT_get3 (t : T) : (fsT t)[3]? = some (.lst (t.ar.map encT)) := by rw [fsT_eq]; rfl
theorem fsT_off0 (t : T) : szs ((fsT t).take 0) = 0 := by rw [fsT_eq]; rfl
theorem fsT_off1 (t : T) : szs ((fsT t).take 1) = 1 := by rw [fsT_eq]; rfl
theorem fsT_off3 (t : T) : szs ((fsT t).take 3) = 3 := by rw [fsT_eq]; rfl
theorem sz_encT (t : T) : sz (encT t) = 4 := by rw [encT, fsT_eq]; rfl
def encA (a : At) : D := .agg [.str a.n, .lst (a.ts.map encT)]
def encG (g : Gl) : D := .agg [.int .i64 g.op, .str g.n, .lst (g.ts.map encT)]
/-! ### to the elder layouts -/
section
variable {p : Addr → Prop} {w : World}
mutual
theorem ct_of : ∀ (t : T) (v : Value), Rep p w (encT t) v → ∃ cs, v = .agg cs.toArray ∧ CT w t cs
  | .mk k i s ar, v, h => by
    simp only [Rep, fsT] at h
    obtain ⟨cs, rfl, h, _⟩ := h
    simp only [Reps, Rep] at h
    obtain ⟨v1, _, rfl, ⟨rfl, hk⟩, v2, _, rfl, ⟨rfl, hi⟩, v3, _, rfl, ⟨rfl, hs⟩, v4, _, rfl, ⟨A, c, xs, rfl, hl, hc, hr, hrs, _⟩, rfl⟩ := h
    rw [show (encTs ar).length = ar.length by rw [encTs_eq]; simp] at hl ⊢
    refine ⟨_, rfl, ?_⟩
    simp only [CT]
    have hk' := wrap64_inv hk
    have hi' := wrap64_inv hi
    exact ⟨A, c, xs, by simp [Value.cells], ⟨by unfold I64; omega, by unfold I64; omega, hs, hl, hc⟩, hr.rd, cl_of ar xs hrs⟩
theorem cl_of : ∀ (ts : List T) (xs : List Value), Reps p w (encTs ts) xs → CL w ts xs
  | [], xs, h => by simpa only [encTs, Reps, CL] using h
  | t :: ts, xs, h => by
    simp only [encTs, Reps] at h
    obtain ⟨v, rest, rfl, h1, h2⟩ := h
    obtain ⟨cs, rfl, h3⟩ := ct_of t v h1
    simpa [Value.cells] using CL.cons h3 (cl_of ts rest h2)
end
theorem sl_of {ts : List T} {v : Value} (h : Rep p w (.lst (ts.map encT)) v) : SlT w ts v := by
  simp only [Rep] at h
  obtain ⟨A, c, xs, rfl, h2, h3, h4, h5, _⟩ := h
  simp only [List.length_map] at h2 ⊢
  exact ⟨A, c, xs, rfl, h2, h3, h4.rd, cl_of ts xs (by rw [encTs_eq]; exact h5)⟩
theorem va_of {a : At} {v : Value} (h : Rep p w (encA a) v) : VA w a v := by
  simp only [encA, Rep, Reps] at h
  obtain ⟨cs, rfl, ⟨v1, _, rfl, ⟨rfl, hs⟩, v2, _, rfl, h2, rfl⟩, _⟩ := h
  have h3 := sl_of (ts := a.ts) (by simpa only [Rep] using h2)
  obtain ⟨A, c, xs, rfl, _⟩ := h2
  exact ⟨_, rfl, _, by simp [Value.cells], h3, hs⟩
theorem vg_of {g : Gl} {v : Value} (h : Rep p w (encG g) v) : VG w g v := by
  simp only [encG, Rep, Reps] at h
  obtain ⟨cs, rfl, ⟨v0, _, rfl, ⟨rfl, ho⟩, v1, _, rfl, ⟨rfl, hs⟩, v2, _, rfl, h2, rfl⟩, _⟩ := h
  have h3 := sl_of (ts := g.ts) (by simpa only [Rep] using h2)
  obtain ⟨A, c, xs, rfl, _⟩ := h2
  have ho' := wrap64_inv ho
  exact ⟨_, rfl, _, by simp [Value.cells], h3, by unfold I64; omega, hs⟩
end
end Go.Proofs.Ytlannippingfdaa


namespace Go.Proofs.Ytlannippingfdaa
set_option maxRecDepth 100000
open Go.RowKit

section
variable {p : Addr → Prop} {w : World}
theorem repl1 {d : D} {vs : List Value} (h : Repl p w [d] vs) : ∃ v, vs = [v] ∧ Rep p w d v := by
  simp only [Repl] at h
  obtain ⟨v, _, rfl, h1, rfl⟩ := h
  exact ⟨v, rfl, h1⟩
theorem repl2 {d e : D} {vs : List Value} (h : Repl p w [d, e] vs) : ∃ v u, vs = [v, u] ∧ Rep p w d v ∧ Rep p w e u := by
  simp only [Repl] at h
  obtain ⟨v, _, rfl, h1, u, _, rfl, h2, rfl⟩ := h
  exact ⟨v, u, rfl, h1, h2⟩
end
theorem gives1 {P : Program} {f : FuncId} {d : D} {b : Bool} (h : ∀ (p : Addr → Prop) (w : World) (v : Value), Rep p w d v → Calls P f #[v] w (Ret w (Is (.bool b)))) : Gives P f [d] (.bool b) :=
  gives_of_ret (v := .bool b) (fun p w => by simp only [Rep]) fun p w vs _ hv => by
    obtain ⟨v, rfl, h1⟩ := repl1 hv
    exact h p w v h1
theorem gives2 {P : Program} {f : FuncId} {d e : D} {b : Bool} (h : ∀ (p : Addr → Prop) (w : World) (v u : Value), Rep p w d v → Rep p w e u → Calls P f #[v, u] w (Ret w (Is (.bool b)))) : Gives P f [d, e] (.bool b) :=
  gives_of_ret (v := .bool b) (fun p w => by simp only [Rep]) fun p w vs _ hv => by
    obtain ⟨v, u, rfl, h1, h2⟩ := repl2 hv
    exact h p w v u h1 h2
theorem sp_term_RightGoal (n : Nat) (hM : n ≤ 1000000000) (a : Gl) (hn : wtL a.ts ≤ n) : Gives Try.prog 54 [encG a] (.bool (rightG a)) := gives1 fun _ w v h => rightGoal_any n hM a v w hn (vg_of h)
theorem sp_term_SameAtom (n : Nat) (hM : n ≤ 1000000000) (a b : At) (hn : wtL a.ts ≤ n) : Gives Try.prog 71 [encA a, encA b] (.bool (cmpA a b == 0)) := gives2 fun _ w v x h k => sameAtom_any n hM a b v x w hn (va_of h) (va_of k)
theorem sp_R3_SameAtom (n : Nat) (hM : n ≤ 1000000000) (a b : At) (hn : wtL a.ts ≤ n) : Gives Try.prog 47 [encA a, encA b] (.bool (cmpA a b == 0)) := gives2 fun _ w v x h k => refSameAtom_any n hM a b v x w hn (va_of h) (va_of k)
theorem sp_term_SameGoal (n : Nat) (hM : n ≤ 1000000000) (a b : Gl) (hn : wtL a.ts ≤ n) : Gives Try.prog 73 [encG a, encG b] (.bool (sameG a b)) := gives2 fun _ w v x h k => sameGoal_any n hM a b v x w hn (vg_of h) (vg_of k)
theorem sp_R3_SameGoal (n : Nat) (hM : n ≤ 1000000000) (a b : Gl) (hn : wtL a.ts ≤ n) : Gives Try.prog 18 [encG a, encG b] (.bool (sameG a b)) := gives2 fun _ w v x h k => refSameGoal_any n hM a b v x w hn (vg_of h) (vg_of k)
end Go.Proofs.Ytlannippingfdaa


namespace Go.Proofs.Ytlannippingfdaa
set_option maxRecDepth 100000
open Go.RowKit

open Classical in
/-- The first entry with a key. -/
noncomputable def firstAt (v : Value) : List MapEntry → Nat → Option (Nat × Value)
  | [], _ => none
  | e :: es, i => if e.key = v then some (i, e.val) else firstAt v es (i + 1)
/-- How keys show. -/
structure KeyOk (P : Program) (kt : TypeId) {α : Type} (key : α → D) (vk : α → Value) (d : Value → Prop) : Prop where
  rep : ∀ (p : Addr → Prop) (w : World) (a : α) (v : Value), Rep p w (key a) v → v = vk a
  good : ∀ (p : Addr → Prop) (w : World) (a : α) (v : Value), Rep p w (key a) v → d v
  inj : ∀ a b, vk a = vk b → a = b
  check : ∀ (w : World) (em : Bool) (v : Value), d v → (Instr.checkKey em 10000 kt v).run P w = .ok () w
  find : ∀ (w : World) (v : Value) (es : List MapEntry), d v → (∀ e ∈ es, d e.key) → (Instr.findKey kt v es).run P w = .ok (firstAt v es 0) w
  stays : ∀ (w : World) (v : Value), d v → (Instr.keyThatStays v v).run P w = .ok v w
theorem findNow_first {d : TypeDesc} {k : Value} (hk : MapKept.IsKey d k) : ∀ (es : List MapEntry) (i : Nat), (∀ e ∈ es, MapKept.IsKey d e.key) → Instr.findNow d k es i = some (firstAt k es i)
  | [], i, _ => rfl
  | e :: es, i, h => by
    obtain ⟨b, hb, hiff⟩ := MapKept.sameNow_of_keys hk (h e (List.mem_cons_self ..))
    simp only [Instr.findNow, hb, firstAt]
    cases b with
    | true => rw [if_pos (hiff.1 rfl).symm]
    | false =>
      rw [if_neg fun e => by have := hiff.2 e.symm; cases this]
      exact findNow_first hk es (i + 1) fun x hx => h x (List.mem_cons_of_mem _ hx)
theorem keyOf_desc {P : Program} {kt : TypeId} {d : TypeDesc} {α : Type} {key : α → D} {vk : α → Value} (h : P.underlying kt = some d) (h1 : ∀ (p : Addr → Prop) (w : World) (a : α) (v : Value), Rep p w (key a) v → v = vk a) (h2 : ∀ a, MapKept.IsKey d (vk a)) (h3 : ∀ a b, vk a = vk b → a = b) : KeyOk P kt key vk (MapKept.IsKey d) :=
  ⟨h1, fun p w a v hv => by rw [h1 p w a v hv]; exact h2 a, h3, fun w em v hv => MapKept.run_checkKey h hv em 9999, fun w v es hv he => MapKept.run_findKey h (findNow_first hv es 0 he), fun w v hv => MapKept.run_keyThatStays hv⟩
theorem keyInt {P : Program} {kt : TypeId} {k : IntKind} (h : P.underlying kt = some (.int k)) : KeyOk P kt (fun n : Int => D.int k n) (fun n => .int k n) (MapKept.IsKey (.int k)) :=
  keyOf_desc h (fun p w a v hv => by simp only [Rep] at hv; exact hv.1) (fun a => rfl) fun a b e => by injection e
theorem keys_good {α : Type} {P : Program} {kt : TypeId} {key : α → D} {vk : α → Value} {d : Value → Prop} (hK : KeyOk P kt key vk d) {p : Addr → Prop} {w : World} : ∀ {l : List (α × D)} {es : List MapEntry}, RepKV p w (l.map fun q => (key q.1, q.2)) es → ∀ e ∈ es, d e.key
  | [], es, h, e, he => by
    simp only [List.map_nil, RepKV] at h
    subst h
    cases he
  | r :: l, es, h, e, he => by
    simp only [List.map_cons, RepKV] at h
    obtain ⟨e0, rest, rfl, h1, h2, h3⟩ := h
    rcases List.mem_cons.1 he with rfl | he
    · exact hK.good _ _ _ _ h1
    · exact keys_good hK h3 e he
section
variable {α : Type} [DecidableEq α]
abbrev MapD (key : α → D) (l : List (α × D)) : List (D × D) := l.map fun q => (key q.1, q.2)
def findA : List (α × D) → α → Option D
  | [], _ => none
  | q :: l, x => if q.1 = x then some q.2 else findA l x
def putA : List (α × D) → α → D → List (α × D)
  | [], x, d => [(x, d)]
  | q :: l, x, d => if q.1 = x then (x, d) :: l else q :: putA l x d
theorem putA_len : ∀ (l : List (α × D)) (x : α) (d : D), (putA l x d).length ≤ l.length + 1
  | [], x, d => by simp [putA]
  | q :: l, x, d => by
    unfold putA
    split
    · simp
    · have := putA_len l x d
      simp only [List.length_cons]
      omega
theorem find_spec {P : Program} {kt : TypeId} {key : α → D} {vk : α → Value} {d : Value → Prop} (hK : KeyOk P kt key vk d) (p : Addr → Prop) (w : World) (x : α) (dd : D) : ∀ (l : List (α × D)) (es : List MapEntry) (i : Nat), RepKV p w (MapD key l) es →
    (firstAt (vk x) es i = none ∧ findA l x = none ∧ putA l x dd = l ++ [(x, dd)]) ∨
    ∃ j e dv, firstAt (vk x) es i = some (i + j, e.val) ∧ es[j]? = some e ∧ e.key = vk x ∧ findA l x = some dv ∧ Rep p w dv e.val ∧ ∀ (q : Addr → Prop) (u : World) (e' : MapEntry), Grow p w q u → Rep q u (key x) e'.key → Rep q u dd e'.val → RepKV q u (MapD key (putA l x dd)) (es.set j e')
  | [], es, i, h => by
    simp only [MapD, List.map_nil, RepKV] at h
    subst h
    exact .inl ⟨rfl, rfl, rfl⟩
  | r :: l, es, i, h => by
    simp only [MapD, List.map_cons, RepKV] at h
    obtain ⟨e, rest, rfl, h1, h2, h3⟩ := h
    have hk := hK.rep _ _ _ _ h1
    by_cases hx : r.1 = x
    · refine .inr ⟨0, e, r.2, by simp [firstAt, hk, hx], rfl, by rw [hk, hx], by simp [findA, hx], h2, fun q u e' g q1 q2 => ?_⟩
      simp only [putA, if_pos hx, MapD, List.map_cons, RepKV, List.set_cons_zero]
      exact ⟨e', rest, rfl, q1, q2, h3.grow g⟩
    · have hne : e.key ≠ vk x := fun e' => hx (hK.inj _ _ (by rw [← hk]; exact e'))
      rcases find_spec hK p w x dd l rest (i + 1) h3 with ⟨q1, q2, q3⟩ | ⟨j, e2, dv, q1, q2, q3, q4, q5, q6⟩
      · exact .inl ⟨by simp [firstAt, hne, q1], by simp [findA, hx, q2], by simp [putA, hx, q3]⟩
      · refine .inr ⟨j + 1, e2, dv, by simp [firstAt, hne, q1]; omega, by simpa using q2, q3, by simp [findA, hx, q4], q5, fun q u e' g r1 r2 => ?_⟩
        simp only [putA, if_neg hx, MapD, List.map_cons, RepKV, List.set_cons_succ]
        exact ⟨e, _, rfl, h1.grow g, h2.grow g, q6 q u e' g r1 r2⟩
theorem repKV_app {p : Addr → Prop} {w : World} : ∀ {l m : List (D × D)} {es fs : List MapEntry}, RepKV p w l es → RepKV p w m fs → RepKV p w (l ++ m) (es ++ fs)
  | [], m, es, fs, h, k => by simp only [RepKV] at h; subst h; simpa using k
  | r :: l, m, es, fs, h, k => by
    obtain ⟨a, b⟩ := r
    simp only [RepKV] at h
    obtain ⟨e, rest, rfl, h1, h2, h3⟩ := h
    simp only [List.cons_append, RepKV]
    exact ⟨e, _, rfl, h1, h2, repKV_app h3 k⟩

variable {P : Program} {o : Oper} {ρ : Operand → Option D}
theorem s_makeMap {t : TypeId} {σ : St} (ho : o.op = .makeMap t none) : StepS P o ρ σ fun d' σ' => ∃ r, d' = .map r ∧ σ' = .map r [] :: σ := fun K p a w hi h => by
  have hr : (execOp a.eval o).run P w = .ok (.value (.map (some w.heap.size))) (w.alloc (.map #[] 0)) := by
    unfold execOp
    rw [ho]
    simp [Instr.makeMap]
  unfold Oper.wp
  rw [hr]
  refine ⟨_, .map w.heap.size, _, p, rfl, ⟨w.heap.size, rfl, rfl⟩, by simp only [Rep], ?_, grow_alloc hi.pub _⟩
  refine (hi.alloc _).more ⟨#[], 0, heap_alloc_new w _, by simp only [RepKV], by simp, by simp, by simp⟩ fun b hb => ?_
  simp only [Ob.blk, Option.some.injEq] at hb
  subst hb
  exact ⟨.inl hi.size, fun hm => by have := hi.lt hm; omega⟩
theorem s_lookup2 {t kt e : TypeId} {x y : Operand} {key : α → D} {vk : α → Value} {d : Value → Prop} {r : Nat} {l : List (α × D)} {a0 : α} {z : D} {zv : Value} {σ : St} (ho : o.op = .lookup t x y true) (ht : P.underlying t = some (.map kt e)) (hK : KeyOk P kt key vk d) (hz : (P.info? e).map (·.zero) = some (some zv)) (hzr : ∀ p w, Rep p w z zv) (hx : ρ x = some (.map r)) (hy : ρ y = some (key a0)) (hσ : .map r (MapD key l) ∈ σ) :
    StepS P o ρ σ fun d' σ' => d' = .tup [(findA l a0).getD z, .bool (findA l a0).isSome] ∧ σ' = σ := fun K p a w hi h => by
  have h1 := h x (by rw [ho]; simp [Op.operands]) _ hx
  have h2 := hK.rep _ _ _ _ (h y (by rw [ho]; simp [Op.operands]) _ hy)
  have hgood : d (vk a0) := h2 ▸ hK.good _ _ _ _ (h y (by rw [ho]; simp [Op.operands]) _ hy)
  simp only [Rep] at h1
  obtain ⟨es, clock, g1, g2, _⟩ := hi.ok _ hσ
  obtain ⟨i, hi1, hi2⟩ := Option.map_eq_some_iff.1 hz
  have hc := hK.check w es.isEmpty (vk a0) hgood
  rcases find_spec hK p w a0 z l es.toList 0 g2 with ⟨q1, q2, _⟩ | ⟨j, e', dv, q1, q2, q3, q4, q5, _⟩
  · have hf := (hK.find w (vk a0) es.toList hgood (keys_good hK g2)).trans (by rw [q1])
    have hr : (execOp a.eval o).run P w = .ok (.value (.tuple #[zv, .bool false])) w := by
      unfold execOp
      rw [ho]
      simp [h1, h2, Instr.lookup, run_underlying ht, MapKept.run_getObj_map g1, hc, hf, zeroValue, typeInfo, hi1, hi2]
    unfold Oper.wp
    rw [hr]
    refine ⟨_, _, _, p, rfl, ⟨rfl, rfl⟩, ?_, hi, Grow.refl _ _⟩
    rw [q2]
    simp only [Rep, Repl, Option.getD_none, Option.isSome_none]
    exact ⟨[zv, .bool false], rfl, zv, _, rfl, hzr p w, .bool false, [], rfl, rfl, rfl⟩
  · have hf := (hK.find w (vk a0) es.toList hgood (keys_good hK g2)).trans (by rw [q1])
    have hr : (execOp a.eval o).run P w = .ok (.value (.tuple #[e'.val, .bool true])) w := by
      unfold execOp
      rw [ho]
      simp [h1, h2, Instr.lookup, run_underlying ht, MapKept.run_getObj_map g1, hc, hf]
    unfold Oper.wp
    rw [hr]
    refine ⟨_, _, _, p, rfl, ⟨rfl, rfl⟩, ?_, hi, Grow.refl _ _⟩
    rw [q4]
    simp only [Rep, Repl, Option.getD_some, Option.isSome_some]
    exact ⟨[e'.val, .bool true], rfl, e'.val, _, rfl, q5, .bool true, [], rfl, rfl, rfl⟩
theorem s_mapUpdate {t kt e : TypeId} {x y v : Operand} {key : α → D} {vk : α → Value} {d : Value → Prop} {r : Nat} {l : List (α × D)} {a0 : α} {dn dd : D} {σ : St} (τ : St) (ho : o.op = .mapUpdate t x y v) (ht : P.underlying t = some (.map kt e)) (hK : KeyOk P kt key vk d) (hx : ρ x = some (.map r)) (hy : ρ y = some (key a0)) (hv : ρ v = some dn) (hw : Wk dn dd) (hσ : σ.Perm (.map r (MapD key l) :: τ)) (hlen : l.length < 9223372036854775807) :
    StepS P o ρ σ fun _ σ' => σ' = .map r (MapD key (putA l a0 dd)) :: τ := fun K p a w hi h => by
  have h1 := h x (by rw [ho]; simp [Op.operands]) _ hx
  have hyr := h y (by rw [ho]; simp [Op.operands]) _ hy
  have h2 := hK.rep _ _ _ _ hyr
  have hgood : d (vk a0) := h2 ▸ hK.good _ _ _ _ hyr
  have h3 := hw _ _ _ (h v (by rw [ho]; simp [Op.operands]) _ hv)
  simp only [Rep] at h1
  have hi' := hi.perm hσ
  obtain ⟨es, clock, g1, g2, g3, gn, gl⟩ := hi'.ok _ (List.mem_cons_self ..)
  have hc := hK.check w false (vk a0) hgood
  have hlt : r < w.heap.size := (Array.getElem?_eq_some_iff.1 g1).1
  have fin : ∀ (es' : Array MapEntry) (clock' : Nat), (es'.toList.map (·.born)).Nodup → (∀ e ∈ es'.toList, e.born < clock') → (∀ (q : Addr → Prop) (u : World), Grow p w q u → RepKV q u (MapD key (putA l a0 dd)) es'.toList) →
      ∃ p', Inv K p' (.map r (MapD key (putA l a0 dd)) :: τ) { w with heap := w.heap.setIfInBounds r (.map es' clock') } ∧ Grow p w p' { w with heap := w.heap.setIfInBounds r (.map es' clock') } ∧ p' = p := fun es' clock' hn' hl' hr => by
    have hset := MapKept.heap_set (o' := .map es' clock') g1
    have hcell : ∀ a', p a' → ({ w with heap := w.heap.setIfInBounds r (.map es' clock') } : World).cell? a' = w.cell? a' := fun a' ha => cell_same (hset.2 _ (by
      intro e
      obtain ⟨u, hu⟩ := hi.pub a' ha
      unfold World.cell? at hu
      rw [e, g1] at hu
      cases hu))
    have gr : Grow p w p { w with heap := w.heap.setIfInBounds r (.map es' clock') } := fun a' ha => ⟨ha, hcell a' ha⟩
    refine ⟨p, hi'.write (b := r) rfl rfl gr (fun a' ha => .inl ha) ⟨es', clock', hset.1, hr _ _ gr, ?_, hn', hl'⟩ (fun a' ha => ?_) rfl rfl rfl (by simp) fun k hk => hset.2 k hk, gr, rfl⟩
    · have := putA_len l a0 dd
      simp only [List.length_map]
      omega
    · obtain ⟨u, hu⟩ := hi.pub a' ha
      exact ⟨u, by rw [hcell a' ha]; exact hu⟩
  rcases find_spec hK p w a0 dd l es.toList 0 g2 with ⟨q1, q2, q3⟩ | ⟨j, e', dv, q1, q2, q3, q4, q5, q6⟩
  · have hf := (hK.find w (vk a0) es.toList hgood (keys_good hK g2)).trans (by rw [q1])
    have hr : (execOp a.eval o).run P w = .ok .skip { w with heap := w.heap.setIfInBounds r (.map (es.push { key := vk a0, val := a.eval v, born := clock }) (clock + 1)) } := by
      unfold execOp
      rw [ho]
      simp [h1, h2, Instr.mapUpdate, run_underlying ht, MapKept.run_getObj_map g1, hc, hf, MapKept.run_setObj_map _ g1]
    unfold Oper.wp
    rw [hr]
    obtain ⟨p', f1, f2, rfl⟩ := fin (es.push { key := vk a0, val := a.eval v, born := clock }) (clock + 1) (by
      rw [Array.toList_push, List.map_append]
      refine List.nodup_append.2 ⟨gn, by simp, fun x hx y hy hxy => ?_⟩
      obtain ⟨e, he, rfl⟩ := List.mem_map.1 hx
      simp only [List.map_cons, List.map_nil, List.mem_singleton] at hy
      have := gl e he
      omega) (by
      intro e he
      rw [Array.toList_push] at he
      rcases List.mem_append.1 he with he | he
      · have := gl e he; omega
      · rw [List.mem_singleton.1 he]; exact Nat.lt_succ_self _) fun q u g => by
      rw [q3, Array.toList_push, MapD, List.map_append]
      refine repKV_app (g2.grow g) ?_
      simp only [List.map_cons, List.map_nil, RepKV]
      exact ⟨_, [], rfl, h2 ▸ hyr.grow g, h3.grow g, rfl⟩
    exact ⟨Go.undef, .undef, _, p', rfl, rfl, by simp only [Rep], f1, f2⟩
  · have hf := (hK.find w (vk a0) es.toList hgood (keys_good hK g2)).trans (by rw [q1])
    rw [Nat.zero_add] at hf
    have hks : (Instr.keyThatStays (((es[j]?).map (·.key)).getD (vk a0)) (vk a0)).run P w = .ok (vk a0) w := by
      have : es[j]? = some e' := by simpa using q2
      rw [this]
      simp only [Option.map_some, Option.getD_some, q3]
      exact hK.stays w _ hgood
    have hr : (execOp a.eval o).run P w = .ok .skip { w with heap := w.heap.setIfInBounds r (.map (es.modify j fun e => { e with key := vk a0, val := a.eval v }) clock) } := by
      unfold execOp
      rw [ho]
      simp [h1, h2, Instr.mapUpdate, run_underlying ht, MapKept.run_getObj_map g1, hc, hf, hks, MapKept.run_setObj_map _ g1]
    unfold Oper.wp
    rw [hr]
    have hm : (es.modify j fun e => { e with key := vk a0, val := a.eval v }).toList = es.toList.set j { e' with key := vk a0, val := a.eval v } := by
      apply List.ext_getElem?
      intro k
      rw [Array.getElem?_toList, Array.getElem?_modify, List.getElem?_set, Array.getElem?_toList]
      have hj := (List.getElem?_eq_some_iff.1 q2).1
      by_cases hjk : j = k
      · subst hjk
        rw [if_pos rfl, if_pos rfl, if_pos hj]
        have : es[j]? = some e' := by simpa using q2
        rw [this]; rfl
      · rw [if_neg hjk, if_neg hjk]
    have hb : (es.toList.set j { e' with key := vk a0, val := a.eval v }).map (·.born) = es.toList.map (·.born) := by
      apply List.ext_getElem?
      intro k
      rw [List.getElem?_map, List.getElem?_set, List.getElem?_map]
      have hj := (List.getElem?_eq_some_iff.1 q2).1
      by_cases hjk : j = k
      · subst hjk
        rw [if_pos rfl, if_pos hj, q2]
        rfl
      · rw [if_neg hjk]
    obtain ⟨p', f1, f2, rfl⟩ := fin (es.modify j fun e => { e with key := vk a0, val := a.eval v }) clock (by rw [hm, hb]; exact gn) (by
      intro e he
      have h5 : e.born ∈ es.toList.map (·.born) := by rw [← hb, ← hm]; exact List.mem_map_of_mem he
      obtain ⟨e2, h6, h7⟩ := List.mem_map.1 h5
      rw [← h7]
      exact gl e2 h6) fun q u g => by
      rw [hm]
      exact q6 q u _ g (h2 ▸ hyr.grow g) (h3.grow g)
    exact ⟨Go.undef, .undef, _, p', rfl, rfl, by simp only [Rep], f1, f2⟩
end
end Go.Proofs.Ytlannippingfdaa


namespace Go.Proofs.Ytlannippingfdaa
set_option maxRecDepth 100000
open Go.RowKit

abbrev wr (n : Int) : Int := IntKind.i64.wrap n
theorem wr_eq {n : Int} (h : -9223372036854775808 ≤ n ∧ n < 9223372036854775808) : wr n = n := wrap64 h
/-- An element, if there is one. -/
def getI {α : Type} (l : List α) (n : Int) : Option α := if 0 ≤ n then l[n.toNat]? else none
theorem getI_nat {α : Type} (l : List α) (i : Nat) : getI l (i : Int) = l[i]? := by simp [getI]
theorem getI_some {α : Type} {l : List α} {n : Int} {q : α} (h : getI l n = some q) : 0 ≤ n ∧ l[n.toNat]? = some q := by
  unfold getI at h
  split at h
  · exact ⟨by assumption, h⟩
  · cases h
/-- Two lists one behind the other, if that fits (b: the bytes of an element). -/
def appO {α : Type} (b : Nat) (l m : List α) : Option (List α) := if (l.length + m.length) * b ≤ 140737488355328 ∧ l.length + m.length ≤ 9223372036854775807 then some (l ++ m) else none
theorem appO_eq {α : Type} {b : Nat} {l m : List α} (h : (l.length + m.length) * b ≤ 140737488355328) (h2 : l.length + m.length ≤ 9223372036854775807) : appO b l m = some (l ++ m) := by rw [appO, if_pos ⟨h, h2⟩]
theorem appO_some {α : Type} {b : Nat} {l m r : List α} (h : appO b l m = some r) : (l.length + m.length) * b ≤ 140737488355328 ∧ l.length + m.length ≤ 9223372036854775807 ∧ r = l ++ m := by
  unfold appO at h
  split at h
  · rename_i h1
    exact ⟨h1.1, h1.2, (Option.some.inj h).symm⟩
  · cases h
/-- A part of a list, if the bounds are right. -/
def subO {α : Type} (l : List α) (lo hi : Int) : Option (List α) := if 0 ≤ lo ∧ lo ≤ hi ∧ hi ≤ l.length then some ((l.take hi.toNat).drop lo.toNat) else none
theorem subO_some {α : Type} {l r : List α} {lo hi : Int} (h : subO l lo hi = some r) : 0 ≤ lo ∧ lo ≤ hi ∧ hi ≤ l.length ∧ r = (l.take hi.toNat).drop lo.toNat := by
  unfold subO at h
  split at h
  · rename_i h1
    exact ⟨h1.1, h1.2.1, h1.2.2, (Option.some.inj h).symm⟩
  · cases h
/-- The length of a list to be made, if that fits. -/
def makeO (b : Nat) (n : Int) : Option Nat := if 0 ≤ n ∧ b * n.toNat ≤ 281474976710656 ∧ n.toNat ≤ 9223372036854775807 then some n.toNat else none
theorem makeO_some {b : Nat} {n : Int} {r : Nat} (h : makeO b n = some r) : n = (r : Int) ∧ b * r ≤ 281474976710656 ∧ r ≤ 9223372036854775807 := by
  unfold makeO at h
  split at h
  · rename_i h1
    obtain rfl := Option.some.inj h
    exact ⟨by omega, h1.2.1, h1.2.2⟩
  · cases h
theorem bindS {α β : Type} {o : Option α} {f : α → Option β} {r : β} (h : o.bind f = some r) : ∃ q, o = some q ∧ f q = some r := by
  cases o with
  | none => cases h
  | some q => exact ⟨q, rfl, h⟩
theorem exK {β γ : Type} (F : β → γ) {a : β} {r : γ} (h : F a = r) : ∃ k, k = a ∧ F k = r := ⟨a, rfl, h⟩
theorem listStep {α : Type} (l : List α) (i : Nat) (hi : i ≤ l.length) : (decide ((i : Int) < (l.length : Int)) = false ∧ l.drop i = [] ∧ i = l.length) ∨ ∃ q, decide ((i : Int) < (l.length : Int)) = true ∧ l.drop i = q :: l.drop (i + 1) ∧ getI l (i : Int) = some q ∧ i < l.length := by
  by_cases h : i < l.length
  · exact .inr ⟨l[i], decide_eq_true (by omega), List.drop_eq_getElem_cons h, by rw [getI_nat]; exact List.getElem?_eq_getElem h, h⟩
  · exact .inl ⟨decide_eq_false (by omega), List.drop_eq_nil_of_le (by omega), by omega⟩
theorem cntStep (i n : Int) (m : Nat) (hm : m = (n - i).toNat) : (m = 0 ∧ decide (i < n) = false) ∨ ∃ m', m = m' + 1 ∧ decide (i < n) = true ∧ m' = (n - (i + 1)).toNat ∧ i < n := by
  by_cases h : i < n
  · exact .inr ⟨(n - (i + 1)).toNat, by omega, decide_eq_true h, rfl, h⟩
  · exact .inl ⟨by omega, decide_eq_false h⟩
section
variable {P : Program} {X : Env → D → St → Prop} {l : List Oper} {rest : List (Nat × Cls)} {env : Env} {σ : St} {f : FuncId} {fn : Func} {K : Ctx} {R : D → St → Prop} {k : List Item}
theorem r_sB {m : Md} {α : Type} (s : Nat) {b : Bool} {x y : Option α} {res : α} (hs : lk env s = some (.bool b)) (hr : (bif b then x else y) = some res) (h1 : b = true → x = some res → Run P l.toArray X (GoesG m P f fn K R k) rest ((s, .bool true) :: env) σ) (h2 : b = false → y = some res → Run P l.toArray X (GoesG m P f fn K R k) rest ((s, .bool false) :: env) σ) : Run P l.toArray X (GoesG m P f fn K R k) rest env σ :=
  r_split s hs (fun h => h1 h (by rw [h] at hr; exact hr)) fun h => h2 h (by rw [h] at hr; exact hr)
theorem g_sB {m : Md} {α : Type} (s : Nat) {b : Bool} {x y : Option α} {res : α} (hs : lk env s = some (.bool b)) (hr : (bif b then x else y) = some res) (h1 : b = true → x = some res → GoesG m P f fn K R k ((s, .bool true) :: env) σ) (h2 : b = false → y = some res → GoesG m P f fn K R k ((s, .bool false) :: env) σ) : GoesG m P f fn K R k env σ :=
  g_split s hs (fun h => h1 h (by rw [h] at hr; exact hr)) fun h => h2 h (by rw [h] at hr; exact hr)
theorem g_blockJ {m : Md} {id : Nat} {c : Code} (J : Env → St → Prop) (hJ : ∀ env σ, J env σ → GoesG m P f fn K R k env σ) (h : (∀ env σ, J env σ → GoesG m P f fn K R k env σ) → GoesG m P f fn K R (.code c :: .inBlock id :: k) env σ) : GoesG m P f fn K R (.code (.block id c) :: k) env σ := g_block (h hJ)
end

theorem pf0 {α : Type} (l : List α) : l.Perm l := List.Perm.refl _
theorem pf1 {α : Type} (a b : α) (l : List α) : (a :: b :: l).Perm (b :: a :: l) := List.Perm.swap b a l
theorem pf2 {α : Type} (a b c : α) (l : List α) : (a :: b :: c :: l).Perm (c :: a :: b :: l) := ((pf1 b c l).cons a).trans (pf1 a c _)
theorem pf3 {α : Type} (a b c d : α) (l : List α) : (a :: b :: c :: d :: l).Perm (d :: a :: b :: c :: l) := ((pf2 b c d l).cons a).trans (pf1 a d _)
theorem pf4 {α : Type} (a b c d e : α) (l : List α) : (a :: b :: c :: d :: e :: l).Perm (e :: a :: b :: c :: d :: l) := ((pf3 b c d e l).cons a).trans (pf1 a e _)
theorem pf5 {α : Type} (a b c d e f : α) (l : List α) : (a :: b :: c :: d :: e :: f :: l).Perm (f :: a :: b :: c :: d :: e :: l) := ((pf4 b c d e f l).cons a).trans (pf1 a f _)
section
variable {P : Program} {o : Oper} {ρ : Operand → Option D} {d : D} {α : Type} {f : α → D}
theorem m_index {t e : TypeId} {x ix : Operand} {s by_ : Nat} {dx : D} (l : List α) {k : IntKind} {n : Int} {q : α} (ho : o.op = .indexAddr t x ix) (hE : ElT P t e s by_) (hx : ρ x = some dx) (hl : AsL dx (l.map f)) (hix : ρ ix = some (.int k n)) (hq : getI l n = some q) (hall : ∀ a, sz (f a) = s) (hp : (f q).plain = true) : StepD P o ρ (.ptr (f q)) := by
  obtain ⟨h0, h1⟩ := getI_some hq
  exact t_index n.toNat ho hE hx hl hix (by omega) (getm h1) (aszm hall) hp
theorem m_appOwn {x y : Operand} {t e : TypeId} {s by_ : Nat} {σ τ : St} {u : Value} (l m : List α) {r : List α} {dy : D} {n : Nat} (ho : o.op = .call { callee := .builtin .append, args := #[x, y], argTypes := #[t, t] }) (hE : ElT P t e s by_) (hx : ρ x = some (.own u (l.map f))) (hy : ρ y = some dy) (hm : AsL dy (m.map f)) (hσ : σ.Perm (.row u n e s :: τ)) (hn : n = l.length) (hall : ∀ a, sz (f a) = s) (hr : appO by_ l m = some r) :
    StepS P o ρ σ fun d' σ' => ∃ u', d' = .own u' (r.map f) ∧ σ' = .row u' r.length e s :: τ := by
  obtain ⟨h1, h2, rfl⟩ := appO_some hr
  have h := s_appOwn (P := P) (o := o) (ρ := ρ) (σ := σ) (τ := τ) (u := u) (l := l.map f) (m := m.map f) ho hE hx hy hm (by rw [List.length_map, ← hn]; exact hσ) (aszm hall) (aszm hall) (by simpa using h1) (by simpa using h2)
  rw [← List.map_append, List.length_map] at h
  exact h
theorem m_sub {t e : TypeId} {x : Operand} {low high : Option Operand} {s by_ : Nat} {dx : D} (l : List α) {r : List α} (lo hi : Int) (ho : o.op = .slice t x low high none) (hE : ElT P t e s by_) (hx : ρ x = some dx) (hl : AsL dx (l.map f)) (h1 : ∀ n : Nat, (n : Int) = lo → bndLo ρ low n) (h2 : ∀ n : Nat, (n : Int) = hi → bndHi ρ l.length high n) (hall : ∀ a, sz (f a) = s) (hr : subO l lo hi = some r) : StepD P o ρ (.lst (r.map f)) := by
  obtain ⟨g1, g2, g3, rfl⟩ := subO_some hr
  have := t_sub lo.toNat hi.toNat ho hE hx hl (h1 _ (by omega)) (by rw [List.length_map]; exact h2 _ (by omega)) (by omega) (by rw [List.length_map]; omega) (aszm hall)
  rwa [← List.map_take, ← List.map_drop] at this
theorem bl_some {x : Operand} {k : IntKind} {m : Int} (h : ρ x = some (.int k m)) : ∀ n : Nat, (n : Int) = m → bndLo ρ (some x) n := fun n e => ⟨k, m, h, e.symm⟩
theorem bh_none {len : Nat} : ∀ n : Nat, (n : Int) = (len : Int) → bndHi ρ len none n := fun n h => by unfold bndHi; omega
theorem m_len {x : Operand} {t e : TypeId} {s by_ : Nat} {dx : D} (l : List α) (ho : o.op = .call { callee := .builtin .len, args := #[x], argTypes := #[t] }) (hE : ElT P t e s by_) (hx : ρ x = some dx) (hl : AsL dx (l.map f)) : StepD P o ρ (.int .i64 (l.length : Int)) := by
  have := t_len ho hE hx hl
  rwa [List.length_map] at this
theorem m_make0 {t e : TypeId} {x y : Operand} {s by_ : Nat} {k k' : IntKind} {a1 : Int} {r : Nat} {σ : St} (ho : o.op = .makeSlice t x y) (hE : ElT P t e s by_) (hx : ρ x = some (.int k 0)) (hy : ρ y = some (.int k' a1)) (hr : makeO by_ a1 = some r) :
    StepS P o ρ σ fun d' σ' => ∃ u, d' = .own u (([] : List α).map f) ∧ σ' = .row u ([] : List α).length e s :: σ := by
  obtain ⟨h1, h2, h3⟩ := makeO_some hr
  exact s_make0 ho hE hx hy h1 h2 h3
theorem m_lit {t e : TypeId} {n s by_ : Nat} {parts : Array (Nat × Operand)} (xs : List Operand) (l : List α) (ho : o.op = .buildSlice t n parts) (hE : ElT P t e s by_) (hps : parts.toList = (xs.zipIdx 0).map fun x => (x.2, x.1)) (hn : n = xs.length) (hn0 : 0 < n) (hsm : n * s ≤ 16777216) (hO : Opds ρ xs (l.map f)) (hall : ∀ a, sz (f a) = s) (hpl : ∀ a, (f a).plain = true) : StepD P o ρ (.full (l.map f)) :=
  t_lit xs ho hE hps hn hn0 hsm hO (aszm hall) fun d hd => by
    obtain ⟨a, _, rfl⟩ := List.mem_map.1 hd
    exact hpl a
theorem m_indexArr {t e : TypeId} {x ix : Operand} {s by_ b lo n : Nat} {k : IntKind} {m : Int} {q : α} (l : List α) (ho : o.op = .indexAddr t x ix) (hE : ElT P t e s by_) (hx : ρ x = some (.arr b s lo n)) (hix : ρ ix = some (.int k m)) (hq : getI l m = some q) (hn : l.length = n) : StepD P o ρ (.mref b (lo + m.toNat) s 0 []) := by
  obtain ⟨h0, h1⟩ := getI_some hq
  exact s_indexArr m.toNat ho hE hx hix (by omega) (by rw [← hn]; exact (List.getElem?_eq_some_iff.1 h1).1)
end
end Go.Proofs.Ytlannippingfdaa


namespace Go.Proofs.Ytlannippingfdaa
set_option maxRecDepth 100000
open Go.RowKit

/-! ### maps as lists of pairs -/
section
variable {α β : Type} [DecidableEq α]
def mget : List (α × β) → α → Option β
  | [], _ => none
  | q :: l, x => if q.1 = x then some q.2 else mget l x
def mput : List (α × β) → α → β → List (α × β)
  | [], x, d => [(x, d)]
  | q :: l, x, d => if q.1 = x then (x, d) :: l else q :: mput l x d
theorem findA_map (g : β → D) : ∀ (l : List (α × β)) (x : α), findA (l.map fun q => (q.1, g q.2)) x = (mget l x).map g
  | [], _ => rfl
  | q :: l, x => by
    simp only [List.map_cons, findA, mget]
    split
    · rfl
    · exact findA_map g l x
theorem putA_map (g : β → D) : ∀ (l : List (α × β)) (x : α) (d : β), putA (l.map fun q => (q.1, g q.2)) x (g d) = (mput l x d).map fun q => (q.1, g q.2)
  | [], _, _ => rfl
  | q :: l, x, d => by
    simp only [List.map_cons, putA, mput]
    split
    · rfl
    · rw [putA_map g l x d]; rfl
theorem mget_mput : ∀ (l : List (α × β)) (x y : α) (d : β), mget (mput l x d) y = if x = y then some d else mget l y
  | [], x, y, d => by simp [mput, mget]
  | q :: l, x, y, d => by
    simp only [mput]
    split
    · rename_i h
      simp only [mget]
      split
      · rfl
      · rename_i h2; rw [if_neg (by rw [h]; exact h2)]
    · rename_i h
      simp only [mget, mget_mput l x y d]
      by_cases h1 : q.1 = y
      · rw [if_pos h1, if_neg (fun h2 => h (h1.trans h2.symm)), if_pos h1]
      · rw [if_neg h1, if_neg h1]
theorem mput_len : ∀ (l : List (α × β)) (x : α) (d : β), (mput l x d).length ≤ l.length + 1
  | [], _, _ => by simp [mput]
  | q :: l, x, d => by
    unfold mput
    split
    · simp
    · have := mput_len l x d
      simp only [List.length_cons]
      omega
end
abbrev mapM' {α β : Type} (key : α → D) (g : β → D) (l : List (α × β)) : List (D × D) := l.map fun q => (key q.1, g q.2)
theorem mapM_eq {α β : Type} (key : α → D) (g : β → D) (l : List (α × β)) : mapM' key g l = MapD key (l.map fun q => (q.1, g q.2)) := by simp [List.map_map, Function.comp_def]
/-- A map with one entry more or changed, if there is room. -/
def mputO {α β : Type} [DecidableEq α] (l : List (α × β)) (x : α) (d : β) : Option (List (α × β)) := if l.length < 9223372036854775807 then some (mput l x d) else none
theorem mputO_some {α β : Type} [DecidableEq α] {l r : List (α × β)} {x : α} {d : β} (h : mputO l x d = some r) : l.length < 9223372036854775807 ∧ r = mput l x d := by
  unfold mputO at h
  split at h
  · exact ⟨by assumption, (Option.some.inj h).symm⟩
  · cases h

def ZeroM (P : Program) (e : TypeId) (z : D) : Prop := ∃ zv, (P.info? e).map (·.zero) = some (some zv) ∧ ∀ p w, Rep p w z zv
section
variable {P : Program} {o : Oper} {ρ : Operand → Option D} {α β : Type} [DecidableEq α] {key : α → D} {g : β → D}
theorem m_lookup2 {t kt e : TypeId} {x y : Operand} {vk : α → Value} {d : Value → Prop} {r : Nat} (l : List (α × β)) (a0 : α) (z : β) {σ : St} (ho : o.op = .lookup t x y true) (ht : P.underlying t = some (.map kt e)) (hK : KeyOk P kt key vk d) (hz : ZeroM P e (g z)) (hx : ρ x = some (.map r)) (hy : ρ y = some (key a0)) (hσ : .map r (mapM' key g l) ∈ σ) :
    StepS P o ρ σ fun d' σ' => d' = .tup [g ((mget l a0).getD z), .bool (mget l a0).isSome] ∧ σ' = σ := by
  obtain ⟨zv, h1, h2⟩ := hz
  rw [mapM_eq] at hσ
  have := s_lookup2 ho ht hK h1 h2 hx hy hσ
  rw [findA_map, Option.isSome_map] at this
  have e1 : ((mget l a0).map g).getD (g z) = g ((mget l a0).getD z) := by cases mget l a0 <;> rfl
  rwa [e1] at this
theorem s_lookup1 {t kt e : TypeId} {x y : Operand} {vk : α → Value} {d : Value → Prop} {r : Nat} {l : List (α × D)} {a0 : α} {z : D} {zv : Value} {σ : St} (ho : o.op = .lookup t x y false) (ht : P.underlying t = some (.map kt e)) (hK : KeyOk P kt key vk d) (hz : (P.info? e).map (·.zero) = some (some zv)) (hzr : ∀ p w, Rep p w z zv) (hx : ρ x = some (.map r)) (hy : ρ y = some (key a0)) (hσ : .map r (MapD key l) ∈ σ) :
    StepS P o ρ σ fun d' σ' => d' = (findA l a0).getD z ∧ σ' = σ := fun K p a w hi h => by
  have h1 := h x (by rw [ho]; simp [Op.operands]) _ hx
  have h2 := hK.rep _ _ _ _ (h y (by rw [ho]; simp [Op.operands]) _ hy)
  have hgood : d (vk a0) := h2 ▸ hK.good _ _ _ _ (h y (by rw [ho]; simp [Op.operands]) _ hy)
  simp only [Rep] at h1
  obtain ⟨es, clock, g1, g2, _⟩ := hi.ok _ hσ
  obtain ⟨i, hi1, hi2⟩ := Option.map_eq_some_iff.1 hz
  have hc := hK.check w es.isEmpty (vk a0) hgood
  rcases find_spec hK p w a0 z l es.toList 0 g2 with ⟨q1, q2, _⟩ | ⟨j, e', dv, q1, q2, q3, q4, q5, _⟩
  · have hf := (hK.find w (vk a0) es.toList hgood (keys_good hK g2)).trans (by rw [q1])
    have hr : (execOp a.eval o).run P w = .ok (.value zv) w := by
      unfold execOp
      rw [ho]
      simp [h1, h2, Instr.lookup, run_underlying ht, MapKept.run_getObj_map g1, hc, hf, zeroValue, typeInfo, hi1, hi2]
    unfold Oper.wp
    rw [hr]
    refine ⟨_, _, _, p, rfl, ⟨rfl, rfl⟩, ?_, hi, Grow.refl _ _⟩
    rw [q2]
    exact hzr p w
  · have hf := (hK.find w (vk a0) es.toList hgood (keys_good hK g2)).trans (by rw [q1])
    have hr : (execOp a.eval o).run P w = .ok (.value e'.val) w := by
      unfold execOp
      rw [ho]
      simp [h1, h2, Instr.lookup, run_underlying ht, MapKept.run_getObj_map g1, hc, hf]
    unfold Oper.wp
    rw [hr]
    refine ⟨_, _, _, p, rfl, ⟨rfl, rfl⟩, ?_, hi, Grow.refl _ _⟩
    rw [q4]
    exact q5
theorem m_lookup1 {t kt e : TypeId} {x y : Operand} {vk : α → Value} {d : Value → Prop} {r : Nat} (l : List (α × β)) (a0 : α) (z : β) {σ : St} (ho : o.op = .lookup t x y false) (ht : P.underlying t = some (.map kt e)) (hK : KeyOk P kt key vk d) (hz : ZeroM P e (g z)) (hx : ρ x = some (.map r)) (hy : ρ y = some (key a0)) (hσ : .map r (mapM' key g l) ∈ σ) :
    StepS P o ρ σ fun d' σ' => d' = g ((mget l a0).getD z) ∧ σ' = σ := by
  obtain ⟨zv, h1, h2⟩ := hz
  rw [mapM_eq] at hσ
  have := s_lookup1 ho ht hK h1 h2 hx hy hσ
  rw [findA_map] at this
  have e1 : ((mget l a0).map g).getD (g z) = g ((mget l a0).getD z) := by cases mget l a0 <;> rfl
  rwa [e1] at this
theorem m_mapUpdate {t kt e : TypeId} {x y v : Operand} {vk : α → Value} {d : Value → Prop} {r : Nat} (l : List (α × β)) (a0 : α) (b0 : β) {l' : List (α × β)} {dn : D} {σ τ : St} (ho : o.op = .mapUpdate t x y v) (ht : P.underlying t = some (.map kt e)) (hK : KeyOk P kt key vk d) (hx : ρ x = some (.map r)) (hy : ρ y = some (key a0)) (hv : ρ v = some dn) (hw : Wk dn (g b0)) (hσ : σ.Perm (.map r (mapM' key g l) :: τ)) (hl : mputO l a0 b0 = some l') :
    StepS P o ρ σ fun _ σ' => σ' = .map r (mapM' key g l') :: τ := by
  obtain ⟨h1, rfl⟩ := mputO_some hl
  rw [mapM_eq] at hσ
  have := s_mapUpdate τ ho ht hK hx hy hv hw hσ (by rw [List.length_map]; exact h1)
  rwa [putA_map, ← mapM_eq] at this
end
theorem m_makeMap {P : Program} {o : Oper} {ρ : Operand → Option D} {α β : Type} {key : α → D} {g : β → D} {t : TypeId} {σ : St} (ho : o.op = .makeMap t none) : StepS P o ρ σ fun d' σ' => ∃ r, d' = .map r ∧ σ' = .map r (mapM' key g ([] : List (α × β))) :: σ := s_makeMap ho
/-! ### facts out of slots -/
section
variable {P : Program} {f : FuncId} {fn : Func} {K : Ctx} {R : D → St → Prop} {k : List Item} {env : Env} {σ : St}
theorem g_lenP {m : Md} (s : Nat) (path : List Nat) {d0 dx : D} {l : List D} (hs : lk env s = some (.ptr d0)) (hp : subD d0 path = some dx) (hl : AsL dx l) (h : l.length ≤ 9223372036854775807 → GoesG m P f fn K R k env σ) : GoesG m P f fn K R k env σ :=
  g_fact (fun p a w _ hr => by
    have h1 := hr s _ hs
    simp only [Rep] at h1
    obtain ⟨b, o, u, _, _, h2, _⟩ := h1
    obtain ⟨v, h3, _⟩ := subD_rep h2 hp
    obtain ⟨A, c, xs, _, g2, g3, _⟩ := hl.rep h3
    omega) h
theorem g_lenS {m : Md} (s : Nat) (path : List Nat) {d0 dx : D} {l : List D} (hs : lk env s = some d0) (hp : subD d0 path = some dx) (hl : AsL dx l) (h : l.length ≤ 9223372036854775807 → GoesG m P f fn K R k env σ) : GoesG m P f fn K R k env σ :=
  g_fact (fun p a w _ hr => by
    obtain ⟨v, h3, _⟩ := subD_rep (hr s _ hs) hp
    obtain ⟨A, c, xs, _, g2, g3, _⟩ := hl.rep h3
    omega) h
theorem g_eqD {m : Md} (s : Nat) {d d' : D} (hs : lk env s = some d) (hd : d = d') (h : GoesG m P f fn K R k ((s, d') :: env) σ) : GoesG m P f fn K R k env σ := by
  subst hd
  refine goes_ext _ env σ (fun t => ?_) h
  rw [look_cons]
  split
  · rename_i h; subst h; exact hs.symm
  · rfl
theorem g_nilRow {m : Md} (e : TypeId) (s : Nat) (h : GoesG m P f fn K R k env (.row (.slice none 0 0) ([] : List D).length e s :: σ)) : GoesG m P f fn K R k env σ := fun p a w hi =>
  h p a w (hi.more ⟨⟨[], World.ownsRow_nil w 0 e s⟩, fun g hg => by simp [Value.ownBlock] at hg⟩ (fun b hb => by simp [Ob.blk, Value.ownBlock] at hb))
theorem g_ends {m : Md} {E : Env} {S : St} (hs : Sub E env) (hp : σ.Perm S) (h : GoesG m P f fn K R k E S) : GoesG m P f fn K R k env σ := g_sub E hs (g_perm S [] (by simpa using hp) h)
theorem g_seqJ {m : Md} {a b : Code} (J : Env → St → Prop) (hJ : ∀ env σ, J env σ → GoesG m P f fn K R (.code b :: k) env σ) (h : (∀ env σ, J env σ → GoesG m P f fn K R (.code b :: k) env σ) → GoesG m P f fn K R (.code a :: .code b :: k) env σ) : GoesG m P f fn K R (.code (.seq a b) :: k) env σ := g_seq (h hJ)
theorem r_st {X : Env → D → St → Prop} {Q : Env → St → Prop} {l : List Oper} {rest : List (Nat × Cls)} (σ' : St) (hs : σ = σ') (h : Run P l.toArray X Q rest env σ') : Run P l.toArray X Q rest env σ := hs ▸ h
end
end Go.Proofs.Ytlannippingfdaa


namespace Go.Proofs.Ytlannippingfdaa
set_option maxRecDepth 100000
open Go.RowKit

section
variable {P : Program} {o : Oper} {ρ : Operand → Option D} {d : D}
theorem s_quoC {t t' : TypeId} {x y : Operand} {m n : Int} (ho : o.op = .binOp .quo t x y t') (hx : ρ x = some (.int .i64 m)) (hy : ρ y = some (.int .i64 n)) (hn : n ≠ 0) : StepD P o ρ (.int .i64 (wr (Int.tdiv m n))) := stepD_of fun p a w h => by
  have h1 := h x (by rw [ho]; simp [Op.operands]) _ hx
  have h2 := h y (by rw [ho]; simp [Op.operands]) _ hy
  simp only [Rep] at h1 h2
  refine ⟨.int .i64 (wr (Int.tdiv m n)), ?_, by simp only [Rep]; exact ⟨trivial, wrap_idem _ _⟩⟩
  unfold execOp
  rw [ho]
  simp only [h1.1, h2.1]
  simp [binOp, eqGuard, Op.intDiv, hn, wr]
end
end Go.Proofs.Ytlannippingfdaa


namespace Go.Proofs.Ytlannippingfdaa
set_option maxRecDepth 100000
open Go.RowKit

theorem repKV_len {p : Addr → Prop} {w : World} : ∀ {kv : List (D × D)} {es : List MapEntry}, RepKV p w kv es → es.length = kv.length
  | [], _, h => by simp only [RepKV] at h; subst h; rfl
  | (k, d) :: kv, es, h => by
    simp only [RepKV] at h
    obtain ⟨e, rest, rfl, _, _, h3⟩ := h
    simp [repKV_len h3]
section
variable {P : Program} {o : Oper} {ρ : Operand → Option D} {α β : Type} {key : α → D} {g : β → D}
end
section
variable {P : Program} {f : FuncId} {fn : Func} {K : Ctx} {R : D → St → Prop} {k : List Item} {env : Env} {σ τ : St}
end
theorem s_lenMap {P : Program} {o : Oper} {ρ : Operand → Option D} {t kt e : TypeId} {x : Operand} {r : Nat} {kv : List (D × D)} {σ : St} (ho : o.op = .call { callee := .builtin .len, args := #[x], argTypes := #[t] }) (ht : P.underlying t = some (.map kt e)) (hx : ρ x = some (.map r)) (hσ : .map r kv ∈ σ) :
    StepS P o ρ σ fun d' σ' => d' = .int .i64 kv.length ∧ σ' = σ := fun K p a w hi h => by
  have h1 := h x (by rw [ho]; simp [Op.operands, Call.operands]) _ hx
  simp only [Rep] at h1
  obtain ⟨es, cl, g1, g2, g3, _⟩ := hi.ok _ hσ
  have hl := repKV_len g2
  have hr : (execOp a.eval o).run P w = .ok (.value (.int .i64 es.size)) w := by
    unfold execOp
    rw [ho]
    simp [resolve, invoke, builtin, h1, Builtin.len_, run_underlying ht, MapKept.run_getObj_map g1, goInt]
  unfold Oper.wp
  rw [hr]
  refine ⟨_, _, _, p, rfl, ⟨rfl, rfl⟩, ?_, hi, Grow.refl _ _⟩
  have : es.size = kv.length := by simpa using hl
  simp only [Rep]
  exact ⟨by rw [this], wrap64 (by omega)⟩
theorem m_lenMap {P : Program} {o : Oper} {ρ : Operand → Option D} {α β : Type} {key : α → D} {g : β → D} {t kt e : TypeId} {x : Operand} {r : Nat} (l : List (α × β)) {σ : St} (ho : o.op = .call { callee := .builtin .len, args := #[x], argTypes := #[t] }) (ht : P.underlying t = some (.map kt e)) (hx : ρ x = some (.map r)) (hσ : .map r (mapM' key g l) ∈ σ) :
    StepS P o ρ σ fun d' σ' => d' = .int .i64 (l.length : Int) ∧ σ' = σ := by
  have := s_lenMap ho ht hx hσ
  simpa [mapM'] using this
/-! ### lists that are appended to and written -/
section
variable {P : Program} {o : Oper} {ρ : Operand → Option D} {α : Type} {f : α → D}
end
theorem subT3 (t : T) : subD (encT t) [3] = some (.lst (t.ar.map encT)) := by
  simp [subD, encT, fsT_eq]
section
variable {P : Program} {f : FuncId} {fn : Func} {K : Ctx} {R : D → St → Prop} {k : List Item} {env : Env} {σ : St}
end
end Go.Proofs.Ytlannippingfdaa


namespace Go.Proofs.Ytlannippingfdaa
set_option maxRecDepth 100000
open Go.RowKit

theorem ifS {α : Type} {c : Prop} [Decidable c] {a b : α} (h : (if c then some a else none) = some b) : c ∧ a = b := by
  split at h
  · exact ⟨by assumption, Option.some.inj h⟩
  · cases h
noncomputable def x_rightG (a : Gl) : Option (Bool) := if wtL a.ts ≤ 1000000000 then some (rightG a) else none

theorem lx_term_RightGoal (a : Gl) (res : Bool) (h : x_rightG a = some res) : Gives Try.prog 54 [encG a] (.bool res) := by
  obtain ⟨h1, rfl⟩ := ifS h
  exact sp_term_RightGoal 1000000000 (Nat.le_refl _) a h1

noncomputable def x_sameA (a : At) (b : At) : Option (Bool) := if wtL a.ts ≤ 1000000000 then some ((cmpA a b == 0)) else none

theorem lx_term_SameAtom (a : At) (b : At) (res : Bool) (h : x_sameA a b = some res) : Gives Try.prog 71 [encA a, encA b] (.bool res) := by
  obtain ⟨h1, rfl⟩ := ifS h
  exact sp_term_SameAtom 1000000000 (Nat.le_refl _) a b h1

theorem lx_constraintref03_SameAtom (a : At) (b : At) (res : Bool) (h : x_sameA a b = some res) : Gives Try.prog 47 [encA a, encA b] (.bool res) := by
  obtain ⟨h1, rfl⟩ := ifS h
  exact sp_R3_SameAtom 1000000000 (Nat.le_refl _) a b h1

noncomputable def x_sameG (a : Gl) (b : Gl) : Option (Bool) := if wtL a.ts ≤ 1000000000 then some (sameG a b) else none

theorem lx_term_SameGoal (a : Gl) (b : Gl) (res : Bool) (h : x_sameG a b = some res) : Gives Try.prog 73 [encG a, encG b] (.bool res) := by
  obtain ⟨h1, rfl⟩ := ifS h
  exact sp_term_SameGoal 1000000000 (Nat.le_refl _) a b h1

theorem lx_constraintref03_SameGoal (a : Gl) (b : Gl) (res : Bool) (h : x_sameG a b = some res) : Gives Try.prog 18 [encG a, encG b] (.bool res) := by
  obtain ⟨h1, rfl⟩ := ifS h
  exact sp_R3_SameGoal 1000000000 (Nat.le_refl _) a b h1

end Go.Proofs.Ytlannippingfdaa


namespace Go.Proofs.Ytlannippingfdaa
set_option maxRecDepth 100000
open Go.RowKit

theorem gives_weigh (d : Nat) (hd : d ≤ 1000) (l : List T) (left : Int) (h1 : -9223372036854775808 ≤ left) (h2 : left ≤ 1000000000) : Gives Try.prog 56 [.lst (l.map encT), .int .i64 left, .int .i64 (d : Int)] (.int .i64 (weighF d l left)) :=
  gives_of_ret (v := .int .i64 (weighF d l left)) (fun p w => by
    have := weighF_ge d l left
    have : weighF d l left ≤ max left (-1) := by
      by_cases h : 0 ≤ weighF d l left
      · have := weigh_wt d l left h
        omega
      · omega
    simp only [Rep]; exact ⟨trivial, wrap64 (by omega)⟩) fun p w vs _ hv => by
    simp only [Repl] at hv
    obtain ⟨v, _, rfl, k1, u, _, rfl, k2, x, _, rfl, k3, rfl⟩ := hv
    simp only [Rep] at k2 k3
    obtain ⟨rfl, _⟩ := k2
    obtain ⟨rfl, _⟩ := k3
    exact weigh_any d l v left d w (sl_of k1) rfl hd h1 h2
noncomputable def x_weigh (l : List T) (left d : Int) : Option Int := if (-9223372036854775808 ≤ left ∧ left ≤ 1000000000) ∧ 0 ≤ d ∧ d ≤ 1000 then some (weighF d.toNat l left) else none
theorem lx_constraintref03_weigh (l : List T) (left d res : Int) (h : x_weigh l left d = some res) : Gives Try.prog 56 [.lst (l.map encT), .int .i64 left, .int .i64 d] (.int .i64 res) := by
  obtain ⟨⟨⟨h1, h2⟩, h3, h4⟩, rfl⟩ := ifS h
  have := gives_weigh d.toNat (by omega) l left h1 h2
  rw [Int.toNat_of_nonneg h3] at this
  exact this
end Go.Proofs.Ytlannippingfdaa


namespace Go.Proofs.Ytlannippingfdaa
set_option maxRecDepth 100000
open Go.RowKit

/-- A value with no fields. -/
def encU (_ : Unit) : D := .agg []
theorem sz_encU (a : Unit) : sz (encU a) = 0 := rfl
theorem sz_encA (a : At) : sz (encA a) = 2 := rfl
theorem sz_encG (a : Gl) : sz (encG a) = 3 := rfl
end Go.Proofs.Ytlannippingfdaa


namespace Go.Proofs.Ytlannippingfdaa
set_option maxRecDepth 100000
open Go.RowKit

/-- Weakened field by field. -/
inductive Wks : List D → List D → Prop
  | nil : Wks [] []
  | cons {d e : D} {ds es : List D} (h : Wk d e) (k : Wks ds es) : Wks (d :: ds) (e :: es)
theorem Wks.reps {ds es : List D} (h : Wks ds es) : ∀ {p : Addr → Prop} {w : World} {xs : List Value}, Reps p w ds xs → Reps p w es xs := by
  induction h with
  | nil => exact fun h => h
  | cons h _ ih =>
    intro p w xs hr
    simp only [Reps] at hr ⊢
    obtain ⟨v, rest, h1, h2, h3⟩ := hr
    exact ⟨v, rest, h1, h _ _ _ h2, ih h3⟩
theorem Wk.agg {ds es : List D} (h : Wks ds es) : Wk (.agg ds) (.agg es) := fun p w v hv => by
  simp only [Rep] at hv ⊢
  obtain ⟨cs, h1, h2, h3⟩ := hv
  exact ⟨cs, h1, h.reps h2, h3⟩
/-- Data within data. -/
inductive Ins (d0 : D) : D → Prop
  | refl : Ins d0 d0
  | ptr {d : D} (h : Ins d0 (.ptr d)) : Ins d0 d
  | sub {d dx : D} (h : Ins d0 d) (path : List Nat) (hp : subD d path = some dx) : Ins d0 dx
  | el {d dx : D} {l : List D} (h : Ins d0 d) (hl : AsL d l) (hm : dx ∈ l) : Ins d0 dx
theorem reps_mem {p : Addr → Prop} {w : World} : ∀ {l : List D} {xs : List Value}, Reps p w l xs → ∀ d ∈ l, ∃ v, Rep p w d v
  | [], _, _, _, h => by cases h
  | d :: l, xs, h, x, hx => by
    simp only [Reps] at h
    obtain ⟨v, rest, _, h1, h2⟩ := h
    rcases List.mem_cons.1 hx with rfl | hx
    · exact ⟨v, h1⟩
    · exact reps_mem h2 x hx
theorem ins_rep {p : Addr → Prop} {w : World} {d0 dx : D} {v0 : Value} (h0 : Rep p w d0 v0) (h : Ins d0 dx) : ∃ v, Rep p w dx v := by
  induction h with
  | refl => exact ⟨v0, h0⟩
  | ptr _ ih =>
    obtain ⟨v, hv⟩ := ih
    simp only [Rep] at hv
    obtain ⟨b, o, u, _, _, h2, _⟩ := hv
    exact ⟨u, h2⟩
  | sub _ path hp ih =>
    obtain ⟨v, hv⟩ := ih
    obtain ⟨u, h3, _⟩ := subD_rep hv hp
    exact ⟨u, h3⟩
  | el _ hl hm ih =>
    obtain ⟨v, hv⟩ := ih
    obtain ⟨A, c, xs, _, _, _, _, h4, _⟩ := hl.rep hv
    exact reps_mem h4 _ hm
theorem m_indexArr0 {P : Program} {o : Oper} {ρ : Operand → Option D} {α : Type} {t e : TypeId} {x ix : Operand} {s by_ b n : Nat} {k : IntKind} {m : Int} {q : α} (l : List α) (ho : o.op = .indexAddr t x ix) (hE : ElT P t e s by_) (hx : ρ x = some (.arr b s 0 n)) (hix : ρ ix = some (.int k m)) (hq : getI l m = some q) (hn : l.length = n) : StepD P o ρ (.mref b m.toNat s 0 []) := by
  have := m_indexArr l ho hE hx hix hq hn
  rwa [Nat.zero_add] at this
theorem getI_mem {α : Type} {l : List α} {i : Int} {q : α} (h : getI l i = some q) : q ∈ l := List.mem_of_getElem? (getI_some h).2
section
variable {P : Program} {f : FuncId} {fn : Func} {K : Ctx} {R : D → St → Prop} {k : List Item} {env : Env} {σ : St}
theorem g_lenI {m : Md} (s : Nat) {d0 dx : D} {l : List D} (hs : lk env s = some d0) (hi : Ins d0 dx) (hl : AsL dx l) (h : l.length ≤ 9223372036854775807 → GoesG m P f fn K R k env σ) : GoesG m P f fn K R k env σ :=
  g_fact (fun p a w _ hr => by
    obtain ⟨v, h3⟩ := ins_rep (hr s _ hs) hi
    obtain ⟨A, c, xs, _, g2, g3, _⟩ := hl.rep h3
    omega) h
end
end Go.Proofs.Ytlannippingfdaa


namespace Go.Proofs.Ytlannippingfdaa
set_option maxRecDepth 100000
open Go.RowKit

theorem Inv.of {K K' : Ctx} {p : Addr → Prop} {σ : St} {w : World} (h0 : K'.w0 = K.w0) (hp : K'.p0 = K.p0) (hF : K'.F0 = K.F0) (h : Inv K p σ w) : Inv K' p σ w := by
  obtain ⟨w0, p0, F0, X⟩ := K
  obtain ⟨w0', p0', F0', X'⟩ := K'
  simp only at h0 hp hF
  subst h0 hp hF
  exact ⟨h.ok, h.nd, h.mine, h.pub, h.gr, h.neu, h.os, h.tape, h.output, h.size, h.block⟩
section
variable {P : Program} {f : FuncId} {fn : Func} {ds : List D} {σ : St} {R : D → St → Prop} {X : D → Prop}
end
section
variable {P : Program} {o : Oper} {ρ : Operand → Option D} {d : D} {σ : St}
end
end Go.Proofs.Ytlannippingfdaa


namespace Go.Proofs.Ytlannippingfdaa
set_option maxRecDepth 100000
open Go.RowKit

/-- The ways in which the operations that write may come up: each alternative begins with one of them (its index), then come quiet ones, then the alternatives behind; nil: no more. -/
inductive Pl where
  | nil
  | cons (i : Nat) (D : List (Nat × Cls)) (next sib : Pl)
def Pl.heads : Pl → List Nat
  | .nil => []
  | .cons i _ _ sb => i :: sb.heads
def Pl.alts : Pl → List (Nat × List (Nat × Cls) × Pl)
  | .nil => []
  | .cons i D nx sb => (i, D, nx) :: sb.alts
def Pl.first : Pl → List (Nat × Cls)
  | .nil => []
  | .cons i D nx _ => (i, .w) :: D ++ nx.first
def PRun (P : Program) (ops : Array Oper) (Q : Env → St → Prop) : Pl → Bool → Env → St → Prop
  | .nil, true => Q
  | .nil, false => fun _ _ => True
  | .cons i D nx sb, _ => fun e s => Run P ops NX (PRun P ops Q nx true) ((i, .w) :: D) e s ∧ PRun P ops Q sb false e s
section
variable {P : Program} {ops : Array Oper} {Q : Env → St → Prop}
theorem p_end {e : Env} {s : St} (h : Q e s) : PRun P ops Q .nil true e s := h
theorem p_no {e : Env} {s : St} : PRun P ops Q .nil false e s := trivial
theorem p_alt {i : Nat} {D : List (Nat × Cls)} {nx sb : Pl} {f : Bool} {e : Env} {s : St} (h : Run P ops NX (PRun P ops Q nx true) ((i, .w) :: D) e s) (h2 : PRun P ops Q sb false e s) : PRun P ops Q (.cons i D nx sb) f e s := ⟨h, h2⟩
theorem prun_alt {e : Env} {s : St} : ∀ {p : Pl} {f : Bool}, PRun P ops Q p f e s → ∀ x ∈ p.alts, Run P ops NX (PRun P ops Q x.2.2 true) ((x.1, .w) :: x.2.1) e s
  | .nil, _, _, x, hx => by cases hx
  | .cons i D nx sb, _, h, x, hx => by
    rcases List.mem_cons.1 hx with rfl | hx
    · exact h.1
    · exact prun_alt h.2 x hx
/-- Whatever writes is not held against what comes behind it: the plan tells what may come up. -/
def okPairsP (ops : Array Oper) (M : Array Nat) : List (Nat × Cls) → Bool
  | [] => true
  | x :: l => (x.2.isW || l.all fun y => pairOk ops M x y) && okPairsP ops M l
/-- All that has not come up may come next or must wait for another. -/
def coverOk (ops : Array Oper) (M : Array Nat) (ord : List (Nat × Cls)) (H : List Nat) : Bool := (List.range ops.size).all fun k => (ord.any fun x => x.1 == k) || ((H.any fun x => x == k) || ((List.range ops.size).any fun j => !(ord.any fun x => x.1 == j) && (M.getD k 0).testBit j))
def okP (ops : Array Oper) (M : Array Nat) : Pl → List (Nat × Cls) → List Nat → Bool → Bool
  | .nil, ord, _, f => !f || (okIdx ops.size ord && okPairsP ops M ord)
  | .cons i D nx sb, ord, H, _ => coverOk ops M ord H && (D.all fun x => !x.2.isW) && okP ops M nx (ord ++ (i, .w) :: D) nx.heads true && okP ops M sb ord H false
def okPlan (ops : Array Oper) (pre : List (Nat × Cls)) (p : Pl) : Bool := okMask ops (ranks ops.size ((pre ++ p.first).map (·.1))) (masks ops ((pre ++ p.first).map (·.1))) && okLow ops (ranks ops.size ((pre ++ p.first).map (·.1))) && (pre.all fun x => !x.2.isW) && okP ops (masks ops ((pre ++ p.first).map (·.1))) p pre p.heads true
theorem okP_ext {M : Array Nat} : ∀ {p : Pl} {ord : List (Nat × Cls)} {H : List Nat}, okP ops M p ord H true = true → ∃ ext, okIdx ops.size (ord ++ ext) = true ∧ okPairsP ops M (ord ++ ext) = true ∧ ((∃ i D nx sb, p = .cons i D nx sb ∧ ∃ e', ext = (i, .w) :: e') ∨ (p = .nil ∧ ext = []))
  | .nil, ord, H, h => by
    simp only [okP, Bool.not_true, Bool.false_or, Bool.and_eq_true] at h
    exact ⟨[], by rw [List.append_nil]; exact h.1, by rw [List.append_nil]; exact h.2, .inr ⟨rfl, rfl⟩⟩
  | .cons i D nx sb, ord, H, h => by
    simp only [okP, Bool.and_eq_true] at h
    obtain ⟨ext, h1, h2, _⟩ := okP_ext h.1.2
    rw [List.append_assoc] at h1 h2
    exact ⟨_, h1, h2, .inl ⟨i, D, nx, sb, rfl, _, rfl⟩⟩
theorem okP_alt {M : Array Nat} : ∀ {p : Pl} {ord : List (Nat × Cls)} {H : List Nat} {f : Bool}, okP ops M p ord H f = true → ∀ x ∈ p.alts, coverOk ops M ord H = true ∧ (∀ y ∈ x.2.1, y.2.isW = false) ∧ okP ops M x.2.2 (ord ++ (x.1, .w) :: x.2.1) x.2.2.heads true = true
  | .nil, _, _, _, _, x, hx => by cases hx
  | .cons i D nx sb, ord, H, f, h, x, hx => by
    simp only [okP, Bool.and_eq_true] at h
    rcases List.mem_cons.1 hx with rfl | hx
    · exact ⟨h.1.1.1, fun y hy => by simpa using List.all_eq_true.1 h.1.1.2 y hy, h.1.2⟩
    · exact okP_alt h.2 x hx
theorem heads_alt : ∀ {p : Pl} {k : Nat}, k ∈ p.heads → ∃ x ∈ p.alts, x.1 = k
  | .nil, _, h => by cases h
  | .cons i D nx sb, k, h => by
    rcases List.mem_cons.1 h with rfl | h
    · exact ⟨_, List.mem_cons_self .., rfl⟩
    · obtain ⟨x, h1, h2⟩ := heads_alt h
      exact ⟨x, List.mem_cons_of_mem _ h1, h2⟩
theorem okPairsP_split {M : Array Nat} : ∀ {l m : List (Nat × Cls)} {x y : Nat × Cls}, okPairsP ops M (l ++ x :: m) = true → x.2.isW = false → y ∈ m → pairOk ops M x y = true
  | [], m, x, y, h, hx, hy => by
    simp only [List.nil_append, okPairsP, hx, Bool.false_or, Bool.and_eq_true] at h
    exact List.all_eq_true.1 h.1 y hy
  | z :: l, m, x, y, h, hx, hy => by
    simp only [List.cons_append, okPairsP, Bool.and_eq_true] at h
    exact okPairsP_split h.2 hx hy
theorem absorbed {σ : St} {l : List (Nat × Cls)} {E : Env} (hq : ∀ x ∈ l, x.2.isW = false) (h : Run P ops NX Q l E σ) : ∃ new : List PE, l = new.map (fun e => (e.i, e.c)) ∧ Q (envA E new) σ ∧ (∀ d1 e d2, new = d1 ++ e :: d2 → e.E = envA E d1 ∧ ops[e.i]? = some e.o ∧ PendOk P ops σ e ∧ e.c.isW = false) := by
  obtain ⟨new, l', h1, h2, h3, h4⟩ := absorb (P := P) (Q := Q) E σ l E h
  rcases h4 with rfl | ⟨i, c, l'', rfl, hc⟩
  · exact ⟨new, by rw [h1, List.append_nil], h2, h3⟩
  · have := hq (i, c) (by rw [h1]; simp)
    rw [hc] at this
    cases this
/-- The state between two operations. -/
structure MidP (P : Program) (ops : Array Oper) (Q : Env → St → Prop) (K : Ctx) (n : Nat) (m : Md) (M : Array Nat) (env0 : Env) (done : List PE) (p : Pl) (listed : Array Bool) (σ : St) (a : Act) (w : World) : Prop where
  ok : okP ops M p (done.map fun e => (e.i, e.c)) p.heads true = true
  chain : ∀ d1 e d2, done = d1 ++ e :: d2 → e.E = envA env0 d1 ∧ ops[e.i]? = some e.o ∧ (Tof listed e.i = false → PendOk P ops σ e ∧ e.c.isW = false)
  rest : PRun P ops Q p true (envA env0 done) σ
  new : ∀ k, Tof listed k = true → ∃ e ∈ done, e.i = k
  down : Down ops listed
  size : listed.size = ops.size
  good : Good K n m (envT (Tof listed) env0 done) σ a w
end
section
variable {P : Program} {ops : Array Oper} {Q : Env → St → Prop}
theorem plan_run {n : Nat} {md : Md} {K : Ctx} {env0 : Env} {M r : Array Nat} (hok : okOps ops n = true) (hM : okMask ops r M = true) (hL : okLow ops r = true) :
    ∀ (fuel : Nat) (pl : Pl) (done : List PE) (listed : Array Bool) (σ : St) (a : Act) (w : World), MidP P ops Q K n md M env0 done pl listed σ a w → leftN ops.size listed = fuel →
      wpAnyIn (fw md.rd) 0 P .any ops (EndsR P K n md NX Q) fuel listed a w := by
  intro fuel
  induction fuel with
  | zero =>
    intro pl done listed σ a w m h0
    have hall : ∀ i, i < ops.size → Tof listed i = true := fun i hi => by
      cases hT : Tof listed i with
      | true => rfl
      | false =>
        have : (i, Cls.d) ∈ ((List.range ops.size).map fun i => (i, Cls.d)).filter fun x => !Tof listed x.1 := List.mem_filter.2 ⟨List.mem_map.2 ⟨i, by simpa using hi, rfl⟩, by simp [hT]⟩
        have := List.length_pos_of_mem this
        unfold leftN left at h0
        omega
    refine ⟨?_, .inl ⟨rfl, ?_⟩⟩
    · refine List.eq_nil_iff_forall_not_mem.2 fun i hi => ?_
      obtain ⟨hun, o, ho, _⟩ := mem_ready.1 hi
      have hi' := (Array.getElem?_eq_some_iff.1 ho).1
      have := hall i hi'
      unfold Tof at this
      have hs : i < listed.size := by rw [m.size]; exact hi'
      simp [hs] at this hun
      rw [this] at hun
      cases hun
    · obtain ⟨ext, hI, _, hext⟩ := okP_ext m.ok
      simp only [okIdx, Bool.and_eq_true, decide_eq_true_eq] at hI
      obtain ⟨⟨_, hI2⟩, hnd⟩ := hI
      have hpl : pl = .nil := by
        rcases hext with ⟨i, D, nx, sb, _, e', rfl⟩ | ⟨h, _⟩
        · exfalso
          have hi : i < ops.size := by simpa using List.all_eq_true.1 hI2 (i, .w) (by simp)
          obtain ⟨e, he, hei⟩ := m.new i (hall i hi)
          rw [List.map_append, List.map_map] at hnd
          exact (List.nodup_append.1 hnd).2.2 e.i (List.mem_map_of_mem he) i (by simp) hei
        · exact h
      obtain ⟨p, g1, g2, g3, g4⟩ := m.good
      have hr := m.rest
      rw [hpl] at hr
      have he : envT (Tof listed) env0 done = envA env0 done := envT_congr fun e he => by
        obtain ⟨d1, d2, hd⟩ := List.append_of_mem he
        exact hall e.i (Array.getElem?_eq_some_iff.1 (m.chain d1 e d2 hd).2.1).1
      exact ⟨_, σ, p, hr, g1, he ▸ g2, g3, g4⟩
  | succ fuel ih =>
    intro pl done listed σ a w m h0
    obtain ⟨ext, hI, hP, hext⟩ := okP_ext m.ok
    simp only [okIdx, Bool.and_eq_true, decide_eq_true_eq] at hI
    obtain ⟨⟨hI1, hI2⟩, hnd⟩ := hI
    obtain ⟨p, g1, g2, g3, g4⟩ := m.good
    have hmask := fun k o ho hall j hj => mask_down (ops := ops) hM m.down _ k o rfl ho hall j hj
    refine ⟨fun hnone => ?_, fun i hi => ?_⟩
    · exfalso
      -- one that has not come up, the first of them
      have hex : ∃ i, i < ops.size ∧ Tof listed i = false := by
        have : 0 < leftN ops.size listed := by omega
        unfold leftN left at this
        obtain ⟨x, hx⟩ := List.exists_mem_of_length_pos this
        obtain ⟨hx1, hx2⟩ := List.mem_filter.1 hx
        obtain ⟨y, hy, rfl⟩ := List.mem_map.1 hx1
        exact ⟨y, by simpa using hy, by simpa using hx2⟩
      obtain ⟨i, hi1, hi2⟩ := hex
      have : ∀ n k, r.getD k 0 = n → k < ops.size → Tof listed k = false → False := by
        intro n
        induction n using Nat.strongRecOn with
        | _ n ihk =>
          intro k hkn hk1 hk2
          have hr : k ∈ Region.ready .any ops listed := by
            refine mem_ready.2 ⟨?_, ops[k], Array.getElem?_eq_getElem hk1, fun e he hb => ?_⟩
            · have hs : k < listed.size := by rw [m.size]; exact hk1
              unfold Tof at hk2
              simp [hs] at hk2 ⊢
              exact hk2
            · cases hT : Tof listed e.on with
              | true => exact hT
              | false =>
                have hl := List.all_eq_true.1 hL k (by simpa using hk1)
                simp only [Array.getElem?_eq_getElem hk1] at hl
                have := (Array.all_eq_true_iff_forall_mem.1 hl) e he
                simp only [hb, Bool.not_true, Bool.false_or, decide_eq_true_eq] at this
                exact (ihk _ (by rw [← hkn]; exact this.1) e.on rfl this.2 hT).elim
          rw [hnone] at hr
          cases hr
      exact this _ i rfl hi1 hi2
    · obtain ⟨hun, o, ho, hdeps⟩ := mem_ready.1 hi
      have hi' := (Array.getElem?_eq_some_iff.1 ho).1
      have hs : i < listed.size := by rw [m.size]; exact hi'
      have hT : Tof listed i = false := by
        unfold Tof
        simp [hs] at hun ⊢
        exact hun
      have hdown : Down ops (listed.setIfInBounds i true) := fun k o' ho' hk e he hb => by
        rw [tof_set hs] at hk ⊢
        split
        · rfl
        · by_cases hki : k = i
          · subst hki
            rw [ho] at ho'
            injection ho' with ho'
            subst ho'
            exact hdeps e he hb
          · rw [if_neg hki] at hk
            exact m.down k o' ho' hk e he hb
      have hleft := left_set (ord := (List.range ops.size).map fun i => (i, Cls.d)) (c := Cls.d) (by rw [List.map_map]; have : (Prod.fst ∘ fun i : Nat => (i, Cls.d)) = id := rfl; rw [this, List.map_id]; exact List.nodup_range) (List.mem_map.2 ⟨i, by simpa using hi', rfl⟩) hs hT
      -- who must have come up, who cannot have
      have before : ∀ x y : Nat × Cls, x.1 < ops.size → pairOk ops M x y = true → y.1 = i → Tof listed x.1 = false → x.2.isW = false ∧ ¬(x.2 = .r ∧ y.2.isW = true) ∧ apartAt ops x.1 y.1 = true := fun x y hx hp hy hf => pair_apart hp (by
        cases hb : (M.getD y.1 0).testBit x.1 with
        | false => rfl
        | true =>
          rw [hy] at hb
          rw [hmask i o ho hdeps x.1 hx hb] at hf
          cases hf)
      have behind : ∀ x y : Nat × Cls, y.1 < ops.size → pairOk ops M x y = true → x.1 = i → Tof listed y.1 = true → x.2.isW = false ∧ ¬(x.2 = .r ∧ y.2.isW = true) ∧ apartAt ops x.1 y.1 = true := fun x y hy hp hx ht => pair_apart hp (by
        cases hb : (M.getD y.1 0).testBit x.1 with
        | false => rfl
        | true =>
          have h1 := hmask y.1 _ (Array.getElem?_eq_getElem hy) (m.down y.1 _ (Array.getElem?_eq_getElem hy) ht) x.1 (by rw [hx]; exact hi') hb
          rw [hx, hT] at h1
          cases h1)
      have apartL : ∀ {j k : Nat} {x y : Oper}, apartAt ops j k = true → ops[j]? = some x → ops[k]? = some y → x.apart ops y = true := fun {j k x y} h hx hy => by
        unfold apartAt at h
        rw [hx, hy] at h
        exact h
      by_cases hin : ∃ e ∈ done, e.i = i
      · -- it is pending
        obtain ⟨e, he, hec⟩ := hin
        obtain ⟨d1, d2, hsplit⟩ := List.append_of_mem he
        obtain rfl : e.i = i := hec
        obtain ⟨hE, heo, hpend⟩ := m.chain d1 e d2 hsplit
        obtain ⟨hp, hcw⟩ := hpend hT
        have heq : e.o = o := by rw [heo] at ho; injection ho
        have hunl : ∀ x ∈ done, Tof listed x.i = false → x.c.isW = false := fun x hx hf => by
          obtain ⟨u1, u2, hu⟩ := List.append_of_mem hx
          exact ((m.chain u1 x u2 hu).2.2 hf).2
        have hpair1 : ∀ x ∈ d1, Tof listed x.i = false → pairOk ops M (x.i, x.c) (e.i, e.c) = true := fun x hx hf => by
          obtain ⟨u1, u2, hu⟩ := List.append_of_mem hx
          have : okPairsP ops M ((u1.map fun e => (e.i, e.c)) ++ (x.i, x.c) :: ((u2.map fun e => (e.i, e.c)) ++ (e.i, e.c) :: ((d2.map fun e => (e.i, e.c)) ++ ext))) = true := by
            rw [← hP, hsplit, hu]; simp
          exact okPairsP_split this (hunl x (by rw [hsplit]; exact List.mem_append_left _ hx) hf) (by simp)
        have hpair2 : ∀ x ∈ d2, pairOk ops M (e.i, e.c) (x.i, x.c) = true := fun x hx => by
          have : okPairsP ops M ((d1.map fun e => (e.i, e.c)) ++ (e.i, e.c) :: ((d2.map fun e => (e.i, e.c)) ++ ext)) = true := by
            rw [← hP, hsplit]; simp
          exact okPairsP_split this hcw (List.mem_append_left _ (List.mem_map_of_mem hx))
        have hmemlt : ∀ x ∈ done, x.i < ops.size ∧ ops[x.i]? = some x.o := fun x hx => by
          obtain ⟨u1, u2, hu⟩ := List.append_of_mem hx
          have := (m.chain u1 x u2 hu).2.1
          exact ⟨(Array.getElem?_eq_some_iff.1 this).1, this⟩
        have hin1 : ∀ x ∈ d1, x ∈ done := fun x hx => by rw [hsplit]; exact List.mem_append_left _ hx
        have hin2 : ∀ x ∈ d2, x ∈ done := fun x hx => by rw [hsplit]; exact List.mem_append_right _ (List.mem_cons_of_mem _ hx)
        have hlook : ∀ t ∈ o.looksAt ops, lk (envT (Tof listed) env0 done) t = lk e.E t := fun t ht => by
          rw [hsplit, envT_app]
          have hcons : envT (Tof listed) (envT (Tof listed) env0 d1) (e :: d2) = envT (Tof listed) (envT (Tof listed) env0 d1) d2 := by simp [envT, hT]
          rw [hcons, envT_skip, hE]
          · refine envT_all (fun x hx hd => ?_) rfl
            cases hf : Tof listed x.i with
            | true => rfl
            | false =>
              have := (before (x.i, x.c) (e.i, e.c) (hmemlt x (hin1 x hx)).1 (hpair1 x hx hf) rfl hf).2.2
              have h5 := apartL this (hmemlt x (hin1 x hx)).2 ho
              exact absurd ht ((Oper.apart_spec h5).1 t hd)
          · intro x hx hf hd
            have := (behind (e.i, e.c) (x.i, x.c) (hmemlt x (hin2 x hx)).1 (hpair2 x hx) rfl hf).2.2
            have h5 := apartL this ho (hmemlt x (hin2 x hx)).2
            exact (Oper.apart_spec h5).2.2 t hd ht
        have hrep : ∀ t ∈ o.looksAt ops, ∀ d, lk e.E t = some d → Rep p w d (a.tmps.getD t Go.undef) := fun t ht d hd => g2 t d (by rw [hlook t ht]; exact hd)
        have hput : ∀ t, lk (envT (Tof (listed.setIfInBounds e.i true)) env0 done) t = lk ((envT (Tof listed) env0 done).put o.dst e.V) t := fun t => by
          have hne1 : ∀ x ∈ d1, x.i ≠ e.i := fun x hx hxe => by
            rw [hsplit] at hnd
            simp only [List.map_append, List.map_cons, List.map_map] at hnd
            have := List.nodup_append.1 (List.nodup_append.1 hnd).1
            exact this.2.2 _ (List.mem_map_of_mem hx) _ (List.mem_cons_self ..) hxe
          have hne2 : ∀ x ∈ d2, x.i ≠ e.i := fun x hx hxe => by
            rw [hsplit] at hnd
            simp only [List.map_append, List.map_cons, List.map_map] at hnd
            have := (List.nodup_append.1 (List.nodup_append.1 hnd).1).2.1
            simp only [List.nodup_cons] at this
            exact this.1 (List.mem_map.2 ⟨x, hx, hxe⟩)
          have e1 : envT (Tof (listed.setIfInBounds e.i true)) env0 done = envT (Tof listed) ((envT (Tof listed) env0 d1).put o.dst e.V) d2 := by
            rw [hsplit, envT_app, envT_congr (T := Tof (listed.setIfInBounds e.i true)) (T' := Tof listed) (l := d1) fun x hx => by rw [tof_set hs, if_neg (hne1 x hx)]]
            have : envT (Tof (listed.setIfInBounds e.i true)) (envT (Tof listed) env0 d1) (e :: d2) = envT (Tof (listed.setIfInBounds e.i true)) ((envT (Tof listed) env0 d1).put o.dst e.V) d2 := by
              simp [envT, tof_set hs, heq]
            rw [this]
            exact envT_congr fun x hx => by rw [tof_set hs, if_neg (hne2 x hx)]
          have e2 : envT (Tof listed) env0 done = envT (Tof listed) (envT (Tof listed) env0 d1) d2 := by
            rw [hsplit, envT_app]; simp [envT, hT]
          rw [e1, e2, look_put]
          by_cases hd : o.dst = some t
          · rw [if_pos hd, envT_skip, look_put, if_pos hd]
            intro x hx hf hxd
            have := (behind (e.i, e.c) (x.i, x.c) (hmemlt x (hin2 x hx)).1 (hpair2 x hx) rfl hf).2.2
            have h5 := apartL this ho (hmemlt x (hin2 x hx)).2
            exact (Oper.apart_spec h5).2.1 t hd hxd
          · rw [if_neg hd]
            have gen : ∀ (m : List PE) (A B : Env), lk A t = lk B t → lk (envT (Tof listed) A m) t = lk (envT (Tof listed) B m) t := by
              intro m
              induction m with
              | nil => exact fun A B h => h
              | cons x m ihm =>
                intro A B h
                simp only [envT, List.foldl_cons]
                refine ihm _ _ ?_
                split
                · simp only [look_put]; split <;> simp [h]
                · exact h
            exact gen d2 _ _ (by rw [look_put, if_neg hd])
        have next : ∀ (a' : Act) (w' : World) (p' : Addr → Prop) (v : Value), a' = a.put o.dst v → Rep p' w' e.V v → Inv K p' σ w' → Grow p w p' w' → MidP P ops Q K n md M env0 done pl (listed.setIfInBounds e.i true) σ a' w' := fun a' w' p' v ha' hv hi2 hg => by
          refine ⟨m.ok, fun u1 x u2 hu => ?_, m.rest, fun k hk => ?_, hdown, by simpa using m.size, ⟨p', hi2, fun t d ht => ?_, ?_, ?_⟩⟩
          · obtain ⟨q1, q2, q3⟩ := m.chain u1 x u2 hu
            refine ⟨q1, q2, fun hf => q3 ?_⟩
            rw [tof_set hs] at hf
            split at hf
            · cases hf
            · exact hf
          · rw [tof_set hs] at hk
            split at hk
            · rename_i hke
              exact ⟨e, he, hke.symm⟩
            · exact m.new k hk
          · rw [hput t] at ht
            have hr' := (g2.grow hg).put (dst := o.dst) hv fun t ht => Nat.lt_of_lt_of_le (okOps_dst hok ho t ht) g3
            rw [ha']
            exact hr' t d ht
          · rw [ha', put_size]; exact g3
          · rw [ha', put_defers']; exact g4
        unfold wpOpIn
        simp only [ho]
        have hlf : leftN ops.size (listed.setIfInBounds e.i true) = fuel := by unfold leftN at h0 ⊢; omega
        rcases hp with ⟨hw, hV⟩ | ⟨hw, hp⟩
        · rw [heq] at hw
          rw [wantD_spec hrep hw]
          simp only [Bool.false_eq_true, if_false]
          exact ⟨fun f _ => fw_fn _ f, ih _ _ _ _ _ _ (next _ w p Go.undef rfl (by rw [hV]; simp only [Rep]) g1 (Grow.refl p w)) hlf⟩
        · rw [heq] at hw
          rw [wantD_spec hrep hw]
          simp only [if_true]
          have hst : StepS P o (ev e.E) σ fun d' σ' => d' = e.V ∧ σ' = σ := by
            rw [← heq]
            rcases hp with ⟨_, hp⟩ | ⟨_, hp⟩
            · exact hp σ
            · exact hp
          refine wpIn_die (fun a' w' hh => ?_) (fun _ _ _ hh => hh.elim) (hst.y md.rd K p a w g1 (evs_rep hok ho hrep))
          obtain ⟨v, d, σ', p', ha', ⟨rfl, rfl⟩, hv, hi2, hg⟩ := hh
          exact ih _ _ _ _ _ _ (next a' w' p' v ha' hv hi2 hg) hlf
      · -- it is the next one of our plan
        obtain ⟨x, hx, hxi⟩ : ∃ x ∈ pl.alts, x.1 = i := by
          have hno : ∀ j, j < ops.size → (∀ e ∈ done, e.i ≠ j) → (done.map fun e => (e.i, e.c)).any (fun x => x.1 == j) = false := fun j _ hj => by
            rw [List.any_eq_false]
            intro y hy
            obtain ⟨e, he, rfl⟩ := List.mem_map.1 hy
            simpa using hj e he
          have hni : ∀ e ∈ done, e.i ≠ i := fun e he hei => hin ⟨e, he, hei⟩
          rcases hext with ⟨i0, D0, nx0, sb0, rfl, _⟩ | ⟨_, rfl⟩
          · have hcov := (okP_alt m.ok (i0, D0, nx0) (List.mem_cons_self ..)).1
            have h1 := List.all_eq_true.1 hcov i (by simpa using hi')
            rw [hno i hi' hni, Bool.false_or, Bool.or_eq_true] at h1
            rcases h1 with h1 | h1
            · obtain ⟨k, hk, hki⟩ := List.any_eq_true.1 h1
              obtain rfl : k = i := beq_iff_eq.1 hki
              exact heads_alt hk
            · exfalso
              obtain ⟨j, hj, hb⟩ := List.any_eq_true.1 h1
              have hj : j < ops.size := by simpa using hj
              rw [Bool.and_eq_true, Bool.not_eq_true'] at hb
              obtain ⟨e, he, hej⟩ := m.new j (hmask i o ho hdeps j hj hb.2)
              have := List.any_eq_false.1 hb.1 (e.i, e.c) (List.mem_map_of_mem he)
              simp [hej] at this
          · exfalso
            obtain ⟨y, hy, hyi⟩ := List.any_eq_true.1 (List.all_eq_true.1 hI1 i (by simpa using hi'))
            rw [List.append_nil] at hy
            obtain ⟨e, he, rfl⟩ := List.mem_map.1 hy
            exact hni e he (beq_iff_eq.1 hyi)
        obtain ⟨i0, Dq, nx⟩ := x
        simp only at hxi
        subst hxi
        obtain ⟨_, hDq, hokn⟩ := okP_alt m.ok _ hx
        simp only at hDq hokn
        have hrun := prun_alt m.rest _ hx
        simp only at hrun
        clear hP hI1 hI2 hnd hext
        obtain ⟨ext, hI, hP, _⟩ := okP_ext hokn
        simp only [okIdx, Bool.and_eq_true, decide_eq_true_eq] at hI
        obtain ⟨⟨hI1, hI2⟩, hnd⟩ := hI
        have hunl : ∀ x ∈ done, Tof listed x.i = false → x.c.isW = false := fun x hx hf => by
          obtain ⟨u1, u2, hu⟩ := List.append_of_mem hx
          exact ((m.chain u1 x u2 hu).2.2 hf).2
        have hpair : ∀ x ∈ done, Tof listed x.i = false → pairOk ops M (x.i, x.c) (i0, .w) = true := fun x hx hf => by
          obtain ⟨u1, u2, hu⟩ := List.append_of_mem hx
          have : okPairsP ops M ((u1.map fun e => (e.i, e.c)) ++ (x.i, x.c) :: ((u2.map fun e => (e.i, e.c)) ++ (i0, .w) :: (Dq ++ ext))) = true := by
            rw [← hP, hu]; simp
          exact okPairsP_split this (hunl x hx hf) (by simp)
        have hmemlt : ∀ x ∈ done, x.i < ops.size ∧ ops[x.i]? = some x.o := fun x hx => by
          obtain ⟨u1, u2, hu⟩ := List.append_of_mem hx
          have := (m.chain u1 x u2 hu).2.1
          exact ⟨(Array.getElem?_eq_some_iff.1 this).1, this⟩
        have hne : ∀ x ∈ done, x.i ≠ i0 := fun x hx hxe => hin ⟨x, hx, hxe⟩
        have hlook : ∀ t ∈ o.looksAt ops, lk (envT (Tof listed) env0 done) t = lk (envA env0 done) t := fun t ht =>
          envT_all (fun x hx hd => by
            cases hf : Tof listed x.i with
            | true => rfl
            | false =>
              have := (before (x.i, x.c) (i0, .w) (hmemlt x hx).1 (hpair x hx hf) rfl hf).2.2
              have h5 := apartL this (hmemlt x hx).2 ho
              exact absurd ht ((Oper.apart_spec h5).1 t hd)) rfl
        have hrep : ∀ t ∈ o.looksAt ops, ∀ d, lk (envA env0 done) t = some d → Rep p w d (a.tmps.getD t Go.undef) := fun t ht d hd => g2 t d (by rw [hlook t ht]; exact hd)
        have next : ∀ (a' : Act) (w' : World) (p' : Addr → Prop) (v : Value) (V : D) (σ' : St), a' = a.put o.dst v → Rep p' w' V v → Inv K p' σ' w' → Grow p w p' w' → Run P ops NX (PRun P ops Q nx true) Dq ((envA env0 done).put o.dst V) σ' →
            ∃ done', MidP P ops Q K n md M env0 done' nx (listed.setIfInBounds i0 true) σ' a' w' := fun a' w' p' v V σ' ha' hv hi2 hg hrun => by
          obtain ⟨new, h1, h2, h3⟩ := absorbed hDq hrun
          have heA : envA env0 (done ++ [⟨i0, .w, o, envA env0 done, V⟩]) = (envA env0 done).put o.dst V := by simp [envT]
          have hnd' : (done.map (fun e => e.i) ++ i0 :: (new.map (fun e => e.i) ++ ext.map (·.1))).Nodup := by
            have := hnd
            rw [h1] at this
            simpa [List.map_map, Function.comp_def] using this
          have hnd2 := List.nodup_append.1 hnd'
          have hnd3 := List.nodup_cons.1 hnd2.2.1
          have hnewf : ∀ x ∈ new, Tof (listed.setIfInBounds i0 true) x.i = false := fun x hx => by
            have hxi : x.i ≠ i0 := fun e => hnd3.1 (by rw [← e]; exact List.mem_append_left _ (List.mem_map_of_mem hx))
            rw [tof_set hs, if_neg hxi]
            cases hT2 : Tof listed x.i with
            | false => rfl
            | true =>
              obtain ⟨e, he, hei⟩ := m.new x.i hT2
              exact absurd hei (hnd2.2.2 e.i (List.mem_map_of_mem he) x.i (List.mem_cons_of_mem _ (List.mem_append_left _ (List.mem_map_of_mem hx))))
          refine ⟨done ++ ⟨i0, .w, o, envA env0 done, V⟩ :: new, ⟨by have := hokn; rw [h1] at this; simpa using this, fun u1 x u2 hu => ?_, ?_, fun k hk => ?_, hdown, by simpa using m.size, ⟨p', hi2, fun t d ht => ?_, ?_, ?_⟩⟩⟩
          · -- the chain
            rcases List.append_eq_append_iff.1 hu with ⟨v1, hv1, hv2⟩ | ⟨v1, hv1, hv2⟩
            · cases v1 with
              | nil =>
                simp only [List.nil_append, List.cons.injEq] at hv2
                obtain ⟨rfl, rfl⟩ := hv2
                simp only [List.append_nil] at hv1
                subst hv1
                exact ⟨rfl, ho, fun hf => by rw [tof_set hs, if_pos rfl] at hf; cases hf⟩
              | cons y v1 =>
                simp only [List.cons_append, List.cons.injEq] at hv2
                obtain ⟨rfl, hv2⟩ := hv2
                obtain ⟨q1, q2, q3, q4⟩ := h3 v1 x u2 hv2
                refine ⟨?_, q2, fun _ => ⟨q3, q4⟩⟩
                rw [q1, hv1]
                simp [envT]
            · cases v1 with
              | nil =>
                simp only [List.nil_append, List.cons.injEq] at hv2
                obtain ⟨rfl, rfl⟩ := hv2
                simp only [List.append_nil] at hv1
                subst hv1
                exact ⟨rfl, ho, fun hf => by rw [tof_set hs, if_pos rfl] at hf; cases hf⟩
              | cons y v1 =>
                simp only [List.cons_append, List.cons.injEq] at hv2
                obtain ⟨rfl, hv2⟩ := hv2
                have hxin : x ∈ done := by rw [hv1]; simp
                obtain ⟨q1, q2, q3⟩ := m.chain u1 x v1 hv1
                refine ⟨q1, q2, fun hf => ?_⟩
                rw [tof_set hs, if_neg (hne x hxin)] at hf
                obtain ⟨q4, q5⟩ := q3 hf
                refine ⟨?_, q5⟩
                have hnr := (before (x.i, x.c) (i0, .w) (hmemlt x hxin).1 (hpair x hxin hf) rfl hf).2.1
                rcases q4 with q4 | ⟨q4, q6⟩
                · exact .inl q4
                · refine .inr ⟨q4, ?_⟩
                  rcases q6 with q6 | ⟨q6, _⟩
                  · exact .inl q6
                  · exact absurd ⟨q6, rfl⟩ hnr
          · have hee : envA env0 (done ++ (⟨i0, .w, o, envA env0 done, V⟩ : PE) :: new) = envA ((envA env0 done).put o.dst V) new := by
              rw [← heA]
              simp [envT]
            rw [hee]
            exact h2
          · rw [tof_set hs] at hk
            split at hk
            · rename_i hke
              exact ⟨⟨i0, .w, o, envA env0 done, V⟩, by simp, hke.symm⟩
            · obtain ⟨e, he, hek⟩ := m.new k hk
              exact ⟨e, List.mem_append_left _ he, hek⟩
          · have hT' : ∀ x ∈ done, Tof (listed.setIfInBounds i0 true) x.i = Tof listed x.i := fun x hx => by rw [tof_set hs, if_neg (hne x hx)]
            rw [envT_app, envT_congr hT'] at ht
            have hcons : envT (Tof (listed.setIfInBounds i0 true)) (envT (Tof listed) env0 done) (⟨i0, .w, o, envA env0 done, V⟩ :: new) = envT (Tof (listed.setIfInBounds i0 true)) ((envT (Tof listed) env0 done).put o.dst V) new := by simp [envT, tof_set hs]
            rw [hcons, envT_skip (fun x hx hf => by rw [hnewf x hx] at hf; cases hf)] at ht
            have hr' := (g2.grow hg).put (dst := o.dst) hv fun t ht => Nat.lt_of_lt_of_le (okOps_dst hok ho t ht) g3
            rw [ha']
            exact hr' t d ht
          · rw [ha', put_size]; exact g3
          · rw [ha', put_defers']; exact g4
        have hlf : leftN ops.size (listed.setIfInBounds i0 true) = fuel := by unfold leftN at h0 ⊢; omega
        unfold wpOpIn
        simp only [ho]
        obtain ⟨o', ho', hrun⟩ := hrun
        obtain rfl : o' = o := by rw [ho] at ho'; injection ho' with h; exact h.symm
        have hrun : (wantD ops (envA env0 done) o' = some false ∧ Run P ops NX (PRun P ops Q nx true) Dq ((envA env0 done).put o'.dst .undef) σ) ∨ (wantD ops (envA env0 done) o' = some true ∧ ∃ R, StepY P o' (ev (envA env0 done)) σ R ∧ ∀ d σ', R d σ' → Run P ops NX (PRun P ops Q nx true) Dq ((envA env0 done).put o'.dst d) σ') := by
          rcases hrun with hrun | hrun | ⟨_, _, _, _, _, hx, _⟩
          · exact .inl hrun
          · exact .inr hrun
          · exact hx.elim
        rcases hrun with ⟨hw, hk⟩ | ⟨hw, R, hst, hk⟩
        · rw [wantD_spec hrep hw]
          simp only [Bool.false_eq_true, if_false]
          obtain ⟨done', hm⟩ := next _ w p Go.undef .undef σ rfl (by simp only [Rep]) g1 (Grow.refl p w) hk
          exact ⟨fun f _ => fw_fn _ f, ih _ _ _ _ _ _ hm hlf⟩
        · rw [wantD_spec hrep hw]
          simp only [if_true]
          refine wpIn_die (fun a' w' hh => ?_) (fun _ _ _ hh => hh.elim) (hst md.rd K p a w g1 (evs_rep hok ho hrep))
          obtain ⟨v, d, σ', p', ha', hR, hv, hi2, hg⟩ := hh
          obtain ⟨done', hm⟩ := next a' w' p' v d σ' ha' hv hi2 hg (hk d σ' hR)
          exact ih _ _ _ _ _ _ hm hlf

theorem plan_of {n : Nat} {md : Md} {K : Ctx} {env : Env} {σ : St} (hok : okOps ops n = true) (pre : List (Nat × Cls)) (pl : Pl) (hA : okPlan ops pre pl = true) (h : Run P ops NX (PRun P ops Q pl true) pre env σ)
    {p : Addr → Prop} {a : Act} {w : World} (hi : Inv K p σ w) (hr : RelEnv p w env a) (hn : n ≤ a.tmps.size) (hd : a.defers = md.marks) :
    wpAnyIn (fw md.rd) 0 P .any ops (EndsR P K n md NX Q) ops.size (Array.replicate ops.size false) a w := by
  simp only [okPlan, Bool.and_eq_true] at hA
  obtain ⟨⟨⟨hM, hL⟩, hq⟩, hP⟩ := hA
  obtain ⟨new, h1, h2, h3⟩ := absorbed (fun x hx => by simpa using List.all_eq_true.1 hq x hx) h
  have h0 : ∀ i, Tof (Array.replicate ops.size false) i = false := fun i => by
    unfold Tof
    rw [Array.getD_eq_getD_getElem?, Array.getElem?_replicate]
    split <;> rfl
  have hfuel : leftN ops.size (Array.replicate ops.size false) = ops.size := by
    unfold leftN left
    rw [List.filter_eq_self.2 fun x _ => by rw [h0]; rfl]
    simp
  refine plan_run (P := P) (Q := Q) (K := K) (n := n) hok hM hL _ pl new _ σ a w ⟨by rw [← h1]; exact hP, fun d1 e d2 hh => ?_, h2, fun k hk => ?_, fun k' o _ hk => ?_, by simp, ⟨p, hi, ?_, hn, hd⟩⟩ hfuel
  · obtain ⟨q1, q2, q3, q4⟩ := h3 d1 e d2 hh
    exact ⟨q1, q2, fun _ => ⟨q3, q4⟩⟩
  · rw [h0] at hk; cases hk
  · rw [h0] at hk; cases hk
  · have : envT (Tof (Array.replicate ops.size false)) env new = env := by
      have : ∀ (m : List PE), envT (Tof (Array.replicate ops.size false)) env m = env := by
        intro m
        induction m with
        | nil => rfl
        | cons x m ih => simp only [envT, List.foldl_cons, h0, Bool.false_eq_true, if_false] at ih ⊢; exact ih
      exact this new
    rw [this]
    exact hr
/-- A region by a plan: each way is walked, to the same end. -/
theorem g_plan {m : Md} {f : FuncId} {fn : Func} {K : Ctx} {R : D → St → Prop} {k : List Item} {env : Env} {σ : St} {id : Nat} {l : List Oper} (hm : P.follows .mixedOrders = true) (hok : okOps l.toArray fn.ntmps = true) (pre : List (Nat × Cls)) (pl : Pl) (hA : okPlan l.toArray pre pl = true) (J : Env → St → Prop)
    (h : Run P l.toArray NX (PRun P l.toArray J pl true) pre env σ) (hJ : ∀ e s, J e s → GoesG m P f fn K R k e s) : GoesG m P f fn K R (.code (.region id l.toArray true) :: k) env σ :=
  g_region (Q := J) (X := NX) (fun p a w hi hr hn hd => wpIn_region_any hm (plan_of (md := m) (P := P) (Q := J) (K := K) (n := fn.ntmps) hok pre pl hA h hi.drew (hr.grow (grow_drew p w)) hn hd)) (fun _ _ _ h => h.elim) hJ
end
end Go.Proofs.Ytlannippingfdaa

