/-
  Texts of the seat, merged.
-/
import Derived.Test.YtdoljfkjdfaakaaGreatLBA
import Derived.Test.YtdoljfkjdfaakaaGreatLBB
import Derived.Test.YtdoljfkjdfaakaaGreatLBC
import Derived.Test.YtdoljfkjdfaakaaGreatLBD
import Derived.Test.YtdoljfkjdfaakaaGreatLBE
import Derived.Test.YtdoljfkjdfaakaaGreatChecked
import Derived.WalkKit
import Derived.Lib.Hide
import Derived.Lib.AppendStr
import Derived.Deep.AppendLies
import Derived.Deep.AppendSrc
import Derived.Deep.Draws
import Derived.Deep.QuietTactic
import Derived.BigQuiet
import Derived.Deep.RegionWith
import Derived.Maps.AppendAt
import Derived.WalkSpells
import Derived.Orders
import Derived.Deep.Slices
import Derived.Deep.Fields
import Derived.ChangeArms
import Derived.Lib.OthersKept
import Derived.Lib.TrimU
import Derived.Lib.IndexAny
import Derived.Deep.LoopGhost
import Derived.Lib.Bytealg
import Derived.RangeFuncBox
import Derived.RangeFuncNested
import Derived.RangeFuncBound
import Derived.RangeFuncCalls
import Derived.RangeFuncLeaves
import Derived.Shelf.Abstract
import Derived.OwnWalkIn
import Derived.TacticsInMore
import Derived.LoopNIn
import Derived.LoopIn
import Derived.RangeFuncWrites
import Derived.Maps.OwnIn
import Derived.Maps.Views
import Derived.Laws.OwnMore
import Derived.Maps.OwnSet
import Derived.Laws.IdiomStrings
import Derived.Test.YtdoljfkjdfaakaaGreatRows
import Derived.ProofKit
import Derived.OpenShut
import Derived.Carry
import Derived.OrdersIn
import Derived.Great.BuildSlice
import Derived.ArgAppend
import Derived.Laws.MakeOwn
import Derived.Laws.Cover3
import Derived.Laws.CopyRow
import Derived.MapKept
import Derived.Maps.RangeRun
import Derived.DeepKeys5
import Derived.WideKeyRuns
set_option linter.unusedVariables false
set_option linter.unusedSimpArgs false
set_option linter.unnecessarySimpa false
set_option linter.all false

namespace Go.Proofs.YtdoljfkjdfaakaaGreat
set_option maxRecDepth 100000
open Go.RowKit

theorem Ext.drN {a b : World} (h : Ext a b) (n : Nat) : Ext a (b.drewN n) := ⟨h.os, h.tape, h.output, h.size, h.block⟩
section
variable {w w' : World} {A : Option Addr} {xs : List Value}
end

/-! ### append onto a row of the call's own, from a slice that reads so (nil let in) -/
section
variable {P : Program} (w : World)

end

/-- Two arguments that were boxed, and draws behind them. -/
theorem two_boxes (w : World) (a b : Array Value) (t t' : TypeId) (n : Nat) : Ext w (((w.alloc (.cells a t)).alloc (.cells b t')).drewN n) ∧
    (∀ j, (((w.alloc (.cells a t)).alloc (.cells b t')).drewN n).cell? ⟨w.heap.size, j, none⟩ = a[j]?) ∧ (∀ j, (((w.alloc (.cells a t)).alloc (.cells b t')).drewN n).cell? ⟨w.heap.size + 1, j, none⟩ = b[j]?) := by
  refine ⟨(((Ext.rfl' w).al _).al _).drN _, fun j => ?_, fun j => ?_⟩
  · show ((w.alloc (.cells a t)).alloc (.cells b t')).cell? _ = _
    rw [World.cell?_alloc_past _ _ _ (by simp), cell_of_row _ _ _ _ _ _ (heap_alloc_new w _)]
  · show ((w.alloc (.cells a t)).alloc (.cells b t')).cell? _ = _
    have h := heap_alloc_new (w.alloc (.cells a t)) (.cells b t')
    simp only [World.size_alloc] at h
    rw [cell_of_row _ _ _ _ _ _ h]

/-! ### what a call leaves -/
/-! ### a slice of a slice -/
section
variable {P : Program} (w : World)
end
end Go.Proofs.YtdoljfkjdfaakaaGreat


namespace Go.Proofs.YtdoljfkjdfaakaaGreat
set_option maxRecDepth 100000
open Go.RowKit

section
variable {P : Program} {ops : Array Oper} {C : World → Prop} {md : Region.Mode}

def anyC (P : Program) (md : Region.Mode) (ops : Array Oper) (C : World → Prop) (Q : Act → World → Prop) : Nat → Array Bool → Act → World → Prop
  | 0, listed, a, w => Region.ready md ops listed = [] ∧ Q a w
  | fuel + 1, listed, a, w => (Region.ready md ops listed = [] → Q a w) ∧ ∀ i ∈ Region.ready md ops listed, opC P ops C i (anyC P md ops C Q fuel (listed.setIfInBounds i true)) a w

theorem opC_mono {i : Nat} {a : Act} {w : World} {K K' : Act → World → Prop} (hw : C w) (h : ∀ a w, C w → K a w → K' a w) (hh : opC P ops C i K a w) : opC P ops C i K' a w := by
  unfold opC at *
  split
  · rename_i ho; simp only [ho] at hh; exact h _ _ hw hh
  · rename_i o ho
    simp only [ho] at hh
    split
    · rename_i hwn; simp only [hwn, if_true] at hh; exact Oper.wp_mono (fun a w hk => ⟨hk.1, h a w hk.1 hk.2⟩) hh
    · rename_i hwn; simp only [hwn] at hh; exact h _ _ hw hh

theorem wp_weak {o : Oper} {a : Act} {w : World} {K : Act → World → Prop} {Q : Exit → Act → World → Prop} (h : o.wp P a w K (fun _ _ _ => False)) : o.wp P a w K Q := by
  unfold Oper.wp at *
  generalize (execOp a.eval o).run P w = r at *
  cases r with
  | ok n w' =>
    cases n <;> simp only [Oper.upon] at h ⊢ <;> first | exact h | skip
    refine Calls.mono h fun e w'' he => ?_
    cases e with
    | returned u => exact he
    | panicked c => exact he.elim
    | outgrown => obtain ⟨_, _, hf⟩ := he; exact hf.elim
  | halt x w' => cases x <;> simp only [Oper.upon] at h ⊢

theorem any_of_anyC {Q : Exit → Act → World → Prop} : ∀ (fuel : Nat) (listed : Array Bool) (a : Act) (w : World), anyC P md ops C (fun a w => Q .normal a w) fuel listed a w → wpAny P md ops Q fuel listed a w
  | 0, _, _, _, h => h
  | fuel + 1, listed, a, w, h => ⟨h.1, fun i hi => by
      have h1 := h.2 i hi
      unfold opC at h1
      unfold wpOp
      split
      · rename_i ho; simp only [ho] at h1; exact any_of_anyC fuel _ _ _ h1
      · rename_i o ho
        simp only [ho] at h1
        split
        · rename_i hw
          simp only [hw, if_true] at h1
          exact .inl (wp_weak (Oper.wp_mono (fun a w hk => any_of_anyC fuel _ _ _ hk.2) h1))
        · rename_i hw
          simp only [hw] at h1
          exact any_of_anyC fuel _ _ _ h1⟩

theorem YC.of_same {o : Oper} {v : Value} {a a' : Act} (hy : YC P ops C o v a) (he : execOp a'.eval o = execOp a.eval o)
    (hw : Region.wanted o (yielded ops a'.tmps) = Region.wanted o (yielded ops a.tmps)) : YC P ops C o v a' := by
  unfold YC at *
  rw [he, hw]
  exact hy

theorem opC_put {j : Nat} {oi oj : Oper} {v : Value} (hj : ops[j]? = some oj) (hap : oi.apart ops oj = true)
    (hsi : ∀ cs b, oi.op ≠ .select cs b) (hsj : ∀ cs b, oj.op ≠ .select cs b) {K : Act → World → Prop} {a : Act} {w : World}
    (hy : YC P ops C oi v a) (h : opC P ops C j K (a.put oi.dst v) w) : opC P ops C j (fun a' w' => YC P ops C oi v a' ∧ K (a'.put oi.dst v) w') a w := by
  obtain ⟨h1, h2, h3⟩ := Oper.apart_spec hap
  have keep : ∀ (a : Act), YC P ops C oi v a → ∀ u, YC P ops C oi v (a.put oj.dst u) := fun a hy u =>
    hy.of_same (execOp_put oi hsi a oj.dst u h3) (wanted_put oi a oj.dst u h3)
  have keepD : ∀ d, YC P ops C oi v { a with defers := d :: a.defers } := fun d => hy.of_same rfl rfl
  unfold opC at *
  simp only [hj] at *
  rw [wanted_put oj a oi.dst v h1] at h
  split
  · rename_i hw
    simp only [hw, if_true] at h
    unfold Oper.wp at *
    rw [execOp_put oj hsj a oi.dst v h1] at h
    generalize (execOp a.eval oj).run P w = r at *
    cases r with
    | ok n w' =>
      cases n <;> simp only [Oper.upon] at h ⊢
      case value u => exact ⟨h.1, keep a hy u, by rw [← Act.put_comm a v u h2]; exact h.2⟩
      case skip => exact ⟨h.1, keep a hy _, by rw [← Act.put_comm a v undef h2]; exact h.2⟩
      case defer d =>
        refine ⟨h.1, keep _ (keepD d) _, ?_⟩
        rw [← Act.put_comm _ v undef h2, ← Act.put_defers]
        exact h.2
      case enter f args =>
        refine Calls.mono h fun e w'' he => ?_
        cases e with
        | returned u => exact ⟨he.1, keep a hy u, by rw [← Act.put_comm a v u h2]; exact he.2⟩
        | panicked c => exact he
        | outgrown => exact he
      case row row args => exact Rows.mono h fun u w'' he => ⟨he.1, keep a hy u, by rw [← Act.put_comm a v u h2]; exact he.2⟩
    | halt x w' => cases x <;> simp only [Oper.upon] at h ⊢
  · rename_i hw
    simp only [hw] at h
    exact ⟨keep a hy _, by rw [← Act.put_comm a v undef h2]; exact h⟩

theorem anyC_first {Q : Act → World → Prop} {i : Nat} {oi : Oper} {v : Value} (hi : ops[i]? = some oi) (hsel : ∀ (j : Nat) (o : Oper) cs b, ops[j]? = some o → o.op ≠ .select cs b) :
    ∀ (fuel : Nat) (listed : Array Bool) (a : Act) (w : World),
      (∀ j oj, ops[j]? = some oj → j ≠ i → listed.getD j true = false → (∀ e ∈ oj.after, Region.binds md e = true → e.on ≠ i) → oi.apart ops oj = true) →
      i ∈ Region.ready md ops listed → YC P ops C oi v a → C w →
      anyC P md ops C Q fuel (listed.setIfInBounds i true) (a.put oi.dst v) w → anyC P md ops C Q (fuel + 1) listed a w := by
  intro fuel
  induction fuel with
  | zero =>
    intro listed a w _ hr hy hC H
    refine ⟨fun h => (by rw [h] at hr; cases hr), fun j hj => ?_⟩
    by_cases hji : j = i
    · subst hji; exact hy.opC hi hC H
    · have := ready_mono hj hji
      rw [H.1] at this
      cases this
  | succ fuel ih =>
    intro listed a w hfree hr hy hC H
    refine ⟨fun h => (by rw [h] at hr; cases hr), fun j hj => ?_⟩
    by_cases hji : j = i
    · subst hji; exact hy.opC hi hC H
    · have h1 := H.2 j (ready_mono hj hji)
      obtain ⟨hjun, oj, hoj, hall⟩ := mem_ready.1 hj
      have hnot : ∀ e ∈ oj.after, Region.binds md e = true → e.on ≠ i := fun e he hb heq => by
        have h1 := hall e he hb
        have h0 := (mem_ready.1 hr).1
        rw [heq] at h1
        rcases Nat.lt_or_ge i listed.size with h' | h'
        · simp [h'] at h0 h1; rw [h0] at h1; cases h1
        · simp [Array.getElem?_eq_none h'] at h1
      have h2 := opC_put hoj (hfree j oj hoj hji hjun hnot) (fun cs b => hsel i oi cs b hi) (fun cs b => hsel j oj cs b hoj) hy h1
      have hfree' : ∀ k ok, ops[k]? = some ok → k ≠ i → (listed.setIfInBounds j true).getD k true = false →
          (∀ e ∈ ok.after, Region.binds md e = true → e.on ≠ i) → oi.apart ops ok = true := fun k ok hk hki hun hno => by
        refine hfree k ok hk hki ?_ hno
        by_cases hjk : j = k
        · subst hjk; exact hjun
        · rw [getD_set_ne true hjk] at hun; exact hun
      refine opC_mono hC (fun a' w' hC' h3 => ih (listed.setIfInBounds j true) a' w' hfree' (ready_mono hr (Ne.symm hji)) h3.1 hC' ?_) h2
      rw [Array.setIfInBounds_comm _ _ hji]
      exact h3.2

/-- The order that is written down: an index, and whether it is taken as one that yields in every world of the class. -/
def schedFrom (md : Region.Mode) (ops : Array Oper) : List (Nat × Bool) → Array Bool → Bool
  | [], listed => Region.ready md ops listed == []
  | (i, q) :: rest, listed => (if q then (Region.ready md ops listed).contains i && Region.free md ops listed i else Region.ready md ops listed == [i]) && schedFrom md ops rest (listed.setIfInBounds i true)
def schedB (md : Region.Mode) (ops : Array Oper) (ord : List (Nat × Bool)) : Bool := Region.noSelect ops && ord.length == ops.size && schedFrom md ops ord (Array.replicate ops.size false)

theorem anyC_of_wpS {Q : Act → World → Prop} (hs : Region.noSelect ops = true) : ∀ (ord : List (Nat × Bool)) (listed : Array Bool) (a : Act) (w : World), schedFrom md ops ord listed = true → C w →
    wpS P ops C Q ord a w → anyC P md ops C Q ord.length listed a w
  | [], listed, a, w, hB, _, h => ⟨by simpa [schedFrom] using hB, h⟩
  | (i, q) :: rest, listed, a, w, hB, hC, h => by
    simp only [schedFrom, Bool.and_eq_true] at hB
    obtain ⟨h1, h2⟩ := hB
    cases q with
    | true =>
      simp only [if_true, Bool.and_eq_true] at h1
      have hr : i ∈ Region.ready md ops listed := by simpa using h1.1
      obtain ⟨_, o, ho, _⟩ := mem_ready.1 hr
      simp only [wpS, ho, if_true] at h
      obtain ⟨v, hy, hk⟩ := h
      exact anyC_first ho (Region.noSelect_spec hs) rest.length listed a w (Region.free_spec ho h1.2) hr hy hC (anyC_of_wpS hs rest _ _ _ h2 hC hk)
    | false =>
      have hr : Region.ready md ops listed = [i] := by simpa using h1
      have hm : i ∈ Region.ready md ops listed := by rw [hr]; simp
      obtain ⟨_, o, ho, _⟩ := mem_ready.1 hm
      simp only [wpS, ho, Bool.false_eq_true, if_false] at h
      refine ⟨fun h0 => (by rw [hr] at h0; cases h0), fun j hj => ?_⟩
      rw [hr] at hj
      obtain rfl : j = i := by simpa using hj
      exact opC_mono hC (fun a' w' hC' hk => anyC_of_wpS hs rest _ _ _ h2 hC' hk) h

theorem wp_region_sched {id : Nat} {Q : Exit → Act → World → Prop} {a : Act} {w : World} {l : List Oper} (ord : List (Nat × Bool)) (hm : P.follows .mixedOrders = true) (hB : schedB .any l.toArray ord = true) (C : World → Prop) (hC : C w.drew)
    (h : wpS P l.toArray C (fun a w => Q .normal a w) ord a w.drew) : (Code.region id l.toArray true).wp P Q a w := by
  simp only [schedB, Bool.and_eq_true, beq_iff_eq] at hB
  obtain ⟨⟨h1, h2⟩, h3⟩ := hB
  refine wp_region_any hm (any_of_anyC (C := C) _ _ _ _ ?_)
  rw [← h2]
  exact anyC_of_wpS h1 ord _ a w.drew (by rw [h2]; exact h3) hC h

/-! ### the steps -/
theorem sE {Q : Act → World → Prop} {a : Act} {w : World} (h : Q a w) : wpS P ops C Q [] a w := h
theorem sQ {l : List Oper} {Q : Act → World → Prop} {i : Nat} {o : Oper} {rest : List (Nat × Bool)} {a : Act} {w : World} (hi' : l[i]? = some o) (hw : Region.wanted o (yielded l.toArray a.tmps) = true) (v : Value)
    (hv : ∀ w', C w' → (execOp a.eval o).run P w' = .ok (.value v) w') (h : wpS P l.toArray C Q rest (a.put o.dst v) w) : wpS P l.toArray C Q ((i, true) :: rest) a w := by
  have hi : l.toArray[i]? = some o := by simpa using hi'
  simp only [wpS, hi, if_true]
  exact ⟨v, .inl ⟨hw, hv⟩, h⟩
theorem sN {l : List Oper} {Q : Act → World → Prop} {i : Nat} {o : Oper} {rest : List (Nat × Bool)} {a : Act} {w : World} (hi' : l[i]? = some o) (hw : Region.wanted o (yielded l.toArray a.tmps) = false)
    (h : wpS P l.toArray C Q rest (a.put o.dst undef) w) : wpS P l.toArray C Q ((i, true) :: rest) a w := by
  have hi : l.toArray[i]? = some o := by simpa using hi'
  simp only [wpS, hi, if_true]
  exact ⟨undef, .inr ⟨hw, rfl⟩, h⟩
theorem sL {l : List Oper} {Q : Act → World → Prop} {i : Nat} {o : Oper} {rest : List (Nat × Bool)} {a : Act} {w : World} (hi' : l[i]? = some o) (hw : Region.wanted o (yielded l.toArray a.tmps) = true)
    (h : wpList P l.toArray (SQ C (wpS P l.toArray C Q rest)) [o] a w) : wpS P l.toArray C Q ((i, false) :: rest) a w := by
  have hi : l.toArray[i]? = some o := by simpa using hi'
  simp only [wpS, hi, Bool.false_eq_true, if_false, opC, hw, if_true]
  simp only [wpList, hw, if_true] at h
  have hl : o.wp P a w (fun a w => C w ∧ wpS P l.toArray C Q rest a w) (SQ C (wpS P l.toArray C Q rest)) := by
    rcases h with h | ⟨_, _, _, hf⟩
    · exact h
    · exact hf.elim
  unfold Oper.wp at *
  generalize (execOp a.eval o).run P w = r at *
  cases r with
  | ok n w' =>
    cases n <;> simp only [Oper.upon] at hl ⊢ <;> exact hl
  | halt x w' => cases x <;> simp only [Oper.upon] at hl ⊢ <;> exact hl
theorem sM {l : List Oper} {Q : Act → World → Prop} {i : Nat} {o : Oper} {rest : List (Nat × Bool)} {a : Act} {w : World} (hi' : l[i]? = some o) (hw : Region.wanted o (yielded l.toArray a.tmps) = false)
    (h : wpS P l.toArray C Q rest (a.put o.dst undef) w) : wpS P l.toArray C Q ((i, false) :: rest) a w := by
  have hi : l.toArray[i]? = some o := by simpa using hi'
  simp only [wpS, hi, Bool.false_eq_true, if_false, opC, hw]
  exact h
/-! ### two operations that may come up in either order -/
end
end Go.Proofs.YtdoljfkjdfaakaaGreat


namespace Go.Proofs.YtdoljfkjdfaakaaGreat
set_option maxRecDepth 100000


theorem wtL_app (a b : List T) : wtL (a ++ b) = wtL a + wtL b := by
  induction a with
  | nil => simp [wtL]
  | cons t a ih => simp only [List.cons_append, wtL, ih]; omega
theorem wtL_used (t : T) : wtL t.used ≤ wtL t.ar := by unfold T.used; split <;> simp [wtL]
mutual
theorem size_wt : ∀ t : T, sizeT t ≤ wt t
  | .mk k i s ar => by
    simp only [sizeT, wt]
    have := sizeL_wt ar
    split <;> omega
theorem sizeL_wt : ∀ l : List T, sizeL l ≤ wtL l
  | [] => by simp [sizeL]
  | t :: l => by
    simp only [sizeL, wtL]
    have := size_wt t
    have := sizeL_wt l
    omega
end
mutual
theorem depth_wt : ∀ t : T, depthT t ≤ wt t
  | .mk k i s ar => by
    simp only [depthT, wt]
    have := depthL_wt ar
    split <;> omega
theorem depthL_wt : ∀ l : List T, depthL l ≤ wtL l
  | [] => by simp [depthL]
  | t :: l => by
    simp only [depthL, wtL]
    have := depth_wt t
    have := depthL_wt l
    omega
end
theorem wt_take (l : List T) (k : Nat) : wtL (l.take k) ≤ wtL l := by
  have := wtL_app (l.take k) (l.drop k)
  rw [List.take_append_drop] at this
  omega

end Go.Proofs.YtdoljfkjdfaakaaGreat


namespace Go.Proofs.YtdoljfkjdfaakaaGreat
set_option maxRecDepth 100000
open Go.RowKit

theorem is_int {k : IntKind} {a b : Int} {w : World} (h : a = b) : Is (.int k b) (.int k a) w := by rw [h]; rfl

/-- A slice value over these terms. -/
def IsSl (ts : List T) (v : Value) (w : World) : Prop := SlT w ts v

theorem refArgs_any (t : T) (v : Value) (w : World) (hv : VT w t v) : Calls Tryz.prog 200 #[v] w (Ret w (IsSl t.used)) := by
  obtain ⟨sl, rfl, hs, -⟩ := hv.open_
  by_cases h : t.k = 2
  · have hb : (t.k == 2) = true := by simpa using h
    have HU : Hid (t.used = t.ar) := by unfold T.used; rw [if_pos h]; exact Lib.hid rfl
    clear h
    obtain ⟨A, c, xs, rfl, hr⟩ := hs
    go_enter Tryz.func200, Tryz.ntmps200
    go_wp2
    go_ret
    rw [HU.out]
    exact Ret.mk (R := IsSl t.ar) (SlT.ext ⟨A, c, xs, rfl, hr⟩ ((Ext.rfl' w).al _)) ((Ext.rfl' w).al _)
  · have hb : (t.k == 2) = false := by simpa using h
    have HU : Hid (t.used = []) := by unfold T.used; rw [if_neg h]; exact Lib.hid rfl
    clear h
    go_enter Tryz.func200, Tryz.ntmps200
    go_wp2
    go_ret
    rw [HU.out]
    exact Ret.mk (R := IsSl []) ⟨none, 0, [], rfl, by simp, by omega, Rd.nil _ _, CL.nil _⟩ ((Ext.rfl' w).al _)

/-- A count over the terms before place k. -/
def CountRel (W : World) (f : List T → Nat) (l : List T) (v3 v9 : Value) (wr : World) : Prop :=
  ∃ k : Nat, v3 = .int .i64 (f (l.take k) : Nat) ∧ v9 = .int .i64 (k : Int) ∧ k ≤ l.length ∧ Ext W wr

set_option maxRecDepth 100000 in
set_option maxHeartbeats 800000 in
theorem refSize_any : ∀ (n : Nat) (t : T) (v : Value) (w : World), wt t ≤ n → n ≤ 1000000000 → VT w t v → Calls Tryz.prog 150 #[v] w (Ret w (Is (.int .i64 (sizeT t : Nat))))
  | 0, t, v, w, hn, _, _ => by rw [wt_eq] at hn; omega
  | n + 1, t, v, w, hn, hM, hv => by
    have IH := hide (refSize_any n)
    have hv' := hv
    obtain ⟨sl, rfl, hs, -⟩ := hv.open_
    have HS := Lib.hid (sizeT_eq t)
    have hwu : wtL t.used ≤ n := by have := wtL_used t; rw [wt_eq] at hn; omega
    have hwm : ∀ u, u ∈ t.used → wt u ≤ n := fun u hu => by have := wt_mem hu; omega
    have HM := Lib.hid hwm
    clear hwm hn hs hv
    go_enter Tryz.func150, Tryz.ntmps150
    go_wp2_with fail
    refine (refArgs_any t _ _ (hv'.ext ((Ext.rfl' w).al _))).mono ?_
    rintro e w1 ⟨v, rfl, hsl, he0⟩
    have HZ : Hid (wtL t.used ≤ n) := hwu
    clear hwu hv'
    generalize t.used = l at *
    obtain ⟨A, c, xs, rfl, hr⟩ := hsl
    have hll : l.length ≤ n := by have := len_wtL l; have := HZ.out; omega
    have he : Ext w w1 := ((Ext.rfl' w).al _).tr he0
    clear he0
    go_wp2
    go_loopw [3, 5] (fun v3 v9 wr => CountRel w1 (fun l => 1 + sizeL l) l v3 v9 wr) (fun _ v9 _ => l.length - (intOf v9).toNat)
    case atStart => exact ⟨0, by simp [sizeL], rfl, by omega, Ext.rfl' _⟩
    case round =>
      obtain ⟨k, rfl, rfl, hk, hE⟩ := hrel
      have hb1 : sizeL (l.take k) ≤ 1000000000 := by
        have h1 := wt_take l k
        have h2 := sizeL_wt (l.take k)
        have h3 := HZ.out
        omega
      by_cases hlt : k < l.length
      · obtain ⟨u, hu⟩ : ∃ u, l[k]? = some u := ⟨l[k], List.getElem?_eq_getElem hlt⟩
        obtain ⟨b, o, sl, rfl, c0, c1, c2, c3, hs, hvt⟩ := (SlT.ext ⟨A, c, xs, rfl, hr⟩ hE : SlT wr l _).at_ hu
        obtain ⟨A2, d2, xs2, rfl, -⟩ := hs
        have HT := Lib.hid (take_snocT hu)
        have HU : Hid (wt u ≤ n) := HM.out u (List.mem_of_getElem? hu)
        clear hu
        go_wp2_with fail
        refine ((unhide IH) u _ _ HU.out (by omega) hvt).mono ?_
        rintro e w2 ⟨v, rfl, hv2, he2⟩
        obtain rfl : v = _ := hv2
        have hE2 := hE.tr he2
        have hb2 : sizeT u ≤ 1000000000 := by have := size_wt u; have := HU.out; omega
        go_wp2
        go_roundw
        case rel => exact ⟨k + 1, congrArg (Value.int .i64) (show _ = ((1 + sizeL (l.take (k + 1)) : Nat) : Int) by rw [HT.out, sizeL_app]; simp only [sizeL]; omega), by go_num, by omega, hE2⟩
        case measure => simp [intOf]; omega
      · go_wp2
        go_ret
        rw [HS.out]
        exact Ret.mk (is_int (by rw [List.take_of_length_le (by omega)])) (he.tr hE)
set_option maxRecDepth 100000 in
set_option maxHeartbeats 800000 in
theorem refDepth_any : ∀ (n : Nat) (t : T) (v : Value) (w : World), wt t ≤ n → n ≤ 1000000000 → VT w t v → Calls Tryz.prog 195 #[v] w (Ret w (Is (.int .i64 (depthT t : Nat))))
  | 0, t, v, w, hn, _, _ => by rw [wt_eq] at hn; omega
  | n + 1, t, v, w, hn, hM, hv => by
    have IH := hide (refDepth_any n)
    have hv' := hv
    obtain ⟨sl, rfl, hs, -⟩ := hv.open_
    have HS := Lib.hid (depthT_eq t)
    have hwu : wtL t.used ≤ n := by have := wtL_used t; rw [wt_eq] at hn; omega
    have hwm : ∀ u, u ∈ t.used → wt u ≤ n := fun u hu => by have := wt_mem hu; omega
    have HM := Lib.hid hwm
    clear hwm hn hs hv
    go_enter Tryz.func195, Tryz.ntmps195
    go_wp2_with fail
    refine (refArgs_any t _ _ (hv'.ext ((Ext.rfl' w).al _))).mono ?_
    rintro e w1 ⟨v, rfl, hsl, he0⟩
    have HZ : Hid (wtL t.used ≤ n) := hwu
    clear hwu hv'
    generalize t.used = l at *
    obtain ⟨A, c, xs, rfl, hr⟩ := hsl
    have hll : l.length ≤ n := by have := len_wtL l; have := HZ.out; omega
    have he : Ext w w1 := ((Ext.rfl' w).al _).tr he0
    clear he0
    go_wp2
    go_loopw [3, 5] (fun v3 v9 wr => CountRel w1 depthL l v3 v9 wr) (fun _ v9 _ => l.length - (intOf v9).toNat)
    case atStart => exact ⟨0, by simp [depthL], rfl, by omega, Ext.rfl' _⟩
    case round =>
      obtain ⟨k, rfl, rfl, hk, hE⟩ := hrel
      have hb1 : depthL (l.take k) ≤ 1000000000 := by
        have h1 := wt_take l k
        have h2 := depthL_wt (l.take k)
        have h3 := HZ.out
        omega
      have hbl : depthL l ≤ 1000000000 := by have h2 := depthL_wt l; have h3 := HZ.out; omega
      by_cases hlt : k < l.length
      · obtain ⟨u, hu⟩ : ∃ u, l[k]? = some u := ⟨l[k], List.getElem?_eq_getElem hlt⟩
        obtain ⟨b, o, sl, rfl, c0, c1, c2, c3, hs, hvt⟩ := (SlT.ext ⟨A, c, xs, rfl, hr⟩ hE : SlT wr l _).at_ hu
        obtain ⟨A2, d2, xs2, rfl, -⟩ := hs
        have HT := Lib.hid (take_snocT hu)
        have HU : Hid (wt u ≤ n) := HM.out u (List.mem_of_getElem? hu)
        clear hu
        go_wp2_with fail
        refine ((unhide IH) u _ _ HU.out (by omega) hvt).mono ?_
        rintro e w2 ⟨v, rfl, hv2, he2⟩
        obtain rfl : v = _ := hv2
        have hE2 := hE.tr he2
        have hb2 : depthT u ≤ 1000000000 := by have := depth_wt u; have := HU.out; omega
        go_wp2
        go_roundw
        case rel => exact ⟨k + 1, congrArg (Value.int .i64) (show _ = ((depthL (l.take (k + 1)) : Nat) : Int) by rw [HT.out, depthL_app]; simp only [depthL]; omega), by go_num, by omega, hE2⟩
        case measure => simp [intOf]; omega
      · go_wp2
        go_ret
        rw [HS.out]
        exact Ret.mk (is_int (by rw [List.take_of_length_le (by omega)]; omega)) (he.tr hE)
end Go.Proofs.YtdoljfkjdfaakaaGreat


namespace Go.Proofs.YtdoljfkjdfaakaaGreat
set_option maxRecDepth 100000
open Go.RowKit


theorem ints_any (a b : Int) (w : World) : Calls Tryz.prog 233 #[.int .i64 a, .int .i64 b] w (SameI w (cmpI a b)) := by
  by_cases h1 : a < b
  · have HF : Hid (cmpI a b = -1) := by unfold cmpI; rw [if_pos h1]; exact Lib.hid rfl
    go_enter Tryz.func233, Tryz.ntmps233
    go_wp2
    go_ret
    exact SameI.mk HF.out.symm
  · by_cases h2 : b < a
    · have HF : Hid (cmpI a b = 1) := by unfold cmpI; rw [if_neg h1, if_pos h2]; exact Lib.hid rfl
      go_enter Tryz.func233, Tryz.ntmps233
      go_wp2
      go_ret
      exact SameI.mk HF.out.symm
    · have HF : Hid (cmpI a b = 0) := by unfold cmpI; rw [if_neg h1, if_neg h2]; exact Lib.hid rfl
      go_enter Tryz.func233, Tryz.ntmps233
      go_wp2
      go_ret
      exact SameI.mk HF.out.symm

theorem texts_any (a b : ByteArray) (w : World) : Calls Tryz.prog 232 #[.string a, .string b] w (SameI w (cmpS a b)) := by
  by_cases h1 : bLess a b = true
  · have HF : Hid (cmpS a b = -1) := by unfold cmpS; rw [if_pos h1]; exact Lib.hid rfl
    unfold bLess at h1
    go_enter Tryz.func232, Tryz.ntmps232
    go_wp2
    go_ret
    exact SameI.mk HF.out.symm
  · by_cases h2 : bLess b a = true
    · have HF : Hid (cmpS a b = 1) := by unfold cmpS; rw [if_neg h1, if_pos h2]; exact Lib.hid rfl
      have h1 : bLess a b = false := by simpa using h1
      unfold bLess at h1 h2
      go_enter Tryz.func232, Tryz.ntmps232
      go_wp2
      go_ret
      exact SameI.mk HF.out.symm
    · have HF : Hid (cmpS a b = 0) := by unfold cmpS; rw [if_neg h1, if_neg h2]; exact Lib.hid rfl
      have h1 : bLess a b = false := by simpa using h1
      have h2 : bLess b a = false := by simpa using h2
      unfold bLess at h1 h2
      go_enter Tryz.func232, Tryz.ntmps232
      go_wp2
      go_ret
      exact SameI.mk HF.out.symm

theorem class_any (t : T) (v : Value) (w : World) (hv : VT w t v) : Calls Tryz.prog 234 #[v] w (Ret w (Is (.int .i64 (rankK t.k)))) := by
  obtain ⟨sl, rfl, -, -⟩ := hv.open_
  by_cases h1 : t.k = 1
  · have HF : Hid (rankK t.k = 0) := by unfold rankK; rw [if_pos h1]; exact Lib.hid rfl
    have b1 : (t.k == 1) = true := by simpa using h1
    clear h1 hv
    go_enter Tryz.func234, Tryz.ntmps234
    go_wp2
    go_ret
    rw [HF.out]
    exact Ret.mk rfl ((Ext.rfl' w).al _)
  by_cases h0 : t.k = 0
  · have HF : Hid (rankK t.k = 1) := by unfold rankK; rw [if_neg h1, if_pos h0]; exact Lib.hid rfl
    have b1 : (t.k == 1) = false := by simpa using h1
    have b0 : (t.k == 0) = true := by simpa using h0
    clear h1 h0 hv
    go_enter Tryz.func234, Tryz.ntmps234
    go_wp2
    go_ret
    rw [HF.out]
    exact Ret.mk rfl ((Ext.rfl' w).al _)
  by_cases h2 : t.k = 2
  · have HF : Hid (rankK t.k = 2) := by unfold rankK; rw [if_neg h1, if_neg h0, if_pos h2]; exact Lib.hid rfl
    have b1 : (t.k == 1) = false := by simpa using h1
    have b0 : (t.k == 0) = false := by simpa using h0
    have b2 : (t.k == 2) = true := by simpa using h2
    clear h1 h0 h2 hv
    go_enter Tryz.func234, Tryz.ntmps234
    go_wp2
    go_ret
    rw [HF.out]
    exact Ret.mk rfl ((Ext.rfl' w).al _)
  have HF : Hid (rankK t.k = 3) := by unfold rankK; rw [if_neg h1, if_neg h0, if_neg h2]; exact Lib.hid rfl
  have b1 : (t.k == 1) = false := by simpa using h1
  have b0 : (t.k == 0) = false := by simpa using h0
  have b2 : (t.k == 2) = false := by simpa using h2
  clear h1 h0 h2 hv
  go_enter Tryz.func234, Tryz.ntmps234
  go_wp2
  go_ret
  rw [HF.out]
  exact Ret.mk rfl ((Ext.rfl' w).al _)
end Go.Proofs.YtdoljfkjdfaakaaGreat


namespace Go.Proofs.YtdoljfkjdfaakaaGreat
set_option maxRecDepth 100000
open Go.RowKit

theorem lower_any (c : Nat) (w : World) : Calls Tryz.prog 212 #[.int .u8 c] w (SameB w (isLow c)) := by
  go_enter Tryz.func212, Tryz.ntmps212
  go_wp2
  all_goals go_ret
  all_goals refine sameB_if ?_
  all_goals (unfold isLow; simp only [decide_eq_true_eq, Bool.false_eq_true, false_iff]; omega)
theorem upper_any (c : Nat) (w : World) : Calls Tryz.prog 235 #[.int .u8 c] w (SameB w (isUp c)) := by
  go_enter Tryz.func235, Tryz.ntmps235
  go_wp2
  all_goals go_ret
  all_goals refine sameB_if ?_
  all_goals (unfold isUp; simp only [decide_eq_true_eq, Bool.false_eq_true, false_iff]; omega)

theorem refReserved_any (s : ByteArray) (w : World) : Calls Tryz.prog 213 #[.string s] w (SameB w (reserved s)) := by
  go_enter Tryz.func213, Tryz.ntmps213
  go_wp2
  all_goals go_ret
  all_goals refine sameB_if ?_
  all_goals (unfold reserved; simp [*])
theorem refOperator_any (s : ByteArray) (w : World) : Calls Tryz.prog 227 #[.string s] w (SameB w (isOp s)) := by
  go_enter Tryz.func227, Tryz.ntmps227
  go_wp2
  all_goals go_ret
  all_goals refine sameB_if ?_
  all_goals (unfold isOp; simp [*])
theorem not_word {s : ByteArray} {k : Nat} (hk : k < s.size) (hc : isW (s[k]'hk).toNat = false) : isWord s = false := by
  unfold isWord
  rw [decide_eq_false_iff_not]
  rintro ⟨-, -, h⟩
  rw [h k hk (Nat.zero_le _)] at hc
  simp at hc
theorem word_end {s : ByteArray} (h : UpTo s s.size) : isWord s = decide (1 ≤ s.size ∧ s.size ≤ 40) := by
  unfold isWord
  have : AllW s 0 := fun j hj _ => h j hj hj
  rw [Bool.eq_iff_iff]
  simp [this]
def WordRel (w : World) (s : ByteArray) (v3 : Value) (w' : World) : Prop := ∃ k : Nat, v3 = .int .i64 k ∧ k ≤ s.size ∧ Hid (UpTo s k) ∧ w = w'

theorem wrap_next {s : ByteArray} (hs : Hid (s.size ≤ 9223372036854775807)) {k : Nat} (hk : k < s.size) : Hid (wrap64 ((k : Int) + 1) = ((k + 1 : Nat) : Int)) := by
  have := hs.out
  refine Lib.hid ?_
  unfold wrap64
  omega
theorem refWord_any (s : ByteArray) (hs : Hid (s.size ≤ 9223372036854775807)) (w : World) : Calls Tryz.prog 211 #[.string s] w (SameB w (isWord s)) := by
  go_enter Tryz.func211, Tryz.ntmps211
  go_wp2
  go_loopw [3] (WordRel w s) (fun v3 _ => s.size - (intOf v3).toNat)
  case atStart => exact ⟨0, rfl, by omega, Lib.hid (fun j _ h => absurd h (by omega)), rfl⟩
  case round =>
    obtain ⟨k, rfl, hk, hi, rfl⟩ := hrel
    by_cases hlt : k < s.size
    · obtain ⟨c, hc⟩ : ∃ c, (s[k]'hlt).toNat = c := ⟨_, rfl⟩
      have hW : Hid (isW c = true → UpTo s (k + 1)) := Lib.hid fun h => hi.out.step hlt (by rw [hc]; exact h)
      have hN : Hid (isW c = false → isWord s = false) := Lib.hid fun h => not_word hlt (by rw [hc]; exact h)
      have hwr := wrap_next hs hlt
      have hlo := hide (lower_any c)
      have hup := hide (upper_any c)
      cases h1 : isLow c <;> rw [h1] at hlo
      · cases h2 : isUp c <;> rw [h2] at hup
        · have hQ : Hid (isW c = (c == 95 || isDig c)) := Lib.hid (by rw [isW_eq, h1, h2]; rfl)
          clear h1 h2
          go_wp2_with fail
          try simp only [hc]
          refine ((unhide hlo) _).mono ?_
          rintro e w1 ⟨rfl, rfl⟩
          go_wp2_with fail
          try simp only [hc]
          refine ((unhide hup) _).mono ?_
          rintro e w1 ⟨rfl, rfl⟩
          go_wp2
          · have HF : Hid (isWord s = false) := by
              refine Lib.hid (hN.out ?_)
              rw [hQ.out]; unfold isDig; simp_all; omega
            go_ret
            exact SameB.mk HF.out.symm
          · have HI : Hid (UpTo s (k + 1)) := by
              refine Lib.hid (hW.out ?_)
              rw [hQ.out]; unfold isDig; simp_all; omega
            refine ⟨⟨k + 1, by rw [hwr.out], by omega, HI, rfl⟩, ?_⟩
            rw [hwr.out]; simp [intOf]; omega
          · have HI : Hid (UpTo s (k + 1)) := by
              refine Lib.hid (hW.out ?_)
              rw [hQ.out]; unfold isDig; simp_all; omega
            refine ⟨⟨k + 1, by rw [hwr.out], by omega, HI, rfl⟩, ?_⟩
            rw [hwr.out]; simp [intOf]; omega
          · have HF : Hid (isWord s = false) := by
              refine Lib.hid (hN.out ?_)
              rw [hQ.out]; unfold isDig; simp_all; omega
            go_ret
            exact SameB.mk HF.out.symm
          all_goals
            have HI : Hid (UpTo s (k + 1)) := by
              refine Lib.hid (hW.out ?_)
              rw [hQ.out]; unfold isDig; simp_all
            refine ⟨⟨k + 1, by rw [hwr.out], by omega, HI, rfl⟩, ?_⟩
            rw [hwr.out]; simp [intOf]; omega
        · have HI : Hid (UpTo s (k + 1)) := Lib.hid (hW.out (by rw [isW_eq, h1, h2]; rfl))
          clear h1 h2
          go_wp2_with fail
          try simp only [hc]
          refine ((unhide hlo) _).mono ?_
          rintro e w1 ⟨rfl, rfl⟩
          go_wp2_with fail
          try simp only [hc]
          refine ((unhide hup) _).mono ?_
          rintro e w1 ⟨rfl, rfl⟩
          go_wp2
          go_roundw
          case measure => rw [hwr.out]; simp [intOf]; omega
          case rel => exact ⟨k + 1, by rw [hwr.out], by omega, HI, rfl⟩
      · have HI : Hid (UpTo s (k + 1)) := Lib.hid (hW.out (by rw [isW_eq, h1]; rfl))
        clear h1
        go_wp2_with fail
        try simp only [hc]
        refine ((unhide hlo) _).mono ?_
        rintro e w1 ⟨rfl, rfl⟩
        go_wp2
        go_roundw
        case measure => rw [hwr.out]; simp [intOf]; omega
        case rel => exact ⟨k + 1, by rw [hwr.out], by omega, HI, rfl⟩
    · have HE : Hid (isWord s = decide (1 ≤ s.size ∧ s.size ≤ 40)) := by
        obtain rfl : k = s.size := by omega
        exact Lib.hid (word_end hi.out)
      go_wp2
      all_goals go_ret
      all_goals refine sameB_if ?_
      all_goals (rw [HE.out]; simp; try omega)
theorem refName_any (s : ByteArray) (hs : Hid (s.size ≤ 9223372036854775807)) (w : World) : Calls Tryz.prog 169 #[.string s] w (SameB w (isName s)) := by
  have hword := hide (refWord_any s hs)
  have hres := hide (refReserved_any s)
  have hlow := hide (lower_any (s.get! 0).toNat)
  cases h1 : isWord s <;> rw [h1] at hword
  · have HF : Hid (isName s = false) := Lib.hid (by unfold isName; rw [h1]; rfl)
    clear h1
    go_enter Tryz.func169, Tryz.ntmps169
    go_wp2_with fail
    refine ((unhide hword) _).mono ?_
    rintro e w1 ⟨rfl, rfl⟩
    go_wp2
    go_ret
    exact SameB.mk HF.out.symm
  · have hpos : 0 < s.size := by
      have := (isWord_true h1).1
      omega
    have hg := get0 hpos
    cases h2 : isLow (s.get! 0).toNat <;> rw [h2] at hlow
    · have HF : Hid (isName s = false) := Lib.hid (by unfold isName; rw [h1, h2]; rfl)
      clear h1 h2
      go_enter Tryz.func169, Tryz.ntmps169
      go_wp2_with fail
      refine ((unhide hword) _).mono ?_
      rintro e w1 ⟨rfl, rfl⟩
      go_wp2_with fail
      try rw [hg]
      refine ((unhide hlow) _).mono ?_
      rintro e w1 ⟨rfl, rfl⟩
      go_wp2
      go_ret
      exact SameB.mk HF.out.symm
    · have HF : Hid (isName s = !reserved s) := Lib.hid (by unfold isName; rw [h1, h2]; rfl)
      clear h1 h2
      go_enter Tryz.func169, Tryz.ntmps169
      go_wp2_with fail
      refine ((unhide hword) _).mono ?_
      rintro e w1 ⟨rfl, rfl⟩
      go_wp2_with fail
      try rw [hg]
      refine ((unhide hlow) _).mono ?_
      rintro e w1 ⟨rfl, rfl⟩
      go_wp2_with fail
      refine ((unhide hres) _).mono ?_
      rintro e w1 ⟨rfl, rfl⟩
      go_wp2
      go_ret
      exact SameB.mk HF.out.symm
end Go.Proofs.YtdoljfkjdfaakaaGreat


namespace Go.Proofs.YtdoljfkjdfaakaaGreat
set_option maxRecDepth 100000
open Go.RowKit

def FormRel (w : World) (l : List T) (sl : Value) (v4 : Value) (wr : World) : Prop :=
  ∃ k : Nat, v4 = .int .i64 (k : Int) ∧ k ≤ l.length ∧ Ext w wr ∧ wr.cell? ⟨w.heap.size, 3, none⟩ = some sl ∧ Hid (formL (l.take k) = true)
theorem form_snoc {l : List T} {k : Nat} {t : T} (ht : l[k]? = some t) (h : formL (l.take k) = true) : formL (l.take (k + 1)) = formT t := by
  rw [take_snocT ht, formL_app, h]
  simp [formL]
theorem form_take {l : List T} (k : Nat) (h : formL l = true) : formL (l.take k) = true := by
  rw [← List.take_append_drop k l, formL_app, Bool.and_eq_true] at h
  exact h.1

set_option maxHeartbeats 1000000 in
theorem form_step (n : Nat) (hM : n ≤ 1000000000) (HI : Hid (∀ (t : T) (v : Value) (w : World), wt t ≤ n → VT w t v → Calls Tryz.prog 194 #[v] w (Ret w (Is (.bool (formT t))))))
    (t : T) (v : Value) (w : World) (hn : wtL t.ar ≤ n) (hv : VT w t v) : Calls Tryz.prog 194 #[v] w (Ret w (Is (.bool (formT t)))) := by
  obtain ⟨sl, rfl, hs, -, -, hsz⟩ := hv.open_
  have hs' := hide hs
  have hz := Lib.hid hsz
  obtain ⟨A, c, xs, rfl, hr⟩ := hs
  have HN := Lib.hid hn
  clear hv hn hr hsz
  by_cases k0 : t.k = 0
  · have hk : (t.k == 0) = true := by simpa using k0
    have HF := Lib.hid (formT_0 k0)
    clear k0
    go_enter Tryz.func194, Tryz.ntmps194
    go_wp2
    all_goals go_ret
    all_goals refine Ret.mk (HF.out ▸ ?_) ((Ext.rfl' w).al _)
    all_goals refine congrArg Value.bool (Bool.eq_iff_iff.2 ?_)
    all_goals simp [*]
    all_goals omega
  by_cases k1 : t.k = 1
  · have hk0 : (t.k == 0) = false := by simpa using k0
    have hk : (t.k == 1) = true := by simpa using k1
    have HF := Lib.hid (formT_1 k1)
    clear k0 k1
    go_enter Tryz.func194, Tryz.ntmps194
    go_wp2
    all_goals go_ret
    all_goals refine Ret.mk (HF.out ▸ ?_) ((Ext.rfl' w).al _)
    all_goals refine congrArg Value.bool (Bool.eq_iff_iff.2 ?_)
    all_goals simp [*]
    all_goals omega
  have hk0 : (t.k == 0) = false := by simpa using k0
  have hk1 : (t.k == 1) = false := by simpa using k1
  by_cases k2 : t.k = 2
  · have hk : (t.k == 2) = true := by simpa using k2
    have HF := Lib.hid (formT_2 k2)
    clear k0 k1 k2
    have hll : t.ar.length ≤ 1000000000 := by have := len_wtL t.ar; have := HN.out; omega
    have hop := hide (refOperator_any t.s)
    have hnm := hide (refName_any t.s hz)
    by_cases hj : ¬ t.i = 0
    · have hni : (t.i != 0) = true := by simpa using hj
      have HX : Hid (formT t = false) := Lib.hid (by rw [HF.out]; simp [headF, hj])
      clear hj
      go_enter Tryz.func194, Tryz.ntmps194
      go_wp2_with fail
      refine ((unhide hop) _).mono ?_
      rintro e w1 ⟨rfl, rfl⟩
      go_wp2
      all_goals go_ret
      all_goals exact Ret.mk (HX.out ▸ rfl) ((Ext.rfl' w).al _)
    have hi : t.i = 0 := by simpa using hj
    clear hj
    have hni : (t.i != 0) = false := by simpa using hi
    have HD : Hid (headF t = ((isOp t.s && decide (t.ar.length = 2)) || (isName t.s && decide (t.ar.length ≤ 6)))) := Lib.hid (by unfold headF; simp [hi])
    clear hi
    cases ho : isOp t.s <;> rw [ho] at hop
    · cases hn : isName t.s <;> rw [hn] at hnm
      · have HX : Hid (formT t = false) := Lib.hid (by rw [HF.out, HD.out, ho, hn]; rfl)
        clear ho hn
        go_enter Tryz.func194, Tryz.ntmps194
        go_wp2_with fail
        refine ((unhide hop) _).mono ?_
        rintro e w1 ⟨rfl, rfl⟩
        go_wp2_with fail
        refine ((unhide hnm) _).mono ?_
        rintro e w1 ⟨rfl, rfl⟩
        go_wp2
        go_ret
        exact Ret.mk (HX.out ▸ rfl) ((Ext.rfl' w).al _)
      · by_cases h6 : 6 < t.ar.length
        · have HX : Hid (formT t = false) := Lib.hid (by rw [HF.out, HD.out, ho, hn, decide_eq_false (show ¬ t.ar.length ≤ 6 by omega)]; rfl)
          clear ho hn
          go_enter Tryz.func194, Tryz.ntmps194
          go_wp2_with fail
          refine ((unhide hop) _).mono ?_
          rintro e w1 ⟨rfl, rfl⟩
          go_wp2_with fail
          refine ((unhide hnm) _).mono ?_
          rintro e w1 ⟨rfl, rfl⟩
          go_wp2
          go_ret
          exact Ret.mk (HX.out ▸ rfl) ((Ext.rfl' w).al _)
        · have HH : Hid (headF t = true) := Lib.hid (by rw [HD.out, ho, hn, decide_eq_true (show t.ar.length ≤ 6 by omega)]; rfl)
          clear ho hn
          go_enter Tryz.func194, Tryz.ntmps194
          go_wp2_with fail
          refine ((unhide hop) _).mono ?_
          rintro e w1 ⟨rfl, rfl⟩
          go_wp2_with fail
          refine ((unhide hnm) _).mono ?_
          rintro e w1 ⟨rfl, rfl⟩
          go_wp2
          go_loopw [4] (fun v4 wr => FormRel w t.ar (.slice A t.ar.length c) v4 wr) (fun v4 _ => t.ar.length - (intOf v4).toNat)
          case atStart => exact ⟨0, rfl, by omega, (Ext.rfl' w).al _, box_cells w _ _ 3 _ rfl, Lib.hid rfl⟩
          case round =>
            obtain ⟨k, rfl, hk, hE, z3, hH⟩ := hrel
            by_cases hlt : k < t.ar.length
            · obtain ⟨u, hu⟩ : ∃ u, t.ar[k]? = some u := ⟨t.ar[k], List.getElem?_eq_getElem hlt⟩
              obtain ⟨B2, o, sl, rfl, c0, c1, c2, c3, hs, hvt⟩ := (SlT.ext (unhide hs') hE : SlT wr t.ar _).at_ hu
              have hvt := hide hvt
              obtain ⟨A2, d2, xs2, rfl, -⟩ := hs
              have HT := Lib.hid (form_snoc hu hH.out)
              have HU : Hid (wt u ≤ n) := Lib.hid (by have := wt_mem (List.mem_of_getElem? hu); have := HN.out; omega)
              clear hu
              have hlen := hide hll
              go_wp2_with fail
              refine (HI.out u _ _ HU.out (unhide hvt)).mono ?_
              rintro e w1 ⟨v, rfl, hv, he1⟩
              obtain rfl : v = _ := hv
              have hE1 := hE.tr he1
              have z3' := he1.cellOf z3
              cases hf : formT u
              · have HX : Hid (formT t = false) := Lib.hid (by
                  rw [HF.out, HH.out, Bool.true_and]
                  cases h : formL t.ar
                  · rfl
                  · have := form_take (k + 1) h; rw [HT.out, hf] at this; simp at this)
                clear hf
                go_wp2
                go_ret
                exact Ret.mk (HX.out ▸ rfl) hE1
              · have HI2 : Hid (formL (t.ar.take (k + 1)) = true) := Lib.hid (HT.out.trans hf)
                clear hf
                go_wp2
                go_roundw
                case rel => exact ⟨k + 1, by go_num, by omega, hE1, z3', HI2⟩
                case measure => simp [intOf]; omega
            · have HX : Hid (formT t = true) := Lib.hid (by
                rw [HF.out, HH.out, Bool.true_and]
                have := hH.out
                rwa [List.take_of_length_le (by omega)] at this)
              go_wp2
              go_ret
              exact Ret.mk (HX.out ▸ rfl) hE
    · by_cases h2 : t.ar.length = 2
      · have HH : Hid (headF t = true) := Lib.hid (by rw [HD.out, ho]; simp [h2])
        have h2b : ((t.ar.length : Int) == 2) = true := by simp [h2]
        clear ho h2
        go_enter Tryz.func194, Tryz.ntmps194
        go_wp2_with fail
        refine ((unhide hop) _).mono ?_
        rintro e w1 ⟨rfl, rfl⟩
        go_wp2
        go_loopw [4] (fun v4 wr => FormRel w t.ar (.slice A t.ar.length c) v4 wr) (fun v4 _ => t.ar.length - (intOf v4).toNat)
        case atStart => exact ⟨0, rfl, by omega, (Ext.rfl' w).al _, box_cells w _ _ 3 _ rfl, Lib.hid rfl⟩
        case round =>
          obtain ⟨k, rfl, hk, hE, z3, hH⟩ := hrel
          by_cases hlt : k < t.ar.length
          · obtain ⟨u, hu⟩ : ∃ u, t.ar[k]? = some u := ⟨t.ar[k], List.getElem?_eq_getElem hlt⟩
            obtain ⟨B2, o, sl, rfl, c0, c1, c2, c3, hs, hvt⟩ := (SlT.ext (unhide hs') hE : SlT wr t.ar _).at_ hu
            have hvt := hide hvt
            obtain ⟨A2, d2, xs2, rfl, -⟩ := hs
            have HT := Lib.hid (form_snoc hu hH.out)
            have HU : Hid (wt u ≤ n) := Lib.hid (by have := wt_mem (List.mem_of_getElem? hu); have := HN.out; omega)
            clear hu
            have hlen := hide hll
            go_wp2_with fail
            refine (HI.out u _ _ HU.out (unhide hvt)).mono ?_
            rintro e w1 ⟨v, rfl, hv, he1⟩
            obtain rfl : v = _ := hv
            have hE1 := hE.tr he1
            have z3' := he1.cellOf z3
            cases hf : formT u
            · have HX : Hid (formT t = false) := Lib.hid (by
                rw [HF.out, HH.out, Bool.true_and]
                cases h : formL t.ar
                · rfl
                · have := form_take (k + 1) h; rw [HT.out, hf] at this; simp at this)
              clear hf
              go_wp2
              go_ret
              exact Ret.mk (HX.out ▸ rfl) hE1
            · have HI2 : Hid (formL (t.ar.take (k + 1)) = true) := Lib.hid (HT.out.trans hf)
              clear hf
              go_wp2
              go_roundw
              case rel => exact ⟨k + 1, by go_num, by omega, hE1, z3', HI2⟩
              case measure => simp [intOf]; omega
          · have HX : Hid (formT t = true) := Lib.hid (by
              rw [HF.out, HH.out, Bool.true_and]
              have := hH.out
              rwa [List.take_of_length_le (by omega)] at this)
            go_wp2
            go_ret
            exact Ret.mk (HX.out ▸ rfl) hE
      · have h2b : ((t.ar.length : Int) == 2) = false := by simp; omega
        cases hn : isName t.s <;> rw [hn] at hnm
        · have HX : Hid (formT t = false) := Lib.hid (by rw [HF.out, HD.out, ho, hn]; simp [h2])
          clear ho hn h2
          go_enter Tryz.func194, Tryz.ntmps194
          go_wp2_with fail
          refine ((unhide hop) _).mono ?_
          rintro e w1 ⟨rfl, rfl⟩
          go_wp2_with fail
          refine ((unhide hnm) _).mono ?_
          rintro e w1 ⟨rfl, rfl⟩
          go_wp2
          go_ret
          exact Ret.mk (HX.out ▸ rfl) ((Ext.rfl' w).al _)
        · by_cases h6 : 6 < t.ar.length
          · have HX : Hid (formT t = false) := Lib.hid (by rw [HF.out, HD.out, ho, hn, decide_eq_false (show ¬ t.ar.length ≤ 6 by omega)]; simp [h2])
            clear ho hn h2
            go_enter Tryz.func194, Tryz.ntmps194
            go_wp2_with fail
            refine ((unhide hop) _).mono ?_
            rintro e w1 ⟨rfl, rfl⟩
            go_wp2_with fail
            refine ((unhide hnm) _).mono ?_
            rintro e w1 ⟨rfl, rfl⟩
            go_wp2
            go_ret
            exact Ret.mk (HX.out ▸ rfl) ((Ext.rfl' w).al _)
          · have HH : Hid (headF t = true) := Lib.hid (by rw [HD.out, ho, hn, decide_eq_true (show t.ar.length ≤ 6 by omega)]; simp)
            clear ho hn h2
            go_enter Tryz.func194, Tryz.ntmps194
            go_wp2_with fail
            refine ((unhide hop) _).mono ?_
            rintro e w1 ⟨rfl, rfl⟩
            go_wp2_with fail
            refine ((unhide hnm) _).mono ?_
            rintro e w1 ⟨rfl, rfl⟩
            go_wp2
            go_loopw [4] (fun v4 wr => FormRel w t.ar (.slice A t.ar.length c) v4 wr) (fun v4 _ => t.ar.length - (intOf v4).toNat)
            case atStart => exact ⟨0, rfl, by omega, (Ext.rfl' w).al _, box_cells w _ _ 3 _ rfl, Lib.hid rfl⟩
            case round =>
              obtain ⟨k, rfl, hk, hE, z3, hH⟩ := hrel
              by_cases hlt : k < t.ar.length
              · obtain ⟨u, hu⟩ : ∃ u, t.ar[k]? = some u := ⟨t.ar[k], List.getElem?_eq_getElem hlt⟩
                obtain ⟨B2, o, sl, rfl, c0, c1, c2, c3, hs, hvt⟩ := (SlT.ext (unhide hs') hE : SlT wr t.ar _).at_ hu
                have hvt := hide hvt
                obtain ⟨A2, d2, xs2, rfl, -⟩ := hs
                have HT := Lib.hid (form_snoc hu hH.out)
                have HU : Hid (wt u ≤ n) := Lib.hid (by have := wt_mem (List.mem_of_getElem? hu); have := HN.out; omega)
                clear hu
                have hlen := hide hll
                go_wp2_with fail
                refine (HI.out u _ _ HU.out (unhide hvt)).mono ?_
                rintro e w1 ⟨v, rfl, hv, he1⟩
                obtain rfl : v = _ := hv
                have hE1 := hE.tr he1
                have z3' := he1.cellOf z3
                cases hf : formT u
                · have HX : Hid (formT t = false) := Lib.hid (by
                    rw [HF.out, HH.out, Bool.true_and]
                    cases h : formL t.ar
                    · rfl
                    · have := form_take (k + 1) h; rw [HT.out, hf] at this; simp at this)
                  clear hf
                  go_wp2
                  go_ret
                  exact Ret.mk (HX.out ▸ rfl) hE1
                · have HI2 : Hid (formL (t.ar.take (k + 1)) = true) := Lib.hid (HT.out.trans hf)
                  clear hf
                  go_wp2
                  go_roundw
                  case rel => exact ⟨k + 1, by go_num, by omega, hE1, z3', HI2⟩
                  case measure => simp [intOf]; omega
              · have HX : Hid (formT t = true) := Lib.hid (by
                  rw [HF.out, HH.out, Bool.true_and]
                  have := hH.out
                  rwa [List.take_of_length_le (by omega)] at this)
                go_wp2
                go_ret
                exact Ret.mk (HX.out ▸ rfl) hE
  have hk2 : (t.k == 2) = false := by simpa using k2
  have HF := Lib.hid (formT_3 k0 k1 k2)
  clear k0 k1 k2
  go_enter Tryz.func194, Tryz.ntmps194
  go_wp2
  go_ret
  exact Ret.mk (HF.out ▸ rfl) ((Ext.rfl' w).al _)
theorem form_any : ∀ (n : Nat), n ≤ 1000000000 → ∀ (t : T) (v : Value) (w : World), wt t ≤ n → VT w t v → Calls Tryz.prog 194 #[v] w (Ret w (Is (.bool (formT t))))
  | 0, _, t, _, _, hn, _ => by rw [wt_eq] at hn; omega
  | n + 1, hM, t, v, w, hn, hv => form_step n (by omega) (Lib.hid (form_any n (by omega))) t v w (by rw [wt_eq] at hn; omega) hv

theorem refRight_any (n : Nat) (hM : n ≤ 1000000000) (t : T) (v : Value) (w : World) (hn : wt t ≤ n) (hv : VT w t v) : Calls Tryz.prog 126 #[v] w (Ret w (Is (.bool (rightT t)))) := by
  have h1 := hide (fun (w' : World) (e : Ext w w') => form_any n hM t v w' hn (hv.ext e))
  have h2 := hide (fun (w' : World) (e : Ext w w') => refSize_any n t v w' hn hM (hv.ext e))
  have h3 := hide (fun (w' : World) (e : Ext w w') => refDepth_any n t v w' hn hM (hv.ext e))
  obtain ⟨sl, rfl, hs, -⟩ := hv.open_
  obtain ⟨A, c, xs, rfl, -⟩ := hs
  have z0 := box_cells w #[.int .i64 t.k, .int .i64 t.i, .string t.s, .slice A t.ar.length c] 114 0 _ rfl
  have z1 := box_cells w #[.int .i64 t.k, .int .i64 t.i, .string t.s, .slice A t.ar.length c] 114 1 _ rfl
  have z2 := box_cells w #[.int .i64 t.k, .int .i64 t.i, .string t.s, .slice A t.ar.length c] 114 2 _ rfl
  have z3 := box_cells w #[.int .i64 t.k, .int .i64 t.i, .string t.s, .slice A t.ar.length c] 114 3 _ rfl
  have HR : Hid (rightT t = (formT t && decide (sizeT t ≤ 200) && decide (depthT t ≤ 20))) := Lib.hid rfl
  clear hv hn
  cases hf : formT t <;> rw [hf] at h1 HR
  · have HX : Hid (rightT t = false) := Lib.hid (by rw [HR.out]; rfl)
    clear hf
    go_enter Tryz.func126, Tryz.ntmps126
    go_wp2_with fail
    refine ((unhide h1) _ ((Ext.rfl' w).al _)).mono ?_
    rintro e w1 ⟨v, rfl, hv, he1⟩
    obtain rfl : v = _ := hv
    go_wp2
    go_ret
    exact Ret.mk (HX.out ▸ rfl) (((Ext.rfl' w).al _).tr he1)
  · clear hf
    go_enter Tryz.func126, Tryz.ntmps126
    go_wp2_with fail
    refine ((unhide h1) _ ((Ext.rfl' w).al _)).mono ?_
    rintro e w1 ⟨v, rfl, hv, he1⟩
    obtain rfl : v = _ := hv
    have y0 := he1.cellOf z0
    have y1 := he1.cellOf z1
    have y2 := he1.cellOf z2
    have y3 := he1.cellOf z3
    have hE1 := ((Ext.rfl' w).al _).tr he1
    clear he1 z0 z1 z2 z3
    by_cases hs : (sizeT t : Int) ≤ 200
    · go_wp2_with fail
      refine ((unhide h2) _ hE1).mono ?_
      rintro e w2 ⟨v, rfl, hv, he2⟩
      obtain rfl : v = _ := hv
      have u0 := he2.cellOf y0
      have u1 := he2.cellOf y1
      have u2 := he2.cellOf y2
      have u3 := he2.cellOf y3
      have hE2 := hE1.tr he2
      clear he2 y0 y1 y2 y3 hE1
      go_wp2_with fail
      refine ((unhide h3) _ hE2).mono ?_
      rintro e w3 ⟨v, rfl, hv, he3⟩
      obtain rfl : v = _ := hv
      have HX : Hid (rightT t = decide ((depthT t : Int) ≤ 20)) := Lib.hid (by rw [HR.out, decide_eq_true (show sizeT t ≤ 200 by omega), Bool.true_and, Bool.true_and, Bool.eq_iff_iff]; simp only [decide_eq_true_eq]; omega)
      go_wp2
      go_ret
      exact Ret.mk (HX.out ▸ rfl) (hE2.tr he3)
    · have HX : Hid (rightT t = false) := Lib.hid (by rw [HR.out, decide_eq_false (show ¬ sizeT t ≤ 200 by omega)]; rfl)
      go_wp2_with fail
      refine ((unhide h2) _ hE1).mono ?_
      rintro e w2 ⟨v, rfl, hv, he2⟩
      obtain rfl : v = _ := hv
      go_wp2
      go_ret
      exact Ret.mk (HX.out ▸ rfl) (hE1.tr he2)
end Go.Proofs.YtdoljfkjdfaakaaGreat


namespace Go.Proofs.YtdoljfkjdfaakaaGreat
set_option maxRecDepth 100000
open Go.RowKit

/-- Each alone is valid. -/
noncomputable def eachR (ts : List T) : Bool := ts.all rightT
theorem eachR_app (a b : List T) : eachR (a ++ b) = (eachR a && eachR b) := by unfold eachR; exact List.all_append ..
theorem rightL_each : ∀ ts : List T, rightL ts = (eachR ts && decide (sizeL ts ≤ 200))
  | [] => by simp [rightL, eachR, formL, sizeL, depthL]
  | t :: ts => by
    have ih := rightL_each ts
    rw [Bool.eq_iff_iff] at ih ⊢
    unfold rightL eachR at *
    simp only [formL, rightT, List.all_cons, Bool.and_eq_true, decide_eq_true_eq] at ih ⊢
    simp only [sizeL, depthL]
    constructor
    · rintro ⟨⟨⟨a, b⟩, c⟩, e⟩
      have := ih.1 ⟨⟨b, by omega⟩, by omega⟩
      exact ⟨⟨⟨⟨a, by omega⟩, by omega⟩, this.1⟩, c⟩
    · rintro ⟨⟨⟨⟨a, b⟩, c⟩, e⟩, f⟩
      have := ih.2 ⟨e, by omega⟩
      exact ⟨⟨⟨a, this.1.1⟩, f⟩, by omega⟩

def ArgsRel (w : World) (l : List T) (v3 v4 : Value) (wr : World) : Prop :=
  ∃ k : Nat, v3 = .int .i64 (sizeL (l.take k) : Nat) ∧ v4 = .int .i64 (k : Int) ∧ k ≤ l.length ∧ Ext w wr ∧ Hid (eachR (l.take k) = true)

theorem refArgsR_any (n : Nat) (hM : n ≤ 1000000000) (l : List T) (v : Value) (w : World) (hn : wtL l ≤ n) (hv : SlT w l v) : Calls Tryz.prog 204 #[v] w (Ret w (Is (.bool (rightL l)))) := by
  have hv' := hide hv
  obtain ⟨A, c, xs, rfl, hr⟩ := hv
  have hll : l.length ≤ n := by have := len_wtL l; omega
  have HN := Lib.hid hn
  have HE := Lib.hid (rightL_each l)
  clear hr hn
  go_enter Tryz.func204, Tryz.ntmps204
  go_wp2
  go_loopw [3, 4] (fun v3 v4 wr => ArgsRel w l v3 v4 wr) (fun _ v4 _ => l.length - (intOf v4).toNat)
  case atStart => exact ⟨0, rfl, rfl, by omega, Ext.rfl' w, Lib.hid rfl⟩
  case round =>
    obtain ⟨k, rfl, rfl, hk, hE, hH⟩ := hrel
    have hb1 : sizeL (l.take k) ≤ 1000000000 := by
      have h1 := wt_take l k
      have h2 := sizeL_wt (l.take k)
      have h3 := HN.out
      omega
    by_cases hlt : k < l.length
    · obtain ⟨t, ht⟩ : ∃ t, l[k]? = some t := ⟨l[k], List.getElem?_eq_getElem hlt⟩
      obtain ⟨B2, o, sl, rfl, c0, c1, c2, c3, hs, hvt⟩ := (SlT.ext (unhide hv') hE : SlT wr l _).at_ ht
      have hvt := hide hvt
      obtain ⟨A2, d2, xs2, rfl, -⟩ := hs
      have HT := Lib.hid (take_snocT ht)
      have hm := List.mem_of_getElem? ht
      have HU : Hid (wt t ≤ n) := Lib.hid (by have := wt_mem hm; have := HN.out; omega)
      have HX : Hid (rightT t = false → rightL l = false) := Lib.hid fun h => by
        rw [HE.out]
        have : eachR l = false := by
          unfold eachR
          rw [List.all_eq_false]
          exact ⟨t, hm, by rw [h]; simp⟩
        rw [this]; rfl
      clear ht hm
      have hb2 : sizeT t ≤ 1000000000 := by have := size_wt t; have := HU.out; omega
      go_wp2_with fail
      refine (refRight_any n hM t _ _ HU.out (unhide hvt)).mono ?_
      rintro e w1 ⟨v, rfl, hv, he1⟩
      obtain rfl : v = _ := hv
      have hE1 := hE.tr he1
      have d0 := he1.cellOf c0
      have d1 := he1.cellOf c1
      have d2 := he1.cellOf c2
      have d3 := he1.cellOf c3
      have hvt1 := hide ((unhide hvt).ext he1)
      clear hvt c0 c1 c2 c3
      cases hf : rightT t
      · have HZ := Lib.hid (HX.out hf)
        clear hf
        go_wp2
        go_ret
        exact Ret.mk (HZ.out ▸ rfl) hE1
      · have HI : Hid (eachR (l.take (k + 1)) = true) := Lib.hid (by rw [HT.out, eachR_app, hH.out]; simp [eachR, hf])
        clear hf
        go_wp2_with fail
        refine (refSize_any n t _ _ HU.out hM (unhide hvt1)).mono ?_
        rintro e w2 ⟨v, rfl, hv, he2⟩
        obtain rfl : v = _ := hv
        have hE2 := hE1.tr he2
        go_wp2
        go_roundw
        case rel => exact ⟨k + 1, congrArg (Value.int .i64) (show _ = ((sizeL (l.take (k + 1)) : Nat) : Int) by rw [HT.out, sizeL_app]; simp only [sizeL]; omega), by go_num, by omega, hE2, HI⟩
        case measure => simp [intOf]; omega
    · have HZ : Hid (rightL l = decide ((sizeL (l.take k) : Int) ≤ 200)) := Lib.hid (by
        have h1 := hH.out
        rw [List.take_of_length_le (by omega)] at h1 ⊢
        rw [HE.out, h1, Bool.true_and, Bool.eq_iff_iff]
        simp only [decide_eq_true_eq]
        omega)
      go_wp2
      go_ret
      exact Ret.mk (HZ.out ▸ rfl) hE
end Go.Proofs.YtdoljfkjdfaakaaGreat


namespace Go.Proofs.YtdoljfkjdfaakaaGreat
set_option maxRecDepth 100000
open Go.RowKit


theorem cmpL_drop {ts us : List T} {k : Nat} {t u : T} (h1 : ts[k]? = some t) (h2 : us[k]? = some u) : cmpL (ts.drop k) (us.drop k) = orI (cmpT t u) (cmpL (ts.drop (k + 1)) (us.drop (k + 1))) := by
  have e : ∀ {l : List T} {x : T}, l[k]? = some x → l.drop k = x :: l.drop (k + 1) := fun {l x} h => by
    have hk := (List.getElem?_eq_some_iff.1 h).1
    rw [List.drop_eq_getElem_cons hk]; congr 1
    have := List.getElem?_eq_getElem hk
    rw [this] at h; injection h
  rw [e h1, e h2, cmpL_cons]
theorem cmpI_self (a : Int) : cmpI a a = 0 := by unfold cmpI; simp
theorem rankK_lt (k : Int) : 0 ≤ rankK k ∧ rankK k ≤ 3 := by unfold rankK; split <;> (try split) <;> (try split) <;> omega

end Go.Proofs.YtdoljfkjdfaakaaGreat


namespace Go.Proofs.YtdoljfkjdfaakaaGreat
set_option maxRecDepth 100000
open Go.RowKit

theorem cmpS_eq (a b : ByteArray) : cmpS a b = cmpB a.toList b.toList := rfl
theorem cmpL_self : ∀ l : List T, cmpL l l = 0
  | [] => by simp [cmpL]
  | t :: l => by rw [cmpL_cons, cmp_self, cmpL_self l]; rfl
end Go.Proofs.YtdoljfkjdfaakaaGreat


namespace Go.Proofs.YtdoljfkjdfaakaaGreat
set_option maxRecDepth 100000
open Go.RowKit

/-- The common part, then the lengths. -/
def listsT (ts us : List T) : Int := orI (cmpL ts us) (cmpI ts.length us.length)
theorem listsT_same {ts us : List T} (h : ts.length = us.length) : listsT ts us = cmpL ts us := by
  unfold listsT
  rw [h, cmpI_self]
  unfold orI
  split
  · rfl
  · rename_i h0; simpa using (by simpa using h0 : cmpL ts us = 0).symm
theorem cmpL_nil2 : ∀ ts : List T, cmpL ts [] = 0
  | [] => by simp only [cmpL]
  | t :: ts => by simp only [cmpL]

set_option maxRecDepth 100000 in
set_option maxHeartbeats 3200000 in
theorem refCompare_step (n : Nat)
    (HL : Hid (∀ (ts us : List T) (v u : Value) (w : World), wtL ts ≤ n → SlT w ts v → SlT w us u → Calls Tryz.prog 231 #[v, u] w (Ret w (Is (.int .i64 (listsT ts us))))))
    (t u : T) (v x : Value) (w : World) (hn : wtL t.ar ≤ n) (hv : VT w t v) (hx : VT w u x) : Calls Tryz.prog 209 #[v, x] w (Ret w (Is (.int .i64 (cmpT t u)))) := by
  have HF := Lib.hid (cmpT_eq t u)
  have hv0 := hv
  have hx0 := hx
  obtain ⟨sl, rfl, hs, -⟩ := hv.open_
  obtain ⟨sx, rfl, hy, -⟩ := hx.open_
  obtain ⟨B, d, xs, rfl, hs'⟩ := hs
  obtain ⟨D, d2, ys, rfl, hy'⟩ := hy
  have HS : Hid (SlT w t.ar (.slice B t.ar.length d)) := ⟨B, d, xs, rfl, hs'⟩
  have HY : Hid (SlT w u.ar (.slice D u.ar.length d2)) := ⟨D, d2, ys, rfl, hy'⟩
  have HV0 := Lib.hid hv0
  have HX0 := Lib.hid hx0
  clear hv hx hv0 hx0 hs' hy'
  by_cases h1 : cmpI (rankK t.k) (rankK u.k) = 0
  · have hb : (cmpI (rankK t.k) (rankK u.k) != 0) = false := by simpa using h1
    have HF1 : Hid (cmpT t u = if rankK t.k = 0 ∨ rankK t.k = 1 then cmpI t.i u.i
       else if rankK t.k = 2 then orI (cmpI t.ar.length u.ar.length) (orI (cmpS t.s u.s) (cmpL t.ar u.ar))
       else orI (cmpI t.k u.k) (orI (cmpI t.i u.i) (cmpS t.s u.s))) := by rw [HF.out]; unfold orI; rw [if_neg (by simpa using h1)]; exact Lib.hid rfl
    have hr := rankK_lt t.k
    clear h1 HF
    by_cases r0 : rankK t.k = 0
    · have HF2 : Hid (cmpT t u = cmpI t.i u.i) := by rw [HF1.out, if_pos (.inl r0)]; exact Lib.hid rfl
      have b0 : (rankK t.k == 0) = true := by simpa using r0
      clear r0 hr HF1
      go_enter Tryz.func209, Tryz.ntmps209
      go_wp2_with fail
      have hB := two_boxes w #[.int .i64 t.k, .int .i64 t.i, .string t.s, .slice B t.ar.length d] #[.int .i64 u.k, .int .i64 u.i, .string u.s, .slice D u.ar.length d2] 114 114 0
      rw [World.drewN_zero] at hB
      generalize ((w.alloc (.cells #[.int .i64 t.k, .int .i64 t.i, .string t.s, .slice B t.ar.length d] 114)).alloc (.cells #[.int .i64 u.k, .int .i64 u.i, .string u.s, .slice D u.ar.length d2] 114)) = y at hB ⊢
      obtain ⟨hEy, hB1, hB2⟩ := hB
      have HV : Hid (VT y t _) := HV0.out.ext hEy
      have HX : Hid (VT y u _) := HX0.out.ext hEy
      have k0 : y.cell? ⟨w.heap.size, 0, none⟩ = some (.int .i64 t.k) := hB1 0
      have k1 : y.cell? ⟨w.heap.size, 1, none⟩ = some (.int .i64 t.i) := hB1 1
      have k2 : y.cell? ⟨w.heap.size, 2, none⟩ = some (.string t.s) := hB1 2
      have k3 : y.cell? ⟨w.heap.size, 3, none⟩ = some (.slice B t.ar.length d) := hB1 3
      have m0 : y.cell? ⟨w.heap.size + 1, 0, none⟩ = some (.int .i64 u.k) := hB2 0
      have m1 : y.cell? ⟨w.heap.size + 1, 1, none⟩ = some (.int .i64 u.i) := hB2 1
      have m2 : y.cell? ⟨w.heap.size + 1, 2, none⟩ = some (.string u.s) := hB2 2
      have m3 : y.cell? ⟨w.heap.size + 1, 3, none⟩ = some (.slice D u.ar.length d2) := hB2 3
      clear hB1 hB2
      refine wp_region_sched [(0, true), (2, true), (1, false), (3, false), (4, false), (5, true)] (by kernel_rfl) (by kernel_rfl) (Ext y) (Ext.rfl' y).dr ?_
      iterate 2 (refine sQ rfl rfl ?_ ?_ ?_; rotate_left; (· (intro w' hw'; have zk0 := hw'.cellOf k0; have zk1 := hw'.cellOf k1; have zk2 := hw'.cellOf k2; have zk3 := hw'.cellOf k3; have zm0 := hw'.cellOf m0; have zm1 := hw'.cellOf m1; have zm2 := hw'.cellOf m2; have zm3 := hw'.cellOf m3; go_simp; try with_reducible rfl)); try simp only [Act.put, List.setIfInBounds_toArray, List.set_cons_succ, List.set_cons_zero])
      refine sL rfl rfl ?_
      go_wp2_with fail
      refine (class_any t _ _ (HV.out.ext (Ext.rfl' y).dr)).mono ?_
      rintro e w1 ⟨v, rfl, hv1, he1⟩
      obtain rfl : v = _ := hv1
      have hC1 : Ext y w1 := (Ext.rfl' y).dr.tr he1
      go_wp2_with fail
      refine SQ.mk hC1 ?_
      refine sL rfl rfl ?_
      go_wp2_with fail
      refine (class_any u _ _ (HX.out.ext hC1)).mono ?_
      rintro e w2 ⟨v, rfl, hv2, he2⟩
      obtain rfl : v = _ := hv2
      have hC2 : Ext y w2 := hC1.tr he2
      go_wp2_with fail
      refine SQ.mk hC2 ?_
      refine sL rfl rfl ?_
      go_wp2_with fail
      refine (ints_any _ _ _).mono ?_
      rintro e w1 ⟨rfl, rfl⟩
      go_wp2_with fail
      refine SQ.mk hC2 ?_
      iterate 1 (refine sQ rfl rfl ?_ ?_ ?_; rotate_left; (· (intro w' hw'; have zk0 := hw'.cellOf k0; have zk1 := hw'.cellOf k1; have zk2 := hw'.cellOf k2; have zk3 := hw'.cellOf k3; have zm0 := hw'.cellOf m0; have zm1 := hw'.cellOf m1; have zm2 := hw'.cellOf m2; have zm3 := hw'.cellOf m3; go_simp; try with_reducible rfl)); try simp only [Act.put, List.setIfInBounds_toArray, List.set_cons_succ, List.set_cons_zero])
      refine sE ?_
      have z0 := hC2.cellOf k0
      have z1 := hC2.cellOf k1
      have z2 := hC2.cellOf k2
      have z3 := hC2.cellOf k3
      go_wp2_with fail
      refine (class_any t _ _ (HV.out.ext hC2)).mono ?_
      rintro e w3 ⟨v, rfl, hv3, he3⟩
      obtain rfl : v = _ := hv3
      have hC3 : Ext y w3 := hC2.tr he3
      clear z0 z1 z2 z3
      have z0 := hC3.cellOf k0
      have z1 := hC3.cellOf k1
      have z2 := hC3.cellOf k2
      have z3 := hC3.cellOf k3
      have x0 := hC3.cellOf m0
      have x1 := hC3.cellOf m1
      have x2 := hC3.cellOf m2
      have x3 := hC3.cellOf m3
      go_wp2_with fail
      refine (ints_any _ _ _).mono ?_
      rintro e w1 ⟨rfl, rfl⟩
      go_wp2
      go_ret
      rw [HF2.out]
      exact Ret.mk rfl (hEy.tr hC3)
    by_cases r1 : rankK t.k = 1
    · have HF2 : Hid (cmpT t u = cmpI t.i u.i) := by rw [HF1.out, if_pos (.inr r1)]; exact Lib.hid rfl
      have b0 : (rankK t.k == 0) = false := by simpa using r0
      have b1 : (rankK t.k == 1) = true := by simpa using r1
      clear r0 r1 hr HF1
      go_enter Tryz.func209, Tryz.ntmps209
      go_wp2_with fail
      have hB := two_boxes w #[.int .i64 t.k, .int .i64 t.i, .string t.s, .slice B t.ar.length d] #[.int .i64 u.k, .int .i64 u.i, .string u.s, .slice D u.ar.length d2] 114 114 0
      rw [World.drewN_zero] at hB
      generalize ((w.alloc (.cells #[.int .i64 t.k, .int .i64 t.i, .string t.s, .slice B t.ar.length d] 114)).alloc (.cells #[.int .i64 u.k, .int .i64 u.i, .string u.s, .slice D u.ar.length d2] 114)) = y at hB ⊢
      obtain ⟨hEy, hB1, hB2⟩ := hB
      have HV : Hid (VT y t _) := HV0.out.ext hEy
      have HX : Hid (VT y u _) := HX0.out.ext hEy
      have k0 : y.cell? ⟨w.heap.size, 0, none⟩ = some (.int .i64 t.k) := hB1 0
      have k1 : y.cell? ⟨w.heap.size, 1, none⟩ = some (.int .i64 t.i) := hB1 1
      have k2 : y.cell? ⟨w.heap.size, 2, none⟩ = some (.string t.s) := hB1 2
      have k3 : y.cell? ⟨w.heap.size, 3, none⟩ = some (.slice B t.ar.length d) := hB1 3
      have m0 : y.cell? ⟨w.heap.size + 1, 0, none⟩ = some (.int .i64 u.k) := hB2 0
      have m1 : y.cell? ⟨w.heap.size + 1, 1, none⟩ = some (.int .i64 u.i) := hB2 1
      have m2 : y.cell? ⟨w.heap.size + 1, 2, none⟩ = some (.string u.s) := hB2 2
      have m3 : y.cell? ⟨w.heap.size + 1, 3, none⟩ = some (.slice D u.ar.length d2) := hB2 3
      clear hB1 hB2
      refine wp_region_sched [(0, true), (2, true), (1, false), (3, false), (4, false), (5, true)] (by kernel_rfl) (by kernel_rfl) (Ext y) (Ext.rfl' y).dr ?_
      iterate 2 (refine sQ rfl rfl ?_ ?_ ?_; rotate_left; (· (intro w' hw'; have zk0 := hw'.cellOf k0; have zk1 := hw'.cellOf k1; have zk2 := hw'.cellOf k2; have zk3 := hw'.cellOf k3; have zm0 := hw'.cellOf m0; have zm1 := hw'.cellOf m1; have zm2 := hw'.cellOf m2; have zm3 := hw'.cellOf m3; go_simp; try with_reducible rfl)); try simp only [Act.put, List.setIfInBounds_toArray, List.set_cons_succ, List.set_cons_zero])
      refine sL rfl rfl ?_
      go_wp2_with fail
      refine (class_any t _ _ (HV.out.ext (Ext.rfl' y).dr)).mono ?_
      rintro e w1 ⟨v, rfl, hv1, he1⟩
      obtain rfl : v = _ := hv1
      have hC1 : Ext y w1 := (Ext.rfl' y).dr.tr he1
      go_wp2_with fail
      refine SQ.mk hC1 ?_
      refine sL rfl rfl ?_
      go_wp2_with fail
      refine (class_any u _ _ (HX.out.ext hC1)).mono ?_
      rintro e w2 ⟨v, rfl, hv2, he2⟩
      obtain rfl : v = _ := hv2
      have hC2 : Ext y w2 := hC1.tr he2
      go_wp2_with fail
      refine SQ.mk hC2 ?_
      refine sL rfl rfl ?_
      go_wp2_with fail
      refine (ints_any _ _ _).mono ?_
      rintro e w1 ⟨rfl, rfl⟩
      go_wp2_with fail
      refine SQ.mk hC2 ?_
      iterate 1 (refine sQ rfl rfl ?_ ?_ ?_; rotate_left; (· (intro w' hw'; have zk0 := hw'.cellOf k0; have zk1 := hw'.cellOf k1; have zk2 := hw'.cellOf k2; have zk3 := hw'.cellOf k3; have zm0 := hw'.cellOf m0; have zm1 := hw'.cellOf m1; have zm2 := hw'.cellOf m2; have zm3 := hw'.cellOf m3; go_simp; try with_reducible rfl)); try simp only [Act.put, List.setIfInBounds_toArray, List.set_cons_succ, List.set_cons_zero])
      refine sE ?_
      have z0 := hC2.cellOf k0
      have z1 := hC2.cellOf k1
      have z2 := hC2.cellOf k2
      have z3 := hC2.cellOf k3
      go_wp2_with fail
      refine (class_any t _ _ (HV.out.ext hC2)).mono ?_
      rintro e w3 ⟨v, rfl, hv3, he3⟩
      obtain rfl : v = _ := hv3
      have hC3 : Ext y w3 := hC2.tr he3
      clear z0 z1 z2 z3
      have z0 := hC3.cellOf k0
      have z1 := hC3.cellOf k1
      have z2 := hC3.cellOf k2
      have z3 := hC3.cellOf k3
      have x0 := hC3.cellOf m0
      have x1 := hC3.cellOf m1
      have x2 := hC3.cellOf m2
      have x3 := hC3.cellOf m3
      go_wp2_with fail
      refine (ints_any _ _ _).mono ?_
      rintro e w1 ⟨rfl, rfl⟩
      go_wp2
      go_ret
      rw [HF2.out]
      exact Ret.mk rfl (hEy.tr hC3)
    have HF2 : Hid (cmpT t u = if rankK t.k = 2 then orI (cmpI t.ar.length u.ar.length) (orI (cmpS t.s u.s) (cmpL t.ar u.ar)) else orI (cmpI t.k u.k) (orI (cmpI t.i u.i) (cmpS t.s u.s))) := by
      rw [HF1.out, if_neg (by omega)]; exact Lib.hid rfl
    have b0 : (rankK t.k == 0) = false := by simpa using r0
    have b1 : (rankK t.k == 1) = false := by simpa using r1
    clear HF1
    by_cases r2 : rankK t.k = 2
    · have HF3 : Hid (cmpT t u = orI (cmpI t.ar.length u.ar.length) (orI (cmpS t.s u.s) (cmpL t.ar u.ar))) := by rw [HF2.out, if_pos r2]; exact Lib.hid rfl
      have b2 : (rankK t.k == 2) = true := by simpa using r2
      clear HF2 r0 r1 r2 hr
      by_cases l1 : cmpI t.ar.length u.ar.length = 0
      · have bl : (cmpI (t.ar.length : Int) (u.ar.length : Int) == 0) = true := by simpa using l1
        have HF4 : Hid (cmpT t u = orI (cmpS t.s u.s) (cmpL t.ar u.ar)) := by rw [HF3.out]; unfold orI; rw [if_neg (by simpa using l1)]; exact Lib.hid rfl
        have LL : Hid (t.ar.length = u.ar.length) := by have := cmpI_zero l1; exact Lib.hid (by omega)
        clear l1 HF3
        by_cases s1 : cmpS t.s u.s = 0
        · have bs : (cmpS t.s u.s == 0) = true := by simpa using s1
          have HF5 : Hid (cmpT t u = cmpL t.ar u.ar) := by rw [HF4.out]; unfold orI; rw [if_neg (by simpa using s1)]; exact Lib.hid rfl
          clear s1 HF4
          go_enter Tryz.func209, Tryz.ntmps209
          go_wp2_with fail
          have hB := two_boxes w #[.int .i64 t.k, .int .i64 t.i, .string t.s, .slice B t.ar.length d] #[.int .i64 u.k, .int .i64 u.i, .string u.s, .slice D u.ar.length d2] 114 114 0
          rw [World.drewN_zero] at hB
          generalize ((w.alloc (.cells #[.int .i64 t.k, .int .i64 t.i, .string t.s, .slice B t.ar.length d] 114)).alloc (.cells #[.int .i64 u.k, .int .i64 u.i, .string u.s, .slice D u.ar.length d2] 114)) = y at hB ⊢
          obtain ⟨hEy, hB1, hB2⟩ := hB
          have HV : Hid (VT y t _) := HV0.out.ext hEy
          have HX : Hid (VT y u _) := HX0.out.ext hEy
          have k0 : y.cell? ⟨w.heap.size, 0, none⟩ = some (.int .i64 t.k) := hB1 0
          have k1 : y.cell? ⟨w.heap.size, 1, none⟩ = some (.int .i64 t.i) := hB1 1
          have k2 : y.cell? ⟨w.heap.size, 2, none⟩ = some (.string t.s) := hB1 2
          have k3 : y.cell? ⟨w.heap.size, 3, none⟩ = some (.slice B t.ar.length d) := hB1 3
          have m0 : y.cell? ⟨w.heap.size + 1, 0, none⟩ = some (.int .i64 u.k) := hB2 0
          have m1 : y.cell? ⟨w.heap.size + 1, 1, none⟩ = some (.int .i64 u.i) := hB2 1
          have m2 : y.cell? ⟨w.heap.size + 1, 2, none⟩ = some (.string u.s) := hB2 2
          have m3 : y.cell? ⟨w.heap.size + 1, 3, none⟩ = some (.slice D u.ar.length d2) := hB2 3
          clear hB1 hB2
          refine wp_region_sched [(0, true), (2, true), (1, false), (3, false), (4, false), (5, true)] (by kernel_rfl) (by kernel_rfl) (Ext y) (Ext.rfl' y).dr ?_
          iterate 2 (refine sQ rfl rfl ?_ ?_ ?_; rotate_left; (· (intro w' hw'; have zk0 := hw'.cellOf k0; have zk1 := hw'.cellOf k1; have zk2 := hw'.cellOf k2; have zk3 := hw'.cellOf k3; have zm0 := hw'.cellOf m0; have zm1 := hw'.cellOf m1; have zm2 := hw'.cellOf m2; have zm3 := hw'.cellOf m3; go_simp; try with_reducible rfl)); try simp only [Act.put, List.setIfInBounds_toArray, List.set_cons_succ, List.set_cons_zero])
          refine sL rfl rfl ?_
          go_wp2_with fail
          refine (class_any t _ _ (HV.out.ext (Ext.rfl' y).dr)).mono ?_
          rintro e w1 ⟨v, rfl, hv1, he1⟩
          obtain rfl : v = _ := hv1
          have hC1 : Ext y w1 := (Ext.rfl' y).dr.tr he1
          go_wp2_with fail
          refine SQ.mk hC1 ?_
          refine sL rfl rfl ?_
          go_wp2_with fail
          refine (class_any u _ _ (HX.out.ext hC1)).mono ?_
          rintro e w2 ⟨v, rfl, hv2, he2⟩
          obtain rfl : v = _ := hv2
          have hC2 : Ext y w2 := hC1.tr he2
          go_wp2_with fail
          refine SQ.mk hC2 ?_
          refine sL rfl rfl ?_
          go_wp2_with fail
          refine (ints_any _ _ _).mono ?_
          rintro e w1 ⟨rfl, rfl⟩
          go_wp2_with fail
          refine SQ.mk hC2 ?_
          iterate 1 (refine sQ rfl rfl ?_ ?_ ?_; rotate_left; (· (intro w' hw'; have zk0 := hw'.cellOf k0; have zk1 := hw'.cellOf k1; have zk2 := hw'.cellOf k2; have zk3 := hw'.cellOf k3; have zm0 := hw'.cellOf m0; have zm1 := hw'.cellOf m1; have zm2 := hw'.cellOf m2; have zm3 := hw'.cellOf m3; go_simp; try with_reducible rfl)); try simp only [Act.put, List.setIfInBounds_toArray, List.set_cons_succ, List.set_cons_zero])
          refine sE ?_
          have z0 := hC2.cellOf k0
          have z1 := hC2.cellOf k1
          have z2 := hC2.cellOf k2
          have z3 := hC2.cellOf k3
          go_wp2_with fail
          refine (class_any t _ _ (HV.out.ext hC2)).mono ?_
          rintro e w3 ⟨v, rfl, hv3, he3⟩
          obtain rfl : v = _ := hv3
          have hC3 : Ext y w3 := hC2.tr he3
          clear z0 z1 z2 z3
          have z0 := hC3.cellOf k0
          have z1 := hC3.cellOf k1
          have z2 := hC3.cellOf k2
          have z3 := hC3.cellOf k3
          have x0 := hC3.cellOf m0
          have x1 := hC3.cellOf m1
          have x2 := hC3.cellOf m2
          have x3 := hC3.cellOf m3
          go_wp2_with fail
          refine (ints_any _ _ _).mono ?_
          rintro e w1 ⟨rfl, rfl⟩
          go_wp2_with fail
          refine (texts_any _ _ _).mono ?_
          rintro e w1 ⟨rfl, rfl⟩
          go_wp2_with fail
          refine ((unhide HL) t.ar u.ar _ _ _ hn (HS.out.ext (hEy.tr hC3)) (HY.out.ext (hEy.tr hC3))).mono ?_
          rintro e w4 ⟨v, rfl, hv4, he4⟩
          obtain rfl : v = _ := hv4
          go_wp2
          go_ret
          rw [HF5.out, ← listsT_same LL.out]
          exact Ret.mk rfl ((hEy.tr hC3).tr he4)
        · have bs : (cmpS t.s u.s == 0) = false := by simpa using s1
          have HF5 : Hid (cmpT t u = cmpS t.s u.s) := by rw [HF4.out]; unfold orI; rw [if_pos s1]; exact Lib.hid rfl
          clear s1 HF4
          go_enter Tryz.func209, Tryz.ntmps209
          go_wp2_with fail
          have hB := two_boxes w #[.int .i64 t.k, .int .i64 t.i, .string t.s, .slice B t.ar.length d] #[.int .i64 u.k, .int .i64 u.i, .string u.s, .slice D u.ar.length d2] 114 114 0
          rw [World.drewN_zero] at hB
          generalize ((w.alloc (.cells #[.int .i64 t.k, .int .i64 t.i, .string t.s, .slice B t.ar.length d] 114)).alloc (.cells #[.int .i64 u.k, .int .i64 u.i, .string u.s, .slice D u.ar.length d2] 114)) = y at hB ⊢
          obtain ⟨hEy, hB1, hB2⟩ := hB
          have HV : Hid (VT y t _) := HV0.out.ext hEy
          have HX : Hid (VT y u _) := HX0.out.ext hEy
          have k0 : y.cell? ⟨w.heap.size, 0, none⟩ = some (.int .i64 t.k) := hB1 0
          have k1 : y.cell? ⟨w.heap.size, 1, none⟩ = some (.int .i64 t.i) := hB1 1
          have k2 : y.cell? ⟨w.heap.size, 2, none⟩ = some (.string t.s) := hB1 2
          have k3 : y.cell? ⟨w.heap.size, 3, none⟩ = some (.slice B t.ar.length d) := hB1 3
          have m0 : y.cell? ⟨w.heap.size + 1, 0, none⟩ = some (.int .i64 u.k) := hB2 0
          have m1 : y.cell? ⟨w.heap.size + 1, 1, none⟩ = some (.int .i64 u.i) := hB2 1
          have m2 : y.cell? ⟨w.heap.size + 1, 2, none⟩ = some (.string u.s) := hB2 2
          have m3 : y.cell? ⟨w.heap.size + 1, 3, none⟩ = some (.slice D u.ar.length d2) := hB2 3
          clear hB1 hB2
          refine wp_region_sched [(0, true), (2, true), (1, false), (3, false), (4, false), (5, true)] (by kernel_rfl) (by kernel_rfl) (Ext y) (Ext.rfl' y).dr ?_
          iterate 2 (refine sQ rfl rfl ?_ ?_ ?_; rotate_left; (· (intro w' hw'; have zk0 := hw'.cellOf k0; have zk1 := hw'.cellOf k1; have zk2 := hw'.cellOf k2; have zk3 := hw'.cellOf k3; have zm0 := hw'.cellOf m0; have zm1 := hw'.cellOf m1; have zm2 := hw'.cellOf m2; have zm3 := hw'.cellOf m3; go_simp; try with_reducible rfl)); try simp only [Act.put, List.setIfInBounds_toArray, List.set_cons_succ, List.set_cons_zero])
          refine sL rfl rfl ?_
          go_wp2_with fail
          refine (class_any t _ _ (HV.out.ext (Ext.rfl' y).dr)).mono ?_
          rintro e w1 ⟨v, rfl, hv1, he1⟩
          obtain rfl : v = _ := hv1
          have hC1 : Ext y w1 := (Ext.rfl' y).dr.tr he1
          go_wp2_with fail
          refine SQ.mk hC1 ?_
          refine sL rfl rfl ?_
          go_wp2_with fail
          refine (class_any u _ _ (HX.out.ext hC1)).mono ?_
          rintro e w2 ⟨v, rfl, hv2, he2⟩
          obtain rfl : v = _ := hv2
          have hC2 : Ext y w2 := hC1.tr he2
          go_wp2_with fail
          refine SQ.mk hC2 ?_
          refine sL rfl rfl ?_
          go_wp2_with fail
          refine (ints_any _ _ _).mono ?_
          rintro e w1 ⟨rfl, rfl⟩
          go_wp2_with fail
          refine SQ.mk hC2 ?_
          iterate 1 (refine sQ rfl rfl ?_ ?_ ?_; rotate_left; (· (intro w' hw'; have zk0 := hw'.cellOf k0; have zk1 := hw'.cellOf k1; have zk2 := hw'.cellOf k2; have zk3 := hw'.cellOf k3; have zm0 := hw'.cellOf m0; have zm1 := hw'.cellOf m1; have zm2 := hw'.cellOf m2; have zm3 := hw'.cellOf m3; go_simp; try with_reducible rfl)); try simp only [Act.put, List.setIfInBounds_toArray, List.set_cons_succ, List.set_cons_zero])
          refine sE ?_
          have z0 := hC2.cellOf k0
          have z1 := hC2.cellOf k1
          have z2 := hC2.cellOf k2
          have z3 := hC2.cellOf k3
          go_wp2_with fail
          refine (class_any t _ _ (HV.out.ext hC2)).mono ?_
          rintro e w3 ⟨v, rfl, hv3, he3⟩
          obtain rfl : v = _ := hv3
          have hC3 : Ext y w3 := hC2.tr he3
          clear z0 z1 z2 z3
          have z0 := hC3.cellOf k0
          have z1 := hC3.cellOf k1
          have z2 := hC3.cellOf k2
          have z3 := hC3.cellOf k3
          have x0 := hC3.cellOf m0
          have x1 := hC3.cellOf m1
          have x2 := hC3.cellOf m2
          have x3 := hC3.cellOf m3
          go_wp2_with fail
          refine (ints_any _ _ _).mono ?_
          rintro e w1 ⟨rfl, rfl⟩
          go_wp2_with fail
          refine (texts_any _ _ _).mono ?_
          rintro e w1 ⟨rfl, rfl⟩
          go_wp2
          go_ret
          rw [HF5.out]
          exact Ret.mk rfl (hEy.tr hC3)
      · have bl : (cmpI (t.ar.length : Int) (u.ar.length : Int) == 0) = false := by simpa using l1
        have HF4 : Hid (cmpT t u = cmpI t.ar.length u.ar.length) := by rw [HF3.out]; unfold orI; rw [if_pos l1]; exact Lib.hid rfl
        clear l1 HF3
        go_enter Tryz.func209, Tryz.ntmps209
        go_wp2_with fail
        have hB := two_boxes w #[.int .i64 t.k, .int .i64 t.i, .string t.s, .slice B t.ar.length d] #[.int .i64 u.k, .int .i64 u.i, .string u.s, .slice D u.ar.length d2] 114 114 0
        rw [World.drewN_zero] at hB
        generalize ((w.alloc (.cells #[.int .i64 t.k, .int .i64 t.i, .string t.s, .slice B t.ar.length d] 114)).alloc (.cells #[.int .i64 u.k, .int .i64 u.i, .string u.s, .slice D u.ar.length d2] 114)) = y at hB ⊢
        obtain ⟨hEy, hB1, hB2⟩ := hB
        have HV : Hid (VT y t _) := HV0.out.ext hEy
        have HX : Hid (VT y u _) := HX0.out.ext hEy
        have k0 : y.cell? ⟨w.heap.size, 0, none⟩ = some (.int .i64 t.k) := hB1 0
        have k1 : y.cell? ⟨w.heap.size, 1, none⟩ = some (.int .i64 t.i) := hB1 1
        have k2 : y.cell? ⟨w.heap.size, 2, none⟩ = some (.string t.s) := hB1 2
        have k3 : y.cell? ⟨w.heap.size, 3, none⟩ = some (.slice B t.ar.length d) := hB1 3
        have m0 : y.cell? ⟨w.heap.size + 1, 0, none⟩ = some (.int .i64 u.k) := hB2 0
        have m1 : y.cell? ⟨w.heap.size + 1, 1, none⟩ = some (.int .i64 u.i) := hB2 1
        have m2 : y.cell? ⟨w.heap.size + 1, 2, none⟩ = some (.string u.s) := hB2 2
        have m3 : y.cell? ⟨w.heap.size + 1, 3, none⟩ = some (.slice D u.ar.length d2) := hB2 3
        clear hB1 hB2
        refine wp_region_sched [(0, true), (2, true), (1, false), (3, false), (4, false), (5, true)] (by kernel_rfl) (by kernel_rfl) (Ext y) (Ext.rfl' y).dr ?_
        iterate 2 (refine sQ rfl rfl ?_ ?_ ?_; rotate_left; (· (intro w' hw'; have zk0 := hw'.cellOf k0; have zk1 := hw'.cellOf k1; have zk2 := hw'.cellOf k2; have zk3 := hw'.cellOf k3; have zm0 := hw'.cellOf m0; have zm1 := hw'.cellOf m1; have zm2 := hw'.cellOf m2; have zm3 := hw'.cellOf m3; go_simp; try with_reducible rfl)); try simp only [Act.put, List.setIfInBounds_toArray, List.set_cons_succ, List.set_cons_zero])
        refine sL rfl rfl ?_
        go_wp2_with fail
        refine (class_any t _ _ (HV.out.ext (Ext.rfl' y).dr)).mono ?_
        rintro e w1 ⟨v, rfl, hv1, he1⟩
        obtain rfl : v = _ := hv1
        have hC1 : Ext y w1 := (Ext.rfl' y).dr.tr he1
        go_wp2_with fail
        refine SQ.mk hC1 ?_
        refine sL rfl rfl ?_
        go_wp2_with fail
        refine (class_any u _ _ (HX.out.ext hC1)).mono ?_
        rintro e w2 ⟨v, rfl, hv2, he2⟩
        obtain rfl : v = _ := hv2
        have hC2 : Ext y w2 := hC1.tr he2
        go_wp2_with fail
        refine SQ.mk hC2 ?_
        refine sL rfl rfl ?_
        go_wp2_with fail
        refine (ints_any _ _ _).mono ?_
        rintro e w1 ⟨rfl, rfl⟩
        go_wp2_with fail
        refine SQ.mk hC2 ?_
        iterate 1 (refine sQ rfl rfl ?_ ?_ ?_; rotate_left; (· (intro w' hw'; have zk0 := hw'.cellOf k0; have zk1 := hw'.cellOf k1; have zk2 := hw'.cellOf k2; have zk3 := hw'.cellOf k3; have zm0 := hw'.cellOf m0; have zm1 := hw'.cellOf m1; have zm2 := hw'.cellOf m2; have zm3 := hw'.cellOf m3; go_simp; try with_reducible rfl)); try simp only [Act.put, List.setIfInBounds_toArray, List.set_cons_succ, List.set_cons_zero])
        refine sE ?_
        have z0 := hC2.cellOf k0
        have z1 := hC2.cellOf k1
        have z2 := hC2.cellOf k2
        have z3 := hC2.cellOf k3
        go_wp2_with fail
        refine (class_any t _ _ (HV.out.ext hC2)).mono ?_
        rintro e w3 ⟨v, rfl, hv3, he3⟩
        obtain rfl : v = _ := hv3
        have hC3 : Ext y w3 := hC2.tr he3
        clear z0 z1 z2 z3
        have z0 := hC3.cellOf k0
        have z1 := hC3.cellOf k1
        have z2 := hC3.cellOf k2
        have z3 := hC3.cellOf k3
        have x0 := hC3.cellOf m0
        have x1 := hC3.cellOf m1
        have x2 := hC3.cellOf m2
        have x3 := hC3.cellOf m3
        go_wp2_with fail
        refine (ints_any _ _ _).mono ?_
        rintro e w1 ⟨rfl, rfl⟩
        go_wp2
        go_ret
        rw [HF4.out]
        exact Ret.mk rfl (hEy.tr hC3)
    have HF3 : Hid (cmpT t u = orI (cmpI t.k u.k) (orI (cmpI t.i u.i) (cmpS t.s u.s))) := by rw [HF2.out, if_neg r2]; exact Lib.hid rfl
    have b2 : (rankK t.k == 2) = false := by simpa using r2
    clear HF2 r0 r1 r2 hr
    by_cases l1 : cmpI t.k u.k = 0
    · have bl : (cmpI t.k u.k == 0) = true := by simpa using l1
      have HF4 : Hid (cmpT t u = orI (cmpI t.i u.i) (cmpS t.s u.s)) := by rw [HF3.out]; unfold orI; rw [if_neg (by simpa using l1)]; exact Lib.hid rfl
      clear l1 HF3
      by_cases s1 : cmpI t.i u.i = 0
      · have bs : (cmpI t.i u.i == 0) = true := by simpa using s1
        have HF5 : Hid (cmpT t u = cmpS t.s u.s) := by rw [HF4.out]; unfold orI; rw [if_neg (by simpa using s1)]; exact Lib.hid rfl
        clear s1 HF4
        go_enter Tryz.func209, Tryz.ntmps209
        go_wp2_with fail
        have hB := two_boxes w #[.int .i64 t.k, .int .i64 t.i, .string t.s, .slice B t.ar.length d] #[.int .i64 u.k, .int .i64 u.i, .string u.s, .slice D u.ar.length d2] 114 114 0
        rw [World.drewN_zero] at hB
        generalize ((w.alloc (.cells #[.int .i64 t.k, .int .i64 t.i, .string t.s, .slice B t.ar.length d] 114)).alloc (.cells #[.int .i64 u.k, .int .i64 u.i, .string u.s, .slice D u.ar.length d2] 114)) = y at hB ⊢
        obtain ⟨hEy, hB1, hB2⟩ := hB
        have HV : Hid (VT y t _) := HV0.out.ext hEy
        have HX : Hid (VT y u _) := HX0.out.ext hEy
        have k0 : y.cell? ⟨w.heap.size, 0, none⟩ = some (.int .i64 t.k) := hB1 0
        have k1 : y.cell? ⟨w.heap.size, 1, none⟩ = some (.int .i64 t.i) := hB1 1
        have k2 : y.cell? ⟨w.heap.size, 2, none⟩ = some (.string t.s) := hB1 2
        have k3 : y.cell? ⟨w.heap.size, 3, none⟩ = some (.slice B t.ar.length d) := hB1 3
        have m0 : y.cell? ⟨w.heap.size + 1, 0, none⟩ = some (.int .i64 u.k) := hB2 0
        have m1 : y.cell? ⟨w.heap.size + 1, 1, none⟩ = some (.int .i64 u.i) := hB2 1
        have m2 : y.cell? ⟨w.heap.size + 1, 2, none⟩ = some (.string u.s) := hB2 2
        have m3 : y.cell? ⟨w.heap.size + 1, 3, none⟩ = some (.slice D u.ar.length d2) := hB2 3
        clear hB1 hB2
        refine wp_region_sched [(0, true), (2, true), (1, false), (3, false), (4, false), (5, true)] (by kernel_rfl) (by kernel_rfl) (Ext y) (Ext.rfl' y).dr ?_
        iterate 2 (refine sQ rfl rfl ?_ ?_ ?_; rotate_left; (· (intro w' hw'; have zk0 := hw'.cellOf k0; have zk1 := hw'.cellOf k1; have zk2 := hw'.cellOf k2; have zk3 := hw'.cellOf k3; have zm0 := hw'.cellOf m0; have zm1 := hw'.cellOf m1; have zm2 := hw'.cellOf m2; have zm3 := hw'.cellOf m3; go_simp; try with_reducible rfl)); try simp only [Act.put, List.setIfInBounds_toArray, List.set_cons_succ, List.set_cons_zero])
        refine sL rfl rfl ?_
        go_wp2_with fail
        refine (class_any t _ _ (HV.out.ext (Ext.rfl' y).dr)).mono ?_
        rintro e w1 ⟨v, rfl, hv1, he1⟩
        obtain rfl : v = _ := hv1
        have hC1 : Ext y w1 := (Ext.rfl' y).dr.tr he1
        go_wp2_with fail
        refine SQ.mk hC1 ?_
        refine sL rfl rfl ?_
        go_wp2_with fail
        refine (class_any u _ _ (HX.out.ext hC1)).mono ?_
        rintro e w2 ⟨v, rfl, hv2, he2⟩
        obtain rfl : v = _ := hv2
        have hC2 : Ext y w2 := hC1.tr he2
        go_wp2_with fail
        refine SQ.mk hC2 ?_
        refine sL rfl rfl ?_
        go_wp2_with fail
        refine (ints_any _ _ _).mono ?_
        rintro e w1 ⟨rfl, rfl⟩
        go_wp2_with fail
        refine SQ.mk hC2 ?_
        iterate 1 (refine sQ rfl rfl ?_ ?_ ?_; rotate_left; (· (intro w' hw'; have zk0 := hw'.cellOf k0; have zk1 := hw'.cellOf k1; have zk2 := hw'.cellOf k2; have zk3 := hw'.cellOf k3; have zm0 := hw'.cellOf m0; have zm1 := hw'.cellOf m1; have zm2 := hw'.cellOf m2; have zm3 := hw'.cellOf m3; go_simp; try with_reducible rfl)); try simp only [Act.put, List.setIfInBounds_toArray, List.set_cons_succ, List.set_cons_zero])
        refine sE ?_
        have z0 := hC2.cellOf k0
        have z1 := hC2.cellOf k1
        have z2 := hC2.cellOf k2
        have z3 := hC2.cellOf k3
        go_wp2_with fail
        refine (class_any t _ _ (HV.out.ext hC2)).mono ?_
        rintro e w3 ⟨v, rfl, hv3, he3⟩
        obtain rfl : v = _ := hv3
        have hC3 : Ext y w3 := hC2.tr he3
        clear z0 z1 z2 z3
        have z0 := hC3.cellOf k0
        have z1 := hC3.cellOf k1
        have z2 := hC3.cellOf k2
        have z3 := hC3.cellOf k3
        have x0 := hC3.cellOf m0
        have x1 := hC3.cellOf m1
        have x2 := hC3.cellOf m2
        have x3 := hC3.cellOf m3
        go_wp2_with fail
        refine (ints_any _ _ _).mono ?_
        rintro e w1 ⟨rfl, rfl⟩
        go_wp2_with fail
        refine (ints_any _ _ _).mono ?_
        rintro e w1 ⟨rfl, rfl⟩
        go_wp2_with fail
        refine (texts_any _ _ _).mono ?_
        rintro e w1 ⟨rfl, rfl⟩
        go_wp2
        go_ret
        rw [HF5.out]
        exact Ret.mk rfl (hEy.tr hC3)
      · have bs : (cmpI t.i u.i == 0) = false := by simpa using s1
        have HF5 : Hid (cmpT t u = cmpI t.i u.i) := by rw [HF4.out]; unfold orI; rw [if_pos s1]; exact Lib.hid rfl
        clear s1 HF4
        go_enter Tryz.func209, Tryz.ntmps209
        go_wp2_with fail
        have hB := two_boxes w #[.int .i64 t.k, .int .i64 t.i, .string t.s, .slice B t.ar.length d] #[.int .i64 u.k, .int .i64 u.i, .string u.s, .slice D u.ar.length d2] 114 114 0
        rw [World.drewN_zero] at hB
        generalize ((w.alloc (.cells #[.int .i64 t.k, .int .i64 t.i, .string t.s, .slice B t.ar.length d] 114)).alloc (.cells #[.int .i64 u.k, .int .i64 u.i, .string u.s, .slice D u.ar.length d2] 114)) = y at hB ⊢
        obtain ⟨hEy, hB1, hB2⟩ := hB
        have HV : Hid (VT y t _) := HV0.out.ext hEy
        have HX : Hid (VT y u _) := HX0.out.ext hEy
        have k0 : y.cell? ⟨w.heap.size, 0, none⟩ = some (.int .i64 t.k) := hB1 0
        have k1 : y.cell? ⟨w.heap.size, 1, none⟩ = some (.int .i64 t.i) := hB1 1
        have k2 : y.cell? ⟨w.heap.size, 2, none⟩ = some (.string t.s) := hB1 2
        have k3 : y.cell? ⟨w.heap.size, 3, none⟩ = some (.slice B t.ar.length d) := hB1 3
        have m0 : y.cell? ⟨w.heap.size + 1, 0, none⟩ = some (.int .i64 u.k) := hB2 0
        have m1 : y.cell? ⟨w.heap.size + 1, 1, none⟩ = some (.int .i64 u.i) := hB2 1
        have m2 : y.cell? ⟨w.heap.size + 1, 2, none⟩ = some (.string u.s) := hB2 2
        have m3 : y.cell? ⟨w.heap.size + 1, 3, none⟩ = some (.slice D u.ar.length d2) := hB2 3
        clear hB1 hB2
        refine wp_region_sched [(0, true), (2, true), (1, false), (3, false), (4, false), (5, true)] (by kernel_rfl) (by kernel_rfl) (Ext y) (Ext.rfl' y).dr ?_
        iterate 2 (refine sQ rfl rfl ?_ ?_ ?_; rotate_left; (· (intro w' hw'; have zk0 := hw'.cellOf k0; have zk1 := hw'.cellOf k1; have zk2 := hw'.cellOf k2; have zk3 := hw'.cellOf k3; have zm0 := hw'.cellOf m0; have zm1 := hw'.cellOf m1; have zm2 := hw'.cellOf m2; have zm3 := hw'.cellOf m3; go_simp; try with_reducible rfl)); try simp only [Act.put, List.setIfInBounds_toArray, List.set_cons_succ, List.set_cons_zero])
        refine sL rfl rfl ?_
        go_wp2_with fail
        refine (class_any t _ _ (HV.out.ext (Ext.rfl' y).dr)).mono ?_
        rintro e w1 ⟨v, rfl, hv1, he1⟩
        obtain rfl : v = _ := hv1
        have hC1 : Ext y w1 := (Ext.rfl' y).dr.tr he1
        go_wp2_with fail
        refine SQ.mk hC1 ?_
        refine sL rfl rfl ?_
        go_wp2_with fail
        refine (class_any u _ _ (HX.out.ext hC1)).mono ?_
        rintro e w2 ⟨v, rfl, hv2, he2⟩
        obtain rfl : v = _ := hv2
        have hC2 : Ext y w2 := hC1.tr he2
        go_wp2_with fail
        refine SQ.mk hC2 ?_
        refine sL rfl rfl ?_
        go_wp2_with fail
        refine (ints_any _ _ _).mono ?_
        rintro e w1 ⟨rfl, rfl⟩
        go_wp2_with fail
        refine SQ.mk hC2 ?_
        iterate 1 (refine sQ rfl rfl ?_ ?_ ?_; rotate_left; (· (intro w' hw'; have zk0 := hw'.cellOf k0; have zk1 := hw'.cellOf k1; have zk2 := hw'.cellOf k2; have zk3 := hw'.cellOf k3; have zm0 := hw'.cellOf m0; have zm1 := hw'.cellOf m1; have zm2 := hw'.cellOf m2; have zm3 := hw'.cellOf m3; go_simp; try with_reducible rfl)); try simp only [Act.put, List.setIfInBounds_toArray, List.set_cons_succ, List.set_cons_zero])
        refine sE ?_
        have z0 := hC2.cellOf k0
        have z1 := hC2.cellOf k1
        have z2 := hC2.cellOf k2
        have z3 := hC2.cellOf k3
        go_wp2_with fail
        refine (class_any t _ _ (HV.out.ext hC2)).mono ?_
        rintro e w3 ⟨v, rfl, hv3, he3⟩
        obtain rfl : v = _ := hv3
        have hC3 : Ext y w3 := hC2.tr he3
        clear z0 z1 z2 z3
        have z0 := hC3.cellOf k0
        have z1 := hC3.cellOf k1
        have z2 := hC3.cellOf k2
        have z3 := hC3.cellOf k3
        have x0 := hC3.cellOf m0
        have x1 := hC3.cellOf m1
        have x2 := hC3.cellOf m2
        have x3 := hC3.cellOf m3
        go_wp2_with fail
        refine (ints_any _ _ _).mono ?_
        rintro e w1 ⟨rfl, rfl⟩
        go_wp2_with fail
        refine (ints_any _ _ _).mono ?_
        rintro e w1 ⟨rfl, rfl⟩
        go_wp2
        go_ret
        rw [HF5.out]
        exact Ret.mk rfl (hEy.tr hC3)
    · have bl : (cmpI t.k u.k == 0) = false := by simpa using l1
      have HF4 : Hid (cmpT t u = cmpI t.k u.k) := by rw [HF3.out]; unfold orI; rw [if_pos l1]; exact Lib.hid rfl
      clear l1 HF3
      go_enter Tryz.func209, Tryz.ntmps209
      go_wp2_with fail
      have hB := two_boxes w #[.int .i64 t.k, .int .i64 t.i, .string t.s, .slice B t.ar.length d] #[.int .i64 u.k, .int .i64 u.i, .string u.s, .slice D u.ar.length d2] 114 114 0
      rw [World.drewN_zero] at hB
      generalize ((w.alloc (.cells #[.int .i64 t.k, .int .i64 t.i, .string t.s, .slice B t.ar.length d] 114)).alloc (.cells #[.int .i64 u.k, .int .i64 u.i, .string u.s, .slice D u.ar.length d2] 114)) = y at hB ⊢
      obtain ⟨hEy, hB1, hB2⟩ := hB
      have HV : Hid (VT y t _) := HV0.out.ext hEy
      have HX : Hid (VT y u _) := HX0.out.ext hEy
      have k0 : y.cell? ⟨w.heap.size, 0, none⟩ = some (.int .i64 t.k) := hB1 0
      have k1 : y.cell? ⟨w.heap.size, 1, none⟩ = some (.int .i64 t.i) := hB1 1
      have k2 : y.cell? ⟨w.heap.size, 2, none⟩ = some (.string t.s) := hB1 2
      have k3 : y.cell? ⟨w.heap.size, 3, none⟩ = some (.slice B t.ar.length d) := hB1 3
      have m0 : y.cell? ⟨w.heap.size + 1, 0, none⟩ = some (.int .i64 u.k) := hB2 0
      have m1 : y.cell? ⟨w.heap.size + 1, 1, none⟩ = some (.int .i64 u.i) := hB2 1
      have m2 : y.cell? ⟨w.heap.size + 1, 2, none⟩ = some (.string u.s) := hB2 2
      have m3 : y.cell? ⟨w.heap.size + 1, 3, none⟩ = some (.slice D u.ar.length d2) := hB2 3
      clear hB1 hB2
      refine wp_region_sched [(0, true), (2, true), (1, false), (3, false), (4, false), (5, true)] (by kernel_rfl) (by kernel_rfl) (Ext y) (Ext.rfl' y).dr ?_
      iterate 2 (refine sQ rfl rfl ?_ ?_ ?_; rotate_left; (· (intro w' hw'; have zk0 := hw'.cellOf k0; have zk1 := hw'.cellOf k1; have zk2 := hw'.cellOf k2; have zk3 := hw'.cellOf k3; have zm0 := hw'.cellOf m0; have zm1 := hw'.cellOf m1; have zm2 := hw'.cellOf m2; have zm3 := hw'.cellOf m3; go_simp; try with_reducible rfl)); try simp only [Act.put, List.setIfInBounds_toArray, List.set_cons_succ, List.set_cons_zero])
      refine sL rfl rfl ?_
      go_wp2_with fail
      refine (class_any t _ _ (HV.out.ext (Ext.rfl' y).dr)).mono ?_
      rintro e w1 ⟨v, rfl, hv1, he1⟩
      obtain rfl : v = _ := hv1
      have hC1 : Ext y w1 := (Ext.rfl' y).dr.tr he1
      go_wp2_with fail
      refine SQ.mk hC1 ?_
      refine sL rfl rfl ?_
      go_wp2_with fail
      refine (class_any u _ _ (HX.out.ext hC1)).mono ?_
      rintro e w2 ⟨v, rfl, hv2, he2⟩
      obtain rfl : v = _ := hv2
      have hC2 : Ext y w2 := hC1.tr he2
      go_wp2_with fail
      refine SQ.mk hC2 ?_
      refine sL rfl rfl ?_
      go_wp2_with fail
      refine (ints_any _ _ _).mono ?_
      rintro e w1 ⟨rfl, rfl⟩
      go_wp2_with fail
      refine SQ.mk hC2 ?_
      iterate 1 (refine sQ rfl rfl ?_ ?_ ?_; rotate_left; (· (intro w' hw'; have zk0 := hw'.cellOf k0; have zk1 := hw'.cellOf k1; have zk2 := hw'.cellOf k2; have zk3 := hw'.cellOf k3; have zm0 := hw'.cellOf m0; have zm1 := hw'.cellOf m1; have zm2 := hw'.cellOf m2; have zm3 := hw'.cellOf m3; go_simp; try with_reducible rfl)); try simp only [Act.put, List.setIfInBounds_toArray, List.set_cons_succ, List.set_cons_zero])
      refine sE ?_
      have z0 := hC2.cellOf k0
      have z1 := hC2.cellOf k1
      have z2 := hC2.cellOf k2
      have z3 := hC2.cellOf k3
      go_wp2_with fail
      refine (class_any t _ _ (HV.out.ext hC2)).mono ?_
      rintro e w3 ⟨v, rfl, hv3, he3⟩
      obtain rfl : v = _ := hv3
      have hC3 : Ext y w3 := hC2.tr he3
      clear z0 z1 z2 z3
      have z0 := hC3.cellOf k0
      have z1 := hC3.cellOf k1
      have z2 := hC3.cellOf k2
      have z3 := hC3.cellOf k3
      have x0 := hC3.cellOf m0
      have x1 := hC3.cellOf m1
      have x2 := hC3.cellOf m2
      have x3 := hC3.cellOf m3
      go_wp2_with fail
      refine (ints_any _ _ _).mono ?_
      rintro e w1 ⟨rfl, rfl⟩
      go_wp2
      go_ret
      rw [HF4.out]
      exact Ret.mk rfl (hEy.tr hC3)
  · have HF1 : Hid (cmpT t u = cmpI (rankK t.k) (rankK u.k)) := by rw [HF.out]; unfold orI; rw [if_pos h1]; exact Lib.hid rfl
    have hb : (cmpI (rankK t.k) (rankK u.k) != 0) = true := by simpa using h1
    clear h1
    go_enter Tryz.func209, Tryz.ntmps209
    go_wp2_with fail
    have hB := two_boxes w #[.int .i64 t.k, .int .i64 t.i, .string t.s, .slice B t.ar.length d] #[.int .i64 u.k, .int .i64 u.i, .string u.s, .slice D u.ar.length d2] 114 114 0
    rw [World.drewN_zero] at hB
    generalize ((w.alloc (.cells #[.int .i64 t.k, .int .i64 t.i, .string t.s, .slice B t.ar.length d] 114)).alloc (.cells #[.int .i64 u.k, .int .i64 u.i, .string u.s, .slice D u.ar.length d2] 114)) = y at hB ⊢
    obtain ⟨hEy, hB1, hB2⟩ := hB
    have HV : Hid (VT y t _) := HV0.out.ext hEy
    have HX : Hid (VT y u _) := HX0.out.ext hEy
    have k0 : y.cell? ⟨w.heap.size, 0, none⟩ = some (.int .i64 t.k) := hB1 0
    have k1 : y.cell? ⟨w.heap.size, 1, none⟩ = some (.int .i64 t.i) := hB1 1
    have k2 : y.cell? ⟨w.heap.size, 2, none⟩ = some (.string t.s) := hB1 2
    have k3 : y.cell? ⟨w.heap.size, 3, none⟩ = some (.slice B t.ar.length d) := hB1 3
    have m0 : y.cell? ⟨w.heap.size + 1, 0, none⟩ = some (.int .i64 u.k) := hB2 0
    have m1 : y.cell? ⟨w.heap.size + 1, 1, none⟩ = some (.int .i64 u.i) := hB2 1
    have m2 : y.cell? ⟨w.heap.size + 1, 2, none⟩ = some (.string u.s) := hB2 2
    have m3 : y.cell? ⟨w.heap.size + 1, 3, none⟩ = some (.slice D u.ar.length d2) := hB2 3
    clear hB1 hB2
    refine wp_region_sched [(0, true), (2, true), (1, false), (3, false), (4, false), (5, true)] (by kernel_rfl) (by kernel_rfl) (Ext y) (Ext.rfl' y).dr ?_
    iterate 2 (refine sQ rfl rfl ?_ ?_ ?_; rotate_left; (· (intro w' hw'; have zk0 := hw'.cellOf k0; have zk1 := hw'.cellOf k1; have zk2 := hw'.cellOf k2; have zk3 := hw'.cellOf k3; have zm0 := hw'.cellOf m0; have zm1 := hw'.cellOf m1; have zm2 := hw'.cellOf m2; have zm3 := hw'.cellOf m3; go_simp; try with_reducible rfl)); try simp only [Act.put, List.setIfInBounds_toArray, List.set_cons_succ, List.set_cons_zero])
    refine sL rfl rfl ?_
    go_wp2_with fail
    refine (class_any t _ _ (HV.out.ext (Ext.rfl' y).dr)).mono ?_
    rintro e w1 ⟨v, rfl, hv1, he1⟩
    obtain rfl : v = _ := hv1
    have hC1 : Ext y w1 := (Ext.rfl' y).dr.tr he1
    go_wp2_with fail
    refine SQ.mk hC1 ?_
    refine sL rfl rfl ?_
    go_wp2_with fail
    refine (class_any u _ _ (HX.out.ext hC1)).mono ?_
    rintro e w2 ⟨v, rfl, hv2, he2⟩
    obtain rfl : v = _ := hv2
    have hC2 : Ext y w2 := hC1.tr he2
    go_wp2_with fail
    refine SQ.mk hC2 ?_
    refine sL rfl rfl ?_
    go_wp2_with fail
    refine (ints_any _ _ _).mono ?_
    rintro e w1 ⟨rfl, rfl⟩
    go_wp2_with fail
    refine SQ.mk hC2 ?_
    iterate 1 (refine sQ rfl rfl ?_ ?_ ?_; rotate_left; (· (intro w' hw'; have zk0 := hw'.cellOf k0; have zk1 := hw'.cellOf k1; have zk2 := hw'.cellOf k2; have zk3 := hw'.cellOf k3; have zm0 := hw'.cellOf m0; have zm1 := hw'.cellOf m1; have zm2 := hw'.cellOf m2; have zm3 := hw'.cellOf m3; go_simp; try with_reducible rfl)); try simp only [Act.put, List.setIfInBounds_toArray, List.set_cons_succ, List.set_cons_zero])
    refine sE ?_
    go_wp2
    go_ret
    rw [HF1.out]
    exact Ret.mk rfl (hEy.tr hC2)

def ListsRel (W : World) (ts us : List T) (v5 : Value) (wr : World) : Prop :=
  ∃ k : Nat, v5 = .int .i64 (k : Int) ∧ k ≤ ts.length ∧ k ≤ us.length ∧ Hid (cmpL ts us = cmpL (ts.drop k) (us.drop k)) ∧ Ext W wr

set_option maxRecDepth 100000 in
set_option maxHeartbeats 1600000 in
theorem lists_step (n : Nat) (hM : n ≤ 1000000000)
    (HC : Hid (∀ (t u : T) (v x : Value) (w : World), wt t ≤ n → VT w t v → VT w u x → Calls Tryz.prog 209 #[v, x] w (Ret w (Is (.int .i64 (cmpT t u))))))
    (ts us : List T) (v x : Value) (w : World) (hn : wtL ts ≤ n) (hv : SlT w ts v) (hx : SlT w us x) : Calls Tryz.prog 231 #[v, x] w (Ret w (Is (.int .i64 (listsT ts us)))) := by
  have hv' := hv
  have hx' := hx
  obtain ⟨A, c, xs, rfl, -⟩ := hv
  obtain ⟨B, d, ys, rfl, -⟩ := hx
  have hll : ts.length ≤ 1000000000 := by have := len_wtL ts; omega
  have HN : Hid (wtL ts ≤ n) := hn
  clear hn
  go_enter Tryz.func231, Tryz.ntmps231
  go_wp2
  go_loopw [5, 6] (fun v5 _ wr => ListsRel w ts us v5 wr) (fun v5 _ _ => ts.length - (intOf v5).toNat)
  case atStart => exact ⟨0, rfl, by omega, by omega, Lib.hid rfl, Ext.rfl' w⟩
  case round =>
    obtain ⟨k, rfl, hk, hk2, hi, he⟩ := hrel
    by_cases hlt : k < ts.length
    · by_cases hlu : k < us.length
      · obtain ⟨t, ht⟩ : ∃ t, ts[k]? = some t := ⟨ts[k], List.getElem?_eq_getElem hlt⟩
        obtain ⟨u, hu⟩ : ∃ u, us[k]? = some u := ⟨us[k], List.getElem?_eq_getElem hlu⟩
        obtain ⟨b, o, sl, rfl, c0, c1, c2, c3, -, hvt⟩ := (hv'.ext he).at_ ht
        obtain ⟨b2, o2, sx, rfl, m0, m1, m2, m3, -, hvu⟩ := (hx'.ext he).at_ hu
        rw [cmpL_drop ht hu] at hi
        have HW : Hid (wt t ≤ n) := by have := wt_mem (List.mem_of_getElem? ht); have := HN.out; exact Lib.hid (by omega)
        clear ht hu
        go_wp2_with fail
        refine wp_region_sched [(0, true), (1, true), (2, true), (3, true), (4, true), (5, true), (6, true), (7, true), (8, false), (9, true)] (by kernel_rfl) (by kernel_rfl) (Ext wr) (Ext.rfl' wr).dr ?_
        iterate 8 (refine sQ rfl rfl ?_ ?_ ?_; rotate_left; (· (intro w' hw'; have zc0 := hw'.cellOf c0; have zc1 := hw'.cellOf c1; have zc2 := hw'.cellOf c2; have zc3 := hw'.cellOf c3; have zm0 := hw'.cellOf m0; have zm1 := hw'.cellOf m1; have zm2 := hw'.cellOf m2; have zm3 := hw'.cellOf m3; go_simp; try with_reducible rfl)); try simp only [Act.put, List.setIfInBounds_toArray, List.set_cons_succ, List.set_cons_zero])
        refine sL rfl rfl ?_
        go_wp2_with fail
        refine ((unhide HC) t u _ _ _ HW.out (hvt.ext (Ext.rfl' wr).dr) (hvu.ext (Ext.rfl' wr).dr)).mono ?_
        rintro e w2 ⟨v, rfl, hv2, he2⟩
        obtain rfl : v = _ := hv2
        have hE2 : Ext wr w2 := (Ext.rfl' wr).dr.tr he2
        go_wp2_with fail
        refine SQ.mk hE2 ?_
        iterate 1 (refine sQ rfl rfl ?_ ?_ ?_; rotate_left; (· (intro w' hw'; have zc0 := hw'.cellOf c0; have zc1 := hw'.cellOf c1; have zc2 := hw'.cellOf c2; have zc3 := hw'.cellOf c3; have zm0 := hw'.cellOf m0; have zm1 := hw'.cellOf m1; have zm2 := hw'.cellOf m2; have zm3 := hw'.cellOf m3; go_simp; try with_reducible rfl)); try simp only [Act.put, List.setIfInBounds_toArray, List.set_cons_succ, List.set_cons_zero])
        refine sE ?_
        by_cases h0 : cmpT t u = 0
        · have hb : (cmpT t u != 0) = false := by simpa using h0
          have HI : Hid (cmpL ts us = cmpL (ts.drop (k + 1)) (us.drop (k + 1))) := by rw [hi.out]; unfold orI; rw [if_neg (by simpa using h0)]; exact Lib.hid rfl
          clear h0
          go_wp2
          go_roundw
          case rel => exact ⟨k + 1, by go_num, by omega, by omega, HI, he.tr hE2⟩
          case measure => simp [intOf]; omega
        · have hb : (cmpT t u != 0) = true := by simpa using h0
          have HI : Hid (listsT ts us = cmpT t u) := by
            unfold listsT; rw [hi.out]; unfold orI; rw [if_pos h0, if_pos h0]; exact Lib.hid rfl
          clear h0
          go_wp2
          go_ret
          rw [HI.out]
          exact Ret.mk rfl (he.tr hE2)
      · have HI : Hid (listsT ts us = cmpI ts.length us.length) := by
          rw [List.drop_eq_nil_of_le (show us.length ≤ k by omega), cmpL_nil2] at hi
          unfold listsT; rw [hi.out]; unfold orI; rw [if_neg (by simp)]; exact Lib.hid rfl
        go_wp2_with fail
        refine (ints_any _ _ _).mono ?_
        rintro e w1 ⟨rfl, rfl⟩
        go_wp2
        go_ret
        rw [HI.out]
        exact Ret.mk rfl he
    · have HI : Hid (listsT ts us = cmpI ts.length us.length) := by
        rw [List.drop_eq_nil_of_le (show ts.length ≤ k by omega)] at hi
        have h0 : cmpL ts us = 0 := by rw [hi.out]; simp only [cmpL]
        unfold listsT; rw [h0]; unfold orI; rw [if_neg (by simp)]; exact Lib.hid rfl
      go_wp2_with fail
      refine (ints_any _ _ _).mono ?_
      rintro e w1 ⟨rfl, rfl⟩
      go_wp2
      go_ret
      rw [HI.out]
      exact Ret.mk rfl he

theorem refCompare_any : ∀ (n : Nat), n ≤ 1000000000 → ∀ (t u : T) (v x : Value) (w : World), wt t ≤ n → VT w t v → VT w u x → Calls Tryz.prog 209 #[v, x] w (Ret w (Is (.int .i64 (cmpT t u))))
  | 0, _, t, _, _, _, _, hn, _, _ => by rw [wt_eq] at hn; omega
  | n + 1, hM, t, u, v, x, w, hn, hv, hx =>
    refCompare_step n (Lib.hid fun ts us v u w h1 h2 h3 => lists_step n (by omega) (Lib.hid (refCompare_any n (by omega))) ts us v u w h1 h2 h3) t u v x w (by rw [wt_eq] at hn; omega) hv hx
theorem lists_any (n : Nat) (hM : n ≤ 1000000000) (ts us : List T) (v x : Value) (w : World) (hn : wtL ts ≤ n) (hv : SlT w ts v) (hx : SlT w us x) : Calls Tryz.prog 231 #[v, x] w (Ret w (Is (.int .i64 (listsT ts us)))) :=
  lists_step n hM (Lib.hid (refCompare_any n hM)) ts us v x w hn hv hx

def sameT (t u : T) : Bool := cmpT t u == 0

theorem refSame_any (n : Nat) (hM : n ≤ 1000000000) (t u : T) (v x : Value) (w : World) (hn : wt t ≤ n) (hv : VT w t v) (hx : VT w u x) : Calls Tryz.prog 167 #[v, x] w (Ret w (Is (.bool (sameT t u)))) := by
  have hC := hide (fun w' (e : Ext w w') => refCompare_any n hM t u v x w' hn (hv.ext e) (hx.ext e))
  obtain ⟨sl, rfl, hs, -⟩ := hv.open_
  obtain ⟨sx, rfl, hy, -⟩ := hx.open_
  obtain ⟨B, d, xs, rfl, -⟩ := hs
  obtain ⟨D, d2, ys, rfl, -⟩ := hy
  clear hv hx
  go_enter Tryz.func167, Tryz.ntmps167
  go_wp2_with fail
  refine ((unhide hC) _ (((Ext.rfl' w).al _).al _)).mono ?_
  rintro e w1 ⟨v, rfl, hv, he⟩
  obtain rfl : v = _ := hv
  go_wp2
  go_ret
  exact Ret.mk rfl ((((Ext.rfl' w).al _).al _).tr he)
end Go.Proofs.YtdoljfkjdfaakaaGreat


namespace Go.Proofs.YtdoljfkjdfaakaaGreat
set_option maxRecDepth 100000
open Go.RowKit

theorem arity_any (op : Int) (w : World) : Calls Tryz.prog 223 #[.int .i64 op] w (SameI w (arityG op)) := by
  go_enter Tryz.func223, Tryz.ntmps223
  go_wp2
  all_goals go_ret
  all_goals (refine SameI.mk ?_; unfold arityG; (repeat' split) <;> first | rfl | (exfalso; simp at *; omega))

theorem refRightAtom_any (n : Nat) (hM : n ≤ 1000000000) (a : At) (v : Value) (w : World) (hn : wtL a.ts ≤ n) (hv : VA w a v) : Calls Tryz.prog 157 #[v] w (Ret w (Is (.bool (rightA a)))) := by
  obtain ⟨sl, rfl, hs, hz⟩ := hv.open_
  have hC := hide (fun (w' : World) (e : Ext w w') => refArgsR_any n hM a.ts sl w' hn (hs.ext e))
  obtain ⟨A, c, xs, rfl, -⟩ := hs
  have hnm := hide (refName_any a.n (Lib.hid hz))
  have HE := hide (fun o => (Ext.rfl' w).al o)
  clear hv hn hz
  by_cases hj : isName a.n
  · rw [hj] at hnm
    by_cases h6 : a.ts.length ≤ 6
    · have HR : Hid (rightA a = rightL a.ts) := Lib.hid (by unfold rightA; simp [hj, h6])
      have h6' : (a.ts.length : Int) ≤ 6 := by omega
      clear hj h6
      go_enter Tryz.func157, Tryz.ntmps157
      go_wp2_with fail
      refine ((unhide hnm) _).mono ?_
      rintro e w1 ⟨rfl, rfl⟩
      go_wp2_with fail
      refine ((unhide hC) _ ((unhide HE) _)).mono ?_
      rintro e w2 ⟨v, rfl, hv, he⟩
      obtain rfl : v = _ := hv
      have he := hide (((unhide HE) _).tr he)
      go_wp2
      go_ret
      exact Ret.mk (HR.out ▸ rfl) (unhide he)
    · have HR : Hid (rightA a = false) := Lib.hid (by unfold rightA; simp [h6])
      have h6' : ¬ (a.ts.length : Int) ≤ 6 := by omega
      clear hj h6
      go_enter Tryz.func157, Tryz.ntmps157
      go_wp2_with fail
      refine ((unhide hnm) _).mono ?_
      rintro e w1 ⟨rfl, rfl⟩
      go_wp2
      go_ret
      exact Ret.mk (HR.out ▸ rfl) ((unhide HE) _)
  · have hj' : isName a.n = false := by simpa using hj
    rw [hj'] at hnm
    have HR : Hid (rightA a = false) := Lib.hid (by unfold rightA; simp [hj])
    clear hj hj'
    go_enter Tryz.func157, Tryz.ntmps157
    go_wp2_with fail
    refine ((unhide hnm) _).mono ?_
    rintro e w1 ⟨rfl, rfl⟩
    go_wp2
    go_ret
    exact Ret.mk (HR.out ▸ rfl) ((unhide HE) _)

set_option maxHeartbeats 1000000 in
theorem refRightGoal_any (n : Nat) (hM : n ≤ 1000000000) (g : Gl) (v : Value) (w : World) (hn : wtL g.ts ≤ n) (hv : VG w g v) : Calls Tryz.prog 181 #[v] w (Ret w (Is (.bool (rightG g)))) := by
  obtain ⟨sl, rfl, hs, ho, hz⟩ := hv.open_
  have hC := hide (fun (w' : World) (e : Ext w w') => refArgsR_any n hM g.ts sl w' hn (hs.ext e))
  have hCA := hide (fun (w' : World) (e : Ext w w') => refRightAtom_any n hM ⟨g.n, g.ts⟩ _ w' hn (VA.mk (hs.ext e) hz))
  obtain ⟨A, c, xs, rfl, -⟩ := hs
  obtain ⟨y, hy⟩ : ∃ y, w.alloc (.cells #[.int .i64 g.op, .string g.n, .slice A g.ts.length c] 73) = y := ⟨_, rfl⟩
  have HE : Hid (Ext w y) := Lib.hid (by rw [← hy]; exact (Ext.rfl' w).al _)
  have b0 : y.cell? ⟨w.heap.size, 0, none⟩ = some (.int .i64 g.op) := by rw [← hy]; exact box_cells w _ _ 0 _ rfl
  have b1 : y.cell? ⟨w.heap.size, 1, none⟩ = some (.string g.n) := by rw [← hy]; exact box_cells w _ _ 1 _ rfl
  have b2 : y.cell? ⟨w.heap.size, 2, none⟩ = some (.slice A g.ts.length c) := by rw [← hy]; exact box_cells w _ _ 2 _ rfl
  clear hv hn hz ho
  by_cases h0 : g.op = 0
  · have HR : Hid (rightG g = rightA ⟨g.n, g.ts⟩) := Lib.hid (by unfold rightG; rw [if_pos h0])
    have k0 : (g.op == 0) = true := by simpa using h0
    clear h0
    go_enter Tryz.func181, Tryz.ntmps181
    go_wp2_with fail
    refine ((unhide hCA) _ HE.out).mono ?_
    rintro e w1 ⟨v, rfl, hv, he⟩
    obtain rfl : v = _ := hv
    have he := hide (HE.out.tr he)
    go_wp2
    go_ret
    exact Ret.mk (HR.out ▸ rfl) (unhide he)
  have HR : Hid (rightG g = (decide (g.n.toList = []) && decide (arityG g.op = (g.ts.length : Int)) && rightL g.ts)) := Lib.hid (by unfold rightG; rw [if_neg h0])
  have k0 : (g.op == 0) = false := by simpa using h0
  clear h0
  by_cases hs : g.n.toList = []
  · have hse : g.n.toList.isEmpty = true := by simp [hs]
    by_cases hl : arityG g.op = (g.ts.length : Int)
    · have HX : Hid (rightG g = rightL g.ts) := Lib.hid (by rw [HR.out]; simp [hs, hl])
      have HA := Lib.hid hl
      clear hs hl
      go_enter Tryz.func181, Tryz.ntmps181
      go_wp2_with fail
      refine wp_region_sched [(0, true), (1, true), (2, true), (3, true), (4, true), (5, true), (7, true), (8, true), (9, true), (6, false), (10, true), (11, true), (12, true), (13, true), (14, true), (15, false), (16, true), (17, true)] (by kernel_rfl) (by kernel_rfl) (Ext y) (Ext.rfl' y).dr ?_
      iterate 9 (refine sQ rfl rfl ?_ ?_ ?_; rotate_left; (· (intro w' hw'; have z0 := hw'.cellOf b0; have z1 := hw'.cellOf b1; have z2 := hw'.cellOf b2; go_simp; try with_reducible rfl)); try simp only [Act.put, List.setIfInBounds_toArray, List.set_cons_succ, List.set_cons_zero])
      refine sL rfl rfl ?_
      go_wp2_with fail
      refine (arity_any _ _).mono ?_
      rintro e w1 ⟨rfl, rfl⟩
      rw [HA.out]
      go_wp2_with fail
      refine SQ.mk (Ext.rfl' y).dr ?_
      iterate 5 (refine sQ rfl rfl ?_ ?_ ?_; rotate_left; (· (intro w' hw'; have z0 := hw'.cellOf b0; have z1 := hw'.cellOf b1; have z2 := hw'.cellOf b2; go_simp; try with_reducible rfl)); try simp only [Act.put, List.setIfInBounds_toArray, List.set_cons_succ, List.set_cons_zero])
      refine sL rfl rfl ?_
      go_wp2_with fail
      refine ((unhide hC) _ (HE.out.tr (Ext.rfl' y).dr)).mono ?_
      rintro e w2 ⟨v, rfl, hv, he⟩
      obtain rfl : v = _ := hv
      have hE2 := (Ext.rfl' y).dr.tr he
      clear he
      go_wp2_with fail
      refine SQ.mk hE2 ?_
      iterate 2 (refine sQ rfl rfl ?_ ?_ ?_; rotate_left; (· (intro w' hw'; have z0 := hw'.cellOf b0; have z1 := hw'.cellOf b1; have z2 := hw'.cellOf b2; go_simp; try with_reducible rfl)); try simp only [Act.put, List.setIfInBounds_toArray, List.set_cons_succ, List.set_cons_zero])
      refine sE ?_
      go_wp2
      go_ret
      exact Ret.mk (HX.out ▸ rfl) (HE.out.tr hE2)
    · have HX : Hid (rightG g = false) := Lib.hid (by rw [HR.out]; simp [hl])
      obtain ⟨ar, har⟩ : ∃ ar, arityG g.op = ar := ⟨_, rfl⟩
      have HA := Lib.hid har
      have hne : (ar == (g.ts.length : Int)) = false := by rw [← har]; simpa using hl
      clear hs hl har
      go_enter Tryz.func181, Tryz.ntmps181
      go_wp2_with fail
      refine wp_region_sched [(0, true), (1, true), (2, true), (3, true), (4, true), (5, true), (7, true), (8, true), (9, true), (6, false), (10, true), (11, true), (12, true), (13, true), (14, true), (15, false), (16, true), (17, true)] (by kernel_rfl) (by kernel_rfl) (Ext y) (Ext.rfl' y).dr ?_
      iterate 9 (refine sQ rfl rfl ?_ ?_ ?_; rotate_left; (· (intro w' hw'; have z0 := hw'.cellOf b0; have z1 := hw'.cellOf b1; have z2 := hw'.cellOf b2; go_simp; try with_reducible rfl)); try simp only [Act.put, List.setIfInBounds_toArray, List.set_cons_succ, List.set_cons_zero])
      refine sL rfl rfl ?_
      go_wp2_with fail
      refine (arity_any _ _).mono ?_
      rintro e w1 ⟨rfl, rfl⟩
      rw [HA.out]
      go_wp2_with fail
      refine SQ.mk (Ext.rfl' y).dr ?_
      iterate 3 (refine sQ rfl rfl ?_ ?_ ?_; rotate_left; (· (intro w' hw'; have z0 := hw'.cellOf b0; have z1 := hw'.cellOf b1; have z2 := hw'.cellOf b2; go_simp; try with_reducible rfl)); try simp only [Act.put, List.setIfInBounds_toArray, List.set_cons_succ, List.set_cons_zero])
      iterate 2 (refine sN rfl rfl ?_; simp only [Act.put, List.setIfInBounds_toArray, List.set_cons_succ, List.set_cons_zero])
      (refine sM rfl rfl ?_; simp only [Act.put, List.setIfInBounds_toArray, List.set_cons_succ, List.set_cons_zero])
      iterate 2 (refine sQ rfl rfl ?_ ?_ ?_; rotate_left; (· (intro w' hw'; have z0 := hw'.cellOf b0; have z1 := hw'.cellOf b1; have z2 := hw'.cellOf b2; go_simp; try with_reducible rfl)); try simp only [Act.put, List.setIfInBounds_toArray, List.set_cons_succ, List.set_cons_zero])
      refine sE ?_
      go_wp2
      go_ret
      exact Ret.mk (HX.out ▸ rfl) (HE.out.tr (Ext.rfl' y).dr)
  · have hse : g.n.toList.isEmpty = false := by simpa using hs
    have HX : Hid (rightG g = false) := Lib.hid (by rw [HR.out]; simp [hs])
    clear hs
    go_enter Tryz.func181, Tryz.ntmps181
    go_wp2_with fail
    refine wp_region_sched [(0, true), (1, true), (2, true), (3, true), (4, true), (5, true), (7, true), (8, true), (9, true), (6, false), (10, true), (11, true), (12, true), (13, true), (14, true), (15, false), (16, true), (17, true)] (by kernel_rfl) (by kernel_rfl) (Ext y) (Ext.rfl' y).dr ?_
    iterate 4 (refine sQ rfl rfl ?_ ?_ ?_; rotate_left; (· (intro w' hw'; have z0 := hw'.cellOf b0; have z1 := hw'.cellOf b1; have z2 := hw'.cellOf b2; go_simp; try with_reducible rfl)); try simp only [Act.put, List.setIfInBounds_toArray, List.set_cons_succ, List.set_cons_zero])
    iterate 5 (refine sN rfl rfl ?_; simp only [Act.put, List.setIfInBounds_toArray, List.set_cons_succ, List.set_cons_zero])
    (refine sM rfl rfl ?_; simp only [Act.put, List.setIfInBounds_toArray, List.set_cons_succ, List.set_cons_zero])
    iterate 1 (refine sN rfl rfl ?_; simp only [Act.put, List.setIfInBounds_toArray, List.set_cons_succ, List.set_cons_zero])
    iterate 2 (refine sQ rfl rfl ?_ ?_ ?_; rotate_left; (· (intro w' hw'; have z0 := hw'.cellOf b0; have z1 := hw'.cellOf b1; have z2 := hw'.cellOf b2; go_simp; try with_reducible rfl)); try simp only [Act.put, List.setIfInBounds_toArray, List.set_cons_succ, List.set_cons_zero])
    iterate 2 (refine sN rfl rfl ?_; simp only [Act.put, List.setIfInBounds_toArray, List.set_cons_succ, List.set_cons_zero])
    (refine sM rfl rfl ?_; simp only [Act.put, List.setIfInBounds_toArray, List.set_cons_succ, List.set_cons_zero])
    iterate 2 (refine sQ rfl rfl ?_ ?_ ?_; rotate_left; (· (intro w' hw'; have z0 := hw'.cellOf b0; have z1 := hw'.cellOf b1; have z2 := hw'.cellOf b2; go_simp; try with_reducible rfl)); try simp only [Act.put, List.setIfInBounds_toArray, List.set_cons_succ, List.set_cons_zero])
    refine sE ?_
    go_wp2
    go_ret
    exact Ret.mk (HX.out ▸ rfl) (HE.out.tr (Ext.rfl' y).dr)
end Go.Proofs.YtdoljfkjdfaakaaGreat


namespace Go.Proofs.YtdoljfkjdfaakaaGreat
set_option maxRecDepth 100000
open Go.RowKit

/-- The cells of a box, at a block that is spelled otherwise. -/
theorem box_at (w : World) (cs : Array Value) (t : TypeId) (j : Nat) (u : Value) (g : Nat) (hg : w.heap.size = g) (h : cs[j]? = some u) : (w.alloc (.cells cs t)).cell? ⟨g, j, none⟩ = some u := by
  subst hg; exact box_cells w cs t j u h

end Go.Proofs.YtdoljfkjdfaakaaGreat


namespace Go.Proofs.YtdoljfkjdfaakaaGreat
set_option maxRecDepth 100000
open Go.RowKit

/-- Constraints compared: their names, their numbers of arguments, their arguments. -/
def cmpA (a b : At) : Int := orI (orI (cmpS a.n b.n) (cmpI a.ts.length b.ts.length)) (cmpL a.ts b.ts)
set_option maxHeartbeats 1000000 in
theorem refCmpAtom_any (n : Nat) (hM : n ≤ 1000000000) (a b : At) (v x : Value) (w : World) (hn : wtL a.ts ≤ n) (hv : VA w a v) (hx : VA w b x) : Calls Tryz.prog 208 #[v, x] w (Ret w (Is (.int .i64 (cmpA a b)))) := by
  obtain ⟨sa, rfl, hsa, -⟩ := hv.open_
  obtain ⟨sb, rfl, hsb, -⟩ := hx.open_
  have hC := hide (fun (w' : World) (e : Ext w w') => lists_any n hM a.ts b.ts sa sb w' hn (hsa.ext e) (hsb.ext e))
  obtain ⟨Aa, ca, xsa, rfl, -⟩ := hsa
  obtain ⟨Ab, cb, xsb, rfl, -⟩ := hsb
  clear hv hx hn
  obtain ⟨y, hy⟩ : ∃ y, ((w.alloc (.cells #[.string a.n, .slice Aa a.ts.length ca] 107)).alloc (.cells #[.string b.n, .slice Ab b.ts.length cb] 107)) = y := ⟨_, rfl⟩
  have HE : Hid (Ext w y) := Lib.hid (by rw [← hy]; exact (((Ext.rfl' w).al _).al _))
  have ba0 : y.cell? ⟨w.heap.size, 0, none⟩ = some (.string a.n) := by rw [← hy]; exact ((Ext.rfl' _).al _).cellOf (box_at w #[.string a.n, .slice Aa a.ts.length ca] 107 0 _ (w.heap.size) (by simp) rfl)
  have ba1 : y.cell? ⟨w.heap.size, 1, none⟩ = some (.slice Aa a.ts.length ca) := by rw [← hy]; exact ((Ext.rfl' _).al _).cellOf (box_at w #[.string a.n, .slice Aa a.ts.length ca] 107 1 _ (w.heap.size) (by simp) rfl)
  have bb0 : y.cell? ⟨w.heap.size + 1, 0, none⟩ = some (.string b.n) := by rw [← hy]; exact box_at (w.alloc (.cells #[.string a.n, .slice Aa a.ts.length ca] 107)) #[.string b.n, .slice Ab b.ts.length cb] 107 0 _ (w.heap.size + 1) (by simp) rfl
  have bb1 : y.cell? ⟨w.heap.size + 1, 1, none⟩ = some (.slice Ab b.ts.length cb) := by rw [← hy]; exact box_at (w.alloc (.cells #[.string a.n, .slice Aa a.ts.length ca] 107)) #[.string b.n, .slice Ab b.ts.length cb] 107 1 _ (w.heap.size + 1) (by simp) rfl
  obtain ⟨p, hp⟩ : ∃ p, cmpS a.n b.n = p := ⟨_, rfl⟩
  obtain ⟨q, hq⟩ : ∃ q, cmpI a.ts.length b.ts.length = q := ⟨_, rfl⟩
  have HP := Lib.hid hp
  have HQ := Lib.hid hq
  have HA : Hid (cmpA a b = orI (orI p q) (cmpL a.ts b.ts)) := Lib.hid (by unfold cmpA; rw [hp, hq])
  clear hp hq
  by_cases h0 : p = 0
  · have hb0 : (p == 0) = true := by simpa using h0
    by_cases h1 : q = 0
    · have hb1 : (q == 0) = true := by simpa using h1
      have hlen : Hid (a.ts.length = b.ts.length) := Lib.hid (by
        have := cmpI_zero (HQ.out.trans h1)
        omega)
      have HZ : Hid (cmpA a b = listsT a.ts b.ts) := Lib.hid (by rw [HA.out, listsT_same hlen.out]; unfold orI; simp [h0, h1])
      clear h0 h1
      go_enter Tryz.func208, Tryz.ntmps208
      go_wp2_with fail
      refine (texts_any _ _ _).mono ?_
      rintro e w1 ⟨rfl, rfl⟩
      rw [HP.out]
      go_wp2_with fail
      refine (ints_any _ _ _).mono ?_
      rintro e w2 ⟨rfl, rfl⟩
      rw [HQ.out]
      go_wp2_with fail
      refine ((unhide hC) _ HE.out).mono ?_
      rintro e w4 ⟨v, rfl, hv, he⟩
      obtain rfl : v = _ := hv
      have he := hide (HE.out.tr he)
      go_wp2
      go_ret
      rw [HZ.out]
      exact Ret.mk rfl (unhide he)
    · have hb1 : (q == 0) = false := by simpa using h1
      have HZ : Hid (cmpA a b = q) := Lib.hid (by rw [HA.out]; unfold orI; simp [h0, h1])
      clear h0 h1
      go_enter Tryz.func208, Tryz.ntmps208
      go_wp2_with fail
      refine (texts_any _ _ _).mono ?_
      rintro e w1 ⟨rfl, rfl⟩
      rw [HP.out]
      go_wp2_with fail
      refine (ints_any _ _ _).mono ?_
      rintro e w2 ⟨rfl, rfl⟩
      rw [HQ.out]
      go_wp2
      go_ret
      rw [HZ.out]
      exact Ret.mk rfl HE.out
  · have hb0 : (p == 0) = false := by simpa using h0
    have HZ : Hid (cmpA a b = p) := Lib.hid (by rw [HA.out]; unfold orI; simp [h0])
    clear h0
    go_enter Tryz.func208, Tryz.ntmps208
    go_wp2_with fail
    refine (texts_any _ _ _).mono ?_
    rintro e w1 ⟨rfl, rfl⟩
    rw [HP.out]
    go_wp2
    go_ret
    rw [HZ.out]
    exact Ret.mk rfl HE.out

theorem refSameAtom_any (n : Nat) (hM : n ≤ 1000000000) (a b : At) (v x : Value) (w : World) (hn : wtL a.ts ≤ n) (hv : VA w a v) (hx : VA w b x) : Calls Tryz.prog 166 #[v, x] w (Ret w (Is (.bool (cmpA a b == 0)))) := by
  have hC := hide (fun (w' : World) (e : Ext w w') => refCmpAtom_any n hM a b v x w' hn (hv.ext e) (hx.ext e))
  obtain ⟨sa, rfl, hsa, -⟩ := hv.open_
  obtain ⟨sb, rfl, hsb, -⟩ := hx.open_
  obtain ⟨Aa, ca, xsa, rfl, -⟩ := hsa
  obtain ⟨Ab, cb, xsb, rfl, -⟩ := hsb
  have HE := hide (fun o p => ((Ext.rfl' w).al o).al p)
  clear hv hx hn
  go_enter Tryz.func166, Tryz.ntmps166
  go_wp2_with fail
  refine ((unhide hC) _ ((unhide HE) _ _)).mono ?_
  rintro e w1 ⟨v, rfl, hv, he⟩
  obtain rfl : v = _ := hv
  have he := hide (((unhide HE) _ _).tr he)
  generalize cmpA a b = q at *
  go_wp2
  go_ret
  exact Ret.mk rfl (unhide he)

theorem sameTerms_any (n : Nat) (hM : n ≤ 1000000000) (ts us : List T) (v x : Value) (w : World) (hn : wtL ts ≤ n) (hv : SlT w ts v) (hx : SlT w us x) : Calls Tryz.prog 207 #[v, x] w (Ret w (Is (.bool (listsT ts us == 0)))) := by
  have hC := hide (lists_any n hM ts us v x w hn hv hx)
  obtain ⟨Aa, ca, xsa, rfl, -⟩ := hv
  obtain ⟨Ab, cb, xsb, rfl, -⟩ := hx
  clear hn
  go_enter Tryz.func207, Tryz.ntmps207
  go_wp2_with fail
  refine (unhide hC).mono ?_
  rintro e w1 ⟨v, rfl, hv, he⟩
  obtain rfl : v = _ := hv
  generalize listsT ts us = q at *
  have he := hide he
  go_wp2
  go_ret
  exact Ret.mk rfl (unhide he)

/-- Goals that are identical. -/
def sameG (a b : Gl) : Bool := a.op == b.op && a.n.toList == b.n.toList && a.ts.length == b.ts.length && cmpL a.ts b.ts == 0

set_option maxHeartbeats 1000000 in
theorem refSameGoal_any (n : Nat) (hM : n ≤ 1000000000) (a b : Gl) (v x : Value) (w : World) (hn : wtL a.ts ≤ n) (hv : VG w a v) (hx : VG w b x) : Calls Tryz.prog 165 #[v, x] w (Ret w (Is (.bool (sameG a b)))) := by
  obtain ⟨sa, rfl, hsa, -⟩ := hv.open_
  obtain ⟨sb, rfl, hsb, -⟩ := hx.open_
  have hC := hide (fun (w' : World) (e : Ext w w') (h : a.ts.length = b.ts.length) => sameTerms_any n hM a.ts b.ts sa sb w' hn (hsa.ext e) (hsb.ext e))
  obtain ⟨Aa, ca, xsa, rfl, -⟩ := hsa
  obtain ⟨Ab, cb, xsb, rfl, -⟩ := hsb
  clear hv hx hn
  obtain ⟨y, hy⟩ : ∃ y, ((w.alloc (.cells #[.int .i64 a.op, .string a.n, .slice Aa a.ts.length ca] 73)).alloc (.cells #[.int .i64 b.op, .string b.n, .slice Ab b.ts.length cb] 73)) = y := ⟨_, rfl⟩
  have HE : Hid (Ext w y) := Lib.hid (by rw [← hy]; exact (((Ext.rfl' w).al _).al _))
  have ba0 : y.cell? ⟨w.heap.size, 0, none⟩ = some (.int .i64 a.op) := by rw [← hy]; exact ((Ext.rfl' _).al _).cellOf (box_at w #[.int .i64 a.op, .string a.n, .slice Aa a.ts.length ca] 73 0 _ (w.heap.size) (by simp) rfl)
  have ba1 : y.cell? ⟨w.heap.size, 1, none⟩ = some (.string a.n) := by rw [← hy]; exact ((Ext.rfl' _).al _).cellOf (box_at w #[.int .i64 a.op, .string a.n, .slice Aa a.ts.length ca] 73 1 _ (w.heap.size) (by simp) rfl)
  have ba2 : y.cell? ⟨w.heap.size, 2, none⟩ = some (.slice Aa a.ts.length ca) := by rw [← hy]; exact ((Ext.rfl' _).al _).cellOf (box_at w #[.int .i64 a.op, .string a.n, .slice Aa a.ts.length ca] 73 2 _ (w.heap.size) (by simp) rfl)
  have bb0 : y.cell? ⟨w.heap.size + 1, 0, none⟩ = some (.int .i64 b.op) := by rw [← hy]; exact box_at (w.alloc (.cells #[.int .i64 a.op, .string a.n, .slice Aa a.ts.length ca] 73)) #[.int .i64 b.op, .string b.n, .slice Ab b.ts.length cb] 73 0 _ (w.heap.size + 1) (by simp) rfl
  have bb1 : y.cell? ⟨w.heap.size + 1, 1, none⟩ = some (.string b.n) := by rw [← hy]; exact box_at (w.alloc (.cells #[.int .i64 a.op, .string a.n, .slice Aa a.ts.length ca] 73)) #[.int .i64 b.op, .string b.n, .slice Ab b.ts.length cb] 73 1 _ (w.heap.size + 1) (by simp) rfl
  have bb2 : y.cell? ⟨w.heap.size + 1, 2, none⟩ = some (.slice Ab b.ts.length cb) := by rw [← hy]; exact box_at (w.alloc (.cells #[.int .i64 a.op, .string a.n, .slice Aa a.ts.length ca] 73)) #[.int .i64 b.op, .string b.n, .slice Ab b.ts.length cb] 73 2 _ (w.heap.size + 1) (by simp) rfl
  by_cases h1 : a.op = b.op
  · by_cases h2 : a.n.toList = b.n.toList
    · by_cases h3 : a.ts.length = b.ts.length
      · have HZ : Hid (sameG a b = (cmpL a.ts b.ts == 0)) := Lib.hid (by unfold sameG; simp [h1, h2, h3])
        have k1 : (a.op == b.op) = true := by simpa using h1
        have k2 : (a.n.toList == b.n.toList) = true := by simpa using h2
        have k3 : ((a.ts.length : Int) == (b.ts.length : Int)) = true := by simp [h3]
        have H3 := Lib.hid h3
        clear h1 h2 h3
        go_enter Tryz.func165, Tryz.ntmps165
        go_wp2_with fail
        refine ((unhide hC) _ HE.out H3.out).mono ?_
        rintro e w1 ⟨v, rfl, hv, he⟩
        obtain rfl : v = _ := hv
        have he := hide (HE.out.tr he)
        rw [listsT_same H3.out]
        generalize cmpL a.ts b.ts = q at *
        go_wp2
        go_ret
        rw [HZ.out]
        exact Ret.mk rfl (unhide he)
      · have HZ : Hid (sameG a b = false) := Lib.hid (by unfold sameG; simp [h3])
        have k1 : (a.op == b.op) = true := by simpa using h1
        have k2 : (a.n.toList == b.n.toList) = true := by simpa using h2
        have k3 : ((a.ts.length : Int) == (b.ts.length : Int)) = false := by simp; omega
        clear h1 h2 h3
        go_enter Tryz.func165, Tryz.ntmps165
        go_wp2
        go_ret
        rw [HZ.out]
        exact Ret.mk rfl HE.out
    · have HZ : Hid (sameG a b = false) := Lib.hid (by unfold sameG; simp [h2])
      have k1 : (a.op == b.op) = true := by simpa using h1
      have k2 : (a.n.toList == b.n.toList) = false := by simpa using h2
      clear h1 h2
      go_enter Tryz.func165, Tryz.ntmps165
      go_wp2
      go_ret
      rw [HZ.out]
      exact Ret.mk rfl HE.out
  · have HZ : Hid (sameG a b = false) := Lib.hid (by unfold sameG; simp [h1])
    have k1 : (a.op == b.op) = false := by simpa using h1
    clear h1
    go_enter Tryz.func165, Tryz.ntmps165
    go_wp2
    go_ret
    rw [HZ.out]
    exact Ret.mk rfl HE.out

end Go.Proofs.YtdoljfkjdfaakaaGreat


namespace Go.Proofs.YtdoljfkjdfaakaaGreat
set_option maxRecDepth 100000
open Go.RowKit

theorem refPutBool_any (A : Option Addr) (c : Nat) (bs : List UInt8) (x : Bool) (w : World) (hrd : Rd w A (bs.map bv)) (hlen : bs.length ≤ 1000000000) :
    Calls Tryz.prog 159 #[.slice A bs.length c, .bool x] w (Ret w (IsB w.heap.size (bs ++ [if x then 1 else 0]))) := by
  cases x
  all_goals
    go_enter Tryz.func159, Tryz.ntmps159
    go_wp2_with (first | (at_make; refine halt_at ?_) | (at_builtin; refine halt_at ?_))
    refine go_on (appB w rfl _ _ rfl ((Ext.rfl' w).al _) _ 0 [] rfl (World.ownsRow_made w _ _ (Nat.le_refl _) (by decide) rfl) A bs.length c (bs.map bv) rfl (hrd.ext ((Ext.rfl' w).al _)) (by simp) (bv_one _) (by omega) ?_)
    intro A2 c2 w2 hown he
    simp only [Nat.zero_add, List.nil_append] at hown
    go_wp2_with (first | (at_make; refine halt_at ?_) | (at_builtin; refine halt_at ?_))
    refine go_on (appB w rfl _ _ rfl (he.al _) _ _ _ rfl (hown.alloc _) _ 1 1 _ rfl (Rd.new _ _ _) rfl (one_u8 _) (by omega) ?_)
    intro A3 c3 w3 hown3 he3
    clear hown he
    go_wp2
    go_ret
    exact Ret.mk (IsB.mk hown3 (by simp [bv]) (by simp)) he3

theorem ret_intP {k : IntKind} {a b : Int} (h : a = b) : Ending.returned (.int k a) = .returned (.int k b) := by rw [h]
theorem unsigned_any (k : Int) (w : World) (hk1 : -9223372036854775808 ≤ k) (hk2 : k < 9223372036854775808) :
    Calls Tryz.prog 198 #[.int .i64 k] w fun e w' => e = .returned (.int .u64 (zig k : Nat)) ∧ w = w' := by
  by_cases h : 0 ≤ k
  · obtain ⟨n, rfl⟩ := Int.eq_ofNat_of_zero_le h
    have HF : Hid (zig (n : Int) = 2 * n) := by unfold zig; rw [if_pos (by omega)]; exact Lib.hid (by omega)
    go_enter Tryz.func198, Tryz.ntmps198
    go_wp2
    go_ret
    rw [HF.out]
    exact ⟨ret_intP (by omega), rfl⟩
  · go_enter Tryz.func198, Tryz.ntmps198
    go_wp2
    go_ret
    exact ⟨ret_intP (by unfold zig; rw [if_neg (by omega)]; omega), rfl⟩
end Go.Proofs.YtdoljfkjdfaakaaGreat


namespace Go.Proofs.YtdoljfkjdfaakaaGreat
set_option maxRecDepth 100000
open Go.RowKit

theorem big_eq {u : Nat} : ((u : Int) % 128 + 128) = (((UInt8.ofNat (u % 128 + 128)).toNat : Nat) : Int) := by
  simp only [UInt8.toNat_ofNat']
  omega

set_option maxRecDepth 100000 in
set_option maxHeartbeats 400000 in
theorem refPutInt_any (A : Option Addr) (c : Nat) (bs : List UInt8) (k : Int) (w : World) (hrd : Rd w A (bs.map bv)) (hlen : bs.length ≤ 1000000000) (hk1 : -9223372036854775808 ≤ k) (hk2 : k < 9223372036854775808) :
    Calls Tryz.prog 136 #[.slice A bs.length c, .int .i64 k] w (Ret w (IsB w.heap.size (bs ++ enc (zig k)))) := by
  have hz := zig_lt hk1 hk2
  have hl10 := enc_len10 hz
  have HZ := Lib.hid hz
  clear hz
  go_enter Tryz.func136, Tryz.ntmps136
  go_wp2_with (first | (at_make; refine halt_at ?_) | (at_builtin; refine halt_at ?_))
  refine go_on (appB w rfl _ _ rfl ((Ext.rfl' w).al _) _ 0 [] rfl (World.ownsRow_made w _ _ (Nat.le_refl _) (by decide) rfl) A bs.length c (bs.map bv) rfl (hrd.ext ((Ext.rfl' w).al _)) (by simp) (bv_one _) (by omega) ?_)
  intro A2 c2 w2 hown2 he2
  simp only [Nat.zero_add, List.nil_append] at hown2
  go_wp2_with fail
  refine (unsigned_any k _ hk1 hk2).mono ?_
  rintro e w' ⟨rfl, rfl⟩
  clear hk1 hk2
  go_wp2
  go_loopw [5, 6] (PutRel w (bs ++ enc (zig k))) (fun _ v6 _ => (intOf v6).toNat)
  case atStart => exact PutRel.mk HZ.out rfl hown2 he2
  case round =>
    clear hown2 he2
    obtain ⟨ys, u, A', c', rfl, rfl, hu, hys, hl, hown, he⟩ := hrel
    have hl' : ys.length ≤ bs.length + 10 := by have := hl.out; simp only [List.length_append] at this; omega
    by_cases hb : 128 ≤ u
    · go_wp2_with (first | (at_make; refine halt_at ?_) | (at_builtin; refine halt_at ?_))
      refine go_on (appB w rfl _ _ rfl (he.al _) _ _ _ rfl (hown.alloc _) _ 1 1 _ rfl (Rd.new _ _ _) rfl (one_u8 _) (by omega) ?_)
      intro A3 c3 w3 hown3 he3
      rw [big_eq] at hown3
      clear hown he
      go_wp2
      rw [show IntKind.u64.wrap ((u : Int) / 128) = (u : Int) / 128 from by have := hu.out; rw [IntKind.wrap_u64]; omega]
      go_roundw
      case rel => exact PutRel.next hb hu.out hys.out hown3 he3
      case measure => simp [intOf]; omega
    · go_wp2_with (first | (at_make; refine halt_at ?_) | (at_builtin; refine halt_at ?_))
      refine go_on (appB w rfl _ _ rfl (he.al _) _ _ _ rfl (hown.alloc _) _ 1 1 _ rfl (Rd.new _ _ _) rfl (one_u8 _) (by omega) ?_)
      intro A3 c3 w3 hown3 he3
      clear hown he
      go_wp2
      go_ret
      exact Ret.mk (PutRel.done (by omega) hys.out hown3) he3

/-- What the loop over a string's bytes carries. -/
def TextRel (W : World) (ys zs : List UInt8) (v5 v6 : Value) (wr : World) : Prop :=
  ∃ (k : Nat) (A' : Option Addr) (c' : Nat), v5 = .slice A' (ys.length + k) c' ∧ v6 = .int .i64 (k : Int) ∧ k ≤ zs.length ∧
    wr.ownsRow W.heap.size 5 1 (.slice A' (ys.length + k) c') (ys.length + k) ((ys ++ zs.take k).map bv) ∧ Ext W wr

theorem size_list (s : ByteArray) : s.data.toList.length = s.size := by rw [Array.length_toList]; rfl
theorem take_snoc (s : ByteArray) (k : Nat) (h : k < s.size) : s.data.toList.take (k + 1) = s.data.toList.take k ++ [s[k]] := by
  rw [List.take_succ_eq_append_getElem (by simpa using h)]; rfl

set_option maxHeartbeats 400000 in
theorem refPutText_any (A : Option Addr) (c : Nat) (bs : List UInt8) (s : ByteArray) (w : World) (hrd : Rd w A (bs.map bv)) (hlen : bs.length ≤ 1000000000) (hs : s.size ≤ 1000000000) :
    Calls Tryz.prog 137 #[.slice A bs.length c, .string s] w (Ret w (IsB w.heap.size (bs ++ (enc (zig s.size) ++ s.data.toList)))) := by
  have hl10 : (enc (zig s.size)).length ≤ 10 := enc_len10 (zig_lt (by omega) (by omega))
  go_enter Tryz.func137, Tryz.ntmps137
  go_wp2_with fail
  refine (refPutInt_any A c bs _ _ hrd hlen (by omega) (by omega)).mono ?_
  rintro e w1 ⟨v, rfl, hB, he⟩
  obtain ⟨A1, c1, rfl, hown⟩ := hB.own
  have hL : (bs ++ enc (zig s.size)).length ≤ bs.length + 10 := by simp only [List.length_append]; omega
  generalize hys : bs ++ enc (zig s.size) = ys at *
  have HY := Lib.hid hys
  clear hys
  go_wp2
  go_loopw [5, 6] (TextRel w ys s.data.toList) (fun _ v6 _ => s.size - (intOf v6).toNat)
  case atStart => exact ⟨0, A1, c1, by simp, rfl, by omega, by simpa using hown, he⟩
  case round =>
    clear hown he
    obtain ⟨k, A', c', rfl, rfl, hk, hown, he⟩ := hrel
    rw [size_list] at hk
    by_cases hlt : k < s.size
    · have hts := Lib.hid (take_snoc s k hlt)
      go_wp2_with (first | (at_make; refine halt_at ?_) | (at_builtin; refine halt_at ?_))
      refine go_on (appB w rfl _ _ rfl (he.al _) _ _ _ rfl (hown.alloc _) _ 1 1 _ rfl (Rd.new _ _ _) rfl (one_u8 _) (by omega) ?_)
      intro A3 c3 w3 hown3 he3
      clear hown he
      go_wp2
      go_roundw
      case rel => exact ⟨k + 1, A3, c3, by simp [Nat.add_assoc], by go_num, by rw [size_list]; omega, by rw [hts.out]; simpa [bv, Nat.add_assoc] using hown3, he3⟩
      case measure => simp [intOf]; omega
    · go_wp2
      go_ret
      have hk' : k = s.size := by omega
      subst hk'
      rw [← size_list, List.take_length] at hown
      refine Ret.mk (IsB.mk hown ?_ ?_) he
      · rw [← List.append_assoc, HY.out]
      · rw [← List.append_assoc, HY.out]; simp [size_list]
end Go.Proofs.YtdoljfkjdfaakaaGreat


namespace Go.Proofs.YtdoljfkjdfaakaaGreat
set_option maxRecDepth 100000
open Go.RowKit

section
variable {P : Program} {o : Oper} {ρ : Operand → Option D} {d : D}

/-! ### numbers and strings -/
theorem s_cmpB {x y : Operand} {t t' : TypeId} {m n : Bool} (ho : o.op = .binOp .eql t x y t') (ht : P.underlying t = some .bool) (hx : ρ x = some (.bool m)) (hy : ρ y = some (.bool n)) : StepD P o ρ (.bool (m == n)) := stepD_of fun p a w h => by
  have h1 := h x (by rw [ho]; simp [Op.operands]) _ hx
  have h2 := h y (by rw [ho]; simp [Op.operands]) _ hy
  simp only [Rep] at h1 h2
  refine ⟨.bool (m == n), ?_, by simp only [Rep]⟩
  unfold execOp
  rw [ho]
  have e1 : eqGuard .eql t x y (.bool m) (.bool n) = pure () := rfl
  have e2 : binOp .eql t (.bool m) (.bool n) = (do pure (.bool (← Op.equal t (.bool m) (.bool n)))) := rfl
  simp [h1, h2, e1, e2, run_equal_bool w t m n ht]
/-! ### lists -/
end
end Go.Proofs.YtdoljfkjdfaakaaGreat


namespace Go.Proofs.YtdoljfkjdfaakaaGreat
set_option maxRecDepth 100000
open Go.RowKit

theorem r_known {m : Md} {P : Program} {X : Env → D → St → Prop} {f : FuncId} {fn : Func} {K : Ctx} {R : D → St → Prop} {k : List Item} {env : Env} {σ : St} {l : List Oper} {rest : List (Nat × Cls)} (s : Nat) (v : Bool) {b : Bool} (hs : lk env s = some (.bool b)) (hb : b = v) (h : Run P l.toArray X (GoesG m P f fn K R k) rest ((s, .bool v) :: env) σ) : Run P l.toArray X (GoesG m P f fn K R k) rest env σ := by
  subst hb
  cases b with
  | true => exact r_split s hs (fun _ => h) fun h' => by cases h'
  | false => exact r_split s hs (fun h' => by cases h') fun _ => h
theorem el_api_Binds : ElT Tryz.prog 41 116 5 64 := .of Tryz.underlying41 (by kernel_rfl) (by decide)
end Go.Proofs.YtdoljfkjdfaakaaGreat


namespace Go.Proofs.YtdoljfkjdfaakaaGreat
set_option maxRecDepth 100000
open Go.RowKit

theorem cl_constraintref19_Same : callee Tryz.prog 90 := ⟨_, _, Tryz.func90, rfl, by decide⟩
theorem cl_constraintref03_SameAtom : callee Tryz.prog 166 := ⟨_, _, Tryz.func166, rfl, by decide⟩
theorem cl_constraintref06_Same : callee Tryz.prog 91 := ⟨_, _, Tryz.func91, rfl, by decide⟩
theorem cl_constraintref03_Same : callee Tryz.prog 167 := ⟨_, _, Tryz.func167, rfl, by decide⟩
theorem cl_constraintref03_SameGoal : callee Tryz.prog 165 := ⟨_, _, Tryz.func165, rfl, by decide⟩
theorem cl_constraintref03_RightAtom : callee Tryz.prog 157 := ⟨_, _, Tryz.func157, rfl, by decide⟩
theorem cl_constraintref03_Right : callee Tryz.prog 126 := ⟨_, _, Tryz.func126, rfl, by decide⟩
theorem cl_constraintref03_Size : callee Tryz.prog 150 := ⟨_, _, Tryz.func150, rfl, by decide⟩
theorem cl_constraintref03_RightGoal : callee Tryz.prog 181 := ⟨_, _, Tryz.func181, rfl, by decide⟩
theorem cl_constraintlaw23_Goals : callee Tryz.prog 55 := ⟨_, _, Tryz.func55, rfl, by decide⟩
theorem cl_constraintlaw23_tiny : callee Tryz.prog 149 := ⟨_, _, Tryz.func149, rfl, by decide⟩
end Go.Proofs.YtdoljfkjdfaakaaGreat


namespace Go.Proofs.YtdoljfkjdfaakaaGreat
set_option maxRecDepth 100000
open Go.RowKit

section
variable {p : Addr → Prop} {w : World}
theorem repl2 {d e : D} {vs : List Value} (h : Repl p w [d, e] vs) : ∃ v u, vs = [v, u] ∧ Rep p w d v ∧ Rep p w e u := by
  simp only [Repl] at h
  obtain ⟨v, _, rfl, h1, u, _, rfl, h2, rfl⟩ := h
  exact ⟨v, u, rfl, h1, h2⟩
end
theorem gives2 {P : Program} {f : FuncId} {d e : D} {b : Bool} (h : ∀ (p : Addr → Prop) (w : World) (v u : Value), Rep p w d v → Rep p w e u → Calls P f #[v, u] w (Ret w (Is (.bool b)))) : Gives P f [d, e] (.bool b) :=
  gives_of_ret (v := .bool b) (fun p w => by simp only [Rep]) fun p w vs _ hv => by
    obtain ⟨v, u, rfl, h1, h2⟩ := repl2 hv
    exact h p w v u h1 h2
theorem givesI1 {P : Program} {f : FuncId} {d : D} {n : Int} (hn : IntKind.i64.wrap n = n) (h : ∀ (p : Addr → Prop) (w : World) (v : Value), Rep p w d v → Calls P f #[v] w (Ret w (Is (.int .i64 n)))) : Gives P f [d] (.int .i64 n) :=
  gives_of_ret (v := .int .i64 n) (fun p w => by simp only [Rep]; exact ⟨trivial, hn⟩) fun p w vs _ hv => by
    obtain ⟨v, rfl, h1⟩ := repl1 hv
    exact h p w v h1

theorem sp_R3_Right (n : Nat) (hM : n ≤ 1000000000) (t : T) (hn : wt t ≤ n) : Gives Tryz.prog 126 [encT t] (.bool (rightT t)) := gives1 fun _ w v h => refRight_any n hM t v w hn (vt_of h)
theorem sp_R3_Same (n : Nat) (hM : n ≤ 1000000000) (t u : T) (hn : wt t ≤ n) : Gives Tryz.prog 167 [encT t, encT u] (.bool (sameT t u)) := gives2 fun _ w v x h k => refSame_any n hM t u v x w hn (vt_of h) (vt_of k)
theorem sp_R3_RightAtom (n : Nat) (hM : n ≤ 1000000000) (a : At) (hn : wtL a.ts ≤ n) : Gives Tryz.prog 157 [encA a] (.bool (rightA a)) := gives1 fun _ w v h => refRightAtom_any n hM a v w hn (va_of h)
theorem sp_R3_RightGoal (n : Nat) (hM : n ≤ 1000000000) (a : Gl) (hn : wtL a.ts ≤ n) : Gives Tryz.prog 181 [encG a] (.bool (rightG a)) := gives1 fun _ w v h => refRightGoal_any n hM a v w hn (vg_of h)
theorem sp_R3_SameAtom (n : Nat) (hM : n ≤ 1000000000) (a b : At) (hn : wtL a.ts ≤ n) : Gives Tryz.prog 166 [encA a, encA b] (.bool (cmpA a b == 0)) := gives2 fun _ w v x h k => refSameAtom_any n hM a b v x w hn (va_of h) (va_of k)
theorem sp_R3_SameGoal (n : Nat) (hM : n ≤ 1000000000) (a b : Gl) (hn : wtL a.ts ≤ n) : Gives Tryz.prog 165 [encG a, encG b] (.bool (sameG a b)) := gives2 fun _ w v x h k => refSameGoal_any n hM a b v x w hn (vg_of h) (vg_of k)
end Go.Proofs.YtdoljfkjdfaakaaGreat


namespace Go.Proofs.YtdoljfkjdfaakaaGreat
set_option maxRecDepth 100000
open Go.RowKit
theorem sp_R3_Size (n : Nat) (hM : n ≤ 1000000000) (t : T) (hn : wt t ≤ n) : Gives Tryz.prog 150 [encT t] (.int .i64 (sizeT t : Nat)) := givesI1 (wrap64 (by have := size_wt t; omega)) fun _ w v h => refSize_any n t v w hn hM (vt_of h)
end Go.Proofs.YtdoljfkjdfaakaaGreat


namespace Go.Proofs.YtdoljfkjdfaakaaGreat
set_option maxRecDepth 100000
open Go.RowKit

/-! ### maps as lists of pairs -/
section
variable {α β : Type} [DecidableEq α]
end
section
variable {P : Program} {o : Oper} {ρ : Operand → Option D} {α β : Type} [DecidableEq α] {key : α → D} {g : β → D}
end
/-! ### facts out of slots -/
section
variable {P : Program} {f : FuncId} {fn : Func} {K : Ctx} {R : D → St → Prop} {k : List Item} {env : Env} {σ : St}
theorem g_lenP {m : Md} (s : Nat) (path : List Nat) {d0 dx : D} {l : List D} (hs : lk env s = some (.ptr d0)) (hp : subD d0 path = some dx) (hl : AsL dx l) (h : l.length ≤ 9223372036854775807 → GoesG m P f fn K R k env σ) : GoesG m P f fn K R k env σ :=
  g_fact (fun p a w _ hr => by
    have h1 := hr s _ hs
    simp only [Rep] at h1
    obtain ⟨b, o, u, _, _, h2, _⟩ := h1
    obtain ⟨v, h3, _⟩ := subD_rep h2 hp
    obtain ⟨A, c, xs, _, g2, g3, _⟩ := hl.rep h3
    omega) h
theorem g_seqJ {m : Md} {a b : Code} (J : Env → St → Prop) (hJ : ∀ env σ, J env σ → GoesG m P f fn K R (.code b :: k) env σ) (h : (∀ env σ, J env σ → GoesG m P f fn K R (.code b :: k) env σ) → GoesG m P f fn K R (.code a :: .code b :: k) env σ) : GoesG m P f fn K R (.code (.seq a b) :: k) env σ := g_seq (h hJ)
end
end Go.Proofs.YtdoljfkjdfaakaaGreat


namespace Go.Proofs.YtdoljfkjdfaakaaGreat
set_option maxRecDepth 100000
open Go.RowKit

theorem lx_constraintref03_Right (t : T) (res : Bool) (h : x_rightT t = some res) : Gives Tryz.prog 126 [encT t] (.bool res) := by
  obtain ⟨h1, rfl⟩ := ifS h
  exact sp_R3_Right 1000000000 (Nat.le_refl _) t h1

noncomputable def x_sameT (t : T) (u : T) : Option (Bool) := if wt t ≤ 1000000000 then some (sameT t u) else none

theorem x_sameT_eq (t : T) (u : T) (h : wt t ≤ 1000000000) : x_sameT t u = some (sameT t u) := if_pos h

theorem lx_constraintref03_Same (t : T) (u : T) (res : Bool) (h : x_sameT t u = some res) : Gives Tryz.prog 167 [encT t, encT u] (.bool res) := by
  obtain ⟨h1, rfl⟩ := ifS h
  exact sp_R3_Same 1000000000 (Nat.le_refl _) t u h1

theorem lx_constraintref03_RightAtom (a : At) (res : Bool) (h : x_rightA a = some res) : Gives Tryz.prog 157 [encA a] (.bool res) := by
  obtain ⟨h1, rfl⟩ := ifS h
  exact sp_R3_RightAtom 1000000000 (Nat.le_refl _) a h1

theorem lx_constraintref03_RightGoal (a : Gl) (res : Bool) (h : x_rightG a = some res) : Gives Tryz.prog 181 [encG a] (.bool res) := by
  obtain ⟨h1, rfl⟩ := ifS h
  exact sp_R3_RightGoal 1000000000 (Nat.le_refl _) a h1

noncomputable def x_sameA (a : At) (b : At) : Option (Bool) := if wtL a.ts ≤ 1000000000 then some ((cmpA a b == 0)) else none

theorem x_sameA_eq (a : At) (b : At) (h : wtL a.ts ≤ 1000000000) : x_sameA a b = some ((cmpA a b == 0)) := if_pos h

theorem lx_constraintref03_SameAtom (a : At) (b : At) (res : Bool) (h : x_sameA a b = some res) : Gives Tryz.prog 166 [encA a, encA b] (.bool res) := by
  obtain ⟨h1, rfl⟩ := ifS h
  exact sp_R3_SameAtom 1000000000 (Nat.le_refl _) a b h1

noncomputable def x_sameG (a : Gl) (b : Gl) : Option (Bool) := if wtL a.ts ≤ 1000000000 then some (sameG a b) else none

theorem x_sameG_eq (a : Gl) (b : Gl) (h : wtL a.ts ≤ 1000000000) : x_sameG a b = some (sameG a b) := if_pos h

theorem lx_constraintref03_SameGoal (a : Gl) (b : Gl) (res : Bool) (h : x_sameG a b = some res) : Gives Tryz.prog 165 [encG a, encG b] (.bool res) := by
  obtain ⟨h1, rfl⟩ := ifS h
  exact sp_R3_SameGoal 1000000000 (Nat.le_refl _) a b h1

theorem lx_constraintref03_Size (t : T) (res : Int) (h : x_sizeT t = some res) : Gives Tryz.prog 150 [encT t] (.int .i64 res) := by
  obtain ⟨h1, rfl⟩ := ifS h
  exact sp_R3_Size 1000000000 (Nat.le_refl _) t h1
end Go.Proofs.YtdoljfkjdfaakaaGreat


namespace Go.Proofs.YtdoljfkjdfaakaaGreat
set_option maxRecDepth 100000
open Go.RowKit

/-! ### the functions -/
section
variable (f : FuncId) (hf : ∀ (A : Option Addr) (c : Nat) (bs : List UInt8) (k : Int) (w : World), Rd w A (bs.map bv) → bs.length ≤ 1000000000 → -9223372036854775808 ≤ k → k < 9223372036854775808 → Calls Tryz.prog f #[.slice A bs.length c, .int .i64 k] w (Ret w (IsB w.heap.size (bs ++ enc (zig k)))))
include hf
end
section
variable (f : FuncId) (hf : ∀ (A : Option Addr) (c : Nat) (bs : List UInt8) (s : ByteArray) (w : World), Rd w A (bs.map bv) → bs.length ≤ 1000000000 → s.size ≤ 1000000000 → Calls Tryz.prog f #[.slice A bs.length c, .string s] w (Ret w (IsB w.heap.size (bs ++ (enc (zig s.size) ++ s.data.toList)))))
include hf
end
section
variable (f : FuncId) (hf : ∀ (A : Option Addr) (c : Nat) (bs : List UInt8) (x : Bool) (w : World), Rd w A (bs.map bv) → bs.length ≤ 1000000000 → Calls Tryz.prog f #[.slice A bs.length c, .bool x] w (Ret w (IsB w.heap.size (bs ++ [if x then 1 else 0]))))
include hf
end
theorem lx_constraintref01_PutInt (b : List Int) (n : Int) (res : List Int) (h : x_cPutInt b n = some res) : Gives Tryz.prog 136 [.lst (b.map (D.int .u8)), .int .i64 n] (.lst (res.map (D.int .u8))) := putInt_gives _ refPutInt_any b n res h
theorem lx_constraintref01_PutText (b : List Int) (s : ByteArray) (res : List Int) (h : x_cPutText b s = some res) : Gives Tryz.prog 137 [.lst (b.map (D.int .u8)), .str s] (.lst (res.map (D.int .u8))) := putText_gives _ refPutText_any b s res h
theorem lx_constraintref01_PutBool (b : List Int) (x : Bool) (res : List Int) (h : x_cPutBool b x = some res) : Gives Tryz.prog 159 [.lst (b.map (D.int .u8)), .bool x] (.lst (res.map (D.int .u8))) := putBool_gives _ refPutBool_any b x res h
end Go.Proofs.YtdoljfkjdfaakaaGreat


namespace Go.Proofs.YtdoljfkjdfaakaaGreat
set_option maxRecDepth 100000
open Go.RowKit
theorem fl_constraintref52_writer_0 : Fld Tryz.prog 88 0 0 := ⟨_, _, 1, Tryz.underlying88, rfl, rfl, by kernel_rfl, by decide⟩
theorem fl_constraintref52_writer_1 : Fld Tryz.prog 88 1 1 := ⟨_, _, 1, Tryz.underlying88, rfl, rfl, by kernel_rfl, by decide⟩
theorem bt_constraintref52_writer : BuildT Tryz.prog 88 [.lst [], .bool false] := .mk rfl (by kernel_rfl) Tryz.underlying88 (by kernel_rfl)
theorem cl_constraintlaw52_exampleHolds : callee Tryz.prog 10 := ⟨_, _, Tryz.func10, rfl, by decide⟩
theorem cl_constraintlaw52_small : callee Tryz.prog 16 := ⟨_, _, Tryz.func16, rfl, by decide⟩
theorem cl_constraintref52_Config : callee Tryz.prog 18 := ⟨_, _, Tryz.func18, rfl, by decide⟩
theorem cl_constraintref26_Same : callee Tryz.prog 20 := ⟨_, _, Tryz.func20, rfl, by decide⟩
theorem cl_Pconstraintref52_writer_num : callee Tryz.prog 41 := ⟨_, _, Tryz.func41, rfl, by decide⟩
theorem cl_Pconstraintref52_writer_text : callee Tryz.prog 42 := ⟨_, _, Tryz.func42, rfl, by decide⟩
theorem cl_Pconstraintref52_writer_bytes : callee Tryz.prog 45 := ⟨_, _, Tryz.func45, rfl, by decide⟩
theorem cl_constraintlaw52_goals : callee Tryz.prog 56 := ⟨_, _, Tryz.func56, rfl, by decide⟩
theorem cl_constraintlaw23_Parts : callee Tryz.prog 57 := ⟨_, _, Tryz.func57, rfl, by decide⟩
theorem cl_Pconstraintref52_writer_frame : callee Tryz.prog 71 := ⟨_, _, Tryz.func71, rfl, by decide⟩
theorem cl_Pconstraintref52_writer_atom : callee Tryz.prog 72 := ⟨_, _, Tryz.func72, rfl, by decide⟩
theorem cl_Pconstraintref52_writer_term : callee Tryz.prog 73 := ⟨_, _, Tryz.func73, rfl, by decide⟩
theorem cl_Pconstraintref52_writer_nums : callee Tryz.prog 74 := ⟨_, _, Tryz.func74, rfl, by decide⟩
theorem cl_Pconstraintref52_writer_flag : callee Tryz.prog 75 := ⟨_, _, Tryz.func75, rfl, by decide⟩
theorem cl_constraintref26_sameFrames : callee Tryz.prog 89 := ⟨_, _, Tryz.func89, rfl, by decide⟩
theorem cl_constraintref21_Same : callee Tryz.prog 92 := ⟨_, _, Tryz.func92, rfl, by decide⟩
theorem cl_constraintref01_PutInt : callee Tryz.prog 136 := ⟨_, _, Tryz.func136, rfl, by decide⟩
theorem cl_constraintref01_PutText : callee Tryz.prog 137 := ⟨_, _, Tryz.func137, rfl, by decide⟩
theorem cl_Pconstraintref52_writer_goal : callee Tryz.prog 138 := ⟨_, _, Tryz.func138, rfl, by decide⟩
theorem cl_Pconstraintref52_writer_terms : callee Tryz.prog 158 := ⟨_, _, Tryz.func158, rfl, by decide⟩
theorem cl_constraintref01_PutBool : callee Tryz.prog 159 := ⟨_, _, Tryz.func159, rfl, by decide⟩
theorem cl_constraintref21_Compare : callee Tryz.prog 168 := ⟨_, _, Tryz.func168, rfl, by decide⟩
theorem cl_constraintref21_ints : callee Tryz.prog 210 := ⟨_, _, Tryz.func210, rfl, by decide⟩
end Go.Proofs.YtdoljfkjdfaakaaGreat

