/-
 Texts of the seat, merged.
-/
import Derived.Test.YtabbfihjeppbhaaGreatChecked
import Derived.WalkKit
import Derived.Lib.Hide
import Derived.Lib.AppendStr
import Derived.Deep.AppendLies
import Derived.Deep.AppendSrc
import Derived.Deep.Draws
import Derived.Deep.QuietTactic
import Derived.BigQuiet
import Derived.Deep.RegionWith
import Derived.Maps.AppendAt
import Derived.WalkSpells
import Derived.Orders
import Derived.Deep.Slices
import Derived.Deep.Fields
import Derived.ChangeArms
import Derived.Lib.OthersKept
import Derived.Lib.TrimU
import Derived.Lib.IndexAny
import Derived.Deep.LoopGhost
import Derived.Lib.Bytealg
import Derived.RangeFuncBox
import Derived.RangeFuncNested
import Derived.RangeFuncBound
import Derived.RangeFuncCalls
import Derived.RangeFuncLeaves
import Derived.Shelf.Abstract
import Derived.OwnWalkIn
import Derived.TacticsInMore
import Derived.LoopNIn
import Derived.LoopIn
import Derived.RangeFuncWrites
import Derived.Maps.OwnIn
import Derived.Maps.Views
import Derived.Laws.OwnMore
set_option linter.unusedVariables false
set_option linter.unusedSimpArgs false
set_option linter.unnecessarySimpa false
set_option linter.all false
namespace Go.Proofs.YtabbfihjeppbhaaGreat
set_option maxRecDepth 100000
open Go.RowKit
abbrev Ext (w w' : World) : Prop := Below w.heap.size w w'
theorem Ext.rfl' (w : World) : Ext w w := Below.refl _ _
theorem Ext.tr {a b c : World} (h : Ext a b) (k : Ext b c) : Ext a c := h.trans (k.mono h.size)
theorem Ext.al {a b : World} (h : Ext a b) (o : Obj) : Ext a (b.alloc o) := Below.alloc h h.size o
theorem Ext.dr {a b : World} (h : Ext a b) : Ext a b.drew := Below.drew h
theorem Ext.drN {a b : World} (h : Ext a b) (n : Nat) : Ext a (b.drewN n) := ⟨h.os, h.tape, h.output, h.size, h.block⟩
theorem Ext.cellOf {a b : World} (h : Ext a b) {p : Addr} {v : Value} (hc : a.cell? p = some v) : b.cell? p = some v :=
 (h.cell (World.block_lt_of_cell? a p hc)).trans hc
theorem qnU (a : Addr) (i j : Nat) : (a.add i).add j = a.add (i + j) := by
 unfold Addr.add
 by_cases hi : i = 0 <;> by_cases hj : j = 0 <;> simp [hi, hj, Nat.add_assoc]
theorem zB {p : Prop} (h : p) : Hid p := h
theorem zd {p : Prop} (h : Hid p) : p := h
def Rd (w : World) (A : Option Addr) (xs : List Value) : Prop := xs = [] ∨ ∃ ad, A = some ad ∧ ∀ j u, xs[j]? = some u → w.cell? (ad.add j) = some u
section
variable {w w' : World} {A : Option Addr} {xs : List Value}
theorem Rd.nil (w : World) (A : Option Addr) : Rd w A [] := .inl rfl
theorem Rd.ext (h : Rd w A xs) (e : Ext w w') : Rd w' A xs := by
 rcases h with h | ⟨ad, ha, hc⟩
 · exact .inl h
 · exact .inr ⟨ad, ha, fun j u hu => e.cellOf (hc j u hu)⟩
theorem Rd.at_ (h : Rd w A xs) {k : Nat} {u : Value} (hk : xs[k]? = some u) : ∃ ad, A = some ad ∧ w.cell? (ad.add k) = some u := by
 rcases h with rfl | ⟨ad, ha, hc⟩
 · simp at hk
 · exact ⟨ad, ha, hc k u hk⟩
theorem Rd.of_own {base : Nat} {e : TypeId} {n c : Nat} {size : Nat} (h : w.ownsRow base e size (.slice A n c) n xs) : Rd w A xs := by
 rcases h.2 with ⟨h1, h2⟩ | ⟨g, cap, cur, hv, _⟩
 · subst h2
   exact .inl (List.eq_nil_of_length_eq_zero (by simpa using h.1))
 · have hA : A = some ⟨g, 0, none⟩ := by injection hv
   subst hA
   exact .inr ⟨_, rfl, h.cells (g := g) rfl⟩
end
/-! ### append onto a row of the call's own, from a slice that reads so (nil let in) -/
section
variable {P : Program} (w : World)
end
theorem Ext.gr {base : Nat} {W w w' : World} {e : TypeId} {size n : Nat} {v : Value} {xs : List Value} (h : Ext W w) (hown : w.ownsRow base e size v n xs) (hb : W.heap.size ≤ base) (hg : w.grownBy w' v.ownBlock) : Ext W w' :=
 Below.grown h hg h.size fun k hk => by
  have := (hown.lt k hk).1
  omega
theorem Rd.new (w : World) (cs : Array Value) (t : TypeId) : Rd (w.alloc (.cells cs t)) (some ⟨w.heap.size, 0, none⟩) cs.toList := by
 refine .inr ⟨_, rfl, fun j u hu => ?_⟩
 have hh := heap_alloc_new w (.cells cs t)
 by_cases hj : j = 0
 · subst hj
   simp only [Addr.add, if_true]
   rw [cell_of_row _ _ _ _ _ _ hh]
   simpa using hu
 · simp only [Addr.add, if_neg hj, Nat.zero_add]
   rw [cell_of_row _ _ _ _ _ _ hh]
   simpa using hu
theorem Rd.newAt (w : World) (g : Nat) (cs : Array Value) (t : TypeId) (hg : w.heap.size = g) : Rd (w.alloc (.cells cs t)) (some ⟨g, 0, none⟩) cs.toList := by
 subst hg; exact Rd.new w cs t
theorem qeM (w : World) (a b : Array Value) (t t' : TypeId) (n : Nat) : Ext w (((w.alloc (.cells a t)).alloc (.cells b t')).drewN n) ∧
 (∀ j, (((w.alloc (.cells a t)).alloc (.cells b t')).drewN n).cell? ⟨w.heap.size, j, none⟩ = a[j]?) ∧ (∀ j, (((w.alloc (.cells a t)).alloc (.cells b t')).drewN n).cell? ⟨w.heap.size + 1, j, none⟩ = b[j]?) := by
 refine ⟨(((Ext.rfl' w).al _).al _).drN _, fun j => ?_, fun j => ?_⟩
 · show ((w.alloc (.cells a t)).alloc (.cells b t')).cell? _ = _
   rw [World.cell?_alloc_past _ _ _ (by simp), cell_of_row _ _ _ _ _ _ (heap_alloc_new w _)]
 · show ((w.alloc (.cells a t)).alloc (.cells b t')).cell? _ = _
   have h := heap_alloc_new (w.alloc (.cells a t)) (.cells b t')
   simp only [World.size_alloc] at h
   rw [cell_of_row _ _ _ _ _ _ h]
/-! ### what a call leaves -/
def Ret (w : World) (R : Value → World → Prop) (e : Ending) (w' : World) : Prop := ∃ v, e = .returned v ∧ R v w' ∧ Ext w w'
theorem Ret.mk {w w' : World} {R : Value → World → Prop} {v : Value} (h : R v w') (he : Ext w w') : Ret w R (.returned v) w' := ⟨v, rfl, h, he⟩
def zaY (base : Nat) (e : TypeId) (size n : Nat) (xs : List Value) (v : Value) (w' : World) : Prop := ∃ A c, v = .slice A n c ∧ w'.ownsRow base e size (.slice A n c) n xs
theorem zaY.mk {base : Nat} {e : TypeId} {size n n' : Nat} {xs xs' : List Value} {A : Option Addr} {c : Nat} {w' : World} (h : w'.ownsRow base e size (.slice A n c) n xs) (hx : xs = xs') (hn : n = n') : zaY base e size n' xs' (.slice A n c) w' := by
 subst hx hn
 exact ⟨A, c, rfl, h⟩
theorem zaY.rd {base : Nat} {e : TypeId} {size n : Nat} {xs : List Value} {v : Value} {w' : World} (h : zaY base e size n xs v w') : ∃ A c, v = .slice A n c ∧ Rd w' A xs :=
 let ⟨A, c, hv, ho⟩ := h
 ⟨A, c, hv, Rd.of_own ho⟩
def Is (u : Value) (v : Value) (_ : World) : Prop := v = u
/-! ### a slice of a slice -/
def subA (A : Option Addr) (c l s : Nat) : Option Addr := if c = l then A else A.map (·.add (l * s))
theorem Rd.take {w : World} {A : Option Addr} {xs : List Value} (h : Rd w A xs) (k : Nat) : Rd w A (xs.take k) := by
 rcases h with rfl | ⟨ad, ha, hc⟩
 · exact .inl (by simp)
 · refine .inr ⟨ad, ha, fun j u hu => hc j u ?_⟩
   rw [List.getElem?_take] at hu
   split at hu
   · exact hu
   · cases hu
theorem Rd.sub {w : World} {A : Option Addr} {xs : List Value} (h : Rd w A xs) {c s : Nat} (l : Nat) (hl : xs.length ≤ c * s) : Rd w (subA A c l s) (xs.drop (l * s)) := by
 unfold subA
 split
 · rename_i hcl
   subst hcl
   exact .inl (List.drop_eq_nil_of_le hl)
 · rcases h with rfl | ⟨ad, rfl, hc⟩
   · exact .inl (by simp)
   · refine .inr ⟨ad.add (l * s), rfl, fun j u hu => ?_⟩
     rw [qnU]
     exact hc _ u (by rw [← hu, List.getElem?_drop])
section
variable {P : Program} (w : World)
end
section
variable {P : Program} {ops : Array Oper} {C : World → Prop} {md : Region.Mode}
def SQ (C : World → Prop) (K : Act → World → Prop) : Exit → Act → World → Prop
 | .normal, a, w => C w ∧ K a w
 | _, _, _ => False
theorem SQ.mk {K : Act → World → Prop} {a : Act} {w : World} (hC : C w) (h : K a w) : SQ C K .normal a w := ⟨hC, h⟩
def YC (P : Program) (ops : Array Oper) (C : World → Prop) (o : Oper) (v : Value) (a : Act) : Prop :=
 (Region.wanted o (yielded ops a.tmps) = true ∧ ∀ w, C w → (execOp a.eval o).run P w = .ok (.value v) w) ∨ (Region.wanted o (yielded ops a.tmps) = false ∧ v = undef)
def opC (P : Program) (ops : Array Oper) (C : World → Prop) (i : Nat) (K : Act → World → Prop) (a : Act) (w : World) : Prop :=
 match ops[i]? with
 | none => K a w
 | some o => if Region.wanted o (yielded ops a.tmps) then o.wp P a w (fun a w => C w ∧ K a w) (fun _ _ _ => False) else K (a.put o.dst undef) w
def anyC (P : Program) (md : Region.Mode) (ops : Array Oper) (C : World → Prop) (Q : Act → World → Prop) : Nat → Array Bool → Act → World → Prop
 | 0, listed, a, w => Region.ready md ops listed = [] ∧ Q a w
 | fuel + 1, listed, a, w => (Region.ready md ops listed = [] → Q a w) ∧ ∀ i ∈ Region.ready md ops listed, opC P ops C i (anyC P md ops C Q fuel (listed.setIfInBounds i true)) a w
theorem qoM {i : Nat} {a : Act} {w : World} {K K' : Act → World → Prop} (hw : C w) (h : ∀ a w, C w → K a w → K' a w) (hh : opC P ops C i K a w) : opC P ops C i K' a w := by
 unfold opC at *
 split
 · rename_i ho; simp only [ho] at hh; exact h _ _ hw hh
 · rename_i o ho
   simp only [ho] at hh
   split
   · rename_i hwn; simp only [hwn, if_true] at hh; exact Oper.wp_mono (fun a w hk => ⟨hk.1, h a w hk.1 hk.2⟩) hh
   · rename_i hwn; simp only [hwn] at hh; exact h _ _ hw hh
theorem qsg {o : Oper} {a : Act} {w : World} {K : Act → World → Prop} {Q : Exit → Act → World → Prop} (h : o.wp P a w K (fun _ _ _ => False)) : o.wp P a w K Q := by
 unfold Oper.wp at *
 generalize (execOp a.eval o).run P w = r at *
 cases r with
 | ok n w' =>
  cases n <;> simp only [Oper.upon] at h ⊢ <;> first | exact h | skip
  refine Calls.mono h fun e w'' he => ?_
  cases e with
  | returned u => exact he
  | panicked c => exact he.elim
  | outgrown => obtain ⟨_, _, hf⟩ := he; exact hf.elim
 | halt x w' => cases x <;> simp only [Oper.upon] at h ⊢
theorem qhn {Q : Exit → Act → World → Prop} : ∀ (fuel : Nat) (listed : Array Bool) (a : Act) (w : World), anyC P md ops C (fun a w => Q .normal a w) fuel listed a w → wpAny P md ops Q fuel listed a w
 | 0, _, _, _, h => h
 | fuel + 1, listed, a, w, h => ⟨h.1, fun i hi => by
  have h1 := h.2 i hi
  unfold opC at h1
  unfold wpOp
  split
  · rename_i ho; simp only [ho] at h1; exact qhn fuel _ _ _ h1
  · rename_i o ho
    simp only [ho] at h1
    split
    · rename_i hw
      simp only [hw, if_true] at h1
      exact .inl (qsg (Oper.wp_mono (fun a w hk => qhn fuel _ _ _ hk.2) h1))
    · rename_i hw
      simp only [hw] at h1
      exact qhn fuel _ _ _ h1⟩
theorem YC.opC {i : Nat} {o : Oper} {v : Value} {a : Act} (hi : ops[i]? = some o) (hy : YC P ops C o v a) {K : Act → World → Prop} {w : World} (hC : C w) (h : K (a.put o.dst v) w) : opC P ops C i K a w := by
 unfold Go.Proofs.YtabbfihjeppbhaaGreat.opC
 simp only [hi]
 rcases hy with ⟨hw, hv⟩ | ⟨hw, rfl⟩
 · simp only [hw, if_true, Oper.wp, hv w hC, Oper.upon]; exact ⟨hC, h⟩
 · simp only [hw, Bool.false_eq_true, if_false]; exact h
theorem YC.of_same {o : Oper} {v : Value} {a a' : Act} (hy : YC P ops C o v a) (he : execOp a'.eval o = execOp a.eval o)
 (hw : Region.wanted o (yielded ops a'.tmps) = Region.wanted o (yielded ops a.tmps)) : YC P ops C o v a' := by
 unfold YC at *
 rw [he, hw]
 exact hy
theorem qst {j : Nat} {oi oj : Oper} {v : Value} (hj : ops[j]? = some oj) (hap : oi.apart ops oj = true)
 (hsi : ∀ cs b, oi.op ≠ .select cs b) (hsj : ∀ cs b, oj.op ≠ .select cs b) {K : Act → World → Prop} {a : Act} {w : World}
 (hy : YC P ops C oi v a) (h : opC P ops C j K (a.put oi.dst v) w) : opC P ops C j (fun a' w' => YC P ops C oi v a' ∧ K (a'.put oi.dst v) w') a w := by
 obtain ⟨h1, h2, h3⟩ := Oper.apart_spec hap
 have keep : ∀ (a : Act), YC P ops C oi v a → ∀ u, YC P ops C oi v (a.put oj.dst u) := fun a hy u =>
  hy.of_same (execOp_put oi hsi a oj.dst u h3) (wanted_put oi a oj.dst u h3)
 have keepD : ∀ d, YC P ops C oi v { a with defers := d :: a.defers } := fun d => hy.of_same rfl rfl
 unfold opC at *
 simp only [hj] at *
 rw [wanted_put oj a oi.dst v h1] at h
 split
 · rename_i hw
   simp only [hw, if_true] at h
   unfold Oper.wp at *
   rw [execOp_put oj hsj a oi.dst v h1] at h
   generalize (execOp a.eval oj).run P w = r at *
   cases r with
   | ok n w' =>
    cases n <;> simp only [Oper.upon] at h ⊢
    case value u => exact ⟨h.1, keep a hy u, by rw [← Act.put_comm a v u h2]; exact h.2⟩
    case skip => exact ⟨h.1, keep a hy _, by rw [← Act.put_comm a v undef h2]; exact h.2⟩
    case defer d =>
     refine ⟨h.1, keep _ (keepD d) _, ?_⟩
     rw [← Act.put_comm _ v undef h2, ← Act.put_defers]
     exact h.2
    case enter f args =>
     refine Calls.mono h fun e w'' he => ?_
     cases e with
     | returned u => exact ⟨he.1, keep a hy u, by rw [← Act.put_comm a v u h2]; exact he.2⟩
     | panicked c => exact he
     | outgrown => exact he
    case row row args => exact Rows.mono h fun u w'' he => ⟨he.1, keep a hy u, by rw [← Act.put_comm a v u h2]; exact he.2⟩
   | halt x w' => cases x <;> simp only [Oper.upon] at h ⊢
 · rename_i hw
   simp only [hw] at h
   exact ⟨keep a hy _, by rw [← Act.put_comm a v undef h2]; exact h⟩
theorem qpo {Q : Act → World → Prop} {i : Nat} {oi : Oper} {v : Value} (hi : ops[i]? = some oi) (hsel : ∀ (j : Nat) (o : Oper) cs b, ops[j]? = some o → o.op ≠ .select cs b) :
 ∀ (fuel : Nat) (listed : Array Bool) (a : Act) (w : World),
  (∀ j oj, ops[j]? = some oj → j ≠ i → listed.getD j true = false → (∀ e ∈ oj.after, Region.binds md e = true → e.on ≠ i) → oi.apart ops oj = true) →
  i ∈ Region.ready md ops listed → YC P ops C oi v a → C w →
  anyC P md ops C Q fuel (listed.setIfInBounds i true) (a.put oi.dst v) w → anyC P md ops C Q (fuel + 1) listed a w := by
 intro fuel
 induction fuel with
 | zero =>
  intro listed a w _ hr hy hC H
  refine ⟨fun h => (by rw [h] at hr; cases hr), fun j hj => ?_⟩
  by_cases hji : j = i
  · subst hji; exact hy.opC hi hC H
  · have := ready_mono hj hji
    rw [H.1] at this
    cases this
 | succ fuel ih =>
  intro listed a w hfree hr hy hC H
  refine ⟨fun h => (by rw [h] at hr; cases hr), fun j hj => ?_⟩
  by_cases hji : j = i
  · subst hji; exact hy.opC hi hC H
  · have h1 := H.2 j (ready_mono hj hji)
    obtain ⟨hjun, oj, hoj, hall⟩ := mem_ready.1 hj
    have hnot : ∀ e ∈ oj.after, Region.binds md e = true → e.on ≠ i := fun e he hb heq => by
     have h1 := hall e he hb
     have h0 := (mem_ready.1 hr).1
     rw [heq] at h1
     rcases Nat.lt_or_ge i listed.size with h' | h'
     · simp [h'] at h0 h1; rw [h0] at h1; cases h1
     · simp [Array.getElem?_eq_none h'] at h1
    have h2 := qst hoj (hfree j oj hoj hji hjun hnot) (fun cs b => hsel i oi cs b hi) (fun cs b => hsel j oj cs b hoj) hy h1
    have hfree' : ∀ k ok, ops[k]? = some ok → k ≠ i → (listed.setIfInBounds j true).getD k true = false →
     (∀ e ∈ ok.after, Region.binds md e = true → e.on ≠ i) → oi.apart ops ok = true := fun k ok hk hki hun hno => by
     refine hfree k ok hk hki ?_ hno
     by_cases hjk : j = k
     · subst hjk; exact hjun
     · rw [getD_set_ne true hjk] at hun; exact hun
    refine qoM hC (fun a' w' hC' h3 => ih (listed.setIfInBounds j true) a' w' hfree' (ready_mono hr (Ne.symm hji)) h3.1 hC' ?_) h2
    rw [Array.setIfInBounds_comm _ _ hji]
    exact h3.2
def yI (md : Region.Mode) (ops : Array Oper) : List (Nat × Bool) → Array Bool → Bool
 | [], listed => Region.ready md ops listed == []
 | (i, q) :: rest, listed => (if q then (Region.ready md ops listed).contains i && Region.free md ops listed i else Region.ready md ops listed == [i]) && yI md ops rest (listed.setIfInBounds i true)
def zbp (md : Region.Mode) (ops : Array Oper) (ord : List (Nat × Bool)) : Bool := Region.noSelect ops && ord.length == ops.size && yI md ops ord (Array.replicate ops.size false)
def wpS (P : Program) (ops : Array Oper) (C : World → Prop) (Q : Act → World → Prop) : List (Nat × Bool) → Act → World → Prop
 | [], a, w => Q a w
 | (i, q) :: rest, a, w => match ops[i]? with
  | none => wpS P ops C Q rest a w
  | some o => if q then ∃ v, YC P ops C o v a ∧ wpS P ops C Q rest (a.put o.dst v) w else opC P ops C i (wpS P ops C Q rest) a w
theorem qiA {Q : Act → World → Prop} (hs : Region.noSelect ops = true) : ∀ (ord : List (Nat × Bool)) (listed : Array Bool) (a : Act) (w : World), yI md ops ord listed = true → C w →
 wpS P ops C Q ord a w → anyC P md ops C Q ord.length listed a w
 | [], listed, a, w, hB, _, h => ⟨by simpa [yI] using hB, h⟩
 | (i, q) :: rest, listed, a, w, hB, hC, h => by
  simp only [yI, Bool.and_eq_true] at hB
  obtain ⟨h1, h2⟩ := hB
  cases q with
  | true =>
   simp only [if_true, Bool.and_eq_true] at h1
   have hr : i ∈ Region.ready md ops listed := by simpa using h1.1
   obtain ⟨_, o, ho, _⟩ := mem_ready.1 hr
   simp only [wpS, ho, if_true] at h
   obtain ⟨v, hy, hk⟩ := h
   exact qpo ho (Region.noSelect_spec hs) rest.length listed a w (Region.free_spec ho h1.2) hr hy hC (qiA hs rest _ _ _ h2 hC hk)
  | false =>
   have hr : Region.ready md ops listed = [i] := by simpa using h1
   have hm : i ∈ Region.ready md ops listed := by rw [hr]; simp
   obtain ⟨_, o, ho, _⟩ := mem_ready.1 hm
   simp only [wpS, ho, Bool.false_eq_true, if_false] at h
   refine ⟨fun h0 => (by rw [hr] at h0; cases h0), fun j hj => ?_⟩
   rw [hr] at hj
   obtain rfl : j = i := by simpa using hj
   exact qoM hC (fun a' w' hC' hk => qiA hs rest _ _ _ h2 hC' hk) h
theorem qbt {id : Nat} {Q : Exit → Act → World → Prop} {a : Act} {w : World} {l : List Oper} (ord : List (Nat × Bool)) (hm : P.follows .mixedOrders = true) (hB : zbp .any l.toArray ord = true) (C : World → Prop) (hC : C w.drew)
 (h : wpS P l.toArray C (fun a w => Q .normal a w) ord a w.drew) : (Code.region id l.toArray true).wp P Q a w := by
 simp only [zbp, Bool.and_eq_true, beq_iff_eq] at hB
 obtain ⟨⟨h1, h2⟩, h3⟩ := hB
 refine wp_region_any hm (qhn (C := C) _ _ _ _ ?_)
 rw [← h2]
 exact qiA h1 ord _ a w.drew (by rw [h2]; exact h3) hC h
/-! ### the steps -/
theorem sE {Q : Act → World → Prop} {a : Act} {w : World} (h : Q a w) : wpS P ops C Q [] a w := h
theorem sQ {l : List Oper} {Q : Act → World → Prop} {i : Nat} {o : Oper} {rest : List (Nat × Bool)} {a : Act} {w : World} (hi' : l[i]? = some o) (hw : Region.wanted o (yielded l.toArray a.tmps) = true) (v : Value)
 (hv : ∀ w', C w' → (execOp a.eval o).run P w' = .ok (.value v) w') (h : wpS P l.toArray C Q rest (a.put o.dst v) w) : wpS P l.toArray C Q ((i, true) :: rest) a w := by
 have hi : l.toArray[i]? = some o := by simpa using hi'
 simp only [wpS, hi, if_true]
 exact ⟨v, .inl ⟨hw, hv⟩, h⟩
theorem sN {l : List Oper} {Q : Act → World → Prop} {i : Nat} {o : Oper} {rest : List (Nat × Bool)} {a : Act} {w : World} (hi' : l[i]? = some o) (hw : Region.wanted o (yielded l.toArray a.tmps) = false)
 (h : wpS P l.toArray C Q rest (a.put o.dst undef) w) : wpS P l.toArray C Q ((i, true) :: rest) a w := by
 have hi : l.toArray[i]? = some o := by simpa using hi'
 simp only [wpS, hi, if_true]
 exact ⟨undef, .inr ⟨hw, rfl⟩, h⟩
theorem sL {l : List Oper} {Q : Act → World → Prop} {i : Nat} {o : Oper} {rest : List (Nat × Bool)} {a : Act} {w : World} (hi' : l[i]? = some o) (hw : Region.wanted o (yielded l.toArray a.tmps) = true)
 (h : wpList P l.toArray (SQ C (wpS P l.toArray C Q rest)) [o] a w) : wpS P l.toArray C Q ((i, false) :: rest) a w := by
 have hi : l.toArray[i]? = some o := by simpa using hi'
 simp only [wpS, hi, Bool.false_eq_true, if_false, opC, hw, if_true]
 simp only [wpList, hw, if_true] at h
 have hl : o.wp P a w (fun a w => C w ∧ wpS P l.toArray C Q rest a w) (SQ C (wpS P l.toArray C Q rest)) := by
  rcases h with h | ⟨_, _, _, hf⟩
  · exact h
  · exact hf.elim
 unfold Oper.wp at *
 generalize (execOp a.eval o).run P w = r at *
 cases r with
 | ok n w' =>
  cases n <;> simp only [Oper.upon] at hl ⊢ <;> exact hl
 | halt x w' => cases x <;> simp only [Oper.upon] at hl ⊢ <;> exact hl
theorem sM {l : List Oper} {Q : Act → World → Prop} {i : Nat} {o : Oper} {rest : List (Nat × Bool)} {a : Act} {w : World} (hi' : l[i]? = some o) (hw : Region.wanted o (yielded l.toArray a.tmps) = false)
 (h : wpS P l.toArray C Q rest (a.put o.dst undef) w) : wpS P l.toArray C Q ((i, false) :: rest) a w := by
 have hi : l.toArray[i]? = some o := by simpa using hi'
 simp only [wpS, hi, Bool.false_eq_true, if_false, opC, hw]
 exact h
/-! ### two operations that may come up in either order -/
end
inductive T where
 | mk (k i : Int) (s : ByteArray) (ar : List T)
def T.k : T → Int | .mk k _ _ _ => k
def T.i : T → Int | .mk _ i _ _ => i
def T.s : T → ByteArray | .mk _ _ s _ => s
def T.ar : T → List T | .mk _ _ _ ar => ar
def I64 (n : Int) : Prop := -9223372036854775808 ≤ n ∧ n < 9223372036854775808
structure Fit (k i : Int) (s : ByteArray) (n c : Nat) : Prop where
 k : I64 k
 i : I64 i
 s : s.size ≤ 9223372036854775807
 n : n ≤ c
 c : c ≤ 9223372036854775807
mutual
def CT (w : World) : T → List Value → Prop
 | .mk k i s ar, cs => ∃ A c xs, cs = [.int .i64 k, .int .i64 i, .string s, .slice A ar.length c] ∧ Fit k i s ar.length c ∧ Rd w A xs ∧ CL w ar xs
def CL (w : World) : List T → List Value → Prop
 | [], xs => xs = []
 | t :: ts, xs => ∃ cs ys, xs = cs ++ ys ∧ CT w t cs ∧ CL w ts ys
end
def SlT (w : World) (ts : List T) (v : Value) : Prop := ∃ A c xs, v = .slice A ts.length c ∧ ts.length ≤ c ∧ c ≤ 9223372036854775807 ∧ Rd w A xs ∧ CL w ts xs
def VT (w : World) (t : T) (v : Value) : Prop := ∃ cs, v = .agg cs.toArray ∧ CT w t cs
mutual
theorem CT.ext {w w' : World} (e : Ext w w') : ∀ {t : T} {cs : List Value}, CT w t cs → CT w' t cs
 | .mk k i s ar, cs, h => by
  simp only [CT] at h ⊢
  obtain ⟨A, c, xs, h1, h2, h3, h4⟩ := h
  exact ⟨A, c, xs, h1, h2, h3.ext e, CL.ext e h4⟩
theorem CL.ext {w w' : World} (e : Ext w w') : ∀ {ts : List T} {xs : List Value}, CL w ts xs → CL w' ts xs
 | [], xs, h => by simpa only [CL] using h
 | t :: ts, xs, h => by
  simp only [CL] at h ⊢
  obtain ⟨cs, ys, h1, h2, h3⟩ := h
  exact ⟨cs, ys, h1, CT.ext e h2, CL.ext e h3⟩
end
theorem CT.len {w : World} {t : T} {cs : List Value} (h : CT w t cs) : cs.length = 4 := by
 cases t
 simp only [CT] at h
 obtain ⟨A, c, xs, rfl, _⟩ := h
 rfl
theorem CT.one {w : World} {t : T} {cs : List Value} (h : CT w t cs) : ∀ u ∈ cs, u.oneCell' = true := by
 cases t
 simp only [CT] at h
 obtain ⟨A, c, xs, rfl, _⟩ := h
 intro u hu
 simp at hu
 rcases hu with rfl | rfl | rfl | rfl <;> rfl
theorem CL.len {w : World} : ∀ {ts : List T} {xs : List Value}, CL w ts xs → xs.length = ts.length * 4
 | [], xs, h => by simp only [CL] at h; simp [h]
 | t :: ts, xs, h => by
  simp only [CL] at h
  obtain ⟨cs, ys, rfl, h2, h3⟩ := h
  rw [List.length_append, h2.len, CL.len h3, List.length_cons]
  omega
theorem CL.one {w : World} : ∀ {ts : List T} {xs : List Value}, CL w ts xs → ∀ u ∈ xs, u.oneCell' = true
 | [], xs, h => by simp only [CL] at h; simp [h]
 | t :: ts, xs, h => by
  simp only [CL] at h
  obtain ⟨cs, ys, rfl, h2, h3⟩ := h
  intro u hu
  rcases List.mem_append.1 hu with hu | hu
  · exact h2.one u hu
  · exact CL.one h3 u hu
theorem CL.nil (w : World) : CL w [] [] := by simp only [CL]
theorem CL.cons {w : World} {t : T} {ts : List T} {cs ys : List Value} (h1 : CT w t cs) (h2 : CL w ts ys) : CL w (t :: ts) (cs ++ ys) := by
 simp only [CL]; exact ⟨cs, ys, rfl, h1, h2⟩
theorem CL.single {w : World} {t : T} {cs : List Value} (h1 : CT w t cs) : CL w [t] cs := by
 simpa using CL.cons h1 (CL.nil w)
theorem CL.app {w : World} : ∀ {ts us : List T} {xs ys : List Value}, CL w ts xs → CL w us ys → CL w (ts ++ us) (xs ++ ys)
 | [], us, xs, ys, h, k => by simp only [CL] at h; subst h; simpa using k
 | t :: ts, us, xs, ys, h, k => by
  simp only [CL] at h
  obtain ⟨cs, zs, rfl, h2, h3⟩ := h
  rw [List.cons_append, List.append_assoc]
  exact CL.cons h2 (CL.app h3 k)
theorem CL.get {w : World} : ∀ {ts : List T} {xs : List Value} {i : Nat} {t : T}, CL w ts xs → ts[i]? = some t → ∃ cs, CT w t cs ∧ ∀ j, j < 4 → xs[i * 4 + j]? = cs[j]?
 | [], xs, i, t, h, hi => by simp at hi
 | u :: ts, xs, 0, t, h, hi => by
  simp only [CL] at h
  obtain ⟨cs, ys, rfl, h2, h3⟩ := h
  simp at hi
  subst hi
  refine ⟨cs, h2, fun j hj => ?_⟩
  rw [Nat.zero_mul, Nat.zero_add, List.getElem?_append_left (by rw [h2.len]; omega)]
 | u :: ts, xs, i + 1, t, h, hi => by
  simp only [CL] at h
  obtain ⟨cs, ys, rfl, h2, h3⟩ := h
  simp at hi
  obtain ⟨ds, h4, h5⟩ := CL.get h3 hi
  refine ⟨ds, h4, fun j hj => ?_⟩
  rw [List.getElem?_append_right (by rw [h2.len]; omega), h2.len, ← h5 j hj]
  congr 1
  omega
theorem CL.drop {w : World} : ∀ {ts : List T} {xs : List Value} (k : Nat), CL w ts xs → CL w (ts.drop k) (xs.drop (k * 4))
 | ts, xs, 0, h => by simpa using h
 | [], xs, k + 1, h => by simp only [CL] at h; subst h; simp only [List.drop_nil]; exact CL.nil w
 | t :: ts, xs, k + 1, h => by
  simp only [CL] at h
  obtain ⟨cs, ys, rfl, h2, h3⟩ := h
  have e : (k + 1) * 4 = cs.length + k * 4 := by rw [h2.len]; omega
  rw [e, List.drop_succ_cons, List.drop_length_add_append]
  exact CL.drop k h3
theorem CL.take {w : World} : ∀ {ts : List T} {xs : List Value} (k : Nat), CL w ts xs → CL w (ts.take k) (xs.take (k * 4))
 | ts, xs, 0, h => by simpa using CL.nil w
 | [], xs, k + 1, h => by simp only [CL] at h; subst h; simp only [List.take_nil]; exact CL.nil w
 | t :: ts, xs, k + 1, h => by
  simp only [CL] at h
  obtain ⟨cs, ys, rfl, h2, h3⟩ := h
  have e : (k + 1) * 4 = cs.length + k * 4 := by rw [h2.len]; omega
  rw [e, List.take_length_add_append, List.take_succ_cons]
  exact CL.cons h2 (CL.take k h3)
theorem SlT.ext {w w' : World} {ts : List T} {v : Value} (h : SlT w ts v) (e : Ext w w') : SlT w' ts v := by
 obtain ⟨A, c, xs, h1, h2, h3, h4, h5⟩ := h
 exact ⟨A, c, xs, h1, h2, h3, h4.ext e, h5.ext e⟩
theorem VT.ext {w w' : World} {t : T} {v : Value} (h : VT w t v) (e : Ext w w') : VT w' t v := by
 obtain ⟨cs, h1, h2⟩ := h
 exact ⟨cs, h1, h2.ext e⟩
theorem VT.open_ {w : World} {t : T} {v : Value} (h : VT w t v) : ∃ sl, v = .agg #[.int .i64 t.k, .int .i64 t.i, .string t.s, sl] ∧ SlT w t.ar sl ∧ I64 t.k ∧ I64 t.i ∧ t.s.size ≤ 9223372036854775807 := by
 obtain ⟨cs, rfl, h⟩ := h
 cases t
 simp only [CT] at h
 obtain ⟨A, c, xs, rfl, hf, h3, h4⟩ := h
 exact ⟨_, rfl, ⟨A, c, xs, rfl, hf.n, hf.c, h3, h4⟩, hf.k, hf.i, hf.s⟩
theorem VT.mk {w : World} {k i : Int} {s : ByteArray} {ar : List T} {sl : Value} (h : SlT w ar sl) (hk : I64 k) (hi : I64 i) (hs : s.size ≤ 9223372036854775807) : VT w (.mk k i s ar) (.agg #[.int .i64 k, .int .i64 i, .string s, sl]) := by
 obtain ⟨A, c, xs, rfl, h2, h3, h4, h5⟩ := h
 refine ⟨[.int .i64 k, .int .i64 i, .string s, .slice A ar.length c], rfl, ?_⟩
 simp only [CT]
 exact ⟨A, c, xs, rfl, ⟨hk, hi, hs, h2, h3⟩, h4, h5⟩
theorem VT.ct {w : World} {t : T} {cs : Array Value} (h : VT w t (.agg cs)) : CT w t cs.toList := by
 obtain ⟨ds, h1, h2⟩ := h
 injection h1 with h1
 subst h1
 simpa using h2
theorem qjV {w : World} {a : Addr} {v : Value} (h : w.cell? a = some v) : a.spot = none := by
 unfold World.cell? at h
 split at h
 · split at h
   · cases h
   · rename_i hs; simpa using hs
 · cases h
theorem qlI (b o k : Nat) : (⟨b, o, none⟩ : Addr).add k = ⟨b, o + k, none⟩ := by
 unfold Addr.add; split
 · rename_i h; simp [h]
 · rfl
theorem SlT.at_ {w : World} {ts : List T} {A : Option Addr} {n c : Nat} (h : SlT w ts (.slice A n c)) {i : Nat} {t : T} (hi : ts[i]? = some t) :
 ∃ b o sl, A = some ⟨b, o, none⟩ ∧ w.cell? ⟨b, o + i * 4, none⟩ = some (.int .i64 t.k) ∧ w.cell? ⟨b, o + i * 4 + 1, none⟩ = some (.int .i64 t.i) ∧ w.cell? ⟨b, o + i * 4 + 2, none⟩ = some (.string t.s) ∧ w.cell? ⟨b, o + i * 4 + 3, none⟩ = some sl ∧
  SlT w t.ar sl ∧ VT w t (.agg #[.int .i64 t.k, .int .i64 t.i, .string t.s, sl]) := by
 obtain ⟨A', c', xs, h1, h2, h3, h4, h5⟩ := h
 injection h1 with h1 _ _
 subst h1
 obtain ⟨cs, hc, hx⟩ := h5.get hi
 have hv : VT w t (.agg cs.toArray) := ⟨cs, rfl, hc⟩
 obtain ⟨sl, e, hs, _⟩ := hv.open_
 injection e with e
 have e' : cs = [.int .i64 t.k, .int .i64 t.i, .string t.s, sl] := by simpa using e
 subst e'
 have x0 : xs[i * 4 + 0]? = some (.int .i64 t.k) := by rw [hx 0 (by omega)]; rfl
 have x1 : xs[i * 4 + 1]? = some (.int .i64 t.i) := by rw [hx 1 (by omega)]; rfl
 have x2 : xs[i * 4 + 2]? = some (.string t.s) := by rw [hx 2 (by omega)]; rfl
 have x3 : xs[i * 4 + 3]? = some sl := by rw [hx 3 (by omega)]; rfl
 rcases h4 with rfl | ⟨ad, rfl, hcell⟩
 · simp at x0
 · have hl : 0 < xs.length := by
    have := (List.getElem?_eq_some_iff.1 x0).1
    omega
   have hsp : ad.spot = none := by
    have h0 := hcell 0 _ (List.getElem?_eq_getElem hl)
    have := qjV h0
    simpa [Addr.add] using this
   obtain ⟨b, o, sp⟩ := ad
   simp only at hsp
   subst hsp
   have g := fun j u h => hcell (i * 4 + j) u h
   simp only [qlI, ← Nat.add_assoc] at g
   exact ⟨b, o, sl, rfl, g 0 _ x0, g 1 _ x1, g 2 _ x2, g 3 _ x3, hs, hv⟩
def zr : Nat → List T → Int → Int
 | 0, _, _ => -1
 | d + 1, l, left => if left < (l.length : Int) then -1 else l.foldl (fun left t => if left < 0 then left else zr d t.ar (left - 1 - (t.s.size / 8 : Nat))) left
theorem qgQ : ∀ (d : Nat) (l : List T) (left : Int), -1 ≤ zr d l left
 | 0, _, _ => by simp [zr]
 | d + 1, l, left => by
  unfold zr
  split
  · omega
  · rename_i h
    have hf : ∀ (l : List T) (left : Int), -1 ≤ left → -1 ≤ l.foldl (fun left t => if left < 0 then left else zr d t.ar (left - 1 - (t.s.size / 8 : Nat))) left := by
     intro l
     induction l with
     | nil => intro left h; exact h
     | cons t l ih =>
      intro left h
      rw [List.foldl_cons]
      apply ih
      split
      · exact h
      · exact qgQ d _ _
    exact hf l left (by omega)
theorem qiH (f : Int → T → Int) : ∀ (l : List T) (left : Int), left < 0 → l.foldl (fun left t => if left < 0 then left else f left t) left = left
 | [], _, _ => rfl
 | t :: l, left, h => by rw [List.foldl_cons, if_pos h, qiH f l left h]
theorem qmH : ∀ (d : Nat) (l : List T) (left : Int), 0 ≤ left → zr d l left ≤ left
 | 0, _, _, h => by simp [zr]; omega
 | d + 1, l, left, h => by
  unfold zr
  split
  · omega
  · have hf : ∀ (l : List T) (left : Int), -1 ≤ left → l.foldl (fun left t => if left < 0 then left else zr d t.ar (left - 1 - (t.s.size / 8 : Nat))) left ≤ left := by
     intro l
     induction l with
     | nil => intro left _; exact Int.le_refl _
     | cons t l ih =>
      intro left h
      rw [List.foldl_cons]
      split
      · exact ih left h
      · rename_i h0
        refine Int.le_trans (ih _ (qgQ _ _ _)) ?_
        by_cases h1 : 0 ≤ left - 1 - (t.s.size / 8 : Nat)
        · have := qmH d t.ar _ h1
          omega
        · cases d with
          | zero => simp [zr]; omega
          | succ d => unfold zr; rw [if_pos (by omega)]; omega
    exact hf l left (by omega)
def zbn (W : World) (d : Nat) (l : List T) (left0 : Int) (v1 v7 : Value) (wr : World) : Prop :=
 ∃ (k : Nat) (left : Int), v1 = .int .i64 left ∧ v7 = .int .i64 (k : Int) ∧ k ≤ l.length ∧ -1 ≤ left ∧ left ≤ left0 ∧
  Hid (l.foldl (fun left t => if left < 0 then left else zr d t.ar (left - 1 - (t.s.size / 8 : Nat))) left0 = (l.drop k).foldl (fun left t => if left < 0 then left else zr d t.ar (left - 1 - (t.s.size / 8 : Nat))) left) ∧ Ext W wr
set_option maxRecDepth 100000 in
set_option maxHeartbeats 1600000 in
theorem ql0 : ∀ (d : Nat) (l : List T) (v : Value) (left dv : Int) (w : World), SlT w l v → dv = (d : Int) → d ≤ 1000 → -9223372036854775808 ≤ left → left ≤ 1000000000 →
 Calls Tryz.prog 14 #[v, .int .i64 left, .int .i64 dv] w (Ret w (Is (.int .i64 (zr d l left))))
 | 0, l, v, left, dv, w, hv, hdv, _, _, _ => by
  subst hdv
  obtain ⟨A, c, xs, rfl, h1, h2, h3, h4⟩ := hv
  go_enter Tryz.func14, Tryz.ntmps14
  go_wp2
  go_ret
  exact Ret.mk rfl (Ext.rfl' w)
 | d + 1, l, v, left, dv, w, hv, hdv, hd, hl1, hl2 => by
  have hd1 : 1 ≤ dv := by omega
  have hd2 : dv ≤ 1000 := by omega
  have HD := Lib.hid hdv
  clear hdv
  have IH := zB (ql0 d)
  have hv' := hv
  obtain ⟨A, c, xs, rfl, h1, h2, h3, h4⟩ := hv
  have hb : (dv == 0) = false := by simp; omega
  by_cases hlt : left < (l.length : Int)
  · have HF : Hid (zr (d + 1) l left = -1) := by unfold zr; rw [if_pos hlt]; exact Lib.hid rfl
    clear hl1
    go_enter Tryz.func14, Tryz.ntmps14
    go_wp2
    go_ret
    rw [HF.out]
    exact Ret.mk rfl (Ext.rfl' w)
  have HF : Hid (zr (d + 1) l left = l.foldl (fun left t => if left < 0 then left else zr d t.ar (left - 1 - (t.s.size / 8 : Nat))) left) := by
   show zr (d + 1) l left = _
   rw [zr, if_neg hlt]
  have hll : l.length ≤ 1000000000 := by omega
  have hle : (l.length : Int) ≤ left := by omega
  clear hl1 hlt h1 h2
  go_enter Tryz.func14, Tryz.ntmps14
  go_wp2
  go_loopw [1, 7] (zbn w d l left) (fun _ v7 _ => l.length - (intOf v7).toNat)
  case atStart => exact ⟨0, left, rfl, rfl, by omega, by omega, by omega, Lib.hid (by rw [List.drop_zero]), Ext.rfl' w⟩
  case round =>
   obtain ⟨k, lf, rfl, rfl, hk, hlf, hlf2, hinv, he⟩ := hrel
   by_cases hlt : k < l.length
   · by_cases hn : 0 ≤ lf
     · obtain ⟨t, ht⟩ : ∃ t, l[k]? = some t := ⟨l[k], List.getElem?_eq_getElem hlt⟩
       obtain ⟨b, o, sl, rfl, c0, c1, c2, c3, hs, hvt⟩ := (hv'.ext he).at_ ht
       obtain ⟨_, _, _, _, _, hsz⟩ := hvt.open_
       have hdr : l.drop k = t :: l.drop (k + 1) := by
        rw [List.drop_eq_getElem_cons hlt]; congr 1
        have := List.getElem?_eq_getElem hlt
        rw [this] at ht; injection ht
       rw [hdr, List.foldl_cons, if_neg (by omega)] at hinv
       clear hdr ht
       go_wp2_with fail
       refine qbt [(0, true), (1, true), (2, true), (3, true), (4, true), (5, true), (6, true), (7, true), (8, true), (9, true), (10, true), (11, true), (12, true), (13, true), (14, true), (15, true), (16, true), (17, false), (18, true)] (by kernel_rfl) (by kernel_rfl) (Ext wr) (Ext.rfl' wr).dr ?_
       iterate 17 (refine sQ rfl rfl ?_ ?_ ?_; rotate_left; (· (intro w' hw'; have z2 := hw'.cellOf c2; have z3 := hw'.cellOf c3; go_simp; try with_reducible rfl)); simp only [Act.put, List.setIfInBounds_toArray, List.set_cons_succ, List.set_cons_zero])
       refine sL rfl rfl ?_
       go_wp2_with fail
       have hcall := (zd IH) t.ar sl (lf - 1 - (t.s.size / 8 : Nat)) (dv - 1) wr.drew (hs.ext (Ext.rfl' wr).dr) (by have := HD.out; omega) (by omega) (by omega) (by omega)
       rw [show (lf - 1 - ((t.s.size / 8 : Nat) : Int)) = lf - 1 - (t.s.size : Int) / 8 by omega] at hcall hinv
       refine hcall.mono ?_
       rintro e w2 ⟨v, rfl, hv2, he2⟩
       obtain rfl : v = _ := hv2
       have hE2 : Ext wr w2 := (Ext.rfl' wr).dr.tr he2
       have hge := qgQ d t.ar (lf - 1 - (t.s.size : Int) / 8)
       have hle2 : zr d t.ar (lf - 1 - (t.s.size : Int) / 8) ≤ left := by
        by_cases h0 : 0 ≤ lf - 1 - (t.s.size : Int) / 8
        · have := qmH d t.ar _ h0
          omega
        · cases d with
          | zero => simp [zr]; omega
          | succ d => unfold zr; rw [if_pos (by omega)]; omega
       generalize zr d t.ar (lf - 1 - (t.s.size : Int) / 8) = z at *
       go_wp2_with fail
       refine SQ.mk hE2 ?_
       iterate 1 (refine sQ rfl rfl ?_ ?_ ?_; rotate_left; (· (intro w' hw'; go_simp; try with_reducible rfl)); simp only [Act.put, List.setIfInBounds_toArray, List.set_cons_succ, List.set_cons_zero])
       refine sE ?_
       go_wp2_with fail
       go_roundw
       case rel => exact ⟨k + 1, z, rfl, by go_num, by omega, hge, hle2, hinv, he.tr hE2⟩
       case measure => simp [intOf]; omega
     · go_wp2
       go_ret
       rw [HF.out, hinv.out, qiH _ _ _ (by omega)]
       exact Ret.mk rfl he
   · go_wp2
     go_ret
     rw [HF.out, hinv.out, List.drop_eq_nil_of_le (by omega)]
     exact Ret.mk rfl he
end Go.Proofs.YtabbfihjeppbhaaGreat
namespace Go.Proofs.YtabbfihjeppbhaaGreat
set_option maxRecDepth 100000
mutual
def wt : T → Nat
 | .mk _ _ _ ar => 1 + wtL ar
def wtL : List T → Nat
 | [] => 0
 | t :: ts => wt t + wtL ts
end
def T.used (t : T) : List T := if t.k = 2 then t.ar else []
mutual
def yu : T → Nat
 | .mk k _ _ ar => 1 + if k = 2 then zD ar else 0
def zD : List T → Nat
 | [] => 0
 | t :: ts => yu t + zD ts
end
mutual
def yv : T → Nat
 | .mk k _ _ ar => (if k = 2 then zy ar else 0) + 1
def zy : List T → Nat
 | [] => 0
 | t :: ts => max (yv t) (zy ts)
end
theorem qeT (t : T) : wt t = 1 + wtL t.ar := by cases t; simp [wt, T.ar]
theorem qiJ (t : T) : yu t = 1 + zD t.used := by cases t; simp only [yu, T.used, T.ar, T.k]; split <;> rename_i h <;> simp [zD, h]
theorem qh6 (t : T) : yv t = zy t.used + 1 := by cases t; simp only [yv, T.used, T.ar, T.k]; split <;> rename_i h <;> simp [zy, h]
theorem qja (a b : List T) : wtL (a ++ b) = wtL a + wtL b := by
 induction a with
 | nil => simp [wtL]
 | cons t a ih => simp only [List.cons_append, wtL, ih]; omega
theorem qh0 (a b : List T) : zD (a ++ b) = zD a + zD b := by
 induction a with
 | nil => simp [zD]
 | cons t a ih => simp only [List.cons_append, zD, ih]; omega
theorem qi7 (a b : List T) : zy (a ++ b) = max (zy a) (zy b) := by
 induction a with
 | nil => simp [zy]
 | cons t a ih => simp only [List.cons_append, zy, ih]; omega
theorem qen {t : T} : ∀ {l : List T}, t ∈ l → wt t ≤ wtL l
 | u :: l, h => by
  simp only [wtL]
  rcases List.mem_cons.1 h with rfl | h
  · omega
  · have := qen h; omega
theorem qjI (t : T) : wtL t.used ≤ wtL t.ar := by unfold T.used; split <;> simp [wtL]
theorem qsy {t u : T} (h : u ∈ t.used) : wt u < wt t := by
 have := qen h
 have := qjI t
 rw [qeT t]; omega
theorem qpr {t u : T} (h : u ∈ t.ar) : wt u < wt t := by
 have := qen h
 rw [qeT t]; omega
theorem qeH : ∀ l : List T, l.length ≤ wtL l
 | [] => by simp
 | t :: l => by
  simp only [wtL, List.length_cons]
  have := qeH l
  rw [qeT t]; omega
mutual
theorem qkG : ∀ t : T, yu t ≤ wt t
 | .mk k i s ar => by
  simp only [yu, wt]
  have := qjR ar
  split <;> omega
theorem qjR : ∀ l : List T, zD l ≤ wtL l
 | [] => by simp [zD]
 | t :: l => by
  simp only [zD, wtL]
  have := qkG t
  have := qjR l
  omega
end
mutual
theorem qoZ : ∀ t : T, yv t ≤ wt t
 | .mk k i s ar => by
  simp only [yv, wt]
  have := qiZ ar
  split <;> omega
theorem qiZ : ∀ l : List T, zy l ≤ wtL l
 | [] => by simp [zy]
 | t :: l => by
  simp only [zy, wtL]
  have := qoZ t
  have := qiZ l
  omega
end
theorem qfT {l : List T} {k : Nat} {t : T} (h : l[k]? = some t) : l.take (k + 1) = l.take k ++ [t] := by
 have hk := (List.getElem?_eq_some_iff.1 h).1
 rw [List.take_succ_eq_append_getElem hk]
 have := List.getElem?_eq_getElem hk
 rw [this] at h
 injection h with h
 rw [h]
theorem qmU (l : List T) (k : Nat) : wtL (l.take k) ≤ wtL l := by
 have := qja (l.take k) (l.drop k)
 rw [List.take_append_drop] at this
 omega
theorem qjG : ∀ (d : Nat) (l : List T) (left : Int), 0 ≤ zr d l left → (wtL l : Int) + zr d l left ≤ left
 | 0, _, _, h => by simp [zr] at h
 | d + 1, l, left, h => by
  unfold zr at h ⊢
  split at h
  · omega
  · rename_i hn
    rw [if_neg hn]
    have hf : ∀ (l : List T) (left : Int), 0 ≤ l.foldl (fun left t => if left < 0 then left else zr d t.ar (left - 1 - (t.s.size / 8 : Nat))) left →
     (wtL l : Int) + l.foldl (fun left t => if left < 0 then left else zr d t.ar (left - 1 - (t.s.size / 8 : Nat))) left ≤ left := by
     intro l
     induction l with
     | nil => intro left _; simp [wtL]
     | cons t l ih =>
      intro left h
      rw [List.foldl_cons] at h ⊢
      by_cases h0 : left < 0
      · rw [if_pos h0, qiH _ _ _ h0] at h; omega
      · rw [if_neg h0] at h ⊢
        have h1 := ih _ h
        by_cases h2 : zr d t.ar (left - 1 - (t.s.size / 8 : Nat)) < 0
        · rw [qiH _ _ _ h2] at h; omega
        · have h3 := qjG d t.ar (left - 1 - (t.s.size / 8 : Nat)) (by omega)
          simp only [wtL, qeT t]
          omega
    exact hf l left h
end Go.Proofs.YtabbfihjeppbhaaGreat
namespace Go.Proofs.YtabbfihjeppbhaaGreat
set_option maxRecDepth 100000
open Go.RowKit
theorem qrV {k : IntKind} {a b : Int} {w : World} (h : a = b) : Is (.int k b) (.int k a) w := by rw [h]; rfl
def IsSl (ts : List T) (v : Value) (w : World) : Prop := SlT w ts v
theorem qkf (t : T) (v : Value) (w : World) (hv : VT w t v) : Calls Tryz.prog 65 #[v] w (Ret w (IsSl t.used)) := by
 obtain ⟨sl, rfl, hs, -⟩ := hv.open_
 by_cases h : t.k = 2
 · have hb : (t.k == 2) = true := by simpa using h
   have HU : Hid (t.used = t.ar) := by unfold T.used; rw [if_pos h]; exact Lib.hid rfl
   clear h
   obtain ⟨A, c, xs, rfl, hr⟩ := hs
   go_enter Tryz.func65, Tryz.ntmps65
   go_wp2
   go_ret
   rw [HU.out]
   exact Ret.mk (R := IsSl t.ar) (SlT.ext ⟨A, c, xs, rfl, hr⟩ ((Ext.rfl' w).al _)) ((Ext.rfl' w).al _)
 · have hb : (t.k == 2) = false := by simpa using h
   have HU : Hid (t.used = []) := by unfold T.used; rw [if_neg h]; exact Lib.hid rfl
   clear h
   go_enter Tryz.func65, Tryz.ntmps65
   go_wp2
   go_ret
   rw [HU.out]
   exact Ret.mk (R := IsSl []) ⟨none, 0, [], rfl, by simp, by omega, Rd.nil _ _, CL.nil _⟩ ((Ext.rfl' w).al _)
def zaK (W : World) (f : List T → Nat) (l : List T) (v3 v9 : Value) (wr : World) : Prop :=
 ∃ k : Nat, v3 = .int .i64 (f (l.take k) : Nat) ∧ v9 = .int .i64 (k : Int) ∧ k ≤ l.length ∧ Ext W wr
set_option maxRecDepth 100000 in
set_option maxHeartbeats 800000 in
theorem qiy : ∀ (n : Nat) (t : T) (v : Value) (w : World), wt t ≤ n → n ≤ 1000000000 → VT w t v → Calls Tryz.prog 47 #[v] w (Ret w (Is (.int .i64 (yu t : Nat))))
 | 0, t, v, w, hn, _, _ => by rw [qeT] at hn; omega
 | n + 1, t, v, w, hn, hM, hv => by
  have IH := zB (qiy n)
  have hv' := hv
  obtain ⟨sl, rfl, hs, -⟩ := hv.open_
  have HS := Lib.hid (qiJ t)
  have hwu : wtL t.used ≤ n := by have := qjI t; rw [qeT] at hn; omega
  have hwm : ∀ u, u ∈ t.used → wt u ≤ n := fun u hu => by have := qen hu; omega
  have HM := Lib.hid hwm
  clear hwm hn hs hv
  go_enter Tryz.func47, Tryz.ntmps47
  go_wp2_with fail
  refine (qkf t _ _ (hv'.ext ((Ext.rfl' w).al _))).mono ?_
  rintro e w1 ⟨v, rfl, hsl, he0⟩
  have HZ : Hid (wtL t.used ≤ n) := hwu
  clear hwu hv'
  generalize t.used = l at *
  obtain ⟨A, c, xs, rfl, hr⟩ := hsl
  have hll : l.length ≤ n := by have := qeH l; have := HZ.out; omega
  have he : Ext w w1 := ((Ext.rfl' w).al _).tr he0
  clear he0
  go_wp2
  go_loopw [3, 5] (fun v3 v9 wr => zaK w1 (fun l => 1 + zD l) l v3 v9 wr) (fun _ v9 _ => l.length - (intOf v9).toNat)
  case atStart => exact ⟨0, by simp [zD], rfl, by omega, Ext.rfl' _⟩
  case round =>
   obtain ⟨k, rfl, rfl, hk, hE⟩ := hrel
   have hb1 : zD (l.take k) ≤ 1000000000 := by
    have h1 := qmU l k
    have h2 := qjR (l.take k)
    have h3 := HZ.out
    omega
   by_cases hlt : k < l.length
   · obtain ⟨u, hu⟩ : ∃ u, l[k]? = some u := ⟨l[k], List.getElem?_eq_getElem hlt⟩
     obtain ⟨b, o, sl, rfl, c0, c1, c2, c3, hs, hvt⟩ := (SlT.ext ⟨A, c, xs, rfl, hr⟩ hE : SlT wr l _).at_ hu
     obtain ⟨A2, d2, xs2, rfl, -⟩ := hs
     have HT := Lib.hid (qfT hu)
     have HU : Hid (wt u ≤ n) := HM.out u (List.mem_of_getElem? hu)
     clear hu
     go_wp2_with fail
     refine ((zd IH) u _ _ HU.out (by omega) hvt).mono ?_
     rintro e w2 ⟨v, rfl, hv2, he2⟩
     obtain rfl : v = _ := hv2
     have hE2 := hE.tr he2
     have hb2 : yu u ≤ 1000000000 := by have := qkG u; have := HU.out; omega
     go_wp2
     go_roundw
     case rel => exact ⟨k + 1, congrArg (Value.int .i64) (show _ = ((1 + zD (l.take (k + 1)) : Nat) : Int) by rw [HT.out, qh0]; simp only [zD]; omega), by go_num, by omega, hE2⟩
     case measure => simp [intOf]; omega
   · go_wp2
     go_ret
     rw [HS.out]
     exact Ret.mk (qrV (by rw [List.take_of_length_le (by omega)])) (he.tr hE)
set_option maxRecDepth 100000 in
set_option maxHeartbeats 800000 in
theorem qjn : ∀ (n : Nat) (t : T) (v : Value) (w : World), wt t ≤ n → n ≤ 1000000000 → VT w t v → Calls Tryz.prog 77 #[v] w (Ret w (Is (.int .i64 (yv t : Nat))))
 | 0, t, v, w, hn, _, _ => by rw [qeT] at hn; omega
 | n + 1, t, v, w, hn, hM, hv => by
  have IH := zB (qjn n)
  have hv' := hv
  obtain ⟨sl, rfl, hs, -⟩ := hv.open_
  have HS := Lib.hid (qh6 t)
  have hwu : wtL t.used ≤ n := by have := qjI t; rw [qeT] at hn; omega
  have hwm : ∀ u, u ∈ t.used → wt u ≤ n := fun u hu => by have := qen hu; omega
  have HM := Lib.hid hwm
  clear hwm hn hs hv
  go_enter Tryz.func77, Tryz.ntmps77
  go_wp2_with fail
  refine (qkf t _ _ (hv'.ext ((Ext.rfl' w).al _))).mono ?_
  rintro e w1 ⟨v, rfl, hsl, he0⟩
  have HZ : Hid (wtL t.used ≤ n) := hwu
  clear hwu hv'
  generalize t.used = l at *
  obtain ⟨A, c, xs, rfl, hr⟩ := hsl
  have hll : l.length ≤ n := by have := qeH l; have := HZ.out; omega
  have he : Ext w w1 := ((Ext.rfl' w).al _).tr he0
  clear he0
  go_wp2
  go_loopw [3, 5] (fun v3 v9 wr => zaK w1 zy l v3 v9 wr) (fun _ v9 _ => l.length - (intOf v9).toNat)
  case atStart => exact ⟨0, by simp [zy], rfl, by omega, Ext.rfl' _⟩
  case round =>
   obtain ⟨k, rfl, rfl, hk, hE⟩ := hrel
   have hb1 : zy (l.take k) ≤ 1000000000 := by
    have h1 := qmU l k
    have h2 := qiZ (l.take k)
    have h3 := HZ.out
    omega
   have hbl : zy l ≤ 1000000000 := by have h2 := qiZ l; have h3 := HZ.out; omega
   by_cases hlt : k < l.length
   · obtain ⟨u, hu⟩ : ∃ u, l[k]? = some u := ⟨l[k], List.getElem?_eq_getElem hlt⟩
     obtain ⟨b, o, sl, rfl, c0, c1, c2, c3, hs, hvt⟩ := (SlT.ext ⟨A, c, xs, rfl, hr⟩ hE : SlT wr l _).at_ hu
     obtain ⟨A2, d2, xs2, rfl, -⟩ := hs
     have HT := Lib.hid (qfT hu)
     have HU : Hid (wt u ≤ n) := HM.out u (List.mem_of_getElem? hu)
     clear hu
     go_wp2_with fail
     refine ((zd IH) u _ _ HU.out (by omega) hvt).mono ?_
     rintro e w2 ⟨v, rfl, hv2, he2⟩
     obtain rfl : v = _ := hv2
     have hE2 := hE.tr he2
     have hb2 : yv u ≤ 1000000000 := by have := qoZ u; have := HU.out; omega
     go_wp2
     go_roundw
     case rel => exact ⟨k + 1, congrArg (Value.int .i64) (show _ = ((zy (l.take (k + 1)) : Nat) : Int) by rw [HT.out, qi7]; simp only [zy]; omega), by go_num, by omega, hE2⟩
     case measure => simp [intOf]; omega
   · go_wp2
     go_ret
     rw [HS.out]
     exact Ret.mk (qrV (by rw [List.take_of_length_le (by omega)]; omega)) (he.tr hE)
theorem ql1 : ∀ (x y : List UInt8), (!Op.bytesLess x y && !x == y) = Op.bytesLess y x
 | [], [] => by simp [Op.bytesLess]
 | a :: x, [] => by simp [Op.bytesLess]
 | [], b :: y => by simp [Op.bytesLess]
 | a :: x, b :: y => by
  have ih := ql1 x y
  simp only [Op.bytesLess, List.cons_beq_cons]
  by_cases h1 : a < b
  · have h2 : ¬ b < a := by rw [UInt8.lt_iff_toNat_lt] at *; omega
    have h3 : (b == a) = false := by rw [beq_eq_false_iff_ne]; rintro rfl; exact h2 h1
    simp [h1, h2, h3]
  · by_cases h2 : b < a
    · have h3 : (a == b) = false := by rw [beq_eq_false_iff_ne]; rintro rfl; exact h1 h2
      simp [h1, h2, h3]
    · have h3 : a = b := by
       apply UInt8.toNat_inj.1
       rw [UInt8.lt_iff_toNat_lt] at *
       omega
      subst h3
      simpa [h1] using ih
theorem qpj (t : TypeId) (a b : ByteArray) : binOp .gtr t (.string a) (.string b) = pure (.bool (Op.bytesLess b.toList a.toList)) := by
 have h := ql1 a.toList b.toList
 simp only [binOp]
 rw [← h]
 simp [Op.stringOp]
attribute [local go_sem] qpj
def zx (a b : Int) : Int := if a < b then -1 else if b < a then 1 else 0
def yE (a b : ByteArray) : Bool := Op.bytesLess a.toList b.toList
def ya (a b : ByteArray) : Int := if yE a b then -1 else if yE b a then 1 else 0
def zj (k : Int) : Int := if k = 1 then 0 else if k = 0 then 1 else if k = 2 then 2 else 3
def zR (w : World) (n : Int) (e : Ending) (w' : World) : Prop := e = .returned (.int .i64 n) ∧ w = w'
theorem zR.mk {w : World} {n m : Int} (h : m = n) : zR w n (.returned (.int .i64 m)) w := ⟨by rw [h], rfl⟩
def ye (w : World) (b : Bool) (e : Ending) (w' : World) : Prop := e = .returned (.bool b) ∧ w = w'
theorem ye.mk {w : World} {b c : Bool} (h : c = b) : ye w b (.returned (.bool c)) w := ⟨by rw [h], rfl⟩
theorem qoX (a : Int) (w : World) : Calls Tryz.prog 133 #[.int .i64 a] w (ye w false) := by
 go_enter Tryz.func133, Tryz.ntmps133
 go_wp2
 go_ret
 exact ye.mk (by simp)
theorem qnW (a : ByteArray) (w : World) : Calls Tryz.prog 132 #[.string a] w (ye w false) := by
 go_enter Tryz.func132, Tryz.ntmps132
 go_wp2
 go_ret
 exact ye.mk (by simp)
theorem qd1 (a b : Int) (w : World) : Calls Tryz.prog 120 #[.int .i64 a, .int .i64 b] w (zR w (zx a b)) := by
 go_enter Tryz.func120, Tryz.ntmps120
 go_wp2_with fail
 refine (qoX _ _).mono ?_
 rintro e w1 ⟨rfl, rfl⟩
 go_wp2_with fail
 refine (qoX _ _).mono ?_
 rintro e w1 ⟨rfl, rfl⟩
 by_cases h1 : a < b
 · have HF : Hid (zx a b = -1) := by unfold zx; rw [if_pos h1]; exact Lib.hid rfl
   go_wp2
   go_ret
   exact zR.mk HF.out.symm
 · by_cases h2 : b < a
   · have HF : Hid (zx a b = 1) := by unfold zx; rw [if_neg h1, if_pos h2]; exact Lib.hid rfl
     go_wp2
     go_ret
     exact zR.mk HF.out.symm
   · have HF : Hid (zx a b = 0) := by unfold zx; rw [if_neg h1, if_neg h2]; exact Lib.hid rfl
     go_wp2
     go_ret
     exact zR.mk HF.out.symm
theorem qjJ (a b : ByteArray) (w : World) : Calls Tryz.prog 119 #[.string a, .string b] w (zR w (ya a b)) := by
 go_enter Tryz.func119, Tryz.ntmps119
 go_wp2_with fail
 refine (qnW _ _).mono ?_
 rintro e w1 ⟨rfl, rfl⟩
 go_wp2_with fail
 refine (qnW _ _).mono ?_
 rintro e w1 ⟨rfl, rfl⟩
 by_cases h1 : yE a b = true
 · have HF : Hid (ya a b = -1) := by unfold ya; rw [if_pos h1]; exact Lib.hid rfl
   unfold yE at h1
   go_wp2
   go_ret
   exact zR.mk HF.out.symm
 · by_cases h2 : yE b a = true
   · have HF : Hid (ya a b = 1) := by unfold ya; rw [if_neg h1, if_pos h2]; exact Lib.hid rfl
     have h1 : yE a b = false := by simpa using h1
     unfold yE at h1 h2
     go_wp2
     go_ret
     exact zR.mk HF.out.symm
   · have HF : Hid (ya a b = 0) := by unfold ya; rw [if_neg h1, if_neg h2]; exact Lib.hid rfl
     have h1 : yE a b = false := by simpa using h1
     have h2 : yE b a = false := by simpa using h2
     unfold yE at h1 h2
     go_wp2
     go_ret
     exact zR.mk HF.out.symm
theorem qeD (k : Int) (w : World) : Calls Tryz.prog 134 #[.int .i64 k] w (zR w (zj k)) := by
 by_cases h1 : k = 1
 · subst h1
   go_enter Tryz.func134, Tryz.ntmps134
   go_wp2
   go_ret
   exact zR.mk rfl
 by_cases h0 : k = 0
 · subst h0
   go_enter Tryz.func134, Tryz.ntmps134
   go_wp2
   go_ret
   exact zR.mk rfl
 by_cases h2 : k = 2
 · subst h2
   go_enter Tryz.func134, Tryz.ntmps134
   go_wp2
   go_ret
   exact zR.mk rfl
 have HF : Hid (zj k = 3) := by unfold zj; rw [if_neg h1, if_neg h0, if_neg h2]; exact Lib.hid rfl
 have b1 : (k == 1) = false := by simpa using h1
 have b0 : (k == 0) = false := by simpa using h0
 have b2 : (k == 2) = false := by simpa using h2
 clear h1 h0 h2
 go_enter Tryz.func134, Tryz.ntmps134
 go_wp2
 go_ret
 exact zR.mk HF.out.symm
theorem qcU (a b : Int) (w : World) : Calls Tryz.prog 90 #[.int .i64 a, .int .i64 b] w (zR w (zx a b)) := by
 by_cases h1 : a < b
 · have HF : Hid (zx a b = -1) := by unfold zx; rw [if_pos h1]; exact Lib.hid rfl
   go_enter Tryz.func90, Tryz.ntmps90
   go_wp2
   go_ret
   exact zR.mk HF.out.symm
 · by_cases h2 : b < a
   · have HF : Hid (zx a b = 1) := by unfold zx; rw [if_neg h1, if_pos h2]; exact Lib.hid rfl
     go_enter Tryz.func90, Tryz.ntmps90
     go_wp2
     go_ret
     exact zR.mk HF.out.symm
   · have HF : Hid (zx a b = 0) := by unfold zx; rw [if_neg h1, if_neg h2]; exact Lib.hid rfl
     go_enter Tryz.func90, Tryz.ntmps90
     go_wp2
     go_ret
     exact zR.mk HF.out.symm
theorem qgR (a b : ByteArray) (w : World) : Calls Tryz.prog 105 #[.string a, .string b] w (zR w (ya a b)) := by
 by_cases h1 : yE a b = true
 · have HF : Hid (ya a b = -1) := by unfold ya; rw [if_pos h1]; exact Lib.hid rfl
   unfold yE at h1
   go_enter Tryz.func105, Tryz.ntmps105
   go_wp2
   go_ret
   exact zR.mk HF.out.symm
 · by_cases h2 : yE b a = true
   · have HF : Hid (ya a b = 1) := by unfold ya; rw [if_neg h1, if_pos h2]; exact Lib.hid rfl
     have h1 : yE a b = false := by simpa using h1
     unfold yE at h1 h2
     go_enter Tryz.func105, Tryz.ntmps105
     go_wp2
     go_ret
     exact zR.mk HF.out.symm
   · have HF : Hid (ya a b = 0) := by unfold ya; rw [if_neg h1, if_neg h2]; exact Lib.hid rfl
     have h1 : yE a b = false := by simpa using h1
     have h2 : yE b a = false := by simpa using h2
     unfold yE at h1 h2
     go_enter Tryz.func105, Tryz.ntmps105
     go_wp2
     go_ret
     exact zR.mk HF.out.symm
theorem qb4 (t : T) (v : Value) (w : World) (hv : VT w t v) : Calls Tryz.prog 104 #[v] w (Ret w (Is (.int .i64 (zj t.k)))) := by
 obtain ⟨sl, rfl, -, -⟩ := hv.open_
 by_cases h1 : t.k = 1
 · have HF : Hid (zj t.k = 0) := by unfold zj; rw [if_pos h1]; exact Lib.hid rfl
   have b1 : (t.k == 1) = true := by simpa using h1
   clear h1 hv
   go_enter Tryz.func104, Tryz.ntmps104
   go_wp2
   go_ret
   rw [HF.out]
   exact Ret.mk rfl ((Ext.rfl' w).al _)
 by_cases h0 : t.k = 0
 · have HF : Hid (zj t.k = 1) := by unfold zj; rw [if_neg h1, if_pos h0]; exact Lib.hid rfl
   have b1 : (t.k == 1) = false := by simpa using h1
   have b0 : (t.k == 0) = true := by simpa using h0
   clear h1 h0 hv
   go_enter Tryz.func104, Tryz.ntmps104
   go_wp2
   go_ret
   rw [HF.out]
   exact Ret.mk rfl ((Ext.rfl' w).al _)
 by_cases h2 : t.k = 2
 · have HF : Hid (zj t.k = 2) := by unfold zj; rw [if_neg h1, if_neg h0, if_pos h2]; exact Lib.hid rfl
   have b1 : (t.k == 1) = false := by simpa using h1
   have b0 : (t.k == 0) = false := by simpa using h0
   have b2 : (t.k == 2) = true := by simpa using h2
   clear h1 h0 h2 hv
   go_enter Tryz.func104, Tryz.ntmps104
   go_wp2
   go_ret
   rw [HF.out]
   exact Ret.mk rfl ((Ext.rfl' w).al _)
 have HF : Hid (zj t.k = 3) := by unfold zj; rw [if_neg h1, if_neg h0, if_neg h2]; exact Lib.hid rfl
 have b1 : (t.k == 1) = false := by simpa using h1
 have b0 : (t.k == 0) = false := by simpa using h0
 have b2 : (t.k == 2) = false := by simpa using h2
 clear h1 h0 h2 hv
 go_enter Tryz.func104, Tryz.ntmps104
 go_wp2
 go_ret
 rw [HF.out]
 exact Ret.mk rfl ((Ext.rfl' w).al _)
def yK (c : Nat) : Bool := decide (97 ≤ c ∧ c ≤ 122)
def isUp (c : Nat) : Bool := decide (65 ≤ c ∧ c ≤ 90)
def zat (c : Nat) : Bool := decide (48 ≤ c ∧ c ≤ 57)
def ofC (c : Nat) : Nat := if 97 ≤ c ∧ c ≤ 122 then 1 else if (65 ≤ c ∧ c ≤ 90) ∨ c = 95 then 2 else if 48 ≤ c ∧ c ≤ 57 then 4 else 0
def isW (c : Nat) : Bool := decide (ofC c ≠ 0)
theorem qhk {w : World} {b c : Bool} (h : c = true ↔ b = true) : ye w b (.returned (.bool c)) w := ye.mk (by cases b <;> cases c <;> simp_all)
theorem qmu (c : Nat) (w : World) : Calls Tryz.prog 44 #[.int .u8 c] w (ye w (yK c)) := by
 go_enter Tryz.func44, Tryz.ntmps44
 go_wp2
 all_goals go_ret
 all_goals refine qhk ?_
 all_goals (unfold yK; simp only [decide_eq_true_eq, Bool.false_eq_true, false_iff]; omega)
theorem qp9 (c : Nat) (w : World) : Calls Tryz.prog 75 #[.int .u8 c] w (ye w (isUp c)) := by
 go_enter Tryz.func75, Tryz.ntmps75
 go_wp2
 all_goals go_ret
 all_goals refine qhk ?_
 all_goals (unfold isUp; simp only [decide_eq_true_eq, Bool.false_eq_true, false_iff]; omega)
theorem qs6 (c : Nat) (w : World) : Calls Tryz.prog 128 #[.int .u8 c] w fun e w' => e = .returned (.int .u8 (ofC c)) ∧ w = w' := by
 go_enter Tryz.func128, Tryz.ntmps128
 go_wp2
 all_goals go_ret
 all_goals refine ⟨congrArg (fun n : Int => Ending.returned (.int .u8 n)) (?_ : _ = ((ofC c : Nat) : Int)), rfl⟩
 all_goals ((try simp only [beq_eq_false_iff_ne, beq_iff_eq] at *); unfold ofC; repeat' split)
 all_goals omega
theorem qqm (c : Nat) : ofC c = 0 ∨ ofC c = 1 ∨ ofC c = 2 ∨ ofC c = 4 := by
 unfold ofC
 repeat' split
 all_goals simp
theorem qsW (c : Nat) (k : Int) (h : (ofC c : Int) = k) (w : World) : Calls Tryz.prog 128 #[.int .u8 c] w fun e w' => e = .returned (.int .u8 k) ∧ w = w' := h ▸ qs6 c w
theorem qq8 (r : Nat) (w : World) : Calls Tryz.prog 130 #[.int .i32 r] w (ye w (!isW r)) := by
 by_cases h1 : r ≤ 122
 · rcases qqm r with h | h | h | h <;> have hI : Hid (isW r = _) := Lib.hid (congrArg (fun n => decide (n ≠ 0)) h) <;> have hc := zB (qsW r _ (congrArg Nat.cast h)) <;> clear h
   all_goals
    go_enter Tryz.func130, Tryz.ntmps130
    go_wp2_with fail
    refine ((zd hc) _).mono ?_
    rintro e w1 ⟨rfl, rfl⟩
    go_wp2
    go_ret
    refine qhk ?_
    rw [hI.out]
    simp
    try omega
 · have HF : Hid (isW r = false) := Lib.hid (by unfold isW ofC; rw [if_neg (by omega), if_neg (by omega), if_neg (by omega)]; rfl)
   go_enter Tryz.func130, Tryz.ntmps130
   go_wp2
   go_ret
   exact ye.mk (by rw [HF.out]; rfl)
def yC (s : ByteArray) : Bool := decide (s.toList = [99, 111, 110, 115, 116, 114, 97, 105, 110, 116] ∨ s.toList = [116, 114, 117, 101] ∨ s.toList = [102, 97, 105, 108] ∨ s.toList = [105, 115] ∨ s.toList = [105, 110, 116] ∨ s.toList = [103, 114, 111, 117, 110, 100])
theorem qkK (s : ByteArray) (w : World) : Calls Tryz.prog 45 #[.string s] w (ye w (yC s)) := by
 go_enter Tryz.func45, Tryz.ntmps45
 go_wp2
 all_goals go_ret
 all_goals refine qhk ?_
 all_goals (unfold yC; simp [*])
theorem qmi (s : ByteArray) (w : World) : Calls Tryz.prog 116 #[.string s] w (ye w (yC s)) := by
 go_enter Tryz.func116, Tryz.ntmps116
 go_wp2
 all_goals go_ret
 all_goals refine qhk ?_
 all_goals ((try simp only [beq_iff_eq, beq_eq_false_iff_ne] at *); first | contradiction | (unfold yC; simp [*]))
theorem qlF (s : ByteArray) (c : Int) (w : World) : Calls Tryz.prog 138 #[.string s, .int .u8 c] w (zR w (Lib.indexByte s.data.toList c.toNat.toUInt8)) := by
 go_enter Tryz.func138, Tryz.ntmps138
 go_wp2
 rw [run_callFunc_extern Tryz.func142 (by kernel_rfl) (by kernel_rfl) (by kernel_rfl) (e := Extern.BytealgIndexByte.indexByte) (by kernel_rfl), Lib.run_indexByteString]
 simp only [Result.andThen]
 rw [Oper.upon_value]
 go_wp2
 go_ret
 exact zR.mk rfl
theorem qls (c : UInt8) (w : World) : Calls Tryz.prog 137 #[.string { data := #[43, 45, 42, 47, 37] }, .string ⟨#[c]⟩] w (zR w (Lib.indexByte [43, 45, 42, 47, 37] c)) := by
 go_enter Tryz.func137, Tryz.ntmps137
 go_wp2_with fail
 refine (qlF _ _ _).mono ?_
 rintro e w1 ⟨rfl, rfl⟩
 go_wp2
 go_ret
 exact zR.mk rfl
theorem qpw (c : UInt8) (w : World) : Calls Tryz.prog 136 #[.string { data := #[43, 45, 42, 47, 37] }, .string ⟨#[c]⟩] w (zR w (Lib.indexByte [43, 45, 42, 47, 37] c)) := by
 go_enter Tryz.func136, Tryz.ntmps136
 go_wp2_with fail
 refine (qls _ _).mono ?_
 rintro e w1 ⟨rfl, rfl⟩
 go_wp2
 go_ret
 exact zR.mk rfl
def zaQ (s : ByteArray) : Bool := decide (s.toList = [43] ∨ s.toList = [45] ∨ s.toList = [42] ∨ s.toList = [47] ∨ s.toList = [37])
theorem qkC (s : ByteArray) (w : World) : Calls Tryz.prog 98 #[.string s] w (ye w (zaQ s)) := by
 go_enter Tryz.func98, Tryz.ntmps98
 go_wp2
 all_goals go_ret
 all_goals refine qhk ?_
 all_goals (unfold zaQ; simp [*])
theorem qrB (c : UInt8) : zaQ ⟨#[c]⟩ = decide (0 ≤ Lib.indexByte [43, 45, 42, 47, 37] c) := by
 rw [← Lib.contains_iff_indexByte]
 unfold zaQ
 have : (⟨#[c]⟩ : ByteArray).toList = [c] := by simp [Lib.toList_data]
 rw [this, Bool.eq_iff_iff]
 simp
theorem qmB (c : UInt8) (w : World) : Calls Tryz.prog 131 #[.string { data := #[43, 45, 42, 47, 37] }, .string ⟨#[c]⟩] w (ye w (zaQ ⟨#[c]⟩)) := by
 rw [qrB]
 go_enter Tryz.func131, Tryz.ntmps131
 go_wp2_with fail
 refine (qpw _ _).mono ?_
 rintro e w1 ⟨rfl, rfl⟩
 go_wp2
 go_ret
 exact ye.mk rfl
theorem qmG (s : ByteArray) (w : World) : Calls Tryz.prog 117 #[.string s] w (ye w (zaQ s)) := by
 by_cases h1 : s.size = 1
 · obtain ⟨c, rfl⟩ : ∃ c, s = ⟨#[c]⟩ := by
    obtain ⟨a⟩ := s
    have h2 : a.size = 1 := h1
    refine ⟨a[0], congrArg ByteArray.mk (Array.ext (by simp [h2]) fun i hi hj => ?_)⟩
    obtain rfl : i = 0 := by omega
    rfl
   go_enter Tryz.func117, Tryz.ntmps117
   go_wp2_with fail
   refine (qmB _ _).mono ?_
   rintro e w1 ⟨rfl, rfl⟩
   go_wp2
   go_ret
   exact ye.mk rfl
 · have HF : Hid (zaQ s = false) := Lib.hid (by
    unfold zaQ
    rw [decide_eq_false_iff_not]
    have h2 : s.toList.length = s.size := by rw [Lib.toList_data]; rfl
    rintro (h | h | h | h | h) <;> rw [h] at h2 <;> exact h1 h2.symm)
   go_enter Tryz.func117, Tryz.ntmps117
   go_wp2
   go_ret
   exact ye.mk HF.out.symm
def zaJ (s : ByteArray) (i : Nat) : Prop := ∀ j (h : j < s.size), i ≤ j → isW (s[j]'h).toNat = true
def zaV (s : ByteArray) (i : Nat) : Prop := ∀ j (h : j < s.size), j < i → isW (s[j]'h).toNat = true
instance decAllW (s : ByteArray) (i : Nat) : Decidable (zaJ s i) := decidable_of_iff (∀ j : Fin s.size, i ≤ j.1 → isW (s[j.1]'j.2).toNat = true) ⟨fun h j hj hi => h ⟨j, hj⟩ hi, fun h j hi => h j.1 j.2 hi⟩
def isWord (s : ByteArray) : Bool := decide (1 ≤ s.size ∧ s.size ≤ 40 ∧ zaJ s 0)
theorem qoJ (c : Nat) : isW c = (yK c || isUp c || c == 95 || zat c) := by
 unfold isW ofC yK isUp zat
 rw [Bool.eq_iff_iff]
 simp only [ne_eq, decide_eq_true_eq, Bool.or_eq_true, beq_iff_eq]
 repeat' split
 all_goals simp
 all_goals omega
theorem zaV.step {s : ByteArray} {k : Nat} (h : zaV s k) (hk : k < s.size) (hc : isW (s[k]'hk).toNat = true) : zaV s (k + 1) := fun j hj hl => by
 by_cases hjk : j = k
 · subst hjk; exact hc
 · exact h j hj (by omega)
theorem qrG {s : ByteArray} {k : Nat} (hk : k < s.size) (hc : isW (s[k]'hk).toNat = false) : isWord s = false := by
 unfold isWord
 rw [decide_eq_false_iff_not]
 rintro ⟨-, -, h⟩
 rw [h k hk (Nat.zero_le _)] at hc
 simp at hc
theorem qrm {s : ByteArray} (h : zaV s s.size) : isWord s = decide (1 ≤ s.size ∧ s.size ≤ 40) := by
 unfold isWord
 have : zaJ s 0 := fun j hj _ => h j hj hj
 rw [Bool.eq_iff_iff]
 simp [this]
def zbv (w : World) (s : ByteArray) (v3 : Value) (w' : World) : Prop := ∃ k : Nat, v3 = .int .i64 k ∧ k ≤ s.size ∧ Hid (zaV s k) ∧ w = w'
theorem qqs {s : ByteArray} (hs : Hid (s.size ≤ 9223372036854775807)) {k : Nat} (hk : k < s.size) : Hid (wrap64 ((k : Int) + 1) = ((k + 1 : Nat) : Int)) := by
 have := hs.out
 refine Lib.hid ?_
 unfold wrap64
 omega
theorem qnu (s : ByteArray) (hs : Hid (s.size ≤ 9223372036854775807)) (w : World) : Calls Tryz.prog 43 #[.string s] w (ye w (isWord s)) := by
 go_enter Tryz.func43, Tryz.ntmps43
 go_wp2
 go_loopw [3] (zbv w s) (fun v3 _ => s.size - (intOf v3).toNat)
 case atStart => exact ⟨0, rfl, by omega, Lib.hid (fun j _ h => absurd h (by omega)), rfl⟩
 case round =>
  obtain ⟨k, rfl, hk, hi, rfl⟩ := hrel
  by_cases hlt : k < s.size
  · obtain ⟨c, hc⟩ : ∃ c, (s[k]'hlt).toNat = c := ⟨_, rfl⟩
    have hW : Hid (isW c = true → zaV s (k + 1)) := Lib.hid fun h => hi.out.step hlt (by rw [hc]; exact h)
    have hN : Hid (isW c = false → isWord s = false) := Lib.hid fun h => qrG hlt (by rw [hc]; exact h)
    have hwr := qqs hs hlt
    have hlo := zB (qmu c)
    have hup := zB (qp9 c)
    cases h1 : yK c <;> rw [h1] at hlo
    · cases h2 : isUp c <;> rw [h2] at hup
      · have hQ : Hid (isW c = (c == 95 || zat c)) := Lib.hid (by rw [qoJ, h1, h2]; rfl)
        clear h1 h2
        go_wp2_with fail
        try simp only [hc]
        refine ((zd hlo) _).mono ?_
        rintro e w1 ⟨rfl, rfl⟩
        go_wp2_with fail
        try simp only [hc]
        refine ((zd hup) _).mono ?_
        rintro e w1 ⟨rfl, rfl⟩
        go_wp2
        · have HF : Hid (isWord s = false) := by
           refine Lib.hid (hN.out ?_)
           rw [hQ.out]; unfold zat; simp_all; omega
          go_ret
          exact ye.mk HF.out.symm
        · have HI : Hid (zaV s (k + 1)) := by
           refine Lib.hid (hW.out ?_)
           rw [hQ.out]; unfold zat; simp_all; omega
          refine ⟨⟨k + 1, by rw [hwr.out], by omega, HI, rfl⟩, ?_⟩
          rw [hwr.out]; simp [intOf]; omega
        · have HI : Hid (zaV s (k + 1)) := by
           refine Lib.hid (hW.out ?_)
           rw [hQ.out]; unfold zat; simp_all; omega
          refine ⟨⟨k + 1, by rw [hwr.out], by omega, HI, rfl⟩, ?_⟩
          rw [hwr.out]; simp [intOf]; omega
        · have HF : Hid (isWord s = false) := by
           refine Lib.hid (hN.out ?_)
           rw [hQ.out]; unfold zat; simp_all; omega
          go_ret
          exact ye.mk HF.out.symm
        all_goals
         have HI : Hid (zaV s (k + 1)) := by
          refine Lib.hid (hW.out ?_)
          rw [hQ.out]; unfold zat; simp_all
         refine ⟨⟨k + 1, by rw [hwr.out], by omega, HI, rfl⟩, ?_⟩
         rw [hwr.out]; simp [intOf]; omega
      · have HI : Hid (zaV s (k + 1)) := Lib.hid (hW.out (by rw [qoJ, h1, h2]; rfl))
        clear h1 h2
        go_wp2_with fail
        try simp only [hc]
        refine ((zd hlo) _).mono ?_
        rintro e w1 ⟨rfl, rfl⟩
        go_wp2_with fail
        try simp only [hc]
        refine ((zd hup) _).mono ?_
        rintro e w1 ⟨rfl, rfl⟩
        go_wp2
        go_roundw
        case measure => rw [hwr.out]; simp [intOf]; omega
        case rel => exact ⟨k + 1, by rw [hwr.out], by omega, HI, rfl⟩
    · have HI : Hid (zaV s (k + 1)) := Lib.hid (hW.out (by rw [qoJ, h1]; rfl))
      clear h1
      go_wp2_with fail
      try simp only [hc]
      refine ((zd hlo) _).mono ?_
      rintro e w1 ⟨rfl, rfl⟩
      go_wp2
      go_roundw
      case measure => rw [hwr.out]; simp [intOf]; omega
      case rel => exact ⟨k + 1, by rw [hwr.out], by omega, HI, rfl⟩
  · have HE : Hid (isWord s = decide (1 ≤ s.size ∧ s.size ≤ 40)) := by
     obtain rfl : k = s.size := by omega
     exact Lib.hid (qrm hi.out)
    go_wp2
    all_goals go_ret
    all_goals refine qhk ?_
    all_goals (rw [HE.out]; simp; try omega)
noncomputable def zN (s : ByteArray) : Bool := isWord s && yK (s.get! 0).toNat && !yC s
theorem qqN {s : ByteArray} {k : Nat} (h : k < s.size) : s.get! k = s[k]'h := by
 show s.get! k = _
 simp [ByteArray.get!, getElem!_pos, h]
 rfl
theorem get0 {s : ByteArray} (h : 0 < s.size) : (s[0]'h) = s.get! 0 := (qqN h).symm
theorem qhm {s : ByteArray} (h : isWord s = true) : 1 ≤ s.size ∧ s.size ≤ 40 ∧ zaJ s 0 := by
 unfold isWord at h
 exact of_decide_eq_true h
theorem qkm (s : ByteArray) (hs : Hid (s.size ≤ 9223372036854775807)) (w : World) : Calls Tryz.prog 22 #[.string s] w (ye w (zN s)) := by
 have hword := zB (qnu s hs)
 have hres := zB (qkK s)
 have hlow := zB (qmu (s.get! 0).toNat)
 cases h1 : isWord s <;> rw [h1] at hword
 · have HF : Hid (zN s = false) := Lib.hid (by unfold zN; rw [h1]; rfl)
   clear h1
   go_enter Tryz.func22, Tryz.ntmps22
   go_wp2_with fail
   refine ((zd hword) _).mono ?_
   rintro e w1 ⟨rfl, rfl⟩
   go_wp2
   go_ret
   exact ye.mk HF.out.symm
 · have hpos : 0 < s.size := by
    have := (qhm h1).1
    omega
   have hg := get0 hpos
   cases h2 : yK (s.get! 0).toNat <;> rw [h2] at hlow
   · have HF : Hid (zN s = false) := Lib.hid (by unfold zN; rw [h1, h2]; rfl)
     clear h1 h2
     go_enter Tryz.func22, Tryz.ntmps22
     go_wp2_with fail
     refine ((zd hword) _).mono ?_
     rintro e w1 ⟨rfl, rfl⟩
     go_wp2_with fail
     try rw [hg]
     refine ((zd hlow) _).mono ?_
     rintro e w1 ⟨rfl, rfl⟩
     go_wp2
     go_ret
     exact ye.mk HF.out.symm
   · have HF : Hid (zN s = !yC s) := Lib.hid (by unfold zN; rw [h1, h2]; rfl)
     clear h1 h2
     go_enter Tryz.func22, Tryz.ntmps22
     go_wp2_with fail
     refine ((zd hword) _).mono ?_
     rintro e w1 ⟨rfl, rfl⟩
     go_wp2_with fail
     try rw [hg]
     refine ((zd hlow) _).mono ?_
     rintro e w1 ⟨rfl, rfl⟩
     go_wp2_with fail
     refine ((zd hres) _).mono ?_
     rintro e w1 ⟨rfl, rfl⟩
     go_wp2
     go_ret
     exact ye.mk HF.out.symm
theorem qrI (s : ByteArray) (pos : Nat) (h : pos < s.size) : (isW (Utf8.decode s pos).1 = true → isW (s[pos]'h).toNat = true ∧ (Utf8.decode s pos).2 = 1) ∧ (isW (Utf8.decode s pos).1 = false → isW (s[pos]'h).toNat = false) := by
 by_cases ha : (s[pos]'h).toNat < 128
 · rw [decode_ascii s pos h ha]
   exact ⟨fun h => ⟨h, rfl⟩, fun h => h⟩
 · have hbig : ¬ (Utf8.decode s pos).1 ≤ 122 := by
    rw [Lib.decode_at, qqN h]
    unfold Lib.decodeN
    repeat' split
    all_goals simp only
    all_goals first | omega | simp_all
   have hno : ∀ c : Nat, ¬ c ≤ 122 → isW c = false := fun c hc => by
    unfold isW ofC
    rw [if_neg (by omega), if_neg (by omega), if_neg (by omega)]
    rfl
   rw [hno _ hbig, hno _ (by omega)]
   simp
def zaD (s : ByteArray) (v : Value) (_ : World) : Prop := ∃ n : Int, v = .int .i64 n ∧ (n < 0 ↔ zaJ s 0)
theorem zaD.mk {s : ByteArray} {n : Int} {w : World} (h : n < 0 ↔ zaJ s 0) : zaD s (.int .i64 n) w := ⟨n, rfl, h⟩
theorem qlr (s : ByteArray) (w : World) : Calls Tryz.prog 135 #[.string s, .func (.func 130) #[] #[], .bool true] w (Ret w (zaD s)) := by
 go_enter Tryz.func135, Tryz.ntmps135
 go_wp2
 go_loopg [] s.size (fun gf wx => ∃ pos : Nat, wx.heap[w.heap.size]? = some (.stringIter s pos) ∧ Ext w wx ∧ pos ≤ s.size ∧ Hid (zaV s pos) ∧ s.size ≤ pos + gf)
 case atStart => exact ⟨0, World.iter_heap w s 0, (Ext.rfl' w).al _, by omega, Lib.hid (fun j _ h => absurd h (by omega)), by omega⟩
 case round =>
  obtain ⟨pos, hit, hbw, hle, hup, hfu⟩ := hrel
  by_cases hps : pos < s.size
  · obtain ⟨g', rfl⟩ : ∃ g', gk = g' + 1 := ⟨gk - 1, by omega⟩
    have hnx : ∀ ty, (Instr.next (.pointer (some ⟨w.heap.size, 0, none⟩)) true ty).run Tryz.prog wr = _ := fun ty => Lib.run_next_any_at wr w.heap.size s pos ty hit hps
    obtain ⟨hY, hN⟩ := qrI s pos hps
    obtain ⟨R, hR⟩ : ∃ R, (Utf8.decode s pos).1 = R := ⟨_, rfl⟩
    obtain ⟨K, hK⟩ : ∃ K, (Utf8.decode s pos).2 = K := ⟨_, rfl⟩
    rw [hR, hK] at hnx hY
    rw [hR] at hN
    have hit2 := Lib.iterAt_heap wr w.heap.size s pos (pos + K) hit
    have hbw2 : Ext w (wr.iterAt w.heap.size s (pos + K)) := Lib.below_iterAt hbw (k := w.heap.size) (Nat.le_refl _) s (pos + K)
    obtain ⟨W, hWd⟩ : ∃ W, wr.iterAt w.heap.size s (pos + K) = W := ⟨_, rfl⟩
    rw [hWd] at hnx hit2 hbw2
    have hrune := zB (qq8 R)
    cases hsp : isW R <;> rw [hsp] at hrune
    · have HI : Hid (¬ zaJ s 0) := Lib.hid fun h => by
       have := hN hsp
       rw [h pos hps (Nat.zero_le _)] at this
       simp at this
      clear hY hN hsp hR hK hWd
      go_wp2_with fail
      refine ((zd hrune) _).mono ?_
      rintro e w1 ⟨rfl, rfl⟩
      go_wp2
      go_ret
      refine Ret.mk (zaD.mk ?_) hbw2
      have := HI.out
      constructor
      · intro h; omega
      · intro h; exact absurd h this
    · obtain rfl : K = 1 := (hY hsp).2
      have HI : Hid (zaV s (pos + 1)) := Lib.hid (hup.out.step hps (hY hsp).1)
      clear hY hN hsp hR hK hWd
      go_wp2_with fail
      refine ((zd hrune) _).mono ?_
      rintro e w1 ⟨rfl, rfl⟩
      go_wp2
      go_roundg g'
      case measure => omega
      case rel => exact ⟨pos + 1, hit2, hbw2, by omega, HI, by omega⟩
  · have hnx : ∀ ty, (Instr.next (.pointer (some ⟨w.heap.size, 0, none⟩)) true ty).run Tryz.prog wr = _ := fun ty => Lib.run_next_end_at wr w.heap.size s pos ty hit hps
    have HI : Hid (zaJ s 0) := Lib.hid fun j h _ => hup.out j h (by omega)
    go_wp2
    go_ret
    refine Ret.mk (zaD.mk ?_) hbw
    have := HI.out
    constructor
    · intro _; exact this
    · intro _; omega
theorem qpm (s : ByteArray) (w : World) : Calls Tryz.prog 129 #[.string s, .func (.func 130) #[] #[]] w (Ret w (zaD s)) := by
 go_enter Tryz.func129, Tryz.ntmps129
 go_wp2_with fail
 refine (qlr _ _).mono ?_
 rintro e w1 ⟨v, rfl, ⟨n, rfl, hn⟩, he⟩
 have hn := zB hn
 go_wp2
 go_ret
 exact Ret.mk (zaD.mk (zd hn)) he
theorem qrj {s : ByteArray} (hs : 0 < s.size) (h0 : isW (s.get! 0).toNat = true) : zaJ (s.extract 1 s.size) 0 ↔ zaJ s 0 := by
 constructor
 · intro h j hj _
   rcases Nat.eq_zero_or_pos j with rfl | hp
   · rw [← qqN hj]; exact h0
   · have h1 : j - 1 < (s.extract 1 s.size).size := by rw [ByteArray.size_extract]; omega
     have := h (j - 1) h1 (Nat.zero_le _)
     rw [ByteArray.getElem_extract] at this
     simpa [show 1 + (j - 1) = j by omega] using this
 · intro h j hj _
   rw [ByteArray.getElem_extract]
   exact h _ _ (Nat.zero_le _)
theorem qtN {c : Nat} (h : yK c = true) : isW c = true := by rw [qoJ, h]; rfl
theorem qsn {c : Nat} (h : yK c = true) : ofC c = 1 := by
 unfold yK at h
 unfold ofC
 rw [if_pos (by simpa using h)]
theorem qpg {c : Nat} (h : yK c = false) : ofC c = 0 ∨ ofC c = 2 ∨ ofC c = 4 := by
 unfold yK at h
 unfold ofC
 rw [if_neg (by simpa using h)]
 repeat' split
 all_goals simp
theorem qkp (s : ByteArray) : s.toList.length = s.size := by rw [Lib.toList_data]; rfl
theorem qqO {s : ByteArray} (h : s.size = 0 ∨ 40 < s.size) : Hid ((isWord s && yK (s.get! 0).toNat) = false) := Lib.hid (by
 cases h1 : isWord s
 · rfl
 · have := qhm h1; omega)
open Classical in
theorem qo5 {s : ByteArray} (h1 : 0 < s.size) (h2 : ¬ 40 < s.size) (h : zaJ s 0) : isWord s = true := by
 unfold isWord
 exact decide_eq_true ⟨by omega, by omega, h⟩
theorem bits01 : bits .and .u8 0 1 = 0 := by decide
theorem bits21 : bits .and .u8 2 1 = 0 := by decide
theorem bits41 : bits .and .u8 4 1 = 0 := by decide
theorem bits11 : bits .and .u8 1 1 = 1 := by decide
theorem ql9 (s : ByteArray) (w : World) : Calls Tryz.prog 115 #[.string s, .int .u8 1] w (Ret w (Is (.bool (isWord s && yK (s.get! 0).toNat)))) := by
 by_cases h0 : s.size = 0
 · have HF := qqO (.inl h0)
   have hl : s.toList = [] := List.eq_nil_of_length_eq_zero (by rw [qkp, h0])
   go_enter Tryz.func115, Tryz.ntmps115
   go_wp2
   go_ret
   exact Ret.mk (HF.out ▸ rfl) (Ext.rfl' w)
 have hl : ¬ s.toList = [] := fun h => h0 (by rw [← qkp, h]; rfl)
 have hl2 : s.toList.isEmpty = false := by simpa using hl
 by_cases h40 : 40 < s.size
 · have HF := qqO (.inr h40)
   go_enter Tryz.func115, Tryz.ntmps115
   go_wp2
   go_ret
   exact Ret.mk (HF.out ▸ rfl) (Ext.rfl' w)
 have hpos : 0 < s.size := by omega
 have hg := get0 hpos
 cases h1 : yK (s.get! 0).toNat
 · rcases qpg h1 with h | h | h <;> have hof := zB (qsW _ _ (congrArg Nat.cast h))
   all_goals
    clear h h1
    have b0 := bits01
    have b2 := bits21
    have b4 := bits41
    go_enter Tryz.func115, Tryz.ntmps115
    go_wp2_with fail
    refine ((zd hof) _).mono ?_
    rintro e w1 ⟨rfl, rfl⟩
    go_wp2
    go_ret
    exact Ret.mk (by rw [Bool.and_false]; rfl) (Ext.rfl' w)
 · have hof := zB (qsW _ _ (congrArg Nat.cast (qsn h1)))
   have hT : Hid (zaJ (s.extract 1 s.size) 0 ↔ zaJ s 0) := Lib.hid (qrj hpos (qtN h1))
   have hF : Hid (zaJ s 0 → isWord s = true) := Lib.hid (qo5 hpos h40)
   clear h1
   have b1 := bits11
   go_enter Tryz.func115, Tryz.ntmps115
   go_wp2_with fail
   refine ((zd hof) _).mono ?_
   rintro e w1 ⟨rfl, rfl⟩
   go_wp2_with fail
   refine (qpm _ _).mono ?_
   rintro e w1 ⟨v, rfl, ⟨n, rfl, hn⟩, he⟩
   have hn := zB hn
   go_wp2
   go_ret
   refine Ret.mk ?_ he
   have h3 := (zd hn).trans hT.out
   show Value.bool _ = Value.bool _
   congr 1
   rw [Bool.and_true, Bool.eq_iff_iff, decide_eq_true_eq]
   first
   | exact ⟨fun h => hF.out (h3.1 h), fun h => h3.2 (qhm h).2.2⟩
   | exact ⟨fun h => hF.out (hT.out.1 h), fun h => hT.out.2 (qhm h).2.2⟩
theorem qos (s : ByteArray) (w : World) : Calls Tryz.prog 109 #[.string s] w (Ret w (Is (.bool (zN s)))) := by
 have hword := zB (ql9 s)
 cases h1 : isWord s && yK (s.get! 0).toNat <;> rw [h1] at hword
 · have HF : Hid (zN s = false) := Lib.hid (by unfold zN; rw [h1]; rfl)
   clear h1
   go_enter Tryz.func109, Tryz.ntmps109
   go_wp2_with fail
   refine ((zd hword) _).mono ?_
   rintro e w1 ⟨v, rfl, hv, he⟩
   obtain rfl : v = _ := hv
   go_wp2
   go_ret
   exact Ret.mk (HF.out ▸ rfl) he
 · have HF : Hid (zN s = !yC s) := Lib.hid (by unfold zN; rw [h1]; rfl)
   clear h1
   go_enter Tryz.func109, Tryz.ntmps109
   go_wp2_with fail
   refine ((zd hword) _).mono ?_
   rintro e w1 ⟨v, rfl, hv, he⟩
   obtain rfl : v = _ := hv
   go_wp2_with fail
   refine (qmi _ _).mono ?_
   rintro e w1 ⟨rfl, rfl⟩
   go_wp2
   go_ret
   exact Ret.mk (HF.out ▸ rfl) he
mutual
noncomputable def zQ : T → Bool
 | .mk k i s ar =>
  if k = 0 then decide (-2147483648 ≤ i ∧ i ≤ 2147483648 ∧ s.toList = [] ∧ ar.length = 0)
  else if k = 1 then decide (0 ≤ i ∧ i ≤ 1048576 ∧ s.toList = [] ∧ ar.length = 0)
  else if k = 2 then (decide (i = 0) && ((zaQ s && decide (ar.length = 2)) || (zN s && decide (ar.length ≤ 6)))) && zP ar
  else false
noncomputable def zP : List T → Bool
 | [] => true
 | t :: ts => zQ t && zP ts
end
noncomputable def yL (t : T) : Bool := decide (t.i = 0) && ((zaQ t.s && decide (t.ar.length = 2)) || (zN t.s && decide (t.ar.length ≤ 6)))
theorem qmY {t : T} (h : t.k = 0) : zQ t = decide (-2147483648 ≤ t.i ∧ t.i ≤ 2147483648 ∧ t.s.toList = [] ∧ t.ar.length = 0) := by
 cases t; simp only [T.k] at h; subst h; simp [zQ, T.i, T.s, T.ar]
theorem qlp {t : T} (h : t.k = 1) : zQ t = decide (0 ≤ t.i ∧ t.i ≤ 1048576 ∧ t.s.toList = [] ∧ t.ar.length = 0) := by
 cases t; simp only [T.k] at h; subst h; simp [zQ, T.i, T.s, T.ar]
theorem qkz {t : T} (h : t.k = 2) : zQ t = (yL t && zP t.ar) := by
 cases t; simp only [T.k] at h; subst h; simp only [zQ, yL, T.i, T.s, T.ar]; rfl
theorem qm6 {t : T} (h0 : t.k ≠ 0) (h1 : t.k ≠ 1) (h2 : t.k ≠ 2) : zQ t = false := by
 cases t; simp only [T.k] at h0 h1 h2; simp [zQ, h0, h1, h2]
theorem qiF (a b : List T) : zP (a ++ b) = (zP a && zP b) := by
 induction a with
 | nil => simp [zP]
 | cons t a ih => simp only [List.cons_append, zP, ih, Bool.and_assoc]
def yi (t : T) (b d : Int) : Prop := zQ t = true ∧ (yu t : Int) ≤ b ∧ (yv t : Int) ≤ d
def yb (l : List T) (b d : Int) : Prop := zP l = true ∧ (zD l : Int) ≤ b ∧ (zy l : Int) ≤ d
def Bud (W : World) (B : Nat) (ok : Prop) (n : Int) (e : Ending) (w' : World) : Prop :=
 ∃ r : Bool, e = .returned (.bool r) ∧ (r = true ↔ ok) ∧ Ext W w' ∧ (r = true → Boxed w' B 116 (.int .i64 n))
theorem Bud.mk {W : World} {B : Nat} {ok : Prop} {n : Int} {r : Bool} {w' : World} (h : r = true ↔ ok) (he : Ext W w') (hb : r = true → Boxed w' B 116 (.int .i64 n)) : Bud W B ok n (.returned (.bool r)) w' :=
 ⟨r, rfl, h, he, hb⟩
theorem Bud.no {W : World} {B : Nat} {ok : Prop} {n : Int} {w' : World} (h : ¬ ok) (he : Ext W w') : Bud W B ok n (.returned (.bool false)) w' :=
 ⟨false, rfl, by simp [h], he, by simp⟩
theorem qfC (w : World) (p : Addr) (v : Value) (cs : Array Value) (t : TypeId) (j : Nat) (u : Value) (h : cs[j]? = some u) : ((w.setCell p v).alloc (.cells cs t)).cell? ⟨w.heap.size, j, none⟩ = some u := by
 have hz : (w.setCell p v).heap.size = w.heap.size := by simp [World.setCell]
 rcases Rd.newAt (w.setCell p v) _ cs t hz with h0 | ⟨ad, ha, hc⟩
 · rw [← Array.getElem?_toList, h0] at h; simp at h
 · have := hc j u (by rw [Array.getElem?_toList]; exact h)
   injection ha with ha
   subst ha
   by_cases hj : j = 0
   · subst hj; simpa [Addr.add] using this
   · simpa [Addr.add, hj] using this
theorem leaf {t : T} {b d : Int} {Q : Prop} [Decidable Q] (HF : zQ t = decide Q) (hu : t.used = []) (hb : 1 ≤ b) (hd : 1 ≤ d) {r : Bool} (hr : r = true ↔ Q) : r = true ↔ yi t b d := by
 unfold yi
 rw [hr, HF, qiJ, qh6, hu]
 simp only [zD, zy, decide_eq_true_eq]
 constructor
 · intro h; exact ⟨h, by omega, by omega⟩
 · intro h; exact h.1
theorem qmF {t : T} (hu : t.used = []) : yu t = 1 := by rw [qiJ, hu]; rfl
theorem zbB {t : T} {b d : Int} (k2 : t.k = 2) : yi t b d ↔ (yL t = true ∧ yb t.ar (b - 1) (d - 1)) := by
 have hu : t.used = t.ar := by unfold T.used; rw [if_pos k2]
 unfold yi yb
 rw [qkz k2, qiJ, qh6, hu, Bool.and_eq_true]
 constructor
 · rintro ⟨⟨h1, h2⟩, h3, h4⟩
   exact ⟨h1, h2, by omega, by omega⟩
 · rintro ⟨h1, h2, h3, h4⟩
   exact ⟨⟨h1, h2⟩, by omega, by omega⟩
set_option maxHeartbeats 1000000 in
theorem qpp (n : Nat) (W : World) (B : Nat) (hB : W.heap.size ≤ B)
 (HA : Hid (∀ (l : List T) (v : Value) (b d : Int) (w : World), wtL l ≤ n → SlT W l v → Ext W w → Boxed w B 116 (.int .i64 b) → 0 ≤ b → b ≤ 1000 → d ≤ 1000 → 0 ≤ d → Calls Tryz.prog 93 #[.pointer (some ⟨B, 0, none⟩), v, .int .i64 d] w (Bud W B (yb l b d) (b - zD l))))
 (t : T) (v : Value) (b d : Int) (w : World) (hn : wtL t.ar ≤ n) (hv : VT W t v) (he : Ext W w) (hb : Boxed w B 116 (.int .i64 b)) (h0 : 0 ≤ b) (h1 : b ≤ 1000) (hd : d ≤ 1000) :
 Calls Tryz.prog 110 #[.pointer (some ⟨B, 0, none⟩), v, .int .i64 d] w (Bud W B (yi t b d) (b - yu t)) := by
 obtain ⟨sl, rfl, hs, -⟩ := hv.open_
 have hs' := zB hs
 obtain ⟨A, c, xs, rfl, hr⟩ := hs
 have cB := hb.cell
 have fB := hb.frozen
 have hlt := hb.lt
 have HE1 : Hid (∀ o, Ext W ((w.setCell ⟨B, 0, none⟩ (.int .i64 (b - 1))).alloc o)) := Lib.hid fun o => Ext.al (Below.setCell he (p := ⟨B, 0, none⟩) hB _) _
 have HB1 : Hid (∀ o, Boxed ((w.setCell ⟨B, 0, none⟩ (.int .i64 (b - 1))).alloc o) B 116 (.int .i64 (b - 1))) := Lib.hid fun o => (hb.set _).alloc _
 have HS := Lib.hid (qiJ t)
 have HD := Lib.hid (qh6 t)
 have HN := Lib.hid hn
 clear hv hn hr
 by_cases hb1 : b < 1
 · have HF : Hid (¬ yi t b d) := Lib.hid fun h => by have := h.2.1; have := HS.out; omega
   go_enter Tryz.func110, Tryz.ntmps110
   go_wp2
   go_ret
   exact Bud.no HF.out (HE1.out _)
 by_cases hd1 : d < 1
 · have HF : Hid (¬ yi t b d) := Lib.hid fun h => by have := h.2.2; have := HD.out; omega
   go_enter Tryz.func110, Tryz.ntmps110
   go_wp2
   go_ret
   exact Bud.no HF.out (HE1.out _)
 have hb2 : ¬ b - 1 < 0 := by omega
 by_cases k0 : t.k = 0
 · have hk : (t.k == 0) = true := by simpa using k0
   have HF := Lib.hid (qmY k0)
   have HU : Hid (t.used = []) := Lib.hid (by unfold T.used; rw [if_neg (by omega)])
   clear k0
   go_enter Tryz.func110, Tryz.ntmps110
   go_wp2
   all_goals go_ret
   all_goals refine Bud.mk (leaf HF.out HU.out (by omega) (by omega) ?_) (HE1.out _) (fun _ => by rw [qmF HU.out]; exact HB1.out _)
   all_goals simp [*]
   all_goals omega
 by_cases k1 : t.k = 1
 · have hk0 : (t.k == 0) = false := by simpa using k0
   have hk : (t.k == 1) = true := by simpa using k1
   have HF := Lib.hid (qlp k1)
   have HU : Hid (t.used = []) := Lib.hid (by unfold T.used; rw [if_neg (by omega)])
   clear k0 k1
   go_enter Tryz.func110, Tryz.ntmps110
   go_wp2
   all_goals go_ret
   all_goals refine Bud.mk (leaf HF.out HU.out (by omega) (by omega) ?_) (HE1.out _) (fun _ => by rw [qmF HU.out]; exact HB1.out _)
   all_goals simp [*]
   all_goals omega
 have hk0 : (t.k == 0) = false := by simpa using k0
 have hk1 : (t.k == 1) = false := by simpa using k1
 by_cases k2 : t.k = 2
 · have hk : (t.k == 2) = true := by simpa using k2
   have HF := Lib.hid (qkz k2)
   have HU : Hid (t.used = t.ar) := Lib.hid (by unfold T.used; rw [if_pos k2])
   have HW : Hid (yi t b d ↔ (yL t = true ∧ yb t.ar (b - 1) (d - 1))) := Lib.hid (zbB k2)
   have HZ : Hid (b - (yu t : Int) = b - 1 - zD t.ar) := Lib.hid (by have := HS.out; rw [HU.out] at this; omega)
   clear k0 k1 k2
   by_cases hj : ¬ t.i = 0
   · have hi := hj
     have hni : (t.i != 0) = true := by simpa using hi
     have HN : Hid (¬ yi t b d) := Lib.hid fun h => by have := (HW.out.1 h).1; simp [yL, hi] at this
     clear hi hj
     go_enter Tryz.func110, Tryz.ntmps110
     go_wp2
     go_ret
     exact Bud.no HN.out (HE1.out _)
   have hi : t.i = 0 := by simpa using hj
   clear hj
   have hni : (t.i != 0) = false := by simpa using hi
   by_cases h6 : 6 < t.ar.length
   · have HN : Hid (¬ yi t b d) := Lib.hid fun h => by have := (HW.out.1 h).1; simp [yL, hi] at this; omega
     clear hi
     go_enter Tryz.func110, Tryz.ntmps110
     go_wp2
     go_ret
     exact Bud.no HN.out (HE1.out _)
   have HH : Hid (yL t = ((zaQ t.s && decide (t.ar.length = 2)) || zN t.s)) := Lib.hid (by unfold yL; rw [decide_eq_true (show t.ar.length ≤ 6 by omega)]; simp [hi])
   clear hi
   have hnm := zB (qos t.s)
   have hop := zB (qmG t.s)
   cases hn : zN t.s <;> rw [hn] at hnm
   · cases ho : zaQ t.s <;> rw [ho] at hop
     · have HN : Hid (¬ yi t b d) := Lib.hid fun h => by have := (HW.out.1 h).1; rw [HH.out, hn, ho] at this; simp at this
       clear hn ho
       go_enter Tryz.func110, Tryz.ntmps110
       go_wp2_with fail
       refine ((zd hnm) _).mono ?_
       rintro e w1 ⟨v, rfl, hv, he1⟩
       obtain rfl : v = _ := hv
       have z2 := he1.cellOf (qfC w _ _ _ _ 2 _ rfl)
       have z3 := he1.cellOf (qfC w _ _ _ _ 3 _ rfl)
       have HE2 := zB ((HE1.out _).tr he1)
       go_wp2_with fail
       refine ((zd hop) _).mono ?_
       rintro e w2 ⟨rfl, rfl⟩
       go_wp2
       go_ret
       exact Bud.no HN.out (zd HE2)
     · by_cases h2 : t.ar.length = 2
       · have HT : Hid (yL t = true) := Lib.hid (by rw [HH.out, ho]; simp [h2])
         have h2b : ((t.ar.length : Int) == 2) = true := by simp [h2]
         clear hn ho h2
         go_enter Tryz.func110, Tryz.ntmps110
         go_wp2_with fail
         refine ((zd hnm) _).mono ?_
         rintro e w1 ⟨v, rfl, hv, he1⟩
         obtain rfl : v = _ := hv
         have z2 := he1.cellOf (qfC w _ _ _ _ 2 _ rfl)
         have z3 := he1.cellOf (qfC w _ _ _ _ 3 _ rfl)
         have HE2 := zB ((HE1.out _).tr he1)
         have HB2 : Hid (Boxed w1 B 116 (.int .i64 (b - 1))) := Lib.hid ((he1.block B (HB1.out _).lt).trans (HB1.out _))
         go_wp2_with fail
         refine ((zd hop) _).mono ?_
         rintro e w2 ⟨rfl, rfl⟩
         go_wp2_with fail
         refine (HA.out t.ar _ (b - 1) (d - 1) _ HN.out ((zd hs')) (zd HE2) HB2.out (by omega) (by omega) (by omega) (by omega)).mono ?_
         rintro e w3 ⟨r, rfl, hr3, he3, hb3⟩
         have hr3 := zB hr3
         have hb3 := zB hb3
         have he3 := zB he3
         clear hnm hop
         go_wp2
         go_ret
         refine Bud.mk ?_ (zd he3) (fun h => by rw [HZ.out]; exact (zd hb3) h)
         rw [HW.out, HT.out, zd hr3]
         simp
       · have HN : Hid (¬ yi t b d) := Lib.hid fun h => by have := (HW.out.1 h).1; rw [HH.out, hn, ho] at this; simp [h2] at this
         have h2b : ((t.ar.length : Int) == 2) = false := by simp; omega
         clear hn ho h2
         go_enter Tryz.func110, Tryz.ntmps110
         go_wp2_with fail
         refine ((zd hnm) _).mono ?_
         rintro e w1 ⟨v, rfl, hv, he1⟩
         obtain rfl : v = _ := hv
         have z2 := he1.cellOf (qfC w _ _ _ _ 2 _ rfl)
         have z3 := he1.cellOf (qfC w _ _ _ _ 3 _ rfl)
         have HE2 := zB ((HE1.out _).tr he1)
         have HB2 : Hid (Boxed w1 B 116 (.int .i64 (b - 1))) := Lib.hid ((he1.block B (HB1.out _).lt).trans (HB1.out _))
         go_wp2_with fail
         refine ((zd hop) _).mono ?_
         rintro e w2 ⟨rfl, rfl⟩
         go_wp2
         go_ret
         exact Bud.no HN.out (zd HE2)
   · have HT : Hid (yL t = true) := Lib.hid (by rw [HH.out, hn]; simp)
     clear hn
     go_enter Tryz.func110, Tryz.ntmps110
     go_wp2_with fail
     refine ((zd hnm) _).mono ?_
     rintro e w1 ⟨v, rfl, hv, he1⟩
     obtain rfl : v = _ := hv
     have z2 := he1.cellOf (qfC w _ _ _ _ 2 _ rfl)
     have z3 := he1.cellOf (qfC w _ _ _ _ 3 _ rfl)
     have HE2 := zB ((HE1.out _).tr he1)
     have HB2 : Hid (Boxed w1 B 116 (.int .i64 (b - 1))) := Lib.hid ((he1.block B (HB1.out _).lt).trans (HB1.out _))
     go_wp2_with fail
     refine (HA.out t.ar _ (b - 1) (d - 1) _ HN.out ((zd hs')) (zd HE2) HB2.out (by omega) (by omega) (by omega) (by omega)).mono ?_
     rintro e w3 ⟨r, rfl, hr3, he3, hb3⟩
     have hr3 := zB hr3
     have hb3 := zB hb3
     have he3 := zB he3
     clear hnm hop
     go_wp2
     go_ret
     refine Bud.mk ?_ (zd he3) (fun h => by rw [HZ.out]; exact (zd hb3) h)
     rw [HW.out, HT.out, zd hr3]
     simp
 have hk2 : (t.k == 2) = false := by simpa using k2
 have HF : Hid (¬ yi t b d) := Lib.hid fun h => by have := h.1; rw [qm6 k0 k1 k2] at this; simp at this
 clear k0 k1 k2
 go_enter Tryz.func110, Tryz.ntmps110
 go_wp2
 go_ret
 exact Bud.no HF.out (HE1.out _)
def AllRel (W : World) (B : Nat) (l : List T) (b d : Int) (v10 : Value) (wr : World) : Prop :=
 ∃ k : Nat, v10 = .int .i64 (k : Int) ∧ k ≤ l.length ∧ Ext W wr ∧ Hid (yb (l.take k) b d) ∧ Boxed wr B 116 (.int .i64 (b - zD (l.take k)))
theorem qpq {l : List T} {k : Nat} {t : T} {b d : Int} (ht : l[k]? = some t) (h : yb (l.take k) b d) : yb (l.take (k + 1)) b d ↔ yi t (b - zD (l.take k)) d := by
 unfold yb yi at *
 rw [qfT ht, qiF, qh0, qi7]
 simp only [zP, zD, zy, Bool.and_eq_true, and_true]
 obtain ⟨h1, h2, h3⟩ := h
 constructor
 · rintro ⟨⟨-, a⟩, b, c⟩; exact ⟨a, by omega, by omega⟩
 · rintro ⟨a, b, c⟩; exact ⟨⟨h1, a⟩, by omega, by omega⟩
theorem qpf {l : List T} {k : Nat} {b d : Int} (h : yb l b d) : yb (l.take k) b d := by
 unfold yb at *
 rw [← List.take_append_drop k l, qiF, qh0, qi7, Bool.and_eq_true] at h
 obtain ⟨⟨h1, -⟩, h2, h3⟩ := h
 exact ⟨h1, by omega, by omega⟩
theorem qo0 (n : Nat) (hM : n ≤ 1000000000) (W : World) (B : Nat)
 (HV : Hid (∀ (t : T) (v : Value) (b d : Int) (w : World), wt t ≤ n → VT W t v → Ext W w → Boxed w B 116 (.int .i64 b) → 0 ≤ b → b ≤ 1000 → d ≤ 1000 → Calls Tryz.prog 110 #[.pointer (some ⟨B, 0, none⟩), v, .int .i64 d] w (Bud W B (yi t b d) (b - yu t))))
 (l : List T) (v : Value) (b d : Int) (w : World) (hn : wtL l ≤ n) (hv : SlT W l v) (he : Ext W w) (hb : Boxed w B 116 (.int .i64 b)) (h0 : 0 ≤ b) (h1 : b ≤ 1000) (hd : d ≤ 1000) (hd0 : 0 ≤ d) :
 Calls Tryz.prog 93 #[.pointer (some ⟨B, 0, none⟩), v, .int .i64 d] w (Bud W B (yb l b d) (b - zD l)) := by
 have hv' := zB hv
 obtain ⟨A, c, xs, rfl, hr⟩ := hv
 have hll : l.length ≤ n := by have := qeH l; omega
 have HN := Lib.hid hn
 clear hr hn
 go_enter Tryz.func93, Tryz.ntmps93
 go_wp2
 go_loopw [7, 10] (fun _ v10 wr => AllRel W B l b d v10 wr) (fun _ v10 _ => l.length - (intOf v10).toNat)
 case atStart => exact ⟨0, rfl, by omega, he, Lib.hid ⟨rfl, by simpa [zD] using h0, by simpa [zy] using hd0⟩, by simpa [zD] using hb⟩
 case round =>
  obtain ⟨k, rfl, hk, hE, hH, hB⟩ := hrel
  by_cases hlt : k < l.length
  · obtain ⟨t, ht⟩ : ∃ t, l[k]? = some t := ⟨l[k], List.getElem?_eq_getElem hlt⟩
    obtain ⟨B2, o, sl, rfl, e0, e1, e2, e3, hs, hvt⟩ := (zd hv').at_ ht
    have c0 := hE.cellOf e0
    have c1 := hE.cellOf e1
    have c2 := hE.cellOf e2
    have c3 := hE.cellOf e3
    have hvW := zB hvt
    clear e0 e1 e2 e3
    obtain ⟨A2, d2, xs2, rfl, -⟩ := hs
    have HT := Lib.hid (qpq ht hH.out)
    have HZ : Hid (b - (zD (l.take (k + 1)) : Int) = b - zD (l.take k) - yu t) := Lib.hid (by rw [qfT ht, qh0]; simp only [zD]; omega)
    have HU : Hid (wt t ≤ n) := Lib.hid (by have := qen (List.mem_of_getElem? ht); have := HN.out; omega)
    have hz : 0 ≤ b - (zD (l.take k) : Int) := by have := hH.out.2.1; omega
    clear ht hvt
    have hz2 := zB hz
    clear hz
    go_wp2_with fail
    refine (HV.out t _ _ d _ HU.out (zd hvW) hE hB (zd hz2) (by omega) hd).mono ?_
    rintro e w1 ⟨r, rfl, hr, he1, hb1⟩
    have hr := zB hr
    have hb1 := zB hb1
    cases r
    · have HF : Hid (¬ yb l b d) := Lib.hid fun h => by
       have := (zd hr).2 (HT.out.1 (qpf h))
       simp at this
      go_wp2
      go_ret
      exact Bud.no HF.out he1
    · have HI : Hid (yb (l.take (k + 1)) b d) := Lib.hid (HT.out.2 ((zd hr).1 rfl))
      have HB : Boxed w1 B 116 (.int .i64 (b - zD (l.take (k + 1)))) := by rw [HZ.out]; exact (zd hb1) rfl
      go_wp2
      go_roundw
      case rel => exact ⟨k + 1, by go_num, by omega, he1, HI, HB⟩
      case measure => simp [intOf]; omega
  · have hl : l.take k = l := List.take_of_length_le (by omega)
    rw [hl] at hH hB
    go_wp2
    go_ret
    exact Bud.mk (by simpa using hH.out) hE (fun _ => hB)
theorem qmf (W : World) (B : Nat) (hB : W.heap.size ≤ B) : ∀ (n : Nat), n ≤ 1000000000 → ∀ (t : T) (v : Value) (b d : Int) (w : World), wt t ≤ n → VT W t v → Ext W w → Boxed w B 116 (.int .i64 b) → 0 ≤ b → b ≤ 1000 → d ≤ 1000 → Calls Tryz.prog 110 #[.pointer (some ⟨B, 0, none⟩), v, .int .i64 d] w (Bud W B (yi t b d) (b - yu t))
 | 0, _, t, _, _, _, _, hn, _, _, _, _, _, _ => by rw [qeT] at hn; omega
 | n + 1, hM, t, v, b, d, w, hn, hv, he, hb, h0, h1, hd =>
  qpp n W B hB (Lib.hid fun l v b d w g1 g2 g3 g4 g5 g6 g7 g8 => qo0 n (by omega) W B (Lib.hid (qmf W B hB n (by omega))) l v b d w g1 g2 g3 g4 g5 g6 g7 g8) t v b d w (by rw [qeT] at hn; omega) hv he hb h0 h1 hd
theorem qq2 (W : World) (B : Nat) (hB : W.heap.size ≤ B) (n : Nat) (hM : n ≤ 1000000000) (l : List T) (v : Value) (b d : Int) (w : World) (hn : wtL l ≤ n) (hv : SlT W l v) (he : Ext W w) (hb : Boxed w B 116 (.int .i64 b)) (h0 : 0 ≤ b) (h1 : b ≤ 1000) (hd : d ≤ 1000) (hd0 : 0 ≤ d) :
 Calls Tryz.prog 93 #[.pointer (some ⟨B, 0, none⟩), v, .int .i64 d] w (Bud W B (yb l b d) (b - zD l)) :=
 qo0 n hM W B (Lib.hid (qmf W B hB n hM)) l v b d w hn hv he hb h0 h1 hd hd0
noncomputable def yc (t : T) : Bool := zQ t && decide (yu t ≤ 200) && decide (yv t ≤ 20)
theorem zbt (w : World) (o : Obj) (t : TypeId) (v : Value) : Boxed ((w.alloc o).alloc (.cells #[v] t)) (w.heap.size + 1) t v := by
 have h := Boxed.new (w.alloc o) t v
 have hz : (w.alloc o).heap.size = w.heap.size + 1 := by simp
 rwa [hz] at h
theorem qdR (w : World) (cs : Array Value) (t : TypeId) (j : Nat) (u : Value) (h : cs[j]? = some u) : (w.alloc (.cells cs t)).cell? ⟨w.heap.size, j, none⟩ = some u := by
 rcases Rd.new w cs t with h0 | ⟨ad, ha, hc⟩
 · rw [← Array.getElem?_toList, h0] at h; simp at h
 · have := hc j u (by rw [Array.getElem?_toList]; exact h)
   injection ha with ha
   subst ha
   by_cases hj : j = 0
   · subst hj; simpa [Addr.add] using this
   · simpa [Addr.add, hj] using this
def zaC (w : World) (l : List T) (sl : Value) (v4 : Value) (wr : World) : Prop :=
 ∃ k : Nat, v4 = .int .i64 (k : Int) ∧ k ≤ l.length ∧ Ext w wr ∧ wr.cell? ⟨w.heap.size, 3, none⟩ = some sl ∧ Hid (zP (l.take k) = true)
theorem qks {l : List T} {k : Nat} {t : T} (ht : l[k]? = some t) (h : zP (l.take k) = true) : zP (l.take (k + 1)) = zQ t := by
 rw [qfT ht, qiF, h]
 simp [zP]
theorem qjU {l : List T} (k : Nat) (h : zP l = true) : zP (l.take k) = true := by
 rw [← List.take_append_drop k l, qiF, Bool.and_eq_true] at h
 exact h.1
set_option maxHeartbeats 1000000 in
theorem qqv (n : Nat) (hM : n ≤ 1000000000) (HI : Hid (∀ (t : T) (v : Value) (w : World), wt t ≤ n → VT w t v → Calls Tryz.prog 76 #[v] w (Ret w (Is (.bool (zQ t))))))
 (t : T) (v : Value) (w : World) (hn : wtL t.ar ≤ n) (hv : VT w t v) : Calls Tryz.prog 76 #[v] w (Ret w (Is (.bool (zQ t)))) := by
 obtain ⟨sl, rfl, hs, -, -, hsz⟩ := hv.open_
 have hs' := zB hs
 have hz := Lib.hid hsz
 obtain ⟨A, c, xs, rfl, hr⟩ := hs
 have HN := Lib.hid hn
 clear hv hn hr hsz
 by_cases k0 : t.k = 0
 · have hk : (t.k == 0) = true := by simpa using k0
   have HF := Lib.hid (qmY k0)
   clear k0
   go_enter Tryz.func76, Tryz.ntmps76
   go_wp2
   all_goals go_ret
   all_goals refine Ret.mk (HF.out ▸ ?_) ((Ext.rfl' w).al _)
   all_goals refine congrArg Value.bool (Bool.eq_iff_iff.2 ?_)
   all_goals simp [*]
   all_goals omega
 by_cases k1 : t.k = 1
 · have hk0 : (t.k == 0) = false := by simpa using k0
   have hk : (t.k == 1) = true := by simpa using k1
   have HF := Lib.hid (qlp k1)
   clear k0 k1
   go_enter Tryz.func76, Tryz.ntmps76
   go_wp2
   all_goals go_ret
   all_goals refine Ret.mk (HF.out ▸ ?_) ((Ext.rfl' w).al _)
   all_goals refine congrArg Value.bool (Bool.eq_iff_iff.2 ?_)
   all_goals simp [*]
   all_goals omega
 have hk0 : (t.k == 0) = false := by simpa using k0
 have hk1 : (t.k == 1) = false := by simpa using k1
 by_cases k2 : t.k = 2
 · have hk : (t.k == 2) = true := by simpa using k2
   have HF := Lib.hid (qkz k2)
   clear k0 k1 k2
   have hll : t.ar.length ≤ 1000000000 := by have := qeH t.ar; have := HN.out; omega
   have hop := zB (qkC t.s)
   have hnm := zB (qkm t.s hz)
   by_cases hj : ¬ t.i = 0
   · have hni : (t.i != 0) = true := by simpa using hj
     have HX : Hid (zQ t = false) := Lib.hid (by rw [HF.out]; simp [yL, hj])
     clear hj
     go_enter Tryz.func76, Tryz.ntmps76
     go_wp2_with fail
     refine ((zd hop) _).mono ?_
     rintro e w1 ⟨rfl, rfl⟩
     go_wp2
     all_goals go_ret
     all_goals exact Ret.mk (HX.out ▸ rfl) ((Ext.rfl' w).al _)
   have hi : t.i = 0 := by simpa using hj
   clear hj
   have hni : (t.i != 0) = false := by simpa using hi
   have HD : Hid (yL t = ((zaQ t.s && decide (t.ar.length = 2)) || (zN t.s && decide (t.ar.length ≤ 6)))) := Lib.hid (by unfold yL; simp [hi])
   clear hi
   cases ho : zaQ t.s <;> rw [ho] at hop
   · cases hn : zN t.s <;> rw [hn] at hnm
     · have HX : Hid (zQ t = false) := Lib.hid (by rw [HF.out, HD.out, ho, hn]; rfl)
       clear ho hn
       go_enter Tryz.func76, Tryz.ntmps76
       go_wp2_with fail
       refine ((zd hop) _).mono ?_
       rintro e w1 ⟨rfl, rfl⟩
       go_wp2_with fail
       refine ((zd hnm) _).mono ?_
       rintro e w1 ⟨rfl, rfl⟩
       go_wp2
       go_ret
       exact Ret.mk (HX.out ▸ rfl) ((Ext.rfl' w).al _)
     · by_cases h6 : 6 < t.ar.length
       · have HX : Hid (zQ t = false) := Lib.hid (by rw [HF.out, HD.out, ho, hn, decide_eq_false (show ¬ t.ar.length ≤ 6 by omega)]; rfl)
         clear ho hn
         go_enter Tryz.func76, Tryz.ntmps76
         go_wp2_with fail
         refine ((zd hop) _).mono ?_
         rintro e w1 ⟨rfl, rfl⟩
         go_wp2_with fail
         refine ((zd hnm) _).mono ?_
         rintro e w1 ⟨rfl, rfl⟩
         go_wp2
         go_ret
         exact Ret.mk (HX.out ▸ rfl) ((Ext.rfl' w).al _)
       · have HH : Hid (yL t = true) := Lib.hid (by rw [HD.out, ho, hn, decide_eq_true (show t.ar.length ≤ 6 by omega)]; rfl)
         clear ho hn
         go_enter Tryz.func76, Tryz.ntmps76
         go_wp2_with fail
         refine ((zd hop) _).mono ?_
         rintro e w1 ⟨rfl, rfl⟩
         go_wp2_with fail
         refine ((zd hnm) _).mono ?_
         rintro e w1 ⟨rfl, rfl⟩
         go_wp2
         go_loopw [4] (fun v4 wr => zaC w t.ar (.slice A t.ar.length c) v4 wr) (fun v4 _ => t.ar.length - (intOf v4).toNat)
         case atStart => exact ⟨0, rfl, by omega, (Ext.rfl' w).al _, qdR w _ _ 3 _ rfl, Lib.hid rfl⟩
         case round =>
          obtain ⟨k, rfl, hk, hE, z3, hH⟩ := hrel
          by_cases hlt : k < t.ar.length
          · obtain ⟨u, hu⟩ : ∃ u, t.ar[k]? = some u := ⟨t.ar[k], List.getElem?_eq_getElem hlt⟩
            obtain ⟨B2, o, sl, rfl, c0, c1, c2, c3, hs, hvt⟩ := (SlT.ext (zd hs') hE : SlT wr t.ar _).at_ hu
            have hvt := zB hvt
            obtain ⟨A2, d2, xs2, rfl, -⟩ := hs
            have HT := Lib.hid (qks hu hH.out)
            have HU : Hid (wt u ≤ n) := Lib.hid (by have := qen (List.mem_of_getElem? hu); have := HN.out; omega)
            clear hu
            have hlen := zB hll
            go_wp2_with fail
            refine (HI.out u _ _ HU.out (zd hvt)).mono ?_
            rintro e w1 ⟨v, rfl, hv, he1⟩
            obtain rfl : v = _ := hv
            have hE1 := hE.tr he1
            have z3' := he1.cellOf z3
            cases hf : zQ u
            · have HX : Hid (zQ t = false) := Lib.hid (by
               rw [HF.out, HH.out, Bool.true_and]
               cases h : zP t.ar
               · rfl
               · have := qjU (k + 1) h; rw [HT.out, hf] at this; simp at this)
              clear hf
              go_wp2
              go_ret
              exact Ret.mk (HX.out ▸ rfl) hE1
            · have HI2 : Hid (zP (t.ar.take (k + 1)) = true) := Lib.hid (HT.out.trans hf)
              clear hf
              go_wp2
              go_roundw
              case rel => exact ⟨k + 1, by go_num, by omega, hE1, z3', HI2⟩
              case measure => simp [intOf]; omega
          · have HX : Hid (zQ t = true) := Lib.hid (by
             rw [HF.out, HH.out, Bool.true_and]
             have := hH.out
             rwa [List.take_of_length_le (by omega)] at this)
            go_wp2
            go_ret
            exact Ret.mk (HX.out ▸ rfl) hE
   · by_cases h2 : t.ar.length = 2
     · have HH : Hid (yL t = true) := Lib.hid (by rw [HD.out, ho]; simp [h2])
       have h2b : ((t.ar.length : Int) == 2) = true := by simp [h2]
       clear ho h2
       go_enter Tryz.func76, Tryz.ntmps76
       go_wp2_with fail
       refine ((zd hop) _).mono ?_
       rintro e w1 ⟨rfl, rfl⟩
       go_wp2
       go_loopw [4] (fun v4 wr => zaC w t.ar (.slice A t.ar.length c) v4 wr) (fun v4 _ => t.ar.length - (intOf v4).toNat)
       case atStart => exact ⟨0, rfl, by omega, (Ext.rfl' w).al _, qdR w _ _ 3 _ rfl, Lib.hid rfl⟩
       case round =>
        obtain ⟨k, rfl, hk, hE, z3, hH⟩ := hrel
        by_cases hlt : k < t.ar.length
        · obtain ⟨u, hu⟩ : ∃ u, t.ar[k]? = some u := ⟨t.ar[k], List.getElem?_eq_getElem hlt⟩
          obtain ⟨B2, o, sl, rfl, c0, c1, c2, c3, hs, hvt⟩ := (SlT.ext (zd hs') hE : SlT wr t.ar _).at_ hu
          have hvt := zB hvt
          obtain ⟨A2, d2, xs2, rfl, -⟩ := hs
          have HT := Lib.hid (qks hu hH.out)
          have HU : Hid (wt u ≤ n) := Lib.hid (by have := qen (List.mem_of_getElem? hu); have := HN.out; omega)
          clear hu
          have hlen := zB hll
          go_wp2_with fail
          refine (HI.out u _ _ HU.out (zd hvt)).mono ?_
          rintro e w1 ⟨v, rfl, hv, he1⟩
          obtain rfl : v = _ := hv
          have hE1 := hE.tr he1
          have z3' := he1.cellOf z3
          cases hf : zQ u
          · have HX : Hid (zQ t = false) := Lib.hid (by
             rw [HF.out, HH.out, Bool.true_and]
             cases h : zP t.ar
             · rfl
             · have := qjU (k + 1) h; rw [HT.out, hf] at this; simp at this)
            clear hf
            go_wp2
            go_ret
            exact Ret.mk (HX.out ▸ rfl) hE1
          · have HI2 : Hid (zP (t.ar.take (k + 1)) = true) := Lib.hid (HT.out.trans hf)
            clear hf
            go_wp2
            go_roundw
            case rel => exact ⟨k + 1, by go_num, by omega, hE1, z3', HI2⟩
            case measure => simp [intOf]; omega
        · have HX : Hid (zQ t = true) := Lib.hid (by
           rw [HF.out, HH.out, Bool.true_and]
           have := hH.out
           rwa [List.take_of_length_le (by omega)] at this)
          go_wp2
          go_ret
          exact Ret.mk (HX.out ▸ rfl) hE
     · have h2b : ((t.ar.length : Int) == 2) = false := by simp; omega
       cases hn : zN t.s <;> rw [hn] at hnm
       · have HX : Hid (zQ t = false) := Lib.hid (by rw [HF.out, HD.out, ho, hn]; simp [h2])
         clear ho hn h2
         go_enter Tryz.func76, Tryz.ntmps76
         go_wp2_with fail
         refine ((zd hop) _).mono ?_
         rintro e w1 ⟨rfl, rfl⟩
         go_wp2_with fail
         refine ((zd hnm) _).mono ?_
         rintro e w1 ⟨rfl, rfl⟩
         go_wp2
         go_ret
         exact Ret.mk (HX.out ▸ rfl) ((Ext.rfl' w).al _)
       · by_cases h6 : 6 < t.ar.length
         · have HX : Hid (zQ t = false) := Lib.hid (by rw [HF.out, HD.out, ho, hn, decide_eq_false (show ¬ t.ar.length ≤ 6 by omega)]; simp [h2])
           clear ho hn h2
           go_enter Tryz.func76, Tryz.ntmps76
           go_wp2_with fail
           refine ((zd hop) _).mono ?_
           rintro e w1 ⟨rfl, rfl⟩
           go_wp2_with fail
           refine ((zd hnm) _).mono ?_
           rintro e w1 ⟨rfl, rfl⟩
           go_wp2
           go_ret
           exact Ret.mk (HX.out ▸ rfl) ((Ext.rfl' w).al _)
         · have HH : Hid (yL t = true) := Lib.hid (by rw [HD.out, ho, hn, decide_eq_true (show t.ar.length ≤ 6 by omega)]; simp)
           clear ho hn h2
           go_enter Tryz.func76, Tryz.ntmps76
           go_wp2_with fail
           refine ((zd hop) _).mono ?_
           rintro e w1 ⟨rfl, rfl⟩
           go_wp2_with fail
           refine ((zd hnm) _).mono ?_
           rintro e w1 ⟨rfl, rfl⟩
           go_wp2
           go_loopw [4] (fun v4 wr => zaC w t.ar (.slice A t.ar.length c) v4 wr) (fun v4 _ => t.ar.length - (intOf v4).toNat)
           case atStart => exact ⟨0, rfl, by omega, (Ext.rfl' w).al _, qdR w _ _ 3 _ rfl, Lib.hid rfl⟩
           case round =>
            obtain ⟨k, rfl, hk, hE, z3, hH⟩ := hrel
            by_cases hlt : k < t.ar.length
            · obtain ⟨u, hu⟩ : ∃ u, t.ar[k]? = some u := ⟨t.ar[k], List.getElem?_eq_getElem hlt⟩
              obtain ⟨B2, o, sl, rfl, c0, c1, c2, c3, hs, hvt⟩ := (SlT.ext (zd hs') hE : SlT wr t.ar _).at_ hu
              have hvt := zB hvt
              obtain ⟨A2, d2, xs2, rfl, -⟩ := hs
              have HT := Lib.hid (qks hu hH.out)
              have HU : Hid (wt u ≤ n) := Lib.hid (by have := qen (List.mem_of_getElem? hu); have := HN.out; omega)
              clear hu
              have hlen := zB hll
              go_wp2_with fail
              refine (HI.out u _ _ HU.out (zd hvt)).mono ?_
              rintro e w1 ⟨v, rfl, hv, he1⟩
              obtain rfl : v = _ := hv
              have hE1 := hE.tr he1
              have z3' := he1.cellOf z3
              cases hf : zQ u
              · have HX : Hid (zQ t = false) := Lib.hid (by
                 rw [HF.out, HH.out, Bool.true_and]
                 cases h : zP t.ar
                 · rfl
                 · have := qjU (k + 1) h; rw [HT.out, hf] at this; simp at this)
                clear hf
                go_wp2
                go_ret
                exact Ret.mk (HX.out ▸ rfl) hE1
              · have HI2 : Hid (zP (t.ar.take (k + 1)) = true) := Lib.hid (HT.out.trans hf)
                clear hf
                go_wp2
                go_roundw
                case rel => exact ⟨k + 1, by go_num, by omega, hE1, z3', HI2⟩
                case measure => simp [intOf]; omega
            · have HX : Hid (zQ t = true) := Lib.hid (by
               rw [HF.out, HH.out, Bool.true_and]
               have := hH.out
               rwa [List.take_of_length_le (by omega)] at this)
              go_wp2
              go_ret
              exact Ret.mk (HX.out ▸ rfl) hE
 have hk2 : (t.k == 2) = false := by simpa using k2
 have HF := Lib.hid (qm6 k0 k1 k2)
 clear k0 k1 k2
 go_enter Tryz.func76, Tryz.ntmps76
 go_wp2
 go_ret
 exact Ret.mk (HF.out ▸ rfl) ((Ext.rfl' w).al _)
theorem qoQ : ∀ (n : Nat), n ≤ 1000000000 → ∀ (t : T) (v : Value) (w : World), wt t ≤ n → VT w t v → Calls Tryz.prog 76 #[v] w (Ret w (Is (.bool (zQ t))))
 | 0, _, t, _, _, hn, _ => by rw [qeT] at hn; omega
 | n + 1, hM, t, v, w, hn, hv => qqv n (by omega) (Lib.hid (qoQ n (by omega))) t v w (by rw [qeT] at hn; omega) hv
theorem qjm (n : Nat) (hM : n ≤ 1000000000) (t : T) (v : Value) (w : World) (hn : wt t ≤ n) (hv : VT w t v) : Calls Tryz.prog 46 #[v] w (Ret w (Is (.bool (yc t)))) := by
 have h1 := zB (fun (w' : World) (e : Ext w w') => qoQ n hM t v w' hn (hv.ext e))
 have h2 := zB (fun (w' : World) (e : Ext w w') => qiy n t v w' hn hM (hv.ext e))
 have h3 := zB (fun (w' : World) (e : Ext w w') => qjn n t v w' hn hM (hv.ext e))
 obtain ⟨sl, rfl, hs, -⟩ := hv.open_
 obtain ⟨A, c, xs, rfl, -⟩ := hs
 have z0 := qdR w #[.int .i64 t.k, .int .i64 t.i, .string t.s, .slice A t.ar.length c] 47 0 _ rfl
 have z1 := qdR w #[.int .i64 t.k, .int .i64 t.i, .string t.s, .slice A t.ar.length c] 47 1 _ rfl
 have z2 := qdR w #[.int .i64 t.k, .int .i64 t.i, .string t.s, .slice A t.ar.length c] 47 2 _ rfl
 have z3 := qdR w #[.int .i64 t.k, .int .i64 t.i, .string t.s, .slice A t.ar.length c] 47 3 _ rfl
 have HR : Hid (yc t = (zQ t && decide (yu t ≤ 200) && decide (yv t ≤ 20))) := Lib.hid rfl
 clear hv hn
 cases hf : zQ t <;> rw [hf] at h1 HR
 · have HX : Hid (yc t = false) := Lib.hid (by rw [HR.out]; rfl)
   clear hf
   go_enter Tryz.func46, Tryz.ntmps46
   go_wp2_with fail
   refine ((zd h1) _ ((Ext.rfl' w).al _)).mono ?_
   rintro e w1 ⟨v, rfl, hv, he1⟩
   obtain rfl : v = _ := hv
   go_wp2
   go_ret
   exact Ret.mk (HX.out ▸ rfl) (((Ext.rfl' w).al _).tr he1)
 · clear hf
   go_enter Tryz.func46, Tryz.ntmps46
   go_wp2_with fail
   refine ((zd h1) _ ((Ext.rfl' w).al _)).mono ?_
   rintro e w1 ⟨v, rfl, hv, he1⟩
   obtain rfl : v = _ := hv
   have y0 := he1.cellOf z0
   have y1 := he1.cellOf z1
   have y2 := he1.cellOf z2
   have y3 := he1.cellOf z3
   have hE1 := ((Ext.rfl' w).al _).tr he1
   clear he1 z0 z1 z2 z3
   by_cases hs : (yu t : Int) ≤ 200
   · go_wp2_with fail
     refine ((zd h2) _ hE1).mono ?_
     rintro e w2 ⟨v, rfl, hv, he2⟩
     obtain rfl : v = _ := hv
     have u0 := he2.cellOf y0
     have u1 := he2.cellOf y1
     have u2 := he2.cellOf y2
     have u3 := he2.cellOf y3
     have hE2 := hE1.tr he2
     clear he2 y0 y1 y2 y3 hE1
     go_wp2_with fail
     refine ((zd h3) _ hE2).mono ?_
     rintro e w3 ⟨v, rfl, hv, he3⟩
     obtain rfl : v = _ := hv
     have HX : Hid (yc t = decide ((yv t : Int) ≤ 20)) := Lib.hid (by rw [HR.out, decide_eq_true (show yu t ≤ 200 by omega), Bool.true_and, Bool.true_and, Bool.eq_iff_iff]; simp only [decide_eq_true_eq]; omega)
     go_wp2
     go_ret
     exact Ret.mk (HX.out ▸ rfl) (hE2.tr he3)
   · have HX : Hid (yc t = false) := Lib.hid (by rw [HR.out, decide_eq_false (show ¬ yu t ≤ 200 by omega)]; rfl)
     go_wp2_with fail
     refine ((zd h2) _ hE1).mono ?_
     rintro e w2 ⟨v, rfl, hv, he2⟩
     obtain rfl : v = _ := hv
     go_wp2
     go_ret
     exact Ret.mk (HX.out ▸ rfl) (hE1.tr he2)
noncomputable def yd (ts : List T) : Bool := zP ts && decide (zD ts ≤ 200) && decide (zy ts ≤ 20)
theorem qle (ts : List T) : yd ts = true ↔ yb ts 200 20 := by
 unfold yd yb
 simp only [Bool.and_eq_true, decide_eq_true_eq]
 constructor
 · rintro ⟨⟨a, b⟩, c⟩; exact ⟨a, by omega, by omega⟩
 · rintro ⟨a, b, c⟩; exact ⟨⟨a, by omega⟩, by omega⟩
noncomputable def yY (ts : List T) : Bool := ts.all yc
theorem qqo (a b : List T) : yY (a ++ b) = (yY a && yY b) := by unfold yY; exact List.all_append ..
theorem qkl : ∀ ts : List T, yd ts = (yY ts && decide (zD ts ≤ 200))
 | [] => by simp [yd, yY, zP, zD, zy]
 | t :: ts => by
  have ih := qkl ts
  rw [Bool.eq_iff_iff] at ih ⊢
  unfold yd yY at *
  simp only [zP, yc, List.all_cons, Bool.and_eq_true, decide_eq_true_eq] at ih ⊢
  simp only [zD, zy]
  constructor
  · rintro ⟨⟨⟨a, b⟩, c⟩, e⟩
    have := ih.1 ⟨⟨b, by omega⟩, by omega⟩
    exact ⟨⟨⟨⟨a, by omega⟩, by omega⟩, this.1⟩, c⟩
  · rintro ⟨⟨⟨⟨a, b⟩, c⟩, e⟩, f⟩
    have := ih.2 ⟨e, by omega⟩
    exact ⟨⟨⟨a, this.1.1⟩, f⟩, by omega⟩
def zbD (w : World) (l : List T) (v3 v4 : Value) (wr : World) : Prop :=
 ∃ k : Nat, v3 = .int .i64 (zD (l.take k) : Nat) ∧ v4 = .int .i64 (k : Int) ∧ k ≤ l.length ∧ Ext w wr ∧ Hid (yY (l.take k) = true)
theorem qjr (n : Nat) (hM : n ≤ 1000000000) (l : List T) (v : Value) (w : World) (hn : wtL l ≤ n) (hv : SlT w l v) : Calls Tryz.prog 23 #[v] w (Ret w (Is (.bool (yd l)))) := by
 have hv' := zB hv
 obtain ⟨A, c, xs, rfl, hr⟩ := hv
 have hll : l.length ≤ n := by have := qeH l; omega
 have HN := Lib.hid hn
 have HE := Lib.hid (qkl l)
 clear hr hn
 go_enter Tryz.func23, Tryz.ntmps23
 go_wp2
 go_loopw [3, 4] (fun v3 v4 wr => zbD w l v3 v4 wr) (fun _ v4 _ => l.length - (intOf v4).toNat)
 case atStart => exact ⟨0, rfl, rfl, by omega, Ext.rfl' w, Lib.hid rfl⟩
 case round =>
  obtain ⟨k, rfl, rfl, hk, hE, hH⟩ := hrel
  have hb1 : zD (l.take k) ≤ 1000000000 := by
   have h1 := qmU l k
   have h2 := qjR (l.take k)
   have h3 := HN.out
   omega
  by_cases hlt : k < l.length
  · obtain ⟨t, ht⟩ : ∃ t, l[k]? = some t := ⟨l[k], List.getElem?_eq_getElem hlt⟩
    obtain ⟨B2, o, sl, rfl, c0, c1, c2, c3, hs, hvt⟩ := (SlT.ext (zd hv') hE : SlT wr l _).at_ ht
    have hvt := zB hvt
    obtain ⟨A2, d2, xs2, rfl, -⟩ := hs
    have HT := Lib.hid (qfT ht)
    have hm := List.mem_of_getElem? ht
    have HU : Hid (wt t ≤ n) := Lib.hid (by have := qen hm; have := HN.out; omega)
    have HX : Hid (yc t = false → yd l = false) := Lib.hid fun h => by
     rw [HE.out]
     have : yY l = false := by
      unfold yY
      rw [List.all_eq_false]
      exact ⟨t, hm, by rw [h]; simp⟩
     rw [this]; rfl
    clear ht hm
    have hb2 : yu t ≤ 1000000000 := by have := qkG t; have := HU.out; omega
    go_wp2_with fail
    refine (qjm n hM t _ _ HU.out (zd hvt)).mono ?_
    rintro e w1 ⟨v, rfl, hv, he1⟩
    obtain rfl : v = _ := hv
    have hE1 := hE.tr he1
    have d0 := he1.cellOf c0
    have d1 := he1.cellOf c1
    have d2 := he1.cellOf c2
    have d3 := he1.cellOf c3
    have hvt1 := zB ((zd hvt).ext he1)
    clear hvt c0 c1 c2 c3
    cases hf : yc t
    · have HZ := Lib.hid (HX.out hf)
      clear hf
      go_wp2
      go_ret
      exact Ret.mk (HZ.out ▸ rfl) hE1
    · have HI : Hid (yY (l.take (k + 1)) = true) := Lib.hid (by rw [HT.out, qqo, hH.out]; simp [yY, hf])
      clear hf
      go_wp2_with fail
      refine (qiy n t _ _ HU.out hM (zd hvt1)).mono ?_
      rintro e w2 ⟨v, rfl, hv, he2⟩
      obtain rfl : v = _ := hv
      have hE2 := hE1.tr he2
      go_wp2
      go_roundw
      case rel => exact ⟨k + 1, congrArg (Value.int .i64) (show _ = ((zD (l.take (k + 1)) : Nat) : Int) by rw [HT.out, qh0]; simp only [zD]; omega), by go_num, by omega, hE2, HI⟩
      case measure => simp [intOf]; omega
  · have HZ : Hid (yd l = decide ((zD (l.take k) : Int) ≤ 200)) := Lib.hid (by
     have h1 := hH.out
     rw [List.take_of_length_le (by omega)] at h1 ⊢
     rw [HE.out, h1, Bool.true_and, Bool.eq_iff_iff]
     simp only [decide_eq_true_eq]
     omega)
    go_wp2
    go_ret
    exact Ret.mk (HZ.out ▸ rfl) hE
structure At where
 n : ByteArray
 ts : List T
structure Gl where
 op : Int
 n : ByteArray
 ts : List T
def CA (w : World) (a : At) (cs : List Value) : Prop := ∃ sl, cs = [.string a.n, sl] ∧ SlT w a.ts sl ∧ a.n.size ≤ 9223372036854775807
def CG (w : World) (g : Gl) (cs : List Value) : Prop := ∃ sl, cs = [.int .i64 g.op, .string g.n, sl] ∧ SlT w g.ts sl ∧ I64 g.op ∧ g.n.size ≤ 9223372036854775807
def VA (w : World) (a : At) (v : Value) : Prop := ∃ cs, v = .agg cs.toArray ∧ CA w a cs
def VG (w : World) (g : Gl) (v : Value) : Prop := ∃ cs, v = .agg cs.toArray ∧ CG w g cs
theorem VA.open_ {w : World} {a : At} {v : Value} (h : VA w a v) : ∃ sl, v = .agg #[.string a.n, sl] ∧ SlT w a.ts sl ∧ a.n.size ≤ 9223372036854775807 := by
 obtain ⟨cs, rfl, sl, rfl, h1, h2⟩ := h
 exact ⟨sl, rfl, h1, h2⟩
theorem VG.open_ {w : World} {g : Gl} {v : Value} (h : VG w g v) : ∃ sl, v = .agg #[.int .i64 g.op, .string g.n, sl] ∧ SlT w g.ts sl ∧ I64 g.op ∧ g.n.size ≤ 9223372036854775807 := by
 obtain ⟨cs, rfl, sl, rfl, h1, h2, h3⟩ := h
 exact ⟨sl, rfl, h1, h2, h3⟩
theorem VA.mk {w : World} {n : ByteArray} {ts : List T} {sl : Value} (h : SlT w ts sl) (hs : n.size ≤ 9223372036854775807) : VA w ⟨n, ts⟩ (.agg #[.string n, sl]) := ⟨[.string n, sl], rfl, sl, rfl, h, hs⟩
theorem VG.mk {w : World} {op : Int} {n : ByteArray} {ts : List T} {sl : Value} (h : SlT w ts sl) (ho : I64 op) (hs : n.size ≤ 9223372036854775807) : VG w ⟨op, n, ts⟩ (.agg #[.int .i64 op, .string n, sl]) := ⟨[.int .i64 op, .string n, sl], rfl, sl, rfl, h, ho, hs⟩
theorem CA.ext {w w' : World} {a : At} {cs : List Value} (h : CA w a cs) (e : Ext w w') : CA w' a cs := let ⟨sl, h1, h2, h3⟩ := h; ⟨sl, h1, h2.ext e, h3⟩
theorem CG.ext {w w' : World} {g : Gl} {cs : List Value} (h : CG w g cs) (e : Ext w w') : CG w' g cs := let ⟨sl, h1, h2, h3⟩ := h; ⟨sl, h1, h2.ext e, h3⟩
theorem VA.ext {w w' : World} {a : At} {v : Value} (h : VA w a v) (e : Ext w w') : VA w' a v := let ⟨cs, h1, h2⟩ := h; ⟨cs, h1, h2.ext e⟩
theorem VG.ext {w w' : World} {g : Gl} {v : Value} (h : VG w g v) (e : Ext w w') : VG w' g v := let ⟨cs, h1, h2⟩ := h; ⟨cs, h1, h2.ext e⟩
noncomputable def zO (a : At) : Bool := zN a.n && decide (a.ts.length ≤ 6) && yd a.ts
def zU (op : Int) : Int := if op = 1 ∨ op = 2 then 0 else if op = 11 ∨ op = 12 then 1 else if 2 < op ∧ op < 11 then 2 else -1
noncomputable def zF (g : Gl) : Bool := if g.op = 0 then zO ⟨g.n, g.ts⟩ else decide (g.n.toList = []) && decide (zU g.op = (g.ts.length : Int)) && yd g.ts
theorem qlK (n : Nat) (hM : n ≤ 1000000000) (a : At) (v : Value) (w : World) (hn : wtL a.ts ≤ n) (hv : VA w a v) : Calls Tryz.prog 92 #[v] w (Ret w (Is (.bool (zO a)))) := by
 obtain ⟨sl, rfl, hs, -⟩ := hv.open_
 have hC := zB (fun (w' : World) (e : Ext w w') (hb : Boxed w' (w.heap.size + 1) 116 (.int .i64 200)) => qq2 w (w.heap.size + 1) (by omega) n hM a.ts sl 200 20 w' hn hs e hb (by omega) (by omega) (by omega) (by omega))
 obtain ⟨A, c, xs, rfl, -⟩ := hs
 have hnm := zB (qos a.n)
 clear hv hn
 by_cases hj : zN a.n
 · rw [hj] at hnm
   by_cases h6 : a.ts.length ≤ 6
   · have HR : Hid (zO a = yd a.ts) := Lib.hid (by unfold zO; simp [hj, h6])
     have HL := Lib.hid (qle a.ts)
     have h6' : (a.ts.length : Int) ≤ 6 := by omega
     clear hj h6
     go_enter Tryz.func92, Tryz.ntmps92
     go_wp2_with fail
     have hb0 := zbt w (.cells #[.string a.n, .slice A a.ts.length c] 34) 116 (.int .i64 200)
     refine ((zd hnm) _).mono ?_
     rintro e w1 ⟨v, rfl, hv, he1⟩
     obtain rfl : v = _ := hv
     have z1 := he1.cellOf (((Ext.rfl' _).al _).cellOf (qdR w #[.string a.n, .slice A a.ts.length c] 34 1 _ rfl))
     have hb1 := (he1.block _ hb0.lt).trans hb0
     have HE := zB ((((Ext.rfl' w).al _).al _).tr he1)
     clear hb0 he1
     go_wp2_with fail
     refine ((zd hC) _ (zd HE) hb1).mono ?_
     rintro e w2 ⟨r, rfl, hr, he2, -⟩
     have hr := zB hr
     have he2 := zB he2
     go_wp2
     go_ret
     refine Ret.mk ?_ (zd he2)
     show Value.bool _ = Value.bool _
     congr 1
     rw [HR.out, Bool.eq_iff_iff, HL.out, zd hr]
   · have HR : Hid (zO a = false) := Lib.hid (by unfold zO; simp [h6])
     have h6' : ¬ (a.ts.length : Int) ≤ 6 := by omega
     clear hj h6
     go_enter Tryz.func92, Tryz.ntmps92
     go_wp2_with fail
     refine ((zd hnm) _).mono ?_
     rintro e w1 ⟨v, rfl, hv, he1⟩
     obtain rfl : v = _ := hv
     have z1 := he1.cellOf (((Ext.rfl' _).al _).cellOf (qdR w #[.string a.n, .slice A a.ts.length c] 34 1 _ rfl))
     have HE := zB ((((Ext.rfl' w).al _).al _).tr he1)
     clear he1
     go_wp2
     go_ret
     exact Ret.mk (HR.out ▸ rfl) (zd HE)
 · have hj' : zN a.n = false := by simpa using hj
   rw [hj'] at hnm
   have HR : Hid (zO a = false) := Lib.hid (by unfold zO; simp [hj])
   clear hj hj'
   go_enter Tryz.func92, Tryz.ntmps92
   go_wp2_with fail
   refine ((zd hnm) _).mono ?_
   rintro e w1 ⟨v, rfl, hv, he1⟩
   obtain rfl : v = _ := hv
   have HE := zB ((((Ext.rfl' w).al _).al _).tr he1)
   clear he1
   go_wp2
   go_ret
   exact Ret.mk (HR.out ▸ rfl) (zd HE)
set_option maxHeartbeats 2000000 in
theorem qkT (n : Nat) (hM : n ≤ 1000000000) (g : Gl) (v : Value) (w : World) (hn : wtL g.ts ≤ n) (hv : VG w g v) (h0 : g.op ≠ 0) : Calls Tryz.prog 71 #[v] w (Ret w (Is (.bool (zF g)))) := by
 obtain ⟨sl, rfl, hs, -⟩ := hv.open_
 obtain ⟨A, c, xs, rfl, hr⟩ := hs
 have hC := zB (fun (L : Nat) (hL : g.ts.length = L) (w' : World) (e : Ext w w') (hb : Boxed w' (w.heap.size + 1) 116 (.int .i64 200)) => qq2 w (w.heap.size + 1) (by omega) n hM g.ts (.slice A L c) 200 20 w' hn ⟨A, c, xs, by rw [hL], hr⟩ e hb (by omega) (by omega) (by omega) (by omega))
 have hb0 := zB (fun o => zbt w o 116 (.int .i64 200))
 have HE := zB (fun o => ((Ext.rfl' w).al o).al (.cells #[.int .i64 200] 116))
 have HR : Hid (zF g = (decide (g.n.toList = []) && decide (zU g.op = (g.ts.length : Int)) && yd g.ts)) := Lib.hid (by unfold zF; rw [if_neg h0])
 have HL := Lib.hid (qle g.ts)
 have HF : Hid (¬ (zU g.op = (g.ts.length : Int) ∧ g.n.toList = []) → zF g = false) := Lib.hid fun h => by
  rw [HR.out]
  by_cases h1 : zU g.op = (g.ts.length : Int)
  · have h2 : ¬ g.n.toList = [] := fun h2 => h ⟨h1, h2⟩
    simp [h2]
  · simp [h1]
 have HT : Hid (∀ r : Bool, zU g.op = (g.ts.length : Int) → g.n.toList = [] → (r = true ↔ yb g.ts 200 20) → r = zF g) := Lib.hid fun r h1 h2 h3 => by
  rw [HR.out, Bool.eq_iff_iff, h3, ← HL.out]
  simp [h1, h2]
 have k0 : (g.op == 0) = false := by simpa using h0
 clear hv hn hr
 by_cases k : g.op = 1
 · have HA : Hid (zU g.op = 0) := Lib.hid (by rw [k]; decide)
   have k' : (g.op == 1) = true := by simpa using k
   have hp : 0 < g.op := by omega
   have hq : g.op ≤ 12 := by omega
   clear h0 k
   go_enter Tryz.func71, Tryz.ntmps71
   go_wp2_with fail
   · have h1 : g.n.toList = [] := by assumption
     refine ((zd hC) _ (by simp [*]) _ ((zd HE) _) ((zd hb0) _)).mono ?_
     rintro e w2 ⟨r, rfl, hr, he2, -⟩
     have hr := zB hr
     have he2 := zB he2
     have HX := Lib.hid (HT.out r (by rw [HA.out]; simp [*]) h1 (zd hr))
     go_wp2
     go_ret
     exact Ret.mk (HX.out ▸ rfl) (zd he2)
   · rename_i h1 h2
     have HX := Lib.hid (HF.out fun h => by have := h.1; rw [HA.out] at this; first | omega | exact h2 (List.length_eq_zero_iff.1 (by omega)))
     clear h1 h2
     go_ret
     exact Ret.mk (HX.out ▸ rfl) ((zd HE) _)
   · rename_i h1
     have HX := Lib.hid (HF.out fun h => h1 h.2)
     clear h1
     go_ret
     exact Ret.mk (HX.out ▸ rfl) ((zd HE) _)
 by_cases k : g.op = 2
 · have HA : Hid (zU g.op = 0) := Lib.hid (by rw [k]; decide)
   have k' : (g.op == 2) = true := by simpa using k
   have hp : 0 < g.op := by omega
   have hq : g.op ≤ 12 := by omega
   clear h0 k
   go_enter Tryz.func71, Tryz.ntmps71
   go_wp2_with fail
   · have h1 : g.n.toList = [] := by assumption
     refine ((zd hC) _ (by simp [*]) _ ((zd HE) _) ((zd hb0) _)).mono ?_
     rintro e w2 ⟨r, rfl, hr, he2, -⟩
     have hr := zB hr
     have he2 := zB he2
     have HX := Lib.hid (HT.out r (by rw [HA.out]; simp [*]) h1 (zd hr))
     go_wp2
     go_ret
     exact Ret.mk (HX.out ▸ rfl) (zd he2)
   · rename_i h1 h2
     have HX := Lib.hid (HF.out fun h => by have := h.1; rw [HA.out] at this; first | omega | exact h2 (List.length_eq_zero_iff.1 (by omega)))
     clear h1 h2
     go_ret
     exact Ret.mk (HX.out ▸ rfl) ((zd HE) _)
   · rename_i h1
     have HX := Lib.hid (HF.out fun h => h1 h.2)
     clear h1
     go_ret
     exact Ret.mk (HX.out ▸ rfl) ((zd HE) _)
 by_cases k : g.op = 11
 · have HA : Hid (zU g.op = 1) := Lib.hid (by rw [k]; decide)
   have k' : (g.op == 11) = true := by simpa using k
   have hp : 0 < g.op := by omega
   have hq : g.op ≤ 12 := by omega
   clear h0 k
   go_enter Tryz.func71, Tryz.ntmps71
   go_wp2_with fail
   · have h1 : g.n.toList = [] := by assumption
     refine ((zd hC) _ (by simp [*]) _ ((zd HE) _) ((zd hb0) _)).mono ?_
     rintro e w2 ⟨r, rfl, hr, he2, -⟩
     have hr := zB hr
     have he2 := zB he2
     have HX := Lib.hid (HT.out r (by rw [HA.out]; simp [*]) h1 (zd hr))
     go_wp2
     go_ret
     exact Ret.mk (HX.out ▸ rfl) (zd he2)
   · rename_i h1 h2
     have HX := Lib.hid (HF.out fun h => by have := h.1; rw [HA.out] at this; first | omega | exact h2 (List.length_eq_zero_iff.1 (by omega)))
     clear h1 h2
     go_ret
     exact Ret.mk (HX.out ▸ rfl) ((zd HE) _)
   · rename_i h1
     have HX := Lib.hid (HF.out fun h => h1 h.2)
     clear h1
     go_ret
     exact Ret.mk (HX.out ▸ rfl) ((zd HE) _)
 by_cases k : g.op = 12
 · have HA : Hid (zU g.op = 1) := Lib.hid (by rw [k]; decide)
   have k' : (g.op == 12) = true := by simpa using k
   have hp : 0 < g.op := by omega
   have hq : g.op ≤ 12 := by omega
   clear h0 k
   go_enter Tryz.func71, Tryz.ntmps71
   go_wp2_with fail
   · have h1 : g.n.toList = [] := by assumption
     refine ((zd hC) _ (by simp [*]) _ ((zd HE) _) ((zd hb0) _)).mono ?_
     rintro e w2 ⟨r, rfl, hr, he2, -⟩
     have hr := zB hr
     have he2 := zB he2
     have HX := Lib.hid (HT.out r (by rw [HA.out]; simp [*]) h1 (zd hr))
     go_wp2
     go_ret
     exact Ret.mk (HX.out ▸ rfl) (zd he2)
   · rename_i h1 h2
     have HX := Lib.hid (HF.out fun h => by have := h.1; rw [HA.out] at this; first | omega | exact h2 (List.length_eq_zero_iff.1 (by omega)))
     clear h1 h2
     go_ret
     exact Ret.mk (HX.out ▸ rfl) ((zd HE) _)
   · rename_i h1
     have HX := Lib.hid (HF.out fun h => h1 h.2)
     clear h1
     go_ret
     exact Ret.mk (HX.out ▸ rfl) ((zd HE) _)
 have k1 : (g.op == 1) = false := by simp; omega
 have k2 : (g.op == 2) = false := by simp; omega
 have k3 : (g.op == 11) = false := by simp; omega
 have k4 : (g.op == 12) = false := by simp; omega
 by_cases hp : 0 < g.op
 · by_cases hq : g.op ≤ 12
   · have HA : Hid (zU g.op = 2) := Lib.hid (by unfold zU; rw [if_neg (by omega), if_neg (by omega), if_pos (by omega)])
     clear h0
     go_enter Tryz.func71, Tryz.ntmps71
     go_wp2_with fail
     · have h1 : g.n.toList = [] := by assumption
       refine ((zd hC) _ (by omega) _ ((zd HE) _) ((zd hb0) _)).mono ?_
       rintro e w2 ⟨r, rfl, hr, he2, -⟩
       have hr := zB hr
       have he2 := zB he2
       have HX := Lib.hid (HT.out r (by rw [HA.out]; omega) h1 (zd hr))
       go_wp2
       go_ret
       exact Ret.mk (HX.out ▸ rfl) (zd he2)
     · rename_i h1 h2
       have HX := Lib.hid (HF.out fun h => by have := h.1; rw [HA.out] at this; omega)
       clear h1 h2
       go_ret
       exact Ret.mk (HX.out ▸ rfl) ((zd HE) _)
     · rename_i h1
       have HX := Lib.hid (HF.out fun h => h1 h.2)
       clear h1
       go_ret
       exact Ret.mk (HX.out ▸ rfl) ((zd HE) _)
   · have HX := Lib.hid (HF.out fun h => by
      have := h.1
      unfold zU at this
      rw [if_neg (by omega), if_neg (by omega), if_neg (by omega)] at this
      omega)
     clear h0
     go_enter Tryz.func71, Tryz.ntmps71
     go_wp2
     go_ret
     exact Ret.mk (HX.out ▸ rfl) ((zd HE) _)
 · have HX := Lib.hid (HF.out fun h => by
    have := h.1
    unfold zU at this
    rw [if_neg (by omega), if_neg (by omega), if_neg (by omega)] at this
    omega)
   clear h0
   go_enter Tryz.func71, Tryz.ntmps71
   go_wp2
   go_ret
   exact Ret.mk (HX.out ▸ rfl) ((zd HE) _)
theorem qlE (n : Nat) (hM : n ≤ 1000000000) (g : Gl) (v : Value) (w : World) (hn : wtL g.ts ≤ n) (hv : VG w g v) : Calls Tryz.prog 71 #[v] w (Ret w (Is (.bool (zF g)))) := by
 by_cases h0 : g.op = 0
 · have HR : Hid (zF g = zO ⟨g.n, g.ts⟩) := Lib.hid (by unfold zF; rw [if_pos h0])
   obtain ⟨sl, rfl, hs, ho, hz⟩ := hv.open_
   have hC := zB (fun (w' : World) (e : Ext w w') => qlK n hM ⟨g.n, g.ts⟩ _ w' hn (VA.mk (hs.ext e) hz))
   have HE := zB (fun o => (Ext.rfl' w).al o)
   obtain ⟨A, c, xs, rfl, -⟩ := hs
   have k0 : (g.op == 0) = true := by simpa using h0
   clear h0 hv hn ho hz
   go_enter Tryz.func71, Tryz.ntmps71
   go_wp2_with fail
   refine ((zd hC) _ ((zd HE) _)).mono ?_
   rintro e w1 ⟨v, rfl, hv, he⟩
   obtain rfl : v = _ := hv
   have he := zB (((zd HE) _).tr he)
   go_wp2
   go_ret
   exact Ret.mk (HR.out ▸ rfl) (zd he)
 · exact qkT n hM g v w hn hv h0
def orI (a b : Int) : Int := if a ≠ 0 then a else b
mutual
def zW : T → T → Int
 | .mk k i s ar, u =>
  orI (zx (zj k) (zj u.k))
   (if zj k = 0 ∨ zj k = 1 then zx i u.i
    else if zj k = 2 then orI (zx ar.length u.ar.length) (orI (ya s u.s) (cmpL ar u.ar))
    else orI (zx k u.k) (orI (zx i u.i) (ya s u.s)))
def cmpL : List T → List T → Int
 | [], _ => 0
 | t :: ts, us => match us with
  | [] => 0
  | u :: us => orI (zW t u) (cmpL ts us)
end
theorem qhQ (t u : T) : zW t u = orI (zx (zj t.k) (zj u.k))
 (if zj t.k = 0 ∨ zj t.k = 1 then zx t.i u.i
  else if zj t.k = 2 then orI (zx t.ar.length u.ar.length) (orI (ya t.s u.s) (cmpL t.ar u.ar))
  else orI (zx t.k u.k) (orI (zx t.i u.i) (ya t.s u.s))) := by
 cases t; cases u; simp only [zW, T.k, T.i, T.s, T.ar]; rfl
theorem qgd (t u : T) (ts us : List T) : cmpL (t :: ts) (u :: us) = orI (zW t u) (cmpL ts us) := by simp only [cmpL]
theorem qmo {ts us : List T} {k : Nat} {t u : T} (h1 : ts[k]? = some t) (h2 : us[k]? = some u) : cmpL (ts.drop k) (us.drop k) = orI (zW t u) (cmpL (ts.drop (k + 1)) (us.drop (k + 1))) := by
 have e : ∀ {l : List T} {x : T}, l[k]? = some x → l.drop k = x :: l.drop (k + 1) := fun {l x} h => by
  have hk := (List.getElem?_eq_some_iff.1 h).1
  rw [List.drop_eq_getElem_cons hk]; congr 1
  have := List.getElem?_eq_getElem hk
  rw [this] at h; injection h
 rw [e h1, e h2, qgd]
theorem qeO {a b : Int} (h : zx a b = 0) : a = b := by unfold zx at h; split at h <;> (try split at h) <;> omega
theorem qmg (a : Int) : zx a a = 0 := by unfold zx; simp
theorem qol (k : Int) : 0 ≤ zj k ∧ zj k ≤ 3 := by unfold zj; split <;> (try split) <;> (try split) <;> omega
theorem qdc {P : Program} {f : FuncId} {args : Array Value} {w : World} {n : Nat} {v : Value}
 (h : Calls P f args (w.drewN n) fun e w' => e = .returned v ∧ w.drewN n = w') : Calls P f args (w.drewN n) fun e w'' => e = .returned v ∧ ∃ m, w'' = w.drewN m :=
 h.mono fun _ _ ⟨he, hm⟩ => ⟨he, n, hm.symm⟩
def Tri (x y z : Int) : Prop := (x ≤ 0 → y ≤ 0 → z ≤ 0) ∧ (x < 0 → y ≤ 0 → z < 0) ∧ (x ≤ 0 → y < 0 → z < 0) ∧ (0 ≤ x → 0 ≤ y → 0 ≤ z) ∧ (0 < x → 0 ≤ y → 0 < z) ∧ (0 ≤ x → 0 < y → 0 < z)
def Sgn (x : Int) : Prop := -1 ≤ x ∧ x ≤ 1
theorem qj8 {x1 y1 z1 x2 y2 z2 : Int} (h : Tri x1 y1 z1) (k : x1 = 0 → y1 = 0 → Tri x2 y2 z2) : Tri (orI x1 x2) (orI y1 y2) (orI z1 z2) := by
 unfold orI
 by_cases a : x1 = 0
 · by_cases b : y1 = 0
   · have := k a b
     have c : z1 = 0 := by unfold Tri at h; omega
     simpa [a, b, c] using this
   · have c : z1 ≠ 0 := by unfold Tri at h; omega
     rw [if_neg (by omega), if_pos b, if_pos c]
     unfold Tri at h ⊢
     omega
 · by_cases b : y1 = 0
   · have c : z1 ≠ 0 := by unfold Tri at h; omega
     rw [if_pos a, if_neg (by omega), if_pos c]
     unfold Tri at h ⊢
     omega
   · rw [if_pos a, if_pos b]
     by_cases c : z1 = 0
     · rw [if_neg (by omega)]
       unfold Tri at h ⊢
       omega
     · rw [if_pos c]; exact h
theorem qps (a b c : Int) : Tri (zx a b) (zx b c) (zx a c) := by
 unfold Tri zx
 repeat' split
 all_goals omega
theorem qtL (a b : Int) : Sgn (zx a b) := by unfold Sgn zx; repeat' split <;> omega
theorem qm5 (a b : Int) : zx b a = - zx a b := by unfold zx; repeat' split <;> omega
theorem qta {x y : Int} (h : Sgn x) (k : Sgn y) : Sgn (orI x y) := by unfold orI; split <;> assumption
theorem qj2 {x y x' y' : Int} (h : x' = -x) (k : y' = -y) : orI x' y' = - orI x y := by unfold orI; subst h k; by_cases a : x = 0 <;> simp [a]
def yH (x y : List UInt8) : Int := if Op.bytesLess x y then -1 else if Op.bytesLess y x then 1 else 0
theorem qsE (a b : ByteArray) : ya a b = yH a.toList b.toList := rfl
theorem qfi (a b : UInt8) (x y : List UInt8) : yH (a :: x) (b :: y) = orI (zx a.toNat b.toNat) (yH x y) := by
 unfold yH zx orI
 simp only [Op.bytesLess]
 by_cases h1 : a < b
 · have h1' : a.toNat < b.toNat := by rwa [UInt8.lt_iff_toNat_lt] at h1
   simp [h1, h1']
 · by_cases h2 : b < a
   · have h2' : b.toNat < a.toNat := by rwa [UInt8.lt_iff_toNat_lt] at h2
     have h3 : ¬ (a == b) = true := by simp; rintro rfl; exact h1 h2
     have h4 : ¬ a.toNat < b.toNat := by omega
     have h5 : ¬ a = b := by simpa using h3
     simp [h1, h2, h2', h4, h5]
   · have h3 : a = b := by
      apply UInt8.toNat_inj.1
      rw [UInt8.lt_iff_toNat_lt] at *
      omega
     subst h3
     simp [h1]
theorem qrb : ∀ x y z : List UInt8, Tri (yH x y) (yH y z) (yH x z)
 | [], [], [] => by simp [yH, Op.bytesLess, Tri]
 | [], [], b :: z => by simp [yH, Op.bytesLess, Tri]
 | [], b :: y, [] => by simp [yH, Op.bytesLess, Tri]
 | a :: x, [], [] => by simp [yH, Op.bytesLess, Tri]
 | [], b :: y, c :: z => by
  have h := qrb [] y z
  rw [qfi]
  have e1 : yH [] (b :: y) = -1 := by simp [yH, Op.bytesLess]
  have e2 : yH [] (c :: z) = -1 := by simp [yH, Op.bytesLess]
  rw [e1, e2]
  unfold Tri; omega
 | a :: x, [], c :: z => by
  rw [qfi]
  have e1 : yH [] (c :: z) = -1 := by simp [yH, Op.bytesLess]
  have e2 : yH (a :: x) [] = 1 := by simp [yH, Op.bytesLess]
  rw [e1, e2]
  unfold Tri; omega
 | a :: x, b :: y, [] => by
  rw [qfi]
  have e1 : yH (a :: x) [] = 1 := by simp [yH, Op.bytesLess]
  have e2 : yH (b :: y) [] = 1 := by simp [yH, Op.bytesLess]
  rw [e1, e2]
  unfold Tri; omega
 | a :: x, b :: y, c :: z => by
  rw [qfi, qfi, qfi]
  exact qj8 (qps _ _ _) fun _ _ => qrb x y z
theorem qtH (x y : List UInt8) : Sgn (yH x y) := by unfold Sgn yH; repeat' split <;> omega
theorem qrh : ∀ x y : List UInt8, yH y x = - yH x y
 | [], [] => by decide
 | [], b :: y => by simp [yH, Op.bytesLess]
 | a :: x, [] => by simp [yH, Op.bytesLess]
 | a :: x, b :: y => by
  rw [qfi, qfi]
  exact qj2 (qm5 _ _) (qrh x y)
theorem qs8 {n : Nat} (H : ∀ a b c : T, wt a ≤ n → Tri (zW a b) (zW b c) (zW a c)) : ∀ a b c : List T, wtL a ≤ n → a.length = b.length → b.length = c.length → Tri (cmpL a b) (cmpL b c) (cmpL a c)
 | [], [], [], _, _, _ => by simp [cmpL, Tri]
 | t :: a, u :: b, v :: c, h, h1, h2 => by
  simp only [wtL] at h
  rw [qgd, qgd, qgd]
  exact qj8 (H t u v (by omega)) fun _ _ => qs8 H a b c (by omega) (by simpa using h1) (by simpa using h2)
 | [], _ :: _, _, _, h1, _ => by simp at h1
 | _ :: _, [], _, _, h1, _ => by simp at h1
 | _, [], _ :: _, _, _, h2 => by simp at h2
 | _, _ :: _, [], _, _, h2 => by simp at h2
theorem qtt : ∀ (n : Nat) (a b c : T), wt a ≤ n → Tri (zW a b) (zW b c) (zW a c)
 | 0, a, _, _, h => by rw [qeT] at h; omega
 | n + 1, a, b, c, h => by
  rw [qhQ, qhQ, qhQ]
  refine qj8 (qps _ _ _) fun h1 h2 => ?_
  have e1 := qeO h1
  have e2 := qeO h2
  rw [← e1]
  rw [← e1] at e2
  by_cases c1 : zj a.k = 0 ∨ zj a.k = 1
  · rw [if_pos c1, if_pos c1, if_pos c1]; exact qps _ _ _
  rw [if_neg c1, if_neg c1, if_neg c1]
  by_cases c2 : zj a.k = 2
  · rw [if_pos c2, if_pos c2, if_pos c2]
    refine qj8 (qps _ _ _) fun l1 l2 => qj8 (qrb _ _ _) fun _ _ => ?_
    have l1 := qeO l1
    have l2 := qeO l2
    exact qs8 (fun a b c h => qtt n a b c h) _ _ _ (by rw [qeT] at h; omega) (by omega) (by omega)
  · rw [if_neg c2, if_neg c2, if_neg c2]
    exact qj8 (qps _ _ _) fun _ _ => qj8 (qps _ _ _) fun _ _ => qrb _ _ _
theorem qtj {n : Nat} (H : ∀ a b : T, wt a ≤ n → zW b a = - zW a b) : ∀ a b : List T, wtL a ≤ n → cmpL b a = - cmpL a b
 | [], [], _ => by simp [cmpL]
 | [], _ :: _, _ => by simp [cmpL]
 | _ :: _, [], _ => by simp [cmpL]
 | t :: a, u :: b, h => by
  simp only [wtL] at h
  rw [qgd, qgd]
  exact qj2 (H t u (by omega)) (qtj H a b (by omega))
theorem qtm : ∀ (n : Nat) (a b : T), wt a ≤ n → zW b a = - zW a b
 | 0, a, _, h => by rw [qeT] at h; omega
 | n + 1, a, b, h => by
  rw [qhQ, qhQ a b]
  by_cases e : zj a.k = zj b.k
  · refine qj2 (qm5 _ _) ?_
    rw [← e]
    by_cases c1 : zj a.k = 0 ∨ zj a.k = 1
    · rw [if_pos c1, if_pos c1]; exact qm5 _ _
    rw [if_neg c1, if_neg c1]
    by_cases c2 : zj a.k = 2
    · rw [if_pos c2, if_pos c2]
      exact qj2 (qm5 _ _) (qj2 (qrh _ _) (qtj (fun a b h => qtm n a b h) _ _ (by rw [qeT] at h; omega)))
    · rw [if_neg c2, if_neg c2]
      exact qj2 (qm5 _ _) (qj2 (qm5 _ _) (qrh _ _))
  · have h1 : zx (zj a.k) (zj b.k) ≠ 0 := fun h => e (qeO h)
    have h2 := qm5 (zj a.k) (zj b.k)
    unfold orI
    rw [if_pos (by omega), if_pos h1, h2]
theorem qsK (a b c : T) : Tri (zW a b) (zW b c) (zW a c) := qtt _ a b c (Nat.le_refl _)
theorem qqc (a b : T) : zW b a = - zW a b := qtm _ a b (Nat.le_refl _)
theorem qrJ (a : T) : zW a a = 0 := by have := qqc a a; omega
end Go.Proofs.YtabbfihjeppbhaaGreat
namespace Go.Proofs.YtabbfihjeppbhaaGreat
set_option maxRecDepth 100000
open Go.RowKit Go.Shelf
attribute [local go_sem] Oper.semAt_some
mutual
def yh : T → List Int
 | .mk k i _ ar => if k = 1 then [i] else if k = 2 then zm ar else []
def zm : List T → List Int
 | [] => []
 | t :: ts => yh t ++ zm ts
end
theorem qn2 {t : T} (h : t.k = 1) : yh t = [t.i] := by cases t; simp only [T.k] at h; subst h; simp [yh, T.i]
theorem qsH {t : T} (h : t.k ≠ 1) : yh t = zm t.used := by
 obtain ⟨k, i, s, ar⟩ := t
 simp only [T.k] at h
 unfold T.used
 simp only [yh, if_neg h, T.k, T.ar]
 by_cases h2 : k = 2
 · simp [h2]
 · simp [h2, zm]
theorem qiL (a b : List T) : zm (a ++ b) = zm a ++ zm b := by
 induction a with
 | nil => simp [zm]
 | cons t a ih => simp only [List.cons_append, zm, ih, List.append_assoc]
attribute [local go_sem] Oper.semAt_some
def yz (l : List Int) (x : Int) : List Int := if x ∈ l then l else l ++ [x]
def z9 (l xs : List Int) : List Int := xs.foldl yz l
theorem qih (l : List Int) : z9 l [] = l := rfl
theorem qnG (l xs ys : List Int) : z9 l (xs ++ ys) = z9 (z9 l xs) ys := List.foldl_append ..
theorem qiV {l : List Int} {x y : Int} : y ∈ yz l x ↔ y ∈ l ∨ y = x := by
 unfold yz
 split
 · constructor
   · exact .inl
   · rintro (h | rfl) <;> assumption
 · simp
theorem qiG {y : Int} : ∀ {xs l : List Int}, y ∈ z9 l xs ↔ y ∈ l ∨ y ∈ xs
 | [], l => by simp [qih]
 | x :: xs, l => by
  show y ∈ z9 (yz l x) xs ↔ _
  rw [qiG, qiV, List.mem_cons, or_assoc]
theorem qrv (l : List Int) (x : Int) : (yz l x).length ≤ l.length + 1 := by unfold yz; split <;> simp
theorem qiN : ∀ (xs l : List Int), (z9 l xs).length ≤ l.length + xs.length
 | [], l => by simp [qih]
 | x :: xs, l => by
  show (z9 (yz l x) xs).length ≤ _
  have := qiN xs (yz l x)
  have := qrv l x
  simp only [List.length_cons]
  omega
mutual
theorem qqz : ∀ t : T, (yh t).length ≤ wt t
 | .mk k i s ar => by
  simp only [yh, wt]
  have := qlP ar
  split
  · simp
  · split
    · omega
    · simp
theorem qlP : ∀ l : List T, (zm l).length ≤ wtL l
 | [] => by simp [zm]
 | t :: l => by
  simp only [zm, wtL, List.length_append]
  have := qqz t
  have := qlP l
  omega
end
def zal (W : World) (b : Nat) (xs : List Int) : Prop :=
 ∃ D : DataW Unit, W.ownsMap Tryz.prog 3 (plainElem Tryz.prog 4) b xs.length D ∧ Maps.IsMap D ∧ ∀ x : Int, I64 x → D.atKey (.int .i64 x) (.lit (.bool false)) = .lit (.bool (decide (x ∈ xs)))
theorem zal.kept {W W' : World} {row : Option Nat} {b : Nat} {xs : List Int} (h : zal W b xs) (hg : W.grownBy W' row) (hne : some b ≠ row) : zal W' b xs :=
 let ⟨D, h1, h2, h3⟩ := h; ⟨D, h1.kept hg hne, h2, h3⟩
theorem zal.lt {W : World} {b : Nat} {xs : List Int} (h : zal W b xs) : b < W.heap.size := let ⟨_, h1, _⟩ := h; h1.lt
theorem zal.heap {W : World} {b : Nat} {xs : List Int} (h : zal W b xs) : ∃ es ck, W.heap[b]? = some (.map es ck) := let ⟨_, ⟨es, ck, h1, _⟩, _⟩ := h; ⟨es, ck, h1⟩
theorem zal.put {W : World} {b : Nat} {xs : List Int} {D' : DataW Unit} {x : Int} (hx : I64 x) (hm : Maps.IsMap D') (hd : ∃ D : DataW Unit, D' = D.put (.int .i64 x) (.lit (.bool true)) ∧ Maps.IsMap D ∧ ∀ x : Int, I64 x → D.atKey (.int .i64 x) (.lit (.bool false)) = .lit (.bool (decide (x ∈ xs))))
 (hown : W.ownsMap Tryz.prog 3 (plainElem Tryz.prog 4) b (xs.length + 1) D') : zal W b (xs ++ [x]) := by
 obtain ⟨D, rfl, h2, h3⟩ := hd
 refine ⟨_, by simpa using hown, hm, fun y hy => ?_⟩
 by_cases hxy : y = x
 · subst hxy
   rw [Maps.atKey_put_same h2 (by simp [WideAt.IsKeyLit])]
   simp
 · rw [Maps.atKey_put_other (by simp [hxy]), h3 y hy]
   simp [hxy]
def RdI (l : List Int) (v : Value) (w : World) : Prop := ∃ A c, v = .slice A l.length c ∧ Rd w A (l.map (Value.int .i64))
theorem RdI.ext {w w' : World} {l : List Int} {v : Value} (h : RdI l v w) (e : Ext w w') : RdI l v w' := let ⟨A, c, h1, h2⟩ := h; ⟨A, c, h1, h2.ext e⟩
end Go.Proofs.YtabbfihjeppbhaaGreat
namespace Go.Proofs.YtabbfihjeppbhaaGreat
set_option maxRecDepth 100000
open Go.RowKit
def Eqv (t u : T) : Prop := zW t u = 0
theorem Eqv.rfl' (t : T) : Eqv t t := qrJ t
theorem Eqv.symm {t u : T} (h : Eqv t u) : Eqv u t := by have := qqc t u; unfold Eqv at *; omega
theorem Eqv.trans {t u v : T} (h : Eqv t u) (k : Eqv u v) : Eqv t v := by
 have := qsK t u v
 unfold Tri Eqv at *
 omega
def orL : List Int → Int
 | [] => 0
 | a :: l => if a ≠ 0 then a else orL l
set_option maxRecDepth 100000 in
theorem qrW (A : Option Addr) (n c : Nat) (l : List Int) (w : World) (hn : l.length = n) (hr : Rd w A (l.map (Value.int .i64))) (hl : n ≤ 1000) : Calls Tryz.prog 118 #[.slice A n c] w (zR w (orL l)) := by
 subst hn
 go_enter Tryz.func118, Tryz.ntmps118
 go_wp2
 go_loop [5, 8] (fun _ v8 => ∃ k : Nat, v8 = .int .i64 (k : Int) ∧ k ≤ l.length ∧ Hid (orL l = orL (l.drop k))) (fun _ v8 => l.length - (intOf v8).toNat)
 case atStart => exact ⟨0, rfl, by omega, Lib.hid rfl⟩
 case round =>
  obtain ⟨k, rfl, hk, hi⟩ := hrel
  by_cases hlt : k < l.length
  · obtain ⟨z, hz⟩ : ∃ z, l[k]? = some z := ⟨l[k], List.getElem?_eq_getElem hlt⟩
    have hd : l.drop k = z :: l.drop (k + 1) := by
     rw [List.drop_eq_getElem_cons hlt]; congr 1
     have := List.getElem?_eq_getElem hlt
     rw [this] at hz; injection hz
    rw [hd] at hi
    obtain ⟨ad, rfl, hc⟩ := hr.at_ (k := k) (u := .int .i64 z) (by rw [List.getElem?_map, hz]; rfl)
    clear hz hd
    by_cases h0 : z = 0
    · have hb : (z != 0) = false := by simpa using h0
      have HI : Hid (orL l = orL (l.drop (k + 1))) := by rw [hi.out, orL, if_neg (by simpa using h0)]; exact Lib.hid rfl
      clear h0
      go_wp2
      go_round
      case rel => exact ⟨k + 1, by go_num, by omega, HI⟩
      case measure => simp [intOf]; omega
    · have hb : (z != 0) = true := by simpa using h0
      have HI : Hid (orL l = z) := by rw [hi.out, orL, if_pos h0]; exact Lib.hid rfl
      clear h0
      go_wp2
      go_ret
      exact zR.mk HI.out.symm
  · rw [List.drop_eq_nil_of_le (by omega)] at hi
    go_wp2
    go_ret
    exact zR.mk hi.out.symm
set_option maxRecDepth 100000 in
set_option maxHeartbeats 1600000 in
theorem qma (n : Nat) (hM : n ≤ 1000000000)
 (HL : Hid (∀ (ts us : List T) (v u : Value) (w : World), wtL ts ≤ n → ts.length = us.length → SlT w ts v → SlT w us u → Calls Tryz.prog 112 #[v, u] w (Ret w (Is (.int .i64 (cmpL ts us))))))
 (t u : T) (v x : Value) (w : World) (hn : wtL t.ar ≤ n) (hv : VT w t v) (hx : VT w u x) : Calls Tryz.prog 121 #[v, x] w (Ret w (Is (.int .i64 (zW t u)))) := by
 have HF := Lib.hid (qhQ t u)
 obtain ⟨sl, rfl, hs, -⟩ := hv.open_
 obtain ⟨sx, rfl, hy, -⟩ := hx.open_
 clear hv hx
 obtain ⟨B, d, xs, rfl, hs'⟩ := hs
 obtain ⟨D, d2, ys, rfl, hy'⟩ := hy
 have HS : Hid (SlT w t.ar (.slice B t.ar.length d)) := ⟨B, d, xs, rfl, hs'⟩
 have HY : Hid (SlT w u.ar (.slice D u.ar.length d2)) := ⟨D, d2, ys, rfl, hy'⟩
 clear hs' hy'
 by_cases h1 : zx (zj t.k) (zj u.k) = 0
 · have hb : (zx (zj t.k) (zj u.k) != 0) = false := by simpa using h1
   have HF1 : Hid (zW t u = if zj t.k = 0 ∨ zj t.k = 1 then zx t.i u.i
    else if zj t.k = 2 then orI (zx t.ar.length u.ar.length) (orI (ya t.s u.s) (cmpL t.ar u.ar))
    else orI (zx t.k u.k) (orI (zx t.i u.i) (ya t.s u.s))) := by rw [HF.out]; unfold orI; rw [if_neg (by simpa using h1)]; exact Lib.hid rfl
   have hr := qol t.k
   clear h1 HF
   by_cases r0 : zj t.k = 0
   · have HF2 : Hid (zW t u = zx t.i u.i) := by rw [HF1.out, if_pos (.inl r0)]; exact Lib.hid rfl
     have b0 : (zj t.k == 0) = true := by simpa using r0
     clear r0 hr HF1
     go_enter Tryz.func121, Tryz.ntmps121
     go_wp2_with fail
     go_quiet ((first | (go_at_call 134; exact qdc (qeD _ _)) | (go_at_call 120; exact qdc (qd1 _ _ _))))
     go_wp2_with fail
     refine (qeD _ _).mono ?_
     rintro e w1 ⟨rfl, rfl⟩
     go_wp2_with fail
     refine (qd1 _ _ _).mono ?_
     rintro e w1 ⟨rfl, rfl⟩
     go_wp2
     go_ret
     rw [HF2.out]
     exact Ret.mk rfl ((((Ext.rfl' w).al _).al _).drN _)
   by_cases r1 : zj t.k = 1
   · have HF2 : Hid (zW t u = zx t.i u.i) := by rw [HF1.out, if_pos (.inr r1)]; exact Lib.hid rfl
     have b0 : (zj t.k == 0) = false := by simpa using r0
     have b1 : (zj t.k == 1) = true := by simpa using r1
     clear r0 r1 hr HF1
     go_enter Tryz.func121, Tryz.ntmps121
     go_wp2_with fail
     go_quiet ((first | (go_at_call 134; exact qdc (qeD _ _)) | (go_at_call 120; exact qdc (qd1 _ _ _))))
     go_wp2_with fail
     refine (qeD _ _).mono ?_
     rintro e w1 ⟨rfl, rfl⟩
     go_wp2_with fail
     refine (qd1 _ _ _).mono ?_
     rintro e w1 ⟨rfl, rfl⟩
     go_wp2
     go_ret
     rw [HF2.out]
     exact Ret.mk rfl ((((Ext.rfl' w).al _).al _).drN _)
   have HF2 : Hid (zW t u = if zj t.k = 2 then orI (zx t.ar.length u.ar.length) (orI (ya t.s u.s) (cmpL t.ar u.ar)) else orI (zx t.k u.k) (orI (zx t.i u.i) (ya t.s u.s))) := by
    rw [HF1.out, if_neg (by omega)]; exact Lib.hid rfl
   have b0 : (zj t.k == 0) = false := by simpa using r0
   have b1 : (zj t.k == 1) = false := by simpa using r1
   clear HF1
   by_cases r2 : zj t.k = 2
   · have HF3 : Hid (zW t u = orI (zx t.ar.length u.ar.length) (orI (ya t.s u.s) (cmpL t.ar u.ar))) := by rw [HF2.out, if_pos r2]; exact Lib.hid rfl
     have b2 : (zj t.k == 2) = true := by simpa using r2
     clear HF2 r0 r1 r2 hr
     by_cases l1 : zx t.ar.length u.ar.length = 0
     · have bl : (zx (t.ar.length : Int) (u.ar.length : Int) != 0) = false := by simpa using l1
       have HF4 : Hid (zW t u = orI (ya t.s u.s) (cmpL t.ar u.ar)) := by rw [HF3.out]; unfold orI; rw [if_neg (by simpa using l1)]; exact Lib.hid rfl
       have LL : Hid (t.ar.length = u.ar.length) := by have := qeO l1; exact Lib.hid (by omega)
       clear l1 HF3
       by_cases s1 : ya t.s u.s = 0
       · have bs : (ya t.s u.s != 0) = false := by simpa using s1
         have HF5 : Hid (zW t u = cmpL t.ar u.ar) := by rw [HF4.out]; unfold orI; rw [if_neg (by simpa using s1)]; exact Lib.hid rfl
         clear s1 HF4
         go_enter Tryz.func121, Tryz.ntmps121
         go_wp2_with fail
         go_quiet ((first | (go_at_call 134; exact qdc (qeD _ _)) | (go_at_call 120; exact qdc (qd1 _ _ _))))
         go_wp2_with fail
         refine (qeD _ _).mono ?_
         rintro e w1 ⟨rfl, rfl⟩
         go_wp2_with fail
         refine (qd1 _ _ _).mono ?_
         rintro e w1 ⟨rfl, rfl⟩
         go_wp2_with fail
         refine (qjJ _ _ _).mono ?_
         rintro e w1 ⟨rfl, rfl⟩
         go_wp2_with fail
         refine ((zd HL) t.ar u.ar _ _ _ hn LL.out (HS.out.ext ((((Ext.rfl' w).al _).al _).drN _)) (HY.out.ext ((((Ext.rfl' w).al _).al _).drN _))).mono ?_
         rintro e w1 ⟨v, rfl, hv, he⟩
         obtain rfl : v = _ := hv
         go_wp2
         go_ret
         rw [HF5.out]
         exact Ret.mk rfl (((((Ext.rfl' w).al _).al _).drN _).tr he)
       · have bs : (ya t.s u.s != 0) = true := by simpa using s1
         have HF5 : Hid (zW t u = ya t.s u.s) := by rw [HF4.out]; unfold orI; rw [if_pos s1]; exact Lib.hid rfl
         clear s1 HF4
         go_enter Tryz.func121, Tryz.ntmps121
         go_wp2_with fail
         go_quiet ((first | (go_at_call 134; exact qdc (qeD _ _)) | (go_at_call 120; exact qdc (qd1 _ _ _))))
         go_wp2_with fail
         refine (qeD _ _).mono ?_
         rintro e w1 ⟨rfl, rfl⟩
         go_wp2_with fail
         refine (qd1 _ _ _).mono ?_
         rintro e w1 ⟨rfl, rfl⟩
         go_wp2_with fail
         refine (qjJ _ _ _).mono ?_
         rintro e w1 ⟨rfl, rfl⟩
         go_wp2
         go_ret
         rw [HF5.out]
         exact Ret.mk rfl ((((Ext.rfl' w).al _).al _).drN _)
     · have bl : (zx (t.ar.length : Int) (u.ar.length : Int) != 0) = true := by simpa using l1
       have HF4 : Hid (zW t u = zx t.ar.length u.ar.length) := by rw [HF3.out]; unfold orI; rw [if_pos l1]; exact Lib.hid rfl
       clear l1 HF3
       go_enter Tryz.func121, Tryz.ntmps121
       go_wp2_with fail
       go_quiet ((first | (go_at_call 134; exact qdc (qeD _ _)) | (go_at_call 120; exact qdc (qd1 _ _ _))))
       go_wp2_with fail
       refine (qeD _ _).mono ?_
       rintro e w1 ⟨rfl, rfl⟩
       go_wp2_with fail
       refine (qd1 _ _ _).mono ?_
       rintro e w1 ⟨rfl, rfl⟩
       go_wp2
       go_ret
       rw [HF4.out]
       exact Ret.mk rfl ((((Ext.rfl' w).al _).al _).drN _)
   have HF3 : Hid (zW t u = orL [zx t.k u.k, zx t.i u.i, ya t.s u.s]) := by
    rw [HF2.out, if_neg r2]; unfold orI orL orL orL orL
    refine Lib.hid ?_
    split <;> (try rfl)
    split <;> (try rfl)
    split <;> simp_all
   have b2 : (zj t.k == 2) = false := by simpa using r2
   clear HF2 r0 r1 r2 hr
   go_enter Tryz.func121, Tryz.ntmps121
   go_wp2_with fail
   go_quiet ((first | (go_at_call 134; exact qdc (qeD _ _)) | (go_at_call 120; exact qdc (qd1 _ _ _))))
   go_wp2_with fail
   refine (qeD _ _).mono ?_
   rintro e w1 ⟨rfl, rfl⟩
   go_wp2_with fail
   have hB := qeM w #[.int .i64 t.k, .int .i64 t.i, .string t.s, .slice B t.ar.length d] #[.int .i64 u.k, .int .i64 u.i, .string u.s, .slice D u.ar.length d2] 47 47 nq
   generalize ((w.alloc (.cells #[.int .i64 t.k, .int .i64 t.i, .string t.s, .slice B t.ar.length d] 47)).alloc (.cells #[.int .i64 u.k, .int .i64 u.i, .string u.s, .slice D u.ar.length d2] 47)).drewN nq = y at hB ⊢
   obtain ⟨hEy, hB1, hB2⟩ := hB
   have k0 : y.cell? ⟨w.heap.size, 0, none⟩ = some (.int .i64 t.k) := hB1 0
   have k1 : y.cell? ⟨w.heap.size, 1, none⟩ = some (.int .i64 t.i) := hB1 1
   have k2 : y.cell? ⟨w.heap.size, 2, none⟩ = some (.string t.s) := hB1 2
   have m0 : y.cell? ⟨w.heap.size + 1, 0, none⟩ = some (.int .i64 u.k) := hB2 0
   have m1 : y.cell? ⟨w.heap.size + 1, 1, none⟩ = some (.int .i64 u.i) := hB2 1
   have m2 : y.cell? ⟨w.heap.size + 1, 2, none⟩ = some (.string u.s) := hB2 2
   clear hB1 hB2
   refine qbt [(0, true), (1, true), (2, true), (3, true), (5, true), (6, true), (7, true), (8, true), (10, true), (11, true), (12, true), (13, true), (4, false), (9, false), (14, false), (15, false), (16, false), (17, true)] (by kernel_rfl) (by kernel_rfl) (Ext y) (Ext.rfl' y).dr ?_
   iterate 12 (refine sQ rfl rfl ?_ ?_ ?_; rotate_left; (· (intro w' hw'; have zk0 := hw'.cellOf k0; have zk1 := hw'.cellOf k1; have zk2 := hw'.cellOf k2; have zm0 := hw'.cellOf m0; have zm1 := hw'.cellOf m1; have zm2 := hw'.cellOf m2; go_simp; try with_reducible rfl)); try simp only [Act.put, List.setIfInBounds_toArray, List.set_cons_succ, List.set_cons_zero])
   refine sL rfl rfl ?_
   go_wp2_with fail
   refine (qd1 _ _ _).mono ?_
   rintro e w1 ⟨rfl, rfl⟩
   go_wp2_with fail
   refine SQ.mk ((Ext.rfl' y).dr) ?_
   refine sL rfl rfl ?_
   go_wp2_with fail
   refine (qd1 _ _ _).mono ?_
   rintro e w1 ⟨rfl, rfl⟩
   go_wp2_with fail
   refine SQ.mk ((Ext.rfl' y).dr) ?_
   refine sL rfl rfl ?_
   go_wp2_with fail
   refine (qjJ _ _ _).mono ?_
   rintro e w1 ⟨rfl, rfl⟩
   go_wp2_with fail
   refine SQ.mk ((Ext.rfl' y).dr) ?_
   refine sL rfl rfl ?_
   go_wp2_with fail
   go_wp2_with fail
   refine SQ.mk ((Ext.rfl' y).dr.al _) ?_
   refine sL rfl rfl ?_
   go_wp2_with fail
   refine (qrW _ 3 _ [zx t.k u.k, zx t.i u.i, ya t.s u.s] _ rfl ((Rd.newAt y _ #[.int .i64 (zx t.k u.k), .int .i64 (zx t.i u.i), .int .i64 (ya t.s u.s)] _ rfl).ext (Ext.rfl' _).dr) (by omega)).mono ?_
   rintro e w1 ⟨rfl, rfl⟩
   have hF := ((Ext.rfl' y).al (.cells #[.int .i64 (zx t.k u.k), .int .i64 (zx t.i u.i), .int .i64 (ya t.s u.s)] 3)).dr
   go_wp2_with fail
   refine SQ.mk hF ?_
   iterate 1 (refine sQ rfl rfl ?_ ?_ ?_; rotate_left; (· (intro w' hw'; have zk0 := hw'.cellOf k0; have zk1 := hw'.cellOf k1; have zk2 := hw'.cellOf k2; have zm0 := hw'.cellOf m0; have zm1 := hw'.cellOf m1; have zm2 := hw'.cellOf m2; go_simp; try with_reducible rfl)); try simp only [Act.put, List.setIfInBounds_toArray, List.set_cons_succ, List.set_cons_zero])
   refine sE ?_
   go_wp2
   go_ret
   rw [HF3.out]
   exact Ret.mk rfl (hEy.tr hF)
 · have HF1 : Hid (zW t u = zx (zj t.k) (zj u.k)) := by rw [HF.out]; unfold orI; rw [if_pos h1]; exact Lib.hid rfl
   have hb : (zx (zj t.k) (zj u.k) != 0) = true := by simpa using h1
   clear h1
   go_enter Tryz.func121, Tryz.ntmps121
   go_wp2_with fail
   go_quiet ((first | (go_at_call 134; exact qdc (qeD _ _)) | (go_at_call 120; exact qdc (qd1 _ _ _))))
   go_wp2_with fail
   go_wp2
   go_ret
   rw [HF1.out]
   exact Ret.mk rfl ((((Ext.rfl' w).al _).al _).drN _)
def zby (W : World) (ts us : List T) (v9 : Value) (wr : World) : Prop :=
 ∃ k : Nat, v9 = .int .i64 (k : Int) ∧ k ≤ ts.length ∧ Hid (cmpL ts us = cmpL (ts.drop k) (us.drop k)) ∧ Ext W wr
set_option maxRecDepth 100000 in
set_option maxHeartbeats 1600000 in
theorem qlR (n : Nat) (hM : n ≤ 1000000000)
 (HC : Hid (∀ (t u : T) (v x : Value) (w : World), wt t ≤ n → VT w t v → VT w u x → Calls Tryz.prog 121 #[v, x] w (Ret w (Is (.int .i64 (zW t u))))))
 (ts us : List T) (v x : Value) (w : World) (hn : wtL ts ≤ n) (hlen : ts.length = us.length) (hv : SlT w ts v) (hx : SlT w us x) : Calls Tryz.prog 112 #[v, x] w (Ret w (Is (.int .i64 (cmpL ts us)))) := by
 have hv' := hv
 have hx' := hx
 obtain ⟨A, c, xs, rfl, -⟩ := hv
 obtain ⟨B, d, ys, rfl, -⟩ := hx
 have hll : ts.length ≤ 1000000000 := by have := qeH ts; omega
 have hul : ts.length ≤ us.length := by omega
 have HL := Lib.hid hlen
 have HN : Hid (wtL ts ≤ n) := hn
 clear hlen hn
 go_enter Tryz.func112, Tryz.ntmps112
 go_wp2
 go_loopw [5, 6, 9] (fun _ _ v9 wr => zby w ts us v9 wr) (fun _ _ v9 _ => ts.length - (intOf v9).toNat)
 case atStart => exact ⟨0, rfl, by omega, Lib.hid rfl, Ext.rfl' w⟩
 case round =>
  obtain ⟨k, rfl, hk, hi, he⟩ := hrel
  by_cases hlt : k < ts.length
  · obtain ⟨t, ht⟩ : ∃ t, ts[k]? = some t := ⟨ts[k], List.getElem?_eq_getElem hlt⟩
    obtain ⟨u, hu⟩ : ∃ u, us[k]? = some u := ⟨us[k]'(by omega), List.getElem?_eq_getElem (by omega)⟩
    have hlu : k < us.length := by omega
    obtain ⟨b, o, sl, rfl, c0, c1, c2, c3, -, hvt⟩ := (hv'.ext he).at_ ht
    obtain ⟨b2, o2, sx, rfl, m0, m1, m2, m3, -, hvu⟩ := (hx'.ext he).at_ hu
    rw [qmo ht hu] at hi
    have HW : Hid (wt t ≤ n) := by have := qen (List.mem_of_getElem? ht); have := HN.out; exact Lib.hid (by omega)
    clear ht hu
    go_wp2_with fail
    refine qbt [(0, true), (1, true), (2, true), (3, true), (4, true), (5, true), (6, true), (7, true), (8, false), (9, true)] (by kernel_rfl) (by kernel_rfl) (Ext wr) (Ext.rfl' wr).dr ?_
    iterate 8 (refine sQ rfl rfl ?_ ?_ ?_; rotate_left; (· (intro w' hw'; have zc0 := hw'.cellOf c0; have zc1 := hw'.cellOf c1; have zc2 := hw'.cellOf c2; have zc3 := hw'.cellOf c3; have zm0 := hw'.cellOf m0; have zm1 := hw'.cellOf m1; have zm2 := hw'.cellOf m2; have zm3 := hw'.cellOf m3; go_simp; try with_reducible rfl)); try simp only [Act.put, List.setIfInBounds_toArray, List.set_cons_succ, List.set_cons_zero])
    refine sL rfl rfl ?_
    go_wp2_with fail
    refine ((zd HC) t u _ _ _ HW.out (hvt.ext (Ext.rfl' wr).dr) (hvu.ext (Ext.rfl' wr).dr)).mono ?_
    rintro e w2 ⟨v, rfl, hv2, he2⟩
    obtain rfl : v = _ := hv2
    have hE2 : Ext wr w2 := (Ext.rfl' wr).dr.tr he2
    go_wp2_with fail
    refine SQ.mk hE2 ?_
    iterate 1 (refine sQ rfl rfl ?_ ?_ ?_; rotate_left; (· (intro w' hw'; have zc0 := hw'.cellOf c0; have zc1 := hw'.cellOf c1; have zc2 := hw'.cellOf c2; have zc3 := hw'.cellOf c3; have zm0 := hw'.cellOf m0; have zm1 := hw'.cellOf m1; have zm2 := hw'.cellOf m2; have zm3 := hw'.cellOf m3; go_simp; try with_reducible rfl)); try simp only [Act.put, List.setIfInBounds_toArray, List.set_cons_succ, List.set_cons_zero])
    refine sE ?_
    by_cases h0 : zW t u = 0
    · have hb : (zW t u != 0) = false := by simpa using h0
      have HI : Hid (cmpL ts us = cmpL (ts.drop (k + 1)) (us.drop (k + 1))) := by rw [hi.out]; unfold orI; rw [if_neg (by simpa using h0)]; exact Lib.hid rfl
      clear h0
      go_wp2
      go_roundw
      case rel => exact ⟨k + 1, by go_num, by omega, HI, he.tr hE2⟩
      case measure => simp [intOf]; omega
    · have hb : (zW t u != 0) = true := by simpa using h0
      have HI : Hid (cmpL ts us = zW t u) := by rw [hi.out]; unfold orI; rw [if_pos h0]; exact Lib.hid rfl
      clear h0
      go_wp2
      go_ret
      rw [HI.out]
      exact Ret.mk rfl (he.tr hE2)
  · rw [List.drop_eq_nil_of_le (by omega)] at hi
    go_wp2
    go_ret
    rw [hi.out]
    exact Ret.mk (by simp only [cmpL]; rfl) he
theorem qkJ : ∀ (n : Nat), n ≤ 1000000000 → ∀ (t u : T) (v x : Value) (w : World), wt t ≤ n → VT w t v → VT w u x → Calls Tryz.prog 121 #[v, x] w (Ret w (Is (.int .i64 (zW t u))))
 | 0, _, t, _, _, _, _, hn, _, _ => by rw [qeT] at hn; omega
 | n + 1, hM, t, u, v, x, w, hn, hv, hx =>
  qma n (by omega) (Lib.hid fun ts us v u w h1 h2 h3 h4 => qlR n (by omega) (Lib.hid (qkJ n (by omega))) ts us v u w h1 h2 h3 h4) t u v x w (by rw [qeT] at hn; omega) hv hx
theorem qnT (n : Nat) (hM : n ≤ 1000000000) (ts us : List T) (v x : Value) (w : World) (hn : wtL ts ≤ n) (hlen : ts.length = us.length) (hv : SlT w ts v) (hx : SlT w us x) : Calls Tryz.prog 112 #[v, x] w (Ret w (Is (.int .i64 (cmpL ts us)))) :=
 qlR n hM (Lib.hid (qkJ n hM)) ts us v x w hn hlen hv hx
def yq (ts us : List T) : Int := orI (cmpL ts us) (zx ts.length us.length)
theorem qiC {ts us : List T} (h : ts.length = us.length) : yq ts us = cmpL ts us := by
 unfold yq
 rw [h, qmg]
 unfold orI
 split
 · rfl
 · rename_i h0; simpa using (by simpa using h0 : cmpL ts us = 0).symm
theorem qqM : ∀ ts : List T, cmpL ts [] = 0
 | [] => by simp only [cmpL]
 | t :: ts => by simp only [cmpL]
set_option maxRecDepth 100000 in
set_option maxHeartbeats 3200000 in
theorem qkx (n : Nat)
 (HL : Hid (∀ (ts us : List T) (v u : Value) (w : World), wtL ts ≤ n → SlT w ts v → SlT w us u → Calls Tryz.prog 69 #[v, u] w (Ret w (Is (.int .i64 (yq ts us))))))
 (t u : T) (v x : Value) (w : World) (hn : wtL t.ar ≤ n) (hv : VT w t v) (hx : VT w u x) : Calls Tryz.prog 83 #[v, x] w (Ret w (Is (.int .i64 (zW t u)))) := by
 have HF := Lib.hid (qhQ t u)
 have hv0 := hv
 have hx0 := hx
 obtain ⟨sl, rfl, hs, -⟩ := hv.open_
 obtain ⟨sx, rfl, hy, -⟩ := hx.open_
 obtain ⟨B, d, xs, rfl, hs'⟩ := hs
 obtain ⟨D, d2, ys, rfl, hy'⟩ := hy
 have HS : Hid (SlT w t.ar (.slice B t.ar.length d)) := ⟨B, d, xs, rfl, hs'⟩
 have HY : Hid (SlT w u.ar (.slice D u.ar.length d2)) := ⟨D, d2, ys, rfl, hy'⟩
 have HV0 := Lib.hid hv0
 have HX0 := Lib.hid hx0
 clear hv hx hv0 hx0 hs' hy'
 by_cases h1 : zx (zj t.k) (zj u.k) = 0
 · have hb : (zx (zj t.k) (zj u.k) != 0) = false := by simpa using h1
   have HF1 : Hid (zW t u = if zj t.k = 0 ∨ zj t.k = 1 then zx t.i u.i
    else if zj t.k = 2 then orI (zx t.ar.length u.ar.length) (orI (ya t.s u.s) (cmpL t.ar u.ar))
    else orI (zx t.k u.k) (orI (zx t.i u.i) (ya t.s u.s))) := by rw [HF.out]; unfold orI; rw [if_neg (by simpa using h1)]; exact Lib.hid rfl
   have hr := qol t.k
   clear h1 HF
   by_cases r0 : zj t.k = 0
   · have HF2 : Hid (zW t u = zx t.i u.i) := by rw [HF1.out, if_pos (.inl r0)]; exact Lib.hid rfl
     have b0 : (zj t.k == 0) = true := by simpa using r0
     clear r0 hr HF1
     go_enter Tryz.func83, Tryz.ntmps83
     go_wp2_with fail
     have hB := qeM w #[.int .i64 t.k, .int .i64 t.i, .string t.s, .slice B t.ar.length d] #[.int .i64 u.k, .int .i64 u.i, .string u.s, .slice D u.ar.length d2] 47 47 0
     rw [World.drewN_zero] at hB
     generalize ((w.alloc (.cells #[.int .i64 t.k, .int .i64 t.i, .string t.s, .slice B t.ar.length d] 47)).alloc (.cells #[.int .i64 u.k, .int .i64 u.i, .string u.s, .slice D u.ar.length d2] 47)) = y at hB ⊢
     obtain ⟨hEy, hB1, hB2⟩ := hB
     have HV : Hid (VT y t _) := HV0.out.ext hEy
     have HX : Hid (VT y u _) := HX0.out.ext hEy
     have k0 : y.cell? ⟨w.heap.size, 0, none⟩ = some (.int .i64 t.k) := hB1 0
     have k1 : y.cell? ⟨w.heap.size, 1, none⟩ = some (.int .i64 t.i) := hB1 1
     have k2 : y.cell? ⟨w.heap.size, 2, none⟩ = some (.string t.s) := hB1 2
     have k3 : y.cell? ⟨w.heap.size, 3, none⟩ = some (.slice B t.ar.length d) := hB1 3
     have m0 : y.cell? ⟨w.heap.size + 1, 0, none⟩ = some (.int .i64 u.k) := hB2 0
     have m1 : y.cell? ⟨w.heap.size + 1, 1, none⟩ = some (.int .i64 u.i) := hB2 1
     have m2 : y.cell? ⟨w.heap.size + 1, 2, none⟩ = some (.string u.s) := hB2 2
     have m3 : y.cell? ⟨w.heap.size + 1, 3, none⟩ = some (.slice D u.ar.length d2) := hB2 3
     clear hB1 hB2
     refine qbt [(0, true), (2, true), (1, false), (3, false), (4, false), (5, true)] (by kernel_rfl) (by kernel_rfl) (Ext y) (Ext.rfl' y).dr ?_
     iterate 2 (refine sQ rfl rfl ?_ ?_ ?_; rotate_left; (· (intro w' hw'; have zk0 := hw'.cellOf k0; have zk1 := hw'.cellOf k1; have zk2 := hw'.cellOf k2; have zk3 := hw'.cellOf k3; have zm0 := hw'.cellOf m0; have zm1 := hw'.cellOf m1; have zm2 := hw'.cellOf m2; have zm3 := hw'.cellOf m3; go_simp; try with_reducible rfl)); try simp only [Act.put, List.setIfInBounds_toArray, List.set_cons_succ, List.set_cons_zero])
     refine sL rfl rfl ?_
     go_wp2_with fail
     refine (qb4 t _ _ (HV.out.ext (Ext.rfl' y).dr)).mono ?_
     rintro e w1 ⟨v, rfl, hv1, he1⟩
     obtain rfl : v = _ := hv1
     have hC1 : Ext y w1 := (Ext.rfl' y).dr.tr he1
     go_wp2_with fail
     refine SQ.mk hC1 ?_
     refine sL rfl rfl ?_
     go_wp2_with fail
     refine (qb4 u _ _ (HX.out.ext hC1)).mono ?_
     rintro e w2 ⟨v, rfl, hv2, he2⟩
     obtain rfl : v = _ := hv2
     have hC2 : Ext y w2 := hC1.tr he2
     go_wp2_with fail
     refine SQ.mk hC2 ?_
     refine sL rfl rfl ?_
     go_wp2_with fail
     refine (qcU _ _ _).mono ?_
     rintro e w1 ⟨rfl, rfl⟩
     go_wp2_with fail
     refine SQ.mk hC2 ?_
     iterate 1 (refine sQ rfl rfl ?_ ?_ ?_; rotate_left; (· (intro w' hw'; have zk0 := hw'.cellOf k0; have zk1 := hw'.cellOf k1; have zk2 := hw'.cellOf k2; have zk3 := hw'.cellOf k3; have zm0 := hw'.cellOf m0; have zm1 := hw'.cellOf m1; have zm2 := hw'.cellOf m2; have zm3 := hw'.cellOf m3; go_simp; try with_reducible rfl)); try simp only [Act.put, List.setIfInBounds_toArray, List.set_cons_succ, List.set_cons_zero])
     refine sE ?_
     have z0 := hC2.cellOf k0
     have z1 := hC2.cellOf k1
     have z2 := hC2.cellOf k2
     have z3 := hC2.cellOf k3
     go_wp2_with fail
     refine (qb4 t _ _ (HV.out.ext hC2)).mono ?_
     rintro e w3 ⟨v, rfl, hv3, he3⟩
     obtain rfl : v = _ := hv3
     have hC3 : Ext y w3 := hC2.tr he3
     clear z0 z1 z2 z3
     have z0 := hC3.cellOf k0
     have z1 := hC3.cellOf k1
     have z2 := hC3.cellOf k2
     have z3 := hC3.cellOf k3
     have x0 := hC3.cellOf m0
     have x1 := hC3.cellOf m1
     have x2 := hC3.cellOf m2
     have x3 := hC3.cellOf m3
     go_wp2_with fail
     refine (qcU _ _ _).mono ?_
     rintro e w1 ⟨rfl, rfl⟩
     go_wp2
     go_ret
     rw [HF2.out]
     exact Ret.mk rfl (hEy.tr hC3)
   by_cases r1 : zj t.k = 1
   · have HF2 : Hid (zW t u = zx t.i u.i) := by rw [HF1.out, if_pos (.inr r1)]; exact Lib.hid rfl
     have b0 : (zj t.k == 0) = false := by simpa using r0
     have b1 : (zj t.k == 1) = true := by simpa using r1
     clear r0 r1 hr HF1
     go_enter Tryz.func83, Tryz.ntmps83
     go_wp2_with fail
     have hB := qeM w #[.int .i64 t.k, .int .i64 t.i, .string t.s, .slice B t.ar.length d] #[.int .i64 u.k, .int .i64 u.i, .string u.s, .slice D u.ar.length d2] 47 47 0
     rw [World.drewN_zero] at hB
     generalize ((w.alloc (.cells #[.int .i64 t.k, .int .i64 t.i, .string t.s, .slice B t.ar.length d] 47)).alloc (.cells #[.int .i64 u.k, .int .i64 u.i, .string u.s, .slice D u.ar.length d2] 47)) = y at hB ⊢
     obtain ⟨hEy, hB1, hB2⟩ := hB
     have HV : Hid (VT y t _) := HV0.out.ext hEy
     have HX : Hid (VT y u _) := HX0.out.ext hEy
     have k0 : y.cell? ⟨w.heap.size, 0, none⟩ = some (.int .i64 t.k) := hB1 0
     have k1 : y.cell? ⟨w.heap.size, 1, none⟩ = some (.int .i64 t.i) := hB1 1
     have k2 : y.cell? ⟨w.heap.size, 2, none⟩ = some (.string t.s) := hB1 2
     have k3 : y.cell? ⟨w.heap.size, 3, none⟩ = some (.slice B t.ar.length d) := hB1 3
     have m0 : y.cell? ⟨w.heap.size + 1, 0, none⟩ = some (.int .i64 u.k) := hB2 0
     have m1 : y.cell? ⟨w.heap.size + 1, 1, none⟩ = some (.int .i64 u.i) := hB2 1
     have m2 : y.cell? ⟨w.heap.size + 1, 2, none⟩ = some (.string u.s) := hB2 2
     have m3 : y.cell? ⟨w.heap.size + 1, 3, none⟩ = some (.slice D u.ar.length d2) := hB2 3
     clear hB1 hB2
     refine qbt [(0, true), (2, true), (1, false), (3, false), (4, false), (5, true)] (by kernel_rfl) (by kernel_rfl) (Ext y) (Ext.rfl' y).dr ?_
     iterate 2 (refine sQ rfl rfl ?_ ?_ ?_; rotate_left; (· (intro w' hw'; have zk0 := hw'.cellOf k0; have zk1 := hw'.cellOf k1; have zk2 := hw'.cellOf k2; have zk3 := hw'.cellOf k3; have zm0 := hw'.cellOf m0; have zm1 := hw'.cellOf m1; have zm2 := hw'.cellOf m2; have zm3 := hw'.cellOf m3; go_simp; try with_reducible rfl)); try simp only [Act.put, List.setIfInBounds_toArray, List.set_cons_succ, List.set_cons_zero])
     refine sL rfl rfl ?_
     go_wp2_with fail
     refine (qb4 t _ _ (HV.out.ext (Ext.rfl' y).dr)).mono ?_
     rintro e w1 ⟨v, rfl, hv1, he1⟩
     obtain rfl : v = _ := hv1
     have hC1 : Ext y w1 := (Ext.rfl' y).dr.tr he1
     go_wp2_with fail
     refine SQ.mk hC1 ?_
     refine sL rfl rfl ?_
     go_wp2_with fail
     refine (qb4 u _ _ (HX.out.ext hC1)).mono ?_
     rintro e w2 ⟨v, rfl, hv2, he2⟩
     obtain rfl : v = _ := hv2
     have hC2 : Ext y w2 := hC1.tr he2
     go_wp2_with fail
     refine SQ.mk hC2 ?_
     refine sL rfl rfl ?_
     go_wp2_with fail
     refine (qcU _ _ _).mono ?_
     rintro e w1 ⟨rfl, rfl⟩
     go_wp2_with fail
     refine SQ.mk hC2 ?_
     iterate 1 (refine sQ rfl rfl ?_ ?_ ?_; rotate_left; (· (intro w' hw'; have zk0 := hw'.cellOf k0; have zk1 := hw'.cellOf k1; have zk2 := hw'.cellOf k2; have zk3 := hw'.cellOf k3; have zm0 := hw'.cellOf m0; have zm1 := hw'.cellOf m1; have zm2 := hw'.cellOf m2; have zm3 := hw'.cellOf m3; go_simp; try with_reducible rfl)); try simp only [Act.put, List.setIfInBounds_toArray, List.set_cons_succ, List.set_cons_zero])
     refine sE ?_
     have z0 := hC2.cellOf k0
     have z1 := hC2.cellOf k1
     have z2 := hC2.cellOf k2
     have z3 := hC2.cellOf k3
     go_wp2_with fail
     refine (qb4 t _ _ (HV.out.ext hC2)).mono ?_
     rintro e w3 ⟨v, rfl, hv3, he3⟩
     obtain rfl : v = _ := hv3
     have hC3 : Ext y w3 := hC2.tr he3
     clear z0 z1 z2 z3
     have z0 := hC3.cellOf k0
     have z1 := hC3.cellOf k1
     have z2 := hC3.cellOf k2
     have z3 := hC3.cellOf k3
     have x0 := hC3.cellOf m0
     have x1 := hC3.cellOf m1
     have x2 := hC3.cellOf m2
     have x3 := hC3.cellOf m3
     go_wp2_with fail
     refine (qcU _ _ _).mono ?_
     rintro e w1 ⟨rfl, rfl⟩
     go_wp2
     go_ret
     rw [HF2.out]
     exact Ret.mk rfl (hEy.tr hC3)
   have HF2 : Hid (zW t u = if zj t.k = 2 then orI (zx t.ar.length u.ar.length) (orI (ya t.s u.s) (cmpL t.ar u.ar)) else orI (zx t.k u.k) (orI (zx t.i u.i) (ya t.s u.s))) := by
    rw [HF1.out, if_neg (by omega)]; exact Lib.hid rfl
   have b0 : (zj t.k == 0) = false := by simpa using r0
   have b1 : (zj t.k == 1) = false := by simpa using r1
   clear HF1
   by_cases r2 : zj t.k = 2
   · have HF3 : Hid (zW t u = orI (zx t.ar.length u.ar.length) (orI (ya t.s u.s) (cmpL t.ar u.ar))) := by rw [HF2.out, if_pos r2]; exact Lib.hid rfl
     have b2 : (zj t.k == 2) = true := by simpa using r2
     clear HF2 r0 r1 r2 hr
     by_cases l1 : zx t.ar.length u.ar.length = 0
     · have bl : (zx (t.ar.length : Int) (u.ar.length : Int) == 0) = true := by simpa using l1
       have HF4 : Hid (zW t u = orI (ya t.s u.s) (cmpL t.ar u.ar)) := by rw [HF3.out]; unfold orI; rw [if_neg (by simpa using l1)]; exact Lib.hid rfl
       have LL : Hid (t.ar.length = u.ar.length) := by have := qeO l1; exact Lib.hid (by omega)
       clear l1 HF3
       by_cases s1 : ya t.s u.s = 0
       · have bs : (ya t.s u.s == 0) = true := by simpa using s1
         have HF5 : Hid (zW t u = cmpL t.ar u.ar) := by rw [HF4.out]; unfold orI; rw [if_neg (by simpa using s1)]; exact Lib.hid rfl
         clear s1 HF4
         go_enter Tryz.func83, Tryz.ntmps83
         go_wp2_with fail
         have hB := qeM w #[.int .i64 t.k, .int .i64 t.i, .string t.s, .slice B t.ar.length d] #[.int .i64 u.k, .int .i64 u.i, .string u.s, .slice D u.ar.length d2] 47 47 0
         rw [World.drewN_zero] at hB
         generalize ((w.alloc (.cells #[.int .i64 t.k, .int .i64 t.i, .string t.s, .slice B t.ar.length d] 47)).alloc (.cells #[.int .i64 u.k, .int .i64 u.i, .string u.s, .slice D u.ar.length d2] 47)) = y at hB ⊢
         obtain ⟨hEy, hB1, hB2⟩ := hB
         have HV : Hid (VT y t _) := HV0.out.ext hEy
         have HX : Hid (VT y u _) := HX0.out.ext hEy
         have k0 : y.cell? ⟨w.heap.size, 0, none⟩ = some (.int .i64 t.k) := hB1 0
         have k1 : y.cell? ⟨w.heap.size, 1, none⟩ = some (.int .i64 t.i) := hB1 1
         have k2 : y.cell? ⟨w.heap.size, 2, none⟩ = some (.string t.s) := hB1 2
         have k3 : y.cell? ⟨w.heap.size, 3, none⟩ = some (.slice B t.ar.length d) := hB1 3
         have m0 : y.cell? ⟨w.heap.size + 1, 0, none⟩ = some (.int .i64 u.k) := hB2 0
         have m1 : y.cell? ⟨w.heap.size + 1, 1, none⟩ = some (.int .i64 u.i) := hB2 1
         have m2 : y.cell? ⟨w.heap.size + 1, 2, none⟩ = some (.string u.s) := hB2 2
         have m3 : y.cell? ⟨w.heap.size + 1, 3, none⟩ = some (.slice D u.ar.length d2) := hB2 3
         clear hB1 hB2
         refine qbt [(0, true), (2, true), (1, false), (3, false), (4, false), (5, true)] (by kernel_rfl) (by kernel_rfl) (Ext y) (Ext.rfl' y).dr ?_
         iterate 2 (refine sQ rfl rfl ?_ ?_ ?_; rotate_left; (· (intro w' hw'; have zk0 := hw'.cellOf k0; have zk1 := hw'.cellOf k1; have zk2 := hw'.cellOf k2; have zk3 := hw'.cellOf k3; have zm0 := hw'.cellOf m0; have zm1 := hw'.cellOf m1; have zm2 := hw'.cellOf m2; have zm3 := hw'.cellOf m3; go_simp; try with_reducible rfl)); try simp only [Act.put, List.setIfInBounds_toArray, List.set_cons_succ, List.set_cons_zero])
         refine sL rfl rfl ?_
         go_wp2_with fail
         refine (qb4 t _ _ (HV.out.ext (Ext.rfl' y).dr)).mono ?_
         rintro e w1 ⟨v, rfl, hv1, he1⟩
         obtain rfl : v = _ := hv1
         have hC1 : Ext y w1 := (Ext.rfl' y).dr.tr he1
         go_wp2_with fail
         refine SQ.mk hC1 ?_
         refine sL rfl rfl ?_
         go_wp2_with fail
         refine (qb4 u _ _ (HX.out.ext hC1)).mono ?_
         rintro e w2 ⟨v, rfl, hv2, he2⟩
         obtain rfl : v = _ := hv2
         have hC2 : Ext y w2 := hC1.tr he2
         go_wp2_with fail
         refine SQ.mk hC2 ?_
         refine sL rfl rfl ?_
         go_wp2_with fail
         refine (qcU _ _ _).mono ?_
         rintro e w1 ⟨rfl, rfl⟩
         go_wp2_with fail
         refine SQ.mk hC2 ?_
         iterate 1 (refine sQ rfl rfl ?_ ?_ ?_; rotate_left; (· (intro w' hw'; have zk0 := hw'.cellOf k0; have zk1 := hw'.cellOf k1; have zk2 := hw'.cellOf k2; have zk3 := hw'.cellOf k3; have zm0 := hw'.cellOf m0; have zm1 := hw'.cellOf m1; have zm2 := hw'.cellOf m2; have zm3 := hw'.cellOf m3; go_simp; try with_reducible rfl)); try simp only [Act.put, List.setIfInBounds_toArray, List.set_cons_succ, List.set_cons_zero])
         refine sE ?_
         have z0 := hC2.cellOf k0
         have z1 := hC2.cellOf k1
         have z2 := hC2.cellOf k2
         have z3 := hC2.cellOf k3
         go_wp2_with fail
         refine (qb4 t _ _ (HV.out.ext hC2)).mono ?_
         rintro e w3 ⟨v, rfl, hv3, he3⟩
         obtain rfl : v = _ := hv3
         have hC3 : Ext y w3 := hC2.tr he3
         clear z0 z1 z2 z3
         have z0 := hC3.cellOf k0
         have z1 := hC3.cellOf k1
         have z2 := hC3.cellOf k2
         have z3 := hC3.cellOf k3
         have x0 := hC3.cellOf m0
         have x1 := hC3.cellOf m1
         have x2 := hC3.cellOf m2
         have x3 := hC3.cellOf m3
         go_wp2_with fail
         refine (qcU _ _ _).mono ?_
         rintro e w1 ⟨rfl, rfl⟩
         go_wp2_with fail
         refine (qgR _ _ _).mono ?_
         rintro e w1 ⟨rfl, rfl⟩
         go_wp2_with fail
         refine ((zd HL) t.ar u.ar _ _ _ hn (HS.out.ext (hEy.tr hC3)) (HY.out.ext (hEy.tr hC3))).mono ?_
         rintro e w4 ⟨v, rfl, hv4, he4⟩
         obtain rfl : v = _ := hv4
         go_wp2
         go_ret
         rw [HF5.out, ← qiC LL.out]
         exact Ret.mk rfl ((hEy.tr hC3).tr he4)
       · have bs : (ya t.s u.s == 0) = false := by simpa using s1
         have HF5 : Hid (zW t u = ya t.s u.s) := by rw [HF4.out]; unfold orI; rw [if_pos s1]; exact Lib.hid rfl
         clear s1 HF4
         go_enter Tryz.func83, Tryz.ntmps83
         go_wp2_with fail
         have hB := qeM w #[.int .i64 t.k, .int .i64 t.i, .string t.s, .slice B t.ar.length d] #[.int .i64 u.k, .int .i64 u.i, .string u.s, .slice D u.ar.length d2] 47 47 0
         rw [World.drewN_zero] at hB
         generalize ((w.alloc (.cells #[.int .i64 t.k, .int .i64 t.i, .string t.s, .slice B t.ar.length d] 47)).alloc (.cells #[.int .i64 u.k, .int .i64 u.i, .string u.s, .slice D u.ar.length d2] 47)) = y at hB ⊢
         obtain ⟨hEy, hB1, hB2⟩ := hB
         have HV : Hid (VT y t _) := HV0.out.ext hEy
         have HX : Hid (VT y u _) := HX0.out.ext hEy
         have k0 : y.cell? ⟨w.heap.size, 0, none⟩ = some (.int .i64 t.k) := hB1 0
         have k1 : y.cell? ⟨w.heap.size, 1, none⟩ = some (.int .i64 t.i) := hB1 1
         have k2 : y.cell? ⟨w.heap.size, 2, none⟩ = some (.string t.s) := hB1 2
         have k3 : y.cell? ⟨w.heap.size, 3, none⟩ = some (.slice B t.ar.length d) := hB1 3
         have m0 : y.cell? ⟨w.heap.size + 1, 0, none⟩ = some (.int .i64 u.k) := hB2 0
         have m1 : y.cell? ⟨w.heap.size + 1, 1, none⟩ = some (.int .i64 u.i) := hB2 1
         have m2 : y.cell? ⟨w.heap.size + 1, 2, none⟩ = some (.string u.s) := hB2 2
         have m3 : y.cell? ⟨w.heap.size + 1, 3, none⟩ = some (.slice D u.ar.length d2) := hB2 3
         clear hB1 hB2
         refine qbt [(0, true), (2, true), (1, false), (3, false), (4, false), (5, true)] (by kernel_rfl) (by kernel_rfl) (Ext y) (Ext.rfl' y).dr ?_
         iterate 2 (refine sQ rfl rfl ?_ ?_ ?_; rotate_left; (· (intro w' hw'; have zk0 := hw'.cellOf k0; have zk1 := hw'.cellOf k1; have zk2 := hw'.cellOf k2; have zk3 := hw'.cellOf k3; have zm0 := hw'.cellOf m0; have zm1 := hw'.cellOf m1; have zm2 := hw'.cellOf m2; have zm3 := hw'.cellOf m3; go_simp; try with_reducible rfl)); try simp only [Act.put, List.setIfInBounds_toArray, List.set_cons_succ, List.set_cons_zero])
         refine sL rfl rfl ?_
         go_wp2_with fail
         refine (qb4 t _ _ (HV.out.ext (Ext.rfl' y).dr)).mono ?_
         rintro e w1 ⟨v, rfl, hv1, he1⟩
         obtain rfl : v = _ := hv1
         have hC1 : Ext y w1 := (Ext.rfl' y).dr.tr he1
         go_wp2_with fail
         refine SQ.mk hC1 ?_
         refine sL rfl rfl ?_
         go_wp2_with fail
         refine (qb4 u _ _ (HX.out.ext hC1)).mono ?_
         rintro e w2 ⟨v, rfl, hv2, he2⟩
         obtain rfl : v = _ := hv2
         have hC2 : Ext y w2 := hC1.tr he2
         go_wp2_with fail
         refine SQ.mk hC2 ?_
         refine sL rfl rfl ?_
         go_wp2_with fail
         refine (qcU _ _ _).mono ?_
         rintro e w1 ⟨rfl, rfl⟩
         go_wp2_with fail
         refine SQ.mk hC2 ?_
         iterate 1 (refine sQ rfl rfl ?_ ?_ ?_; rotate_left; (· (intro w' hw'; have zk0 := hw'.cellOf k0; have zk1 := hw'.cellOf k1; have zk2 := hw'.cellOf k2; have zk3 := hw'.cellOf k3; have zm0 := hw'.cellOf m0; have zm1 := hw'.cellOf m1; have zm2 := hw'.cellOf m2; have zm3 := hw'.cellOf m3; go_simp; try with_reducible rfl)); try simp only [Act.put, List.setIfInBounds_toArray, List.set_cons_succ, List.set_cons_zero])
         refine sE ?_
         have z0 := hC2.cellOf k0
         have z1 := hC2.cellOf k1
         have z2 := hC2.cellOf k2
         have z3 := hC2.cellOf k3
         go_wp2_with fail
         refine (qb4 t _ _ (HV.out.ext hC2)).mono ?_
         rintro e w3 ⟨v, rfl, hv3, he3⟩
         obtain rfl : v = _ := hv3
         have hC3 : Ext y w3 := hC2.tr he3
         clear z0 z1 z2 z3
         have z0 := hC3.cellOf k0
         have z1 := hC3.cellOf k1
         have z2 := hC3.cellOf k2
         have z3 := hC3.cellOf k3
         have x0 := hC3.cellOf m0
         have x1 := hC3.cellOf m1
         have x2 := hC3.cellOf m2
         have x3 := hC3.cellOf m3
         go_wp2_with fail
         refine (qcU _ _ _).mono ?_
         rintro e w1 ⟨rfl, rfl⟩
         go_wp2_with fail
         refine (qgR _ _ _).mono ?_
         rintro e w1 ⟨rfl, rfl⟩
         go_wp2
         go_ret
         rw [HF5.out]
         exact Ret.mk rfl (hEy.tr hC3)
     · have bl : (zx (t.ar.length : Int) (u.ar.length : Int) == 0) = false := by simpa using l1
       have HF4 : Hid (zW t u = zx t.ar.length u.ar.length) := by rw [HF3.out]; unfold orI; rw [if_pos l1]; exact Lib.hid rfl
       clear l1 HF3
       go_enter Tryz.func83, Tryz.ntmps83
       go_wp2_with fail
       have hB := qeM w #[.int .i64 t.k, .int .i64 t.i, .string t.s, .slice B t.ar.length d] #[.int .i64 u.k, .int .i64 u.i, .string u.s, .slice D u.ar.length d2] 47 47 0
       rw [World.drewN_zero] at hB
       generalize ((w.alloc (.cells #[.int .i64 t.k, .int .i64 t.i, .string t.s, .slice B t.ar.length d] 47)).alloc (.cells #[.int .i64 u.k, .int .i64 u.i, .string u.s, .slice D u.ar.length d2] 47)) = y at hB ⊢
       obtain ⟨hEy, hB1, hB2⟩ := hB
       have HV : Hid (VT y t _) := HV0.out.ext hEy
       have HX : Hid (VT y u _) := HX0.out.ext hEy
       have k0 : y.cell? ⟨w.heap.size, 0, none⟩ = some (.int .i64 t.k) := hB1 0
       have k1 : y.cell? ⟨w.heap.size, 1, none⟩ = some (.int .i64 t.i) := hB1 1
       have k2 : y.cell? ⟨w.heap.size, 2, none⟩ = some (.string t.s) := hB1 2
       have k3 : y.cell? ⟨w.heap.size, 3, none⟩ = some (.slice B t.ar.length d) := hB1 3
       have m0 : y.cell? ⟨w.heap.size + 1, 0, none⟩ = some (.int .i64 u.k) := hB2 0
       have m1 : y.cell? ⟨w.heap.size + 1, 1, none⟩ = some (.int .i64 u.i) := hB2 1
       have m2 : y.cell? ⟨w.heap.size + 1, 2, none⟩ = some (.string u.s) := hB2 2
       have m3 : y.cell? ⟨w.heap.size + 1, 3, none⟩ = some (.slice D u.ar.length d2) := hB2 3
       clear hB1 hB2
       refine qbt [(0, true), (2, true), (1, false), (3, false), (4, false), (5, true)] (by kernel_rfl) (by kernel_rfl) (Ext y) (Ext.rfl' y).dr ?_
       iterate 2 (refine sQ rfl rfl ?_ ?_ ?_; rotate_left; (· (intro w' hw'; have zk0 := hw'.cellOf k0; have zk1 := hw'.cellOf k1; have zk2 := hw'.cellOf k2; have zk3 := hw'.cellOf k3; have zm0 := hw'.cellOf m0; have zm1 := hw'.cellOf m1; have zm2 := hw'.cellOf m2; have zm3 := hw'.cellOf m3; go_simp; try with_reducible rfl)); try simp only [Act.put, List.setIfInBounds_toArray, List.set_cons_succ, List.set_cons_zero])
       refine sL rfl rfl ?_
       go_wp2_with fail
       refine (qb4 t _ _ (HV.out.ext (Ext.rfl' y).dr)).mono ?_
       rintro e w1 ⟨v, rfl, hv1, he1⟩
       obtain rfl : v = _ := hv1
       have hC1 : Ext y w1 := (Ext.rfl' y).dr.tr he1
       go_wp2_with fail
       refine SQ.mk hC1 ?_
       refine sL rfl rfl ?_
       go_wp2_with fail
       refine (qb4 u _ _ (HX.out.ext hC1)).mono ?_
       rintro e w2 ⟨v, rfl, hv2, he2⟩
       obtain rfl : v = _ := hv2
       have hC2 : Ext y w2 := hC1.tr he2
       go_wp2_with fail
       refine SQ.mk hC2 ?_
       refine sL rfl rfl ?_
       go_wp2_with fail
       refine (qcU _ _ _).mono ?_
       rintro e w1 ⟨rfl, rfl⟩
       go_wp2_with fail
       refine SQ.mk hC2 ?_
       iterate 1 (refine sQ rfl rfl ?_ ?_ ?_; rotate_left; (· (intro w' hw'; have zk0 := hw'.cellOf k0; have zk1 := hw'.cellOf k1; have zk2 := hw'.cellOf k2; have zk3 := hw'.cellOf k3; have zm0 := hw'.cellOf m0; have zm1 := hw'.cellOf m1; have zm2 := hw'.cellOf m2; have zm3 := hw'.cellOf m3; go_simp; try with_reducible rfl)); try simp only [Act.put, List.setIfInBounds_toArray, List.set_cons_succ, List.set_cons_zero])
       refine sE ?_
       have z0 := hC2.cellOf k0
       have z1 := hC2.cellOf k1
       have z2 := hC2.cellOf k2
       have z3 := hC2.cellOf k3
       go_wp2_with fail
       refine (qb4 t _ _ (HV.out.ext hC2)).mono ?_
       rintro e w3 ⟨v, rfl, hv3, he3⟩
       obtain rfl : v = _ := hv3
       have hC3 : Ext y w3 := hC2.tr he3
       clear z0 z1 z2 z3
       have z0 := hC3.cellOf k0
       have z1 := hC3.cellOf k1
       have z2 := hC3.cellOf k2
       have z3 := hC3.cellOf k3
       have x0 := hC3.cellOf m0
       have x1 := hC3.cellOf m1
       have x2 := hC3.cellOf m2
       have x3 := hC3.cellOf m3
       go_wp2_with fail
       refine (qcU _ _ _).mono ?_
       rintro e w1 ⟨rfl, rfl⟩
       go_wp2
       go_ret
       rw [HF4.out]
       exact Ret.mk rfl (hEy.tr hC3)
   have HF3 : Hid (zW t u = orI (zx t.k u.k) (orI (zx t.i u.i) (ya t.s u.s))) := by rw [HF2.out, if_neg r2]; exact Lib.hid rfl
   have b2 : (zj t.k == 2) = false := by simpa using r2
   clear HF2 r0 r1 r2 hr
   by_cases l1 : zx t.k u.k = 0
   · have bl : (zx t.k u.k == 0) = true := by simpa using l1
     have HF4 : Hid (zW t u = orI (zx t.i u.i) (ya t.s u.s)) := by rw [HF3.out]; unfold orI; rw [if_neg (by simpa using l1)]; exact Lib.hid rfl
     clear l1 HF3
     by_cases s1 : zx t.i u.i = 0
     · have bs : (zx t.i u.i == 0) = true := by simpa using s1
       have HF5 : Hid (zW t u = ya t.s u.s) := by rw [HF4.out]; unfold orI; rw [if_neg (by simpa using s1)]; exact Lib.hid rfl
       clear s1 HF4
       go_enter Tryz.func83, Tryz.ntmps83
       go_wp2_with fail
       have hB := qeM w #[.int .i64 t.k, .int .i64 t.i, .string t.s, .slice B t.ar.length d] #[.int .i64 u.k, .int .i64 u.i, .string u.s, .slice D u.ar.length d2] 47 47 0
       rw [World.drewN_zero] at hB
       generalize ((w.alloc (.cells #[.int .i64 t.k, .int .i64 t.i, .string t.s, .slice B t.ar.length d] 47)).alloc (.cells #[.int .i64 u.k, .int .i64 u.i, .string u.s, .slice D u.ar.length d2] 47)) = y at hB ⊢
       obtain ⟨hEy, hB1, hB2⟩ := hB
       have HV : Hid (VT y t _) := HV0.out.ext hEy
       have HX : Hid (VT y u _) := HX0.out.ext hEy
       have k0 : y.cell? ⟨w.heap.size, 0, none⟩ = some (.int .i64 t.k) := hB1 0
       have k1 : y.cell? ⟨w.heap.size, 1, none⟩ = some (.int .i64 t.i) := hB1 1
       have k2 : y.cell? ⟨w.heap.size, 2, none⟩ = some (.string t.s) := hB1 2
       have k3 : y.cell? ⟨w.heap.size, 3, none⟩ = some (.slice B t.ar.length d) := hB1 3
       have m0 : y.cell? ⟨w.heap.size + 1, 0, none⟩ = some (.int .i64 u.k) := hB2 0
       have m1 : y.cell? ⟨w.heap.size + 1, 1, none⟩ = some (.int .i64 u.i) := hB2 1
       have m2 : y.cell? ⟨w.heap.size + 1, 2, none⟩ = some (.string u.s) := hB2 2
       have m3 : y.cell? ⟨w.heap.size + 1, 3, none⟩ = some (.slice D u.ar.length d2) := hB2 3
       clear hB1 hB2
       refine qbt [(0, true), (2, true), (1, false), (3, false), (4, false), (5, true)] (by kernel_rfl) (by kernel_rfl) (Ext y) (Ext.rfl' y).dr ?_
       iterate 2 (refine sQ rfl rfl ?_ ?_ ?_; rotate_left; (· (intro w' hw'; have zk0 := hw'.cellOf k0; have zk1 := hw'.cellOf k1; have zk2 := hw'.cellOf k2; have zk3 := hw'.cellOf k3; have zm0 := hw'.cellOf m0; have zm1 := hw'.cellOf m1; have zm2 := hw'.cellOf m2; have zm3 := hw'.cellOf m3; go_simp; try with_reducible rfl)); try simp only [Act.put, List.setIfInBounds_toArray, List.set_cons_succ, List.set_cons_zero])
       refine sL rfl rfl ?_
       go_wp2_with fail
       refine (qb4 t _ _ (HV.out.ext (Ext.rfl' y).dr)).mono ?_
       rintro e w1 ⟨v, rfl, hv1, he1⟩
       obtain rfl : v = _ := hv1
       have hC1 : Ext y w1 := (Ext.rfl' y).dr.tr he1
       go_wp2_with fail
       refine SQ.mk hC1 ?_
       refine sL rfl rfl ?_
       go_wp2_with fail
       refine (qb4 u _ _ (HX.out.ext hC1)).mono ?_
       rintro e w2 ⟨v, rfl, hv2, he2⟩
       obtain rfl : v = _ := hv2
       have hC2 : Ext y w2 := hC1.tr he2
       go_wp2_with fail
       refine SQ.mk hC2 ?_
       refine sL rfl rfl ?_
       go_wp2_with fail
       refine (qcU _ _ _).mono ?_
       rintro e w1 ⟨rfl, rfl⟩
       go_wp2_with fail
       refine SQ.mk hC2 ?_
       iterate 1 (refine sQ rfl rfl ?_ ?_ ?_; rotate_left; (· (intro w' hw'; have zk0 := hw'.cellOf k0; have zk1 := hw'.cellOf k1; have zk2 := hw'.cellOf k2; have zk3 := hw'.cellOf k3; have zm0 := hw'.cellOf m0; have zm1 := hw'.cellOf m1; have zm2 := hw'.cellOf m2; have zm3 := hw'.cellOf m3; go_simp; try with_reducible rfl)); try simp only [Act.put, List.setIfInBounds_toArray, List.set_cons_succ, List.set_cons_zero])
       refine sE ?_
       have z0 := hC2.cellOf k0
       have z1 := hC2.cellOf k1
       have z2 := hC2.cellOf k2
       have z3 := hC2.cellOf k3
       go_wp2_with fail
       refine (qb4 t _ _ (HV.out.ext hC2)).mono ?_
       rintro e w3 ⟨v, rfl, hv3, he3⟩
       obtain rfl : v = _ := hv3
       have hC3 : Ext y w3 := hC2.tr he3
       clear z0 z1 z2 z3
       have z0 := hC3.cellOf k0
       have z1 := hC3.cellOf k1
       have z2 := hC3.cellOf k2
       have z3 := hC3.cellOf k3
       have x0 := hC3.cellOf m0
       have x1 := hC3.cellOf m1
       have x2 := hC3.cellOf m2
       have x3 := hC3.cellOf m3
       go_wp2_with fail
       refine (qcU _ _ _).mono ?_
       rintro e w1 ⟨rfl, rfl⟩
       go_wp2_with fail
       refine (qcU _ _ _).mono ?_
       rintro e w1 ⟨rfl, rfl⟩
       go_wp2_with fail
       refine (qgR _ _ _).mono ?_
       rintro e w1 ⟨rfl, rfl⟩
       go_wp2
       go_ret
       rw [HF5.out]
       exact Ret.mk rfl (hEy.tr hC3)
     · have bs : (zx t.i u.i == 0) = false := by simpa using s1
       have HF5 : Hid (zW t u = zx t.i u.i) := by rw [HF4.out]; unfold orI; rw [if_pos s1]; exact Lib.hid rfl
       clear s1 HF4
       go_enter Tryz.func83, Tryz.ntmps83
       go_wp2_with fail
       have hB := qeM w #[.int .i64 t.k, .int .i64 t.i, .string t.s, .slice B t.ar.length d] #[.int .i64 u.k, .int .i64 u.i, .string u.s, .slice D u.ar.length d2] 47 47 0
       rw [World.drewN_zero] at hB
       generalize ((w.alloc (.cells #[.int .i64 t.k, .int .i64 t.i, .string t.s, .slice B t.ar.length d] 47)).alloc (.cells #[.int .i64 u.k, .int .i64 u.i, .string u.s, .slice D u.ar.length d2] 47)) = y at hB ⊢
       obtain ⟨hEy, hB1, hB2⟩ := hB
       have HV : Hid (VT y t _) := HV0.out.ext hEy
       have HX : Hid (VT y u _) := HX0.out.ext hEy
       have k0 : y.cell? ⟨w.heap.size, 0, none⟩ = some (.int .i64 t.k) := hB1 0
       have k1 : y.cell? ⟨w.heap.size, 1, none⟩ = some (.int .i64 t.i) := hB1 1
       have k2 : y.cell? ⟨w.heap.size, 2, none⟩ = some (.string t.s) := hB1 2
       have k3 : y.cell? ⟨w.heap.size, 3, none⟩ = some (.slice B t.ar.length d) := hB1 3
       have m0 : y.cell? ⟨w.heap.size + 1, 0, none⟩ = some (.int .i64 u.k) := hB2 0
       have m1 : y.cell? ⟨w.heap.size + 1, 1, none⟩ = some (.int .i64 u.i) := hB2 1
       have m2 : y.cell? ⟨w.heap.size + 1, 2, none⟩ = some (.string u.s) := hB2 2
       have m3 : y.cell? ⟨w.heap.size + 1, 3, none⟩ = some (.slice D u.ar.length d2) := hB2 3
       clear hB1 hB2
       refine qbt [(0, true), (2, true), (1, false), (3, false), (4, false), (5, true)] (by kernel_rfl) (by kernel_rfl) (Ext y) (Ext.rfl' y).dr ?_
       iterate 2 (refine sQ rfl rfl ?_ ?_ ?_; rotate_left; (· (intro w' hw'; have zk0 := hw'.cellOf k0; have zk1 := hw'.cellOf k1; have zk2 := hw'.cellOf k2; have zk3 := hw'.cellOf k3; have zm0 := hw'.cellOf m0; have zm1 := hw'.cellOf m1; have zm2 := hw'.cellOf m2; have zm3 := hw'.cellOf m3; go_simp; try with_reducible rfl)); try simp only [Act.put, List.setIfInBounds_toArray, List.set_cons_succ, List.set_cons_zero])
       refine sL rfl rfl ?_
       go_wp2_with fail
       refine (qb4 t _ _ (HV.out.ext (Ext.rfl' y).dr)).mono ?_
       rintro e w1 ⟨v, rfl, hv1, he1⟩
       obtain rfl : v = _ := hv1
       have hC1 : Ext y w1 := (Ext.rfl' y).dr.tr he1
       go_wp2_with fail
       refine SQ.mk hC1 ?_
       refine sL rfl rfl ?_
       go_wp2_with fail
       refine (qb4 u _ _ (HX.out.ext hC1)).mono ?_
       rintro e w2 ⟨v, rfl, hv2, he2⟩
       obtain rfl : v = _ := hv2
       have hC2 : Ext y w2 := hC1.tr he2
       go_wp2_with fail
       refine SQ.mk hC2 ?_
       refine sL rfl rfl ?_
       go_wp2_with fail
       refine (qcU _ _ _).mono ?_
       rintro e w1 ⟨rfl, rfl⟩
       go_wp2_with fail
       refine SQ.mk hC2 ?_
       iterate 1 (refine sQ rfl rfl ?_ ?_ ?_; rotate_left; (· (intro w' hw'; have zk0 := hw'.cellOf k0; have zk1 := hw'.cellOf k1; have zk2 := hw'.cellOf k2; have zk3 := hw'.cellOf k3; have zm0 := hw'.cellOf m0; have zm1 := hw'.cellOf m1; have zm2 := hw'.cellOf m2; have zm3 := hw'.cellOf m3; go_simp; try with_reducible rfl)); try simp only [Act.put, List.setIfInBounds_toArray, List.set_cons_succ, List.set_cons_zero])
       refine sE ?_
       have z0 := hC2.cellOf k0
       have z1 := hC2.cellOf k1
       have z2 := hC2.cellOf k2
       have z3 := hC2.cellOf k3
       go_wp2_with fail
       refine (qb4 t _ _ (HV.out.ext hC2)).mono ?_
       rintro e w3 ⟨v, rfl, hv3, he3⟩
       obtain rfl : v = _ := hv3
       have hC3 : Ext y w3 := hC2.tr he3
       clear z0 z1 z2 z3
       have z0 := hC3.cellOf k0
       have z1 := hC3.cellOf k1
       have z2 := hC3.cellOf k2
       have z3 := hC3.cellOf k3
       have x0 := hC3.cellOf m0
       have x1 := hC3.cellOf m1
       have x2 := hC3.cellOf m2
       have x3 := hC3.cellOf m3
       go_wp2_with fail
       refine (qcU _ _ _).mono ?_
       rintro e w1 ⟨rfl, rfl⟩
       go_wp2_with fail
       refine (qcU _ _ _).mono ?_
       rintro e w1 ⟨rfl, rfl⟩
       go_wp2
       go_ret
       rw [HF5.out]
       exact Ret.mk rfl (hEy.tr hC3)
   · have bl : (zx t.k u.k == 0) = false := by simpa using l1
     have HF4 : Hid (zW t u = zx t.k u.k) := by rw [HF3.out]; unfold orI; rw [if_pos l1]; exact Lib.hid rfl
     clear l1 HF3
     go_enter Tryz.func83, Tryz.ntmps83
     go_wp2_with fail
     have hB := qeM w #[.int .i64 t.k, .int .i64 t.i, .string t.s, .slice B t.ar.length d] #[.int .i64 u.k, .int .i64 u.i, .string u.s, .slice D u.ar.length d2] 47 47 0
     rw [World.drewN_zero] at hB
     generalize ((w.alloc (.cells #[.int .i64 t.k, .int .i64 t.i, .string t.s, .slice B t.ar.length d] 47)).alloc (.cells #[.int .i64 u.k, .int .i64 u.i, .string u.s, .slice D u.ar.length d2] 47)) = y at hB ⊢
     obtain ⟨hEy, hB1, hB2⟩ := hB
     have HV : Hid (VT y t _) := HV0.out.ext hEy
     have HX : Hid (VT y u _) := HX0.out.ext hEy
     have k0 : y.cell? ⟨w.heap.size, 0, none⟩ = some (.int .i64 t.k) := hB1 0
     have k1 : y.cell? ⟨w.heap.size, 1, none⟩ = some (.int .i64 t.i) := hB1 1
     have k2 : y.cell? ⟨w.heap.size, 2, none⟩ = some (.string t.s) := hB1 2
     have k3 : y.cell? ⟨w.heap.size, 3, none⟩ = some (.slice B t.ar.length d) := hB1 3
     have m0 : y.cell? ⟨w.heap.size + 1, 0, none⟩ = some (.int .i64 u.k) := hB2 0
     have m1 : y.cell? ⟨w.heap.size + 1, 1, none⟩ = some (.int .i64 u.i) := hB2 1
     have m2 : y.cell? ⟨w.heap.size + 1, 2, none⟩ = some (.string u.s) := hB2 2
     have m3 : y.cell? ⟨w.heap.size + 1, 3, none⟩ = some (.slice D u.ar.length d2) := hB2 3
     clear hB1 hB2
     refine qbt [(0, true), (2, true), (1, false), (3, false), (4, false), (5, true)] (by kernel_rfl) (by kernel_rfl) (Ext y) (Ext.rfl' y).dr ?_
     iterate 2 (refine sQ rfl rfl ?_ ?_ ?_; rotate_left; (· (intro w' hw'; have zk0 := hw'.cellOf k0; have zk1 := hw'.cellOf k1; have zk2 := hw'.cellOf k2; have zk3 := hw'.cellOf k3; have zm0 := hw'.cellOf m0; have zm1 := hw'.cellOf m1; have zm2 := hw'.cellOf m2; have zm3 := hw'.cellOf m3; go_simp; try with_reducible rfl)); try simp only [Act.put, List.setIfInBounds_toArray, List.set_cons_succ, List.set_cons_zero])
     refine sL rfl rfl ?_
     go_wp2_with fail
     refine (qb4 t _ _ (HV.out.ext (Ext.rfl' y).dr)).mono ?_
     rintro e w1 ⟨v, rfl, hv1, he1⟩
     obtain rfl : v = _ := hv1
     have hC1 : Ext y w1 := (Ext.rfl' y).dr.tr he1
     go_wp2_with fail
     refine SQ.mk hC1 ?_
     refine sL rfl rfl ?_
     go_wp2_with fail
     refine (qb4 u _ _ (HX.out.ext hC1)).mono ?_
     rintro e w2 ⟨v, rfl, hv2, he2⟩
     obtain rfl : v = _ := hv2
     have hC2 : Ext y w2 := hC1.tr he2
     go_wp2_with fail
     refine SQ.mk hC2 ?_
     refine sL rfl rfl ?_
     go_wp2_with fail
     refine (qcU _ _ _).mono ?_
     rintro e w1 ⟨rfl, rfl⟩
     go_wp2_with fail
     refine SQ.mk hC2 ?_
     iterate 1 (refine sQ rfl rfl ?_ ?_ ?_; rotate_left; (· (intro w' hw'; have zk0 := hw'.cellOf k0; have zk1 := hw'.cellOf k1; have zk2 := hw'.cellOf k2; have zk3 := hw'.cellOf k3; have zm0 := hw'.cellOf m0; have zm1 := hw'.cellOf m1; have zm2 := hw'.cellOf m2; have zm3 := hw'.cellOf m3; go_simp; try with_reducible rfl)); try simp only [Act.put, List.setIfInBounds_toArray, List.set_cons_succ, List.set_cons_zero])
     refine sE ?_
     have z0 := hC2.cellOf k0
     have z1 := hC2.cellOf k1
     have z2 := hC2.cellOf k2
     have z3 := hC2.cellOf k3
     go_wp2_with fail
     refine (qb4 t _ _ (HV.out.ext hC2)).mono ?_
     rintro e w3 ⟨v, rfl, hv3, he3⟩
     obtain rfl : v = _ := hv3
     have hC3 : Ext y w3 := hC2.tr he3
     clear z0 z1 z2 z3
     have z0 := hC3.cellOf k0
     have z1 := hC3.cellOf k1
     have z2 := hC3.cellOf k2
     have z3 := hC3.cellOf k3
     have x0 := hC3.cellOf m0
     have x1 := hC3.cellOf m1
     have x2 := hC3.cellOf m2
     have x3 := hC3.cellOf m3
     go_wp2_with fail
     refine (qcU _ _ _).mono ?_
     rintro e w1 ⟨rfl, rfl⟩
     go_wp2
     go_ret
     rw [HF4.out]
     exact Ret.mk rfl (hEy.tr hC3)
 · have HF1 : Hid (zW t u = zx (zj t.k) (zj u.k)) := by rw [HF.out]; unfold orI; rw [if_pos h1]; exact Lib.hid rfl
   have hb : (zx (zj t.k) (zj u.k) != 0) = true := by simpa using h1
   clear h1
   go_enter Tryz.func83, Tryz.ntmps83
   go_wp2_with fail
   have hB := qeM w #[.int .i64 t.k, .int .i64 t.i, .string t.s, .slice B t.ar.length d] #[.int .i64 u.k, .int .i64 u.i, .string u.s, .slice D u.ar.length d2] 47 47 0
   rw [World.drewN_zero] at hB
   generalize ((w.alloc (.cells #[.int .i64 t.k, .int .i64 t.i, .string t.s, .slice B t.ar.length d] 47)).alloc (.cells #[.int .i64 u.k, .int .i64 u.i, .string u.s, .slice D u.ar.length d2] 47)) = y at hB ⊢
   obtain ⟨hEy, hB1, hB2⟩ := hB
   have HV : Hid (VT y t _) := HV0.out.ext hEy
   have HX : Hid (VT y u _) := HX0.out.ext hEy
   have k0 : y.cell? ⟨w.heap.size, 0, none⟩ = some (.int .i64 t.k) := hB1 0
   have k1 : y.cell? ⟨w.heap.size, 1, none⟩ = some (.int .i64 t.i) := hB1 1
   have k2 : y.cell? ⟨w.heap.size, 2, none⟩ = some (.string t.s) := hB1 2
   have k3 : y.cell? ⟨w.heap.size, 3, none⟩ = some (.slice B t.ar.length d) := hB1 3
   have m0 : y.cell? ⟨w.heap.size + 1, 0, none⟩ = some (.int .i64 u.k) := hB2 0
   have m1 : y.cell? ⟨w.heap.size + 1, 1, none⟩ = some (.int .i64 u.i) := hB2 1
   have m2 : y.cell? ⟨w.heap.size + 1, 2, none⟩ = some (.string u.s) := hB2 2
   have m3 : y.cell? ⟨w.heap.size + 1, 3, none⟩ = some (.slice D u.ar.length d2) := hB2 3
   clear hB1 hB2
   refine qbt [(0, true), (2, true), (1, false), (3, false), (4, false), (5, true)] (by kernel_rfl) (by kernel_rfl) (Ext y) (Ext.rfl' y).dr ?_
   iterate 2 (refine sQ rfl rfl ?_ ?_ ?_; rotate_left; (· (intro w' hw'; have zk0 := hw'.cellOf k0; have zk1 := hw'.cellOf k1; have zk2 := hw'.cellOf k2; have zk3 := hw'.cellOf k3; have zm0 := hw'.cellOf m0; have zm1 := hw'.cellOf m1; have zm2 := hw'.cellOf m2; have zm3 := hw'.cellOf m3; go_simp; try with_reducible rfl)); try simp only [Act.put, List.setIfInBounds_toArray, List.set_cons_succ, List.set_cons_zero])
   refine sL rfl rfl ?_
   go_wp2_with fail
   refine (qb4 t _ _ (HV.out.ext (Ext.rfl' y).dr)).mono ?_
   rintro e w1 ⟨v, rfl, hv1, he1⟩
   obtain rfl : v = _ := hv1
   have hC1 : Ext y w1 := (Ext.rfl' y).dr.tr he1
   go_wp2_with fail
   refine SQ.mk hC1 ?_
   refine sL rfl rfl ?_
   go_wp2_with fail
   refine (qb4 u _ _ (HX.out.ext hC1)).mono ?_
   rintro e w2 ⟨v, rfl, hv2, he2⟩
   obtain rfl : v = _ := hv2
   have hC2 : Ext y w2 := hC1.tr he2
   go_wp2_with fail
   refine SQ.mk hC2 ?_
   refine sL rfl rfl ?_
   go_wp2_with fail
   refine (qcU _ _ _).mono ?_
   rintro e w1 ⟨rfl, rfl⟩
   go_wp2_with fail
   refine SQ.mk hC2 ?_
   iterate 1 (refine sQ rfl rfl ?_ ?_ ?_; rotate_left; (· (intro w' hw'; have zk0 := hw'.cellOf k0; have zk1 := hw'.cellOf k1; have zk2 := hw'.cellOf k2; have zk3 := hw'.cellOf k3; have zm0 := hw'.cellOf m0; have zm1 := hw'.cellOf m1; have zm2 := hw'.cellOf m2; have zm3 := hw'.cellOf m3; go_simp; try with_reducible rfl)); try simp only [Act.put, List.setIfInBounds_toArray, List.set_cons_succ, List.set_cons_zero])
   refine sE ?_
   go_wp2
   go_ret
   rw [HF1.out]
   exact Ret.mk rfl (hEy.tr hC2)
def zbm (W : World) (ts us : List T) (v5 : Value) (wr : World) : Prop :=
 ∃ k : Nat, v5 = .int .i64 (k : Int) ∧ k ≤ ts.length ∧ k ≤ us.length ∧ Hid (cmpL ts us = cmpL (ts.drop k) (us.drop k)) ∧ Ext W wr
set_option maxRecDepth 100000 in
set_option maxHeartbeats 1600000 in
theorem qk5 (n : Nat) (hM : n ≤ 1000000000)
 (HC : Hid (∀ (t u : T) (v x : Value) (w : World), wt t ≤ n → VT w t v → VT w u x → Calls Tryz.prog 83 #[v, x] w (Ret w (Is (.int .i64 (zW t u))))))
 (ts us : List T) (v x : Value) (w : World) (hn : wtL ts ≤ n) (hv : SlT w ts v) (hx : SlT w us x) : Calls Tryz.prog 69 #[v, x] w (Ret w (Is (.int .i64 (yq ts us)))) := by
 have hv' := hv
 have hx' := hx
 obtain ⟨A, c, xs, rfl, -⟩ := hv
 obtain ⟨B, d, ys, rfl, -⟩ := hx
 have hll : ts.length ≤ 1000000000 := by have := qeH ts; omega
 have HN : Hid (wtL ts ≤ n) := hn
 clear hn
 go_enter Tryz.func69, Tryz.ntmps69
 go_wp2
 go_loopw [5, 6] (fun v5 _ wr => zbm w ts us v5 wr) (fun v5 _ _ => ts.length - (intOf v5).toNat)
 case atStart => exact ⟨0, rfl, by omega, by omega, Lib.hid rfl, Ext.rfl' w⟩
 case round =>
  obtain ⟨k, rfl, hk, hk2, hi, he⟩ := hrel
  by_cases hlt : k < ts.length
  · by_cases hlu : k < us.length
    · obtain ⟨t, ht⟩ : ∃ t, ts[k]? = some t := ⟨ts[k], List.getElem?_eq_getElem hlt⟩
      obtain ⟨u, hu⟩ : ∃ u, us[k]? = some u := ⟨us[k], List.getElem?_eq_getElem hlu⟩
      obtain ⟨b, o, sl, rfl, c0, c1, c2, c3, -, hvt⟩ := (hv'.ext he).at_ ht
      obtain ⟨b2, o2, sx, rfl, m0, m1, m2, m3, -, hvu⟩ := (hx'.ext he).at_ hu
      rw [qmo ht hu] at hi
      have HW : Hid (wt t ≤ n) := by have := qen (List.mem_of_getElem? ht); have := HN.out; exact Lib.hid (by omega)
      clear ht hu
      go_wp2_with fail
      refine qbt [(0, true), (1, true), (2, true), (3, true), (4, true), (5, true), (6, true), (7, true), (8, false), (9, true)] (by kernel_rfl) (by kernel_rfl) (Ext wr) (Ext.rfl' wr).dr ?_
      iterate 8 (refine sQ rfl rfl ?_ ?_ ?_; rotate_left; (· (intro w' hw'; have zc0 := hw'.cellOf c0; have zc1 := hw'.cellOf c1; have zc2 := hw'.cellOf c2; have zc3 := hw'.cellOf c3; have zm0 := hw'.cellOf m0; have zm1 := hw'.cellOf m1; have zm2 := hw'.cellOf m2; have zm3 := hw'.cellOf m3; go_simp; try with_reducible rfl)); try simp only [Act.put, List.setIfInBounds_toArray, List.set_cons_succ, List.set_cons_zero])
      refine sL rfl rfl ?_
      go_wp2_with fail
      refine ((zd HC) t u _ _ _ HW.out (hvt.ext (Ext.rfl' wr).dr) (hvu.ext (Ext.rfl' wr).dr)).mono ?_
      rintro e w2 ⟨v, rfl, hv2, he2⟩
      obtain rfl : v = _ := hv2
      have hE2 : Ext wr w2 := (Ext.rfl' wr).dr.tr he2
      go_wp2_with fail
      refine SQ.mk hE2 ?_
      iterate 1 (refine sQ rfl rfl ?_ ?_ ?_; rotate_left; (· (intro w' hw'; have zc0 := hw'.cellOf c0; have zc1 := hw'.cellOf c1; have zc2 := hw'.cellOf c2; have zc3 := hw'.cellOf c3; have zm0 := hw'.cellOf m0; have zm1 := hw'.cellOf m1; have zm2 := hw'.cellOf m2; have zm3 := hw'.cellOf m3; go_simp; try with_reducible rfl)); try simp only [Act.put, List.setIfInBounds_toArray, List.set_cons_succ, List.set_cons_zero])
      refine sE ?_
      by_cases h0 : zW t u = 0
      · have hb : (zW t u != 0) = false := by simpa using h0
        have HI : Hid (cmpL ts us = cmpL (ts.drop (k + 1)) (us.drop (k + 1))) := by rw [hi.out]; unfold orI; rw [if_neg (by simpa using h0)]; exact Lib.hid rfl
        clear h0
        go_wp2
        go_roundw
        case rel => exact ⟨k + 1, by go_num, by omega, by omega, HI, he.tr hE2⟩
        case measure => simp [intOf]; omega
      · have hb : (zW t u != 0) = true := by simpa using h0
        have HI : Hid (yq ts us = zW t u) := by
         unfold yq; rw [hi.out]; unfold orI; rw [if_pos h0, if_pos h0]; exact Lib.hid rfl
        clear h0
        go_wp2
        go_ret
        rw [HI.out]
        exact Ret.mk rfl (he.tr hE2)
    · have HI : Hid (yq ts us = zx ts.length us.length) := by
       rw [List.drop_eq_nil_of_le (show us.length ≤ k by omega), qqM] at hi
       unfold yq; rw [hi.out]; unfold orI; rw [if_neg (by simp)]; exact Lib.hid rfl
      go_wp2_with fail
      refine (qcU _ _ _).mono ?_
      rintro e w1 ⟨rfl, rfl⟩
      go_wp2
      go_ret
      rw [HI.out]
      exact Ret.mk rfl he
  · have HI : Hid (yq ts us = zx ts.length us.length) := by
     rw [List.drop_eq_nil_of_le (show ts.length ≤ k by omega)] at hi
     have h0 : cmpL ts us = 0 := by rw [hi.out]; simp only [cmpL]
     unfold yq; rw [h0]; unfold orI; rw [if_neg (by simp)]; exact Lib.hid rfl
    go_wp2_with fail
    refine (qcU _ _ _).mono ?_
    rintro e w1 ⟨rfl, rfl⟩
    go_wp2
    go_ret
    rw [HI.out]
    exact Ret.mk rfl he
theorem qgD : ∀ (n : Nat), n ≤ 1000000000 → ∀ (t u : T) (v x : Value) (w : World), wt t ≤ n → VT w t v → VT w u x → Calls Tryz.prog 83 #[v, x] w (Ret w (Is (.int .i64 (zW t u))))
 | 0, _, t, _, _, _, _, hn, _, _ => by rw [qeT] at hn; omega
 | n + 1, hM, t, u, v, x, w, hn, hv, hx =>
  qkx n (Lib.hid fun ts us v u w h1 h2 h3 => qk5 n (by omega) (Lib.hid (qgD n (by omega))) ts us v u w h1 h2 h3) t u v x w (by rw [qeT] at hn; omega) hv hx
theorem qmC (n : Nat) (hM : n ≤ 1000000000) (ts us : List T) (v x : Value) (w : World) (hn : wtL ts ≤ n) (hv : SlT w ts v) (hx : SlT w us x) : Calls Tryz.prog 69 #[v, x] w (Ret w (Is (.int .i64 (yq ts us)))) :=
 qk5 n hM (Lib.hid (qgD n hM)) ts us v x w hn hv hx
def yB (t u : T) : Bool := zW t u == 0
theorem qmT (n : Nat) (hM : n ≤ 1000000000) (t u : T) (v x : Value) (w : World) (hn : wt t ≤ n) (hv : VT w t v) (hx : VT w u x) : Calls Tryz.prog 54 #[v, x] w (Ret w (Is (.bool (yB t u)))) := by
 have hC := zB (fun w' (e : Ext w w') => qgD n hM t u v x w' hn (hv.ext e) (hx.ext e))
 obtain ⟨sl, rfl, hs, -⟩ := hv.open_
 obtain ⟨sx, rfl, hy, -⟩ := hx.open_
 obtain ⟨B, d, xs, rfl, -⟩ := hs
 obtain ⟨D, d2, ys, rfl, -⟩ := hy
 clear hv hx
 go_enter Tryz.func54, Tryz.ntmps54
 go_wp2_with fail
 refine ((zd hC) _ (((Ext.rfl' w).al _).al _)).mono ?_
 rintro e w1 ⟨v, rfl, hv, he⟩
 obtain rfl : v = _ := hv
 go_wp2
 go_ret
 exact Ret.mk rfl ((((Ext.rfl' w).al _).al _).tr he)
end Go.Proofs.YtabbfihjeppbhaaGreat
namespace Go.Proofs.YtabbfihjeppbhaaGreat
set_option maxRecDepth 100000
open Go.ChangeShapes Go.WideShapes Go.RowKit
structure Lay (α : Type) where
 C : World → α → List Value → Prop
 n : Nat
 pos : 0 < n
 ext : ∀ {w w' : World} {a : α} {cs : List Value}, C w a cs → Ext w w' → C w' a cs
 len : ∀ {w : World} {a : α} {cs : List Value}, C w a cs → cs.length = n
 one : ∀ {w : World} {a : α} {cs : List Value}, C w a cs → ∀ u ∈ cs, u.oneCell' = true
namespace Lay
variable {α : Type} (L : Lay α)
def Ls (w : World) : List α → List Value → Prop
 | [], xs => xs = []
 | a :: l, xs => ∃ cs ys, xs = cs ++ ys ∧ L.C w a cs ∧ Ls w l ys
def Sl (w : World) (l : List α) (v : Value) : Prop := ∃ A c xs, v = .slice A l.length c ∧ l.length ≤ c ∧ c ≤ 9223372036854775807 ∧ Rd w A xs ∧ L.Ls w l xs
def V (w : World) (a : α) (v : Value) : Prop := ∃ cs, v = .agg cs.toArray ∧ L.C w a cs
variable {L}
theorem Ls.nil (w : World) : L.Ls w [] [] := rfl
theorem Ls.cons {w : World} {a : α} {l : List α} {cs ys : List Value} (h1 : L.C w a cs) (h2 : L.Ls w l ys) : L.Ls w (a :: l) (cs ++ ys) := ⟨cs, ys, rfl, h1, h2⟩
theorem Ls.single {w : World} {a : α} {cs : List Value} (h1 : L.C w a cs) : L.Ls w [a] cs := by simpa using Ls.cons h1 (Ls.nil w)
theorem Ls.ext {w w' : World} (e : Ext w w') : ∀ {l : List α} {xs : List Value}, L.Ls w l xs → L.Ls w' l xs
 | [], _, h => h
 | _ :: _, _, ⟨cs, ys, h1, h2, h3⟩ => ⟨cs, ys, h1, L.ext h2 e, Ls.ext e h3⟩
theorem Ls.len {w : World} : ∀ {l : List α} {xs : List Value}, L.Ls w l xs → xs.length = l.length * L.n
 | [], xs, h => by have h : xs = [] := h; simp [h]
 | a :: l, xs, ⟨cs, ys, h1, h2, h3⟩ => by subst h1; rw [List.length_append, L.len h2, Ls.len h3, List.length_cons, Nat.add_mul, Nat.one_mul]; omega
theorem Ls.one {w : World} : ∀ {l : List α} {xs : List Value}, L.Ls w l xs → ∀ u ∈ xs, u.oneCell' = true
 | [], xs, h => by have h : xs = [] := h; simp [h]
 | a :: l, xs, ⟨cs, ys, h1, h2, h3⟩ => by
  subst h1
  intro u hu
  rcases List.mem_append.1 hu with hu | hu
  · exact L.one h2 u hu
  · exact Ls.one h3 u hu
theorem Ls.app {w : World} : ∀ {l m : List α} {xs ys : List Value}, L.Ls w l xs → L.Ls w m ys → L.Ls w (l ++ m) (xs ++ ys)
 | [], m, xs, ys, h, k => by have h : xs = [] := h; subst h; simpa using k
 | a :: l, m, xs, ys, ⟨cs, zs, h1, h2, h3⟩, k => by
  subst h1
  rw [List.cons_append, List.append_assoc]
  exact Ls.cons h2 (Ls.app h3 k)
theorem Ls.get {w : World} : ∀ {l : List α} {xs : List Value} {i : Nat} {a : α}, L.Ls w l xs → l[i]? = some a → ∃ cs, L.C w a cs ∧ ∀ j, j < L.n → xs[i * L.n + j]? = cs[j]?
 | [], _, i, _, _, hi => by simp at hi
 | b :: l, xs, 0, a, ⟨cs, ys, h1, h2, h3⟩, hi => by
  subst h1
  simp at hi
  subst hi
  refine ⟨cs, h2, fun j hj => ?_⟩
  rw [Nat.zero_mul, Nat.zero_add, List.getElem?_append_left (by rw [L.len h2]; omega)]
 | b :: l, xs, i + 1, a, ⟨cs, ys, h1, h2, h3⟩, hi => by
  subst h1
  simp at hi
  obtain ⟨ds, h4, h5⟩ := Ls.get h3 hi
  refine ⟨ds, h4, fun j hj => ?_⟩
  rw [Nat.add_mul, Nat.one_mul, List.getElem?_append_right (by rw [L.len h2]; omega), L.len h2, ← h5 j hj]
  congr 1
  omega
theorem Ls.drop {w : World} : ∀ {l : List α} {xs : List Value} (k : Nat), L.Ls w l xs → L.Ls w (l.drop k) (xs.drop (k * L.n))
 | l, xs, 0, h => by simpa using h
 | [], xs, k + 1, h => by have h : xs = [] := h; subst h; simp only [List.drop_nil]; exact Ls.nil w
 | a :: l, xs, k + 1, ⟨cs, ys, h1, h2, h3⟩ => by
  subst h1
  have e : (k + 1) * L.n = cs.length + k * L.n := by rw [L.len h2, Nat.add_mul, Nat.one_mul]; omega
  rw [e, List.drop_succ_cons, List.drop_length_add_append]
  exact Ls.drop k h3
theorem Ls.take {w : World} : ∀ {l : List α} {xs : List Value} (k : Nat), L.Ls w l xs → L.Ls w (l.take k) (xs.take (k * L.n))
 | l, xs, 0, h => by simpa using Ls.nil w
 | [], xs, k + 1, h => by have h : xs = [] := h; subst h; simp only [List.take_nil]; exact Ls.nil w
 | a :: l, xs, k + 1, ⟨cs, ys, h1, h2, h3⟩ => by
  subst h1
  have e : (k + 1) * L.n = cs.length + k * L.n := by rw [L.len h2, Nat.add_mul, Nat.one_mul]; omega
  rw [e, List.take_length_add_append, List.take_succ_cons]
  exact Ls.cons h2 (Ls.take k h3)
theorem Sl.ext {w w' : World} {l : List α} {v : Value} (h : L.Sl w l v) (e : Ext w w') : L.Sl w' l v := by
 obtain ⟨A, c, xs, h1, h2, h3, h4, h5⟩ := h
 exact ⟨A, c, xs, h1, h2, h3, h4.ext e, h5.ext e⟩
theorem V.ext {w w' : World} {a : α} {v : Value} (h : L.V w a v) (e : Ext w w') : L.V w' a v := by
 obtain ⟨cs, h1, h2⟩ := h
 exact ⟨cs, h1, L.ext h2 e⟩
theorem Sl.nil (w : World) : L.Sl w [] (.slice none 0 0) := ⟨none, 0, [], rfl, by simp, by omega, Rd.nil _ _, Ls.nil w⟩
theorem V.c {w : World} {a : α} {cs : Array Value} (h : L.V w a (.agg cs)) : L.C w a cs.toList := by
 obtain ⟨ds, h1, h2⟩ := h
 injection h1 with h1
 subst h1
 simpa using h2
theorem Sl.at_ {w : World} {l : List α} {A : Option Addr} {n c : Nat} (h : L.Sl w l (.slice A n c)) {i : Nat} {a : α} (hi : l[i]? = some a) :
 ∃ b o cs, A = some ⟨b, o, none⟩ ∧ L.C w a cs ∧ ∀ j, j < L.n → w.cell? ⟨b, o + i * L.n + j, none⟩ = cs[j]? := by
 obtain ⟨A', c', xs, h1, h2, h3, h4, h5⟩ := h
 injection h1 with h1 _ _
 subst h1
 obtain ⟨cs, hc, hx⟩ := h5.get hi
 have hl := L.len hc
 have hp := L.pos
 have x0 : xs[i * L.n + 0]? = some (cs[0]'(by omega)) := by rw [hx 0 hp]; exact List.getElem?_eq_getElem (by omega)
 rcases h4 with rfl | ⟨ad, rfl, hcell⟩
 · simp at x0
 · have hlen : 0 < xs.length := by
    have := (List.getElem?_eq_some_iff.1 x0).1
    omega
   have hsp : ad.spot = none := by
    have h0 := hcell 0 _ (List.getElem?_eq_getElem hlen)
    have := qjV h0
    simpa [Addr.add] using this
   obtain ⟨b, o, sp⟩ := ad
   simp only at hsp
   subst hsp
   refine ⟨b, o, cs, rfl, hc, fun j hj => ?_⟩
   have hxj := hx j hj
   rw [List.getElem?_eq_getElem (show j < cs.length by omega)] at hxj ⊢
   have := hcell _ _ hxj
   simpa only [qlI, ← Nat.add_assoc] using this
theorem Sl.len {w : World} {l : List α} {A : Option Addr} {n c : Nat} (h : L.Sl w l (.slice A n c)) : n = l.length ∧ n ≤ c ∧ c ≤ 9223372036854775807 := by
 obtain ⟨A', c', xs, h1, h2, h3, -⟩ := h
 injection h1 with h4 h5 h6
 omega
theorem Sl.rd {w : World} {l : List α} {v : Value} (h : L.Sl w l v) : ∃ A c xs, v = .slice A l.length c ∧ l.length ≤ c ∧ c ≤ 9223372036854775807 ∧ Rd w A xs ∧ L.Ls w l xs := h
theorem zbc {w : World} {ad : Addr} : ∀ (len : Nat), (∀ i, i < len → ∃ a cs, L.C w a cs ∧ ∀ j, j < L.n → w.cell? (ad.add (i * L.n + j)) = cs[j]?) → ∃ l xs, l.length = len ∧ L.Ls w l xs ∧ ∀ j u, xs[j]? = some u → w.cell? (ad.add j) = some u
 | 0, _ => ⟨[], [], rfl, Ls.nil w, by simp⟩
 | len + 1, h => by
  obtain ⟨l, xs, h1, h2, h3⟩ := zbc len fun i hi => h i (by omega)
  obtain ⟨a, cs, h4, h5⟩ := h len (by omega)
  refine ⟨l ++ [a], xs ++ cs, by simp [h1], Ls.app h2 (Ls.single h4), fun j u hu => ?_⟩
  have hx := Ls.len h2
  by_cases hj : j < xs.length
  · rw [List.getElem?_append_left hj] at hu
    exact h3 j u hu
  · rw [List.getElem?_append_right (by omega)] at hu
    have hlt := (List.getElem?_eq_some_iff.1 hu).1
    rw [L.len h4] at hlt
    have h6 := h5 (j - xs.length) hlt
    rw [hu] at h6
    rw [← h6, hx, h1]
    rw [hx, h1] at hj
    congr 2
    omega
section
variable {H : Type} {enc : TypeId × Value → H} {W : World} {base : Nat} {sp : Nat → Bool} {hd : Bool}
theorem open_sl {t e : TypeId} (ht : (Tryz.prog).underlying t = some (.slice e)) (hn : (Tryz.prog).cellsOf e = L.n) {fuel : Nat} (he : ∀ n cs x, n < fuel → DataW.trod enc Tryz.prog W base sp hd n e cs = some x → ∃ a, L.C W a cs)
 {cs : List Value} {x : DataW H × List MemPlace} (h : DataW.trod enc Tryz.prog W base sp hd fuel t cs = some x) : ∃ l v, cs = [v] ∧ L.Sl W l v := by
 rcases DataW.trod_slice ht h with ⟨rfl, _⟩ | ⟨a, len, cap, elems, rest, n, hf, rfl, _, _, hl, hm, hlen, hel, _, _⟩
 · exact ⟨[], _, rfl, Sl.nil W⟩
 · have hel' : ∀ i, i < len → ∃ a' cs, L.C W a' cs ∧ ∀ j, j < L.n → W.cell? (a.add (i * L.n + j)) = cs[j]? := fun i hi => by
    have h1 := hel i hi
    rw [List.getElem?_eq_getElem (by omega), hn] at h1
    obtain ⟨cs', h2, h3⟩ := Option.bind_eq_some_iff.1 h1
    obtain ⟨a', h4⟩ := he n cs' _ (by omega) h3
    obtain ⟨_, h5, h6⟩ := World.cells?_some h2
    refine ⟨a', cs', h4, fun j hj => ?_⟩
    rw [← qnU]
    exact h6 j hj
   obtain ⟨l, xs, h1, h2, h3⟩ := zbc (L := L) len hel'
   subst h1
   exact ⟨l, _, rfl, some a, cap, xs, rfl, hl, by unfold maxLen at hm; omega, .inr ⟨a, rfl, h3⟩, h2⟩
end
end Lay
def layT : Lay T where
 C := CT
 n := 4
 pos := by omega
 ext := fun h e => CT.ext e h
 len := CT.len
 one := CT.one
theorem qlN {w : World} : ∀ {l : List T} {xs : List Value}, layT.Ls w l xs ↔ CL w l xs
 | [], xs => by simp only [CL]; rfl
 | t :: l, xs => by
  simp only [CL]
  constructor
  · rintro ⟨cs, ys, h1, h2, h3⟩; exact ⟨cs, ys, h1, h2, qlN.1 h3⟩
  · rintro ⟨cs, ys, h1, h2, h3⟩; exact ⟨cs, ys, h1, h2, qlN.2 h3⟩
theorem qsm {w : World} {l : List T} {v : Value} : layT.Sl w l v ↔ SlT w l v := by
 constructor
 · rintro ⟨A, c, xs, h1, h2, h3, h4, h5⟩; exact ⟨A, c, xs, h1, h2, h3, h4, qlN.1 h5⟩
 · rintro ⟨A, c, xs, h1, h2, h3, h4, h5⟩; exact ⟨A, c, xs, h1, h2, h3, h4, qlN.2 h5⟩
end Go.Proofs.YtabbfihjeppbhaaGreat
