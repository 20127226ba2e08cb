/-
  A region that draws its order, walked in one order that is written down: an operation that yields one value in every world of a class is taken as soon as nothing hangs on it; any other operation is taken where it alone may come up.
-/
import Derived.Test.YtcjbageaiafbmaaMem
import Derived.Orders
namespace Go.Proofs.Ytcjbageaiafbmaa
open Go.RowKit

section
variable {P : Program} {ops : Array Oper} {C : World → Prop} {md : Region.Mode}

/-- What stands behind an operation that changes the world. -/
def SQ (C : World → Prop) (K : Act → World → Prop) : Exit → Act → World → Prop
  | .normal, a, w => C w ∧ K a w
  | _, _, _ => False

theorem SQ.mk {K : Act → World → Prop} {a : Act} {w : World} (hC : C w) (h : K a w) : SQ C K .normal a w := ⟨hC, h⟩

/-- In state a, in every world of the class, the operation leaves v in its slot and the world as it is; or it is passed over. -/
def YC (P : Program) (ops : Array Oper) (C : World → Prop) (o : Oper) (v : Value) (a : Act) : Prop :=
  (Region.wanted o (yielded ops a.tmps) = true ∧ ∀ w, C w → (execOp a.eval o).run P w = .ok (.value v) w) ∨ (Region.wanted o (yielded ops a.tmps) = false ∧ v = undef)

/-- One step: operation i comes up. -/
def opC (P : Program) (ops : Array Oper) (C : World → Prop) (i : Nat) (K : Act → World → Prop) (a : Act) (w : World) : Prop :=
  match ops[i]? with
  | none => K a w
  | some o => if Region.wanted o (yielded ops a.tmps) then o.wp P a w (fun a w => C w ∧ K a w) (fun _ _ _ => False) else K (a.put o.dst undef) w

def anyC (P : Program) (md : Region.Mode) (ops : Array Oper) (C : World → Prop) (Q : Act → World → Prop) : Nat → Array Bool → Act → World → Prop
  | 0, listed, a, w => Region.ready md ops listed = [] ∧ Q a w
  | fuel + 1, listed, a, w => (Region.ready md ops listed = [] → Q a w) ∧ ∀ i ∈ Region.ready md ops listed, opC P ops C i (anyC P md ops C Q fuel (listed.setIfInBounds i true)) a w

theorem opC_mono {i : Nat} {a : Act} {w : World} {K K' : Act → World → Prop} (hw : C w) (h : ∀ a w, C w → K a w → K' a w) (hh : opC P ops C i K a w) : opC P ops C i K' a w := by
  unfold opC at *
  split
  · rename_i ho; simp only [ho] at hh; exact h _ _ hw hh
  · rename_i o ho
    simp only [ho] at hh
    split
    · rename_i hwn; simp only [hwn, if_true] at hh; exact Oper.wp_mono (fun a w hk => ⟨hk.1, h a w hk.1 hk.2⟩) hh
    · rename_i hwn; simp only [hwn] at hh; exact h _ _ hw hh

theorem wp_weak {o : Oper} {a : Act} {w : World} {K : Act → World → Prop} {Q : Exit → Act → World → Prop} (h : o.wp P a w K (fun _ _ _ => False)) : o.wp P a w K Q := by
  unfold Oper.wp at *
  generalize (execOp a.eval o).run P w = r at *
  cases r with
  | ok n w' =>
    cases n <;> simp only [Oper.upon] at h ⊢ <;> first | exact h | skip
    refine Calls.mono h fun e w'' he => ?_
    cases e with
    | returned u => exact he
    | panicked c => exact he.elim
    | outgrown => obtain ⟨_, _, hf⟩ := he; exact hf.elim
  | halt x w' => cases x <;> simp only [Oper.upon] at h ⊢

theorem any_of_anyC {Q : Exit → Act → World → Prop} : ∀ (fuel : Nat) (listed : Array Bool) (a : Act) (w : World), anyC P md ops C (fun a w => Q .normal a w) fuel listed a w → wpAny P md ops Q fuel listed a w
  | 0, _, _, _, h => h
  | fuel + 1, listed, a, w, h => ⟨h.1, fun i hi => by
      have h1 := h.2 i hi
      unfold opC at h1
      unfold wpOp
      split
      · rename_i ho; simp only [ho] at h1; exact any_of_anyC fuel _ _ _ h1
      · rename_i o ho
        simp only [ho] at h1
        split
        · rename_i hw
          simp only [hw, if_true] at h1
          exact .inl (wp_weak (Oper.wp_mono (fun a w hk => any_of_anyC fuel _ _ _ hk.2) h1))
        · rename_i hw
          simp only [hw] at h1
          exact any_of_anyC fuel _ _ _ h1⟩

theorem YC.opC {i : Nat} {o : Oper} {v : Value} {a : Act} (hi : ops[i]? = some o) (hy : YC P ops C o v a) {K : Act → World → Prop} {w : World} (hC : C w) (h : K (a.put o.dst v) w) : opC P ops C i K a w := by
  unfold Go.Proofs.Ytcjbageaiafbmaa.opC
  simp only [hi]
  rcases hy with ⟨hw, hv⟩ | ⟨hw, rfl⟩
  · simp only [hw, if_true, Oper.wp, hv w hC, Oper.upon]; exact ⟨hC, h⟩
  · simp only [hw, Bool.false_eq_true, if_false]; exact h

theorem YC.of_same {o : Oper} {v : Value} {a a' : Act} (hy : YC P ops C o v a) (he : execOp a'.eval o = execOp a.eval o)
    (hw : Region.wanted o (yielded ops a'.tmps) = Region.wanted o (yielded ops a.tmps)) : YC P ops C o v a' := by
  unfold YC at *
  rw [he, hw]
  exact hy

theorem opC_put {j : Nat} {oi oj : Oper} {v : Value} (hj : ops[j]? = some oj) (hap : oi.apart ops oj = true)
    (hsi : ∀ cs b, oi.op ≠ .select cs b) (hsj : ∀ cs b, oj.op ≠ .select cs b) {K : Act → World → Prop} {a : Act} {w : World}
    (hy : YC P ops C oi v a) (h : opC P ops C j K (a.put oi.dst v) w) : opC P ops C j (fun a' w' => YC P ops C oi v a' ∧ K (a'.put oi.dst v) w') a w := by
  obtain ⟨h1, h2, h3⟩ := Oper.apart_spec hap
  have keep : ∀ (a : Act), YC P ops C oi v a → ∀ u, YC P ops C oi v (a.put oj.dst u) := fun a hy u =>
    hy.of_same (execOp_put oi hsi a oj.dst u h3) (wanted_put oi a oj.dst u h3)
  have keepD : ∀ d, YC P ops C oi v { a with defers := d :: a.defers } := fun d => hy.of_same rfl rfl
  unfold opC at *
  simp only [hj] at *
  rw [wanted_put oj a oi.dst v h1] at h
  split
  · rename_i hw
    simp only [hw, if_true] at h
    unfold Oper.wp at *
    rw [execOp_put oj hsj a oi.dst v h1] at h
    generalize (execOp a.eval oj).run P w = r at *
    cases r with
    | ok n w' =>
      cases n <;> simp only [Oper.upon] at h ⊢
      case value u => exact ⟨h.1, keep a hy u, by rw [← Act.put_comm a v u h2]; exact h.2⟩
      case skip => exact ⟨h.1, keep a hy _, by rw [← Act.put_comm a v undef h2]; exact h.2⟩
      case defer d =>
        refine ⟨h.1, keep _ (keepD d) _, ?_⟩
        rw [← Act.put_comm _ v undef h2, ← Act.put_defers]
        exact h.2
      case enter f args =>
        refine Calls.mono h fun e w'' he => ?_
        cases e with
        | returned u => exact ⟨he.1, keep a hy u, by rw [← Act.put_comm a v u h2]; exact he.2⟩
        | panicked c => exact he
        | outgrown => exact he
      case row row args => exact Rows.mono h fun u w'' he => ⟨he.1, keep a hy u, by rw [← Act.put_comm a v u h2]; exact he.2⟩
    | halt x w' => cases x <;> simp only [Oper.upon] at h ⊢
  · rename_i hw
    simp only [hw] at h
    exact ⟨keep a hy _, by rw [← Act.put_comm a v undef h2]; exact h⟩

theorem anyC_first {Q : Act → World → Prop} {i : Nat} {oi : Oper} {v : Value} (hi : ops[i]? = some oi) (hsel : ∀ (j : Nat) (o : Oper) cs b, ops[j]? = some o → o.op ≠ .select cs b) :
    ∀ (fuel : Nat) (listed : Array Bool) (a : Act) (w : World),
      (∀ j oj, ops[j]? = some oj → j ≠ i → listed.getD j true = false → (∀ e ∈ oj.after, Region.binds md e = true → e.on ≠ i) → oi.apart ops oj = true) →
      i ∈ Region.ready md ops listed → YC P ops C oi v a → C w →
      anyC P md ops C Q fuel (listed.setIfInBounds i true) (a.put oi.dst v) w → anyC P md ops C Q (fuel + 1) listed a w := by
  intro fuel
  induction fuel with
  | zero =>
    intro listed a w _ hr hy hC H
    refine ⟨fun h => (by rw [h] at hr; cases hr), fun j hj => ?_⟩
    by_cases hji : j = i
    · subst hji; exact hy.opC hi hC H
    · have := ready_mono hj hji
      rw [H.1] at this
      cases this
  | succ fuel ih =>
    intro listed a w hfree hr hy hC H
    refine ⟨fun h => (by rw [h] at hr; cases hr), fun j hj => ?_⟩
    by_cases hji : j = i
    · subst hji; exact hy.opC hi hC H
    · have h1 := H.2 j (ready_mono hj hji)
      obtain ⟨hjun, oj, hoj, hall⟩ := mem_ready.1 hj
      have hnot : ∀ e ∈ oj.after, Region.binds md e = true → e.on ≠ i := fun e he hb heq => by
        have h1 := hall e he hb
        have h0 := (mem_ready.1 hr).1
        rw [heq] at h1
        rcases Nat.lt_or_ge i listed.size with h' | h'
        · simp [h'] at h0 h1; rw [h0] at h1; cases h1
        · simp [Array.getElem?_eq_none h'] at h1
      have h2 := opC_put hoj (hfree j oj hoj hji hjun hnot) (fun cs b => hsel i oi cs b hi) (fun cs b => hsel j oj cs b hoj) hy h1
      have hfree' : ∀ k ok, ops[k]? = some ok → k ≠ i → (listed.setIfInBounds j true).getD k true = false →
          (∀ e ∈ ok.after, Region.binds md e = true → e.on ≠ i) → oi.apart ops ok = true := fun k ok hk hki hun hno => by
        refine hfree k ok hk hki ?_ hno
        by_cases hjk : j = k
        · subst hjk; exact hjun
        · rw [getD_set_ne true hjk] at hun; exact hun
      refine opC_mono hC (fun a' w' hC' h3 => ih (listed.setIfInBounds j true) a' w' hfree' (ready_mono hr (Ne.symm hji)) h3.1 hC' ?_) h2
      rw [Array.setIfInBounds_comm _ _ hji]
      exact h3.2

/-- The order that is written down: an index, and whether it is taken as one that yields in every world of the class. -/
def schedFrom (md : Region.Mode) (ops : Array Oper) : List (Nat × Bool) → Array Bool → Bool
  | [], listed => Region.ready md ops listed == []
  | (i, q) :: rest, listed => (if q then (Region.ready md ops listed).contains i && Region.free md ops listed i else Region.ready md ops listed == [i]) && schedFrom md ops rest (listed.setIfInBounds i true)
def schedB (md : Region.Mode) (ops : Array Oper) (ord : List (Nat × Bool)) : Bool := Region.noSelect ops && ord.length == ops.size && schedFrom md ops ord (Array.replicate ops.size false)

/-- The walk of that order. -/
def wpS (P : Program) (ops : Array Oper) (C : World → Prop) (Q : Act → World → Prop) : List (Nat × Bool) → Act → World → Prop
  | [], a, w => Q a w
  | (i, q) :: rest, a, w => match ops[i]? with
    | none => wpS P ops C Q rest a w
    | some o => if q then ∃ v, YC P ops C o v a ∧ wpS P ops C Q rest (a.put o.dst v) w else opC P ops C i (wpS P ops C Q rest) a w

theorem anyC_of_wpS {Q : Act → World → Prop} (hs : Region.noSelect ops = true) : ∀ (ord : List (Nat × Bool)) (listed : Array Bool) (a : Act) (w : World), schedFrom md ops ord listed = true → C w →
    wpS P ops C Q ord a w → anyC P md ops C Q ord.length listed a w
  | [], listed, a, w, hB, _, h => ⟨by simpa [schedFrom] using hB, h⟩
  | (i, q) :: rest, listed, a, w, hB, hC, h => by
    simp only [schedFrom, Bool.and_eq_true] at hB
    obtain ⟨h1, h2⟩ := hB
    cases q with
    | true =>
      simp only [if_true, Bool.and_eq_true] at h1
      have hr : i ∈ Region.ready md ops listed := by simpa using h1.1
      obtain ⟨_, o, ho, _⟩ := mem_ready.1 hr
      simp only [wpS, ho, if_true] at h
      obtain ⟨v, hy, hk⟩ := h
      exact anyC_first ho (Region.noSelect_spec hs) rest.length listed a w (Region.free_spec ho h1.2) hr hy hC (anyC_of_wpS hs rest _ _ _ h2 hC hk)
    | false =>
      have hr : Region.ready md ops listed = [i] := by simpa using h1
      have hm : i ∈ Region.ready md ops listed := by rw [hr]; simp
      obtain ⟨_, o, ho, _⟩ := mem_ready.1 hm
      simp only [wpS, ho, Bool.false_eq_true, if_false] at h
      refine ⟨fun h0 => (by rw [hr] at h0; cases h0), fun j hj => ?_⟩
      rw [hr] at hj
      obtain rfl : j = i := by simpa using hj
      exact opC_mono hC (fun a' w' hC' hk => anyC_of_wpS hs rest _ _ _ h2 hC' hk) h

theorem wp_region_sched {id : Nat} {Q : Exit → Act → World → Prop} {a : Act} {w : World} {l : List Oper} (ord : List (Nat × Bool)) (hm : P.follows .mixedOrders = true) (hB : schedB .any l.toArray ord = true) (C : World → Prop) (hC : C w.drew)
    (h : wpS P l.toArray C (fun a w => Q .normal a w) ord a w.drew) : (Code.region id l.toArray true).wp P Q a w := by
  simp only [schedB, Bool.and_eq_true, beq_iff_eq] at hB
  obtain ⟨⟨h1, h2⟩, h3⟩ := hB
  refine wp_region_any hm (any_of_anyC (C := C) _ _ _ _ ?_)
  rw [← h2]
  exact anyC_of_wpS h1 ord _ a w.drew (by rw [h2]; exact h3) hC h

/-! ### the steps -/
theorem sE {Q : Act → World → Prop} {a : Act} {w : World} (h : Q a w) : wpS P ops C Q [] a w := h
theorem sQ {l : List Oper} {Q : Act → World → Prop} {i : Nat} {o : Oper} {rest : List (Nat × Bool)} {a : Act} {w : World} (hi' : l[i]? = some o) (hw : Region.wanted o (yielded l.toArray a.tmps) = true) (v : Value)
    (hv : ∀ w', C w' → (execOp a.eval o).run P w' = .ok (.value v) w') (h : wpS P l.toArray C Q rest (a.put o.dst v) w) : wpS P l.toArray C Q ((i, true) :: rest) a w := by
  have hi : l.toArray[i]? = some o := by simpa using hi'
  simp only [wpS, hi, if_true]
  exact ⟨v, .inl ⟨hw, hv⟩, h⟩
theorem sN {l : List Oper} {Q : Act → World → Prop} {i : Nat} {o : Oper} {rest : List (Nat × Bool)} {a : Act} {w : World} (hi' : l[i]? = some o) (hw : Region.wanted o (yielded l.toArray a.tmps) = false)
    (h : wpS P l.toArray C Q rest (a.put o.dst undef) w) : wpS P l.toArray C Q ((i, true) :: rest) a w := by
  have hi : l.toArray[i]? = some o := by simpa using hi'
  simp only [wpS, hi, if_true]
  exact ⟨undef, .inr ⟨hw, rfl⟩, h⟩
theorem sL {l : List Oper} {Q : Act → World → Prop} {i : Nat} {o : Oper} {rest : List (Nat × Bool)} {a : Act} {w : World} (hi' : l[i]? = some o) (hw : Region.wanted o (yielded l.toArray a.tmps) = true)
    (h : wpList P l.toArray (SQ C (wpS P l.toArray C Q rest)) [o] a w) : wpS P l.toArray C Q ((i, false) :: rest) a w := by
  have hi : l.toArray[i]? = some o := by simpa using hi'
  simp only [wpS, hi, Bool.false_eq_true, if_false, opC, hw, if_true]
  simp only [wpList, hw, if_true] at h
  have hl : o.wp P a w (fun a w => C w ∧ wpS P l.toArray C Q rest a w) (SQ C (wpS P l.toArray C Q rest)) := by
    rcases h with h | ⟨_, _, _, hf⟩
    · exact h
    · exact hf.elim
  unfold Oper.wp at *
  generalize (execOp a.eval o).run P w = r at *
  cases r with
  | ok n w' =>
    cases n <;> simp only [Oper.upon] at hl ⊢ <;> exact hl
  | halt x w' => cases x <;> simp only [Oper.upon] at hl ⊢ <;> exact hl
theorem sM {l : List Oper} {Q : Act → World → Prop} {i : Nat} {o : Oper} {rest : List (Nat × Bool)} {a : Act} {w : World} (hi' : l[i]? = some o) (hw : Region.wanted o (yielded l.toArray a.tmps) = false)
    (h : wpS P l.toArray C Q rest (a.put o.dst undef) w) : wpS P l.toArray C Q ((i, false) :: rest) a w := by
  have hi : l.toArray[i]? = some o := by simpa using hi'
  simp only [wpS, hi, Bool.false_eq_true, if_false, opC, hw]
  exact h
/-- A quiet operation behind a guard that is not known: its slot holds V or nothing. -/
theorem sG {l : List Oper} {Q : Act → World → Prop} {i : Nat} {o : Oper} {rest : List (Nat × Bool)} {a : Act} {w : World} (b : Bool) (hi' : l[i]? = some o) (hw : Region.wanted o (yielded l.toArray a.tmps) = b) (v : Value)
    (hv : b = true → ∀ w', C w' → (execOp a.eval o).run P w' = .ok (.value v) w') (h : wpS P l.toArray C Q rest (a.put o.dst (if b then v else undef)) w) : wpS P l.toArray C Q ((i, true) :: rest) a w := by
  cases b
  · exact sN hi' hw h
  · exact sQ hi' hw v (hv rfl) h
/-- A call behind a guard that is not known. -/
theorem sGL {l : List Oper} {Q : Act → World → Prop} {i : Nat} {o : Oper} {rest : List (Nat × Bool)} {a : Act} {w : World} (b : Bool) (hi' : l[i]? = some o) (hw : Region.wanted o (yielded l.toArray a.tmps) = b) (v : Value) (hC : C w)
    (hv : b = true → wpList P l.toArray (SQ C (fun a' w' => a' = a.put o.dst v ∧ Ext w w')) [o] a w) (h : ∀ w', C w' → Ext w w' → wpS P l.toArray C Q rest (a.put o.dst (if b then v else undef)) w') : wpS P l.toArray C Q ((i, false) :: rest) a w := by
  cases b
  · exact sM hi' hw (h w hC (Ext.rfl' w))
  · refine sL hi' hw ?_
    have h1 := hv rfl
    simp only [wpList, hw, if_true] at h1 ⊢
    rcases h1 with h1 | ⟨_, _, _, h1⟩
    · refine .inl ?_
      unfold Oper.wp at *
      generalize (execOp a.eval o).run P w = r at *
      have key : ∀ (a' : Act) (w' : World), SQ C (fun a' w' => a' = a.put o.dst v ∧ Ext w w') .normal a' w' → SQ C (wpS P l.toArray C Q rest) .normal a' w' := by
        rintro a' w' ⟨hc, rfl, he⟩
        exact ⟨hc, h w' hc he⟩
      cases r with
      | ok n w' =>
        cases n <;> simp only [Oper.upon] at h1 ⊢ <;> first | exact key _ _ h1 | exact h1 | skip
        · refine Calls.mono h1 fun e w'' he => ?_
          cases e with
          | returned u => exact key _ _ he
          | panicked c => exact he.elim
          | outgrown => obtain ⟨_, _, hf⟩ := he; exact hf.elim
        · exact Rows.mono h1 fun u w'' he => key _ _ he
      | halt x w' => cases x <;> simp only [Oper.upon] at h1 ⊢ <;> exact h1
    · exact h1.elim

/-! ### two operations that may come up in either order -/
/-- A step of an order: a quiet operation, one that is loud, or two that are loud and may come up in either order. -/
inductive Stp where
  | q (i : Nat)
  | l (i : Nat)
  | p (i j : Nat)
def schedT (md : Region.Mode) (ops : Array Oper) : List Stp → Array Bool → Bool
  | [], listed => Region.ready md ops listed == []
  | .q i :: rest, listed => (Region.ready md ops listed).contains i && Region.free md ops listed i && schedT md ops rest (listed.setIfInBounds i true)
  | .l i :: rest, listed => Region.ready md ops listed == [i] && schedT md ops rest (listed.setIfInBounds i true)
  | .p i j :: rest, listed => i != j && Region.ready md ops listed == [i, j] && Region.ready md ops (listed.setIfInBounds i true) == [j] && Region.ready md ops (listed.setIfInBounds j true) == [i] &&
      schedT md ops rest ((listed.setIfInBounds i true).setIfInBounds j true)
def lenT : List Stp → Nat
  | [] => 0
  | .p _ _ :: rest => lenT rest + 2
  | _ :: rest => lenT rest + 1
def wpT (P : Program) (ops : Array Oper) (C : World → Prop) (Q : Act → World → Prop) : List Stp → Act → World → Prop
  | [], a, w => Q a w
  | .q i :: rest, a, w => match ops[i]? with
    | none => wpT P ops C Q rest a w
    | some o => ∃ v, YC P ops C o v a ∧ wpT P ops C Q rest (a.put o.dst v) w
  | .l i :: rest, a, w => opC P ops C i (wpT P ops C Q rest) a w
  | .p i j :: rest, a, w => opC P ops C i (opC P ops C j (wpT P ops C Q rest)) a w ∧ opC P ops C j (opC P ops C i (wpT P ops C Q rest)) a w
theorem anyC_of_wpT {Q : Act → World → Prop} (hs : Region.noSelect ops = true) : ∀ (ord : List Stp) (listed : Array Bool) (a : Act) (w : World), schedT md ops ord listed = true → C w →
    wpT P ops C Q ord a w → anyC P md ops C Q (lenT ord) listed a w
  | [], listed, a, w, hB, _, h => ⟨by simpa [schedT] using hB, h⟩
  | .q i :: rest, listed, a, w, hB, hC, h => by
    simp only [schedT, Bool.and_eq_true] at hB
    obtain ⟨⟨h1, h1'⟩, h2⟩ := hB
    have hr : i ∈ Region.ready md ops listed := by simpa using h1
    obtain ⟨_, o, ho, _⟩ := mem_ready.1 hr
    simp only [wpT, ho] at h
    obtain ⟨v, hy, hk⟩ := h
    exact anyC_first ho (Region.noSelect_spec hs) (lenT rest) listed a w (Region.free_spec ho h1') hr hy hC (anyC_of_wpT hs rest _ _ _ h2 hC hk)
  | .l i :: rest, listed, a, w, hB, hC, h => by
    simp only [schedT, Bool.and_eq_true, beq_iff_eq] at hB
    obtain ⟨hr, h2⟩ := hB
    refine ⟨fun h0 => (by rw [hr] at h0; cases h0), fun j hj => ?_⟩
    rw [hr] at hj
    obtain rfl : j = i := by simpa using hj
    exact opC_mono hC (fun a' w' hC' hk => anyC_of_wpT hs rest _ _ _ h2 hC' hk) h
  | .p i j :: rest, listed, a, w, hB, hC, h => by
    simp only [schedT, Bool.and_eq_true, beq_iff_eq, bne_iff_ne] at hB
    obtain ⟨⟨⟨⟨hij, hr⟩, hr1⟩, hr2⟩, h2⟩ := hB
    have h2' : schedT md ops rest ((listed.setIfInBounds j true).setIfInBounds i true) = true := by rwa [Array.setIfInBounds_comm _ _ hij] at h2
    refine ⟨fun h0 => (by rw [hr] at h0; cases h0), fun k hk => ?_⟩
    rw [hr] at hk
    rcases List.mem_cons.1 hk with rfl | hk
    · refine opC_mono hC (fun a' w' hC' hk' => ?_) h.1
      refine ⟨fun h0 => (by rw [hr1] at h0; cases h0), fun m hm => ?_⟩
      rw [hr1] at hm
      obtain rfl : m = j := by simpa using hm
      exact opC_mono hC' (fun a'' w'' hC'' hk'' => anyC_of_wpT hs rest _ _ _ h2 hC'' hk'') hk'
    · obtain rfl : k = j := by simpa using hk
      refine opC_mono hC (fun a' w' hC' hk' => ?_) h.2
      refine ⟨fun h0 => (by rw [hr2] at h0; cases h0), fun m hm => ?_⟩
      rw [hr2] at hm
      obtain rfl : m = i := by simpa using hm
      exact opC_mono hC' (fun a'' w'' hC'' hk'' => anyC_of_wpT hs rest _ _ _ h2' hC'' hk'') hk'
theorem wp_region_schedT {id : Nat} {Q : Exit → Act → World → Prop} {a : Act} {w : World} {l : List Oper} (ord : List Stp) (hm : P.follows .mixedOrders = true)
    (hB : (Region.noSelect l.toArray && lenT ord == l.toArray.size && schedT .any l.toArray ord (Array.replicate l.toArray.size false)) = true) (C : World → Prop) (hC : C w.drew)
    (h : wpT P l.toArray C (fun a w => Q .normal a w) ord a w.drew) : (Code.region id l.toArray true).wp P Q a w := by
  simp only [Bool.and_eq_true, beq_iff_eq] at hB
  obtain ⟨⟨h1, h2⟩, h3⟩ := hB
  refine wp_region_any hm (any_of_anyC (C := C) _ _ _ _ ?_)
  rw [← h2]
  exact anyC_of_wpT h1 ord _ a w.drew (by rw [h2]; exact h3) hC h

theorem opC_of_list {l : List Oper} {K : Act → World → Prop} {i : Nat} {o : Oper} {a : Act} {w : World} (hi' : l[i]? = some o) (hw : Region.wanted o (yielded l.toArray a.tmps) = true)
    (h : wpList P l.toArray (SQ C K) [o] a w) : opC P l.toArray C i K a w := by
  have hi : l.toArray[i]? = some o := by simpa using hi'
  simp only [opC, hi, hw, if_true]
  simp only [wpList, hw, if_true] at h
  have hl : o.wp P a w (fun a w => C w ∧ K a w) (SQ C K) := by
    rcases h with h | ⟨_, _, _, hf⟩
    · exact h
    · exact hf.elim
  unfold Oper.wp at *
  generalize (execOp a.eval o).run P w = r at *
  cases r with
  | ok n w' => cases n <;> simp only [Oper.upon] at hl ⊢ <;> exact hl
  | halt x w' => cases x <;> simp only [Oper.upon] at hl ⊢ <;> exact hl

theorem tE {Q : Act → World → Prop} {a : Act} {w : World} (h : Q a w) : wpT P ops C Q [] a w := h
theorem tQ {l : List Oper} {Q : Act → World → Prop} {i : Nat} {o : Oper} {rest : List Stp} {a : Act} {w : World} (hi' : l[i]? = some o) (hw : Region.wanted o (yielded l.toArray a.tmps) = true) (v : Value)
    (hv : ∀ w', C w' → (execOp a.eval o).run P w' = .ok (.value v) w') (h : wpT P l.toArray C Q rest (a.put o.dst v) w) : wpT P l.toArray C Q (.q i :: rest) a w := by
  have hi : l.toArray[i]? = some o := by simpa using hi'
  simp only [wpT, hi]
  exact ⟨v, .inl ⟨hw, hv⟩, h⟩
theorem tN {l : List Oper} {Q : Act → World → Prop} {i : Nat} {o : Oper} {rest : List Stp} {a : Act} {w : World} (hi' : l[i]? = some o) (hw : Region.wanted o (yielded l.toArray a.tmps) = false)
    (h : wpT P l.toArray C Q rest (a.put o.dst undef) w) : wpT P l.toArray C Q (.q i :: rest) a w := by
  have hi : l.toArray[i]? = some o := by simpa using hi'
  simp only [wpT, hi]
  exact ⟨undef, .inr ⟨hw, rfl⟩, h⟩
theorem tL {l : List Oper} {Q : Act → World → Prop} {i : Nat} {o : Oper} {rest : List Stp} {a : Act} {w : World} (hi' : l[i]? = some o) (hw : Region.wanted o (yielded l.toArray a.tmps) = true)
    (h : wpList P l.toArray (SQ C (wpT P l.toArray C Q rest)) [o] a w) : wpT P l.toArray C Q (.l i :: rest) a w := opC_of_list hi' hw h
theorem tM {l : List Oper} {Q : Act → World → Prop} {i : Nat} {o : Oper} {rest : List Stp} {a : Act} {w : World} (hi' : l[i]? = some o) (hw : Region.wanted o (yielded l.toArray a.tmps) = false)
    (h : wpT P l.toArray C Q rest (a.put o.dst undef) w) : wpT P l.toArray C Q (.l i :: rest) a w := by
  have hi : l.toArray[i]? = some o := by simpa using hi'
  simp only [wpT, opC, hi, hw]
  exact h
theorem tG {l : List Oper} {Q : Act → World → Prop} {i : Nat} {o : Oper} {rest : List Stp} {a : Act} {w : World} (b : Bool) (hi' : l[i]? = some o) (hw : Region.wanted o (yielded l.toArray a.tmps) = b) (v : Value)
    (hv : b = true → ∀ w', C w' → (execOp a.eval o).run P w' = .ok (.value v) w') (h : wpT P l.toArray C Q rest (a.put o.dst (if b then v else undef)) w) : wpT P l.toArray C Q (.q i :: rest) a w := by
  cases b
  · exact tN hi' hw h
  · exact tQ hi' hw v (hv rfl) h
theorem tGL {l : List Oper} {Q : Act → World → Prop} {i : Nat} {o : Oper} {rest : List Stp} {a : Act} {w : World} (b : Bool) (hi' : l[i]? = some o) (hw : Region.wanted o (yielded l.toArray a.tmps) = b) (v : Value) (hC : C w)
    (hv : b = true → ∀ K : Act → World → Prop, (∀ w', C w' → Ext w w' → K (a.put o.dst v) w') → wpList P l.toArray (SQ C K) [o] a w) (h : ∀ w', C w' → Ext w w' → wpT P l.toArray C Q rest (a.put o.dst (if b then v else undef)) w') : wpT P l.toArray C Q (.l i :: rest) a w := by
  cases b
  · exact tM hi' hw (h w hC (Ext.rfl' w))
  · exact tL hi' hw (hv rfl _ h)
/-- Two loud operations, in either order: what each leaves holds in whatever world is left. -/
theorem tP {l : List Oper} {Q : Act → World → Prop} {i j : Nat} {oi oj : Oper} {rest : List Stp} {a : Act} {w : World} (hi' : l[i]? = some oi) (hj' : l[j]? = some oj) (Ri Rj : Value → World → Prop)
    (hRi : ∀ v w w', Ri v w → Ext w w' → Ri v w') (hRj : ∀ v w w', Rj v w → Ext w w' → Rj v w') (hne : ∀ v u, (a.put oj.dst u).put oi.dst v = (a.put oi.dst v).put oj.dst u) (hC : C w)
    (Hi : ∀ a', (a' = a ∨ ∃ u, a' = a.put oj.dst u) → Region.wanted oi (yielded l.toArray a'.tmps) = true ∧ ∀ (K : Act → World → Prop) (w1 : World), C w1 → Ext w w1 → (∀ v w2, C w2 → Ext w1 w2 → Ri v w2 → K (a'.put oi.dst v) w2) → wpList P l.toArray (SQ C K) [oi] a' w1)
    (Hj : ∀ a', (a' = a ∨ ∃ u, a' = a.put oi.dst u) → Region.wanted oj (yielded l.toArray a'.tmps) = true ∧ ∀ (K : Act → World → Prop) (w1 : World), C w1 → Ext w w1 → (∀ v w2, C w2 → Ext w1 w2 → Rj v w2 → K (a'.put oj.dst v) w2) → wpList P l.toArray (SQ C K) [oj] a' w1)
    (h : ∀ v u w', C w' → Ext w w' → Ri v w' → Rj u w' → wpT P l.toArray C Q rest ((a.put oi.dst v).put oj.dst u) w') : wpT P l.toArray C Q (.p i j :: rest) a w := by
  refine ⟨?_, ?_⟩
  · refine opC_of_list hi' (Hi a (.inl rfl)).1 ((Hi a (.inl rfl)).2 _ w hC (Ext.rfl' w) fun v w1 hC1 he1 hv => ?_)
    have hh := Hj (a.put oi.dst v) (.inr ⟨v, rfl⟩)
    exact opC_of_list hj' hh.1 (hh.2 _ w1 hC1 he1 fun u w2 hC2 he2 hu => h v u w2 hC2 (he1.tr he2) (hRi _ _ _ hv he2) hu)
  · refine opC_of_list hj' (Hj a (.inl rfl)).1 ((Hj a (.inl rfl)).2 _ w hC (Ext.rfl' w) fun u w1 hC1 he1 hu => ?_)
    have hh := Hi (a.put oj.dst u) (.inr ⟨u, rfl⟩)
    exact opC_of_list hi' hh.1 (hh.2 _ w1 hC1 he1 fun v w2 hC2 he2 hv => by rw [hne]; exact h v u w2 hC2 (he1.tr he2) hv (hRj _ _ _ hu he2))
end
end Go.Proofs.Ytcjbageaiafbmaa
